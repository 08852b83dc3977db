-- written by a program of this session
import Derived.Test.YtppoahccmcnenaaPDx0
import Derived.Test.YtppoahccmcnenaaPDx1
import Derived.Test.YtppoahccmcnenaaPDx2
import Derived.Test.YtppoahccmcnenaaPDx3
namespace Go.Proofs.Ytppoahccmcnenaa.PD
open Go.RowKit Go.Proofs.Ytppoahccmcnenaa.Op Go.Proofs.YtppoahccmcnenaaW.PrintWords Go.Proofs.YtppoahccmcnenaaW.PrintLast Go.Proofs.YtppoahccmcnenaaW.PrintMore
attribute [local go_sem] max2_int min2_int max_two min_two max_three min_three max_four min_four   -- for this text's walks alone
set_option linter.unusedVariables false
set_option linter.unusedSimpArgs false

/-! ### splicelaw10_BagOrder: function 6 (by hand) -/
theorem send_ok (s : Bg) (f t : Int) (x : ByteArray) (hf : Adr f) (ht : Adr t) (hx : (x.size : Int) ≤ 65536) (hl : s.l.length < 400) : sendB s f t x = (addB s ⟨0, f, t, x⟩, s.last + 1, 0) := by
  unfold sendB
  rw [if_pos (by rw [(adr_iff f).2 hf, (adr_iff t).2 ht]; rfl), if_pos hx]
  unfold addF
  rw [if_pos hl]
def ordB (ts : List ByteArray) : Bg := ⟨ts.mapIdx (fun (j : Nat) t => (⟨(j : Int) + 1, 1, 2, t⟩ : Ml)), ts.length, []⟩
theorem ordB_len (ts : List ByteArray) : (ordB ts).l.length = ts.length := by simp [ordB]
theorem ordB_send (ts : List ByteArray) (x : ByteArray) (hl : ts.length < 400) (hx : (x.size : Int) ≤ 65536) : sendB (ordB ts) 1 2 x = (ordB (ts ++ [x]), (ts.length : Int) + 1, 0) := by
  rw [send_ok _ 1 2 x ⟨by decide, by decide⟩ ⟨by decide, by decide⟩ hx (by rw [ordB_len]; exact hl)]
  simp [addB, ordB, List.mapIdx_append]
theorem ordB_get (ts : List ByteArray) (j : Nat) (t : ByteArray) (h : ts[j]? = some t) : (ordB ts).l[j]? = some ⟨(j : Int) + 1, 1, 2, t⟩ := by
  unfold ordB
  rw [List.getElem?_mapIdx, h]; rfl
theorem ordB_asc (ts : List ByteArray) : (ordB ts).l.Pairwise (fun a b => a.id < b.id) := by
  rw [List.pairwise_iff_getElem]
  intro i j hi hj hij
  simp only [ordB, List.getElem_mapIdx]
  omega
theorem take_mid {a b : List Ml} {m : Ml} {L : Int} (h : (a ++ m :: b).Pairwise (fun a b => a.id < b.id)) : takeB ⟨a ++ m :: b, L, []⟩ m.id = (⟨a ++ b, L, []⟩, m, 0) := by
  unfold takeB
  rw [show findM (⟨a ++ m :: b, L, []⟩ : Bg).l m.id = some m from findM_of_mem h (by simp)]
  have hd : dropM (a ++ m :: b) m.id = a ++ b := by
    unfold dropM
    rw [List.pairwise_append] at h
    obtain ⟨h1, h2, h3⟩ := h
    rw [List.pairwise_cons] at h2
    rw [List.filter_append, List.filter_cons, if_neg (by simp), List.filter_eq_self.2, List.filter_eq_self.2]
    · intro x hx
      have := h2.1 x hx
      simp; omega
    · intro x hx
      have := h3 x hx m (by simp)
      simp; omega
  dsimp only
  rw [if_neg (by simp), hd]
def restB (ts : List ByteArray) (last : Bool) (k : Nat) : Bg := ⟨if last = true then (ordB ts).l.take (ts.length - k) else (ordB ts).l.drop k, ts.length, []⟩
theorem restB_zero (ts : List ByteArray) (last : Bool) : restB ts last 0 = ordB ts := by
  have : (ordB ts).l.take (ts.length - 0) = (ordB ts).l := by rw [Nat.sub_zero, ← ordB_len ts, List.take_length]
  cases last
  · rfl
  · unfold restB; rw [if_pos rfl, this]; rfl
def ordId (ts : List ByteArray) (last : Bool) (k : Nat) : Nat := if last = true then ts.length - k else k + 1
theorem restB_take (ts : List ByteArray) (last : Bool) (k : Nat) (hk : k < ts.length) : ∃ t, ts[ordId ts last k - 1]? = some t ∧ takeB (restB ts last k) (ordId ts last k : Nat) = (restB ts last (k + 1), ⟨(ordId ts last k : Nat), 1, 2, t⟩, 0) := by
  cases last
  · refine ⟨ts[k], by simp [ordId], ?_⟩
    have hg := ordB_get ts k ts[k] (List.getElem?_eq_getElem hk)
    obtain ⟨hl, he⟩ := List.getElem?_eq_some_iff.1 hg
    have e : (restB ts false k).l = [] ++ (⟨(k : Int) + 1, 1, 2, ts[k]⟩ : Ml) :: (ordB ts).l.drop (k + 1) := by
      show (ordB ts).l.drop k = _
      rw [List.drop_eq_getElem_cons hl, he]; rfl
    have hp : (restB ts false k).l.Pairwise (fun a b => a.id < b.id) := (ordB_asc ts).sublist (List.drop_sublist _ _)
    rw [e] at hp
    have h := take_mid (L := ts.length) hp
    have e2 : (restB ts false k) = ⟨[] ++ (⟨(k : Int) + 1, 1, 2, ts[k]⟩ : Ml) :: (ordB ts).l.drop (k + 1), ts.length, []⟩ := by
      rw [← e]; rfl
    rw [e2]
    exact h
  · refine ⟨ts[ts.length - k - 1], by simp [ordId], ?_⟩
    have hlt : ts.length - k - 1 < ts.length := by omega
    have hg := ordB_get ts (ts.length - k - 1) ts[ts.length - k - 1] (List.getElem?_eq_getElem hlt)
    obtain ⟨hl, he⟩ := List.getElem?_eq_some_iff.1 hg
    have hid : (((ts.length - k - 1 : Nat) : Int) + 1) = ((ts.length - k : Nat) : Int) := by omega
    rw [hid] at he
    have e : (restB ts true k).l = (ordB ts).l.take (ts.length - k - 1) ++ (⟨((ts.length - k : Nat) : Int), 1, 2, ts[ts.length - k - 1]⟩ : Ml) :: [] := by
      show (ordB ts).l.take (ts.length - k) = _
      have h9 := List.take_succ_eq_append_getElem hl
      rw [he, show ts.length - k - 1 + 1 = ts.length - k by omega] at h9
      exact h9
    have hp : (restB ts true k).l.Pairwise (fun a b => a.id < b.id) := (ordB_asc ts).sublist (List.take_sublist _ _)
    rw [e] at hp
    have h := take_mid (L := ts.length) hp
    have e2 : (restB ts true k) = ⟨(ordB ts).l.take (ts.length - k - 1) ++ (⟨((ts.length - k : Nat) : Int), 1, 2, ts[ts.length - k - 1]⟩ : Ml) :: [], ts.length, []⟩ := by
      rw [← e]; rfl
    rw [e2]
    rw [List.append_nil] at h
    have e3 : restB ts true (k + 1) = ⟨(ordB ts).l.take (ts.length - k - 1), ts.length, []⟩ := by
      unfold restB; rw [if_pos rfl, Nat.sub_sub]
    rw [e3]
    exact h
theorem restB_len (ts : List ByteArray) (last : Bool) (k : Nat) : (idsL (restB ts last k).l).length = ts.length - k := by
  unfold idsL restB
  rw [List.length_map]
  cases last
  · simp [ordB_len]
  · simp [ordB_len]
theorem str_at {w W : World} {A : Option Addr} {l : List ByteArray} (h : Kd.string.C w A l.length l) (hb : Below w.heap.size w W) (k : Nat) (hk : k < l.length) : ∃ ad x, A = some ad ∧ l[k]? = some x ∧ W.cell? (ad.add k) = some (.string x) := by
  obtain ⟨ad, e, hc⟩ := Kd.at_string h (k : Int) (by omega) (by omega)
  rw [Int.toNat_natCast] at hc
  refine ⟨ad, l[k], e, List.getElem?_eq_getElem hk, ?_⟩
  have e2 : rdOf ByteArray.empty l (k : Int) = l[k] := by
    unfold rdOf
    rw [Int.toNat_natCast, List.getD_eq_getElem?_getD, List.getElem?_eq_getElem hk]; rfl
  rw [e2] at hc
  exact cell_below hb hc
def bagOrder22.T : Bool × List (List Nat × List Nat) := (true, [([], []), ([0], [0]), ([1], [1]), ([2], [2]), ([3, 2], [2, 3]), ([2], [2]), ([2], [2]), ([5, 6, 2], [2, 5, 6]), ([7, 2], [2, 7]), ([4, 8, 2], [2, 4, 8]), ([2, 9], [2, 9]), ([10, 2], [10]), ([11], [11]), ([12, 11], [11, 12]), ([13, 11], [11, 13]), ([11, 14], [11, 14]), ([15, 11], [15]), ([16], [16]), ([17, 16], [16, 17]), ([18, 16], [16, 18]), ([16, 19], [16, 19]), ([20, 16], [20]), ([21], [21]), ([22, 21, 21], [21, 22]), ([23, 21], [21, 23]), ([21], [21]), ([21], [21]), ([25, 26, 21], [21, 25, 26]), ([24, 27, 21], [21, 24, 27]), ([21, 28], [21, 28])])
def bagOrder22.B : List Nat := [0, 1, 3, 7, 15, 7, 7, 103, 231, 511, 1023, 2047, 4095, 8191, 16383, 32767, 65535, 131071, 262143, 524287, 1048575, 2097151, 4194303, 8388607, 16777215, 4194303, 4194303, 104857599, 268435455, 536870911]
theorem bagOrder22.tab : rtab .any (opsOf Try.f6 22) = bagOrder22.T := by kernel_rfl
theorem bagOrder22.bits : waitsOk bagOrder22.T.2 bagOrder22.B = true := by kernel_rfl
def splicelaw10_BagOrder.f (l0 : List ByteArray) (a1 : Bool) : Option Bool := some true
set_option maxHeartbeats 8000000 in
set_option maxRecDepth 100000 in
theorem splicelaw10_BagOrder.calls (A0 : Option Addr) (c0 : Nat) (l0 : List ByteArray) (a1 : Bool) (r : Bool) (w : World) (hr0 : Kd.string.C w A0 l0.length l0) (hc0 : l0.length ≤ c0) (h : splicelaw10_BagOrder.f l0 a1 = some r) (hr_ : r = true) :
    Calls Try.prog 6 #[.slice A0 l0.length c0, .bool a1] w fun e w' => e = .returned (.bool r) ∧ Below w.heap.size w w' := by
  subst hr_
  have HR0 := Aside0.mk hr0
  have hmax := hr0.2.1
  clear h hr0 hc0
  have HN := Aside0.mk (bag_new (Below.refl w.heap.size w))
  go_enter Try.func6, Try.ntmps6
  go_upto_region 2 with (go_at_call 9; refine HN.out.mono ?_; rintro e w1 ⟨rfl, hs, hb⟩; have HS := Aside0.mk hs; clear hs hb)
  clear HN
  generalize w.heap.size + 1 + 1 = g at HS ⊢
  generalize w.heap.size + 1 = cb at HS
  generalize hrb : w.heap.size = mb at HS
  clear hrb
  go_upto_region 5 with (go_at_call 10; refine (awake10 _).mono ?_; rintro e w2 ⟨rfl, hb⟩; replace HS := Aside0.mk (HS.out.below hb); clear hb)
  have HO : Aside0 (OnW w (w2.alloc (.cells #[.string ⟨#[]⟩] 9)) g mb cb 0 (ordB []) (.slice (some ⟨w2.heap.size, 0, none⟩) 1 1) (.slice none 0 0) [⟨#[]⟩] []) := ⟨onw_lit HS.out ⟨#[]⟩⟩
  clear HS
  go_upto_region 6 with (fail)
  generalize w2.alloc (.cells #[.string ⟨#[]⟩] 9) = w3 at HO ⊢
  generalize w2.heap.size = b3 at HO ⊢
  go_upto_block 0 with (fail)
  go_cut [6, 7, 8, 9, 10] (fun v6 v7 v8 v9 v10 wr => ∃ (ts : List ByteArray) (vs : Value), ts.length ≤ 50 ∧ v6 = .int .i64 ts.length ∧ v7 = vs ∧ Aside0 (OnW w wr g mb cb (2 * ts.length) (ordB ts) vs (.slice none 0 0) (⟨#[]⟩ :: ts) []))
  case first =>
   go_wp2
   go_loopw [6, 7, 8, 9, 10] (fun v6 v7 v8 v9 v10 wr => ∃ (k : Nat) (ts : List ByteArray) (vs : Value), k ≤ l0.length ∧ ts.length ≤ 50 ∧ v6 = .int .i64 ts.length ∧ v7 = vs ∧ v8 = .int .i64 k ∧ Aside0 (OnW w wr g mb cb (2 * ts.length) (ordB ts) vs (.slice none 0 0) (⟨#[]⟩ :: ts) [])) (fun v6 v7 v8 v9 v10 _ => l0.length - (intOf v8).toNat)
   case atStart => exact ⟨0, [], _, by omega, by decide, rfl, rfl, rfl, HO⟩
   case round =>
    clear HO
    obtain ⟨k, ts, vs, hk, hts, rfl, e7, rfl, HO⟩ := hrel
    obtain ⟨A7, c7, e8⟩ := row_slice HO.out.sd
    subst e7
    subst e8
    by_cases hlt : k < l0.length ∧ ts.length < 50
    · have q0 : decide (k < l0.length) = true := decide_eq_true hlt.1
      have q1 : decide ((ts.length : Int) < 50) = true := decide_eq_true (by omega)
      have hwk : IntKind.i64.wrap ((k : Int) + 1) = (k : Int) + 1 := IntWalk.i64_in _ (by omega)
      have hwn : IntKind.i64.wrap ((ts.length : Int) + 1) = (ts.length : Int) + 1 := IntWalk.i64_in _ (by omega)
      obtain ⟨ad, x, rfl, hx, xw⟩ := str_at HR0.out (Below.refl _ _) k hlt.1
      have HXw := Aside0.mk xw
      have x0 := cell_below HO.out.hs.bel xw
      clear xw
      have hkl := hlt.1
      have htl := hlt.2
      clear hlt hx
      by_cases hs : (x.size : Int) ≤ 300
      · have q2 : decide ((x.size : Int) ≤ 300) = true := decide_eq_true hs
        have HC := Aside0.mk (bag_send' HO.out.hs (by omega) 1 2 x (ordB_send ts x (by omega) (by omega)))
        clear hs
        go_upto_region 14 with (go_at_call 11; refine HC.out.mono ?_; rintro e w4 ⟨rfl, hs, hb⟩; replace HO := Aside0.mk (HO.out.bag hs hb); clear hs hb)
        clear x0 HC
        have x0 := cell_below HO.out.hs.bel HXw.out
        go_wp2_with (at_builtin; refine print_append_of encS w.heap.size rfl (.tmp 58) (.tmp 63) 26 9 _ 16 rfl Try.underlying26 info9 rfl (by decide) _ (⟨#[]⟩ :: ts) x rfl rfl rfl HO.out.sd HO.out.hs.bel HO.out.hs.bel.size (by simp only [List.length_cons]; omega) ?_; intro v1 w5 ho hb hg hn; replace HO := Aside0.mk (HO.out.said x ho hb hg hn); clear ho hb hg hn x0)
        exact ⟨⟨k + 1, ts ++ [x], _, by omega, by simp; omega, by simp, rfl, by go_num, ⟨HO.out.more (by simp; omega)⟩⟩, by simp [intOf]; omega⟩
      · have q2 : decide ((x.size : Int) ≤ 300) = false := decide_eq_false hs
        clear hs
        go_wp2
        exact ⟨⟨k + 1, ts, _, by omega, by omega, rfl, rfl, by go_num, HO⟩, by simp [intOf]; omega⟩
    · have hex : decide (k < l0.length) = false ∨ (decide (k < l0.length) = true ∧ decide ((ts.length : Int) < 50) = false) := by
        by_cases a : k < l0.length
        · exact Or.inr ⟨decide_eq_true a, decide_eq_false (by omega)⟩
        · exact Or.inl (decide_eq_false a)
      clear hlt
      rcases hex with q0 | ⟨q0, q1⟩
      all_goals
        go_wp2
        go_meet
        exact ⟨ts, _, hts, rfl, rfl, HO⟩
  case rest =>
   clear HO
   obtain ⟨ts, vs, hts, rfl, e7, HO⟩ := hcut
   obtain ⟨bs, cs, e8, _⟩ := row_at (enc := encS) HO.out.sd (by simp)
   subst e7
   subst e8
   have HO2 : Aside0 (OnW w wc g mb cb (2 * ts.length) (restB ts a1 0) (.slice (some ⟨bs, 0, none⟩) (⟨#[]⟩ :: ts : List ByteArray).length cs) (.slice none 0 0) (⟨#[]⟩ :: ts) []) := ⟨by rw [restB_zero]; exact HO.out⟩
   clear HO
   go_wp2
   go_loopg [11, 12, 13, 14] ts.length (fun gg v11 v12 v13 v14 wr => ∃ k : Nat, k ≤ ts.length ∧ ts.length - k ≤ gg ∧ v11 = .int .i64 ((k : Int) + 1) ∧ Aside0 (OnW w wr g mb cb (2 * ts.length) (restB ts a1 k) (.slice (some ⟨bs, 0, none⟩) (⟨#[]⟩ :: ts : List ByteArray).length cs) (.slice none 0 0) (⟨#[]⟩ :: ts) []))
   case atStart => exact ⟨0, Nat.zero_le _, by omega, rfl, HO2⟩
   case round =>
    clear HO2
    obtain ⟨k, hk, hg, rfl, HS⟩ := hrel
    by_cases hlt : k < ts.length
    · have q0 : decide ((k : Int) + 1 ≤ (ts.length : Int)) = true := decide_eq_true (by omega)
      have hwk : IntKind.i64.wrap ((k : Int) + 1 + 1) = (k : Int) + 1 + 1 := IntWalk.i64_in _ (by omega)
      have hwn : IntKind.i64.wrap ((ts.length : Int) + 1) = (ts.length : Int) + 1 := IntWalk.i64_in _ (by omega)
      obtain ⟨t, ht, htk⟩ := restB_take ts a1 k hlt
      have hj0 : 1 ≤ ordId ts a1 k ∧ ordId ts a1 k ≤ ts.length := by unfold ordId; split <;> omega
      obtain ⟨j, hj⟩ : ∃ j, j = ordId ts a1 k := ⟨_, rfl⟩
      rw [← hj] at ht htk hj0
      have HJ := Aside0.mk hj
      have HT := Aside0.mk ht
      have HTk := Aside0.mk htk
      clear hj ht htk
      go_upto_if 71 with (fail)
      go_cut [12] (fun v12 wr => v12 = .int .i64 (j : Int) ∧ Aside0 (OnW w wr g mb cb (2 * ts.length) (restB ts a1 k) (.slice (some ⟨bs, 0, none⟩) (⟨#[]⟩ :: ts : List ByteArray).length cs) (.slice none 0 0) (⟨#[]⟩ :: ts) []))
      case first =>
        cases a1
        · go_wp2
          go_meet
          exact ⟨by rw [HJ.out]; simp [ordId], HS⟩
        · have hws : IntKind.i64.wrap ((ts.length : Int) + 1 - ((k : Int) + 1)) = (ts.length : Int) + 1 - ((k : Int) + 1) := IntWalk.i64_in _ (by omega)
          go_wp2
          go_meet
          exact ⟨by rw [HJ.out]; simp only [ordId, if_pos]; congr 1; omega, HS⟩
      case rest =>
        clear HS
        obtain ⟨rfl, HS⟩ := hcut
        have HC := Aside0.mk (bag_take' HS.out.hs (j : Int) (wf_of (by omega)) HTk.out)
        go_upto_region 22 with (go_at_call 12; refine HC.out.mono ?_; rintro e w5 ⟨rfl, hs, hk2⟩; replace HS := Aside0.mk (HS.out.bag hs hk2); clear hs hk2)
        clear HC
        have HX := Aside0.mk (blk_below (blk_new w5 (.cells #[.int .i64 (j : Int), .int .i64 1, .int .i64 2, .string t] 34)) (below_drew1 (Below.refl _ _)))
        replace HS := Aside0.mk ((HS.out.below (below_alloc (Below.refl _ _) (.cells #[.int .i64 (j : Int), .int .i64 1, .int .i64 2, .string t] 34))).below (below_drew1 (Below.refl _ _)))
        generalize w5.alloc (.cells #[.int .i64 (j : Int), .int .i64 1, .int .i64 2, .string t] 34) = w7 at HS HX ⊢
        generalize w5.heap.size = g13 at HX ⊢
        have y1 : World.cell? _ ⟨g13, 1, none⟩ = some (.int .i64 1) := (blk_cell HX.out 1).trans rfl
        have y2 : World.cell? _ ⟨g13, 2, none⟩ = some (.int .i64 2) := (blk_cell HX.out 2).trans rfl
        have y3 : World.cell? _ ⟨g13, 3, none⟩ = some (.string t) := (blk_cell HX.out 3).trans rfl
        have z0 : World.cell? _ ⟨bs, j, none⟩ = some (.string t) := row_cell HS.out.sd j t (by rw [show j = (j - 1) + 1 by omega, List.getElem?_cons_succ]; exact HT.out)
        have hjl : (j : Int) < (ts.length : Int) + 1 := by omega
        have hj9 : 0 ≤ (j : Int) := by omega
        have hws2 : IntKind.i64.wrap ((ts.length : Int) - ((k : Int) + 1)) = ((ts.length - (k + 1) : Nat) : Int) := by
          rw [IntWalk.i64_in _ (by omega)]; omega
        refine start_ (n := 30) (S := fun w' => w'.cell? ⟨g13, 1, none⟩ = some (.int .i64 1) ∧ w'.cell? ⟨g13, 2, none⟩ = some (.int .i64 2) ∧ w'.cell? ⟨g13, 3, none⟩ = some (.string t) ∧ w'.cell? ⟨bs, j, none⟩ = some (.string t)) (ds := []) (bAg 30 0) (by kernel_rfl) rfl rfl ⟨y1, y2, y3, z0⟩ (fun hHeld => ?_); refine with_tabW bagOrder22.tab bagOrder22.bits (fun HT_ HW_ => ?_)
        refine pure_ (i := 0) (N := some 82) (v := ?_) (a' := ?_) (bAg 30 1) rfl rfl (any_of HT_.out (by kernel_rfl)) (fun _ _ _ h => h) (Or.inl ⟨by rfl, ?_⟩) ?_ ?_
        rotate_left
        · intro w'
          go_simp
          with_reducible rfl
        rotate_left
        · simp only [Act.put, sg1, sg2, sg3, i64_w, i32_w]
          rfl
        refine pure_ (i := 1) (N := some 83) (v := ?_) (a' := ?_) (bAg 30 3) rfl rfl (any_of HT_.out (by kernel_rfl)) (fun _ _ _ h => h) (Or.inl ⟨by rfl, ?_⟩) ?_ ?_
        rotate_left
        · intro w'
          go_simp
          with_reducible rfl
        rotate_left
        · simp only [Act.put, sg1, sg2, sg3, i64_w, i32_w]
          rfl
        refine pure_ (i := 2) (N := some 84) (v := ?_) (a' := ?_) (bAg 30 7) rfl rfl (any_of HT_.out (by kernel_rfl)) (fun _ _ _ h => h) (Or.inl ⟨by rfl, ?_⟩) ?_ ?_
        rotate_left
        · intro w'
          go_simp
          with_reducible rfl
        rotate_left
        · simp only [Act.put, sg1, sg2, sg3, i64_w, i32_w]
          rfl
        refine pure_ (i := 3) (N := some 85) (v := ?_) (a' := ?_) (bAg 30 15) rfl rfl (any_of HT_.out (by kernel_rfl)) (fun _ _ _ h => h) (Or.inl ⟨by rfl, ?_⟩) ?_ ?_
        rotate_left
        · intro w'
          go_simp
          with_reducible rfl
        rotate_left
        · simp only [Act.put, sg1, sg2, sg3, i64_w, i32_w]
          rfl
        refine take_ (i := 4) (N := some 86) (v := ?_) (a' := ?_) (bAg 30 31) rfl rfl (take_ofW HT_.out HW_.out (by kernel_rfl)) (fun _ _ _ h => h) (Or.inl ⟨by rfl, ?_⟩) hHeld ?_ ?_
        rotate_left
        · rintro w' ⟨s0, s1, s2, s3⟩
          go_simp
          with_reducible rfl
        rotate_left
        · simp only [Act.put, sg1, sg2, sg3, i64_w, i32_w]
          rfl
        refine pure_ (i := 5) (N := some 87) (v := ?_) (a' := ?_) (bAg 30 63) rfl rfl (any_of HT_.out (by kernel_rfl)) (fun _ _ _ h => h) (Or.inl ⟨by rfl, ?_⟩) ?_ ?_
        rotate_left
        · intro w'
          go_simp
          with_reducible rfl
        rotate_left
        · simp only [Act.put, sg1, sg2, sg3, i64_w, i32_w]
          rfl
        refine pure_ (i := 6) (N := some 88) (v := ?_) (a' := ?_) (bAg 30 127) rfl rfl (any_of HT_.out (by kernel_rfl)) (fun _ _ _ h => h) (Or.inl ⟨by rfl, ?_⟩) ?_ ?_
        rotate_left
        · intro w'
          go_simp
          with_reducible rfl
        rotate_left
        · simp only [Act.put, sg1, sg2, sg3, i64_w, i32_w]
          rfl
        refine pure_ (i := 7) (N := some 89) (v := ?_) (a' := ?_) (bAg 30 255) rfl rfl (any_of HT_.out (by kernel_rfl)) (fun _ _ _ h => h) (Or.inl ⟨by rfl, ?_⟩) ?_ ?_
        rotate_left
        · intro w'
          go_simp
          with_reducible rfl
        rotate_left
        · simp only [Act.put, sg1, sg2, sg3, i64_w, i32_w]
          rfl
        refine take_ (i := 8) (N := some 90) (v := ?_) (a' := ?_) (bAg 30 511) rfl rfl (take_ofW HT_.out HW_.out (by kernel_rfl)) (fun _ _ _ h => h) (Or.inl ⟨by rfl, ?_⟩) hHeld ?_ ?_
        rotate_left
        · rintro w' ⟨s0, s1, s2, s3⟩
          go_simp
          with_reducible rfl
        rotate_left
        · simp only [Act.put, sg1, sg2, sg3, i64_w, i32_w]
          rfl
        refine pure_ (i := 9) (N := some 91) (v := ?_) (a' := ?_) (bAg 30 1023) rfl rfl (any_of HT_.out (by kernel_rfl)) (fun _ _ _ h => h) (Or.inl ⟨by rfl, ?_⟩) ?_ ?_
        rotate_left
        · intro w'
          go_simp
          with_reducible rfl
        rotate_left
        · simp only [Act.put, sg1, sg2, sg3, i64_w, i32_w]
          rfl
        refine pure_ (i := 10) (N := some 92) (v := ?_) (a' := ?_) (bAg 30 2047) rfl rfl (any_of HT_.out (by kernel_rfl)) (fun _ _ _ h => h) (Or.inl ⟨by rfl, ?_⟩) ?_ ?_
        rotate_left
        · intro w'
          go_simp
          with_reducible rfl
        rotate_left
        · simp only [Act.put, sg1, sg2, sg3, i64_w, i32_w]
          rfl
        refine pure_ (i := 11) (N := some 93) (v := ?_) (a' := ?_) (bAg 30 4095) rfl rfl (any_of HT_.out (by kernel_rfl)) (fun _ _ _ h => h) (Or.inl ⟨by rfl, ?_⟩) ?_ ?_
        rotate_left
        · intro w'
          go_simp
          with_reducible rfl
        rotate_left
        · simp only [Act.put, sg1, sg2, sg3, i64_w, i32_w]
          rfl
        refine pure_ (i := 12) (N := some 94) (v := ?_) (a' := ?_) (bAg 30 8191) rfl rfl (any_of HT_.out (by kernel_rfl)) (fun _ _ _ h => h) (Or.inl ⟨by rfl, ?_⟩) ?_ ?_
        rotate_left
        · intro w'
          go_simp
          with_reducible rfl
        rotate_left
        · simp only [Act.put, sg1, sg2, sg3, i64_w, i32_w]
          rfl
        refine take_ (i := 13) (N := some 95) (v := ?_) (a' := ?_) (bAg 30 16383) rfl rfl (take_ofW HT_.out HW_.out (by kernel_rfl)) (fun _ _ _ h => h) (Or.inl ⟨by rfl, ?_⟩) hHeld ?_ ?_
        rotate_left
        · rintro w' ⟨s0, s1, s2, s3⟩
          go_simp
          with_reducible rfl
        rotate_left
        · simp only [Act.put, sg1, sg2, sg3, i64_w, i32_w]
          rfl
        refine pure_ (i := 14) (N := some 96) (v := ?_) (a' := ?_) (bAg 30 32767) rfl rfl (any_of HT_.out (by kernel_rfl)) (fun _ _ _ h => h) (Or.inl ⟨by rfl, ?_⟩) ?_ ?_
        rotate_left
        · intro w'
          go_simp
          with_reducible rfl
        rotate_left
        · simp only [Act.put, sg1, sg2, sg3, i64_w, i32_w]
          rfl
        refine pure_ (i := 15) (N := some 97) (v := ?_) (a' := ?_) (bAg 30 65535) rfl rfl (any_of HT_.out (by kernel_rfl)) (fun _ _ _ h => h) (Or.inl ⟨by rfl, ?_⟩) ?_ ?_
        rotate_left
        · intro w'
          go_simp
          with_reducible rfl
        rotate_left
        · simp only [Act.put, sg1, sg2, sg3, i64_w, i32_w]
          rfl
        refine pure_ (i := 16) (N := some 98) (v := ?_) (a' := ?_) (bAg 30 131071) rfl rfl (any_of HT_.out (by kernel_rfl)) (fun _ _ _ h => h) (Or.inl ⟨by rfl, ?_⟩) ?_ ?_
        rotate_left
        · intro w'
          go_simp
          with_reducible rfl
        rotate_left
        · simp only [Act.put, sg1, sg2, sg3, i64_w, i32_w]
          rfl
        refine pure_ (i := 17) (N := some 99) (v := ?_) (a' := ?_) (bAg 30 262143) rfl rfl (any_of HT_.out (by kernel_rfl)) (fun _ _ _ h => h) (Or.inl ⟨by rfl, ?_⟩) ?_ ?_
        rotate_left
        · intro w'
          go_simp
          with_reducible rfl
        rotate_left
        · simp only [Act.put, sg1, sg2, sg3, i64_w, i32_w]
          rfl
        refine take_ (i := 18) (N := some 100) (v := ?_) (a' := ?_) (bAg 30 524287) rfl rfl (take_ofW HT_.out HW_.out (by kernel_rfl)) (fun _ _ _ h => h) (Or.inl ⟨by rfl, ?_⟩) hHeld ?_ ?_
        rotate_left
        · rintro w' ⟨s0, s1, s2, s3⟩
          go_simp
          with_reducible rfl
        rotate_left
        · simp only [Act.put, sg1, sg2, sg3, i64_w, i32_w]
          rfl
        refine pure_ (i := 19) (N := some 101) (v := ?_) (a' := ?_) (bAg 30 1048575) rfl rfl (any_of HT_.out (by kernel_rfl)) (fun _ _ _ h => h) (Or.inl ⟨by rfl, ?_⟩) ?_ ?_
        rotate_left
        · intro w'
          go_simp
          with_reducible rfl
        rotate_left
        · simp only [Act.put, sg1, sg2, sg3, i64_w, i32_w]
          rfl
        refine pure_ (i := 20) (N := some 102) (v := ?_) (a' := ?_) (bAg 30 2097151) rfl rfl (any_of HT_.out (by kernel_rfl)) (fun _ _ _ h => h) (Or.inl ⟨by rfl, ?_⟩) ?_ ?_
        rotate_left
        · intro w'
          go_simp
          with_reducible rfl
        rotate_left
        · simp only [Act.put, sg1, sg2, sg3, i64_w, i32_w]
          rfl
        refine pure_ (i := 21) (N := some 103) (v := ?_) (a' := ?_) (bAg 30 4194303) rfl rfl (any_of HT_.out (by kernel_rfl)) (fun _ _ _ h => h) (Or.inl ⟨by rfl, ?_⟩) ?_ ?_
        rotate_left
        · intro w'
          go_simp
          with_reducible rfl
        rotate_left
        · simp only [Act.put, sg1, sg2, sg3, i64_w, i32_w]
          rfl
        refine pure_ (i := 22) (N := some 104) (v := ?_) (a' := ?_) (bAg 30 8388607) rfl rfl (any_of HT_.out (by kernel_rfl)) (fun _ _ _ h => h) (Or.inl ⟨by rfl, ?_⟩) ?_ ?_
        rotate_left
        · intro w'
          go_simp
          with_reducible rfl
        rotate_left
        · simp only [Act.put, sg1, sg2, sg3, i64_w, i32_w]
          rfl
        refine pure_ (i := 25) (N := some 107) (v := ?_) (a' := ?_) (bAg 30 41943039) rfl rfl (any_of HT_.out (by kernel_rfl)) (fun _ _ _ h => h) (Or.inl ⟨by rfl, ?_⟩) ?_ ?_
        rotate_left
        · intro w'
          go_simp
          with_reducible rfl
        rotate_left
        · simp only [Act.put, sg1, sg2, sg3, i64_w, i32_w]
          rfl
        refine pure_ (i := 26) (N := some 108) (v := ?_) (a' := ?_) (bAg 30 109051903) rfl rfl (any_of HT_.out (by kernel_rfl)) (fun _ _ _ h => h) (Or.inl ⟨by rfl, ?_⟩) ?_ ?_
        rotate_left
        · intro w'
          go_simp
          with_reducible rfl
        rotate_left
        · simp only [Act.put, sg1, sg2, sg3, i64_w, i32_w]
          rfl
        refine pure_ (i := 27) (N := some 109) (v := ?_) (a' := ?_) (bAg 30 243269631) rfl rfl (any_of HT_.out (by kernel_rfl)) (fun _ _ _ h => h) (Or.inl ⟨by rfl, ?_⟩) ?_ ?_
        rotate_left
        · intro w'
          go_simp
          with_reducible rfl
        rotate_left
        · simp only [Act.put, sg1, sg2, sg3, i64_w, i32_w]
          rfl
        refine one_ (i := 23) (N := some 105) (bAg 30 251658239) rfl rfl (one_of HT_.out (by kernel_rfl)) (by decide) (fun K hK => ?_)
        refine goes_ Try.func15 (by kernel_rfl) rfl #[.pointer (some ⟨g, 0, none⟩)] (by rfl) rfl rfl (by (try simp only [List.map_toArray, List.map_cons, List.map_nil]); first | done | rfl) ?_
        have hI := bag_ids HS.out.hs (by omega)
        refine hI.mono ?_
        rintro e w6 ⟨v, rfl, hR, hb⟩
        have hlen := restB_len ts a1 (k + 1)
        obtain ⟨A9, c9, rfl⟩ := Kd.R_slice hR
        rw [hlen]
        refine ⟨_, rfl, ?_⟩
        replace HS := Aside0.mk (HS.out.below hb)
        clear hI hR hlen
        refine hK.out _ _ ⟨cell_below hb hHeld.1, cell_below hb hHeld.2.1, cell_below hb hHeld.2.2.1, cell_below hb hHeld.2.2.2⟩ (fun hHeld => ?_)
        clear hK K hb
        refine norm_ (a' := ?_) ?_ ?_
        rotate_left
        · show Act.put _ (some 105) _ = _
          simp only [Act.put, sg1, sg2, sg3, i64_w, i32_w]
          rfl
        refine pure_ (i := 24) (N := some 106) (v := ?_) (a' := ?_) (bAg 30 268435455) rfl rfl (any_of HT_.out (by kernel_rfl)) (fun _ _ _ h => h) (Or.inl ⟨by rfl, ?_⟩) ?_ ?_
        rotate_left
        · intro w'
          go_simp
          with_reducible rfl
        rotate_left
        · simp only [Act.put, sg1, sg2, sg3, i64_w, i32_w]
          rfl
        refine pure_ (i := 28) (N := some 110) (v := ?_) (a' := ?_) (bAg 30 536870911) rfl rfl (any_of HT_.out (by kernel_rfl)) (fun _ _ _ h => h) (Or.inl ⟨by rfl, ?_⟩) ?_ ?_
        rotate_left
        · intro w'
          go_simp
          with_reducible rfl
        rotate_left
        · simp only [Act.put, sg1, sg2, sg3, i64_w, i32_w]
          rfl
        refine pure_ (i := 29) (N := some 111) (v := ?_) (a' := ?_) (bAg 30 1073741823) rfl rfl (any_of HT_.out (by kernel_rfl)) (fun _ _ _ h => h) (Or.inl ⟨by rfl, ?_⟩) ?_ ?_
        rotate_left
        · intro w'
          go_simp
          with_reducible rfl
        rotate_left
        · simp only [Act.put, sg1, sg2, sg3, i64_w, i32_w]
          rfl
        refine done_ (done_of HT_.out (by kernel_rfl)) ?_
        clear HT_ HW_ hHeld
        clear y1 y2 y3 z0 HX
        go_wp2
        go_roundg (ts.length - (k + 1))
        case measure => omega
        case rel => exact ⟨k + 1, by omega, by omega, by go_num, HS⟩
    · obtain rfl : k = ts.length := by omega
      have q0 : decide ((ts.length : Int) + 1 ≤ (ts.length : Int)) = false := decide_eq_false (by omega)
      have hrd : readyL (restB ts a1 ts.length) = [] := by
        have h0 : (restB ts a1 ts.length).l = [] := by unfold restB; cases a1 <;> simp [ordB_len]
        unfold readyL idsL
        rw [h0]; rfl
      have HRd := bag_ready HS.out.hs (by omega)
      rw [hrd] at HRd
      have HRd := Aside0.mk HRd
      clear hrd hlt
      go_wp2_with (go_at_call 18; refine HRd.out.mono ?_; rintro e w6 ⟨v, rfl, hR, hb⟩; obtain ⟨A9, c9, rfl⟩ := Kd.R_slice hR; replace HS := Aside0.mk (HS.out.below hb); clear hR hb)
      go_ret
      exact ⟨rfl, HS.out.hs.bel⟩

/-! ### splicelaw10_BagOrder: function 6 -/
/-- THE ONE PURE STATEMENT of splicelaw10_BagOrder: yours. -/
def splicelaw10_BagOrder.Pure : Prop := ∀ (x0 : List ByteArray) (x1 : Bool), (x0.length * 16 ≤ 140737488351232 ∧ x0.length ≤ maxLen ∧ ∀ y0 ∈ x0, y0.size ≤ 140737488351232) → splicelaw10_BagOrder.f x0 x1 = some true

end Go.Proofs.Ytppoahccmcnenaa.PD
