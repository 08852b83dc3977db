-- written by a program of this session
import Derived.Test.YtppoahccmcnenaaPOx0
import Derived.Test.YtppoahccmcnenaaPOx1
import Derived.Test.YtppoahccmcnenaaPOx2
import Derived.Test.YtppoahccmcnenaaPOx3
namespace Go.Proofs.Ytppoahccmcnenaa.PO
open Go.RowKit Go.Proofs.Ytppoahccmcnenaa.Op Go.Proofs.YtppoahccmcnenaaW.PrintWords Go.Proofs.YtppoahccmcnenaaW.PrintLast Go.Proofs.YtppoahccmcnenaaW.PrintMore
attribute [local go_sem] max2_int min2_int max_two min_two max_three min_three max_four min_four   -- for this text's walks alone
set_option linter.unusedVariables false
set_option linter.unusedSimpArgs false

/-! ### splicelaw10_BagOnce: function 3 (by hand) -/
theorem send_ok (s : Bg) (f t : Int) (x : ByteArray) (hf : Adr f) (ht : Adr t) (hx : (x.size : Int) ≤ 65536) (hl : s.l.length < 400) : sendB s f t x = (addB s ⟨0, f, t, x⟩, s.last + 1, 0) := by
  unfold sendB
  rw [if_pos (by rw [(adr_iff f).2 hf, (adr_iff t).2 ht]; rfl), if_pos hx]
  unfold addF
  rw [if_pos hl]
theorem act29 {w W : World} {A : Option Addr} {n : Nat} {l : List S29} (hr : Kd.C k29 w A n l) (hb : Below w.heap.size w W) (k : Nat) (hk : k < n) : ∃ ad x, A = some ad ∧ x = rd_T29 l (k : Int) ∧
    W.cell? (ad.add (k * 5)) = some (.int .i64 x.f0) ∧ W.cell? ⟨(ad.add (k * 5)).block, (ad.add (k * 5)).off + 1, none⟩ = some (.int .i64 x.f1) ∧ W.cell? ⟨(ad.add (k * 5)).block, (ad.add (k * 5)).off + 2, none⟩ = some (.int .i64 x.f2) ∧ W.cell? ⟨(ad.add (k * 5)).block, (ad.add (k * 5)).off + 3, none⟩ = some (.string x.f3) ∧ W.cell? ⟨(ad.add (k * 5)).block, (ad.add (k * 5)).off + 4, none⟩ = some (.bool x.f4) := by
  obtain ⟨ad, e, x0, x1, x2, x3, x4⟩ := at_T29 hr (k : Int) (by omega) (by omega)
  rw [Int.toNat_natCast] at x0 x1 x2 x3 x4
  exact ⟨ad, _, e, rfl, cell_below hb x0, cell_below hb x1, cell_below hb x2, cell_below hb x3, cell_below hb x4⟩
structure Once (s : Bg) (L : Nat) (sd : List ByteArray) (gn : List Int) : Prop where
  last : s.last = (L : Int)
  len : sd.length = L + 1
  txt : ∀ m ∈ s.l, sd[m.id.toNat]? = some m.t
  gone : ∀ x ∈ gn, x ≤ (L : Int) ∧ findM s.l x = none
  cnt : s.l.length + gn.length = L
theorem Once.new : Once newB 0 [⟨#[]⟩] [] := ⟨rfl, rfl, fun m hm => by simp [newB] at hm, fun x hx => by simp at hx, rfl⟩
theorem Once.add {s : Bg} {L : Nat} {sd : List ByteArray} {gn : List Int} (h : Once s L sd gn) (x : Ml) : Once (addB s x) (L + 1) (sd ++ [x.t]) gn := by
  have hl := h.len
  refine ⟨by show s.last + 1 = _; rw [h.last]; omega, by simp [hl], fun m hm => ?_, fun y hy => ?_, by have := h.cnt; simp only [addB, List.length_append, List.length_singleton]; omega⟩
  · rcases List.mem_append.1 hm with hm | hm
    · have := h.txt m hm
      rw [List.getElem?_append_left (List.getElem?_eq_some_iff.1 this).1]
      exact this
    · rw [List.mem_singleton] at hm
      subst hm
      show (sd ++ [x.t])[(s.last + 1).toNat]? = _
      rw [h.last, show ((L : Int) + 1).toNat = sd.length by omega]
      simp
  · obtain ⟨h1, h2⟩ := h.gone y hy
    refine ⟨by omega, ?_⟩
    show findM (s.l ++ [{ x with id := s.last + 1 }]) y = none
    rw [findM_append, h2, if_neg (by show ¬ s.last + 1 = y; rw [h.last]; omega)]
    rfl
theorem Once.take {s : Bg} {L : Nat} {sd : List ByteArray} {gn : List Int} (h : Once s L sd gn) (ha : s.l.Pairwise (fun a b => a.id < b.id)) {id : Int} {m : Ml} (hf : findM s.l id = some m) (hid : id ≤ (L : Int)) : Once { s with l := dropM s.l id } L sd (gn ++ [id]) := by
  have hd := dropM_len ha id
  rw [hf] at hd
  refine ⟨h.last, h.len, fun k hk => h.txt k (List.mem_filter.1 hk).1, fun y hy => ?_, by have := h.cnt; simp only [List.length_append, List.length_singleton]; simp at hd; omega⟩
  rcases List.mem_append.1 hy with hy | hy
  · obtain ⟨h1, h2⟩ := h.gone y hy
    refine ⟨h1, ?_⟩
    show findM (dropM s.l id) y = none
    rw [findM_drop, h2]; split <;> rfl
  · rw [List.mem_singleton] at hy
    subst hy
    refine ⟨hid, ?_⟩
    show findM (dropM s.l y) y = none
    rw [findM_drop, if_pos rfl]
theorem tests (q : Int) (h : q ≠ 0) : (q == 0) = false ∧ (q != 0) = true ∧ decide (q = 0) = false := ⟨beq_eq_false_iff_ne.mpr h, bne_iff_ne.mpr h, decide_eq_false h⟩
theorem add_cases (s : Bg) (m : Ml) : (∃ i q, addF s m = (s, i, q) ∧ q ≠ 0) ∨ addF s m = (addB s m, s.last + 1, 0) := by
  unfold addF
  by_cases h : s.l.length < 400
  · rw [if_pos h]; exact Or.inr rfl
  · rw [if_neg h]; exact Or.inl ⟨0, 8, rfl, by decide⟩
theorem send_cases (s : Bg) (f t : Int) (x : ByteArray) : (∃ i q, sendB s f t x = (s, i, q) ∧ q ≠ 0) ∨ sendB s f t x = (addB s ⟨0, f, t, x⟩, s.last + 1, 0) := by
  unfold sendB
  split
  · split
    · exact add_cases s _
    · exact Or.inl ⟨0, 2, rfl, by decide⟩
  · exact Or.inl ⟨0, 1, rfl, by decide⟩
theorem twice_cases (s : Bg) (id : Int) : (∃ i q, twiceB s id = (s, i, q) ∧ q ≠ 0) ∨ ∃ m, findM s.l id = some m ∧ twiceB s id = (addB s m, s.last + 1, 0) := by
  unfold twiceB
  cases h : findM s.l id with
  | none => exact Or.inl ⟨0, 4, rfl, by decide⟩
  | some m =>
    rcases add_cases s m with h1 | h1
    · exact Or.inl h1
    · exact Or.inr ⟨m, rfl, h1⟩
theorem take_cases (s : Bg) (id : Int) : (∃ q, takeB s id = (s, ⟨0, 0, 0, ⟨#[]⟩⟩, q) ∧ q ≠ 0) ∨ ∃ m, findM s.l id = some m ∧ takeB s id = ({ s with l := dropM s.l id }, m, 0) := by
  unfold takeB
  cases h : findM s.l id with
  | none => exact Or.inl ⟨4, rfl, by decide⟩
  | some m =>
    dsimp only
    split
    · exact Or.inl ⟨50, rfl, by decide⟩
    · exact Or.inr ⟨m, rfl, rfl⟩
theorem lose_cases (s : Bg) (id : Int) : (∃ q, loseB s id = (s, q) ∧ q ≠ 0) ∨ ∃ m, findM s.l id = some m ∧ loseB s id = ({ s with l := dropM s.l id }, 0) := by
  unfold loseB
  cases h : findM s.l id with
  | none => exact Or.inl ⟨4, rfl, by decide⟩
  | some m => exact Or.inr ⟨m, rfl, rfl⟩
def okA (x : S29) : Prop := -9223372036854775808 ≤ x.f1 ∧ x.f1 ≤ 9223372036854775807
instance (x : S29) : Decidable (okA x) := by unfold okA; infer_instance
theorem rd_mem {l : List S29} {k : Nat} (hk : k < l.length) (h : ∀ y ∈ l, okA y) : okA (rd_T29 l (k : Int)) := by
  unfold rd_T29
  rw [Int.toNat_natCast, List.getD_eq_getElem?_getD, List.getElem?_eq_getElem hk]
  exact h _ (List.getElem_mem hk)
def splicelaw10_BagOnce.f (l0 : List S29) : Option Bool := if l0.all (fun x => decide (okA x)) = true then some true else none
set_option maxHeartbeats 16000000 in
set_option maxRecDepth 100000 in
theorem once_walk (A0 : Option Addr) (c0 : Nat) (l0 : List S29) (w : World) (hr0 : Kd.C k29 w A0 l0.length l0) (hok : ∀ y ∈ l0, okA y) :
    Calls Try.prog 3 #[.slice A0 l0.length c0] w fun e w' => e = .returned (.bool true) ∧ Below w.heap.size w w' := by
  have HR0 := Aside0.mk hr0
  have hmax := hr0.2.1
  have HOK := Aside0.mk hok
  clear hr0 hok
  have HN := Aside0.mk (bag_new (Below.refl w.heap.size w))
  go_enter Try.func3, Try.ntmps3
  go_upto_region 2 with (go_at_call 9; refine HN.out.mono ?_; rintro e w1 ⟨rfl, hs, hb⟩; have HS := Aside0.mk hs; clear hs hb)
  clear HN
  generalize w.heap.size + 1 + 1 = g at HS ⊢
  generalize w.heap.size + 1 = cb at HS
  generalize hrb : w.heap.size = mb at HS
  clear hrb
  go_upto_region 5 with (go_at_call 10; refine (awake10 _).mono ?_; rintro e w2 ⟨rfl, hb⟩; replace HS := Aside0.mk (HS.out.below hb); clear hb)
  have HO : Aside0 (OnW w (w2.alloc (.cells #[.string ⟨#[]⟩] 9)) g mb cb 0 newB (.slice (some ⟨w2.heap.size, 0, none⟩) 1 1) (.slice none 0 0) [⟨#[]⟩] []) := ⟨onw_lit HS.out ⟨#[]⟩⟩
  clear HS
  go_upto_region 6 with (fail)
  generalize w2.alloc (.cells #[.string ⟨#[]⟩] 9) = w3 at HO ⊢
  generalize w2.heap.size = b3 at HO ⊢
  go_wp2
  go_loopw [4, 5, 6, 7] (fun v4 v5 v6 v7 wr => ∃ (k L : Nat) (s : Bg) (vs vg : Value) (sd : List ByteArray) (gn : List Int), k ≤ l0.length ∧ k ≤ 200 ∧ L ≤ k ∧ v4 = .int .i64 (L : Int) ∧ v5 = vs ∧ v6 = vg ∧ v7 = .int .i64 k ∧ Aside0 (OnW w wr g mb cb (2 * k) s vs vg sd gn) ∧ Aside0 (Once s L sd gn)) (fun v4 v5 v6 v7 _ => l0.length - (intOf v7).toNat)
  case atStart => exact ⟨0, 0, newB, _, _, _, _, by omega, by omega, by omega, rfl, rfl, rfl, rfl, HO, ⟨Once.new⟩⟩
  case round =>
    clear HO
    obtain ⟨k, L, s, vs, vg, sd, gn, hk, hk2, hL, rfl, e5, e6, rfl, HO, HI⟩ := hrel
    obtain ⟨bs, cs, e8, _⟩ := row_at (enc := encS) HO.out.sd (by rw [HI.out.len]; omega)
    obtain ⟨A6, c6, e9⟩ := row_slice HO.out.gn
    subst e5
    subst e6
    subst e8
    subst e9
    have HLen : Aside0 (sd.length = L + 1 ∧ gn.length ≤ L) := ⟨HI.out.len, by have := HI.out.cnt; omega⟩
    by_cases hlt : k < l0.length ∧ k < 200
    · have q0 : decide (k < l0.length) = true := decide_eq_true hlt.1
      have q1 : decide ((k : Int) < 200) = true := decide_eq_true (by omega)
      have hwk : IntKind.i64.wrap ((k : Int) + 1) = (k : Int) + 1 := IntWalk.i64_in _ (by omega)
      have hwl : IntKind.i64.wrap ((L : Int) + 1) = (L : Int) + 1 := IntWalk.i64_in _ (by omega)
      obtain ⟨ad, x, rfl, hxe, x0, x1, x2, x3, x4⟩ := act29 HR0.out HO.out.hs.bel k hlt.1
      have hxo : okA x := by rw [hxe]; exact rd_mem hlt.1 HOK.out
      obtain ⟨xk, xa, xb, xs, xo⟩ := x
      have hwf : (Lit.int .i64 xa).wf = true := wf_of hxo
      have HWf := Aside0.mk hwf
      dsimp only at x0 x1 x2 x3 x4
      have hkl := hlt.1
      have hk200 := hlt.2
      clear hlt hxe hxo hwf
      go_upto_region 11 with (fail)
      have HY := Aside0.mk (blk_new wr (.cells #[.int .i64 xk, .int .i64 xa, .int .i64 xb, .string xs, .bool xo] 29))
      have HG : Aside0 (wr.heap.size ≠ g ∧ wr.heap.size ≠ mb ∧ wr.heap.size ≠ cb) := ⟨by have := HO.out.hs.lts; omega⟩
      replace HO := Aside0.mk (HO.out.below (below_alloc (Below.refl _ _) (.cells #[.int .i64 xk, .int .i64 xa, .int .i64 xb, .string xs, .bool xo] 29)))
      clear x0 x1 x2 x3 x4 q0 q1
      generalize wr.alloc (.cells #[.int .i64 xk, .int .i64 xa, .int .i64 xb, .string xs, .bool xo] 29) = w4 at HO HY ⊢
      generalize wr.heap.size = gy at HY HG ⊢
      have x0 : w4.cell? ⟨gy, 0, none⟩ = some (.int .i64 xk) := (blk_cell HY.out 0).trans rfl
      have x1 : w4.cell? ⟨gy, 1, none⟩ = some (.int .i64 xa) := (blk_cell HY.out 1).trans rfl
      have x2 : w4.cell? ⟨gy, 2, none⟩ = some (.int .i64 xb) := (blk_cell HY.out 2).trans rfl
      have x3 : w4.cell? ⟨gy, 3, none⟩ = some (.string xs) := (blk_cell HY.out 3).trans rfl
      by_cases k0 : xk = 0
      · subst k0
        rcases send_cases s xa xb xs with ⟨i, q, hc, hq⟩ | hc
        · obtain ⟨t1, t2, t3⟩ := tests q hq
          have HC := Aside0.mk (bag_send' HO.out.hs (by omega) xa xb xs hc)
          clear hc hq
          go_wp2_with (go_at_call 11; refine HC.out.mono ?_; rintro e w5 ⟨rfl, hs, hb⟩; replace HO := Aside0.mk (HO.out.bag hs hb); clear hs hb x0 x1 x2 x3)
          exact ⟨⟨k + 1, L, s, _, _, sd, gn, by omega, by omega, by omega, rfl, rfl, rfl, by go_num, ⟨HO.out.more (by omega)⟩, HI⟩, by simp [intOf]; omega⟩
        · have hlast := HI.out.last
          rw [hlast] at hc
          have HC := Aside0.mk (bag_send' HO.out.hs (by omega) xa xb xs hc)
          clear hc hlast
          go_upto_region 14 with (go_at_call 11; refine HC.out.mono ?_; rintro e w5 ⟨rfl, hs, hb⟩; replace HO := Aside0.mk (HO.out.bag hs hb); replace HY := Aside0.mk ((hb.2 gy (blk_lt HY.out) HG.out.1 HG.out.2.1 HG.out.2.2).trans HY.out); clear hs hb x0 x1 x2 x3)
          have x3 : w5.cell? ⟨gy, 3, none⟩ = some (.string xs) := (blk_cell HY.out 3).trans rfl
          clear HC HY
          go_wp2_with (at_builtin; refine print_append_of encS w.heap.size rfl (.tmp 60) (.tmp 63) 26 9 _ 16 rfl Try.underlying26 info9 rfl (by decide) _ sd xs rfl rfl rfl HO.out.sd HO.out.hs.bel HO.out.hs.bel.size (by have := HLen.out.1; omega) ?_; intro v1 w15 ho hb hg hn; replace HO := Aside0.mk (HO.out.said xs ho hb hg hn); clear ho hb hg hn)
          exact ⟨⟨k + 1, L + 1, _, _, _, sd ++ [xs], gn, by omega, by omega, by omega, by go_num, rfl, rfl, by go_num, ⟨HO.out.more (by omega)⟩, ⟨HI.out.add ⟨0, xa, xb, xs⟩⟩⟩, by simp [intOf]; omega⟩
      · have n0 : (xk == 0) = false := beq_eq_false_iff_ne.mpr k0
        have n0' : decide (xk = 0) = false := decide_eq_false k0
        clear k0
        by_cases k1 : xk = 1
        · subst k1
          clear n0 n0'
          rcases take_cases s xa with ⟨q, hc, hq⟩ | ⟨m, hf, hc⟩
          · obtain ⟨t1, t2, t3⟩ := tests q hq
            have HC := Aside0.mk (bag_take' HO.out.hs xa HWf.out hc)
            clear hc hq
            go_wp2_with (go_at_call 12; refine HC.out.mono ?_; rintro e w5 ⟨rfl, hs, hb⟩; replace HO := Aside0.mk (HO.out.bag hs hb); clear hs hb x0 x1 x2 x3)
            replace HO := Aside0.mk (HO.out.below (below_alloc (Below.refl _ _) (.cells #[.int .i64 0, .int .i64 0, .int .i64 0, .string ⟨#[]⟩] 34)))
            exact ⟨⟨k + 1, L, s, _, _, sd, gn, by omega, by omega, by omega, rfl, rfl, rfl, by go_num, ⟨HO.out.more (by omega)⟩, HI⟩, by simp [intOf]; omega⟩
          · obtain ⟨hm1, hm2⟩ := findM_some hf
            have hmi := HO.out.hs.ids m hm1
            have htx := HI.out.txt m hm1
            obtain ⟨mi, mf, mt, mx⟩ := m
            dsimp only at hm2 hmi htx
            subst hm2
            have hlast := HI.out.last
            obtain ⟨j, rfl⟩ : ∃ j : Nat, mi = j := ⟨mi.toNat, by omega⟩
            rw [Int.toNat_natCast] at htx
            have HJ : Aside0 (1 ≤ j ∧ j ≤ L) := ⟨by have := hmi.1; have := hmi.2.1; rw [hlast] at this; omega⟩
            have HF := Aside0.mk hf
            have HT := Aside0.mk htx
            rw [hlast] at hmi
            have HC := Aside0.mk (bag_take' HO.out.hs (j : Int) HWf.out hc)
            clear hc hf htx hm1 hmi hlast
            go_upto_region 21 with (go_at_call 12; refine HC.out.mono ?_; rintro e w5 ⟨rfl, hs, hb⟩; replace HY := Aside0.mk ((hb.2 gy (blk_lt HY.out) HG.out.1 HG.out.2.1 HG.out.2.2).trans HY.out); have HO5 := Aside0.mk (HO.out.bag hs hb); clear hs hb x0 x1 x2 x3)
            clear HC
            have hasc := HO.out.hs.asc
            have HI2 := Aside0.mk (HI.out.take hasc HF.out (by have := HJ.out; omega))
            have HNo : Aside0 (∀ y ∈ gn, y ≠ (j : Int)) := ⟨fun y hy e => by
              have h1 := (HI.out.gone y hy).2
              rw [e, HF.out] at h1
              cases h1⟩
            clear hasc HO HI
            have HX := Aside0.mk (blk_new w5 (.cells #[.int .i64 (j : Int), .int .i64 mf, .int .i64 mt, .string mx] 34))
            replace HY := Aside0.mk (blk_alloc HY.out (.cells #[.int .i64 (j : Int), .int .i64 mf, .int .i64 mt, .string mx] 34))
            have HO := Aside0.mk (HO5.out.below (below_alloc (Below.refl _ _) (.cells #[.int .i64 (j : Int), .int .i64 mf, .int .i64 mt, .string mx] 34)))
            clear HO5
            generalize w5.alloc (.cells #[.int .i64 (j : Int), .int .i64 mf, .int .i64 mt, .string mx] 34) = w6 at HO HX HY ⊢
            generalize w5.heap.size = g11 at HX ⊢
            go_wp2
            go_loopw [13] (fun v13 wr => ∃ i : Nat, i ≤ gn.length ∧ v13 = .int .i64 i ∧ Aside0 (OnW w wr g mb cb (2 * k) { s with l := dropM s.l (j : Int) } (.slice (some ⟨bs, 0, none⟩) sd.length cs) (.slice A6 gn.length c6) sd gn) ∧ Aside0 (wr.heap[g11]? = some (.cells #[.int .i64 (j : Int), .int .i64 mf, .int .i64 mt, .string mx] 34 (0, 0))) ∧ Aside0 (wr.heap[gy]? = some (.cells #[.int .i64 1, .int .i64 (j : Int), .int .i64 xb, .string xs, .bool xo] 29 (0, 0)))) (fun v13 _ => gn.length - (intOf v13).toNat)
            case atStart => exact ⟨0, Nat.zero_le _, rfl, HO, HX, HY⟩
            case round =>
              clear HO HX HY
              obtain ⟨i, hi, rfl, HO, HX, HY⟩ := hrel
              by_cases hlt : i < gn.length
              · have u0 : decide ((i : Int) < (gn.length : Int)) = true := decide_eq_true (by omega)
                have hwi : IntKind.i64.wrap ((i : Int) + 1) = (i : Int) + 1 := IntWalk.i64_in _ (by have := HLen.out; omega)
                obtain ⟨bg, cg, eg, hcg⟩ := row_at (enc := encN) HO.out.gn (by omega)
                injection eg with eg1 _ eg2
                subst eg1
                subst eg2
                obtain ⟨y, hy⟩ : ∃ y, gn[i]? = some y := ⟨_, List.getElem?_eq_getElem hlt⟩
                have z0 : wr.cell? ⟨bg, i, none⟩ = some (.int .i64 y) := hcg i y hy
                have x1 : wr.cell? ⟨gy, 1, none⟩ = some (.int .i64 (j : Int)) := (blk_cell HY.out 1).trans rfl
                have hne := HNo.out y (List.mem_of_getElem? hy)
                have u1 : (y == (j : Int)) = false := beq_eq_false_iff_ne.mpr hne
                have u2 : decide (y = (j : Int)) = false := decide_eq_false hne
                clear hcg hy hne
                go_upto_region 25 with (fail)
                go_quiet (fail)
                go_wp2
                exact ⟨⟨i + 1, by omega, by go_num, ⟨HO.out.below (pw_below_drewN (Below.refl _ _) _)⟩, ⟨blk_drewN HX.out _⟩, ⟨blk_drewN HY.out _⟩⟩, by simp [intOf]; omega⟩
              · obtain rfl : i = gn.length := by omega
                clear hlt
                have x1 : wr.cell? ⟨gy, 1, none⟩ = some (.int .i64 (j : Int)) := (blk_cell HY.out 1).trans rfl
                have y0 : wr.cell? ⟨g11, 0, none⟩ = some (.int .i64 (j : Int)) := (blk_cell HX.out 0).trans rfl
                have y3 : wr.cell? ⟨g11, 3, none⟩ = some (.string mx) := (blk_cell HX.out 3).trans rfl
                have z0 : wr.cell? ⟨bs, j, none⟩ = some (.string mx) := row_cell HO.out.sd j mx HT.out
                have u0 : decide ((j : Int) < 1) = false := decide_eq_false (by have := HJ.out; omega)
                have u1 : decide ((j : Int) > (L : Int)) = false := decide_eq_false (by have := HJ.out; omega)
                have u2 : decide ((L : Int) < (j : Int)) = false := decide_eq_false (by have := HJ.out; omega)
                have u3 : (j : Int) < (sd.length : Int) := by have := HJ.out; have := HLen.out; omega
                have u4 : 0 ≤ (j : Int) := by omega
                have u5 : decide (j < 1) = false := decide_eq_false (by have := HJ.out; omega)
                have u6 : decide (L < j) = false := decide_eq_false (by have := HJ.out; omega)
                have u7 : j < sd.length := by have := HJ.out; have := HLen.out; omega
                have u8 : ¬ L < j := by have := HJ.out; omega
                have u9 : ¬ j = 0 := by have := HJ.out; omega
                go_upto_region 27 with (fail)
                go_quiet (fail)
                replace HO := Aside0.mk (HO.out.below (pw_below_drewN (Below.refl _ _) nq))
                replace HY := Aside0.mk (blk_drewN HY.out nq)
                clear x1 y0 y3 z0 HX
                generalize wr.drewN nq = w8 at HO HY ⊢
                have x1 : w8.cell? ⟨gy, 1, none⟩ = some (.int .i64 (j : Int)) := (blk_cell HY.out 1).trans rfl
                go_wp2_with (at_builtin; refine print_append_of encN w.heap.size rfl (.tmp 115) (.tmp 118) 27 3 _ 8 rfl Try.underlying27 info3i rfl (by decide) _ gn (j : Int) rfl rfl rfl HO.out.gn HO.out.hs.bel HO.out.hs.bel.size (by have := HLen.out.2; omega) ?_; intro v1 w15 ho hb hg hn; replace HO := Aside0.mk (HO.out.gone (j : Int) ho hb hg hn); clear ho hb hg hn)
                exact ⟨⟨k + 1, L, _, _, _, sd, gn ++ [(j : Int)], by omega, by omega, by omega, rfl, rfl, rfl, by go_num, ⟨HO.out.more (by omega)⟩, HI2⟩, by simp [intOf]; omega⟩
        · have n1 : (xk == 1) = false := beq_eq_false_iff_ne.mpr k1
          have n1' : decide (xk = 1) = false := decide_eq_false k1
          clear k1
          by_cases k2 : xk = 2
          · subst k2
            clear n0 n0' n1 n1'
            rcases lose_cases s xa with ⟨q, hc, hq⟩ | ⟨m, hf, hc⟩
            · obtain ⟨t1, t2, t3⟩ := tests q hq
              have HC := Aside0.mk (bag_lose' HO.out.hs xa HWf.out hc)
              clear hc hq
              go_wp2_with (go_at_call 13; refine HC.out.mono ?_; rintro e w5 ⟨rfl, hs, hb⟩; replace HO := Aside0.mk (HO.out.bag hs hb); clear hs hb x0 x1 x2 x3)
              exact ⟨⟨k + 1, L, s, _, _, sd, gn, by omega, by omega, by omega, rfl, rfl, rfl, by go_num, ⟨HO.out.more (by omega)⟩, HI⟩, by simp [intOf]; omega⟩
            · obtain ⟨hm1, hm2⟩ := findM_some hf
              have hmi := HO.out.hs.ids m hm1
              have htx := HI.out.txt m hm1
              obtain ⟨mi, mf, mt, mx⟩ := m
              dsimp only at hm2 hmi htx
              subst hm2
              have hlast := HI.out.last
              obtain ⟨j, rfl⟩ : ∃ j : Nat, mi = j := ⟨mi.toNat, by omega⟩
              rw [Int.toNat_natCast] at htx
              have HJ : Aside0 (1 ≤ j ∧ j ≤ L) := ⟨by have := hmi.1; have := hmi.2.1; rw [hlast] at this; omega⟩
              have HF := Aside0.mk hf
              have HT := Aside0.mk htx
              have HC := Aside0.mk (bag_lose' HO.out.hs (j : Int) HWf.out hc)
              have hasc := HO.out.hs.asc
              have HI2 := Aside0.mk (HI.out.take hasc HF.out (by have := HJ.out; omega))
              clear hc hf htx hm1 hmi hlast hasc HI
              go_upto_region 32 with (go_at_call 13; refine HC.out.mono ?_; rintro e w5 ⟨rfl, hs, hb⟩; replace HY := Aside0.mk ((hb.2 gy (blk_lt HY.out) HG.out.1 HG.out.2.1 HG.out.2.2).trans HY.out); replace HO := Aside0.mk (HO.out.bag hs hb); clear hs hb x0 x1 x2 x3)
              clear HC
              have x1 : w5.cell? ⟨gy, 1, none⟩ = some (.int .i64 (j : Int)) := (blk_cell HY.out 1).trans rfl
              go_wp2_with (at_builtin; refine print_append_of encN w.heap.size rfl (.tmp 127) (.tmp 130) 27 3 _ 8 rfl Try.underlying27 info3i rfl (by decide) _ gn (j : Int) rfl rfl rfl HO.out.gn HO.out.hs.bel HO.out.hs.bel.size (by have := HLen.out.2; omega) ?_; intro v1 w15 ho hb hg hn; replace HO := Aside0.mk (HO.out.gone (j : Int) ho hb hg hn); clear ho hb hg hn)
              exact ⟨⟨k + 1, L, _, _, _, sd, gn ++ [(j : Int)], by omega, by omega, by omega, rfl, rfl, rfl, by go_num, ⟨HO.out.more (by omega)⟩, HI2⟩, by simp [intOf]; omega⟩
          · have n2 : (xk == 2) = false := beq_eq_false_iff_ne.mpr k2
            have n2' : decide (xk = 2) = false := decide_eq_false k2
            clear k2
            by_cases k3 : xk = 3
            · subst k3
              clear n0 n0' n1 n1' n2 n2'
              rcases twice_cases s xa with ⟨i, q, hc, hq⟩ | ⟨m, hf, hc⟩
              · obtain ⟨t1, t2, t3⟩ := tests q hq
                have HC := Aside0.mk (bag_twice' HO.out.hs (by omega) xa HWf.out hc)
                clear hc hq
                go_wp2_with (go_at_call 14; refine HC.out.mono ?_; rintro e w5 ⟨rfl, hs, hb⟩; replace HO := Aside0.mk (HO.out.bag hs hb); clear hs hb x0 x1 x2 x3)
                exact ⟨⟨k + 1, L, s, _, _, sd, gn, by omega, by omega, by omega, rfl, rfl, rfl, by go_num, ⟨HO.out.more (by omega)⟩, HI⟩, by simp [intOf]; omega⟩
              · obtain ⟨hm1, hm2⟩ := findM_some hf
                have hmi := HO.out.hs.ids m hm1
                have htx := HI.out.txt m hm1
                obtain ⟨mi, mf, mt, mx⟩ := m
                dsimp only at hm2 hmi htx
                subst hm2
                have hlast := HI.out.last
                obtain ⟨j, rfl⟩ : ∃ j : Nat, mi = j := ⟨mi.toNat, by omega⟩
                rw [Int.toNat_natCast] at htx
                have HJ : Aside0 (1 ≤ j ∧ j ≤ L) := ⟨by have := hmi.1; have := hmi.2.1; rw [hlast] at this; omega⟩
                have HF := Aside0.mk hf
                have HT := Aside0.mk htx
                rw [hlast] at hc
                have HC := Aside0.mk (bag_twice' HO.out.hs (by omega) (j : Int) HWf.out hc)
                have HI2 := Aside0.mk (HI.out.add (⟨(j : Int), mf, mt, mx⟩ : Ml))
                clear hc hf htx hm1 hmi hlast HI
                go_upto_region 36 with (go_at_call 14; refine HC.out.mono ?_; rintro e w5 ⟨rfl, hs, hb⟩; replace HY := Aside0.mk ((hb.2 gy (blk_lt HY.out) HG.out.1 HG.out.2.1 HG.out.2.2).trans HY.out); replace HO := Aside0.mk (HO.out.bag hs hb); clear hs hb x0 x1 x2 x3)
                clear HC
                have x1 : w5.cell? ⟨gy, 1, none⟩ = some (.int .i64 (j : Int)) := (blk_cell HY.out 1).trans rfl
                have z0 : w5.cell? ⟨bs, j, none⟩ = some (.string mx) := row_cell HO.out.sd j mx HT.out
                have u0 : decide ((j : Int) < 1) = false := decide_eq_false (by have := HJ.out; omega)
                have u1 : decide ((j : Int) > (L : Int)) = false := decide_eq_false (by have := HJ.out; omega)
                have u2 : decide ((L : Int) < (j : Int)) = false := decide_eq_false (by have := HJ.out; omega)
                have u3 : (j : Int) < (sd.length : Int) := by have := HJ.out; have := HLen.out; omega
                have u4 : 0 ≤ (j : Int) := by omega
                have u5 : decide (j < 1) = false := decide_eq_false (by have := HJ.out; omega)
                have u6 : decide (L < j) = false := decide_eq_false (by have := HJ.out; omega)
                have u7 : j < sd.length := by have := HJ.out; have := HLen.out; omega
                have u8 : ¬ L < j := by have := HJ.out; omega
                have u9 : ¬ j = 0 := by have := HJ.out; omega
                go_wp2_with (at_builtin; refine print_append_of encS w.heap.size rfl (.tmp 159) (.tmp 165) 26 9 _ 16 rfl Try.underlying26 info9 rfl (by decide) _ sd mx rfl rfl rfl HO.out.sd HO.out.hs.bel HO.out.hs.bel.size (by have := HLen.out.1; omega) ?_; intro v1 w15 ho hb hg hn; replace HO := Aside0.mk (HO.out.said mx ho hb hg hn); clear ho hb hg hn)
                exact ⟨⟨k + 1, L + 1, _, _, _, sd ++ [mx], gn, by omega, by omega, by omega, by go_num, rfl, rfl, by go_num, ⟨HO.out.more (by omega)⟩, HI2⟩, by simp [intOf]; omega⟩
            · have n3 : (xk == 3) = false := beq_eq_false_iff_ne.mpr k3
              have n3' : decide (xk = 3) = false := decide_eq_false k3
              clear k3
              go_wp2
              exact ⟨⟨k + 1, L, s, _, _, sd, gn, by omega, by omega, by omega, rfl, rfl, rfl, by go_num, ⟨HO.out.more (by omega)⟩, HI⟩, by simp [intOf]; omega⟩
    · have hex : decide (k < l0.length) = false ∨ (decide (k < l0.length) = true ∧ decide ((k : Int) < 200) = false) := by
        by_cases a : k < l0.length
        · exact Or.inr ⟨decide_eq_true a, decide_eq_false (by omega)⟩
        · exact Or.inl (decide_eq_false a)
      clear hlt
      have HIs := bag_ids HO.out.hs (by omega)
      have hil : (idsL s.l).length = L - gn.length := by unfold idsL; rw [List.length_map]; have := HI.out.cnt; omega
      have hws : IntKind.i64.wrap ((L : Int) - (gn.length : Int)) = ((L - gn.length : Nat) : Int) := by
        have := HLen.out; rw [IntWalk.i64_in _ (by omega)]; omega
      have HIs := Aside0.mk HIs
      have HIl := Aside0.mk hil
      clear hil
      rcases hex with q0 | ⟨q0, q1⟩
      all_goals
        go_wp2_with (go_at_call 15; refine HIs.out.mono ?_; rintro e w6 ⟨v, rfl, hR, hb⟩; obtain ⟨A9, c9, rfl⟩ := Kd.R_slice hR; rw [HIl.out]; replace HO := Aside0.mk (HO.out.below hb); clear hR hb)
        go_ret
        exact ⟨rfl, HO.out.hs.bel⟩
theorem splicelaw10_BagOnce.calls (A0 : Option Addr) (c0 : Nat) (l0 : List S29) (r : Bool) (w : World) (hr0 : Kd.C k29 w A0 l0.length l0) (hc0 : l0.length ≤ c0) (h : splicelaw10_BagOnce.f l0 = some r) (hr_ : r = true) :
    Calls Try.prog 3 #[.slice A0 l0.length c0] w fun e w' => e = .returned (.bool r) ∧ Below w.heap.size w w' := by
  subst hr_
  unfold splicelaw10_BagOnce.f at h
  split at h
  · rename_i hall
    rw [List.all_eq_true] at hall
    exact once_walk A0 c0 l0 w hr0 (fun y hy => of_decide_eq_true (hall y hy))
  · cases h

def wf29 (x : S29) : Prop := (Lit.int .i64 x.f0).wf = true ∧ (Lit.int .i64 x.f1).wf = true ∧ (Lit.int .i64 x.f2).wf = true ∧ x.f3.size ≤ 140737488351232 ∧ True
theorem op29 : Go.Proofs.Ytppoahccmcnenaa.Op.Op Try.prog k29 29 wf29 := op_mono (op_iso (op_struct Try.underlying29 (by kernel_rfl) (opfs_cons (op_int Try.underlying3 (by kernel_rfl)) rfl (opfs_cons (op_int Try.underlying3 (by kernel_rfl)) rfl (opfs_cons (op_int Try.underlying3 (by kernel_rfl)) rfl (opfs_cons (op_string Try.underlying9 (by kernel_rfl)) rfl (opfs_last (op_bool Try.underlying4 (by kernel_rfl)) rfl)))))) (fun x : S29 => (x.f0, x.f1, x.f2, x.f3, x.f4)) (fun y => ⟨y.1, y.2.1, y.2.2.1, y.2.2.2.1, y.2.2.2.2⟩) (fun _ => rfl)) (fun _ h => h)


/-! ### splicelaw10_BagOnce: function 3 -/
/-- THE ONE PURE STATEMENT of splicelaw10_BagOnce: yours. -/
def splicelaw10_BagOnce.Pure : Prop := ∀ (x0 : List (S29)), (x0.length * 48 ≤ 140737488351232 ∧ x0.length ≤ maxLen ∧ ∀ y0 ∈ x0, wf29 y0) → splicelaw10_BagOnce.f x0 = some true

end Go.Proofs.Ytppoahccmcnenaa.PO
