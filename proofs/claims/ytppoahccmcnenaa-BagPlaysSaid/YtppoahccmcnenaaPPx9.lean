-- written by a program of this session
import Derived.Test.YtppoahccmcnenaaPPx0
import Derived.Test.YtppoahccmcnenaaPPx2
import Derived.Test.YtppoahccmcnenaaPPx3
import Derived.Test.YtppoahccmcnenaaPPx4
import Derived.Test.YtppoahccmcnenaaPPx5
import Derived.Test.YtppoahccmcnenaaPPx6
import Derived.Test.YtppoahccmcnenaaPPx7
import Derived.Test.YtppoahccmcnenaaPPx8
namespace Go.Proofs.Ytppoahccmcnenaa.PP
open Go.RowKit Go.Proofs.Ytppoahccmcnenaa.Op Go.Proofs.YtppoahccmcnenaaW.PrintWords Go.Proofs.YtppoahccmcnenaaW.PrintLast Go.Proofs.YtppoahccmcnenaaW.PrintMore
attribute [local go_sem] max2_int min2_int max_two min_two max_three min_three max_four min_four   -- for this text's walks alone
set_option linter.unusedVariables false
set_option linter.unusedSimpArgs false

def keepI (p : Int → Bool) (l : List Int) : List Int := l.filter (fun x => !p x)
theorem zero_i64 (w : World) : (zeroValue 3).run Try.prog w = .ok (.int .i64 0) w := by kernel_rfl
structure DfR (W wr : World) (blk cap : Nat) (p : Int → Bool) (l : List Int) (I : World → Prop) (i j : Nat) (cur : Array Value) : Prop where
  at_ : wr.heap[blk]? = some (.cells cur 3 (0, 0))
  size : cur.size = cap
  pre : ∀ (k : Nat) (x : Int), (keepI p (l.take j))[k]? = some x → cur[k]? = some (.int .i64 x)
  cnt : (keepI p (l.take j)).length = i
  post : ∀ (k : Nat) (x : Int), j ≤ k → l[k]? = some x → cur[k]? = some (.int .i64 x)
  gr : W.grownBy wr (some blk)
  inv : I wr
theorem keepI_take (p : Int → Bool) (l : List Int) (j : Nat) (x : Int) (hx : l[j]? = some x) : keepI p (l.take (j + 1)) = keepI p (l.take j) ++ (if p x = true then [] else [x]) := by
  unfold keepI
  have e : l.take (j + 1) = l.take j ++ [x] := by
    obtain ⟨hj, he⟩ := List.getElem?_eq_some_iff.1 hx
    rw [List.take_succ_eq_append_getElem hj, he]
  rw [e, List.filter_append]
  congr 1
  cases h : p x <;> simp [h]
theorem grown_below_at {W wr w' : World} {blk : Nat} (h : W.grownBy wr (some blk)) (hb : Below wr.heap.size wr w') : W.grownBy w' (some blk) :=
  ⟨hb.os.trans h.os, hb.tape.trans h.tape, hb.output.trans h.output, Nat.le_trans h.size hb.size, fun k hk hn => (hb.block k (Nat.lt_of_lt_of_le hk h.size)).trans (h.block k hk hn)⟩
theorem grown_set_at {W wr : World} {blk : Nat} (h : W.grownBy wr (some blk)) (k : Nat) (v : Value) : W.grownBy (wr.setCell ⟨blk, k, none⟩ v) (some blk) :=
  ⟨h.os, h.tape, h.output, by simpa using h.size, fun j hj hn => (Below.heap_setCell wr ⟨blk, k, none⟩ v j (fun e => hn (by rw [e]))).trans (h.block j hj hn)⟩
theorem DfR.below {W wr w' : World} {blk cap : Nat} {p : Int → Bool} {l : List Int} {I : World → Prop} {i j : Nat} {cur : Array Value} (h : DfR W wr blk cap p l I i j cur) (hI : I w') (hb : Below wr.heap.size wr w') : DfR W w' blk cap p l I i j cur :=
  { h with at_ := blk_below h.at_ hb, gr := grown_below_at h.gr hb, inv := hI }
theorem DfR.skip {W wr : World} {blk cap : Nat} {p : Int → Bool} {l : List Int} {I : World → Prop} {i j : Nat} {cur : Array Value} (h : DfR W wr blk cap p l I i j cur) {x : Int} (hx : l[j]? = some x) (hp : p x = true) : DfR W wr blk cap p l I i (j + 1) cur := by
  have e := keepI_take p l j x hx
  rw [if_pos hp, List.append_nil] at e
  exact { h with pre := by rw [e]; exact h.pre, cnt := by rw [e]; exact h.cnt, post := fun k y hk hy => h.post k y (by omega) hy }
theorem DfR.put {W wr : World} {blk cap : Nat} {p : Int → Bool} {l : List Int} {I : World → Prop} {i j : Nat} {cur : Array Value} (h : DfR W wr blk cap p l I i j cur) (hI : ∀ (W : World) (k : Nat) (v : Value), I W → I (W.setCell ⟨blk, k, none⟩ v)) {x : Int} (hx : l[j]? = some x) (hp : p x = false) (hij : i ≤ j) (hc : i < cap) :
    DfR W (wr.setCell ⟨blk, i, none⟩ (.int .i64 x)) blk cap p l I (i + 1) (j + 1) (cur.setIfInBounds i (.int .i64 x)) := by
  have e := keepI_take p l j x hx
  rw [if_neg (by rw [hp]; decide)] at e
  have hs := h.size
  have hcnt := h.cnt
  refine ⟨blk_put h.at_ i _ rfl, by simp [h.size], fun k y hk => ?_, by rw [e, List.length_append, h.cnt]; rfl, fun k y hk hy => ?_, grown_set_at h.gr i _, hI _ _ _ h.inv⟩
  · rw [e, List.getElem?_append] at hk
    by_cases hki : k < (keepI p (l.take j)).length
    · rw [if_pos hki] at hk
      rw [Array.getElem?_setIfInBounds_ne (by omega)]
      exact h.pre k y hk
    · rw [if_neg hki, hcnt] at hk
      have hk0 : k = i := by
        obtain ⟨h1, _⟩ := List.getElem?_eq_some_iff.1 hk
        simp at h1
        omega
      subst hk0
      rw [Nat.sub_self] at hk
      have hxy : x = y := by simpa using hk
      subst hxy
      rw [Array.getElem?_setIfInBounds_self_of_lt (by omega)]
  · rw [Array.getElem?_setIfInBounds_ne (by omega)]
    exact h.post k y (by omega) hy
set_option maxHeartbeats 4000000 in
set_option maxRecDepth 100000 in
theorem delfuncI (p : Int → Bool) (g : Nat) (lb : Array Value) (eg : ∀ args w, (callFunc g args).run Try.prog w = .ok (.enter g args) w) (I : World → Prop) (blk cap : Nat) (l : List Int) (cur : Array Value) (w : World)
    (hp : PredI g lb p I blk l) (hI : I w) (hl : IntB w blk cap l cur) (hbig : l.length ≤ 1000000) :
    Calls Try.prog 28 #[.slice (some ⟨blk, 0, none⟩) l.length cap, .func (.func g) #[] lb] w fun e w' => e = .returned (.slice (some ⟨blk, 0, none⟩) (keepI p l).length cap) ∧ w.grownBy w' (some blk) ∧ ∃ cur', IntB w' blk cap (keepI p l) cur' := by
  have HC0 := Aside0.mk (ixfuncI p g lb eg I blk cap l cur w hp hI hl hbig)
  have HL := Aside0.mk hl
  have HP := Aside0.mk hp
  rcases ixI_spec p l 0 with ⟨hix, hk⟩ | ⟨i0, x0, hix, hx0, hpx0, hk⟩
  · rw [hix] at HC0
    rw [show keepI p l = l from hk]
    clear hl hI hp hix hk
    go_enter Try.func28, Try.ntmps28
    go_wp2_with (go_at_call 40; refine HC0.out.mono ?_; rintro e w1 ⟨rfl, hi, hb⟩; have HB := Aside0.mk hb; clear hi hb)
    go_ret
    exact ⟨rfl, grown_below_at ⟨rfl, rfl, rfl, Nat.le_refl _, fun _ _ _ => rfl⟩ HB.out, cur, HL.out.below HB.out⟩
  · rw [hix, Nat.zero_add] at HC0
    have hi0 := (List.getElem?_eq_some_iff.1 hx0).1
    have t1 : ((i0 : Int) == -1) = false := beq_eq_false_iff_ne.mpr (by omega)
    have t2 : decide ((i0 : Int) = -1) = false := decide_eq_false (by omega)
    have hwk0 : IntKind.i64.wrap ((i0 : Int) + 1) = (i0 : Int) + 1 := IntWalk.i64_in _ (by omega)
    have HK := Aside0.mk hk
    have HX0 := Aside0.mk (And.intro hx0 hpx0)
    clear hl hI hp hix hk hx0 hpx0
    go_enter Try.func28, Try.ntmps28
    go_upto_region 4 with (go_at_call 40; refine HC0.out.mono ?_; rintro e w1 ⟨rfl, hi, hb⟩; have HB := Aside0.mk hb; have HI1 := Aside0.mk hi; clear hi hb)
    have HD : Aside0 (DfR w w1 blk cap p l I i0 (i0 + 1) cur) := ⟨by
      have h0 : DfR w w1 blk cap p l I i0 i0 cur := ⟨blk_below HL.out.at_ HB.out, HL.out.size, fun k x hx => HL.out.val k x (by
          rw [show keepI p (l.take i0) = l.take i0 from HK.out] at hx
          rw [List.getElem?_take] at hx
          split at hx
          · exact hx
          · cases hx), by rw [show keepI p (l.take i0) = l.take i0 from HK.out, List.length_take]; omega, fun k x _ hx => HL.out.val k x hx, grown_below_at ⟨rfl, rfl, rfl, Nat.le_refl _, fun _ _ _ => rfl⟩ HB.out, HI1.out⟩
      exact h0.skip HX0.out.1 HX0.out.2⟩
    clear HC0 HK HX0 HB HI1
    go_wp2
    go_loopg [5, 6, 7] (l.length - (i0 + 1)) (fun gg s5 s6 s7 wr => ∃ (i j : Nat) (cur : Array Value), i < j ∧ j ≤ l.length ∧ l.length - j ≤ gg ∧ s5 = .int .i64 i ∧ s6 = .int .i64 j ∧ Aside0 (DfR w wr blk cap p l I i j cur))
    case atStart => exact ⟨i0, i0 + 1, cur, by omega, by omega, by omega, rfl, by go_num, HD⟩
    case round =>
      clear HD
      obtain ⟨i, j, cur, hij, hj, hg, rfl, rfl, HD⟩ := hrel
      by_cases hlt : j < l.length
      · have hltz : (j : Int) < (l.length : Int) := by omega
        obtain ⟨x, hx⟩ : ∃ x, l[j]? = some x := ⟨_, List.getElem?_eq_getElem hlt⟩
        have y0 : wr.cell? ⟨blk, j, none⟩ = some (.int .i64 x) := (blk_cell HD.out.at_ j).trans (HD.out.post j x (Nat.le_refl _) hx)
        have hcall := HP.out.call wr x (List.mem_of_getElem? hx) HD.out.inv
        have HX := Aside0.mk hx
        have hwk : IntKind.i64.wrap ((j : Int) + 1) = (j : Int) + 1 := IntWalk.i64_in _ (by omega)
        have hwi : IntKind.i64.wrap ((i : Int) + 1) = (i : Int) + 1 := IntWalk.i64_in _ (by omega)
        clear hx
        cases hq : p x with
        | true =>
          rw [hq] at hcall
          have HC := Aside0.mk hcall
          have HQ := Aside0.mk hq
          clear hcall hq
          go_wp2_with (go_at_fn g; refine HC.out.mono ?_; rintro e w' ⟨rfl, hb'⟩; have HB' := Aside0.mk hb'; clear hb')
          go_roundg (l.length - (j + 1))
          case measure => omega
          case rel => exact ⟨i, j + 1, cur, by omega, by omega, by omega, rfl, by go_num, ⟨(HD.out.below (HP.out.below _ _ HD.out.inv HB'.out) HB'.out).skip HX.out HQ.out⟩⟩
        | false =>
          rw [hq] at hcall
          have HC := Aside0.mk hcall
          have HQ := Aside0.mk hq
          clear hcall hq
          go_upto_region 9 with (go_at_fn g; refine HC.out.mono ?_; rintro e w' ⟨rfl, hb'⟩; have HB' := Aside0.mk hb'; clear hb')
          replace HD := Aside0.mk (HD.out.below (HP.out.below _ _ HD.out.inv HB'.out) HB'.out)
          clear y0
          have hcs := HD.out.size
          have hlc := HL.out.len
          obtain ⟨u, hu⟩ : ∃ u, cur[i]? = some u := ⟨_, Array.getElem?_eq_getElem (by omega)⟩
          have y1 : w'.cell? ⟨blk, i, none⟩ = some u := (blk_cell HD.out.at_ i).trans hu
          have y2 : w'.frozen? ⟨blk, i, none⟩ = false := blk_frozen HD.out.at_ i
          have hic : i < cap := by omega
          have hin : (i : Int) < (l.length : Int) := by omega
          clear hu hcs
          go_wp2
          go_roundg (l.length - (j + 1))
          case measure => omega
          case rel => exact ⟨i + 1, j + 1, _, by omega, by omega, by omega, by go_num, by go_num, ⟨HD.out.put HP.out.set HX.out HQ.out (by omega) hic⟩⟩
      · have hltz : ¬ (j : Int) < (l.length : Int) := by omega
        obtain rfl : j = l.length := by omega
        have hcs := HD.out.size
        have hlc := HL.out.len
        have hcl : ∀ ty, (Builtin.clear_ #[27] ty #[.slice (some ⟨blk, i, none⟩) (l.length - i) (cap - i)]).run Try.prog wr = .ok (.tuple #[]) (wr.setCells blk i (List.replicate (l.length - i) (.int .i64 0))) :=
          fun ty => Lib.run_clear_slice wr _ _ ty _ Try.underlying27 zero_i64 rfl rfl blk i _ _ (by omega) (fun t ht => by
            rw [blk_cell HD.out.at_ (i + t), Array.getElem?_eq_getElem (by omega)]; rfl) (fun t ht => blk_frozen HD.out.at_ (i + t))
        have hci : ¬ cap = i := by omega
        have hci2 : ¬ i = cap := by omega
        have hil : i ≤ l.length := by omega
        have hic : i ≤ cap := by omega
        have hil2 : (i : Int) ≤ (l.length : Int) := by omega
        have hic2 : (i : Int) ≤ (cap : Int) := by omega
        have hlc2 : (l.length : Int) ≤ (cap : Int) := by omega
        go_wp2
        go_ret
        have hcnt := HD.out.cnt
        rw [List.take_length] at hcnt
        obtain ⟨cur2, h1, h2, h3⟩ := setCells_row (List.replicate (l.length - i) (.int .i64 0)) i wr cur HD.out.at_ (by rw [List.length_replicate]; omega)
        obtain ⟨m1, m2, m3, m4⟩ := setCells_same blk (List.replicate (l.length - i) (.int .i64 0)) i wr
        refine ⟨by rw [hcnt]; rfl, ⟨m1.trans HD.out.gr.os, m2.trans HD.out.gr.tape, m3.trans HD.out.gr.output, by rw [m4]; exact HD.out.gr.size, fun k hk hn => (setCells_far _ _ k (fun e => hn (by rw [e]))).trans (HD.out.gr.block k hk hn)⟩, cur2, h1, h2.trans hcs, by rw [hcnt]; omega, HL.out.cap1, fun k x hk => ?_⟩
        have hki : k < i := by
          have := (List.getElem?_eq_some_iff.1 hk).1
          omega
        have hp2 := HD.out.pre k x (by rw [List.take_length]; exact hk)
        rw [← Array.getElem?_toList, h3, List.append_assoc, List.getElem?_append_left (by rw [List.length_take, Array.length_toList]; omega), List.getElem?_take, if_pos hki, Array.getElem?_toList]
        exact hp2

/-! ### the bag: Ready -/
def bagReady2.T : Bool × List (List Nat × List Nat) := (true, [([], []), ([0], [0]), ([1], [1]), ([2], [2]), ([], []), ([4], [4]), ([], []), ([6], [6]), ([5, 7], [5, 7]), ([3, 8], [3, 8]), ([9, 8, 0, 1, 2, 3, 4, 5, 6, 7, 8, 9], [9])])
def bagReady2.B : List Nat := [0, 1, 3, 7, 0, 16, 0, 64, 240, 511, 1023]
theorem bagReady2.tab : rtab .any (opsOf Try.f29 2) = bagReady2.T := by kernel_rfl
theorem bagReady2.bits : waitsOk bagReady2.T.2 bagReady2.B = true := by kernel_rfl
def apM (s : Bg) (id : Int) : Bool := s.cuts.contains (ofP ((findM s.l id).getD noMail).fr ((findM s.l id).getD noMail).too)
theorem IsBg.lookAt {w W : World} {g mb cb n : Nat} {s : Bg} (h : IsBg w W g mb cb n s) (id : Int) (hid : (Lit.int .i64 id).wf = true) :
    (Instr.lookup 58 (.map (some mb)) (.int .i64 id) false).run Try.prog W = .ok (mailV ((findM s.l id).getD noMail)) W := by
  obtain ⟨D, hown, hA⟩ := h.map
  obtain ⟨v, ps, hrun, hv⟩ := hown.lookup (Maps.int_keyed Try.underlying3) Try.underlying58 (zero_mail W) (mailE_mk noMail) (Maps.keyOf_int_mk Try.underlying3 hid)
  rw [hrun]
  obtain ⟨m, rfl, hm⟩ := mailE_inv hv
  have hm1 := (Prod.mk.inj hm).1
  have hh := hA.has id
  cases hf : findM s.l id with
  | none =>
    rw [hf] at hh
    rw [Maps.atKey_of_not_has hh] at hm1
    rw [mailD_inj hm1]; rfl
  | some k =>
    rw [hA.at_ id k hf] at hm1
    rw [mailD_inj hm1]; rfl
set_option maxHeartbeats 4000000 in
set_option maxRecDepth 100000 in
theorem bag_ready1 {w W : World} {g mb cb n : Nat} {s : Bg} (h : IsBg w W g mb cb n s) (gp : Nat) (hp : W.heap[gp]? = some (.cells #[.pointer (some ⟨g, 0, none⟩)] 23 (0, 0))) (id : Int) (hid : (Lit.int .i64 id).wf = true) :
    Calls Try.prog 29 #[.int .i64 id, .pointer (some ⟨gp, 0, none⟩)] W fun e W' => e = .returned (.bool (apM s id)) ∧ Below W.heap.size W W' := by
  unfold apM
  have hlk := h.lookAt id hid
  have hM : Adr ((findM s.l id).getD noMail).fr ∧ Adr ((findM s.l id).getD noMail).too ∧ True := by
    cases hf : findM s.l id with
    | none => exact ⟨⟨by decide, by decide⟩, ⟨by decide, by decide⟩, trivial⟩
    | some k => have := (h.ids k (findM_some hf).1).2.2; exact ⟨this.1, this.2.1, trivial⟩
  generalize (findM s.l id).getD noMail = m at hlk hM ⊢
  unfold mailV at hlk
  have HM := Aside0.mk hM
  have HS := Aside0.mk h
  obtain ⟨b, hb⟩ : ∃ b, s.cuts.contains (ofP m.fr m.too) = b := ⟨_, rfl⟩
  have HC := Aside0.mk hb
  rw [hb]
  have HP := Aside0.mk hp
  have p0 : W.cell? ⟨gp, 0, none⟩ = some (.pointer (some ⟨g, 0, none⟩)) := (blk_cell hp 0).trans rfl
  obtain ⟨c0, c1, c2, f1⟩ := h.cells
  clear h hM hb hp
  go_enter Try.func29, Try.ntmps29
  go_upto_region 2 with (fail)
  clear p0 c0 c1 c2 f1 hlk
  have HB := Aside0.mk ((Bx.start W).push #[.int .i64 m.id, .int .i64 m.fr, .int .i64 m.too, .string m.t] 34)
  replace HS := Aside0.mk (HS.out.below (below_alloc (Below.refl _ _) (.cells #[.int .i64 m.id, .int .i64 m.fr, .int .i64 m.too, .string m.t] 34)))
  replace HP := Aside0.mk (blk_alloc HP.out (.cells #[.int .i64 m.id, .int .i64 m.fr, .int .i64 m.too, .string m.t] 34))
  generalize W.alloc (.cells #[.int .i64 m.id, .int .i64 m.fr, .int .i64 m.too, .string m.t] 34) = W1 at HB HS HP ⊢
  generalize W.heap.size = g4 at HB ⊢
  replace HS := Aside0.mk (HS.out.below (below_drew1 (Below.refl _ _)))
  replace HB := Aside0.mk (HB.out.below (below_drew1 (Below.refl _ _)))
  replace HP := Aside0.mk (blk_below HP.out (below_drew1 (Below.refl _ _)))
  obtain ⟨c0, c1, c2, f1⟩ := HS.out.cells
  have p0 : World.cell? _ ⟨gp, 0, none⟩ = some (.pointer (some ⟨g, 0, none⟩)) := (blk_cell HP.out 0).trans rfl
  have y1 : World.cell? _ ⟨g4, 1, none⟩ = some (.int .i64 m.fr) := (blk_cell (HB.out.get 0 rfl) 1).trans rfl
  have y2 : World.cell? _ ⟨g4, 2, none⟩ = some (.int .i64 m.too) := (blk_cell (HB.out.get 0 rfl) 2).trans rfl
  refine start_ (n := 11) (S := fun w' => w'.cell? ⟨gp, 0, none⟩ = some (.pointer (some ⟨g, 0, none⟩)) ∧ w'.cell? ⟨g, 2, none⟩ = some (.map (some cb)) ∧ w'.cell? ⟨g4, 1, none⟩ = some (.int .i64 m.fr) ∧ w'.cell? ⟨g4, 2, none⟩ = some (.int .i64 m.too)) (ds := []) #[false, false, false, false, false, false, false, false, false, false, false] (by kernel_rfl) rfl rfl ⟨p0, c2, y1, y2⟩ (fun hHeld => ?_); refine with_tabW bagReady2.tab bagReady2.bits (fun HT_ HW_ => ?_)
  refine take_ (i := 0) (N := some 11) (v := ?_) (a' := ?_) #[true, false, false, false, false, false, false, false, false, false, false] rfl rfl (take_ofW HT_.out HW_.out (by kernel_rfl)) (fun _ _ _ h => h) (Or.inl ⟨by rfl, ?_⟩) hHeld ?_ ?_
  rotate_left
  · rintro w' ⟨s0, s1, s2, s3⟩
    go_simp
    with_reducible rfl
  rotate_left
  · simp only [Act.put, List.setIfInBounds_toArray, List.set_cons_zero, List.set_cons_succ, i64_w, i32_w]
    rfl
  refine pure_ (i := 1) (N := some 12) (v := ?_) (a' := ?_) #[true, true, false, false, false, false, false, false, false, false, false] rfl rfl (any_of HT_.out (by kernel_rfl)) (fun _ _ _ h => h) (Or.inl ⟨by rfl, ?_⟩) ?_ ?_
  rotate_left
  · intro w'
    go_simp
    with_reducible rfl
  rotate_left
  · simp only [Act.put, List.setIfInBounds_toArray, List.set_cons_zero, List.set_cons_succ, i64_w, i32_w]
    rfl
  refine pure_ (i := 2) (N := some 13) (v := ?_) (a' := ?_) #[true, true, true, false, false, false, false, false, false, false, false] rfl rfl (any_of HT_.out (by kernel_rfl)) (fun _ _ _ h => h) (Or.inl ⟨by rfl, ?_⟩) ?_ ?_
  rotate_left
  · intro w'
    go_simp
    with_reducible rfl
  rotate_left
  · simp only [Act.put, List.setIfInBounds_toArray, List.set_cons_zero, List.set_cons_succ, i64_w, i32_w]
    rfl
  refine take_ (i := 3) (N := some 14) (v := ?_) (a' := ?_) #[true, true, true, true, false, false, false, false, false, false, false] rfl rfl (take_ofW HT_.out HW_.out (by kernel_rfl)) (fun _ _ _ h => h) (Or.inl ⟨by rfl, ?_⟩) hHeld ?_ ?_
  rotate_left
  · rintro w' ⟨s0, s1, s2, s3⟩
    go_simp
    with_reducible rfl
  rotate_left
  · simp only [Act.put, List.setIfInBounds_toArray, List.set_cons_zero, List.set_cons_succ, i64_w, i32_w]
    rfl
  refine pure_ (i := 4) (N := some 15) (v := ?_) (a' := ?_) #[true, true, true, true, true, false, false, false, false, false, false] rfl rfl (any_of HT_.out (by kernel_rfl)) (fun _ _ _ h => h) (Or.inl ⟨by rfl, ?_⟩) ?_ ?_
  rotate_left
  · intro w'
    go_simp
    with_reducible rfl
  rotate_left
  · simp only [Act.put, List.setIfInBounds_toArray, List.set_cons_zero, List.set_cons_succ, i64_w, i32_w]
    rfl
  refine take_ (i := 5) (N := some 16) (v := ?_) (a' := ?_) #[true, true, true, true, true, true, false, false, false, false, false] rfl rfl (take_ofW HT_.out HW_.out (by kernel_rfl)) (fun _ _ _ h => h) (Or.inl ⟨by rfl, ?_⟩) hHeld ?_ ?_
  rotate_left
  · rintro w' ⟨s0, s1, s2, s3⟩
    go_simp
    with_reducible rfl
  rotate_left
  · simp only [Act.put, List.setIfInBounds_toArray, List.set_cons_zero, List.set_cons_succ, i64_w, i32_w]
    rfl
  refine pure_ (i := 6) (N := some 17) (v := ?_) (a' := ?_) #[true, true, true, true, true, true, true, false, false, false, false] rfl rfl (any_of HT_.out (by kernel_rfl)) (fun _ _ _ h => h) (Or.inl ⟨by rfl, ?_⟩) ?_ ?_
  rotate_left
  · intro w'
    go_simp
    with_reducible rfl
  rotate_left
  · simp only [Act.put, List.setIfInBounds_toArray, List.set_cons_zero, List.set_cons_succ, i64_w, i32_w]
    rfl
  refine take_ (i := 7) (N := some 18) (v := ?_) (a' := ?_) #[true, true, true, true, true, true, true, true, false, false, false] rfl rfl (take_ofW HT_.out HW_.out (by kernel_rfl)) (fun _ _ _ h => h) (Or.inl ⟨by rfl, ?_⟩) hHeld ?_ ?_
  rotate_left
  · rintro w' ⟨s0, s1, s2, s3⟩
    go_simp
    with_reducible rfl
  rotate_left
  · simp only [Act.put, List.setIfInBounds_toArray, List.set_cons_zero, List.set_cons_succ, i64_w, i32_w]
    rfl
  refine one_ (i := 8) (N := some 19) #[true, true, true, true, true, true, true, true, true, false, false] rfl rfl (one_of HT_.out (by kernel_rfl)) (by decide) (fun K hK => ?_)
  refine goes_ Try.func25 (by kernel_rfl) rfl #[.int .i64 m.fr, .int .i64 m.too] (by rfl) rfl rfl (by (try simp only [List.map_toArray, List.map_cons, List.map_nil]); first | done | rfl) ?_
  with_reducible refine (bag_of m.fr m.too _).mono ?_
  rintro e w6 ⟨rfl, hb⟩
  refine ⟨_, rfl, ?_⟩
  replace HS := Aside0.mk (HS.out.below hb)
  replace HB := Aside0.mk (HB.out.below hb)
  refine hK.out _ _ ⟨cell_below hb (hHeld.1), cell_below hb (hHeld.2.1), cell_below hb (hHeld.2.2.1), cell_below hb (hHeld.2.2.2)⟩ (fun hHeld => ?_)
  clear hK K hb
  refine norm_ (a' := ?_) ?_ ?_
  rotate_left
  · show Act.put _ (some 19) _ = _
    simp only [Act.put, List.setIfInBounds_toArray, List.set_cons_zero, List.set_cons_succ, i64_w, i32_w]
    rfl
  refine one_ (i := 9) (N := some 20) #[true, true, true, true, true, true, true, true, true, true, false] rfl rfl (one_of HT_.out (by kernel_rfl)) (by decide) (fun K hK => ?_)
  have hcut := HS.out.cutAt HM.out.1 HM.out.2.1
  rw [HC.out] at hcut
  refine look_ _ _ _ _ (by rfl) rfl rfl _ _ _ rfl rfl hcut ?_
  refine hK.out _ _ hHeld (fun hHeld => ?_)
  clear hK K hcut
  refine norm_ (a' := ?_) ?_ ?_
  rotate_left
  · show Act.put _ (some 20) _ = _
    simp only [Act.put, List.setIfInBounds_toArray, List.set_cons_zero, List.set_cons_succ, i64_w, i32_w]
    rfl
  refine pure_ (i := 10) (N := some 3) (v := ?_) (a' := ?_) #[true, true, true, true, true, true, true, true, true, true, true] rfl rfl (any_of HT_.out (by kernel_rfl)) (fun _ _ _ h => h) (Or.inl ⟨by rfl, ?_⟩) ?_ ?_
  rotate_left
  · intro w'
    go_simp
    with_reducible rfl
  rotate_left
  · simp only [Act.put, List.setIfInBounds_toArray, List.set_cons_zero, List.set_cons_succ, i64_w, i32_w]
    rfl
  refine done_ (done_of HT_.out (by kernel_rfl)) ?_
  clear HT_ HW_ hHeld
  go_wp2
  go_ret
  exact ⟨rfl, HB.out.bel⟩
section
open Go.Maps Go.Sort
theorem R_of_B {W : World} {base blk cap : Nat} {l : List Int} {cur : Array Value} (h : IntB W blk cap l cur) (hb : base ≤ blk) : Kd.R (Kd.int .i64) 3 W base (fun _ => True) (.slice (some ⟨blk, 0, none⟩) l.length cap) l := by
  refine R_ints rfl ⟨by simp, Or.inr ⟨blk, cap, cur, rfl, hb, h.at_, h.len, h.cap1, by rw [h.size, Nat.mul_one], ?_⟩⟩
  rw [Nat.mul_one]
  refine List.ext_getElem? (fun k => ?_)
  have hl := h.len
  have hs := h.size
  by_cases hk : k < l.length
  · rw [List.getElem?_take, if_pos hk, Array.getElem?_toList, h.val k _ (List.getElem?_eq_getElem hk), List.getElem?_map, List.getElem?_eq_getElem hk]; rfl
  · rw [List.getElem?_eq_none (by rw [List.length_take]; omega), List.getElem?_eq_none (by rw [List.length_map]; omega)]
theorem B_of_row {W : World} {base : Nat} {v : Value} {l : List Int} (h : W.ownsRow base 3 1 v l.length (l.map encZ)) : (v = .slice none 0 0 ∧ l = []) ∨ ∃ blk cap cur, v = .slice (some ⟨blk, 0, none⟩) l.length cap ∧ base ≤ blk ∧ IntB W blk cap l cur := by
  obtain ⟨_, ⟨h1, h2⟩ | ⟨blk, cap, cur, h1, h2, h3, h4, h5, h6, h7⟩⟩ := h
  · exact Or.inl ⟨h1, List.eq_nil_of_length_eq_zero h2⟩
  · refine Or.inr ⟨blk, cap, cur, h1, h2, h3, by rw [h6, Nat.mul_one], h4, h5, fun k x hx => ?_⟩
    obtain ⟨hk, _⟩ := List.getElem?_eq_some_iff.1 hx
    have h8 : (cur.toList.take (l.length * 1))[k]? = some (.int .i64 x) := by rw [h7, List.getElem?_map, hx]; rfl
    rw [List.getElem?_take, if_pos (by omega), Array.getElem?_toList] at h8
    exact h8
end
set_option maxRecDepth 100000 in
theorem ixfunc_nil (g : Nat) (lb : Array Value) (w : World) : Calls Try.prog 40 #[.slice none 0 0, .func (.func g) #[] lb] w fun e w' => e = .returned (.int .i64 (-1)) ∧ w = w' := by
  go_enter Try.func40, Try.ntmps40
  go_wp2
  go_loopg [5, 8] 0 (fun gg _ s8 wr => s8 = .int .i64 0 ∧ w = wr)
  case atStart => exact ⟨rfl, rfl⟩
  case round =>
    obtain ⟨rfl, rfl⟩ := hrel
    go_wp2
    go_ret
    exact ⟨rfl, rfl⟩
set_option maxRecDepth 100000 in
theorem delfunc_nil (g : Nat) (lb : Array Value) (w : World) : Calls Try.prog 28 #[.slice none 0 0, .func (.func g) #[] lb] w fun e w' => e = .returned (.slice none 0 0) ∧ w = w' := by
  have HC0 := Aside0.mk (ixfunc_nil g lb w)
  go_enter Try.func28, Try.ntmps28
  go_wp2_with (go_at_call 40; refine HC0.out.mono ?_; rintro e w1 ⟨rfl, rfl⟩)
  go_ret
  exact ⟨rfl, rfl⟩
def readyL (s : Bg) : List Int := keepI (apM s) (idsL s.l)
set_option maxRecDepth 100000 in
theorem bag_ready_nil (W : World) :
    Calls Try.prog 18 #[.pointer none] W fun e W' => e = .returned (.slice none 0 0) ∧ Below W.heap.size W W' := by
  have HX := Aside0.mk (blk_new W (.cells #[.pointer none] 23))
  have HB := Aside0.mk (below_alloc (Below.refl W.heap.size W) (.cells #[.pointer none] 23))
  go_enter Try.func18, Try.ntmps18
  go_upto_region 1 with (fail)
  generalize W.alloc (.cells #[.pointer none] 23) = W1 at HX HB ⊢
  obtain ⟨gp, hgp⟩ : ∃ gp, gp = W.heap.size := ⟨_, rfl⟩
  rw [← hgp] at HX ⊢
  clear hgp
  have p0 : W1.cell? ⟨gp, 0, none⟩ = some (.pointer none) := (blk_cell HX.out 0).trans rfl
  have HC := Aside0.mk (delfunc_nil 29 #[.pointer (some ⟨gp, 0, none⟩)] W1)
  have HI := Aside0.mk (bag_ids_nil W1)
  go_wp2_with (first | (go_at_call 15; refine HI.out.mono ?_; rintro e w1 ⟨rfl, rfl⟩) | (go_at_call 28; refine HC.out.mono ?_; rintro e w1 ⟨rfl, rfl⟩))
  go_ret
  exact ⟨rfl, HB.out⟩
set_option maxHeartbeats 4000000 in
set_option maxRecDepth 100000 in
theorem bag_ready {w W : World} {g mb cb n : Nat} {s : Bg} (h : IsBg w W g mb cb n s) (hn : n ≤ 1000000) :
    Calls Try.prog 18 #[.pointer (some ⟨g, 0, none⟩)] W fun e W' => ∃ v, e = .returned v ∧ Kd.R (Kd.int .i64) 3 W' W.heap.size (fun _ => True) v (readyL s) ∧ Below W.heap.size W W' := by
  unfold readyL
  have hb0 := below_alloc (Below.refl W.heap.size W) (.cells #[.pointer (some ⟨g, 0, none⟩)] 23)
  have HS := Aside0.mk (h.below hb0)
  have HX := Aside0.mk (blk_new W (.cells #[.pointer (some ⟨g, 0, none⟩)] 23))
  have HB := Aside0.mk hb0
  have HZ := Aside0.mk (alloc_size W (.cells #[.pointer (some ⟨g, 0, none⟩)] 23))
  have HN := Aside0.mk hn
  have HI := Aside0.mk (bag_idsW (h.below hb0) hn)
  have HW := Aside0.mk h.bel.size
  clear h hb0 hn
  go_enter Try.func18, Try.ntmps18
  go_upto_region 1 with (fail)
  have eg : ∀ args w, (callFunc 29 args).run Try.prog w = .ok (.enter 29 args) w := enters_of Try.func29 (by kernel_rfl) rfl
  have HE := Aside0.mk eg
  clear eg
  generalize W.alloc (.cells #[.pointer (some ⟨g, 0, none⟩)] 23) = W1 at HS HX HB HI HZ ⊢
  obtain ⟨gp, hgp⟩ : ∃ gp, gp = W.heap.size := ⟨_, rfl⟩
  rw [← hgp] at HX HZ ⊢
  have HGp := Aside0.mk (Nat.le_of_eq hgp.symm)
  clear hgp
  have p0 : W1.cell? ⟨gp, 0, none⟩ = some (.pointer (some ⟨g, 0, none⟩)) := (blk_cell HX.out 0).trans rfl
  have HD : ∀ (W2 : World) (v : Value), W2.ownsRow W1.heap.size 3 1 v (idsL s.l).length ((idsL s.l).map (Value.int .i64)) → Below W1.heap.size W1 W2 → Calls Try.prog 28 #[v, .func (.func 29) #[] #[.pointer (some ⟨gp, 0, none⟩)]] W2 fun e W' => ∃ v', e = .returned v' ∧ Kd.R (Kd.int .i64) 3 W' W.heap.size (fun _ => True) v' (keepI (apM s) (idsL s.l)) ∧ Below W.heap.size W W' := by
    intro W2 v hr hb
    have hz := HB.out.size
    rcases B_of_row hr with ⟨rfl, hl⟩ | ⟨blk, cap, cur, rfl, hbl, hB⟩
    · refine (delfunc_nil _ _ _).mono ?_
      rintro e W' ⟨rfl, rfl⟩
      rw [hl]
      exact ⟨_, rfl, Kd.R_nil _ _ _ _ _, HB.out.trans (hb.mono hz)⟩
    · have hlt := HS.out.lts
      have hgx := blk_lt HX.out
      have hw := HW.out
      refine (delfuncI (apM s) _ _ HE.out (fun W => IsBg w W g mb cb n s ∧ W.heap[gp]? = some (.cells #[.pointer (some ⟨g, 0, none⟩)] 23 (0, 0))) blk cap (idsL s.l) cur W2 ⟨fun W x hx hI => ?_, fun W W' hI hb => ⟨hI.1.below hb, blk_below hI.2 hb⟩, fun W k v hI => ⟨hI.1.setFar (by omega) ⟨by omega, by omega, by omega⟩ k v, blk_far (p := ⟨blk, k, none⟩) hI.2 (by show gp ≠ blk; omega) v⟩⟩ ⟨HS.out.below hb, blk_below HX.out hb⟩ hB ?_).mono ?_
      · obtain ⟨m, hm, rfl⟩ := List.mem_map.1 hx
        have hi := hI.1.ids m hm
        have hl := hI.1.lst
        have hn := HN.out
        exact bag_ready1 hI.1 gp hI.2 _ (wf_of (by omega))
      · have := HS.out.len
        unfold idsL; rw [List.length_map]; omega
      · rintro e W' ⟨rfl, hg, cur', hB'⟩
        exact ⟨_, rfl, R_of_B hB' (by omega), grown_below (by omega) (HB.out.trans (hb.mono hz)) hg⟩
  have HD' := Aside0.mk HD
  clear HD
  go_wp2_with (first | (go_at_call 15; refine HI.out.mono ?_; rintro e w1 ⟨v, rfl, hr, hb⟩; have HD2 := Aside0.mk (HD'.out w1 v hr hb); clear hr hb) | (go_at_call 28; refine HD2.out.mono ?_; rintro e w2 ⟨v', rfl, hr, hb⟩; have HR := Aside0.mk hr; have HB2 := Aside0.mk hb; clear hr hb))
  go_ret
  exact ⟨_, rfl, HR.out, HB2.out⟩

/-! ### two mails are the same -/
def eqMl (a b : Ml) : Bool := a.id == b.id && (a.fr == b.fr && (a.too == b.too && (a.t.toList == b.t.toList)))
theorem eqMail (d : Nat) (w : World) (a b : Ml) : (Op.equalIn (d + 2) 34 (.agg #[.int .i64 a.id, .int .i64 a.fr, .int .i64 a.too, .string a.t]) (.agg #[.int .i64 b.id, .int .i64 b.fr, .int .i64 b.too, .string b.t])).run Try.prog w = .ok (eqMl a b) w := by
  refine eqA_of Try.underlying34 (by kernel_rfl) ?_
  refine eqf_cons (by rfl) (by go_simp; rfl) (by go_simp; rfl) (by go_simp) ?_
  refine eqf_cons (by rfl) (by go_simp; rfl) (by go_simp; rfl) (by go_simp) ?_
  refine eqf_cons (by rfl) (by go_simp; rfl) (by go_simp; rfl) (by go_simp) ?_
  exact eqf_last (by rfl) (by go_simp; rfl) (by go_simp; rfl) (by go_simp)
theorem eqMl_self (a : Ml) : eqMl a a = true := by simp [eqMl]

/-! ### two rows of numbers are the same -/
theorem w1c (i : Nat) (h : i < 1000000000) : wrap64 ((i : Int) + 1) = ((i + 1 : Nat) : Int) := by unfold wrap64; omega
theorem same1_l0 (l : List Int) (hl : l.length ≤ 1000000) : ∀ (d k i : Nat), i + d = l.length → d < k → spliceref01_Same.l0 k l l (i : Int) = some true := by
  intro d
  induction d with
  | zero =>
    intro k i hi hk
    obtain ⟨k, rfl⟩ : ∃ k', k = k' + 1 := ⟨k - 1, by omega⟩
    rw [spliceref01_Same.l0, if_neg (by omega)]
  | succ d ih =>
    intro k i hi hk
    obtain ⟨k, rfl⟩ : ∃ k', k = k' + 1 := ⟨k - 1, by omega⟩
    rw [spliceref01_Same.l0, if_pos (by omega), if_pos (by omega), if_pos (by omega), if_pos rfl, w1c i (by omega), ih k (i + 1) (by omega) (by omega)]
theorem same1_f (k : Nat) (l : List Int) (hl : l.length ≤ 1000000) (hk : l.length < k) : spliceref01_Same.f k l l = some true := by
  have := same1_l0 l hl l.length k 0 (by omega) hk
  rw [show ((0 : Nat) : Int) = 0 from rfl] at this
  unfold spliceref01_Same.f
  rw [if_pos rfl, this]
theorem C_ints {W : World} {b : Nat} {t : TypeId} (l : List Int) (hl : l.length ≤ 1000000) (h : W.heap[b]? = some (.cells (l.map (Value.int .i64)).toArray t (0, 0))) : Kd.C (Kd.int .i64) W (some ⟨b, 0, none⟩) l.length l := by
  refine ⟨rfl, by omega, fun _ => ⟨_, rfl, fun j p hp => ⟨[.int .i64 p], rfl, rfl, fun i u hu => ?_⟩⟩⟩
  cases i with
  | succ i => simp at hu
  | zero =>
    injection hu with hu
    subst hu
    have e : (⟨b, 0, none⟩ : Addr).add (j * (Kd.int .i64).sz + 0) = ⟨b, j, none⟩ := by
      rw [show (Kd.int .i64).sz = 1 from rfl]; simp [Addr.add]; try omega
    rw [e, blk_cell h j]
    simp [hp]
theorem same_self {W : World} {A0 A1 : Option Addr} {c0 c1 : Nat} (l : List Int) (hl : l.length ≤ 1000000) (h0 : Kd.C (Kd.int .i64) W A0 l.length l) (hc0 : l.length ≤ c0) (h1 : Kd.C (Kd.int .i64) W A1 l.length l) (hc1 : l.length ≤ c1) :
    Calls Try.prog 17 #[.slice A0 l.length c0, .slice A1 l.length c1] W fun e W' => e = .returned (.bool true) ∧ Below W.heap.size W W' :=
  (spliceref01_Same.calls (l.length + 1) A0 c0 l A1 c1 l true W h0 hc0 h1 hc1 (same1_f _ l hl (by omega))).mono fun e W' h => ⟨h.1, by obtain ⟨m, e⟩ := h.2.out; rw [e]; exact pw_below_drewN (Below.refl _ _) m⟩

/-! ### the bag, a row of texts and a row of numbers at once -/
abbrev encS : ByteArray → Value := Value.string
abbrev encN : Int → Value := Value.int .i64
theorem row_step {W W' : World} {base : Nat} {e : TypeId} {v : Value} {n : Nat} {xs : List Value} (h : W.ownsRow base e 1 v n xs) (hk : ∀ k, v.ownBlock = some k → W'.heap[k]? = W.heap[k]?) : W'.ownsRow base e 1 v n xs := by
  obtain ⟨h0, ⟨h1, h2⟩ | ⟨b, cap, cur, h1, h2, h3, h4⟩⟩ := h
  · exact ⟨h0, Or.inl ⟨h1, h2⟩⟩
  · exact ⟨h0, Or.inr ⟨b, cap, cur, h1, h2, (hk b (by rw [h1]; rfl)).trans h3, h4⟩⟩
theorem row_lt {W : World} {base : Nat} {e : TypeId} {v : Value} {n : Nat} {xs : List Value} (h : W.ownsRow base e 1 v n xs) (k : Nat) (hk : v.ownBlock = some k) : base ≤ k ∧ k < W.heap.size := by
  obtain ⟨h0, ⟨h1, h2⟩ | ⟨b, cap, cur, h1, h2, h3, h4⟩⟩ := h
  · rw [h1] at hk; cases hk
  · rw [h1] at hk
    have : b = k := by injection hk
    subst this
    exact ⟨h2, blk_lt h3⟩
theorem row_nil (W : World) (base : Nat) (e : TypeId) : W.ownsRow base e 1 (.slice none 0 0) 0 [] := ⟨rfl, Or.inl ⟨rfl, rfl⟩⟩
theorem row_at {W : World} {base : Nat} {e : TypeId} {α : Type} {enc : α → Value} {v : Value} {l : List α} (h : W.ownsRow base e 1 v l.length (l.map enc)) (hn : 0 < l.length) : ∃ b cap, v = .slice (some ⟨b, 0, none⟩) l.length cap ∧ ∀ (i : Nat) (x : α), l[i]? = some x → W.cell? ⟨b, i, none⟩ = some (enc x) := by
  obtain ⟨h0, ⟨h1, h2⟩ | ⟨b, cap, cur, h1, h2, h3, h4, h5, h6, h7⟩⟩ := h
  · omega
  · refine ⟨b, cap, h1, fun i x hx => ?_⟩
    obtain ⟨hi, _⟩ := List.getElem?_eq_some_iff.1 hx
    have h8 : (cur.toList.take (l.length * 1))[i]? = some (enc x) := by rw [h7, List.getElem?_map, hx]; rfl
    rw [List.getElem?_take, if_pos (by omega), Array.getElem?_toList] at h8
    exact (blk_cell h3 i).trans h8
theorem row_cell {W : World} {base : Nat} {e : TypeId} {α : Type} {enc : α → Value} {b c : Nat} {l : List α} (h : W.ownsRow base e 1 (.slice (some ⟨b, 0, none⟩) l.length c) l.length (l.map enc)) (i : Nat) (x : α) (hx : l[i]? = some x) : W.cell? ⟨b, i, none⟩ = some (enc x) := by
  obtain ⟨hi, _⟩ := List.getElem?_eq_some_iff.1 hx
  obtain ⟨b2, c2, e2, h2⟩ := row_at h (by omega)
  injection e2 with e2
  injection e2 with e2
  injection e2 with e2
  rw [e2]
  exact h2 i x hx
theorem row_slice {W : World} {base : Nat} {e : TypeId} {v : Value} {n : Nat} {xs : List Value} (h : W.ownsRow base e 1 v n xs) : ∃ A c, v = .slice A n c := by
  obtain ⟨h0, ⟨h1, h2⟩ | ⟨b, cap, cur, h1, h2, h3, h4⟩⟩ := h
  · exact ⟨none, 0, by rw [h1, h2]⟩
  · exact ⟨_, _, h1⟩
theorem IsBg.grownO {w W w1 : World} {g mb cb n : Nat} {s : Bg} (h : IsBg w W g mb cb n s) {vo : Option Nat} (hg : W.grownBy w1 vo) (ho : ∀ k, vo = some k → k ≠ g ∧ k ≠ mb ∧ k ≠ cb) (hb : Below w.heap.size w w1) : IsBg w w1 g mb cb n s := by
  obtain ⟨D, h3, h4⟩ := h.map
  obtain ⟨E, h5, h6⟩ := h.cut
  have hl := h.lts
  exact ⟨(hg.block g hl.1 (fun q => (ho g q.symm).1 rfl)).trans h.own, ⟨D, World.ownsMap.kept h3 hg (fun q => (ho mb (by first | exact q | exact q.symm)).2.1 rfl), h4⟩, ⟨E, World.ownsMap.kept h5 hg (fun q => (ho cb (by first | exact q | exact q.symm)).2.2 rfl), h6⟩, h.asc, h.ids, h.lst, h.len, h.g1, h.m1, h.c1, h.gm, h.gc, h.mc, hb⟩
structure OnW (w wr : World) (g mb cb n : Nat) (s : Bg) (vs vg : Value) (sd : List ByteArray) (gn : List Int) : Prop where
  hs : IsBg w wr g mb cb n s
  sd : wr.ownsRow w.heap.size 9 1 vs sd.length (sd.map encS)
  gn : wr.ownsRow w.heap.size 3 1 vg gn.length (gn.map encN)
  os : ∀ k, vs.ownBlock = some k → k ≠ g ∧ k ≠ mb ∧ k ≠ cb
  og : ∀ k, vg.ownBlock = some k → k ≠ g ∧ k ≠ mb ∧ k ≠ cb
  ap : ∀ k, vs.ownBlock = some k → vg.ownBlock = some k → False
section
variable {w wr w2 : World} {g mb cb n m : Nat} {s s2 : Bg} {vs vg v1 : Value} {sd : List ByteArray} {gn : List Int}
theorem OnW.below (h : OnW w wr g mb cb n s vs vg sd gn) (hb : Below wr.heap.size wr w2) : OnW w w2 g mb cb n s vs vg sd gn :=
  ⟨h.hs.below hb, row_step h.sd (fun k hk => hb.block k (row_lt h.sd k hk).2), row_step h.gn (fun k hk => hb.block k (row_lt h.gn k hk).2), h.os, h.og, h.ap⟩
theorem OnW.more (h : OnW w wr g mb cb n s vs vg sd gn) (hm : n ≤ m) : OnW w wr g mb cb m s vs vg sd gn := { h with hs := h.hs.more hm }
theorem OnW.bag (h : OnW w wr g mb cb n s vs vg sd gn) (h2 : IsBg w w2 g mb cb m s2) (hk : BgKept wr w2 g mb cb) : OnW w w2 g mb cb m s2 vs vg sd gn :=
  ⟨h2, row_step h.sd (fun k q => hk.2 k (row_lt h.sd k q).2 (h.os k q).1 (h.os k q).2.1 (h.os k q).2.2), row_step h.gn (fun k q => hk.2 k (row_lt h.gn k q).2 (h.og k q).1 (h.og k q).2.1 (h.og k q).2.2), h.os, h.og, h.ap⟩
theorem OnW.said (h : OnW w wr g mb cb n s vs vg sd gn) (x : ByteArray) (h1 : w2.ownsRow w.heap.size 9 1 v1 (sd ++ [x]).length ((sd ++ [x]).map encS)) (hb : Below w.heap.size w w2) (hg : wr.grownBy w2 vs.ownBlock) (ho : v1.ownBlock = vs.ownBlock ∨ ∃ b, v1.ownBlock = some b ∧ wr.heap.size ≤ b) : OnW w w2 g mb cb n s v1 vg (sd ++ [x]) gn := by
  have hl := h.hs.lts
  refine ⟨h.hs.grownO hg h.os hb, h1, row_step h.gn (fun k q => hg.block k (row_lt h.gn k q).2 (fun e => h.ap k e.symm q)), fun k q => ?_, h.og, fun k q q2 => ?_⟩
  · rcases ho with e | ⟨b, e, hbb⟩
    · exact h.os k (e ▸ q)
    · rw [e] at q
      injection q with q
      omega
  · rcases ho with e | ⟨b, e, hbb⟩
    · exact h.ap k (e ▸ q) q2
    · rw [e] at q
      injection q with q
      have := (row_lt h.gn k q2).2
      omega
theorem OnW.gone (h : OnW w wr g mb cb n s vs vg sd gn) (x : Int) (h1 : w2.ownsRow w.heap.size 3 1 v1 (gn ++ [x]).length ((gn ++ [x]).map encN)) (hb : Below w.heap.size w w2) (hg : wr.grownBy w2 vg.ownBlock) (ho : v1.ownBlock = vg.ownBlock ∨ ∃ b, v1.ownBlock = some b ∧ wr.heap.size ≤ b) : OnW w w2 g mb cb n s vs v1 sd (gn ++ [x]) := by
  have hl := h.hs.lts
  refine ⟨h.hs.grownO hg h.og hb, row_step h.sd (fun k q => hg.block k (row_lt h.sd k q).2 (fun e => h.ap k q e.symm)), h1, h.os, fun k q => ?_, fun k q2 q => ?_⟩
  · rcases ho with e | ⟨b, e, hbb⟩
    · exact h.og k (e ▸ q)
    · rw [e] at q
      injection q with q
      omega
  · rcases ho with e | ⟨b, e, hbb⟩
    · exact h.ap k q2 (e ▸ q)
    · rw [e] at q
      injection q with q
      have := (row_lt h.sd k q2).2
      omega
end
theorem info9 : (Try.prog.info? 9).map (fun i => (i.zero, i.size, i.bytes)) = some (some (.string ByteArray.empty), 1, 16) := by kernel_rfl
theorem info3i : (Try.prog.info? 3).map (fun i => (i.zero, i.size, i.bytes)) = some (some (.int .i64 0), 1, 8) := by kernel_rfl
theorem onw_lit {w W : World} {g mb cb n : Nat} {s : Bg} (h : IsBg w W g mb cb n s) (x : ByteArray) : OnW w (W.alloc (.cells #[.string x] 9)) g mb cb n s (.slice (some ⟨W.heap.size, 0, none⟩) 1 1) (.slice none 0 0) [x] [] := by
  have hl := h.lts
  refine ⟨h.below (below_alloc (Below.refl _ _) _), ⟨rfl, Or.inr ⟨W.heap.size, 1, #[.string x], rfl, h.bel.size, blk_new W _, Nat.le_refl _, by decide, rfl, rfl⟩⟩, row_nil _ _ _, fun k q => ?_, fun k q => (by cases q), fun k _ q => (by cases q)⟩
  injection q with q
  have q2 : W.heap.size = k := q
  omega

/-! ### the document's bag, read as the program's -/
def m74 (m : Ml) : S74 := ⟨m.id, m.fr, m.too, m.t⟩
def p89 (p : Int × Int) : S89 := ⟨p.1, p.2⟩
def lsR (s : Bg) : List S74 := s.l.map m74
def csR (s : Bg) : List S89 := s.cuts.map p89
theorem rd74 (l : List Ml) (i : Nat) (m : Ml) (h : l[i]? = some m) : rd_T74 (l.map m74) (i : Int) = m74 m := by
  unfold rd_T74
  rw [Int.toNat_natCast, List.getD_eq_getElem?_getD, List.getElem?_map, h]; rfl
theorem rd89 (l : List (Int × Int)) (i : Nat) (m : Int × Int) (h : l[i]? = some m) : rd_T89 (l.map p89) (i : Int) = p89 m := by
  unfold rd_T89
  rw [Int.toNat_natCast, List.getD_eq_getElem?_getD, List.getElem?_map, h]; rfl
theorem w1r (i : Nat) (h : i < 1000000000) : wrap64 ((i : Int) + 1) = ((i + 1 : Nat) : Int) := by unfold wrap64; omega
theorem of_f (x y : Int) : spliceref10_of.f x y = some (ofP x y) := by
  unfold spliceref10_of.f ofP
  split
  · congr 2 <;> omega
  · congr 2 <;> omega
theorem adr_f (n : Int) : spliceref10_address.f n = some (adr n) := by
  unfold spliceref10_address.f adr
  by_cases h : 0 ≤ n
  · rw [if_pos h, decide_eq_true h, Bool.true_and]
  · rw [if_neg h, decide_eq_false h, Bool.false_and]
theorem drop_at {α : Type} {l : List α} {i : Nat} {x : α} (h : l[i]? = some x) : l.drop i = x :: l.drop (i + 1) := by
  obtain ⟨hi, he⟩ := List.getElem?_eq_some_iff.1 h
  rw [List.drop_eq_getElem_cons hi, he]
theorem apart_l0 (L : List S74) (a : Int) (c : List (Int × Int)) (hc : c.length ≤ 1000000) (x y : Int) : ∀ (d k i : Nat), i + d = c.length → d < k → spliceref10_Bag_apart.l0 k x y (i : Int) L a (c.map p89) = some ((c.drop i).contains (ofP x y)) := by
  intro d
  induction d with
  | zero =>
    intro k i hi hk
    obtain ⟨k, rfl⟩ : ∃ k', k = k' + 1 := ⟨k - 1, by omega⟩
    rw [spliceref10_Bag_apart.l0, if_neg (by rw [List.length_map]; omega), List.drop_eq_nil_of_le (by omega)]; rfl
  | succ d ih =>
    intro k i hi hk
    obtain ⟨k, rfl⟩ : ∃ k', k = k' + 1 := ⟨k - 1, by omega⟩
    obtain ⟨p, hp⟩ : ∃ p, c[i]? = some p := ⟨_, List.getElem?_eq_getElem (by omega)⟩
    rw [spliceref10_Bag_apart.l0, if_pos (by rw [List.length_map]; omega), if_pos (by omega), of_f, Option.bind_some, rd89 c i p hp, w1r i (by omega), ih k (i + 1) (by omega) (by omega), drop_at hp, List.contains_cons]
    have e : (((p89 p).f0 == (ofP x y).1) && ((p89 p).f1 == (ofP x y).2)) = (ofP x y == p) := by
      obtain ⟨p1, p2⟩ := p
      obtain ⟨q1, q2⟩ := ofP x y
      rw [Bool.eq_iff_iff]
      simp only [p89, Bool.and_eq_true, beq_iff_eq, Prod.mk.injEq]
      constructor
      · rintro ⟨rfl, rfl⟩; exact ⟨rfl, rfl⟩
      · rintro ⟨rfl, rfl⟩; exact ⟨rfl, rfl⟩
    rw [e]
    cases (ofP x y == p) <;> rfl
theorem apart_f (L : List S74) (a : Int) (c : List (Int × Int)) (hc : c.length ≤ 1000000) (x y : Int) (k : Nat) (hk : c.length < k) : spliceref10_Bag_apart.f k L a (c.map p89) x y = some (c.contains (ofP x y)) := by
  unfold spliceref10_Bag_apart.f
  have := apart_l0 L a c hc x y c.length k 0 (by omega) hk
  rw [List.drop_zero] at this
  exact this
def fiR : List Ml → Int → Nat → Int
  | [], _, _ => -1
  | m :: l, id, i => if m.id = id then (i : Int) else fiR l id (i + 1)
theorem fiR_none (l : List Ml) (id : Int) : ∀ i, findM l id = none → fiR l id i = -1 := by
  induction l with
  | nil => intro i _; rfl
  | cons m l ih =>
    intro i h
    unfold findM at h
    rw [List.find?_cons] at h
    by_cases e : m.id = id
    · rw [show (m.id == id) = true from beq_iff_eq.mpr e] at h; cases h
    · rw [show (m.id == id) = false from beq_eq_false_iff_ne.mpr e] at h
      unfold fiR
      rw [if_neg e]
      exact ih (i + 1) h
theorem fiR_some (l : List Ml) (id : Int) (m : Ml) : ∀ i, findM l id = some m → ∃ j, fiR l id i = ((i + j : Nat) : Int) ∧ l[j]? = some m := by
  induction l with
  | nil => intro i h; simp [findM] at h
  | cons a l ih =>
    intro i h
    unfold findM at h
    rw [List.find?_cons] at h
    by_cases e : a.id = id
    · rw [show (a.id == id) = true from beq_iff_eq.mpr e] at h
      injection h with h
      subst h
      exact ⟨0, by unfold fiR; rw [if_pos e]; rfl, rfl⟩
    · rw [show (a.id == id) = false from beq_eq_false_iff_ne.mpr e] at h
      obtain ⟨j, h1, h2⟩ := ih (i + 1) h
      exact ⟨j + 1, by unfold fiR; rw [if_neg e, h1]; congr 1; omega, h2⟩
theorem find_l0 (l : List Ml) (hl : l.length ≤ 1000000) (a : Int) (C : List S89) (id : Int) : ∀ (d k i : Nat), i + d = l.length → d < k → spliceref10_Bag_Find.l0 k id (i : Int) (l.map m74) a C = some (fiR (l.drop i) id i) := by
  intro d
  induction d with
  | zero =>
    intro k i hi hk
    obtain ⟨k, rfl⟩ : ∃ k', k = k' + 1 := ⟨k - 1, by omega⟩
    rw [spliceref10_Bag_Find.l0, if_neg (by rw [List.length_map]; omega), List.drop_eq_nil_of_le (by omega)]; rfl
  | succ d ih =>
    intro k i hi hk
    obtain ⟨k, rfl⟩ : ∃ k', k = k' + 1 := ⟨k - 1, by omega⟩
    obtain ⟨m, hm⟩ : ∃ m, l[i]? = some m := ⟨_, List.getElem?_eq_getElem (by omega)⟩
    rw [spliceref10_Bag_Find.l0, if_pos (by rw [List.length_map]; omega), if_pos (by omega), rd74 l i m hm, w1r i (by omega), ih k (i + 1) (by omega) (by omega), drop_at hm]
    unfold fiR
    by_cases e : m.id = id
    · rw [if_pos (show (m74 m).f0 = id from e), if_pos e]
    · rw [if_neg (show ¬ (m74 m).f0 = id from e), if_neg e]
      cases l.drop (i + 1) <;> rfl
theorem find_f (s : Bg) (hl : s.l.length ≤ 400) (id : Int) (k : Nat) (hk : 400 < k) : spliceref10_Bag_Find.f k (lsR s) s.last (csR s) id = some (fiR s.l id 0) := by
  unfold spliceref10_Bag_Find.f
  have := find_l0 s.l (by omega) s.last (csR s) id s.l.length k 0 (by omega) (by omega)
  rw [List.drop_zero] at this
  exact this
theorem without_l0 (l : List Ml) (hl : l.length ≤ 1000000) (a : Int) (C : List S89) (id : Int) : ∀ (d k i : Nat) (acc : List S74), i + d = l.length → d < k → acc.length ≤ i → spliceref10_Bag_without.l0 k id acc (i : Int) (l.map m74) a C = some (acc ++ (dropM (l.drop i) id).map m74, a, C) := by
  intro d
  induction d with
  | zero =>
    intro k i acc hi hk ha
    obtain ⟨k, rfl⟩ : ∃ k', k = k' + 1 := ⟨k - 1, by omega⟩
    rw [spliceref10_Bag_without.l0, if_neg (by rw [List.length_map]; omega), List.drop_eq_nil_of_le (by omega)]
    simp [dropM]
  | succ d ih =>
    intro k i acc hi hk ha
    obtain ⟨k, rfl⟩ : ∃ k', k = k' + 1 := ⟨k - 1, by omega⟩
    obtain ⟨m, hm⟩ : ∃ m, l[i]? = some m := ⟨_, List.getElem?_eq_getElem (by omega)⟩
    rw [spliceref10_Bag_without.l0, if_pos (by rw [List.length_map]; omega), if_pos (by omega), rd74 l i m hm, w1r i (by omega), drop_at hm]
    unfold dropM
    rw [List.filter_cons]
    by_cases e : m.id = id
    · rw [if_pos (show (m74 m).f0 = id from e), ih k (i + 1) acc (by omega) (by omega) (by omega), if_neg (by simp [e])]; rfl
    · rw [if_neg (show ¬ (m74 m).f0 = id from e), if_pos (by omega), ih k (i + 1) _ (by omega) (by omega) (by rw [List.length_append, List.length_singleton]; omega), if_pos (by simp [e]), List.map_cons, List.append_assoc]; rfl
theorem without_f (s : Bg) (hl : s.l.length ≤ 400) (id : Int) (k : Nat) (hk : 400 < k) : spliceref10_Bag_without.f k (lsR s) s.last (csR s) id = some (lsR { s with l := dropM s.l id }, s.last, csR s) := by
  unfold spliceref10_Bag_without.f
  have := without_l0 s.l (by omega) s.last (csR s) id s.l.length k 0 [] (by omega) (by omega) (Nat.le_refl _)
  rw [List.drop_zero, List.nil_append] at this
  exact this
theorem with_l0 (l : List Ml) (hl : l.length ≤ 1000000) (a : Int) (ha2 : 0 ≤ a ∧ a ≤ 1000000) (C : List S89) (m0 : Int) (f t : Int) (x : ByteArray) : ∀ (d k i : Nat) (acc : List S74), i + d = l.length → d < k → acc.length ≤ i → spliceref10_Bag_with.l0 k acc (i : Int) (l.map m74) a C m0 f t x = some (acc ++ (l.drop i).map m74 ++ [⟨a + 1, f, t, x⟩], a + 1, C, a + 1, 0) := by
  have hw : wrap64 (a + 1) = a + 1 := by unfold wrap64; omega
  intro d
  induction d with
  | zero =>
    intro k i acc hi hk ha
    obtain ⟨k, rfl⟩ : ∃ k', k = k' + 1 := ⟨k - 1, by omega⟩
    rw [spliceref10_Bag_with.l0, if_neg (by rw [List.length_map]; omega), if_pos (by omega), List.drop_eq_nil_of_le (by omega), hw]
    simp
  | succ d ih =>
    intro k i acc hi hk ha
    obtain ⟨k, rfl⟩ : ∃ k', k = k' + 1 := ⟨k - 1, by omega⟩
    obtain ⟨m, hm⟩ : ∃ m, l[i]? = some m := ⟨_, List.getElem?_eq_getElem (by omega)⟩
    rw [spliceref10_Bag_with.l0, if_pos (by rw [List.length_map]; omega), if_pos (by omega), if_pos (by omega), rd74 l i m hm, w1r i (by omega), ih k (i + 1) _ (by omega) (by omega) (by rw [List.length_append, List.length_singleton]; omega), drop_at hm, List.map_cons]
    simp [m74]
theorem with_f (s : Bg) (hl : s.l.length ≤ 400) (ha : 0 ≤ s.last ∧ s.last ≤ 1000000) (m : Ml) (k : Nat) (hk : 400 < k) : spliceref10_Bag_with.f k (lsR s) s.last (csR s) m.id m.fr m.too m.t = some (lsR (addF s m).1, (addF s m).1.last, csR (addF s m).1, (addF s m).2.1, (addF s m).2.2) := by
  unfold spliceref10_Bag_with.f addF
  by_cases h : s.l.length < 400
  · rw [if_neg (by unfold lsR; rw [List.length_map]; omega), if_pos h]
    have := with_l0 s.l (by omega) s.last ha (csR s) m.id m.fr m.too m.t s.l.length k 0 [] (by omega) (by omega) (Nat.le_refl _)
    rw [List.drop_zero, List.nil_append] at this
    refine Eq.trans this ?_
    simp [lsR, addB, m74, csR]
  · rw [if_pos (by unfold lsR; rw [List.length_map]; omega), if_neg h]
theorem send_f (s : Bg) (hl : s.l.length ≤ 400) (ha : 0 ≤ s.last ∧ s.last ≤ 1000000) (f t : Int) (x : ByteArray) (k : Nat) (hk : 401 < k) : spliceref10_Bag_Send.f k (lsR s) s.last (csR s) f t x = some (lsR (sendB s f t x).1, (sendB s f t x).1.last, csR (sendB s f t x).1, (sendB s f t x).2.1, (sendB s f t x).2.2) := by
  obtain ⟨k, rfl⟩ : ∃ k', k = k' + 1 := ⟨k - 1, by omega⟩
  unfold spliceref10_Bag_Send.f sendB
  rw [adr_f, Option.bind_some, adr_f]
  cases adr f
  · rw [Bool.false_and, if_neg (by decide), if_neg (by decide), spliceref10_Bag_Send.j0, if_pos rfl]
  · rw [Bool.true_and, if_pos rfl, Option.bind_some, spliceref10_Bag_Send.j0]
    cases adr t
    · rw [if_pos (show (!false) = true from rfl), if_neg (by decide)]
    · rw [if_neg (show ¬ (!true) = true by decide), if_pos rfl]
      by_cases hx : (x.size : Int) ≤ 65536
      · rw [if_neg (by omega), if_pos hx, with_f s hl ha ⟨0, f, t, x⟩ k (by omega)]; rfl
      · rw [if_pos (by omega), if_neg hx]
theorem twice_f (s : Bg) (hl : s.l.length ≤ 400) (ha : 0 ≤ s.last ∧ s.last ≤ 1000000) (id : Int) (k : Nat) (hk : 401 < k) : spliceref10_Bag_Twice.f k (lsR s) s.last (csR s) id = some (lsR (twiceB s id).1, (twiceB s id).1.last, csR (twiceB s id).1, (twiceB s id).2.1, (twiceB s id).2.2) := by
  unfold spliceref10_Bag_Twice.f twiceB
  rw [find_f s hl id k (by omega), Option.bind_some]
  cases hf : findM s.l id with
  | none => rw [fiR_none _ _ 0 hf, if_pos (by decide)]
  | some m =>
    obtain ⟨j, h1, h2⟩ := fiR_some _ _ m 0 hf
    have hj := (List.getElem?_eq_some_iff.1 h2).1
    rw [h1, Nat.zero_add, if_neg (by omega), if_pos (by omega), if_pos (by unfold lsR; rw [List.length_map]; omega), show rd_T74 (lsR s) (j : Int) = m74 m from rd74 s.l j m h2]
    exact (congrArg (fun z => Option.bind z _) (with_f s hl ha m k (by omega))).trans rfl
theorem lose_f (s : Bg) (hl : s.l.length ≤ 400) (id : Int) (k : Nat) (hk : 401 < k) : spliceref10_Bag_Lose.f k (lsR s) s.last (csR s) id = some (lsR (loseB s id).1, (loseB s id).1.last, csR (loseB s id).1, (loseB s id).2) := by
  unfold spliceref10_Bag_Lose.f loseB
  rw [find_f s hl id k (by omega), Option.bind_some]
  cases hf : findM s.l id with
  | none => rw [fiR_none _ _ 0 hf, if_pos (by decide)]
  | some m =>
    obtain ⟨j, h1, h2⟩ := fiR_some _ _ m 0 hf
    rw [h1, Nat.zero_add, if_neg (by omega), without_f s hl id k (by omega)]; rfl
theorem take_f (s : Bg) (hl : s.l.length ≤ 400) (hc : s.cuts.length ≤ 1000000) (id : Int) (k : Nat) (hk : 401 < k) (hk2 : s.cuts.length < k) : spliceref10_Bag_Take.f k (lsR s) s.last (csR s) id = some (lsR (takeB s id).1, (takeB s id).1.last, csR (takeB s id).1, (takeB s id).2.1.id, (takeB s id).2.1.fr, (takeB s id).2.1.too, (takeB s id).2.1.t, (takeB s id).2.2) := by
  unfold spliceref10_Bag_Take.f takeB
  rw [find_f s hl id k (by omega), Option.bind_some]
  cases hf : findM s.l id with
  | none => rw [fiR_none _ _ 0 hf, if_pos (by decide)]; rfl
  | some m =>
    obtain ⟨j, h1, h2⟩ := fiR_some _ _ m 0 hf
    have hj := (List.getElem?_eq_some_iff.1 h2).1
    rw [h1, Nat.zero_add, if_neg (by omega), if_pos (by omega), if_pos (by unfold lsR; rw [List.length_map]; omega), show rd_T74 (lsR s) (j : Int) = m74 m from rd74 s.l j m h2]
    rw [show spliceref10_Bag_apart.f k (lsR s) s.last (csR s) (m74 m).f1 (m74 m).f2 = some (s.cuts.contains (ofP m.fr m.too)) from apart_f (lsR s) s.last s.cuts hc m.fr m.too k hk2, Option.bind_some]
    dsimp only
    cases s.cuts.contains (ofP m.fr m.too)
    · rw [if_neg (by decide), if_neg (by decide), without_f s hl id k (by omega)]; rfl
    · rw [if_pos rfl, if_pos rfl]; rfl

theorem set_l0 (c : List (Int × Int)) (hc : c.length ≤ 1000000) (L : List S74) (a : Int) (x y : Int) (on : Bool) : ∀ (d k i : Nat) (acc : List S89), i + d = c.length → d < k → acc.length ≤ i → spliceref10_Bag_Set.l0 k x y on acc (i : Int) L a (c.map p89) = some (L, a, acc ++ (delC (c.drop i) (ofP x y)).map p89 ++ (if on = true then [p89 (ofP x y)] else []), 0) := by
  intro d
  induction d with
  | zero =>
    intro k i acc hi hk ha
    obtain ⟨k, rfl⟩ : ∃ k', k = k' + 1 := ⟨k - 1, by omega⟩
    rw [spliceref10_Bag_Set.l0, if_neg (by rw [List.length_map]; omega), List.drop_eq_nil_of_le (by omega), of_f, Option.bind_some]
    cases on
    · rw [if_neg (by decide), if_neg (by decide)]; simp [delC]
    · rw [if_pos rfl, if_pos (by omega), if_pos rfl]; simp [delC, p89]
  | succ d ih =>
    intro k i acc hi hk ha
    obtain ⟨k, rfl⟩ : ∃ k', k = k' + 1 := ⟨k - 1, by omega⟩
    obtain ⟨p, hp⟩ : ∃ p, c[i]? = some p := ⟨_, List.getElem?_eq_getElem (by omega)⟩
    rw [spliceref10_Bag_Set.l0, if_pos (by rw [List.length_map]; omega), if_pos (by omega), of_f, Option.bind_some, rd89 c i p hp, w1r i (by omega), drop_at hp]
    have e : (!((p89 p).f0 == (ofP x y).1) || !((p89 p).f1 == (ofP x y).2)) = (p != ofP x y) := by
      obtain ⟨p1, p2⟩ := p
      obtain ⟨q1, q2⟩ := ofP x y
      rw [Bool.eq_iff_iff]
      simp only [p89, Bool.or_eq_true, Bool.not_eq_true', beq_eq_false_iff_ne, bne_iff_ne, ne_eq, Prod.mk.injEq]
      constructor
      · rintro (h | h) ⟨h1, h2⟩
        · exact h h1
        · exact h h2
      · intro h
        by_cases h1 : p1 = q1
        · exact Or.inr (fun h2 => h ⟨h1, h2⟩)
        · exact Or.inl h1
    rw [e]
    unfold delC
    rw [List.filter_cons]
    by_cases hq : p = ofP x y
    · rw [if_neg (by simp [hq]), if_neg (by simp [hq]), ih k (i + 1) acc (by omega) (by omega) (by omega)]; rfl
    · rw [if_pos (by simpa using hq), if_pos (by omega), if_pos (by simpa using hq), ih k (i + 1) _ (by omega) (by omega) (by rw [List.length_append, List.length_singleton]; omega), List.map_cons]
      simp [delC, p89]
theorem set_f (s : Bg) (hc : s.cuts.length ≤ 1000000) (x y : Int) (on : Bool) (k : Nat) (hk : s.cuts.length + 1 < k) : spliceref10_Bag_Set.f k (lsR s) s.last (csR s) x y on = some (lsR (setB s x y on).1, (setB s x y on).1.last, csR (setB s x y on).1, (setB s x y on).2) := by
  obtain ⟨k, rfl⟩ : ∃ k', k = k' + 1 := ⟨k - 1, by omega⟩
  unfold spliceref10_Bag_Set.f setB
  rw [adr_f, Option.bind_some, adr_f]
  cases adr x
  · rw [if_neg (by decide), Bool.false_and, if_neg (by decide), spliceref10_Bag_Set.j0, if_pos rfl]
  · rw [if_pos rfl, Option.bind_some, Bool.true_and]
    cases adr y
    · rw [if_neg (by decide), Bool.false_and, if_neg (by decide), spliceref10_Bag_Set.j0, if_pos rfl]
    · rw [if_pos rfl, Bool.true_and, spliceref10_Bag_Set.j0]
      cases hxy : (x == y)
      · rw [if_neg (by decide), if_pos (by decide)]
        have := set_l0 s.cuts hc (lsR s) s.last x y on s.cuts.length k 0 [] (by omega) (by omega) (Nat.le_refl _)
        rw [List.drop_zero, List.nil_append] at this
        refine Eq.trans this ?_
        cases on
        · simp [lsR, csR]
        · simp [lsR, csR, putC, delC]
      · rw [if_pos rfl, if_neg (by decide)]
theorem ids_l0 (l : List Ml) (hl : l.length ≤ 1000000) (a : Int) (C : List S89) : ∀ (d k i : Nat) (acc : List Int), i + d = l.length → d < k → acc.length ≤ i → spliceref10_Bag_IDs.l0 k false acc (i : Int) (l.map m74) a C = some (acc ++ (l.drop i).map (fun m => m.id)) := by
  intro d
  induction d with
  | zero =>
    intro k i acc hi hk ha
    obtain ⟨k, rfl⟩ : ∃ k', k = k' + 1 := ⟨k - 1, by omega⟩
    rw [spliceref10_Bag_IDs.l0, if_neg (by rw [List.length_map]; omega), List.drop_eq_nil_of_le (by omega)]
    simp
  | succ d ih =>
    intro k i acc hi hk ha
    obtain ⟨k, rfl⟩ : ∃ k', k = k' + 1 := ⟨k - 1, by omega⟩
    obtain ⟨m, hm⟩ : ∃ m, l[i]? = some m := ⟨_, List.getElem?_eq_getElem (by omega)⟩
    rw [spliceref10_Bag_IDs.l0, if_pos (by rw [List.length_map]; omega), if_neg (by decide), if_pos (by omega), if_pos (by omega), rd74 l i m hm, w1r i (by omega), ih k (i + 1) _ (by omega) (by omega) (by rw [List.length_append, List.length_singleton]; omega), drop_at hm, List.map_cons, List.append_assoc]; rfl
theorem ready_l0 (l : List Ml) (hl : l.length ≤ 1000000) (a : Int) (c : List (Int × Int)) (hc : c.length ≤ 1000000) : ∀ (d k i : Nat) (acc : List Int), i + d = l.length → d + c.length < k → acc.length ≤ i → spliceref10_Bag_IDs.l0 k true acc (i : Int) (l.map m74) a (c.map p89) = some (acc ++ ((l.drop i).filter (fun m => !c.contains (ofP m.fr m.too))).map (fun m => m.id)) := by
  intro d
  induction d with
  | zero =>
    intro k i acc hi hk ha
    obtain ⟨k, rfl⟩ : ∃ k', k = k' + 1 := ⟨k - 1, by omega⟩
    rw [spliceref10_Bag_IDs.l0, if_neg (by rw [List.length_map]; omega), List.drop_eq_nil_of_le (by omega)]
    simp
  | succ d ih =>
    intro k i acc hi hk ha
    obtain ⟨k, rfl⟩ : ∃ k', k = k' + 1 := ⟨k - 1, by omega⟩
    obtain ⟨m, hm⟩ : ∃ m, l[i]? = some m := ⟨_, List.getElem?_eq_getElem (by omega)⟩
    rw [spliceref10_Bag_IDs.l0, if_pos (by rw [List.length_map]; omega), if_pos rfl, if_pos (by omega), rd74 l i m hm, show spliceref10_Bag_apart.f k (l.map m74) a (c.map p89) (m74 m).f1 (m74 m).f2 = some (c.contains (ofP m.fr m.too)) from apart_f _ a c hc m.fr m.too k (by omega), Option.bind_some, w1r i (by omega), drop_at hm, List.filter_cons]
    cases c.contains (ofP m.fr m.too)
    · rw [if_neg (by decide), if_pos (by omega), if_pos (show (!false) = true from rfl), ih k (i + 1) _ (by omega) (by omega) (by rw [List.length_append, List.length_singleton]; omega), List.map_cons, List.append_assoc]; rfl
    · rw [if_pos rfl, if_neg (by decide), ih k (i + 1) acc (by omega) (by omega) (by omega)]
theorem ids_f (s : Bg) (hl : s.l.length ≤ 400) (k : Nat) (hk : 400 < k) : spliceref10_Bag_IDs.f k (lsR s) s.last (csR s) false = some (idsL s.l) := by
  unfold spliceref10_Bag_IDs.f
  have := ids_l0 s.l (by omega) s.last (csR s) s.l.length k 0 [] (by omega) (by omega) (Nat.le_refl _)
  rw [List.drop_zero, List.nil_append] at this
  exact this
theorem ready_f (s : Bg) (hl : s.l.length ≤ 400) (ha : s.l.Pairwise (fun a b => a.id < b.id)) (hc : s.cuts.length ≤ 1000000) (k : Nat) (hk : 400 + s.cuts.length < k) : spliceref10_Bag_IDs.f k (lsR s) s.last (csR s) true = some (readyL s) := by
  unfold spliceref10_Bag_IDs.f
  have := ready_l0 s.l (by omega) s.last s.cuts hc s.l.length k 0 [] (by omega) (by omega) (Nat.le_refl _)
  rw [List.drop_zero, List.nil_append] at this
  refine Eq.trans this ?_
  unfold readyL keepI idsL
  rw [List.filter_map]
  congr 2
  refine List.filter_congr (fun m hm => ?_)
  show (!s.cuts.contains (ofP m.fr m.too)) = (!apM s m.id)
  unfold apM
  rw [findM_of_mem ha hm]; rfl

end Go.Proofs.Ytppoahccmcnenaa.PP
