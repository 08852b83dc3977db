-- written by a program of this session
import Derived.Test.YtppoahccmcnenaaPAx0
import Derived.Test.YtppoahccmcnenaaPAx1
import Derived.Test.YtppoahccmcnenaaPAx2
import Derived.Test.YtppoahccmcnenaaPAx3
namespace Go.Proofs.Ytppoahccmcnenaa.PA
open Go.RowKit Go.Proofs.Ytppoahccmcnenaa.Op Go.Proofs.YtppoahccmcnenaaW.PrintWords Go.Proofs.YtppoahccmcnenaaW.PrintLast Go.Proofs.YtppoahccmcnenaaW.PrintMore
attribute [local go_sem] max2_int min2_int max_two min_two max_three min_three max_four min_four   -- for this text's walks alone
set_option linter.unusedVariables false
set_option linter.unusedSimpArgs false

/-! ### the bag: Ready -/
def bagReady2.T : Bool × List (List Nat × List Nat) := (true, [([], []), ([0], [0]), ([1], [1]), ([2], [2]), ([], []), ([4], [4]), ([], []), ([6], [6]), ([5, 7], [5, 7]), ([3, 8], [3, 8]), ([9, 8, 0, 1, 2, 3, 4, 5, 6, 7, 8, 9], [9])])
def bagReady2.B : List Nat := [0, 1, 3, 7, 0, 16, 0, 64, 240, 511, 1023]
theorem bagReady2.tab : rtab .any (opsOf Try.f29 2) = bagReady2.T := by kernel_rfl
theorem bagReady2.bits : waitsOk bagReady2.T.2 bagReady2.B = true := by kernel_rfl
def apM (s : Bg) (id : Int) : Bool := s.cuts.contains (ofP ((findM s.l id).getD noMail).fr ((findM s.l id).getD noMail).too)
theorem IsBg.lookAt {w W : World} {g mb cb n : Nat} {s : Bg} (h : IsBg w W g mb cb n s) (id : Int) (hid : (Lit.int .i64 id).wf = true) :
    (Instr.lookup 58 (.map (some mb)) (.int .i64 id) false).run Try.prog W = .ok (mailV ((findM s.l id).getD noMail)) W := by
  obtain ⟨D, hown, hA⟩ := h.map
  obtain ⟨v, ps, hrun, hv⟩ := hown.lookup (Maps.int_keyed Try.underlying3) Try.underlying58 (zero_mail W) (mailE_mk noMail) (Maps.keyOf_int_mk Try.underlying3 hid)
  rw [hrun]
  obtain ⟨m, rfl, hm⟩ := mailE_inv hv
  have hm1 := (Prod.mk.inj hm).1
  have hh := hA.has id
  cases hf : findM s.l id with
  | none =>
    rw [hf] at hh
    rw [Maps.atKey_of_not_has hh] at hm1
    rw [mailD_inj hm1]; rfl
  | some k =>
    rw [hA.at_ id k hf] at hm1
    rw [mailD_inj hm1]; rfl
set_option maxHeartbeats 4000000 in
set_option maxRecDepth 100000 in
theorem bag_ready1 {w W : World} {g mb cb n : Nat} {s : Bg} (h : IsBg w W g mb cb n s) (gp : Nat) (hp : W.heap[gp]? = some (.cells #[.pointer (some ⟨g, 0, none⟩)] 23 (0, 0))) (id : Int) (hid : (Lit.int .i64 id).wf = true) :
    Calls Try.prog 29 #[.int .i64 id, .pointer (some ⟨gp, 0, none⟩)] W fun e W' => e = .returned (.bool (apM s id)) ∧ Below W.heap.size W W' := by
  unfold apM
  have hlk := h.lookAt id hid
  have hM : Adr ((findM s.l id).getD noMail).fr ∧ Adr ((findM s.l id).getD noMail).too ∧ True := by
    cases hf : findM s.l id with
    | none => exact ⟨⟨by decide, by decide⟩, ⟨by decide, by decide⟩, trivial⟩
    | some k => have := (h.ids k (findM_some hf).1).2.2; exact ⟨this.1, this.2.1, trivial⟩
  generalize (findM s.l id).getD noMail = m at hlk hM ⊢
  unfold mailV at hlk
  have HM := Aside0.mk hM
  have HS := Aside0.mk h
  obtain ⟨b, hb⟩ : ∃ b, s.cuts.contains (ofP m.fr m.too) = b := ⟨_, rfl⟩
  have HC := Aside0.mk hb
  rw [hb]
  have HP := Aside0.mk hp
  have p0 : W.cell? ⟨gp, 0, none⟩ = some (.pointer (some ⟨g, 0, none⟩)) := (blk_cell hp 0).trans rfl
  obtain ⟨c0, c1, c2, f1⟩ := h.cells
  clear h hM hb hp
  go_enter Try.func29, Try.ntmps29
  go_upto_region 2 with (fail)
  clear p0 c0 c1 c2 f1 hlk
  have HB := Aside0.mk ((Bx.start W).push #[.int .i64 m.id, .int .i64 m.fr, .int .i64 m.too, .string m.t] 34)
  replace HS := Aside0.mk (HS.out.below (below_alloc (Below.refl _ _) (.cells #[.int .i64 m.id, .int .i64 m.fr, .int .i64 m.too, .string m.t] 34)))
  replace HP := Aside0.mk (blk_alloc HP.out (.cells #[.int .i64 m.id, .int .i64 m.fr, .int .i64 m.too, .string m.t] 34))
  generalize W.alloc (.cells #[.int .i64 m.id, .int .i64 m.fr, .int .i64 m.too, .string m.t] 34) = W1 at HB HS HP ⊢
  generalize W.heap.size = g4 at HB ⊢
  replace HS := Aside0.mk (HS.out.below (below_drew1 (Below.refl _ _)))
  replace HB := Aside0.mk (HB.out.below (below_drew1 (Below.refl _ _)))
  replace HP := Aside0.mk (blk_below HP.out (below_drew1 (Below.refl _ _)))
  obtain ⟨c0, c1, c2, f1⟩ := HS.out.cells
  have p0 : World.cell? _ ⟨gp, 0, none⟩ = some (.pointer (some ⟨g, 0, none⟩)) := (blk_cell HP.out 0).trans rfl
  have y1 : World.cell? _ ⟨g4, 1, none⟩ = some (.int .i64 m.fr) := (blk_cell (HB.out.get 0 rfl) 1).trans rfl
  have y2 : World.cell? _ ⟨g4, 2, none⟩ = some (.int .i64 m.too) := (blk_cell (HB.out.get 0 rfl) 2).trans rfl
  refine start_ (n := 11) (S := fun w' => w'.cell? ⟨gp, 0, none⟩ = some (.pointer (some ⟨g, 0, none⟩)) ∧ w'.cell? ⟨g, 2, none⟩ = some (.map (some cb)) ∧ w'.cell? ⟨g4, 1, none⟩ = some (.int .i64 m.fr) ∧ w'.cell? ⟨g4, 2, none⟩ = some (.int .i64 m.too)) (ds := []) #[false, false, false, false, false, false, false, false, false, false, false] (by kernel_rfl) rfl rfl ⟨p0, c2, y1, y2⟩ (fun hHeld => ?_); refine with_tabW bagReady2.tab bagReady2.bits (fun HT_ HW_ => ?_)
  refine take_ (i := 0) (N := some 11) (v := ?_) (a' := ?_) #[true, false, false, false, false, false, false, false, false, false, false] rfl rfl (take_ofW HT_.out HW_.out (by kernel_rfl)) (fun _ _ _ h => h) (Or.inl ⟨by rfl, ?_⟩) hHeld ?_ ?_
  rotate_left
  · rintro w' ⟨s0, s1, s2, s3⟩
    go_simp
    with_reducible rfl
  rotate_left
  · simp only [Act.put, List.setIfInBounds_toArray, List.set_cons_zero, List.set_cons_succ, i64_w, i32_w]
    rfl
  refine pure_ (i := 1) (N := some 12) (v := ?_) (a' := ?_) #[true, true, false, false, false, false, false, false, false, false, false] rfl rfl (any_of HT_.out (by kernel_rfl)) (fun _ _ _ h => h) (Or.inl ⟨by rfl, ?_⟩) ?_ ?_
  rotate_left
  · intro w'
    go_simp
    with_reducible rfl
  rotate_left
  · simp only [Act.put, List.setIfInBounds_toArray, List.set_cons_zero, List.set_cons_succ, i64_w, i32_w]
    rfl
  refine pure_ (i := 2) (N := some 13) (v := ?_) (a' := ?_) #[true, true, true, false, false, false, false, false, false, false, false] rfl rfl (any_of HT_.out (by kernel_rfl)) (fun _ _ _ h => h) (Or.inl ⟨by rfl, ?_⟩) ?_ ?_
  rotate_left
  · intro w'
    go_simp
    with_reducible rfl
  rotate_left
  · simp only [Act.put, List.setIfInBounds_toArray, List.set_cons_zero, List.set_cons_succ, i64_w, i32_w]
    rfl
  refine take_ (i := 3) (N := some 14) (v := ?_) (a' := ?_) #[true, true, true, true, false, false, false, false, false, false, false] rfl rfl (take_ofW HT_.out HW_.out (by kernel_rfl)) (fun _ _ _ h => h) (Or.inl ⟨by rfl, ?_⟩) hHeld ?_ ?_
  rotate_left
  · rintro w' ⟨s0, s1, s2, s3⟩
    go_simp
    with_reducible rfl
  rotate_left
  · simp only [Act.put, List.setIfInBounds_toArray, List.set_cons_zero, List.set_cons_succ, i64_w, i32_w]
    rfl
  refine pure_ (i := 4) (N := some 15) (v := ?_) (a' := ?_) #[true, true, true, true, true, false, false, false, false, false, false] rfl rfl (any_of HT_.out (by kernel_rfl)) (fun _ _ _ h => h) (Or.inl ⟨by rfl, ?_⟩) ?_ ?_
  rotate_left
  · intro w'
    go_simp
    with_reducible rfl
  rotate_left
  · simp only [Act.put, List.setIfInBounds_toArray, List.set_cons_zero, List.set_cons_succ, i64_w, i32_w]
    rfl
  refine take_ (i := 5) (N := some 16) (v := ?_) (a' := ?_) #[true, true, true, true, true, true, false, false, false, false, false] rfl rfl (take_ofW HT_.out HW_.out (by kernel_rfl)) (fun _ _ _ h => h) (Or.inl ⟨by rfl, ?_⟩) hHeld ?_ ?_
  rotate_left
  · rintro w' ⟨s0, s1, s2, s3⟩
    go_simp
    with_reducible rfl
  rotate_left
  · simp only [Act.put, List.setIfInBounds_toArray, List.set_cons_zero, List.set_cons_succ, i64_w, i32_w]
    rfl
  refine pure_ (i := 6) (N := some 17) (v := ?_) (a' := ?_) #[true, true, true, true, true, true, true, false, false, false, false] rfl rfl (any_of HT_.out (by kernel_rfl)) (fun _ _ _ h => h) (Or.inl ⟨by rfl, ?_⟩) ?_ ?_
  rotate_left
  · intro w'
    go_simp
    with_reducible rfl
  rotate_left
  · simp only [Act.put, List.setIfInBounds_toArray, List.set_cons_zero, List.set_cons_succ, i64_w, i32_w]
    rfl
  refine take_ (i := 7) (N := some 18) (v := ?_) (a' := ?_) #[true, true, true, true, true, true, true, true, false, false, false] rfl rfl (take_ofW HT_.out HW_.out (by kernel_rfl)) (fun _ _ _ h => h) (Or.inl ⟨by rfl, ?_⟩) hHeld ?_ ?_
  rotate_left
  · rintro w' ⟨s0, s1, s2, s3⟩
    go_simp
    with_reducible rfl
  rotate_left
  · simp only [Act.put, List.setIfInBounds_toArray, List.set_cons_zero, List.set_cons_succ, i64_w, i32_w]
    rfl
  refine one_ (i := 8) (N := some 19) #[true, true, true, true, true, true, true, true, true, false, false] rfl rfl (one_of HT_.out (by kernel_rfl)) (by decide) (fun K hK => ?_)
  refine goes_ Try.func25 (by kernel_rfl) rfl #[.int .i64 m.fr, .int .i64 m.too] (by rfl) rfl rfl (by (try simp only [List.map_toArray, List.map_cons, List.map_nil]); first | done | rfl) ?_
  with_reducible refine (bag_of m.fr m.too _).mono ?_
  rintro e w6 ⟨rfl, hb⟩
  refine ⟨_, rfl, ?_⟩
  replace HS := Aside0.mk (HS.out.below hb)
  replace HB := Aside0.mk (HB.out.below hb)
  refine hK.out _ _ ⟨cell_below hb (hHeld.1), cell_below hb (hHeld.2.1), cell_below hb (hHeld.2.2.1), cell_below hb (hHeld.2.2.2)⟩ (fun hHeld => ?_)
  clear hK K hb
  refine norm_ (a' := ?_) ?_ ?_
  rotate_left
  · show Act.put _ (some 19) _ = _
    simp only [Act.put, List.setIfInBounds_toArray, List.set_cons_zero, List.set_cons_succ, i64_w, i32_w]
    rfl
  refine one_ (i := 9) (N := some 20) #[true, true, true, true, true, true, true, true, true, true, false] rfl rfl (one_of HT_.out (by kernel_rfl)) (by decide) (fun K hK => ?_)
  have hcut := HS.out.cutAt HM.out.1 HM.out.2.1
  rw [HC.out] at hcut
  refine look_ _ _ _ _ (by rfl) rfl rfl _ _ _ rfl rfl hcut ?_
  refine hK.out _ _ hHeld (fun hHeld => ?_)
  clear hK K hcut
  refine norm_ (a' := ?_) ?_ ?_
  rotate_left
  · show Act.put _ (some 20) _ = _
    simp only [Act.put, List.setIfInBounds_toArray, List.set_cons_zero, List.set_cons_succ, i64_w, i32_w]
    rfl
  refine pure_ (i := 10) (N := some 3) (v := ?_) (a' := ?_) #[true, true, true, true, true, true, true, true, true, true, true] rfl rfl (any_of HT_.out (by kernel_rfl)) (fun _ _ _ h => h) (Or.inl ⟨by rfl, ?_⟩) ?_ ?_
  rotate_left
  · intro w'
    go_simp
    with_reducible rfl
  rotate_left
  · simp only [Act.put, List.setIfInBounds_toArray, List.set_cons_zero, List.set_cons_succ, i64_w, i32_w]
    rfl
  refine done_ (done_of HT_.out (by kernel_rfl)) ?_
  clear HT_ HW_ hHeld
  go_wp2
  go_ret
  exact ⟨rfl, HB.out.bel⟩
section
open Go.Maps Go.Sort
theorem R_of_B {W : World} {base blk cap : Nat} {l : List Int} {cur : Array Value} (h : IntB W blk cap l cur) (hb : base ≤ blk) : Kd.R (Kd.int .i64) 3 W base (fun _ => True) (.slice (some ⟨blk, 0, none⟩) l.length cap) l := by
  refine R_ints rfl ⟨by simp, Or.inr ⟨blk, cap, cur, rfl, hb, h.at_, h.len, h.cap1, by rw [h.size, Nat.mul_one], ?_⟩⟩
  rw [Nat.mul_one]
  refine List.ext_getElem? (fun k => ?_)
  have hl := h.len
  have hs := h.size
  by_cases hk : k < l.length
  · rw [List.getElem?_take, if_pos hk, Array.getElem?_toList, h.val k _ (List.getElem?_eq_getElem hk), List.getElem?_map, List.getElem?_eq_getElem hk]; rfl
  · rw [List.getElem?_eq_none (by rw [List.length_take]; omega), List.getElem?_eq_none (by rw [List.length_map]; omega)]
theorem B_of_row {W : World} {base : Nat} {v : Value} {l : List Int} (h : W.ownsRow base 3 1 v l.length (l.map encZ)) : (v = .slice none 0 0 ∧ l = []) ∨ ∃ blk cap cur, v = .slice (some ⟨blk, 0, none⟩) l.length cap ∧ base ≤ blk ∧ IntB W blk cap l cur := by
  obtain ⟨_, ⟨h1, h2⟩ | ⟨blk, cap, cur, h1, h2, h3, h4, h5, h6, h7⟩⟩ := h
  · exact Or.inl ⟨h1, List.eq_nil_of_length_eq_zero h2⟩
  · refine Or.inr ⟨blk, cap, cur, h1, h2, h3, by rw [h6, Nat.mul_one], h4, h5, fun k x hx => ?_⟩
    obtain ⟨hk, _⟩ := List.getElem?_eq_some_iff.1 hx
    have h8 : (cur.toList.take (l.length * 1))[k]? = some (.int .i64 x) := by rw [h7, List.getElem?_map, hx]; rfl
    rw [List.getElem?_take, if_pos (by omega), Array.getElem?_toList] at h8
    exact h8
end
set_option maxRecDepth 100000 in
theorem ixfunc_nil (g : Nat) (lb : Array Value) (w : World) : Calls Try.prog 40 #[.slice none 0 0, .func (.func g) #[] lb] w fun e w' => e = .returned (.int .i64 (-1)) ∧ w = w' := by
  go_enter Try.func40, Try.ntmps40
  go_wp2
  go_loopg [5, 8] 0 (fun gg _ s8 wr => s8 = .int .i64 0 ∧ w = wr)
  case atStart => exact ⟨rfl, rfl⟩
  case round =>
    obtain ⟨rfl, rfl⟩ := hrel
    go_wp2
    go_ret
    exact ⟨rfl, rfl⟩
set_option maxRecDepth 100000 in
theorem delfunc_nil (g : Nat) (lb : Array Value) (w : World) : Calls Try.prog 28 #[.slice none 0 0, .func (.func g) #[] lb] w fun e w' => e = .returned (.slice none 0 0) ∧ w = w' := by
  have HC0 := Aside0.mk (ixfunc_nil g lb w)
  go_enter Try.func28, Try.ntmps28
  go_wp2_with (go_at_call 40; refine HC0.out.mono ?_; rintro e w1 ⟨rfl, rfl⟩)
  go_ret
  exact ⟨rfl, rfl⟩
def readyL (s : Bg) : List Int := keepI (apM s) (idsL s.l)
set_option maxRecDepth 100000 in
theorem bag_ready_nil (W : World) :
    Calls Try.prog 18 #[.pointer none] W fun e W' => e = .returned (.slice none 0 0) ∧ Below W.heap.size W W' := by
  have HX := Aside0.mk (blk_new W (.cells #[.pointer none] 23))
  have HB := Aside0.mk (below_alloc (Below.refl W.heap.size W) (.cells #[.pointer none] 23))
  go_enter Try.func18, Try.ntmps18
  go_upto_region 1 with (fail)
  generalize W.alloc (.cells #[.pointer none] 23) = W1 at HX HB ⊢
  obtain ⟨gp, hgp⟩ : ∃ gp, gp = W.heap.size := ⟨_, rfl⟩
  rw [← hgp] at HX ⊢
  clear hgp
  have p0 : W1.cell? ⟨gp, 0, none⟩ = some (.pointer none) := (blk_cell HX.out 0).trans rfl
  have HC := Aside0.mk (delfunc_nil 29 #[.pointer (some ⟨gp, 0, none⟩)] W1)
  have HI := Aside0.mk (bag_ids_nil W1)
  go_wp2_with (first | (go_at_call 15; refine HI.out.mono ?_; rintro e w1 ⟨rfl, rfl⟩) | (go_at_call 28; refine HC.out.mono ?_; rintro e w1 ⟨rfl, rfl⟩))
  go_ret
  exact ⟨rfl, HB.out⟩
set_option maxHeartbeats 4000000 in
set_option maxRecDepth 100000 in
theorem bag_ready {w W : World} {g mb cb n : Nat} {s : Bg} (h : IsBg w W g mb cb n s) (hn : n ≤ 1000000) :
    Calls Try.prog 18 #[.pointer (some ⟨g, 0, none⟩)] W fun e W' => ∃ v, e = .returned v ∧ Kd.R (Kd.int .i64) 3 W' W.heap.size (fun _ => True) v (readyL s) ∧ Below W.heap.size W W' := by
  unfold readyL
  have hb0 := below_alloc (Below.refl W.heap.size W) (.cells #[.pointer (some ⟨g, 0, none⟩)] 23)
  have HS := Aside0.mk (h.below hb0)
  have HX := Aside0.mk (blk_new W (.cells #[.pointer (some ⟨g, 0, none⟩)] 23))
  have HB := Aside0.mk hb0
  have HZ := Aside0.mk (alloc_size W (.cells #[.pointer (some ⟨g, 0, none⟩)] 23))
  have HN := Aside0.mk hn
  have HI := Aside0.mk (bag_idsW (h.below hb0) hn)
  have HW := Aside0.mk h.bel.size
  clear h hb0 hn
  go_enter Try.func18, Try.ntmps18
  go_upto_region 1 with (fail)
  have eg : ∀ args w, (callFunc 29 args).run Try.prog w = .ok (.enter 29 args) w := enters_of Try.func29 (by kernel_rfl) rfl
  have HE := Aside0.mk eg
  clear eg
  generalize W.alloc (.cells #[.pointer (some ⟨g, 0, none⟩)] 23) = W1 at HS HX HB HI HZ ⊢
  obtain ⟨gp, hgp⟩ : ∃ gp, gp = W.heap.size := ⟨_, rfl⟩
  rw [← hgp] at HX HZ ⊢
  have HGp := Aside0.mk (Nat.le_of_eq hgp.symm)
  clear hgp
  have p0 : W1.cell? ⟨gp, 0, none⟩ = some (.pointer (some ⟨g, 0, none⟩)) := (blk_cell HX.out 0).trans rfl
  have HD : ∀ (W2 : World) (v : Value), W2.ownsRow W1.heap.size 3 1 v (idsL s.l).length ((idsL s.l).map (Value.int .i64)) → Below W1.heap.size W1 W2 → Calls Try.prog 28 #[v, .func (.func 29) #[] #[.pointer (some ⟨gp, 0, none⟩)]] W2 fun e W' => ∃ v', e = .returned v' ∧ Kd.R (Kd.int .i64) 3 W' W.heap.size (fun _ => True) v' (keepI (apM s) (idsL s.l)) ∧ Below W.heap.size W W' := by
    intro W2 v hr hb
    have hz := HB.out.size
    rcases B_of_row hr with ⟨rfl, hl⟩ | ⟨blk, cap, cur, rfl, hbl, hB⟩
    · refine (delfunc_nil _ _ _).mono ?_
      rintro e W' ⟨rfl, rfl⟩
      rw [hl]
      exact ⟨_, rfl, Kd.R_nil _ _ _ _ _, HB.out.trans (hb.mono hz)⟩
    · have hlt := HS.out.lts
      have hgx := blk_lt HX.out
      have hw := HW.out
      refine (delfuncI (apM s) _ _ HE.out (fun W => IsBg w W g mb cb n s ∧ W.heap[gp]? = some (.cells #[.pointer (some ⟨g, 0, none⟩)] 23 (0, 0))) blk cap (idsL s.l) cur W2 ⟨fun W x hx hI => ?_, fun W W' hI hb => ⟨hI.1.below hb, blk_below hI.2 hb⟩, fun W k v hI => ⟨hI.1.setFar (by omega) ⟨by omega, by omega, by omega⟩ k v, blk_far (p := ⟨blk, k, none⟩) hI.2 (by show gp ≠ blk; omega) v⟩⟩ ⟨HS.out.below hb, blk_below HX.out hb⟩ hB ?_).mono ?_
      · obtain ⟨m, hm, rfl⟩ := List.mem_map.1 hx
        have hi := hI.1.ids m hm
        have hl := hI.1.lst
        have hn := HN.out
        exact bag_ready1 hI.1 gp hI.2 _ (wf_of (by omega))
      · have := HS.out.len
        unfold idsL; rw [List.length_map]; omega
      · rintro e W' ⟨rfl, hg, cur', hB'⟩
        exact ⟨_, rfl, R_of_B hB' (by omega), grown_below (by omega) (HB.out.trans (hb.mono hz)) hg⟩
  have HD' := Aside0.mk HD
  clear HD
  go_wp2_with (first | (go_at_call 15; refine HI.out.mono ?_; rintro e w1 ⟨v, rfl, hr, hb⟩; have HD2 := Aside0.mk (HD'.out w1 v hr hb); clear hr hb) | (go_at_call 28; refine HD2.out.mono ?_; rintro e w2 ⟨v', rfl, hr, hb⟩; have HR := Aside0.mk hr; have HB2 := Aside0.mk hb; clear hr hb))
  go_ret
  exact ⟨_, rfl, HR.out, HB2.out⟩

/-! ### two mails are the same -/
def eqMl (a b : Ml) : Bool := a.id == b.id && (a.fr == b.fr && (a.too == b.too && (a.t.toList == b.t.toList)))
theorem eqMail (d : Nat) (w : World) (a b : Ml) : (Op.equalIn (d + 2) 34 (.agg #[.int .i64 a.id, .int .i64 a.fr, .int .i64 a.too, .string a.t]) (.agg #[.int .i64 b.id, .int .i64 b.fr, .int .i64 b.too, .string b.t])).run Try.prog w = .ok (eqMl a b) w := by
  refine eqA_of Try.underlying34 (by kernel_rfl) ?_
  refine eqf_cons (by rfl) (by go_simp; rfl) (by go_simp; rfl) (by go_simp) ?_
  refine eqf_cons (by rfl) (by go_simp; rfl) (by go_simp; rfl) (by go_simp) ?_
  refine eqf_cons (by rfl) (by go_simp; rfl) (by go_simp; rfl) (by go_simp) ?_
  exact eqf_last (by rfl) (by go_simp; rfl) (by go_simp; rfl) (by go_simp)
theorem eqMl_self (a : Ml) : eqMl a a = true := by simp [eqMl]

/-! ### two rows of numbers are the same -/
theorem w1c (i : Nat) (h : i < 1000000000) : wrap64 ((i : Int) + 1) = ((i + 1 : Nat) : Int) := by unfold wrap64; omega
theorem same1_l0 (l : List Int) (hl : l.length ≤ 1000000) : ∀ (d k i : Nat), i + d = l.length → d < k → spliceref01_Same.l0 k l l (i : Int) = some true := by
  intro d
  induction d with
  | zero =>
    intro k i hi hk
    obtain ⟨k, rfl⟩ : ∃ k', k = k' + 1 := ⟨k - 1, by omega⟩
    rw [spliceref01_Same.l0, if_neg (by omega)]
  | succ d ih =>
    intro k i hi hk
    obtain ⟨k, rfl⟩ : ∃ k', k = k' + 1 := ⟨k - 1, by omega⟩
    rw [spliceref01_Same.l0, if_pos (by omega), if_pos (by omega), if_pos (by omega), if_pos rfl, w1c i (by omega), ih k (i + 1) (by omega) (by omega)]
theorem same1_f (k : Nat) (l : List Int) (hl : l.length ≤ 1000000) (hk : l.length < k) : spliceref01_Same.f k l l = some true := by
  have := same1_l0 l hl l.length k 0 (by omega) hk
  rw [show ((0 : Nat) : Int) = 0 from rfl] at this
  unfold spliceref01_Same.f
  rw [if_pos rfl, this]
theorem C_ints {W : World} {b : Nat} {t : TypeId} (l : List Int) (hl : l.length ≤ 1000000) (h : W.heap[b]? = some (.cells (l.map (Value.int .i64)).toArray t (0, 0))) : Kd.C (Kd.int .i64) W (some ⟨b, 0, none⟩) l.length l := by
  refine ⟨rfl, by omega, fun _ => ⟨_, rfl, fun j p hp => ⟨[.int .i64 p], rfl, rfl, fun i u hu => ?_⟩⟩⟩
  cases i with
  | succ i => simp at hu
  | zero =>
    injection hu with hu
    subst hu
    have e : (⟨b, 0, none⟩ : Addr).add (j * (Kd.int .i64).sz + 0) = ⟨b, j, none⟩ := by
      rw [show (Kd.int .i64).sz = 1 from rfl]; simp [Addr.add]; try omega
    rw [e, blk_cell h j]
    simp [hp]
theorem same_self {W : World} {A0 A1 : Option Addr} {c0 c1 : Nat} (l : List Int) (hl : l.length ≤ 1000000) (h0 : Kd.C (Kd.int .i64) W A0 l.length l) (hc0 : l.length ≤ c0) (h1 : Kd.C (Kd.int .i64) W A1 l.length l) (hc1 : l.length ≤ c1) :
    Calls Try.prog 17 #[.slice A0 l.length c0, .slice A1 l.length c1] W fun e W' => e = .returned (.bool true) ∧ Below W.heap.size W W' :=
  (spliceref01_Same.calls (l.length + 1) A0 c0 l A1 c1 l true W h0 hc0 h1 hc1 (same1_f _ l hl (by omega))).mono fun e W' h => ⟨h.1, by obtain ⟨m, e⟩ := h.2.out; rw [e]; exact pw_below_drewN (Below.refl _ _) m⟩

/-! ### splicelaw10_BagApart: function 5 (by hand) -/
theorem send_ok (s : Bg) (f t : Int) (x : ByteArray) (hf : Adr f) (ht : Adr t) (hx : (x.size : Int) ≤ 65536) (hl : s.l.length < 400) : sendB s f t x = (addB s ⟨0, f, t, x⟩, s.last + 1, 0) := by
  unfold sendB
  rw [if_pos (by rw [(adr_iff f).2 hf, (adr_iff t).2 ht]; rfl), if_pos hx]
  unfold addF
  rw [if_pos hl]
def l3 (X Y Z : Int) (t : ByteArray) : List Ml := [⟨1, X, Y, t⟩, ⟨2, Y, X, t⟩, ⟨3, X, Z, t⟩]
theorem ofP_swap (x y : Int) : ofP y x = ofP x y := by
  unfold ofP
  rw [Int.min_comm y x, Int.max_comm y x]
theorem ofP_ne {x y z : Int} (h1 : x ≠ y) (h2 : z ≠ x) (h3 : z ≠ y) : (ofP x z == ofP x y) = false := by
  rw [beq_eq_false_iff_ne]
  unfold ofP
  intro h
  injection h with a b
  omega
section
variable {X Y Z : Int} {t : ByteArray}
theorem ap_set (hX : Adr X) (hY : Adr Y) (h : X ≠ Y) : setB ⟨l3 X Y Z t, 3, []⟩ X Y true = (⟨l3 X Y Z t, 3, [ofP X Y]⟩, 0) := by
  unfold setB
  rw [if_pos (by rw [(adr_iff X).2 hX, (adr_iff Y).2 hY, beq_eq_false_iff_ne.mpr h]; rfl)]
  rfl
theorem ap_ready (h1 : X ≠ Y) (h2 : Z ≠ X) (h3 : Z ≠ Y) : readyL ⟨l3 X Y Z t, 3, [ofP X Y]⟩ = [3] := by
  have e := ofP_ne h1 h2 h3
  simp [readyL, keepI, idsL, l3, apM, findM, ofP_swap X Y, e, List.contains, List.elem]
theorem ap_take1 : takeB ⟨l3 X Y Z t, 3, [ofP X Y]⟩ 1 = (⟨l3 X Y Z t, 3, [ofP X Y]⟩, ⟨0, 0, 0, ⟨#[]⟩⟩, 50) := by
  simp [takeB, findM, l3, List.contains, List.elem]; rfl
theorem ap_take2 : takeB ⟨l3 X Y Z t, 3, [ofP X Y]⟩ 2 = (⟨l3 X Y Z t, 3, [ofP X Y]⟩, ⟨0, 0, 0, ⟨#[]⟩⟩, 50) := by
  simp [takeB, findM, l3, ofP_swap X Y, List.contains, List.elem]; rfl
theorem ap_take3 (h1 : X ≠ Y) (h2 : Z ≠ X) (h3 : Z ≠ Y) : takeB ⟨l3 X Y Z t, 3, [ofP X Y]⟩ 3 = (⟨[⟨1, X, Y, t⟩, ⟨2, Y, X, t⟩], 3, [ofP X Y]⟩, ⟨3, X, Z, t⟩, 0) := by
  have e := ofP_ne h1 h2 h3
  simp [takeB, findM, l3, e, List.contains, List.elem, dropM]
theorem ap_same : setB ⟨[⟨1, X, Y, t⟩, ⟨2, Y, X, t⟩], 3, [ofP X Y]⟩ X X true = (⟨[⟨1, X, Y, t⟩, ⟨2, Y, X, t⟩], 3, [ofP X Y]⟩, 1) := by
  unfold setB
  rw [if_neg (by simp)]
theorem ap_off (hX : Adr X) (hY : Adr Y) (h : X ≠ Y) : setB ⟨[⟨1, X, Y, t⟩, ⟨2, Y, X, t⟩], 3, [ofP X Y]⟩ Y X false = (⟨[⟨1, X, Y, t⟩, ⟨2, Y, X, t⟩], 3, []⟩, 0) := by
  unfold setB
  rw [if_pos (by rw [(adr_iff X).2 hX, (adr_iff Y).2 hY, beq_eq_false_iff_ne.mpr h.symm]; rfl)]
  simp [delC, ofP_swap X Y]
theorem ap_take2' : takeB ⟨[⟨1, X, Y, t⟩, ⟨2, Y, X, t⟩], 3, []⟩ 2 = (⟨[⟨1, X, Y, t⟩], 3, []⟩, ⟨2, Y, X, t⟩, 0) := by
  simp [takeB, findM, List.contains, List.elem, dropM]
theorem ap_take1' : takeB ⟨[⟨1, X, Y, t⟩], 3, []⟩ 1 = (⟨[], 3, []⟩, ⟨1, X, Y, t⟩, 0) := by
  simp [takeB, findM, List.contains, List.elem, dropM]
end
theorem mod64 (a : Int) : Adr ((wrap64 (a.tmod 64 + 64)).tmod 64) := by
  have h1 := Int.tmod_lt_of_pos a (b := 64) (by decide)
  have h2 := Int.lt_tmod_of_pos a (b := 64) (by decide)
  generalize a.tmod 64 = c at *
  have e : wrap64 (c + 64) = c + 64 := by unfold wrap64; omega
  rw [e]
  have h3 := Int.tmod_lt_of_pos (c + 64) (b := 64) (by decide)
  have h4 := Int.tmod_nonneg 64 (a := c + 64) (by omega)
  exact ⟨by omega, by omega⟩
def splicelaw10_BagApart.f (a0 : Int) (a1 : Int) (a2_0 : Int) (a2_1 : ByteArray) : Option Bool := some true
set_option maxHeartbeats 8000000 in
set_option maxRecDepth 100000 in
theorem splicelaw10_BagApart.calls (a0 : Int) (a1 : Int) (a2_0 : Int) (a2_1 : ByteArray) (r : Bool) (w : World) (h : splicelaw10_BagApart.f a0 a1 a2_0 a2_1 = some r) (hr_ : r = true) :
    Calls Try.prog 5 #[.int .i64 a0, .int .i64 a1, .agg #[.int .i64 a2_0, .string a2_1]] w fun e w' => e = .returned (.bool r) ∧ Below w.heap.size w w' := by
  subst hr_
  clear h
  have HAX := Aside0.mk (mod64 a0)
  have HAY := Aside0.mk (mod64 a1)
  have HAZ := Aside0.mk (mod64 a2_0)
  have HB := Aside0.mk (below_alloc (Below.refl w.heap.size w) (.cells #[.int .i64 a2_0, .string a2_1] 43))
  go_enter Try.func5, Try.ntmps5
  go_upto_region 4 with (fail)
  generalize w.alloc (.cells #[.int .i64 a2_0, .string a2_1] 43) = W1 at HB ⊢
  generalize w.heap.size = gt
  generalize (wrap64 (a0.tmod 64 + 64)).tmod 64 = X at HAX ⊢
  generalize (wrap64 (a1.tmod 64 + 64)).tmod 64 = Y at HAY ⊢
  generalize (wrap64 (a2_0.tmod 64 + 64)).tmod 64 = Z at HAZ ⊢
  generalize a2_1 = t at HB ⊢
  by_cases hc : (X ≠ Y ∧ Z ≠ X ∧ Z ≠ Y) ∧ (t.size : Int) ≤ 300
  · obtain ⟨⟨h1, h2, h3⟩, h4⟩ := hc
    have q0 : (X == Y) = false := beq_eq_false_iff_ne.mpr h1
    have q1 : decide (X = Y) = false := decide_eq_false h1
    have q2 : (Z == X) = false := beq_eq_false_iff_ne.mpr h2
    have q3 : decide (Z = X) = false := decide_eq_false h2
    have q4 : (Z == Y) = false := beq_eq_false_iff_ne.mpr h3
    have q5 : decide (Z = Y) = false := decide_eq_false h3
    have q6 : decide ((t.size : Int) > 300) = false := decide_eq_false (by omega)
    have q7 : decide ((300 : Int) < (t.size : Int)) = false := decide_eq_false (by omega)
    have HNe := Aside0.mk (And.intro h1 (And.intro h2 h3))
    have HTs : Aside0 ((t.size : Int) ≤ 65536) := ⟨by omega⟩
    have HN := Aside0.mk (bag_new HB.out)
    clear h1 h2 h3 h4
    go_upto_region 7 with (go_at_call 9; refine HN.out.mono ?_; rintro e w1 ⟨rfl, hs, hb⟩; have HS := Aside0.mk hs; clear hs hb)
    clear HN q0 q1 q2 q3 q4 q5 q6 q7
    generalize W1.heap.size + 1 + 1 = g at HS ⊢
    generalize W1.heap.size + 1 = cb at HS
    generalize hrb : W1.heap.size = mb at HS
    clear hrb
    have HC := Aside0.mk (bag_send' HS.out (by omega) X Y t (send_ok newB X Y t HAX.out HAY.out HTs.out (by decide)))
    go_upto_region 8 with (go_at_call 11; refine HC.out.mono ?_; rintro e w2 ⟨rfl, hs, hk⟩; replace HS := Aside0.mk hs; clear hs hk)
    clear HC
    have HC := Aside0.mk (bag_send' HS.out (by omega) Y X t (send_ok _ Y X t HAY.out HAX.out HTs.out (by simp [addB, newB])))
    go_upto_region 9 with (go_at_call 11; refine HC.out.mono ?_; rintro e w3 ⟨rfl, hs, hk⟩; replace HS := Aside0.mk hs; clear hs hk)
    clear HC
    have HC := Aside0.mk (bag_send' HS.out (by omega) X Z t (send_ok _ X Z t HAX.out HAZ.out HTs.out (by simp [addB, newB])))
    go_upto_region 10 with (go_at_call 11; refine HC.out.mono ?_; rintro e w4 ⟨rfl, hs, hk⟩; replace HS := Aside0.mk hs; clear hs hk)
    clear HC
    replace HS : Aside0 (IsBg w w4 g mb cb (0 + 2 + 2 + 2) ⟨l3 X Y Z t, 3, []⟩) := ⟨HS.out⟩
    have HC := Aside0.mk (bag_apart' HS.out (by omega) X Y true (ap_set HAX.out HAY.out HNe.out.1))
    have hrd := ap_ready (t := t) HNe.out.1 HNe.out.2.1 HNe.out.2.2
    have HRd : Aside0 (∀ W, IsBg w W g mb cb (0 + 2 + 2 + 2 + 1) ⟨l3 X Y Z t, 3, [ofP X Y]⟩ → Calls Try.prog 18 #[.pointer (some ⟨g, 0, none⟩)] W fun e W' => ∃ v, e = .returned v ∧ Kd.R (Kd.int .i64) 3 W' W.heap.size (fun _ => True) v [3] ∧ Below W.heap.size W W') := ⟨fun W h => by
      have := bag_ready h (by omega); rw [hrd] at this; exact this⟩
    clear hrd
    go_upto_region 12 with (first
      | (go_at_call 16; refine HC.out.mono ?_; rintro e w5 ⟨rfl, hs, hk⟩; replace HS := Aside0.mk hs; clear hs hk; have HRw := Aside0.mk (HRd.out w5 HS.out))
      | (go_at_call 18; refine HRw.out.mono ?_; rintro e w6 ⟨v, rfl, hR, hb⟩; replace HS := Aside0.mk (HS.out.below hb); obtain ⟨A6, c6, rfl⟩ := Kd.R_slice hR; have HR6 := Aside0.mk hR; clear hR hb; have HS6 := Aside0.mk (fun b h => same_self (W := w6.alloc (.cells #[.int .i64 3] 3)) [3] (by decide) (Kd.R_reads' (Kd.R_below HR6.out (below_alloc (Below.refl _ _) _))).2.2 (Kd.R_reads' HR6.out).2.1 (C_ints (b := b) (t := 3) [3] (by decide) h) (Nat.le_refl 1)))
      | (go_at_call 17; refine (HS6.out _ (blk_new w6 _)).mono ?_; rintro e w7 ⟨rfl, hb⟩; replace HS := Aside0.mk (HS.out.below ((below_alloc (Below.refl _ _) _).trans (hb.mono (by simp)))); clear hb))
    clear HC HRd HRw HR6 HS6
    have HC := Aside0.mk (bag_take' HS.out 1 (by decide) ap_take1)
    go_upto_region 13 with (go_at_call 12; refine HC.out.mono ?_; rintro e w8 ⟨rfl, hs, hk⟩; replace HS := Aside0.mk hs; clear hs hk)
    clear HC
    replace HS := Aside0.mk (HS.out.below (below_alloc (Below.refl _ _) (.cells #[.int .i64 0, .int .i64 0, .int .i64 0, .string ⟨#[]⟩] 34)))
    generalize w8.alloc (.cells #[.int .i64 0, .int .i64 0, .int .i64 0, .string ⟨#[]⟩] 34) = w9 at HS ⊢
    have HC := Aside0.mk (bag_take' HS.out 2 (by decide) ap_take2)
    go_upto_region 14 with (go_at_call 12; refine HC.out.mono ?_; rintro e w10 ⟨rfl, hs, hk⟩; replace HS := Aside0.mk hs; clear hs hk)
    clear HC
    replace HS := Aside0.mk (HS.out.below (below_alloc (Below.refl _ _) (.cells #[.int .i64 0, .int .i64 0, .int .i64 0, .string ⟨#[]⟩] 34)))
    generalize w10.alloc (.cells #[.int .i64 0, .int .i64 0, .int .i64 0, .string ⟨#[]⟩] 34) = w11 at HS ⊢
    have HC := Aside0.mk (bag_take' HS.out 3 (by decide) (ap_take3 HNe.out.1 HNe.out.2.1 HNe.out.2.2))
    go_upto_region 15 with (go_at_call 12; refine HC.out.mono ?_; rintro e w12 ⟨rfl, hs, hk⟩; replace HS := Aside0.mk hs; clear hs hk)
    clear HC
    have HGg14 : Aside0 (w12.heap.size ≠ g ∧ w12.heap.size ≠ mb ∧ w12.heap.size ≠ cb) := ⟨by have := HS.out.lts; omega⟩
    have HXg14 := Aside0.mk (blk_new w12 (.cells #[.int .i64 3, .int .i64 X, .int .i64 Z, .string t] 34))
    have HBl := Aside0.mk (below_alloc (Below.refl w12.heap.size w12) (.cells #[.int .i64 3, .int .i64 X, .int .i64 Z, .string t] 34))
    replace HS := Aside0.mk (HS.out.below HBl.out)
    clear HBl
    generalize w12.alloc (.cells #[.int .i64 3, .int .i64 X, .int .i64 Z, .string t] 34) = w13 at HS HXg14 ⊢
    generalize w12.heap.size = g14 at HXg14 HGg14 ⊢
    have x3 : w13.cell? ⟨g14, 3, none⟩ = some (.string t) := (blk_cell HXg14.out 3).trans rfl
    have HC1 := Aside0.mk (bag_apart' HS.out (by omega) X X true ap_same)
    go_upto_region 17 with (go_at_call 16; first
      | (with_reducible refine HC1.out.mono ?_; rintro e w14 ⟨rfl, hs, hk⟩; replace HS := Aside0.mk hs; clear hs hk; have HC2 := Aside0.mk (bag_apart' HS.out (by omega) Y X false (ap_off HAX.out HAY.out HNe.out.1)))
      | (with_reducible refine HC2.out.mono ?_; rintro e w15 ⟨rfl, hs, hk⟩; replace HS := Aside0.mk hs; clear hs hk x3))
    clear HC1 HC2 HXg14 HGg14
    have HC := Aside0.mk (bag_take' HS.out 2 (by decide) ap_take2')
    go_upto_region 18 with (go_at_call 12; refine HC.out.mono ?_; rintro e w16 ⟨rfl, hs, hk⟩; replace HS := Aside0.mk hs; clear hs hk)
    clear HC
    have HGg16 : Aside0 (w16.heap.size ≠ g ∧ w16.heap.size ≠ mb ∧ w16.heap.size ≠ cb) := ⟨by have := HS.out.lts; omega⟩
    have HXg16 := Aside0.mk (blk_new w16 (.cells #[.int .i64 2, .int .i64 Y, .int .i64 X, .string t] 34))
    have HBl := Aside0.mk (below_alloc (Below.refl w16.heap.size w16) (.cells #[.int .i64 2, .int .i64 Y, .int .i64 X, .string t] 34))
    replace HS := Aside0.mk (HS.out.below HBl.out)
    clear HBl
    generalize w16.alloc (.cells #[.int .i64 2, .int .i64 Y, .int .i64 X, .string t] 34) = w17 at HS HXg16 ⊢
    generalize w16.heap.size = g16 at HXg16 HGg16 ⊢
    have HC := Aside0.mk (bag_take' HS.out 1 (by decide) ap_take1')
    go_upto_region 19 with (go_at_call 12; refine HC.out.mono ?_; rintro e w18 ⟨rfl, hs, hk⟩; replace HS := Aside0.mk hs; replace HXg16 := Aside0.mk ((hk.2 g16 (blk_lt HXg16.out) HGg16.out.1 HGg16.out.2.1 HGg16.out.2.2).trans HXg16.out); clear hs hk)
    clear HC
    have HGg18 : Aside0 (w18.heap.size ≠ g ∧ w18.heap.size ≠ mb ∧ w18.heap.size ≠ cb) := ⟨by have := HS.out.lts; omega⟩
    have HXg18 := Aside0.mk (blk_new w18 (.cells #[.int .i64 1, .int .i64 X, .int .i64 Y, .string t] 34))
    have HBl := Aside0.mk (below_alloc (Below.refl w18.heap.size w18) (.cells #[.int .i64 1, .int .i64 X, .int .i64 Y, .string t] 34))
    replace HS := Aside0.mk (HS.out.below HBl.out)
    replace HXg16 := Aside0.mk (blk_below HXg16.out HBl.out)
    clear HBl
    generalize w18.alloc (.cells #[.int .i64 1, .int .i64 X, .int .i64 Y, .string t] 34) = w19 at HS HXg18 HXg16 ⊢
    generalize w18.heap.size = g18 at HXg18 HGg18 ⊢
    have HI : Aside0 (∀ W, IsBg w W g mb cb (0 + 2 + 2 + 2 + 1 + 1 + 1) ⟨[], 3, []⟩ → Calls Try.prog 15 #[.pointer (some ⟨g, 0, none⟩)] W fun e W' => ∃ v, e = .returned v ∧ Kd.R (Kd.int .i64) 3 W' W.heap.size (fun _ => True) v [] ∧ Below W.heap.size W W') := ⟨fun W h => bag_ids h (by omega)⟩
    go_wp2_with (first
      | (go_at_call 10; refine (awake10 _).mono ?_; rintro e w20 ⟨rfl, hb⟩; replace HS := Aside0.mk (HS.out.below hb); replace HXg16 := Aside0.mk (blk_below HXg16.out hb); replace HXg18 := Aside0.mk (blk_below HXg18.out hb); clear hb; have HIw := Aside0.mk (HI.out w20 HS.out); have y1 : w20.cell? ⟨g16, 1, none⟩ = some (.int .i64 Y) := (blk_cell HXg16.out 1).trans rfl; have y3 : w20.cell? ⟨g16, 3, none⟩ = some (.string t) := (blk_cell HXg16.out 3).trans rfl; have z1 : w20.cell? ⟨g18, 1, none⟩ = some (.int .i64 X) := (blk_cell HXg18.out 1).trans rfl)
      | (go_at_call 15; refine HIw.out.mono ?_; rintro e w21 ⟨v, rfl, hR, hb⟩; obtain ⟨A9, c9, rfl⟩ := Kd.R_slice hR; replace HS := Aside0.mk (HS.out.below hb); clear hR hb))
    go_ret
    exact ⟨rfl, HS.out.bel⟩
  · have hcase : (X == Y) = true ∨ ((X == Y) = false ∧ (Z == X) = true) ∨ ((X == Y) = false ∧ (Z == X) = false ∧ (Z == Y) = true) ∨ ((X == Y) = false ∧ (Z == X) = false ∧ (Z == Y) = false ∧ decide ((300 : Int) < (t.size : Int)) = true) := by
      by_cases a : X = Y
      · exact Or.inl (beq_iff_eq.mpr a)
      · by_cases b : Z = X
        · exact Or.inr (Or.inl ⟨beq_eq_false_iff_ne.mpr a, beq_iff_eq.mpr b⟩)
        · by_cases c : Z = Y
          · exact Or.inr (Or.inr (Or.inl ⟨beq_eq_false_iff_ne.mpr a, beq_eq_false_iff_ne.mpr b, beq_iff_eq.mpr c⟩))
          · exact Or.inr (Or.inr (Or.inr ⟨beq_eq_false_iff_ne.mpr a, beq_eq_false_iff_ne.mpr b, beq_eq_false_iff_ne.mpr c, decide_eq_true (by
              by_cases h : (t.size : Int) ≤ 300
              · exact absurd ⟨⟨a, b, c⟩, h⟩ hc
              · omega)⟩))
    clear hc
    rcases hcase with q0 | ⟨q0, q1⟩ | ⟨q0, q1, q2⟩ | ⟨q0, q1, q2, q3⟩
    all_goals
      go_wp2_with (go_at_call 10; refine (awake10 _).mono ?_; rintro e w20 ⟨rfl, hb⟩; have HA := Aside0.mk hb; clear hb)
      go_ret
      exact ⟨rfl, HB.out.trans (HA.out.mono HB.out.size)⟩

def wf43 (x : S43) : Prop := (Lit.int .i64 x.f0).wf = true ∧ x.f1.size ≤ 140737488351232
theorem op43 : Go.Proofs.Ytppoahccmcnenaa.Op.Op Try.prog k43 43 wf43 := op_mono (op_iso (op_struct Try.underlying43 (by kernel_rfl) (opfs_cons (op_int Try.underlying3 (by kernel_rfl)) rfl (opfs_last (op_string Try.underlying9 (by kernel_rfl)) rfl))) (fun x : S43 => (x.f0, x.f1)) (fun y => ⟨y.1, y.2⟩) (fun _ => rfl)) (fun _ h => h)


/-! ### splicelaw10_BagApart: function 5 -/
/-- THE ONE PURE STATEMENT of splicelaw10_BagApart: yours. -/
def splicelaw10_BagApart.Pure : Prop := ∀ (x0 : Int) (x1 : Int) (x2 : S43), (Lit.int .i64 x0).wf = true → (Lit.int .i64 x1).wf = true → wf43 x2 → splicelaw10_BagApart.f x0 x1 x2.f0 x2.f1 = some true

end Go.Proofs.Ytppoahccmcnenaa.PA
