-- written by a program of this session
import Derived.Test.YteclhjhnbolkmaaPUx0
import Derived.Test.YteclhjhnbolkmaaPUx2
import Derived.Test.YteclhjhnbolkmaaPUx5
import Derived.Test.YteclhjhnbolkmaaPUx6
import Derived.Test.YteclhjhnbolkmaaPUx9
import Derived.Test.YteclhjhnbolkmaaPUx10
namespace Go.Proofs.Yteclhjhnbolkmaa.PU
open Go.RowKit Go.Proofs.Yteclhjhnbolkmaa.Op Go.Proofs.YteclhjhnbolkmaaW.PrintWords Go.Proofs.YteclhjhnbolkmaaW.PrintLast Go.Proofs.YteclhjhnbolkmaaW.PrintMore
attribute [local go_sem] max2_int min2_int max_two min_two max_three min_three max_four min_four   -- for this text's walks alone
set_option linter.unusedVariables false
set_option linter.unusedSimpArgs false

attribute [local go_sem high] eqA86
/-! ### splicelaw08_Ref: function 10 -/
def splicelaw08_Ref.f (k : Nat) (a0_0 : Int) (a0_1 : Int) (l0_2 : List (S67)) : Option (Int × Int × (List (S86))) := (splicelaw08_Refs.f k l0_2).bind fun t237 => (some (a0_0, a0_1, t237))
theorem splicelaw08_Ref.mono : ∀ a0 a1 a2 k, LeO (splicelaw08_Ref.f k a0 a1 a2) (splicelaw08_Ref.f (k + 1) a0 a1 a2) := by
  intro a0 a1 a2 k
  unfold splicelaw08_Ref.f
  repeat' first
      | (with_reducible exact splicelaw08_Refs.mono _ _)
      | (with_reducible exact LeO.refl _)
      | (with_reducible exact LeO.none _)
      | (with_reducible refine LeO.ite ?_ ?_)
      | (with_reducible refine LeO.bind ?_ (fun _ => ?_))
      | exact splicelaw08_Refs.mono _ _
      | exact LeO.none _
      | refine LeO.ite ?_ ?_
      | refine LeO.bind ?_ (fun _ => ?_)
def splicelaw08_Ref.T1 : Bool × List (List Nat × List Nat) := (true, [([], []), ([0], [0]), ([], []), ([2], [2]), ([], []), ([4], [4]), ([5], [5]), ([1, 3, 6], [1, 3, 6]), ([7, 6, 0, 1, 2, 3, 4, 5, 6, 7], [7])])
def splicelaw08_Ref.B1 : List Nat := [0, 1, 0, 4, 0, 16, 48, 127, 255]
theorem splicelaw08_Ref.tab1 : rtab .any (opsOf Try.f10 1) = splicelaw08_Ref.T1 := by kernel_rfl
theorem splicelaw08_Ref.bits1 : waitsOk splicelaw08_Ref.T1.2 splicelaw08_Ref.B1 = true := by kernel_rfl
set_option maxHeartbeats 8000000 in
set_option maxRecDepth 100000 in
theorem splicelaw08_Ref.calls (k : Nat) (a0_0 : Int) (a0_1 : Int) (A0_2 : Option Addr) (c0_2 : Nat) (l0_2 : List (S67)) (r1 : Int) (r2 : Int) (r3 : List (S86)) (w : World) (hr0_2 : Kd.C k67 w A0_2 l0_2.length l0_2) (hc0_2 : l0_2.length ≤ c0_2) (h : splicelaw08_Ref.f k a0_0 a0_1 l0_2 = some (r1, r2, r3)) :
    Calls Try.prog 10 #[.agg #[.int .i64 a0_0, .int .i64 a0_1, .slice A0_2 l0_2.length c0_2]] w fun e w' => ∃ v2_ : Value, e = .returned (.agg #[.int .i64 r1, .int .i64 r2, v2_]) ∧ Kd.R k86 86 w' w.heap.size (fun _ => True) v2_ r3 ∧ Below w.heap.size w w' := by
  have hu24 := Try.underlying24
  have hu34 := Try.underlying34
  have HR0_2 := Aside0.mk hr0_2
  have HC0_2 := Aside0.mk hc0_2
  clear hr0_2 hc0_2
  have HB := Aside0.mk (Below.refl w.heap.size w)
  have H : ((splicelaw08_Refs.f k l0_2).bind fun t237 => (some (a0_0, a0_1, t237))) = some (r1, r2, r3) := h
  clear h
  replace H := Option.bind_eq_some_iff.mp H
  obtain ⟨t237, A20, H⟩ := H
  replace H : (some (a0_0, a0_1, t237)) = some (r1, r2, r3) := H
  have A2 := Aside0.mk A20
  clear A20
  simp only [Option.some.injEq, Prod.mk.injEq] at H
  obtain ⟨rfl, rfl, rfl⟩ := H
  go_enter Try.func10, Try.ntmps10
  try go_wp2_with (first | ((with_reducible refine gate_dst (N := 1) rfl ?_); refine box_event ?hg (N := 1) ?hd (cs := #[.int .i64 a0_0, .int .i64 a0_1, .slice A0_2 l0_2.length c0_2]) (t := 24) ?hr ?_; (case hd => rfl); (case hg => rfl); (case hr => first | (go_simp; done) | (go_simp; rfl)); intro gb235 hg w3 hbox hb; have n0_ := Aside0.mk (below_step (by repeat (first | (with_reducible first | exact HB.out | apply below_alloc | apply pw_below_drewN | apply below_drew1) | exact HB.out)) hb); have n1_ := Aside0.mk (hbox); have n2_ := Aside0.mk ((by rw [hg]; exact (below_size (by repeat (first | (with_reducible first | exact HB.out | apply below_alloc | apply pw_below_drewN | apply below_drew1) | exact HB.out))) : w.heap.size ≤ gb235)); have n3_ := Aside0.mk ((by rw [hg]; exact (below_size (by repeat (first | (with_reducible first | exact HB.out | apply below_alloc | apply pw_below_drewN | apply below_drew1) | exact HB.out))) : w.heap.size ≤ gb235)); clear HB; have HB := n0_; have BK235 := n1_; have GW235 := n2_; have GE235 := n3_; clear n0_ n1_ n2_ n3_; clear hb hbox hg) | ((with_reducible refine gate_dst (N := 2) rfl ?_); refine box_event ?hg (N := 2) ?hd (cs := #[.int .i64 0, .int .i64 0, .slice none 0 0]) (t := 34) ?hr ?_; (case hd => rfl); (case hg => rfl); (case hr => first | (go_simp; done) | (go_simp; rfl)); intro gb236 hg w4 hbox hb; have n0_ := Aside0.mk (blk_below (g := gb235) (o := .cells #[.int .i64 a0_0, .int .i64 a0_1, .slice A0_2 l0_2.length c0_2] 24 (0, 0)) (by (with_reducible repeat (first | refine blk_drewN ?_ _ | refine blk_drew ?_ | refine blk_alloc ?_ _)); exact BK235.out) hb); have n1_ := Aside0.mk (below_step (by repeat (first | (with_reducible first | exact HB.out | apply below_alloc | apply pw_below_drewN | apply below_drew1 | refine below_set ?_ GE235.out) | exact HB.out)) hb); have n2_ := Aside0.mk (hbox); have n3_ := Aside0.mk ((by rw [hg]; exact (below_size (by repeat (first | (with_reducible first | exact HB.out | apply below_alloc | apply pw_below_drewN | apply below_drew1 | refine below_set ?_ GE235.out) | exact HB.out))) : w.heap.size ≤ gb236)); have n4_ := Aside0.mk ((by rw [hg]; exact (below_size (by repeat (first | (with_reducible first | exact HB.out | apply below_alloc | apply pw_below_drewN | apply below_drew1 | refine below_set ?_ GE235.out) | exact HB.out))) : w.heap.size ≤ gb236)); have n5_ := Aside0.mk ((by rw [hg]; exact Nat.ne_of_lt (blk_lt (g := gb235) (o := .cells #[.int .i64 a0_0, .int .i64 a0_1, .slice A0_2 l0_2.length c0_2] 24 (0, 0)) (by (with_reducible repeat (first | refine blk_drewN ?_ _ | refine blk_drew ?_ | refine blk_alloc ?_ _)); exact BK235.out)) : gb235 ≠ gb236)); have n6_ := Aside0.mk ((by rw [hg]; exact Nat.ne_of_gt (blk_lt (g := gb235) (o := .cells #[.int .i64 a0_0, .int .i64 a0_1, .slice A0_2 l0_2.length c0_2] 24 (0, 0)) (by (with_reducible repeat (first | refine blk_drewN ?_ _ | refine blk_drew ?_ | refine blk_alloc ?_ _)); exact BK235.out)) : gb236 ≠ gb235)); clear BK235; clear HB; have BK235 := n0_; have HB := n1_; have BK236 := n2_; have GW236 := n3_; have GE236 := n4_; have NB235_236 := n5_; have NB236_235 := n6_; clear n0_ n1_ n2_ n3_ n4_ n5_ n6_; clear hb hbox hg))
  have n0_ := Aside0.mk (blk_drew BK235.out)
  have n1_ := Aside0.mk (blk_drew BK236.out)
  have n2_ := Aside0.mk (below_drew1 HB.out)
  clear BK235
  clear BK236
  clear HB
  have BK235 := n0_
  have BK236 := n1_
  have HB := n2_
  clear n0_ n1_ n2_
  refine start_ (n := 9) (S := fun w' => w'.cell? ⟨gb235, 0, none⟩ = some (.int .i64 a0_0) ∧ w'.cell? ⟨gb235, 1, none⟩ = some (.int .i64 a0_1) ∧ w'.cell? ⟨gb235, 2, none⟩ = some (.slice A0_2 l0_2.length c0_2)) (ds := []) #[false, false, false, false, false, false, false, false, false] (by kernel_rfl) rfl rfl ⟨(blk_cell BK235.out 0).trans rfl, (blk_cell BK235.out 1).trans rfl, (blk_cell BK235.out 2).trans rfl⟩ (fun hHeld => ?_); refine with_tabW splicelaw08_Ref.tab1 splicelaw08_Ref.bits1 (fun HT_ HW_ => ?_)
  generalize w4.drew = w5 at BK235 BK236 HB hHeld ⊢
  refine pure_ (i := 0) (N := some 3) (v := ?_) (a' := ?_) #[true, false, false, false, false, false, false, false, false] rfl rfl (any_of HT_.out (by kernel_rfl)) (fun _ _ _ h => h) (Or.inl ⟨by rfl, ?_⟩) ?_ ?_
  rotate_left
  · intro w'
    go_simp
    with_reducible rfl
  rotate_left
  · simp only [Act.put, List.setIfInBounds_toArray, List.set_cons_zero, List.set_cons_succ, i64_w, i32_w]
    rfl
  refine pure_ (i := 2) (N := some 5) (v := ?_) (a' := ?_) #[true, false, true, false, false, false, false, false, false] rfl rfl (any_of HT_.out (by kernel_rfl)) (fun _ _ _ h => h) (Or.inl ⟨by rfl, ?_⟩) ?_ ?_
  rotate_left
  · intro w'
    go_simp
    with_reducible rfl
  rotate_left
  · simp only [Act.put, List.setIfInBounds_toArray, List.set_cons_zero, List.set_cons_succ, i64_w, i32_w]
    rfl
  refine pure_ (i := 4) (N := some 7) (v := ?_) (a' := ?_) #[true, false, true, false, true, false, false, false, false] rfl rfl (any_of HT_.out (by kernel_rfl)) (fun _ _ _ h => h) (Or.inl ⟨by rfl, ?_⟩) ?_ ?_
  rotate_left
  · intro w'
    go_simp
    with_reducible rfl
  rotate_left
  · simp only [Act.put, List.setIfInBounds_toArray, List.set_cons_zero, List.set_cons_succ, i64_w, i32_w]
    rfl
  refine take_ (i := 1) (N := some 4) (v := ?_) (a' := ?_) #[true, true, true, false, true, false, false, false, false] rfl rfl (take_ofW HT_.out HW_.out (by kernel_rfl)) (fun _ _ _ h => h) (Or.inl ⟨by rfl, ?_⟩) hHeld ?_ ?_
  rotate_left
  · rintro w' ⟨s0, s1, s2⟩
    go_simp
    with_reducible rfl
  rotate_left
  · simp only [Act.put, List.setIfInBounds_toArray, List.set_cons_zero, List.set_cons_succ, i64_w, i32_w]
    rfl
  refine take_ (i := 3) (N := some 6) (v := ?_) (a' := ?_) #[true, true, true, true, true, false, false, false, false] rfl rfl (take_ofW HT_.out HW_.out (by kernel_rfl)) (fun _ _ _ h => h) (Or.inl ⟨by rfl, ?_⟩) hHeld ?_ ?_
  rotate_left
  · rintro w' ⟨s0, s1, s2⟩
    go_simp
    with_reducible rfl
  rotate_left
  · simp only [Act.put, List.setIfInBounds_toArray, List.set_cons_zero, List.set_cons_succ, i64_w, i32_w]
    rfl
  refine take_ (i := 5) (N := some 8) (v := ?_) (a' := ?_) #[true, true, true, true, true, true, false, false, false] rfl rfl (take_ofW HT_.out HW_.out (by kernel_rfl)) (fun _ _ _ h => h) (Or.inl ⟨by rfl, ?_⟩) hHeld ?_ ?_
  rotate_left
  · rintro w' ⟨s0, s1, s2⟩
    go_simp
    with_reducible rfl
  rotate_left
  · simp only [Act.put, List.setIfInBounds_toArray, List.set_cons_zero, List.set_cons_succ, i64_w, i32_w]
    rfl
  refine one_ (i := 6) (N := some 9) #[true, true, true, true, true, true, true, false, false] rfl rfl (one_of HT_.out (by kernel_rfl)) (by decide) (fun K hK => ?_)
  refine goes_ Try.func32 (by kernel_rfl) rfl #[.slice A0_2 l0_2.length c0_2] (by rfl) rfl rfl (by (try simp only [List.map_toArray, List.map_cons, List.map_nil]); first | done | rfl | (simp only [List.length_drop, List.length_take]; rfl)) ?_
  with_reducible refine (splicelaw08_Refs.calls k _ _ l0_2 t237 _ ?side1 ?side2 A2.out).mono ?_
  (case side1 => repeat (first | exact (Kd.C_below HR0_2.out HB.out) | (with_reducible refine Kd.C_alloc ?_ _) | (with_reducible refine Kd.C_drewN ?_ _) | (with_reducible refine Kd.C_drew ?_)))
  (case side2 => exact HC0_2.out)
  rintro e w6 ⟨v238, rfl, ho0, hb⟩
  refine ⟨_, rfl, ?_⟩
  have n0_ := Aside0.mk (Kd.R_lower ho0 (below_size (by repeat (first | (with_reducible first | exact HB.out | apply below_alloc | apply pw_below_drewN | apply below_drew1 | refine below_set ?_ GE235.out | refine below_set ?_ GE236.out) | exact HB.out))))
  have n1_ := Aside0.mk (blk_below (g := gb235) (o := .cells #[.int .i64 a0_0, .int .i64 a0_1, .slice A0_2 l0_2.length c0_2] 24 (0, 0)) (by (with_reducible repeat (first | refine blk_drewN ?_ _ | refine blk_drew ?_ | refine blk_alloc ?_ _)); exact BK235.out) hb)
  have n2_ := Aside0.mk (blk_below (g := gb236) (o := .cells #[.int .i64 0, .int .i64 0, .slice none 0 0] 34 (0, 0)) (by (with_reducible repeat (first | refine blk_drewN ?_ _ | refine blk_drew ?_ | refine blk_alloc ?_ _)); exact BK236.out) hb)
  have n3_ := Aside0.mk (below_step (by repeat (first | (with_reducible first | exact HB.out | apply below_alloc | apply pw_below_drewN | apply below_drew1 | refine below_set ?_ GE235.out | refine below_set ?_ GE236.out) | exact HB.out)) hb)
  clear BK235
  clear BK236
  clear HB
  have HO239 := n0_
  have BK235 := n1_
  have BK236 := n2_
  have HB := n3_
  clear n0_ n1_ n2_ n3_
  (try clear hb)
  (try clear hb2)
  (try clear hk)
  (try clear hi)
  (try clear ho0)
  obtain ⟨Ao7, co7, eo7⟩ := Kd.R_slice HO239.out
  (first | subst eo7 | (injection eo7 with f1_ f2_ f3_; have f4_ := f1_.symm; have f5_ := f3_.symm; clear f1_ f2_ f3_; subst f4_; subst f5_))
  refine hK.out _ _ ⟨(blk_cell BK235.out 0).trans rfl, (blk_cell BK235.out 1).trans rfl, (blk_cell BK235.out 2).trans rfl⟩ (fun hHeld => ?_)
  clear hK K
  refine norm_ (a' := ?_) ?_ ?_
  rotate_left
  · show Act.put _ (some 9) _ = _
    simp only [Act.put, List.setIfInBounds_toArray, List.set_cons_zero, List.set_cons_succ, i64_w, i32_w]
    rfl
  refine pure_ (i := 7) (N := some 10) (v := ?_) (a' := ?_) #[true, true, true, true, true, true, true, true, false] rfl rfl (any_of HT_.out (by kernel_rfl)) (fun _ _ _ h => h) (Or.inl ⟨by rfl, ?_⟩) ?_ ?_
  rotate_left
  · intro w'
    go_simp
    with_reducible rfl
  rotate_left
  · simp only [Act.put, List.setIfInBounds_toArray, List.set_cons_zero, List.set_cons_succ, i64_w, i32_w]
    rfl
  refine one_ (i := 8) (N := none) #[true, true, true, true, true, true, true, true, true] rfl rfl (one_of HT_.out (by kernel_rfl)) (by decide) (fun K hK => ?_)
  have hs8 : w6.cell? ⟨gb236, 0, none⟩ = some (.int .i64 0) := (blk_cell BK236.out 0).trans rfl
  have hfs8 := blk_frozen BK236.out 0
  have hns8_0 := NB235_236.out
  have hms8_0 := NB236_235.out
  have hs9 : w6.cell? ⟨gb236, 1, none⟩ = some (.int .i64 0) := (blk_cell BK236.out 1).trans rfl
  have hfs9 := blk_frozen BK236.out 1
  have hns9_0 := NB235_236.out
  have hms9_0 := NB236_235.out
  have hs10 : w6.cell? ⟨gb236, 2, none⟩ = some (.slice none 0 0) := (blk_cell BK236.out 2).trans rfl
  have hfs10 := blk_frozen BK236.out 2
  have hns10_0 := NB235_236.out
  have hms10_0 := NB236_235.out
  refine skip_ (w1 := ?_) (by rfl) rfl ?_ ?_
  rotate_left
  · go_simp
    rfl
  refine hK.out _ _ ⟨((cell_far (p := ⟨gb236, _, none⟩) NB235_236.out _).trans (((cell_far (p := ⟨gb236, _, none⟩) NB235_236.out _).trans (((cell_far (p := ⟨gb236, _, none⟩) NB235_236.out _).trans (hHeld.1)))))), ((cell_far (p := ⟨gb236, _, none⟩) NB235_236.out _).trans (((cell_far (p := ⟨gb236, _, none⟩) NB235_236.out _).trans (((cell_far (p := ⟨gb236, _, none⟩) NB235_236.out _).trans (hHeld.2.1)))))), ((cell_far (p := ⟨gb236, _, none⟩) NB235_236.out _).trans (((cell_far (p := ⟨gb236, _, none⟩) NB235_236.out _).trans (((cell_far (p := ⟨gb236, _, none⟩) NB235_236.out _).trans (hHeld.2.2))))))⟩ (fun hHeld => ?_)
  clear hK K
  refine done_ (done_of HT_.out (by kernel_rfl)) ?_
  try go_wp2
  refine bodyPost_ret (results_cell_row rfl _ _ gb236 34 #[.int .i64 a0_0, .int .i64 a0_1, .slice Ao7 t237.length co7] (0, 0) _ rfl (by (with_reducible repeat (first | refine blk_drewN ?_ _ | refine blk_drew ?_ | refine blk_alloc ?_ _)); refine blk_put (cs := #[.int .i64 a0_0, .int .i64 a0_1, .slice none 0 0]) ?_ 2 _ rfl; (with_reducible repeat (first | refine blk_drewN ?_ _ | refine blk_drew ?_ | refine blk_alloc ?_ _)); refine blk_put (cs := #[.int .i64 a0_0, .int .i64 0, .slice none 0 0]) ?_ 1 _ rfl; (with_reducible repeat (first | refine blk_drewN ?_ _ | refine blk_drew ?_ | refine blk_alloc ?_ _)); refine blk_put (cs := #[.int .i64 0, .int .i64 0, .slice none 0 0]) ?_ 0 _ rfl; (with_reducible repeat (first | refine blk_drewN ?_ _ | refine blk_drew ?_ | refine blk_alloc ?_ _)); exact BK236.out) Try.underlying34 rfl (by kernel_rfl)) rfl ?_
  exact ⟨_, by first | rfl | (simp [errW_none, errW_some] <;> rfl) | (simp [*, errW_none, errW_some] <;> rfl), by (with_reducible repeat (first | apply Kd.R_alloc | apply Kd.R_drewN | apply Kd.R_drew)); exact Kd.R_mono (Kd.R_far (p := ⟨gb236, 2, none⟩) (Kd.R_far (p := ⟨gb236, 1, none⟩) (Kd.R_far (p := ⟨gb236, 0, none⟩) (Kd.R_types HO239.out BK236.out (by decide)) (fun _ hk => hk.2) (.int .i64 a0_0)) (fun _ hk => hk.2) (.int .i64 a0_1)) (fun _ hk => hk.2) (.slice Ao7 t237.length co7)) (fun _ hk => trivial), by repeat (first | (with_reducible first | exact HB.out | apply below_alloc | apply pw_below_drewN | apply below_drew1 | refine below_set ?_ GE235.out | refine below_set ?_ GE236.out) | exact HB.out)⟩

/-! ### balance_Run: function 29 (a row that is built by append, another that is handed on: by hand) -/
def balance_Run.g (k : Nat) (l1 : List (S70)) (a2_0 a2_1 a2_2 a3 a4 : Int) : Nat → Int → Int → List (S67) → List (S54) → Option (Int × Int × List (S67) × List (S54) × Int)
  | 0, _, _, _, _ => none
  | q + 1, ep, nx, L, dn => (balance_Suggest.f k ep nx L l1 a2_0 a2_1 a2_2 a3).bind fun r => if r.2.2.2.2 = 0 then (if r.2.2.2.1 = true ∧ (dn.length : Int) < a4 then (if 1000 < dn.length then none else (chart_Apply.f k ep nx L r.1 r.2.1 r.2.2.1).bind fun t => balance_Run.g k l1 a2_0 a2_1 a2_2 a3 a4 q t.1 t.2.1 t.2.2.1 (dn ++ [⟨r.1, r.2.1, r.2.2.1⟩])) else some (ep, nx, L, dn, 0)) else some (0, 0, [], [], r.2.2.2.2)
def balance_Run.f (k : Nat) (a0_0 : Int) (a0_1 : Int) (l0_2 : List (S67)) (l1 : List (S70)) (a2_0 a2_1 a2_2 a3 a4 : Int) : Option (Int × Int × List (S67) × List (S54) × Int) := if 1000000 < l0_2.length then none else balance_Run.g k l1 a2_0 a2_1 a2_2 a3 a4 k a0_0 a0_1 l0_2 []
theorem balance_Run.mono_g (k : Nat) (l1 : List (S70)) (a2_0 a2_1 a2_2 a3 a4 : Int) : ∀ (q : Nat) (ep nx : Int) (L : List (S67)) (dn : List (S54)), LeO (balance_Run.g k l1 a2_0 a2_1 a2_2 a3 a4 q ep nx L dn) (balance_Run.g (k + 1) l1 a2_0 a2_1 a2_2 a3 a4 (q + 1) ep nx L dn) := by
  intro q
  induction q with
  | zero => intro ep nx L dn r h; simp [balance_Run.g] at h
  | succ q ih =>
    intro ep nx L dn
    rw [balance_Run.g, balance_Run.g]
    exact LeO.bind (balance_Suggest.mono _ _ _ _ _ _ _ _ _) (fun _ => LeO.ite (LeO.ite (LeO.ite (LeO.refl _) (LeO.bind (chart_Apply.mono _ _ _ _ _ _ _) (fun _ => ih _ _ _ _))) (LeO.refl _)) (LeO.refl _))
theorem balance_Run.mono : ∀ a0 a1 a2 a3 a4 a5 a6 a7 a8 k, LeO (balance_Run.f k a0 a1 a2 a3 a4 a5 a6 a7 a8) (balance_Run.f (k + 1) a0 a1 a2 a3 a4 a5 a6 a7 a8) := by
  intro a0 a1 a2 a3 a4 a5 a6 a7 a8 k
  unfold balance_Run.f
  exact LeO.ite (LeO.refl _) (balance_Run.mono_g _ _ _ _ _ _ _ _ _ _ _ _)
theorem run_other {W W' : World} {base base' : Nat} {ok ok' : Nat → Prop} {vL vD : Value} {L : List (S67)} {dn : List (S54)} (hL : Kd.R k67 67 W base ok vL L) (hD : Kd.R k54 54 W base' ok' vD dn) (hg : W.grownBy W' vD.ownBlock) : Kd.R k67 67 W' base ok vL L := by
  refine Kd.R_mono (Kd.R_step (Kd.R_tight rfl hL) (fun k hk hlt => hg.block k hlt (fun e => ?_))) (fun k hk => hL.1 k hk.symm)
  obtain ⟨i1, o1, _⟩ := hL.2
  obtain ⟨c1, h1⟩ := own_typed o1 k hk.symm
  obtain ⟨i2, o2, _⟩ := hD.2
  obtain ⟨c2, h2⟩ := own_typed o2 k e.symm
  rw [h1] at h2
  simp at h2
theorem run_apart {W : World} {base base' : Nat} {ok ok' : Nat → Prop} {vL vD : Value} {L : List (S67)} {dn : List (S54)} (hL : Kd.R k67 67 W base ok vL L) (hD : Kd.R k54 54 W base' ok' vD dn) : Kd.R k67 67 W base (fun k_ => some k_ ≠ vD.ownBlock) vL L ∧ Kd.R k54 54 W base' (fun k_ => some k_ ≠ vL.ownBlock) vD dn := by
  have hne : ∀ k, some k = vL.ownBlock → some k = vD.ownBlock → False := fun k hk e => by
    obtain ⟨i1, o1, _⟩ := hL.2
    obtain ⟨c1, h1⟩ := own_typed o1 k hk.symm
    obtain ⟨i2, o2, _⟩ := hD.2
    obtain ⟨c2, h2⟩ := own_typed o2 k e.symm
    rw [h1] at h2
    simp at h2
  exact ⟨Kd.R_mono (Kd.R_tight rfl hL) (fun k hk e => hne k hk e), Kd.R_mono (Kd.R_tight rfl hD) (fun k hk e => hne k e hk)⟩
theorem clone_any (A : Option Addr) (c : Nat) (l : List (S67)) (w : World) (hr : Kd.C k67 w A l.length l) (hl : l.length ≤ 1000000) :
    Calls Try.prog 48 #[.slice A l.length c] w fun e w' => ∃ v, e = .returned v ∧ Kd.R k67 67 w' w.heap.size (fun _ => True) v l ∧ Below w.heap.size w w' := by
  cases A with
  | some ad => exact clone_calls ad c l w hr (by omega)
  | none =>
    have h0 : l = [] := by
      rcases Nat.eq_zero_or_pos l.length with h | h
      · exact List.eq_nil_of_length_eq_zero h
      · obtain ⟨ad, e, _⟩ := hr.2.2 h
        cases e
    subst h0
    have heq : ∀ W, (binOp .eql 22 (.slice none 0 c) (.slice none 0 0)).run Try.prog W = .ok (.bool true) W := fun W => Lib.run_eql_slice_nil W 22 67 none 0 c 0 0 Try.underlying22
    clear hr hl
    go_enter Try.func48, Try.ntmps48
    go_wp2
    go_ret
    exact ⟨_, rfl, Kd.R_nil _ _ _ _ _, Below.refl _ _⟩
theorem info54_ : (Try.prog.info? 54).map (fun i => (i.zero, i.size, i.bytes)) = some (some (.agg #[(.int .i64 0), (.int .i64 0), (.int .i64 0)]), 3, 24) := by kernel_rfl
def run1.T : Bool × List (List Nat × List Nat) := (true, [([], []), ([0], [0]), ([], []), ([2], [2]), ([], []), ([4], [4]), ([5], [5]), ([1, 3, 6], [1, 3, 6]), ([7, 6, 0, 1, 2, 3, 4, 5, 6, 7], [7])])
def run1.B : List Nat := [0, 1, 0, 4, 0, 16, 48, 127, 255]
theorem run1.tab : rtab .any (opsOf Try.f29 1) = run1.T := by kernel_rfl
theorem run1.bits : waitsOk run1.T.2 run1.B = true := by kernel_rfl
set_option maxHeartbeats 16000000 in
set_option maxRecDepth 100000 in
theorem balance_Run.calls (k : Nat) (a0_0 : Int) (a0_1 : Int) (A0_2 : Option Addr) (c0_2 : Nat) (l0_2 : List (S67)) (A1 : Option Addr) (c1 : Nat) (l1 : List (S70)) (a2_0 : Int) (a2_1 : Int) (a2_2 : Int) (a3 : Int) (a4 : Int) (r1 : Int) (r2 : Int) (r3 : List (S67)) (r4 : List (S54)) (r5 : Int) (w : World) (hr0_2 : Kd.C k67 w A0_2 l0_2.length l0_2) (hc0_2 : l0_2.length ≤ c0_2) (hr1 : Kd.C k70 w A1 l1.length l1) (hc1 : l1.length ≤ c1) (h : balance_Run.f k a0_0 a0_1 l0_2 l1 a2_0 a2_1 a2_2 a3 a4 = some (r1, r2, r3, r4, r5)) :
    Calls Try.prog 29 #[.agg #[.int .i64 a0_0, .int .i64 a0_1, .slice A0_2 l0_2.length c0_2], .slice A1 l1.length c1, .agg #[.int .i64 a2_0, .int .i64 a2_1, .int .i64 a2_2], .int .i64 a3, .int .i64 a4] w fun e w' => ∃ v2_ v3_ : Value, e = .returned (.tuple #[.agg #[.int .i64 r1, .int .i64 r2, v2_], v3_, .int .i64 r5]) ∧ Kd.R k67 67 w' w.heap.size (fun k_ => some k_ ≠ (v3_ : Value).ownBlock) v2_ r3 ∧ Kd.R k54 54 w' w.heap.size (fun k_ => some k_ ≠ (v2_ : Value).ownBlock) v3_ r4 ∧ Below w.heap.size w w' := by
  unfold balance_Run.f at h
  by_cases hbig : 1000000 < l0_2.length
  case pos => rw [if_pos hbig] at h; exact absurd h (by simp)
  rw [if_neg hbig] at h
  have HR0 := Aside0.mk hr0_2
  have HR1 := Aside0.mk (And.intro hr1 hc1)
  have HBig := Aside0.mk hbig
  have HG := Aside0.mk h
  clear hr0_2 hc0_2 hr1 hc1 hbig h
  have HB := Aside0.mk ((((Bx.start w).push #[.int .i64 a0_0, .int .i64 a0_1, .slice A0_2 l0_2.length c0_2] 24).push #[.int .i64 a2_0, .int .i64 a2_1, .int .i64 a2_2] 27).push #[.int .i64 0, .int .i64 0, .slice none 0 0] 24)
  go_enter Try.func29, Try.ntmps29
  go_upto_region 1 with (fail)
  simp only [alloc_size, List.nil_append, List.cons_append] at HB
  generalize ((w.alloc (.cells #[.int .i64 a0_0, .int .i64 a0_1, .slice A0_2 l0_2.length c0_2] 24)).alloc (.cells #[.int .i64 a2_0, .int .i64 a2_1, .int .i64 a2_2] 27)).alloc (.cells #[.int .i64 0, .int .i64 0, .slice none 0 0] 24) = w2 at HB ⊢
  generalize w.heap.size + 1 + 1 = b10 at HB ⊢
  generalize w.heap.size + 1 = b7 at HB ⊢
  obtain ⟨b5, hb5⟩ : ∃ b5, b5 = w.heap.size := ⟨_, rfl⟩
  rw [← hb5] at HB
  try rw [← hb5]
  clear hb5
  replace HB := Aside0.mk (HB.out.below (below_drew (Below.refl _ _)))
  refine start_ (n := 9) (S := fun w' => w'.cell? ⟨b5, 0, none⟩ = some (.int .i64 a0_0) ∧ w'.cell? ⟨b5, 1, none⟩ = some (.int .i64 a0_1) ∧ w'.cell? ⟨b5, 2, none⟩ = some (.slice A0_2 l0_2.length c0_2)) (ds := [8]) (bAg 9 0) (by kernel_rfl) rfl rfl ⟨(blk_cell (HB.out.get 0 rfl) 0).trans rfl, (blk_cell (HB.out.get 0 rfl) 1).trans rfl, (blk_cell (HB.out.get 0 rfl) 2).trans rfl⟩ (fun hHeld => ?_); refine with_tabW run1.tab run1.bits (fun HT_ HW_ => ?_)
  generalize w2.drew = wd at HB hHeld ⊢
  refine pure_ (i := 0) (N := some 16) (v := ?_) (a' := ?_) (bAg 9 1) rfl rfl (any_of HT_.out (by kernel_rfl)) (fun _ _ _ h => h) (Or.inl ⟨by rfl, ?_⟩) ?_ ?_
  rotate_left
  · intro w'
    go_simp
    with_reducible rfl
  rotate_left
  · simp only [Act.put, sg1, sg2, sg3, i64_w, i32_w]
    rfl
  refine take_ (i := 1) (N := some 17) (v := ?_) (a' := ?_) (bAg 9 3) rfl rfl (take_ofW HT_.out HW_.out (by kernel_rfl)) (fun _ _ _ h => h) (Or.inl ⟨by rfl, ?_⟩) hHeld ?_ ?_
  rotate_left
  · rintro w' ⟨s0_, s1_, s2_⟩
    go_simp
    with_reducible rfl
  rotate_left
  · simp only [Act.put, sg1, sg2, sg3, i64_w, i32_w]
    rfl
  refine pure_ (i := 2) (N := some 18) (v := ?_) (a' := ?_) (bAg 9 7) rfl rfl (any_of HT_.out (by kernel_rfl)) (fun _ _ _ h => h) (Or.inl ⟨by rfl, ?_⟩) ?_ ?_
  rotate_left
  · intro w'
    go_simp
    with_reducible rfl
  rotate_left
  · simp only [Act.put, sg1, sg2, sg3, i64_w, i32_w]
    rfl
  refine take_ (i := 3) (N := some 19) (v := ?_) (a' := ?_) (bAg 9 15) rfl rfl (take_ofW HT_.out HW_.out (by kernel_rfl)) (fun _ _ _ h => h) (Or.inl ⟨by rfl, ?_⟩) hHeld ?_ ?_
  rotate_left
  · rintro w' ⟨s0_, s1_, s2_⟩
    go_simp
    with_reducible rfl
  rotate_left
  · simp only [Act.put, sg1, sg2, sg3, i64_w, i32_w]
    rfl
  refine pure_ (i := 4) (N := some 20) (v := ?_) (a' := ?_) (bAg 9 31) rfl rfl (any_of HT_.out (by kernel_rfl)) (fun _ _ _ h => h) (Or.inl ⟨by rfl, ?_⟩) ?_ ?_
  rotate_left
  · intro w'
    go_simp
    with_reducible rfl
  rotate_left
  · simp only [Act.put, sg1, sg2, sg3, i64_w, i32_w]
    rfl
  refine take_ (i := 5) (N := some 21) (v := ?_) (a' := ?_) (bAg 9 63) rfl rfl (take_ofW HT_.out HW_.out (by kernel_rfl)) (fun _ _ _ h => h) (Or.inl ⟨by rfl, ?_⟩) hHeld ?_ ?_
  rotate_left
  · rintro w' ⟨s0_, s1_, s2_⟩
    go_simp
    with_reducible rfl
  rotate_left
  · simp only [Act.put, sg1, sg2, sg3, i64_w, i32_w]
    rfl
  refine one_ (i := 6) (N := some 22) (bAg 9 127) rfl rfl (one_of HT_.out (by kernel_rfl)) (by decide) (fun K hK => ?_)
  refine goes_ Try.func48 (by kernel_rfl) rfl #[.slice A0_2 l0_2.length c0_2] (by rfl) rfl rfl (by (try simp only [List.map_toArray, List.map_cons, List.map_nil]); first | done | rfl) ?_
  refine (clone_any A0_2 c0_2 l0_2 _ (Kd.C_below HR0.out HB.out.bel) (by have := HBig.out; omega)).mono ?_
  rintro e w6 ⟨v, rfl, hR, hb⟩
  obtain ⟨A6, c6, rfl⟩ := Kd.R_slice hR
  refine ⟨_, rfl, ?_⟩
  have HL := Aside0.mk (R_newB (ns := [b5, b7, b10]) HB.out rfl hR)
  replace HB := Aside0.mk (HB.out.below hb)
  clear hR hb
  refine hK.out _ _ ⟨(blk_cell (HB.out.get 0 rfl) 0).trans rfl, (blk_cell (HB.out.get 0 rfl) 1).trans rfl, (blk_cell (HB.out.get 0 rfl) 2).trans rfl⟩ (fun hHeld => ?_)
  clear hK K
  refine norm_ (a' := ?_) ?_ ?_
  rotate_left
  · show Act.put _ (some 22) _ = _
    simp only [Act.put, sg1, sg2, sg3, i64_w, i32_w]
    rfl
  refine pure_ (i := 7) (N := some 23) (v := ?_) (a' := ?_) (bAg 9 255) rfl rfl (any_of HT_.out (by kernel_rfl)) (fun _ _ _ h => h) (Or.inl ⟨by rfl, ?_⟩) ?_ ?_
  rotate_left
  · intro w'
    go_simp
    with_reducible rfl
  rotate_left
  · simp only [Act.put, sg1, sg2, sg3, i64_w, i32_w]
    rfl
  refine last_ (i := 8) (N := none) (bAg 9 511) rfl rfl (one_of HT_.out (by kernel_rfl)) (by decide) (fun K hK => ?_)
  have t0 : World.cell? _ ⟨b10, 0, none⟩ = some (.int .i64 0) := (blk_cell (HB.out.get 2 rfl) 0).trans rfl
  have t1 : World.cell? _ ⟨b10, 1, none⟩ = some (.int .i64 0) := (blk_cell (HB.out.get 2 rfl) 1).trans rfl
  have t2 : World.cell? _ ⟨b10, 2, none⟩ = some (.slice none 0 0) := (blk_cell (HB.out.get 2 rfl) 2).trans rfl
  have tz0 : World.frozen? _ ⟨b10, 0, none⟩ = false := blk_frozen (HB.out.get 2 rfl) 0
  have tz1 : World.frozen? _ ⟨b10, 1, none⟩ = false := blk_frozen (HB.out.get 2 rfl) 1
  have tz2 : World.frozen? _ ⟨b10, 2, none⟩ = false := blk_frozen (HB.out.get 2 rfl) 2
  refine skip_ (w1 := ?_) (by rfl) rfl ?_ ?_
  rotate_left
  · go_simp
    rfl
  refine hK.out _ _ ?_
  clear hK K
  clear t0 t1 t2 tz0 tz1 tz2
  replace HB : Aside0 (Bx w (((w6.setCell ⟨b10, 0, none⟩ (.int .i64 a0_0)).setCell ⟨b10, 1, none⟩ (.int .i64 a0_1)).setCell ⟨b10, 2, none⟩ (.slice A6 l0_2.length c6)) [(b5, #[.int .i64 a0_0, .int .i64 a0_1, .slice A0_2 l0_2.length c0_2], 24), (b7, #[.int .i64 a2_0, .int .i64 a2_1, .int .i64 a2_2], 27), (b10, #[.int .i64 a0_0, .int .i64 a0_1, .slice A6 l0_2.length c6], 24)]) := ⟨(((HB.out.set 2 0 (.int .i64 a0_0) rfl).set 2 1 (.int .i64 a0_1) rfl).set 2 2 (.slice A6 l0_2.length c6) rfl)⟩
  replace HL := Aside0.mk (R_setB (R_setB (R_setB HL.out (g := b10) (by simp) 0 (.int .i64 a0_0)) (g := b10) (by simp) 1 (.int .i64 a0_1)) (g := b10) (by simp) 2 (.slice A6 l0_2.length c6))
  generalize (((w6.setCell ⟨b10, 0, none⟩ (.int .i64 a0_0)).setCell ⟨b10, 1, none⟩ (.int .i64 a0_1)).setCell ⟨b10, 2, none⟩ (.slice A6 l0_2.length c6)) = w8 at HB HL ⊢
  refine done_ (done_of HT_.out (by kernel_rfl)) ?_
  clear HT_ HW_
  try clear hHeld
  have HD : Aside0 (Kd.R k54 54 w8 w.heap.size (Off [b5, b7, b10]) (.slice none 0 0) []) := ⟨Kd.R_nil _ _ _ _ _⟩
  go_wp2
  go_loopg [11] k (fun kq v11 W => ∃ (ep nx : Int) (vL : Value) (L : List (S67)) (dn : List (S54)), Aside0 (balance_Run.g k l1 a2_0 a2_1 a2_2 a3 a4 kq ep nx L dn = some (r1, r2, r3, r4, r5)) ∧ Aside0 (kq ≤ k) ∧ Aside0 (Bx w W [(b5, #[.int .i64 a0_0, .int .i64 a0_1, .slice A0_2 l0_2.length c0_2], 24), (b7, #[.int .i64 a2_0, .int .i64 a2_1, .int .i64 a2_2], 27), (b10, #[.int .i64 ep, .int .i64 nx, vL], 24)]) ∧ Aside0 (Kd.R k67 67 W w.heap.size (Off [b5, b7, b10]) vL L) ∧ Aside0 (Kd.R k54 54 W w.heap.size (Off [b5, b7, b10]) v11 dn))
  case atStart => exact ⟨_, _, _, _, _, HG, ⟨Nat.le_refl _⟩, HB, HL, HD⟩
  case round =>
    clear HB HL HD HG
    obtain ⟨ep, nx, vL, L, dn, HG, HK, HB, HL, HD⟩ := hrel
    obtain ⟨A6, c6, rfl⟩ := Kd.R_slice HL.out
    obtain ⟨A11, c11, rfl⟩ := Kd.R_slice HD.out
    cases gk with
    | zero => exact absurd HG.out (by simp [balance_Run.g])
    | succ q =>
      have hg := HG.out
      rw [balance_Run.g] at hg
      obtain ⟨⟨kd, id, at_, some_, er⟩, hS, hg⟩ := Option.bind_eq_some_iff.1 hg
      dsimp only at hg
      have HS := Aside0.mk hS
      clear hS HG
      have y0 : World.cell? wr ⟨b10, 0, none⟩ = some (.int .i64 ep) := (blk_cell (HB.out.get 2 rfl) 0).trans rfl
      have y1 : World.cell? wr ⟨b10, 1, none⟩ = some (.int .i64 nx) := (blk_cell (HB.out.get 2 rfl) 1).trans rfl
      have y2 : World.cell? wr ⟨b10, 2, none⟩ = some (.slice A6 L.length c6) := (blk_cell (HB.out.get 2 rfl) 2).trans rfl
      have p0 : World.cell? wr ⟨b7, 0, none⟩ = some (.int .i64 a2_0) := (blk_cell (HB.out.get 1 rfl) 0).trans rfl
      have p1 : World.cell? wr ⟨b7, 1, none⟩ = some (.int .i64 a2_1) := (blk_cell (HB.out.get 1 rfl) 1).trans rfl
      have p2 : World.cell? wr ⟨b7, 2, none⟩ = some (.int .i64 a2_2) := (blk_cell (HB.out.get 1 rfl) 2).trans rfl
      go_upto_region 3 with (go_at_call 23; refine (balance_Suggest.calls k ep nx A6 c6 L A1 c1 l1 a2_0 a2_1 a2_2 a3 _ _ _ _ _ _ (Kd.R_reads' HL.out).2.2 (Kd.R_reads' HL.out).2.1 (Kd.C_below HR1.out.1 HB.out.bel) HR1.out.2 HS.out).mono ?_; rintro e w3 ⟨rfl, hb⟩; replace HB := Aside0.mk (HB.out.below hb); replace HL := Aside0.mk (Kd.R_below HL.out hb); replace HD := Aside0.mk (Kd.R_below HD.out hb); clear hb)
      clear y0 y1 y2
      clear p0 p1 p2
      replace HL := Aside0.mk (R_pushB HL.out (g := w3.heap.size) rfl (below_alloc (Below.refl _ _) (.cells #[.int .i64 kd, .int .i64 id, .int .i64 at_] 54)))
      replace HD := Aside0.mk (R_pushB HD.out (g := w3.heap.size) rfl (below_alloc (Below.refl _ _) (.cells #[.int .i64 kd, .int .i64 id, .int .i64 at_] 54)))
      replace HB := Aside0.mk (HB.out.push #[.int .i64 kd, .int .i64 id, .int .i64 at_] 54)
      simp only [List.nil_append, List.cons_append] at HB HL HD
      generalize w3.alloc (.cells #[.int .i64 kd, .int .i64 id, .int .i64 at_] 54) = w4 at HB HL HD ⊢
      generalize w3.heap.size = b13 at HB HL HD ⊢
      by_cases he : er = 0
      case neg =>
        rw [if_neg he] at hg
        simp only [Option.some.injEq, Prod.mk.injEq] at hg
        obtain ⟨rfl, rfl, rfl, rfl, rfl⟩ := hg
        have q1 : (er != 0) = true := bne_iff_ne.mpr he
        have q2 : (er == 0) = false := beq_eq_false_iff_ne.mpr he
        have q3 : decide (er = 0) = false := decide_eq_false he
        clear he
        have t0 : World.cell? w4 ⟨b10, 0, none⟩ = some (.int .i64 ep) := (blk_cell (HB.out.get 2 rfl) 0).trans rfl
        have t1 : World.cell? w4 ⟨b10, 1, none⟩ = some (.int .i64 nx) := (blk_cell (HB.out.get 2 rfl) 1).trans rfl
        have t2 : World.cell? w4 ⟨b10, 2, none⟩ = some (.slice A6 L.length c6) := (blk_cell (HB.out.get 2 rfl) 2).trans rfl
        have tz0 : World.frozen? w4 ⟨b10, 0, none⟩ = false := blk_frozen (HB.out.get 2 rfl) 0
        have tz1 : World.frozen? w4 ⟨b10, 1, none⟩ = false := blk_frozen (HB.out.get 2 rfl) 1
        have tz2 : World.frozen? w4 ⟨b10, 2, none⟩ = false := blk_frozen (HB.out.get 2 rfl) 2
        go_wp2
        replace HB : Aside0 (Bx w (((w4.setCell ⟨b10, 0, none⟩ (.int .i64 0)).setCell ⟨b10, 1, none⟩ (.int .i64 0)).setCell ⟨b10, 2, none⟩ (.slice none 0 0)) [(b5, #[.int .i64 a0_0, .int .i64 a0_1, .slice A0_2 l0_2.length c0_2], 24), (b7, #[.int .i64 a2_0, .int .i64 a2_1, .int .i64 a2_2], 27), (b10, #[.int .i64 0, .int .i64 0, .slice none 0 0], 24), (b13, #[.int .i64 kd, .int .i64 id, .int .i64 at_], 54)]) := ⟨(((HB.out.set 2 0 (.int .i64 0) rfl).set 2 1 (.int .i64 0) rfl).set 2 2 (.slice none 0 0) rfl)⟩
        replace HL := Aside0.mk (R_setB (R_setB (R_setB HL.out (g := b10) (by simp) 0 (.int .i64 0)) (g := b10) (by simp) 1 (.int .i64 0)) (g := b10) (by simp) 2 (.slice none 0 0))
        replace HD := Aside0.mk (R_setB (R_setB (R_setB HD.out (g := b10) (by simp) 0 (.int .i64 0)) (g := b10) (by simp) 1 (.int .i64 0)) (g := b10) (by simp) 2 (.slice none 0 0))
        generalize (((w4.setCell ⟨b10, 0, none⟩ (.int .i64 0)).setCell ⟨b10, 1, none⟩ (.int .i64 0)).setCell ⟨b10, 2, none⟩ (.slice none 0 0)) = w9 at HB HL HD ⊢
        refine bodyPost_ret (results_ctt rfl _ _ b10 24 #[.int .i64 0, .int .i64 0, .slice none 0 0] (0, 0) _ rfl (HB.out.get 2 rfl) Try.underlying24 rfl (by kernel_rfl)) rfl ?_
        exact ⟨_, _, rfl, Kd.R_nil _ _ _ _ _, Kd.R_nil _ _ _ _ _, HB.out.bel⟩
      subst he
      rw [if_pos rfl] at hg
      have q1 : ((0 : Int) != 0) = false := rfl
      by_cases hgo : some_ = true ∧ (dn.length : Int) < a4
      case neg =>
        rw [if_neg hgo] at hg
        simp only [Option.some.injEq, Prod.mk.injEq] at hg
        obtain ⟨rfl, rfl, rfl, rfl, rfl⟩ := hg
        have hq : some_ = false ∨ (some_ = true ∧ decide ((dn.length : Int) ≥ a4) = true ∧ decide (a4 ≤ (dn.length : Int)) = true) := by
          cases some_ with
          | false => exact Or.inl rfl
          | true =>
            have h9 : ¬ (dn.length : Int) < a4 := fun h => hgo ⟨rfl, h⟩
            exact Or.inr ⟨rfl, decide_eq_true (show a4 ≤ (dn.length : Int) by omega), decide_eq_true (by omega)⟩
        clear hgo
        rcases hq with rfl | ⟨rfl, q2, q3⟩
        all_goals
          have y0 : World.cell? w4 ⟨b10, 0, none⟩ = some (.int .i64 ep) := (blk_cell (HB.out.get 2 rfl) 0).trans rfl
          have y1 : World.cell? w4 ⟨b10, 1, none⟩ = some (.int .i64 nx) := (blk_cell (HB.out.get 2 rfl) 1).trans rfl
          have y2 : World.cell? w4 ⟨b10, 2, none⟩ = some (.slice A6 L.length c6) := (blk_cell (HB.out.get 2 rfl) 2).trans rfl
          have yz0 : World.frozen? w4 ⟨b10, 0, none⟩ = false := blk_frozen (HB.out.get 2 rfl) 0
          have yz1 : World.frozen? w4 ⟨b10, 1, none⟩ = false := blk_frozen (HB.out.get 2 rfl) 1
          have yz2 : World.frozen? w4 ⟨b10, 2, none⟩ = false := blk_frozen (HB.out.get 2 rfl) 2
          go_wp2
          replace HB : Aside0 (Bx w (((w4.setCell ⟨b10, 0, none⟩ (.int .i64 ep)).setCell ⟨b10, 1, none⟩ (.int .i64 nx)).setCell ⟨b10, 2, none⟩ (.slice A6 L.length c6)) [(b5, #[.int .i64 a0_0, .int .i64 a0_1, .slice A0_2 l0_2.length c0_2], 24), (b7, #[.int .i64 a2_0, .int .i64 a2_1, .int .i64 a2_2], 27), (b10, #[.int .i64 ep, .int .i64 nx, .slice A6 L.length c6], 24), (b13, #[.int .i64 kd, .int .i64 id, .int .i64 at_], 54)]) := ⟨(((HB.out.set 2 0 (.int .i64 ep) rfl).set 2 1 (.int .i64 nx) rfl).set 2 2 (.slice A6 L.length c6) rfl)⟩
          replace HL := Aside0.mk (R_setB (R_setB (R_setB HL.out (g := b10) (by simp) 0 (.int .i64 ep)) (g := b10) (by simp) 1 (.int .i64 nx)) (g := b10) (by simp) 2 (.slice A6 L.length c6))
          replace HD := Aside0.mk (R_setB (R_setB (R_setB HD.out (g := b10) (by simp) 0 (.int .i64 ep)) (g := b10) (by simp) 1 (.int .i64 nx)) (g := b10) (by simp) 2 (.slice A6 L.length c6))
          generalize (((w4.setCell ⟨b10, 0, none⟩ (.int .i64 ep)).setCell ⟨b10, 1, none⟩ (.int .i64 nx)).setCell ⟨b10, 2, none⟩ (.slice A6 L.length c6)) = w9 at HB HL HD ⊢
          refine bodyPost_ret (results_ctt rfl _ _ b10 24 #[.int .i64 ep, .int .i64 nx, .slice A6 L.length c6] (0, 0) _ rfl (HB.out.get 2 rfl) Try.underlying24 rfl (by kernel_rfl)) rfl ?_
          obtain ⟨e1, e2⟩ := run_apart HL.out HD.out
          exact ⟨_, _, rfl, e1, e2, HB.out.bel⟩
      rw [if_pos hgo] at hg
      obtain ⟨rfl, hlt⟩ := hgo
      by_cases hdn : 1000 < dn.length
      case pos => rw [if_pos hdn] at hg; exact absurd hg (by simp)
      rw [if_neg hdn] at hg
      obtain ⟨⟨t1, t2, t3, t4, t5, t6⟩, hA, hg⟩ := Option.bind_eq_some_iff.1 hg
      dsimp only at hg
      obtain ⟨dn2, hd2⟩ : ∃ dn2 : List (S54), dn2 = dn ++ [⟨kd, id, at_⟩] := ⟨_, rfl⟩
      rw [← hd2] at hg
      have HDn := Aside0.mk hd2
      have HAp := Aside0.mk hA
      have HN := Aside0.mk hg
      have HDl := Aside0.mk hdn
      have q2 : decide ((dn.length : Int) ≥ a4) = false := decide_eq_false (by omega)
      have q3 : decide (a4 ≤ (dn.length : Int)) = false := decide_eq_false (by omega)
      have q4 : ¬ (a4 ≤ (dn.length : Int)) := by omega
      clear hA hg hd2 hdn hlt
      go_upto_region 7 with (fail)
      clear q1 q2 q3 q4
      have y0 : World.cell? w4 ⟨b10, 0, none⟩ = some (.int .i64 ep) := (blk_cell (HB.out.get 2 rfl) 0).trans rfl
      have y1 : World.cell? w4 ⟨b10, 1, none⟩ = some (.int .i64 nx) := (blk_cell (HB.out.get 2 rfl) 1).trans rfl
      have y2 : World.cell? w4 ⟨b10, 2, none⟩ = some (.slice A6 L.length c6) := (blk_cell (HB.out.get 2 rfl) 2).trans rfl
      have yz0 : World.frozen? w4 ⟨b10, 0, none⟩ = false := blk_frozen (HB.out.get 2 rfl) 0
      have yz1 : World.frozen? w4 ⟨b10, 1, none⟩ = false := blk_frozen (HB.out.get 2 rfl) 1
      have yz2 : World.frozen? w4 ⟨b10, 2, none⟩ = false := blk_frozen (HB.out.get 2 rfl) 2
      have x0 : World.cell? w4 ⟨b13, 0, none⟩ = some (.int .i64 kd) := (blk_cell (HB.out.get 3 rfl) 0).trans rfl
      have x1 : World.cell? w4 ⟨b13, 1, none⟩ = some (.int .i64 id) := (blk_cell (HB.out.get 3 rfl) 1).trans rfl
      have x2 : World.cell? w4 ⟨b13, 2, none⟩ = some (.int .i64 at_) := (blk_cell (HB.out.get 3 rfl) 2).trans rfl
      go_upto_region 8 with (go_at_call 26; refine (chart_Apply.calls k ep nx A6 c6 L kd id at_ _ _ _ _ _ _ _ (Kd.R_reads' HL.out).2.2 (Kd.R_reads' HL.out).2.1 HAp.out).mono ?_; rintro e w5 ⟨v2, v3, v4, rfl, hR, _, _, hb⟩; obtain ⟨A7, c7, rfl⟩ := Kd.R_slice hR; replace HL := Aside0.mk (R_newB (ns := [b5, b7, b10, b13]) HB.out rfl hR); replace HB := Aside0.mk (HB.out.below hb); replace HD := Aside0.mk (Kd.R_below HD.out hb); clear hb hR; clear y0 y1 y2 yz0 yz1 yz2; clear x0 x1 x2; have y0 : World.cell? w5 ⟨b10, 0, none⟩ = some (.int .i64 ep) := (blk_cell (HB.out.get 2 rfl) 0).trans rfl; have y1 : World.cell? w5 ⟨b10, 1, none⟩ = some (.int .i64 nx) := (blk_cell (HB.out.get 2 rfl) 1).trans rfl; have y2 : World.cell? w5 ⟨b10, 2, none⟩ = some (.slice A6 L.length c6) := (blk_cell (HB.out.get 2 rfl) 2).trans rfl; have yz0 : World.frozen? w5 ⟨b10, 0, none⟩ = false := blk_frozen (HB.out.get 2 rfl) 0; have yz1 : World.frozen? w5 ⟨b10, 1, none⟩ = false := blk_frozen (HB.out.get 2 rfl) 1; have yz2 : World.frozen? w5 ⟨b10, 2, none⟩ = false := blk_frozen (HB.out.get 2 rfl) 2)
      clear y0 y1 y2 yz0 yz1 yz2
      replace HB : Aside0 (Bx w (((w5.setCell ⟨b10, 0, none⟩ (.int .i64 t1)).setCell ⟨b10, 1, none⟩ (.int .i64 t2)).setCell ⟨b10, 2, none⟩ (.slice A7 t3.length c7)) [(b5, #[.int .i64 a0_0, .int .i64 a0_1, .slice A0_2 l0_2.length c0_2], 24), (b7, #[.int .i64 a2_0, .int .i64 a2_1, .int .i64 a2_2], 27), (b10, #[.int .i64 t1, .int .i64 t2, .slice A7 t3.length c7], 24), (b13, #[.int .i64 kd, .int .i64 id, .int .i64 at_], 54)]) := ⟨(((HB.out.set 2 0 (.int .i64 t1) rfl).set 2 1 (.int .i64 t2) rfl).set 2 2 (.slice A7 t3.length c7) rfl)⟩
      replace HL := Aside0.mk (R_setB (R_setB (R_setB HL.out (g := b10) (by simp) 0 (.int .i64 t1)) (g := b10) (by simp) 1 (.int .i64 t2)) (g := b10) (by simp) 2 (.slice A7 t3.length c7))
      replace HD := Aside0.mk (R_setB (R_setB (R_setB HD.out (g := b10) (by simp) 0 (.int .i64 t1)) (g := b10) (by simp) 1 (.int .i64 t2)) (g := b10) (by simp) 2 (.slice A7 t3.length c7))
      generalize (((w5.setCell ⟨b10, 0, none⟩ (.int .i64 t1)).setCell ⟨b10, 1, none⟩ (.int .i64 t2)).setCell ⟨b10, 2, none⟩ (.slice A7 t3.length c7)) = w6 at HB HL HD ⊢
      have x0 : World.cell? w6 ⟨b13, 0, none⟩ = some (.int .i64 kd) := (blk_cell (HB.out.get 3 rfl) 0).trans rfl
      have x1 : World.cell? w6 ⟨b13, 1, none⟩ = some (.int .i64 id) := (blk_cell (HB.out.get 3 rfl) 1).trans rfl
      have x2 : World.cell? w6 ⟨b13, 2, none⟩ = some (.int .i64 at_) := (blk_cell (HB.out.get 3 rfl) 2).trans rfl
      go_wp2_with (at_builtin; refine Kd.R_append k54 (w0 := w) w.heap.size rfl (.tmp 55) (.tmp 57) 71 54 (.agg #[(.int .i64 0), (.int .i64 0), (.int .i64 0)]) 24 rfl Try.underlying71 info54_ rfl (by decide) (by omega) (.slice A11 _ c11) dn (⟨kd, id, at_⟩ : S54) [.int .i64 kd, .int .i64 id, .int .i64 at_] (Off [b5, b7, b10, b13]) (fun _ => False) rfl rfl (k54_mkM _ _ _ _) (fun _ hk => hk.elim) (HB.out.fresh rfl) HD.out HB.out.bel HB.out.bel.size (by have := HDl.out; omega) ?_; intro v11 w7 ho hb hg hat)
      go_roundg q
      case measure => have := HK.out; omega
      case rel => exact ⟨_, _, _, _, dn2, HN, ⟨by have := HK.out; omega⟩, ⟨(HB.out.grown rfl HD.out.1 hg hb).take 3⟩, ⟨R_offB (run_other HL.out HD.out hg) _ (by simp)⟩, ⟨by rw [HDn.out]; exact R_offB ho _ (by simp)⟩⟩

/-! ### spliceref08_SameList: function 49 -/
def spliceref08_SameList.l0 : Nat → List (S86) → List (S86) → Int → Option (Bool)
  | 0, _, _, _ => none
  | k + 1, x0, x1, x5 => if x5 < (x0.length : Int) then (if 0 ≤ x5 then (if x5 < (x1.length : Int) then (if (!(((rd_T86 x0 x5).f0) == ((rd_T86 x1 x5).f0)) || ((!(((rd_T86 x0 x5).f1.f0) == ((rd_T86 x1 x5).f1.f0)) || (!(((rd_T86 x0 x5).f1.f1) == ((rd_T86 x1 x5).f1.f1)))) || (!(((rd_T86 x0 x5).f2) == ((rd_T86 x1 x5).f2))))) = true then (some false) else (spliceref08_SameList.l0 k x0 x1 (wrap64 (x5 + 1)))) else (none)) else (none)) else (some true)
def spliceref08_SameList.f (k : Nat) (l0 : List (S86)) (l1 : List (S86)) : Option (Bool) := if (l0.length : Int) = (l1.length : Int) then (spliceref08_SameList.l0 k l0 l1 0) else (some false)
theorem spliceref08_SameList.mono_l : ∀ k, (∀ y0 y1 y2, LeO (spliceref08_SameList.l0 k y0 y1 y2) (spliceref08_SameList.l0 (k + 1) y0 y1 y2))
  | 0 => fun _ _ _ r h => by simp [spliceref08_SameList.l0] at h
  | k + 1 => by
    have ih0 := spliceref08_SameList.mono_l k
    · intro y0 y1 y2
      unfold spliceref08_SameList.l0
      repeat' first
      | (with_reducible exact ih0 _ _ _)
      | (with_reducible exact LeO.refl _)
      | (with_reducible exact LeO.none _)
      | (with_reducible refine LeO.ite ?_ ?_)
      | (with_reducible refine LeO.bind ?_ (fun _ => ?_))
      | exact ih0 _ _ _
      | exact LeO.none _
      | refine LeO.ite ?_ ?_
      | refine LeO.bind ?_ (fun _ => ?_)
theorem spliceref08_SameList.mono : ∀ a0 a1 k, LeO (spliceref08_SameList.f k a0 a1) (spliceref08_SameList.f (k + 1) a0 a1) := by
  intro a0 a1 k
  have ih0 := spliceref08_SameList.mono_l k
  unfold spliceref08_SameList.f
  repeat' first
      | (with_reducible exact ih0 _ _ _)
      | (with_reducible exact LeO.refl _)
      | (with_reducible exact LeO.none _)
      | (with_reducible refine LeO.ite ?_ ?_)
      | (with_reducible refine LeO.bind ?_ (fun _ => ?_))
      | exact ih0 _ _ _
      | exact LeO.none _
      | refine LeO.ite ?_ ?_
      | refine LeO.bind ?_ (fun _ => ?_)
set_option maxHeartbeats 8000000 in
set_option maxRecDepth 100000 in
theorem spliceref08_SameList.calls (k : Nat) (A0 : Option Addr) (c0 : Nat) (l0 : List (S86)) (A1 : Option Addr) (c1 : Nat) (l1 : List (S86)) (r : Bool) (w : World) (hr0 : Kd.C k86 w A0 l0.length l0) (hc0 : l0.length ≤ c0) (hr1 : Kd.C k86 w A1 l1.length l1) (hc1 : l1.length ≤ c1) (h : spliceref08_SameList.f k l0 l1 = some r) :
    Calls Try.prog 49 #[.slice A0 l0.length c0, .slice A1 l1.length c1] w fun e w' => e = .returned (.bool r) ∧ Drawn0 w w' := by
  have hu86 := Try.underlying86
  have HR0 := Aside0.mk hr0
  have HC0 := Aside0.mk hc0
  clear hr0 hc0
  have HR1 := Aside0.mk hr1
  have HC1 := Aside0.mk hc1
  clear hr1 hc1
  have H : (if (l0.length : Int) = (l1.length : Int) then (spliceref08_SameList.l0 k l0 l1 0) else (some false)) = some r := h
  clear h
  by_cases c3 : (l0.length : Int) = (l1.length : Int)
  · rw [if_pos c3] at H
    have c3b0 : ((l0.length : Int) == (l1.length : Int)) = true := beq_iff_eq.mpr c3
    have c3b1 : ((l0.length : Int) != (l1.length : Int)) = false := bne_eq_false_iff_eq.mpr c3
    have c3b2 : (l0.length == l1.length) = true := by first | simpa using c3 | (simp at c3 ⊢; omega)
    clear c3
    have H' := Aside0.mk H
    clear H
    go_enter Try.func49, Try.ntmps49
    go_wp2
    repeat (go_quiet (fail); try go_wp2)
    go_loopg [5] k (fun kq v5 w' => ∃ (x5_1 : Int), v5 = .int .i64 x5_1 ∧ Aside0 (spliceref08_SameList.l0 kq l0 l1 x5_1 = some r) ∧ Aside0 (kq ≤ k) ∧ Drawn0 w w')
    case atStart => exact ⟨(0), (by first | rfl | (simp; done) | (simp [*]; done)), H', ⟨Nat.le_refl _⟩, by repeat (first | exact Drawn0.refl _ | apply Drawn0.step)⟩
    case round =>
      clear H'
      try clear c1
      try clear p2
      try clear c3
      try clear c3b0
      try clear c3b1
      try clear c3b2
      obtain ⟨x5_1, rfl, HA, HK1, ⟨m1, rfl⟩⟩ := hrel
      cases gk with
      | zero => exact absurd HA.out (by simp [spliceref08_SameList.l0])
      | succ k1 =>
        have H := HA.out
        clear HA
        simp only [spliceref08_SameList.l0] at H
        by_cases c4 : x5_1 < (l0.length : Int)
        · rw [if_pos c4] at H
          have c4b0 : decide (x5_1 < (l0.length : Int)) = true := decide_eq_true c4
          clear c4
          by_cases c5 : 0 ≤ x5_1
          · rw [if_pos c5] at H
            have c5b0 : decide (0 ≤ x5_1) = true := decide_eq_true c5
            clear c5
            by_cases c6 : x5_1 < (l1.length : Int)
            · rw [if_pos c6] at H
              have c6b0 : decide (x5_1 < (l1.length : Int)) = true := decide_eq_true c6
              clear c6
              by_cases c7 : (!(((rd_T86 l0 x5_1).f0) == ((rd_T86 l1 x5_1).f0)) || ((!(((rd_T86 l0 x5_1).f1.f0) == ((rd_T86 l1 x5_1).f1.f0)) || (!(((rd_T86 l0 x5_1).f1.f1) == ((rd_T86 l1 x5_1).f1.f1)))) || (!(((rd_T86 l0 x5_1).f2) == ((rd_T86 l1 x5_1).f2))))) = true
              · rw [if_pos c7] at H
                have c7b0 : (!(((rd_T86 l0 x5_1).f0) == ((rd_T86 l1 x5_1).f0)) || ((!(((rd_T86 l0 x5_1).f1.f0) == ((rd_T86 l1 x5_1).f1.f0)) || (!(((rd_T86 l0 x5_1).f1.f1) == ((rd_T86 l1 x5_1).f1.f1)))) || (!(((rd_T86 l0 x5_1).f2) == ((rd_T86 l1 x5_1).f2))))) = true := c7
                clear c7
                obtain rfl := Option.some.inj H
                have p240 : 0 ≤ (x5_1 : Int) := of_decide_eq_true (by first | (with_reducible assumption) | assumption)
                have q240 : x5_1 < (l0.length : Int) := of_decide_eq_true (by first | (with_reducible assumption) | assumption)
                obtain ⟨ad240, e240, hx240_0, hx240_1, hx240_2, hx240_3⟩ := at_T86 HR0.out x5_1 p240 q240
                cases e240
                replace p240 := eq_true p240
                replace q240 := eq_true q240
                have p241 : 0 ≤ (x5_1 : Int) := of_decide_eq_true (by first | (with_reducible assumption) | assumption)
                have q241 : x5_1 < (l1.length : Int) := of_decide_eq_true (by first | (with_reducible assumption) | assumption)
                obtain ⟨ad241, e241, hx241_0, hx241_1, hx241_2, hx241_3⟩ := at_T86 HR1.out x5_1 p241 q241
                cases e241
                replace p241 := eq_true p241
                replace q241 := eq_true q241
                go_wp2
                repeat (go_quiet (fail); try go_wp2)
                go_ret
                exact ⟨by first | rfl | (simp; done) | (simp [*]; done), by repeat (first | exact Drawn0.refl _ | apply Drawn0.step)⟩
              · rw [if_neg c7] at H
                have c7b0 : (!(((rd_T86 l0 x5_1).f0) == ((rd_T86 l1 x5_1).f0)) || ((!(((rd_T86 l0 x5_1).f1.f0) == ((rd_T86 l1 x5_1).f1.f0)) || (!(((rd_T86 l0 x5_1).f1.f1) == ((rd_T86 l1 x5_1).f1.f1)))) || (!(((rd_T86 l0 x5_1).f2) == ((rd_T86 l1 x5_1).f2))))) = false := by simpa using c7
                clear c7
                have H' := Aside0.mk H
                clear H
                have p240 : 0 ≤ (x5_1 : Int) := of_decide_eq_true (by first | (with_reducible assumption) | assumption)
                have q240 : x5_1 < (l0.length : Int) := of_decide_eq_true (by first | (with_reducible assumption) | assumption)
                obtain ⟨ad240, e240, hx240_0, hx240_1, hx240_2, hx240_3⟩ := at_T86 HR0.out x5_1 p240 q240
                cases e240
                replace p240 := eq_true p240
                replace q240 := eq_true q240
                have p241 : 0 ≤ (x5_1 : Int) := of_decide_eq_true (by first | (with_reducible assumption) | assumption)
                have q241 : x5_1 < (l1.length : Int) := of_decide_eq_true (by first | (with_reducible assumption) | assumption)
                obtain ⟨ad241, e241, hx241_0, hx241_1, hx241_2, hx241_3⟩ := at_T86 HR1.out x5_1 p241 q241
                cases e241
                replace p241 := eq_true p241
                replace q241 := eq_true q241
                go_wp2
                repeat (go_quiet (fail); try go_wp2)
                go_roundg k1
                case measure => have := HK1.out; omega
                case rel => exact ⟨(wrap64 (x5_1 + 1)), (by first | rfl | (simp; done) | (simp [*]; done)), H', ⟨by have := HK1.out; omega⟩, by repeat (first | exact Drawn0.refl _ | apply Drawn0.step)⟩
            · rw [if_neg c6] at H
              exact absurd H (by simp)
          · rw [if_neg c5] at H
            exact absurd H (by simp)
        · rw [if_neg c4] at H
          have c4b0 : decide (x5_1 < (l0.length : Int)) = false := decide_eq_false c4
          clear c4
          obtain rfl := Option.some.inj H
          go_wp2
          repeat (go_quiet (fail); try go_wp2)
          go_ret
          exact ⟨by first | rfl | (simp; done) | (simp [*]; done), by repeat (first | exact Drawn0.refl _ | apply Drawn0.step)⟩
  · rw [if_neg c3] at H
    have c3b0 : ((l0.length : Int) == (l1.length : Int)) = false := beq_eq_false_iff_ne.mpr c3
    have c3b1 : ((l0.length : Int) != (l1.length : Int)) = true := bne_iff_ne.mpr c3
    have c3b2 : (l0.length == l1.length) = false := by first | simpa using c3 | (simp at c3 ⊢; omega)
    obtain rfl := Option.some.inj H
    go_enter Try.func49, Try.ntmps49
    go_wp2
    repeat (go_quiet (fail); try go_wp2)
    go_ret
    exact ⟨by first | rfl | (simp; done) | (simp [*]; done), by repeat (first | exact Drawn0.refl _ | apply Drawn0.step)⟩

/-! ### spliceref08_Same: function 30 -/
def spliceref08_Same.f (k : Nat) (a0_0 : Int) (a0_1 : Int) (l0_2 : List (S86)) (a1_0 : Int) (a1_1 : Int) (l1_2 : List (S86)) : Option (Bool) := if a0_0 = a1_0 then (if a0_1 = a1_1 then ((spliceref08_SameList.f k l0_2 l1_2).bind fun t244 => (some t244)) else (some false)) else (some false)
theorem spliceref08_Same.mono : ∀ a0 a1 a2 a3 a4 a5 k, LeO (spliceref08_Same.f k a0 a1 a2 a3 a4 a5) (spliceref08_Same.f (k + 1) a0 a1 a2 a3 a4 a5) := by
  intro a0 a1 a2 a3 a4 a5 k
  unfold spliceref08_Same.f
  repeat' first
      | (with_reducible exact spliceref08_SameList.mono _ _ _)
      | (with_reducible exact LeO.refl _)
      | (with_reducible exact LeO.none _)
      | (with_reducible refine LeO.ite ?_ ?_)
      | (with_reducible refine LeO.bind ?_ (fun _ => ?_))
      | exact spliceref08_SameList.mono _ _ _
      | exact LeO.none _
      | refine LeO.ite ?_ ?_
      | refine LeO.bind ?_ (fun _ => ?_)
set_option maxHeartbeats 8000000 in
set_option maxRecDepth 100000 in
theorem spliceref08_Same.calls (k : Nat) (a0_0 : Int) (a0_1 : Int) (A0_2 : Option Addr) (c0_2 : Nat) (l0_2 : List (S86)) (a1_0 : Int) (a1_1 : Int) (A1_2 : Option Addr) (c1_2 : Nat) (l1_2 : List (S86)) (r : Bool) (w : World) (hr0_2 : Kd.C k86 w A0_2 l0_2.length l0_2) (hc0_2 : l0_2.length ≤ c0_2) (hr1_2 : Kd.C k86 w A1_2 l1_2.length l1_2) (hc1_2 : l1_2.length ≤ c1_2) (h : spliceref08_Same.f k a0_0 a0_1 l0_2 a1_0 a1_1 l1_2 = some r) :
    Calls Try.prog 30 #[.agg #[.int .i64 a0_0, .int .i64 a0_1, .slice A0_2 l0_2.length c0_2], .agg #[.int .i64 a1_0, .int .i64 a1_1, .slice A1_2 l1_2.length c1_2]] w fun e w' => e = .returned (.bool r) ∧ Below w.heap.size w w' := by
  have hu34 := Try.underlying34
  have HR0_2 := Aside0.mk hr0_2
  have HC0_2 := Aside0.mk hc0_2
  clear hr0_2 hc0_2
  have HR1_2 := Aside0.mk hr1_2
  have HC1_2 := Aside0.mk hc1_2
  clear hr1_2 hc1_2
  have HB := Aside0.mk (Below.refl w.heap.size w)
  have H : (if a0_0 = a1_0 then (if a0_1 = a1_1 then ((spliceref08_SameList.f k l0_2 l1_2).bind fun t244 => (some t244)) else (some false)) else (some false)) = some r := h
  clear h
  by_cases c3 : a0_0 = a1_0
  · rw [if_pos c3] at H
    have c3b0 : (a0_0 == a1_0) = true := beq_iff_eq.mpr c3
    have c3b1 : (a0_0 != a1_0) = false := bne_eq_false_iff_eq.mpr c3
    clear c3
    by_cases c4 : a0_1 = a1_1
    · rw [if_pos c4] at H
      have c4b0 : (a0_1 == a1_1) = true := beq_iff_eq.mpr c4
      have c4b1 : (a0_1 != a1_1) = false := bne_eq_false_iff_eq.mpr c4
      clear c4
      replace H := Option.bind_eq_some_iff.mp H
      obtain ⟨t244, A50, H⟩ := H
      replace H : (some t244) = some r := H
      have A5 := Aside0.mk A50
      clear A50
      obtain rfl := Option.some.inj H
      go_enter Try.func30, Try.ntmps30
      go_wp2_with (first | ((with_reducible refine gate_dst (N := 2) rfl ?_); refine box_event ?hg (N := 2) ?hd (cs := #[.int .i64 a0_0, .int .i64 a0_1, .slice A0_2 l0_2.length c0_2]) (t := 34) ?hr ?_; (case hd => rfl); (case hg => rfl); (case hr => first | (go_simp; done) | (go_simp; rfl)); intro gb242 hg w6 hbox hb; have n0_ := Aside0.mk (below_step (by repeat (first | (with_reducible first | exact HB.out | apply below_alloc | apply pw_below_drewN | apply below_drew1) | exact HB.out)) hb); have n1_ := Aside0.mk (hbox); have n2_ := Aside0.mk ((by rw [hg]; exact (below_size (by repeat (first | (with_reducible first | exact HB.out | apply below_alloc | apply pw_below_drewN | apply below_drew1) | exact HB.out))) : w.heap.size ≤ gb242)); have n3_ := Aside0.mk ((by rw [hg]; exact (below_size (by repeat (first | (with_reducible first | exact HB.out | apply below_alloc | apply pw_below_drewN | apply below_drew1) | exact HB.out))) : w.heap.size ≤ gb242)); clear HB; have HB := n0_; have BK242 := n1_; have GW242 := n2_; have GE242 := n3_; clear n0_ n1_ n2_ n3_; clear hb hbox hg) | ((with_reducible refine gate_dst (N := 3) rfl ?_); refine box_event ?hg (N := 3) ?hd (cs := #[.int .i64 a1_0, .int .i64 a1_1, .slice A1_2 l1_2.length c1_2]) (t := 34) ?hr ?_; (case hd => rfl); (case hg => rfl); (case hr => first | (go_simp; done) | (go_simp; rfl)); intro gb243 hg w7 hbox hb; have n0_ := Aside0.mk (blk_below (g := gb242) (o := .cells #[.int .i64 a0_0, .int .i64 a0_1, .slice A0_2 l0_2.length c0_2] 34 (0, 0)) (by (with_reducible repeat (first | refine blk_drewN ?_ _ | refine blk_drew ?_ | refine blk_alloc ?_ _)); exact BK242.out) hb); have n1_ := Aside0.mk (below_step (by repeat (first | (with_reducible first | exact HB.out | apply below_alloc | apply pw_below_drewN | apply below_drew1 | refine below_set ?_ GE242.out) | exact HB.out)) hb); have n2_ := Aside0.mk (hbox); have n3_ := Aside0.mk ((by rw [hg]; exact (below_size (by repeat (first | (with_reducible first | exact HB.out | apply below_alloc | apply pw_below_drewN | apply below_drew1 | refine below_set ?_ GE242.out) | exact HB.out))) : w.heap.size ≤ gb243)); have n4_ := Aside0.mk ((by rw [hg]; exact (below_size (by repeat (first | (with_reducible first | exact HB.out | apply below_alloc | apply pw_below_drewN | apply below_drew1 | refine below_set ?_ GE242.out) | exact HB.out))) : w.heap.size ≤ gb243)); have n5_ := Aside0.mk ((by rw [hg]; exact Nat.ne_of_lt (blk_lt (g := gb242) (o := .cells #[.int .i64 a0_0, .int .i64 a0_1, .slice A0_2 l0_2.length c0_2] 34 (0, 0)) (by (with_reducible repeat (first | refine blk_drewN ?_ _ | refine blk_drew ?_ | refine blk_alloc ?_ _)); exact BK242.out)) : gb242 ≠ gb243)); have n6_ := Aside0.mk ((by rw [hg]; exact Nat.ne_of_gt (blk_lt (g := gb242) (o := .cells #[.int .i64 a0_0, .int .i64 a0_1, .slice A0_2 l0_2.length c0_2] 34 (0, 0)) (by (with_reducible repeat (first | refine blk_drewN ?_ _ | refine blk_drew ?_ | refine blk_alloc ?_ _)); exact BK242.out)) : gb243 ≠ gb242)); clear BK242; clear HB; have BK242 := n0_; have HB := n1_; have BK243 := n2_; have GW243 := n3_; have GE243 := n4_; have NB242_243 := n5_; have NB243_242 := n6_; clear n0_ n1_ n2_ n3_ n4_ n5_ n6_; clear hb hbox hg; have hnb8 := NB242_243.out; have hnc8 := NB243_242.out; have hcz9_0 : w7.cell? ⟨gb242, 0, none⟩ = some (.int .i64 a0_0) := (blk_cell BK242.out 0).trans rfl; have hcz9_1 : w7.cell? ⟨gb242, 1, none⟩ = some (.int .i64 a0_1) := (blk_cell BK242.out 1).trans rfl; have hcz9_2 : w7.cell? ⟨gb242, 2, none⟩ = some (.slice A0_2 l0_2.length c0_2) := (blk_cell BK242.out 2).trans rfl; have hfz9_0 := blk_frozen BK242.out 0; have hfz9_1 := blk_frozen BK242.out 1; have hfz9_2 := blk_frozen BK242.out 2; have hcz10_0 : w7.cell? ⟨gb243, 0, none⟩ = some (.int .i64 a1_0) := (blk_cell BK243.out 0).trans rfl; have hcz10_1 : w7.cell? ⟨gb243, 1, none⟩ = some (.int .i64 a1_1) := (blk_cell BK243.out 1).trans rfl; have hcz10_2 : w7.cell? ⟨gb243, 2, none⟩ = some (.slice A1_2 l1_2.length c1_2) := (blk_cell BK243.out 2).trans rfl; have hfz10_0 := blk_frozen BK243.out 0; have hfz10_1 := blk_frozen BK243.out 1; have hfz10_2 := blk_frozen BK243.out 2) | (go_at_call 49; (with_reducible refine (spliceref08_SameList.calls k _ _ l0_2 _ _ l1_2 t244 _ ?side1 ?side2 ?side3 ?side4 A5.out).mono ?_); (case side1 => repeat (first | exact (Kd.C_below HR0_2.out HB.out) | (with_reducible refine Kd.C_alloc ?_ _) | (with_reducible refine Kd.C_drewN ?_ _) | (with_reducible refine Kd.C_drew ?_))); (case side2 => exact HC0_2.out); (case side3 => repeat (first | exact (Kd.C_below HR1_2.out HB.out) | (with_reducible refine Kd.C_alloc ?_ _) | (with_reducible refine Kd.C_drewN ?_ _) | (with_reducible refine Kd.C_drew ?_))); (case side4 => exact HC1_2.out); rintro e w' ⟨rfl, ⟨nd, rfl⟩⟩))
      go_ret
      exact ⟨by first | rfl | (simp [errW_none, errW_some] <;> rfl) | (simp [*, errW_none, errW_some] <;> rfl), by repeat (first | (with_reducible first | exact HB.out | apply below_alloc | apply pw_below_drewN | apply below_drew1 | refine below_set ?_ GE242.out | refine below_set ?_ GE243.out) | exact HB.out)⟩
    · rw [if_neg c4] at H
      have c4b0 : (a0_1 == a1_1) = false := beq_eq_false_iff_ne.mpr c4
      have c4b1 : (a0_1 != a1_1) = true := bne_iff_ne.mpr c4
      obtain rfl := Option.some.inj H
      go_enter Try.func30, Try.ntmps30
      go_wp2_with (first | ((with_reducible refine gate_dst (N := 2) rfl ?_); refine box_event ?hg (N := 2) ?hd (cs := #[.int .i64 a0_0, .int .i64 a0_1, .slice A0_2 l0_2.length c0_2]) (t := 34) ?hr ?_; (case hd => rfl); (case hg => rfl); (case hr => first | (go_simp; done) | (go_simp; rfl)); intro gb242 hg w11 hbox hb; have n0_ := Aside0.mk (below_step (by repeat (first | (with_reducible first | exact HB.out | apply below_alloc | apply pw_below_drewN | apply below_drew1) | exact HB.out)) hb); have n1_ := Aside0.mk (hbox); have n2_ := Aside0.mk ((by rw [hg]; exact (below_size (by repeat (first | (with_reducible first | exact HB.out | apply below_alloc | apply pw_below_drewN | apply below_drew1) | exact HB.out))) : w.heap.size ≤ gb242)); have n3_ := Aside0.mk ((by rw [hg]; exact (below_size (by repeat (first | (with_reducible first | exact HB.out | apply below_alloc | apply pw_below_drewN | apply below_drew1) | exact HB.out))) : w.heap.size ≤ gb242)); clear HB; have HB := n0_; have BK242 := n1_; have GW242 := n2_; have GE242 := n3_; clear n0_ n1_ n2_ n3_; clear hb hbox hg) | ((with_reducible refine gate_dst (N := 3) rfl ?_); refine box_event ?hg (N := 3) ?hd (cs := #[.int .i64 a1_0, .int .i64 a1_1, .slice A1_2 l1_2.length c1_2]) (t := 34) ?hr ?_; (case hd => rfl); (case hg => rfl); (case hr => first | (go_simp; done) | (go_simp; rfl)); intro gb243 hg w12 hbox hb; have n0_ := Aside0.mk (blk_below (g := gb242) (o := .cells #[.int .i64 a0_0, .int .i64 a0_1, .slice A0_2 l0_2.length c0_2] 34 (0, 0)) (by (with_reducible repeat (first | refine blk_drewN ?_ _ | refine blk_drew ?_ | refine blk_alloc ?_ _)); exact BK242.out) hb); have n1_ := Aside0.mk (below_step (by repeat (first | (with_reducible first | exact HB.out | apply below_alloc | apply pw_below_drewN | apply below_drew1 | refine below_set ?_ GE242.out) | exact HB.out)) hb); have n2_ := Aside0.mk (hbox); have n3_ := Aside0.mk ((by rw [hg]; exact (below_size (by repeat (first | (with_reducible first | exact HB.out | apply below_alloc | apply pw_below_drewN | apply below_drew1 | refine below_set ?_ GE242.out) | exact HB.out))) : w.heap.size ≤ gb243)); have n4_ := Aside0.mk ((by rw [hg]; exact (below_size (by repeat (first | (with_reducible first | exact HB.out | apply below_alloc | apply pw_below_drewN | apply below_drew1 | refine below_set ?_ GE242.out) | exact HB.out))) : w.heap.size ≤ gb243)); have n5_ := Aside0.mk ((by rw [hg]; exact Nat.ne_of_lt (blk_lt (g := gb242) (o := .cells #[.int .i64 a0_0, .int .i64 a0_1, .slice A0_2 l0_2.length c0_2] 34 (0, 0)) (by (with_reducible repeat (first | refine blk_drewN ?_ _ | refine blk_drew ?_ | refine blk_alloc ?_ _)); exact BK242.out)) : gb242 ≠ gb243)); have n6_ := Aside0.mk ((by rw [hg]; exact Nat.ne_of_gt (blk_lt (g := gb242) (o := .cells #[.int .i64 a0_0, .int .i64 a0_1, .slice A0_2 l0_2.length c0_2] 34 (0, 0)) (by (with_reducible repeat (first | refine blk_drewN ?_ _ | refine blk_drew ?_ | refine blk_alloc ?_ _)); exact BK242.out)) : gb243 ≠ gb242)); clear BK242; clear HB; have BK242 := n0_; have HB := n1_; have BK243 := n2_; have GW243 := n3_; have GE243 := n4_; have NB242_243 := n5_; have NB243_242 := n6_; clear n0_ n1_ n2_ n3_ n4_ n5_ n6_; clear hb hbox hg; have hnb13 := NB242_243.out; have hnc13 := NB243_242.out; have hcz14_0 : w12.cell? ⟨gb242, 0, none⟩ = some (.int .i64 a0_0) := (blk_cell BK242.out 0).trans rfl; have hcz14_1 : w12.cell? ⟨gb242, 1, none⟩ = some (.int .i64 a0_1) := (blk_cell BK242.out 1).trans rfl; have hcz14_2 : w12.cell? ⟨gb242, 2, none⟩ = some (.slice A0_2 l0_2.length c0_2) := (blk_cell BK242.out 2).trans rfl; have hfz14_0 := blk_frozen BK242.out 0; have hfz14_1 := blk_frozen BK242.out 1; have hfz14_2 := blk_frozen BK242.out 2; have hcz15_0 : w12.cell? ⟨gb243, 0, none⟩ = some (.int .i64 a1_0) := (blk_cell BK243.out 0).trans rfl; have hcz15_1 : w12.cell? ⟨gb243, 1, none⟩ = some (.int .i64 a1_1) := (blk_cell BK243.out 1).trans rfl; have hcz15_2 : w12.cell? ⟨gb243, 2, none⟩ = some (.slice A1_2 l1_2.length c1_2) := (blk_cell BK243.out 2).trans rfl; have hfz15_0 := blk_frozen BK243.out 0; have hfz15_1 := blk_frozen BK243.out 1; have hfz15_2 := blk_frozen BK243.out 2))
      go_ret
      exact ⟨by first | rfl | (simp [errW_none, errW_some] <;> rfl) | (simp [*, errW_none, errW_some] <;> rfl), by repeat (first | (with_reducible first | exact HB.out | apply below_alloc | apply pw_below_drewN | apply below_drew1 | refine below_set ?_ GE242.out | refine below_set ?_ GE243.out) | exact HB.out)⟩
  · rw [if_neg c3] at H
    have c3b0 : (a0_0 == a1_0) = false := beq_eq_false_iff_ne.mpr c3
    have c3b1 : (a0_0 != a1_0) = true := bne_iff_ne.mpr c3
    obtain rfl := Option.some.inj H
    go_enter Try.func30, Try.ntmps30
    go_wp2_with (first | ((with_reducible refine gate_dst (N := 2) rfl ?_); refine box_event ?hg (N := 2) ?hd (cs := #[.int .i64 a0_0, .int .i64 a0_1, .slice A0_2 l0_2.length c0_2]) (t := 34) ?hr ?_; (case hd => rfl); (case hg => rfl); (case hr => first | (go_simp; done) | (go_simp; rfl)); intro gb242 hg w16 hbox hb; have n0_ := Aside0.mk (below_step (by repeat (first | (with_reducible first | exact HB.out | apply below_alloc | apply pw_below_drewN | apply below_drew1) | exact HB.out)) hb); have n1_ := Aside0.mk (hbox); have n2_ := Aside0.mk ((by rw [hg]; exact (below_size (by repeat (first | (with_reducible first | exact HB.out | apply below_alloc | apply pw_below_drewN | apply below_drew1) | exact HB.out))) : w.heap.size ≤ gb242)); have n3_ := Aside0.mk ((by rw [hg]; exact (below_size (by repeat (first | (with_reducible first | exact HB.out | apply below_alloc | apply pw_below_drewN | apply below_drew1) | exact HB.out))) : w.heap.size ≤ gb242)); clear HB; have HB := n0_; have BK242 := n1_; have GW242 := n2_; have GE242 := n3_; clear n0_ n1_ n2_ n3_; clear hb hbox hg) | ((with_reducible refine gate_dst (N := 3) rfl ?_); refine box_event ?hg (N := 3) ?hd (cs := #[.int .i64 a1_0, .int .i64 a1_1, .slice A1_2 l1_2.length c1_2]) (t := 34) ?hr ?_; (case hd => rfl); (case hg => rfl); (case hr => first | (go_simp; done) | (go_simp; rfl)); intro gb243 hg w17 hbox hb; have n0_ := Aside0.mk (blk_below (g := gb242) (o := .cells #[.int .i64 a0_0, .int .i64 a0_1, .slice A0_2 l0_2.length c0_2] 34 (0, 0)) (by (with_reducible repeat (first | refine blk_drewN ?_ _ | refine blk_drew ?_ | refine blk_alloc ?_ _)); exact BK242.out) hb); have n1_ := Aside0.mk (below_step (by repeat (first | (with_reducible first | exact HB.out | apply below_alloc | apply pw_below_drewN | apply below_drew1 | refine below_set ?_ GE242.out) | exact HB.out)) hb); have n2_ := Aside0.mk (hbox); have n3_ := Aside0.mk ((by rw [hg]; exact (below_size (by repeat (first | (with_reducible first | exact HB.out | apply below_alloc | apply pw_below_drewN | apply below_drew1 | refine below_set ?_ GE242.out) | exact HB.out))) : w.heap.size ≤ gb243)); have n4_ := Aside0.mk ((by rw [hg]; exact (below_size (by repeat (first | (with_reducible first | exact HB.out | apply below_alloc | apply pw_below_drewN | apply below_drew1 | refine below_set ?_ GE242.out) | exact HB.out))) : w.heap.size ≤ gb243)); have n5_ := Aside0.mk ((by rw [hg]; exact Nat.ne_of_lt (blk_lt (g := gb242) (o := .cells #[.int .i64 a0_0, .int .i64 a0_1, .slice A0_2 l0_2.length c0_2] 34 (0, 0)) (by (with_reducible repeat (first | refine blk_drewN ?_ _ | refine blk_drew ?_ | refine blk_alloc ?_ _)); exact BK242.out)) : gb242 ≠ gb243)); have n6_ := Aside0.mk ((by rw [hg]; exact Nat.ne_of_gt (blk_lt (g := gb242) (o := .cells #[.int .i64 a0_0, .int .i64 a0_1, .slice A0_2 l0_2.length c0_2] 34 (0, 0)) (by (with_reducible repeat (first | refine blk_drewN ?_ _ | refine blk_drew ?_ | refine blk_alloc ?_ _)); exact BK242.out)) : gb243 ≠ gb242)); clear BK242; clear HB; have BK242 := n0_; have HB := n1_; have BK243 := n2_; have GW243 := n3_; have GE243 := n4_; have NB242_243 := n5_; have NB243_242 := n6_; clear n0_ n1_ n2_ n3_ n4_ n5_ n6_; clear hb hbox hg; have hnb18 := NB242_243.out; have hnc18 := NB243_242.out; have hcz19_0 : w17.cell? ⟨gb242, 0, none⟩ = some (.int .i64 a0_0) := (blk_cell BK242.out 0).trans rfl; have hcz19_1 : w17.cell? ⟨gb242, 1, none⟩ = some (.int .i64 a0_1) := (blk_cell BK242.out 1).trans rfl; have hcz19_2 : w17.cell? ⟨gb242, 2, none⟩ = some (.slice A0_2 l0_2.length c0_2) := (blk_cell BK242.out 2).trans rfl; have hfz19_0 := blk_frozen BK242.out 0; have hfz19_1 := blk_frozen BK242.out 1; have hfz19_2 := blk_frozen BK242.out 2; have hcz20_0 : w17.cell? ⟨gb243, 0, none⟩ = some (.int .i64 a1_0) := (blk_cell BK243.out 0).trans rfl; have hcz20_1 : w17.cell? ⟨gb243, 1, none⟩ = some (.int .i64 a1_1) := (blk_cell BK243.out 1).trans rfl; have hcz20_2 : w17.cell? ⟨gb243, 2, none⟩ = some (.slice A1_2 l1_2.length c1_2) := (blk_cell BK243.out 2).trans rfl; have hfz20_0 := blk_frozen BK243.out 0; have hfz20_1 := blk_frozen BK243.out 1; have hfz20_2 := blk_frozen BK243.out 2))
    go_ret
    exact ⟨by first | rfl | (simp [errW_none, errW_some] <;> rfl) | (simp [*, errW_none, errW_some] <;> rfl), by repeat (first | (with_reducible first | exact HB.out | apply below_alloc | apply pw_below_drewN | apply below_drew1 | refine below_set ?_ GE242.out | refine below_set ?_ GE243.out) | exact HB.out)⟩

end Go.Proofs.Yteclhjhnbolkmaa.PU
