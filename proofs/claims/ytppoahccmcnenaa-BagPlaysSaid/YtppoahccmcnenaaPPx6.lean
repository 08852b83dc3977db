-- written by a program of this session
import Derived.Test.YtppoahccmcnenaaPPx0
import Derived.Test.YtppoahccmcnenaaPPx3
namespace Go.Proofs.Ytppoahccmcnenaa.PP
open Go.RowKit Go.Proofs.Ytppoahccmcnenaa.Op Go.Proofs.YtppoahccmcnenaaW.PrintWords Go.Proofs.YtppoahccmcnenaaW.PrintLast Go.Proofs.YtppoahccmcnenaaW.PrintMore
attribute [local go_sem] max2_int min2_int max_two min_two max_three min_three max_four min_four   -- for this text's walks alone
set_option linter.unusedVariables false
set_option linter.unusedSimpArgs false

/-! ### spliceref10_Bag_IDs: function 36 -/
def spliceref10_Bag_IDs.l0 : Nat → Bool → List Int → Int → List (S74) → Int → List (S89) → Option (List Int)
  | 0, _, _, _, _, _, _ => none
  | k + 1, x1, x5, x6, x195000, x195001, x195002 => if x6 < (x195000.length : Int) then (if x1 = true then (if 0 ≤ x6 then ((spliceref10_Bag_apart.f k x195000 x195001 x195002 ((rd_T74 x195000 x6).f1) ((rd_T74 x195000 x6).f2)).bind fun t197 => (if t197 = true then (spliceref10_Bag_IDs.l0 k x1 x5 (wrap64 (x6 + 1)) x195000 x195001 x195002) else (if x5.length < 17592186044416 then (spliceref10_Bag_IDs.l0 k x1 (x5 ++ [(rd_T74 x195000 x6).f0]) (wrap64 (x6 + 1)) x195000 x195001 x195002) else (none)))) else (none)) else (if 0 ≤ x6 then (if x5.length < 17592186044416 then (spliceref10_Bag_IDs.l0 k x1 (x5 ++ [(rd_T74 x195000 x6).f0]) (wrap64 (x6 + 1)) x195000 x195001 x195002) else (none)) else (none))) else (some x5)
def spliceref10_Bag_IDs.f (k : Nat) (l0_0 : List (S74)) (a0_1 : Int) (l0_2 : List (S89)) (a1 : Bool) : Option (List Int) := spliceref10_Bag_IDs.l0 k a1 ([] : List Int) 0 l0_0 a0_1 l0_2
theorem spliceref10_Bag_IDs.mono_l : ∀ k, (∀ y0 y1 y2 y3 y4 y5, LeO (spliceref10_Bag_IDs.l0 k y0 y1 y2 y3 y4 y5) (spliceref10_Bag_IDs.l0 (k + 1) y0 y1 y2 y3 y4 y5))
  | 0 => fun _ _ _ _ _ _ r h => by simp [spliceref10_Bag_IDs.l0] at h
  | k + 1 => by
    have ih0 := spliceref10_Bag_IDs.mono_l k
    · intro y0 y1 y2 y3 y4 y5
      unfold spliceref10_Bag_IDs.l0
      repeat' first
      | (with_reducible exact ih0 _ _ _ _ _ _)
      | (with_reducible exact spliceref10_Bag_apart.mono _ _ _ _ _ _)
      | (with_reducible exact LeO.refl _)
      | (with_reducible exact LeO.none _)
      | (with_reducible refine LeO.ite ?_ ?_)
      | (with_reducible refine LeO.bind ?_ (fun _ => ?_))
      | exact ih0 _ _ _ _ _ _
      | exact spliceref10_Bag_apart.mono _ _ _ _ _ _
      | exact LeO.none _
      | refine LeO.ite ?_ ?_
      | refine LeO.bind ?_ (fun _ => ?_)
theorem spliceref10_Bag_IDs.mono : ∀ a0 a1 a2 a3 k, LeO (spliceref10_Bag_IDs.f k a0 a1 a2 a3) (spliceref10_Bag_IDs.f (k + 1) a0 a1 a2 a3) := by
  intro a0 a1 a2 a3 k
  have ih0 := spliceref10_Bag_IDs.mono_l k
  unfold spliceref10_Bag_IDs.f
  repeat' first
      | (with_reducible exact ih0 _ _ _ _ _ _)
      | (with_reducible exact spliceref10_Bag_apart.mono _ _ _ _ _ _)
      | (with_reducible exact LeO.refl _)
      | (with_reducible exact LeO.none _)
      | (with_reducible refine LeO.ite ?_ ?_)
      | (with_reducible refine LeO.bind ?_ (fun _ => ?_))
      | exact ih0 _ _ _ _ _ _
      | exact spliceref10_Bag_apart.mono _ _ _ _ _ _
      | exact LeO.none _
      | refine LeO.ite ?_ ?_
      | refine LeO.bind ?_ (fun _ => ?_)
def spliceref10_Bag_IDs.T5 : Bool × List (List Nat × List Nat) := (true, [([], []), ([0], [0]), ([1], [1]), ([2], [2]), ([2], [2]), ([4, 2], [2, 4]), ([2], [2]), ([5, 6, 2], [2, 5, 6]), ([7, 2], [2, 7]), ([8, 2], [2, 8]), ([2], [2]), ([10, 2], [2, 10]), ([2], [2]), ([11, 12, 2], [2, 11, 12]), ([13, 2], [2, 13]), ([14, 2], [2, 14]), ([3, 9, 15, 2, 2], [2, 3, 9, 15]), ([16, 2], [2, 16]), ([2, 17], [2, 17])])
def spliceref10_Bag_IDs.B5 : List Nat := [0, 1, 3, 7, 7, 23, 7, 119, 247, 503, 7, 1031, 7, 7175, 15367, 31751, 65535, 131071, 262143]
theorem spliceref10_Bag_IDs.tab5 : rtab .any (opsOf Try.f36 5) = spliceref10_Bag_IDs.T5 := by kernel_rfl
theorem spliceref10_Bag_IDs.bits5 : waitsOk spliceref10_Bag_IDs.T5.2 spliceref10_Bag_IDs.B5 = true := by kernel_rfl
set_option maxHeartbeats 8000000 in
set_option maxRecDepth 100000 in
theorem spliceref10_Bag_IDs.calls (k : Nat) (A0_0 : Option Addr) (c0_0 : Nat) (l0_0 : List (S74)) (a0_1 : Int) (A0_2 : Option Addr) (c0_2 : Nat) (l0_2 : List (S89)) (a1 : Bool) (r : List Int) (w : World) (hr0_0 : Kd.C k74 w A0_0 l0_0.length l0_0) (hc0_0 : l0_0.length ≤ c0_0) (hr0_2 : Kd.C k89 w A0_2 l0_2.length l0_2) (hc0_2 : l0_2.length ≤ c0_2) (h : spliceref10_Bag_IDs.f k l0_0 a0_1 l0_2 a1 = some r) :
    Calls Try.prog 36 #[.agg #[.slice A0_0 l0_0.length c0_0, .int .i64 a0_1, .slice A0_2 l0_2.length c0_2], .bool a1] w fun e w' => ∃ v0_ : Value, e = .returned (v0_) ∧ Kd.R (Kd.int .i64) 3 w' w.heap.size (fun _ => True) v0_ r ∧ Below w.heap.size w w' := by
 have hu51 := Try.underlying51
 have HR0_0 := Aside0.mk hr0_0
 have HC0_0 := Aside0.mk hc0_0
 clear hr0_0 hc0_0
 have HR0_2 := Aside0.mk hr0_2
 have HC0_2 := Aside0.mk hc0_2
 clear hr0_2 hc0_2
 have HB := Aside0.mk (Below.refl w.heap.size w)
 have H : (spliceref10_Bag_IDs.l0 k a1 ([] : List Int) 0 l0_0 a0_1 l0_2) = some r := h
 clear h
 have H' := Aside0.mk H
 clear H
 go_enter Try.func36, Try.ntmps36
 go_wp2_with (first | ((with_reducible refine gate_dst (N := 2) rfl ?_); refine box_event ?hg (N := 2) ?hd (cs := #[.slice A0_0 l0_0.length c0_0, .int .i64 a0_1, .slice A0_2 l0_2.length c0_2]) (t := 51) ?hr ?_; (case hd => rfl); (case hg => rfl); (case hr => first | (go_simp; done) | (go_simp; rfl)); intro gb194 hg w3 hbox hb; have n0_ := Aside0.mk (below_step (by repeat (first | (with_reducible first | exact HB.out | apply below_alloc | apply pw_below_drewN | apply below_drew1) | exact HB.out)) hb); have n1_ := Aside0.mk (hbox); have n2_ := Aside0.mk ((by rw [hg]; exact (below_size (by repeat (first | (with_reducible first | exact HB.out | apply below_alloc | apply pw_below_drewN | apply below_drew1) | exact HB.out))) : w.heap.size ≤ gb194)); have n3_ := Aside0.mk ((by rw [hg]; exact (below_size (by repeat (first | (with_reducible first | exact HB.out | apply below_alloc | apply pw_below_drewN | apply below_drew1) | exact HB.out))) : w.heap.size ≤ gb194)); clear HB; have HB := n0_; have BK194 := n1_; have GW194 := n2_; have GE194 := n3_; clear n0_ n1_ n2_ n3_; clear hb hbox hg))
 go_loopg [5, 6] k (fun kq v5 v6 w' => ∃ (x5_1 : List Int) (x6_1 : Int), v6 = .int .i64 x6_1 ∧ Aside0 (spliceref10_Bag_IDs.l0 kq a1 x5_1 x6_1 l0_0 a0_1 l0_2 = some r) ∧ Aside0 (kq ≤ k) ∧ Aside0 (Kd.R (Kd.int .i64) 3 w' w.heap.size (fun _ => True) v5 x5_1) ∧ Aside0 (w'.heap[gb194]? = some (.cells #[(.slice A0_0 l0_0.length c0_0), .int .i64 a0_1, (.slice A0_2 l0_2.length c0_2)] 51 (0, 0))) ∧ Aside0 (Below w.heap.size w w'))
 case atStart => exact ⟨(([] : List Int)), (0), (by first | rfl | (simp; done) | (simp [*]; done)), H', ⟨Nat.le_refl _⟩, ⟨by first | exact Kd.R_nil _ _ _ _ _ | exact Kd.N_nil _ _ _ _ _ | exact Kd.V_nil _ _ _ _ _ | exact Kd.Q_nil _ _ _ _ _ | exact Kd.S_nil _ _ _ _ _⟩, ⟨by (with_reducible repeat (first | refine blk_drewN ?_ _ | refine blk_drew ?_ | refine blk_alloc ?_ _)); exact BK194.out⟩, ⟨by repeat (first | (with_reducible first | exact HB.out | apply below_alloc | apply pw_below_drewN | apply below_drew1 | refine below_set ?_ GE194.out) | exact HB.out)⟩⟩
 clear H'
 try clear p2
 try clear c3
 obtain ⟨x5_1, x6_1, rfl, HA, HK1, HO_5, BK194, HB⟩ := hrel
 cases gk with
 | zero => exact absurd HA.out (by simp [spliceref10_Bag_IDs.l0])
 | succ k1 => ?_
 have H := HA.out
 clear HA; simp only [spliceref10_Bag_IDs.l0] at H
 by_cases c4 : x6_1 < (l0_0.length : Int)
 rotate_left
 · rw [if_neg c4] at H
   have c4b0 : decide (x6_1 < (l0_0.length : Int)) = false := decide_eq_false c4
   clear c4
   obtain rfl := Option.some.inj H
   have hcz24_0 : wr.cell? ⟨gb194, 0, none⟩ = some (.slice A0_0 l0_0.length c0_0) := (blk_cell BK194.out 0).trans rfl
   have hcz24_1 : wr.cell? ⟨gb194, 1, none⟩ = some (.int .i64 a0_1) := (blk_cell BK194.out 1).trans rfl
   have hcz24_2 : wr.cell? ⟨gb194, 2, none⟩ = some (.slice A0_2 l0_2.length c0_2) := (blk_cell BK194.out 2).trans rfl
   have hfz24_0 := blk_frozen BK194.out 0
   have hfz24_1 := blk_frozen BK194.out 1
   have hfz24_2 := blk_frozen BK194.out 2
   go_wp2
   go_ret
   exact ⟨_, by first | rfl | (simp [errW_none, errW_some] <;> rfl) | (simp [*, errW_none, errW_some] <;> rfl), by (with_reducible repeat (first | apply Kd.R_alloc | apply Kd.R_drewN | apply Kd.R_drew)); exact HO_5.out, by repeat (first | (with_reducible first | exact HB.out | apply below_alloc | apply pw_below_drewN | apply below_drew1 | refine below_set ?_ GE194.out) | exact HB.out)⟩
 rw [if_pos c4] at H
 have c4b0 : decide (x6_1 < (l0_0.length : Int)) = true := decide_eq_true c4
 clear c4
 by_cases c5 : a1 = true
 rotate_left
 · replace c5 := Bool.eq_false_iff.mpr c5
   subst c5
   have H1 : (if 0 ≤ x6_1 then (if x5_1.length < 17592186044416 then (spliceref10_Bag_IDs.l0 k1 false (x5_1 ++ [(rd_T74 l0_0 x6_1).f0]) (wrap64 (x6_1 + 1)) l0_0 a0_1 l0_2) else (none)) else (none)) = some r := by rw [if_neg (show ¬ (false = true) by decide)] at H; exact H
   clear H
   have H := H1
   clear H1
   by_cases c18 : 0 ≤ x6_1
   rotate_left
   · rw [if_neg c18] at H; exact absurd H (by simp)
   rw [if_pos c18] at H
   have c18b0 : decide (0 ≤ x6_1) = true := decide_eq_true c18
   clear c18
   by_cases c19 : x5_1.length < 17592186044416
   rotate_left
   · rw [if_neg c19] at H; exact absurd H (by simp)
   rw [if_pos c19] at H
   have LMc19 := Aside0.mk c19
   clear c19
   obtain ⟨y203, hy203⟩ : ∃ y_ : List Int, y_ = (x5_1 ++ [(rd_T74 l0_0 x6_1).f0]) := ⟨_, rfl⟩
   replace H : (spliceref10_Bag_IDs.l0 k1 false y203 (wrap64 (x6_1 + 1)) l0_0 a0_1 l0_2) = some r := by first | (rw [hy203]; with_reducible exact H) | (have H2_ := (Option.bind_some _ _).symm.trans H; rw [hy203]; with_reducible exact H2_) | (have H2_ := (Option.bind_some _ _).symm.trans H; with_reducible exact H2_) | with_reducible exact H | (rw [hy203]; exact H) | exact H
   have Ny203 := Aside0.mk hy203
   clear hy203
   have H' := Aside0.mk H
   clear H
   have hcz20_0 : wr.cell? ⟨gb194, 0, none⟩ = some (.slice A0_0 l0_0.length c0_0) := (blk_cell BK194.out 0).trans rfl
   have hcz20_1 : wr.cell? ⟨gb194, 1, none⟩ = some (.int .i64 a0_1) := (blk_cell BK194.out 1).trans rfl
   have hcz20_2 : wr.cell? ⟨gb194, 2, none⟩ = some (.slice A0_2 l0_2.length c0_2) := (blk_cell BK194.out 2).trans rfl
   have hfz20_0 := blk_frozen BK194.out 0
   have hfz20_1 := blk_frozen BK194.out 1
   have hfz20_2 := blk_frozen BK194.out 2
   try go_wp2
   have n0_ := Aside0.mk (Kd.R_drew HO_5.out)
   have n1_ := Aside0.mk (blk_drew BK194.out)
   have n2_ := Aside0.mk (below_drew1 HB.out)
   clear HO_5; clear BK194; clear HB
   have HO_5 := n0_
   have BK194 := n1_
   have HB := n2_
   clear n0_ n1_ n2_
   refine start_ (n := 19) (S := fun w' => True) (ds := []) #[false, false, false, false, false, false, false, false, false, false, false, false, false, false, false, false, false, false, false] (by kernel_rfl) rfl rfl trivial (fun hHeld => ?_); refine with_tabW spliceref10_Bag_IDs.tab5 spliceref10_Bag_IDs.bits5 (fun HT_ HW_ => ?_)
   generalize wr.drew = w21 at HO_5 BK194 HB hHeld ⊢
   refine pure_ (i := 0) (N := some 14) (v := ?_) (a' := ?_) #[true, false, false, false, false, false, false, false, false, false, false, false, false, false, false, false, false, false, false] rfl rfl (any_of HT_.out (by kernel_rfl)) (fun _ _ _ h => h) (Or.inl ⟨by rfl, ?_⟩) ?_ ?_
   rotate_left
   · intro w'; go_simp; with_reducible rfl
   rotate_left
   · simp only [Act.put, List.setIfInBounds_toArray, List.set_cons_zero, List.set_cons_succ, i64_w, i32_w]; rfl
   refine pure_ (i := 1) (N := some 15) (v := ?_) (a' := ?_) #[true, true, false, false, false, false, false, false, false, false, false, false, false, false, false, false, false, false, false] rfl rfl (any_of HT_.out (by kernel_rfl)) (fun _ _ _ h => h) (Or.inl ⟨by rfl, ?_⟩) ?_ ?_
   rotate_left
   · intro w'; go_simp; with_reducible rfl
   rotate_left
   · simp only [Act.put, List.setIfInBounds_toArray, List.set_cons_zero, List.set_cons_succ, i64_w, i32_w]; rfl
   refine pure_ (i := 2) (N := some 16) (v := ?_) (a' := ?_) #[true, true, true, false, false, false, false, false, false, false, false, false, false, false, false, false, false, false, false] rfl rfl (any_of HT_.out (by kernel_rfl)) (fun _ _ _ h => h) (Or.inl ⟨by rfl, ?_⟩) ?_ ?_
   rotate_left
   · intro w'; go_simp; with_reducible rfl
   rotate_left
   · simp only [Act.put, List.setIfInBounds_toArray, List.set_cons_zero, List.set_cons_succ, i64_w, i32_w]; rfl
   refine pure_ (i := 3) (N := some 17) (v := undef) (a' := ?_) #[true, true, true, true, false, false, false, false, false, false, false, false, false, false, false, false, false, false, false] rfl rfl (any_of HT_.out (by kernel_rfl)) (fun _ _ _ h => h) (Or.inr ⟨by rfl, rfl⟩) ?_ ?_
   rotate_left
   · simp only [Act.put, List.setIfInBounds_toArray, List.set_cons_zero, List.set_cons_succ, i64_w, i32_w]; rfl
   refine pure_ (i := 4) (N := some 18) (v := undef) (a' := ?_) #[true, true, true, true, true, false, false, false, false, false, false, false, false, false, false, false, false, false, false] rfl rfl (any_of HT_.out (by kernel_rfl)) (fun _ _ _ h => h) (Or.inr ⟨by rfl, rfl⟩) ?_ ?_
   rotate_left
   · simp only [Act.put, List.setIfInBounds_toArray, List.set_cons_zero, List.set_cons_succ, i64_w, i32_w]; rfl
   refine pure_ (i := 5) (N := some 19) (v := undef) (a' := ?_) #[true, true, true, true, true, true, false, false, false, false, false, false, false, false, false, false, false, false, false] rfl rfl (any_of HT_.out (by kernel_rfl)) (fun _ _ _ h => h) (Or.inr ⟨by rfl, rfl⟩) ?_ ?_
   rotate_left
   · simp only [Act.put, List.setIfInBounds_toArray, List.set_cons_zero, List.set_cons_succ, i64_w, i32_w]; rfl
   refine pure_ (i := 6) (N := some 20) (v := undef) (a' := ?_) #[true, true, true, true, true, true, true, false, false, false, false, false, false, false, false, false, false, false, false] rfl rfl (any_of HT_.out (by kernel_rfl)) (fun _ _ _ h => h) (Or.inr ⟨by rfl, rfl⟩) ?_ ?_
   rotate_left
   · simp only [Act.put, List.setIfInBounds_toArray, List.set_cons_zero, List.set_cons_succ, i64_w, i32_w]; rfl
   refine pure_ (i := 7) (N := some 21) (v := undef) (a' := ?_) #[true, true, true, true, true, true, true, true, false, false, false, false, false, false, false, false, false, false, false] rfl rfl (any_of HT_.out (by kernel_rfl)) (fun _ _ _ h => h) (Or.inr ⟨by rfl, rfl⟩) ?_ ?_
   rotate_left
   · simp only [Act.put, List.setIfInBounds_toArray, List.set_cons_zero, List.set_cons_succ, i64_w, i32_w]; rfl
   refine pure_ (i := 8) (N := some 22) (v := undef) (a' := ?_) #[true, true, true, true, true, true, true, true, true, false, false, false, false, false, false, false, false, false, false] rfl rfl (any_of HT_.out (by kernel_rfl)) (fun _ _ _ h => h) (Or.inr ⟨by rfl, rfl⟩) ?_ ?_
   rotate_left
   · simp only [Act.put, List.setIfInBounds_toArray, List.set_cons_zero, List.set_cons_succ, i64_w, i32_w]; rfl
   refine pure_ (i := 9) (N := some 23) (v := undef) (a' := ?_) #[true, true, true, true, true, true, true, true, true, true, false, false, false, false, false, false, false, false, false] rfl rfl (any_of HT_.out (by kernel_rfl)) (fun _ _ _ h => h) (Or.inr ⟨by rfl, rfl⟩) ?_ ?_
   rotate_left
   · simp only [Act.put, List.setIfInBounds_toArray, List.set_cons_zero, List.set_cons_succ, i64_w, i32_w]; rfl
   refine pure_ (i := 10) (N := some 24) (v := undef) (a' := ?_) #[true, true, true, true, true, true, true, true, true, true, true, false, false, false, false, false, false, false, false] rfl rfl (any_of HT_.out (by kernel_rfl)) (fun _ _ _ h => h) (Or.inr ⟨by rfl, rfl⟩) ?_ ?_
   rotate_left
   · simp only [Act.put, List.setIfInBounds_toArray, List.set_cons_zero, List.set_cons_succ, i64_w, i32_w]; rfl
   refine pure_ (i := 11) (N := some 25) (v := undef) (a' := ?_) #[true, true, true, true, true, true, true, true, true, true, true, true, false, false, false, false, false, false, false] rfl rfl (any_of HT_.out (by kernel_rfl)) (fun _ _ _ h => h) (Or.inr ⟨by rfl, rfl⟩) ?_ ?_
   rotate_left
   · simp only [Act.put, List.setIfInBounds_toArray, List.set_cons_zero, List.set_cons_succ, i64_w, i32_w]; rfl
   refine pure_ (i := 12) (N := some 26) (v := undef) (a' := ?_) #[true, true, true, true, true, true, true, true, true, true, true, true, true, false, false, false, false, false, false] rfl rfl (any_of HT_.out (by kernel_rfl)) (fun _ _ _ h => h) (Or.inr ⟨by rfl, rfl⟩) ?_ ?_
   rotate_left
   · simp only [Act.put, List.setIfInBounds_toArray, List.set_cons_zero, List.set_cons_succ, i64_w, i32_w]; rfl
   refine pure_ (i := 13) (N := some 27) (v := undef) (a' := ?_) #[true, true, true, true, true, true, true, true, true, true, true, true, true, true, false, false, false, false, false] rfl rfl (any_of HT_.out (by kernel_rfl)) (fun _ _ _ h => h) (Or.inr ⟨by rfl, rfl⟩) ?_ ?_
   rotate_left
   · simp only [Act.put, List.setIfInBounds_toArray, List.set_cons_zero, List.set_cons_succ, i64_w, i32_w]; rfl
   refine pure_ (i := 14) (N := some 28) (v := undef) (a' := ?_) #[true, true, true, true, true, true, true, true, true, true, true, true, true, true, true, false, false, false, false] rfl rfl (any_of HT_.out (by kernel_rfl)) (fun _ _ _ h => h) (Or.inr ⟨by rfl, rfl⟩) ?_ ?_
   rotate_left
   · simp only [Act.put, List.setIfInBounds_toArray, List.set_cons_zero, List.set_cons_succ, i64_w, i32_w]; rfl
   refine pure_ (i := 15) (N := some 29) (v := undef) (a' := ?_) #[true, true, true, true, true, true, true, true, true, true, true, true, true, true, true, true, false, false, false] rfl rfl (any_of HT_.out (by kernel_rfl)) (fun _ _ _ h => h) (Or.inr ⟨by rfl, rfl⟩) ?_ ?_
   rotate_left
   · simp only [Act.put, List.setIfInBounds_toArray, List.set_cons_zero, List.set_cons_succ, i64_w, i32_w]; rfl
   refine pure_ (i := 16) (N := some 30) (v := undef) (a' := ?_) #[true, true, true, true, true, true, true, true, true, true, true, true, true, true, true, true, true, false, false] rfl rfl (any_of HT_.out (by kernel_rfl)) (fun _ _ _ h => h) (Or.inr ⟨by rfl, rfl⟩) ?_ ?_
   rotate_left
   · simp only [Act.put, List.setIfInBounds_toArray, List.set_cons_zero, List.set_cons_succ, i64_w, i32_w]; rfl
   refine pure_ (i := 17) (N := some 31) (v := undef) (a' := ?_) #[true, true, true, true, true, true, true, true, true, true, true, true, true, true, true, true, true, true, false] rfl rfl (any_of HT_.out (by kernel_rfl)) (fun _ _ _ h => h) (Or.inr ⟨by rfl, rfl⟩) ?_ ?_
   rotate_left
   · simp only [Act.put, List.setIfInBounds_toArray, List.set_cons_zero, List.set_cons_succ, i64_w, i32_w]; rfl
   refine pure_ (i := 18) (N := some 32) (v := ?_) (a' := ?_) #[true, true, true, true, true, true, true, true, true, true, true, true, true, true, true, true, true, true, true] rfl rfl (any_of HT_.out (by kernel_rfl)) (fun _ _ _ h => h) (Or.inl ⟨by rfl, ?_⟩) ?_ ?_
   rotate_left
   · intro w'; go_simp; with_reducible rfl
   rotate_left
   · simp only [Act.put, List.setIfInBounds_toArray, List.set_cons_zero, List.set_cons_succ, i64_w, i32_w]; rfl
   refine done_ (done_of HT_.out (by kernel_rfl)) ?_
   have hcz22_0 : w21.cell? ⟨gb194, 0, none⟩ = some (.slice A0_0 l0_0.length c0_0) := (blk_cell BK194.out 0).trans rfl
   have hcz22_1 : w21.cell? ⟨gb194, 1, none⟩ = some (.int .i64 a0_1) := (blk_cell BK194.out 1).trans rfl
   have hcz22_2 : w21.cell? ⟨gb194, 2, none⟩ = some (.slice A0_2 l0_2.length c0_2) := (blk_cell BK194.out 2).trans rfl
   have hfz22_0 := blk_frozen BK194.out 0
   have hfz22_1 := blk_frozen BK194.out 1
   have hfz22_2 := blk_frozen BK194.out 2
   have p202 : 0 ≤ (x6_1 : Int) := of_decide_eq_true (by first | (with_reducible assumption) | assumption)
   have q202 : x6_1 < (l0_0.length : Int) := of_decide_eq_true (by first | (with_reducible assumption) | assumption)
   obtain ⟨ad202, e202, hx202_0, hx202_1, hx202_2, hx202_3⟩ := at_T74 HR0_0.out x6_1 p202 q202
   cases e202
   replace hx202_0 := (HB.out.cell (World.block_lt_of_cell? w _ hx202_0)).trans hx202_0
   replace hx202_1 := (HB.out.cell (World.block_lt_of_cell? w _ hx202_1)).trans hx202_1
   replace hx202_2 := (HB.out.cell (World.block_lt_of_cell? w _ hx202_2)).trans hx202_2
   replace hx202_3 := (HB.out.cell (World.block_lt_of_cell? w _ hx202_3)).trans hx202_3
   replace p202 := eq_true p202
   replace q202 := eq_true q202
   try go_wp2_with (first | ((with_reducible refine gate_builtin (b := .append) (xs := #[.tmp 33, .tmp 40]) rfl ?_); at_builtin; refine Kd.R_append (Kd.int .i64) (w0 := w) w.heap.size rfl (.tmp 33) (.tmp 40) 27 3 (.int .i64 0) 8 rfl Try.underlying27 info3 rfl (by decide) (by omega) u5 x5_1 ((rd_T74 l0_0 x6_1).f0) [.int .i64 ((rd_T74 l0_0 x6_1).f0)] (fun _ => True) (fun _ => False) rfl rfl ?aP (fun _ hk => hk.elim) ?aF ?aO ?aB ?aS ?aL ?_; (case aP => exact rfl); (case aB => exact (by repeat (first | (with_reducible first | exact HB.out | apply below_alloc | apply pw_below_drewN | apply below_drew1 | refine below_set ?_ GE194.out) | exact HB.out))); (case aF => exact (fun _ _ => trivial)); (case aO => exact (by (with_reducible repeat (first | apply Kd.R_alloc | apply Kd.R_drewN | apply Kd.R_drew)); exact HO_5.out)); (case aS => exact (below_size (by repeat (first | (with_reducible first | exact HB.out | apply below_alloc | apply pw_below_drewN | apply below_drew1 | refine below_set ?_ GE194.out) | exact HB.out)))); (case aL => have := LMc19.out; omega); intro v204 w23 ho hb hg hat; rw [← Ny203.out] at ho; have n0_ := Aside0.mk (blk_grown (g := gb194) (o := .cells #[.slice (some ad202) l0_0.length c0_0, .int .i64 a0_1, .slice A0_2 l0_2.length c0_2] 51 (0, 0)) (by (with_reducible repeat (first | refine blk_drewN ?_ _ | refine blk_drew ?_ | refine blk_alloc ?_ _)); exact BK194.out) hg (Kd.R_ne HO_5.out BK194.out (by decide))); have n1_ := Aside0.mk (hb); have n2_ := Aside0.mk (ho); clear BK194; clear HB; clear HO_5; have BK194 := n0_; have HB := n1_; have HO205 := n2_; clear n0_ n1_ n2_; clear ho hb hg hat))
   go_roundg k1
   case measure => have := HK1.out; omega
   case rel => exact ⟨(y203), (wrap64 (x6_1 + 1)), (by first | rfl | (simp; done) | (simp [*]; done)), H', ⟨by have := HK1.out; omega⟩, ⟨by (with_reducible repeat (first | apply Kd.R_alloc | apply Kd.R_drewN | apply Kd.R_drew)); exact HO205.out⟩, ⟨by (with_reducible repeat (first | refine blk_drewN ?_ _ | refine blk_drew ?_ | refine blk_alloc ?_ _)); exact BK194.out⟩, ⟨by repeat (first | (with_reducible first | exact HB.out | apply below_alloc | apply pw_below_drewN | apply below_drew1 | refine below_set ?_ GE194.out) | exact HB.out)⟩⟩
 subst c5
 have H1 : (if 0 ≤ x6_1 then ((spliceref10_Bag_apart.f k1 l0_0 a0_1 l0_2 ((rd_T74 l0_0 x6_1).f1) ((rd_T74 l0_0 x6_1).f2)).bind fun t197 => (if t197 = true then (spliceref10_Bag_IDs.l0 k1 true x5_1 (wrap64 (x6_1 + 1)) l0_0 a0_1 l0_2) else (if x5_1.length < 17592186044416 then (spliceref10_Bag_IDs.l0 k1 true (x5_1 ++ [(rd_T74 l0_0 x6_1).f0]) (wrap64 (x6_1 + 1)) l0_0 a0_1 l0_2) else (none)))) else (none)) = some r := by rw [if_pos rfl] at H; exact H
 clear H
 have H := H1
 clear H1
 by_cases c6 : 0 ≤ x6_1
 rotate_left
 · rw [if_neg c6] at H; exact absurd H (by simp)
 rw [if_pos c6] at H
 have c6b0 : decide (0 ≤ x6_1) = true := decide_eq_true c6
 clear c6
 replace H := Option.bind_eq_some_iff.mp H
 obtain ⟨t197, A70, H⟩ := H
 replace H : (if t197 = true then (spliceref10_Bag_IDs.l0 k1 true x5_1 (wrap64 (x6_1 + 1)) l0_0 a0_1 l0_2) else (if x5_1.length < 17592186044416 then (spliceref10_Bag_IDs.l0 k1 true (x5_1 ++ [(rd_T74 l0_0 x6_1).f0]) (wrap64 (x6_1 + 1)) l0_0 a0_1 l0_2) else (none))) = some r := H
 have A7 := Aside0.mk A70
 clear A70
 by_cases c8 : t197 = true
 · subst c8
   have H1 : (spliceref10_Bag_IDs.l0 k1 true x5_1 (wrap64 (x6_1 + 1)) l0_0 a0_1 l0_2) = some r := by rw [if_pos rfl] at H; exact H
   clear H
   have H := H1
   clear H1
   have H' := Aside0.mk H
   clear H
   have hcz9_0 : wr.cell? ⟨gb194, 0, none⟩ = some (.slice A0_0 l0_0.length c0_0) := (blk_cell BK194.out 0).trans rfl
   have hcz9_1 : wr.cell? ⟨gb194, 1, none⟩ = some (.int .i64 a0_1) := (blk_cell BK194.out 1).trans rfl
   have hcz9_2 : wr.cell? ⟨gb194, 2, none⟩ = some (.slice A0_2 l0_2.length c0_2) := (blk_cell BK194.out 2).trans rfl
   have hfz9_0 := blk_frozen BK194.out 0
   have hfz9_1 := blk_frozen BK194.out 1
   have hfz9_2 := blk_frozen BK194.out 2
   try go_wp2
   have n0_ := Aside0.mk (Kd.R_drew HO_5.out)
   have n1_ := Aside0.mk (blk_drew BK194.out)
   have n2_ := Aside0.mk (below_drew1 HB.out)
   clear HO_5; clear BK194; clear HB
   have HO_5 := n0_
   have BK194 := n1_
   have HB := n2_
   clear n0_ n1_ n2_
   have p195 : 0 ≤ (x6_1 : Int) := of_decide_eq_true (by first | (with_reducible assumption) | assumption)
   have q195 : x6_1 < (l0_0.length : Int) := of_decide_eq_true (by first | (with_reducible assumption) | assumption)
   obtain ⟨ad195, e195, hx195_0, hx195_1, hx195_2, hx195_3⟩ := at_T74 HR0_0.out x6_1 p195 q195
   have hw195_3 := hx195_3
   have hw195_2 := hx195_2
   have hw195_1 := hx195_1
   have hw195_0 := hx195_0
   cases e195
   replace hx195_0 := (HB.out.cell (World.block_lt_of_cell? w _ hx195_0)).trans hx195_0
   replace hx195_1 := (HB.out.cell (World.block_lt_of_cell? w _ hx195_1)).trans hx195_1
   replace hx195_2 := (HB.out.cell (World.block_lt_of_cell? w _ hx195_2)).trans hx195_2
   replace hx195_3 := (HB.out.cell (World.block_lt_of_cell? w _ hx195_3)).trans hx195_3
   replace p195 := eq_true p195
   replace q195 := eq_true q195
   have p196 : 0 ≤ (x6_1 : Int) := of_decide_eq_true (by first | (with_reducible assumption) | assumption)
   have q196 : x6_1 < (l0_0.length : Int) := of_decide_eq_true (by first | (with_reducible assumption) | assumption)
   obtain ⟨ad196, e196, hx196_0, hx196_1, hx196_2, hx196_3⟩ := at_T74 HR0_0.out x6_1 p196 q196
   have hw196_3 := hx196_3
   have hw196_2 := hx196_2
   have hw196_1 := hx196_1
   have hw196_0 := hx196_0
   obtain rfl : ad195 = ad196 := (by injection e196)
   replace hx196_0 := (HB.out.cell (World.block_lt_of_cell? w _ hx196_0)).trans hx196_0
   replace hx196_1 := (HB.out.cell (World.block_lt_of_cell? w _ hx196_1)).trans hx196_1
   replace hx196_2 := (HB.out.cell (World.block_lt_of_cell? w _ hx196_2)).trans hx196_2
   replace hx196_3 := (HB.out.cell (World.block_lt_of_cell? w _ hx196_3)).trans hx196_3
   replace p196 := eq_true p196
   replace q196 := eq_true q196
   refine start_ (n := 19) (S := fun w' => w'.cell? ⟨gb194, 0, none⟩ = some (.slice (some ad195) l0_0.length c0_0) ∧ w'.cell? ⟨gb194, 1, none⟩ = some (.int .i64 a0_1) ∧ w'.cell? ⟨gb194, 2, none⟩ = some (.slice A0_2 l0_2.length c0_2) ∧ w'.cell? (ad195.add ((x6_1).toNat * 4)) = some (.int .i64 ((rd_T74 l0_0 x6_1).f0)) ∧ w'.cell? ⟨(ad195.add ((x6_1).toNat * 4)).block, (ad195.add ((x6_1).toNat * 4)).off + 1, none⟩ = some (.int .i64 ((rd_T74 l0_0 x6_1).f1)) ∧ w'.cell? ⟨(ad195.add ((x6_1).toNat * 4)).block, (ad195.add ((x6_1).toNat * 4)).off + 2, none⟩ = some (.int .i64 ((rd_T74 l0_0 x6_1).f2)) ∧ w'.cell? ⟨(ad195.add ((x6_1).toNat * 4)).block, (ad195.add ((x6_1).toNat * 4)).off + 3, none⟩ = some (.string ((rd_T74 l0_0 x6_1).f3)) ∧ w'.cell? (ad195.add ((x6_1).toNat * 4)) = some (.int .i64 ((rd_T74 l0_0 x6_1).f0)) ∧ w'.cell? ⟨(ad195.add ((x6_1).toNat * 4)).block, (ad195.add ((x6_1).toNat * 4)).off + 1, none⟩ = some (.int .i64 ((rd_T74 l0_0 x6_1).f1)) ∧ w'.cell? ⟨(ad195.add ((x6_1).toNat * 4)).block, (ad195.add ((x6_1).toNat * 4)).off + 2, none⟩ = some (.int .i64 ((rd_T74 l0_0 x6_1).f2)) ∧ w'.cell? ⟨(ad195.add ((x6_1).toNat * 4)).block, (ad195.add ((x6_1).toNat * 4)).off + 3, none⟩ = some (.string ((rd_T74 l0_0 x6_1).f3))) (ds := []) #[false, false, false, false, false, false, false, false, false, false, false, false, false, false, false, false, false, false, false] (by kernel_rfl) rfl rfl ⟨(blk_cell BK194.out 0).trans rfl, (blk_cell BK194.out 1).trans rfl, (blk_cell BK194.out 2).trans rfl, ((HB.out.cell (World.block_lt_of_cell? w _ hw195_0)).trans hw195_0), ((HB.out.cell (World.block_lt_of_cell? w _ hw195_1)).trans hw195_1), ((HB.out.cell (World.block_lt_of_cell? w _ hw195_2)).trans hw195_2), ((HB.out.cell (World.block_lt_of_cell? w _ hw195_3)).trans hw195_3), ((HB.out.cell (World.block_lt_of_cell? w _ hw196_0)).trans hw196_0), ((HB.out.cell (World.block_lt_of_cell? w _ hw196_1)).trans hw196_1), ((HB.out.cell (World.block_lt_of_cell? w _ hw196_2)).trans hw196_2), ((HB.out.cell (World.block_lt_of_cell? w _ hw196_3)).trans hw196_3)⟩ (fun hHeld => ?_); refine with_tabW spliceref10_Bag_IDs.tab5 spliceref10_Bag_IDs.bits5 (fun HT_ HW_ => ?_)
   generalize wr.drew = w10 at HO_5 BK194 HB hx195_0 hx195_1 hx195_2 hx195_3 hx196_0 hx196_1 hx196_2 hx196_3 hHeld ⊢
   refine pure_ (i := 0) (N := some 14) (v := ?_) (a' := ?_) #[true, false, false, false, false, false, false, false, false, false, false, false, false, false, false, false, false, false, false] rfl rfl (any_of HT_.out (by kernel_rfl)) (fun _ _ _ h => h) (Or.inl ⟨by rfl, ?_⟩) ?_ ?_
   rotate_left
   · intro w'; go_simp; with_reducible rfl
   rotate_left
   · simp only [Act.put, List.setIfInBounds_toArray, List.set_cons_zero, List.set_cons_succ, i64_w, i32_w]; rfl
   refine pure_ (i := 1) (N := some 15) (v := ?_) (a' := ?_) #[true, true, false, false, false, false, false, false, false, false, false, false, false, false, false, false, false, false, false] rfl rfl (any_of HT_.out (by kernel_rfl)) (fun _ _ _ h => h) (Or.inl ⟨by rfl, ?_⟩) ?_ ?_
   rotate_left
   · intro w'; go_simp; with_reducible rfl
   rotate_left
   · simp only [Act.put, List.setIfInBounds_toArray, List.set_cons_zero, List.set_cons_succ, i64_w, i32_w]; rfl
   refine pure_ (i := 2) (N := some 16) (v := ?_) (a' := ?_) #[true, true, true, false, false, false, false, false, false, false, false, false, false, false, false, false, false, false, false] rfl rfl (any_of HT_.out (by kernel_rfl)) (fun _ _ _ h => h) (Or.inl ⟨by rfl, ?_⟩) ?_ ?_
   rotate_left
   · intro w'; go_simp; with_reducible rfl
   rotate_left
   · simp only [Act.put, List.setIfInBounds_toArray, List.set_cons_zero, List.set_cons_succ, i64_w, i32_w]; rfl
   refine pure_ (i := 4) (N := some 18) (v := ?_) (a' := ?_) #[true, true, true, false, true, false, false, false, false, false, false, false, false, false, false, false, false, false, false] rfl rfl (any_of HT_.out (by kernel_rfl)) (fun _ _ _ h => h) (Or.inl ⟨by rfl, ?_⟩) ?_ ?_
   rotate_left
   · intro w'; go_simp; with_reducible rfl
   rotate_left
   · simp only [Act.put, List.setIfInBounds_toArray, List.set_cons_zero, List.set_cons_succ, i64_w, i32_w]; rfl
   refine pure_ (i := 6) (N := some 20) (v := ?_) (a' := ?_) #[true, true, true, false, true, false, true, false, false, false, false, false, false, false, false, false, false, false, false] rfl rfl (any_of HT_.out (by kernel_rfl)) (fun _ _ _ h => h) (Or.inl ⟨by rfl, ?_⟩) ?_ ?_
   rotate_left
   · intro w'; go_simp; with_reducible rfl
   rotate_left
   · simp only [Act.put, List.setIfInBounds_toArray, List.set_cons_zero, List.set_cons_succ, i64_w, i32_w]; rfl
   refine pure_ (i := 10) (N := some 24) (v := ?_) (a' := ?_) #[true, true, true, false, true, false, true, false, false, false, true, false, false, false, false, false, false, false, false] rfl rfl (any_of HT_.out (by kernel_rfl)) (fun _ _ _ h => h) (Or.inl ⟨by rfl, ?_⟩) ?_ ?_
   rotate_left
   · intro w'; go_simp; with_reducible rfl
   rotate_left
   · simp only [Act.put, List.setIfInBounds_toArray, List.set_cons_zero, List.set_cons_succ, i64_w, i32_w]; rfl
   refine pure_ (i := 12) (N := some 26) (v := ?_) (a' := ?_) #[true, true, true, false, true, false, true, false, false, false, true, false, true, false, false, false, false, false, false] rfl rfl (any_of HT_.out (by kernel_rfl)) (fun _ _ _ h => h) (Or.inl ⟨by rfl, ?_⟩) ?_ ?_
   rotate_left
   · intro w'; go_simp; with_reducible rfl
   rotate_left
   · simp only [Act.put, List.setIfInBounds_toArray, List.set_cons_zero, List.set_cons_succ, i64_w, i32_w]; rfl
   refine take_ (i := 3) (N := some 17) (v := ?_) (a' := ?_) #[true, true, true, true, true, false, true, false, false, false, true, false, true, false, false, false, false, false, false] rfl rfl (take_ofW HT_.out HW_.out (by kernel_rfl)) (fun _ _ _ h => h) (Or.inl ⟨by rfl, ?_⟩) hHeld ?_ ?_
   rotate_left
   · rintro w' ⟨s0, s1, s2, s3, s4, s5, s6, s7, s8, s9, s10⟩
     go_simp; with_reducible rfl
   rotate_left
   · simp only [Act.put, List.setIfInBounds_toArray, List.set_cons_zero, List.set_cons_succ, i64_w, i32_w]; rfl
   refine take_ (i := 5) (N := some 19) (v := ?_) (a' := ?_) #[true, true, true, true, true, true, true, false, false, false, true, false, true, false, false, false, false, false, false] rfl rfl (take_ofW HT_.out HW_.out (by kernel_rfl)) (fun _ _ _ h => h) (Or.inl ⟨by rfl, ?_⟩) hHeld ?_ ?_
   rotate_left
   · rintro w' ⟨s0, s1, s2, s3, s4, s5, s6, s7, s8, s9, s10⟩
     go_simp; with_reducible rfl
   rotate_left
   · simp only [Act.put, List.setIfInBounds_toArray, List.set_cons_zero, List.set_cons_succ, i64_w, i32_w]; rfl
   refine pure_ (i := 7) (N := some 21) (v := ?_) (a' := ?_) #[true, true, true, true, true, true, true, true, false, false, true, false, true, false, false, false, false, false, false] rfl rfl (any_of HT_.out (by kernel_rfl)) (fun _ _ _ h => h) (Or.inl ⟨by rfl, ?_⟩) ?_ ?_
   rotate_left
   · intro w'; go_simp; with_reducible rfl
   rotate_left
   · simp only [Act.put, List.setIfInBounds_toArray, List.set_cons_zero, List.set_cons_succ, i64_w, i32_w]; rfl
   refine pure_ (i := 8) (N := some 22) (v := ?_) (a' := ?_) #[true, true, true, true, true, true, true, true, true, false, true, false, true, false, false, false, false, false, false] rfl rfl (any_of HT_.out (by kernel_rfl)) (fun _ _ _ h => h) (Or.inl ⟨by rfl, ?_⟩) ?_ ?_
   rotate_left
   · intro w'; go_simp; with_reducible rfl
   rotate_left
   · simp only [Act.put, List.setIfInBounds_toArray, List.set_cons_zero, List.set_cons_succ, i64_w, i32_w]; rfl
   refine take_ (i := 9) (N := some 23) (v := ?_) (a' := ?_) #[true, true, true, true, true, true, true, true, true, true, true, false, true, false, false, false, false, false, false] rfl rfl (take_ofW HT_.out HW_.out (by kernel_rfl)) (fun _ _ _ h => h) (Or.inl ⟨by rfl, ?_⟩) hHeld ?_ ?_
   rotate_left
   · rintro w' ⟨s0, s1, s2, s3, s4, s5, s6, s7, s8, s9, s10⟩
     go_simp; with_reducible rfl
   rotate_left
   · simp only [Act.put, List.setIfInBounds_toArray, List.set_cons_zero, List.set_cons_succ, i64_w, i32_w]; rfl
   refine take_ (i := 11) (N := some 25) (v := ?_) (a' := ?_) #[true, true, true, true, true, true, true, true, true, true, true, true, true, false, false, false, false, false, false] rfl rfl (take_ofW HT_.out HW_.out (by kernel_rfl)) (fun _ _ _ h => h) (Or.inl ⟨by rfl, ?_⟩) hHeld ?_ ?_
   rotate_left
   · rintro w' ⟨s0, s1, s2, s3, s4, s5, s6, s7, s8, s9, s10⟩
     go_simp; with_reducible rfl
   rotate_left
   · simp only [Act.put, List.setIfInBounds_toArray, List.set_cons_zero, List.set_cons_succ, i64_w, i32_w]; rfl
   refine pure_ (i := 13) (N := some 27) (v := ?_) (a' := ?_) #[true, true, true, true, true, true, true, true, true, true, true, true, true, true, false, false, false, false, false] rfl rfl (any_of HT_.out (by kernel_rfl)) (fun _ _ _ h => h) (Or.inl ⟨by rfl, ?_⟩) ?_ ?_
   rotate_left
   · intro w'; go_simp; with_reducible rfl
   rotate_left
   · simp only [Act.put, List.setIfInBounds_toArray, List.set_cons_zero, List.set_cons_succ, i64_w, i32_w]; rfl
   refine pure_ (i := 14) (N := some 28) (v := ?_) (a' := ?_) #[true, true, true, true, true, true, true, true, true, true, true, true, true, true, true, false, false, false, false] rfl rfl (any_of HT_.out (by kernel_rfl)) (fun _ _ _ h => h) (Or.inl ⟨by rfl, ?_⟩) ?_ ?_
   rotate_left
   · intro w'; go_simp; with_reducible rfl
   rotate_left
   · simp only [Act.put, List.setIfInBounds_toArray, List.set_cons_zero, List.set_cons_succ, i64_w, i32_w]; rfl
   refine take_ (i := 15) (N := some 29) (v := ?_) (a' := ?_) #[true, true, true, true, true, true, true, true, true, true, true, true, true, true, true, true, false, false, false] rfl rfl (take_ofW HT_.out HW_.out (by kernel_rfl)) (fun _ _ _ h => h) (Or.inl ⟨by rfl, ?_⟩) hHeld ?_ ?_
   rotate_left
   · rintro w' ⟨s0, s1, s2, s3, s4, s5, s6, s7, s8, s9, s10⟩
     go_simp; with_reducible rfl
   rotate_left
   · simp only [Act.put, List.setIfInBounds_toArray, List.set_cons_zero, List.set_cons_succ, i64_w, i32_w]; rfl
   refine one_ (i := 16) (N := some 30) #[true, true, true, true, true, true, true, true, true, true, true, true, true, true, true, true, true, false, false] rfl rfl (one_of HT_.out (by kernel_rfl)) (by decide) (fun K hK => ?_)
   refine goes_ Try.func43 (by kernel_rfl) rfl #[.agg #[.slice (some ad195) l0_0.length c0_0, .int .i64 a0_1, .slice A0_2 l0_2.length c0_2], .int .i64 ((rd_T74 l0_0 x6_1).f1), .int .i64 ((rd_T74 l0_0 x6_1).f2)] (by rfl) rfl rfl (by (try simp only [List.map_toArray, List.map_cons, List.map_nil]); first | done | rfl | (simp only [List.length_drop, List.length_take]; rfl)) ?_
   with_reducible refine (spliceref10_Bag_apart.calls k1 _ _ l0_0 a0_1 _ _ l0_2 ((rd_T74 l0_0 x6_1).f1) ((rd_T74 l0_0 x6_1).f2) true _ ?side1 ?side2 ?side3 ?side4 A7.out).mono ?_
   (case side1 => repeat (first | exact (Kd.C_below HR0_0.out HB.out) | (with_reducible refine Kd.C_alloc ?_ _) | (with_reducible refine Kd.C_drewN ?_ _) | (with_reducible refine Kd.C_drew ?_)))
   (case side2 => exact HC0_0.out)
   (case side3 => repeat (first | exact (Kd.C_below HR0_2.out HB.out) | (with_reducible refine Kd.C_alloc ?_ _) | (with_reducible refine Kd.C_drewN ?_ _) | (with_reducible refine Kd.C_drew ?_)))
   (case side4 => exact HC0_2.out)
   rintro e w11 ⟨rfl, hb⟩
   refine ⟨_, rfl, ?_⟩
   have n0_ := Aside0.mk (Kd.R_below (by (with_reducible repeat (first | apply Kd.R_alloc | apply Kd.R_drewN | apply Kd.R_drew)); exact HO_5.out) hb)
   have n1_ := Aside0.mk (blk_below (g := gb194) (o := .cells #[.slice (some ad195) l0_0.length c0_0, .int .i64 a0_1, .slice A0_2 l0_2.length c0_2] 51 (0, 0)) (by (with_reducible repeat (first | refine blk_drewN ?_ _ | refine blk_drew ?_ | refine blk_alloc ?_ _)); exact BK194.out) hb)
   have n2_ := Aside0.mk (below_step (by repeat (first | (with_reducible first | exact HB.out | apply below_alloc | apply pw_below_drewN | apply below_drew1 | refine below_set ?_ GE194.out) | exact HB.out)) hb)
   clear HO_5; clear BK194; clear HB
   have HO_5 := n0_
   have BK194 := n1_
   have HB := n2_
   clear n0_ n1_ n2_
   (try clear hb)
   (try clear hb2)
   (try clear hk)
   (try clear hi)
   refine hK.out _ _ ⟨(blk_cell BK194.out 0).trans rfl, (blk_cell BK194.out 1).trans rfl, (blk_cell BK194.out 2).trans rfl, ((HB.out.cell (World.block_lt_of_cell? w _ hw195_0)).trans hw195_0), ((HB.out.cell (World.block_lt_of_cell? w _ hw195_1)).trans hw195_1), ((HB.out.cell (World.block_lt_of_cell? w _ hw195_2)).trans hw195_2), ((HB.out.cell (World.block_lt_of_cell? w _ hw195_3)).trans hw195_3), ((HB.out.cell (World.block_lt_of_cell? w _ hw196_0)).trans hw196_0), ((HB.out.cell (World.block_lt_of_cell? w _ hw196_1)).trans hw196_1), ((HB.out.cell (World.block_lt_of_cell? w _ hw196_2)).trans hw196_2), ((HB.out.cell (World.block_lt_of_cell? w _ hw196_3)).trans hw196_3)⟩ (fun hHeld => ?_)
   clear hK K
   refine norm_ (a' := ?_) ?_ ?_
   rotate_left
   · show Act.put _ (some 30) _ = _
     simp only [Act.put, List.setIfInBounds_toArray, List.set_cons_zero, List.set_cons_succ, i64_w, i32_w]; rfl
   refine pure_ (i := 17) (N := some 31) (v := ?_) (a' := ?_) #[true, true, true, true, true, true, true, true, true, true, true, true, true, true, true, true, true, true, false] rfl rfl (any_of HT_.out (by kernel_rfl)) (fun _ _ _ h => h) (Or.inl ⟨by rfl, ?_⟩) ?_ ?_
   rotate_left
   · intro w'; go_simp; with_reducible rfl
   rotate_left
   · simp only [Act.put, List.setIfInBounds_toArray, List.set_cons_zero, List.set_cons_succ, i64_w, i32_w]; rfl
   refine pure_ (i := 18) (N := some 32) (v := ?_) (a' := ?_) #[true, true, true, true, true, true, true, true, true, true, true, true, true, true, true, true, true, true, true] rfl rfl (any_of HT_.out (by kernel_rfl)) (fun _ _ _ h => h) (Or.inl ⟨by rfl, ?_⟩) ?_ ?_
   rotate_left
   · intro w'; go_simp; with_reducible rfl
   rotate_left
   · simp only [Act.put, List.setIfInBounds_toArray, List.set_cons_zero, List.set_cons_succ, i64_w, i32_w]; rfl
   refine done_ (done_of HT_.out (by kernel_rfl)) ?_
   try go_wp2
   go_roundg k1
   case measure => have := HK1.out; omega
   case rel => exact ⟨(x5_1), (wrap64 (x6_1 + 1)), (by first | rfl | (simp; done) | (simp [*]; done)), H', ⟨by have := HK1.out; omega⟩, ⟨by (with_reducible repeat (first | apply Kd.R_alloc | apply Kd.R_drewN | apply Kd.R_drew)); exact HO_5.out⟩, ⟨by (with_reducible repeat (first | refine blk_drewN ?_ _ | refine blk_drew ?_ | refine blk_alloc ?_ _)); exact BK194.out⟩, ⟨by repeat (first | (with_reducible first | exact HB.out | apply below_alloc | apply pw_below_drewN | apply below_drew1 | refine below_set ?_ GE194.out) | exact HB.out)⟩⟩
 replace c8 := Bool.eq_false_iff.mpr c8
 subst c8
 have H1 : (if x5_1.length < 17592186044416 then (spliceref10_Bag_IDs.l0 k1 true (x5_1 ++ [(rd_T74 l0_0 x6_1).f0]) (wrap64 (x6_1 + 1)) l0_0 a0_1 l0_2) else (none)) = some r := by rw [if_neg (show ¬ (false = true) by decide)] at H; exact H
 clear H
 have H := H1
 clear H1
 by_cases c12 : x5_1.length < 17592186044416
 rotate_left
 · rw [if_neg c12] at H; exact absurd H (by simp)
 rw [if_pos c12] at H
 have LMc12 := Aside0.mk c12
 clear c12
 obtain ⟨y199, hy199⟩ : ∃ y_ : List Int, y_ = (x5_1 ++ [(rd_T74 l0_0 x6_1).f0]) := ⟨_, rfl⟩
 replace H : (spliceref10_Bag_IDs.l0 k1 true y199 (wrap64 (x6_1 + 1)) l0_0 a0_1 l0_2) = some r := by first | (rw [hy199]; with_reducible exact H) | (have H2_ := (Option.bind_some _ _).symm.trans H; rw [hy199]; with_reducible exact H2_) | (have H2_ := (Option.bind_some _ _).symm.trans H; with_reducible exact H2_) | with_reducible exact H | (rw [hy199]; exact H) | exact H
 have Ny199 := Aside0.mk hy199
 clear hy199
 have H' := Aside0.mk H
 clear H
 have hcz13_0 : wr.cell? ⟨gb194, 0, none⟩ = some (.slice A0_0 l0_0.length c0_0) := (blk_cell BK194.out 0).trans rfl
 have hcz13_1 : wr.cell? ⟨gb194, 1, none⟩ = some (.int .i64 a0_1) := (blk_cell BK194.out 1).trans rfl
 have hcz13_2 : wr.cell? ⟨gb194, 2, none⟩ = some (.slice A0_2 l0_2.length c0_2) := (blk_cell BK194.out 2).trans rfl
 have hfz13_0 := blk_frozen BK194.out 0
 have hfz13_1 := blk_frozen BK194.out 1
 have hfz13_2 := blk_frozen BK194.out 2
 try go_wp2
 have n0_ := Aside0.mk (Kd.R_drew HO_5.out)
 have n1_ := Aside0.mk (blk_drew BK194.out)
 have n2_ := Aside0.mk (below_drew1 HB.out)
 clear HO_5; clear BK194; clear HB
 have HO_5 := n0_
 have BK194 := n1_
 have HB := n2_
 clear n0_ n1_ n2_
 have p195 : 0 ≤ (x6_1 : Int) := of_decide_eq_true (by first | (with_reducible assumption) | assumption)
 have q195 : x6_1 < (l0_0.length : Int) := of_decide_eq_true (by first | (with_reducible assumption) | assumption)
 obtain ⟨ad195, e195, hx195_0, hx195_1, hx195_2, hx195_3⟩ := at_T74 HR0_0.out x6_1 p195 q195
 have hw195_3 := hx195_3
 have hw195_2 := hx195_2
 have hw195_1 := hx195_1
 have hw195_0 := hx195_0
 cases e195
 replace hx195_0 := (HB.out.cell (World.block_lt_of_cell? w _ hx195_0)).trans hx195_0
 replace hx195_1 := (HB.out.cell (World.block_lt_of_cell? w _ hx195_1)).trans hx195_1
 replace hx195_2 := (HB.out.cell (World.block_lt_of_cell? w _ hx195_2)).trans hx195_2
 replace hx195_3 := (HB.out.cell (World.block_lt_of_cell? w _ hx195_3)).trans hx195_3
 replace p195 := eq_true p195
 replace q195 := eq_true q195
 have p196 : 0 ≤ (x6_1 : Int) := of_decide_eq_true (by first | (with_reducible assumption) | assumption)
 have q196 : x6_1 < (l0_0.length : Int) := of_decide_eq_true (by first | (with_reducible assumption) | assumption)
 obtain ⟨ad196, e196, hx196_0, hx196_1, hx196_2, hx196_3⟩ := at_T74 HR0_0.out x6_1 p196 q196
 have hw196_3 := hx196_3
 have hw196_2 := hx196_2
 have hw196_1 := hx196_1
 have hw196_0 := hx196_0
 obtain rfl : ad195 = ad196 := (by injection e196)
 replace hx196_0 := (HB.out.cell (World.block_lt_of_cell? w _ hx196_0)).trans hx196_0
 replace hx196_1 := (HB.out.cell (World.block_lt_of_cell? w _ hx196_1)).trans hx196_1
 replace hx196_2 := (HB.out.cell (World.block_lt_of_cell? w _ hx196_2)).trans hx196_2
 replace hx196_3 := (HB.out.cell (World.block_lt_of_cell? w _ hx196_3)).trans hx196_3
 replace p196 := eq_true p196
 replace q196 := eq_true q196
 refine start_ (n := 19) (S := fun w' => w'.cell? ⟨gb194, 0, none⟩ = some (.slice (some ad195) l0_0.length c0_0) ∧ w'.cell? ⟨gb194, 1, none⟩ = some (.int .i64 a0_1) ∧ w'.cell? ⟨gb194, 2, none⟩ = some (.slice A0_2 l0_2.length c0_2) ∧ w'.cell? (ad195.add ((x6_1).toNat * 4)) = some (.int .i64 ((rd_T74 l0_0 x6_1).f0)) ∧ w'.cell? ⟨(ad195.add ((x6_1).toNat * 4)).block, (ad195.add ((x6_1).toNat * 4)).off + 1, none⟩ = some (.int .i64 ((rd_T74 l0_0 x6_1).f1)) ∧ w'.cell? ⟨(ad195.add ((x6_1).toNat * 4)).block, (ad195.add ((x6_1).toNat * 4)).off + 2, none⟩ = some (.int .i64 ((rd_T74 l0_0 x6_1).f2)) ∧ w'.cell? ⟨(ad195.add ((x6_1).toNat * 4)).block, (ad195.add ((x6_1).toNat * 4)).off + 3, none⟩ = some (.string ((rd_T74 l0_0 x6_1).f3)) ∧ w'.cell? (ad195.add ((x6_1).toNat * 4)) = some (.int .i64 ((rd_T74 l0_0 x6_1).f0)) ∧ w'.cell? ⟨(ad195.add ((x6_1).toNat * 4)).block, (ad195.add ((x6_1).toNat * 4)).off + 1, none⟩ = some (.int .i64 ((rd_T74 l0_0 x6_1).f1)) ∧ w'.cell? ⟨(ad195.add ((x6_1).toNat * 4)).block, (ad195.add ((x6_1).toNat * 4)).off + 2, none⟩ = some (.int .i64 ((rd_T74 l0_0 x6_1).f2)) ∧ w'.cell? ⟨(ad195.add ((x6_1).toNat * 4)).block, (ad195.add ((x6_1).toNat * 4)).off + 3, none⟩ = some (.string ((rd_T74 l0_0 x6_1).f3))) (ds := []) #[false, false, false, false, false, false, false, false, false, false, false, false, false, false, false, false, false, false, false] (by kernel_rfl) rfl rfl ⟨(blk_cell BK194.out 0).trans rfl, (blk_cell BK194.out 1).trans rfl, (blk_cell BK194.out 2).trans rfl, ((HB.out.cell (World.block_lt_of_cell? w _ hw195_0)).trans hw195_0), ((HB.out.cell (World.block_lt_of_cell? w _ hw195_1)).trans hw195_1), ((HB.out.cell (World.block_lt_of_cell? w _ hw195_2)).trans hw195_2), ((HB.out.cell (World.block_lt_of_cell? w _ hw195_3)).trans hw195_3), ((HB.out.cell (World.block_lt_of_cell? w _ hw196_0)).trans hw196_0), ((HB.out.cell (World.block_lt_of_cell? w _ hw196_1)).trans hw196_1), ((HB.out.cell (World.block_lt_of_cell? w _ hw196_2)).trans hw196_2), ((HB.out.cell (World.block_lt_of_cell? w _ hw196_3)).trans hw196_3)⟩ (fun hHeld => ?_); refine with_tabW spliceref10_Bag_IDs.tab5 spliceref10_Bag_IDs.bits5 (fun HT_ HW_ => ?_)
 generalize wr.drew = w14 at HO_5 BK194 HB hx195_0 hx195_1 hx195_2 hx195_3 hx196_0 hx196_1 hx196_2 hx196_3 hHeld ⊢
 refine pure_ (i := 0) (N := some 14) (v := ?_) (a' := ?_) #[true, false, false, false, false, false, false, false, false, false, false, false, false, false, false, false, false, false, false] rfl rfl (any_of HT_.out (by kernel_rfl)) (fun _ _ _ h => h) (Or.inl ⟨by rfl, ?_⟩) ?_ ?_
 rotate_left
 · intro w'; go_simp; with_reducible rfl
 rotate_left
 · simp only [Act.put, List.setIfInBounds_toArray, List.set_cons_zero, List.set_cons_succ, i64_w, i32_w]; rfl
 refine pure_ (i := 1) (N := some 15) (v := ?_) (a' := ?_) #[true, true, false, false, false, false, false, false, false, false, false, false, false, false, false, false, false, false, false] rfl rfl (any_of HT_.out (by kernel_rfl)) (fun _ _ _ h => h) (Or.inl ⟨by rfl, ?_⟩) ?_ ?_
 rotate_left
 · intro w'; go_simp; with_reducible rfl
 rotate_left
 · simp only [Act.put, List.setIfInBounds_toArray, List.set_cons_zero, List.set_cons_succ, i64_w, i32_w]; rfl
 refine pure_ (i := 2) (N := some 16) (v := ?_) (a' := ?_) #[true, true, true, false, false, false, false, false, false, false, false, false, false, false, false, false, false, false, false] rfl rfl (any_of HT_.out (by kernel_rfl)) (fun _ _ _ h => h) (Or.inl ⟨by rfl, ?_⟩) ?_ ?_
 rotate_left
 · intro w'; go_simp; with_reducible rfl
 rotate_left
 · simp only [Act.put, List.setIfInBounds_toArray, List.set_cons_zero, List.set_cons_succ, i64_w, i32_w]; rfl
 refine pure_ (i := 4) (N := some 18) (v := ?_) (a' := ?_) #[true, true, true, false, true, false, false, false, false, false, false, false, false, false, false, false, false, false, false] rfl rfl (any_of HT_.out (by kernel_rfl)) (fun _ _ _ h => h) (Or.inl ⟨by rfl, ?_⟩) ?_ ?_
 rotate_left
 · intro w'; go_simp; with_reducible rfl
 rotate_left
 · simp only [Act.put, List.setIfInBounds_toArray, List.set_cons_zero, List.set_cons_succ, i64_w, i32_w]; rfl
 refine pure_ (i := 6) (N := some 20) (v := ?_) (a' := ?_) #[true, true, true, false, true, false, true, false, false, false, false, false, false, false, false, false, false, false, false] rfl rfl (any_of HT_.out (by kernel_rfl)) (fun _ _ _ h => h) (Or.inl ⟨by rfl, ?_⟩) ?_ ?_
 rotate_left
 · intro w'; go_simp; with_reducible rfl
 rotate_left
 · simp only [Act.put, List.setIfInBounds_toArray, List.set_cons_zero, List.set_cons_succ, i64_w, i32_w]; rfl
 refine pure_ (i := 10) (N := some 24) (v := ?_) (a' := ?_) #[true, true, true, false, true, false, true, false, false, false, true, false, false, false, false, false, false, false, false] rfl rfl (any_of HT_.out (by kernel_rfl)) (fun _ _ _ h => h) (Or.inl ⟨by rfl, ?_⟩) ?_ ?_
 rotate_left
 · intro w'; go_simp; with_reducible rfl
 rotate_left
 · simp only [Act.put, List.setIfInBounds_toArray, List.set_cons_zero, List.set_cons_succ, i64_w, i32_w]; rfl
 refine pure_ (i := 12) (N := some 26) (v := ?_) (a' := ?_) #[true, true, true, false, true, false, true, false, false, false, true, false, true, false, false, false, false, false, false] rfl rfl (any_of HT_.out (by kernel_rfl)) (fun _ _ _ h => h) (Or.inl ⟨by rfl, ?_⟩) ?_ ?_
 rotate_left
 · intro w'; go_simp; with_reducible rfl
 rotate_left
 · simp only [Act.put, List.setIfInBounds_toArray, List.set_cons_zero, List.set_cons_succ, i64_w, i32_w]; rfl
 refine take_ (i := 3) (N := some 17) (v := ?_) (a' := ?_) #[true, true, true, true, true, false, true, false, false, false, true, false, true, false, false, false, false, false, false] rfl rfl (take_ofW HT_.out HW_.out (by kernel_rfl)) (fun _ _ _ h => h) (Or.inl ⟨by rfl, ?_⟩) hHeld ?_ ?_
 rotate_left
 · rintro w' ⟨s0, s1, s2, s3, s4, s5, s6, s7, s8, s9, s10⟩
   go_simp; with_reducible rfl
 rotate_left
 · simp only [Act.put, List.setIfInBounds_toArray, List.set_cons_zero, List.set_cons_succ, i64_w, i32_w]; rfl
 refine take_ (i := 5) (N := some 19) (v := ?_) (a' := ?_) #[true, true, true, true, true, true, true, false, false, false, true, false, true, false, false, false, false, false, false] rfl rfl (take_ofW HT_.out HW_.out (by kernel_rfl)) (fun _ _ _ h => h) (Or.inl ⟨by rfl, ?_⟩) hHeld ?_ ?_
 rotate_left
 · rintro w' ⟨s0, s1, s2, s3, s4, s5, s6, s7, s8, s9, s10⟩
   go_simp; with_reducible rfl
 rotate_left
 · simp only [Act.put, List.setIfInBounds_toArray, List.set_cons_zero, List.set_cons_succ, i64_w, i32_w]; rfl
 refine pure_ (i := 7) (N := some 21) (v := ?_) (a' := ?_) #[true, true, true, true, true, true, true, true, false, false, true, false, true, false, false, false, false, false, false] rfl rfl (any_of HT_.out (by kernel_rfl)) (fun _ _ _ h => h) (Or.inl ⟨by rfl, ?_⟩) ?_ ?_
 rotate_left
 · intro w'; go_simp; with_reducible rfl
 rotate_left
 · simp only [Act.put, List.setIfInBounds_toArray, List.set_cons_zero, List.set_cons_succ, i64_w, i32_w]; rfl
 refine pure_ (i := 8) (N := some 22) (v := ?_) (a' := ?_) #[true, true, true, true, true, true, true, true, true, false, true, false, true, false, false, false, false, false, false] rfl rfl (any_of HT_.out (by kernel_rfl)) (fun _ _ _ h => h) (Or.inl ⟨by rfl, ?_⟩) ?_ ?_
 rotate_left
 · intro w'; go_simp; with_reducible rfl
 rotate_left
 · simp only [Act.put, List.setIfInBounds_toArray, List.set_cons_zero, List.set_cons_succ, i64_w, i32_w]; rfl
 refine take_ (i := 9) (N := some 23) (v := ?_) (a' := ?_) #[true, true, true, true, true, true, true, true, true, true, true, false, true, false, false, false, false, false, false] rfl rfl (take_ofW HT_.out HW_.out (by kernel_rfl)) (fun _ _ _ h => h) (Or.inl ⟨by rfl, ?_⟩) hHeld ?_ ?_
 rotate_left
 · rintro w' ⟨s0, s1, s2, s3, s4, s5, s6, s7, s8, s9, s10⟩
   go_simp; with_reducible rfl
 rotate_left
 · simp only [Act.put, List.setIfInBounds_toArray, List.set_cons_zero, List.set_cons_succ, i64_w, i32_w]; rfl
 refine take_ (i := 11) (N := some 25) (v := ?_) (a' := ?_) #[true, true, true, true, true, true, true, true, true, true, true, true, true, false, false, false, false, false, false] rfl rfl (take_ofW HT_.out HW_.out (by kernel_rfl)) (fun _ _ _ h => h) (Or.inl ⟨by rfl, ?_⟩) hHeld ?_ ?_
 rotate_left
 · rintro w' ⟨s0, s1, s2, s3, s4, s5, s6, s7, s8, s9, s10⟩
   go_simp; with_reducible rfl
 rotate_left
 · simp only [Act.put, List.setIfInBounds_toArray, List.set_cons_zero, List.set_cons_succ, i64_w, i32_w]; rfl
 refine pure_ (i := 13) (N := some 27) (v := ?_) (a' := ?_) #[true, true, true, true, true, true, true, true, true, true, true, true, true, true, false, false, false, false, false] rfl rfl (any_of HT_.out (by kernel_rfl)) (fun _ _ _ h => h) (Or.inl ⟨by rfl, ?_⟩) ?_ ?_
 rotate_left
 · intro w'; go_simp; with_reducible rfl
 rotate_left
 · simp only [Act.put, List.setIfInBounds_toArray, List.set_cons_zero, List.set_cons_succ, i64_w, i32_w]; rfl
 refine pure_ (i := 14) (N := some 28) (v := ?_) (a' := ?_) #[true, true, true, true, true, true, true, true, true, true, true, true, true, true, true, false, false, false, false] rfl rfl (any_of HT_.out (by kernel_rfl)) (fun _ _ _ h => h) (Or.inl ⟨by rfl, ?_⟩) ?_ ?_
 rotate_left
 · intro w'; go_simp; with_reducible rfl
 rotate_left
 · simp only [Act.put, List.setIfInBounds_toArray, List.set_cons_zero, List.set_cons_succ, i64_w, i32_w]; rfl
 refine take_ (i := 15) (N := some 29) (v := ?_) (a' := ?_) #[true, true, true, true, true, true, true, true, true, true, true, true, true, true, true, true, false, false, false] rfl rfl (take_ofW HT_.out HW_.out (by kernel_rfl)) (fun _ _ _ h => h) (Or.inl ⟨by rfl, ?_⟩) hHeld ?_ ?_
 rotate_left
 · rintro w' ⟨s0, s1, s2, s3, s4, s5, s6, s7, s8, s9, s10⟩
   go_simp; with_reducible rfl
 rotate_left
 · simp only [Act.put, List.setIfInBounds_toArray, List.set_cons_zero, List.set_cons_succ, i64_w, i32_w]; rfl
 refine one_ (i := 16) (N := some 30) #[true, true, true, true, true, true, true, true, true, true, true, true, true, true, true, true, true, false, false] rfl rfl (one_of HT_.out (by kernel_rfl)) (by decide) (fun K hK => ?_)
 refine goes_ Try.func43 (by kernel_rfl) rfl #[.agg #[.slice (some ad195) l0_0.length c0_0, .int .i64 a0_1, .slice A0_2 l0_2.length c0_2], .int .i64 ((rd_T74 l0_0 x6_1).f1), .int .i64 ((rd_T74 l0_0 x6_1).f2)] (by rfl) rfl rfl (by (try simp only [List.map_toArray, List.map_cons, List.map_nil]); first | done | rfl | (simp only [List.length_drop, List.length_take]; rfl)) ?_
 with_reducible refine (spliceref10_Bag_apart.calls k1 _ _ l0_0 a0_1 _ _ l0_2 ((rd_T74 l0_0 x6_1).f1) ((rd_T74 l0_0 x6_1).f2) false _ ?side1 ?side2 ?side3 ?side4 A7.out).mono ?_
 (case side1 => repeat (first | exact (Kd.C_below HR0_0.out HB.out) | (with_reducible refine Kd.C_alloc ?_ _) | (with_reducible refine Kd.C_drewN ?_ _) | (with_reducible refine Kd.C_drew ?_)))
 (case side2 => exact HC0_0.out)
 (case side3 => repeat (first | exact (Kd.C_below HR0_2.out HB.out) | (with_reducible refine Kd.C_alloc ?_ _) | (with_reducible refine Kd.C_drewN ?_ _) | (with_reducible refine Kd.C_drew ?_)))
 (case side4 => exact HC0_2.out)
 rintro e w15 ⟨rfl, hb⟩
 refine ⟨_, rfl, ?_⟩
 have n0_ := Aside0.mk (Kd.R_below (by (with_reducible repeat (first | apply Kd.R_alloc | apply Kd.R_drewN | apply Kd.R_drew)); exact HO_5.out) hb)
 have n1_ := Aside0.mk (blk_below (g := gb194) (o := .cells #[.slice (some ad195) l0_0.length c0_0, .int .i64 a0_1, .slice A0_2 l0_2.length c0_2] 51 (0, 0)) (by (with_reducible repeat (first | refine blk_drewN ?_ _ | refine blk_drew ?_ | refine blk_alloc ?_ _)); exact BK194.out) hb)
 have n2_ := Aside0.mk (below_step (by repeat (first | (with_reducible first | exact HB.out | apply below_alloc | apply pw_below_drewN | apply below_drew1 | refine below_set ?_ GE194.out) | exact HB.out)) hb)
 clear HO_5; clear BK194; clear HB
 have HO_5 := n0_
 have BK194 := n1_
 have HB := n2_
 clear n0_ n1_ n2_
 (try clear hb)
 (try clear hb2)
 (try clear hk)
 (try clear hi)
 refine hK.out _ _ ⟨(blk_cell BK194.out 0).trans rfl, (blk_cell BK194.out 1).trans rfl, (blk_cell BK194.out 2).trans rfl, ((HB.out.cell (World.block_lt_of_cell? w _ hw195_0)).trans hw195_0), ((HB.out.cell (World.block_lt_of_cell? w _ hw195_1)).trans hw195_1), ((HB.out.cell (World.block_lt_of_cell? w _ hw195_2)).trans hw195_2), ((HB.out.cell (World.block_lt_of_cell? w _ hw195_3)).trans hw195_3), ((HB.out.cell (World.block_lt_of_cell? w _ hw196_0)).trans hw196_0), ((HB.out.cell (World.block_lt_of_cell? w _ hw196_1)).trans hw196_1), ((HB.out.cell (World.block_lt_of_cell? w _ hw196_2)).trans hw196_2), ((HB.out.cell (World.block_lt_of_cell? w _ hw196_3)).trans hw196_3)⟩ (fun hHeld => ?_)
 clear hK K
 refine norm_ (a' := ?_) ?_ ?_
 rotate_left
 · show Act.put _ (some 30) _ = _
   simp only [Act.put, List.setIfInBounds_toArray, List.set_cons_zero, List.set_cons_succ, i64_w, i32_w]; rfl
 refine pure_ (i := 17) (N := some 31) (v := ?_) (a' := ?_) #[true, true, true, true, true, true, true, true, true, true, true, true, true, true, true, true, true, true, false] rfl rfl (any_of HT_.out (by kernel_rfl)) (fun _ _ _ h => h) (Or.inl ⟨by rfl, ?_⟩) ?_ ?_
 rotate_left
 · intro w'; go_simp; with_reducible rfl
 rotate_left
 · simp only [Act.put, List.setIfInBounds_toArray, List.set_cons_zero, List.set_cons_succ, i64_w, i32_w]; rfl
 refine pure_ (i := 18) (N := some 32) (v := ?_) (a' := ?_) #[true, true, true, true, true, true, true, true, true, true, true, true, true, true, true, true, true, true, true] rfl rfl (any_of HT_.out (by kernel_rfl)) (fun _ _ _ h => h) (Or.inl ⟨by rfl, ?_⟩) ?_ ?_
 rotate_left
 · intro w'; go_simp; with_reducible rfl
 rotate_left
 · simp only [Act.put, List.setIfInBounds_toArray, List.set_cons_zero, List.set_cons_succ, i64_w, i32_w]; rfl
 refine done_ (done_of HT_.out (by kernel_rfl)) ?_
 have hcz16_0 : w15.cell? ⟨gb194, 0, none⟩ = some (.slice (some ad195) l0_0.length c0_0) := (blk_cell BK194.out 0).trans rfl
 have hcz16_1 : w15.cell? ⟨gb194, 1, none⟩ = some (.int .i64 a0_1) := (blk_cell BK194.out 1).trans rfl
 have hcz16_2 : w15.cell? ⟨gb194, 2, none⟩ = some (.slice A0_2 l0_2.length c0_2) := (blk_cell BK194.out 2).trans rfl
 have hfz16_0 := blk_frozen BK194.out 0
 have hfz16_1 := blk_frozen BK194.out 1
 have hfz16_2 := blk_frozen BK194.out 2
 have p198 : 0 ≤ (x6_1 : Int) := of_decide_eq_true (by first | (with_reducible assumption) | assumption)
 have q198 : x6_1 < (l0_0.length : Int) := of_decide_eq_true (by first | (with_reducible assumption) | assumption)
 obtain ⟨ad198, e198, hx198_0, hx198_1, hx198_2, hx198_3⟩ := at_T74 HR0_0.out x6_1 p198 q198
 obtain rfl : ad195 = ad198 := (by injection e198)
 replace hx198_0 := (HB.out.cell (World.block_lt_of_cell? w _ hx198_0)).trans hx198_0
 replace hx198_1 := (HB.out.cell (World.block_lt_of_cell? w _ hx198_1)).trans hx198_1
 replace hx198_2 := (HB.out.cell (World.block_lt_of_cell? w _ hx198_2)).trans hx198_2
 replace hx198_3 := (HB.out.cell (World.block_lt_of_cell? w _ hx198_3)).trans hx198_3
 replace p198 := eq_true p198
 replace q198 := eq_true q198
 try go_wp2_with (first | ((with_reducible refine gate_builtin (b := .append) (xs := #[.tmp 33, .tmp 40]) rfl ?_); at_builtin; refine Kd.R_append (Kd.int .i64) (w0 := w) w.heap.size rfl (.tmp 33) (.tmp 40) 27 3 (.int .i64 0) 8 rfl Try.underlying27 info3 rfl (by decide) (by omega) u5 x5_1 ((rd_T74 l0_0 x6_1).f0) [.int .i64 ((rd_T74 l0_0 x6_1).f0)] (fun _ => True) (fun _ => False) rfl rfl ?aP (fun _ hk => hk.elim) ?aF ?aO ?aB ?aS ?aL ?_; (case aP => exact rfl); (case aB => exact (by repeat (first | (with_reducible first | exact HB.out | apply below_alloc | apply pw_below_drewN | apply below_drew1 | refine below_set ?_ GE194.out) | exact HB.out))); (case aF => exact (fun _ _ => trivial)); (case aO => exact (by (with_reducible repeat (first | apply Kd.R_alloc | apply Kd.R_drewN | apply Kd.R_drew)); exact HO_5.out)); (case aS => exact (below_size (by repeat (first | (with_reducible first | exact HB.out | apply below_alloc | apply pw_below_drewN | apply below_drew1 | refine below_set ?_ GE194.out) | exact HB.out)))); (case aL => have := LMc12.out; omega); intro v200 w17 ho hb hg hat; rw [← Ny199.out] at ho; have n0_ := Aside0.mk (blk_grown (g := gb194) (o := .cells #[.slice (some ad195) l0_0.length c0_0, .int .i64 a0_1, .slice A0_2 l0_2.length c0_2] 51 (0, 0)) (by (with_reducible repeat (first | refine blk_drewN ?_ _ | refine blk_drew ?_ | refine blk_alloc ?_ _)); exact BK194.out) hg (Kd.R_ne HO_5.out BK194.out (by decide))); have n1_ := Aside0.mk (hb); have n2_ := Aside0.mk (ho); clear BK194; clear HB; clear HO_5; have BK194 := n0_; have HB := n1_; have HO201 := n2_; clear n0_ n1_ n2_; clear ho hb hg hat))
 go_roundg k1
 case measure => have := HK1.out; omega
 case rel => exact ⟨(y199), (wrap64 (x6_1 + 1)), (by first | rfl | (simp; done) | (simp [*]; done)), H', ⟨by have := HK1.out; omega⟩, ⟨by (with_reducible repeat (first | apply Kd.R_alloc | apply Kd.R_drewN | apply Kd.R_drew)); exact HO201.out⟩, ⟨by (with_reducible repeat (first | refine blk_drewN ?_ _ | refine blk_drew ?_ | refine blk_alloc ?_ _)); exact BK194.out⟩, ⟨by repeat (first | (with_reducible first | exact HB.out | apply below_alloc | apply pw_below_drewN | apply below_drew1 | refine below_set ?_ GE194.out) | exact HB.out)⟩⟩

/-! ### variables that lie in memory, one block each -/
abbrev BxL := List (Nat × Array Value × TypeId)
structure Bx (w W : World) (l : BxL) : Prop where
  at_ : ∀ e ∈ l, W.heap[e.1]? = some (.cells e.2.1 e.2.2 (0, 0)) ∧ w.heap.size ≤ e.1
  nd : (l.map (fun e => e.1)).Nodup
  bel : Below w.heap.size w W
theorem Bx.start (w : World) : Bx w w [] := ⟨fun _ h => by simp at h, by simp, Below.refl _ _⟩
theorem Bx.get {w W : World} {l : BxL} (h : Bx w W l) (i : Nat) {e : Nat × Array Value × TypeId} (hi : l[i]? = some e) : W.heap[e.1]? = some (.cells e.2.1 e.2.2 (0, 0)) := (h.at_ e (List.mem_of_getElem? hi)).1
theorem Bx.lt {w W : World} {l : BxL} (h : Bx w W l) (e : Nat × Array Value × TypeId) (he : e ∈ l) : e.1 < W.heap.size := blk_lt (h.at_ e he).1
theorem Bx.below {w W W' : World} {l : BxL} (h : Bx w W l) (hb : Below W.heap.size W W') : Bx w W' l := ⟨fun e he => ⟨blk_below (h.at_ e he).1 hb, (h.at_ e he).2⟩, h.nd, h.bel.trans (hb.mono h.bel.size)⟩
theorem Bx.pushed {w W W' : World} {l : BxL} (h : Bx w W l) {g : Nat} {cs : Array Value} {t : TypeId} (hg : g = W.heap.size) (hx : W'.heap[g]? = some (.cells cs t (0, 0))) (hb : Below W.heap.size W W') : Bx w W' (l ++ [(g, cs, t)]) := by
  refine ⟨fun e he => ?_, ?_, h.bel.trans (hb.mono h.bel.size)⟩
  · rcases List.mem_append.1 he with he | he
    · exact (h.below hb).at_ e he
    · simp only [List.mem_singleton] at he
      subst he
      exact ⟨hx, by rw [hg]; exact h.bel.size⟩
  · rw [List.map_append, List.nodup_append]
    refine ⟨h.nd, by simp, fun a ha b hb2 => ?_⟩
    simp only [List.map_cons, List.map_nil, List.mem_singleton] at hb2
    obtain ⟨e, he, rfl⟩ := List.mem_map.1 ha
    have := h.lt e he
    omega
theorem Bx.push {w W : World} {l : BxL} (h : Bx w W l) (cs : Array Value) (t : TypeId) : Bx w (W.alloc (.cells cs t)) (l ++ [(W.heap.size, cs, t)]) := h.pushed rfl (blk_new W _) (below_alloc (Below.refl _ _) _)
theorem Bx.ge {w W : World} {l : BxL} (h : Bx w W l) (i : Nat) {e : Nat × Array Value × TypeId} (hi : l[i]? = some e) : w.heap.size ≤ e.1 := (h.at_ e (List.mem_of_getElem? hi)).2
theorem Bx.set {w W : World} {l : BxL} (h : Bx w W l) (i j : Nat) (v : Value) {g : Nat} {cs : Array Value} {t : TypeId} (hi : l[i]? = some (g, cs, t)) : Bx w (W.setCell ⟨g, j, none⟩ v) (l.set i (g, cs.setIfInBounds j v, t)) := by
  obtain ⟨hil, hie⟩ := List.getElem?_eq_some_iff.1 hi
  have hmap : (l.set i (g, cs.setIfInBounds j v, t)).map (fun e => e.1) = l.map (fun e => e.1) := by
    rw [List.map_set]
    refine List.ext_getElem? (fun n => ?_)
    rw [List.getElem?_set]
    by_cases e : i = n
    · subst e
      simp [hil, hie]
    · simp [e]
  refine ⟨fun e he => ?_, hmap ▸ h.nd, below_set h.bel (h.ge i (e := (g, cs, t)) hi)⟩
  obtain ⟨n, hn⟩ := List.mem_iff_getElem?.1 he
  rw [List.getElem?_set] at hn
  by_cases e1 : i = n
  · subst e1
    simp only [hil, if_true] at hn
    injection hn with hn
    subst hn
    exact ⟨blk_put (h.get i (e := (g, cs, t)) hi) j v rfl, h.ge i (e := (g, cs, t)) hi⟩
  · rw [if_neg e1] at hn
    have hne : e.1 ≠ g := by
      intro e2
      obtain ⟨hnl, hne⟩ := List.getElem?_eq_some_iff.1 hn
      have hp := List.pairwise_iff_getElem.1 h.nd
      rcases Nat.lt_or_gt_of_ne e1 with hlt | hlt
      · exact hp i n (by simpa using hil) (by simpa using hnl) hlt (by simp [hie, hne, e2])
      · exact hp n i (by simpa using hnl) (by simpa using hil) hlt (by simp [hie, hne, e2])
    exact ⟨blk_far (p := ⟨g, j, none⟩) (h.at_ e (List.mem_of_getElem? hn)).1 hne v, (h.at_ e (List.mem_of_getElem? hn)).2⟩
theorem Bx.take {w W : World} {l : BxL} (h : Bx w W l) (n : Nat) : Bx w W (l.take n) :=
  ⟨fun e he => h.at_ e (List.mem_of_mem_take he), by rw [List.map_take]; exact h.nd.sublist (List.take_sublist _ _), h.bel⟩
/-- none of these blocks -/
def Off (ns : List Nat) (k : Nat) : Prop := ∀ n ∈ ns, k ≠ n
theorem Bx.fresh {w W : World} {l : BxL} (h : Bx w W l) {ns : List Nat} (hn : ns = l.map (fun e => e.1)) : ∀ k, W.heap.size ≤ k → Off ns k := fun k hk n hm => by
  subst hn
  obtain ⟨e, he, rfl⟩ := List.mem_map.1 hm
  have := h.lt e he
  omega
section
variable {α : Type} {d : Kd α} {e base : Nat} {W W' w : World} {ns : List Nat} {v : Value} {xs : List α} {ok : Nat → Prop}
theorem R_setB (h : d.R e W base (Off ns) v xs) {g : Nat} (hg : g ∈ ns) (j : Nat) (u : Value) : d.R e (W.setCell ⟨g, j, none⟩ u) base (Off ns) v xs := Kd.R_far (p := ⟨g, j, none⟩) h (fun _ hk => hk g hg) u
theorem R_pushB (h : d.R e W base (Off ns) v xs) {g : Nat} (hg : g = W.heap.size) (hb : Below W.heap.size W W') : d.R e W' base (Off (ns ++ [g])) v xs :=
  Kd.R_below (Kd.R_mono (Kd.R_bound h) (fun k hk n hn => by
    rcases List.mem_append.1 hn with hn | hn
    · exact hk.1 n hn
    · simp only [List.mem_singleton] at hn
      have := hk.2.2.1
      omega)) hb
theorem R_newB {l : BxL} (HB : Bx w W l) (hn : ns = l.map (fun e => e.1)) (h : d.R e W' W.heap.size ok v xs) : d.R e W' w.heap.size (Off ns) v xs :=
  Kd.R_lower (Kd.R_mono (Kd.R_bound h) (fun k hk => HB.fresh hn k hk.2.1)) HB.bel.size
theorem R_offB (h : d.R e W base (Off ns) v xs) (ns' : List Nat) (hs : ∀ n ∈ ns', n ∈ ns) : d.R e W base (Off ns') v xs := Kd.R_mono h (fun _ hk n hn => hk n (hs n hn))
theorem Bx.grown {l : BxL} (HB : Bx w W l) (hn : ns = l.map (fun e => e.1)) (hr : ∀ k, v.ownBlock = some k → Off ns k) (hg : W.grownBy W' v.ownBlock) (hb : Below w.heap.size w W') : Bx w W' l := by
  refine ⟨fun e he => ⟨blk_grown (HB.at_ e he).1 hg (fun q => ?_), (HB.at_ e he).2⟩, HB.nd, hb⟩
  exact hr e.1 q.symm e.1 (by rw [hn]; exact List.mem_map.2 ⟨e, he, rfl⟩) rfl
theorem Bx.grown0 {l : BxL} (HB : Bx w W l) (hg : W.grownBy W' none) (hb : Below w.heap.size w W') : Bx w W' l :=
  ⟨fun e he => ⟨blk_grown (HB.at_ e he).1 hg (fun q => by cases q), (HB.at_ e he).2⟩, HB.nd, hb⟩
theorem R_apart (h : d.R e W base (Off ns) v xs) {g : Nat} (hg : W.heap.size ≤ g) (hgr : W.grownBy W' none) : d.R e W' base (Off (ns ++ [g])) v xs :=
  Kd.R_mono (Kd.R_step (Kd.R_bound h) (fun k _ hk => hgr.block k hk (fun q => by cases q))) (fun k hk n hn => by
    rcases List.mem_append.1 hn with hn | hn
    · exact hk.1 n hn
    · simp only [List.mem_singleton] at hn
      have := hk.2.2.1
      omega)
end
theorem alloc_size (w : World) (o : Obj) : (w.alloc o).heap.size = w.heap.size + 1 := by simp

section
open Go.Maps Go.WideMaps
set_option maxRecDepth 100000 in
theorem laidP : laidOutB Try.prog = true := by kernel_rfl
set_option maxRecDepth 100000 in
theorem rowPair : (65 : TypeId) < Try.prog.types.size := of_decide_eq_true (by kernel_rfl)
theorem widePair : (match Try.prog.underlying 65 with | some (.array _ _) | some (.struct _) => true | _ => false) = true := by rw [Try.underlying65]
theorem keyPair : Try.prog.keyTypeAt 2 65 = true := by kernel_rfl
set_option maxRecDepth 100000 in
theorem pairKeyed : Keyed Try.prog 65 := Keyed.of_law (deep_law_laid laidP (m := 2) (by omega) rowPair keyPair widePair)
def pairV (x y : Int) : Value := .agg #[.int .i64 x, .int .i64 y]
theorem cellsPair : Try.prog.cellsOf 65 = 2 := by kernel_rfl
theorem cellsI : Try.prog.cellsOf 3 = 1 := by kernel_rfl
set_option maxRecDepth 100000 in
theorem kt : Try.prog.keyType 65 = true := by kernel_rfl
theorem pairFormed (x y : Int) : (pairV x y).formed Try.prog 65 = true := by simp [pairV, Value.formed, Try.underlying65, cellsPair]
theorem keyLits_int (d : Nat) (x : Int) (hx : (Lit.int .i64 x).wf = true) : Try.prog.keyLits (d + 1) 3 [.int .i64 x] = some [.int .i64 x] := by
  unfold Program.keyLits
  rw [Try.underlying3]
  simp [hx]
theorem pair_key (x y : Int) (hx : (Lit.int .i64 x).wf = true) (hy : (Lit.int .i64 y).wf = true) : ∃ s, keyOf Try.prog 65 (pairV x y) = some s := by
  have hs : ∃ d, Try.prog.types.size = d + 1 := ⟨Try.prog.types.size - 1, by have h : (65 : Nat) < Try.prog.types.size := rowPair; omega⟩
  obtain ⟨d, hd⟩ := hs
  unfold keyOf
  rw [Try.underlying65]
  simp only [kt, pairFormed, Bool.and_self, if_true]
  rw [hd]
  unfold Program.keyLits
  rw [Try.underlying65]
  simp [pairV, Value.cells, cellsPair, cellsI, keyLits_int d x hx, keyLits_int d y hy]
end

/-! ### the bag: its state, read off the memory -/
abbrev DW := DataW Unit
structure Ml where
  id : Int
  fr : Int
  too : Int
  t : ByteArray
def mailV (m : Ml) : Value := .agg #[.int .i64 m.id, .int .i64 m.fr, .int .i64 m.too, .string m.t]
def noMail : Ml := ⟨0, 0, 0, ⟨#[]⟩⟩
def mailD (m : Ml) : DW := .agg [.lit (.int .i64 m.id), .lit (.int .i64 m.fr), .lit (.int .i64 m.too), .lit (.string m.t.data.toList)]
theorem mailV_inj {a b : Ml} (h : mailV a = mailV b) : a = b := by
  obtain ⟨a1, a2, a3, a4⟩ := a
  obtain ⟨b1, b2, b3, b4⟩ := b
  simp [mailV] at h
  obtain ⟨rfl, rfl, rfl, rfl⟩ := h
  rfl
theorem mailD_inj {a b : Ml} (h : mailD a = mailD b) : a = b := by
  obtain ⟨a1, a2, a3, a4⟩ := a
  obtain ⟨b1, b2, b3, b4⟩ := b
  simp [mailD] at h
  obtain ⟨rfl, rfl, rfl, h4⟩ := h
  have h5 : a4 = b4 := ByteArray.ext (by simpa using h4)
  rw [h5]
open Classical in
noncomputable def mailE (v : Value) : Option (DataW Unit × List MemPlace) := if h : ∃ m, v = mailV m then some (mailD h.choose, []) else none
theorem mailE_mk (m : Ml) : mailE (mailV m) = some (mailD m, []) := by
  unfold mailE
  have h : ∃ k, mailV m = mailV k := ⟨m, rfl⟩
  rw [dif_pos h]
  rw [← mailV_inj h.choose_spec]
theorem mailE_inv {v : Value} {y : DataW Unit × List MemPlace} (h : mailE v = some y) : ∃ m, v = mailV m ∧ y = (mailD m, []) := by
  unfold mailE at h
  split at h
  · rename_i h1
    injection h with h
    exact ⟨_, h1.choose_spec, h.symm⟩
  · cases h
structure Bg where
  l : List Ml
  last : Int
  cuts : List (Int × Int)
def findM (l : List Ml) (id : Int) : Option Ml := l.find? (fun m => m.id == id)
structure BgAs (D : DW) (l : List Ml) : Prop where
  has : ∀ id : Int, Maps.has D (.int .i64 id) = (findM l id).isSome
  at_ : ∀ (id : Int) (m : Ml), findM l id = some m → ∀ zd, D.atKey (.int .i64 id) zd = mailD m
  in_ : ∀ kl, Maps.has D kl = true → ∃ id : Int, kl = .int .i64 id
  size : Maps.size D = l.length
structure CutAs (E : DW) (c : List (Int × Int)) : Prop where
  at_ : ∀ (x y : Int) (kl : Lit), keyOf Try.prog 65 (pairV x y) = some kl → Maps.has E kl = c.contains (x, y) ∧ (c.contains (x, y) = true → ∀ zd, E.atKey kl zd = .lit (.bool true))
def Adr (n : Int) : Prop := 0 ≤ n ∧ n ≤ 63
def adr (n : Int) : Bool := decide (0 ≤ n) && decide (n ≤ 63)
theorem adr_iff (n : Int) : adr n = true ↔ Adr n := by simp [adr, Adr]
structure IsBg (w W : World) (g mb cb n : Nat) (s : Bg) : Prop where
  own : W.heap[g]? = some (.cells #[.map (some mb), .int .i64 s.last, .map (some cb)] 61 (0, 0))
  map : ∃ D : DW, W.ownsMap Try.prog 3 mailE mb n D ∧ BgAs D s.l
  cut : ∃ E : DW, W.ownsMap Try.prog 65 (plainElem Try.prog 4) cb n E ∧ CutAs E s.cuts
  asc : s.l.Pairwise (fun a b => a.id < b.id)
  ids : ∀ m ∈ s.l, 1 ≤ m.id ∧ m.id ≤ s.last ∧ Adr m.fr ∧ Adr m.too ∧ m.t.size ≤ 65536
  lst : 0 ≤ s.last ∧ s.last ≤ n
  len : s.l.length ≤ 400
  g1 : w.heap.size ≤ g
  m1 : w.heap.size ≤ mb
  c1 : w.heap.size ≤ cb
  gm : g ≠ mb
  gc : g ≠ cb
  mc : mb ≠ cb
  bel : Below w.heap.size w W
/-- nothing but the bag's blocks has turned -/
def BgKept (W W' : World) (g rb mb : Nat) : Prop := W.heap.size ≤ W'.heap.size ∧ ∀ i, i < W.heap.size → i ≠ g → i ≠ rb → i ≠ mb → W'.heap[i]? = W.heap[i]?
theorem BgKept.refl (W : World) (g rb mb : Nat) : BgKept W W g rb mb := ⟨Nat.le_refl _, fun _ _ _ _ _ => rfl⟩
theorem BgKept.trans {W W' W'' : World} {g rb mb : Nat} (h : BgKept W W' g rb mb) (k : BgKept W' W'' g rb mb) : BgKept W W'' g rb mb :=
  ⟨Nat.le_trans h.1 k.1, fun i hi h1 h2 h3 => (k.2 i (Nat.lt_of_lt_of_le hi h.1) h1 h2 h3).trans (h.2 i hi h1 h2 h3)⟩
theorem BgKept.below {W W' : World} {g rb mb : Nat} (h : Below W.heap.size W W') : BgKept W W' g rb mb := ⟨h.size, fun i hi _ _ _ => h.block i hi⟩
theorem BgKept.set {W : World} {g rb mb a j : Nat} (ha : a = g ∨ a = rb ∨ a = mb) (v : Value) : BgKept W (W.setCell ⟨a, j, none⟩ v) g rb mb :=
  ⟨by simp, fun i _ h1 h2 h3 => Below.heap_setCell W ⟨a, j, none⟩ v i (by rcases ha with rfl | rfl | rfl <;> assumption)⟩
theorem IsBg.below {w W W' : World} {g mb cb n : Nat} {s : Bg} (h : IsBg w W g mb cb n s) (hb : Below W.heap.size W W') : IsBg w W' g mb cb n s := by
  obtain ⟨D, h3, h4⟩ := h.map
  obtain ⟨E, h5, h6⟩ := h.cut
  exact ⟨blk_below h.own hb, ⟨D, World.ownsMap.kept (row := none) h3 ⟨hb.os, hb.tape, hb.output, hb.size, fun i hi _ => hb.block i hi⟩ (by simp), h4⟩, ⟨E, World.ownsMap.kept (row := none) h5 ⟨hb.os, hb.tape, hb.output, hb.size, fun i hi _ => hb.block i hi⟩ (by simp), h6⟩, h.asc, h.ids, h.lst, h.len, h.g1, h.m1, h.c1, h.gm, h.gc, h.mc, h.bel.trans (hb.mono h.bel.size)⟩
theorem IsBg.more {w W : World} {g mb cb n m : Nat} {s : Bg} (h : IsBg w W g mb cb n s) (hm : n ≤ m) : IsBg w W g mb cb m s := by
  obtain ⟨D, h1, h2⟩ := h.map
  obtain ⟨E, h3, h4⟩ := h.cut
  exact { h with map := ⟨D, h1.mono hm, h2⟩, cut := ⟨E, h3.mono hm, h4⟩, lst := ⟨h.lst.1, by have := h.lst.2; omega⟩ }
theorem IsBg.cells {w W : World} {g mb cb n : Nat} {s : Bg} (h : IsBg w W g mb cb n s) : W.cell? ⟨g, 0, none⟩ = some (.map (some mb)) ∧ W.cell? ⟨g, 1, none⟩ = some (.int .i64 s.last) ∧ W.cell? ⟨g, 2, none⟩ = some (.map (some cb)) ∧ W.frozen? ⟨g, 1, none⟩ = false :=
  ⟨(blk_cell h.own 0).trans rfl, (blk_cell h.own 1).trans rfl, (blk_cell h.own 2).trans rfl, blk_frozen h.own 1⟩
theorem IsBg.lts {w W : World} {g mb cb n : Nat} {s : Bg} (h : IsBg w W g mb cb n s) : g < W.heap.size ∧ mb < W.heap.size ∧ cb < W.heap.size := by
  obtain ⟨D, h3, h4⟩ := h.map
  obtain ⟨E, h5, h6⟩ := h.cut
  exact ⟨blk_lt h.own, h3.lt, h5.lt⟩
theorem bag_address (n : Int) (W : World) :
    Calls Try.prog 22 #[.int .i64 n] W fun e W' => e = .returned (.bool (adr n)) ∧ W' = W := by
  unfold adr
  by_cases h0 : 0 ≤ n
  · have q0 : decide (n ≥ 0) = true := decide_eq_true h0
    have q1 : decide (0 ≤ n) = true := decide_eq_true h0
    clear h0
    go_enter Try.func22, Try.ntmps22
    go_wp2
    go_ret
    exact ⟨by rw [q1]; rfl, rfl⟩
  · have q0 : decide (n ≥ 0) = false := decide_eq_false h0
    have q1 : decide (0 ≤ n) = false := decide_eq_false h0
    clear h0
    go_enter Try.func22, Try.ntmps22
    go_wp2
    go_ret
    exact ⟨by rw [q1]; rfl, rfl⟩
def ofP (x y : Int) : Int × Int := (min x y, max x y)
theorem bag_of (x y : Int) (W : World) :
    Calls Try.prog 25 #[.int .i64 x, .int .i64 y] W fun e W' => e = .returned (pairV (ofP x y).1 (ofP x y).2) ∧ Below W.heap.size W W' := by
  unfold ofP pairV
  obtain ⟨m1, hm1⟩ : ∃ m : Int, m = min x y := ⟨_, rfl⟩
  obtain ⟨m2, hm2⟩ : ∃ m : Int, m = max x y := ⟨_, rfl⟩
  have e1 : min x y = m1 := hm1.symm
  have e2 : max x y = m2 := hm2.symm
  have e3 : (if y < x then y else x) = m1 := by split <;> omega
  have e4 : (if x < y then y else x) = m2 := by split <;> omega
  dsimp only
  rw [e1, e2]
  clear hm1 hm2
  go_enter Try.func25, Try.ntmps25
  go_wp2
  refine bodyPost_ret (results_cell_row rfl _ _ W.heap.size 65 #[.int .i64 m1, .int .i64 m2] (0, 0) _ rfl (blk_new W _) Try.underlying65 rfl (by kernel_rfl)) rfl ?_
  exact ⟨rfl, below_alloc (Below.refl _ _) _⟩

end Go.Proofs.Ytppoahccmcnenaa.PP
