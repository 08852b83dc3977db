-- written by a program of this session
import Derived.Test.YtbhlphadcphapaaPLx0
import Derived.Test.YtbhlphadcphapaaPLx1
import Derived.Test.YtbhlphadcphapaaPLx2
import Derived.Test.YtbhlphadcphapaaPLx3
import Derived.Test.YtbhlphadcphapaaPLx4
namespace Go.Proofs.Ytbhlphadcphapaa.PL
open Go.RowKit Go.Proofs.Ytbhlphadcphapaa.Op Go.Proofs.YtbhlphadcphapaaW.PrintWords Go.Proofs.YtbhlphadcphapaaW.PrintLast Go.Proofs.YtbhlphadcphapaaW.PrintMore
attribute [local go_sem] max2_int min2_int max_two min_two max_three min_three max_four min_four   -- for this text's walks alone
set_option linter.unusedVariables false
set_option linter.unusedSimpArgs false

attribute [local go_sem high] eqA57
/-! ### splicelaw08_awake: function 14 -/
def splicelaw08_awake.f (k : Nat)  : Option (Bool) := (chart_First.f k 2 2).bind fun bt141 => ((chart_Apply.f k bt141.1 bt141.2.1 bt141.2.2.1 1 1 100).bind fun bt148 => (if bt141.2.2.2 = 0 then (if (bt141.2.2.1.length : Int) = 2 then (if 1 < (bt141.2.2.1.length : Int) then (if (((rd_T57 bt141.2.2.1 1).f0) == 2 && ((((rd_T57 bt141.2.2.1 1).f1.f0) == 2048 && (((rd_T57 bt141.2.2.1 1).f1.f1) == 4096)) && (((rd_T57 bt141.2.2.1 1).f2) == 1))) = true then (if bt148.2.2.2.2.2 = 0 then (if (bt148.2.2.1.length : Int) = 3 then (if bt148.1 = 2 then (if (bt148.2.2.2.2.1.length : Int) = 2 then (if 1 < (bt148.2.2.2.2.1.length : Int) then (some (((rd_T57 bt148.2.2.2.2.1 1).f0) == 4)) else (none)) else (some false)) else (some false)) else (some false)) else (some false)) else (some false)) else (none)) else (some false)) else (some false)))
theorem splicelaw08_awake.mono : ∀ k, LeO (splicelaw08_awake.f k ) (splicelaw08_awake.f (k + 1) ) := by
  intro  k
  unfold splicelaw08_awake.f
  repeat' first
      | (with_reducible exact chart_Apply.mono _ _ _ _ _ _ _)
      | (with_reducible exact chart_First.mono _ _ _)
      | (with_reducible exact LeO.refl _)
      | (with_reducible exact LeO.none _)
      | (with_reducible refine LeO.ite ?_ ?_)
      | (with_reducible refine LeO.bind ?_ (fun _ => ?_))
      | exact chart_Apply.mono _ _ _ _ _ _ _
      | exact chart_First.mono _ _ _
      | exact LeO.none _
      | refine LeO.ite ?_ ?_
      | refine LeO.bind ?_ (fun _ => ?_)
set_option maxHeartbeats 8000000 in
set_option maxRecDepth 100000 in
theorem splicelaw08_awake.calls (k : Nat)  (r : Bool) (w : World) (h : splicelaw08_awake.f k  = some r) (hr_ : r = true) :
    Calls Try.prog 14 #[] w fun e w' => e = .returned (.bool r) ∧ Below w.heap.size w w' := by
 have hu24 := Try.underlying24
 have hu39 := Try.underlying39
 have hu57 := Try.underlying57
 have hu55 := Try.underlying55
 have HB := Aside0.mk (Below.refl w.heap.size w)
 have H : ((chart_First.f k 2 2).bind fun bt141 => ((chart_Apply.f k bt141.1 bt141.2.1 bt141.2.2.1 1 1 100).bind fun bt148 => (if bt141.2.2.2 = 0 then (if (bt141.2.2.1.length : Int) = 2 then (if 1 < (bt141.2.2.1.length : Int) then (if (((rd_T57 bt141.2.2.1 1).f0) == 2 && ((((rd_T57 bt141.2.2.1 1).f1.f0) == 2048 && (((rd_T57 bt141.2.2.1 1).f1.f1) == 4096)) && (((rd_T57 bt141.2.2.1 1).f2) == 1))) = true then (if bt148.2.2.2.2.2 = 0 then (if (bt148.2.2.1.length : Int) = 3 then (if bt148.1 = 2 then (if (bt148.2.2.2.2.1.length : Int) = 2 then (if 1 < (bt148.2.2.2.2.1.length : Int) then (some (((rd_T57 bt148.2.2.2.2.1 1).f0) == 4)) else (none)) else (some false)) else (some false)) else (some false)) else (some false)) else (some false)) else (none)) else (some false)) else (some false)))) = some r := h
 clear h
 replace H := Option.bind_eq_some_iff.mp H
 obtain ⟨⟨t141, t142, t143, t146⟩, A10, H⟩ := H
 replace H : ((chart_Apply.f k t141 t142 t143 1 1 100).bind fun bt148 => (if t146 = 0 then (if (t143.length : Int) = 2 then (if 1 < (t143.length : Int) then (if (((rd_T57 t143 1).f0) == 2 && ((((rd_T57 t143 1).f1.f0) == 2048 && (((rd_T57 t143 1).f1.f1) == 4096)) && (((rd_T57 t143 1).f2) == 1))) = true then (if bt148.2.2.2.2.2 = 0 then (if (bt148.2.2.1.length : Int) = 3 then (if bt148.1 = 2 then (if (bt148.2.2.2.2.1.length : Int) = 2 then (if 1 < (bt148.2.2.2.2.1.length : Int) then (some (((rd_T57 bt148.2.2.2.2.1 1).f0) == 4)) else (none)) else (some false)) else (some false)) else (some false)) else (some false)) else (some false)) else (none)) else (some false)) else (some false))) = some r := H
 have A1 := Aside0.mk A10
 clear A10
 replace H := Option.bind_eq_some_iff.mp H
 obtain ⟨⟨t148, t149, t150, t153, t156, t159⟩, A20, H⟩ := H
 replace H : (if t146 = 0 then (if (t143.length : Int) = 2 then (if 1 < (t143.length : Int) then (if (((rd_T57 t143 1).f0) == 2 && ((((rd_T57 t143 1).f1.f0) == 2048 && (((rd_T57 t143 1).f1.f1) == 4096)) && (((rd_T57 t143 1).f2) == 1))) = true then (if t159 = 0 then (if (t150.length : Int) = 3 then (if t148 = 2 then (if (t156.length : Int) = 2 then (if 1 < (t156.length : Int) then (some (((rd_T57 t156 1).f0) == 4)) else (none)) else (some false)) else (some false)) else (some false)) else (some false)) else (some false)) else (none)) else (some false)) else (some false)) = some r := H
 have A2 := Aside0.mk A20
 clear A20
 by_cases c3 : t146 = 0
 rotate_left
 · rw [if_neg c3] at H
   have c3b0 : (t146 == 0) = false := beq_eq_false_iff_ne.mpr c3
   have c3b1 : (t146 != 0) = true := bne_iff_ne.mpr c3
   exact absurd ((Option.some.inj H).trans hr_) (by simp)
 rw [if_pos c3] at H
 have c3b0 : (t146 == 0) = true := beq_iff_eq.mpr c3
 have c3b1 : (t146 != 0) = false := bne_eq_false_iff_eq.mpr c3
 clear c3
 by_cases c4 : (t143.length : Int) = 2
 rotate_left
 · rw [if_neg c4] at H
   have c4b0 : ((t143.length : Int) == 2) = false := beq_eq_false_iff_ne.mpr c4
   have c4b1 : ((t143.length : Int) != 2) = true := bne_iff_ne.mpr c4
   exact absurd ((Option.some.inj H).trans hr_) (by simp)
 rw [if_pos c4] at H
 have c4b0 : ((t143.length : Int) == 2) = true := beq_iff_eq.mpr c4
 have c4b1 : ((t143.length : Int) != 2) = false := bne_eq_false_iff_eq.mpr c4
 clear c4
 by_cases c5 : 1 < (t143.length : Int)
 rotate_left
 · rw [if_neg c5] at H; exact absurd H (by simp)
 rw [if_pos c5] at H
 have c5b0 : decide (1 < (t143.length : Int)) = true := decide_eq_true c5
 have c5b1 : decide (1 < t143.length) = true := decide_eq_true (by omega)
 clear c5
 by_cases c6 : (((rd_T57 t143 1).f0) == 2 && ((((rd_T57 t143 1).f1.f0) == 2048 && (((rd_T57 t143 1).f1.f1) == 4096)) && (((rd_T57 t143 1).f2) == 1))) = true
 rotate_left
 · rw [if_neg c6] at H
   have c6b0 : (((rd_T57 t143 1).f0) == 2 && ((((rd_T57 t143 1).f1.f0) == 2048 && (((rd_T57 t143 1).f1.f1) == 4096)) && (((rd_T57 t143 1).f2) == 1))) = false := by simpa using c6
   (try (have c6b1 : decide (((rd_T57 t143 1).f0) = 2 && ((((rd_T57 t143 1).f1.f0) == 2048 && (((rd_T57 t143 1).f1.f1) == 4096)) && (((rd_T57 t143 1).f2) == 1))) = false := by simpa using c6))
   (try (have c6b2 : (((rd_T57 t143 1).f0) == 2 && ((((rd_T57 t143 1).f1.f0) == 2048 && (((rd_T57 t143 1).f1.f1) == 4096)) && (((rd_T57 t143 1).f2) == 1))) = false := by simpa using c6))
   (try (have c6b3 : ¬ (((rd_T57 t143 1).f0) = 2 && ((((rd_T57 t143 1).f1.f0) == 2048 && (((rd_T57 t143 1).f1.f1) == 4096)) && (((rd_T57 t143 1).f2) == 1))) := by simpa using c6))
   clear c6
   exact absurd ((Option.some.inj H).trans hr_) (by simp)
 rw [if_pos c6] at H
 have c6b0 : (((rd_T57 t143 1).f0) == 2 && ((((rd_T57 t143 1).f1.f0) == 2048 && (((rd_T57 t143 1).f1.f1) == 4096)) && (((rd_T57 t143 1).f2) == 1))) = true := c6
 (try (have c6b1 : decide (((rd_T57 t143 1).f0) = 2 && ((((rd_T57 t143 1).f1.f0) == 2048 && (((rd_T57 t143 1).f1.f1) == 4096)) && (((rd_T57 t143 1).f2) == 1))) = true := by simpa using c6))
 (try (have c6b2 : (((rd_T57 t143 1).f0) == 2 && ((((rd_T57 t143 1).f1.f0) == 2048 && (((rd_T57 t143 1).f1.f1) == 4096)) && (((rd_T57 t143 1).f2) == 1))) = true := by simpa using c6))
 clear c6
 by_cases c7 : t159 = 0
 rotate_left
 · rw [if_neg c7] at H
   have c7b0 : (t159 == 0) = false := beq_eq_false_iff_ne.mpr c7
   have c7b1 : (t159 != 0) = true := bne_iff_ne.mpr c7
   exact absurd ((Option.some.inj H).trans hr_) (by simp)
 rw [if_pos c7] at H
 have c7b0 : (t159 == 0) = true := beq_iff_eq.mpr c7
 have c7b1 : (t159 != 0) = false := bne_eq_false_iff_eq.mpr c7
 clear c7
 by_cases c8 : (t150.length : Int) = 3
 rotate_left
 · rw [if_neg c8] at H
   have c8b0 : ((t150.length : Int) == 3) = false := beq_eq_false_iff_ne.mpr c8
   have c8b1 : ((t150.length : Int) != 3) = true := bne_iff_ne.mpr c8
   exact absurd ((Option.some.inj H).trans hr_) (by simp)
 rw [if_pos c8] at H
 have c8b0 : ((t150.length : Int) == 3) = true := beq_iff_eq.mpr c8
 have c8b1 : ((t150.length : Int) != 3) = false := bne_eq_false_iff_eq.mpr c8
 clear c8
 by_cases c9 : t148 = 2
 rotate_left
 · rw [if_neg c9] at H
   have c9b0 : (t148 == 2) = false := beq_eq_false_iff_ne.mpr c9
   have c9b1 : (t148 != 2) = true := bne_iff_ne.mpr c9
   exact absurd ((Option.some.inj H).trans hr_) (by simp)
 rw [if_pos c9] at H
 have c9b0 : (t148 == 2) = true := beq_iff_eq.mpr c9
 have c9b1 : (t148 != 2) = false := bne_eq_false_iff_eq.mpr c9
 clear c9
 by_cases c10 : (t156.length : Int) = 2
 rotate_left
 · rw [if_neg c10] at H
   have c10b0 : ((t156.length : Int) == 2) = false := beq_eq_false_iff_ne.mpr c10
   have c10b1 : ((t156.length : Int) != 2) = true := bne_iff_ne.mpr c10
   exact absurd ((Option.some.inj H).trans hr_) (by simp)
 rw [if_pos c10] at H
 have c10b0 : ((t156.length : Int) == 2) = true := beq_iff_eq.mpr c10
 have c10b1 : ((t156.length : Int) != 2) = false := bne_eq_false_iff_eq.mpr c10
 clear c10
 by_cases c11 : 1 < (t156.length : Int)
 rotate_left
 · rw [if_neg c11] at H; exact absurd H (by simp)
 rw [if_pos c11] at H
 have c11b0 : decide (1 < (t156.length : Int)) = true := decide_eq_true c11
 have c11b1 : decide (1 < t156.length) = true := decide_eq_true (by omega)
 clear c11
 obtain rfl := Option.some.inj H
 go_enter Try.func14, Try.ntmps14
 go_wp2_with (first | ((with_reducible refine gate_callee (f := 12) rfl ?_); refine goesL_ (some 8) rfl rfl Try.func12 (by kernel_rfl) rfl #[.int .i64 2, .int .i64 2] rfl (by (try simp only [List.map_toArray, List.map_cons, List.map_nil]); first | done | rfl | (simp only [List.length_drop, List.length_take]; rfl)) ?_; (with_reducible refine (chart_First.calls k 2 2 t141 t142 t143 t146 _ A1.out).mono ?_); rintro e w12 ⟨v144, rfl, ho0, hb⟩; refine ⟨_, rfl, ?_⟩; have n0_ := Aside0.mk (Kd.R_lower ho0 (below_size (by repeat (first | (with_reducible first | exact HB.out | apply below_alloc | apply pw_below_drewN | apply below_drew1) | exact HB.out)))); have n1_ := Aside0.mk (below_step (by repeat (first | (with_reducible first | exact HB.out | apply below_alloc | apply pw_below_drewN | apply below_drew1) | exact HB.out)) hb); clear HB; have HO145 := n0_; have HB := n1_; clear n0_ n1_; (try clear hb); (try clear hb2); (try clear hk); (try clear hi); (try clear ho0)) | ((with_reducible refine gate_dst (N := 1) rfl ?_); (try (refine gate_guard (by rfl) ?_; dsimp only)); refine box_event ?hg (N := 1) ?hd (cs := #[.int .i64 0, .int .i64 0, .slice none 0 0]) (t := 24) ?hr ?_; (case hd => rfl); (case hg => rfl); (case hr => first | (go_simp; done) | (go_simp; rfl)); intro gb147 hg w13 hbox hb; have n0_ := Aside0.mk (Kd.R_below (by (with_reducible repeat (first | apply Kd.R_alloc | apply Kd.R_drewN | apply Kd.R_drew)); exact HO145.out) hb); have n1_ := Aside0.mk (below_step (by repeat (first | (with_reducible first | exact HB.out | apply below_alloc | apply pw_below_drewN | apply below_drew1) | exact HB.out)) hb); have n2_ := Aside0.mk (hbox); have n3_ := Aside0.mk ((by rw [hg]; exact (below_size (by repeat (first | (with_reducible first | exact HB.out | apply below_alloc | apply pw_below_drewN | apply below_drew1) | exact HB.out))) : w.heap.size ≤ gb147)); have n4_ := Aside0.mk ((by rw [hg]; exact (below_size (by repeat (first | (with_reducible first | exact HB.out | apply below_alloc | apply pw_below_drewN | apply below_drew1) | exact HB.out))) : w.heap.size ≤ gb147)); clear HO145; clear HB; have HO145 := n0_; have HB := n1_; have BK147 := n2_; have GW147 := n3_; have GE147 := n4_; clear n0_ n1_ n2_ n3_ n4_; clear hb hbox hg; have hcz14_0 : w13.cell? ⟨gb147, 0, none⟩ = some (.int .i64 0) := (blk_cell BK147.out 0).trans rfl; have hcz14_1 : w13.cell? ⟨gb147, 1, none⟩ = some (.int .i64 0) := (blk_cell BK147.out 1).trans rfl; have hcz14_2 : w13.cell? ⟨gb147, 2, none⟩ = some (.slice none 0 0) := (blk_cell BK147.out 2).trans rfl; have hfz14_0 := blk_frozen BK147.out 0; have hfz14_1 := blk_frozen BK147.out 1; have hfz14_2 := blk_frozen BK147.out 2; obtain ⟨Ao15, co15, eo15⟩ := Kd.R_slice HO145.out; subst eo15) | ((with_reducible refine gate_callee (f := 19) rfl ?_); refine goesL_ (some 14) rfl rfl Try.func19 (by kernel_rfl) rfl #[.agg #[.int .i64 t141, .int .i64 t142, .slice Ao15 t143.length co15], .agg #[.int .i64 1, .int .i64 1, .int .i64 100]] rfl (by (try simp only [List.map_toArray, List.map_cons, List.map_nil]); first | done | rfl | (simp only [List.length_drop, List.length_take]; rfl)) ?_; (with_reducible refine (chart_Apply.calls k t141 t142 _ _ t143 1 1 100 t148 t149 t150 t153 t156 t159 _ ?side1 ?side2 A2.out).mono ?_); (case side1 => refine (Kd.R_reads' (e := 57) (base := w.heap.size) (ok := fun k_ => True) (n := t143.length) (c := co15) ?_).2.2; exact (by (with_reducible repeat (first | apply Kd.R_alloc | apply Kd.R_drewN | apply Kd.R_drew)); exact (Kd.R_mono (Kd.R_far (p := ⟨gb147, 2, none⟩) (Kd.R_far (p := ⟨gb147, 1, none⟩) (Kd.R_far (p := ⟨gb147, 0, none⟩) (Kd.R_types HO145.out BK147.out (by decide)) (fun _ hk => hk.2) (.int .i64 t141)) (fun _ hk => hk.2) (.int .i64 t142)) (fun _ hk => hk.2) (.slice Ao15 t143.length co15)) (fun _ h_ => h_.1)))); (case side2 => exact (Kd.R_reads' HO145.out).2.1); rintro e w16 ⟨v151, v154, v157, rfl, ho0, ho1, ho2, hb⟩; refine ⟨_, rfl, ?_⟩; have n0_ := Aside0.mk (Kd.R_mono (Kd.R_told (Kd.R_told (Kd.R_told (Kd.R_old (by (with_reducible repeat (first | apply Kd.R_alloc | apply Kd.R_drewN | apply Kd.R_drew)); exact (Kd.R_mono (Kd.R_far (p := ⟨gb147, 2, none⟩) (Kd.R_far (p := ⟨gb147, 1, none⟩) (Kd.R_far (p := ⟨gb147, 0, none⟩) (Kd.R_types HO145.out BK147.out (by decide)) (fun _ hk => hk.2) (.int .i64 t141)) (fun _ hk => hk.2) (.int .i64 t142)) (fun _ hk => hk.2) (.slice Ao15 t143.length co15)) (fun _ h_ => h_.1))) hb) (Kd.R_base ho0)) (Kd.R_base ho1)) (Kd.R_base ho2)) (fun _ h_ => h_.1)); have n1_ := Aside0.mk (Kd.R_lower (Kd.R_new' ho0 (Kd.R_lt (by (with_reducible repeat (first | apply Kd.R_alloc | apply Kd.R_drewN | apply Kd.R_drew)); exact (Kd.R_mono (Kd.R_far (p := ⟨gb147, 2, none⟩) (Kd.R_far (p := ⟨gb147, 1, none⟩) (Kd.R_far (p := ⟨gb147, 0, none⟩) (Kd.R_types HO145.out BK147.out (by decide)) (fun _ hk => hk.2) (.int .i64 t141)) (fun _ hk => hk.2) (.int .i64 t142)) (fun _ hk => hk.2) (.slice Ao15 t143.length co15)) (fun _ h_ => h_.1))))) (below_size (by repeat (first | (with_reducible first | exact HB.out | apply below_alloc | apply pw_below_drewN | apply below_drew1 | refine below_set ?_ GE147.out) | exact HB.out)))); have n2_ := Aside0.mk (Kd.R_lower (Kd.R_new' ho1 (Kd.R_lt (by (with_reducible repeat (first | apply Kd.R_alloc | apply Kd.R_drewN | apply Kd.R_drew)); exact (Kd.R_mono (Kd.R_far (p := ⟨gb147, 2, none⟩) (Kd.R_far (p := ⟨gb147, 1, none⟩) (Kd.R_far (p := ⟨gb147, 0, none⟩) (Kd.R_types HO145.out BK147.out (by decide)) (fun _ hk => hk.2) (.int .i64 t141)) (fun _ hk => hk.2) (.int .i64 t142)) (fun _ hk => hk.2) (.slice Ao15 t143.length co15)) (fun _ h_ => h_.1))))) (below_size (by repeat (first | (with_reducible first | exact HB.out | apply below_alloc | apply pw_below_drewN | apply below_drew1 | refine below_set ?_ GE147.out) | exact HB.out)))); have n3_ := Aside0.mk (Kd.R_lower (Kd.R_new' ho2 (Kd.R_lt (by (with_reducible repeat (first | apply Kd.R_alloc | apply Kd.R_drewN | apply Kd.R_drew)); exact (Kd.R_mono (Kd.R_far (p := ⟨gb147, 2, none⟩) (Kd.R_far (p := ⟨gb147, 1, none⟩) (Kd.R_far (p := ⟨gb147, 0, none⟩) (Kd.R_types HO145.out BK147.out (by decide)) (fun _ hk => hk.2) (.int .i64 t141)) (fun _ hk => hk.2) (.int .i64 t142)) (fun _ hk => hk.2) (.slice Ao15 t143.length co15)) (fun _ h_ => h_.1))))) (below_size (by repeat (first | (with_reducible first | exact HB.out | apply below_alloc | apply pw_below_drewN | apply below_drew1 | refine below_set ?_ GE147.out) | exact HB.out)))); have n4_ := Aside0.mk (blk_below (g := gb147) (o := .cells #[.int .i64 t141, .int .i64 t142, .slice Ao15 t143.length co15] 24 (0, 0)) (by (with_reducible repeat (first | refine blk_drewN ?_ _ | refine blk_drew ?_ | refine blk_alloc ?_ _)); refine blk_put (cs := #[.int .i64 t141, .int .i64 t142, .slice none 0 0]) ?_ 2 _ rfl; (with_reducible repeat (first | refine blk_drewN ?_ _ | refine blk_drew ?_ | refine blk_alloc ?_ _)); refine blk_put (cs := #[.int .i64 t141, .int .i64 0, .slice none 0 0]) ?_ 1 _ rfl; (with_reducible repeat (first | refine blk_drewN ?_ _ | refine blk_drew ?_ | refine blk_alloc ?_ _)); refine blk_put (cs := #[.int .i64 0, .int .i64 0, .slice none 0 0]) ?_ 0 _ rfl; (with_reducible repeat (first | refine blk_drewN ?_ _ | refine blk_drew ?_ | refine blk_alloc ?_ _)); exact BK147.out) hb); have n5_ := Aside0.mk (below_step (by repeat (first | (with_reducible first | exact HB.out | apply below_alloc | apply pw_below_drewN | apply below_drew1 | refine below_set ?_ GE147.out) | exact HB.out)) hb); clear HO145; clear BK147; clear HB; have HO145 := n0_; have HO152 := n1_; have HO155 := n2_; have HO158 := n3_; have BK147 := n4_; have HB := n5_; clear n0_ n1_ n2_ n3_ n4_ n5_; (try clear hb); (try clear hb2); (try clear hk); (try clear hi); (try clear ho0); (try clear ho1); (try clear ho2)) | ((with_reducible refine gate_dst (N := 3) rfl ?_); (try (refine gate_guard (by rfl) ?_; dsimp only)); refine box_event ?hg (N := 3) ?hd (cs := #[.int .i64 0, .int .i64 0, .slice none 0 0]) (t := 24) ?hr ?_; (case hd => rfl); (case hg => rfl); (case hr => first | (go_simp; done) | (go_simp; rfl)); intro gb160 hg w17 hbox hb; have n0_ := Aside0.mk (Kd.R_below (by (with_reducible repeat (first | apply Kd.R_alloc | apply Kd.R_drewN | apply Kd.R_drew)); exact HO145.out) hb); have n1_ := Aside0.mk (Kd.R_below (by (with_reducible repeat (first | apply Kd.R_alloc | apply Kd.R_drewN | apply Kd.R_drew)); exact HO152.out) hb); have n2_ := Aside0.mk (Kd.R_below (by (with_reducible repeat (first | apply Kd.R_alloc | apply Kd.R_drewN | apply Kd.R_drew)); exact HO155.out) hb); have n3_ := Aside0.mk (Kd.R_below (by (with_reducible repeat (first | apply Kd.R_alloc | apply Kd.R_drewN | apply Kd.R_drew)); exact HO158.out) hb); have n4_ := Aside0.mk (blk_below (g := gb147) (o := .cells #[.int .i64 t141, .int .i64 t142, .slice Ao15 t143.length co15] 24 (0, 0)) (by (with_reducible repeat (first | refine blk_drewN ?_ _ | refine blk_drew ?_ | refine blk_alloc ?_ _)); exact BK147.out) hb); have n5_ := Aside0.mk (below_step (by repeat (first | (with_reducible first | exact HB.out | apply below_alloc | apply pw_below_drewN | apply below_drew1 | refine below_set ?_ GE147.out) | exact HB.out)) hb); have n6_ := Aside0.mk (hbox); have n7_ := Aside0.mk ((by rw [hg]; exact (below_size (by repeat (first | (with_reducible first | exact HB.out | apply below_alloc | apply pw_below_drewN | apply below_drew1 | refine below_set ?_ GE147.out) | exact HB.out))) : w.heap.size ≤ gb160)); have n8_ := Aside0.mk ((by rw [hg]; exact (below_size (by repeat (first | (with_reducible first | exact HB.out | apply below_alloc | apply pw_below_drewN | apply below_drew1 | refine below_set ?_ GE147.out) | exact HB.out))) : w.heap.size ≤ gb160)); have n9_ := Aside0.mk ((by rw [hg]; exact Nat.ne_of_lt (blk_lt (g := gb147) (o := .cells #[.int .i64 t141, .int .i64 t142, .slice Ao15 t143.length co15] 24 (0, 0)) (by (with_reducible repeat (first | refine blk_drewN ?_ _ | refine blk_drew ?_ | refine blk_alloc ?_ _)); exact BK147.out)) : gb147 ≠ gb160)); have n10_ := Aside0.mk ((by rw [hg]; exact Nat.ne_of_gt (blk_lt (g := gb147) (o := .cells #[.int .i64 t141, .int .i64 t142, .slice Ao15 t143.length co15] 24 (0, 0)) (by (with_reducible repeat (first | refine blk_drewN ?_ _ | refine blk_drew ?_ | refine blk_alloc ?_ _)); exact BK147.out)) : gb160 ≠ gb147)); clear HO145; clear HO152; clear HO155; clear HO158; clear BK147; clear HB; have HO145 := n0_; have HO152 := n1_; have HO155 := n2_; have HO158 := n3_; have BK147 := n4_; have HB := n5_; have BK160 := n6_; have GW160 := n7_; have GE160 := n8_; have NB147_160 := n9_; have NB160_147 := n10_; clear n0_ n1_ n2_ n3_ n4_ n5_ n6_ n7_ n8_ n9_ n10_; clear hb hbox hg; have hnb18 := NB160_147.out; have hnc18 := NB147_160.out; have hcz19_0 : w17.cell? ⟨gb160, 0, none⟩ = some (.int .i64 0) := (blk_cell BK160.out 0).trans rfl; have hcz19_1 : w17.cell? ⟨gb160, 1, none⟩ = some (.int .i64 0) := (blk_cell BK160.out 1).trans rfl; have hcz19_2 : w17.cell? ⟨gb160, 2, none⟩ = some (.slice none 0 0) := (blk_cell BK160.out 2).trans rfl; have hfz19_0 := blk_frozen BK160.out 0; have hfz19_1 := blk_frozen BK160.out 1; have hfz19_2 := blk_frozen BK160.out 2; obtain ⟨Ao20, co20, eo20⟩ := Kd.R_slice HO152.out; subst eo20; have hcz21_0 : w17.cell? ⟨gb147, 0, none⟩ = some (.int .i64 t141) := (blk_cell BK147.out 0).trans rfl; have hcz21_1 : w17.cell? ⟨gb147, 1, none⟩ = some (.int .i64 t142) := (blk_cell BK147.out 1).trans rfl; have hcz21_2 : w17.cell? ⟨gb147, 2, none⟩ = some (.slice Ao15 t143.length co15) := (blk_cell BK147.out 2).trans rfl; have hfz21_0 := blk_frozen BK147.out 0; have hfz21_1 := blk_frozen BK147.out 1; have hfz21_2 := blk_frozen BK147.out 2; have p161 : 0 ≤ (1 : Int) := (by omega); have q161 : 1 < (t143.length : Int) := of_decide_eq_true (by first | (with_reducible assumption) | assumption); obtain ⟨ad161, e161, hx161_0, hx161_1, hx161_2, hx161_3⟩ := at_T57 (Kd.R_reads' HO145.out).2.2 1 p161 q161; cases e161; (try simp only [show (1 : Int).toNat = 1 from rfl, Nat.reduceMul, Nat.reduceEqDiff, Go.Addr.add, ↓reduceIte] at hx161_0); (try simp only [show (1 : Int).toNat = 1 from rfl, Nat.reduceMul, Nat.reduceEqDiff, Go.Addr.add, ↓reduceIte] at hx161_1); (try simp only [show (1 : Int).toNat = 1 from rfl, Nat.reduceMul, Nat.reduceEqDiff, Go.Addr.add, ↓reduceIte] at hx161_2); (try simp only [show (1 : Int).toNat = 1 from rfl, Nat.reduceMul, Nat.reduceEqDiff, Go.Addr.add, ↓reduceIte] at hx161_3); have qi161 : (1 < t143.length) = True := eq_true (by omega); (try rw [show ((1 : Int)).toNat = 1 from rfl] at hx161_0); (try rw [show 1 * 4 = 4 from rfl] at hx161_0); (try rw [show ((1 : Int)).toNat = 1 from rfl] at hx161_1); (try rw [show 1 * 4 = 4 from rfl] at hx161_1); (try rw [show ((1 : Int)).toNat = 1 from rfl] at hx161_2); (try rw [show 1 * 4 = 4 from rfl] at hx161_2); (try rw [show ((1 : Int)).toNat = 1 from rfl] at hx161_3); (try rw [show 1 * 4 = 4 from rfl] at hx161_3); have hn161_0 : ad161.block ≠ gb160 := Kd.own_blk (Kd.R_ne HO145.out BK160.out (by decide)); have hn161_1 : ad161.block ≠ gb160 := Kd.own_blk (Kd.R_ne HO145.out BK160.out (by decide)); have hn161_2 : ad161.block ≠ gb160 := Kd.own_blk (Kd.R_ne HO145.out BK160.out (by decide)); replace hx161_0 := (cell_far (p := ⟨gb160, 0, none⟩) (by first | (rw [add_block]; exact hn161_0) | (show (Addr.add _ _).block ≠ _; rw [add_block]; exact hn161_0) | exact hn161_0) (.int .i64 t148)).trans hx161_0; replace hx161_1 := (cell_far (p := ⟨gb160, 0, none⟩) (by first | (rw [add_block]; exact hn161_0) | (show (Addr.add _ _).block ≠ _; rw [add_block]; exact hn161_0) | exact hn161_0) (.int .i64 t148)).trans hx161_1; replace hx161_2 := (cell_far (p := ⟨gb160, 0, none⟩) (by first | (rw [add_block]; exact hn161_0) | (show (Addr.add _ _).block ≠ _; rw [add_block]; exact hn161_0) | exact hn161_0) (.int .i64 t148)).trans hx161_2; replace hx161_3 := (cell_far (p := ⟨gb160, 0, none⟩) (by first | (rw [add_block]; exact hn161_0) | (show (Addr.add _ _).block ≠ _; rw [add_block]; exact hn161_0) | exact hn161_0) (.int .i64 t148)).trans hx161_3; replace hx161_0 := (cell_far (p := ⟨gb160, 1, none⟩) (by first | (rw [add_block]; exact hn161_1) | (show (Addr.add _ _).block ≠ _; rw [add_block]; exact hn161_1) | exact hn161_1) (.int .i64 t149)).trans hx161_0; replace hx161_1 := (cell_far (p := ⟨gb160, 1, none⟩) (by first | (rw [add_block]; exact hn161_1) | (show (Addr.add _ _).block ≠ _; rw [add_block]; exact hn161_1) | exact hn161_1) (.int .i64 t149)).trans hx161_1; replace hx161_2 := (cell_far (p := ⟨gb160, 1, none⟩) (by first | (rw [add_block]; exact hn161_1) | (show (Addr.add _ _).block ≠ _; rw [add_block]; exact hn161_1) | exact hn161_1) (.int .i64 t149)).trans hx161_2; replace hx161_3 := (cell_far (p := ⟨gb160, 1, none⟩) (by first | (rw [add_block]; exact hn161_1) | (show (Addr.add _ _).block ≠ _; rw [add_block]; exact hn161_1) | exact hn161_1) (.int .i64 t149)).trans hx161_3; replace hx161_0 := (cell_far (p := ⟨gb160, 2, none⟩) (by first | (rw [add_block]; exact hn161_2) | (show (Addr.add _ _).block ≠ _; rw [add_block]; exact hn161_2) | exact hn161_2) (.slice Ao20 t150.length co20)).trans hx161_0; replace hx161_1 := (cell_far (p := ⟨gb160, 2, none⟩) (by first | (rw [add_block]; exact hn161_2) | (show (Addr.add _ _).block ≠ _; rw [add_block]; exact hn161_2) | exact hn161_2) (.slice Ao20 t150.length co20)).trans hx161_1; replace hx161_2 := (cell_far (p := ⟨gb160, 2, none⟩) (by first | (rw [add_block]; exact hn161_2) | (show (Addr.add _ _).block ≠ _; rw [add_block]; exact hn161_2) | exact hn161_2) (.slice Ao20 t150.length co20)).trans hx161_2; replace hx161_3 := (cell_far (p := ⟨gb160, 2, none⟩) (by first | (rw [add_block]; exact hn161_2) | (show (Addr.add _ _).block ≠ _; rw [add_block]; exact hn161_2) | exact hn161_2) (.slice Ao20 t150.length co20)).trans hx161_3; clear hn161_0; clear hn161_1; clear hn161_2; replace p161 := eq_true p161; replace q161 := eq_true q161; obtain ⟨Ao22, co22, eo22⟩ := Kd.R_slice HO158.out; subst eo22; have p162 : 0 ≤ (1 : Int) := (by omega); have q162 : 1 < (t156.length : Int) := of_decide_eq_true (by first | (with_reducible assumption) | assumption); obtain ⟨ad162, e162, hx162_0, hx162_1, hx162_2, hx162_3⟩ := at_T57 (Kd.R_reads' HO158.out).2.2 1 p162 q162; cases e162; (try simp only [show (1 : Int).toNat = 1 from rfl, Nat.reduceMul, Nat.reduceEqDiff, Go.Addr.add, ↓reduceIte] at hx162_0); (try simp only [show (1 : Int).toNat = 1 from rfl, Nat.reduceMul, Nat.reduceEqDiff, Go.Addr.add, ↓reduceIte] at hx162_1); (try simp only [show (1 : Int).toNat = 1 from rfl, Nat.reduceMul, Nat.reduceEqDiff, Go.Addr.add, ↓reduceIte] at hx162_2); (try simp only [show (1 : Int).toNat = 1 from rfl, Nat.reduceMul, Nat.reduceEqDiff, Go.Addr.add, ↓reduceIte] at hx162_3); have qi162 : (1 < t156.length) = True := eq_true (by omega); (try rw [show ((1 : Int)).toNat = 1 from rfl] at hx162_0); (try rw [show 1 * 4 = 4 from rfl] at hx162_0); (try rw [show ((1 : Int)).toNat = 1 from rfl] at hx162_1); (try rw [show 1 * 4 = 4 from rfl] at hx162_1); (try rw [show ((1 : Int)).toNat = 1 from rfl] at hx162_2); (try rw [show 1 * 4 = 4 from rfl] at hx162_2); (try rw [show ((1 : Int)).toNat = 1 from rfl] at hx162_3); (try rw [show 1 * 4 = 4 from rfl] at hx162_3); have hn162_0 : ad162.block ≠ gb160 := Kd.own_blk (Kd.R_ne HO158.out BK160.out (by decide)); have hn162_1 : ad162.block ≠ gb160 := Kd.own_blk (Kd.R_ne HO158.out BK160.out (by decide)); have hn162_2 : ad162.block ≠ gb160 := Kd.own_blk (Kd.R_ne HO158.out BK160.out (by decide)); replace hx162_0 := (cell_far (p := ⟨gb160, 0, none⟩) (by first | (rw [add_block]; exact hn162_0) | (show (Addr.add _ _).block ≠ _; rw [add_block]; exact hn162_0) | exact hn162_0) (.int .i64 t148)).trans hx162_0; replace hx162_1 := (cell_far (p := ⟨gb160, 0, none⟩) (by first | (rw [add_block]; exact hn162_0) | (show (Addr.add _ _).block ≠ _; rw [add_block]; exact hn162_0) | exact hn162_0) (.int .i64 t148)).trans hx162_1; replace hx162_2 := (cell_far (p := ⟨gb160, 0, none⟩) (by first | (rw [add_block]; exact hn162_0) | (show (Addr.add _ _).block ≠ _; rw [add_block]; exact hn162_0) | exact hn162_0) (.int .i64 t148)).trans hx162_2; replace hx162_3 := (cell_far (p := ⟨gb160, 0, none⟩) (by first | (rw [add_block]; exact hn162_0) | (show (Addr.add _ _).block ≠ _; rw [add_block]; exact hn162_0) | exact hn162_0) (.int .i64 t148)).trans hx162_3; replace hx162_0 := (cell_far (p := ⟨gb160, 1, none⟩) (by first | (rw [add_block]; exact hn162_1) | (show (Addr.add _ _).block ≠ _; rw [add_block]; exact hn162_1) | exact hn162_1) (.int .i64 t149)).trans hx162_0; replace hx162_1 := (cell_far (p := ⟨gb160, 1, none⟩) (by first | (rw [add_block]; exact hn162_1) | (show (Addr.add _ _).block ≠ _; rw [add_block]; exact hn162_1) | exact hn162_1) (.int .i64 t149)).trans hx162_1; replace hx162_2 := (cell_far (p := ⟨gb160, 1, none⟩) (by first | (rw [add_block]; exact hn162_1) | (show (Addr.add _ _).block ≠ _; rw [add_block]; exact hn162_1) | exact hn162_1) (.int .i64 t149)).trans hx162_2; replace hx162_3 := (cell_far (p := ⟨gb160, 1, none⟩) (by first | (rw [add_block]; exact hn162_1) | (show (Addr.add _ _).block ≠ _; rw [add_block]; exact hn162_1) | exact hn162_1) (.int .i64 t149)).trans hx162_3; replace hx162_0 := (cell_far (p := ⟨gb160, 2, none⟩) (by first | (rw [add_block]; exact hn162_2) | (show (Addr.add _ _).block ≠ _; rw [add_block]; exact hn162_2) | exact hn162_2) (.slice Ao20 t150.length co20)).trans hx162_0; replace hx162_1 := (cell_far (p := ⟨gb160, 2, none⟩) (by first | (rw [add_block]; exact hn162_2) | (show (Addr.add _ _).block ≠ _; rw [add_block]; exact hn162_2) | exact hn162_2) (.slice Ao20 t150.length co20)).trans hx162_1; replace hx162_2 := (cell_far (p := ⟨gb160, 2, none⟩) (by first | (rw [add_block]; exact hn162_2) | (show (Addr.add _ _).block ≠ _; rw [add_block]; exact hn162_2) | exact hn162_2) (.slice Ao20 t150.length co20)).trans hx162_2; replace hx162_3 := (cell_far (p := ⟨gb160, 2, none⟩) (by first | (rw [add_block]; exact hn162_2) | (show (Addr.add _ _).block ≠ _; rw [add_block]; exact hn162_2) | exact hn162_2) (.slice Ao20 t150.length co20)).trans hx162_3; clear hn162_0; clear hn162_1; clear hn162_2; replace p162 := eq_true p162; replace q162 := eq_true q162))
 go_ret
 exact ⟨by first | rfl | (simp [errW_none, errW_some] <;> rfl) | (simp [*, errW_none, errW_some] <;> rfl), by repeat (first | (with_reducible first | exact HB.out | apply below_alloc | apply pw_below_drewN | apply below_drew1 | refine below_set ?_ GE147.out | refine below_set ?_ GE160.out) | exact HB.out)⟩

/-! ### splicelaw08_walk: function 23 (a row of charts: by hand) -/
abbrev Cht := S24
abbrev Chg := S39
def splicelaw08_walk.l0 : Nat → List Chg → Int → Int → Cht → List Cht → Option (Cht × List Cht)
  | 0, _, _, _, _, _ => none
  | k + 1, l, most, i, c, past => if i < (l.length : Int) then (if i < most then (if 0 ≤ i then ((chart_Apply.f k c.f0 c.f1 c.f2 (rd_T39 l i).f0 (rd_T39 l i).f1 (rd_T39 l i).f2).bind fun y => if y.2.2.2.2.2 = 0 then (if past.length < 1000000 then splicelaw08_walk.l0 k l most (wrap64 (i + 1)) ⟨y.1, y.2.1, y.2.2.1⟩ (past ++ [⟨y.1, y.2.1, y.2.2.1⟩]) else none) else splicelaw08_walk.l0 k l most (wrap64 (i + 1)) c past) else none) else some (c, past)) else some (c, past)
def walkN (a : Int) (m : Int) : Int := wrap64 (1 + Int.tmod (wrap64 (Int.tmod a m + m)) m)
def splicelaw08_walk.f (k : Nat) (a0 a1 : Int) (l : List Chg) (most : Int) : Option (Cht × List Cht) :=
  (chart_First.f k (walkN a0 5) (walkN a1 8)).bind fun b => splicelaw08_walk.l0 k l most 0 ⟨b.1, b.2.1, b.2.2.1⟩ [⟨b.1, b.2.1, b.2.2.1⟩]
theorem splicelaw08_walk.mono_l : ∀ k, (∀ l most i c past, LeO (splicelaw08_walk.l0 k l most i c past) (splicelaw08_walk.l0 (k + 1) l most i c past))
  | 0 => fun _ _ _ _ _ r h => by simp [splicelaw08_walk.l0] at h
  | k + 1 => by
    have ih0 := splicelaw08_walk.mono_l k
    intro l most i c past
    unfold splicelaw08_walk.l0
    repeat' first
      | (with_reducible exact ih0 _ _ _ _ _)
      | (with_reducible exact LeO.refl _)
      | (with_reducible exact LeO.none _)
      | (with_reducible exact chart_Apply.mono _ _ _ _ _ _ _)
      | (with_reducible refine LeO.ite ?_ ?_)
      | (with_reducible refine LeO.bind ?_ (fun _ => ?_))
theorem splicelaw08_walk.mono : ∀ a0 a1 l most k, LeO (splicelaw08_walk.f k a0 a1 l most) (splicelaw08_walk.f (k + 1) a0 a1 l most) := by
  intro a0 a1 l most k
  have ih0 := splicelaw08_walk.mono_l k
  unfold splicelaw08_walk.f
  repeat' first
      | (with_reducible exact ih0 _ _ _ _ _)
      | (with_reducible exact LeO.refl _)
      | (with_reducible exact chart_First.mono _ _ _)
      | (with_reducible refine LeO.bind ?_ (fun _ => ?_))
theorem infoC : (Try.prog.info? 24).map (fun i => (i.zero, i.size, i.bytes)) = some (some (.agg #[(.int .i64 0), (.int .i64 0), (.slice none 0 0)]), 3, 40) := by kernel_rfl
theorem chart_lit (W : World) (base : Nat) (x : Cht) (cs : List Value) (ok okp : Nat → Prop) (hp : k24.M W base okp x cs) (hok : ∀ k, okp k → ok k) (hf : ok W.heap.size) (hbase : base ≤ W.heap.size) :
    Kd.R k24 24 (W.alloc (.cells cs.toArray 24)) base ok (.slice (some ⟨W.heap.size, 0, none⟩) 1 1) [x] := by
  have hl : cs.length = k24.sz := k24.K_len (k24.K_of_M hp)
  refine ⟨fun k hk => ?_, cs, ?_, ?_⟩
  · have : W.heap.size = k := by simpa [Value.ownBlock] using hk
    subst this
    exact hf
  · have h2 := World.ownsRow_lit (base := base) (e := 24) (size := k24.sz) W cs.toArray 1 hbase (by decide) (by simpa using hl)
    simpa using h2
  · have hr := (Reps.none (k24.M W base okp) k24.sz).snoc hp hl
    rw [List.nil_append, List.nil_append] at hr
    refine hr.imp_ (fun p c hp => k24.M_mono (fun k hk => ⟨hok k hk.1, fun he => ?_⟩) (Kd.M_below (k24.M_bound hp) (below_alloc (Below.refl _ _) _)))
    have h3 : k = W.heap.size := by simpa [Value.ownBlock] using he
    have := hk.2.2.1
    omega
theorem R_off {W : World} {b : Nat} {ok : Nat → Prop} {v : Value} {xs : List (S57)} (h : Kd.R k57 57 W b ok v xs) {g : Nat} {cs : Array Value} (hb : W.heap[g]? = some (.cells cs 24 (0, 0))) : Kd.R k57 57 W b (fun k => ok k ∧ k ≠ g) v xs := Kd.R_types h hb (by decide)
theorem R_offP {W : World} {b b' : Nat} {ok ok' : Nat → Prop} {v p : Value} {xs : List (S57)} {ps : List Cht} (h : Kd.R k57 57 W b ok v xs) (hp : Kd.R k24 24 W b' ok' p ps) : Kd.R k57 57 W b (fun k => ok k ∧ some k ≠ p.ownBlock) v xs :=
  Kd.R_mono (Kd.R_bound h) (fun k hk => ⟨hk.1, fun e => by
    obtain ⟨inner, ho⟩ := Kd.R_own hp
    obtain ⟨cells, hc⟩ := own_typed ho k e.symm
    obtain ⟨_, _, _, q, hq, c2, hc2⟩ := hk
    rw [hc] at hc2
    injection hc2 with h1
    injection h1 with _ h2
    subst h2
    exact absurd hq (by decide)⟩)
/-- what lies in memory: the result, c, c's own row, the row of charts -/
structure WkS (w W : World) (kc : Nat) (c : Cht) (v : Value) (p : Value) (past : List Cht) : Prop where
  r0 : W.heap[w.heap.size]? = some (.cells #[.int .i64 0, .int .i64 0, .slice none 0 0] 24 (0, 0))
  cc : W.heap[kc]? = some (.cells #[.int .i64 c.f0, .int .i64 c.f1, v] 24 (0, 0))
  L : Kd.R k57 57 W w.heap.size (fun _ => True) v c.f2
  P : Kd.R k24 24 W w.heap.size (fun k_ => k_ ≠ kc ∧ k_ ≠ w.heap.size) p past
  k0c : w.heap.size ≠ kc
  kge : w.heap.size ≤ kc
  bel : Below w.heap.size w W
section
variable {w W W' : World} {kc : Nat} {c d : Cht} {v v' p p' : Value} {past : List Cht}
theorem WkS.below (h : WkS w W kc c v p past) (hb : Below W.heap.size W W') : WkS w W' kc c v p past :=
  ⟨blk_below h.r0 hb, blk_below h.cc hb, Kd.R_below h.L hb, Kd.R_below h.P hb, h.k0c, h.kge, h.bel.trans (hb.mono h.bel.size)⟩
theorem WkS.put (h : WkS w W kc c v p past) (hv : Kd.R k57 57 W w.heap.size (fun _ => True) v' d.f2) :
    WkS w (((W.setCell ⟨kc, 0, none⟩ (.int .i64 d.f0)).setCell ⟨kc, 1, none⟩ (.int .i64 d.f1)).setCell ⟨kc, 2, none⟩ v') kc d v' p past := by
  have b1 := blk_put h.cc 0 (.int .i64 d.f0) rfl
  have b2 := blk_put b1 1 (.int .i64 d.f1) rfl
  have b3 := blk_put b2 2 v' rfl
  have hv' := R_off hv h.cc
  exact ⟨blk_far (p := ⟨kc, 2, none⟩) (blk_far (p := ⟨kc, 1, none⟩) (blk_far (p := ⟨kc, 0, none⟩) h.r0 (by first | exact h.k0c | exact h.k0c.symm) _) (by first | exact h.k0c | exact h.k0c.symm) _) (by first | exact h.k0c | exact h.k0c.symm) _, b3,
    Kd.R_mono (Kd.R_far (Kd.R_far (Kd.R_far hv' (fun _ hk => hk.2) _) (fun _ hk => hk.2) _) (fun _ hk => hk.2) _) (fun _ _ => trivial),
    Kd.R_far (Kd.R_far (Kd.R_far h.P (fun _ hk => hk.1) _) (fun _ hk => hk.1) _) (fun _ hk => hk.1) _, h.k0c, h.kge, below_set (below_set (below_set h.bel h.kge) h.kge) h.kge⟩
theorem WkS.elem (h : WkS w W kc c v p past) : k24.M W w.heap.size (fun k_ => (k_ ≠ kc ∧ k_ ≠ w.heap.size) ∧ some k_ ≠ p.ownBlock) c [.int .i64 c.f0, .int .i64 c.f1, v] :=
  k24_mkM _ _ _ c (Kd.R_mono (R_offP (R_off (R_off h.L h.cc) h.r0) h.P) (fun _ hk => ⟨⟨hk.1.1.2, hk.1.2⟩, hk.2⟩))
theorem WkS.grown (h : WkS w W kc c v p past) (hg : W.grownBy W' p.ownBlock) (ho : Kd.R k24 24 W' w.heap.size (fun k_ => k_ ≠ kc ∧ k_ ≠ w.heap.size) p' (past ++ [c])) (hb : Below w.heap.size w W') : WkS w W' kc c v p' (past ++ [c]) :=
  ⟨blk_grown h.r0 hg (fun e => (h.P.1 _ e.symm).2 rfl), blk_grown h.cc hg (fun e => (h.P.1 _ e.symm).1 rfl),
    Kd.R_mono (Kd.R_step (R_offP h.L h.P) (fun k hk hlt => hg.block k hlt hk.2)) (fun _ _ => trivial), ho, h.k0c, h.kge, hb⟩
theorem WkS.put0 (h : WkS w W kc c v p past) : ∃ W2, W2 = (((W.setCell ⟨w.heap.size, 0, none⟩ (.int .i64 c.f0)).setCell ⟨w.heap.size, 1, none⟩ (.int .i64 c.f1)).setCell ⟨w.heap.size, 2, none⟩ v) ∧ W2.heap[w.heap.size]? = some (.cells #[.int .i64 c.f0, .int .i64 c.f1, v] 24 (0, 0)) ∧
    (∃ A n, v = .slice A c.f2.length n ∧ c.f2.length ≤ n ∧ Kd.C k57 W2 A c.f2.length c.f2) ∧ (∃ A n, p = .slice A past.length n ∧ past.length ≤ n ∧ Kd.C k24 W2 A past.length past) ∧ Below w.heap.size w W2 := by
  have b1 := blk_put h.r0 0 (.int .i64 c.f0) rfl
  have b2 := blk_put b1 1 (.int .i64 c.f1) rfl
  have b3 := blk_put b2 2 v rfl
  have hv' := R_off h.L h.r0
  have hl := Kd.R_far (p := ⟨w.heap.size, 2, none⟩) (Kd.R_far (p := ⟨w.heap.size, 1, none⟩) (Kd.R_far (p := ⟨w.heap.size, 0, none⟩) hv' (fun _ hk => hk.2) (.int .i64 c.f0)) (fun _ hk => hk.2) (.int .i64 c.f1)) (fun _ hk => hk.2) v
  have hP := Kd.R_far (p := ⟨w.heap.size, 2, none⟩) (Kd.R_far (p := ⟨w.heap.size, 1, none⟩) (Kd.R_far (p := ⟨w.heap.size, 0, none⟩) h.P (fun _ hk => hk.2) (.int .i64 c.f0)) (fun _ hk => hk.2) (.int .i64 c.f1)) (fun _ hk => hk.2) v
  exact ⟨_, rfl, b3, Kd.R_reads hl, Kd.R_reads hP, below_set (below_set (below_set h.bel (Nat.le_refl _)) (Nat.le_refl _)) (Nat.le_refl _)⟩
end
/-- the same, and a box for what Apply gave -/
structure WkD (w W : World) (kc gd : Nat) (c : Cht) (v p : Value) (past : List Cht) (u0 u1 u2 : Value) (v1 : Value) (l1 : List (S57)) : Prop where
  s : WkS w W kc c v p past
  d : W.heap[gd]? = some (.cells #[u0, u1, u2] 24 (0, 0))
  Pd : Kd.R k24 24 W w.heap.size (fun k_ => (k_ ≠ kc ∧ k_ ≠ w.heap.size) ∧ k_ ≠ gd) p past
  O : Kd.R k57 57 W w.heap.size (fun _ => True) v1 l1
  gk : gd ≠ kc
  g0 : gd ≠ w.heap.size
  gge : w.heap.size ≤ gd
section
variable {w W W' : World} {kc gd : Nat} {c d : Cht} {v p u0 u1 u2 v1 v2 : Value} {past : List Cht} {l1 l2 : List (S57)}
theorem WkS.boxed (h : WkS w W kc c v p past) (ho : Kd.R k57 57 W w.heap.size (fun _ => True) v1 l1) (hg : gd = W.heap.size) (hbox : W'.heap[gd]? = some (.cells #[u0, u1, u2] 24 (0, 0))) (hb : Below W.heap.size W W') : WkD w W' kc gd c v p past u0 u1 u2 v1 l1 :=
  ⟨h.below hb, hbox, Kd.R_below (Kd.R_mono (Kd.R_bound h.P) (fun k hk => ⟨hk.1, by have := hk.2.2.1; omega⟩)) hb, Kd.R_below ho hb, by have := blk_lt h.cc; omega, by have := blk_lt h.r0; omega, by have := h.bel.size; omega⟩
theorem WkD.below (h : WkD w W kc gd c v p past u0 u1 u2 v1 l1) (hb : Below W.heap.size W W') : WkD w W' kc gd c v p past u0 u1 u2 v1 l1 :=
  ⟨h.s.below hb, blk_below h.d hb, Kd.R_below h.Pd hb, Kd.R_below h.O hb, h.gk, h.g0, h.gge⟩
theorem WkD.got (h : WkD w W kc gd c v p past u0 u1 u2 v1 l1) (hb : Below W.heap.size W W') (ho : Kd.R k57 57 W' w.heap.size (fun _ => True) v2 l2) : WkD w W' kc gd c v p past u0 u1 u2 v2 l2 :=
  ⟨h.s.below hb, blk_below h.d hb, Kd.R_below h.Pd hb, ho, h.gk, h.g0, h.gge⟩
theorem WkD.store (h : WkD w W kc gd c v p past u0 u1 u2 v1 l1) (t0 t1 t2 : Value) : WkD w (((W.setCell ⟨gd, 0, none⟩ t0).setCell ⟨gd, 1, none⟩ t1).setCell ⟨gd, 2, none⟩ t2) kc gd c v p past t0 t1 t2 v1 l1 := by
  have b1 := blk_put h.d 0 t0 rfl
  have b2 := blk_put b1 1 t1 rfl
  have b3 := blk_put b2 2 t2 rfl
  have hl := Kd.R_far (p := ⟨gd, 2, none⟩) (Kd.R_far (p := ⟨gd, 1, none⟩) (Kd.R_far (p := ⟨gd, 0, none⟩) (R_off h.s.L h.d) (fun _ hk => hk.2) t0) (fun _ hk => hk.2) t1) (fun _ hk => hk.2) t2
  have ho := Kd.R_far (p := ⟨gd, 2, none⟩) (Kd.R_far (p := ⟨gd, 1, none⟩) (Kd.R_far (p := ⟨gd, 0, none⟩) (R_off h.O h.d) (fun _ hk => hk.2) t0) (fun _ hk => hk.2) t1) (fun _ hk => hk.2) t2
  have hp := Kd.R_far (p := ⟨gd, 2, none⟩) (Kd.R_far (p := ⟨gd, 1, none⟩) (Kd.R_far (p := ⟨gd, 0, none⟩) h.Pd (fun _ hk => hk.2) t0) (fun _ hk => hk.2) t1) (fun _ hk => hk.2) t2
  have f0 : w.heap.size ≠ gd := fun e => h.g0 e.symm
  have f1 : kc ≠ gd := fun e => h.gk e.symm
  exact ⟨⟨blk_far (p := ⟨gd, 2, none⟩) (blk_far (p := ⟨gd, 1, none⟩) (blk_far (p := ⟨gd, 0, none⟩) h.s.r0 f0 t0) f0 t1) f0 t2,
    blk_far (p := ⟨gd, 2, none⟩) (blk_far (p := ⟨gd, 1, none⟩) (blk_far (p := ⟨gd, 0, none⟩) h.s.cc f1 t0) f1 t1) f1 t2,
    Kd.R_mono hl (fun _ _ => trivial), Kd.R_mono hp (fun _ hk => hk.1), h.s.k0c, h.s.kge, below_set (below_set (below_set h.s.bel h.gge) h.gge) h.gge⟩, b3, hp, Kd.R_mono ho (fun _ _ => trivial), h.gk, h.g0, h.gge⟩
end
def wk6.T : Bool × List (List Nat × List Nat) := (true, [([], []), ([], []), ([], []), ([1, 2], [1, 2]), ([3], [3]), ([0, 4], [0, 4]), ([5], [5]), ([6], [6]), ([6], [6]), ([6], [6]), ([6], [6]), ([], []), ([11, 7, 5, 0, 1, 2, 3, 4, 5, 6, 7, 11], [7, 11]), ([8, 12, 0, 1, 2, 3, 4, 5, 6, 7, 8, 11, 12], [8]), ([9, 13, 0, 1, 2, 3, 4, 5, 6, 7, 8, 9, 11, 12, 13], [9]), ([10, 14, 0, 1, 2, 3, 4, 5, 6, 7, 8, 9, 10, 11, 12, 13, 14], [10])])
def wk6.B : List Nat := [0, 0, 0, 6, 14, 31, 63, 127, 127, 127, 127, 0, 2303, 383, 639, 1151]
theorem wk6.tab : rtab .any (opsOf Try.f23 6) = wk6.T := by kernel_rfl
theorem wk6.bits : waitsOk wk6.T.2 wk6.B = true := by kernel_rfl
set_option maxHeartbeats 8000000 in
set_option maxRecDepth 100000 in
theorem splicelaw08_walk.calls (k : Nat) (a0 a1 : Int) (A2 : Option Addr) (c2 : Nat) (l2 : List Chg) (most : Int) (r : Cht × List Cht) (w : World) (hr2 : Kd.C k39 w A2 l2.length l2) (hc2 : l2.length ≤ c2) (h : splicelaw08_walk.f k a0 a1 l2 most = some r) :
    Calls Try.prog 23 #[.int .i64 a0, .int .i64 a1, .slice A2 l2.length c2, .int .i64 most] w fun e w' => ∃ (Ac : Option Addr) (cc : Nat) (Ap : Option Addr) (cp : Nat), e = .returned (.tuple #[.agg #[.int .i64 r.1.f0, .int .i64 r.1.f1, .slice Ac r.1.f2.length cc], .slice Ap r.2.length cp]) ∧ r.1.f2.length ≤ cc ∧ Kd.C k57 w' Ac r.1.f2.length r.1.f2 ∧ r.2.length ≤ cp ∧ Kd.C k24 w' Ap r.2.length r.2 ∧ Below w.heap.size w w' := by
  have hu24 := Try.underlying24
  have hu39 := Try.underlying39
  obtain ⟨b, hb, h⟩ := Option.bind_eq_some_iff.1 h
  obtain ⟨b1, b2, b3, b4⟩ := b
  have HF := Aside0.mk hb
  have HH := Aside0.mk h
  have HR2 := Aside0.mk hr2
  have HC2 := Aside0.mk hc2
  clear hb h hr2 hc2
  clear h
  have hr0 := Aside0.mk (blk_new w (.cells #[.int .i64 0, .int .i64 0, .slice none 0 0] 24))
  have hbl := Aside0.mk ((Below.refl w.heap.size w).alloc (Nat.le_refl _) (.cells #[.int .i64 0, .int .i64 0, .slice none 0 0] 24))
  go_enter Try.func23, Try.ntmps23
  go_wp2_with fail
  refine (chart_First.calls k (walkN a0 5) (walkN a1 8) b1 b2 b3 b4 _ HF.out).mono ?_
  rintro e w1 ⟨v, rfl, hL, hb⟩
  obtain ⟨Ac, nc, rfl⟩ := Kd.R_slice hL
  have hL1 := Aside0.mk (Kd.R_lower hL hbl.out.size)
  have hr1 := Aside0.mk (blk_below hr0.out hb)
  have hbl1 := Aside0.mk (hbl.out.trans (hb.mono hbl.out.size))
  clear hL hb hr0 hbl
  go_wp2_with fail
  have hlt := blk_lt hr1.out
  have HS : Aside0 (WkS w ((w1.alloc (.cells #[.int .i64 b1, .int .i64 b2, .slice Ac b3.length nc] 24)).alloc (.cells #[.int .i64 b1, .int .i64 b2, .slice Ac b3.length nc] 24)) w1.heap.size ⟨b1, b2, b3⟩ (.slice Ac b3.length nc) (.slice (some ⟨w1.heap.size + 1, 0, none⟩) 1 1) [⟨b1, b2, b3⟩]) := ⟨by
    have hsz : (w1.alloc (.cells #[.int .i64 b1, .int .i64 b2, .slice Ac b3.length nc] 24)).heap.size = w1.heap.size + 1 := by simp
    have hL := Kd.R_alloc hL1.out (.cells #[.int .i64 b1, .int .i64 b2, .slice Ac b3.length nc] 24)
    have hC := blk_new w1 (.cells #[.int .i64 b1, .int .i64 b2, .slice Ac b3.length nc] 24)
    have h0 := blk_alloc hr1.out (.cells #[.int .i64 b1, .int .i64 b2, .slice Ac b3.length nc] 24)
    have hP := chart_lit (w1.alloc (.cells #[.int .i64 b1, .int .i64 b2, .slice Ac b3.length nc] 24)) w.heap.size ⟨b1, b2, b3⟩ [.int .i64 b1, .int .i64 b2, .slice Ac b3.length nc] (fun k_ => k_ ≠ w1.heap.size ∧ k_ ≠ w.heap.size) (fun k_ => k_ ≠ w1.heap.size ∧ k_ ≠ w.heap.size) (k24_mkM _ _ _ ⟨b1, b2, b3⟩ (Kd.R_mono (R_off (R_off hL hC) h0) (fun _ hk => ⟨hk.1.2, hk.2⟩))) (fun _ hk => hk) (by rw [hsz]; omega) (by rw [hsz]; omega)
    rw [hsz] at hP
    exact ⟨blk_alloc h0 _, blk_alloc hC _, Kd.R_alloc hL _, hP, by omega, by omega, (hbl1.out.alloc (by omega) _).alloc (by rw [hsz]; omega) _⟩⟩
  clear hL1 hr1 hbl1 HF hlt
  generalize w1.heap.size = kc at HS ⊢
  go_loopg [12, 13] k (fun kq v12 v13 W => ∃ (i : Int) (c : Cht) (v p : Value) (past : List Cht), v12 = p ∧ v13 = .int .i64 i ∧ Aside0 (splicelaw08_walk.l0 kq l2 most i c past = some r) ∧ Aside0 (kq ≤ k) ∧ Aside0 (WkS w W kc c v p past))
  case atStart => exact ⟨0, _, _, _, _, rfl, rfl, HH, ⟨Nat.le_refl _⟩, HS⟩
  case round =>
    clear HS HH
    obtain ⟨i, c, v, p, past, rfl, rfl, HA, HK1, HS⟩ := hrel
    cases gk with
    | zero => exact absurd HA.out (by simp [splicelaw08_walk.l0])
    | succ k1 =>
      have H := HA.out
      clear HA
      simp only [splicelaw08_walk.l0] at H
      by_cases c1 : i < (l2.length : Int)
      case neg =>
        rw [if_neg c1] at H
        have q1 : decide (i < (l2.length : Int)) = false := decide_eq_false c1
        simp only [Option.some.injEq] at H
        subst H
        obtain ⟨Al, cl, rfl⟩ := Kd.R_slice HS.out.L
        obtain ⟨Ap, np, rfl⟩ := Kd.R_slice HS.out.P
        have g0 := blk_cell HS.out.cc 0
        have g1 := blk_cell HS.out.cc 1
        have g2 := blk_cell HS.out.cc 2
        have h0 := blk_cell HS.out.r0 0
        have h1 := blk_cell HS.out.r0 1
        have h2 := blk_cell HS.out.r0 2
        have h3 := blk_frozen HS.out.r0 0
        have h4 := blk_frozen HS.out.r0 1
        have h5 := blk_frozen HS.out.r0 2
        go_wp2_with fail
        obtain ⟨W2, e2, hE, ⟨A', n', e3, hl1, hl2⟩, ⟨A'', n'', e4, hp1, hp2⟩, hb2⟩ := HS.out.put0
        subst e2
        refine bodyPost_ret (results_ct rfl _ _ w.heap.size 24 #[.int .i64 c.f0, .int .i64 c.f1, .slice Al c.f2.length cl] (0, 0) _ rfl hE Try.underlying24 rfl (by kernel_rfl)) rfl ?_
        cases e3
        cases e4
        exact ⟨_, _, _, _, rfl, hl1, hl2, hp1, hp2, hb2⟩
      rw [if_pos c1] at H
      have q1 : decide (i < (l2.length : Int)) = true := decide_eq_true c1
      by_cases c2 : i < most
      case neg =>
        rw [if_neg c2] at H
        have q2 : decide (i < most) = false := decide_eq_false c2
        simp only [Option.some.injEq] at H
        subst H
        obtain ⟨Al, cl, rfl⟩ := Kd.R_slice HS.out.L
        obtain ⟨Ap, np, rfl⟩ := Kd.R_slice HS.out.P
        have g0 := blk_cell HS.out.cc 0
        have g1 := blk_cell HS.out.cc 1
        have g2 := blk_cell HS.out.cc 2
        have h0 := blk_cell HS.out.r0 0
        have h1 := blk_cell HS.out.r0 1
        have h2 := blk_cell HS.out.r0 2
        have h3 := blk_frozen HS.out.r0 0
        have h4 := blk_frozen HS.out.r0 1
        have h5 := blk_frozen HS.out.r0 2
        go_wp2_with fail
        obtain ⟨W2, e2, hE, ⟨A', n', e3, hl1, hl2⟩, ⟨A'', n'', e4, hp1, hp2⟩, hb2⟩ := HS.out.put0
        subst e2
        refine bodyPost_ret (results_ct rfl _ _ w.heap.size 24 #[.int .i64 c.f0, .int .i64 c.f1, .slice Al c.f2.length cl] (0, 0) _ rfl hE Try.underlying24 rfl (by kernel_rfl)) rfl ?_
        cases e3
        cases e4
        exact ⟨_, _, _, _, rfl, hl1, hl2, hp1, hp2, hb2⟩
      rw [if_pos c2] at H
      have q2 : decide (i < most) = true := decide_eq_true c2
      by_cases c3 : 0 ≤ i
      case neg => rw [if_neg c3] at H; exact absurd H (by simp)
      rw [if_pos c3] at H
      obtain ⟨y, hy, H⟩ := Option.bind_eq_some_iff.1 H
      obtain ⟨y1, y2, y3, y4, y5, y6⟩ := y
      dsimp only at H hy
      have A1 := Aside0.mk hy
      have HN := Aside0.mk H
      clear hy H
      obtain ⟨Al, cl, rfl⟩ := Kd.R_slice HS.out.L
      obtain ⟨ad, e2, hx0, hx1, hx2⟩ := at_T39 HR2.out i c3 c1
      subst e2
      have p3 := eq_true c3
      have p1 := eq_true c1
      go_wp2_with fail
      have HS := Aside0.mk (HS.out.below (below_drew (Below.refl _ _)))
      refine start_ (n := 16) (S := fun w' => w'.cell? ⟨kc, 0, none⟩ = some (.int .i64 c.f0) ∧ w'.cell? ⟨kc, 1, none⟩ = some (.int .i64 c.f1) ∧ w'.cell? ⟨kc, 2, none⟩ = some (.slice Al c.f2.length cl) ∧ w'.cell? (ad.add (i.toNat * 3)) = some (.int .i64 (rd_T39 l2 i).f0) ∧ w'.cell? ⟨(ad.add (i.toNat * 3)).block, (ad.add (i.toNat * 3)).off + 1, none⟩ = some (.int .i64 (rd_T39 l2 i).f1) ∧ w'.cell? ⟨(ad.add (i.toNat * 3)).block, (ad.add (i.toNat * 3)).off + 2, none⟩ = some (.int .i64 (rd_T39 l2 i).f2)) (ds := []) #[false, false, false, false, false, false, false, false, false, false, false, false, false, false, false, false] (by kernel_rfl) rfl rfl ⟨(blk_cell HS.out.cc 0).trans rfl, (blk_cell HS.out.cc 1).trans rfl, (blk_cell HS.out.cc 2).trans rfl, ((HS.out.bel.cell (World.block_lt_of_cell? w _ hx0)).trans hx0), ((HS.out.bel.cell (World.block_lt_of_cell? w _ hx1)).trans hx1), ((HS.out.bel.cell (World.block_lt_of_cell? w _ hx2)).trans hx2)⟩ (fun hHeld => ?_); refine with_tabW wk6.tab wk6.bits (fun HT_ HW_ => ?_)
      generalize wr.drew = wd at HS hHeld ⊢
      refine pure_ (i := 1) (N := some 47) (v := ?_) (a' := ?_) #[false, true, false, false, false, false, false, false, false, false, false, false, false, false, false, false] rfl rfl (any_of HT_.out (by kernel_rfl)) (fun _ _ _ h => h) (Or.inl ⟨by rfl, ?_⟩) ?_ ?_
      rotate_left
      · intro w'
        go_simp
        with_reducible rfl
      rotate_left
      · simp only [Act.put, List.setIfInBounds_toArray, List.set_cons_zero, List.set_cons_succ, i64_w, i32_w]
        rfl
      refine pure_ (i := 2) (N := some 48) (v := ?_) (a' := ?_) #[false, true, true, false, false, false, false, false, false, false, false, false, false, false, false, false] rfl rfl (any_of HT_.out (by kernel_rfl)) (fun _ _ _ h => h) (Or.inl ⟨by rfl, ?_⟩) ?_ ?_
      rotate_left
      · intro w'
        go_simp
        with_reducible rfl
      rotate_left
      · simp only [Act.put, List.setIfInBounds_toArray, List.set_cons_zero, List.set_cons_succ, i64_w, i32_w]
        rfl
      refine take_ (i := 0) (N := some 46) (v := ?_) (a' := ?_) #[true, true, true, false, false, false, false, false, false, false, false, false, false, false, false, false] rfl rfl (take_ofW HT_.out HW_.out (by kernel_rfl)) (fun _ _ _ h => h) (Or.inl ⟨by rfl, ?_⟩) hHeld ?_ ?_
      rotate_left
      · rintro w' ⟨s0, s1, s2, s3, s4, s5⟩
        go_simp
        with_reducible rfl
      rotate_left
      · simp only [Act.put, List.setIfInBounds_toArray, List.set_cons_zero, List.set_cons_succ, i64_w, i32_w]
        rfl
      refine pure_ (i := 3) (N := some 49) (v := ?_) (a' := ?_) #[true, true, true, true, false, false, false, false, false, false, false, false, false, false, false, false] rfl rfl (any_of HT_.out (by kernel_rfl)) (fun _ _ _ h => h) (Or.inl ⟨by rfl, ?_⟩) ?_ ?_
      rotate_left
      · intro w'
        go_simp
        with_reducible rfl
      rotate_left
      · simp only [Act.put, List.setIfInBounds_toArray, List.set_cons_zero, List.set_cons_succ, i64_w, i32_w]
        rfl
      refine take_ (i := 4) (N := some 50) (v := ?_) (a' := ?_) #[true, true, true, true, true, false, false, false, false, false, false, false, false, false, false, false] rfl rfl (take_ofW HT_.out HW_.out (by kernel_rfl)) (fun _ _ _ h => h) (Or.inl ⟨by rfl, ?_⟩) hHeld ?_ ?_
      rotate_left
      · rintro w' ⟨s0, s1, s2, s3, s4, s5⟩
        go_simp
        with_reducible rfl
      rotate_left
      · simp only [Act.put, List.setIfInBounds_toArray, List.set_cons_zero, List.set_cons_succ, i64_w, i32_w]
        rfl
      refine two_ (i := 5) (j := 11) (Ni := some 51) (Nj := some 14) #[true, true, true, true, true, true, false, false, false, false, false, false, false, false, false, false] #[true, true, true, true, true, false, false, false, false, false, false, true, false, false, false, false] rfl rfl rfl rfl (two_of HT_.out (by kernel_rfl)) (by decide) (by decide) (fun K hK => ?_) (fun K hK => ?_)
      · refine goes_ Try.func19 (by kernel_rfl) rfl #[.agg #[.int .i64 c.f0, .int .i64 c.f1, .slice Al c.f2.length cl], .agg #[.int .i64 (rd_T39 l2 i).f0, .int .i64 (rd_T39 l2 i).f1, .int .i64 (rd_T39 l2 i).f2]] (by rfl) rfl rfl (by (try simp only [List.map_toArray, List.map_cons, List.map_nil]); first | done | rfl) ?_
        with_reducible refine (chart_Apply.calls k1 c.f0 c.f1 _ _ c.f2 _ _ _ y1 y2 y3 y4 y5 y6 _ (Kd.R_reads' HS.out.L).2.2 (Kd.R_reads' HS.out.L).2.1 A1.out).mono ?_
        rintro e w6 ⟨v1, v2, v3, rfl, ho1, ho2, ho3, hb⟩
        refine ⟨_, rfl, ?_⟩
        have HO := Aside0.mk (Kd.R_mono (Kd.R_lower ho1 HS.out.bel.size) (ok' := fun _ => True) (fun _ _ => trivial))
        obtain ⟨A1', n1', rfl⟩ := Kd.R_slice HO.out
        replace HS := Aside0.mk (HS.out.below hb)
        clear ho1 ho2 ho3 hb
        refine hK.out _ _ ⟨(blk_cell HS.out.cc 0).trans rfl, (blk_cell HS.out.cc 1).trans rfl, (blk_cell HS.out.cc 2).trans rfl, ((HS.out.bel.cell (World.block_lt_of_cell? w _ hx0)).trans hx0), ((HS.out.bel.cell (World.block_lt_of_cell? w _ hx1)).trans hx1), ((HS.out.bel.cell (World.block_lt_of_cell? w _ hx2)).trans hx2)⟩ (fun hHeld => ?_)
        clear hK K
        refine norm_ (a' := ?_) ?_ ?_
        rotate_left
        · show Act.put _ (some 51) _ = _
          simp only [Act.put, List.setIfInBounds_toArray, List.set_cons_zero, List.set_cons_succ, i64_w, i32_w]
          rfl
        refine pure_ (i := 6) (N := some 45) (v := ?_) (a' := ?_) #[true, true, true, true, true, true, true, false, false, false, false, false, false, false, false, false] rfl rfl (any_of HT_.out (by kernel_rfl)) (fun _ _ _ h => h) (Or.inl ⟨by rfl, ?_⟩) ?_ ?_
        rotate_left
        · intro w'
          go_simp
          with_reducible rfl
        rotate_left
        · simp only [Act.put, List.setIfInBounds_toArray, List.set_cons_zero, List.set_cons_succ, i64_w, i32_w]
          rfl
        refine pure_ (i := 7) (N := some 52) (v := ?_) (a' := ?_) #[true, true, true, true, true, true, true, true, false, false, false, false, false, false, false, false] rfl rfl (any_of HT_.out (by kernel_rfl)) (fun _ _ _ h => h) (Or.inl ⟨by rfl, ?_⟩) ?_ ?_
        rotate_left
        · intro w'
          go_simp
          with_reducible rfl
        rotate_left
        · simp only [Act.put, List.setIfInBounds_toArray, List.set_cons_zero, List.set_cons_succ, i64_w, i32_w]
          rfl
        refine pure_ (i := 8) (N := some 53) (v := ?_) (a' := ?_) #[true, true, true, true, true, true, true, true, true, false, false, false, false, false, false, false] rfl rfl (any_of HT_.out (by kernel_rfl)) (fun _ _ _ h => h) (Or.inl ⟨by rfl, ?_⟩) ?_ ?_
        rotate_left
        · intro w'
          go_simp
          with_reducible rfl
        rotate_left
        · simp only [Act.put, List.setIfInBounds_toArray, List.set_cons_zero, List.set_cons_succ, i64_w, i32_w]
          rfl
        refine pure_ (i := 9) (N := some 54) (v := ?_) (a' := ?_) #[true, true, true, true, true, true, true, true, true, true, false, false, false, false, false, false] rfl rfl (any_of HT_.out (by kernel_rfl)) (fun _ _ _ h => h) (Or.inl ⟨by rfl, ?_⟩) ?_ ?_
        rotate_left
        · intro w'
          go_simp
          with_reducible rfl
        rotate_left
        · simp only [Act.put, List.setIfInBounds_toArray, List.set_cons_zero, List.set_cons_succ, i64_w, i32_w]
          rfl
        refine pure_ (i := 10) (N := some 55) (v := ?_) (a' := ?_) #[true, true, true, true, true, true, true, true, true, true, true, false, false, false, false, false] rfl rfl (any_of HT_.out (by kernel_rfl)) (fun _ _ _ h => h) (Or.inl ⟨by rfl, ?_⟩) ?_ ?_
        rotate_left
        · intro w'
          go_simp
          with_reducible rfl
        rotate_left
        · simp only [Act.put, List.setIfInBounds_toArray, List.set_cons_zero, List.set_cons_succ, i64_w, i32_w]
          rfl
        refine one_ (i := 11) (N := some 14) #[true, true, true, true, true, true, true, true, true, true, true, true, false, false, false, false] rfl rfl (one_of HT_.out (by kernel_rfl)) (by decide) (fun K hK => ?_)
        refine box_step ?hg (N := 14) ?hd (cs := #[.int .i64 0, .int .i64 0, .slice none 0 0]) (t := 24) ?hr ?_; (case hd => rfl); (case hg => rfl); (case hr => first | (go_simp; done) | (go_simp; rfl))
        intro gd hg w7 hbox hb
        have HD := Aside0.mk (HS.out.boxed HO.out hg hbox hb)
        clear HS HO hbox hb hg
        refine hK.out _ _ ⟨(blk_cell HD.out.s.cc 0).trans rfl, (blk_cell HD.out.s.cc 1).trans rfl, (blk_cell HD.out.s.cc 2).trans rfl, ((HD.out.s.bel.cell (World.block_lt_of_cell? w _ hx0)).trans hx0), ((HD.out.s.bel.cell (World.block_lt_of_cell? w _ hx1)).trans hx1), ((HD.out.s.bel.cell (World.block_lt_of_cell? w _ hx2)).trans hx2)⟩ (fun hHeld => ?_)
        clear hK K
        refine norm_ (a' := ?_) ?_ ?_
        rotate_left
        · show Act.put _ (some 14) _ = _
          simp only [Act.put, List.setIfInBounds_toArray, List.set_cons_zero, List.set_cons_succ, i64_w, i32_w]
          rfl
        refine one_ (i := 12) (N := none) #[true, true, true, true, true, true, true, true, true, true, true, true, true, false, false, false] rfl rfl (one_of HT_.out (by kernel_rfl)) (by decide) (fun K hK => ?_)
        have g0 := blk_cell HD.out.d 0
        have g1 := blk_cell HD.out.d 1
        have g2 := blk_cell HD.out.d 2
        have f0 := blk_frozen HD.out.d 0
        have f1 := blk_frozen HD.out.d 1
        have f2 := blk_frozen HD.out.d 2
        refine skip_ (w1 := ?_) (by rfl) rfl ?_ ?_
        rotate_left
        · go_simp
          rfl
        replace HD := Aside0.mk (HD.out.store (.int .i64 y1) (.int .i64 y2) (.slice A1' y3.length n1'))
        clear g0 g1 g2 f0 f1 f2
        refine hK.out _ _ ⟨(blk_cell HD.out.s.cc 0).trans rfl, (blk_cell HD.out.s.cc 1).trans rfl, (blk_cell HD.out.s.cc 2).trans rfl, ((HD.out.s.bel.cell (World.block_lt_of_cell? w _ hx0)).trans hx0), ((HD.out.s.bel.cell (World.block_lt_of_cell? w _ hx1)).trans hx1), ((HD.out.s.bel.cell (World.block_lt_of_cell? w _ hx2)).trans hx2)⟩ (fun hHeld => ?_)
        clear hK K
        refine pure_ (i := 13) (N := some 15) (v := ?_) (a' := ?_) #[true, true, true, true, true, true, true, true, true, true, true, true, true, true, false, false] rfl rfl (any_of HT_.out (by kernel_rfl)) (fun _ _ _ h => h) (Or.inl ⟨by rfl, ?_⟩) ?_ ?_
        rotate_left
        · intro w'
          go_simp
          with_reducible rfl
        rotate_left
        · simp only [Act.put, List.setIfInBounds_toArray, List.set_cons_zero, List.set_cons_succ, i64_w, i32_w]
          rfl
        refine pure_ (i := 14) (N := some 16) (v := ?_) (a' := ?_) #[true, true, true, true, true, true, true, true, true, true, true, true, true, true, true, false] rfl rfl (any_of HT_.out (by kernel_rfl)) (fun _ _ _ h => h) (Or.inl ⟨by rfl, ?_⟩) ?_ ?_
        rotate_left
        · intro w'
          go_simp
          with_reducible rfl
        rotate_left
        · simp only [Act.put, List.setIfInBounds_toArray, List.set_cons_zero, List.set_cons_succ, i64_w, i32_w]
          rfl
        refine pure_ (i := 15) (N := some 17) (v := ?_) (a' := ?_) #[true, true, true, true, true, true, true, true, true, true, true, true, true, true, true, true] rfl rfl (any_of HT_.out (by kernel_rfl)) (fun _ _ _ h => h) (Or.inl ⟨by rfl, ?_⟩) ?_ ?_
        rotate_left
        · intro w'
          go_simp
          with_reducible rfl
        rotate_left
        · simp only [Act.put, List.setIfInBounds_toArray, List.set_cons_zero, List.set_cons_succ, i64_w, i32_w]
          rfl
        refine done_ (done_of HT_.out (by kernel_rfl)) ?_
        clear hHeld HT_ HW_
        generalize (((w7.setCell ⟨gd, 0, none⟩ (.int .i64 y1)).setCell ⟨gd, 1, none⟩ (.int .i64 y2)).setCell ⟨gd, 2, none⟩ (.slice A1' y3.length n1')) = wx at HD ⊢
        have HO := Aside0.mk HD.out.O
        by_cases c6 : y6 = 0
        · subst c6
          have HN1 := HN.out
          rw [if_pos rfl] at HN1
          by_cases c7 : past.length < 1000000
          case neg => rw [if_neg c7] at HN1; exact absurd HN1 (by simp)
          rw [if_pos c7] at HN1
          replace HN := Aside0.mk HN1
          clear HN1
          have g0 := blk_cell HD.out.d 0
          have g1 := blk_cell HD.out.d 1
          have g2 := blk_cell HD.out.d 2
          have h0 := blk_cell HD.out.s.cc 0
          have h1 := blk_cell HD.out.s.cc 1
          have h2 := blk_cell HD.out.s.cc 2
          have h3 := blk_frozen HD.out.s.cc 0
          have h4 := blk_frozen HD.out.s.cc 1
          have h5 := blk_frozen HD.out.s.cc 2
          go_upto_region 9 with (fail)
          have HS9 := Aside0.mk (HD.out.s.put (d := ⟨y1, y2, y3⟩) HO.out)
          clear g0 g1 g2 h0 h1 h2 h3 h4 h5 HD HO
          generalize (((wx.setCell ⟨kc, 0, none⟩ (.int .i64 y1)).setCell ⟨kc, 1, none⟩ (.int .i64 y2)).setCell ⟨kc, 2, none⟩ (.slice A1' y3.length n1')) = w9 at HS9 ⊢
          have g0 := blk_cell HS9.out.cc 0
          have g1 := blk_cell HS9.out.cc 1
          have g2 := blk_cell HS9.out.cc 2
          go_wp2_with (at_builtin; refine Kd.R_append k24 (w0 := w) w.heap.size rfl (.tmp 59) (.tmp 61) 51 24 (.agg #[.int .i64 0, .int .i64 0, .slice none 0 0]) 40 rfl Try.underlying51 infoC rfl (by decide) (by omega) u12 past ⟨y1, y2, y3⟩ [.int .i64 y1, .int .i64 y2, .slice A1' y3.length n1'] (fun k_ => k_ ≠ kc ∧ k_ ≠ w.heap.size) (fun k_ => (k_ ≠ kc ∧ k_ ≠ w.heap.size) ∧ some k_ ≠ u12.ownBlock) rfl rfl HS9.out.elem (fun _ hk => hk) (fun k_ hk => ⟨by have := blk_lt HS9.out.cc; omega, by have := blk_lt HS9.out.r0; omega⟩) HS9.out.P HS9.out.bel HS9.out.bel.size (by omega) ?_; intro p2 w10 ho hb hg hat; replace HS9 := Aside0.mk (HS9.out.grown hg ho hb); clear ho hb hg hat g0 g1 g2)
          go_roundg k1
          case measure => have := HK1.out; omega
          case rel => exact ⟨wrap64 (i + 1), ⟨y1, y2, y3⟩, _, _, _, rfl, (by first | rfl | (simp; done) | (simp [*]; done)), HN, ⟨by have := HK1.out; omega⟩, HS9⟩
        · have HN1 := HN.out
          rw [if_neg c6] at HN1
          replace HN := Aside0.mk HN1
          clear HN1
          have q6 : (y6 == 0) = false := beq_eq_false_iff_ne.mpr c6
          have q7 : decide (y6 = 0) = false := decide_eq_false c6
          go_wp2_with fail
          go_roundg k1
          case measure => have := HK1.out; omega
          case rel => exact ⟨wrap64 (i + 1), c, _, _, past, rfl, (by first | rfl | (simp; done) | (simp [*]; done)), HN, ⟨by have := HK1.out; omega⟩, ⟨HD.out.s⟩⟩
      · refine box_step ?hg (N := 14) ?hd (cs := #[.int .i64 0, .int .i64 0, .slice none 0 0]) (t := 24) ?hr ?_; (case hd => rfl); (case hg => rfl); (case hr => first | (go_simp; done) | (go_simp; rfl))
        intro gd hg w7 hbox hb
        have HD := Aside0.mk (HS.out.boxed (Kd.R_nil k57 57 wd w.heap.size (fun _ => True)) hg hbox hb)
        clear HS hbox hb hg
        refine hK.out _ _ ⟨(blk_cell HD.out.s.cc 0).trans rfl, (blk_cell HD.out.s.cc 1).trans rfl, (blk_cell HD.out.s.cc 2).trans rfl, ((HD.out.s.bel.cell (World.block_lt_of_cell? w _ hx0)).trans hx0), ((HD.out.s.bel.cell (World.block_lt_of_cell? w _ hx1)).trans hx1), ((HD.out.s.bel.cell (World.block_lt_of_cell? w _ hx2)).trans hx2)⟩ (fun hHeld => ?_)
        clear hK K
        refine norm_ (a' := ?_) ?_ ?_
        rotate_left
        · show Act.put _ (some 14) _ = _
          simp only [Act.put, List.setIfInBounds_toArray, List.set_cons_zero, List.set_cons_succ, i64_w, i32_w]
          rfl
        refine one_ (i := 5) (N := some 51) #[true, true, true, true, true, true, false, false, false, false, false, true, false, false, false, false] rfl rfl (one_of HT_.out (by kernel_rfl)) (by decide) (fun K hK => ?_)
        refine goes_ Try.func19 (by kernel_rfl) rfl #[.agg #[.int .i64 c.f0, .int .i64 c.f1, .slice Al c.f2.length cl], .agg #[.int .i64 (rd_T39 l2 i).f0, .int .i64 (rd_T39 l2 i).f1, .int .i64 (rd_T39 l2 i).f2]] (by rfl) rfl rfl (by (try simp only [List.map_toArray, List.map_cons, List.map_nil]); first | done | rfl) ?_
        with_reducible refine (chart_Apply.calls k1 c.f0 c.f1 _ _ c.f2 _ _ _ y1 y2 y3 y4 y5 y6 _ (Kd.R_reads' HD.out.s.L).2.2 (Kd.R_reads' HD.out.s.L).2.1 A1.out).mono ?_
        rintro e w6 ⟨v1, v2, v3, rfl, ho1, ho2, ho3, hb⟩
        refine ⟨_, rfl, ?_⟩
        have HO := Aside0.mk (Kd.R_mono (Kd.R_lower ho1 HD.out.s.bel.size) (ok' := fun _ => True) (fun _ _ => trivial))
        obtain ⟨A1', n1', rfl⟩ := Kd.R_slice HO.out
        replace HD := Aside0.mk (HD.out.got hb HO.out)
        clear HO ho1 ho2 ho3 hb
        refine hK.out _ _ ⟨(blk_cell HD.out.s.cc 0).trans rfl, (blk_cell HD.out.s.cc 1).trans rfl, (blk_cell HD.out.s.cc 2).trans rfl, ((HD.out.s.bel.cell (World.block_lt_of_cell? w _ hx0)).trans hx0), ((HD.out.s.bel.cell (World.block_lt_of_cell? w _ hx1)).trans hx1), ((HD.out.s.bel.cell (World.block_lt_of_cell? w _ hx2)).trans hx2)⟩ (fun hHeld => ?_)
        clear hK K
        refine norm_ (a' := ?_) ?_ ?_
        rotate_left
        · show Act.put _ (some 51) _ = _
          simp only [Act.put, List.setIfInBounds_toArray, List.set_cons_zero, List.set_cons_succ, i64_w, i32_w]
          rfl
        refine pure_ (i := 6) (N := some 45) (v := ?_) (a' := ?_) #[true, true, true, true, true, true, true, false, false, false, false, true, false, false, false, false] rfl rfl (any_of HT_.out (by kernel_rfl)) (fun _ _ _ h => h) (Or.inl ⟨by rfl, ?_⟩) ?_ ?_
        rotate_left
        · intro w'
          go_simp
          with_reducible rfl
        rotate_left
        · simp only [Act.put, List.setIfInBounds_toArray, List.set_cons_zero, List.set_cons_succ, i64_w, i32_w]
          rfl
        refine pure_ (i := 7) (N := some 52) (v := ?_) (a' := ?_) #[true, true, true, true, true, true, true, true, false, false, false, true, false, false, false, false] rfl rfl (any_of HT_.out (by kernel_rfl)) (fun _ _ _ h => h) (Or.inl ⟨by rfl, ?_⟩) ?_ ?_
        rotate_left
        · intro w'
          go_simp
          with_reducible rfl
        rotate_left
        · simp only [Act.put, List.setIfInBounds_toArray, List.set_cons_zero, List.set_cons_succ, i64_w, i32_w]
          rfl
        refine pure_ (i := 8) (N := some 53) (v := ?_) (a' := ?_) #[true, true, true, true, true, true, true, true, true, false, false, true, false, false, false, false] rfl rfl (any_of HT_.out (by kernel_rfl)) (fun _ _ _ h => h) (Or.inl ⟨by rfl, ?_⟩) ?_ ?_
        rotate_left
        · intro w'
          go_simp
          with_reducible rfl
        rotate_left
        · simp only [Act.put, List.setIfInBounds_toArray, List.set_cons_zero, List.set_cons_succ, i64_w, i32_w]
          rfl
        refine pure_ (i := 9) (N := some 54) (v := ?_) (a' := ?_) #[true, true, true, true, true, true, true, true, true, true, false, true, false, false, false, false] rfl rfl (any_of HT_.out (by kernel_rfl)) (fun _ _ _ h => h) (Or.inl ⟨by rfl, ?_⟩) ?_ ?_
        rotate_left
        · intro w'
          go_simp
          with_reducible rfl
        rotate_left
        · simp only [Act.put, List.setIfInBounds_toArray, List.set_cons_zero, List.set_cons_succ, i64_w, i32_w]
          rfl
        refine pure_ (i := 10) (N := some 55) (v := ?_) (a' := ?_) #[true, true, true, true, true, true, true, true, true, true, true, true, false, false, false, false] rfl rfl (any_of HT_.out (by kernel_rfl)) (fun _ _ _ h => h) (Or.inl ⟨by rfl, ?_⟩) ?_ ?_
        rotate_left
        · intro w'
          go_simp
          with_reducible rfl
        rotate_left
        · simp only [Act.put, List.setIfInBounds_toArray, List.set_cons_zero, List.set_cons_succ, i64_w, i32_w]
          rfl
        refine one_ (i := 12) (N := none) #[true, true, true, true, true, true, true, true, true, true, true, true, true, false, false, false] rfl rfl (one_of HT_.out (by kernel_rfl)) (by decide) (fun K hK => ?_)
        have g0 := blk_cell HD.out.d 0
        have g1 := blk_cell HD.out.d 1
        have g2 := blk_cell HD.out.d 2
        have f0 := blk_frozen HD.out.d 0
        have f1 := blk_frozen HD.out.d 1
        have f2 := blk_frozen HD.out.d 2
        refine skip_ (w1 := ?_) (by rfl) rfl ?_ ?_
        rotate_left
        · go_simp
          rfl
        replace HD := Aside0.mk (HD.out.store (.int .i64 y1) (.int .i64 y2) (.slice A1' y3.length n1'))
        clear g0 g1 g2 f0 f1 f2
        refine hK.out _ _ ⟨(blk_cell HD.out.s.cc 0).trans rfl, (blk_cell HD.out.s.cc 1).trans rfl, (blk_cell HD.out.s.cc 2).trans rfl, ((HD.out.s.bel.cell (World.block_lt_of_cell? w _ hx0)).trans hx0), ((HD.out.s.bel.cell (World.block_lt_of_cell? w _ hx1)).trans hx1), ((HD.out.s.bel.cell (World.block_lt_of_cell? w _ hx2)).trans hx2)⟩ (fun hHeld => ?_)
        clear hK K
        refine pure_ (i := 13) (N := some 15) (v := ?_) (a' := ?_) #[true, true, true, true, true, true, true, true, true, true, true, true, true, true, false, false] rfl rfl (any_of HT_.out (by kernel_rfl)) (fun _ _ _ h => h) (Or.inl ⟨by rfl, ?_⟩) ?_ ?_
        rotate_left
        · intro w'
          go_simp
          with_reducible rfl
        rotate_left
        · simp only [Act.put, List.setIfInBounds_toArray, List.set_cons_zero, List.set_cons_succ, i64_w, i32_w]
          rfl
        refine pure_ (i := 14) (N := some 16) (v := ?_) (a' := ?_) #[true, true, true, true, true, true, true, true, true, true, true, true, true, true, true, false] rfl rfl (any_of HT_.out (by kernel_rfl)) (fun _ _ _ h => h) (Or.inl ⟨by rfl, ?_⟩) ?_ ?_
        rotate_left
        · intro w'
          go_simp
          with_reducible rfl
        rotate_left
        · simp only [Act.put, List.setIfInBounds_toArray, List.set_cons_zero, List.set_cons_succ, i64_w, i32_w]
          rfl
        refine pure_ (i := 15) (N := some 17) (v := ?_) (a' := ?_) #[true, true, true, true, true, true, true, true, true, true, true, true, true, true, true, true] rfl rfl (any_of HT_.out (by kernel_rfl)) (fun _ _ _ h => h) (Or.inl ⟨by rfl, ?_⟩) ?_ ?_
        rotate_left
        · intro w'
          go_simp
          with_reducible rfl
        rotate_left
        · simp only [Act.put, List.setIfInBounds_toArray, List.set_cons_zero, List.set_cons_succ, i64_w, i32_w]
          rfl
        refine done_ (done_of HT_.out (by kernel_rfl)) ?_
        clear hHeld HT_ HW_
        generalize (((w6.setCell ⟨gd, 0, none⟩ (.int .i64 y1)).setCell ⟨gd, 1, none⟩ (.int .i64 y2)).setCell ⟨gd, 2, none⟩ (.slice A1' y3.length n1')) = wx at HD ⊢
        have HO := Aside0.mk HD.out.O
        by_cases c6 : y6 = 0
        · subst c6
          have HN1 := HN.out
          rw [if_pos rfl] at HN1
          by_cases c7 : past.length < 1000000
          case neg => rw [if_neg c7] at HN1; exact absurd HN1 (by simp)
          rw [if_pos c7] at HN1
          replace HN := Aside0.mk HN1
          clear HN1
          have g0 := blk_cell HD.out.d 0
          have g1 := blk_cell HD.out.d 1
          have g2 := blk_cell HD.out.d 2
          have h0 := blk_cell HD.out.s.cc 0
          have h1 := blk_cell HD.out.s.cc 1
          have h2 := blk_cell HD.out.s.cc 2
          have h3 := blk_frozen HD.out.s.cc 0
          have h4 := blk_frozen HD.out.s.cc 1
          have h5 := blk_frozen HD.out.s.cc 2
          go_upto_region 9 with (fail)
          have HS9 := Aside0.mk (HD.out.s.put (d := ⟨y1, y2, y3⟩) HO.out)
          clear g0 g1 g2 h0 h1 h2 h3 h4 h5 HD HO
          generalize (((wx.setCell ⟨kc, 0, none⟩ (.int .i64 y1)).setCell ⟨kc, 1, none⟩ (.int .i64 y2)).setCell ⟨kc, 2, none⟩ (.slice A1' y3.length n1')) = w9 at HS9 ⊢
          have g0 := blk_cell HS9.out.cc 0
          have g1 := blk_cell HS9.out.cc 1
          have g2 := blk_cell HS9.out.cc 2
          go_wp2_with (at_builtin; refine Kd.R_append k24 (w0 := w) w.heap.size rfl (.tmp 59) (.tmp 61) 51 24 (.agg #[.int .i64 0, .int .i64 0, .slice none 0 0]) 40 rfl Try.underlying51 infoC rfl (by decide) (by omega) u12 past ⟨y1, y2, y3⟩ [.int .i64 y1, .int .i64 y2, .slice A1' y3.length n1'] (fun k_ => k_ ≠ kc ∧ k_ ≠ w.heap.size) (fun k_ => (k_ ≠ kc ∧ k_ ≠ w.heap.size) ∧ some k_ ≠ u12.ownBlock) rfl rfl HS9.out.elem (fun _ hk => hk) (fun k_ hk => ⟨by have := blk_lt HS9.out.cc; omega, by have := blk_lt HS9.out.r0; omega⟩) HS9.out.P HS9.out.bel HS9.out.bel.size (by omega) ?_; intro p2 w10 ho hb hg hat; replace HS9 := Aside0.mk (HS9.out.grown hg ho hb); clear ho hb hg hat g0 g1 g2)
          go_roundg k1
          case measure => have := HK1.out; omega
          case rel => exact ⟨wrap64 (i + 1), ⟨y1, y2, y3⟩, _, _, _, rfl, (by first | rfl | (simp; done) | (simp [*]; done)), HN, ⟨by have := HK1.out; omega⟩, HS9⟩
        · have HN1 := HN.out
          rw [if_neg c6] at HN1
          replace HN := Aside0.mk HN1
          clear HN1
          have q6 : (y6 == 0) = false := beq_eq_false_iff_ne.mpr c6
          have q7 : decide (y6 = 0) = false := decide_eq_false c6
          go_wp2_with fail
          go_roundg k1
          case measure => have := HK1.out; omega
          case rel => exact ⟨wrap64 (i + 1), c, _, _, past, rfl, (by first | rfl | (simp; done) | (simp [*]; done)), HN, ⟨by have := HK1.out; omega⟩, ⟨HD.out.s⟩⟩

/-! ### chart_Owner: function 25 (a closure: by hand) -/
def ownP (key : Int) (x : Shd) : Bool := decide (x.f1.f0 ≤ key) && decide (key < x.f1.f1)
def chart_Owner.f (k : Nat) (a0_0 : Int) (a0_1 : Int) (l0_2 : List (S57)) (a1 : Int) : Option (Int × Int × Int × Int × Bool) :=
  if (l0_2.length : Int) ≤ 4611686018427387904 then
    (chart_Check.f k a0_0 a0_1 l0_2).bind fun t1 =>
      if t1 = true then
        if ixOf (ownP a1) l0_2 0 < 0 then some (0, 0, 0, 0, false)
        else some ((rd_T57 l0_2 (ixOf (ownP a1) l0_2 0)).f0, (rd_T57 l0_2 (ixOf (ownP a1) l0_2 0)).f1.f0, (rd_T57 l0_2 (ixOf (ownP a1) l0_2 0)).f1.f1, (rd_T57 l0_2 (ixOf (ownP a1) l0_2 0)).f2, true)
      else some (0, 0, 0, 0, false)
  else none
theorem chart_Owner.mono : ∀ a0 a1 a2 a3 k, LeO (chart_Owner.f k a0 a1 a2 a3) (chart_Owner.f (k + 1) a0 a1 a2 a3) := by
  intro a0 a1 a2 a3 k
  unfold chart_Owner.f
  repeat' first
      | (with_reducible exact LeO.refl _)
      | (with_reducible exact LeO.none _)
      | (with_reducible exact chart_Check.mono _ _ _ _)
      | (with_reducible refine LeO.ite ?_ ?_)
      | (with_reducible refine LeO.bind ?_ (fun _ => ?_))
set_option maxHeartbeats 8000000 in
theorem owner_pred (key : Int) (B : Nat) (w : World) (hB : B < w.heap.size) (hcell : w.cell? ⟨B, 0, none⟩ = some (.int .i64 key)) : PredB 47 #[.pointer (some ⟨B, 0, none⟩)] (ownP key) w := fun W x hb => by
  have hc : W.cell? ⟨B, 0, none⟩ = some (.int .i64 key) := (hb.cell (p := ⟨B, 0, none⟩) hB).trans hcell
  have hBW : B < W.heap.size := Nat.lt_of_lt_of_le hB hb.size
  have hne : B ≠ W.heap.size := by omega
  show Calls Try.prog 47 #[.agg #[.int .i64 x.f0, .int .i64 x.f1.f0, .int .i64 x.f1.f1, .int .i64 x.f2], .pointer (some ⟨B, 0, none⟩)] W _
  unfold ownP
  have hu55 := Try.underlying55
  have hu57 := Try.underlying57
  by_cases h1 : x.f1.f0 ≤ key
  · have q1 : decide (x.f1.f0 ≤ key) = true := decide_eq_true h1
    have q2 : decide (key ≥ x.f1.f0) = true := decide_eq_true h1
    go_enter Try.func47, Try.ntmps47
    go_wp2
    all_goals (go_ret; exact ⟨by simp_all, hb.alloc hb.size _⟩)
  · have q1 : decide (x.f1.f0 ≤ key) = false := decide_eq_false h1
    have q2 : decide (key ≥ x.f1.f0) = false := decide_eq_false h1
    go_enter Try.func47, Try.ntmps47
    go_wp2
    all_goals (go_ret; exact ⟨by simp_all, hb.alloc hb.size _⟩)
/-- the three variables of Owner that lie in memory: c, key, the shard -/
def FrO (w W : World) (cc ck cs : Array Value) : Prop :=
  W.heap[w.heap.size]? = some (.cells cc 24 (0, 0)) ∧ W.heap[w.heap.size + 1]? = some (.cells ck 3 (0, 0)) ∧ W.heap[w.heap.size + 1 + 1]? = some (.cells cs 57 (0, 0)) ∧ Below w.heap.size w W
theorem FrO.start (w : World) (cc ck cs : Array Value) : FrO w (((w.alloc (.cells cc 24)).alloc (.cells ck 3)).alloc (.cells cs 57)) cc ck cs := by
  have h1 := blk_new w (.cells cc 24)
  have h2 := blk_new (w.alloc (.cells cc 24)) (.cells ck 3)
  have h3 := blk_new ((w.alloc (.cells cc 24)).alloc (.cells ck 3)) (.cells cs 57)
  have e1 : (w.alloc (.cells cc 24)).heap.size = w.heap.size + 1 := by simp
  have e2 : ((w.alloc (.cells cc 24)).alloc (.cells ck 3)).heap.size = w.heap.size + 1 + 1 := by simp
  rw [e1] at h2
  rw [e2] at h3
  exact ⟨blk_alloc (blk_alloc h1 _) _, blk_alloc h2 _, h3, ((Below.refl w.heap.size w).alloc (Nat.le_refl _) _ |>.alloc (by simp) _).alloc (by simp; omega) _⟩
theorem FrO.after {w W W' : World} {cc ck cs : Array Value} (h : FrO w W cc ck cs) (hb : Below W.heap.size W W') : FrO w W' cc ck cs :=
  ⟨blk_below h.1 hb, blk_below h.2.1 hb, blk_below h.2.2.1 hb, h.2.2.2.trans (hb.mono h.2.2.2.size)⟩
theorem FrO.set {w W : World} {cc ck cs cs' : Array Value} (h : FrO w W cc ck cs) (i : Nat) (u : Value) (e : cs.setIfInBounds i u = cs') : FrO w (W.setCell ⟨w.heap.size + 1 + 1, i, none⟩ u) cc ck cs' :=
  ⟨blk_far h.1 (by simp; omega) u, blk_far h.2.1 (by simp) u, blk_put h.2.2.1 i u e, below_set h.2.2.2 (by omega)⟩
theorem FrO.facts {w W : World} {c0 c1 c2 x0 n0 n1 n2 n3 : Value} (h : FrO w W #[c0, c1, c2] #[x0] #[n0, n1, n2, n3]) :
    W.cell? ⟨w.heap.size, 0, none⟩ = some c0 ∧ W.cell? ⟨w.heap.size, 1, none⟩ = some c1 ∧ W.cell? ⟨w.heap.size, 2, none⟩ = some c2 ∧ W.cell? ⟨w.heap.size + 1, 0, none⟩ = some x0 ∧
    W.cell? ⟨w.heap.size + 1 + 1, 0, none⟩ = some n0 ∧ W.cell? ⟨w.heap.size + 1 + 1, 1, none⟩ = some n1 ∧ W.cell? ⟨w.heap.size + 1 + 1, 2, none⟩ = some n2 ∧ W.cell? ⟨w.heap.size + 1 + 1, 3, none⟩ = some n3 ∧
    W.frozen? ⟨w.heap.size + 1 + 1, 0, none⟩ = false ∧ W.frozen? ⟨w.heap.size + 1 + 1, 1, none⟩ = false ∧ W.frozen? ⟨w.heap.size + 1 + 1, 2, none⟩ = false ∧ W.frozen? ⟨w.heap.size + 1 + 1, 3, none⟩ = false :=
  ⟨blk_cell h.1 0, blk_cell h.1 1, blk_cell h.1 2, blk_cell h.2.1 0, blk_cell h.2.2.1 0, blk_cell h.2.2.1 1, blk_cell h.2.2.1 2, blk_cell h.2.2.1 3, blk_frozen h.2.2.1 0, blk_frozen h.2.2.1 1, blk_frozen h.2.2.1 2, blk_frozen h.2.2.1 3⟩
set_option maxHeartbeats 8000000 in
set_option maxRecDepth 100000 in
theorem chart_Owner.bad (k : Nat) (a0_0 : Int) (a0_1 : Int) (A0 : Option Addr) (c0 : Nat) (l0 : List (S57)) (a1 : Int) (w : World) (hr0 : Kd.C k57 w A0 l0.length l0) (hc0 : l0.length ≤ c0) (h : chart_Check.f k a0_0 a0_1 l0 = some false) :
    Calls Try.prog 25 #[.agg #[.int .i64 a0_0, .int .i64 a0_1, .slice A0 l0.length c0], .int .i64 a1] w fun e w' => e = .returned (.tuple #[.agg #[.int .i64 0, .int .i64 0, .int .i64 0, .int .i64 0], .bool false]) ∧ Below w.heap.size w w' := by
  have hu24 := Try.underlying24
  have hu55 := Try.underlying55
  have hu57 := Try.underlying57
  have HA := Aside0.mk h
  have HR := Aside0.mk hr0
  have HC := Aside0.mk hc0
  clear h hr0 hc0
  have hf3 := Aside0.mk (FrO.start w #[.int .i64 a0_0, .int .i64 a0_1, .slice A0 l0.length c0] #[.int .i64 a1] #[.int .i64 0, .int .i64 0, .int .i64 0, .int .i64 0])
  go_enter Try.func25, Try.ntmps25
  go_wp2_with (go_at_call 17; refine (chart_Check.calls k a0_0 a0_1 A0 c0 l0 false _ (Kd.C_below HR.out hf3.out.2.2.2) HC.out HA.out).mono ?_; rintro e w4 ⟨rfl, hb4⟩; have hf4 := Aside0.mk (hf3.out.after hb4); obtain ⟨f0, f1, f2, f3, f4, f5, f6, f7, f8, f9, f10, f11⟩ := hf4.out.facts)
  have hE : FrO w ((((w4.setCell ⟨w.heap.size + 1 + 1, 0, none⟩ (.int .i64 0)).setCell ⟨w.heap.size + 1 + 1, 1, none⟩ (.int .i64 0)).setCell ⟨w.heap.size + 1 + 1, 2, none⟩ (.int .i64 0)).setCell ⟨w.heap.size + 1 + 1, 3, none⟩ (.int .i64 0)) _ _ #[.int .i64 0, .int .i64 0, .int .i64 0, .int .i64 0] := (((hf4.out.set 0 _ rfl).set 1 _ rfl).set 2 _ rfl).set 3 _ rfl
  refine bodyPost_ret (results_ct rfl _ _ (w.heap.size + 1 + 1) 57 #[.int .i64 0, .int .i64 0, .int .i64 0, .int .i64 0] (0, 0) _ rfl hE.2.2.1 Try.underlying57 rfl (by kernel_rfl)) rfl ?_
  exact ⟨rfl, hE.2.2.2⟩
set_option maxHeartbeats 8000000 in
set_option maxRecDepth 100000 in
theorem chart_Owner.none_ (k : Nat) (a0_0 : Int) (a0_1 : Int) (A0 : Option Addr) (c0 : Nat) (l0 : List (S57)) (a1 : Int) (w : World) (hr0 : Kd.C k57 w A0 l0.length l0) (hc0 : l0.length ≤ c0) (h : chart_Check.f k a0_0 a0_1 l0 = some true) (hbig : l0.length ≤ 4611686018427387904) (i : Int) (hi : i < 0) (hx : ixOf (ownP a1) l0 0 = i) :
    Calls Try.prog 25 #[.agg #[.int .i64 a0_0, .int .i64 a0_1, .slice A0 l0.length c0], .int .i64 a1] w fun e w' => e = .returned (.tuple #[.agg #[.int .i64 0, .int .i64 0, .int .i64 0, .int .i64 0], .bool false]) ∧ Below w.heap.size w w' := by
  have hu24 := Try.underlying24
  have hu55 := Try.underlying55
  have hu57 := Try.underlying57
  have hmf : ∀ (fn : Fn) (first cap : Array Value) (w : World), (Instr.makeFunc fn first cap).run Try.prog w = .ok (.func fn first cap) w := fun _ _ _ _ => rfl
  have eg : ∀ args w, (callFunc 47 args).run Try.prog w = .ok (.enter 47 args) w := enters_of Try.func47 (by kernel_rfl) rfl
  have hcon : Aside0 (∀ W : World, FrO w W #[.int .i64 a0_0, .int .i64 a0_1, .slice A0 l0.length c0] #[.int .i64 a1] #[.int .i64 0, .int .i64 0, .int .i64 0, .int .i64 0] → Calls Try.prog 46 #[.slice A0 l0.length c0, .func (.func 47) #[] #[.pointer (some ⟨w.heap.size + 1, 0, none⟩)]] W fun e w' => e = .returned (.int .i64 i) ∧ Below W.heap.size W w') := ⟨fun W hW => by
    have hq := ixfunc (ownP a1) 47 #[.pointer (some ⟨w.heap.size + 1, 0, none⟩)] eg A0 c0 l0 W (owner_pred a1 (w.heap.size + 1) W (blk_lt hW.2.1) (blk_cell hW.2.1 0)) (Kd.C_below hr0 hW.2.2.2) hbig
    rw [hx] at hq
    exact hq⟩
  have HA := Aside0.mk h
  have HR := Aside0.mk hr0
  have HC := Aside0.mk hc0
  have q1 : decide (i < 0) = true := decide_eq_true hi
  clear h hr0 hc0 hx hi
  have hf3 := Aside0.mk (FrO.start w #[.int .i64 a0_0, .int .i64 a0_1, .slice A0 l0.length c0] #[.int .i64 a1] #[.int .i64 0, .int .i64 0, .int .i64 0, .int .i64 0])
  go_enter Try.func25, Try.ntmps25
  go_wp2_with (go_at_call 17; refine (chart_Check.calls k a0_0 a0_1 A0 c0 l0 true _ (Kd.C_below HR.out hf3.out.2.2.2) HC.out HA.out).mono ?_; rintro e w4 ⟨rfl, hb4⟩; have hf4 := Aside0.mk (hf3.out.after hb4); obtain ⟨f0, f1, f2, f3, f4, f5, f6, f7, f8, f9, f10, f11⟩ := hf4.out.facts)
  go_wp2_with (go_at_call 46; refine (hcon.out _ hf4.out).mono ?_; rintro e w5 ⟨rfl, hb5⟩; have hf5 := Aside0.mk (hf4.out.after hb5); obtain ⟨g0, g1, g2, g3, g4, g5, g6, g7, g8, g9, g10, g11⟩ := hf5.out.facts)
  have hE : FrO w ((((w5.setCell ⟨w.heap.size + 1 + 1, 0, none⟩ (.int .i64 0)).setCell ⟨w.heap.size + 1 + 1, 1, none⟩ (.int .i64 0)).setCell ⟨w.heap.size + 1 + 1, 2, none⟩ (.int .i64 0)).setCell ⟨w.heap.size + 1 + 1, 3, none⟩ (.int .i64 0)) _ _ #[.int .i64 0, .int .i64 0, .int .i64 0, .int .i64 0] := (((hf5.out.set 0 _ rfl).set 1 _ rfl).set 2 _ rfl).set 3 _ rfl
  refine bodyPost_ret (results_ct rfl _ _ (w.heap.size + 1 + 1) 57 #[.int .i64 0, .int .i64 0, .int .i64 0, .int .i64 0] (0, 0) _ rfl hE.2.2.1 Try.underlying57 rfl (by kernel_rfl)) rfl ?_
  exact ⟨rfl, hE.2.2.2⟩
set_option maxHeartbeats 8000000 in
set_option maxRecDepth 100000 in
theorem chart_Owner.some_ (k : Nat) (a0_0 : Int) (a0_1 : Int) (A0 : Option Addr) (c0 : Nat) (l0 : List (S57)) (a1 : Int) (w : World) (hr0 : Kd.C k57 w A0 l0.length l0) (hc0 : l0.length ≤ c0) (h : chart_Check.f k a0_0 a0_1 l0 = some true) (hbig : l0.length ≤ 4611686018427387904) (j : Nat) (hj : j < l0.length) (hx : ixOf (ownP a1) l0 0 = (j : Int)) (x : Shd) (hxx : rd_T57 l0 (j : Int) = x) :
    Calls Try.prog 25 #[.agg #[.int .i64 a0_0, .int .i64 a0_1, .slice A0 l0.length c0], .int .i64 a1] w fun e w' => e = .returned (.tuple #[.agg #[.int .i64 x.f0, .int .i64 x.f1.f0, .int .i64 x.f1.f1, .int .i64 x.f2], .bool true]) ∧ Below w.heap.size w w' := by
  have hu24 := Try.underlying24
  have hu55 := Try.underlying55
  have hu57 := Try.underlying57
  have hmf : ∀ (fn : Fn) (first cap : Array Value) (w : World), (Instr.makeFunc fn first cap).run Try.prog w = .ok (.func fn first cap) w := fun _ _ _ _ => rfl
  have eg : ∀ args w, (callFunc 47 args).run Try.prog w = .ok (.enter 47 args) w := enters_of Try.func47 (by kernel_rfl) rfl
  have hcon : Aside0 (∀ W : World, FrO w W #[.int .i64 a0_0, .int .i64 a0_1, .slice A0 l0.length c0] #[.int .i64 a1] #[.int .i64 0, .int .i64 0, .int .i64 0, .int .i64 0] → Calls Try.prog 46 #[.slice A0 l0.length c0, .func (.func 47) #[] #[.pointer (some ⟨w.heap.size + 1, 0, none⟩)]] W fun e w' => e = .returned (.int .i64 j) ∧ Below W.heap.size W w') := ⟨fun W hW => by
    have hq := ixfunc (ownP a1) 47 #[.pointer (some ⟨w.heap.size + 1, 0, none⟩)] eg A0 c0 l0 W (owner_pred a1 (w.heap.size + 1) W (blk_lt hW.2.1) (blk_cell hW.2.1 0)) (Kd.C_below hr0 hW.2.2.2) hbig
    rw [hx] at hq
    exact hq⟩
  obtain ⟨ad, e0, hx_0, hx_1, hx_2, hx_3⟩ := at_T57 hr0 (j : Int) (by omega) (by omega)
  cases e0
  simp only [Int.toNat_natCast, hxx] at hx_0 hx_1 hx_2 hx_3
  have HA := Aside0.mk h
  have HR := Aside0.mk hr0
  have HC := Aside0.mk hc0
  have q1 : decide ((j : Int) < 0) = false := decide_eq_false (by omega)
  have q2 : (j : Int) < (l0.length : Int) := by omega
  have HX := Aside0.mk hx_0
  have HX1 := Aside0.mk hx_1
  have HX2 := Aside0.mk hx_2
  have HX3 := Aside0.mk hx_3
  clear h hr0 hc0 hx hxx hx_0 hx_1 hx_2 hx_3
  have hf3 := Aside0.mk (FrO.start w #[.int .i64 a0_0, .int .i64 a0_1, .slice (some ad) l0.length c0] #[.int .i64 a1] #[.int .i64 0, .int .i64 0, .int .i64 0, .int .i64 0])
  go_enter Try.func25, Try.ntmps25
  go_wp2_with (go_at_call 17; refine (chart_Check.calls k a0_0 a0_1 (some ad) c0 l0 true _ (Kd.C_below HR.out hf3.out.2.2.2) HC.out HA.out).mono ?_; rintro e w4 ⟨rfl, hb4⟩; have hf4 := Aside0.mk (hf3.out.after hb4); obtain ⟨f0, f1, f2, f3, f4, f5, f6, f7, f8, f9, f10, f11⟩ := hf4.out.facts)
  go_wp2_with (go_at_call 46; refine (hcon.out _ hf4.out).mono ?_; rintro e w5 ⟨rfl, hb5⟩; have hf5 := Aside0.mk (hf4.out.after hb5); obtain ⟨g0, g1, g2, g3, g4, g5, g6, g7, g8, g9, g10, g11⟩ := hf5.out.facts; have hx_0 := (hf5.out.2.2.2.cell (World.block_lt_of_cell? w _ HX.out)).trans HX.out; have hx_1 := (hf5.out.2.2.2.cell (World.block_lt_of_cell? w _ HX1.out)).trans HX1.out; have hx_2 := (hf5.out.2.2.2.cell (World.block_lt_of_cell? w _ HX2.out)).trans HX2.out; have hx_3 := (hf5.out.2.2.2.cell (World.block_lt_of_cell? w _ HX3.out)).trans HX3.out)
  have hE : FrO w ((((w5.setCell ⟨w.heap.size + 1 + 1, 0, none⟩ (.int .i64 x.f0)).setCell ⟨w.heap.size + 1 + 1, 1, none⟩ (.int .i64 x.f1.f0)).setCell ⟨w.heap.size + 1 + 1, 2, none⟩ (.int .i64 x.f1.f1)).setCell ⟨w.heap.size + 1 + 1, 3, none⟩ (.int .i64 x.f2)) _ _ #[.int .i64 x.f0, .int .i64 x.f1.f0, .int .i64 x.f1.f1, .int .i64 x.f2] := (((hf5.out.set 0 _ rfl).set 1 _ rfl).set 2 _ rfl).set 3 _ rfl
  refine bodyPost_ret (results_ct rfl _ _ (w.heap.size + 1 + 1) 57 #[.int .i64 x.f0, .int .i64 x.f1.f0, .int .i64 x.f1.f1, .int .i64 x.f2] (0, 0) _ rfl hE.2.2.1 Try.underlying57 rfl (by kernel_rfl)) rfl ?_
  exact ⟨rfl, hE.2.2.2⟩
theorem chart_Owner.calls (k : Nat) (a0_0 : Int) (a0_1 : Int) (A0_2 : Option Addr) (c0_2 : Nat) (l0_2 : List (S57)) (a1 : Int) (r1 : Int) (r2 : Int) (r3 : Int) (r4 : Int) (r5 : Bool) (w : World) (hr0_2 : Kd.C k57 w A0_2 l0_2.length l0_2) (hc0_2 : l0_2.length ≤ c0_2) (h : chart_Owner.f k a0_0 a0_1 l0_2 a1 = some (r1, r2, r3, r4, r5)) :
    Calls Try.prog 25 #[.agg #[.int .i64 a0_0, .int .i64 a0_1, .slice A0_2 l0_2.length c0_2], .int .i64 a1] w fun e w' => e = .returned (.tuple #[.agg #[.int .i64 r1, .int .i64 r2, .int .i64 r3, .int .i64 r4], .bool r5]) ∧ Below w.heap.size w w' := by
  unfold chart_Owner.f at h
  by_cases hbig : (l0_2.length : Int) ≤ 4611686018427387904
  case neg => rw [if_neg hbig] at h; exact absurd h (by simp)
  rw [if_pos hbig] at h
  have hb2 : l0_2.length ≤ 4611686018427387904 := by omega
  obtain ⟨t1, ht1, h⟩ := Option.bind_eq_some_iff.1 h
  cases t1
  · rw [if_neg (by simp)] at h
    simp only [Option.some.injEq, Prod.mk.injEq] at h
    obtain ⟨rfl, rfl, rfl, rfl, rfl⟩ := h
    exact chart_Owner.bad k a0_0 a0_1 A0_2 c0_2 l0_2 a1 w hr0_2 hc0_2 ht1
  rw [if_pos rfl] at h
  by_cases hi : ixOf (ownP a1) l0_2 0 < 0
  · rw [if_pos hi] at h
    simp only [Option.some.injEq, Prod.mk.injEq] at h
    obtain ⟨rfl, rfl, rfl, rfl, rfl⟩ := h
    exact chart_Owner.none_ k a0_0 a0_1 A0_2 c0_2 l0_2 a1 w hr0_2 hc0_2 ht1 hb2 _ hi rfl
  · rw [if_neg hi] at h
    obtain ⟨j, hj, hjl⟩ : ∃ j : Nat, ixOf (ownP a1) l0_2 0 = (j : Int) ∧ j < l0_2.length := by
      rcases ixOf_range (ownP a1) l0_2 0 with h1 | h1
      · omega
      · exact ⟨(ixOf (ownP a1) l0_2 0).toNat, by omega, by omega⟩
    rw [hj] at h
    simp only [Option.some.injEq, Prod.mk.injEq] at h
    obtain ⟨rfl, rfl, rfl, rfl, rfl⟩ := h
    exact chart_Owner.some_ k a0_0 a0_1 A0_2 c0_2 l0_2 a1 w hr0_2 hc0_2 ht1 hb2 j hjl hj _ rfl

end Go.Proofs.Ytbhlphadcphapaa.PL
