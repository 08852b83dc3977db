-- written by a program of this session
import Derived.Test.YtbhlphadcphapaaPEx0
import Derived.Test.YtbhlphadcphapaaPEx1
import Derived.Test.YtbhlphadcphapaaPEx2
import Derived.Test.YtbhlphadcphapaaPEx3
import Derived.Test.YtbhlphadcphapaaPEx4
namespace Go.Proofs.Ytbhlphadcphapaa.PE
open Go.RowKit Go.Proofs.Ytbhlphadcphapaa.Op Go.Proofs.YtbhlphadcphapaaW.PrintWords Go.Proofs.YtbhlphadcphapaaW.PrintLast Go.Proofs.YtbhlphadcphapaaW.PrintMore
attribute [local go_sem] max2_int min2_int max_two min_two max_three min_three max_four min_four   -- for this text's walks alone
set_option linter.unusedVariables false
set_option linter.unusedSimpArgs false

attribute [local go_sem high] eqA57
/-! ### splicelaw08_awake: function 14 -/
def splicelaw08_awake.f (k : Nat)  : Option (Bool) := (chart_First.f k 2 2).bind fun bt141 => ((chart_Apply.f k bt141.1 bt141.2.1 bt141.2.2.1 1 1 100).bind fun bt148 => (if bt141.2.2.2 = 0 then (if (bt141.2.2.1.length : Int) = 2 then (if 1 < (bt141.2.2.1.length : Int) then (if (((rd_T57 bt141.2.2.1 1).f0) == 2 && ((((rd_T57 bt141.2.2.1 1).f1.f0) == 2048 && (((rd_T57 bt141.2.2.1 1).f1.f1) == 4096)) && (((rd_T57 bt141.2.2.1 1).f2) == 1))) = true then (if bt148.2.2.2.2.2 = 0 then (if (bt148.2.2.1.length : Int) = 3 then (if bt148.1 = 2 then (if (bt148.2.2.2.2.1.length : Int) = 2 then (if 1 < (bt148.2.2.2.2.1.length : Int) then (some (((rd_T57 bt148.2.2.2.2.1 1).f0) == 4)) else (none)) else (some false)) else (some false)) else (some false)) else (some false)) else (some false)) else (none)) else (some false)) else (some false)))
theorem splicelaw08_awake.mono : ∀ k, LeO (splicelaw08_awake.f k ) (splicelaw08_awake.f (k + 1) ) := by
  intro  k
  unfold splicelaw08_awake.f
  repeat' first
      | (with_reducible exact chart_Apply.mono _ _ _ _ _ _ _)
      | (with_reducible exact chart_First.mono _ _ _)
      | (with_reducible exact LeO.refl _)
      | (with_reducible exact LeO.none _)
      | (with_reducible refine LeO.ite ?_ ?_)
      | (with_reducible refine LeO.bind ?_ (fun _ => ?_))
      | exact chart_Apply.mono _ _ _ _ _ _ _
      | exact chart_First.mono _ _ _
      | exact LeO.none _
      | refine LeO.ite ?_ ?_
      | refine LeO.bind ?_ (fun _ => ?_)
set_option maxHeartbeats 8000000 in
set_option maxRecDepth 100000 in
theorem splicelaw08_awake.calls (k : Nat)  (r : Bool) (w : World) (h : splicelaw08_awake.f k  = some r) (hr_ : r = true) :
    Calls Try.prog 14 #[] w fun e w' => e = .returned (.bool r) ∧ Below w.heap.size w w' := by
 have hu24 := Try.underlying24
 have hu39 := Try.underlying39
 have hu57 := Try.underlying57
 have hu55 := Try.underlying55
 have HB := Aside0.mk (Below.refl w.heap.size w)
 have H : ((chart_First.f k 2 2).bind fun bt141 => ((chart_Apply.f k bt141.1 bt141.2.1 bt141.2.2.1 1 1 100).bind fun bt148 => (if bt141.2.2.2 = 0 then (if (bt141.2.2.1.length : Int) = 2 then (if 1 < (bt141.2.2.1.length : Int) then (if (((rd_T57 bt141.2.2.1 1).f0) == 2 && ((((rd_T57 bt141.2.2.1 1).f1.f0) == 2048 && (((rd_T57 bt141.2.2.1 1).f1.f1) == 4096)) && (((rd_T57 bt141.2.2.1 1).f2) == 1))) = true then (if bt148.2.2.2.2.2 = 0 then (if (bt148.2.2.1.length : Int) = 3 then (if bt148.1 = 2 then (if (bt148.2.2.2.2.1.length : Int) = 2 then (if 1 < (bt148.2.2.2.2.1.length : Int) then (some (((rd_T57 bt148.2.2.2.2.1 1).f0) == 4)) else (none)) else (some false)) else (some false)) else (some false)) else (some false)) else (some false)) else (none)) else (some false)) else (some false)))) = some r := h
 clear h
 replace H := Option.bind_eq_some_iff.mp H
 obtain ⟨⟨t141, t142, t143, t146⟩, A10, H⟩ := H
 replace H : ((chart_Apply.f k t141 t142 t143 1 1 100).bind fun bt148 => (if t146 = 0 then (if (t143.length : Int) = 2 then (if 1 < (t143.length : Int) then (if (((rd_T57 t143 1).f0) == 2 && ((((rd_T57 t143 1).f1.f0) == 2048 && (((rd_T57 t143 1).f1.f1) == 4096)) && (((rd_T57 t143 1).f2) == 1))) = true then (if bt148.2.2.2.2.2 = 0 then (if (bt148.2.2.1.length : Int) = 3 then (if bt148.1 = 2 then (if (bt148.2.2.2.2.1.length : Int) = 2 then (if 1 < (bt148.2.2.2.2.1.length : Int) then (some (((rd_T57 bt148.2.2.2.2.1 1).f0) == 4)) else (none)) else (some false)) else (some false)) else (some false)) else (some false)) else (some false)) else (none)) else (some false)) else (some false))) = some r := H
 have A1 := Aside0.mk A10
 clear A10
 replace H := Option.bind_eq_some_iff.mp H
 obtain ⟨⟨t148, t149, t150, t153, t156, t159⟩, A20, H⟩ := H
 replace H : (if t146 = 0 then (if (t143.length : Int) = 2 then (if 1 < (t143.length : Int) then (if (((rd_T57 t143 1).f0) == 2 && ((((rd_T57 t143 1).f1.f0) == 2048 && (((rd_T57 t143 1).f1.f1) == 4096)) && (((rd_T57 t143 1).f2) == 1))) = true then (if t159 = 0 then (if (t150.length : Int) = 3 then (if t148 = 2 then (if (t156.length : Int) = 2 then (if 1 < (t156.length : Int) then (some (((rd_T57 t156 1).f0) == 4)) else (none)) else (some false)) else (some false)) else (some false)) else (some false)) else (some false)) else (none)) else (some false)) else (some false)) = some r := H
 have A2 := Aside0.mk A20
 clear A20
 by_cases c3 : t146 = 0
 rotate_left
 · rw [if_neg c3] at H
   have c3b0 : (t146 == 0) = false := beq_eq_false_iff_ne.mpr c3
   have c3b1 : (t146 != 0) = true := bne_iff_ne.mpr c3
   exact absurd ((Option.some.inj H).trans hr_) (by simp)
 rw [if_pos c3] at H
 have c3b0 : (t146 == 0) = true := beq_iff_eq.mpr c3
 have c3b1 : (t146 != 0) = false := bne_eq_false_iff_eq.mpr c3
 clear c3
 by_cases c4 : (t143.length : Int) = 2
 rotate_left
 · rw [if_neg c4] at H
   have c4b0 : ((t143.length : Int) == 2) = false := beq_eq_false_iff_ne.mpr c4
   have c4b1 : ((t143.length : Int) != 2) = true := bne_iff_ne.mpr c4
   exact absurd ((Option.some.inj H).trans hr_) (by simp)
 rw [if_pos c4] at H
 have c4b0 : ((t143.length : Int) == 2) = true := beq_iff_eq.mpr c4
 have c4b1 : ((t143.length : Int) != 2) = false := bne_eq_false_iff_eq.mpr c4
 clear c4
 by_cases c5 : 1 < (t143.length : Int)
 rotate_left
 · rw [if_neg c5] at H; exact absurd H (by simp)
 rw [if_pos c5] at H
 have c5b0 : decide (1 < (t143.length : Int)) = true := decide_eq_true c5
 have c5b1 : decide (1 < t143.length) = true := decide_eq_true (by omega)
 clear c5
 by_cases c6 : (((rd_T57 t143 1).f0) == 2 && ((((rd_T57 t143 1).f1.f0) == 2048 && (((rd_T57 t143 1).f1.f1) == 4096)) && (((rd_T57 t143 1).f2) == 1))) = true
 rotate_left
 · rw [if_neg c6] at H
   have c6b0 : (((rd_T57 t143 1).f0) == 2 && ((((rd_T57 t143 1).f1.f0) == 2048 && (((rd_T57 t143 1).f1.f1) == 4096)) && (((rd_T57 t143 1).f2) == 1))) = false := by simpa using c6
   (try (have c6b1 : decide (((rd_T57 t143 1).f0) = 2 && ((((rd_T57 t143 1).f1.f0) == 2048 && (((rd_T57 t143 1).f1.f1) == 4096)) && (((rd_T57 t143 1).f2) == 1))) = false := by simpa using c6))
   (try (have c6b2 : (((rd_T57 t143 1).f0) == 2 && ((((rd_T57 t143 1).f1.f0) == 2048 && (((rd_T57 t143 1).f1.f1) == 4096)) && (((rd_T57 t143 1).f2) == 1))) = false := by simpa using c6))
   (try (have c6b3 : ¬ (((rd_T57 t143 1).f0) = 2 && ((((rd_T57 t143 1).f1.f0) == 2048 && (((rd_T57 t143 1).f1.f1) == 4096)) && (((rd_T57 t143 1).f2) == 1))) := by simpa using c6))
   clear c6
   exact absurd ((Option.some.inj H).trans hr_) (by simp)
 rw [if_pos c6] at H
 have c6b0 : (((rd_T57 t143 1).f0) == 2 && ((((rd_T57 t143 1).f1.f0) == 2048 && (((rd_T57 t143 1).f1.f1) == 4096)) && (((rd_T57 t143 1).f2) == 1))) = true := c6
 (try (have c6b1 : decide (((rd_T57 t143 1).f0) = 2 && ((((rd_T57 t143 1).f1.f0) == 2048 && (((rd_T57 t143 1).f1.f1) == 4096)) && (((rd_T57 t143 1).f2) == 1))) = true := by simpa using c6))
 (try (have c6b2 : (((rd_T57 t143 1).f0) == 2 && ((((rd_T57 t143 1).f1.f0) == 2048 && (((rd_T57 t143 1).f1.f1) == 4096)) && (((rd_T57 t143 1).f2) == 1))) = true := by simpa using c6))
 clear c6
 by_cases c7 : t159 = 0
 rotate_left
 · rw [if_neg c7] at H
   have c7b0 : (t159 == 0) = false := beq_eq_false_iff_ne.mpr c7
   have c7b1 : (t159 != 0) = true := bne_iff_ne.mpr c7
   exact absurd ((Option.some.inj H).trans hr_) (by simp)
 rw [if_pos c7] at H
 have c7b0 : (t159 == 0) = true := beq_iff_eq.mpr c7
 have c7b1 : (t159 != 0) = false := bne_eq_false_iff_eq.mpr c7
 clear c7
 by_cases c8 : (t150.length : Int) = 3
 rotate_left
 · rw [if_neg c8] at H
   have c8b0 : ((t150.length : Int) == 3) = false := beq_eq_false_iff_ne.mpr c8
   have c8b1 : ((t150.length : Int) != 3) = true := bne_iff_ne.mpr c8
   exact absurd ((Option.some.inj H).trans hr_) (by simp)
 rw [if_pos c8] at H
 have c8b0 : ((t150.length : Int) == 3) = true := beq_iff_eq.mpr c8
 have c8b1 : ((t150.length : Int) != 3) = false := bne_eq_false_iff_eq.mpr c8
 clear c8
 by_cases c9 : t148 = 2
 rotate_left
 · rw [if_neg c9] at H
   have c9b0 : (t148 == 2) = false := beq_eq_false_iff_ne.mpr c9
   have c9b1 : (t148 != 2) = true := bne_iff_ne.mpr c9
   exact absurd ((Option.some.inj H).trans hr_) (by simp)
 rw [if_pos c9] at H
 have c9b0 : (t148 == 2) = true := beq_iff_eq.mpr c9
 have c9b1 : (t148 != 2) = false := bne_eq_false_iff_eq.mpr c9
 clear c9
 by_cases c10 : (t156.length : Int) = 2
 rotate_left
 · rw [if_neg c10] at H
   have c10b0 : ((t156.length : Int) == 2) = false := beq_eq_false_iff_ne.mpr c10
   have c10b1 : ((t156.length : Int) != 2) = true := bne_iff_ne.mpr c10
   exact absurd ((Option.some.inj H).trans hr_) (by simp)
 rw [if_pos c10] at H
 have c10b0 : ((t156.length : Int) == 2) = true := beq_iff_eq.mpr c10
 have c10b1 : ((t156.length : Int) != 2) = false := bne_eq_false_iff_eq.mpr c10
 clear c10
 by_cases c11 : 1 < (t156.length : Int)
 rotate_left
 · rw [if_neg c11] at H; exact absurd H (by simp)
 rw [if_pos c11] at H
 have c11b0 : decide (1 < (t156.length : Int)) = true := decide_eq_true c11
 have c11b1 : decide (1 < t156.length) = true := decide_eq_true (by omega)
 clear c11
 obtain rfl := Option.some.inj H
 go_enter Try.func14, Try.ntmps14
 go_wp2_with (first | ((with_reducible refine gate_callee (f := 12) rfl ?_); refine goesL_ (some 8) rfl rfl Try.func12 (by kernel_rfl) rfl #[.int .i64 2, .int .i64 2] rfl (by (try simp only [List.map_toArray, List.map_cons, List.map_nil]); first | done | rfl | (simp only [List.length_drop, List.length_take]; rfl)) ?_; (with_reducible refine (chart_First.calls k 2 2 t141 t142 t143 t146 _ A1.out).mono ?_); rintro e w12 ⟨v144, rfl, ho0, hb⟩; refine ⟨_, rfl, ?_⟩; have n0_ := Aside0.mk (Kd.R_lower ho0 (below_size (by repeat (first | (with_reducible first | exact HB.out | apply below_alloc | apply pw_below_drewN | apply below_drew1) | exact HB.out)))); have n1_ := Aside0.mk (below_step (by repeat (first | (with_reducible first | exact HB.out | apply below_alloc | apply pw_below_drewN | apply below_drew1) | exact HB.out)) hb); clear HB; have HO145 := n0_; have HB := n1_; clear n0_ n1_; (try clear hb); (try clear hb2); (try clear hk); (try clear hi); (try clear ho0)) | ((with_reducible refine gate_dst (N := 1) rfl ?_); (try (refine gate_guard (by rfl) ?_; dsimp only)); refine box_event ?hg (N := 1) ?hd (cs := #[.int .i64 0, .int .i64 0, .slice none 0 0]) (t := 24) ?hr ?_; (case hd => rfl); (case hg => rfl); (case hr => first | (go_simp; done) | (go_simp; rfl)); intro gb147 hg w13 hbox hb; have n0_ := Aside0.mk (Kd.R_below (by (with_reducible repeat (first | apply Kd.R_alloc | apply Kd.R_drewN | apply Kd.R_drew)); exact HO145.out) hb); have n1_ := Aside0.mk (below_step (by repeat (first | (with_reducible first | exact HB.out | apply below_alloc | apply pw_below_drewN | apply below_drew1) | exact HB.out)) hb); have n2_ := Aside0.mk (hbox); have n3_ := Aside0.mk ((by rw [hg]; exact (below_size (by repeat (first | (with_reducible first | exact HB.out | apply below_alloc | apply pw_below_drewN | apply below_drew1) | exact HB.out))) : w.heap.size ≤ gb147)); have n4_ := Aside0.mk ((by rw [hg]; exact (below_size (by repeat (first | (with_reducible first | exact HB.out | apply below_alloc | apply pw_below_drewN | apply below_drew1) | exact HB.out))) : w.heap.size ≤ gb147)); clear HO145; clear HB; have HO145 := n0_; have HB := n1_; have BK147 := n2_; have GW147 := n3_; have GE147 := n4_; clear n0_ n1_ n2_ n3_ n4_; clear hb hbox hg; have hcz14_0 : w13.cell? ⟨gb147, 0, none⟩ = some (.int .i64 0) := (blk_cell BK147.out 0).trans rfl; have hcz14_1 : w13.cell? ⟨gb147, 1, none⟩ = some (.int .i64 0) := (blk_cell BK147.out 1).trans rfl; have hcz14_2 : w13.cell? ⟨gb147, 2, none⟩ = some (.slice none 0 0) := (blk_cell BK147.out 2).trans rfl; have hfz14_0 := blk_frozen BK147.out 0; have hfz14_1 := blk_frozen BK147.out 1; have hfz14_2 := blk_frozen BK147.out 2; obtain ⟨Ao15, co15, eo15⟩ := Kd.R_slice HO145.out; subst eo15) | ((with_reducible refine gate_callee (f := 19) rfl ?_); refine goesL_ (some 14) rfl rfl Try.func19 (by kernel_rfl) rfl #[.agg #[.int .i64 t141, .int .i64 t142, .slice Ao15 t143.length co15], .agg #[.int .i64 1, .int .i64 1, .int .i64 100]] rfl (by (try simp only [List.map_toArray, List.map_cons, List.map_nil]); first | done | rfl | (simp only [List.length_drop, List.length_take]; rfl)) ?_; (with_reducible refine (chart_Apply.calls k t141 t142 _ _ t143 1 1 100 t148 t149 t150 t153 t156 t159 _ ?side1 ?side2 A2.out).mono ?_); (case side1 => refine (Kd.R_reads' (e := 57) (base := w.heap.size) (ok := fun k_ => True) (n := t143.length) (c := co15) ?_).2.2; exact (by (with_reducible repeat (first | apply Kd.R_alloc | apply Kd.R_drewN | apply Kd.R_drew)); exact (Kd.R_mono (Kd.R_far (p := ⟨gb147, 2, none⟩) (Kd.R_far (p := ⟨gb147, 1, none⟩) (Kd.R_far (p := ⟨gb147, 0, none⟩) (Kd.R_types HO145.out BK147.out (by decide)) (fun _ hk => hk.2) (.int .i64 t141)) (fun _ hk => hk.2) (.int .i64 t142)) (fun _ hk => hk.2) (.slice Ao15 t143.length co15)) (fun _ h_ => h_.1)))); (case side2 => exact (Kd.R_reads' HO145.out).2.1); rintro e w16 ⟨v151, v154, v157, rfl, ho0, ho1, ho2, hb⟩; refine ⟨_, rfl, ?_⟩; have n0_ := Aside0.mk (Kd.R_mono (Kd.R_told (Kd.R_told (Kd.R_told (Kd.R_old (by (with_reducible repeat (first | apply Kd.R_alloc | apply Kd.R_drewN | apply Kd.R_drew)); exact (Kd.R_mono (Kd.R_far (p := ⟨gb147, 2, none⟩) (Kd.R_far (p := ⟨gb147, 1, none⟩) (Kd.R_far (p := ⟨gb147, 0, none⟩) (Kd.R_types HO145.out BK147.out (by decide)) (fun _ hk => hk.2) (.int .i64 t141)) (fun _ hk => hk.2) (.int .i64 t142)) (fun _ hk => hk.2) (.slice Ao15 t143.length co15)) (fun _ h_ => h_.1))) hb) (Kd.R_base ho0)) (Kd.R_base ho1)) (Kd.R_base ho2)) (fun _ h_ => h_.1)); have n1_ := Aside0.mk (Kd.R_lower (Kd.R_new' ho0 (Kd.R_lt (by (with_reducible repeat (first | apply Kd.R_alloc | apply Kd.R_drewN | apply Kd.R_drew)); exact (Kd.R_mono (Kd.R_far (p := ⟨gb147, 2, none⟩) (Kd.R_far (p := ⟨gb147, 1, none⟩) (Kd.R_far (p := ⟨gb147, 0, none⟩) (Kd.R_types HO145.out BK147.out (by decide)) (fun _ hk => hk.2) (.int .i64 t141)) (fun _ hk => hk.2) (.int .i64 t142)) (fun _ hk => hk.2) (.slice Ao15 t143.length co15)) (fun _ h_ => h_.1))))) (below_size (by repeat (first | (with_reducible first | exact HB.out | apply below_alloc | apply pw_below_drewN | apply below_drew1 | refine below_set ?_ GE147.out) | exact HB.out)))); have n2_ := Aside0.mk (Kd.R_lower (Kd.R_new' ho1 (Kd.R_lt (by (with_reducible repeat (first | apply Kd.R_alloc | apply Kd.R_drewN | apply Kd.R_drew)); exact (Kd.R_mono (Kd.R_far (p := ⟨gb147, 2, none⟩) (Kd.R_far (p := ⟨gb147, 1, none⟩) (Kd.R_far (p := ⟨gb147, 0, none⟩) (Kd.R_types HO145.out BK147.out (by decide)) (fun _ hk => hk.2) (.int .i64 t141)) (fun _ hk => hk.2) (.int .i64 t142)) (fun _ hk => hk.2) (.slice Ao15 t143.length co15)) (fun _ h_ => h_.1))))) (below_size (by repeat (first | (with_reducible first | exact HB.out | apply below_alloc | apply pw_below_drewN | apply below_drew1 | refine below_set ?_ GE147.out) | exact HB.out)))); have n3_ := Aside0.mk (Kd.R_lower (Kd.R_new' ho2 (Kd.R_lt (by (with_reducible repeat (first | apply Kd.R_alloc | apply Kd.R_drewN | apply Kd.R_drew)); exact (Kd.R_mono (Kd.R_far (p := ⟨gb147, 2, none⟩) (Kd.R_far (p := ⟨gb147, 1, none⟩) (Kd.R_far (p := ⟨gb147, 0, none⟩) (Kd.R_types HO145.out BK147.out (by decide)) (fun _ hk => hk.2) (.int .i64 t141)) (fun _ hk => hk.2) (.int .i64 t142)) (fun _ hk => hk.2) (.slice Ao15 t143.length co15)) (fun _ h_ => h_.1))))) (below_size (by repeat (first | (with_reducible first | exact HB.out | apply below_alloc | apply pw_below_drewN | apply below_drew1 | refine below_set ?_ GE147.out) | exact HB.out)))); have n4_ := Aside0.mk (blk_below (g := gb147) (o := .cells #[.int .i64 t141, .int .i64 t142, .slice Ao15 t143.length co15] 24 (0, 0)) (by (with_reducible repeat (first | refine blk_drewN ?_ _ | refine blk_drew ?_ | refine blk_alloc ?_ _)); refine blk_put (cs := #[.int .i64 t141, .int .i64 t142, .slice none 0 0]) ?_ 2 _ rfl; (with_reducible repeat (first | refine blk_drewN ?_ _ | refine blk_drew ?_ | refine blk_alloc ?_ _)); refine blk_put (cs := #[.int .i64 t141, .int .i64 0, .slice none 0 0]) ?_ 1 _ rfl; (with_reducible repeat (first | refine blk_drewN ?_ _ | refine blk_drew ?_ | refine blk_alloc ?_ _)); refine blk_put (cs := #[.int .i64 0, .int .i64 0, .slice none 0 0]) ?_ 0 _ rfl; (with_reducible repeat (first | refine blk_drewN ?_ _ | refine blk_drew ?_ | refine blk_alloc ?_ _)); exact BK147.out) hb); have n5_ := Aside0.mk (below_step (by repeat (first | (with_reducible first | exact HB.out | apply below_alloc | apply pw_below_drewN | apply below_drew1 | refine below_set ?_ GE147.out) | exact HB.out)) hb); clear HO145; clear BK147; clear HB; have HO145 := n0_; have HO152 := n1_; have HO155 := n2_; have HO158 := n3_; have BK147 := n4_; have HB := n5_; clear n0_ n1_ n2_ n3_ n4_ n5_; (try clear hb); (try clear hb2); (try clear hk); (try clear hi); (try clear ho0); (try clear ho1); (try clear ho2)) | ((with_reducible refine gate_dst (N := 3) rfl ?_); (try (refine gate_guard (by rfl) ?_; dsimp only)); refine box_event ?hg (N := 3) ?hd (cs := #[.int .i64 0, .int .i64 0, .slice none 0 0]) (t := 24) ?hr ?_; (case hd => rfl); (case hg => rfl); (case hr => first | (go_simp; done) | (go_simp; rfl)); intro gb160 hg w17 hbox hb; have n0_ := Aside0.mk (Kd.R_below (by (with_reducible repeat (first | apply Kd.R_alloc | apply Kd.R_drewN | apply Kd.R_drew)); exact HO145.out) hb); have n1_ := Aside0.mk (Kd.R_below (by (with_reducible repeat (first | apply Kd.R_alloc | apply Kd.R_drewN | apply Kd.R_drew)); exact HO152.out) hb); have n2_ := Aside0.mk (Kd.R_below (by (with_reducible repeat (first | apply Kd.R_alloc | apply Kd.R_drewN | apply Kd.R_drew)); exact HO155.out) hb); have n3_ := Aside0.mk (Kd.R_below (by (with_reducible repeat (first | apply Kd.R_alloc | apply Kd.R_drewN | apply Kd.R_drew)); exact HO158.out) hb); have n4_ := Aside0.mk (blk_below (g := gb147) (o := .cells #[.int .i64 t141, .int .i64 t142, .slice Ao15 t143.length co15] 24 (0, 0)) (by (with_reducible repeat (first | refine blk_drewN ?_ _ | refine blk_drew ?_ | refine blk_alloc ?_ _)); exact BK147.out) hb); have n5_ := Aside0.mk (below_step (by repeat (first | (with_reducible first | exact HB.out | apply below_alloc | apply pw_below_drewN | apply below_drew1 | refine below_set ?_ GE147.out) | exact HB.out)) hb); have n6_ := Aside0.mk (hbox); have n7_ := Aside0.mk ((by rw [hg]; exact (below_size (by repeat (first | (with_reducible first | exact HB.out | apply below_alloc | apply pw_below_drewN | apply below_drew1 | refine below_set ?_ GE147.out) | exact HB.out))) : w.heap.size ≤ gb160)); have n8_ := Aside0.mk ((by rw [hg]; exact (below_size (by repeat (first | (with_reducible first | exact HB.out | apply below_alloc | apply pw_below_drewN | apply below_drew1 | refine below_set ?_ GE147.out) | exact HB.out))) : w.heap.size ≤ gb160)); have n9_ := Aside0.mk ((by rw [hg]; exact Nat.ne_of_lt (blk_lt (g := gb147) (o := .cells #[.int .i64 t141, .int .i64 t142, .slice Ao15 t143.length co15] 24 (0, 0)) (by (with_reducible repeat (first | refine blk_drewN ?_ _ | refine blk_drew ?_ | refine blk_alloc ?_ _)); exact BK147.out)) : gb147 ≠ gb160)); have n10_ := Aside0.mk ((by rw [hg]; exact Nat.ne_of_gt (blk_lt (g := gb147) (o := .cells #[.int .i64 t141, .int .i64 t142, .slice Ao15 t143.length co15] 24 (0, 0)) (by (with_reducible repeat (first | refine blk_drewN ?_ _ | refine blk_drew ?_ | refine blk_alloc ?_ _)); exact BK147.out)) : gb160 ≠ gb147)); clear HO145; clear HO152; clear HO155; clear HO158; clear BK147; clear HB; have HO145 := n0_; have HO152 := n1_; have HO155 := n2_; have HO158 := n3_; have BK147 := n4_; have HB := n5_; have BK160 := n6_; have GW160 := n7_; have GE160 := n8_; have NB147_160 := n9_; have NB160_147 := n10_; clear n0_ n1_ n2_ n3_ n4_ n5_ n6_ n7_ n8_ n9_ n10_; clear hb hbox hg; have hnb18 := NB160_147.out; have hnc18 := NB147_160.out; have hcz19_0 : w17.cell? ⟨gb160, 0, none⟩ = some (.int .i64 0) := (blk_cell BK160.out 0).trans rfl; have hcz19_1 : w17.cell? ⟨gb160, 1, none⟩ = some (.int .i64 0) := (blk_cell BK160.out 1).trans rfl; have hcz19_2 : w17.cell? ⟨gb160, 2, none⟩ = some (.slice none 0 0) := (blk_cell BK160.out 2).trans rfl; have hfz19_0 := blk_frozen BK160.out 0; have hfz19_1 := blk_frozen BK160.out 1; have hfz19_2 := blk_frozen BK160.out 2; obtain ⟨Ao20, co20, eo20⟩ := Kd.R_slice HO152.out; subst eo20; have hcz21_0 : w17.cell? ⟨gb147, 0, none⟩ = some (.int .i64 t141) := (blk_cell BK147.out 0).trans rfl; have hcz21_1 : w17.cell? ⟨gb147, 1, none⟩ = some (.int .i64 t142) := (blk_cell BK147.out 1).trans rfl; have hcz21_2 : w17.cell? ⟨gb147, 2, none⟩ = some (.slice Ao15 t143.length co15) := (blk_cell BK147.out 2).trans rfl; have hfz21_0 := blk_frozen BK147.out 0; have hfz21_1 := blk_frozen BK147.out 1; have hfz21_2 := blk_frozen BK147.out 2; have p161 : 0 ≤ (1 : Int) := (by omega); have q161 : 1 < (t143.length : Int) := of_decide_eq_true (by first | (with_reducible assumption) | assumption); obtain ⟨ad161, e161, hx161_0, hx161_1, hx161_2, hx161_3⟩ := at_T57 (Kd.R_reads' HO145.out).2.2 1 p161 q161; cases e161; (try simp only [show (1 : Int).toNat = 1 from rfl, Nat.reduceMul, Nat.reduceEqDiff, Go.Addr.add, ↓reduceIte] at hx161_0); (try simp only [show (1 : Int).toNat = 1 from rfl, Nat.reduceMul, Nat.reduceEqDiff, Go.Addr.add, ↓reduceIte] at hx161_1); (try simp only [show (1 : Int).toNat = 1 from rfl, Nat.reduceMul, Nat.reduceEqDiff, Go.Addr.add, ↓reduceIte] at hx161_2); (try simp only [show (1 : Int).toNat = 1 from rfl, Nat.reduceMul, Nat.reduceEqDiff, Go.Addr.add, ↓reduceIte] at hx161_3); have qi161 : (1 < t143.length) = True := eq_true (by omega); (try rw [show ((1 : Int)).toNat = 1 from rfl] at hx161_0); (try rw [show 1 * 4 = 4 from rfl] at hx161_0); (try rw [show ((1 : Int)).toNat = 1 from rfl] at hx161_1); (try rw [show 1 * 4 = 4 from rfl] at hx161_1); (try rw [show ((1 : Int)).toNat = 1 from rfl] at hx161_2); (try rw [show 1 * 4 = 4 from rfl] at hx161_2); (try rw [show ((1 : Int)).toNat = 1 from rfl] at hx161_3); (try rw [show 1 * 4 = 4 from rfl] at hx161_3); have hn161_0 : ad161.block ≠ gb160 := Kd.own_blk (Kd.R_ne HO145.out BK160.out (by decide)); have hn161_1 : ad161.block ≠ gb160 := Kd.own_blk (Kd.R_ne HO145.out BK160.out (by decide)); have hn161_2 : ad161.block ≠ gb160 := Kd.own_blk (Kd.R_ne HO145.out BK160.out (by decide)); replace hx161_0 := (cell_far (p := ⟨gb160, 0, none⟩) (by first | (rw [add_block]; exact hn161_0) | (show (Addr.add _ _).block ≠ _; rw [add_block]; exact hn161_0) | exact hn161_0) (.int .i64 t148)).trans hx161_0; replace hx161_1 := (cell_far (p := ⟨gb160, 0, none⟩) (by first | (rw [add_block]; exact hn161_0) | (show (Addr.add _ _).block ≠ _; rw [add_block]; exact hn161_0) | exact hn161_0) (.int .i64 t148)).trans hx161_1; replace hx161_2 := (cell_far (p := ⟨gb160, 0, none⟩) (by first | (rw [add_block]; exact hn161_0) | (show (Addr.add _ _).block ≠ _; rw [add_block]; exact hn161_0) | exact hn161_0) (.int .i64 t148)).trans hx161_2; replace hx161_3 := (cell_far (p := ⟨gb160, 0, none⟩) (by first | (rw [add_block]; exact hn161_0) | (show (Addr.add _ _).block ≠ _; rw [add_block]; exact hn161_0) | exact hn161_0) (.int .i64 t148)).trans hx161_3; replace hx161_0 := (cell_far (p := ⟨gb160, 1, none⟩) (by first | (rw [add_block]; exact hn161_1) | (show (Addr.add _ _).block ≠ _; rw [add_block]; exact hn161_1) | exact hn161_1) (.int .i64 t149)).trans hx161_0; replace hx161_1 := (cell_far (p := ⟨gb160, 1, none⟩) (by first | (rw [add_block]; exact hn161_1) | (show (Addr.add _ _).block ≠ _; rw [add_block]; exact hn161_1) | exact hn161_1) (.int .i64 t149)).trans hx161_1; replace hx161_2 := (cell_far (p := ⟨gb160, 1, none⟩) (by first | (rw [add_block]; exact hn161_1) | (show (Addr.add _ _).block ≠ _; rw [add_block]; exact hn161_1) | exact hn161_1) (.int .i64 t149)).trans hx161_2; replace hx161_3 := (cell_far (p := ⟨gb160, 1, none⟩) (by first | (rw [add_block]; exact hn161_1) | (show (Addr.add _ _).block ≠ _; rw [add_block]; exact hn161_1) | exact hn161_1) (.int .i64 t149)).trans hx161_3; replace hx161_0 := (cell_far (p := ⟨gb160, 2, none⟩) (by first | (rw [add_block]; exact hn161_2) | (show (Addr.add _ _).block ≠ _; rw [add_block]; exact hn161_2) | exact hn161_2) (.slice Ao20 t150.length co20)).trans hx161_0; replace hx161_1 := (cell_far (p := ⟨gb160, 2, none⟩) (by first | (rw [add_block]; exact hn161_2) | (show (Addr.add _ _).block ≠ _; rw [add_block]; exact hn161_2) | exact hn161_2) (.slice Ao20 t150.length co20)).trans hx161_1; replace hx161_2 := (cell_far (p := ⟨gb160, 2, none⟩) (by first | (rw [add_block]; exact hn161_2) | (show (Addr.add _ _).block ≠ _; rw [add_block]; exact hn161_2) | exact hn161_2) (.slice Ao20 t150.length co20)).trans hx161_2; replace hx161_3 := (cell_far (p := ⟨gb160, 2, none⟩) (by first | (rw [add_block]; exact hn161_2) | (show (Addr.add _ _).block ≠ _; rw [add_block]; exact hn161_2) | exact hn161_2) (.slice Ao20 t150.length co20)).trans hx161_3; clear hn161_0; clear hn161_1; clear hn161_2; replace p161 := eq_true p161; replace q161 := eq_true q161; obtain ⟨Ao22, co22, eo22⟩ := Kd.R_slice HO158.out; subst eo22; have p162 : 0 ≤ (1 : Int) := (by omega); have q162 : 1 < (t156.length : Int) := of_decide_eq_true (by first | (with_reducible assumption) | assumption); obtain ⟨ad162, e162, hx162_0, hx162_1, hx162_2, hx162_3⟩ := at_T57 (Kd.R_reads' HO158.out).2.2 1 p162 q162; cases e162; (try simp only [show (1 : Int).toNat = 1 from rfl, Nat.reduceMul, Nat.reduceEqDiff, Go.Addr.add, ↓reduceIte] at hx162_0); (try simp only [show (1 : Int).toNat = 1 from rfl, Nat.reduceMul, Nat.reduceEqDiff, Go.Addr.add, ↓reduceIte] at hx162_1); (try simp only [show (1 : Int).toNat = 1 from rfl, Nat.reduceMul, Nat.reduceEqDiff, Go.Addr.add, ↓reduceIte] at hx162_2); (try simp only [show (1 : Int).toNat = 1 from rfl, Nat.reduceMul, Nat.reduceEqDiff, Go.Addr.add, ↓reduceIte] at hx162_3); have qi162 : (1 < t156.length) = True := eq_true (by omega); (try rw [show ((1 : Int)).toNat = 1 from rfl] at hx162_0); (try rw [show 1 * 4 = 4 from rfl] at hx162_0); (try rw [show ((1 : Int)).toNat = 1 from rfl] at hx162_1); (try rw [show 1 * 4 = 4 from rfl] at hx162_1); (try rw [show ((1 : Int)).toNat = 1 from rfl] at hx162_2); (try rw [show 1 * 4 = 4 from rfl] at hx162_2); (try rw [show ((1 : Int)).toNat = 1 from rfl] at hx162_3); (try rw [show 1 * 4 = 4 from rfl] at hx162_3); have hn162_0 : ad162.block ≠ gb160 := Kd.own_blk (Kd.R_ne HO158.out BK160.out (by decide)); have hn162_1 : ad162.block ≠ gb160 := Kd.own_blk (Kd.R_ne HO158.out BK160.out (by decide)); have hn162_2 : ad162.block ≠ gb160 := Kd.own_blk (Kd.R_ne HO158.out BK160.out (by decide)); replace hx162_0 := (cell_far (p := ⟨gb160, 0, none⟩) (by first | (rw [add_block]; exact hn162_0) | (show (Addr.add _ _).block ≠ _; rw [add_block]; exact hn162_0) | exact hn162_0) (.int .i64 t148)).trans hx162_0; replace hx162_1 := (cell_far (p := ⟨gb160, 0, none⟩) (by first | (rw [add_block]; exact hn162_0) | (show (Addr.add _ _).block ≠ _; rw [add_block]; exact hn162_0) | exact hn162_0) (.int .i64 t148)).trans hx162_1; replace hx162_2 := (cell_far (p := ⟨gb160, 0, none⟩) (by first | (rw [add_block]; exact hn162_0) | (show (Addr.add _ _).block ≠ _; rw [add_block]; exact hn162_0) | exact hn162_0) (.int .i64 t148)).trans hx162_2; replace hx162_3 := (cell_far (p := ⟨gb160, 0, none⟩) (by first | (rw [add_block]; exact hn162_0) | (show (Addr.add _ _).block ≠ _; rw [add_block]; exact hn162_0) | exact hn162_0) (.int .i64 t148)).trans hx162_3; replace hx162_0 := (cell_far (p := ⟨gb160, 1, none⟩) (by first | (rw [add_block]; exact hn162_1) | (show (Addr.add _ _).block ≠ _; rw [add_block]; exact hn162_1) | exact hn162_1) (.int .i64 t149)).trans hx162_0; replace hx162_1 := (cell_far (p := ⟨gb160, 1, none⟩) (by first | (rw [add_block]; exact hn162_1) | (show (Addr.add _ _).block ≠ _; rw [add_block]; exact hn162_1) | exact hn162_1) (.int .i64 t149)).trans hx162_1; replace hx162_2 := (cell_far (p := ⟨gb160, 1, none⟩) (by first | (rw [add_block]; exact hn162_1) | (show (Addr.add _ _).block ≠ _; rw [add_block]; exact hn162_1) | exact hn162_1) (.int .i64 t149)).trans hx162_2; replace hx162_3 := (cell_far (p := ⟨gb160, 1, none⟩) (by first | (rw [add_block]; exact hn162_1) | (show (Addr.add _ _).block ≠ _; rw [add_block]; exact hn162_1) | exact hn162_1) (.int .i64 t149)).trans hx162_3; replace hx162_0 := (cell_far (p := ⟨gb160, 2, none⟩) (by first | (rw [add_block]; exact hn162_2) | (show (Addr.add _ _).block ≠ _; rw [add_block]; exact hn162_2) | exact hn162_2) (.slice Ao20 t150.length co20)).trans hx162_0; replace hx162_1 := (cell_far (p := ⟨gb160, 2, none⟩) (by first | (rw [add_block]; exact hn162_2) | (show (Addr.add _ _).block ≠ _; rw [add_block]; exact hn162_2) | exact hn162_2) (.slice Ao20 t150.length co20)).trans hx162_1; replace hx162_2 := (cell_far (p := ⟨gb160, 2, none⟩) (by first | (rw [add_block]; exact hn162_2) | (show (Addr.add _ _).block ≠ _; rw [add_block]; exact hn162_2) | exact hn162_2) (.slice Ao20 t150.length co20)).trans hx162_2; replace hx162_3 := (cell_far (p := ⟨gb160, 2, none⟩) (by first | (rw [add_block]; exact hn162_2) | (show (Addr.add _ _).block ≠ _; rw [add_block]; exact hn162_2) | exact hn162_2) (.slice Ao20 t150.length co20)).trans hx162_3; clear hn162_0; clear hn162_1; clear hn162_2; replace p162 := eq_true p162; replace q162 := eq_true q162))
 go_ret
 exact ⟨by first | rfl | (simp [errW_none, errW_some] <;> rfl) | (simp [*, errW_none, errW_some] <;> rfl), by repeat (first | (with_reducible first | exact HB.out | apply below_alloc | apply pw_below_drewN | apply below_drew1 | refine below_set ?_ GE147.out | refine below_set ?_ GE160.out) | exact HB.out)⟩

/-! ### splicelaw08_few: function 18 -/
def splicelaw08_few.f (a0_0 : Int) (a0_1 : Int) (l0_2 : List (S57)) : Option (Bool) := some (decide ((l0_2.length : Int) ≤ 60))
set_option maxHeartbeats 8000000 in
set_option maxRecDepth 100000 in
theorem splicelaw08_few.calls (a0_0 : Int) (a0_1 : Int) (A0_2 : Option Addr) (c0_2 : Nat) (l0_2 : List (S57)) (r : Bool) (w : World) (hr0_2 : Kd.C k57 w A0_2 l0_2.length l0_2) (hc0_2 : l0_2.length ≤ c0_2) (h : splicelaw08_few.f a0_0 a0_1 l0_2 = some r) :
    Calls Try.prog 18 #[.agg #[.int .i64 a0_0, .int .i64 a0_1, .slice A0_2 l0_2.length c0_2]] w fun e w' => e = .returned (.bool r) ∧ Below w.heap.size w w' := by
  have hu24 := Try.underlying24
  have HR0_2 := Aside0.mk hr0_2
  have HC0_2 := Aside0.mk hc0_2
  clear hr0_2 hc0_2
  have HB := Aside0.mk (Below.refl w.heap.size w)
  have H : (some (decide ((l0_2.length : Int) ≤ 60))) = some r := h
  clear h
  obtain rfl := Option.some.inj H
  go_enter Try.func18, Try.ntmps18
  go_wp2_with (first | ((with_reducible refine gate_dst (N := 1) rfl ?_); refine box_event ?hg (N := 1) ?hd (cs := #[.int .i64 a0_0, .int .i64 a0_1, .slice A0_2 l0_2.length c0_2]) (t := 24) ?hr ?_; (case hd => rfl); (case hg => rfl); (case hr => first | (go_simp; done) | (go_simp; rfl)); intro gb163 hg w2 hbox hb; have n0_ := Aside0.mk (below_step (by repeat (first | (with_reducible first | exact HB.out | apply below_alloc | apply pw_below_drewN | apply below_drew1) | exact HB.out)) hb); have n1_ := Aside0.mk (hbox); have n2_ := Aside0.mk ((by rw [hg]; exact (below_size (by repeat (first | (with_reducible first | exact HB.out | apply below_alloc | apply pw_below_drewN | apply below_drew1) | exact HB.out))) : w.heap.size ≤ gb163)); have n3_ := Aside0.mk ((by rw [hg]; exact (below_size (by repeat (first | (with_reducible first | exact HB.out | apply below_alloc | apply pw_below_drewN | apply below_drew1) | exact HB.out))) : w.heap.size ≤ gb163)); clear HB; have HB := n0_; have BK163 := n1_; have GW163 := n2_; have GE163 := n3_; clear n0_ n1_ n2_ n3_; clear hb hbox hg; have hcz3_0 : w2.cell? ⟨gb163, 0, none⟩ = some (.int .i64 a0_0) := (blk_cell BK163.out 0).trans rfl; have hcz3_1 : w2.cell? ⟨gb163, 1, none⟩ = some (.int .i64 a0_1) := (blk_cell BK163.out 1).trans rfl; have hcz3_2 : w2.cell? ⟨gb163, 2, none⟩ = some (.slice A0_2 l0_2.length c0_2) := (blk_cell BK163.out 2).trans rfl; have hfz3_0 := blk_frozen BK163.out 0; have hfz3_1 := blk_frozen BK163.out 1; have hfz3_2 := blk_frozen BK163.out 2))
  go_ret
  exact ⟨by first | rfl | (simp [errW_none, errW_some] <;> rfl) | (simp [*, errW_none, errW_some] <;> rfl), by repeat (first | (with_reducible first | exact HB.out | apply below_alloc | apply pw_below_drewN | apply below_drew1 | refine below_set ?_ GE163.out) | exact HB.out)⟩

/-! ### chart_Find: function 24 -/
def chart_Find.f (k : Nat) (a0_0 : Int) (a0_1 : Int) (l0_2 : List (S57)) (a1 : Int) : Option (Int × Int × Int × Int × Bool) := (chart_place.f a0_0 a0_1 l0_2 a1).bind fun t166 => (if t166 < 0 then (some (0, 0, 0, 0, false)) else ((chart_Check.f k a0_0 a0_1 l0_2).bind fun t167 => (if t167 = true then (if 0 ≤ t166 then (if t166 < (l0_2.length : Int) then (some ((rd_T57 l0_2 t166).f0, (rd_T57 l0_2 t166).f1.f0, (rd_T57 l0_2 t166).f1.f1, (rd_T57 l0_2 t166).f2, true)) else (none)) else (none)) else (some (0, 0, 0, 0, false)))))
theorem chart_Find.mono : ∀ a0 a1 a2 a3 k, LeO (chart_Find.f k a0 a1 a2 a3) (chart_Find.f (k + 1) a0 a1 a2 a3) := by
  intro a0 a1 a2 a3 k
  unfold chart_Find.f
  repeat' first
      | (with_reducible exact chart_Check.mono _ _ _ _)
      | (with_reducible exact LeO.refl _)
      | (with_reducible exact LeO.none _)
      | (with_reducible refine LeO.ite ?_ ?_)
      | (with_reducible refine LeO.bind ?_ (fun _ => ?_))
      | exact chart_Check.mono _ _ _ _
      | exact LeO.none _
      | refine LeO.ite ?_ ?_
      | refine LeO.bind ?_ (fun _ => ?_)
set_option maxHeartbeats 8000000 in
set_option maxRecDepth 100000 in
theorem chart_Find.calls (k : Nat) (a0_0 : Int) (a0_1 : Int) (A0_2 : Option Addr) (c0_2 : Nat) (l0_2 : List (S57)) (a1 : Int) (r1 : Int) (r2 : Int) (r3 : Int) (r4 : Int) (r5 : Bool) (w : World) (hr0_2 : Kd.C k57 w A0_2 l0_2.length l0_2) (hc0_2 : l0_2.length ≤ c0_2) (h : chart_Find.f k a0_0 a0_1 l0_2 a1 = some (r1, r2, r3, r4, r5)) :
    Calls Try.prog 24 #[.agg #[.int .i64 a0_0, .int .i64 a0_1, .slice A0_2 l0_2.length c0_2], .int .i64 a1] w fun e w' => e = .returned (.tuple #[.agg #[.int .i64 r1, .int .i64 r2, .int .i64 r3, .int .i64 r4], .bool r5]) ∧ Below w.heap.size w w' := by
 have hu24 := Try.underlying24
 have hu57 := Try.underlying57
 have HR0_2 := Aside0.mk hr0_2
 have HC0_2 := Aside0.mk hc0_2
 clear hr0_2 hc0_2
 have HB := Aside0.mk (Below.refl w.heap.size w)
 have H : ((chart_place.f a0_0 a0_1 l0_2 a1).bind fun t166 => (if t166 < 0 then (some (0, 0, 0, 0, false)) else ((chart_Check.f k a0_0 a0_1 l0_2).bind fun t167 => (if t167 = true then (if 0 ≤ t166 then (if t166 < (l0_2.length : Int) then (some ((rd_T57 l0_2 t166).f0, (rd_T57 l0_2 t166).f1.f0, (rd_T57 l0_2 t166).f1.f1, (rd_T57 l0_2 t166).f2, true)) else (none)) else (none)) else (some (0, 0, 0, 0, false)))))) = some (r1, r2, r3, r4, r5) := h
 clear h
 replace H := Option.bind_eq_some_iff.mp H
 obtain ⟨t166, A30, H⟩ := H
 replace H : (if t166 < 0 then (some (0, 0, 0, 0, false)) else ((chart_Check.f k a0_0 a0_1 l0_2).bind fun t167 => (if t167 = true then (if 0 ≤ t166 then (if t166 < (l0_2.length : Int) then (some ((rd_T57 l0_2 t166).f0, (rd_T57 l0_2 t166).f1.f0, (rd_T57 l0_2 t166).f1.f1, (rd_T57 l0_2 t166).f2, true)) else (none)) else (none)) else (some (0, 0, 0, 0, false))))) = some (r1, r2, r3, r4, r5) := H
 have A3 := Aside0.mk A30
 clear A30
 by_cases c4 : t166 < 0
 · rw [if_pos c4] at H
   have c4b0 : decide (t166 < 0) = true := decide_eq_true c4
   clear c4; simp only [Option.some.injEq, Prod.mk.injEq] at H
   obtain ⟨rfl, rfl, rfl, rfl, rfl⟩ := H
   go_enter Try.func24, Try.ntmps24
   go_wp2_with (first | ((with_reducible refine gate_dst (N := 2) rfl ?_); refine box_event ?hg (N := 2) ?hd (cs := #[.int .i64 a0_0, .int .i64 a0_1, .slice A0_2 l0_2.length c0_2]) (t := 24) ?hr ?_; (case hd => rfl); (case hg => rfl); (case hr => first | (go_simp; done) | (go_simp; rfl)); intro gb164 hg w5 hbox hb; have n0_ := Aside0.mk (below_step (by repeat (first | (with_reducible first | exact HB.out | apply below_alloc | apply pw_below_drewN | apply below_drew1) | exact HB.out)) hb); have n1_ := Aside0.mk (hbox); have n2_ := Aside0.mk ((by rw [hg]; exact (below_size (by repeat (first | (with_reducible first | exact HB.out | apply below_alloc | apply pw_below_drewN | apply below_drew1) | exact HB.out))) : w.heap.size ≤ gb164)); have n3_ := Aside0.mk ((by rw [hg]; exact (below_size (by repeat (first | (with_reducible first | exact HB.out | apply below_alloc | apply pw_below_drewN | apply below_drew1) | exact HB.out))) : w.heap.size ≤ gb164)); clear HB; have HB := n0_; have BK164 := n1_; have GW164 := n2_; have GE164 := n3_; clear n0_ n1_ n2_ n3_; clear hb hbox hg) | ((with_reducible refine gate_dst (N := 4) rfl ?_); refine box_event ?hg (N := 4) ?hd (cs := #[.int .i64 0, .int .i64 0, .int .i64 0, .int .i64 0]) (t := 57) ?hr ?_; (case hd => rfl); (case hg => rfl); (case hr => first | (go_simp; done) | (go_simp; rfl)); intro gb165 hg w6 hbox hb; have n0_ := Aside0.mk (blk_below (g := gb164) (o := .cells #[.int .i64 a0_0, .int .i64 a0_1, .slice A0_2 l0_2.length c0_2] 24 (0, 0)) (by (with_reducible repeat (first | refine blk_drewN ?_ _ | refine blk_drew ?_ | refine blk_alloc ?_ _)); exact BK164.out) hb); have n1_ := Aside0.mk (below_step (by repeat (first | (with_reducible first | exact HB.out | apply below_alloc | apply pw_below_drewN | apply below_drew1 | refine below_set ?_ GE164.out) | exact HB.out)) hb); have n2_ := Aside0.mk (hbox); have n3_ := Aside0.mk ((by rw [hg]; exact (below_size (by repeat (first | (with_reducible first | exact HB.out | apply below_alloc | apply pw_below_drewN | apply below_drew1 | refine below_set ?_ GE164.out) | exact HB.out))) : w.heap.size ≤ gb165)); have n4_ := Aside0.mk ((by rw [hg]; exact (below_size (by repeat (first | (with_reducible first | exact HB.out | apply below_alloc | apply pw_below_drewN | apply below_drew1 | refine below_set ?_ GE164.out) | exact HB.out))) : w.heap.size ≤ gb165)); have n5_ := Aside0.mk ((by rw [hg]; exact Nat.ne_of_lt (blk_lt (g := gb164) (o := .cells #[.int .i64 a0_0, .int .i64 a0_1, .slice A0_2 l0_2.length c0_2] 24 (0, 0)) (by (with_reducible repeat (first | refine blk_drewN ?_ _ | refine blk_drew ?_ | refine blk_alloc ?_ _)); exact BK164.out)) : gb164 ≠ gb165)); have n6_ := Aside0.mk ((by rw [hg]; exact Nat.ne_of_gt (blk_lt (g := gb164) (o := .cells #[.int .i64 a0_0, .int .i64 a0_1, .slice A0_2 l0_2.length c0_2] 24 (0, 0)) (by (with_reducible repeat (first | refine blk_drewN ?_ _ | refine blk_drew ?_ | refine blk_alloc ?_ _)); exact BK164.out)) : gb165 ≠ gb164)); clear BK164; clear HB; have BK164 := n0_; have HB := n1_; have BK165 := n2_; have GW165 := n3_; have GE165 := n4_; have NB164_165 := n5_; have NB165_164 := n6_; clear n0_ n1_ n2_ n3_ n4_ n5_ n6_; clear hb hbox hg; have hnb7 := NB164_165.out; have hnc7 := NB165_164.out; have hcz8_0 : w6.cell? ⟨gb164, 0, none⟩ = some (.int .i64 a0_0) := (blk_cell BK164.out 0).trans rfl; have hcz8_1 : w6.cell? ⟨gb164, 1, none⟩ = some (.int .i64 a0_1) := (blk_cell BK164.out 1).trans rfl; have hcz8_2 : w6.cell? ⟨gb164, 2, none⟩ = some (.slice A0_2 l0_2.length c0_2) := (blk_cell BK164.out 2).trans rfl; have hfz8_0 := blk_frozen BK164.out 0; have hfz8_1 := blk_frozen BK164.out 1; have hfz8_2 := blk_frozen BK164.out 2) | ((with_reducible refine gate_callee (f := 43) rfl ?_); refine goesL_ (some 9) rfl rfl Try.func43 (by kernel_rfl) rfl #[.agg #[.int .i64 a0_0, .int .i64 a0_1, .slice A0_2 l0_2.length c0_2], .int .i64 a1] rfl (by (try simp only [List.map_toArray, List.map_cons, List.map_nil]); first | done | rfl | (simp only [List.length_drop, List.length_take]; rfl)) ?_; (with_reducible refine (chart_place.calls a0_0 a0_1 _ _ l0_2 a1 t166 _ ?side1 ?side2 A3.out).mono ?_); (case side1 => repeat (first | exact (Kd.C_below HR0_2.out HB.out) | (with_reducible refine Kd.C_alloc ?_ _) | (with_reducible refine Kd.C_drewN ?_ _) | (with_reducible refine Kd.C_drew ?_))); (case side2 => exact HC0_2.out); rintro e w9 ⟨rfl, hb⟩; refine ⟨_, rfl, ?_⟩; have n0_ := Aside0.mk (blk_below (g := gb164) (o := .cells #[.int .i64 a0_0, .int .i64 a0_1, .slice A0_2 l0_2.length c0_2] 24 (0, 0)) (by (with_reducible repeat (first | refine blk_drewN ?_ _ | refine blk_drew ?_ | refine blk_alloc ?_ _)); exact BK164.out) hb); have n1_ := Aside0.mk (blk_below (g := gb165) (o := .cells #[.int .i64 0, .int .i64 0, .int .i64 0, .int .i64 0] 57 (0, 0)) (by (with_reducible repeat (first | refine blk_drewN ?_ _ | refine blk_drew ?_ | refine blk_alloc ?_ _)); exact BK165.out) hb); have n2_ := Aside0.mk (below_step (by repeat (first | (with_reducible first | exact HB.out | apply below_alloc | apply pw_below_drewN | apply below_drew1 | refine below_set ?_ GE164.out | refine below_set ?_ GE165.out) | exact HB.out)) hb); clear BK164; clear BK165; clear HB; have BK164 := n0_; have BK165 := n1_; have HB := n2_; clear n0_ n1_ n2_; (try clear hb); (try clear hb2); (try clear hk); (try clear hi); have hcz10_0 : w9.cell? ⟨gb165, 0, none⟩ = some (.int .i64 0) := (blk_cell BK165.out 0).trans rfl; have hcz10_1 : w9.cell? ⟨gb165, 1, none⟩ = some (.int .i64 0) := (blk_cell BK165.out 1).trans rfl; have hcz10_2 : w9.cell? ⟨gb165, 2, none⟩ = some (.int .i64 0) := (blk_cell BK165.out 2).trans rfl; have hcz10_3 : w9.cell? ⟨gb165, 3, none⟩ = some (.int .i64 0) := (blk_cell BK165.out 3).trans rfl; have hfz10_0 := blk_frozen BK165.out 0; have hfz10_1 := blk_frozen BK165.out 1; have hfz10_2 := blk_frozen BK165.out 2; have hfz10_3 := blk_frozen BK165.out 3))
   refine bodyPost_ret (results_ct rfl _ _ gb165 57 #[.int .i64 0, .int .i64 0, .int .i64 0, .int .i64 0] (0, 0) _ rfl (by (with_reducible repeat (first | refine blk_drewN ?_ _ | refine blk_drew ?_ | refine blk_alloc ?_ _)); refine blk_put (cs := #[.int .i64 0, .int .i64 0, .int .i64 0, .int .i64 0]) ?_ 3 _ rfl; (with_reducible repeat (first | refine blk_drewN ?_ _ | refine blk_drew ?_ | refine blk_alloc ?_ _)); refine blk_put (cs := #[.int .i64 0, .int .i64 0, .int .i64 0, .int .i64 0]) ?_ 2 _ rfl; (with_reducible repeat (first | refine blk_drewN ?_ _ | refine blk_drew ?_ | refine blk_alloc ?_ _)); refine blk_put (cs := #[.int .i64 0, .int .i64 0, .int .i64 0, .int .i64 0]) ?_ 1 _ rfl; (with_reducible repeat (first | refine blk_drewN ?_ _ | refine blk_drew ?_ | refine blk_alloc ?_ _)); refine blk_put (cs := #[.int .i64 0, .int .i64 0, .int .i64 0, .int .i64 0]) ?_ 0 _ rfl; (with_reducible repeat (first | refine blk_drewN ?_ _ | refine blk_drew ?_ | refine blk_alloc ?_ _)); exact BK165.out) Try.underlying57 rfl (by kernel_rfl)) rfl ?_
   exact ⟨by first | rfl | (simp [errW_none, errW_some] <;> rfl) | (simp [*, errW_none, errW_some] <;> rfl), by repeat (first | (with_reducible first | exact HB.out | apply below_alloc | apply pw_below_drewN | apply below_drew1 | refine below_set ?_ GE164.out | refine below_set ?_ GE165.out) | exact HB.out)⟩
 rw [if_neg c4] at H
 have c4b0 : decide (t166 < 0) = false := decide_eq_false c4
 clear c4
 replace H := Option.bind_eq_some_iff.mp H
 obtain ⟨t167, A110, H⟩ := H
 replace H : (if t167 = true then (if 0 ≤ t166 then (if t166 < (l0_2.length : Int) then (some ((rd_T57 l0_2 t166).f0, (rd_T57 l0_2 t166).f1.f0, (rd_T57 l0_2 t166).f1.f1, (rd_T57 l0_2 t166).f2, true)) else (none)) else (none)) else (some (0, 0, 0, 0, false))) = some (r1, r2, r3, r4, r5) := H
 have A11 := Aside0.mk A110
 clear A110
 by_cases c12 : t167 = true
 rotate_left
 · replace c12 := Bool.eq_false_iff.mpr c12
   subst c12
   have H1 : (some (0, 0, 0, 0, false)) = some (r1, r2, r3, r4, r5) := by rw [if_neg (show ¬ (false = true) by decide)] at H; exact H
   clear H
   have H := H1
   clear H1; simp only [Option.some.injEq, Prod.mk.injEq] at H
   obtain ⟨rfl, rfl, rfl, rfl, rfl⟩ := H
   go_enter Try.func24, Try.ntmps24
   go_wp2_with (first | ((with_reducible refine gate_dst (N := 2) rfl ?_); refine box_event ?hg (N := 2) ?hd (cs := #[.int .i64 a0_0, .int .i64 a0_1, .slice A0_2 l0_2.length c0_2]) (t := 24) ?hr ?_; (case hd => rfl); (case hg => rfl); (case hr => first | (go_simp; done) | (go_simp; rfl)); intro gb164 hg w24 hbox hb; have n0_ := Aside0.mk (below_step (by repeat (first | (with_reducible first | exact HB.out | apply below_alloc | apply pw_below_drewN | apply below_drew1) | exact HB.out)) hb); have n1_ := Aside0.mk (hbox); have n2_ := Aside0.mk ((by rw [hg]; exact (below_size (by repeat (first | (with_reducible first | exact HB.out | apply below_alloc | apply pw_below_drewN | apply below_drew1) | exact HB.out))) : w.heap.size ≤ gb164)); have n3_ := Aside0.mk ((by rw [hg]; exact (below_size (by repeat (first | (with_reducible first | exact HB.out | apply below_alloc | apply pw_below_drewN | apply below_drew1) | exact HB.out))) : w.heap.size ≤ gb164)); clear HB; have HB := n0_; have BK164 := n1_; have GW164 := n2_; have GE164 := n3_; clear n0_ n1_ n2_ n3_; clear hb hbox hg) | ((with_reducible refine gate_dst (N := 4) rfl ?_); refine box_event ?hg (N := 4) ?hd (cs := #[.int .i64 0, .int .i64 0, .int .i64 0, .int .i64 0]) (t := 57) ?hr ?_; (case hd => rfl); (case hg => rfl); (case hr => first | (go_simp; done) | (go_simp; rfl)); intro gb165 hg w25 hbox hb; have n0_ := Aside0.mk (blk_below (g := gb164) (o := .cells #[.int .i64 a0_0, .int .i64 a0_1, .slice A0_2 l0_2.length c0_2] 24 (0, 0)) (by (with_reducible repeat (first | refine blk_drewN ?_ _ | refine blk_drew ?_ | refine blk_alloc ?_ _)); exact BK164.out) hb); have n1_ := Aside0.mk (below_step (by repeat (first | (with_reducible first | exact HB.out | apply below_alloc | apply pw_below_drewN | apply below_drew1 | refine below_set ?_ GE164.out) | exact HB.out)) hb); have n2_ := Aside0.mk (hbox); have n3_ := Aside0.mk ((by rw [hg]; exact (below_size (by repeat (first | (with_reducible first | exact HB.out | apply below_alloc | apply pw_below_drewN | apply below_drew1 | refine below_set ?_ GE164.out) | exact HB.out))) : w.heap.size ≤ gb165)); have n4_ := Aside0.mk ((by rw [hg]; exact (below_size (by repeat (first | (with_reducible first | exact HB.out | apply below_alloc | apply pw_below_drewN | apply below_drew1 | refine below_set ?_ GE164.out) | exact HB.out))) : w.heap.size ≤ gb165)); have n5_ := Aside0.mk ((by rw [hg]; exact Nat.ne_of_lt (blk_lt (g := gb164) (o := .cells #[.int .i64 a0_0, .int .i64 a0_1, .slice A0_2 l0_2.length c0_2] 24 (0, 0)) (by (with_reducible repeat (first | refine blk_drewN ?_ _ | refine blk_drew ?_ | refine blk_alloc ?_ _)); exact BK164.out)) : gb164 ≠ gb165)); have n6_ := Aside0.mk ((by rw [hg]; exact Nat.ne_of_gt (blk_lt (g := gb164) (o := .cells #[.int .i64 a0_0, .int .i64 a0_1, .slice A0_2 l0_2.length c0_2] 24 (0, 0)) (by (with_reducible repeat (first | refine blk_drewN ?_ _ | refine blk_drew ?_ | refine blk_alloc ?_ _)); exact BK164.out)) : gb165 ≠ gb164)); clear BK164; clear HB; have BK164 := n0_; have HB := n1_; have BK165 := n2_; have GW165 := n3_; have GE165 := n4_; have NB164_165 := n5_; have NB165_164 := n6_; clear n0_ n1_ n2_ n3_ n4_ n5_ n6_; clear hb hbox hg; have hnb26 := NB164_165.out; have hnc26 := NB165_164.out; have hcz27_0 : w25.cell? ⟨gb164, 0, none⟩ = some (.int .i64 a0_0) := (blk_cell BK164.out 0).trans rfl; have hcz27_1 : w25.cell? ⟨gb164, 1, none⟩ = some (.int .i64 a0_1) := (blk_cell BK164.out 1).trans rfl; have hcz27_2 : w25.cell? ⟨gb164, 2, none⟩ = some (.slice A0_2 l0_2.length c0_2) := (blk_cell BK164.out 2).trans rfl; have hfz27_0 := blk_frozen BK164.out 0; have hfz27_1 := blk_frozen BK164.out 1; have hfz27_2 := blk_frozen BK164.out 2) | ((with_reducible refine gate_callee (f := 43) rfl ?_); refine goesL_ (some 9) rfl rfl Try.func43 (by kernel_rfl) rfl #[.agg #[.int .i64 a0_0, .int .i64 a0_1, .slice A0_2 l0_2.length c0_2], .int .i64 a1] rfl (by (try simp only [List.map_toArray, List.map_cons, List.map_nil]); first | done | rfl | (simp only [List.length_drop, List.length_take]; rfl)) ?_; (with_reducible refine (chart_place.calls a0_0 a0_1 _ _ l0_2 a1 t166 _ ?side1 ?side2 A3.out).mono ?_); (case side1 => repeat (first | exact (Kd.C_below HR0_2.out HB.out) | (with_reducible refine Kd.C_alloc ?_ _) | (with_reducible refine Kd.C_drewN ?_ _) | (with_reducible refine Kd.C_drew ?_))); (case side2 => exact HC0_2.out); rintro e w28 ⟨rfl, hb⟩; refine ⟨_, rfl, ?_⟩; have n0_ := Aside0.mk (blk_below (g := gb164) (o := .cells #[.int .i64 a0_0, .int .i64 a0_1, .slice A0_2 l0_2.length c0_2] 24 (0, 0)) (by (with_reducible repeat (first | refine blk_drewN ?_ _ | refine blk_drew ?_ | refine blk_alloc ?_ _)); exact BK164.out) hb); have n1_ := Aside0.mk (blk_below (g := gb165) (o := .cells #[.int .i64 0, .int .i64 0, .int .i64 0, .int .i64 0] 57 (0, 0)) (by (with_reducible repeat (first | refine blk_drewN ?_ _ | refine blk_drew ?_ | refine blk_alloc ?_ _)); exact BK165.out) hb); have n2_ := Aside0.mk (below_step (by repeat (first | (with_reducible first | exact HB.out | apply below_alloc | apply pw_below_drewN | apply below_drew1 | refine below_set ?_ GE164.out | refine below_set ?_ GE165.out) | exact HB.out)) hb); clear BK164; clear BK165; clear HB; have BK164 := n0_; have BK165 := n1_; have HB := n2_; clear n0_ n1_ n2_; (try clear hb); (try clear hb2); (try clear hk); (try clear hi); have hcz29_0 : w28.cell? ⟨gb164, 0, none⟩ = some (.int .i64 a0_0) := (blk_cell BK164.out 0).trans rfl; have hcz29_1 : w28.cell? ⟨gb164, 1, none⟩ = some (.int .i64 a0_1) := (blk_cell BK164.out 1).trans rfl; have hcz29_2 : w28.cell? ⟨gb164, 2, none⟩ = some (.slice A0_2 l0_2.length c0_2) := (blk_cell BK164.out 2).trans rfl; have hfz29_0 := blk_frozen BK164.out 0; have hfz29_1 := blk_frozen BK164.out 1; have hfz29_2 := blk_frozen BK164.out 2) | (go_at_call 17; (with_reducible refine (chart_Check.calls k a0_0 a0_1 _ _ l0_2 false _ ?side1 ?side2 A11.out).mono ?_); (case side1 => repeat (first | exact (Kd.C_below HR0_2.out HB.out) | (with_reducible refine Kd.C_alloc ?_ _) | (with_reducible refine Kd.C_drewN ?_ _) | (with_reducible refine Kd.C_drew ?_))); (case side2 => exact HC0_2.out); rintro e w30 ⟨rfl, hb⟩; have n0_ := Aside0.mk (blk_below (g := gb164) (o := .cells #[.int .i64 a0_0, .int .i64 a0_1, .slice A0_2 l0_2.length c0_2] 24 (0, 0)) (by (with_reducible repeat (first | refine blk_drewN ?_ _ | refine blk_drew ?_ | refine blk_alloc ?_ _)); exact BK164.out) hb); have n1_ := Aside0.mk (blk_below (g := gb165) (o := .cells #[.int .i64 0, .int .i64 0, .int .i64 0, .int .i64 0] 57 (0, 0)) (by (with_reducible repeat (first | refine blk_drewN ?_ _ | refine blk_drew ?_ | refine blk_alloc ?_ _)); exact BK165.out) hb); have n2_ := Aside0.mk (below_step (by repeat (first | (with_reducible first | exact HB.out | apply below_alloc | apply pw_below_drewN | apply below_drew1 | refine below_set ?_ GE164.out | refine below_set ?_ GE165.out) | exact HB.out)) hb); clear BK164; clear BK165; clear HB; have BK164 := n0_; have BK165 := n1_; have HB := n2_; clear n0_ n1_ n2_; (try clear hb); (try clear hb2); (try clear hk); (try clear hi); have hcz31_0 : w30.cell? ⟨gb165, 0, none⟩ = some (.int .i64 0) := (blk_cell BK165.out 0).trans rfl; have hcz31_1 : w30.cell? ⟨gb165, 1, none⟩ = some (.int .i64 0) := (blk_cell BK165.out 1).trans rfl; have hcz31_2 : w30.cell? ⟨gb165, 2, none⟩ = some (.int .i64 0) := (blk_cell BK165.out 2).trans rfl; have hcz31_3 : w30.cell? ⟨gb165, 3, none⟩ = some (.int .i64 0) := (blk_cell BK165.out 3).trans rfl; have hfz31_0 := blk_frozen BK165.out 0; have hfz31_1 := blk_frozen BK165.out 1; have hfz31_2 := blk_frozen BK165.out 2; have hfz31_3 := blk_frozen BK165.out 3))
   refine bodyPost_ret (results_ct rfl _ _ gb165 57 #[.int .i64 0, .int .i64 0, .int .i64 0, .int .i64 0] (0, 0) _ rfl (by (with_reducible repeat (first | refine blk_drewN ?_ _ | refine blk_drew ?_ | refine blk_alloc ?_ _)); refine blk_put (cs := #[.int .i64 0, .int .i64 0, .int .i64 0, .int .i64 0]) ?_ 3 _ rfl; (with_reducible repeat (first | refine blk_drewN ?_ _ | refine blk_drew ?_ | refine blk_alloc ?_ _)); refine blk_put (cs := #[.int .i64 0, .int .i64 0, .int .i64 0, .int .i64 0]) ?_ 2 _ rfl; (with_reducible repeat (first | refine blk_drewN ?_ _ | refine blk_drew ?_ | refine blk_alloc ?_ _)); refine blk_put (cs := #[.int .i64 0, .int .i64 0, .int .i64 0, .int .i64 0]) ?_ 1 _ rfl; (with_reducible repeat (first | refine blk_drewN ?_ _ | refine blk_drew ?_ | refine blk_alloc ?_ _)); refine blk_put (cs := #[.int .i64 0, .int .i64 0, .int .i64 0, .int .i64 0]) ?_ 0 _ rfl; (with_reducible repeat (first | refine blk_drewN ?_ _ | refine blk_drew ?_ | refine blk_alloc ?_ _)); exact BK165.out) Try.underlying57 rfl (by kernel_rfl)) rfl ?_
   exact ⟨by first | rfl | (simp [errW_none, errW_some] <;> rfl) | (simp [*, errW_none, errW_some] <;> rfl), by repeat (first | (with_reducible first | exact HB.out | apply below_alloc | apply pw_below_drewN | apply below_drew1 | refine below_set ?_ GE164.out | refine below_set ?_ GE165.out) | exact HB.out)⟩
 subst c12
 have H1 : (if 0 ≤ t166 then (if t166 < (l0_2.length : Int) then (some ((rd_T57 l0_2 t166).f0, (rd_T57 l0_2 t166).f1.f0, (rd_T57 l0_2 t166).f1.f1, (rd_T57 l0_2 t166).f2, true)) else (none)) else (none)) = some (r1, r2, r3, r4, r5) := by rw [if_pos rfl] at H; exact H
 clear H
 have H := H1
 clear H1
 by_cases c13 : 0 ≤ t166
 rotate_left
 · rw [if_neg c13] at H; exact absurd H (by simp)
 rw [if_pos c13] at H
 have c13b0 : decide (0 ≤ t166) = true := decide_eq_true c13
 clear c13
 by_cases c14 : t166 < (l0_2.length : Int)
 rotate_left
 · rw [if_neg c14] at H; exact absurd H (by simp)
 rw [if_pos c14] at H
 have c14b0 : decide (t166 < (l0_2.length : Int)) = true := decide_eq_true c14
 clear c14; simp only [Option.some.injEq, Prod.mk.injEq] at H
 obtain ⟨rfl, rfl, rfl, rfl, rfl⟩ := H
 go_enter Try.func24, Try.ntmps24
 go_wp2_with (first | ((with_reducible refine gate_dst (N := 2) rfl ?_); refine box_event ?hg (N := 2) ?hd (cs := #[.int .i64 a0_0, .int .i64 a0_1, .slice A0_2 l0_2.length c0_2]) (t := 24) ?hr ?_; (case hd => rfl); (case hg => rfl); (case hr => first | (go_simp; done) | (go_simp; rfl)); intro gb164 hg w15 hbox hb; have n0_ := Aside0.mk (below_step (by repeat (first | (with_reducible first | exact HB.out | apply below_alloc | apply pw_below_drewN | apply below_drew1) | exact HB.out)) hb); have n1_ := Aside0.mk (hbox); have n2_ := Aside0.mk ((by rw [hg]; exact (below_size (by repeat (first | (with_reducible first | exact HB.out | apply below_alloc | apply pw_below_drewN | apply below_drew1) | exact HB.out))) : w.heap.size ≤ gb164)); have n3_ := Aside0.mk ((by rw [hg]; exact (below_size (by repeat (first | (with_reducible first | exact HB.out | apply below_alloc | apply pw_below_drewN | apply below_drew1) | exact HB.out))) : w.heap.size ≤ gb164)); clear HB; have HB := n0_; have BK164 := n1_; have GW164 := n2_; have GE164 := n3_; clear n0_ n1_ n2_ n3_; clear hb hbox hg) | ((with_reducible refine gate_dst (N := 4) rfl ?_); refine box_event ?hg (N := 4) ?hd (cs := #[.int .i64 0, .int .i64 0, .int .i64 0, .int .i64 0]) (t := 57) ?hr ?_; (case hd => rfl); (case hg => rfl); (case hr => first | (go_simp; done) | (go_simp; rfl)); intro gb165 hg w16 hbox hb; have n0_ := Aside0.mk (blk_below (g := gb164) (o := .cells #[.int .i64 a0_0, .int .i64 a0_1, .slice A0_2 l0_2.length c0_2] 24 (0, 0)) (by (with_reducible repeat (first | refine blk_drewN ?_ _ | refine blk_drew ?_ | refine blk_alloc ?_ _)); exact BK164.out) hb); have n1_ := Aside0.mk (below_step (by repeat (first | (with_reducible first | exact HB.out | apply below_alloc | apply pw_below_drewN | apply below_drew1 | refine below_set ?_ GE164.out) | exact HB.out)) hb); have n2_ := Aside0.mk (hbox); have n3_ := Aside0.mk ((by rw [hg]; exact (below_size (by repeat (first | (with_reducible first | exact HB.out | apply below_alloc | apply pw_below_drewN | apply below_drew1 | refine below_set ?_ GE164.out) | exact HB.out))) : w.heap.size ≤ gb165)); have n4_ := Aside0.mk ((by rw [hg]; exact (below_size (by repeat (first | (with_reducible first | exact HB.out | apply below_alloc | apply pw_below_drewN | apply below_drew1 | refine below_set ?_ GE164.out) | exact HB.out))) : w.heap.size ≤ gb165)); have n5_ := Aside0.mk ((by rw [hg]; exact Nat.ne_of_lt (blk_lt (g := gb164) (o := .cells #[.int .i64 a0_0, .int .i64 a0_1, .slice A0_2 l0_2.length c0_2] 24 (0, 0)) (by (with_reducible repeat (first | refine blk_drewN ?_ _ | refine blk_drew ?_ | refine blk_alloc ?_ _)); exact BK164.out)) : gb164 ≠ gb165)); have n6_ := Aside0.mk ((by rw [hg]; exact Nat.ne_of_gt (blk_lt (g := gb164) (o := .cells #[.int .i64 a0_0, .int .i64 a0_1, .slice A0_2 l0_2.length c0_2] 24 (0, 0)) (by (with_reducible repeat (first | refine blk_drewN ?_ _ | refine blk_drew ?_ | refine blk_alloc ?_ _)); exact BK164.out)) : gb165 ≠ gb164)); clear BK164; clear HB; have BK164 := n0_; have HB := n1_; have BK165 := n2_; have GW165 := n3_; have GE165 := n4_; have NB164_165 := n5_; have NB165_164 := n6_; clear n0_ n1_ n2_ n3_ n4_ n5_ n6_; clear hb hbox hg; have hnb17 := NB164_165.out; have hnc17 := NB165_164.out; have hcz18_0 : w16.cell? ⟨gb164, 0, none⟩ = some (.int .i64 a0_0) := (blk_cell BK164.out 0).trans rfl; have hcz18_1 : w16.cell? ⟨gb164, 1, none⟩ = some (.int .i64 a0_1) := (blk_cell BK164.out 1).trans rfl; have hcz18_2 : w16.cell? ⟨gb164, 2, none⟩ = some (.slice A0_2 l0_2.length c0_2) := (blk_cell BK164.out 2).trans rfl; have hfz18_0 := blk_frozen BK164.out 0; have hfz18_1 := blk_frozen BK164.out 1; have hfz18_2 := blk_frozen BK164.out 2) | ((with_reducible refine gate_callee (f := 43) rfl ?_); refine goesL_ (some 9) rfl rfl Try.func43 (by kernel_rfl) rfl #[.agg #[.int .i64 a0_0, .int .i64 a0_1, .slice A0_2 l0_2.length c0_2], .int .i64 a1] rfl (by (try simp only [List.map_toArray, List.map_cons, List.map_nil]); first | done | rfl | (simp only [List.length_drop, List.length_take]; rfl)) ?_; (with_reducible refine (chart_place.calls a0_0 a0_1 _ _ l0_2 a1 t166 _ ?side1 ?side2 A3.out).mono ?_); (case side1 => repeat (first | exact (Kd.C_below HR0_2.out HB.out) | (with_reducible refine Kd.C_alloc ?_ _) | (with_reducible refine Kd.C_drewN ?_ _) | (with_reducible refine Kd.C_drew ?_))); (case side2 => exact HC0_2.out); rintro e w19 ⟨rfl, hb⟩; refine ⟨_, rfl, ?_⟩; have n0_ := Aside0.mk (blk_below (g := gb164) (o := .cells #[.int .i64 a0_0, .int .i64 a0_1, .slice A0_2 l0_2.length c0_2] 24 (0, 0)) (by (with_reducible repeat (first | refine blk_drewN ?_ _ | refine blk_drew ?_ | refine blk_alloc ?_ _)); exact BK164.out) hb); have n1_ := Aside0.mk (blk_below (g := gb165) (o := .cells #[.int .i64 0, .int .i64 0, .int .i64 0, .int .i64 0] 57 (0, 0)) (by (with_reducible repeat (first | refine blk_drewN ?_ _ | refine blk_drew ?_ | refine blk_alloc ?_ _)); exact BK165.out) hb); have n2_ := Aside0.mk (below_step (by repeat (first | (with_reducible first | exact HB.out | apply below_alloc | apply pw_below_drewN | apply below_drew1 | refine below_set ?_ GE164.out | refine below_set ?_ GE165.out) | exact HB.out)) hb); clear BK164; clear BK165; clear HB; have BK164 := n0_; have BK165 := n1_; have HB := n2_; clear n0_ n1_ n2_; (try clear hb); (try clear hb2); (try clear hk); (try clear hi); have hcz20_0 : w19.cell? ⟨gb164, 0, none⟩ = some (.int .i64 a0_0) := (blk_cell BK164.out 0).trans rfl; have hcz20_1 : w19.cell? ⟨gb164, 1, none⟩ = some (.int .i64 a0_1) := (blk_cell BK164.out 1).trans rfl; have hcz20_2 : w19.cell? ⟨gb164, 2, none⟩ = some (.slice A0_2 l0_2.length c0_2) := (blk_cell BK164.out 2).trans rfl; have hfz20_0 := blk_frozen BK164.out 0; have hfz20_1 := blk_frozen BK164.out 1; have hfz20_2 := blk_frozen BK164.out 2) | (go_at_call 17; (with_reducible refine (chart_Check.calls k a0_0 a0_1 _ _ l0_2 true _ ?side1 ?side2 A11.out).mono ?_); (case side1 => repeat (first | exact (Kd.C_below HR0_2.out HB.out) | (with_reducible refine Kd.C_alloc ?_ _) | (with_reducible refine Kd.C_drewN ?_ _) | (with_reducible refine Kd.C_drew ?_))); (case side2 => exact HC0_2.out); rintro e w21 ⟨rfl, hb⟩; have n0_ := Aside0.mk (blk_below (g := gb164) (o := .cells #[.int .i64 a0_0, .int .i64 a0_1, .slice A0_2 l0_2.length c0_2] 24 (0, 0)) (by (with_reducible repeat (first | refine blk_drewN ?_ _ | refine blk_drew ?_ | refine blk_alloc ?_ _)); exact BK164.out) hb); have n1_ := Aside0.mk (blk_below (g := gb165) (o := .cells #[.int .i64 0, .int .i64 0, .int .i64 0, .int .i64 0] 57 (0, 0)) (by (with_reducible repeat (first | refine blk_drewN ?_ _ | refine blk_drew ?_ | refine blk_alloc ?_ _)); exact BK165.out) hb); have n2_ := Aside0.mk (below_step (by repeat (first | (with_reducible first | exact HB.out | apply below_alloc | apply pw_below_drewN | apply below_drew1 | refine below_set ?_ GE164.out | refine below_set ?_ GE165.out) | exact HB.out)) hb); clear BK164; clear BK165; clear HB; have BK164 := n0_; have BK165 := n1_; have HB := n2_; clear n0_ n1_ n2_; (try clear hb); (try clear hb2); (try clear hk); (try clear hi); have hcz22_0 : w21.cell? ⟨gb164, 0, none⟩ = some (.int .i64 a0_0) := (blk_cell BK164.out 0).trans rfl; have hcz22_1 : w21.cell? ⟨gb164, 1, none⟩ = some (.int .i64 a0_1) := (blk_cell BK164.out 1).trans rfl; have hcz22_2 : w21.cell? ⟨gb164, 2, none⟩ = some (.slice A0_2 l0_2.length c0_2) := (blk_cell BK164.out 2).trans rfl; have hfz22_0 := blk_frozen BK164.out 0; have hfz22_1 := blk_frozen BK164.out 1; have hfz22_2 := blk_frozen BK164.out 2; have p168 : 0 ≤ (t166 : Int) := of_decide_eq_true (by first | (with_reducible assumption) | assumption); have q168 : t166 < (l0_2.length : Int) := of_decide_eq_true (by first | (with_reducible assumption) | assumption); obtain ⟨ad168, e168, hx168_0, hx168_1, hx168_2, hx168_3⟩ := at_T57 HR0_2.out t166 p168 q168; cases e168; replace hx168_0 := (HB.out.cell (World.block_lt_of_cell? w _ hx168_0)).trans hx168_0; replace hx168_1 := (HB.out.cell (World.block_lt_of_cell? w _ hx168_1)).trans hx168_1; replace hx168_2 := (HB.out.cell (World.block_lt_of_cell? w _ hx168_2)).trans hx168_2; replace hx168_3 := (HB.out.cell (World.block_lt_of_cell? w _ hx168_3)).trans hx168_3; replace p168 := eq_true p168; replace q168 := eq_true q168; have hcz23_0 : w21.cell? ⟨gb165, 0, none⟩ = some (.int .i64 0) := (blk_cell BK165.out 0).trans rfl; have hcz23_1 : w21.cell? ⟨gb165, 1, none⟩ = some (.int .i64 0) := (blk_cell BK165.out 1).trans rfl; have hcz23_2 : w21.cell? ⟨gb165, 2, none⟩ = some (.int .i64 0) := (blk_cell BK165.out 2).trans rfl; have hcz23_3 : w21.cell? ⟨gb165, 3, none⟩ = some (.int .i64 0) := (blk_cell BK165.out 3).trans rfl; have hfz23_0 := blk_frozen BK165.out 0; have hfz23_1 := blk_frozen BK165.out 1; have hfz23_2 := blk_frozen BK165.out 2; have hfz23_3 := blk_frozen BK165.out 3))
 refine bodyPost_ret (results_ct rfl _ _ gb165 57 #[.int .i64 ((rd_T57 l0_2 t166).f0), .int .i64 ((rd_T57 l0_2 t166).f1.f0), .int .i64 ((rd_T57 l0_2 t166).f1.f1), .int .i64 ((rd_T57 l0_2 t166).f2)] (0, 0) _ rfl (by (with_reducible repeat (first | refine blk_drewN ?_ _ | refine blk_drew ?_ | refine blk_alloc ?_ _)); refine blk_put (cs := #[.int .i64 ((rd_T57 l0_2 t166).f0), .int .i64 ((rd_T57 l0_2 t166).f1.f0), .int .i64 ((rd_T57 l0_2 t166).f1.f1), .int .i64 0]) ?_ 3 _ rfl; (with_reducible repeat (first | refine blk_drewN ?_ _ | refine blk_drew ?_ | refine blk_alloc ?_ _)); refine blk_put (cs := #[.int .i64 ((rd_T57 l0_2 t166).f0), .int .i64 ((rd_T57 l0_2 t166).f1.f0), .int .i64 0, .int .i64 0]) ?_ 2 _ rfl; (with_reducible repeat (first | refine blk_drewN ?_ _ | refine blk_drew ?_ | refine blk_alloc ?_ _)); refine blk_put (cs := #[.int .i64 ((rd_T57 l0_2 t166).f0), .int .i64 0, .int .i64 0, .int .i64 0]) ?_ 1 _ rfl; (with_reducible repeat (first | refine blk_drewN ?_ _ | refine blk_drew ?_ | refine blk_alloc ?_ _)); refine blk_put (cs := #[.int .i64 0, .int .i64 0, .int .i64 0, .int .i64 0]) ?_ 0 _ rfl; (with_reducible repeat (first | refine blk_drewN ?_ _ | refine blk_drew ?_ | refine blk_alloc ?_ _)); exact BK165.out) Try.underlying57 rfl (by kernel_rfl)) rfl ?_
 exact ⟨by first | rfl | (simp [errW_none, errW_some] <;> rfl) | (simp [*, errW_none, errW_some] <;> rfl), by repeat (first | (with_reducible first | exact HB.out | apply below_alloc | apply pw_below_drewN | apply below_drew1 | refine below_set ?_ GE164.out | refine below_set ?_ GE165.out) | exact HB.out)⟩

/-! ### chart_Owner: function 25 (a closure: by hand) -/
def ownP (key : Int) (x : Shd) : Bool := decide (x.f1.f0 ≤ key) && decide (key < x.f1.f1)
def chart_Owner.f (k : Nat) (a0_0 : Int) (a0_1 : Int) (l0_2 : List (S57)) (a1 : Int) : Option (Int × Int × Int × Int × Bool) :=
  if (l0_2.length : Int) ≤ 4611686018427387904 then
    (chart_Check.f k a0_0 a0_1 l0_2).bind fun t1 =>
      if t1 = true then
        if ixOf (ownP a1) l0_2 0 < 0 then some (0, 0, 0, 0, false)
        else some ((rd_T57 l0_2 (ixOf (ownP a1) l0_2 0)).f0, (rd_T57 l0_2 (ixOf (ownP a1) l0_2 0)).f1.f0, (rd_T57 l0_2 (ixOf (ownP a1) l0_2 0)).f1.f1, (rd_T57 l0_2 (ixOf (ownP a1) l0_2 0)).f2, true)
      else some (0, 0, 0, 0, false)
  else none
theorem chart_Owner.mono : ∀ a0 a1 a2 a3 k, LeO (chart_Owner.f k a0 a1 a2 a3) (chart_Owner.f (k + 1) a0 a1 a2 a3) := by
  intro a0 a1 a2 a3 k
  unfold chart_Owner.f
  repeat' first
      | (with_reducible exact LeO.refl _)
      | (with_reducible exact LeO.none _)
      | (with_reducible exact chart_Check.mono _ _ _ _)
      | (with_reducible refine LeO.ite ?_ ?_)
      | (with_reducible refine LeO.bind ?_ (fun _ => ?_))
set_option maxHeartbeats 8000000 in
theorem owner_pred (key : Int) (B : Nat) (w : World) (hB : B < w.heap.size) (hcell : w.cell? ⟨B, 0, none⟩ = some (.int .i64 key)) : PredB 47 #[.pointer (some ⟨B, 0, none⟩)] (ownP key) w := fun W x hb => by
  have hc : W.cell? ⟨B, 0, none⟩ = some (.int .i64 key) := (hb.cell (p := ⟨B, 0, none⟩) hB).trans hcell
  have hBW : B < W.heap.size := Nat.lt_of_lt_of_le hB hb.size
  have hne : B ≠ W.heap.size := by omega
  show Calls Try.prog 47 #[.agg #[.int .i64 x.f0, .int .i64 x.f1.f0, .int .i64 x.f1.f1, .int .i64 x.f2], .pointer (some ⟨B, 0, none⟩)] W _
  unfold ownP
  have hu55 := Try.underlying55
  have hu57 := Try.underlying57
  by_cases h1 : x.f1.f0 ≤ key
  · have q1 : decide (x.f1.f0 ≤ key) = true := decide_eq_true h1
    have q2 : decide (key ≥ x.f1.f0) = true := decide_eq_true h1
    go_enter Try.func47, Try.ntmps47
    go_wp2
    all_goals (go_ret; exact ⟨by simp_all, hb.alloc hb.size _⟩)
  · have q1 : decide (x.f1.f0 ≤ key) = false := decide_eq_false h1
    have q2 : decide (key ≥ x.f1.f0) = false := decide_eq_false h1
    go_enter Try.func47, Try.ntmps47
    go_wp2
    all_goals (go_ret; exact ⟨by simp_all, hb.alloc hb.size _⟩)
/-- the three variables of Owner that lie in memory: c, key, the shard -/
def FrO (w W : World) (cc ck cs : Array Value) : Prop :=
  W.heap[w.heap.size]? = some (.cells cc 24 (0, 0)) ∧ W.heap[w.heap.size + 1]? = some (.cells ck 3 (0, 0)) ∧ W.heap[w.heap.size + 1 + 1]? = some (.cells cs 57 (0, 0)) ∧ Below w.heap.size w W
theorem FrO.start (w : World) (cc ck cs : Array Value) : FrO w (((w.alloc (.cells cc 24)).alloc (.cells ck 3)).alloc (.cells cs 57)) cc ck cs := by
  have h1 := blk_new w (.cells cc 24)
  have h2 := blk_new (w.alloc (.cells cc 24)) (.cells ck 3)
  have h3 := blk_new ((w.alloc (.cells cc 24)).alloc (.cells ck 3)) (.cells cs 57)
  have e1 : (w.alloc (.cells cc 24)).heap.size = w.heap.size + 1 := by simp
  have e2 : ((w.alloc (.cells cc 24)).alloc (.cells ck 3)).heap.size = w.heap.size + 1 + 1 := by simp
  rw [e1] at h2
  rw [e2] at h3
  exact ⟨blk_alloc (blk_alloc h1 _) _, blk_alloc h2 _, h3, ((Below.refl w.heap.size w).alloc (Nat.le_refl _) _ |>.alloc (by simp) _).alloc (by simp; omega) _⟩
theorem FrO.after {w W W' : World} {cc ck cs : Array Value} (h : FrO w W cc ck cs) (hb : Below W.heap.size W W') : FrO w W' cc ck cs :=
  ⟨blk_below h.1 hb, blk_below h.2.1 hb, blk_below h.2.2.1 hb, h.2.2.2.trans (hb.mono h.2.2.2.size)⟩
theorem FrO.set {w W : World} {cc ck cs cs' : Array Value} (h : FrO w W cc ck cs) (i : Nat) (u : Value) (e : cs.setIfInBounds i u = cs') : FrO w (W.setCell ⟨w.heap.size + 1 + 1, i, none⟩ u) cc ck cs' :=
  ⟨blk_far h.1 (by simp; omega) u, blk_far h.2.1 (by simp) u, blk_put h.2.2.1 i u e, below_set h.2.2.2 (by omega)⟩
theorem FrO.facts {w W : World} {c0 c1 c2 x0 n0 n1 n2 n3 : Value} (h : FrO w W #[c0, c1, c2] #[x0] #[n0, n1, n2, n3]) :
    W.cell? ⟨w.heap.size, 0, none⟩ = some c0 ∧ W.cell? ⟨w.heap.size, 1, none⟩ = some c1 ∧ W.cell? ⟨w.heap.size, 2, none⟩ = some c2 ∧ W.cell? ⟨w.heap.size + 1, 0, none⟩ = some x0 ∧
    W.cell? ⟨w.heap.size + 1 + 1, 0, none⟩ = some n0 ∧ W.cell? ⟨w.heap.size + 1 + 1, 1, none⟩ = some n1 ∧ W.cell? ⟨w.heap.size + 1 + 1, 2, none⟩ = some n2 ∧ W.cell? ⟨w.heap.size + 1 + 1, 3, none⟩ = some n3 ∧
    W.frozen? ⟨w.heap.size + 1 + 1, 0, none⟩ = false ∧ W.frozen? ⟨w.heap.size + 1 + 1, 1, none⟩ = false ∧ W.frozen? ⟨w.heap.size + 1 + 1, 2, none⟩ = false ∧ W.frozen? ⟨w.heap.size + 1 + 1, 3, none⟩ = false :=
  ⟨blk_cell h.1 0, blk_cell h.1 1, blk_cell h.1 2, blk_cell h.2.1 0, blk_cell h.2.2.1 0, blk_cell h.2.2.1 1, blk_cell h.2.2.1 2, blk_cell h.2.2.1 3, blk_frozen h.2.2.1 0, blk_frozen h.2.2.1 1, blk_frozen h.2.2.1 2, blk_frozen h.2.2.1 3⟩
set_option maxHeartbeats 8000000 in
set_option maxRecDepth 100000 in
theorem chart_Owner.bad (k : Nat) (a0_0 : Int) (a0_1 : Int) (A0 : Option Addr) (c0 : Nat) (l0 : List (S57)) (a1 : Int) (w : World) (hr0 : Kd.C k57 w A0 l0.length l0) (hc0 : l0.length ≤ c0) (h : chart_Check.f k a0_0 a0_1 l0 = some false) :
    Calls Try.prog 25 #[.agg #[.int .i64 a0_0, .int .i64 a0_1, .slice A0 l0.length c0], .int .i64 a1] w fun e w' => e = .returned (.tuple #[.agg #[.int .i64 0, .int .i64 0, .int .i64 0, .int .i64 0], .bool false]) ∧ Below w.heap.size w w' := by
  have hu24 := Try.underlying24
  have hu55 := Try.underlying55
  have hu57 := Try.underlying57
  have HA := Aside0.mk h
  have HR := Aside0.mk hr0
  have HC := Aside0.mk hc0
  clear h hr0 hc0
  have hf3 := Aside0.mk (FrO.start w #[.int .i64 a0_0, .int .i64 a0_1, .slice A0 l0.length c0] #[.int .i64 a1] #[.int .i64 0, .int .i64 0, .int .i64 0, .int .i64 0])
  go_enter Try.func25, Try.ntmps25
  go_wp2_with (go_at_call 17; refine (chart_Check.calls k a0_0 a0_1 A0 c0 l0 false _ (Kd.C_below HR.out hf3.out.2.2.2) HC.out HA.out).mono ?_; rintro e w4 ⟨rfl, hb4⟩; have hf4 := Aside0.mk (hf3.out.after hb4); obtain ⟨f0, f1, f2, f3, f4, f5, f6, f7, f8, f9, f10, f11⟩ := hf4.out.facts)
  have hE : FrO w ((((w4.setCell ⟨w.heap.size + 1 + 1, 0, none⟩ (.int .i64 0)).setCell ⟨w.heap.size + 1 + 1, 1, none⟩ (.int .i64 0)).setCell ⟨w.heap.size + 1 + 1, 2, none⟩ (.int .i64 0)).setCell ⟨w.heap.size + 1 + 1, 3, none⟩ (.int .i64 0)) _ _ #[.int .i64 0, .int .i64 0, .int .i64 0, .int .i64 0] := (((hf4.out.set 0 _ rfl).set 1 _ rfl).set 2 _ rfl).set 3 _ rfl
  refine bodyPost_ret (results_ct rfl _ _ (w.heap.size + 1 + 1) 57 #[.int .i64 0, .int .i64 0, .int .i64 0, .int .i64 0] (0, 0) _ rfl hE.2.2.1 Try.underlying57 rfl (by kernel_rfl)) rfl ?_
  exact ⟨rfl, hE.2.2.2⟩
set_option maxHeartbeats 8000000 in
set_option maxRecDepth 100000 in
theorem chart_Owner.none_ (k : Nat) (a0_0 : Int) (a0_1 : Int) (A0 : Option Addr) (c0 : Nat) (l0 : List (S57)) (a1 : Int) (w : World) (hr0 : Kd.C k57 w A0 l0.length l0) (hc0 : l0.length ≤ c0) (h : chart_Check.f k a0_0 a0_1 l0 = some true) (hbig : l0.length ≤ 4611686018427387904) (i : Int) (hi : i < 0) (hx : ixOf (ownP a1) l0 0 = i) :
    Calls Try.prog 25 #[.agg #[.int .i64 a0_0, .int .i64 a0_1, .slice A0 l0.length c0], .int .i64 a1] w fun e w' => e = .returned (.tuple #[.agg #[.int .i64 0, .int .i64 0, .int .i64 0, .int .i64 0], .bool false]) ∧ Below w.heap.size w w' := by
  have hu24 := Try.underlying24
  have hu55 := Try.underlying55
  have hu57 := Try.underlying57
  have hmf : ∀ (fn : Fn) (first cap : Array Value) (w : World), (Instr.makeFunc fn first cap).run Try.prog w = .ok (.func fn first cap) w := fun _ _ _ _ => rfl
  have eg : ∀ args w, (callFunc 47 args).run Try.prog w = .ok (.enter 47 args) w := enters_of Try.func47 (by kernel_rfl) rfl
  have hcon : Aside0 (∀ W : World, FrO w W #[.int .i64 a0_0, .int .i64 a0_1, .slice A0 l0.length c0] #[.int .i64 a1] #[.int .i64 0, .int .i64 0, .int .i64 0, .int .i64 0] → Calls Try.prog 46 #[.slice A0 l0.length c0, .func (.func 47) #[] #[.pointer (some ⟨w.heap.size + 1, 0, none⟩)]] W fun e w' => e = .returned (.int .i64 i) ∧ Below W.heap.size W w') := ⟨fun W hW => by
    have hq := ixfunc (ownP a1) 47 #[.pointer (some ⟨w.heap.size + 1, 0, none⟩)] eg A0 c0 l0 W (owner_pred a1 (w.heap.size + 1) W (blk_lt hW.2.1) (blk_cell hW.2.1 0)) (Kd.C_below hr0 hW.2.2.2) hbig
    rw [hx] at hq
    exact hq⟩
  have HA := Aside0.mk h
  have HR := Aside0.mk hr0
  have HC := Aside0.mk hc0
  have q1 : decide (i < 0) = true := decide_eq_true hi
  clear h hr0 hc0 hx hi
  have hf3 := Aside0.mk (FrO.start w #[.int .i64 a0_0, .int .i64 a0_1, .slice A0 l0.length c0] #[.int .i64 a1] #[.int .i64 0, .int .i64 0, .int .i64 0, .int .i64 0])
  go_enter Try.func25, Try.ntmps25
  go_wp2_with (go_at_call 17; refine (chart_Check.calls k a0_0 a0_1 A0 c0 l0 true _ (Kd.C_below HR.out hf3.out.2.2.2) HC.out HA.out).mono ?_; rintro e w4 ⟨rfl, hb4⟩; have hf4 := Aside0.mk (hf3.out.after hb4); obtain ⟨f0, f1, f2, f3, f4, f5, f6, f7, f8, f9, f10, f11⟩ := hf4.out.facts)
  go_wp2_with (go_at_call 46; refine (hcon.out _ hf4.out).mono ?_; rintro e w5 ⟨rfl, hb5⟩; have hf5 := Aside0.mk (hf4.out.after hb5); obtain ⟨g0, g1, g2, g3, g4, g5, g6, g7, g8, g9, g10, g11⟩ := hf5.out.facts)
  have hE : FrO w ((((w5.setCell ⟨w.heap.size + 1 + 1, 0, none⟩ (.int .i64 0)).setCell ⟨w.heap.size + 1 + 1, 1, none⟩ (.int .i64 0)).setCell ⟨w.heap.size + 1 + 1, 2, none⟩ (.int .i64 0)).setCell ⟨w.heap.size + 1 + 1, 3, none⟩ (.int .i64 0)) _ _ #[.int .i64 0, .int .i64 0, .int .i64 0, .int .i64 0] := (((hf5.out.set 0 _ rfl).set 1 _ rfl).set 2 _ rfl).set 3 _ rfl
  refine bodyPost_ret (results_ct rfl _ _ (w.heap.size + 1 + 1) 57 #[.int .i64 0, .int .i64 0, .int .i64 0, .int .i64 0] (0, 0) _ rfl hE.2.2.1 Try.underlying57 rfl (by kernel_rfl)) rfl ?_
  exact ⟨rfl, hE.2.2.2⟩
set_option maxHeartbeats 8000000 in
set_option maxRecDepth 100000 in
theorem chart_Owner.some_ (k : Nat) (a0_0 : Int) (a0_1 : Int) (A0 : Option Addr) (c0 : Nat) (l0 : List (S57)) (a1 : Int) (w : World) (hr0 : Kd.C k57 w A0 l0.length l0) (hc0 : l0.length ≤ c0) (h : chart_Check.f k a0_0 a0_1 l0 = some true) (hbig : l0.length ≤ 4611686018427387904) (j : Nat) (hj : j < l0.length) (hx : ixOf (ownP a1) l0 0 = (j : Int)) (x : Shd) (hxx : rd_T57 l0 (j : Int) = x) :
    Calls Try.prog 25 #[.agg #[.int .i64 a0_0, .int .i64 a0_1, .slice A0 l0.length c0], .int .i64 a1] w fun e w' => e = .returned (.tuple #[.agg #[.int .i64 x.f0, .int .i64 x.f1.f0, .int .i64 x.f1.f1, .int .i64 x.f2], .bool true]) ∧ Below w.heap.size w w' := by
  have hu24 := Try.underlying24
  have hu55 := Try.underlying55
  have hu57 := Try.underlying57
  have hmf : ∀ (fn : Fn) (first cap : Array Value) (w : World), (Instr.makeFunc fn first cap).run Try.prog w = .ok (.func fn first cap) w := fun _ _ _ _ => rfl
  have eg : ∀ args w, (callFunc 47 args).run Try.prog w = .ok (.enter 47 args) w := enters_of Try.func47 (by kernel_rfl) rfl
  have hcon : Aside0 (∀ W : World, FrO w W #[.int .i64 a0_0, .int .i64 a0_1, .slice A0 l0.length c0] #[.int .i64 a1] #[.int .i64 0, .int .i64 0, .int .i64 0, .int .i64 0] → Calls Try.prog 46 #[.slice A0 l0.length c0, .func (.func 47) #[] #[.pointer (some ⟨w.heap.size + 1, 0, none⟩)]] W fun e w' => e = .returned (.int .i64 j) ∧ Below W.heap.size W w') := ⟨fun W hW => by
    have hq := ixfunc (ownP a1) 47 #[.pointer (some ⟨w.heap.size + 1, 0, none⟩)] eg A0 c0 l0 W (owner_pred a1 (w.heap.size + 1) W (blk_lt hW.2.1) (blk_cell hW.2.1 0)) (Kd.C_below hr0 hW.2.2.2) hbig
    rw [hx] at hq
    exact hq⟩
  obtain ⟨ad, e0, hx_0, hx_1, hx_2, hx_3⟩ := at_T57 hr0 (j : Int) (by omega) (by omega)
  cases e0
  simp only [Int.toNat_natCast, hxx] at hx_0 hx_1 hx_2 hx_3
  have HA := Aside0.mk h
  have HR := Aside0.mk hr0
  have HC := Aside0.mk hc0
  have q1 : decide ((j : Int) < 0) = false := decide_eq_false (by omega)
  have q2 : (j : Int) < (l0.length : Int) := by omega
  have HX := Aside0.mk hx_0
  have HX1 := Aside0.mk hx_1
  have HX2 := Aside0.mk hx_2
  have HX3 := Aside0.mk hx_3
  clear h hr0 hc0 hx hxx hx_0 hx_1 hx_2 hx_3
  have hf3 := Aside0.mk (FrO.start w #[.int .i64 a0_0, .int .i64 a0_1, .slice (some ad) l0.length c0] #[.int .i64 a1] #[.int .i64 0, .int .i64 0, .int .i64 0, .int .i64 0])
  go_enter Try.func25, Try.ntmps25
  go_wp2_with (go_at_call 17; refine (chart_Check.calls k a0_0 a0_1 (some ad) c0 l0 true _ (Kd.C_below HR.out hf3.out.2.2.2) HC.out HA.out).mono ?_; rintro e w4 ⟨rfl, hb4⟩; have hf4 := Aside0.mk (hf3.out.after hb4); obtain ⟨f0, f1, f2, f3, f4, f5, f6, f7, f8, f9, f10, f11⟩ := hf4.out.facts)
  go_wp2_with (go_at_call 46; refine (hcon.out _ hf4.out).mono ?_; rintro e w5 ⟨rfl, hb5⟩; have hf5 := Aside0.mk (hf4.out.after hb5); obtain ⟨g0, g1, g2, g3, g4, g5, g6, g7, g8, g9, g10, g11⟩ := hf5.out.facts; have hx_0 := (hf5.out.2.2.2.cell (World.block_lt_of_cell? w _ HX.out)).trans HX.out; have hx_1 := (hf5.out.2.2.2.cell (World.block_lt_of_cell? w _ HX1.out)).trans HX1.out; have hx_2 := (hf5.out.2.2.2.cell (World.block_lt_of_cell? w _ HX2.out)).trans HX2.out; have hx_3 := (hf5.out.2.2.2.cell (World.block_lt_of_cell? w _ HX3.out)).trans HX3.out)
  have hE : FrO w ((((w5.setCell ⟨w.heap.size + 1 + 1, 0, none⟩ (.int .i64 x.f0)).setCell ⟨w.heap.size + 1 + 1, 1, none⟩ (.int .i64 x.f1.f0)).setCell ⟨w.heap.size + 1 + 1, 2, none⟩ (.int .i64 x.f1.f1)).setCell ⟨w.heap.size + 1 + 1, 3, none⟩ (.int .i64 x.f2)) _ _ #[.int .i64 x.f0, .int .i64 x.f1.f0, .int .i64 x.f1.f1, .int .i64 x.f2] := (((hf5.out.set 0 _ rfl).set 1 _ rfl).set 2 _ rfl).set 3 _ rfl
  refine bodyPost_ret (results_ct rfl _ _ (w.heap.size + 1 + 1) 57 #[.int .i64 x.f0, .int .i64 x.f1.f0, .int .i64 x.f1.f1, .int .i64 x.f2] (0, 0) _ rfl hE.2.2.1 Try.underlying57 rfl (by kernel_rfl)) rfl ?_
  exact ⟨rfl, hE.2.2.2⟩
theorem chart_Owner.calls (k : Nat) (a0_0 : Int) (a0_1 : Int) (A0_2 : Option Addr) (c0_2 : Nat) (l0_2 : List (S57)) (a1 : Int) (r1 : Int) (r2 : Int) (r3 : Int) (r4 : Int) (r5 : Bool) (w : World) (hr0_2 : Kd.C k57 w A0_2 l0_2.length l0_2) (hc0_2 : l0_2.length ≤ c0_2) (h : chart_Owner.f k a0_0 a0_1 l0_2 a1 = some (r1, r2, r3, r4, r5)) :
    Calls Try.prog 25 #[.agg #[.int .i64 a0_0, .int .i64 a0_1, .slice A0_2 l0_2.length c0_2], .int .i64 a1] w fun e w' => e = .returned (.tuple #[.agg #[.int .i64 r1, .int .i64 r2, .int .i64 r3, .int .i64 r4], .bool r5]) ∧ Below w.heap.size w w' := by
  unfold chart_Owner.f at h
  by_cases hbig : (l0_2.length : Int) ≤ 4611686018427387904
  case neg => rw [if_neg hbig] at h; exact absurd h (by simp)
  rw [if_pos hbig] at h
  have hb2 : l0_2.length ≤ 4611686018427387904 := by omega
  obtain ⟨t1, ht1, h⟩ := Option.bind_eq_some_iff.1 h
  cases t1
  · rw [if_neg (by simp)] at h
    simp only [Option.some.injEq, Prod.mk.injEq] at h
    obtain ⟨rfl, rfl, rfl, rfl, rfl⟩ := h
    exact chart_Owner.bad k a0_0 a0_1 A0_2 c0_2 l0_2 a1 w hr0_2 hc0_2 ht1
  rw [if_pos rfl] at h
  by_cases hi : ixOf (ownP a1) l0_2 0 < 0
  · rw [if_pos hi] at h
    simp only [Option.some.injEq, Prod.mk.injEq] at h
    obtain ⟨rfl, rfl, rfl, rfl, rfl⟩ := h
    exact chart_Owner.none_ k a0_0 a0_1 A0_2 c0_2 l0_2 a1 w hr0_2 hc0_2 ht1 hb2 _ hi rfl
  · rw [if_neg hi] at h
    obtain ⟨j, hj, hjl⟩ : ∃ j : Nat, ixOf (ownP a1) l0_2 0 = (j : Int) ∧ j < l0_2.length := by
      rcases ixOf_range (ownP a1) l0_2 0 with h1 | h1
      · omega
      · exact ⟨(ixOf (ownP a1) l0_2 0).toNat, by omega, by omega⟩
    rw [hj] at h
    simp only [Option.some.injEq, Prod.mk.injEq] at h
    obtain ⟨rfl, rfl, rfl, rfl, rfl⟩ := h
    exact chart_Owner.some_ k a0_0 a0_1 A0_2 c0_2 l0_2 a1 w hr0_2 hc0_2 ht1 hb2 j hjl hj _ rfl

end Go.Proofs.Ytbhlphadcphapaa.PE
