-- written by a program of this session
import Derived.Test.YtbhlphadcphapaaPDx0
import Derived.Test.YtbhlphadcphapaaPDx4
import Derived.Test.YtbhlphadcphapaaPDx6
import Derived.Test.YtbhlphadcphapaaPDx8
import Derived.Test.YtbhlphadcphapaaPDx9
import Derived.Test.YtbhlphadcphapaaPDx11
import Derived.Test.YtbhlphadcphapaaPDx13
import Derived.Test.YtbhlphadcphapaaPDx14
import Derived.Test.YtbhlphadcphapaaPDx15
import Derived.Test.YtbhlphadcphapaaPDx17
namespace Go.Proofs.Ytbhlphadcphapaa.PD
open Go.RowKit Go.Proofs.Ytbhlphadcphapaa.Op Go.Proofs.YtbhlphadcphapaaW.PrintWords Go.Proofs.YtbhlphadcphapaaW.PrintLast Go.Proofs.YtbhlphadcphapaaW.PrintMore
attribute [local go_sem] max2_int min2_int max_two min_two max_three min_three max_four min_four   -- for this text's walks alone
set_option linter.unusedVariables false
set_option linter.unusedSimpArgs false

/-! ### splicelaw08_ChartOwners: function 8 -/
mutual
def splicelaw08_ChartOwners.j0 : Nat → Int → List (S55) → Bool → Int → Int → List (S57) → Option (Bool)
  | 0, _, _, _, _, _, _ => none
  | k + 1, x1, x2, x19, x359000, x359001, x359002 => if x19 = true then ((splicelaw08_awake.f k).bind fun t360 => (some t360)) else ((splicelaw08_Ref.f k x359000 x359001 x359002).bind fun bt361 => ((chart_Owner.f k x359000 x359001 x359002 x1).bind fun bt367 => ((chart_Find.f k x359000 x359001 x359002 x1).bind fun bt373 => ((spliceref08_Owner.f k bt361.1 bt361.2.1 bt361.2.2 x1).bind fun t379 => ((splicelaw08_one.f k bt367.1 bt367.2.1 bt367.2.2.1 bt367.2.2.2.1 bt367.2.2.2.2 bt361.1 bt361.2.1 bt361.2.2 t379).bind fun t380 => (if t380 = true then ((spliceref08_Find.f k bt361.1 bt361.2.1 bt361.2.2 x1).bind fun t381 => ((splicelaw08_one.f k bt373.1 bt373.2.1 bt373.2.2.1 bt373.2.2.2.1 bt373.2.2.2.2 bt361.1 bt361.2.1 bt361.2.2 t381).bind fun t382 => (splicelaw08_ChartOwners.j1 k x2 (!t382) x359000 x359001 x359002 bt361.1 bt361.2.1 bt361.2.2))) else (splicelaw08_ChartOwners.j1 k x2 true x359000 x359001 x359002 bt361.1 bt361.2.1 bt361.2.2)))))))
def splicelaw08_ChartOwners.j1 : Nat → List (S55) → Bool → Int → Int → List (S57) → Int → Int → List (S82) → Option (Bool)
  | 0, _, _, _, _, _, _, _, _ => none
  | k + 1, x2, x52, x359000, x359001, x359002, x367000, x367001, x367002 => if x52 = true then (some false) else ((splicelaw08_awake.f k).bind fun t383 => (if t383 = true then ((chart_Check.f k x359000 x359001 x359002).bind fun t384 => ((spliceref08_Check.f k x367000 x367001 x367002).bind fun t385 => (if (t384 == t385) = true then ((chart_Owners.f k x359000 x359001 x359002 x2).bind fun t386 => ((splicelaw03_Refs.f k x2).bind fun t389 => ((spliceref08_Owners.f k x367000 x367001 x367002 t389).bind fun t392 => ((spliceref01_Same.f k t386 t392).bind fun t395 => (some t395))))) else (some false)))) else (some false)))
end
def splicelaw08_ChartOwners.f (k : Nat) (a0_0 : Int) (a0_1 : Int) (l0_2 : List (S57)) (a1 : Int) (l2 : List (S55)) : Option (Bool) := (splicelaw08_few.f a0_0 a0_1 l0_2).bind fun t359 => (if t359 = true then (splicelaw08_ChartOwners.j0 k a1 l2 (decide ((l2.length : Int) > 100)) a0_0 a0_1 l0_2) else (splicelaw08_ChartOwners.j0 k a1 l2 true a0_0 a0_1 l0_2))
theorem splicelaw08_ChartOwners.mono_l : ∀ k, (∀ y0 y1 y2 y3 y4 y5, LeO (splicelaw08_ChartOwners.j0 k y0 y1 y2 y3 y4 y5) (splicelaw08_ChartOwners.j0 (k + 1) y0 y1 y2 y3 y4 y5)) ∧ (∀ y0 y1 y2 y3 y4 y5 y6 y7, LeO (splicelaw08_ChartOwners.j1 k y0 y1 y2 y3 y4 y5 y6 y7) (splicelaw08_ChartOwners.j1 (k + 1) y0 y1 y2 y3 y4 y5 y6 y7))
  | 0 => ⟨fun _ _ _ _ _ _ r h => by simp [splicelaw08_ChartOwners.j0] at h, fun _ _ _ _ _ _ _ _ r h => by simp [splicelaw08_ChartOwners.j1] at h⟩
  | k + 1 => by
    obtain ⟨ih0, ih1⟩ := splicelaw08_ChartOwners.mono_l k
    refine ⟨?_, ?_⟩
    · intro y0 y1 y2 y3 y4 y5
      unfold splicelaw08_ChartOwners.j0
      repeat' first
      | (with_reducible exact ih0 _ _ _ _ _ _)
      | (with_reducible exact ih1 _ _ _ _ _ _ _ _)
      | (with_reducible exact chart_Check.mono _ _ _ _)
      | (with_reducible exact chart_Find.mono _ _ _ _ _)
      | (with_reducible exact chart_Owner.mono _ _ _ _ _)
      | (with_reducible exact chart_Owners.mono _ _ _ _ _)
      | (with_reducible exact splicelaw03_Refs.mono _ _)
      | (with_reducible exact splicelaw08_Ref.mono _ _ _ _)
      | (with_reducible exact splicelaw08_awake.mono _)
      | (with_reducible exact splicelaw08_one.mono _ _ _ _ _ _ _ _ _ _)
      | (with_reducible exact spliceref01_Same.mono _ _ _)
      | (with_reducible exact spliceref08_Check.mono _ _ _ _)
      | (with_reducible exact spliceref08_Find.mono _ _ _ _ _)
      | (with_reducible exact spliceref08_Owner.mono _ _ _ _ _)
      | (with_reducible exact spliceref08_Owners.mono _ _ _ _ _)
      | (with_reducible exact LeO.refl _)
      | (with_reducible exact LeO.none _)
      | (with_reducible refine LeO.ite ?_ ?_)
      | (with_reducible refine LeO.bind ?_ (fun _ => ?_))
      | exact ih0 _ _ _ _ _ _
      | exact ih1 _ _ _ _ _ _ _ _
      | exact chart_Check.mono _ _ _ _
      | exact chart_Find.mono _ _ _ _ _
      | exact chart_Owner.mono _ _ _ _ _
      | exact chart_Owners.mono _ _ _ _ _
      | exact splicelaw03_Refs.mono _ _
      | exact splicelaw08_Ref.mono _ _ _ _
      | exact splicelaw08_awake.mono _
      | exact splicelaw08_one.mono _ _ _ _ _ _ _ _ _ _
      | exact spliceref01_Same.mono _ _ _
      | exact spliceref08_Check.mono _ _ _ _
      | exact spliceref08_Find.mono _ _ _ _ _
      | exact spliceref08_Owner.mono _ _ _ _ _
      | exact spliceref08_Owners.mono _ _ _ _ _
      | exact LeO.none _
      | refine LeO.ite ?_ ?_
      | refine LeO.bind ?_ (fun _ => ?_)
    · intro y0 y1 y2 y3 y4 y5 y6 y7
      unfold splicelaw08_ChartOwners.j1
      repeat' first
      | (with_reducible exact ih0 _ _ _ _ _ _)
      | (with_reducible exact ih1 _ _ _ _ _ _ _ _)
      | (with_reducible exact chart_Check.mono _ _ _ _)
      | (with_reducible exact chart_Find.mono _ _ _ _ _)
      | (with_reducible exact chart_Owner.mono _ _ _ _ _)
      | (with_reducible exact chart_Owners.mono _ _ _ _ _)
      | (with_reducible exact splicelaw03_Refs.mono _ _)
      | (with_reducible exact splicelaw08_Ref.mono _ _ _ _)
      | (with_reducible exact splicelaw08_awake.mono _)
      | (with_reducible exact splicelaw08_one.mono _ _ _ _ _ _ _ _ _ _)
      | (with_reducible exact spliceref01_Same.mono _ _ _)
      | (with_reducible exact spliceref08_Check.mono _ _ _ _)
      | (with_reducible exact spliceref08_Find.mono _ _ _ _ _)
      | (with_reducible exact spliceref08_Owner.mono _ _ _ _ _)
      | (with_reducible exact spliceref08_Owners.mono _ _ _ _ _)
      | (with_reducible exact LeO.refl _)
      | (with_reducible exact LeO.none _)
      | (with_reducible refine LeO.ite ?_ ?_)
      | (with_reducible refine LeO.bind ?_ (fun _ => ?_))
      | exact ih0 _ _ _ _ _ _
      | exact ih1 _ _ _ _ _ _ _ _
      | exact chart_Check.mono _ _ _ _
      | exact chart_Find.mono _ _ _ _ _
      | exact chart_Owner.mono _ _ _ _ _
      | exact chart_Owners.mono _ _ _ _ _
      | exact splicelaw03_Refs.mono _ _
      | exact splicelaw08_Ref.mono _ _ _ _
      | exact splicelaw08_awake.mono _
      | exact splicelaw08_one.mono _ _ _ _ _ _ _ _ _ _
      | exact spliceref01_Same.mono _ _ _
      | exact spliceref08_Check.mono _ _ _ _
      | exact spliceref08_Find.mono _ _ _ _ _
      | exact spliceref08_Owner.mono _ _ _ _ _
      | exact spliceref08_Owners.mono _ _ _ _ _
      | exact LeO.none _
      | refine LeO.ite ?_ ?_
      | refine LeO.bind ?_ (fun _ => ?_)
theorem splicelaw08_ChartOwners.mono : ∀ a0 a1 a2 a3 a4 k, LeO (splicelaw08_ChartOwners.f k a0 a1 a2 a3 a4) (splicelaw08_ChartOwners.f (k + 1) a0 a1 a2 a3 a4) := by
  intro a0 a1 a2 a3 a4 k
  obtain ⟨ih0, ih1⟩ := splicelaw08_ChartOwners.mono_l k
  unfold splicelaw08_ChartOwners.f
  repeat' first
      | (with_reducible exact ih0 _ _ _ _ _ _)
      | (with_reducible exact ih1 _ _ _ _ _ _ _ _)
      | (with_reducible exact chart_Check.mono _ _ _ _)
      | (with_reducible exact chart_Find.mono _ _ _ _ _)
      | (with_reducible exact chart_Owner.mono _ _ _ _ _)
      | (with_reducible exact chart_Owners.mono _ _ _ _ _)
      | (with_reducible exact splicelaw03_Refs.mono _ _)
      | (with_reducible exact splicelaw08_Ref.mono _ _ _ _)
      | (with_reducible exact splicelaw08_awake.mono _)
      | (with_reducible exact splicelaw08_one.mono _ _ _ _ _ _ _ _ _ _)
      | (with_reducible exact spliceref01_Same.mono _ _ _)
      | (with_reducible exact spliceref08_Check.mono _ _ _ _)
      | (with_reducible exact spliceref08_Find.mono _ _ _ _ _)
      | (with_reducible exact spliceref08_Owner.mono _ _ _ _ _)
      | (with_reducible exact spliceref08_Owners.mono _ _ _ _ _)
      | (with_reducible exact LeO.refl _)
      | (with_reducible exact LeO.none _)
      | (with_reducible refine LeO.ite ?_ ?_)
      | (with_reducible refine LeO.bind ?_ (fun _ => ?_))
      | exact ih0 _ _ _ _ _ _
      | exact ih1 _ _ _ _ _ _ _ _
      | exact chart_Check.mono _ _ _ _
      | exact chart_Find.mono _ _ _ _ _
      | exact chart_Owner.mono _ _ _ _ _
      | exact chart_Owners.mono _ _ _ _ _
      | exact splicelaw03_Refs.mono _ _
      | exact splicelaw08_Ref.mono _ _ _ _
      | exact splicelaw08_awake.mono _
      | exact splicelaw08_one.mono _ _ _ _ _ _ _ _ _ _
      | exact spliceref01_Same.mono _ _ _
      | exact spliceref08_Check.mono _ _ _ _
      | exact spliceref08_Find.mono _ _ _ _ _
      | exact spliceref08_Owner.mono _ _ _ _ _
      | exact spliceref08_Owners.mono _ _ _ _ _
      | exact LeO.none _
      | refine LeO.ite ?_ ?_
      | refine LeO.bind ?_ (fun _ => ?_)
def splicelaw08_ChartOwners.T6 : Bool × List (List Nat × List Nat) := (true, [([], []), ([], []), ([], []), ([], []), ([], []), ([3, 4], [3, 4]), ([0, 1, 2, 5, 5], [0, 1, 2, 5]), ([6], [6]), ([7, 6], [7]), ([8], [8]), ([8], [8]), ([8], [8]), ([8], [8]), ([8], [8]), ([12, 13, 8, 8], [8, 12, 13]), ([9, 10, 11, 14, 14, 8], [8, 9, 10, 11, 14]), ([15, 8], [8, 15]), ([8, 16], [8, 16])])
def splicelaw08_ChartOwners.B6 : List Nat := [0, 0, 0, 0, 0, 24, 63, 127, 255, 511, 511, 511, 511, 511, 12799, 32767, 65535, 131071]
theorem splicelaw08_ChartOwners.tab6 : rtab .any (opsOf Try.f8 6) = splicelaw08_ChartOwners.T6 := by kernel_rfl
theorem splicelaw08_ChartOwners.bits6 : waitsOk splicelaw08_ChartOwners.T6.2 splicelaw08_ChartOwners.B6 = true := by kernel_rfl
def splicelaw08_ChartOwners.T8 : Bool × List (List Nat × List Nat) := (true, [([], []), ([0, 0], [0]), ([1], [1]), ([2, 1, 1], [1, 2]), ([1], [1]), ([4, 3, 1], [1, 4]), ([3, 5, 1], [1, 3, 5]), ([1, 6], [1, 6]), ([7, 5], [7]), ([8], [8]), ([8], [8]), ([9, 10, 8, 8], [8, 9, 10]), ([8], [8]), ([8], [8]), ([13, 11, 8], [8, 13]), ([12, 14, 14, 8], [8, 12, 14]), ([11, 15, 15, 8], [8, 11, 15]), ([8, 16], [8, 16]), ([17, 16, 0, 1, 2, 3, 4, 5, 6, 7, 8, 9, 10, 11, 12, 13, 14, 15, 16, 17], [17])])
def splicelaw08_ChartOwners.B8 : List Nat := [0, 1, 3, 7, 3, 31, 63, 127, 255, 511, 511, 2047, 511, 511, 12287, 32767, 65535, 131071, 262143]
theorem splicelaw08_ChartOwners.tab8 : rtab .any (opsOf Try.f8 8) = splicelaw08_ChartOwners.T8 := by kernel_rfl
theorem splicelaw08_ChartOwners.bits8 : waitsOk splicelaw08_ChartOwners.T8.2 splicelaw08_ChartOwners.B8 = true := by kernel_rfl
set_option maxHeartbeats 8000000 in
set_option maxRecDepth 100000 in
theorem splicelaw08_ChartOwners.calls (k : Nat) (a0_0 : Int) (a0_1 : Int) (A0_2 : Option Addr) (c0_2 : Nat) (l0_2 : List (S57)) (a1 : Int) (A2 : Option Addr) (c2 : Nat) (l2 : List (S55)) (r : Bool) (w : World) (hr0_2 : Kd.C k57 w A0_2 l0_2.length l0_2) (hc0_2 : l0_2.length ≤ c0_2) (hr2 : Kd.C k55 w A2 l2.length l2) (hc2 : l2.length ≤ c2) (h : splicelaw08_ChartOwners.f k a0_0 a0_1 l0_2 a1 l2 = some r) (hr_ : r = true) :
    Calls Try.prog 8 #[.agg #[.int .i64 a0_0, .int .i64 a0_1, .slice A0_2 l0_2.length c0_2], .int .i64 a1, .slice A2 l2.length c2] w fun e w' => e = .returned (.bool r) ∧ Below w.heap.size w w' := by
 have hu24 := Try.underlying24
 have hu30 := Try.underlying30
 have hu57 := Try.underlying57
 have HR0_2 := Aside0.mk hr0_2
 have HC0_2 := Aside0.mk hc0_2
 clear hr0_2 hc0_2
 have HR2 := Aside0.mk hr2
 have HC2 := Aside0.mk hc2
 clear hr2 hc2
 have HB := Aside0.mk (Below.refl w.heap.size w)
 have H : ((splicelaw08_few.f a0_0 a0_1 l0_2).bind fun t359 => (if t359 = true then (splicelaw08_ChartOwners.j0 k a1 l2 (decide ((l2.length : Int) > 100)) a0_0 a0_1 l0_2) else (splicelaw08_ChartOwners.j0 k a1 l2 true a0_0 a0_1 l0_2))) = some r := h
 clear h
 have HC4 := Aside0.mk H
 clear H
 go_enter Try.func8, Try.ntmps8
 go_upto_region 1 with (first | ((with_reducible refine gate_dst (N := 3) rfl ?_); (try (refine gate_guard (by rfl) ?_; dsimp only)); refine box_event ?hg (N := 3) ?hd (cs := #[.int .i64 a0_0, .int .i64 a0_1, .slice A0_2 l0_2.length c0_2]) (t := 24) ?hr ?_; (case hd => rfl); (case hg => rfl); (case hr => first | (go_simp; done) | (go_simp; rfl)); intro gb358 hg w5 hbox hb; have n0_ := Aside0.mk (below_step (by repeat (first | (with_reducible first | exact HB.out | apply below_alloc | apply pw_below_drewN | apply below_drew1) | exact HB.out)) hb); have n1_ := Aside0.mk (hbox); have n2_ := Aside0.mk ((by rw [hg]; exact (below_size (by repeat (first | (with_reducible first | exact HB.out | apply below_alloc | apply pw_below_drewN | apply below_drew1) | exact HB.out))) : w.heap.size ≤ gb358)); have n3_ := Aside0.mk ((by rw [hg]; exact (below_size (by repeat (first | (with_reducible first | exact HB.out | apply below_alloc | apply pw_below_drewN | apply below_drew1) | exact HB.out))) : w.heap.size ≤ gb358)); clear HB; have HB := n0_; have BK358 := n1_; have GW358 := n2_; have GE358 := n3_; clear n0_ n1_ n2_ n3_; clear hb hbox hg))
 (try simp only [Act.put, List.setIfInBounds_toArray, List.set_cons_zero, List.set_cons_succ])
 go_cut [19] (fun v19 wc => ∃ (kq : Nat) (x19_3 : Bool), v19 = .bool x19_3 ∧ Aside0 (splicelaw08_ChartOwners.j0 kq a1 l2 x19_3 a0_0 a0_1 l0_2 = some r) ∧ Aside0 (kq ≤ k) ∧ Aside0 (wc.heap[gb358]? = some (.cells #[.int .i64 a0_0, .int .i64 a0_1, (.slice A0_2 l0_2.length c0_2)] 24 (0, 0))) ∧ Aside0 (Below w.heap.size w wc))
 case first =>
   have H := HC4.out
   clear HC4
   replace H := Option.bind_eq_some_iff.mp H
   obtain ⟨t359, A60, H⟩ := H
   replace H : (if t359 = true then (splicelaw08_ChartOwners.j0 k a1 l2 (decide ((l2.length : Int) > 100)) a0_0 a0_1 l0_2) else (splicelaw08_ChartOwners.j0 k a1 l2 true a0_0 a0_1 l0_2)) = some r := H
   have A6 := Aside0.mk A60
   clear A60
   by_cases c7 : t359 = true
   · subst c7
     have H1 : (splicelaw08_ChartOwners.j0 k a1 l2 (decide ((l2.length : Int) > 100)) a0_0 a0_1 l0_2) = some r := by rw [if_pos rfl] at H; exact H
     clear H
     have H := H1
     clear H1
     have H' := Aside0.mk H
     clear H
     have hcz8_0 : w5.cell? ⟨gb358, 0, none⟩ = some (.int .i64 a0_0) := (blk_cell BK358.out 0).trans rfl
     have hcz8_1 : w5.cell? ⟨gb358, 1, none⟩ = some (.int .i64 a0_1) := (blk_cell BK358.out 1).trans rfl
     have hcz8_2 : w5.cell? ⟨gb358, 2, none⟩ = some (.slice A0_2 l0_2.length c0_2) := (blk_cell BK358.out 2).trans rfl
     have hfz8_0 := blk_frozen BK358.out 0
     have hfz8_1 := blk_frozen BK358.out 1
     have hfz8_2 := blk_frozen BK358.out 2
     go_wp2_with (first | ((with_reducible refine gate_callee (f := 18) rfl ?_); refine goesL_ (some 13) rfl rfl Try.func18 (by kernel_rfl) rfl #[.agg #[.int .i64 a0_0, .int .i64 a0_1, .slice A0_2 l0_2.length c0_2]] rfl (by (try simp only [List.map_toArray, List.map_cons, List.map_nil]); first | done | rfl | (simp only [List.length_drop, List.length_take]; rfl)) ?_; (with_reducible refine (splicelaw08_few.calls a0_0 a0_1 _ _ l0_2 true _ ?side1 ?side2 A6.out).mono ?_); (case side1 => repeat (first | exact (Kd.C_below HR0_2.out HB.out) | (with_reducible refine Kd.C_alloc ?_ _) | (with_reducible refine Kd.C_drewN ?_ _) | (with_reducible refine Kd.C_drew ?_))); (case side2 => exact HC0_2.out); rintro e w9 ⟨rfl, hb⟩; refine ⟨_, rfl, ?_⟩; have n0_ := Aside0.mk (blk_below (g := gb358) (o := .cells #[.int .i64 a0_0, .int .i64 a0_1, .slice A0_2 l0_2.length c0_2] 24 (0, 0)) (by (with_reducible repeat (first | refine blk_drewN ?_ _ | refine blk_drew ?_ | refine blk_alloc ?_ _)); exact BK358.out) hb); have n1_ := Aside0.mk (below_step (by repeat (first | (with_reducible first | exact HB.out | apply below_alloc | apply pw_below_drewN | apply below_drew1 | refine below_set ?_ GE358.out) | exact HB.out)) hb); clear BK358; clear HB; have BK358 := n0_; have HB := n1_; clear n0_ n1_; (try clear hb); (try clear hb2); (try clear hk); (try clear hi)))
     go_meet
     case rel => exact ⟨_, (decide ((l2.length : Int) > 100)), (by first | rfl | (simp; done) | (simp [*]; done)), H', ⟨by first | omega | exact Nat.le_refl _⟩, ⟨by (with_reducible repeat (first | refine blk_drewN ?_ _ | refine blk_drew ?_ | refine blk_alloc ?_ _)); exact BK358.out⟩, ⟨by repeat (first | (with_reducible first | exact HB.out | apply below_alloc | apply pw_below_drewN | apply below_drew1 | refine below_set ?_ GE358.out) | exact HB.out)⟩⟩
   replace c7 := Bool.eq_false_iff.mpr c7
   subst c7
   have H1 : (splicelaw08_ChartOwners.j0 k a1 l2 true a0_0 a0_1 l0_2) = some r := by rw [if_neg (show ¬ (false = true) by decide)] at H; exact H
   clear H
   have H := H1
   clear H1
   have H' := Aside0.mk H
   clear H
   have hcz10_0 : w5.cell? ⟨gb358, 0, none⟩ = some (.int .i64 a0_0) := (blk_cell BK358.out 0).trans rfl
   have hcz10_1 : w5.cell? ⟨gb358, 1, none⟩ = some (.int .i64 a0_1) := (blk_cell BK358.out 1).trans rfl
   have hcz10_2 : w5.cell? ⟨gb358, 2, none⟩ = some (.slice A0_2 l0_2.length c0_2) := (blk_cell BK358.out 2).trans rfl
   have hfz10_0 := blk_frozen BK358.out 0
   have hfz10_1 := blk_frozen BK358.out 1
   have hfz10_2 := blk_frozen BK358.out 2
   go_wp2_with (first | ((with_reducible refine gate_callee (f := 18) rfl ?_); refine goesL_ (some 13) rfl rfl Try.func18 (by kernel_rfl) rfl #[.agg #[.int .i64 a0_0, .int .i64 a0_1, .slice A0_2 l0_2.length c0_2]] rfl (by (try simp only [List.map_toArray, List.map_cons, List.map_nil]); first | done | rfl | (simp only [List.length_drop, List.length_take]; rfl)) ?_; (with_reducible refine (splicelaw08_few.calls a0_0 a0_1 _ _ l0_2 false _ ?side1 ?side2 A6.out).mono ?_); (case side1 => repeat (first | exact (Kd.C_below HR0_2.out HB.out) | (with_reducible refine Kd.C_alloc ?_ _) | (with_reducible refine Kd.C_drewN ?_ _) | (with_reducible refine Kd.C_drew ?_))); (case side2 => exact HC0_2.out); rintro e w11 ⟨rfl, hb⟩; refine ⟨_, rfl, ?_⟩; have n0_ := Aside0.mk (blk_below (g := gb358) (o := .cells #[.int .i64 a0_0, .int .i64 a0_1, .slice A0_2 l0_2.length c0_2] 24 (0, 0)) (by (with_reducible repeat (first | refine blk_drewN ?_ _ | refine blk_drew ?_ | refine blk_alloc ?_ _)); exact BK358.out) hb); have n1_ := Aside0.mk (below_step (by repeat (first | (with_reducible first | exact HB.out | apply below_alloc | apply pw_below_drewN | apply below_drew1 | refine below_set ?_ GE358.out) | exact HB.out)) hb); clear BK358; clear HB; have BK358 := n0_; have HB := n1_; clear n0_ n1_; (try clear hb); (try clear hb2); (try clear hk); (try clear hi)))
   go_meet
   case rel => exact ⟨_, (true), (by first | rfl | (simp; done) | (simp [*]; done)), H', ⟨by first | omega | exact Nat.le_refl _⟩, ⟨by (with_reducible repeat (first | refine blk_drewN ?_ _ | refine blk_drew ?_ | refine blk_alloc ?_ _)); exact BK358.out⟩, ⟨by repeat (first | (with_reducible first | exact HB.out | apply below_alloc | apply pw_below_drewN | apply below_drew1 | refine below_set ?_ GE358.out) | exact HB.out)⟩⟩
 clear HC4
 try clear c1
 try clear c2
 try clear p2
 try clear c7
 try clear c8
 try clear hcz10_0
 try clear hcz10_1
 try clear hcz10_2
 try clear hcz8_0
 try clear hcz8_1
 try clear hcz8_2
 try clear hfz10_0
 try clear hfz10_1
 try clear hfz10_2
 try clear hfz8_0
 try clear hfz8_1
 try clear hfz8_2
 obtain ⟨kq, x19_3, rfl, HA, HJ3, BK358, HB⟩ := hcut
 cases kq with
 | zero => exact absurd HA.out (by simp [splicelaw08_ChartOwners.j0])
 | succ kj3 => ?_
 have H := HA.out
 clear HA; simp only [splicelaw08_ChartOwners.j0] at H
 by_cases c12 : x19_3 = true
 · subst c12
   have H1 : ((splicelaw08_awake.f kj3).bind fun t360 => (some t360)) = some r := by rw [if_pos rfl] at H; exact H
   clear H
   have H := H1
   clear H1
   replace H := Option.bind_eq_some_iff.mp H
   obtain ⟨t360, A130, H⟩ := H
   replace H : (some t360) = some r := H
   have A13 := Aside0.mk A130
   clear A130
   obtain rfl := Option.some.inj H
   go_wp2_with (first | ((with_reducible refine gate_callee (f := 14) rfl ?_); refine goesL_ (some 20) rfl rfl Try.func14 (by kernel_rfl) rfl #[] rfl (by (try simp only [List.map_toArray, List.map_cons, List.map_nil]); first | done | rfl | (simp only [List.length_drop, List.length_take]; rfl)) ?_; (with_reducible refine (splicelaw08_awake.calls kj3  t360 _ A13.out (by first | rfl | exact hr_)).mono ?_); rintro e w14 ⟨rfl, hb⟩; refine ⟨_, rfl, ?_⟩; have n0_ := Aside0.mk (blk_below (g := gb358) (o := .cells #[.int .i64 a0_0, .int .i64 a0_1, .slice A0_2 l0_2.length c0_2] 24 (0, 0)) (by (with_reducible repeat (first | refine blk_drewN ?_ _ | refine blk_drew ?_ | refine blk_alloc ?_ _)); exact BK358.out) hb); have n1_ := Aside0.mk (below_step (by repeat (first | (with_reducible first | exact HB.out | apply below_alloc | apply pw_below_drewN | apply below_drew1 | refine below_set ?_ GE358.out) | exact HB.out)) hb); clear BK358; clear HB; have BK358 := n0_; have HB := n1_; clear n0_ n1_; (try clear hb); (try clear hb2); (try clear hk); (try clear hi)))
   go_ret
   exact ⟨by first | rfl | (simp [errW_none, errW_some] <;> rfl) | (simp [*, errW_none, errW_some] <;> rfl), by repeat (first | (with_reducible first | exact HB.out | apply below_alloc | apply pw_below_drewN | apply below_drew1 | refine below_set ?_ GE358.out) | exact HB.out)⟩
 replace c12 := Bool.eq_false_iff.mpr c12
 subst c12
 have H1 : ((splicelaw08_Ref.f kj3 a0_0 a0_1 l0_2).bind fun bt361 => ((chart_Owner.f kj3 a0_0 a0_1 l0_2 a1).bind fun bt367 => ((chart_Find.f kj3 a0_0 a0_1 l0_2 a1).bind fun bt373 => ((spliceref08_Owner.f kj3 bt361.1 bt361.2.1 bt361.2.2 a1).bind fun t379 => ((splicelaw08_one.f kj3 bt367.1 bt367.2.1 bt367.2.2.1 bt367.2.2.2.1 bt367.2.2.2.2 bt361.1 bt361.2.1 bt361.2.2 t379).bind fun t380 => (if t380 = true then ((spliceref08_Find.f kj3 bt361.1 bt361.2.1 bt361.2.2 a1).bind fun t381 => ((splicelaw08_one.f kj3 bt373.1 bt373.2.1 bt373.2.2.1 bt373.2.2.2.1 bt373.2.2.2.2 bt361.1 bt361.2.1 bt361.2.2 t381).bind fun t382 => (splicelaw08_ChartOwners.j1 kj3 l2 (!t382) a0_0 a0_1 l0_2 bt361.1 bt361.2.1 bt361.2.2))) else (splicelaw08_ChartOwners.j1 kj3 l2 true a0_0 a0_1 l0_2 bt361.1 bt361.2.1 bt361.2.2))))))) = some r := by rw [if_neg (show ¬ (false = true) by decide)] at H; exact H
 clear H
 have H := H1
 clear H1
 replace H := Option.bind_eq_some_iff.mp H
 obtain ⟨⟨t361, t362, t363⟩, A150, H⟩ := H
 replace H : ((chart_Owner.f kj3 a0_0 a0_1 l0_2 a1).bind fun bt367 => ((chart_Find.f kj3 a0_0 a0_1 l0_2 a1).bind fun bt373 => ((spliceref08_Owner.f kj3 t361 t362 t363 a1).bind fun t379 => ((splicelaw08_one.f kj3 bt367.1 bt367.2.1 bt367.2.2.1 bt367.2.2.2.1 bt367.2.2.2.2 t361 t362 t363 t379).bind fun t380 => (if t380 = true then ((spliceref08_Find.f kj3 t361 t362 t363 a1).bind fun t381 => ((splicelaw08_one.f kj3 bt373.1 bt373.2.1 bt373.2.2.1 bt373.2.2.2.1 bt373.2.2.2.2 t361 t362 t363 t381).bind fun t382 => (splicelaw08_ChartOwners.j1 kj3 l2 (!t382) a0_0 a0_1 l0_2 t361 t362 t363))) else (splicelaw08_ChartOwners.j1 kj3 l2 true a0_0 a0_1 l0_2 t361 t362 t363)))))) = some r := H
 have A15 := Aside0.mk A150
 clear A150
 replace H := Option.bind_eq_some_iff.mp H
 obtain ⟨⟨t367, t368, t369, t370, t371⟩, A160, H⟩ := H
 replace H : ((chart_Find.f kj3 a0_0 a0_1 l0_2 a1).bind fun bt373 => ((spliceref08_Owner.f kj3 t361 t362 t363 a1).bind fun t379 => ((splicelaw08_one.f kj3 t367 t368 t369 t370 t371 t361 t362 t363 t379).bind fun t380 => (if t380 = true then ((spliceref08_Find.f kj3 t361 t362 t363 a1).bind fun t381 => ((splicelaw08_one.f kj3 bt373.1 bt373.2.1 bt373.2.2.1 bt373.2.2.2.1 bt373.2.2.2.2 t361 t362 t363 t381).bind fun t382 => (splicelaw08_ChartOwners.j1 kj3 l2 (!t382) a0_0 a0_1 l0_2 t361 t362 t363))) else (splicelaw08_ChartOwners.j1 kj3 l2 true a0_0 a0_1 l0_2 t361 t362 t363))))) = some r := H
 have A16 := Aside0.mk A160
 clear A160
 replace H := Option.bind_eq_some_iff.mp H
 obtain ⟨⟨t373, t374, t375, t376, t377⟩, A170, H⟩ := H
 replace H : ((spliceref08_Owner.f kj3 t361 t362 t363 a1).bind fun t379 => ((splicelaw08_one.f kj3 t367 t368 t369 t370 t371 t361 t362 t363 t379).bind fun t380 => (if t380 = true then ((spliceref08_Find.f kj3 t361 t362 t363 a1).bind fun t381 => ((splicelaw08_one.f kj3 t373 t374 t375 t376 t377 t361 t362 t363 t381).bind fun t382 => (splicelaw08_ChartOwners.j1 kj3 l2 (!t382) a0_0 a0_1 l0_2 t361 t362 t363))) else (splicelaw08_ChartOwners.j1 kj3 l2 true a0_0 a0_1 l0_2 t361 t362 t363)))) = some r := H
 have A17 := Aside0.mk A170
 clear A170
 have HC18 := Aside0.mk H
 clear H
 have hcz19_0 : wc.cell? ⟨gb358, 0, none⟩ = some (.int .i64 a0_0) := (blk_cell BK358.out 0).trans rfl
 have hcz19_1 : wc.cell? ⟨gb358, 1, none⟩ = some (.int .i64 a0_1) := (blk_cell BK358.out 1).trans rfl
 have hcz19_2 : wc.cell? ⟨gb358, 2, none⟩ = some (.slice A0_2 l0_2.length c0_2) := (blk_cell BK358.out 2).trans rfl
 have hfz19_0 := blk_frozen BK358.out 0
 have hfz19_1 := blk_frozen BK358.out 1
 have hfz19_2 := blk_frozen BK358.out 2
 go_upto_region 6 with (first | ((with_reducible refine gate_callee (f := 16) rfl ?_); refine goesL_ (some 22) rfl rfl Try.func16 (by kernel_rfl) rfl #[.agg #[.int .i64 a0_0, .int .i64 a0_1, .slice A0_2 l0_2.length c0_2]] rfl (by (try simp only [List.map_toArray, List.map_cons, List.map_nil]); first | done | rfl | (simp only [List.length_drop, List.length_take]; rfl)) ?_; (with_reducible refine (splicelaw08_Ref.calls kj3 a0_0 a0_1 _ _ l0_2 t361 t362 t363 _ ?side1 ?side2 A15.out).mono ?_); (case side1 => repeat (first | exact (Kd.C_below HR0_2.out HB.out) | (with_reducible refine Kd.C_alloc ?_ _) | (with_reducible refine Kd.C_drewN ?_ _) | (with_reducible refine Kd.C_drew ?_))); (case side2 => exact HC0_2.out); rintro e w20 ⟨v364, rfl, ho0, hb⟩; refine ⟨_, rfl, ?_⟩; have n0_ := Aside0.mk (Kd.R_lower ho0 (below_size (by repeat (first | (with_reducible first | exact HB.out | apply below_alloc | apply pw_below_drewN | apply below_drew1 | refine below_set ?_ GE358.out) | exact HB.out)))); have n1_ := Aside0.mk (blk_below (g := gb358) (o := .cells #[.int .i64 a0_0, .int .i64 a0_1, .slice A0_2 l0_2.length c0_2] 24 (0, 0)) (by (with_reducible repeat (first | refine blk_drewN ?_ _ | refine blk_drew ?_ | refine blk_alloc ?_ _)); exact BK358.out) hb); have n2_ := Aside0.mk (below_step (by repeat (first | (with_reducible first | exact HB.out | apply below_alloc | apply pw_below_drewN | apply below_drew1 | refine below_set ?_ GE358.out) | exact HB.out)) hb); clear BK358; clear HB; have HO365 := n0_; have BK358 := n1_; have HB := n2_; clear n0_ n1_ n2_; (try clear hb); (try clear hb2); (try clear hk); (try clear hi); (try clear ho0)) | ((with_reducible refine gate_dst (N := 7) rfl ?_); (try (refine gate_guard (by rfl) ?_; dsimp only)); refine box_event ?hg (N := 7) ?hd (cs := #[.int .i64 0, .int .i64 0, .slice none 0 0]) (t := 30) ?hr ?_; (case hd => rfl); (case hg => rfl); (case hr => first | (go_simp; done) | (go_simp; rfl)); intro gb366 hg w21 hbox hb; have n0_ := Aside0.mk (Kd.R_below (by (with_reducible repeat (first | apply Kd.R_alloc | apply Kd.R_drewN | apply Kd.R_drew)); exact HO365.out) hb); have n1_ := Aside0.mk (blk_below (g := gb358) (o := .cells #[.int .i64 a0_0, .int .i64 a0_1, .slice A0_2 l0_2.length c0_2] 24 (0, 0)) (by (with_reducible repeat (first | refine blk_drewN ?_ _ | refine blk_drew ?_ | refine blk_alloc ?_ _)); exact BK358.out) hb); have n2_ := Aside0.mk (below_step (by repeat (first | (with_reducible first | exact HB.out | apply below_alloc | apply pw_below_drewN | apply below_drew1 | refine below_set ?_ GE358.out) | exact HB.out)) hb); have n3_ := Aside0.mk (hbox); have n4_ := Aside0.mk ((by rw [hg]; exact (below_size (by repeat (first | (with_reducible first | exact HB.out | apply below_alloc | apply pw_below_drewN | apply below_drew1 | refine below_set ?_ GE358.out) | exact HB.out))) : w.heap.size ≤ gb366)); have n5_ := Aside0.mk ((by rw [hg]; exact (below_size (by repeat (first | (with_reducible first | exact HB.out | apply below_alloc | apply pw_below_drewN | apply below_drew1 | refine below_set ?_ GE358.out) | exact HB.out))) : w.heap.size ≤ gb366)); have n6_ := Aside0.mk ((by rw [hg]; exact Nat.ne_of_lt (blk_lt (g := gb358) (o := .cells #[.int .i64 a0_0, .int .i64 a0_1, .slice A0_2 l0_2.length c0_2] 24 (0, 0)) (by (with_reducible repeat (first | refine blk_drewN ?_ _ | refine blk_drew ?_ | refine blk_alloc ?_ _)); exact BK358.out)) : gb358 ≠ gb366)); have n7_ := Aside0.mk ((by rw [hg]; exact Nat.ne_of_gt (blk_lt (g := gb358) (o := .cells #[.int .i64 a0_0, .int .i64 a0_1, .slice A0_2 l0_2.length c0_2] 24 (0, 0)) (by (with_reducible repeat (first | refine blk_drewN ?_ _ | refine blk_drew ?_ | refine blk_alloc ?_ _)); exact BK358.out)) : gb366 ≠ gb358)); clear HO365; clear BK358; clear HB; have HO365 := n0_; have BK358 := n1_; have HB := n2_; have BK366 := n3_; have GW366 := n4_; have GE366 := n5_; have NB358_366 := n6_; have NB366_358 := n7_; clear n0_ n1_ n2_ n3_ n4_ n5_ n6_ n7_; clear hb hbox hg; have hnb22 := NB366_358.out; have hnc22 := NB358_366.out; have hcz23_0 : w21.cell? ⟨gb366, 0, none⟩ = some (.int .i64 0) := (blk_cell BK366.out 0).trans rfl; have hcz23_1 : w21.cell? ⟨gb366, 1, none⟩ = some (.int .i64 0) := (blk_cell BK366.out 1).trans rfl; have hcz23_2 : w21.cell? ⟨gb366, 2, none⟩ = some (.slice none 0 0) := (blk_cell BK366.out 2).trans rfl; have hfz23_0 := blk_frozen BK366.out 0; have hfz23_1 := blk_frozen BK366.out 1; have hfz23_2 := blk_frozen BK366.out 2; obtain ⟨Ao24, co24, eo24⟩ := Kd.R_slice HO365.out; subst eo24; have hcz25_0 : w21.cell? ⟨gb358, 0, none⟩ = some (.int .i64 a0_0) := (blk_cell BK358.out 0).trans rfl; have hcz25_1 : w21.cell? ⟨gb358, 1, none⟩ = some (.int .i64 a0_1) := (blk_cell BK358.out 1).trans rfl; have hcz25_2 : w21.cell? ⟨gb358, 2, none⟩ = some (.slice A0_2 l0_2.length c0_2) := (blk_cell BK358.out 2).trans rfl; have hfz25_0 := blk_frozen BK358.out 0; have hfz25_1 := blk_frozen BK358.out 1; have hfz25_2 := blk_frozen BK358.out 2) | ((with_reducible refine gate_callee (f := 25) rfl ?_); refine goesL_ (some 26) rfl rfl Try.func25 (by kernel_rfl) rfl #[.agg #[.int .i64 a0_0, .int .i64 a0_1, .slice A0_2 l0_2.length c0_2], .int .i64 a1] rfl (by (try simp only [List.map_toArray, List.map_cons, List.map_nil]); first | done | rfl | (simp only [List.length_drop, List.length_take]; rfl)) ?_; (with_reducible refine (chart_Owner.calls kj3 a0_0 a0_1 _ _ l0_2 a1 t367 t368 t369 t370 t371 _ ?side1 ?side2 A16.out).mono ?_); (case side1 => exact Kd.C_below HR0_2.out (by repeat (first | (with_reducible first | exact HB.out | apply below_alloc | apply pw_below_drewN | apply below_drew1 | refine below_set ?_ GE358.out | refine below_set ?_ GE366.out) | exact HB.out))); (case side2 => exact HC0_2.out); rintro e w26 ⟨rfl, hb⟩; refine ⟨_, rfl, ?_⟩; have n0_ := Aside0.mk (Kd.R_below (by (with_reducible repeat (first | apply Kd.R_alloc | apply Kd.R_drewN | apply Kd.R_drew)); exact (Kd.R_mono (Kd.R_far (p := ⟨gb366, 2, none⟩) (Kd.R_far (p := ⟨gb366, 1, none⟩) (Kd.R_far (p := ⟨gb366, 0, none⟩) (Kd.R_types HO365.out BK366.out (by decide)) (fun _ hk => hk.2) (.int .i64 t361)) (fun _ hk => hk.2) (.int .i64 t362)) (fun _ hk => hk.2) (.slice Ao24 t363.length co24)) (fun _ h_ => h_.1))) hb); have n1_ := Aside0.mk (blk_below (g := gb358) (o := .cells #[.int .i64 a0_0, .int .i64 a0_1, .slice A0_2 l0_2.length c0_2] 24 (0, 0)) (by (with_reducible repeat (first | refine blk_drewN ?_ _ | refine blk_drew ?_ | refine blk_alloc ?_ _)); refine blk_far ?_ NB358_366.out _; (with_reducible repeat (first | refine blk_drewN ?_ _ | refine blk_drew ?_ | refine blk_alloc ?_ _)); refine blk_far ?_ NB358_366.out _; (with_reducible repeat (first | refine blk_drewN ?_ _ | refine blk_drew ?_ | refine blk_alloc ?_ _)); refine blk_far ?_ NB358_366.out _; (with_reducible repeat (first | refine blk_drewN ?_ _ | refine blk_drew ?_ | refine blk_alloc ?_ _)); exact BK358.out) hb); have n2_ := Aside0.mk (blk_below (g := gb366) (o := .cells #[.int .i64 t361, .int .i64 t362, .slice Ao24 t363.length co24] 30 (0, 0)) (by (with_reducible repeat (first | refine blk_drewN ?_ _ | refine blk_drew ?_ | refine blk_alloc ?_ _)); refine blk_put (cs := #[.int .i64 t361, .int .i64 t362, .slice none 0 0]) ?_ 2 _ rfl; (with_reducible repeat (first | refine blk_drewN ?_ _ | refine blk_drew ?_ | refine blk_alloc ?_ _)); refine blk_put (cs := #[.int .i64 t361, .int .i64 0, .slice none 0 0]) ?_ 1 _ rfl; (with_reducible repeat (first | refine blk_drewN ?_ _ | refine blk_drew ?_ | refine blk_alloc ?_ _)); refine blk_put (cs := #[.int .i64 0, .int .i64 0, .slice none 0 0]) ?_ 0 _ rfl; (with_reducible repeat (first | refine blk_drewN ?_ _ | refine blk_drew ?_ | refine blk_alloc ?_ _)); exact BK366.out) hb); have n3_ := Aside0.mk (below_step (by repeat (first | (with_reducible first | exact HB.out | apply below_alloc | apply pw_below_drewN | apply below_drew1 | refine below_set ?_ GE358.out | refine below_set ?_ GE366.out) | exact HB.out)) hb); clear HO365; clear BK358; clear BK366; clear HB; have HO365 := n0_; have BK358 := n1_; have BK366 := n2_; have HB := n3_; clear n0_ n1_ n2_ n3_; (try clear hb); (try clear hb2); (try clear hk); (try clear hi)) | ((with_reducible refine gate_dst (N := 8) rfl ?_); (try (refine gate_guard (by rfl) ?_; dsimp only)); refine box_event ?hg (N := 8) ?hd (cs := #[.int .i64 0, .int .i64 0, .int .i64 0, .int .i64 0]) (t := 57) ?hr ?_; (case hd => rfl); (case hg => rfl); (case hr => first | (go_simp; done) | (go_simp; rfl)); intro gb372 hg w27 hbox hb; have n0_ := Aside0.mk (Kd.R_below (by (with_reducible repeat (first | apply Kd.R_alloc | apply Kd.R_drewN | apply Kd.R_drew)); exact HO365.out) hb); have n1_ := Aside0.mk (blk_below (g := gb358) (o := .cells #[.int .i64 a0_0, .int .i64 a0_1, .slice A0_2 l0_2.length c0_2] 24 (0, 0)) (by (with_reducible repeat (first | refine blk_drewN ?_ _ | refine blk_drew ?_ | refine blk_alloc ?_ _)); exact BK358.out) hb); have n2_ := Aside0.mk (blk_below (g := gb366) (o := .cells #[.int .i64 t361, .int .i64 t362, .slice Ao24 t363.length co24] 30 (0, 0)) (by (with_reducible repeat (first | refine blk_drewN ?_ _ | refine blk_drew ?_ | refine blk_alloc ?_ _)); exact BK366.out) hb); have n3_ := Aside0.mk (below_step (by repeat (first | (with_reducible first | exact HB.out | apply below_alloc | apply pw_below_drewN | apply below_drew1 | refine below_set ?_ GE358.out | refine below_set ?_ GE366.out) | exact HB.out)) hb); have n4_ := Aside0.mk (hbox); have n5_ := Aside0.mk ((by rw [hg]; exact (below_size (by repeat (first | (with_reducible first | exact HB.out | apply below_alloc | apply pw_below_drewN | apply below_drew1 | refine below_set ?_ GE358.out | refine below_set ?_ GE366.out) | exact HB.out))) : w.heap.size ≤ gb372)); have n6_ := Aside0.mk ((by rw [hg]; exact (below_size (by repeat (first | (with_reducible first | exact HB.out | apply below_alloc | apply pw_below_drewN | apply below_drew1 | refine below_set ?_ GE358.out | refine below_set ?_ GE366.out) | exact HB.out))) : w.heap.size ≤ gb372)); have n7_ := Aside0.mk ((by rw [hg]; exact Nat.ne_of_lt (blk_lt (g := gb358) (o := .cells #[.int .i64 a0_0, .int .i64 a0_1, .slice A0_2 l0_2.length c0_2] 24 (0, 0)) (by (with_reducible repeat (first | refine blk_drewN ?_ _ | refine blk_drew ?_ | refine blk_alloc ?_ _)); exact BK358.out)) : gb358 ≠ gb372)); have n8_ := Aside0.mk ((by rw [hg]; exact Nat.ne_of_gt (blk_lt (g := gb358) (o := .cells #[.int .i64 a0_0, .int .i64 a0_1, .slice A0_2 l0_2.length c0_2] 24 (0, 0)) (by (with_reducible repeat (first | refine blk_drewN ?_ _ | refine blk_drew ?_ | refine blk_alloc ?_ _)); exact BK358.out)) : gb372 ≠ gb358)); have n9_ := Aside0.mk ((by rw [hg]; exact Nat.ne_of_lt (blk_lt (g := gb366) (o := .cells #[.int .i64 t361, .int .i64 t362, .slice Ao24 t363.length co24] 30 (0, 0)) (by (with_reducible repeat (first | refine blk_drewN ?_ _ | refine blk_drew ?_ | refine blk_alloc ?_ _)); exact BK366.out)) : gb366 ≠ gb372)); have n10_ := Aside0.mk ((by rw [hg]; exact Nat.ne_of_gt (blk_lt (g := gb366) (o := .cells #[.int .i64 t361, .int .i64 t362, .slice Ao24 t363.length co24] 30 (0, 0)) (by (with_reducible repeat (first | refine blk_drewN ?_ _ | refine blk_drew ?_ | refine blk_alloc ?_ _)); exact BK366.out)) : gb372 ≠ gb366)); clear HO365; clear BK358; clear BK366; clear HB; have HO365 := n0_; have BK358 := n1_; have BK366 := n2_; have HB := n3_; have BK372 := n4_; have GW372 := n5_; have GE372 := n6_; have NB358_372 := n7_; have NB372_358 := n8_; have NB366_372 := n9_; have NB372_366 := n10_; clear n0_ n1_ n2_ n3_ n4_ n5_ n6_ n7_ n8_ n9_ n10_; clear hb hbox hg; have hnb28 := NB372_358.out; have hnc28 := NB358_372.out; have hnb29 := NB372_366.out; have hnc29 := NB366_372.out; have hcz30_0 : w27.cell? ⟨gb372, 0, none⟩ = some (.int .i64 0) := (blk_cell BK372.out 0).trans rfl; have hcz30_1 : w27.cell? ⟨gb372, 1, none⟩ = some (.int .i64 0) := (blk_cell BK372.out 1).trans rfl; have hcz30_2 : w27.cell? ⟨gb372, 2, none⟩ = some (.int .i64 0) := (blk_cell BK372.out 2).trans rfl; have hcz30_3 : w27.cell? ⟨gb372, 3, none⟩ = some (.int .i64 0) := (blk_cell BK372.out 3).trans rfl; have hfz30_0 := blk_frozen BK372.out 0; have hfz30_1 := blk_frozen BK372.out 1; have hfz30_2 := blk_frozen BK372.out 2; have hfz30_3 := blk_frozen BK372.out 3; have hcz31_0 : w27.cell? ⟨gb358, 0, none⟩ = some (.int .i64 a0_0) := (blk_cell BK358.out 0).trans rfl; have hcz31_1 : w27.cell? ⟨gb358, 1, none⟩ = some (.int .i64 a0_1) := (blk_cell BK358.out 1).trans rfl; have hcz31_2 : w27.cell? ⟨gb358, 2, none⟩ = some (.slice A0_2 l0_2.length c0_2) := (blk_cell BK358.out 2).trans rfl; have hfz31_0 := blk_frozen BK358.out 0; have hfz31_1 := blk_frozen BK358.out 1; have hfz31_2 := blk_frozen BK358.out 2) | ((with_reducible refine gate_callee (f := 24) rfl ?_); refine goesL_ (some 32) rfl rfl Try.func24 (by kernel_rfl) rfl #[.agg #[.int .i64 a0_0, .int .i64 a0_1, .slice A0_2 l0_2.length c0_2], .int .i64 a1] rfl (by (try simp only [List.map_toArray, List.map_cons, List.map_nil]); first | done | rfl | (simp only [List.length_drop, List.length_take]; rfl)) ?_; (with_reducible refine (chart_Find.calls kj3 a0_0 a0_1 _ _ l0_2 a1 t373 t374 t375 t376 t377 _ ?side1 ?side2 A17.out).mono ?_); (case side1 => exact Kd.C_below HR0_2.out (by repeat (first | (with_reducible first | exact HB.out | apply below_alloc | apply pw_below_drewN | apply below_drew1 | refine below_set ?_ GE358.out | refine below_set ?_ GE366.out | refine below_set ?_ GE372.out) | exact HB.out))); (case side2 => exact HC0_2.out); rintro e w32 ⟨rfl, hb⟩; refine ⟨_, rfl, ?_⟩; have n0_ := Aside0.mk (Kd.R_below (by (with_reducible repeat (first | apply Kd.R_alloc | apply Kd.R_drewN | apply Kd.R_drew)); exact (Kd.R_mono (Kd.R_far (p := ⟨gb372, 3, none⟩) (Kd.R_far (p := ⟨gb372, 2, none⟩) (Kd.R_far (p := ⟨gb372, 1, none⟩) (Kd.R_far (p := ⟨gb372, 0, none⟩) (Kd.R_types HO365.out BK372.out (by decide)) (fun _ hk => hk.2) (.int .i64 t367)) (fun _ hk => hk.2) (.int .i64 t368)) (fun _ hk => hk.2) (.int .i64 t369)) (fun _ hk => hk.2) (.int .i64 t370)) (fun _ h_ => h_.1))) hb); have n1_ := Aside0.mk (blk_below (g := gb358) (o := .cells #[.int .i64 a0_0, .int .i64 a0_1, .slice A0_2 l0_2.length c0_2] 24 (0, 0)) (by (with_reducible repeat (first | refine blk_drewN ?_ _ | refine blk_drew ?_ | refine blk_alloc ?_ _)); refine blk_far ?_ NB358_372.out _; (with_reducible repeat (first | refine blk_drewN ?_ _ | refine blk_drew ?_ | refine blk_alloc ?_ _)); refine blk_far ?_ NB358_372.out _; (with_reducible repeat (first | refine blk_drewN ?_ _ | refine blk_drew ?_ | refine blk_alloc ?_ _)); refine blk_far ?_ NB358_372.out _; (with_reducible repeat (first | refine blk_drewN ?_ _ | refine blk_drew ?_ | refine blk_alloc ?_ _)); refine blk_far ?_ NB358_372.out _; (with_reducible repeat (first | refine blk_drewN ?_ _ | refine blk_drew ?_ | refine blk_alloc ?_ _)); exact BK358.out) hb); have n2_ := Aside0.mk (blk_below (g := gb366) (o := .cells #[.int .i64 t361, .int .i64 t362, .slice Ao24 t363.length co24] 30 (0, 0)) (by (with_reducible repeat (first | refine blk_drewN ?_ _ | refine blk_drew ?_ | refine blk_alloc ?_ _)); refine blk_far ?_ NB366_372.out _; (with_reducible repeat (first | refine blk_drewN ?_ _ | refine blk_drew ?_ | refine blk_alloc ?_ _)); refine blk_far ?_ NB366_372.out _; (with_reducible repeat (first | refine blk_drewN ?_ _ | refine blk_drew ?_ | refine blk_alloc ?_ _)); refine blk_far ?_ NB366_372.out _; (with_reducible repeat (first | refine blk_drewN ?_ _ | refine blk_drew ?_ | refine blk_alloc ?_ _)); refine blk_far ?_ NB366_372.out _; (with_reducible repeat (first | refine blk_drewN ?_ _ | refine blk_drew ?_ | refine blk_alloc ?_ _)); exact BK366.out) hb); have n3_ := Aside0.mk (blk_below (g := gb372) (o := .cells #[.int .i64 t367, .int .i64 t368, .int .i64 t369, .int .i64 t370] 57 (0, 0)) (by (with_reducible repeat (first | refine blk_drewN ?_ _ | refine blk_drew ?_ | refine blk_alloc ?_ _)); refine blk_put (cs := #[.int .i64 t367, .int .i64 t368, .int .i64 t369, .int .i64 0]) ?_ 3 _ rfl; (with_reducible repeat (first | refine blk_drewN ?_ _ | refine blk_drew ?_ | refine blk_alloc ?_ _)); refine blk_put (cs := #[.int .i64 t367, .int .i64 t368, .int .i64 0, .int .i64 0]) ?_ 2 _ rfl; (with_reducible repeat (first | refine blk_drewN ?_ _ | refine blk_drew ?_ | refine blk_alloc ?_ _)); refine blk_put (cs := #[.int .i64 t367, .int .i64 0, .int .i64 0, .int .i64 0]) ?_ 1 _ rfl; (with_reducible repeat (first | refine blk_drewN ?_ _ | refine blk_drew ?_ | refine blk_alloc ?_ _)); refine blk_put (cs := #[.int .i64 0, .int .i64 0, .int .i64 0, .int .i64 0]) ?_ 0 _ rfl; (with_reducible repeat (first | refine blk_drewN ?_ _ | refine blk_drew ?_ | refine blk_alloc ?_ _)); exact BK372.out) hb); have n4_ := Aside0.mk (below_step (by repeat (first | (with_reducible first | exact HB.out | apply below_alloc | apply pw_below_drewN | apply below_drew1 | refine below_set ?_ GE358.out | refine below_set ?_ GE366.out | refine below_set ?_ GE372.out) | exact HB.out)) hb); clear HO365; clear BK358; clear BK366; clear BK372; clear HB; have HO365 := n0_; have BK358 := n1_; have BK366 := n2_; have BK372 := n3_; have HB := n4_; clear n0_ n1_ n2_ n3_ n4_; (try clear hb); (try clear hb2); (try clear hk); (try clear hi)) | ((with_reducible refine gate_dst (N := 10) rfl ?_); (try (refine gate_guard (by rfl) ?_; dsimp only)); refine box_event ?hg (N := 10) ?hd (cs := #[.int .i64 0, .int .i64 0, .int .i64 0, .int .i64 0]) (t := 57) ?hr ?_; (case hd => rfl); (case hg => rfl); (case hr => first | (go_simp; done) | (go_simp; rfl)); intro gb378 hg w33 hbox hb; have n0_ := Aside0.mk (Kd.R_below (by (with_reducible repeat (first | apply Kd.R_alloc | apply Kd.R_drewN | apply Kd.R_drew)); exact HO365.out) hb); have n1_ := Aside0.mk (blk_below (g := gb358) (o := .cells #[.int .i64 a0_0, .int .i64 a0_1, .slice A0_2 l0_2.length c0_2] 24 (0, 0)) (by (with_reducible repeat (first | refine blk_drewN ?_ _ | refine blk_drew ?_ | refine blk_alloc ?_ _)); exact BK358.out) hb); have n2_ := Aside0.mk (blk_below (g := gb366) (o := .cells #[.int .i64 t361, .int .i64 t362, .slice Ao24 t363.length co24] 30 (0, 0)) (by (with_reducible repeat (first | refine blk_drewN ?_ _ | refine blk_drew ?_ | refine blk_alloc ?_ _)); exact BK366.out) hb); have n3_ := Aside0.mk (blk_below (g := gb372) (o := .cells #[.int .i64 t367, .int .i64 t368, .int .i64 t369, .int .i64 t370] 57 (0, 0)) (by (with_reducible repeat (first | refine blk_drewN ?_ _ | refine blk_drew ?_ | refine blk_alloc ?_ _)); exact BK372.out) hb); have n4_ := Aside0.mk (below_step (by repeat (first | (with_reducible first | exact HB.out | apply below_alloc | apply pw_below_drewN | apply below_drew1 | refine below_set ?_ GE358.out | refine below_set ?_ GE366.out | refine below_set ?_ GE372.out) | exact HB.out)) hb); have n5_ := Aside0.mk (hbox); have n6_ := Aside0.mk ((by rw [hg]; exact (below_size (by repeat (first | (with_reducible first | exact HB.out | apply below_alloc | apply pw_below_drewN | apply below_drew1 | refine below_set ?_ GE358.out | refine below_set ?_ GE366.out | refine below_set ?_ GE372.out) | exact HB.out))) : w.heap.size ≤ gb378)); have n7_ := Aside0.mk ((by rw [hg]; exact (below_size (by repeat (first | (with_reducible first | exact HB.out | apply below_alloc | apply pw_below_drewN | apply below_drew1 | refine below_set ?_ GE358.out | refine below_set ?_ GE366.out | refine below_set ?_ GE372.out) | exact HB.out))) : w.heap.size ≤ gb378)); have n8_ := Aside0.mk ((by rw [hg]; exact Nat.ne_of_lt (blk_lt (g := gb358) (o := .cells #[.int .i64 a0_0, .int .i64 a0_1, .slice A0_2 l0_2.length c0_2] 24 (0, 0)) (by (with_reducible repeat (first | refine blk_drewN ?_ _ | refine blk_drew ?_ | refine blk_alloc ?_ _)); exact BK358.out)) : gb358 ≠ gb378)); have n9_ := Aside0.mk ((by rw [hg]; exact Nat.ne_of_gt (blk_lt (g := gb358) (o := .cells #[.int .i64 a0_0, .int .i64 a0_1, .slice A0_2 l0_2.length c0_2] 24 (0, 0)) (by (with_reducible repeat (first | refine blk_drewN ?_ _ | refine blk_drew ?_ | refine blk_alloc ?_ _)); exact BK358.out)) : gb378 ≠ gb358)); have n10_ := Aside0.mk ((by rw [hg]; exact Nat.ne_of_lt (blk_lt (g := gb366) (o := .cells #[.int .i64 t361, .int .i64 t362, .slice Ao24 t363.length co24] 30 (0, 0)) (by (with_reducible repeat (first | refine blk_drewN ?_ _ | refine blk_drew ?_ | refine blk_alloc ?_ _)); exact BK366.out)) : gb366 ≠ gb378)); have n11_ := Aside0.mk ((by rw [hg]; exact Nat.ne_of_gt (blk_lt (g := gb366) (o := .cells #[.int .i64 t361, .int .i64 t362, .slice Ao24 t363.length co24] 30 (0, 0)) (by (with_reducible repeat (first | refine blk_drewN ?_ _ | refine blk_drew ?_ | refine blk_alloc ?_ _)); exact BK366.out)) : gb378 ≠ gb366)); have n12_ := Aside0.mk ((by rw [hg]; exact Nat.ne_of_lt (blk_lt (g := gb372) (o := .cells #[.int .i64 t367, .int .i64 t368, .int .i64 t369, .int .i64 t370] 57 (0, 0)) (by (with_reducible repeat (first | refine blk_drewN ?_ _ | refine blk_drew ?_ | refine blk_alloc ?_ _)); exact BK372.out)) : gb372 ≠ gb378)); have n13_ := Aside0.mk ((by rw [hg]; exact Nat.ne_of_gt (blk_lt (g := gb372) (o := .cells #[.int .i64 t367, .int .i64 t368, .int .i64 t369, .int .i64 t370] 57 (0, 0)) (by (with_reducible repeat (first | refine blk_drewN ?_ _ | refine blk_drew ?_ | refine blk_alloc ?_ _)); exact BK372.out)) : gb378 ≠ gb372)); clear HO365; clear BK358; clear BK366; clear BK372; clear HB; have HO365 := n0_; have BK358 := n1_; have BK366 := n2_; have BK372 := n3_; have HB := n4_; have BK378 := n5_; have GW378 := n6_; have GE378 := n7_; have NB358_378 := n8_; have NB378_358 := n9_; have NB366_378 := n10_; have NB378_366 := n11_; have NB372_378 := n12_; have NB378_372 := n13_; clear n0_ n1_ n2_ n3_ n4_ n5_ n6_ n7_ n8_ n9_ n10_ n11_ n12_ n13_; clear hb hbox hg; have hnb34 := NB378_358.out; have hnc34 := NB358_378.out; have hnb35 := NB378_366.out; have hnc35 := NB366_378.out; have hnb36 := NB378_372.out; have hnc36 := NB372_378.out; have hcz37_0 : w33.cell? ⟨gb378, 0, none⟩ = some (.int .i64 0) := (blk_cell BK378.out 0).trans rfl; have hcz37_1 : w33.cell? ⟨gb378, 1, none⟩ = some (.int .i64 0) := (blk_cell BK378.out 1).trans rfl; have hcz37_2 : w33.cell? ⟨gb378, 2, none⟩ = some (.int .i64 0) := (blk_cell BK378.out 2).trans rfl; have hcz37_3 : w33.cell? ⟨gb378, 3, none⟩ = some (.int .i64 0) := (blk_cell BK378.out 3).trans rfl; have hfz37_0 := blk_frozen BK378.out 0; have hfz37_1 := blk_frozen BK378.out 1; have hfz37_2 := blk_frozen BK378.out 2; have hfz37_3 := blk_frozen BK378.out 3))
 (try simp only [Act.put, List.setIfInBounds_toArray, List.set_cons_zero, List.set_cons_succ])
 go_cut [52] (fun v52 wc => ∃ (kq : Nat) (x52_17 : Bool), v52 = .bool x52_17 ∧ Aside0 (splicelaw08_ChartOwners.j1 kq l2 x52_17 a0_0 a0_1 l0_2 t361 t362 t363 = some r) ∧ Aside0 (kq ≤ kj3) ∧ Aside0 (Kd.R k82 82 wc w.heap.size (fun _ => True) (.slice Ao24 t363.length co24) t363) ∧ Aside0 (wc.heap[gb358]? = some (.cells #[.int .i64 a0_0, .int .i64 a0_1, (.slice A0_2 l0_2.length c0_2)] 24 (0, 0))) ∧ Aside0 (wc.heap[gb366]? = some (.cells #[.int .i64 t361, .int .i64 t362, (.slice Ao24 t363.length co24)] 30 (0, 0))) ∧ Aside0 (wc.heap[gb372]? = some (.cells #[.int .i64 t367, .int .i64 t368, .int .i64 t369, .int .i64 t370] 57 (0, 0))) ∧ Aside0 (wc.heap[gb378]? = some (.cells #[.int .i64 t373, .int .i64 t374, .int .i64 t375, .int .i64 t376] 57 (0, 0))) ∧ Aside0 (Below w.heap.size w wc))
 case first =>
   have H := HC18.out
   clear HC18
   replace H := Option.bind_eq_some_iff.mp H
   obtain ⟨t379, A380, H⟩ := H
   replace H : ((splicelaw08_one.f kj3 t367 t368 t369 t370 t371 t361 t362 t363 t379).bind fun t380 => (if t380 = true then ((spliceref08_Find.f kj3 t361 t362 t363 a1).bind fun t381 => ((splicelaw08_one.f kj3 t373 t374 t375 t376 t377 t361 t362 t363 t381).bind fun t382 => (splicelaw08_ChartOwners.j1 kj3 l2 (!t382) a0_0 a0_1 l0_2 t361 t362 t363))) else (splicelaw08_ChartOwners.j1 kj3 l2 true a0_0 a0_1 l0_2 t361 t362 t363))) = some r := H
   have A38 := Aside0.mk A380
   clear A380
   replace H := Option.bind_eq_some_iff.mp H
   obtain ⟨t380, A390, H⟩ := H
   replace H : (if t380 = true then ((spliceref08_Find.f kj3 t361 t362 t363 a1).bind fun t381 => ((splicelaw08_one.f kj3 t373 t374 t375 t376 t377 t361 t362 t363 t381).bind fun t382 => (splicelaw08_ChartOwners.j1 kj3 l2 (!t382) a0_0 a0_1 l0_2 t361 t362 t363))) else (splicelaw08_ChartOwners.j1 kj3 l2 true a0_0 a0_1 l0_2 t361 t362 t363)) = some r := H
   have A39 := Aside0.mk A390
   clear A390
   by_cases c40 : t380 = true
   rotate_left
   · replace c40 := Bool.eq_false_iff.mpr c40
     subst c40
     have H1 : (splicelaw08_ChartOwners.j1 kj3 l2 true a0_0 a0_1 l0_2 t361 t362 t363) = some r := by rw [if_neg (show ¬ (false = true) by decide)] at H; exact H
     clear H
     have H := H1
     clear H1
     have H' := Aside0.mk H
     clear H
     try go_wp2
     have n0_ : Aside0 (Kd.R k82 82 ((((w33.setCell ⟨gb378, 0, none⟩ (.int .i64 t373)).setCell ⟨gb378, 1, none⟩ (.int .i64 t374)).setCell ⟨gb378, 2, none⟩ (.int .i64 t375)).setCell ⟨gb378, 3, none⟩ (.int .i64 t376)) w.heap.size (fun _ => True) (.slice Ao24 t363.length co24) t363) := ⟨by (with_reducible repeat (first | apply Kd.R_alloc | apply Kd.R_drewN | apply Kd.R_drew)); exact Kd.R_mono (Kd.R_far (p := ⟨gb378, 3, none⟩) (Kd.R_far (p := ⟨gb378, 2, none⟩) (Kd.R_far (p := ⟨gb378, 1, none⟩) (Kd.R_far (p := ⟨gb378, 0, none⟩) (Kd.R_types HO365.out BK378.out (by decide)) (fun _ hk => hk.2) (.int .i64 t373)) (fun _ hk => hk.2) (.int .i64 t374)) (fun _ hk => hk.2) (.int .i64 t375)) (fun _ hk => hk.2) (.int .i64 t376)) (fun _ hk => trivial)⟩
     have n1_ : Aside0 (((((w33.setCell ⟨gb378, 0, none⟩ (.int .i64 t373)).setCell ⟨gb378, 1, none⟩ (.int .i64 t374)).setCell ⟨gb378, 2, none⟩ (.int .i64 t375)).setCell ⟨gb378, 3, none⟩ (.int .i64 t376)).heap[gb358]? = some (.cells #[.int .i64 a0_0, .int .i64 a0_1, .slice A0_2 l0_2.length c0_2] 24 (0, 0))) := ⟨by (with_reducible repeat (first | refine blk_drewN ?_ _ | refine blk_drew ?_ | refine blk_alloc ?_ _)); refine blk_far ?_ NB358_378.out _; (with_reducible repeat (first | refine blk_drewN ?_ _ | refine blk_drew ?_ | refine blk_alloc ?_ _)); refine blk_far ?_ NB358_378.out _; (with_reducible repeat (first | refine blk_drewN ?_ _ | refine blk_drew ?_ | refine blk_alloc ?_ _)); refine blk_far ?_ NB358_378.out _; (with_reducible repeat (first | refine blk_drewN ?_ _ | refine blk_drew ?_ | refine blk_alloc ?_ _)); refine blk_far ?_ NB358_378.out _; (with_reducible repeat (first | refine blk_drewN ?_ _ | refine blk_drew ?_ | refine blk_alloc ?_ _)); exact BK358.out⟩
     have n2_ : Aside0 (((((w33.setCell ⟨gb378, 0, none⟩ (.int .i64 t373)).setCell ⟨gb378, 1, none⟩ (.int .i64 t374)).setCell ⟨gb378, 2, none⟩ (.int .i64 t375)).setCell ⟨gb378, 3, none⟩ (.int .i64 t376)).heap[gb366]? = some (.cells #[.int .i64 t361, .int .i64 t362, .slice Ao24 t363.length co24] 30 (0, 0))) := ⟨by (with_reducible repeat (first | refine blk_drewN ?_ _ | refine blk_drew ?_ | refine blk_alloc ?_ _)); refine blk_far ?_ NB366_378.out _; (with_reducible repeat (first | refine blk_drewN ?_ _ | refine blk_drew ?_ | refine blk_alloc ?_ _)); refine blk_far ?_ NB366_378.out _; (with_reducible repeat (first | refine blk_drewN ?_ _ | refine blk_drew ?_ | refine blk_alloc ?_ _)); refine blk_far ?_ NB366_378.out _; (with_reducible repeat (first | refine blk_drewN ?_ _ | refine blk_drew ?_ | refine blk_alloc ?_ _)); refine blk_far ?_ NB366_378.out _; (with_reducible repeat (first | refine blk_drewN ?_ _ | refine blk_drew ?_ | refine blk_alloc ?_ _)); exact BK366.out⟩
     have n3_ : Aside0 (((((w33.setCell ⟨gb378, 0, none⟩ (.int .i64 t373)).setCell ⟨gb378, 1, none⟩ (.int .i64 t374)).setCell ⟨gb378, 2, none⟩ (.int .i64 t375)).setCell ⟨gb378, 3, none⟩ (.int .i64 t376)).heap[gb372]? = some (.cells #[.int .i64 t367, .int .i64 t368, .int .i64 t369, .int .i64 t370] 57 (0, 0))) := ⟨by (with_reducible repeat (first | refine blk_drewN ?_ _ | refine blk_drew ?_ | refine blk_alloc ?_ _)); refine blk_far ?_ NB372_378.out _; (with_reducible repeat (first | refine blk_drewN ?_ _ | refine blk_drew ?_ | refine blk_alloc ?_ _)); refine blk_far ?_ NB372_378.out _; (with_reducible repeat (first | refine blk_drewN ?_ _ | refine blk_drew ?_ | refine blk_alloc ?_ _)); refine blk_far ?_ NB372_378.out _; (with_reducible repeat (first | refine blk_drewN ?_ _ | refine blk_drew ?_ | refine blk_alloc ?_ _)); refine blk_far ?_ NB372_378.out _; (with_reducible repeat (first | refine blk_drewN ?_ _ | refine blk_drew ?_ | refine blk_alloc ?_ _)); exact BK372.out⟩
     have n4_ : Aside0 (((((w33.setCell ⟨gb378, 0, none⟩ (.int .i64 t373)).setCell ⟨gb378, 1, none⟩ (.int .i64 t374)).setCell ⟨gb378, 2, none⟩ (.int .i64 t375)).setCell ⟨gb378, 3, none⟩ (.int .i64 t376)).heap[gb378]? = some (.cells #[.int .i64 t373, .int .i64 t374, .int .i64 t375, .int .i64 t376] 57 (0, 0))) := ⟨by (with_reducible repeat (first | refine blk_drewN ?_ _ | refine blk_drew ?_ | refine blk_alloc ?_ _)); refine blk_put (cs := #[.int .i64 t373, .int .i64 t374, .int .i64 t375, .int .i64 0]) ?_ 3 _ rfl; (with_reducible repeat (first | refine blk_drewN ?_ _ | refine blk_drew ?_ | refine blk_alloc ?_ _)); refine blk_put (cs := #[.int .i64 t373, .int .i64 t374, .int .i64 0, .int .i64 0]) ?_ 2 _ rfl; (with_reducible repeat (first | refine blk_drewN ?_ _ | refine blk_drew ?_ | refine blk_alloc ?_ _)); refine blk_put (cs := #[.int .i64 t373, .int .i64 0, .int .i64 0, .int .i64 0]) ?_ 1 _ rfl; (with_reducible repeat (first | refine blk_drewN ?_ _ | refine blk_drew ?_ | refine blk_alloc ?_ _)); refine blk_put (cs := #[.int .i64 0, .int .i64 0, .int .i64 0, .int .i64 0]) ?_ 0 _ rfl; (with_reducible repeat (first | refine blk_drewN ?_ _ | refine blk_drew ?_ | refine blk_alloc ?_ _)); exact BK378.out⟩
     have n5_ : Aside0 (Below w.heap.size w ((((w33.setCell ⟨gb378, 0, none⟩ (.int .i64 t373)).setCell ⟨gb378, 1, none⟩ (.int .i64 t374)).setCell ⟨gb378, 2, none⟩ (.int .i64 t375)).setCell ⟨gb378, 3, none⟩ (.int .i64 t376))) := ⟨by repeat (first | (with_reducible first | exact HB.out | apply below_alloc | apply pw_below_drewN | apply below_drew1 | refine below_set ?_ GE358.out | refine below_set ?_ GE366.out | refine below_set ?_ GE372.out | refine below_set ?_ GE378.out) | exact HB.out)⟩
     (try clear HO365)
     (try clear BK358)
     (try clear BK366)
     (try clear BK372)
     (try clear BK378)
     (try clear HB)
     generalize ((((w33.setCell ⟨gb378, 0, none⟩ (.int .i64 t373)).setCell ⟨gb378, 1, none⟩ (.int .i64 t374)).setCell ⟨gb378, 2, none⟩ (.int .i64 t375)).setCell ⟨gb378, 3, none⟩ (.int .i64 t376)) = w49 at n0_ n1_ n2_ n3_ n4_ n5_ ⊢
     have HO365 := n0_
     have BK358 := n1_
     have BK366 := n2_
     have BK372 := n3_
     have BK378 := n4_
     have HB := n5_
     clear n0_ n1_ n2_ n3_ n4_ n5_
     have n0_ := Aside0.mk (Kd.R_drew HO365.out)
     have n1_ := Aside0.mk (blk_drew BK358.out)
     have n2_ := Aside0.mk (blk_drew BK366.out)
     have n3_ := Aside0.mk (blk_drew BK372.out)
     have n4_ := Aside0.mk (blk_drew BK378.out)
     have n5_ := Aside0.mk (below_drew1 HB.out)
     clear HO365; clear BK358; clear BK366; clear BK372; clear BK378; clear HB
     have HO365 := n0_
     have BK358 := n1_
     have BK366 := n2_
     have BK372 := n3_
     have BK378 := n4_
     have HB := n5_
     clear n0_ n1_ n2_ n3_ n4_ n5_
     refine start_ (n := 18) (S := fun w' => w'.cell? ⟨gb372, 0, none⟩ = some (.int .i64 t367) ∧ w'.cell? ⟨gb372, 1, none⟩ = some (.int .i64 t368) ∧ w'.cell? ⟨gb372, 2, none⟩ = some (.int .i64 t369) ∧ w'.cell? ⟨gb372, 3, none⟩ = some (.int .i64 t370) ∧ w'.cell? ⟨gb366, 0, none⟩ = some (.int .i64 t361) ∧ w'.cell? ⟨gb366, 1, none⟩ = some (.int .i64 t362) ∧ w'.cell? ⟨gb366, 2, none⟩ = some (.slice Ao24 t363.length co24)) (ds := []) #[false, false, false, false, false, false, false, false, false, false, false, false, false, false, false, false, false, false] (by kernel_rfl) rfl rfl ⟨(blk_cell BK372.out 0).trans rfl, (blk_cell BK372.out 1).trans rfl, (blk_cell BK372.out 2).trans rfl, (blk_cell BK372.out 3).trans rfl, (blk_cell BK366.out 0).trans rfl, (blk_cell BK366.out 1).trans rfl, (blk_cell BK366.out 2).trans rfl⟩ (fun hHeld => ?_); refine with_tabW splicelaw08_ChartOwners.tab6 splicelaw08_ChartOwners.bits6 (fun HT_ HW_ => ?_)
     generalize w49.drew = w50 at HO365 BK358 BK366 BK372 BK378 HB hHeld ⊢
     refine pure_ (i := 1) (N := some 36) (v := ?_) (a' := ?_) #[false, true, false, false, false, false, false, false, false, false, false, false, false, false, false, false, false, false] rfl rfl (any_of HT_.out (by kernel_rfl)) (fun _ _ _ h => h) (Or.inl ⟨by rfl, ?_⟩) ?_ ?_
     rotate_left
     · intro w'; go_simp; with_reducible rfl
     rotate_left
     · simp only [Act.put, List.setIfInBounds_toArray, List.set_cons_zero, List.set_cons_succ, i64_w, i32_w]; rfl
     refine pure_ (i := 4) (N := some 39) (v := ?_) (a' := ?_) #[false, true, false, false, true, false, false, false, false, false, false, false, false, false, false, false, false, false] rfl rfl (any_of HT_.out (by kernel_rfl)) (fun _ _ _ h => h) (Or.inl ⟨by rfl, ?_⟩) ?_ ?_
     rotate_left
     · intro w'; go_simp; with_reducible rfl
     rotate_left
     · simp only [Act.put, List.setIfInBounds_toArray, List.set_cons_zero, List.set_cons_succ, i64_w, i32_w]; rfl
     refine take_ (i := 0) (N := some 35) (v := ?_) (a' := ?_) #[true, true, false, false, true, false, false, false, false, false, false, false, false, false, false, false, false, false] rfl rfl (take_ofW HT_.out HW_.out (by kernel_rfl)) (fun _ _ _ h => h) (Or.inl ⟨by rfl, ?_⟩) hHeld ?_ ?_
     rotate_left
     · rintro w' ⟨s0, s1, s2, s3, s4, s5, s6⟩
       go_simp; with_reducible rfl
     rotate_left
     · simp only [Act.put, List.setIfInBounds_toArray, List.set_cons_zero, List.set_cons_succ, i64_w, i32_w]; rfl
     refine take_ (i := 2) (N := some 37) (v := ?_) (a' := ?_) #[true, true, true, false, true, false, false, false, false, false, false, false, false, false, false, false, false, false] rfl rfl (take_ofW HT_.out HW_.out (by kernel_rfl)) (fun _ _ _ h => h) (Or.inl ⟨by rfl, ?_⟩) hHeld ?_ ?_
     rotate_left
     · rintro w' ⟨s0, s1, s2, s3, s4, s5, s6⟩
       go_simp; with_reducible rfl
     rotate_left
     · simp only [Act.put, List.setIfInBounds_toArray, List.set_cons_zero, List.set_cons_succ, i64_w, i32_w]; rfl
     refine take_ (i := 3) (N := some 38) (v := ?_) (a' := ?_) #[true, true, true, true, true, false, false, false, false, false, false, false, false, false, false, false, false, false] rfl rfl (take_ofW HT_.out HW_.out (by kernel_rfl)) (fun _ _ _ h => h) (Or.inl ⟨by rfl, ?_⟩) hHeld ?_ ?_
     rotate_left
     · rintro w' ⟨s0, s1, s2, s3, s4, s5, s6⟩
       go_simp; with_reducible rfl
     rotate_left
     · simp only [Act.put, List.setIfInBounds_toArray, List.set_cons_zero, List.set_cons_succ, i64_w, i32_w]; rfl
     refine one_ (i := 5) (N := some 40) #[true, true, true, true, true, true, false, false, false, false, false, false, false, false, false, false, false, false] rfl rfl (one_of HT_.out (by kernel_rfl)) (by decide) (fun K hK => ?_)
     refine goes_ Try.func27 (by kernel_rfl) rfl #[.agg #[.int .i64 t361, .int .i64 t362, .slice Ao24 t363.length co24], .int .i64 a1] (by rfl) rfl rfl (by (try simp only [List.map_toArray, List.map_cons, List.map_nil]); first | done | rfl | (simp only [List.length_drop, List.length_take]; rfl)) ?_
     with_reducible refine (spliceref08_Owner.calls kj3 t361 t362 _ _ t363 a1 t379 _ ?side1 ?side2 A38.out).mono ?_
     (case side1 => repeat (first | exact (Kd.R_reads' HO365.out).2.2 | (with_reducible refine Kd.C_alloc ?_ _) | (with_reducible refine Kd.C_drewN ?_ _) | (with_reducible refine Kd.C_drew ?_)))
     (case side2 => exact (Kd.R_reads' HO365.out).2.1)
     rintro e w51 ⟨rfl, hb⟩
     refine ⟨_, rfl, ?_⟩
     have n0_ := Aside0.mk (Kd.R_below (by (with_reducible repeat (first | apply Kd.R_alloc | apply Kd.R_drewN | apply Kd.R_drew)); exact HO365.out) hb)
     have n1_ := Aside0.mk (blk_below (g := gb358) (o := .cells #[.int .i64 a0_0, .int .i64 a0_1, .slice A0_2 l0_2.length c0_2] 24 (0, 0)) (by (with_reducible repeat (first | refine blk_drewN ?_ _ | refine blk_drew ?_ | refine blk_alloc ?_ _)); exact BK358.out) hb)
     have n2_ := Aside0.mk (blk_below (g := gb366) (o := .cells #[.int .i64 t361, .int .i64 t362, .slice Ao24 t363.length co24] 30 (0, 0)) (by (with_reducible repeat (first | refine blk_drewN ?_ _ | refine blk_drew ?_ | refine blk_alloc ?_ _)); exact BK366.out) hb)
     have n3_ := Aside0.mk (blk_below (g := gb372) (o := .cells #[.int .i64 t367, .int .i64 t368, .int .i64 t369, .int .i64 t370] 57 (0, 0)) (by (with_reducible repeat (first | refine blk_drewN ?_ _ | refine blk_drew ?_ | refine blk_alloc ?_ _)); exact BK372.out) hb)
     have n4_ := Aside0.mk (blk_below (g := gb378) (o := .cells #[.int .i64 t373, .int .i64 t374, .int .i64 t375, .int .i64 t376] 57 (0, 0)) (by (with_reducible repeat (first | refine blk_drewN ?_ _ | refine blk_drew ?_ | refine blk_alloc ?_ _)); exact BK378.out) hb)
     have n5_ := Aside0.mk (below_step (by repeat (first | (with_reducible first | exact HB.out | apply below_alloc | apply pw_below_drewN | apply below_drew1 | refine below_set ?_ GE358.out | refine below_set ?_ GE366.out | refine below_set ?_ GE372.out | refine below_set ?_ GE378.out) | exact HB.out)) hb)
     clear HO365; clear BK358; clear BK366; clear BK372; clear BK378; clear HB
     have HO365 := n0_
     have BK358 := n1_
     have BK366 := n2_
     have BK372 := n3_
     have BK378 := n4_
     have HB := n5_
     clear n0_ n1_ n2_ n3_ n4_ n5_
     (try clear hb)
     (try clear hb2)
     (try clear hk)
     (try clear hi)
     refine hK.out _ _ ⟨(blk_cell BK372.out 0).trans rfl, (blk_cell BK372.out 1).trans rfl, (blk_cell BK372.out 2).trans rfl, (blk_cell BK372.out 3).trans rfl, (blk_cell BK366.out 0).trans rfl, (blk_cell BK366.out 1).trans rfl, (blk_cell BK366.out 2).trans rfl⟩ (fun hHeld => ?_)
     clear hK K
     refine norm_ (a' := ?_) ?_ ?_
     rotate_left
     · show Act.put _ (some 40) _ = _
       simp only [Act.put, List.setIfInBounds_toArray, List.set_cons_zero, List.set_cons_succ, i64_w, i32_w]; rfl
     refine one_ (i := 6) (N := some 41) #[true, true, true, true, true, true, true, false, false, false, false, false, false, false, false, false, false, false] rfl rfl (one_of HT_.out (by kernel_rfl)) (by decide) (fun K hK => ?_)
     refine goes_ Try.func26 (by kernel_rfl) rfl #[.agg #[.int .i64 t367, .int .i64 t368, .int .i64 t369, .int .i64 t370], .bool t371, .agg #[.int .i64 t361, .int .i64 t362, .slice Ao24 t363.length co24], .int .i64 t379] (by rfl) rfl rfl (by (try simp only [List.map_toArray, List.map_cons, List.map_nil]); first | done | rfl | (simp only [List.length_drop, List.length_take]; rfl)) ?_
     with_reducible refine (splicelaw08_one.calls kj3 t367 t368 t369 t370 t371 t361 t362 _ _ t363 t379 false _ ?side1 ?side2 A39.out).mono ?_
     (case side1 => repeat (first | exact (Kd.R_reads' HO365.out).2.2 | (with_reducible refine Kd.C_alloc ?_ _) | (with_reducible refine Kd.C_drewN ?_ _) | (with_reducible refine Kd.C_drew ?_)))
     (case side2 => exact (Kd.R_reads' HO365.out).2.1)
     rintro e w52 ⟨rfl, hb⟩
     refine ⟨_, rfl, ?_⟩
     have n0_ := Aside0.mk (Kd.R_below (by (with_reducible repeat (first | apply Kd.R_alloc | apply Kd.R_drewN | apply Kd.R_drew)); exact HO365.out) hb)
     have n1_ := Aside0.mk (blk_below (g := gb358) (o := .cells #[.int .i64 a0_0, .int .i64 a0_1, .slice A0_2 l0_2.length c0_2] 24 (0, 0)) (by (with_reducible repeat (first | refine blk_drewN ?_ _ | refine blk_drew ?_ | refine blk_alloc ?_ _)); exact BK358.out) hb)
     have n2_ := Aside0.mk (blk_below (g := gb366) (o := .cells #[.int .i64 t361, .int .i64 t362, .slice Ao24 t363.length co24] 30 (0, 0)) (by (with_reducible repeat (first | refine blk_drewN ?_ _ | refine blk_drew ?_ | refine blk_alloc ?_ _)); exact BK366.out) hb)
     have n3_ := Aside0.mk (blk_below (g := gb372) (o := .cells #[.int .i64 t367, .int .i64 t368, .int .i64 t369, .int .i64 t370] 57 (0, 0)) (by (with_reducible repeat (first | refine blk_drewN ?_ _ | refine blk_drew ?_ | refine blk_alloc ?_ _)); exact BK372.out) hb)
     have n4_ := Aside0.mk (blk_below (g := gb378) (o := .cells #[.int .i64 t373, .int .i64 t374, .int .i64 t375, .int .i64 t376] 57 (0, 0)) (by (with_reducible repeat (first | refine blk_drewN ?_ _ | refine blk_drew ?_ | refine blk_alloc ?_ _)); exact BK378.out) hb)
     have n5_ := Aside0.mk (below_step (by repeat (first | (with_reducible first | exact HB.out | apply below_alloc | apply pw_below_drewN | apply below_drew1 | refine below_set ?_ GE358.out | refine below_set ?_ GE366.out | refine below_set ?_ GE372.out | refine below_set ?_ GE378.out) | exact HB.out)) hb)
     clear HO365; clear BK358; clear BK366; clear BK372; clear BK378; clear HB
     have HO365 := n0_
     have BK358 := n1_
     have BK366 := n2_
     have BK372 := n3_
     have BK378 := n4_
     have HB := n5_
     clear n0_ n1_ n2_ n3_ n4_ n5_
     (try clear hb)
     (try clear hb2)
     (try clear hk)
     (try clear hi)
     refine hK.out _ _ ⟨(blk_cell BK372.out 0).trans rfl, (blk_cell BK372.out 1).trans rfl, (blk_cell BK372.out 2).trans rfl, (blk_cell BK372.out 3).trans rfl, (blk_cell BK366.out 0).trans rfl, (blk_cell BK366.out 1).trans rfl, (blk_cell BK366.out 2).trans rfl⟩ (fun hHeld => ?_)
     clear hK K
     refine norm_ (a' := ?_) ?_ ?_
     rotate_left
     · show Act.put _ (some 41) _ = _
       simp only [Act.put, List.setIfInBounds_toArray, List.set_cons_zero, List.set_cons_succ, i64_w, i32_w]; rfl
     refine pure_ (i := 7) (N := some 42) (v := ?_) (a' := ?_) #[true, true, true, true, true, true, true, true, false, false, false, false, false, false, false, false, false, false] rfl rfl (any_of HT_.out (by kernel_rfl)) (fun _ _ _ h => h) (Or.inl ⟨by rfl, ?_⟩) ?_ ?_
     rotate_left
     · intro w'; go_simp; with_reducible rfl
     rotate_left
     · simp only [Act.put, List.setIfInBounds_toArray, List.set_cons_zero, List.set_cons_succ, i64_w, i32_w]; rfl
     refine pure_ (i := 8) (N := some 43) (v := ?_) (a' := ?_) #[true, true, true, true, true, true, true, true, true, false, false, false, false, false, false, false, false, false] rfl rfl (any_of HT_.out (by kernel_rfl)) (fun _ _ _ h => h) (Or.inl ⟨by rfl, ?_⟩) ?_ ?_
     rotate_left
     · intro w'; go_simp; with_reducible rfl
     rotate_left
     · simp only [Act.put, List.setIfInBounds_toArray, List.set_cons_zero, List.set_cons_succ, i64_w, i32_w]; rfl
     refine pure_ (i := 9) (N := some 44) (v := undef) (a' := ?_) #[true, true, true, true, true, true, true, true, true, true, false, false, false, false, false, false, false, false] rfl rfl (any_of HT_.out (by kernel_rfl)) (fun _ _ _ h => h) (Or.inr ⟨by rfl, rfl⟩) ?_ ?_
     rotate_left
     · simp only [Act.put, List.setIfInBounds_toArray, List.set_cons_zero, List.set_cons_succ, i64_w, i32_w]; rfl
     refine pure_ (i := 10) (N := some 45) (v := undef) (a' := ?_) #[true, true, true, true, true, true, true, true, true, true, true, false, false, false, false, false, false, false] rfl rfl (any_of HT_.out (by kernel_rfl)) (fun _ _ _ h => h) (Or.inr ⟨by rfl, rfl⟩) ?_ ?_
     rotate_left
     · simp only [Act.put, List.setIfInBounds_toArray, List.set_cons_zero, List.set_cons_succ, i64_w, i32_w]; rfl
     refine pure_ (i := 11) (N := some 46) (v := undef) (a' := ?_) #[true, true, true, true, true, true, true, true, true, true, true, true, false, false, false, false, false, false] rfl rfl (any_of HT_.out (by kernel_rfl)) (fun _ _ _ h => h) (Or.inr ⟨by rfl, rfl⟩) ?_ ?_
     rotate_left
     · simp only [Act.put, List.setIfInBounds_toArray, List.set_cons_zero, List.set_cons_succ, i64_w, i32_w]; rfl
     refine pure_ (i := 12) (N := some 47) (v := undef) (a' := ?_) #[true, true, true, true, true, true, true, true, true, true, true, true, true, false, false, false, false, false] rfl rfl (any_of HT_.out (by kernel_rfl)) (fun _ _ _ h => h) (Or.inr ⟨by rfl, rfl⟩) ?_ ?_
     rotate_left
     · simp only [Act.put, List.setIfInBounds_toArray, List.set_cons_zero, List.set_cons_succ, i64_w, i32_w]; rfl
     refine pure_ (i := 13) (N := some 48) (v := undef) (a' := ?_) #[true, true, true, true, true, true, true, true, true, true, true, true, true, true, false, false, false, false] rfl rfl (any_of HT_.out (by kernel_rfl)) (fun _ _ _ h => h) (Or.inr ⟨by rfl, rfl⟩) ?_ ?_
     rotate_left
     · simp only [Act.put, List.setIfInBounds_toArray, List.set_cons_zero, List.set_cons_succ, i64_w, i32_w]; rfl
     refine pure_ (i := 14) (N := some 49) (v := undef) (a' := ?_) #[true, true, true, true, true, true, true, true, true, true, true, true, true, true, true, false, false, false] rfl rfl (any_of HT_.out (by kernel_rfl)) (fun _ _ _ h => h) (Or.inr ⟨by rfl, rfl⟩) ?_ ?_
     rotate_left
     · simp only [Act.put, List.setIfInBounds_toArray, List.set_cons_zero, List.set_cons_succ, i64_w, i32_w]; rfl
     refine pure_ (i := 15) (N := some 50) (v := undef) (a' := ?_) #[true, true, true, true, true, true, true, true, true, true, true, true, true, true, true, true, false, false] rfl rfl (any_of HT_.out (by kernel_rfl)) (fun _ _ _ h => h) (Or.inr ⟨by rfl, rfl⟩) ?_ ?_
     rotate_left
     · simp only [Act.put, List.setIfInBounds_toArray, List.set_cons_zero, List.set_cons_succ, i64_w, i32_w]; rfl
     refine pure_ (i := 16) (N := some 51) (v := undef) (a' := ?_) #[true, true, true, true, true, true, true, true, true, true, true, true, true, true, true, true, true, false] rfl rfl (any_of HT_.out (by kernel_rfl)) (fun _ _ _ h => h) (Or.inr ⟨by rfl, rfl⟩) ?_ ?_
     rotate_left
     · simp only [Act.put, List.setIfInBounds_toArray, List.set_cons_zero, List.set_cons_succ, i64_w, i32_w]; rfl
     refine pure_ (i := 17) (N := some 52) (v := ?_) (a' := ?_) #[true, true, true, true, true, true, true, true, true, true, true, true, true, true, true, true, true, true] rfl rfl (any_of HT_.out (by kernel_rfl)) (fun _ _ _ h => h) (Or.inl ⟨by rfl, ?_⟩) ?_ ?_
     rotate_left
     · intro w'; go_simp; with_reducible rfl
     rotate_left
     · simp only [Act.put, List.setIfInBounds_toArray, List.set_cons_zero, List.set_cons_succ, i64_w, i32_w]; rfl
     refine done_ (done_of HT_.out (by kernel_rfl)) ?_
     try go_wp2
     go_meet
     case rel => exact ⟨_, (true), (by first | rfl | (simp; done) | (simp [*]; done)), H', ⟨by have := HJ3.out; first | omega | exact Nat.le_refl _⟩, ⟨by (with_reducible repeat (first | apply Kd.R_alloc | apply Kd.R_drewN | apply Kd.R_drew)); exact HO365.out⟩, ⟨by (with_reducible repeat (first | refine blk_drewN ?_ _ | refine blk_drew ?_ | refine blk_alloc ?_ _)); exact BK358.out⟩, ⟨by (with_reducible repeat (first | refine blk_drewN ?_ _ | refine blk_drew ?_ | refine blk_alloc ?_ _)); exact BK366.out⟩, ⟨by (with_reducible repeat (first | refine blk_drewN ?_ _ | refine blk_drew ?_ | refine blk_alloc ?_ _)); exact BK372.out⟩, ⟨by (with_reducible repeat (first | refine blk_drewN ?_ _ | refine blk_drew ?_ | refine blk_alloc ?_ _)); exact BK378.out⟩, ⟨by repeat (first | (with_reducible first | exact HB.out | apply below_alloc | apply pw_below_drewN | apply below_drew1 | refine below_set ?_ GE358.out | refine below_set ?_ GE366.out | refine below_set ?_ GE372.out | refine below_set ?_ GE378.out) | exact HB.out)⟩⟩
   subst c40
   have H1 : ((spliceref08_Find.f kj3 t361 t362 t363 a1).bind fun t381 => ((splicelaw08_one.f kj3 t373 t374 t375 t376 t377 t361 t362 t363 t381).bind fun t382 => (splicelaw08_ChartOwners.j1 kj3 l2 (!t382) a0_0 a0_1 l0_2 t361 t362 t363))) = some r := by rw [if_pos rfl] at H; exact H
   clear H
   have H := H1
   clear H1
   replace H := Option.bind_eq_some_iff.mp H
   obtain ⟨t381, A410, H⟩ := H
   replace H : ((splicelaw08_one.f kj3 t373 t374 t375 t376 t377 t361 t362 t363 t381).bind fun t382 => (splicelaw08_ChartOwners.j1 kj3 l2 (!t382) a0_0 a0_1 l0_2 t361 t362 t363)) = some r := H
   have A41 := Aside0.mk A410
   clear A410
   replace H := Option.bind_eq_some_iff.mp H
   obtain ⟨t382, A420, H⟩ := H
   replace H : (splicelaw08_ChartOwners.j1 kj3 l2 (!t382) a0_0 a0_1 l0_2 t361 t362 t363) = some r := H
   have A42 := Aside0.mk A420
   clear A420
   have H' := Aside0.mk H
   clear H
   try go_wp2
   have n0_ : Aside0 (Kd.R k82 82 ((((w33.setCell ⟨gb378, 0, none⟩ (.int .i64 t373)).setCell ⟨gb378, 1, none⟩ (.int .i64 t374)).setCell ⟨gb378, 2, none⟩ (.int .i64 t375)).setCell ⟨gb378, 3, none⟩ (.int .i64 t376)) w.heap.size (fun _ => True) (.slice Ao24 t363.length co24) t363) := ⟨by (with_reducible repeat (first | apply Kd.R_alloc | apply Kd.R_drewN | apply Kd.R_drew)); exact Kd.R_mono (Kd.R_far (p := ⟨gb378, 3, none⟩) (Kd.R_far (p := ⟨gb378, 2, none⟩) (Kd.R_far (p := ⟨gb378, 1, none⟩) (Kd.R_far (p := ⟨gb378, 0, none⟩) (Kd.R_types HO365.out BK378.out (by decide)) (fun _ hk => hk.2) (.int .i64 t373)) (fun _ hk => hk.2) (.int .i64 t374)) (fun _ hk => hk.2) (.int .i64 t375)) (fun _ hk => hk.2) (.int .i64 t376)) (fun _ hk => trivial)⟩
   have n1_ : Aside0 (((((w33.setCell ⟨gb378, 0, none⟩ (.int .i64 t373)).setCell ⟨gb378, 1, none⟩ (.int .i64 t374)).setCell ⟨gb378, 2, none⟩ (.int .i64 t375)).setCell ⟨gb378, 3, none⟩ (.int .i64 t376)).heap[gb358]? = some (.cells #[.int .i64 a0_0, .int .i64 a0_1, .slice A0_2 l0_2.length c0_2] 24 (0, 0))) := ⟨by (with_reducible repeat (first | refine blk_drewN ?_ _ | refine blk_drew ?_ | refine blk_alloc ?_ _)); refine blk_far ?_ NB358_378.out _; (with_reducible repeat (first | refine blk_drewN ?_ _ | refine blk_drew ?_ | refine blk_alloc ?_ _)); refine blk_far ?_ NB358_378.out _; (with_reducible repeat (first | refine blk_drewN ?_ _ | refine blk_drew ?_ | refine blk_alloc ?_ _)); refine blk_far ?_ NB358_378.out _; (with_reducible repeat (first | refine blk_drewN ?_ _ | refine blk_drew ?_ | refine blk_alloc ?_ _)); refine blk_far ?_ NB358_378.out _; (with_reducible repeat (first | refine blk_drewN ?_ _ | refine blk_drew ?_ | refine blk_alloc ?_ _)); exact BK358.out⟩
   have n2_ : Aside0 (((((w33.setCell ⟨gb378, 0, none⟩ (.int .i64 t373)).setCell ⟨gb378, 1, none⟩ (.int .i64 t374)).setCell ⟨gb378, 2, none⟩ (.int .i64 t375)).setCell ⟨gb378, 3, none⟩ (.int .i64 t376)).heap[gb366]? = some (.cells #[.int .i64 t361, .int .i64 t362, .slice Ao24 t363.length co24] 30 (0, 0))) := ⟨by (with_reducible repeat (first | refine blk_drewN ?_ _ | refine blk_drew ?_ | refine blk_alloc ?_ _)); refine blk_far ?_ NB366_378.out _; (with_reducible repeat (first | refine blk_drewN ?_ _ | refine blk_drew ?_ | refine blk_alloc ?_ _)); refine blk_far ?_ NB366_378.out _; (with_reducible repeat (first | refine blk_drewN ?_ _ | refine blk_drew ?_ | refine blk_alloc ?_ _)); refine blk_far ?_ NB366_378.out _; (with_reducible repeat (first | refine blk_drewN ?_ _ | refine blk_drew ?_ | refine blk_alloc ?_ _)); refine blk_far ?_ NB366_378.out _; (with_reducible repeat (first | refine blk_drewN ?_ _ | refine blk_drew ?_ | refine blk_alloc ?_ _)); exact BK366.out⟩
   have n3_ : Aside0 (((((w33.setCell ⟨gb378, 0, none⟩ (.int .i64 t373)).setCell ⟨gb378, 1, none⟩ (.int .i64 t374)).setCell ⟨gb378, 2, none⟩ (.int .i64 t375)).setCell ⟨gb378, 3, none⟩ (.int .i64 t376)).heap[gb372]? = some (.cells #[.int .i64 t367, .int .i64 t368, .int .i64 t369, .int .i64 t370] 57 (0, 0))) := ⟨by (with_reducible repeat (first | refine blk_drewN ?_ _ | refine blk_drew ?_ | refine blk_alloc ?_ _)); refine blk_far ?_ NB372_378.out _; (with_reducible repeat (first | refine blk_drewN ?_ _ | refine blk_drew ?_ | refine blk_alloc ?_ _)); refine blk_far ?_ NB372_378.out _; (with_reducible repeat (first | refine blk_drewN ?_ _ | refine blk_drew ?_ | refine blk_alloc ?_ _)); refine blk_far ?_ NB372_378.out _; (with_reducible repeat (first | refine blk_drewN ?_ _ | refine blk_drew ?_ | refine blk_alloc ?_ _)); refine blk_far ?_ NB372_378.out _; (with_reducible repeat (first | refine blk_drewN ?_ _ | refine blk_drew ?_ | refine blk_alloc ?_ _)); exact BK372.out⟩
   have n4_ : Aside0 (((((w33.setCell ⟨gb378, 0, none⟩ (.int .i64 t373)).setCell ⟨gb378, 1, none⟩ (.int .i64 t374)).setCell ⟨gb378, 2, none⟩ (.int .i64 t375)).setCell ⟨gb378, 3, none⟩ (.int .i64 t376)).heap[gb378]? = some (.cells #[.int .i64 t373, .int .i64 t374, .int .i64 t375, .int .i64 t376] 57 (0, 0))) := ⟨by (with_reducible repeat (first | refine blk_drewN ?_ _ | refine blk_drew ?_ | refine blk_alloc ?_ _)); refine blk_put (cs := #[.int .i64 t373, .int .i64 t374, .int .i64 t375, .int .i64 0]) ?_ 3 _ rfl; (with_reducible repeat (first | refine blk_drewN ?_ _ | refine blk_drew ?_ | refine blk_alloc ?_ _)); refine blk_put (cs := #[.int .i64 t373, .int .i64 t374, .int .i64 0, .int .i64 0]) ?_ 2 _ rfl; (with_reducible repeat (first | refine blk_drewN ?_ _ | refine blk_drew ?_ | refine blk_alloc ?_ _)); refine blk_put (cs := #[.int .i64 t373, .int .i64 0, .int .i64 0, .int .i64 0]) ?_ 1 _ rfl; (with_reducible repeat (first | refine blk_drewN ?_ _ | refine blk_drew ?_ | refine blk_alloc ?_ _)); refine blk_put (cs := #[.int .i64 0, .int .i64 0, .int .i64 0, .int .i64 0]) ?_ 0 _ rfl; (with_reducible repeat (first | refine blk_drewN ?_ _ | refine blk_drew ?_ | refine blk_alloc ?_ _)); exact BK378.out⟩
   have n5_ : Aside0 (Below w.heap.size w ((((w33.setCell ⟨gb378, 0, none⟩ (.int .i64 t373)).setCell ⟨gb378, 1, none⟩ (.int .i64 t374)).setCell ⟨gb378, 2, none⟩ (.int .i64 t375)).setCell ⟨gb378, 3, none⟩ (.int .i64 t376))) := ⟨by repeat (first | (with_reducible first | exact HB.out | apply below_alloc | apply pw_below_drewN | apply below_drew1 | refine below_set ?_ GE358.out | refine below_set ?_ GE366.out | refine below_set ?_ GE372.out | refine below_set ?_ GE378.out) | exact HB.out)⟩
   (try clear HO365)
   (try clear BK358)
   (try clear BK366)
   (try clear BK372)
   (try clear BK378)
   (try clear HB)
   generalize ((((w33.setCell ⟨gb378, 0, none⟩ (.int .i64 t373)).setCell ⟨gb378, 1, none⟩ (.int .i64 t374)).setCell ⟨gb378, 2, none⟩ (.int .i64 t375)).setCell ⟨gb378, 3, none⟩ (.int .i64 t376)) = w43 at n0_ n1_ n2_ n3_ n4_ n5_ ⊢
   have HO365 := n0_
   have BK358 := n1_
   have BK366 := n2_
   have BK372 := n3_
   have BK378 := n4_
   have HB := n5_
   clear n0_ n1_ n2_ n3_ n4_ n5_
   have n0_ := Aside0.mk (Kd.R_drew HO365.out)
   have n1_ := Aside0.mk (blk_drew BK358.out)
   have n2_ := Aside0.mk (blk_drew BK366.out)
   have n3_ := Aside0.mk (blk_drew BK372.out)
   have n4_ := Aside0.mk (blk_drew BK378.out)
   have n5_ := Aside0.mk (below_drew1 HB.out)
   clear HO365; clear BK358; clear BK366; clear BK372; clear BK378; clear HB
   have HO365 := n0_
   have BK358 := n1_
   have BK366 := n2_
   have BK372 := n3_
   have BK378 := n4_
   have HB := n5_
   clear n0_ n1_ n2_ n3_ n4_ n5_
   refine start_ (n := 18) (S := fun w' => w'.cell? ⟨gb372, 0, none⟩ = some (.int .i64 t367) ∧ w'.cell? ⟨gb372, 1, none⟩ = some (.int .i64 t368) ∧ w'.cell? ⟨gb372, 2, none⟩ = some (.int .i64 t369) ∧ w'.cell? ⟨gb372, 3, none⟩ = some (.int .i64 t370) ∧ w'.cell? ⟨gb366, 0, none⟩ = some (.int .i64 t361) ∧ w'.cell? ⟨gb366, 1, none⟩ = some (.int .i64 t362) ∧ w'.cell? ⟨gb366, 2, none⟩ = some (.slice Ao24 t363.length co24) ∧ w'.cell? ⟨gb378, 0, none⟩ = some (.int .i64 t373) ∧ w'.cell? ⟨gb378, 1, none⟩ = some (.int .i64 t374) ∧ w'.cell? ⟨gb378, 2, none⟩ = some (.int .i64 t375) ∧ w'.cell? ⟨gb378, 3, none⟩ = some (.int .i64 t376)) (ds := []) #[false, false, false, false, false, false, false, false, false, false, false, false, false, false, false, false, false, false] (by kernel_rfl) rfl rfl ⟨(blk_cell BK372.out 0).trans rfl, (blk_cell BK372.out 1).trans rfl, (blk_cell BK372.out 2).trans rfl, (blk_cell BK372.out 3).trans rfl, (blk_cell BK366.out 0).trans rfl, (blk_cell BK366.out 1).trans rfl, (blk_cell BK366.out 2).trans rfl, (blk_cell BK378.out 0).trans rfl, (blk_cell BK378.out 1).trans rfl, (blk_cell BK378.out 2).trans rfl, (blk_cell BK378.out 3).trans rfl⟩ (fun hHeld => ?_); refine with_tabW splicelaw08_ChartOwners.tab6 splicelaw08_ChartOwners.bits6 (fun HT_ HW_ => ?_)
   generalize w43.drew = w44 at HO365 BK358 BK366 BK372 BK378 HB hHeld ⊢
   refine pure_ (i := 1) (N := some 36) (v := ?_) (a' := ?_) #[false, true, false, false, false, false, false, false, false, false, false, false, false, false, false, false, false, false] rfl rfl (any_of HT_.out (by kernel_rfl)) (fun _ _ _ h => h) (Or.inl ⟨by rfl, ?_⟩) ?_ ?_
   rotate_left
   · intro w'; go_simp; with_reducible rfl
   rotate_left
   · simp only [Act.put, List.setIfInBounds_toArray, List.set_cons_zero, List.set_cons_succ, i64_w, i32_w]; rfl
   refine pure_ (i := 4) (N := some 39) (v := ?_) (a' := ?_) #[false, true, false, false, true, false, false, false, false, false, false, false, false, false, false, false, false, false] rfl rfl (any_of HT_.out (by kernel_rfl)) (fun _ _ _ h => h) (Or.inl ⟨by rfl, ?_⟩) ?_ ?_
   rotate_left
   · intro w'; go_simp; with_reducible rfl
   rotate_left
   · simp only [Act.put, List.setIfInBounds_toArray, List.set_cons_zero, List.set_cons_succ, i64_w, i32_w]; rfl
   refine take_ (i := 0) (N := some 35) (v := ?_) (a' := ?_) #[true, true, false, false, true, false, false, false, false, false, false, false, false, false, false, false, false, false] rfl rfl (take_ofW HT_.out HW_.out (by kernel_rfl)) (fun _ _ _ h => h) (Or.inl ⟨by rfl, ?_⟩) hHeld ?_ ?_
   rotate_left
   · rintro w' ⟨s0, s1, s2, s3, s4, s5, s6, s7, s8, s9, s10⟩
     go_simp; with_reducible rfl
   rotate_left
   · simp only [Act.put, List.setIfInBounds_toArray, List.set_cons_zero, List.set_cons_succ, i64_w, i32_w]; rfl
   refine take_ (i := 2) (N := some 37) (v := ?_) (a' := ?_) #[true, true, true, false, true, false, false, false, false, false, false, false, false, false, false, false, false, false] rfl rfl (take_ofW HT_.out HW_.out (by kernel_rfl)) (fun _ _ _ h => h) (Or.inl ⟨by rfl, ?_⟩) hHeld ?_ ?_
   rotate_left
   · rintro w' ⟨s0, s1, s2, s3, s4, s5, s6, s7, s8, s9, s10⟩
     go_simp; with_reducible rfl
   rotate_left
   · simp only [Act.put, List.setIfInBounds_toArray, List.set_cons_zero, List.set_cons_succ, i64_w, i32_w]; rfl
   refine take_ (i := 3) (N := some 38) (v := ?_) (a' := ?_) #[true, true, true, true, true, false, false, false, false, false, false, false, false, false, false, false, false, false] rfl rfl (take_ofW HT_.out HW_.out (by kernel_rfl)) (fun _ _ _ h => h) (Or.inl ⟨by rfl, ?_⟩) hHeld ?_ ?_
   rotate_left
   · rintro w' ⟨s0, s1, s2, s3, s4, s5, s6, s7, s8, s9, s10⟩
     go_simp; with_reducible rfl
   rotate_left
   · simp only [Act.put, List.setIfInBounds_toArray, List.set_cons_zero, List.set_cons_succ, i64_w, i32_w]; rfl
   refine one_ (i := 5) (N := some 40) #[true, true, true, true, true, true, false, false, false, false, false, false, false, false, false, false, false, false] rfl rfl (one_of HT_.out (by kernel_rfl)) (by decide) (fun K hK => ?_)
   refine goes_ Try.func27 (by kernel_rfl) rfl #[.agg #[.int .i64 t361, .int .i64 t362, .slice Ao24 t363.length co24], .int .i64 a1] (by rfl) rfl rfl (by (try simp only [List.map_toArray, List.map_cons, List.map_nil]); first | done | rfl | (simp only [List.length_drop, List.length_take]; rfl)) ?_
   with_reducible refine (spliceref08_Owner.calls kj3 t361 t362 _ _ t363 a1 t379 _ ?side1 ?side2 A38.out).mono ?_
   (case side1 => repeat (first | exact (Kd.R_reads' HO365.out).2.2 | (with_reducible refine Kd.C_alloc ?_ _) | (with_reducible refine Kd.C_drewN ?_ _) | (with_reducible refine Kd.C_drew ?_)))
   (case side2 => exact (Kd.R_reads' HO365.out).2.1)
   rintro e w45 ⟨rfl, hb⟩
   refine ⟨_, rfl, ?_⟩
   have n0_ := Aside0.mk (Kd.R_below (by (with_reducible repeat (first | apply Kd.R_alloc | apply Kd.R_drewN | apply Kd.R_drew)); exact HO365.out) hb)
   have n1_ := Aside0.mk (blk_below (g := gb358) (o := .cells #[.int .i64 a0_0, .int .i64 a0_1, .slice A0_2 l0_2.length c0_2] 24 (0, 0)) (by (with_reducible repeat (first | refine blk_drewN ?_ _ | refine blk_drew ?_ | refine blk_alloc ?_ _)); exact BK358.out) hb)
   have n2_ := Aside0.mk (blk_below (g := gb366) (o := .cells #[.int .i64 t361, .int .i64 t362, .slice Ao24 t363.length co24] 30 (0, 0)) (by (with_reducible repeat (first | refine blk_drewN ?_ _ | refine blk_drew ?_ | refine blk_alloc ?_ _)); exact BK366.out) hb)
   have n3_ := Aside0.mk (blk_below (g := gb372) (o := .cells #[.int .i64 t367, .int .i64 t368, .int .i64 t369, .int .i64 t370] 57 (0, 0)) (by (with_reducible repeat (first | refine blk_drewN ?_ _ | refine blk_drew ?_ | refine blk_alloc ?_ _)); exact BK372.out) hb)
   have n4_ := Aside0.mk (blk_below (g := gb378) (o := .cells #[.int .i64 t373, .int .i64 t374, .int .i64 t375, .int .i64 t376] 57 (0, 0)) (by (with_reducible repeat (first | refine blk_drewN ?_ _ | refine blk_drew ?_ | refine blk_alloc ?_ _)); exact BK378.out) hb)
   have n5_ := Aside0.mk (below_step (by repeat (first | (with_reducible first | exact HB.out | apply below_alloc | apply pw_below_drewN | apply below_drew1 | refine below_set ?_ GE358.out | refine below_set ?_ GE366.out | refine below_set ?_ GE372.out | refine below_set ?_ GE378.out) | exact HB.out)) hb)
   clear HO365; clear BK358; clear BK366; clear BK372; clear BK378; clear HB
   have HO365 := n0_
   have BK358 := n1_
   have BK366 := n2_
   have BK372 := n3_
   have BK378 := n4_
   have HB := n5_
   clear n0_ n1_ n2_ n3_ n4_ n5_
   (try clear hb)
   (try clear hb2)
   (try clear hk)
   (try clear hi)
   refine hK.out _ _ ⟨(blk_cell BK372.out 0).trans rfl, (blk_cell BK372.out 1).trans rfl, (blk_cell BK372.out 2).trans rfl, (blk_cell BK372.out 3).trans rfl, (blk_cell BK366.out 0).trans rfl, (blk_cell BK366.out 1).trans rfl, (blk_cell BK366.out 2).trans rfl, (blk_cell BK378.out 0).trans rfl, (blk_cell BK378.out 1).trans rfl, (blk_cell BK378.out 2).trans rfl, (blk_cell BK378.out 3).trans rfl⟩ (fun hHeld => ?_)
   clear hK K
   refine norm_ (a' := ?_) ?_ ?_
   rotate_left
   · show Act.put _ (some 40) _ = _
     simp only [Act.put, List.setIfInBounds_toArray, List.set_cons_zero, List.set_cons_succ, i64_w, i32_w]; rfl
   refine one_ (i := 6) (N := some 41) #[true, true, true, true, true, true, true, false, false, false, false, false, false, false, false, false, false, false] rfl rfl (one_of HT_.out (by kernel_rfl)) (by decide) (fun K hK => ?_)
   refine goes_ Try.func26 (by kernel_rfl) rfl #[.agg #[.int .i64 t367, .int .i64 t368, .int .i64 t369, .int .i64 t370], .bool t371, .agg #[.int .i64 t361, .int .i64 t362, .slice Ao24 t363.length co24], .int .i64 t379] (by rfl) rfl rfl (by (try simp only [List.map_toArray, List.map_cons, List.map_nil]); first | done | rfl | (simp only [List.length_drop, List.length_take]; rfl)) ?_
   with_reducible refine (splicelaw08_one.calls kj3 t367 t368 t369 t370 t371 t361 t362 _ _ t363 t379 true _ ?side1 ?side2 A39.out).mono ?_
   (case side1 => repeat (first | exact (Kd.R_reads' HO365.out).2.2 | (with_reducible refine Kd.C_alloc ?_ _) | (with_reducible refine Kd.C_drewN ?_ _) | (with_reducible refine Kd.C_drew ?_)))
   (case side2 => exact (Kd.R_reads' HO365.out).2.1)
   rintro e w46 ⟨rfl, hb⟩
   refine ⟨_, rfl, ?_⟩
   have n0_ := Aside0.mk (Kd.R_below (by (with_reducible repeat (first | apply Kd.R_alloc | apply Kd.R_drewN | apply Kd.R_drew)); exact HO365.out) hb)
   have n1_ := Aside0.mk (blk_below (g := gb358) (o := .cells #[.int .i64 a0_0, .int .i64 a0_1, .slice A0_2 l0_2.length c0_2] 24 (0, 0)) (by (with_reducible repeat (first | refine blk_drewN ?_ _ | refine blk_drew ?_ | refine blk_alloc ?_ _)); exact BK358.out) hb)
   have n2_ := Aside0.mk (blk_below (g := gb366) (o := .cells #[.int .i64 t361, .int .i64 t362, .slice Ao24 t363.length co24] 30 (0, 0)) (by (with_reducible repeat (first | refine blk_drewN ?_ _ | refine blk_drew ?_ | refine blk_alloc ?_ _)); exact BK366.out) hb)
   have n3_ := Aside0.mk (blk_below (g := gb372) (o := .cells #[.int .i64 t367, .int .i64 t368, .int .i64 t369, .int .i64 t370] 57 (0, 0)) (by (with_reducible repeat (first | refine blk_drewN ?_ _ | refine blk_drew ?_ | refine blk_alloc ?_ _)); exact BK372.out) hb)
   have n4_ := Aside0.mk (blk_below (g := gb378) (o := .cells #[.int .i64 t373, .int .i64 t374, .int .i64 t375, .int .i64 t376] 57 (0, 0)) (by (with_reducible repeat (first | refine blk_drewN ?_ _ | refine blk_drew ?_ | refine blk_alloc ?_ _)); exact BK378.out) hb)
   have n5_ := Aside0.mk (below_step (by repeat (first | (with_reducible first | exact HB.out | apply below_alloc | apply pw_below_drewN | apply below_drew1 | refine below_set ?_ GE358.out | refine below_set ?_ GE366.out | refine below_set ?_ GE372.out | refine below_set ?_ GE378.out) | exact HB.out)) hb)
   clear HO365; clear BK358; clear BK366; clear BK372; clear BK378; clear HB
   have HO365 := n0_
   have BK358 := n1_
   have BK366 := n2_
   have BK372 := n3_
   have BK378 := n4_
   have HB := n5_
   clear n0_ n1_ n2_ n3_ n4_ n5_
   (try clear hb)
   (try clear hb2)
   (try clear hk)
   (try clear hi)
   refine hK.out _ _ ⟨(blk_cell BK372.out 0).trans rfl, (blk_cell BK372.out 1).trans rfl, (blk_cell BK372.out 2).trans rfl, (blk_cell BK372.out 3).trans rfl, (blk_cell BK366.out 0).trans rfl, (blk_cell BK366.out 1).trans rfl, (blk_cell BK366.out 2).trans rfl, (blk_cell BK378.out 0).trans rfl, (blk_cell BK378.out 1).trans rfl, (blk_cell BK378.out 2).trans rfl, (blk_cell BK378.out 3).trans rfl⟩ (fun hHeld => ?_)
   clear hK K
   refine norm_ (a' := ?_) ?_ ?_
   rotate_left
   · show Act.put _ (some 41) _ = _
     simp only [Act.put, List.setIfInBounds_toArray, List.set_cons_zero, List.set_cons_succ, i64_w, i32_w]; rfl
   refine pure_ (i := 7) (N := some 42) (v := ?_) (a' := ?_) #[true, true, true, true, true, true, true, true, false, false, false, false, false, false, false, false, false, false] rfl rfl (any_of HT_.out (by kernel_rfl)) (fun _ _ _ h => h) (Or.inl ⟨by rfl, ?_⟩) ?_ ?_
   rotate_left
   · intro w'; go_simp; with_reducible rfl
   rotate_left
   · simp only [Act.put, List.setIfInBounds_toArray, List.set_cons_zero, List.set_cons_succ, i64_w, i32_w]; rfl
   refine pure_ (i := 8) (N := some 43) (v := ?_) (a' := ?_) #[true, true, true, true, true, true, true, true, true, false, false, false, false, false, false, false, false, false] rfl rfl (any_of HT_.out (by kernel_rfl)) (fun _ _ _ h => h) (Or.inl ⟨by rfl, ?_⟩) ?_ ?_
   rotate_left
   · intro w'; go_simp; with_reducible rfl
   rotate_left
   · simp only [Act.put, List.setIfInBounds_toArray, List.set_cons_zero, List.set_cons_succ, i64_w, i32_w]; rfl
   refine pure_ (i := 10) (N := some 45) (v := ?_) (a' := ?_) #[true, true, true, true, true, true, true, true, true, false, true, false, false, false, false, false, false, false] rfl rfl (any_of HT_.out (by kernel_rfl)) (fun _ _ _ h => h) (Or.inl ⟨by rfl, ?_⟩) ?_ ?_
   rotate_left
   · intro w'; go_simp; with_reducible rfl
   rotate_left
   · simp only [Act.put, List.setIfInBounds_toArray, List.set_cons_zero, List.set_cons_succ, i64_w, i32_w]; rfl
   refine pure_ (i := 13) (N := some 48) (v := ?_) (a' := ?_) #[true, true, true, true, true, true, true, true, true, false, true, false, false, true, false, false, false, false] rfl rfl (any_of HT_.out (by kernel_rfl)) (fun _ _ _ h => h) (Or.inl ⟨by rfl, ?_⟩) ?_ ?_
   rotate_left
   · intro w'; go_simp; with_reducible rfl
   rotate_left
   · simp only [Act.put, List.setIfInBounds_toArray, List.set_cons_zero, List.set_cons_succ, i64_w, i32_w]; rfl
   refine take_ (i := 9) (N := some 44) (v := ?_) (a' := ?_) #[true, true, true, true, true, true, true, true, true, true, true, false, false, true, false, false, false, false] rfl rfl (take_ofW HT_.out HW_.out (by kernel_rfl)) (fun _ _ _ h => h) (Or.inl ⟨by rfl, ?_⟩) hHeld ?_ ?_
   rotate_left
   · rintro w' ⟨s0, s1, s2, s3, s4, s5, s6, s7, s8, s9, s10⟩
     go_simp; with_reducible rfl
   rotate_left
   · simp only [Act.put, List.setIfInBounds_toArray, List.set_cons_zero, List.set_cons_succ, i64_w, i32_w]; rfl
   refine take_ (i := 11) (N := some 46) (v := ?_) (a' := ?_) #[true, true, true, true, true, true, true, true, true, true, true, true, false, true, false, false, false, false] rfl rfl (take_ofW HT_.out HW_.out (by kernel_rfl)) (fun _ _ _ h => h) (Or.inl ⟨by rfl, ?_⟩) hHeld ?_ ?_
   rotate_left
   · rintro w' ⟨s0, s1, s2, s3, s4, s5, s6, s7, s8, s9, s10⟩
     go_simp; with_reducible rfl
   rotate_left
   · simp only [Act.put, List.setIfInBounds_toArray, List.set_cons_zero, List.set_cons_succ, i64_w, i32_w]; rfl
   refine take_ (i := 12) (N := some 47) (v := ?_) (a' := ?_) #[true, true, true, true, true, true, true, true, true, true, true, true, true, true, false, false, false, false] rfl rfl (take_ofW HT_.out HW_.out (by kernel_rfl)) (fun _ _ _ h => h) (Or.inl ⟨by rfl, ?_⟩) hHeld ?_ ?_
   rotate_left
   · rintro w' ⟨s0, s1, s2, s3, s4, s5, s6, s7, s8, s9, s10⟩
     go_simp; with_reducible rfl
   rotate_left
   · simp only [Act.put, List.setIfInBounds_toArray, List.set_cons_zero, List.set_cons_succ, i64_w, i32_w]; rfl
   refine one_ (i := 14) (N := some 49) #[true, true, true, true, true, true, true, true, true, true, true, true, true, true, true, false, false, false] rfl rfl (one_of HT_.out (by kernel_rfl)) (by decide) (fun K hK => ?_)
   refine goes_ Try.func28 (by kernel_rfl) rfl #[.agg #[.int .i64 t361, .int .i64 t362, .slice Ao24 t363.length co24], .int .i64 a1] (by rfl) rfl rfl (by (try simp only [List.map_toArray, List.map_cons, List.map_nil]); first | done | rfl | (simp only [List.length_drop, List.length_take]; rfl)) ?_
   with_reducible refine (spliceref08_Find.calls kj3 t361 t362 _ _ t363 a1 t381 _ ?side1 ?side2 A41.out).mono ?_
   (case side1 => repeat (first | exact (Kd.R_reads' HO365.out).2.2 | (with_reducible refine Kd.C_alloc ?_ _) | (with_reducible refine Kd.C_drewN ?_ _) | (with_reducible refine Kd.C_drew ?_)))
   (case side2 => exact (Kd.R_reads' HO365.out).2.1)
   rintro e w47 ⟨rfl, hb⟩
   refine ⟨_, rfl, ?_⟩
   have n0_ := Aside0.mk (Kd.R_below (by (with_reducible repeat (first | apply Kd.R_alloc | apply Kd.R_drewN | apply Kd.R_drew)); exact HO365.out) hb)
   have n1_ := Aside0.mk (blk_below (g := gb358) (o := .cells #[.int .i64 a0_0, .int .i64 a0_1, .slice A0_2 l0_2.length c0_2] 24 (0, 0)) (by (with_reducible repeat (first | refine blk_drewN ?_ _ | refine blk_drew ?_ | refine blk_alloc ?_ _)); exact BK358.out) hb)
   have n2_ := Aside0.mk (blk_below (g := gb366) (o := .cells #[.int .i64 t361, .int .i64 t362, .slice Ao24 t363.length co24] 30 (0, 0)) (by (with_reducible repeat (first | refine blk_drewN ?_ _ | refine blk_drew ?_ | refine blk_alloc ?_ _)); exact BK366.out) hb)
   have n3_ := Aside0.mk (blk_below (g := gb372) (o := .cells #[.int .i64 t367, .int .i64 t368, .int .i64 t369, .int .i64 t370] 57 (0, 0)) (by (with_reducible repeat (first | refine blk_drewN ?_ _ | refine blk_drew ?_ | refine blk_alloc ?_ _)); exact BK372.out) hb)
   have n4_ := Aside0.mk (blk_below (g := gb378) (o := .cells #[.int .i64 t373, .int .i64 t374, .int .i64 t375, .int .i64 t376] 57 (0, 0)) (by (with_reducible repeat (first | refine blk_drewN ?_ _ | refine blk_drew ?_ | refine blk_alloc ?_ _)); exact BK378.out) hb)
   have n5_ := Aside0.mk (below_step (by repeat (first | (with_reducible first | exact HB.out | apply below_alloc | apply pw_below_drewN | apply below_drew1 | refine below_set ?_ GE358.out | refine below_set ?_ GE366.out | refine below_set ?_ GE372.out | refine below_set ?_ GE378.out) | exact HB.out)) hb)
   clear HO365; clear BK358; clear BK366; clear BK372; clear BK378; clear HB
   have HO365 := n0_
   have BK358 := n1_
   have BK366 := n2_
   have BK372 := n3_
   have BK378 := n4_
   have HB := n5_
   clear n0_ n1_ n2_ n3_ n4_ n5_
   (try clear hb)
   (try clear hb2)
   (try clear hk)
   (try clear hi)
   refine hK.out _ _ ⟨(blk_cell BK372.out 0).trans rfl, (blk_cell BK372.out 1).trans rfl, (blk_cell BK372.out 2).trans rfl, (blk_cell BK372.out 3).trans rfl, (blk_cell BK366.out 0).trans rfl, (blk_cell BK366.out 1).trans rfl, (blk_cell BK366.out 2).trans rfl, (blk_cell BK378.out 0).trans rfl, (blk_cell BK378.out 1).trans rfl, (blk_cell BK378.out 2).trans rfl, (blk_cell BK378.out 3).trans rfl⟩ (fun hHeld => ?_)
   clear hK K
   refine norm_ (a' := ?_) ?_ ?_
   rotate_left
   · show Act.put _ (some 49) _ = _
     simp only [Act.put, List.setIfInBounds_toArray, List.set_cons_zero, List.set_cons_succ, i64_w, i32_w]; rfl
   refine one_ (i := 15) (N := some 50) #[true, true, true, true, true, true, true, true, true, true, true, true, true, true, true, true, false, false] rfl rfl (one_of HT_.out (by kernel_rfl)) (by decide) (fun K hK => ?_)
   refine goes_ Try.func26 (by kernel_rfl) rfl #[.agg #[.int .i64 t373, .int .i64 t374, .int .i64 t375, .int .i64 t376], .bool t377, .agg #[.int .i64 t361, .int .i64 t362, .slice Ao24 t363.length co24], .int .i64 t381] (by rfl) rfl rfl (by (try simp only [List.map_toArray, List.map_cons, List.map_nil]); first | done | rfl | (simp only [List.length_drop, List.length_take]; rfl)) ?_
   with_reducible refine (splicelaw08_one.calls kj3 t373 t374 t375 t376 t377 t361 t362 _ _ t363 t381 t382 _ ?side1 ?side2 A42.out).mono ?_
   (case side1 => repeat (first | exact (Kd.R_reads' HO365.out).2.2 | (with_reducible refine Kd.C_alloc ?_ _) | (with_reducible refine Kd.C_drewN ?_ _) | (with_reducible refine Kd.C_drew ?_)))
   (case side2 => exact (Kd.R_reads' HO365.out).2.1)
   rintro e w48 ⟨rfl, hb⟩
   refine ⟨_, rfl, ?_⟩
   have n0_ := Aside0.mk (Kd.R_below (by (with_reducible repeat (first | apply Kd.R_alloc | apply Kd.R_drewN | apply Kd.R_drew)); exact HO365.out) hb)
   have n1_ := Aside0.mk (blk_below (g := gb358) (o := .cells #[.int .i64 a0_0, .int .i64 a0_1, .slice A0_2 l0_2.length c0_2] 24 (0, 0)) (by (with_reducible repeat (first | refine blk_drewN ?_ _ | refine blk_drew ?_ | refine blk_alloc ?_ _)); exact BK358.out) hb)
   have n2_ := Aside0.mk (blk_below (g := gb366) (o := .cells #[.int .i64 t361, .int .i64 t362, .slice Ao24 t363.length co24] 30 (0, 0)) (by (with_reducible repeat (first | refine blk_drewN ?_ _ | refine blk_drew ?_ | refine blk_alloc ?_ _)); exact BK366.out) hb)
   have n3_ := Aside0.mk (blk_below (g := gb372) (o := .cells #[.int .i64 t367, .int .i64 t368, .int .i64 t369, .int .i64 t370] 57 (0, 0)) (by (with_reducible repeat (first | refine blk_drewN ?_ _ | refine blk_drew ?_ | refine blk_alloc ?_ _)); exact BK372.out) hb)
   have n4_ := Aside0.mk (blk_below (g := gb378) (o := .cells #[.int .i64 t373, .int .i64 t374, .int .i64 t375, .int .i64 t376] 57 (0, 0)) (by (with_reducible repeat (first | refine blk_drewN ?_ _ | refine blk_drew ?_ | refine blk_alloc ?_ _)); exact BK378.out) hb)
   have n5_ := Aside0.mk (below_step (by repeat (first | (with_reducible first | exact HB.out | apply below_alloc | apply pw_below_drewN | apply below_drew1 | refine below_set ?_ GE358.out | refine below_set ?_ GE366.out | refine below_set ?_ GE372.out | refine below_set ?_ GE378.out) | exact HB.out)) hb)
   clear HO365; clear BK358; clear BK366; clear BK372; clear BK378; clear HB
   have HO365 := n0_
   have BK358 := n1_
   have BK366 := n2_
   have BK372 := n3_
   have BK378 := n4_
   have HB := n5_
   clear n0_ n1_ n2_ n3_ n4_ n5_
   (try clear hb)
   (try clear hb2)
   (try clear hk)
   (try clear hi)
   refine hK.out _ _ ⟨(blk_cell BK372.out 0).trans rfl, (blk_cell BK372.out 1).trans rfl, (blk_cell BK372.out 2).trans rfl, (blk_cell BK372.out 3).trans rfl, (blk_cell BK366.out 0).trans rfl, (blk_cell BK366.out 1).trans rfl, (blk_cell BK366.out 2).trans rfl, (blk_cell BK378.out 0).trans rfl, (blk_cell BK378.out 1).trans rfl, (blk_cell BK378.out 2).trans rfl, (blk_cell BK378.out 3).trans rfl⟩ (fun hHeld => ?_)
   clear hK K
   refine norm_ (a' := ?_) ?_ ?_
   rotate_left
   · show Act.put _ (some 50) _ = _
     simp only [Act.put, List.setIfInBounds_toArray, List.set_cons_zero, List.set_cons_succ, i64_w, i32_w]; rfl
   refine pure_ (i := 16) (N := some 51) (v := ?_) (a' := ?_) #[true, true, true, true, true, true, true, true, true, true, true, true, true, true, true, true, true, false] rfl rfl (any_of HT_.out (by kernel_rfl)) (fun _ _ _ h => h) (Or.inl ⟨by rfl, ?_⟩) ?_ ?_
   rotate_left
   · intro w'; go_simp; with_reducible rfl
   rotate_left
   · simp only [Act.put, List.setIfInBounds_toArray, List.set_cons_zero, List.set_cons_succ, i64_w, i32_w]; rfl
   refine pure_ (i := 17) (N := some 52) (v := ?_) (a' := ?_) #[true, true, true, true, true, true, true, true, true, true, true, true, true, true, true, true, true, true] rfl rfl (any_of HT_.out (by kernel_rfl)) (fun _ _ _ h => h) (Or.inl ⟨by rfl, ?_⟩) ?_ ?_
   rotate_left
   · intro w'; go_simp; with_reducible rfl
   rotate_left
   · simp only [Act.put, List.setIfInBounds_toArray, List.set_cons_zero, List.set_cons_succ, i64_w, i32_w]; rfl
   refine done_ (done_of HT_.out (by kernel_rfl)) ?_
   try go_wp2
   go_meet
   case rel => exact ⟨_, (!t382), (by first | rfl | (simp; done) | (simp [*]; done)), H', ⟨by have := HJ3.out; first | omega | exact Nat.le_refl _⟩, ⟨by (with_reducible repeat (first | apply Kd.R_alloc | apply Kd.R_drewN | apply Kd.R_drew)); exact HO365.out⟩, ⟨by (with_reducible repeat (first | refine blk_drewN ?_ _ | refine blk_drew ?_ | refine blk_alloc ?_ _)); exact BK358.out⟩, ⟨by (with_reducible repeat (first | refine blk_drewN ?_ _ | refine blk_drew ?_ | refine blk_alloc ?_ _)); exact BK366.out⟩, ⟨by (with_reducible repeat (first | refine blk_drewN ?_ _ | refine blk_drew ?_ | refine blk_alloc ?_ _)); exact BK372.out⟩, ⟨by (with_reducible repeat (first | refine blk_drewN ?_ _ | refine blk_drew ?_ | refine blk_alloc ?_ _)); exact BK378.out⟩, ⟨by repeat (first | (with_reducible first | exact HB.out | apply below_alloc | apply pw_below_drewN | apply below_drew1 | refine below_set ?_ GE358.out | refine below_set ?_ GE366.out | refine below_set ?_ GE372.out | refine below_set ?_ GE378.out) | exact HB.out)⟩⟩
 clear HC18
 try clear c1
 try clear c2
 try clear p2
 try clear c3
 try clear c4
 try clear c12
 try clear c14
 try clear c16
 try clear c22
 try clear c24
 try clear c25
 try clear c26
 try clear c27
 try clear c28
 try clear c29
 try clear c34
 try clear c35
 try clear c36
 try clear c40
 try clear hcz19_0
 try clear hcz19_1
 try clear hcz19_2
 try clear hcz23_0
 try clear hcz23_1
 try clear hcz23_2
 try clear hcz25_0
 try clear hcz25_1
 try clear hcz25_2
 try clear hcz30_0
 try clear hcz30_1
 try clear hcz30_2
 try clear hcz30_3
 try clear hcz31_0
 try clear hcz31_1
 try clear hcz31_2
 try clear hcz37_0
 try clear hcz37_1
 try clear hcz37_2
 try clear hcz37_3
 try clear hfz19_0
 try clear hfz19_1
 try clear hfz19_2
 try clear hfz23_0
 try clear hfz23_1
 try clear hfz23_2
 try clear hfz25_0
 try clear hfz25_1
 try clear hfz25_2
 try clear hfz30_0
 try clear hfz30_1
 try clear hfz30_2
 try clear hfz30_3
 try clear hfz31_0
 try clear hfz31_1
 try clear hfz31_2
 try clear hfz37_0
 try clear hfz37_1
 try clear hfz37_2
 try clear hfz37_3
 obtain ⟨kq, x52_17, rfl, HA, HJ17, HO_367002, BK358, BK366, BK372, BK378, HB⟩ := hcut
 cases kq with
 | zero => exact absurd HA.out (by simp [splicelaw08_ChartOwners.j1])
 | succ kj17 => ?_
 have H := HA.out
 clear HA; simp only [splicelaw08_ChartOwners.j1] at H
 by_cases c53 : x52_17 = true
 · subst c53
   have H1 : (some false) = some r := by rw [if_pos rfl] at H; exact H
   clear H
   have H := H1
   clear H1
   exact absurd ((Option.some.inj H).trans hr_) (by simp)
 replace c53 := Bool.eq_false_iff.mpr c53
 subst c53
 have H1 : ((splicelaw08_awake.f kj17).bind fun t383 => (if t383 = true then ((chart_Check.f kj17 a0_0 a0_1 l0_2).bind fun t384 => ((spliceref08_Check.f kj17 t361 t362 t363).bind fun t385 => (if (t384 == t385) = true then ((chart_Owners.f kj17 a0_0 a0_1 l0_2 l2).bind fun t386 => ((splicelaw03_Refs.f kj17 l2).bind fun t389 => ((spliceref08_Owners.f kj17 t361 t362 t363 t389).bind fun t392 => ((spliceref01_Same.f kj17 t386 t392).bind fun t395 => (some t395))))) else (some false)))) else (some false))) = some r := by rw [if_neg (show ¬ (false = true) by decide)] at H; exact H
 clear H
 have H := H1
 clear H1
 replace H := Option.bind_eq_some_iff.mp H
 obtain ⟨t383, A540, H⟩ := H
 replace H : (if t383 = true then ((chart_Check.f kj17 a0_0 a0_1 l0_2).bind fun t384 => ((spliceref08_Check.f kj17 t361 t362 t363).bind fun t385 => (if (t384 == t385) = true then ((chart_Owners.f kj17 a0_0 a0_1 l0_2 l2).bind fun t386 => ((splicelaw03_Refs.f kj17 l2).bind fun t389 => ((spliceref08_Owners.f kj17 t361 t362 t363 t389).bind fun t392 => ((spliceref01_Same.f kj17 t386 t392).bind fun t395 => (some t395))))) else (some false)))) else (some false)) = some r := H
 have A54 := Aside0.mk A540
 clear A540
 by_cases c55 : t383 = true
 rotate_left
 · replace c55 := Bool.eq_false_iff.mpr c55
   subst c55
   have H1 : (some false) = some r := by rw [if_neg (show ¬ (false = true) by decide)] at H; exact H
   clear H
   have H := H1
   clear H1
   exact absurd ((Option.some.inj H).trans hr_) (by simp)
 subst c55
 have H1 : ((chart_Check.f kj17 a0_0 a0_1 l0_2).bind fun t384 => ((spliceref08_Check.f kj17 t361 t362 t363).bind fun t385 => (if (t384 == t385) = true then ((chart_Owners.f kj17 a0_0 a0_1 l0_2 l2).bind fun t386 => ((splicelaw03_Refs.f kj17 l2).bind fun t389 => ((spliceref08_Owners.f kj17 t361 t362 t363 t389).bind fun t392 => ((spliceref01_Same.f kj17 t386 t392).bind fun t395 => (some t395))))) else (some false)))) = some r := by rw [if_pos rfl] at H; exact H
 clear H
 have H := H1
 clear H1
 replace H := Option.bind_eq_some_iff.mp H
 obtain ⟨t384, A560, H⟩ := H
 replace H : ((spliceref08_Check.f kj17 t361 t362 t363).bind fun t385 => (if (t384 == t385) = true then ((chart_Owners.f kj17 a0_0 a0_1 l0_2 l2).bind fun t386 => ((splicelaw03_Refs.f kj17 l2).bind fun t389 => ((spliceref08_Owners.f kj17 t361 t362 t363 t389).bind fun t392 => ((spliceref01_Same.f kj17 t386 t392).bind fun t395 => (some t395))))) else (some false))) = some r := H
 have A56 := Aside0.mk A560
 clear A560
 replace H := Option.bind_eq_some_iff.mp H
 obtain ⟨t385, A570, H⟩ := H
 replace H : (if (t384 == t385) = true then ((chart_Owners.f kj17 a0_0 a0_1 l0_2 l2).bind fun t386 => ((splicelaw03_Refs.f kj17 l2).bind fun t389 => ((spliceref08_Owners.f kj17 t361 t362 t363 t389).bind fun t392 => ((spliceref01_Same.f kj17 t386 t392).bind fun t395 => (some t395))))) else (some false)) = some r := H
 have A57 := Aside0.mk A570
 clear A570
 by_cases c58 : (t384 == t385) = true
 rotate_left
 · rw [if_neg c58] at H
   have c58b0 : (t384 == t385) = false := by simpa using c58
   (try (have c58b1 : decide (t384 = t385) = false := by simpa using c58))
   (try (have c58b2 : (t384 == t385) = false := by simpa using c58))
   (try (have c58b3 : ¬ (t384 = t385) := by simpa using c58))
   clear c58
   exact absurd ((Option.some.inj H).trans hr_) (by simp)
 rw [if_pos c58] at H
 have c58b0 : (t384 == t385) = true := c58
 (try (have c58b1 : decide (t384 = t385) = true := by simpa using c58))
 (try (have c58b2 : (t384 == t385) = true := by simpa using c58))
 clear c58
 replace H := Option.bind_eq_some_iff.mp H
 obtain ⟨t386, A590, H⟩ := H
 replace H : ((splicelaw03_Refs.f kj17 l2).bind fun t389 => ((spliceref08_Owners.f kj17 t361 t362 t363 t389).bind fun t392 => ((spliceref01_Same.f kj17 t386 t392).bind fun t395 => (some t395)))) = some r := H
 have A59 := Aside0.mk A590
 clear A590
 replace H := Option.bind_eq_some_iff.mp H
 obtain ⟨t389, A600, H⟩ := H
 replace H : ((spliceref08_Owners.f kj17 t361 t362 t363 t389).bind fun t392 => ((spliceref01_Same.f kj17 t386 t392).bind fun t395 => (some t395))) = some r := H
 have A60 := Aside0.mk A600
 clear A600
 replace H := Option.bind_eq_some_iff.mp H
 obtain ⟨t392, A610, H⟩ := H
 replace H : ((spliceref01_Same.f kj17 t386 t392).bind fun t395 => (some t395)) = some r := H
 have A61 := Aside0.mk A610
 clear A610
 replace H := Option.bind_eq_some_iff.mp H
 obtain ⟨t395, A620, H⟩ := H
 replace H : (some t395) = some r := H
 have A62 := Aside0.mk A620
 clear A620
 obtain rfl := Option.some.inj H
 try go_wp2
 have n0_ := Aside0.mk (Kd.R_drew HO_367002.out)
 have n1_ := Aside0.mk (blk_drew BK358.out)
 have n2_ := Aside0.mk (blk_drew BK366.out)
 have n3_ := Aside0.mk (blk_drew BK372.out)
 have n4_ := Aside0.mk (blk_drew BK378.out)
 have n5_ := Aside0.mk (below_drew1 HB.out)
 clear HO_367002; clear BK358; clear BK366; clear BK372; clear BK378; clear HB
 have HO_367002 := n0_
 have BK358 := n1_
 have BK366 := n2_
 have BK372 := n3_
 have BK378 := n4_
 have HB := n5_
 clear n0_ n1_ n2_ n3_ n4_ n5_
 refine start_ (n := 19) (S := fun w' => w'.cell? ⟨gb358, 0, none⟩ = some (.int .i64 a0_0) ∧ w'.cell? ⟨gb358, 1, none⟩ = some (.int .i64 a0_1) ∧ w'.cell? ⟨gb358, 2, none⟩ = some (.slice A0_2 l0_2.length c0_2) ∧ w'.cell? ⟨gb366, 0, none⟩ = some (.int .i64 t361) ∧ w'.cell? ⟨gb366, 1, none⟩ = some (.int .i64 t362) ∧ w'.cell? ⟨gb366, 2, none⟩ = some (.slice Ao24 t363.length co24)) (ds := []) #[false, false, false, false, false, false, false, false, false, false, false, false, false, false, false, false, false, false, false] (by kernel_rfl) rfl rfl ⟨(blk_cell BK358.out 0).trans rfl, (blk_cell BK358.out 1).trans rfl, (blk_cell BK358.out 2).trans rfl, (blk_cell BK366.out 0).trans rfl, (blk_cell BK366.out 1).trans rfl, (blk_cell BK366.out 2).trans rfl⟩ (fun hHeld => ?_); refine with_tabW splicelaw08_ChartOwners.tab8 splicelaw08_ChartOwners.bits8 (fun HT_ HW_ => ?_)
 generalize wc.drew = w63 at HO_367002 BK358 BK366 BK372 BK378 HB hHeld ⊢
 refine one_ (i := 0) (N := some 53) #[true, false, false, false, false, false, false, false, false, false, false, false, false, false, false, false, false, false, false] rfl rfl (one_of HT_.out (by kernel_rfl)) (by decide) (fun K hK => ?_)
 refine goes_ Try.func14 (by kernel_rfl) rfl #[] (by rfl) rfl rfl (by (try simp only [List.map_toArray, List.map_cons, List.map_nil]); first | done | rfl | (simp only [List.length_drop, List.length_take]; rfl)) ?_
 with_reducible refine (splicelaw08_awake.calls kj17  true _ A54.out (by first | rfl | exact hr_)).mono ?_
 rintro e w64 ⟨rfl, hb⟩
 refine ⟨_, rfl, ?_⟩
 have n0_ := Aside0.mk (Kd.R_below (by (with_reducible repeat (first | apply Kd.R_alloc | apply Kd.R_drewN | apply Kd.R_drew)); exact HO_367002.out) hb)
 have n1_ := Aside0.mk (blk_below (g := gb358) (o := .cells #[.int .i64 a0_0, .int .i64 a0_1, .slice A0_2 l0_2.length c0_2] 24 (0, 0)) (by (with_reducible repeat (first | refine blk_drewN ?_ _ | refine blk_drew ?_ | refine blk_alloc ?_ _)); exact BK358.out) hb)
 have n2_ := Aside0.mk (blk_below (g := gb366) (o := .cells #[.int .i64 t361, .int .i64 t362, .slice Ao24 t363.length co24] 30 (0, 0)) (by (with_reducible repeat (first | refine blk_drewN ?_ _ | refine blk_drew ?_ | refine blk_alloc ?_ _)); exact BK366.out) hb)
 have n3_ := Aside0.mk (blk_below (g := gb372) (o := .cells #[.int .i64 t367, .int .i64 t368, .int .i64 t369, .int .i64 t370] 57 (0, 0)) (by (with_reducible repeat (first | refine blk_drewN ?_ _ | refine blk_drew ?_ | refine blk_alloc ?_ _)); exact BK372.out) hb)
 have n4_ := Aside0.mk (blk_below (g := gb378) (o := .cells #[.int .i64 t373, .int .i64 t374, .int .i64 t375, .int .i64 t376] 57 (0, 0)) (by (with_reducible repeat (first | refine blk_drewN ?_ _ | refine blk_drew ?_ | refine blk_alloc ?_ _)); exact BK378.out) hb)
 have n5_ := Aside0.mk (below_step (by repeat (first | (with_reducible first | exact HB.out | apply below_alloc | apply pw_below_drewN | apply below_drew1 | refine below_set ?_ GE358.out | refine below_set ?_ GE366.out | refine below_set ?_ GE372.out | refine below_set ?_ GE378.out) | exact HB.out)) hb)
 clear HO_367002; clear BK358; clear BK366; clear BK372; clear BK378; clear HB
 have HO_367002 := n0_
 have BK358 := n1_
 have BK366 := n2_
 have BK372 := n3_
 have BK378 := n4_
 have HB := n5_
 clear n0_ n1_ n2_ n3_ n4_ n5_
 (try clear hb)
 (try clear hb2)
 (try clear hk)
 (try clear hi)
 refine hK.out _ _ ⟨(blk_cell BK358.out 0).trans rfl, (blk_cell BK358.out 1).trans rfl, (blk_cell BK358.out 2).trans rfl, (blk_cell BK366.out 0).trans rfl, (blk_cell BK366.out 1).trans rfl, (blk_cell BK366.out 2).trans rfl⟩ (fun hHeld => ?_)
 clear hK K
 refine norm_ (a' := ?_) ?_ ?_
 rotate_left
 · show Act.put _ (some 53) _ = _
   simp only [Act.put, List.setIfInBounds_toArray, List.set_cons_zero, List.set_cons_succ, i64_w, i32_w]; rfl
 refine pure_ (i := 1) (N := some 54) (v := ?_) (a' := ?_) #[true, true, false, false, false, false, false, false, false, false, false, false, false, false, false, false, false, false, false] rfl rfl (any_of HT_.out (by kernel_rfl)) (fun _ _ _ h => h) (Or.inl ⟨by rfl, ?_⟩) ?_ ?_
 rotate_left
 · intro w'; go_simp; with_reducible rfl
 rotate_left
 · simp only [Act.put, List.setIfInBounds_toArray, List.set_cons_zero, List.set_cons_succ, i64_w, i32_w]; rfl
 refine take_ (i := 2) (N := some 55) (v := ?_) (a' := ?_) #[true, true, true, false, false, false, false, false, false, false, false, false, false, false, false, false, false, false, false] rfl rfl (take_ofW HT_.out HW_.out (by kernel_rfl)) (fun _ _ _ h => h) (Or.inl ⟨by rfl, ?_⟩) hHeld ?_ ?_
 rotate_left
 · rintro w' ⟨s0, s1, s2, s3, s4, s5⟩
   go_simp; with_reducible rfl
 rotate_left
 · simp only [Act.put, List.setIfInBounds_toArray, List.set_cons_zero, List.set_cons_succ, i64_w, i32_w]; rfl
 refine take_ (i := 4) (N := some 57) (v := ?_) (a' := ?_) #[true, true, true, false, true, false, false, false, false, false, false, false, false, false, false, false, false, false, false] rfl rfl (take_ofW HT_.out HW_.out (by kernel_rfl)) (fun _ _ _ h => h) (Or.inl ⟨by rfl, ?_⟩) hHeld ?_ ?_
 rotate_left
 · rintro w' ⟨s0, s1, s2, s3, s4, s5⟩
   go_simp; with_reducible rfl
 rotate_left
 · simp only [Act.put, List.setIfInBounds_toArray, List.set_cons_zero, List.set_cons_succ, i64_w, i32_w]; rfl
 refine one_ (i := 3) (N := some 56) #[true, true, true, true, true, false, false, false, false, false, false, false, false, false, false, false, false, false, false] rfl rfl (one_of HT_.out (by kernel_rfl)) (by decide) (fun K hK => ?_)
 refine goes_ Try.func17 (by kernel_rfl) rfl #[.agg #[.int .i64 a0_0, .int .i64 a0_1, .slice A0_2 l0_2.length c0_2]] (by rfl) rfl rfl (by (try simp only [List.map_toArray, List.map_cons, List.map_nil]); first | done | rfl | (simp only [List.length_drop, List.length_take]; rfl)) ?_
 with_reducible refine (chart_Check.calls kj17 a0_0 a0_1 _ _ l0_2 t384 _ ?side1 ?side2 A56.out).mono ?_
 (case side1 => repeat (first | exact (Kd.C_below HR0_2.out HB.out) | (with_reducible refine Kd.C_alloc ?_ _) | (with_reducible refine Kd.C_drewN ?_ _) | (with_reducible refine Kd.C_drew ?_)))
 (case side2 => exact HC0_2.out)
 rintro e w65 ⟨rfl, hb⟩
 refine ⟨_, rfl, ?_⟩
 have n0_ := Aside0.mk (Kd.R_below (by (with_reducible repeat (first | apply Kd.R_alloc | apply Kd.R_drewN | apply Kd.R_drew)); exact HO_367002.out) hb)
 have n1_ := Aside0.mk (blk_below (g := gb358) (o := .cells #[.int .i64 a0_0, .int .i64 a0_1, .slice A0_2 l0_2.length c0_2] 24 (0, 0)) (by (with_reducible repeat (first | refine blk_drewN ?_ _ | refine blk_drew ?_ | refine blk_alloc ?_ _)); exact BK358.out) hb)
 have n2_ := Aside0.mk (blk_below (g := gb366) (o := .cells #[.int .i64 t361, .int .i64 t362, .slice Ao24 t363.length co24] 30 (0, 0)) (by (with_reducible repeat (first | refine blk_drewN ?_ _ | refine blk_drew ?_ | refine blk_alloc ?_ _)); exact BK366.out) hb)
 have n3_ := Aside0.mk (blk_below (g := gb372) (o := .cells #[.int .i64 t367, .int .i64 t368, .int .i64 t369, .int .i64 t370] 57 (0, 0)) (by (with_reducible repeat (first | refine blk_drewN ?_ _ | refine blk_drew ?_ | refine blk_alloc ?_ _)); exact BK372.out) hb)
 have n4_ := Aside0.mk (blk_below (g := gb378) (o := .cells #[.int .i64 t373, .int .i64 t374, .int .i64 t375, .int .i64 t376] 57 (0, 0)) (by (with_reducible repeat (first | refine blk_drewN ?_ _ | refine blk_drew ?_ | refine blk_alloc ?_ _)); exact BK378.out) hb)
 have n5_ := Aside0.mk (below_step (by repeat (first | (with_reducible first | exact HB.out | apply below_alloc | apply pw_below_drewN | apply below_drew1 | refine below_set ?_ GE358.out | refine below_set ?_ GE366.out | refine below_set ?_ GE372.out | refine below_set ?_ GE378.out) | exact HB.out)) hb)
 clear HO_367002; clear BK358; clear BK366; clear BK372; clear BK378; clear HB
 have HO_367002 := n0_
 have BK358 := n1_
 have BK366 := n2_
 have BK372 := n3_
 have BK378 := n4_
 have HB := n5_
 clear n0_ n1_ n2_ n3_ n4_ n5_
 (try clear hb)
 (try clear hb2)
 (try clear hk)
 (try clear hi)
 refine hK.out _ _ ⟨(blk_cell BK358.out 0).trans rfl, (blk_cell BK358.out 1).trans rfl, (blk_cell BK358.out 2).trans rfl, (blk_cell BK366.out 0).trans rfl, (blk_cell BK366.out 1).trans rfl, (blk_cell BK366.out 2).trans rfl⟩ (fun hHeld => ?_)
 clear hK K
 refine norm_ (a' := ?_) ?_ ?_
 rotate_left
 · show Act.put _ (some 56) _ = _
   simp only [Act.put, List.setIfInBounds_toArray, List.set_cons_zero, List.set_cons_succ, i64_w, i32_w]; rfl
 refine one_ (i := 5) (N := some 58) #[true, true, true, true, true, true, false, false, false, false, false, false, false, false, false, false, false, false, false] rfl rfl (one_of HT_.out (by kernel_rfl)) (by decide) (fun K hK => ?_)
 refine goes_ Try.func29 (by kernel_rfl) rfl #[.agg #[.int .i64 t361, .int .i64 t362, .slice Ao24 t363.length co24]] (by rfl) rfl rfl (by (try simp only [List.map_toArray, List.map_cons, List.map_nil]); first | done | rfl | (simp only [List.length_drop, List.length_take]; rfl)) ?_
 with_reducible refine (spliceref08_Check.calls kj17 t361 t362 _ _ t363 t385 _ ?side1 ?side2 A57.out).mono ?_
 (case side1 => repeat (first | exact (Kd.R_reads' HO_367002.out).2.2 | (with_reducible refine Kd.C_alloc ?_ _) | (with_reducible refine Kd.C_drewN ?_ _) | (with_reducible refine Kd.C_drew ?_)))
 (case side2 => exact (Kd.R_reads' HO_367002.out).2.1)
 rintro e w66 ⟨rfl, hb⟩
 refine ⟨_, rfl, ?_⟩
 have n0_ := Aside0.mk (Kd.R_below (by (with_reducible repeat (first | apply Kd.R_alloc | apply Kd.R_drewN | apply Kd.R_drew)); exact HO_367002.out) hb)
 have n1_ := Aside0.mk (blk_below (g := gb358) (o := .cells #[.int .i64 a0_0, .int .i64 a0_1, .slice A0_2 l0_2.length c0_2] 24 (0, 0)) (by (with_reducible repeat (first | refine blk_drewN ?_ _ | refine blk_drew ?_ | refine blk_alloc ?_ _)); exact BK358.out) hb)
 have n2_ := Aside0.mk (blk_below (g := gb366) (o := .cells #[.int .i64 t361, .int .i64 t362, .slice Ao24 t363.length co24] 30 (0, 0)) (by (with_reducible repeat (first | refine blk_drewN ?_ _ | refine blk_drew ?_ | refine blk_alloc ?_ _)); exact BK366.out) hb)
 have n3_ := Aside0.mk (blk_below (g := gb372) (o := .cells #[.int .i64 t367, .int .i64 t368, .int .i64 t369, .int .i64 t370] 57 (0, 0)) (by (with_reducible repeat (first | refine blk_drewN ?_ _ | refine blk_drew ?_ | refine blk_alloc ?_ _)); exact BK372.out) hb)
 have n4_ := Aside0.mk (blk_below (g := gb378) (o := .cells #[.int .i64 t373, .int .i64 t374, .int .i64 t375, .int .i64 t376] 57 (0, 0)) (by (with_reducible repeat (first | refine blk_drewN ?_ _ | refine blk_drew ?_ | refine blk_alloc ?_ _)); exact BK378.out) hb)
 have n5_ := Aside0.mk (below_step (by repeat (first | (with_reducible first | exact HB.out | apply below_alloc | apply pw_below_drewN | apply below_drew1 | refine below_set ?_ GE358.out | refine below_set ?_ GE366.out | refine below_set ?_ GE372.out | refine below_set ?_ GE378.out) | exact HB.out)) hb)
 clear HO_367002; clear BK358; clear BK366; clear BK372; clear BK378; clear HB
 have HO_367002 := n0_
 have BK358 := n1_
 have BK366 := n2_
 have BK372 := n3_
 have BK378 := n4_
 have HB := n5_
 clear n0_ n1_ n2_ n3_ n4_ n5_
 (try clear hb)
 (try clear hb2)
 (try clear hk)
 (try clear hi)
 refine hK.out _ _ ⟨(blk_cell BK358.out 0).trans rfl, (blk_cell BK358.out 1).trans rfl, (blk_cell BK358.out 2).trans rfl, (blk_cell BK366.out 0).trans rfl, (blk_cell BK366.out 1).trans rfl, (blk_cell BK366.out 2).trans rfl⟩ (fun hHeld => ?_)
 clear hK K
 refine norm_ (a' := ?_) ?_ ?_
 rotate_left
 · show Act.put _ (some 58) _ = _
   simp only [Act.put, List.setIfInBounds_toArray, List.set_cons_zero, List.set_cons_succ, i64_w, i32_w]; rfl
 refine pure_ (i := 6) (N := some 59) (v := ?_) (a' := ?_) #[true, true, true, true, true, true, true, false, false, false, false, false, false, false, false, false, false, false, false] rfl rfl (any_of HT_.out (by kernel_rfl)) (fun _ _ _ h => h) (Or.inl ⟨by rfl, ?_⟩) ?_ ?_
 rotate_left
 · intro w'; go_simp; with_reducible rfl
 rotate_left
 · simp only [Act.put, List.setIfInBounds_toArray, List.set_cons_zero, List.set_cons_succ, i64_w, i32_w]; rfl
 refine pure_ (i := 7) (N := some 60) (v := ?_) (a' := ?_) #[true, true, true, true, true, true, true, true, false, false, false, false, false, false, false, false, false, false, false] rfl rfl (any_of HT_.out (by kernel_rfl)) (fun _ _ _ h => h) (Or.inl ⟨by rfl, ?_⟩) ?_ ?_
 rotate_left
 · intro w'; go_simp; with_reducible rfl
 rotate_left
 · simp only [Act.put, List.setIfInBounds_toArray, List.set_cons_zero, List.set_cons_succ, i64_w, i32_w]; rfl
 refine pure_ (i := 8) (N := some 61) (v := ?_) (a' := ?_) #[true, true, true, true, true, true, true, true, true, false, false, false, false, false, false, false, false, false, false] rfl rfl (any_of HT_.out (by kernel_rfl)) (fun _ _ _ h => h) (Or.inl ⟨by rfl, ?_⟩) ?_ ?_
 rotate_left
 · intro w'; go_simp; with_reducible rfl
 rotate_left
 · simp only [Act.put, List.setIfInBounds_toArray, List.set_cons_zero, List.set_cons_succ, i64_w, i32_w]; rfl
 refine pure_ (i := 10) (N := some 63) (v := ?_) (a' := ?_) #[true, true, true, true, true, true, true, true, true, false, true, false, false, false, false, false, false, false, false] rfl rfl (any_of HT_.out (by kernel_rfl)) (fun _ _ _ h => h) (Or.inl ⟨by rfl, ?_⟩) ?_ ?_
 rotate_left
 · intro w'; go_simp; with_reducible rfl
 rotate_left
 · simp only [Act.put, List.setIfInBounds_toArray, List.set_cons_zero, List.set_cons_succ, i64_w, i32_w]; rfl
 refine pure_ (i := 13) (N := some 66) (v := ?_) (a' := ?_) #[true, true, true, true, true, true, true, true, true, false, true, false, false, true, false, false, false, false, false] rfl rfl (any_of HT_.out (by kernel_rfl)) (fun _ _ _ h => h) (Or.inl ⟨by rfl, ?_⟩) ?_ ?_
 rotate_left
 · intro w'; go_simp; with_reducible rfl
 rotate_left
 · simp only [Act.put, List.setIfInBounds_toArray, List.set_cons_zero, List.set_cons_succ, i64_w, i32_w]; rfl
 refine take_ (i := 9) (N := some 62) (v := ?_) (a' := ?_) #[true, true, true, true, true, true, true, true, true, true, true, false, false, true, false, false, false, false, false] rfl rfl (take_ofW HT_.out HW_.out (by kernel_rfl)) (fun _ _ _ h => h) (Or.inl ⟨by rfl, ?_⟩) hHeld ?_ ?_
 rotate_left
 · rintro w' ⟨s0, s1, s2, s3, s4, s5⟩
   go_simp; with_reducible rfl
 rotate_left
 · simp only [Act.put, List.setIfInBounds_toArray, List.set_cons_zero, List.set_cons_succ, i64_w, i32_w]; rfl
 refine take_ (i := 12) (N := some 65) (v := ?_) (a' := ?_) #[true, true, true, true, true, true, true, true, true, true, true, false, true, true, false, false, false, false, false] rfl rfl (take_ofW HT_.out HW_.out (by kernel_rfl)) (fun _ _ _ h => h) (Or.inl ⟨by rfl, ?_⟩) hHeld ?_ ?_
 rotate_left
 · rintro w' ⟨s0, s1, s2, s3, s4, s5⟩
   go_simp; with_reducible rfl
 rotate_left
 · simp only [Act.put, List.setIfInBounds_toArray, List.set_cons_zero, List.set_cons_succ, i64_w, i32_w]; rfl
 refine one_ (i := 11) (N := some 64) #[true, true, true, true, true, true, true, true, true, true, true, true, true, true, false, false, false, false, false] rfl rfl (one_of HT_.out (by kernel_rfl)) (by decide) (fun K hK => ?_)
 refine goes_ Try.func31 (by kernel_rfl) rfl #[.agg #[.int .i64 a0_0, .int .i64 a0_1, .slice A0_2 l0_2.length c0_2], .slice A2 l2.length c2] (by rfl) rfl rfl (by (try simp only [List.map_toArray, List.map_cons, List.map_nil]); first | done | rfl | (simp only [List.length_drop, List.length_take]; rfl)) ?_
 with_reducible refine (chart_Owners.calls kj17 a0_0 a0_1 _ _ l0_2 _ _ l2 t386 _ ?side1 ?side2 ?side3 ?side4 A59.out).mono ?_
 (case side1 => repeat (first | exact (Kd.C_below HR0_2.out HB.out) | (with_reducible refine Kd.C_alloc ?_ _) | (with_reducible refine Kd.C_drewN ?_ _) | (with_reducible refine Kd.C_drew ?_)))
 (case side2 => exact HC0_2.out)
 (case side3 => repeat (first | exact (Kd.C_below HR2.out HB.out) | (with_reducible refine Kd.C_alloc ?_ _) | (with_reducible refine Kd.C_drewN ?_ _) | (with_reducible refine Kd.C_drew ?_)))
 (case side4 => exact HC2.out)
 rintro e w67 ⟨v387, rfl, ho0, hb⟩
 refine ⟨_, rfl, ?_⟩
 have n0_ := Aside0.mk (Kd.R_below (by (with_reducible repeat (first | apply Kd.R_alloc | apply Kd.R_drewN | apply Kd.R_drew)); exact HO_367002.out) hb)
 have n1_ := Aside0.mk (Kd.R_lower ho0 (below_size (by repeat (first | (with_reducible first | exact HB.out | apply below_alloc | apply pw_below_drewN | apply below_drew1 | refine below_set ?_ GE358.out | refine below_set ?_ GE366.out | refine below_set ?_ GE372.out | refine below_set ?_ GE378.out) | exact HB.out))))
 have n2_ := Aside0.mk (blk_below (g := gb358) (o := .cells #[.int .i64 a0_0, .int .i64 a0_1, .slice A0_2 l0_2.length c0_2] 24 (0, 0)) (by (with_reducible repeat (first | refine blk_drewN ?_ _ | refine blk_drew ?_ | refine blk_alloc ?_ _)); exact BK358.out) hb)
 have n3_ := Aside0.mk (blk_below (g := gb366) (o := .cells #[.int .i64 t361, .int .i64 t362, .slice Ao24 t363.length co24] 30 (0, 0)) (by (with_reducible repeat (first | refine blk_drewN ?_ _ | refine blk_drew ?_ | refine blk_alloc ?_ _)); exact BK366.out) hb)
 have n4_ := Aside0.mk (blk_below (g := gb372) (o := .cells #[.int .i64 t367, .int .i64 t368, .int .i64 t369, .int .i64 t370] 57 (0, 0)) (by (with_reducible repeat (first | refine blk_drewN ?_ _ | refine blk_drew ?_ | refine blk_alloc ?_ _)); exact BK372.out) hb)
 have n5_ := Aside0.mk (blk_below (g := gb378) (o := .cells #[.int .i64 t373, .int .i64 t374, .int .i64 t375, .int .i64 t376] 57 (0, 0)) (by (with_reducible repeat (first | refine blk_drewN ?_ _ | refine blk_drew ?_ | refine blk_alloc ?_ _)); exact BK378.out) hb)
 have n6_ := Aside0.mk (below_step (by repeat (first | (with_reducible first | exact HB.out | apply below_alloc | apply pw_below_drewN | apply below_drew1 | refine below_set ?_ GE358.out | refine below_set ?_ GE366.out | refine below_set ?_ GE372.out | refine below_set ?_ GE378.out) | exact HB.out)) hb)
 clear HO_367002; clear BK358; clear BK366; clear BK372; clear BK378; clear HB
 have HO_367002 := n0_
 have HO388 := n1_
 have BK358 := n2_
 have BK366 := n3_
 have BK372 := n4_
 have BK378 := n5_
 have HB := n6_
 clear n0_ n1_ n2_ n3_ n4_ n5_ n6_
 (try clear hb)
 (try clear hb2)
 (try clear hk)
 (try clear hi)
 (try clear ho0)
 refine hK.out _ _ ⟨(blk_cell BK358.out 0).trans rfl, (blk_cell BK358.out 1).trans rfl, (blk_cell BK358.out 2).trans rfl, (blk_cell BK366.out 0).trans rfl, (blk_cell BK366.out 1).trans rfl, (blk_cell BK366.out 2).trans rfl⟩ (fun hHeld => ?_)
 clear hK K
 refine norm_ (a' := ?_) ?_ ?_
 rotate_left
 · show Act.put _ (some 64) _ = _
   simp only [Act.put, List.setIfInBounds_toArray, List.set_cons_zero, List.set_cons_succ, i64_w, i32_w]; rfl
 refine one_ (i := 14) (N := some 67) #[true, true, true, true, true, true, true, true, true, true, true, true, true, true, true, false, false, false, false] rfl rfl (one_of HT_.out (by kernel_rfl)) (by decide) (fun K hK => ?_)
 refine goes_ Try.func33 (by kernel_rfl) rfl #[.slice A2 l2.length c2] (by rfl) rfl rfl (by (try simp only [List.map_toArray, List.map_cons, List.map_nil]); first | done | rfl | (simp only [List.length_drop, List.length_take]; rfl)) ?_
 with_reducible refine (splicelaw03_Refs.calls kj17 _ _ l2 t389 _ ?side1 ?side2 A60.out).mono ?_
 (case side1 => repeat (first | exact (Kd.C_below HR2.out HB.out) | (with_reducible refine Kd.C_alloc ?_ _) | (with_reducible refine Kd.C_drewN ?_ _) | (with_reducible refine Kd.C_drew ?_)))
 (case side2 => exact HC2.out)
 rintro e w68 ⟨v390, rfl, ho0, hb⟩
 refine ⟨_, rfl, ?_⟩
 have n0_ := Aside0.mk (Kd.R_below (by (with_reducible repeat (first | apply Kd.R_alloc | apply Kd.R_drewN | apply Kd.R_drew)); exact HO_367002.out) hb)
 have n1_ := Aside0.mk (Kd.R_below (by (with_reducible repeat (first | apply Kd.R_alloc | apply Kd.R_drewN | apply Kd.R_drew)); exact HO388.out) hb)
 have n2_ := Aside0.mk (Kd.R_lower ho0 (below_size (by repeat (first | (with_reducible first | exact HB.out | apply below_alloc | apply pw_below_drewN | apply below_drew1 | refine below_set ?_ GE358.out | refine below_set ?_ GE366.out | refine below_set ?_ GE372.out | refine below_set ?_ GE378.out) | exact HB.out))))
 have n3_ := Aside0.mk (blk_below (g := gb358) (o := .cells #[.int .i64 a0_0, .int .i64 a0_1, .slice A0_2 l0_2.length c0_2] 24 (0, 0)) (by (with_reducible repeat (first | refine blk_drewN ?_ _ | refine blk_drew ?_ | refine blk_alloc ?_ _)); exact BK358.out) hb)
 have n4_ := Aside0.mk (blk_below (g := gb366) (o := .cells #[.int .i64 t361, .int .i64 t362, .slice Ao24 t363.length co24] 30 (0, 0)) (by (with_reducible repeat (first | refine blk_drewN ?_ _ | refine blk_drew ?_ | refine blk_alloc ?_ _)); exact BK366.out) hb)
 have n5_ := Aside0.mk (blk_below (g := gb372) (o := .cells #[.int .i64 t367, .int .i64 t368, .int .i64 t369, .int .i64 t370] 57 (0, 0)) (by (with_reducible repeat (first | refine blk_drewN ?_ _ | refine blk_drew ?_ | refine blk_alloc ?_ _)); exact BK372.out) hb)
 have n6_ := Aside0.mk (blk_below (g := gb378) (o := .cells #[.int .i64 t373, .int .i64 t374, .int .i64 t375, .int .i64 t376] 57 (0, 0)) (by (with_reducible repeat (first | refine blk_drewN ?_ _ | refine blk_drew ?_ | refine blk_alloc ?_ _)); exact BK378.out) hb)
 have n7_ := Aside0.mk (below_step (by repeat (first | (with_reducible first | exact HB.out | apply below_alloc | apply pw_below_drewN | apply below_drew1 | refine below_set ?_ GE358.out | refine below_set ?_ GE366.out | refine below_set ?_ GE372.out | refine below_set ?_ GE378.out) | exact HB.out)) hb)
 clear HO_367002; clear HO388; clear BK358; clear BK366; clear BK372; clear BK378; clear HB
 have HO_367002 := n0_
 have HO388 := n1_
 have HO391 := n2_
 have BK358 := n3_
 have BK366 := n4_
 have BK372 := n5_
 have BK378 := n6_
 have HB := n7_
 clear n0_ n1_ n2_ n3_ n4_ n5_ n6_ n7_
 (try clear hb)
 (try clear hb2)
 (try clear hk)
 (try clear hi)
 (try clear ho0)
 obtain ⟨Ao69, co69, eo69⟩ := Kd.R_slice HO391.out
 (first | subst eo69 | (injection eo69 with f1_ f2_ f3_; have f4_ := f1_.symm; have f5_ := f3_.symm; clear f1_ f2_ f3_; subst f4_; subst f5_))
 refine hK.out _ _ ⟨(blk_cell BK358.out 0).trans rfl, (blk_cell BK358.out 1).trans rfl, (blk_cell BK358.out 2).trans rfl, (blk_cell BK366.out 0).trans rfl, (blk_cell BK366.out 1).trans rfl, (blk_cell BK366.out 2).trans rfl⟩ (fun hHeld => ?_)
 clear hK K
 refine norm_ (a' := ?_) ?_ ?_
 rotate_left
 · show Act.put _ (some 67) _ = _
   simp only [Act.put, List.setIfInBounds_toArray, List.set_cons_zero, List.set_cons_succ, i64_w, i32_w]; rfl
 refine one_ (i := 15) (N := some 68) #[true, true, true, true, true, true, true, true, true, true, true, true, true, true, true, true, false, false, false] rfl rfl (one_of HT_.out (by kernel_rfl)) (by decide) (fun K hK => ?_)
 refine goes_ Try.func32 (by kernel_rfl) rfl #[.agg #[.int .i64 t361, .int .i64 t362, .slice Ao24 t363.length co24], .slice Ao69 t389.length co69] (by rfl) rfl rfl (by (try simp only [List.map_toArray, List.map_cons, List.map_nil]); first | done | rfl | (simp only [List.length_drop, List.length_take]; rfl)) ?_
 with_reducible refine (spliceref08_Owners.calls kj17 t361 t362 _ _ t363 _ _ t389 t392 _ ?side1 ?side2 ?side3 ?side4 A61.out).mono ?_
 (case side1 => repeat (first | exact (Kd.R_reads' HO_367002.out).2.2 | (with_reducible refine Kd.C_alloc ?_ _) | (with_reducible refine Kd.C_drewN ?_ _) | (with_reducible refine Kd.C_drew ?_)))
 (case side2 => exact (Kd.R_reads' HO_367002.out).2.1)
 (case side3 => repeat (first | exact (Kd.R_reads' HO391.out).2.2 | (with_reducible refine Kd.C_alloc ?_ _) | (with_reducible refine Kd.C_drewN ?_ _) | (with_reducible refine Kd.C_drew ?_)))
 (case side4 => exact (Kd.R_reads' HO391.out).2.1)
 rintro e w70 ⟨v393, rfl, ho0, hb⟩
 refine ⟨_, rfl, ?_⟩
 have n0_ := Aside0.mk (Kd.R_below (by (with_reducible repeat (first | apply Kd.R_alloc | apply Kd.R_drewN | apply Kd.R_drew)); exact HO_367002.out) hb)
 have n1_ := Aside0.mk (Kd.R_elder' (by (with_reducible repeat (first | apply Kd.R_alloc | apply Kd.R_drewN | apply Kd.R_drew)); exact HO388.out) (Kd.R_base ho0) hb)
 have n2_ := Aside0.mk (Kd.R_below (by (with_reducible repeat (first | apply Kd.R_alloc | apply Kd.R_drewN | apply Kd.R_drew)); exact HO391.out) hb)
 have n3_ := Aside0.mk (Kd.R_lower (Kd.R_new' ho0 (Kd.R_lt (by (with_reducible repeat (first | apply Kd.R_alloc | apply Kd.R_drewN | apply Kd.R_drew)); exact HO388.out))) (below_size (by repeat (first | (with_reducible first | exact HB.out | apply below_alloc | apply pw_below_drewN | apply below_drew1 | refine below_set ?_ GE358.out | refine below_set ?_ GE366.out | refine below_set ?_ GE372.out | refine below_set ?_ GE378.out) | exact HB.out))))
 have n4_ := Aside0.mk (blk_below (g := gb358) (o := .cells #[.int .i64 a0_0, .int .i64 a0_1, .slice A0_2 l0_2.length c0_2] 24 (0, 0)) (by (with_reducible repeat (first | refine blk_drewN ?_ _ | refine blk_drew ?_ | refine blk_alloc ?_ _)); exact BK358.out) hb)
 have n5_ := Aside0.mk (blk_below (g := gb366) (o := .cells #[.int .i64 t361, .int .i64 t362, .slice Ao24 t363.length co24] 30 (0, 0)) (by (with_reducible repeat (first | refine blk_drewN ?_ _ | refine blk_drew ?_ | refine blk_alloc ?_ _)); exact BK366.out) hb)
 have n6_ := Aside0.mk (blk_below (g := gb372) (o := .cells #[.int .i64 t367, .int .i64 t368, .int .i64 t369, .int .i64 t370] 57 (0, 0)) (by (with_reducible repeat (first | refine blk_drewN ?_ _ | refine blk_drew ?_ | refine blk_alloc ?_ _)); exact BK372.out) hb)
 have n7_ := Aside0.mk (blk_below (g := gb378) (o := .cells #[.int .i64 t373, .int .i64 t374, .int .i64 t375, .int .i64 t376] 57 (0, 0)) (by (with_reducible repeat (first | refine blk_drewN ?_ _ | refine blk_drew ?_ | refine blk_alloc ?_ _)); exact BK378.out) hb)
 have n8_ := Aside0.mk (below_step (by repeat (first | (with_reducible first | exact HB.out | apply below_alloc | apply pw_below_drewN | apply below_drew1 | refine below_set ?_ GE358.out | refine below_set ?_ GE366.out | refine below_set ?_ GE372.out | refine below_set ?_ GE378.out) | exact HB.out)) hb)
 clear HO_367002; clear HO388; clear HO391; clear BK358; clear BK366; clear BK372; clear BK378; clear HB
 have HO_367002 := n0_
 have HO388 := n1_
 have HO391 := n2_
 have HO394 := n3_
 have BK358 := n4_
 have BK366 := n5_
 have BK372 := n6_
 have BK378 := n7_
 have HB := n8_
 clear n0_ n1_ n2_ n3_ n4_ n5_ n6_ n7_ n8_
 (try clear hb)
 (try clear hb2)
 (try clear hk)
 (try clear hi)
 (try clear ho0)
 obtain ⟨Ao71, co71, eo71⟩ := Kd.R_slice HO388.out
 (first | subst eo71 | (injection eo71 with f1_ f2_ f3_; have f4_ := f1_.symm; have f5_ := f3_.symm; clear f1_ f2_ f3_; subst f4_; subst f5_))
 obtain ⟨Ao72, co72, eo72⟩ := Kd.R_slice HO394.out
 (first | subst eo72 | (injection eo72 with f1_ f2_ f3_; have f4_ := f1_.symm; have f5_ := f3_.symm; clear f1_ f2_ f3_; subst f4_; subst f5_))
 refine hK.out _ _ ⟨(blk_cell BK358.out 0).trans rfl, (blk_cell BK358.out 1).trans rfl, (blk_cell BK358.out 2).trans rfl, (blk_cell BK366.out 0).trans rfl, (blk_cell BK366.out 1).trans rfl, (blk_cell BK366.out 2).trans rfl⟩ (fun hHeld => ?_)
 clear hK K
 refine norm_ (a' := ?_) ?_ ?_
 rotate_left
 · show Act.put _ (some 68) _ = _
   simp only [Act.put, List.setIfInBounds_toArray, List.set_cons_zero, List.set_cons_succ, i64_w, i32_w]; rfl
 refine one_ (i := 16) (N := some 69) #[true, true, true, true, true, true, true, true, true, true, true, true, true, true, true, true, true, false, false] rfl rfl (one_of HT_.out (by kernel_rfl)) (by decide) (fun K hK => ?_)
 refine goes_ Try.func30 (by kernel_rfl) rfl #[.slice Ao71 t386.length co71, .slice Ao72 t392.length co72] (by rfl) rfl rfl (by (try simp only [List.map_toArray, List.map_cons, List.map_nil]); first | done | rfl | (simp only [List.length_drop, List.length_take]; rfl)) ?_
 with_reducible refine (spliceref01_Same.calls kj17 _ _ t386 _ _ t392 t395 _ ?side1 ?side2 ?side3 ?side4 A62.out).mono ?_
 (case side1 => repeat (first | exact (Kd.R_reads' HO388.out).2.2 | (with_reducible refine Kd.C_alloc ?_ _) | (with_reducible refine Kd.C_drewN ?_ _) | (with_reducible refine Kd.C_drew ?_)))
 (case side2 => exact (Kd.R_reads' HO388.out).2.1)
 (case side3 => repeat (first | exact (Kd.R_reads' HO394.out).2.2 | (with_reducible refine Kd.C_alloc ?_ _) | (with_reducible refine Kd.C_drewN ?_ _) | (with_reducible refine Kd.C_drew ?_)))
 (case side4 => exact (Kd.R_reads' HO394.out).2.1)
 rintro e w' ⟨rfl, ⟨nd, rfl⟩⟩
 refine ⟨_, rfl, ?_⟩
 refine hK.out _ _ ⟨(blk_cell BK358.out 0).trans rfl, (blk_cell BK358.out 1).trans rfl, (blk_cell BK358.out 2).trans rfl, (blk_cell BK366.out 0).trans rfl, (blk_cell BK366.out 1).trans rfl, (blk_cell BK366.out 2).trans rfl⟩ (fun hHeld => ?_)
 clear hK K
 refine norm_ (a' := ?_) ?_ ?_
 rotate_left
 · show Act.put _ (some 69) _ = _
   simp only [Act.put, List.setIfInBounds_toArray, List.set_cons_zero, List.set_cons_succ, i64_w, i32_w]; rfl
 refine pure_ (i := 17) (N := some 70) (v := ?_) (a' := ?_) #[true, true, true, true, true, true, true, true, true, true, true, true, true, true, true, true, true, true, false] rfl rfl (any_of HT_.out (by kernel_rfl)) (fun _ _ _ h => h) (Or.inl ⟨by rfl, ?_⟩) ?_ ?_
 rotate_left
 · intro w'; go_simp; with_reducible rfl
 rotate_left
 · simp only [Act.put, List.setIfInBounds_toArray, List.set_cons_zero, List.set_cons_succ, i64_w, i32_w]; rfl
 refine pure_ (i := 18) (N := some 6) (v := ?_) (a' := ?_) #[true, true, true, true, true, true, true, true, true, true, true, true, true, true, true, true, true, true, true] rfl rfl (any_of HT_.out (by kernel_rfl)) (fun _ _ _ h => h) (Or.inl ⟨by rfl, ?_⟩) ?_ ?_
 rotate_left
 · intro w'; go_simp; with_reducible rfl
 rotate_left
 · simp only [Act.put, List.setIfInBounds_toArray, List.set_cons_zero, List.set_cons_succ, i64_w, i32_w]; rfl
 refine done_ (done_of HT_.out (by kernel_rfl)) ?_
 try go_wp2
 go_ret
 exact ⟨by first | rfl | (simp [errW_none, errW_some] <;> rfl) | (simp [*, errW_none, errW_some] <;> rfl), by repeat (first | (with_reducible first | exact HB.out | apply below_alloc | apply pw_below_drewN | apply below_drew1 | refine below_set ?_ GE358.out | refine below_set ?_ GE366.out | refine below_set ?_ GE372.out | refine below_set ?_ GE378.out) | exact HB.out)⟩
/-- THE ONE PURE STATEMENT of splicelaw08_ChartOwners: yours. -/
def splicelaw08_ChartOwners.Pure : Prop := ∀ (x0 : S24) (x1 : Int) (x2 : List (S55)), wf24 x0 → (Lit.int .i64 x1).wf = true → (x2.length * 16 ≤ 140737488351232 ∧ x2.length ≤ maxLen ∧ ∀ y0 ∈ x2, wf55 y0) → ∃ k, splicelaw08_ChartOwners.f k x0.f0 x0.f1 x0.f2 x1 x2 = some true

end Go.Proofs.Ytbhlphadcphapaa.PD
