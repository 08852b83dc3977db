-- written by a program of this session
import Derived.Test.YtbhlphadcphapaaPRx0
namespace Go.Proofs.Ytbhlphadcphapaa.PR
open Go.RowKit Go.Proofs.Ytbhlphadcphapaa.Op Go.Proofs.YtbhlphadcphapaaW.PrintWords Go.Proofs.YtbhlphadcphapaaW.PrintLast Go.Proofs.YtbhlphadcphapaaW.PrintMore
attribute [local go_sem] max2_int min2_int max_two min_two max_three min_three max_four min_four   -- for this text's walks alone
set_option linter.unusedVariables false
set_option linter.unusedSimpArgs false

/-! ### spliceref01_fail: function 67 -/
def spliceref01_fail.f (a0 : Int) : Option (ByteArray × Int) := some ((⟨#[]⟩ : ByteArray), a0)
set_option maxHeartbeats 8000000 in
set_option maxRecDepth 100000 in
theorem spliceref01_fail.calls (a0 : Int) (r1 : ByteArray) (r2 : Int) (w : World) (h : spliceref01_fail.f a0 = some (r1, r2)) :
    Calls Try.prog 67 #[.int .i64 a0] w fun e w' => e = .returned (.agg #[.string r1, .int .i64 r2]) ∧ Below w.heap.size w w' := by
  have hu99 := Try.underlying99
  have HB := Aside0.mk (Below.refl w.heap.size w)
  have H : (some ((⟨#[]⟩ : ByteArray), a0)) = some (r1, r2) := h
  clear h
  simp only [Option.some.injEq, Prod.mk.injEq] at H
  obtain ⟨rfl, rfl⟩ := H
  go_enter Try.func67, Try.ntmps67
  go_wp2_with (first | ((with_reducible refine gate_dst (N := 2) rfl ?_); refine box_event ?hg (N := 2) ?hd (cs := #[.string (⟨#[]⟩ : ByteArray), .int .i64 0]) (t := 99) ?hr ?_; (case hd => rfl); (case hg => rfl); (case hr => first | (go_simp; done) | (go_simp; rfl)); intro gb209 hg w2 hbox hb; have n0_ := Aside0.mk (below_step (by repeat (first | (with_reducible first | exact HB.out | apply below_alloc | apply pw_below_drewN | apply below_drew1) | exact HB.out)) hb); have n1_ := Aside0.mk (hbox); have n2_ := Aside0.mk ((by rw [hg]; exact (below_size (by repeat (first | (with_reducible first | exact HB.out | apply below_alloc | apply pw_below_drewN | apply below_drew1) | exact HB.out))) : w.heap.size ≤ gb209)); have n3_ := Aside0.mk ((by rw [hg]; exact (below_size (by repeat (first | (with_reducible first | exact HB.out | apply below_alloc | apply pw_below_drewN | apply below_drew1) | exact HB.out))) : w.heap.size ≤ gb209)); clear HB; have HB := n0_; have BK209 := n1_; have GW209 := n2_; have GE209 := n3_; clear n0_ n1_ n2_ n3_; clear hb hbox hg; have hcz3_0 : w2.cell? ⟨gb209, 0, none⟩ = some (.string (⟨#[]⟩ : ByteArray)) := (blk_cell BK209.out 0).trans rfl; have hcz3_1 : w2.cell? ⟨gb209, 1, none⟩ = some (.int .i64 0) := (blk_cell BK209.out 1).trans rfl; have hfz3_0 := blk_frozen BK209.out 0; have hfz3_1 := blk_frozen BK209.out 1))
  refine bodyPost_ret (results_cell_row rfl _ _ gb209 99 #[.string (⟨#[]⟩ : ByteArray), .int .i64 a0] (0, 0) _ rfl (by (with_reducible repeat (first | refine blk_drewN ?_ _ | refine blk_drew ?_ | refine blk_alloc ?_ _)); refine blk_put (cs := #[.string (⟨#[]⟩ : ByteArray), .int .i64 0]) ?_ 1 _ rfl; (with_reducible repeat (first | refine blk_drewN ?_ _ | refine blk_drew ?_ | refine blk_alloc ?_ _)); refine blk_put (cs := #[.string (⟨#[]⟩ : ByteArray), .int .i64 0]) ?_ 0 _ rfl; (with_reducible repeat (first | refine blk_drewN ?_ _ | refine blk_drew ?_ | refine blk_alloc ?_ _)); exact BK209.out) Try.underlying99 rfl (by kernel_rfl)) rfl ?_
  exact ⟨by first | rfl | (simp [errW_none, errW_some] <;> rfl) | (simp [*, errW_none, errW_some] <;> rfl), by repeat (first | (with_reducible first | exact HB.out | apply below_alloc | apply pw_below_drewN | apply below_drew1 | refine below_set ?_ GE209.out) | exact HB.out)⟩

/-! ### spliceref01_Reader_Num: function 54 -/
mutual
def spliceref01_Reader_Num.j1 : Nat → Int → ByteArray → Int → Option (ByteArray × Int × Int)
  | 0, _, _, _ => none
  | k + 1, x4, x211000, x211001 => if x4 = (x211000.size : Int) then ((spliceref01_fail.f 5).bind fun bt212 => (some (bt212.1, bt212.2, 0))) else (if x4 = 9 then (spliceref01_Reader_Num.j2 k x4 true x211000 x211001) else (if x4 > 0 then (if 0 ≤ x4 then (if x4 < (x211000.size : Int) then (spliceref01_Reader_Num.j2 k x4 ((bt x211000 x4) == 0) x211000 x211001) else (none)) else (none)) else (spliceref01_Reader_Num.j2 k x4 false x211000 x211001)))
def spliceref01_Reader_Num.j2 : Nat → Int → Bool → ByteArray → Int → Option (ByteArray × Int × Int)
  | 0, _, _, _, _ => none
  | k + 1, x4, x47, x211000, x211001 => if x47 = true then ((spliceref01_fail.f 3).bind fun bt214 => (some (bt214.1, bt214.2, 0))) else (spliceref01_Reader_Num.l1 k x4 0 x4 x211000 x211001)
def spliceref01_Reader_Num.l1 : Nat → Int → Int → Int → ByteArray → Int → Option (ByteArray × Int × Int)
  | 0, _, _, _, _, _ => none
  | k + 1, x4, x5, x6, x211000, x211001 => if x6 ≥ 0 then (if 0 ≤ x6 then (if x6 < (x211000.size : Int) then (spliceref01_Reader_Num.l1 k x4 (wrap64 ((wrap64 (128 * x5)) + (Int.tmod (wrap64 (bt x211000 x6)) 128))) (wrap64 (x6 - 1)) x211000 x211001) else (none)) else (none)) else (if 0 ≤ (wrap64 (x4 + 1)) then (if (wrap64 (x4 + 1)) ≤ (x211000.size : Int) then (some (x211000.extract ((wrap64 (x4 + 1)) : Int).toNat x211000.size, 0, x5)) else (none)) else (none))
def spliceref01_Reader_Num.l0 : Nat → Int → ByteArray → Int → Option (ByteArray × Int × Int)
  | 0, _, _, _ => none
  | k + 1, x4, x211000, x211001 => if x4 < (x211000.size : Int) then (if x4 < 9 then (if 0 ≤ x4 then (if (bt x211000 x4) > 127 then (spliceref01_Reader_Num.l0 k (wrap64 (x4 + 1)) x211000 x211001) else (spliceref01_Reader_Num.j1 k x4 x211000 x211001)) else (none)) else (spliceref01_Reader_Num.j1 k x4 x211000 x211001)) else (spliceref01_Reader_Num.j1 k x4 x211000 x211001)
end
def spliceref01_Reader_Num.f (k : Nat) (a0_0 : ByteArray) (a0_1 : Int) : Option (ByteArray × Int × Int) := if a0_1 = 0 then (spliceref01_Reader_Num.l0 k 0 a0_0 a0_1) else (some (a0_0, a0_1, 0))
theorem spliceref01_Reader_Num.mono_l : ∀ k, (∀ y0 y1 y2, LeO (spliceref01_Reader_Num.j1 k y0 y1 y2) (spliceref01_Reader_Num.j1 (k + 1) y0 y1 y2)) ∧ (∀ y0 y1 y2 y3, LeO (spliceref01_Reader_Num.j2 k y0 y1 y2 y3) (spliceref01_Reader_Num.j2 (k + 1) y0 y1 y2 y3)) ∧ (∀ y0 y1 y2 y3 y4, LeO (spliceref01_Reader_Num.l1 k y0 y1 y2 y3 y4) (spliceref01_Reader_Num.l1 (k + 1) y0 y1 y2 y3 y4)) ∧ (∀ y0 y1 y2, LeO (spliceref01_Reader_Num.l0 k y0 y1 y2) (spliceref01_Reader_Num.l0 (k + 1) y0 y1 y2))
  | 0 => ⟨fun _ _ _ r h => by simp [spliceref01_Reader_Num.j1] at h, fun _ _ _ _ r h => by simp [spliceref01_Reader_Num.j2] at h, fun _ _ _ _ _ r h => by simp [spliceref01_Reader_Num.l1] at h, fun _ _ _ r h => by simp [spliceref01_Reader_Num.l0] at h⟩
  | k + 1 => by
    obtain ⟨ih0, ih1, ih2, ih3⟩ := spliceref01_Reader_Num.mono_l k
    refine ⟨?_, ?_, ?_, ?_⟩
    · intro y0 y1 y2
      unfold spliceref01_Reader_Num.j1
      repeat' first
      | (with_reducible exact ih0 _ _ _)
      | (with_reducible exact ih1 _ _ _ _)
      | (with_reducible exact ih2 _ _ _ _ _)
      | (with_reducible exact ih3 _ _ _)
      | (with_reducible exact LeO.refl _)
      | (with_reducible exact LeO.none _)
      | (with_reducible refine LeO.ite ?_ ?_)
      | (with_reducible refine LeO.bind ?_ (fun _ => ?_))
      | exact ih0 _ _ _
      | exact ih1 _ _ _ _
      | exact ih2 _ _ _ _ _
      | exact ih3 _ _ _
      | exact LeO.none _
      | refine LeO.ite ?_ ?_
      | refine LeO.bind ?_ (fun _ => ?_)
    · intro y0 y1 y2 y3
      unfold spliceref01_Reader_Num.j2
      repeat' first
      | (with_reducible exact ih0 _ _ _)
      | (with_reducible exact ih1 _ _ _ _)
      | (with_reducible exact ih2 _ _ _ _ _)
      | (with_reducible exact ih3 _ _ _)
      | (with_reducible exact LeO.refl _)
      | (with_reducible exact LeO.none _)
      | (with_reducible refine LeO.ite ?_ ?_)
      | (with_reducible refine LeO.bind ?_ (fun _ => ?_))
      | exact ih0 _ _ _
      | exact ih1 _ _ _ _
      | exact ih2 _ _ _ _ _
      | exact ih3 _ _ _
      | exact LeO.none _
      | refine LeO.ite ?_ ?_
      | refine LeO.bind ?_ (fun _ => ?_)
    · intro y0 y1 y2 y3 y4
      unfold spliceref01_Reader_Num.l1
      repeat' first
      | (with_reducible exact ih0 _ _ _)
      | (with_reducible exact ih1 _ _ _ _)
      | (with_reducible exact ih2 _ _ _ _ _)
      | (with_reducible exact ih3 _ _ _)
      | (with_reducible exact LeO.refl _)
      | (with_reducible exact LeO.none _)
      | (with_reducible refine LeO.ite ?_ ?_)
      | (with_reducible refine LeO.bind ?_ (fun _ => ?_))
      | exact ih0 _ _ _
      | exact ih1 _ _ _ _
      | exact ih2 _ _ _ _ _
      | exact ih3 _ _ _
      | exact LeO.none _
      | refine LeO.ite ?_ ?_
      | refine LeO.bind ?_ (fun _ => ?_)
    · intro y0 y1 y2
      unfold spliceref01_Reader_Num.l0
      repeat' first
      | (with_reducible exact ih0 _ _ _)
      | (with_reducible exact ih1 _ _ _ _)
      | (with_reducible exact ih2 _ _ _ _ _)
      | (with_reducible exact ih3 _ _ _)
      | (with_reducible exact LeO.refl _)
      | (with_reducible exact LeO.none _)
      | (with_reducible refine LeO.ite ?_ ?_)
      | (with_reducible refine LeO.bind ?_ (fun _ => ?_))
      | exact ih0 _ _ _
      | exact ih1 _ _ _ _
      | exact ih2 _ _ _ _ _
      | exact ih3 _ _ _
      | exact LeO.none _
      | refine LeO.ite ?_ ?_
      | refine LeO.bind ?_ (fun _ => ?_)
theorem spliceref01_Reader_Num.mono : ∀ a0 a1 k, LeO (spliceref01_Reader_Num.f k a0 a1) (spliceref01_Reader_Num.f (k + 1) a0 a1) := by
  intro a0 a1 k
  obtain ⟨ih0, ih1, ih2, ih3⟩ := spliceref01_Reader_Num.mono_l k
  unfold spliceref01_Reader_Num.f
  repeat' first
      | (with_reducible exact ih0 _ _ _)
      | (with_reducible exact ih1 _ _ _ _)
      | (with_reducible exact ih2 _ _ _ _ _)
      | (with_reducible exact ih3 _ _ _)
      | (with_reducible exact LeO.refl _)
      | (with_reducible exact LeO.none _)
      | (with_reducible refine LeO.ite ?_ ?_)
      | (with_reducible refine LeO.bind ?_ (fun _ => ?_))
      | exact ih0 _ _ _
      | exact ih1 _ _ _ _
      | exact ih2 _ _ _ _ _
      | exact ih3 _ _ _
      | exact LeO.none _
      | refine LeO.ite ?_ ?_
      | refine LeO.bind ?_ (fun _ => ?_)
set_option maxHeartbeats 8000000 in
set_option maxRecDepth 100000 in
theorem spliceref01_Reader_Num.calls (k : Nat) (a0_0 : ByteArray) (a0_1 : Int) (r1 : ByteArray) (r2 : Int) (r3 : Int) (w : World) (h : spliceref01_Reader_Num.f k a0_0 a0_1 = some (r1, r2, r3)) :
    Calls Try.prog 54 #[.agg #[.string a0_0, .int .i64 a0_1]] w fun e w' => e = .returned (.tuple #[.agg #[.string r1, .int .i64 r2], .int .i64 r3]) ∧ Below w.heap.size w w' := by
 have hu99 := Try.underlying99
 have HB := Aside0.mk (Below.refl w.heap.size w)
 have H : (if a0_1 = 0 then (spliceref01_Reader_Num.l0 k 0 a0_0 a0_1) else (some (a0_0, a0_1, 0))) = some (r1, r2, r3) := h
 clear h
 by_cases c2 : a0_1 = 0
 rotate_left
 · rw [if_neg c2] at H
   have c2b0 : (a0_1 == 0) = false := beq_eq_false_iff_ne.mpr c2
   have c2b1 : (a0_1 != 0) = true := bne_iff_ne.mpr c2
   simp only [Option.some.injEq, Prod.mk.injEq] at H
   obtain ⟨rfl, rfl, rfl⟩ := H
   go_enter Try.func54, Try.ntmps54
   go_wp2_with (first | ((with_reducible refine gate_dst (N := 1) rfl ?_); refine box_event ?hg (N := 1) ?hd (cs := #[.string a0_0, .int .i64 a0_1]) (t := 99) ?hr ?_; (case hd => rfl); (case hg => rfl); (case hr => first | (go_simp; done) | (go_simp; rfl)); intro gb210 hg w54 hbox hb; have n0_ := Aside0.mk (below_step (by repeat (first | (with_reducible first | exact HB.out | apply below_alloc | apply pw_below_drewN | apply below_drew1) | exact HB.out)) hb); have n1_ := Aside0.mk (hbox); have n2_ := Aside0.mk ((by rw [hg]; exact (below_size (by repeat (first | (with_reducible first | exact HB.out | apply below_alloc | apply pw_below_drewN | apply below_drew1) | exact HB.out))) : w.heap.size ≤ gb210)); have n3_ := Aside0.mk ((by rw [hg]; exact (below_size (by repeat (first | (with_reducible first | exact HB.out | apply below_alloc | apply pw_below_drewN | apply below_drew1) | exact HB.out))) : w.heap.size ≤ gb210)); clear HB; have HB := n0_; have BK210 := n1_; have GW210 := n2_; have GE210 := n3_; clear n0_ n1_ n2_ n3_; clear hb hbox hg) | ((with_reducible refine gate_dst (N := 2) rfl ?_); refine box_event ?hg (N := 2) ?hd (cs := #[.string (⟨#[]⟩ : ByteArray), .int .i64 0]) (t := 99) ?hr ?_; (case hd => rfl); (case hg => rfl); (case hr => first | (go_simp; done) | (go_simp; rfl)); intro gb211 hg w55 hbox hb; have n0_ := Aside0.mk (blk_below (g := gb210) (o := .cells #[.string a0_0, .int .i64 a0_1] 99 (0, 0)) (by (with_reducible repeat (first | refine blk_drewN ?_ _ | refine blk_drew ?_ | refine blk_alloc ?_ _)); exact BK210.out) hb); have n1_ := Aside0.mk (below_step (by repeat (first | (with_reducible first | exact HB.out | apply below_alloc | apply pw_below_drewN | apply below_drew1 | refine below_set ?_ GE210.out) | exact HB.out)) hb); have n2_ := Aside0.mk (hbox); have n3_ := Aside0.mk ((by rw [hg]; exact (below_size (by repeat (first | (with_reducible first | exact HB.out | apply below_alloc | apply pw_below_drewN | apply below_drew1 | refine below_set ?_ GE210.out) | exact HB.out))) : w.heap.size ≤ gb211)); have n4_ := Aside0.mk ((by rw [hg]; exact (below_size (by repeat (first | (with_reducible first | exact HB.out | apply below_alloc | apply pw_below_drewN | apply below_drew1 | refine below_set ?_ GE210.out) | exact HB.out))) : w.heap.size ≤ gb211)); have n5_ := Aside0.mk ((by rw [hg]; exact Nat.ne_of_lt (blk_lt (g := gb210) (o := .cells #[.string a0_0, .int .i64 a0_1] 99 (0, 0)) (by (with_reducible repeat (first | refine blk_drewN ?_ _ | refine blk_drew ?_ | refine blk_alloc ?_ _)); exact BK210.out)) : gb210 ≠ gb211)); have n6_ := Aside0.mk ((by rw [hg]; exact Nat.ne_of_gt (blk_lt (g := gb210) (o := .cells #[.string a0_0, .int .i64 a0_1] 99 (0, 0)) (by (with_reducible repeat (first | refine blk_drewN ?_ _ | refine blk_drew ?_ | refine blk_alloc ?_ _)); exact BK210.out)) : gb211 ≠ gb210)); clear BK210; clear HB; have BK210 := n0_; have HB := n1_; have BK211 := n2_; have GW211 := n3_; have GE211 := n4_; have NB210_211 := n5_; have NB211_210 := n6_; clear n0_ n1_ n2_ n3_ n4_ n5_ n6_; clear hb hbox hg; have hnb56 := NB210_211.out; have hnc56 := NB211_210.out; have hcz57_0 : w55.cell? ⟨gb210, 0, none⟩ = some (.string a0_0) := (blk_cell BK210.out 0).trans rfl; have hcz57_1 : w55.cell? ⟨gb210, 1, none⟩ = some (.int .i64 a0_1) := (blk_cell BK210.out 1).trans rfl; have hfz57_0 := blk_frozen BK210.out 0; have hfz57_1 := blk_frozen BK210.out 1; have hcz58_0 : w55.cell? ⟨gb211, 0, none⟩ = some (.string (⟨#[]⟩ : ByteArray)) := (blk_cell BK211.out 0).trans rfl; have hcz58_1 : w55.cell? ⟨gb211, 1, none⟩ = some (.int .i64 0) := (blk_cell BK211.out 1).trans rfl; have hfz58_0 := blk_frozen BK211.out 0; have hfz58_1 := blk_frozen BK211.out 1))
   refine bodyPost_ret (results_ct rfl _ _ gb211 99 #[.string a0_0, .int .i64 a0_1] (0, 0) _ rfl (by (with_reducible repeat (first | refine blk_drewN ?_ _ | refine blk_drew ?_ | refine blk_alloc ?_ _)); refine blk_put (cs := #[.string a0_0, .int .i64 0]) ?_ 1 _ rfl; (with_reducible repeat (first | refine blk_drewN ?_ _ | refine blk_drew ?_ | refine blk_alloc ?_ _)); refine blk_put (cs := #[.string (⟨#[]⟩ : ByteArray), .int .i64 0]) ?_ 0 _ rfl; (with_reducible repeat (first | refine blk_drewN ?_ _ | refine blk_drew ?_ | refine blk_alloc ?_ _)); exact BK211.out) Try.underlying99 rfl (by kernel_rfl)) rfl ?_
   exact ⟨by first | rfl | (simp [errW_none, errW_some] <;> rfl) | (simp [*, errW_none, errW_some] <;> rfl), by repeat (first | (with_reducible first | exact HB.out | apply below_alloc | apply pw_below_drewN | apply below_drew1 | refine below_set ?_ GE210.out | refine below_set ?_ GE211.out) | exact HB.out)⟩
 rw [if_pos c2] at H
 have c2b0 : (a0_1 == 0) = true := beq_iff_eq.mpr c2
 have c2b1 : (a0_1 != 0) = false := bne_eq_false_iff_eq.mpr c2
 clear c2
 have HC3 := Aside0.mk H
 clear H
 go_enter Try.func54, Try.ntmps54
 go_upto_block 0 with (first | ((with_reducible refine gate_dst (N := 1) rfl ?_); refine box_event ?hg (N := 1) ?hd (cs := #[.string a0_0, .int .i64 a0_1]) (t := 99) ?hr ?_; (case hd => rfl); (case hg => rfl); (case hr => first | (go_simp; done) | (go_simp; rfl)); intro gb210 hg w4 hbox hb; have n0_ := Aside0.mk (below_step (by repeat (first | (with_reducible first | exact HB.out | apply below_alloc | apply pw_below_drewN | apply below_drew1) | exact HB.out)) hb); have n1_ := Aside0.mk (hbox); have n2_ := Aside0.mk ((by rw [hg]; exact (below_size (by repeat (first | (with_reducible first | exact HB.out | apply below_alloc | apply pw_below_drewN | apply below_drew1) | exact HB.out))) : w.heap.size ≤ gb210)); have n3_ := Aside0.mk ((by rw [hg]; exact (below_size (by repeat (first | (with_reducible first | exact HB.out | apply below_alloc | apply pw_below_drewN | apply below_drew1) | exact HB.out))) : w.heap.size ≤ gb210)); clear HB; have HB := n0_; have BK210 := n1_; have GW210 := n2_; have GE210 := n3_; clear n0_ n1_ n2_ n3_; clear hb hbox hg) | ((with_reducible refine gate_dst (N := 2) rfl ?_); refine box_event ?hg (N := 2) ?hd (cs := #[.string (⟨#[]⟩ : ByteArray), .int .i64 0]) (t := 99) ?hr ?_; (case hd => rfl); (case hg => rfl); (case hr => first | (go_simp; done) | (go_simp; rfl)); intro gb211 hg w5 hbox hb; have n0_ := Aside0.mk (blk_below (g := gb210) (o := .cells #[.string a0_0, .int .i64 a0_1] 99 (0, 0)) (by (with_reducible repeat (first | refine blk_drewN ?_ _ | refine blk_drew ?_ | refine blk_alloc ?_ _)); exact BK210.out) hb); have n1_ := Aside0.mk (below_step (by repeat (first | (with_reducible first | exact HB.out | apply below_alloc | apply pw_below_drewN | apply below_drew1 | refine below_set ?_ GE210.out) | exact HB.out)) hb); have n2_ := Aside0.mk (hbox); have n3_ := Aside0.mk ((by rw [hg]; exact (below_size (by repeat (first | (with_reducible first | exact HB.out | apply below_alloc | apply pw_below_drewN | apply below_drew1 | refine below_set ?_ GE210.out) | exact HB.out))) : w.heap.size ≤ gb211)); have n4_ := Aside0.mk ((by rw [hg]; exact (below_size (by repeat (first | (with_reducible first | exact HB.out | apply below_alloc | apply pw_below_drewN | apply below_drew1 | refine below_set ?_ GE210.out) | exact HB.out))) : w.heap.size ≤ gb211)); have n5_ := Aside0.mk ((by rw [hg]; exact Nat.ne_of_lt (blk_lt (g := gb210) (o := .cells #[.string a0_0, .int .i64 a0_1] 99 (0, 0)) (by (with_reducible repeat (first | refine blk_drewN ?_ _ | refine blk_drew ?_ | refine blk_alloc ?_ _)); exact BK210.out)) : gb210 ≠ gb211)); have n6_ := Aside0.mk ((by rw [hg]; exact Nat.ne_of_gt (blk_lt (g := gb210) (o := .cells #[.string a0_0, .int .i64 a0_1] 99 (0, 0)) (by (with_reducible repeat (first | refine blk_drewN ?_ _ | refine blk_drew ?_ | refine blk_alloc ?_ _)); exact BK210.out)) : gb211 ≠ gb210)); clear BK210; clear HB; have BK210 := n0_; have HB := n1_; have BK211 := n2_; have GW211 := n3_; have GE211 := n4_; have NB210_211 := n5_; have NB211_210 := n6_; clear n0_ n1_ n2_ n3_ n4_ n5_ n6_; clear hb hbox hg; have hnb6 := NB210_211.out; have hnc6 := NB211_210.out; have hcz7_0 : w5.cell? ⟨gb210, 0, none⟩ = some (.string a0_0) := (blk_cell BK210.out 0).trans rfl; have hcz7_1 : w5.cell? ⟨gb210, 1, none⟩ = some (.int .i64 a0_1) := (blk_cell BK210.out 1).trans rfl; have hfz7_0 := blk_frozen BK210.out 0; have hfz7_1 := blk_frozen BK210.out 1))
 (try simp only [Act.put, List.setIfInBounds_toArray, List.set_cons_zero, List.set_cons_succ])
 go_cut [4] (fun v4 wc => ∃ (kq : Nat) (x4_2 : Int), v4 = .int .i64 x4_2 ∧ Aside0 (spliceref01_Reader_Num.j1 kq x4_2 a0_0 a0_1 = some (r1, r2, r3)) ∧ Aside0 (kq ≤ k) ∧ Aside0 (wc.heap[gb210]? = some (.cells #[.string a0_0, .int .i64 a0_1] 99 (0, 0))) ∧ Aside0 (wc.heap[gb211]? = some (.cells #[.string (⟨#[]⟩ : ByteArray), .int .i64 0] 99 (0, 0))) ∧ Aside0 (Below w.heap.size w wc))
 case first =>
   have H := HC3.out
   clear HC3
   have H' := Aside0.mk H
   clear H
   go_wp2
   go_loopg [4] k (fun kq v4 w' => ∃ (x4_1 : Int), v4 = .int .i64 x4_1 ∧ Aside0 (spliceref01_Reader_Num.l0 kq x4_1 a0_0 a0_1 = some (r1, r2, r3)) ∧ Aside0 (kq ≤ k) ∧ Aside0 (w'.heap[gb210]? = some (.cells #[.string a0_0, .int .i64 a0_1] 99 (0, 0))) ∧ Aside0 (w'.heap[gb211]? = some (.cells #[.string (⟨#[]⟩ : ByteArray), .int .i64 0] 99 (0, 0))) ∧ Aside0 (Below w.heap.size w w'))
   case atStart => exact ⟨(0), (by first | rfl | (simp; done) | (simp [*]; done)), H', ⟨Nat.le_refl _⟩, ⟨by (with_reducible repeat (first | refine blk_drewN ?_ _ | refine blk_drew ?_ | refine blk_alloc ?_ _)); exact BK210.out⟩, ⟨by (with_reducible repeat (first | refine blk_drewN ?_ _ | refine blk_drew ?_ | refine blk_alloc ?_ _)); exact BK211.out⟩, ⟨by repeat (first | (with_reducible first | exact HB.out | apply below_alloc | apply pw_below_drewN | apply below_drew1 | refine below_set ?_ GE210.out | refine below_set ?_ GE211.out) | exact HB.out)⟩⟩
   clear H'
   try clear c2
   try clear c2b0
   try clear c2b1
   try clear p2
   try clear c5
   try clear c6
   try clear hcz7_0
   try clear hcz7_1
   try clear hfz7_0
   try clear hfz7_1
   obtain ⟨x4_1, rfl, HA, HK1, BK210, BK211, HB⟩ := hrel
   cases gk with
   | zero => exact absurd HA.out (by simp [spliceref01_Reader_Num.l0])
   | succ k1 => ?_
   have H := HA.out
   clear HA; simp only [spliceref01_Reader_Num.l0] at H
   by_cases c8 : x4_1 < (a0_0.size : Int)
   rotate_left
   · rw [if_neg c8] at H
     have c8b0 : decide (x4_1 < (a0_0.size : Int)) = false := decide_eq_false c8
     clear c8
     (first | rw [c8b0] | (simp only [i64_w, i32_w]; rw [c8b0]) | skip)
     have H' := Aside0.mk H
     clear H
     have hnb19 := NB210_211.out
     have hnc19 := NB211_210.out
     have hcz20_0 : wr.cell? ⟨gb210, 0, none⟩ = some (.string a0_0) := (blk_cell BK210.out 0).trans rfl
     have hcz20_1 : wr.cell? ⟨gb210, 1, none⟩ = some (.int .i64 a0_1) := (blk_cell BK210.out 1).trans rfl
     have hfz20_0 := blk_frozen BK210.out 0
     have hfz20_1 := blk_frozen BK210.out 1
     go_wp2
     go_meet
     case rel => exact ⟨_, (x4_1), (by first | rfl | (simp; done) | (simp [*]; done)), H', ⟨by have := HK1.out; first | omega | exact Nat.le_refl _⟩, ⟨by (with_reducible repeat (first | refine blk_drewN ?_ _ | refine blk_drew ?_ | refine blk_alloc ?_ _)); exact BK210.out⟩, ⟨by (with_reducible repeat (first | refine blk_drewN ?_ _ | refine blk_drew ?_ | refine blk_alloc ?_ _)); exact BK211.out⟩, ⟨by repeat (first | (with_reducible first | exact HB.out | apply below_alloc | apply pw_below_drewN | apply below_drew1 | refine below_set ?_ GE210.out | refine below_set ?_ GE211.out) | exact HB.out)⟩⟩
   rw [if_pos c8] at H
   have c8b0 : decide (x4_1 < (a0_0.size : Int)) = true := decide_eq_true c8
   clear c8
   (first | rw [c8b0] | (simp only [i64_w, i32_w]; rw [c8b0]) | skip)
   by_cases c9 : x4_1 < 9
   rotate_left
   · rw [if_neg c9] at H
     have c9b0 : decide (x4_1 < 9) = false := decide_eq_false c9
     clear c9
     have H' := Aside0.mk H
     clear H
     have hnb17 := NB210_211.out
     have hnc17 := NB211_210.out
     have hcz18_0 : wr.cell? ⟨gb210, 0, none⟩ = some (.string a0_0) := (blk_cell BK210.out 0).trans rfl
     have hcz18_1 : wr.cell? ⟨gb210, 1, none⟩ = some (.int .i64 a0_1) := (blk_cell BK210.out 1).trans rfl
     have hfz18_0 := blk_frozen BK210.out 0
     have hfz18_1 := blk_frozen BK210.out 1
     go_wp2
     go_meet
     case rel => exact ⟨_, (x4_1), (by first | rfl | (simp; done) | (simp [*]; done)), H', ⟨by have := HK1.out; first | omega | exact Nat.le_refl _⟩, ⟨by (with_reducible repeat (first | refine blk_drewN ?_ _ | refine blk_drew ?_ | refine blk_alloc ?_ _)); exact BK210.out⟩, ⟨by (with_reducible repeat (first | refine blk_drewN ?_ _ | refine blk_drew ?_ | refine blk_alloc ?_ _)); exact BK211.out⟩, ⟨by repeat (first | (with_reducible first | exact HB.out | apply below_alloc | apply pw_below_drewN | apply below_drew1 | refine below_set ?_ GE210.out | refine below_set ?_ GE211.out) | exact HB.out)⟩⟩
   rw [if_pos c9] at H
   have c9b0 : decide (x4_1 < 9) = true := decide_eq_true c9
   clear c9
   by_cases c10 : 0 ≤ x4_1
   rotate_left
   · rw [if_neg c10] at H; exact absurd H (by simp)
   rw [if_pos c10] at H
   have c10b0 : decide (0 ≤ x4_1) = true := decide_eq_true c10
   clear c10
   by_cases c12 : (bt a0_0 x4_1) > 127
   rotate_left
   · rw [if_neg c12] at H
     have c12b0 : decide (127 < (bt a0_0 x4_1)) = false := decide_eq_false c12
     clear c12
     have H' := Aside0.mk H
     clear H
     have hnb15 := NB210_211.out
     have hnc15 := NB211_210.out
     have hcz16_0 : wr.cell? ⟨gb210, 0, none⟩ = some (.string a0_0) := (blk_cell BK210.out 0).trans rfl
     have hcz16_1 : wr.cell? ⟨gb210, 1, none⟩ = some (.int .i64 a0_1) := (blk_cell BK210.out 1).trans rfl
     have hfz16_0 := blk_frozen BK210.out 0
     have hfz16_1 := blk_frozen BK210.out 1
     have p11 : 0 ≤ (x4_1 : Int) := of_decide_eq_true (by first | (with_reducible assumption) | assumption)
     have q11 : x4_1 < (a0_0.size : Int) := of_decide_eq_true (by first | (with_reducible assumption) | assumption)
     have hx11 := bt_at a0_0 x4_1
     replace p11 := eq_true p11
     replace q11 := eq_true q11
     go_wp2
     go_meet
     case rel => exact ⟨_, (x4_1), (by first | rfl | (simp; done) | (simp [*]; done)), H', ⟨by have := HK1.out; first | omega | exact Nat.le_refl _⟩, ⟨by (with_reducible repeat (first | refine blk_drewN ?_ _ | refine blk_drew ?_ | refine blk_alloc ?_ _)); exact BK210.out⟩, ⟨by (with_reducible repeat (first | refine blk_drewN ?_ _ | refine blk_drew ?_ | refine blk_alloc ?_ _)); exact BK211.out⟩, ⟨by repeat (first | (with_reducible first | exact HB.out | apply below_alloc | apply pw_below_drewN | apply below_drew1 | refine below_set ?_ GE210.out | refine below_set ?_ GE211.out) | exact HB.out)⟩⟩
   rw [if_pos c12] at H
   have c12b0 : decide (127 < (bt a0_0 x4_1)) = true := decide_eq_true c12
   clear c12
   have H' := Aside0.mk H
   clear H
   have hnb13 := NB210_211.out
   have hnc13 := NB211_210.out
   have hcz14_0 : wr.cell? ⟨gb210, 0, none⟩ = some (.string a0_0) := (blk_cell BK210.out 0).trans rfl
   have hcz14_1 : wr.cell? ⟨gb210, 1, none⟩ = some (.int .i64 a0_1) := (blk_cell BK210.out 1).trans rfl
   have hfz14_0 := blk_frozen BK210.out 0
   have hfz14_1 := blk_frozen BK210.out 1
   have p11 : 0 ≤ (x4_1 : Int) := of_decide_eq_true (by first | (with_reducible assumption) | assumption)
   have q11 : x4_1 < (a0_0.size : Int) := of_decide_eq_true (by first | (with_reducible assumption) | assumption)
   have hx11 := bt_at a0_0 x4_1
   replace p11 := eq_true p11
   replace q11 := eq_true q11
   go_wp2
   go_roundg k1
   case measure => have := HK1.out; omega
   case rel => exact ⟨(wrap64 (x4_1 + 1)), (by first | rfl | (simp; done) | (simp [*]; done)), H', ⟨by have := HK1.out; omega⟩, ⟨by (with_reducible repeat (first | refine blk_drewN ?_ _ | refine blk_drew ?_ | refine blk_alloc ?_ _)); exact BK210.out⟩, ⟨by (with_reducible repeat (first | refine blk_drewN ?_ _ | refine blk_drew ?_ | refine blk_alloc ?_ _)); exact BK211.out⟩, ⟨by repeat (first | (with_reducible first | exact HB.out | apply below_alloc | apply pw_below_drewN | apply below_drew1 | refine below_set ?_ GE210.out | refine below_set ?_ GE211.out) | exact HB.out)⟩⟩
 clear HC3
 try clear c1
 try clear p1
 try clear q1
 try clear hx1
 try clear c2
 try clear c2b0
 try clear c2b1
 try clear p2
 try clear c5
 try clear c6
 try clear p6
 try clear c8
 try clear c8b0
 try clear c9
 try clear c9b0
 try clear c10
 try clear c10b0
 try clear p11
 try clear q11
 try clear hx11
 try clear c12
 try clear c12b0
 try clear c13
 try clear c15
 try clear c17
 try clear c19
 try clear hcz14_0
 try clear hcz14_1
 try clear hcz16_0
 try clear hcz16_1
 try clear hcz18_0
 try clear hcz18_1
 try clear hcz20_0
 try clear hcz20_1
 try clear hcz7_0
 try clear hcz7_1
 try clear hfz14_0
 try clear hfz14_1
 try clear hfz16_0
 try clear hfz16_1
 try clear hfz18_0
 try clear hfz18_1
 try clear hfz20_0
 try clear hfz20_1
 try clear hfz7_0
 try clear hfz7_1
 try clear p11
 try clear p2
 try clear q11
 obtain ⟨kq, x4_2, rfl, HA, HJ2, BK210, BK211, HB⟩ := hcut
 cases kq with
 | zero => exact absurd HA.out (by simp [spliceref01_Reader_Num.j1])
 | succ kj2 => ?_
 have H := HA.out
 clear HA; simp only [spliceref01_Reader_Num.j1] at H
 by_cases c21 : x4_2 = (a0_0.size : Int)
 · rw [if_pos c21] at H
   have c21b0 : (x4_2 == (a0_0.size : Int)) = true := beq_iff_eq.mpr c21
   have c21b1 : (x4_2 != (a0_0.size : Int)) = false := bne_eq_false_iff_eq.mpr c21
   clear c21
   replace H := Option.bind_eq_some_iff.mp H
   obtain ⟨⟨t212, t213⟩, A220, H⟩ := H
   replace H : (some (t212, t213, 0)) = some (r1, r2, r3) := H
   have A22 := Aside0.mk A220
   clear A220; simp only [Option.some.injEq, Prod.mk.injEq] at H
   obtain ⟨rfl, rfl, rfl⟩ := H
   have hnb23 := NB210_211.out
   have hnc23 := NB211_210.out
   have hcz24_0 : wc.cell? ⟨gb210, 0, none⟩ = some (.string a0_0) := (blk_cell BK210.out 0).trans rfl
   have hcz24_1 : wc.cell? ⟨gb210, 1, none⟩ = some (.int .i64 a0_1) := (blk_cell BK210.out 1).trans rfl
   have hfz24_0 := blk_frozen BK210.out 0
   have hfz24_1 := blk_frozen BK210.out 1
   go_wp2_with (first | ((with_reducible refine gate_callee (f := 67) rfl ?_); refine goesL_ (some 34) rfl rfl Try.func67 (by kernel_rfl) rfl #[.int .i64 5] rfl (by (try simp only [List.map_toArray, List.map_cons, List.map_nil]); first | done | rfl | (simp only [List.length_drop, List.length_take]; rfl)) ?_; (with_reducible refine (spliceref01_fail.calls 5 t212 t213 _ A22.out).mono ?_); rintro e w25 ⟨rfl, hb⟩; refine ⟨_, rfl, ?_⟩; have n0_ := Aside0.mk (blk_below (g := gb210) (o := .cells #[.string a0_0, .int .i64 a0_1] 99 (0, 0)) (by (with_reducible repeat (first | refine blk_drewN ?_ _ | refine blk_drew ?_ | refine blk_alloc ?_ _)); exact BK210.out) hb); have n1_ := Aside0.mk (blk_below (g := gb211) (o := .cells #[.string (⟨#[]⟩ : ByteArray), .int .i64 0] 99 (0, 0)) (by (with_reducible repeat (first | refine blk_drewN ?_ _ | refine blk_drew ?_ | refine blk_alloc ?_ _)); exact BK211.out) hb); have n2_ := Aside0.mk (below_step (by repeat (first | (with_reducible first | exact HB.out | apply below_alloc | apply pw_below_drewN | apply below_drew1 | refine below_set ?_ GE210.out | refine below_set ?_ GE211.out) | exact HB.out)) hb); clear BK210; clear BK211; clear HB; have BK210 := n0_; have BK211 := n1_; have HB := n2_; clear n0_ n1_ n2_; (try clear hb); (try clear hb2); (try clear hk); (try clear hi); have hcz26_0 : w25.cell? ⟨gb211, 0, none⟩ = some (.string (⟨#[]⟩ : ByteArray)) := (blk_cell BK211.out 0).trans rfl; have hcz26_1 : w25.cell? ⟨gb211, 1, none⟩ = some (.int .i64 0) := (blk_cell BK211.out 1).trans rfl; have hfz26_0 := blk_frozen BK211.out 0; have hfz26_1 := blk_frozen BK211.out 1))
   refine bodyPost_ret (results_ct rfl _ _ gb211 99 #[.string t212, .int .i64 t213] (0, 0) _ rfl (by (with_reducible repeat (first | refine blk_drewN ?_ _ | refine blk_drew ?_ | refine blk_alloc ?_ _)); refine blk_put (cs := #[.string t212, .int .i64 0]) ?_ 1 _ rfl; (with_reducible repeat (first | refine blk_drewN ?_ _ | refine blk_drew ?_ | refine blk_alloc ?_ _)); refine blk_put (cs := #[.string (⟨#[]⟩ : ByteArray), .int .i64 0]) ?_ 0 _ rfl; (with_reducible repeat (first | refine blk_drewN ?_ _ | refine blk_drew ?_ | refine blk_alloc ?_ _)); exact BK211.out) Try.underlying99 rfl (by kernel_rfl)) rfl ?_
   exact ⟨by first | rfl | (simp [errW_none, errW_some] <;> rfl) | (simp [*, errW_none, errW_some] <;> rfl), by repeat (first | (with_reducible first | exact HB.out | apply below_alloc | apply pw_below_drewN | apply below_drew1 | refine below_set ?_ GE210.out | refine below_set ?_ GE211.out) | exact HB.out)⟩
 rw [if_neg c21] at H
 have c21b0 : (x4_2 == (a0_0.size : Int)) = false := beq_eq_false_iff_ne.mpr c21
 have c21b1 : (x4_2 != (a0_0.size : Int)) = true := bne_iff_ne.mpr c21
 have HC27 := Aside0.mk H
 clear H
 have hnb28 := NB210_211.out
 have hnc28 := NB211_210.out
 have hcz29_0 : wc.cell? ⟨gb210, 0, none⟩ = some (.string a0_0) := (blk_cell BK210.out 0).trans rfl
 have hcz29_1 : wc.cell? ⟨gb210, 1, none⟩ = some (.int .i64 a0_1) := (blk_cell BK210.out 1).trans rfl
 have hfz29_0 := blk_frozen BK210.out 0
 have hfz29_1 := blk_frozen BK210.out 1
 go_upto_region 8 with (fail)
 go_cut [47] (fun v47 wc => ∃ (kq : Nat) (x47_26 : Bool), v47 = .bool x47_26 ∧ Aside0 (spliceref01_Reader_Num.j2 kq x4_2 x47_26 a0_0 a0_1 = some (r1, r2, r3)) ∧ Aside0 (kq ≤ kj2) ∧ Aside0 (wc.heap[gb210]? = some (.cells #[.string a0_0, .int .i64 a0_1] 99 (0, 0))) ∧ Aside0 (wc.heap[gb211]? = some (.cells #[.string (⟨#[]⟩ : ByteArray), .int .i64 0] 99 (0, 0))) ∧ Aside0 (Below w.heap.size w wc))
 case first =>
   have H := HC27.out
   clear HC27
   by_cases c30 : x4_2 = 9
   · rw [if_pos c30] at H
     have c30b0 : (x4_2 == 9) = true := beq_iff_eq.mpr c30
     have c30b1 : (x4_2 != 9) = false := bne_eq_false_iff_eq.mpr c30
     clear c30
     (first | rw [c30b0] | (simp only [i64_w, i32_w]; rw [c30b0]) | skip)
     have H' := Aside0.mk H
     clear H
     go_wp2
     go_meet
     case rel => exact ⟨_, (true), (by first | rfl | (simp; done) | (simp [*]; done)), H', ⟨by have := HJ2.out; first | omega | exact Nat.le_refl _⟩, ⟨by (with_reducible repeat (first | refine blk_drewN ?_ _ | refine blk_drew ?_ | refine blk_alloc ?_ _)); exact BK210.out⟩, ⟨by (with_reducible repeat (first | refine blk_drewN ?_ _ | refine blk_drew ?_ | refine blk_alloc ?_ _)); exact BK211.out⟩, ⟨by repeat (first | (with_reducible first | exact HB.out | apply below_alloc | apply pw_below_drewN | apply below_drew1 | refine below_set ?_ GE210.out | refine below_set ?_ GE211.out) | exact HB.out)⟩⟩
   rw [if_neg c30] at H
   have c30b0 : (x4_2 == 9) = false := beq_eq_false_iff_ne.mpr c30
   have c30b1 : (x4_2 != 9) = true := bne_iff_ne.mpr c30
   (first | rw [c30b0] | (simp only [i64_w, i32_w]; rw [c30b0]) | skip)
   by_cases c31 : x4_2 > 0
   rotate_left
   · rw [if_neg c31] at H
     have c31b0 : decide (0 < x4_2) = false := decide_eq_false c31
     clear c31
     have H' := Aside0.mk H
     clear H
     go_wp2
     go_meet
     case rel => exact ⟨_, (false), (by first | rfl | (simp; done) | (simp [*]; done)), H', ⟨by have := HJ2.out; first | omega | exact Nat.le_refl _⟩, ⟨by (with_reducible repeat (first | refine blk_drewN ?_ _ | refine blk_drew ?_ | refine blk_alloc ?_ _)); exact BK210.out⟩, ⟨by (with_reducible repeat (first | refine blk_drewN ?_ _ | refine blk_drew ?_ | refine blk_alloc ?_ _)); exact BK211.out⟩, ⟨by repeat (first | (with_reducible first | exact HB.out | apply below_alloc | apply pw_below_drewN | apply below_drew1 | refine below_set ?_ GE210.out | refine below_set ?_ GE211.out) | exact HB.out)⟩⟩
   rw [if_pos c31] at H
   have c31b0 : decide (0 < x4_2) = true := decide_eq_true c31
   clear c31
   by_cases c32 : 0 ≤ x4_2
   rotate_left
   · rw [if_neg c32] at H; exact absurd H (by simp)
   rw [if_pos c32] at H
   have c32b0 : decide (0 ≤ x4_2) = true := decide_eq_true c32
   clear c32
   by_cases c33 : x4_2 < (a0_0.size : Int)
   rotate_left
   · rw [if_neg c33] at H; exact absurd H (by simp)
   rw [if_pos c33] at H
   have c33b0 : decide (x4_2 < (a0_0.size : Int)) = true := decide_eq_true c33
   clear c33
   have H' := Aside0.mk H
   clear H
   have hnb35 := NB210_211.out
   have hnc35 := NB211_210.out
   have hcz36_0 : wc.cell? ⟨gb210, 0, none⟩ = some (.string a0_0) := (blk_cell BK210.out 0).trans rfl
   have hcz36_1 : wc.cell? ⟨gb210, 1, none⟩ = some (.int .i64 a0_1) := (blk_cell BK210.out 1).trans rfl
   have hfz36_0 := blk_frozen BK210.out 0
   have hfz36_1 := blk_frozen BK210.out 1
   have p34 : 0 ≤ (x4_2 : Int) := of_decide_eq_true (by first | (with_reducible assumption) | assumption)
   have q34 : x4_2 < (a0_0.size : Int) := of_decide_eq_true (by first | (with_reducible assumption) | assumption)
   have hx34 := bt_at a0_0 x4_2
   replace p34 := eq_true p34
   replace q34 := eq_true q34
   go_wp2
   go_meet
   case rel => exact ⟨_, (((bt a0_0 x4_2) == 0)), (by first | rfl | (simp; done) | (simp [*]; done)), H', ⟨by have := HJ2.out; first | omega | exact Nat.le_refl _⟩, ⟨by (with_reducible repeat (first | refine blk_drewN ?_ _ | refine blk_drew ?_ | refine blk_alloc ?_ _)); exact BK210.out⟩, ⟨by (with_reducible repeat (first | refine blk_drewN ?_ _ | refine blk_drew ?_ | refine blk_alloc ?_ _)); exact BK211.out⟩, ⟨by repeat (first | (with_reducible first | exact HB.out | apply below_alloc | apply pw_below_drewN | apply below_drew1 | refine below_set ?_ GE210.out | refine below_set ?_ GE211.out) | exact HB.out)⟩⟩
 clear HC27
 try clear c1
 try clear p1
 try clear q1
 try clear hx1
 try clear c2
 try clear c2b0
 try clear c2b1
 try clear p2
 try clear c3
 try clear p3
 try clear q3
 try clear hx3
 try clear c5
 try clear c6
 try clear p6
 try clear c8
 try clear c8b0
 try clear c9
 try clear c9b0
 try clear c10
 try clear c10b0
 try clear p11
 try clear q11
 try clear hx11
 try clear c12
 try clear c12b0
 try clear c13
 try clear c15
 try clear c17
 try clear c19
 try clear c21
 try clear c21b0
 try clear c21b1
 try clear c23
 try clear c28
 try clear c30
 try clear c30b0
 try clear c30b1
 try clear c31
 try clear c31b0
 try clear c32
 try clear c32b0
 try clear c33
 try clear c33b0
 try clear p34
 try clear q34
 try clear hx34
 try clear c35
 try clear hcz14_0
 try clear hcz14_1
 try clear hcz16_0
 try clear hcz16_1
 try clear hcz18_0
 try clear hcz18_1
 try clear hcz20_0
 try clear hcz20_1
 try clear hcz24_0
 try clear hcz24_1
 try clear hcz26_0
 try clear hcz26_1
 try clear hcz29_0
 try clear hcz29_1
 try clear hcz36_0
 try clear hcz36_1
 try clear hcz7_0
 try clear hcz7_1
 try clear hfz14_0
 try clear hfz14_1
 try clear hfz16_0
 try clear hfz16_1
 try clear hfz18_0
 try clear hfz18_1
 try clear hfz20_0
 try clear hfz20_1
 try clear hfz24_0
 try clear hfz24_1
 try clear hfz26_0
 try clear hfz26_1
 try clear hfz29_0
 try clear hfz29_1
 try clear hfz36_0
 try clear hfz36_1
 try clear hfz7_0
 try clear hfz7_1
 try clear p1
 try clear p11
 try clear p2
 try clear p34
 try clear p6
 try clear q1
 try clear q11
 try clear q34
 obtain ⟨kq, x47_26, rfl, HA, HJ26, BK210, BK211, HB⟩ := hcut
 cases kq with
 | zero => exact absurd HA.out (by simp [spliceref01_Reader_Num.j2])
 | succ kj26 => ?_
 have H := HA.out
 clear HA; simp only [spliceref01_Reader_Num.j2] at H
 by_cases c37 : x47_26 = true
 · subst c37
   have H1 : ((spliceref01_fail.f 3).bind fun bt214 => (some (bt214.1, bt214.2, 0))) = some (r1, r2, r3) := by rw [if_pos rfl] at H; exact H
   clear H
   have H := H1
   clear H1
   replace H := Option.bind_eq_some_iff.mp H
   obtain ⟨⟨t214, t215⟩, A380, H⟩ := H
   replace H : (some (t214, t215, 0)) = some (r1, r2, r3) := H
   have A38 := Aside0.mk A380
   clear A380; simp only [Option.some.injEq, Prod.mk.injEq] at H
   obtain ⟨rfl, rfl, rfl⟩ := H
   go_wp2_with (first | ((with_reducible refine gate_callee (f := 67) rfl ?_); refine goesL_ (some 48) rfl rfl Try.func67 (by kernel_rfl) rfl #[.int .i64 3] rfl (by (try simp only [List.map_toArray, List.map_cons, List.map_nil]); first | done | rfl | (simp only [List.length_drop, List.length_take]; rfl)) ?_; (with_reducible refine (spliceref01_fail.calls 3 t214 t215 _ A38.out).mono ?_); rintro e w39 ⟨rfl, hb⟩; refine ⟨_, rfl, ?_⟩; have n0_ := Aside0.mk (blk_below (g := gb210) (o := .cells #[.string a0_0, .int .i64 a0_1] 99 (0, 0)) (by (with_reducible repeat (first | refine blk_drewN ?_ _ | refine blk_drew ?_ | refine blk_alloc ?_ _)); exact BK210.out) hb); have n1_ := Aside0.mk (blk_below (g := gb211) (o := .cells #[.string (⟨#[]⟩ : ByteArray), .int .i64 0] 99 (0, 0)) (by (with_reducible repeat (first | refine blk_drewN ?_ _ | refine blk_drew ?_ | refine blk_alloc ?_ _)); exact BK211.out) hb); have n2_ := Aside0.mk (below_step (by repeat (first | (with_reducible first | exact HB.out | apply below_alloc | apply pw_below_drewN | apply below_drew1 | refine below_set ?_ GE210.out | refine below_set ?_ GE211.out) | exact HB.out)) hb); clear BK210; clear BK211; clear HB; have BK210 := n0_; have BK211 := n1_; have HB := n2_; clear n0_ n1_ n2_; (try clear hb); (try clear hb2); (try clear hk); (try clear hi); have hnb40 := NB211_210.out; have hnc40 := NB210_211.out; have hcz41_0 : w39.cell? ⟨gb211, 0, none⟩ = some (.string (⟨#[]⟩ : ByteArray)) := (blk_cell BK211.out 0).trans rfl; have hcz41_1 : w39.cell? ⟨gb211, 1, none⟩ = some (.int .i64 0) := (blk_cell BK211.out 1).trans rfl; have hfz41_0 := blk_frozen BK211.out 0; have hfz41_1 := blk_frozen BK211.out 1))
   refine bodyPost_ret (results_ct rfl _ _ gb211 99 #[.string t214, .int .i64 t215] (0, 0) _ rfl (by (with_reducible repeat (first | refine blk_drewN ?_ _ | refine blk_drew ?_ | refine blk_alloc ?_ _)); refine blk_put (cs := #[.string t214, .int .i64 0]) ?_ 1 _ rfl; (with_reducible repeat (first | refine blk_drewN ?_ _ | refine blk_drew ?_ | refine blk_alloc ?_ _)); refine blk_put (cs := #[.string (⟨#[]⟩ : ByteArray), .int .i64 0]) ?_ 0 _ rfl; (with_reducible repeat (first | refine blk_drewN ?_ _ | refine blk_drew ?_ | refine blk_alloc ?_ _)); exact BK211.out) Try.underlying99 rfl (by kernel_rfl)) rfl ?_
   exact ⟨by first | rfl | (simp [errW_none, errW_some] <;> rfl) | (simp [*, errW_none, errW_some] <;> rfl), by repeat (first | (with_reducible first | exact HB.out | apply below_alloc | apply pw_below_drewN | apply below_drew1 | refine below_set ?_ GE210.out | refine below_set ?_ GE211.out) | exact HB.out)⟩
 replace c37 := Bool.eq_false_iff.mpr c37
 subst c37
 have H1 : (spliceref01_Reader_Num.l1 kj26 x4_2 0 x4_2 a0_0 a0_1) = some (r1, r2, r3) := by rw [if_neg (show ¬ (false = true) by decide)] at H; exact H
 clear H
 have H := H1
 clear H1
 have H' := Aside0.mk H
 clear H
 go_wp2
 go_loopg [5, 6] kj26 (fun kq v5 v6 w' => ∃ (x5_3 : Int) (x6_3 : Int), v5 = .int .i64 x5_3 ∧ v6 = .int .i64 x6_3 ∧ Aside0 (spliceref01_Reader_Num.l1 kq x4_2 x5_3 x6_3 a0_0 a0_1 = some (r1, r2, r3)) ∧ Aside0 (kq ≤ kj26) ∧ Aside0 (w'.heap[gb210]? = some (.cells #[.string a0_0, .int .i64 a0_1] 99 (0, 0))) ∧ Aside0 (w'.heap[gb211]? = some (.cells #[.string (⟨#[]⟩ : ByteArray), .int .i64 0] 99 (0, 0))) ∧ Aside0 (Below w.heap.size w w'))
 case atStart => exact ⟨(0), (x4_2), (by first | rfl | (simp; done) | (simp [*]; done)), (by first | rfl | (simp; done) | (simp [*]; done)), H', ⟨Nat.le_refl _⟩, ⟨by (with_reducible repeat (first | refine blk_drewN ?_ _ | refine blk_drew ?_ | refine blk_alloc ?_ _)); exact BK210.out⟩, ⟨by (with_reducible repeat (first | refine blk_drewN ?_ _ | refine blk_drew ?_ | refine blk_alloc ?_ _)); exact BK211.out⟩, ⟨by repeat (first | (with_reducible first | exact HB.out | apply below_alloc | apply pw_below_drewN | apply below_drew1 | refine below_set ?_ GE210.out | refine below_set ?_ GE211.out) | exact HB.out)⟩⟩
 clear H'
 try clear c1
 try clear p1
 try clear q1
 try clear hx1
 try clear c2
 try clear c2b0
 try clear c2b1
 try clear p2
 try clear c3
 try clear p3
 try clear q3
 try clear hx3
 try clear c4
 try clear c5
 try clear c6
 try clear p6
 try clear c8
 try clear c8b0
 try clear c9
 try clear c9b0
 try clear c10
 try clear c10b0
 try clear p11
 try clear q11
 try clear hx11
 try clear c12
 try clear c12b0
 try clear c13
 try clear c15
 try clear c17
 try clear c19
 try clear c21
 try clear c21b0
 try clear c21b1
 try clear c23
 try clear c28
 try clear c30
 try clear c30b0
 try clear c30b1
 try clear c31
 try clear c31b0
 try clear c32
 try clear c32b0
 try clear c33
 try clear c33b0
 try clear p34
 try clear q34
 try clear hx34
 try clear c35
 try clear c37
 try clear c40
 try clear hcz14_0
 try clear hcz14_1
 try clear hcz16_0
 try clear hcz16_1
 try clear hcz18_0
 try clear hcz18_1
 try clear hcz20_0
 try clear hcz20_1
 try clear hcz24_0
 try clear hcz24_1
 try clear hcz26_0
 try clear hcz26_1
 try clear hcz29_0
 try clear hcz29_1
 try clear hcz36_0
 try clear hcz36_1
 try clear hcz41_0
 try clear hcz41_1
 try clear hcz7_0
 try clear hcz7_1
 try clear hfz14_0
 try clear hfz14_1
 try clear hfz16_0
 try clear hfz16_1
 try clear hfz18_0
 try clear hfz18_1
 try clear hfz20_0
 try clear hfz20_1
 try clear hfz24_0
 try clear hfz24_1
 try clear hfz26_0
 try clear hfz26_1
 try clear hfz29_0
 try clear hfz29_1
 try clear hfz36_0
 try clear hfz36_1
 try clear hfz41_0
 try clear hfz41_1
 try clear hfz7_0
 try clear hfz7_1
 try clear p1
 try clear p11
 try clear p2
 try clear p3
 try clear p34
 try clear p6
 try clear q1
 try clear q11
 try clear q3
 try clear q34
 obtain ⟨x5_3, x6_3, rfl, rfl, HA, HK3, BK210, BK211, HB⟩ := hrel
 cases gk with
 | zero => exact absurd HA.out (by simp [spliceref01_Reader_Num.l1])
 | succ k3 => ?_
 have H := HA.out
 clear HA; simp only [spliceref01_Reader_Num.l1] at H
 by_cases c42 : x6_3 ≥ 0
 · rw [if_pos c42] at H
   have c42b0 : decide (0 ≤ x6_3) = true := decide_eq_true c42
   clear c42
   by_cases c43 : 0 ≤ x6_3
   rotate_left
   · rw [if_neg c43] at H; exact absurd H (by simp)
   rw [if_pos c43] at H
   have c43b0 : decide (0 ≤ x6_3) = true := decide_eq_true c43
   clear c43
   by_cases c44 : x6_3 < (a0_0.size : Int)
   rotate_left
   · rw [if_neg c44] at H; exact absurd H (by simp)
   rw [if_pos c44] at H
   have c44b0 : decide (x6_3 < (a0_0.size : Int)) = true := decide_eq_true c44
   clear c44
   have H' := Aside0.mk H
   clear H
   have hnb46 := NB210_211.out
   have hnc46 := NB211_210.out
   have hcz47_0 : wr.cell? ⟨gb210, 0, none⟩ = some (.string a0_0) := (blk_cell BK210.out 0).trans rfl
   have hcz47_1 : wr.cell? ⟨gb210, 1, none⟩ = some (.int .i64 a0_1) := (blk_cell BK210.out 1).trans rfl
   have hfz47_0 := blk_frozen BK210.out 0
   have hfz47_1 := blk_frozen BK210.out 1
   have p45 : 0 ≤ (x6_3 : Int) := of_decide_eq_true (by first | (with_reducible assumption) | assumption)
   have q45 : x6_3 < (a0_0.size : Int) := of_decide_eq_true (by first | (with_reducible assumption) | assumption)
   have hx45 := bt_at a0_0 x6_3
   replace p45 := eq_true p45
   replace q45 := eq_true q45
   go_wp2
   go_roundg k3
   case measure => have := HJ2.out; have := HJ26.out; have := HK3.out; omega
   case rel => exact ⟨(wrap64 ((wrap64 (128 * x5_3)) + (Int.tmod (wrap64 (bt a0_0 x6_3)) 128))), (wrap64 (x6_3 - 1)), (by first | rfl | (simp; done) | (simp [*]; done)), (by first | rfl | (simp; done) | (simp [*]; done)), H', ⟨by have := HJ2.out; have := HJ26.out; have := HK3.out; omega⟩, ⟨by (with_reducible repeat (first | refine blk_drewN ?_ _ | refine blk_drew ?_ | refine blk_alloc ?_ _)); exact BK210.out⟩, ⟨by (with_reducible repeat (first | refine blk_drewN ?_ _ | refine blk_drew ?_ | refine blk_alloc ?_ _)); exact BK211.out⟩, ⟨by repeat (first | (with_reducible first | exact HB.out | apply below_alloc | apply pw_below_drewN | apply below_drew1 | refine below_set ?_ GE210.out | refine below_set ?_ GE211.out) | exact HB.out)⟩⟩
 rw [if_neg c42] at H
 have c42b0 : decide (0 ≤ x6_3) = false := decide_eq_false c42
 clear c42
 obtain ⟨ji48, hji48⟩ : ∃ j_ : Int, (wrap64 (x4_2 + 1)) = j_ := ⟨_, rfl⟩
 replace H : (if 0 ≤ (ji48) then (if (ji48) ≤ (a0_0.size : Int) then (some (a0_0.extract ((ji48) : Int).toNat a0_0.size, 0, x5_3)) else (none)) else (none)) = some (r1, r2, r3) := by first | (rw [hji48] at H; exact H) | (simp only [hji48] at H ⊢; exact H)
 have hji48w : (IntKind.i64.wrap (x4_2 + 1)) = ji48 := (i64_w _).trans hji48
 by_cases c49 : 0 ≤ (ji48)
 rotate_left
 · rw [if_neg c49] at H; exact absurd H (by simp)
 rw [if_pos c49] at H
 have c49b0 := eq_true c49
 have c49b1 : decide (0 ≤ (ji48)) = true := decide_eq_true c49
 clear c49
 by_cases c50 : (ji48) ≤ (a0_0.size : Int)
 rotate_left
 · rw [if_neg c50] at H; exact absurd H (by simp)
 rw [if_pos c50] at H
 have c50b0 := eq_true c50
 have c50b1 : decide ((ji48) ≤ (a0_0.size : Int)) = true := decide_eq_true c50
 clear c50; simp only [Option.some.injEq, Prod.mk.injEq] at H
 obtain ⟨rfl, rfl, rfl⟩ := H
 have hnb51 := NB210_211.out
 have hnc51 := NB211_210.out
 have hcz52_0 : wr.cell? ⟨gb210, 0, none⟩ = some (.string a0_0) := (blk_cell BK210.out 0).trans rfl
 have hcz52_1 : wr.cell? ⟨gb210, 1, none⟩ = some (.int .i64 a0_1) := (blk_cell BK210.out 1).trans rfl
 have hfz52_0 := blk_frozen BK210.out 0
 have hfz52_1 := blk_frozen BK210.out 1
 have hcz53_0 : wr.cell? ⟨gb211, 0, none⟩ = some (.string (⟨#[]⟩ : ByteArray)) := (blk_cell BK211.out 0).trans rfl
 have hcz53_1 : wr.cell? ⟨gb211, 1, none⟩ = some (.int .i64 0) := (blk_cell BK211.out 1).trans rfl
 have hfz53_0 := blk_frozen BK211.out 0
 have hfz53_1 := blk_frozen BK211.out 1
 go_wp2
 refine bodyPost_ret (results_ct rfl _ _ gb211 99 #[.string (a0_0.extract ((ji48) : Int).toNat a0_0.size), .int .i64 0] (0, 0) _ rfl (by (with_reducible repeat (first | refine blk_drewN ?_ _ | refine blk_drew ?_ | refine blk_alloc ?_ _)); refine blk_put (cs := #[.string (a0_0.extract ((ji48) : Int).toNat a0_0.size), .int .i64 0]) ?_ 1 _ rfl; (with_reducible repeat (first | refine blk_drewN ?_ _ | refine blk_drew ?_ | refine blk_alloc ?_ _)); refine blk_put (cs := #[.string (⟨#[]⟩ : ByteArray), .int .i64 0]) ?_ 0 _ rfl; (with_reducible repeat (first | refine blk_drewN ?_ _ | refine blk_drew ?_ | refine blk_alloc ?_ _)); exact BK211.out) Try.underlying99 rfl (by kernel_rfl)) rfl ?_
 exact ⟨by first | rfl | (simp [errW_none, errW_some] <;> rfl) | (simp only [← hji48]; first | rfl | (simp [errW_none, errW_some] <;> rfl)) | (simp [*, errW_none, errW_some] <;> rfl), by repeat (first | (with_reducible first | exact HB.out | apply below_alloc | apply pw_below_drewN | apply below_drew1 | refine below_set ?_ GE210.out | refine below_set ?_ GE211.out) | exact HB.out)⟩

/-! ### spliceref01_Reader_End: function 55 -/
def spliceref01_Reader_End.f (a0_0 : ByteArray) (a0_1 : Int) : Option (Int) := if a0_1 = 0 then (if a0_0.toList = ([] : List UInt8) then (some a0_1) else (some 2)) else (some a0_1)
set_option maxHeartbeats 8000000 in
set_option maxRecDepth 100000 in
theorem spliceref01_Reader_End.calls (a0_0 : ByteArray) (a0_1 : Int) (r : Int) (w : World) (h : spliceref01_Reader_End.f a0_0 a0_1 = some r) :
    Calls Try.prog 55 #[.agg #[.string a0_0, .int .i64 a0_1]] w fun e w' => e = .returned (.int .i64 r) ∧ Below w.heap.size w w' := by
  have hu99 := Try.underlying99
  have HB := Aside0.mk (Below.refl w.heap.size w)
  have H : (if a0_1 = 0 then (if a0_0.toList = ([] : List UInt8) then (some a0_1) else (some 2)) else (some a0_1)) = some r := h
  clear h
  by_cases c2 : a0_1 = 0
  · rw [if_pos c2] at H
    have c2b0 : (a0_1 == 0) = true := beq_iff_eq.mpr c2
    have c2b1 : (a0_1 != 0) = false := bne_eq_false_iff_eq.mpr c2
    clear c2
    by_cases c3 : a0_0.toList = ([] : List UInt8)
    · rw [if_pos c3] at H
      have c3b0 : (a0_0.toList == ([] : List UInt8)) = true := beq_iff_eq.mpr c3
      have c3b1 : (a0_0.toList != ([] : List UInt8)) = false := bne_eq_false_iff_eq.mpr c3
      clear c3
      obtain rfl := Option.some.inj H
      go_enter Try.func55, Try.ntmps55
      go_wp2_with (first | ((with_reducible refine gate_dst (N := 1) rfl ?_); refine box_event ?hg (N := 1) ?hd (cs := #[.string a0_0, .int .i64 a0_1]) (t := 99) ?hr ?_; (case hd => rfl); (case hg => rfl); (case hr => first | (go_simp; done) | (go_simp; rfl)); intro gb216 hg w4 hbox hb; have n0_ := Aside0.mk (below_step (by repeat (first | (with_reducible first | exact HB.out | apply below_alloc | apply pw_below_drewN | apply below_drew1) | exact HB.out)) hb); have n1_ := Aside0.mk (hbox); have n2_ := Aside0.mk ((by rw [hg]; exact (below_size (by repeat (first | (with_reducible first | exact HB.out | apply below_alloc | apply pw_below_drewN | apply below_drew1) | exact HB.out))) : w.heap.size ≤ gb216)); have n3_ := Aside0.mk ((by rw [hg]; exact (below_size (by repeat (first | (with_reducible first | exact HB.out | apply below_alloc | apply pw_below_drewN | apply below_drew1) | exact HB.out))) : w.heap.size ≤ gb216)); clear HB; have HB := n0_; have BK216 := n1_; have GW216 := n2_; have GE216 := n3_; clear n0_ n1_ n2_ n3_; clear hb hbox hg; have hcz5_0 : w4.cell? ⟨gb216, 0, none⟩ = some (.string a0_0) := (blk_cell BK216.out 0).trans rfl; have hcz5_1 : w4.cell? ⟨gb216, 1, none⟩ = some (.int .i64 a0_1) := (blk_cell BK216.out 1).trans rfl; have hfz5_0 := blk_frozen BK216.out 0; have hfz5_1 := blk_frozen BK216.out 1))
      go_ret
      exact ⟨by first | rfl | (simp [errW_none, errW_some] <;> rfl) | (simp [*, errW_none, errW_some] <;> rfl), by repeat (first | (with_reducible first | exact HB.out | apply below_alloc | apply pw_below_drewN | apply below_drew1 | refine below_set ?_ GE216.out) | exact HB.out)⟩
    · rw [if_neg c3] at H
      have c3b0 : (a0_0.toList == ([] : List UInt8)) = false := beq_eq_false_iff_ne.mpr c3
      have c3b1 : (a0_0.toList != ([] : List UInt8)) = true := bne_iff_ne.mpr c3
      obtain rfl := Option.some.inj H
      go_enter Try.func55, Try.ntmps55
      go_wp2_with (first | ((with_reducible refine gate_dst (N := 1) rfl ?_); refine box_event ?hg (N := 1) ?hd (cs := #[.string a0_0, .int .i64 a0_1]) (t := 99) ?hr ?_; (case hd => rfl); (case hg => rfl); (case hr => first | (go_simp; done) | (go_simp; rfl)); intro gb216 hg w6 hbox hb; have n0_ := Aside0.mk (below_step (by repeat (first | (with_reducible first | exact HB.out | apply below_alloc | apply pw_below_drewN | apply below_drew1) | exact HB.out)) hb); have n1_ := Aside0.mk (hbox); have n2_ := Aside0.mk ((by rw [hg]; exact (below_size (by repeat (first | (with_reducible first | exact HB.out | apply below_alloc | apply pw_below_drewN | apply below_drew1) | exact HB.out))) : w.heap.size ≤ gb216)); have n3_ := Aside0.mk ((by rw [hg]; exact (below_size (by repeat (first | (with_reducible first | exact HB.out | apply below_alloc | apply pw_below_drewN | apply below_drew1) | exact HB.out))) : w.heap.size ≤ gb216)); clear HB; have HB := n0_; have BK216 := n1_; have GW216 := n2_; have GE216 := n3_; clear n0_ n1_ n2_ n3_; clear hb hbox hg; have hcz7_0 : w6.cell? ⟨gb216, 0, none⟩ = some (.string a0_0) := (blk_cell BK216.out 0).trans rfl; have hcz7_1 : w6.cell? ⟨gb216, 1, none⟩ = some (.int .i64 a0_1) := (blk_cell BK216.out 1).trans rfl; have hfz7_0 := blk_frozen BK216.out 0; have hfz7_1 := blk_frozen BK216.out 1))
      go_ret
      exact ⟨by first | rfl | (simp [errW_none, errW_some] <;> rfl) | (simp [*, errW_none, errW_some] <;> rfl), by repeat (first | (with_reducible first | exact HB.out | apply below_alloc | apply pw_below_drewN | apply below_drew1 | refine below_set ?_ GE216.out) | exact HB.out)⟩
  · rw [if_neg c2] at H
    have c2b0 : (a0_1 == 0) = false := beq_eq_false_iff_ne.mpr c2
    have c2b1 : (a0_1 != 0) = true := bne_iff_ne.mpr c2
    obtain rfl := Option.some.inj H
    go_enter Try.func55, Try.ntmps55
    go_wp2_with (first | ((with_reducible refine gate_dst (N := 1) rfl ?_); refine box_event ?hg (N := 1) ?hd (cs := #[.string a0_0, .int .i64 a0_1]) (t := 99) ?hr ?_; (case hd => rfl); (case hg => rfl); (case hr => first | (go_simp; done) | (go_simp; rfl)); intro gb216 hg w8 hbox hb; have n0_ := Aside0.mk (below_step (by repeat (first | (with_reducible first | exact HB.out | apply below_alloc | apply pw_below_drewN | apply below_drew1) | exact HB.out)) hb); have n1_ := Aside0.mk (hbox); have n2_ := Aside0.mk ((by rw [hg]; exact (below_size (by repeat (first | (with_reducible first | exact HB.out | apply below_alloc | apply pw_below_drewN | apply below_drew1) | exact HB.out))) : w.heap.size ≤ gb216)); have n3_ := Aside0.mk ((by rw [hg]; exact (below_size (by repeat (first | (with_reducible first | exact HB.out | apply below_alloc | apply pw_below_drewN | apply below_drew1) | exact HB.out))) : w.heap.size ≤ gb216)); clear HB; have HB := n0_; have BK216 := n1_; have GW216 := n2_; have GE216 := n3_; clear n0_ n1_ n2_ n3_; clear hb hbox hg; have hcz9_0 : w8.cell? ⟨gb216, 0, none⟩ = some (.string a0_0) := (blk_cell BK216.out 0).trans rfl; have hcz9_1 : w8.cell? ⟨gb216, 1, none⟩ = some (.int .i64 a0_1) := (blk_cell BK216.out 1).trans rfl; have hfz9_0 := blk_frozen BK216.out 0; have hfz9_1 := blk_frozen BK216.out 1))
    go_ret
    exact ⟨by first | rfl | (simp [errW_none, errW_some] <;> rfl) | (simp [*, errW_none, errW_some] <;> rfl), by repeat (first | (with_reducible first | exact HB.out | apply below_alloc | apply pw_below_drewN | apply below_drew1 | refine below_set ?_ GE216.out) | exact HB.out)⟩

/-! ### variables that lie in memory, one block each -/
abbrev BxL := List (Nat × Array Value × TypeId)
structure Bx (w W : World) (l : BxL) : Prop where
  at_ : ∀ e ∈ l, W.heap[e.1]? = some (.cells e.2.1 e.2.2 (0, 0)) ∧ w.heap.size ≤ e.1
  nd : (l.map (fun e => e.1)).Nodup
  bel : Below w.heap.size w W
theorem Bx.start (w : World) : Bx w w [] := ⟨fun _ h => by simp at h, by simp, Below.refl _ _⟩
theorem Bx.get {w W : World} {l : BxL} (h : Bx w W l) (i : Nat) {e : Nat × Array Value × TypeId} (hi : l[i]? = some e) : W.heap[e.1]? = some (.cells e.2.1 e.2.2 (0, 0)) := (h.at_ e (List.mem_of_getElem? hi)).1
theorem Bx.lt {w W : World} {l : BxL} (h : Bx w W l) (e : Nat × Array Value × TypeId) (he : e ∈ l) : e.1 < W.heap.size := blk_lt (h.at_ e he).1
theorem Bx.below {w W W' : World} {l : BxL} (h : Bx w W l) (hb : Below W.heap.size W W') : Bx w W' l := ⟨fun e he => ⟨blk_below (h.at_ e he).1 hb, (h.at_ e he).2⟩, h.nd, h.bel.trans (hb.mono h.bel.size)⟩
theorem Bx.pushed {w W W' : World} {l : BxL} (h : Bx w W l) {g : Nat} {cs : Array Value} {t : TypeId} (hg : g = W.heap.size) (hx : W'.heap[g]? = some (.cells cs t (0, 0))) (hb : Below W.heap.size W W') : Bx w W' (l ++ [(g, cs, t)]) := by
  refine ⟨fun e he => ?_, ?_, h.bel.trans (hb.mono h.bel.size)⟩
  · rcases List.mem_append.1 he with he | he
    · exact (h.below hb).at_ e he
    · simp only [List.mem_singleton] at he
      subst he
      exact ⟨hx, by rw [hg]; exact h.bel.size⟩
  · rw [List.map_append, List.nodup_append]
    refine ⟨h.nd, by simp, fun a ha b hb2 => ?_⟩
    simp only [List.map_cons, List.map_nil, List.mem_singleton] at hb2
    obtain ⟨e, he, rfl⟩ := List.mem_map.1 ha
    have := h.lt e he
    omega
theorem Bx.push {w W : World} {l : BxL} (h : Bx w W l) (cs : Array Value) (t : TypeId) : Bx w (W.alloc (.cells cs t)) (l ++ [(W.heap.size, cs, t)]) := h.pushed rfl (blk_new W _) (below_alloc (Below.refl _ _) _)
theorem Bx.ge {w W : World} {l : BxL} (h : Bx w W l) (i : Nat) {e : Nat × Array Value × TypeId} (hi : l[i]? = some e) : w.heap.size ≤ e.1 := (h.at_ e (List.mem_of_getElem? hi)).2
theorem Bx.set {w W : World} {l : BxL} (h : Bx w W l) (i j : Nat) (v : Value) {g : Nat} {cs : Array Value} {t : TypeId} (hi : l[i]? = some (g, cs, t)) : Bx w (W.setCell ⟨g, j, none⟩ v) (l.set i (g, cs.setIfInBounds j v, t)) := by
  obtain ⟨hil, hie⟩ := List.getElem?_eq_some_iff.1 hi
  have hmap : (l.set i (g, cs.setIfInBounds j v, t)).map (fun e => e.1) = l.map (fun e => e.1) := by
    rw [List.map_set]
    refine List.ext_getElem? (fun n => ?_)
    rw [List.getElem?_set]
    by_cases e : i = n
    · subst e
      simp [hil, hie]
    · simp [e]
  refine ⟨fun e he => ?_, hmap ▸ h.nd, below_set h.bel (h.ge i (e := (g, cs, t)) hi)⟩
  obtain ⟨n, hn⟩ := List.mem_iff_getElem?.1 he
  rw [List.getElem?_set] at hn
  by_cases e1 : i = n
  · subst e1
    simp only [hil, if_true] at hn
    injection hn with hn
    subst hn
    exact ⟨blk_put (h.get i (e := (g, cs, t)) hi) j v rfl, h.ge i (e := (g, cs, t)) hi⟩
  · rw [if_neg e1] at hn
    have hne : e.1 ≠ g := by
      intro e2
      obtain ⟨hnl, hne⟩ := List.getElem?_eq_some_iff.1 hn
      have hp := List.pairwise_iff_getElem.1 h.nd
      rcases Nat.lt_or_gt_of_ne e1 with hlt | hlt
      · exact hp i n (by simpa using hil) (by simpa using hnl) hlt (by simp [hie, hne, e2])
      · exact hp n i (by simpa using hnl) (by simpa using hil) hlt (by simp [hie, hne, e2])
    exact ⟨blk_far (p := ⟨g, j, none⟩) (h.at_ e (List.mem_of_getElem? hn)).1 hne v, (h.at_ e (List.mem_of_getElem? hn)).2⟩
theorem Bx.take {w W : World} {l : BxL} (h : Bx w W l) (n : Nat) : Bx w W (l.take n) :=
  ⟨fun e he => h.at_ e (List.mem_of_mem_take he), by rw [List.map_take]; exact h.nd.sublist (List.take_sublist _ _), h.bel⟩
/-- none of these blocks -/
def Off (ns : List Nat) (k : Nat) : Prop := ∀ n ∈ ns, k ≠ n
theorem Bx.fresh {w W : World} {l : BxL} (h : Bx w W l) {ns : List Nat} (hn : ns = l.map (fun e => e.1)) : ∀ k, W.heap.size ≤ k → Off ns k := fun k hk n hm => by
  subst hn
  obtain ⟨e, he, rfl⟩ := List.mem_map.1 hm
  have := h.lt e he
  omega
section
variable {α : Type} {d : Kd α} {e base : Nat} {W W' w : World} {ns : List Nat} {v : Value} {xs : List α} {ok : Nat → Prop}
theorem R_setB (h : d.R e W base (Off ns) v xs) {g : Nat} (hg : g ∈ ns) (j : Nat) (u : Value) : d.R e (W.setCell ⟨g, j, none⟩ u) base (Off ns) v xs := Kd.R_far (p := ⟨g, j, none⟩) h (fun _ hk => hk g hg) u
theorem R_pushB (h : d.R e W base (Off ns) v xs) {g : Nat} (hg : g = W.heap.size) (hb : Below W.heap.size W W') : d.R e W' base (Off (ns ++ [g])) v xs :=
  Kd.R_below (Kd.R_mono (Kd.R_bound h) (fun k hk n hn => by
    rcases List.mem_append.1 hn with hn | hn
    · exact hk.1 n hn
    · simp only [List.mem_singleton] at hn
      have := hk.2.2.1
      omega)) hb
theorem R_newB {l : BxL} (HB : Bx w W l) (hn : ns = l.map (fun e => e.1)) (h : d.R e W' W.heap.size ok v xs) : d.R e W' w.heap.size (Off ns) v xs :=
  Kd.R_lower (Kd.R_mono (Kd.R_bound h) (fun k hk => HB.fresh hn k hk.2.1)) HB.bel.size
theorem R_offB (h : d.R e W base (Off ns) v xs) (ns' : List Nat) (hs : ∀ n ∈ ns', n ∈ ns) : d.R e W base (Off ns') v xs := Kd.R_mono h (fun _ hk n hn => hk n (hs n hn))
theorem Bx.grown {l : BxL} (HB : Bx w W l) (hn : ns = l.map (fun e => e.1)) (hr : ∀ k, v.ownBlock = some k → Off ns k) (hg : W.grownBy W' v.ownBlock) (hb : Below w.heap.size w W') : Bx w W' l := by
  refine ⟨fun e he => ⟨blk_grown (HB.at_ e he).1 hg (fun q => ?_), (HB.at_ e he).2⟩, HB.nd, hb⟩
  exact hr e.1 q.symm e.1 (by rw [hn]; exact List.mem_map.2 ⟨e, he, rfl⟩) rfl
end
theorem alloc_size (w : World) (o : Obj) : (w.alloc o).heap.size = w.heap.size + 1 := by simp

end Go.Proofs.Ytbhlphadcphapaa.PR
