-- written by a program of this session
import Derived.Test.YtbhlphadcphapaaPDx0
import Derived.Test.YtbhlphadcphapaaPDx7
namespace Go.Proofs.Ytbhlphadcphapaa.PD
open Go.RowKit Go.Proofs.Ytbhlphadcphapaa.Op Go.Proofs.YtbhlphadcphapaaW.PrintWords Go.Proofs.YtbhlphadcphapaaW.PrintLast Go.Proofs.YtbhlphadcphapaaW.PrintMore
attribute [local go_sem] max2_int min2_int max_two min_two max_three min_three max_four min_four   -- for this text's walks alone
set_option linter.unusedVariables false
set_option linter.unusedSimpArgs false

/-! ### spliceref08_Check: function 29 -/
mutual
def spliceref08_Check.j0 : Nat → Int → Bool → Int → Int → List (S82) → Option (Bool)
  | 0, _, _, _, _, _ => none
  | k + 1, x3, x35, x182000, x182001, x182002 => if x35 = true then (some false) else (spliceref08_Check.l0 k x3 0 x182000 x182001 x182002)
def spliceref08_Check.l0 : Nat → Int → Int → Int → Int → List (S82) → Option (Bool)
  | 0, _, _, _, _, _ => none
  | k + 1, x3, x4, x182000, x182001, x182002 => if x4 < x3 then (if 0 ≤ x4 then (if x4 < (x182002.length : Int) then (if ((rd_T82 x182002 x4).f0) < 1 then (spliceref08_Check.j2 k x3 x4 true x182000 x182001 x182002 ((rd_T82 x182002 x4).f0) ((rd_T82 x182002 x4).f1.f0) ((rd_T82 x182002 x4).f1.f1) ((rd_T82 x182002 x4).f2)) else (if ((rd_T82 x182002 x4).f0) ≥ x182001 then (spliceref08_Check.j2 k x3 x4 true x182000 x182001 x182002 ((rd_T82 x182002 x4).f0) ((rd_T82 x182002 x4).f1.f0) ((rd_T82 x182002 x4).f1.f1) ((rd_T82 x182002 x4).f2)) else (if ((rd_T82 x182002 x4).f2) < 0 then (spliceref08_Check.j2 k x3 x4 true x182000 x182001 x182002 ((rd_T82 x182002 x4).f0) ((rd_T82 x182002 x4).f1.f0) ((rd_T82 x182002 x4).f1.f1) ((rd_T82 x182002 x4).f2)) else (if ((rd_T82 x182002 x4).f2) > 4 then (spliceref08_Check.j2 k x3 x4 true x182000 x182001 x182002 ((rd_T82 x182002 x4).f0) ((rd_T82 x182002 x4).f1.f0) ((rd_T82 x182002 x4).f1.f1) ((rd_T82 x182002 x4).f2)) else ((spliceref03_One.f ((rd_T82 x182002 x4).f1.f0) ((rd_T82 x182002 x4).f1.f1)).bind fun t185 => (spliceref08_Check.j2 k x3 x4 (!t185) x182000 x182001 x182002 ((rd_T82 x182002 x4).f0) ((rd_T82 x182002 x4).f1.f0) ((rd_T82 x182002 x4).f1.f1) ((rd_T82 x182002 x4).f2))))))) else (none)) else (none)) else (if 0 ≤ (wrap64 (x3 - 1)) then (if (wrap64 (x3 - 1)) < (x182002.length : Int) then (some (((rd_T82 x182002 (wrap64 (x3 - 1))).f1.f1) == 4096)) else (none)) else (none))
def spliceref08_Check.j2 : Nat → Int → Int → Bool → Int → Int → List (S82) → Int → Int → Int → Int → Option (Bool)
  | 0, _, _, _, _, _, _, _, _, _, _ => none
  | k + 1, x3, x4, x71, x182000, x182001, x182002, x185000, x185001, x185002, x185003 => if x71 = true then (some false) else (if x4 = 0 then (if x185001 = 0 then (if x4 > 0 then (if 0 ≤ (wrap64 (x4 - 1)) then (if (wrap64 (x4 - 1)) < (x182002.length : Int) then (spliceref08_Check.j3 k x3 x4 (x185001 != ((rd_T82 x182002 (wrap64 (x4 - 1))).f1.f1)) x182000 x182001 x182002 x185000 x185001 x185002 x185003) else (none)) else (none)) else (spliceref08_Check.j3 k x3 x4 false x182000 x182001 x182002 x185000 x185001 x185002 x185003)) else (spliceref08_Check.j3 k x3 x4 true x182000 x182001 x182002 x185000 x185001 x185002 x185003)) else (if x4 > 0 then (if 0 ≤ (wrap64 (x4 - 1)) then (if (wrap64 (x4 - 1)) < (x182002.length : Int) then (spliceref08_Check.j3 k x3 x4 (x185001 != ((rd_T82 x182002 (wrap64 (x4 - 1))).f1.f1)) x182000 x182001 x182002 x185000 x185001 x185002 x185003) else (none)) else (none)) else (spliceref08_Check.j3 k x3 x4 false x182000 x182001 x182002 x185000 x185001 x185002 x185003)))
def spliceref08_Check.j3 : Nat → Int → Int → Bool → Int → Int → List (S82) → Int → Int → Int → Int → Option (Bool)
  | 0, _, _, _, _, _, _, _, _, _, _ => none
  | k + 1, x3, x4, x97, x182000, x182001, x182002, x185000, x185001, x185002, x185003 => if x97 = true then (some false) else (spliceref08_Check.l1 k x3 x4 0 x182000 x182001 x182002 x185000 x185001 x185002 x185003)
def spliceref08_Check.l1 : Nat → Int → Int → Int → Int → Int → List (S82) → Int → Int → Int → Int → Option (Bool)
  | 0, _, _, _, _, _, _, _, _, _, _ => none
  | k + 1, x3, x4, x6, x182000, x182001, x182002, x185000, x185001, x185002, x185003 => if x6 < x4 then (if 0 ≤ x6 then (if x6 < (x182002.length : Int) then (if ((rd_T82 x182002 x6).f0) = x185000 then (some false) else (spliceref08_Check.l1 k x3 x4 (wrap64 (x6 + 1)) x182000 x182001 x182002 x185000 x185001 x185002 x185003)) else (none)) else (none)) else (spliceref08_Check.l0 k x3 (wrap64 (x4 + 1)) x182000 x182001 x182002)
end
def spliceref08_Check.f (k : Nat) (a0_0 : Int) (a0_1 : Int) (l0_2 : List (S82)) : Option (Bool) := if a0_0 < 1 then (spliceref08_Check.j0 k (l0_2.length : Int) true a0_0 a0_1 l0_2) else (if a0_0 > 1073741824 then (spliceref08_Check.j0 k (l0_2.length : Int) true a0_0 a0_1 l0_2) else (if a0_1 < 1 then (spliceref08_Check.j0 k (l0_2.length : Int) true a0_0 a0_1 l0_2) else (if a0_1 > 65537 then (spliceref08_Check.j0 k (l0_2.length : Int) true a0_0 a0_1 l0_2) else (if (l0_2.length : Int) < 1 then (spliceref08_Check.j0 k (l0_2.length : Int) true a0_0 a0_1 l0_2) else (spliceref08_Check.j0 k (l0_2.length : Int) (decide ((l0_2.length : Int) > 24)) a0_0 a0_1 l0_2)))))
theorem spliceref08_Check.mono_l : ∀ k, (∀ y0 y1 y2 y3 y4, LeO (spliceref08_Check.j0 k y0 y1 y2 y3 y4) (spliceref08_Check.j0 (k + 1) y0 y1 y2 y3 y4)) ∧ (∀ y0 y1 y2 y3 y4, LeO (spliceref08_Check.l0 k y0 y1 y2 y3 y4) (spliceref08_Check.l0 (k + 1) y0 y1 y2 y3 y4)) ∧ (∀ y0 y1 y2 y3 y4 y5 y6 y7 y8 y9, LeO (spliceref08_Check.j2 k y0 y1 y2 y3 y4 y5 y6 y7 y8 y9) (spliceref08_Check.j2 (k + 1) y0 y1 y2 y3 y4 y5 y6 y7 y8 y9)) ∧ (∀ y0 y1 y2 y3 y4 y5 y6 y7 y8 y9, LeO (spliceref08_Check.j3 k y0 y1 y2 y3 y4 y5 y6 y7 y8 y9) (spliceref08_Check.j3 (k + 1) y0 y1 y2 y3 y4 y5 y6 y7 y8 y9)) ∧ (∀ y0 y1 y2 y3 y4 y5 y6 y7 y8 y9, LeO (spliceref08_Check.l1 k y0 y1 y2 y3 y4 y5 y6 y7 y8 y9) (spliceref08_Check.l1 (k + 1) y0 y1 y2 y3 y4 y5 y6 y7 y8 y9))
  | 0 => ⟨fun _ _ _ _ _ r h => by simp [spliceref08_Check.j0] at h, fun _ _ _ _ _ r h => by simp [spliceref08_Check.l0] at h, fun _ _ _ _ _ _ _ _ _ _ r h => by simp [spliceref08_Check.j2] at h, fun _ _ _ _ _ _ _ _ _ _ r h => by simp [spliceref08_Check.j3] at h, fun _ _ _ _ _ _ _ _ _ _ r h => by simp [spliceref08_Check.l1] at h⟩
  | k + 1 => by
    obtain ⟨ih0, ih1, ih2, ih3, ih4⟩ := spliceref08_Check.mono_l k
    refine ⟨?_, ?_, ?_, ?_, ?_⟩
    · intro y0 y1 y2 y3 y4
      unfold spliceref08_Check.j0
      repeat' first
      | (with_reducible exact ih0 _ _ _ _ _)
      | (with_reducible exact ih1 _ _ _ _ _)
      | (with_reducible exact ih2 _ _ _ _ _ _ _ _ _ _)
      | (with_reducible exact ih3 _ _ _ _ _ _ _ _ _ _)
      | (with_reducible exact ih4 _ _ _ _ _ _ _ _ _ _)
      | (with_reducible exact LeO.refl _)
      | (with_reducible exact LeO.none _)
      | (with_reducible refine LeO.ite ?_ ?_)
      | (with_reducible refine LeO.bind ?_ (fun _ => ?_))
      | exact ih0 _ _ _ _ _
      | exact ih1 _ _ _ _ _
      | exact ih2 _ _ _ _ _ _ _ _ _ _
      | exact ih3 _ _ _ _ _ _ _ _ _ _
      | exact ih4 _ _ _ _ _ _ _ _ _ _
      | exact LeO.none _
      | refine LeO.ite ?_ ?_
      | refine LeO.bind ?_ (fun _ => ?_)
    · intro y0 y1 y2 y3 y4
      unfold spliceref08_Check.l0
      repeat' first
      | (with_reducible exact ih0 _ _ _ _ _)
      | (with_reducible exact ih1 _ _ _ _ _)
      | (with_reducible exact ih2 _ _ _ _ _ _ _ _ _ _)
      | (with_reducible exact ih3 _ _ _ _ _ _ _ _ _ _)
      | (with_reducible exact ih4 _ _ _ _ _ _ _ _ _ _)
      | (with_reducible exact LeO.refl _)
      | (with_reducible exact LeO.none _)
      | (with_reducible refine LeO.ite ?_ ?_)
      | (with_reducible refine LeO.bind ?_ (fun _ => ?_))
      | exact ih0 _ _ _ _ _
      | exact ih1 _ _ _ _ _
      | exact ih2 _ _ _ _ _ _ _ _ _ _
      | exact ih3 _ _ _ _ _ _ _ _ _ _
      | exact ih4 _ _ _ _ _ _ _ _ _ _
      | exact LeO.none _
      | refine LeO.ite ?_ ?_
      | refine LeO.bind ?_ (fun _ => ?_)
    · intro y0 y1 y2 y3 y4 y5 y6 y7 y8 y9
      unfold spliceref08_Check.j2
      repeat' first
      | (with_reducible exact ih0 _ _ _ _ _)
      | (with_reducible exact ih1 _ _ _ _ _)
      | (with_reducible exact ih2 _ _ _ _ _ _ _ _ _ _)
      | (with_reducible exact ih3 _ _ _ _ _ _ _ _ _ _)
      | (with_reducible exact ih4 _ _ _ _ _ _ _ _ _ _)
      | (with_reducible exact LeO.refl _)
      | (with_reducible exact LeO.none _)
      | (with_reducible refine LeO.ite ?_ ?_)
      | (with_reducible refine LeO.bind ?_ (fun _ => ?_))
      | exact ih0 _ _ _ _ _
      | exact ih1 _ _ _ _ _
      | exact ih2 _ _ _ _ _ _ _ _ _ _
      | exact ih3 _ _ _ _ _ _ _ _ _ _
      | exact ih4 _ _ _ _ _ _ _ _ _ _
      | exact LeO.none _
      | refine LeO.ite ?_ ?_
      | refine LeO.bind ?_ (fun _ => ?_)
    · intro y0 y1 y2 y3 y4 y5 y6 y7 y8 y9
      unfold spliceref08_Check.j3
      repeat' first
      | (with_reducible exact ih0 _ _ _ _ _)
      | (with_reducible exact ih1 _ _ _ _ _)
      | (with_reducible exact ih2 _ _ _ _ _ _ _ _ _ _)
      | (with_reducible exact ih3 _ _ _ _ _ _ _ _ _ _)
      | (with_reducible exact ih4 _ _ _ _ _ _ _ _ _ _)
      | (with_reducible exact LeO.refl _)
      | (with_reducible exact LeO.none _)
      | (with_reducible refine LeO.ite ?_ ?_)
      | (with_reducible refine LeO.bind ?_ (fun _ => ?_))
      | exact ih0 _ _ _ _ _
      | exact ih1 _ _ _ _ _
      | exact ih2 _ _ _ _ _ _ _ _ _ _
      | exact ih3 _ _ _ _ _ _ _ _ _ _
      | exact ih4 _ _ _ _ _ _ _ _ _ _
      | exact LeO.none _
      | refine LeO.ite ?_ ?_
      | refine LeO.bind ?_ (fun _ => ?_)
    · intro y0 y1 y2 y3 y4 y5 y6 y7 y8 y9
      unfold spliceref08_Check.l1
      repeat' first
      | (with_reducible exact ih0 _ _ _ _ _)
      | (with_reducible exact ih1 _ _ _ _ _)
      | (with_reducible exact ih2 _ _ _ _ _ _ _ _ _ _)
      | (with_reducible exact ih3 _ _ _ _ _ _ _ _ _ _)
      | (with_reducible exact ih4 _ _ _ _ _ _ _ _ _ _)
      | (with_reducible exact LeO.refl _)
      | (with_reducible exact LeO.none _)
      | (with_reducible refine LeO.ite ?_ ?_)
      | (with_reducible refine LeO.bind ?_ (fun _ => ?_))
      | exact ih0 _ _ _ _ _
      | exact ih1 _ _ _ _ _
      | exact ih2 _ _ _ _ _ _ _ _ _ _
      | exact ih3 _ _ _ _ _ _ _ _ _ _
      | exact ih4 _ _ _ _ _ _ _ _ _ _
      | exact LeO.none _
      | refine LeO.ite ?_ ?_
      | refine LeO.bind ?_ (fun _ => ?_)
theorem spliceref08_Check.mono : ∀ a0 a1 a2 k, LeO (spliceref08_Check.f k a0 a1 a2) (spliceref08_Check.f (k + 1) a0 a1 a2) := by
  intro a0 a1 a2 k
  obtain ⟨ih0, ih1, ih2, ih3, ih4⟩ := spliceref08_Check.mono_l k
  unfold spliceref08_Check.f
  repeat' first
      | (with_reducible exact ih0 _ _ _ _ _)
      | (with_reducible exact ih1 _ _ _ _ _)
      | (with_reducible exact ih2 _ _ _ _ _ _ _ _ _ _)
      | (with_reducible exact ih3 _ _ _ _ _ _ _ _ _ _)
      | (with_reducible exact ih4 _ _ _ _ _ _ _ _ _ _)
      | (with_reducible exact LeO.refl _)
      | (with_reducible exact LeO.none _)
      | (with_reducible refine LeO.ite ?_ ?_)
      | (with_reducible refine LeO.bind ?_ (fun _ => ?_))
      | exact ih0 _ _ _ _ _
      | exact ih1 _ _ _ _ _
      | exact ih2 _ _ _ _ _ _ _ _ _ _
      | exact ih3 _ _ _ _ _ _ _ _ _ _
      | exact ih4 _ _ _ _ _ _ _ _ _ _
      | exact LeO.none _
      | refine LeO.ite ?_ ?_
      | refine LeO.bind ?_ (fun _ => ?_)
set_option maxHeartbeats 8000000 in
set_option maxRecDepth 100000 in
theorem spliceref08_Check.calls (k : Nat) (a0_0 : Int) (a0_1 : Int) (A0_2 : Option Addr) (c0_2 : Nat) (l0_2 : List (S82)) (r : Bool) (w : World) (hr0_2 : Kd.C k82 w A0_2 l0_2.length l0_2) (hc0_2 : l0_2.length ≤ c0_2) (h : spliceref08_Check.f k a0_0 a0_1 l0_2 = some r) :
    Calls Try.prog 29 #[.agg #[.int .i64 a0_0, .int .i64 a0_1, .slice A0_2 l0_2.length c0_2]] w fun e w' => e = .returned (.bool r) ∧ Below w.heap.size w w' := by
 have hu30 := Try.underlying30
 have hu82 := Try.underlying82
 have hu80 := Try.underlying80
 have HR0_2 := Aside0.mk hr0_2
 have HC0_2 := Aside0.mk hc0_2
 clear hr0_2 hc0_2
 have HB := Aside0.mk (Below.refl w.heap.size w)
 have H : (if a0_0 < 1 then (spliceref08_Check.j0 k (l0_2.length : Int) true a0_0 a0_1 l0_2) else (if a0_0 > 1073741824 then (spliceref08_Check.j0 k (l0_2.length : Int) true a0_0 a0_1 l0_2) else (if a0_1 < 1 then (spliceref08_Check.j0 k (l0_2.length : Int) true a0_0 a0_1 l0_2) else (if a0_1 > 65537 then (spliceref08_Check.j0 k (l0_2.length : Int) true a0_0 a0_1 l0_2) else (if (l0_2.length : Int) < 1 then (spliceref08_Check.j0 k (l0_2.length : Int) true a0_0 a0_1 l0_2) else (spliceref08_Check.j0 k (l0_2.length : Int) (decide ((l0_2.length : Int) > 24)) a0_0 a0_1 l0_2)))))) = some r := h
 clear h
 have HC2 := Aside0.mk H
 clear H
 go_enter Try.func29, Try.ntmps29
 go_upto_region 2 with (first | ((with_reducible refine gate_dst (N := 1) rfl ?_); refine box_event ?hg (N := 1) ?hd (cs := #[.int .i64 a0_0, .int .i64 a0_1, .slice A0_2 l0_2.length c0_2]) (t := 30) ?hr ?_; (case hd => rfl); (case hg => rfl); (case hr => first | (go_simp; done) | (go_simp; rfl)); intro gb181 hg w3 hbox hb; have n0_ := Aside0.mk (below_step (by repeat (first | (with_reducible first | exact HB.out | apply below_alloc | apply pw_below_drewN | apply below_drew1) | exact HB.out)) hb); have n1_ := Aside0.mk (hbox); have n2_ := Aside0.mk ((by rw [hg]; exact (below_size (by repeat (first | (with_reducible first | exact HB.out | apply below_alloc | apply pw_below_drewN | apply below_drew1) | exact HB.out))) : w.heap.size ≤ gb181)); have n3_ := Aside0.mk ((by rw [hg]; exact (below_size (by repeat (first | (with_reducible first | exact HB.out | apply below_alloc | apply pw_below_drewN | apply below_drew1) | exact HB.out))) : w.heap.size ≤ gb181)); clear HB; have HB := n0_; have BK181 := n1_; have GW181 := n2_; have GE181 := n3_; clear n0_ n1_ n2_ n3_; clear hb hbox hg; have hcz4_0 : w3.cell? ⟨gb181, 0, none⟩ = some (.int .i64 a0_0) := (blk_cell BK181.out 0).trans rfl; have hcz4_1 : w3.cell? ⟨gb181, 1, none⟩ = some (.int .i64 a0_1) := (blk_cell BK181.out 1).trans rfl; have hcz4_2 : w3.cell? ⟨gb181, 2, none⟩ = some (.slice A0_2 l0_2.length c0_2) := (blk_cell BK181.out 2).trans rfl; have hfz4_0 := blk_frozen BK181.out 0; have hfz4_1 := blk_frozen BK181.out 1; have hfz4_2 := blk_frozen BK181.out 2))
 repeat (go_quiet (first | ((with_reducible refine gate_dst (N := 1) rfl ?_); refine box_event ?hg (N := 1) ?hd (cs := #[.int .i64 a0_0, .int .i64 a0_1, .slice A0_2 l0_2.length c0_2]) (t := 30) ?hr ?_; (case hd => rfl); (case hg => rfl); (case hr => first | (go_simp; done) | (go_simp; rfl)); intro gb181 hg w3 hbox hb; have n0_ := Aside0.mk (below_step (by repeat (first | (with_reducible first | exact HB.out | apply below_alloc | apply pw_below_drewN | apply below_drew1) | exact HB.out)) hb); have n1_ := Aside0.mk (hbox); have n2_ := Aside0.mk ((by rw [hg]; exact (below_size (by repeat (first | (with_reducible first | exact HB.out | apply below_alloc | apply pw_below_drewN | apply below_drew1) | exact HB.out))) : w.heap.size ≤ gb181)); have n3_ := Aside0.mk ((by rw [hg]; exact (below_size (by repeat (first | (with_reducible first | exact HB.out | apply below_alloc | apply pw_below_drewN | apply below_drew1) | exact HB.out))) : w.heap.size ≤ gb181)); clear HB; have HB := n0_; have BK181 := n1_; have GW181 := n2_; have GE181 := n3_; clear n0_ n1_ n2_ n3_; clear hb hbox hg; have hcz4_0 : w3.cell? ⟨gb181, 0, none⟩ = some (.int .i64 a0_0) := (blk_cell BK181.out 0).trans rfl; have hcz4_1 : w3.cell? ⟨gb181, 1, none⟩ = some (.int .i64 a0_1) := (blk_cell BK181.out 1).trans rfl; have hcz4_2 : w3.cell? ⟨gb181, 2, none⟩ = some (.slice A0_2 l0_2.length c0_2) := (blk_cell BK181.out 2).trans rfl; have hfz4_0 := blk_frozen BK181.out 0; have hfz4_1 := blk_frozen BK181.out 1; have hfz4_2 := blk_frozen BK181.out 2)); go_upto_region 2 with (first | ((with_reducible refine gate_dst (N := 1) rfl ?_); refine box_event ?hg (N := 1) ?hd (cs := #[.int .i64 a0_0, .int .i64 a0_1, .slice A0_2 l0_2.length c0_2]) (t := 30) ?hr ?_; (case hd => rfl); (case hg => rfl); (case hr => first | (go_simp; done) | (go_simp; rfl)); intro gb181 hg w3 hbox hb; have n0_ := Aside0.mk (below_step (by repeat (first | (with_reducible first | exact HB.out | apply below_alloc | apply pw_below_drewN | apply below_drew1) | exact HB.out)) hb); have n1_ := Aside0.mk (hbox); have n2_ := Aside0.mk ((by rw [hg]; exact (below_size (by repeat (first | (with_reducible first | exact HB.out | apply below_alloc | apply pw_below_drewN | apply below_drew1) | exact HB.out))) : w.heap.size ≤ gb181)); have n3_ := Aside0.mk ((by rw [hg]; exact (below_size (by repeat (first | (with_reducible first | exact HB.out | apply below_alloc | apply pw_below_drewN | apply below_drew1) | exact HB.out))) : w.heap.size ≤ gb181)); clear HB; have HB := n0_; have BK181 := n1_; have GW181 := n2_; have GE181 := n3_; clear n0_ n1_ n2_ n3_; clear hb hbox hg; have hcz4_0 : w3.cell? ⟨gb181, 0, none⟩ = some (.int .i64 a0_0) := (blk_cell BK181.out 0).trans rfl; have hcz4_1 : w3.cell? ⟨gb181, 1, none⟩ = some (.int .i64 a0_1) := (blk_cell BK181.out 1).trans rfl; have hcz4_2 : w3.cell? ⟨gb181, 2, none⟩ = some (.slice A0_2 l0_2.length c0_2) := (blk_cell BK181.out 2).trans rfl; have hfz4_0 := blk_frozen BK181.out 0; have hfz4_1 := blk_frozen BK181.out 1; have hfz4_2 := blk_frozen BK181.out 2)))
 (try simp only [Act.put, List.setIfInBounds_toArray, List.set_cons_zero, List.set_cons_succ])
 go_cut [35] (fun v35 wc => ∃ (kq : Nat) (x35_1 : Bool), v35 = .bool x35_1 ∧ Aside0 (spliceref08_Check.j0 kq (l0_2.length : Int) x35_1 a0_0 a0_1 l0_2 = some r) ∧ Aside0 (kq ≤ k) ∧ Aside0 (wc.heap[gb181]? = some (.cells #[.int .i64 a0_0, .int .i64 a0_1, (.slice A0_2 l0_2.length c0_2)] 30 (0, 0))) ∧ Aside0 (Below w.heap.size w wc))
 case first =>
   have H := HC2.out
   clear HC2
   by_cases c5 : a0_0 < 1
   · rw [if_pos c5] at H
     have c5b0 : decide (a0_0 < 1) = true := decide_eq_true c5
     clear c5
     (first | rw [c5b0] | (simp only [i64_w, i32_w]; rw [c5b0]) | skip)
     have H' := Aside0.mk H
     clear H
     have hcz6_0 : w3.cell? ⟨gb181, 0, none⟩ = some (.int .i64 a0_0) := (blk_cell BK181.out 0).trans rfl
     have hcz6_1 : w3.cell? ⟨gb181, 1, none⟩ = some (.int .i64 a0_1) := (blk_cell BK181.out 1).trans rfl
     have hcz6_2 : w3.cell? ⟨gb181, 2, none⟩ = some (.slice A0_2 l0_2.length c0_2) := (blk_cell BK181.out 2).trans rfl
     have hfz6_0 := blk_frozen BK181.out 0
     have hfz6_1 := blk_frozen BK181.out 1
     have hfz6_2 := blk_frozen BK181.out 2
     go_wp2
     repeat (go_quiet (fail); try go_wp2)
     go_meet
     case rel => exact ⟨_, (true), (by first | rfl | (simp; done) | (simp [*]; done)), H', ⟨by first | omega | exact Nat.le_refl _⟩, ⟨by (with_reducible repeat (first | refine blk_drewN ?_ _ | refine blk_drew ?_ | refine blk_alloc ?_ _)); exact BK181.out⟩, ⟨by repeat (first | (with_reducible first | exact HB.out | apply below_alloc | apply pw_below_drewN | apply below_drew1 | refine below_set ?_ GE181.out) | exact HB.out)⟩⟩
   rw [if_neg c5] at H
   have c5b0 : decide (a0_0 < 1) = false := decide_eq_false c5
   clear c5
   (first | rw [c5b0] | (simp only [i64_w, i32_w]; rw [c5b0]) | skip)
   by_cases c7 : a0_0 > 1073741824
   · rw [if_pos c7] at H
     have c7b0 : decide (1073741824 < a0_0) = true := decide_eq_true c7
     clear c7
     have H' := Aside0.mk H
     clear H
     have hcz8_0 : w3.cell? ⟨gb181, 0, none⟩ = some (.int .i64 a0_0) := (blk_cell BK181.out 0).trans rfl
     have hcz8_1 : w3.cell? ⟨gb181, 1, none⟩ = some (.int .i64 a0_1) := (blk_cell BK181.out 1).trans rfl
     have hcz8_2 : w3.cell? ⟨gb181, 2, none⟩ = some (.slice A0_2 l0_2.length c0_2) := (blk_cell BK181.out 2).trans rfl
     have hfz8_0 := blk_frozen BK181.out 0
     have hfz8_1 := blk_frozen BK181.out 1
     have hfz8_2 := blk_frozen BK181.out 2
     go_wp2
     repeat (go_quiet (fail); try go_wp2)
     go_meet
     case rel => exact ⟨_, (true), (by first | rfl | (simp; done) | (simp [*]; done)), H', ⟨by first | omega | exact Nat.le_refl _⟩, ⟨by (with_reducible repeat (first | refine blk_drewN ?_ _ | refine blk_drew ?_ | refine blk_alloc ?_ _)); exact BK181.out⟩, ⟨by repeat (first | (with_reducible first | exact HB.out | apply below_alloc | apply pw_below_drewN | apply below_drew1 | refine below_set ?_ GE181.out) | exact HB.out)⟩⟩
   rw [if_neg c7] at H
   have c7b0 : decide (1073741824 < a0_0) = false := decide_eq_false c7
   clear c7
   by_cases c9 : a0_1 < 1
   · rw [if_pos c9] at H
     have c9b0 : decide (a0_1 < 1) = true := decide_eq_true c9
     clear c9
     have H' := Aside0.mk H
     clear H
     have hcz10_0 : w3.cell? ⟨gb181, 0, none⟩ = some (.int .i64 a0_0) := (blk_cell BK181.out 0).trans rfl
     have hcz10_1 : w3.cell? ⟨gb181, 1, none⟩ = some (.int .i64 a0_1) := (blk_cell BK181.out 1).trans rfl
     have hcz10_2 : w3.cell? ⟨gb181, 2, none⟩ = some (.slice A0_2 l0_2.length c0_2) := (blk_cell BK181.out 2).trans rfl
     have hfz10_0 := blk_frozen BK181.out 0
     have hfz10_1 := blk_frozen BK181.out 1
     have hfz10_2 := blk_frozen BK181.out 2
     go_wp2
     repeat (go_quiet (fail); try go_wp2)
     go_meet
     case rel => exact ⟨_, (true), (by first | rfl | (simp; done) | (simp [*]; done)), H', ⟨by first | omega | exact Nat.le_refl _⟩, ⟨by (with_reducible repeat (first | refine blk_drewN ?_ _ | refine blk_drew ?_ | refine blk_alloc ?_ _)); exact BK181.out⟩, ⟨by repeat (first | (with_reducible first | exact HB.out | apply below_alloc | apply pw_below_drewN | apply below_drew1 | refine below_set ?_ GE181.out) | exact HB.out)⟩⟩
   rw [if_neg c9] at H
   have c9b0 : decide (a0_1 < 1) = false := decide_eq_false c9
   clear c9
   by_cases c11 : a0_1 > 65537
   · rw [if_pos c11] at H
     have c11b0 : decide (65537 < a0_1) = true := decide_eq_true c11
     clear c11
     have H' := Aside0.mk H
     clear H
     have hcz12_0 : w3.cell? ⟨gb181, 0, none⟩ = some (.int .i64 a0_0) := (blk_cell BK181.out 0).trans rfl
     have hcz12_1 : w3.cell? ⟨gb181, 1, none⟩ = some (.int .i64 a0_1) := (blk_cell BK181.out 1).trans rfl
     have hcz12_2 : w3.cell? ⟨gb181, 2, none⟩ = some (.slice A0_2 l0_2.length c0_2) := (blk_cell BK181.out 2).trans rfl
     have hfz12_0 := blk_frozen BK181.out 0
     have hfz12_1 := blk_frozen BK181.out 1
     have hfz12_2 := blk_frozen BK181.out 2
     go_wp2
     repeat (go_quiet (fail); try go_wp2)
     go_meet
     case rel => exact ⟨_, (true), (by first | rfl | (simp; done) | (simp [*]; done)), H', ⟨by first | omega | exact Nat.le_refl _⟩, ⟨by (with_reducible repeat (first | refine blk_drewN ?_ _ | refine blk_drew ?_ | refine blk_alloc ?_ _)); exact BK181.out⟩, ⟨by repeat (first | (with_reducible first | exact HB.out | apply below_alloc | apply pw_below_drewN | apply below_drew1 | refine below_set ?_ GE181.out) | exact HB.out)⟩⟩
   rw [if_neg c11] at H
   have c11b0 : decide (65537 < a0_1) = false := decide_eq_false c11
   clear c11
   by_cases c13 : (l0_2.length : Int) < 1
   · rw [if_pos c13] at H
     have c13b0 : decide ((l0_2.length : Int) < 1) = true := decide_eq_true c13
     have c13b1 : decide (l0_2.length < 1) = true := decide_eq_true (by omega)
     clear c13
     have H' := Aside0.mk H
     clear H
     have hcz14_0 : w3.cell? ⟨gb181, 0, none⟩ = some (.int .i64 a0_0) := (blk_cell BK181.out 0).trans rfl
     have hcz14_1 : w3.cell? ⟨gb181, 1, none⟩ = some (.int .i64 a0_1) := (blk_cell BK181.out 1).trans rfl
     have hcz14_2 : w3.cell? ⟨gb181, 2, none⟩ = some (.slice A0_2 l0_2.length c0_2) := (blk_cell BK181.out 2).trans rfl
     have hfz14_0 := blk_frozen BK181.out 0
     have hfz14_1 := blk_frozen BK181.out 1
     have hfz14_2 := blk_frozen BK181.out 2
     go_wp2
     repeat (go_quiet (fail); try go_wp2)
     go_meet
     case rel => exact ⟨_, (true), (by first | rfl | (simp; done) | (simp [*]; done)), H', ⟨by first | omega | exact Nat.le_refl _⟩, ⟨by (with_reducible repeat (first | refine blk_drewN ?_ _ | refine blk_drew ?_ | refine blk_alloc ?_ _)); exact BK181.out⟩, ⟨by repeat (first | (with_reducible first | exact HB.out | apply below_alloc | apply pw_below_drewN | apply below_drew1 | refine below_set ?_ GE181.out) | exact HB.out)⟩⟩
   rw [if_neg c13] at H
   have c13b0 : decide ((l0_2.length : Int) < 1) = false := decide_eq_false c13
   have c13b1 : decide (l0_2.length < 1) = false := decide_eq_false (by omega)
   clear c13
   have H' := Aside0.mk H
   clear H
   have hcz15_0 : w3.cell? ⟨gb181, 0, none⟩ = some (.int .i64 a0_0) := (blk_cell BK181.out 0).trans rfl
   have hcz15_1 : w3.cell? ⟨gb181, 1, none⟩ = some (.int .i64 a0_1) := (blk_cell BK181.out 1).trans rfl
   have hcz15_2 : w3.cell? ⟨gb181, 2, none⟩ = some (.slice A0_2 l0_2.length c0_2) := (blk_cell BK181.out 2).trans rfl
   have hfz15_0 := blk_frozen BK181.out 0
   have hfz15_1 := blk_frozen BK181.out 1
   have hfz15_2 := blk_frozen BK181.out 2
   go_wp2
   repeat (go_quiet (fail); try go_wp2)
   go_meet
   case rel => exact ⟨_, (decide ((l0_2.length : Int) > 24)), (by first | rfl | (simp; done) | (simp [*]; done)), H', ⟨by first | omega | exact Nat.le_refl _⟩, ⟨by (with_reducible repeat (first | refine blk_drewN ?_ _ | refine blk_drew ?_ | refine blk_alloc ?_ _)); exact BK181.out⟩, ⟨by repeat (first | (with_reducible first | exact HB.out | apply below_alloc | apply pw_below_drewN | apply below_drew1 | refine below_set ?_ GE181.out) | exact HB.out)⟩⟩
 clear HC2
 try clear c1
 try clear c2
 try clear p2
 try clear c5
 try clear c5b0
 try clear c7
 try clear c7b0
 try clear c9
 try clear c9b0
 try clear c11
 try clear c11b0
 try clear c13
 try clear c13b0
 try clear c13b1
 try clear hcz10_0
 try clear hcz10_1
 try clear hcz10_2
 try clear hcz12_0
 try clear hcz12_1
 try clear hcz12_2
 try clear hcz14_0
 try clear hcz14_1
 try clear hcz14_2
 try clear hcz15_0
 try clear hcz15_1
 try clear hcz15_2
 try clear hcz4_0
 try clear hcz4_1
 try clear hcz4_2
 try clear hcz6_0
 try clear hcz6_1
 try clear hcz6_2
 try clear hcz8_0
 try clear hcz8_1
 try clear hcz8_2
 try clear hfz10_0
 try clear hfz10_1
 try clear hfz10_2
 try clear hfz12_0
 try clear hfz12_1
 try clear hfz12_2
 try clear hfz14_0
 try clear hfz14_1
 try clear hfz14_2
 try clear hfz15_0
 try clear hfz15_1
 try clear hfz15_2
 try clear hfz4_0
 try clear hfz4_1
 try clear hfz4_2
 try clear hfz6_0
 try clear hfz6_1
 try clear hfz6_2
 try clear hfz8_0
 try clear hfz8_1
 try clear hfz8_2
 obtain ⟨kq, x35_1, rfl, HA, HJ1, BK181, HB⟩ := hcut
 cases kq with
 | zero => exact absurd HA.out (by simp [spliceref08_Check.j0])
 | succ kj1 => ?_
 have H := HA.out
 clear HA; simp only [spliceref08_Check.j0] at H
 by_cases c16 : x35_1 = true
 · subst c16
   have H1 : (some false) = some r := by rw [if_pos rfl] at H; exact H
   clear H
   have H := H1
   clear H1
   obtain rfl := Option.some.inj H
   go_wp2
   repeat (go_quiet (fail); try go_wp2)
   go_ret
   exact ⟨by first | rfl | (simp [errW_none, errW_some] <;> rfl) | (simp [*, errW_none, errW_some] <;> rfl), by repeat (first | (with_reducible first | exact HB.out | apply below_alloc | apply pw_below_drewN | apply below_drew1 | refine below_set ?_ GE181.out) | exact HB.out)⟩
 replace c16 := Bool.eq_false_iff.mpr c16
 subst c16
 have H1 : (spliceref08_Check.l0 kj1 (l0_2.length : Int) 0 a0_0 a0_1 l0_2) = some r := by rw [if_neg (show ¬ (false = true) by decide)] at H; exact H
 clear H
 have H := H1
 clear H1
 have H' := Aside0.mk H
 clear H
 go_wp2
 repeat (go_quiet (fail); try go_wp2)
 go_loopg [4] kj1 (fun kq v4 w' => ∃ (x4_2 : Int), v4 = .int .i64 x4_2 ∧ Aside0 (spliceref08_Check.l0 kq (l0_2.length : Int) x4_2 a0_0 a0_1 l0_2 = some r) ∧ Aside0 (kq ≤ kj1) ∧ Aside0 (w'.heap[gb181]? = some (.cells #[.int .i64 a0_0, .int .i64 a0_1, (.slice A0_2 l0_2.length c0_2)] 30 (0, 0))) ∧ Aside0 (Below w.heap.size w w'))
 case atStart => exact ⟨(0), (by first | rfl | (simp; done) | (simp [*]; done)), H', ⟨Nat.le_refl _⟩, ⟨by (with_reducible repeat (first | refine blk_drewN ?_ _ | refine blk_drew ?_ | refine blk_alloc ?_ _)); exact BK181.out⟩, ⟨by repeat (first | (with_reducible first | exact HB.out | apply below_alloc | apply pw_below_drewN | apply below_drew1 | refine below_set ?_ GE181.out) | exact HB.out)⟩⟩
 clear H'
 try clear c1
 try clear c2
 try clear p2
 try clear c5
 try clear c5b0
 try clear c7
 try clear c7b0
 try clear c9
 try clear c9b0
 try clear c11
 try clear c11b0
 try clear c13
 try clear c13b0
 try clear c13b1
 try clear c16
 try clear hcz10_0
 try clear hcz10_1
 try clear hcz10_2
 try clear hcz12_0
 try clear hcz12_1
 try clear hcz12_2
 try clear hcz14_0
 try clear hcz14_1
 try clear hcz14_2
 try clear hcz15_0
 try clear hcz15_1
 try clear hcz15_2
 try clear hcz4_0
 try clear hcz4_1
 try clear hcz4_2
 try clear hcz6_0
 try clear hcz6_1
 try clear hcz6_2
 try clear hcz8_0
 try clear hcz8_1
 try clear hcz8_2
 try clear hfz10_0
 try clear hfz10_1
 try clear hfz10_2
 try clear hfz12_0
 try clear hfz12_1
 try clear hfz12_2
 try clear hfz14_0
 try clear hfz14_1
 try clear hfz14_2
 try clear hfz15_0
 try clear hfz15_1
 try clear hfz15_2
 try clear hfz4_0
 try clear hfz4_1
 try clear hfz4_2
 try clear hfz6_0
 try clear hfz6_1
 try clear hfz6_2
 try clear hfz8_0
 try clear hfz8_1
 try clear hfz8_2
 try clear p2
 obtain ⟨x4_2, rfl, HA, HK2, BK181, HB⟩ := hrel
 cases gk with
 | zero => exact absurd HA.out (by simp [spliceref08_Check.l0])
 | succ k2 => ?_
 have H := HA.out
 clear HA; simp only [spliceref08_Check.l0] at H
 by_cases c17 : x4_2 < (l0_2.length : Int)
 rotate_left
 · rw [if_neg c17] at H
   have c17b0 : decide (x4_2 < (l0_2.length : Int)) = false := decide_eq_false c17
   clear c17
   obtain ⟨ji78, hji78⟩ : ∃ j_ : Int, (wrap64 ((l0_2.length : Int) - 1)) = j_ := ⟨_, rfl⟩
   replace H : (if 0 ≤ (ji78) then (if (ji78) < (l0_2.length : Int) then (some (((rd_T82 l0_2 (ji78)).f1.f1) == 4096)) else (none)) else (none)) = some r := by first | (rw [hji78] at H; exact H) | (simp only [hji78] at H ⊢; exact H)
   have hji78w : (IntKind.i64.wrap ((l0_2.length : Int) - 1)) = ji78 := (i64_w _).trans hji78
   by_cases c79 : 0 ≤ (ji78)
   rotate_left
   · rw [if_neg c79] at H; exact absurd H (by simp)
   rw [if_pos c79] at H
   have c79b0 : decide (0 ≤ (ji78)) = true := decide_eq_true c79
   clear c79
   by_cases c80 : (ji78) < (l0_2.length : Int)
   rotate_left
   · rw [if_neg c80] at H; exact absurd H (by simp)
   rw [if_pos c80] at H
   have c80b0 : decide ((ji78) < (l0_2.length : Int)) = true := decide_eq_true c80
   clear c80
   obtain rfl := Option.some.inj H
   have hcz81_0 : wr.cell? ⟨gb181, 0, none⟩ = some (.int .i64 a0_0) := (blk_cell BK181.out 0).trans rfl
   have hcz81_1 : wr.cell? ⟨gb181, 1, none⟩ = some (.int .i64 a0_1) := (blk_cell BK181.out 1).trans rfl
   have hcz81_2 : wr.cell? ⟨gb181, 2, none⟩ = some (.slice A0_2 l0_2.length c0_2) := (blk_cell BK181.out 2).trans rfl
   have hfz81_0 := blk_frozen BK181.out 0
   have hfz81_1 := blk_frozen BK181.out 1
   have hfz81_2 := blk_frozen BK181.out 2
   have p182 : 0 ≤ ((ji78) : Int) := of_decide_eq_true (by first | (with_reducible assumption) | assumption)
   have q182 : (ji78) < (l0_2.length : Int) := of_decide_eq_true (by first | (with_reducible assumption) | assumption)
   obtain ⟨ad182, e182, hx182_0, hx182_1, hx182_2, hx182_3⟩ := at_T82 HR0_2.out (ji78) p182 q182
   cases e182
   replace hx182_0 := (HB.out.cell (World.block_lt_of_cell? w _ hx182_0)).trans hx182_0
   replace hx182_1 := (HB.out.cell (World.block_lt_of_cell? w _ hx182_1)).trans hx182_1
   replace hx182_2 := (HB.out.cell (World.block_lt_of_cell? w _ hx182_2)).trans hx182_2
   replace hx182_3 := (HB.out.cell (World.block_lt_of_cell? w _ hx182_3)).trans hx182_3
   replace p182 := eq_true p182
   replace q182 := eq_true q182
   go_wp2
   repeat (go_quiet (fail); try go_wp2)
   go_ret
   exact ⟨by first | rfl | (simp [errW_none, errW_some] <;> rfl) | (simp only [← hji78]; first | rfl | (simp [errW_none, errW_some] <;> rfl)) | (simp [*, errW_none, errW_some] <;> rfl), by repeat (first | (with_reducible first | exact HB.out | apply below_alloc | apply pw_below_drewN | apply below_drew1 | refine below_set ?_ GE181.out) | exact HB.out)⟩
 rw [if_pos c17] at H
 have c17b0 : decide (x4_2 < (l0_2.length : Int)) = true := decide_eq_true c17
 clear c17
 by_cases c18 : 0 ≤ x4_2
 rotate_left
 · rw [if_neg c18] at H; exact absurd H (by simp)
 rw [if_pos c18] at H
 have c18b0 : decide (0 ≤ x4_2) = true := decide_eq_true c18
 clear c18
 by_cases c19 : x4_2 < (l0_2.length : Int)
 rotate_left
 · rw [if_neg c19] at H; exact absurd H (by simp)
 rw [if_pos c19] at H
 have c19b0 : decide (x4_2 < (l0_2.length : Int)) = true := decide_eq_true c19
 clear c19
 have HC20 := Aside0.mk H
 clear H
 have hcz21_0 : wr.cell? ⟨gb181, 0, none⟩ = some (.int .i64 a0_0) := (blk_cell BK181.out 0).trans rfl
 have hcz21_1 : wr.cell? ⟨gb181, 1, none⟩ = some (.int .i64 a0_1) := (blk_cell BK181.out 1).trans rfl
 have hcz21_2 : wr.cell? ⟨gb181, 2, none⟩ = some (.slice A0_2 l0_2.length c0_2) := (blk_cell BK181.out 2).trans rfl
 have hfz21_0 := blk_frozen BK181.out 0
 have hfz21_1 := blk_frozen BK181.out 1
 have hfz21_2 := blk_frozen BK181.out 2
 have p183 : 0 ≤ (x4_2 : Int) := of_decide_eq_true (by first | (with_reducible assumption) | assumption)
 have q183 : x4_2 < (l0_2.length : Int) := of_decide_eq_true (by first | (with_reducible assumption) | assumption)
 obtain ⟨ad183, e183, hx183_0, hx183_1, hx183_2, hx183_3⟩ := at_T82 HR0_2.out x4_2 p183 q183
 cases e183
 replace hx183_0 := (HB.out.cell (World.block_lt_of_cell? w _ hx183_0)).trans hx183_0
 replace hx183_1 := (HB.out.cell (World.block_lt_of_cell? w _ hx183_1)).trans hx183_1
 replace hx183_2 := (HB.out.cell (World.block_lt_of_cell? w _ hx183_2)).trans hx183_2
 replace hx183_3 := (HB.out.cell (World.block_lt_of_cell? w _ hx183_3)).trans hx183_3
 replace p183 := eq_true p183
 replace q183 := eq_true q183
 go_upto_region 8 with (first | ((with_reducible refine gate_dst (N := 5) rfl ?_); refine box_event ?hg (N := 5) ?hd (cs := #[.int .i64 0, .int .i64 0, .int .i64 0, .int .i64 0]) (t := 82) ?hr ?_; (case hd => rfl); (case hg => rfl); (case hr => first | (go_simp; done) | (go_simp; rfl)); intro gb184 hg w22 hbox hb; have n0_ := Aside0.mk (blk_below (g := gb181) (o := .cells #[.int .i64 a0_0, .int .i64 a0_1, .slice (some ad183) l0_2.length c0_2] 30 (0, 0)) (by (with_reducible repeat (first | refine blk_drewN ?_ _ | refine blk_drew ?_ | refine blk_alloc ?_ _)); exact BK181.out) hb); have n1_ := Aside0.mk (below_step (by repeat (first | (with_reducible first | exact HB.out | apply below_alloc | apply pw_below_drewN | apply below_drew1 | refine below_set ?_ GE181.out) | exact HB.out)) hb); have n2_ := Aside0.mk (hbox); have n3_ := Aside0.mk ((by rw [hg]; exact (below_size (by repeat (first | (with_reducible first | exact HB.out | apply below_alloc | apply pw_below_drewN | apply below_drew1 | refine below_set ?_ GE181.out) | exact HB.out))) : w.heap.size ≤ gb184)); have n4_ := Aside0.mk ((by rw [hg]; exact (below_size (by repeat (first | (with_reducible first | exact HB.out | apply below_alloc | apply pw_below_drewN | apply below_drew1 | refine below_set ?_ GE181.out) | exact HB.out))) : w.heap.size ≤ gb184)); have n5_ := Aside0.mk ((by rw [hg]; exact Nat.ne_of_lt (blk_lt (g := gb181) (o := .cells #[.int .i64 a0_0, .int .i64 a0_1, .slice (some ad183) l0_2.length c0_2] 30 (0, 0)) (by (with_reducible repeat (first | refine blk_drewN ?_ _ | refine blk_drew ?_ | refine blk_alloc ?_ _)); exact BK181.out)) : gb181 ≠ gb184)); have n6_ := Aside0.mk ((by rw [hg]; exact Nat.ne_of_gt (blk_lt (g := gb181) (o := .cells #[.int .i64 a0_0, .int .i64 a0_1, .slice (some ad183) l0_2.length c0_2] 30 (0, 0)) (by (with_reducible repeat (first | refine blk_drewN ?_ _ | refine blk_drew ?_ | refine blk_alloc ?_ _)); exact BK181.out)) : gb184 ≠ gb181)); clear BK181; clear HB; have BK181 := n0_; have HB := n1_; have BK184 := n2_; have GW184 := n3_; have GE184 := n4_; have NB181_184 := n5_; have NB184_181 := n6_; clear n0_ n1_ n2_ n3_ n4_ n5_ n6_; clear hb hbox hg; have hnb23 := NB184_181.out; have hnc23 := NB181_184.out; have hcz24_0 : w22.cell? ⟨gb184, 0, none⟩ = some (.int .i64 0) := (blk_cell BK184.out 0).trans rfl; have hcz24_1 : w22.cell? ⟨gb184, 1, none⟩ = some (.int .i64 0) := (blk_cell BK184.out 1).trans rfl; have hcz24_2 : w22.cell? ⟨gb184, 2, none⟩ = some (.int .i64 0) := (blk_cell BK184.out 2).trans rfl; have hcz24_3 : w22.cell? ⟨gb184, 3, none⟩ = some (.int .i64 0) := (blk_cell BK184.out 3).trans rfl; have hfz24_0 := blk_frozen BK184.out 0; have hfz24_1 := blk_frozen BK184.out 1; have hfz24_2 := blk_frozen BK184.out 2; have hfz24_3 := blk_frozen BK184.out 3))
 repeat (go_quiet (first | ((with_reducible refine gate_dst (N := 5) rfl ?_); refine box_event ?hg (N := 5) ?hd (cs := #[.int .i64 0, .int .i64 0, .int .i64 0, .int .i64 0]) (t := 82) ?hr ?_; (case hd => rfl); (case hg => rfl); (case hr => first | (go_simp; done) | (go_simp; rfl)); intro gb184 hg w22 hbox hb; have n0_ := Aside0.mk (blk_below (g := gb181) (o := .cells #[.int .i64 a0_0, .int .i64 a0_1, .slice (some ad183) l0_2.length c0_2] 30 (0, 0)) (by (with_reducible repeat (first | refine blk_drewN ?_ _ | refine blk_drew ?_ | refine blk_alloc ?_ _)); exact BK181.out) hb); have n1_ := Aside0.mk (below_step (by repeat (first | (with_reducible first | exact HB.out | apply below_alloc | apply pw_below_drewN | apply below_drew1 | refine below_set ?_ GE181.out) | exact HB.out)) hb); have n2_ := Aside0.mk (hbox); have n3_ := Aside0.mk ((by rw [hg]; exact (below_size (by repeat (first | (with_reducible first | exact HB.out | apply below_alloc | apply pw_below_drewN | apply below_drew1 | refine below_set ?_ GE181.out) | exact HB.out))) : w.heap.size ≤ gb184)); have n4_ := Aside0.mk ((by rw [hg]; exact (below_size (by repeat (first | (with_reducible first | exact HB.out | apply below_alloc | apply pw_below_drewN | apply below_drew1 | refine below_set ?_ GE181.out) | exact HB.out))) : w.heap.size ≤ gb184)); have n5_ := Aside0.mk ((by rw [hg]; exact Nat.ne_of_lt (blk_lt (g := gb181) (o := .cells #[.int .i64 a0_0, .int .i64 a0_1, .slice (some ad183) l0_2.length c0_2] 30 (0, 0)) (by (with_reducible repeat (first | refine blk_drewN ?_ _ | refine blk_drew ?_ | refine blk_alloc ?_ _)); exact BK181.out)) : gb181 ≠ gb184)); have n6_ := Aside0.mk ((by rw [hg]; exact Nat.ne_of_gt (blk_lt (g := gb181) (o := .cells #[.int .i64 a0_0, .int .i64 a0_1, .slice (some ad183) l0_2.length c0_2] 30 (0, 0)) (by (with_reducible repeat (first | refine blk_drewN ?_ _ | refine blk_drew ?_ | refine blk_alloc ?_ _)); exact BK181.out)) : gb184 ≠ gb181)); clear BK181; clear HB; have BK181 := n0_; have HB := n1_; have BK184 := n2_; have GW184 := n3_; have GE184 := n4_; have NB181_184 := n5_; have NB184_181 := n6_; clear n0_ n1_ n2_ n3_ n4_ n5_ n6_; clear hb hbox hg; have hnb23 := NB184_181.out; have hnc23 := NB181_184.out; have hcz24_0 : w22.cell? ⟨gb184, 0, none⟩ = some (.int .i64 0) := (blk_cell BK184.out 0).trans rfl; have hcz24_1 : w22.cell? ⟨gb184, 1, none⟩ = some (.int .i64 0) := (blk_cell BK184.out 1).trans rfl; have hcz24_2 : w22.cell? ⟨gb184, 2, none⟩ = some (.int .i64 0) := (blk_cell BK184.out 2).trans rfl; have hcz24_3 : w22.cell? ⟨gb184, 3, none⟩ = some (.int .i64 0) := (blk_cell BK184.out 3).trans rfl; have hfz24_0 := blk_frozen BK184.out 0; have hfz24_1 := blk_frozen BK184.out 1; have hfz24_2 := blk_frozen BK184.out 2; have hfz24_3 := blk_frozen BK184.out 3)); go_upto_region 8 with (first | ((with_reducible refine gate_dst (N := 5) rfl ?_); refine box_event ?hg (N := 5) ?hd (cs := #[.int .i64 0, .int .i64 0, .int .i64 0, .int .i64 0]) (t := 82) ?hr ?_; (case hd => rfl); (case hg => rfl); (case hr => first | (go_simp; done) | (go_simp; rfl)); intro gb184 hg w22 hbox hb; have n0_ := Aside0.mk (blk_below (g := gb181) (o := .cells #[.int .i64 a0_0, .int .i64 a0_1, .slice (some ad183) l0_2.length c0_2] 30 (0, 0)) (by (with_reducible repeat (first | refine blk_drewN ?_ _ | refine blk_drew ?_ | refine blk_alloc ?_ _)); exact BK181.out) hb); have n1_ := Aside0.mk (below_step (by repeat (first | (with_reducible first | exact HB.out | apply below_alloc | apply pw_below_drewN | apply below_drew1 | refine below_set ?_ GE181.out) | exact HB.out)) hb); have n2_ := Aside0.mk (hbox); have n3_ := Aside0.mk ((by rw [hg]; exact (below_size (by repeat (first | (with_reducible first | exact HB.out | apply below_alloc | apply pw_below_drewN | apply below_drew1 | refine below_set ?_ GE181.out) | exact HB.out))) : w.heap.size ≤ gb184)); have n4_ := Aside0.mk ((by rw [hg]; exact (below_size (by repeat (first | (with_reducible first | exact HB.out | apply below_alloc | apply pw_below_drewN | apply below_drew1 | refine below_set ?_ GE181.out) | exact HB.out))) : w.heap.size ≤ gb184)); have n5_ := Aside0.mk ((by rw [hg]; exact Nat.ne_of_lt (blk_lt (g := gb181) (o := .cells #[.int .i64 a0_0, .int .i64 a0_1, .slice (some ad183) l0_2.length c0_2] 30 (0, 0)) (by (with_reducible repeat (first | refine blk_drewN ?_ _ | refine blk_drew ?_ | refine blk_alloc ?_ _)); exact BK181.out)) : gb181 ≠ gb184)); have n6_ := Aside0.mk ((by rw [hg]; exact Nat.ne_of_gt (blk_lt (g := gb181) (o := .cells #[.int .i64 a0_0, .int .i64 a0_1, .slice (some ad183) l0_2.length c0_2] 30 (0, 0)) (by (with_reducible repeat (first | refine blk_drewN ?_ _ | refine blk_drew ?_ | refine blk_alloc ?_ _)); exact BK181.out)) : gb184 ≠ gb181)); clear BK181; clear HB; have BK181 := n0_; have HB := n1_; have BK184 := n2_; have GW184 := n3_; have GE184 := n4_; have NB181_184 := n5_; have NB184_181 := n6_; clear n0_ n1_ n2_ n3_ n4_ n5_ n6_; clear hb hbox hg; have hnb23 := NB184_181.out; have hnc23 := NB181_184.out; have hcz24_0 : w22.cell? ⟨gb184, 0, none⟩ = some (.int .i64 0) := (blk_cell BK184.out 0).trans rfl; have hcz24_1 : w22.cell? ⟨gb184, 1, none⟩ = some (.int .i64 0) := (blk_cell BK184.out 1).trans rfl; have hcz24_2 : w22.cell? ⟨gb184, 2, none⟩ = some (.int .i64 0) := (blk_cell BK184.out 2).trans rfl; have hcz24_3 : w22.cell? ⟨gb184, 3, none⟩ = some (.int .i64 0) := (blk_cell BK184.out 3).trans rfl; have hfz24_0 := blk_frozen BK184.out 0; have hfz24_1 := blk_frozen BK184.out 1; have hfz24_2 := blk_frozen BK184.out 2; have hfz24_3 := blk_frozen BK184.out 3)))
 (try simp only [Act.put, List.setIfInBounds_toArray, List.set_cons_zero, List.set_cons_succ])
 go_cut [71] (fun v71 wc => ∃ (kq : Nat) (x71_19 : Bool), v71 = .bool x71_19 ∧ Aside0 (spliceref08_Check.j2 kq (l0_2.length : Int) x4_2 x71_19 a0_0 a0_1 l0_2 ((rd_T82 l0_2 x4_2).f0) ((rd_T82 l0_2 x4_2).f1.f0) ((rd_T82 l0_2 x4_2).f1.f1) ((rd_T82 l0_2 x4_2).f2) = some r) ∧ Aside0 (kq ≤ k2) ∧ Aside0 (wc.heap[gb181]? = some (.cells #[.int .i64 a0_0, .int .i64 a0_1, (.slice (some ad183) l0_2.length c0_2)] 30 (0, 0))) ∧ Aside0 (wc.heap[gb184]? = some (.cells #[.int .i64 ((rd_T82 l0_2 x4_2).f0), .int .i64 ((rd_T82 l0_2 x4_2).f1.f0), .int .i64 ((rd_T82 l0_2 x4_2).f1.f1), .int .i64 ((rd_T82 l0_2 x4_2).f2)] 82 (0, 0))) ∧ Aside0 (Below w.heap.size w wc))
 case first =>
   have H := HC20.out
   clear HC20
   by_cases c25 : ((rd_T82 l0_2 x4_2).f0) < 1
   · rw [if_pos c25] at H
     have c25b0 : decide (((rd_T82 l0_2 x4_2).f0) < 1) = true := decide_eq_true c25
     clear c25
     (first | rw [c25b0] | (simp only [i64_w, i32_w]; rw [c25b0]) | skip)
     have H' := Aside0.mk H
     clear H
     have hnb26 := NB184_181.out
     have hnc26 := NB181_184.out
     have hcz27_0 : w22.cell? ⟨gb184, 0, none⟩ = some (.int .i64 0) := (blk_cell BK184.out 0).trans rfl
     have hcz27_1 : w22.cell? ⟨gb184, 1, none⟩ = some (.int .i64 0) := (blk_cell BK184.out 1).trans rfl
     have hcz27_2 : w22.cell? ⟨gb184, 2, none⟩ = some (.int .i64 0) := (blk_cell BK184.out 2).trans rfl
     have hcz27_3 : w22.cell? ⟨gb184, 3, none⟩ = some (.int .i64 0) := (blk_cell BK184.out 3).trans rfl
     have hfz27_0 := blk_frozen BK184.out 0
     have hfz27_1 := blk_frozen BK184.out 1
     have hfz27_2 := blk_frozen BK184.out 2
     have hfz27_3 := blk_frozen BK184.out 3
     go_wp2
     repeat (go_quiet (fail); try go_wp2)
     go_meet
     case rel => exact ⟨_, (true), (by first | rfl | (simp; done) | (simp [*]; done)), H', ⟨by have := HJ1.out; have := HK2.out; first | omega | exact Nat.le_refl _⟩, ⟨by (with_reducible repeat (first | refine blk_drewN ?_ _ | refine blk_drew ?_ | refine blk_alloc ?_ _)); refine blk_far ?_ NB181_184.out _; (with_reducible repeat (first | refine blk_drewN ?_ _ | refine blk_drew ?_ | refine blk_alloc ?_ _)); refine blk_far ?_ NB181_184.out _; (with_reducible repeat (first | refine blk_drewN ?_ _ | refine blk_drew ?_ | refine blk_alloc ?_ _)); refine blk_far ?_ NB181_184.out _; (with_reducible repeat (first | refine blk_drewN ?_ _ | refine blk_drew ?_ | refine blk_alloc ?_ _)); refine blk_far ?_ NB181_184.out _; (with_reducible repeat (first | refine blk_drewN ?_ _ | refine blk_drew ?_ | refine blk_alloc ?_ _)); exact BK181.out⟩, ⟨by (with_reducible repeat (first | refine blk_drewN ?_ _ | refine blk_drew ?_ | refine blk_alloc ?_ _)); refine blk_put (cs := #[.int .i64 ((rd_T82 l0_2 x4_2).f0), .int .i64 ((rd_T82 l0_2 x4_2).f1.f0), .int .i64 ((rd_T82 l0_2 x4_2).f1.f1), .int .i64 0]) ?_ 3 _ rfl; (with_reducible repeat (first | refine blk_drewN ?_ _ | refine blk_drew ?_ | refine blk_alloc ?_ _)); refine blk_put (cs := #[.int .i64 ((rd_T82 l0_2 x4_2).f0), .int .i64 ((rd_T82 l0_2 x4_2).f1.f0), .int .i64 0, .int .i64 0]) ?_ 2 _ rfl; (with_reducible repeat (first | refine blk_drewN ?_ _ | refine blk_drew ?_ | refine blk_alloc ?_ _)); refine blk_put (cs := #[.int .i64 ((rd_T82 l0_2 x4_2).f0), .int .i64 0, .int .i64 0, .int .i64 0]) ?_ 1 _ rfl; (with_reducible repeat (first | refine blk_drewN ?_ _ | refine blk_drew ?_ | refine blk_alloc ?_ _)); refine blk_put (cs := #[.int .i64 0, .int .i64 0, .int .i64 0, .int .i64 0]) ?_ 0 _ rfl; (with_reducible repeat (first | refine blk_drewN ?_ _ | refine blk_drew ?_ | refine blk_alloc ?_ _)); exact BK184.out⟩, ⟨by repeat (first | (with_reducible first | exact HB.out | apply below_alloc | apply pw_below_drewN | apply below_drew1 | refine below_set ?_ GE181.out | refine below_set ?_ GE184.out) | exact HB.out)⟩⟩
   rw [if_neg c25] at H
   have c25b0 : decide (((rd_T82 l0_2 x4_2).f0) < 1) = false := decide_eq_false c25
   clear c25
   (first | rw [c25b0] | (simp only [i64_w, i32_w]; rw [c25b0]) | skip)
   by_cases c28 : ((rd_T82 l0_2 x4_2).f0) ≥ a0_1
   · rw [if_pos c28] at H
     have c28b0 : decide (a0_1 ≤ ((rd_T82 l0_2 x4_2).f0)) = true := decide_eq_true c28
     clear c28
     have H' := Aside0.mk H
     clear H
     have hnb29 := NB184_181.out
     have hnc29 := NB181_184.out
     have hcz30_0 : w22.cell? ⟨gb184, 0, none⟩ = some (.int .i64 0) := (blk_cell BK184.out 0).trans rfl
     have hcz30_1 : w22.cell? ⟨gb184, 1, none⟩ = some (.int .i64 0) := (blk_cell BK184.out 1).trans rfl
     have hcz30_2 : w22.cell? ⟨gb184, 2, none⟩ = some (.int .i64 0) := (blk_cell BK184.out 2).trans rfl
     have hcz30_3 : w22.cell? ⟨gb184, 3, none⟩ = some (.int .i64 0) := (blk_cell BK184.out 3).trans rfl
     have hfz30_0 := blk_frozen BK184.out 0
     have hfz30_1 := blk_frozen BK184.out 1
     have hfz30_2 := blk_frozen BK184.out 2
     have hfz30_3 := blk_frozen BK184.out 3
     have hcz31_0 : w22.cell? ⟨gb181, 0, none⟩ = some (.int .i64 a0_0) := (blk_cell BK181.out 0).trans rfl
     have hcz31_1 : w22.cell? ⟨gb181, 1, none⟩ = some (.int .i64 a0_1) := (blk_cell BK181.out 1).trans rfl
     have hcz31_2 : w22.cell? ⟨gb181, 2, none⟩ = some (.slice (some ad183) l0_2.length c0_2) := (blk_cell BK181.out 2).trans rfl
     have hfz31_0 := blk_frozen BK181.out 0
     have hfz31_1 := blk_frozen BK181.out 1
     have hfz31_2 := blk_frozen BK181.out 2
     go_wp2
     repeat (go_quiet (fail); try go_wp2)
     go_meet
     case rel => exact ⟨_, (true), (by first | rfl | (simp; done) | (simp [*]; done)), H', ⟨by have := HJ1.out; have := HK2.out; first | omega | exact Nat.le_refl _⟩, ⟨by (with_reducible repeat (first | refine blk_drewN ?_ _ | refine blk_drew ?_ | refine blk_alloc ?_ _)); refine blk_far ?_ NB181_184.out _; (with_reducible repeat (first | refine blk_drewN ?_ _ | refine blk_drew ?_ | refine blk_alloc ?_ _)); refine blk_far ?_ NB181_184.out _; (with_reducible repeat (first | refine blk_drewN ?_ _ | refine blk_drew ?_ | refine blk_alloc ?_ _)); refine blk_far ?_ NB181_184.out _; (with_reducible repeat (first | refine blk_drewN ?_ _ | refine blk_drew ?_ | refine blk_alloc ?_ _)); refine blk_far ?_ NB181_184.out _; (with_reducible repeat (first | refine blk_drewN ?_ _ | refine blk_drew ?_ | refine blk_alloc ?_ _)); exact BK181.out⟩, ⟨by (with_reducible repeat (first | refine blk_drewN ?_ _ | refine blk_drew ?_ | refine blk_alloc ?_ _)); refine blk_put (cs := #[.int .i64 ((rd_T82 l0_2 x4_2).f0), .int .i64 ((rd_T82 l0_2 x4_2).f1.f0), .int .i64 ((rd_T82 l0_2 x4_2).f1.f1), .int .i64 0]) ?_ 3 _ rfl; (with_reducible repeat (first | refine blk_drewN ?_ _ | refine blk_drew ?_ | refine blk_alloc ?_ _)); refine blk_put (cs := #[.int .i64 ((rd_T82 l0_2 x4_2).f0), .int .i64 ((rd_T82 l0_2 x4_2).f1.f0), .int .i64 0, .int .i64 0]) ?_ 2 _ rfl; (with_reducible repeat (first | refine blk_drewN ?_ _ | refine blk_drew ?_ | refine blk_alloc ?_ _)); refine blk_put (cs := #[.int .i64 ((rd_T82 l0_2 x4_2).f0), .int .i64 0, .int .i64 0, .int .i64 0]) ?_ 1 _ rfl; (with_reducible repeat (first | refine blk_drewN ?_ _ | refine blk_drew ?_ | refine blk_alloc ?_ _)); refine blk_put (cs := #[.int .i64 0, .int .i64 0, .int .i64 0, .int .i64 0]) ?_ 0 _ rfl; (with_reducible repeat (first | refine blk_drewN ?_ _ | refine blk_drew ?_ | refine blk_alloc ?_ _)); exact BK184.out⟩, ⟨by repeat (first | (with_reducible first | exact HB.out | apply below_alloc | apply pw_below_drewN | apply below_drew1 | refine below_set ?_ GE181.out | refine below_set ?_ GE184.out) | exact HB.out)⟩⟩
   rw [if_neg c28] at H
   have c28b0 : decide (a0_1 ≤ ((rd_T82 l0_2 x4_2).f0)) = false := decide_eq_false c28
   clear c28
   by_cases c32 : ((rd_T82 l0_2 x4_2).f2) < 0
   · rw [if_pos c32] at H
     have c32b0 : decide (((rd_T82 l0_2 x4_2).f2) < 0) = true := decide_eq_true c32
     clear c32
     have H' := Aside0.mk H
     clear H
     have hnb33 := NB184_181.out
     have hnc33 := NB181_184.out
     have hcz34_0 : w22.cell? ⟨gb184, 0, none⟩ = some (.int .i64 0) := (blk_cell BK184.out 0).trans rfl
     have hcz34_1 : w22.cell? ⟨gb184, 1, none⟩ = some (.int .i64 0) := (blk_cell BK184.out 1).trans rfl
     have hcz34_2 : w22.cell? ⟨gb184, 2, none⟩ = some (.int .i64 0) := (blk_cell BK184.out 2).trans rfl
     have hcz34_3 : w22.cell? ⟨gb184, 3, none⟩ = some (.int .i64 0) := (blk_cell BK184.out 3).trans rfl
     have hfz34_0 := blk_frozen BK184.out 0
     have hfz34_1 := blk_frozen BK184.out 1
     have hfz34_2 := blk_frozen BK184.out 2
     have hfz34_3 := blk_frozen BK184.out 3
     have hcz35_0 : w22.cell? ⟨gb181, 0, none⟩ = some (.int .i64 a0_0) := (blk_cell BK181.out 0).trans rfl
     have hcz35_1 : w22.cell? ⟨gb181, 1, none⟩ = some (.int .i64 a0_1) := (blk_cell BK181.out 1).trans rfl
     have hcz35_2 : w22.cell? ⟨gb181, 2, none⟩ = some (.slice (some ad183) l0_2.length c0_2) := (blk_cell BK181.out 2).trans rfl
     have hfz35_0 := blk_frozen BK181.out 0
     have hfz35_1 := blk_frozen BK181.out 1
     have hfz35_2 := blk_frozen BK181.out 2
     go_wp2
     repeat (go_quiet (fail); try go_wp2)
     go_meet
     case rel => exact ⟨_, (true), (by first | rfl | (simp; done) | (simp [*]; done)), H', ⟨by have := HJ1.out; have := HK2.out; first | omega | exact Nat.le_refl _⟩, ⟨by (with_reducible repeat (first | refine blk_drewN ?_ _ | refine blk_drew ?_ | refine blk_alloc ?_ _)); refine blk_far ?_ NB181_184.out _; (with_reducible repeat (first | refine blk_drewN ?_ _ | refine blk_drew ?_ | refine blk_alloc ?_ _)); refine blk_far ?_ NB181_184.out _; (with_reducible repeat (first | refine blk_drewN ?_ _ | refine blk_drew ?_ | refine blk_alloc ?_ _)); refine blk_far ?_ NB181_184.out _; (with_reducible repeat (first | refine blk_drewN ?_ _ | refine blk_drew ?_ | refine blk_alloc ?_ _)); refine blk_far ?_ NB181_184.out _; (with_reducible repeat (first | refine blk_drewN ?_ _ | refine blk_drew ?_ | refine blk_alloc ?_ _)); exact BK181.out⟩, ⟨by (with_reducible repeat (first | refine blk_drewN ?_ _ | refine blk_drew ?_ | refine blk_alloc ?_ _)); refine blk_put (cs := #[.int .i64 ((rd_T82 l0_2 x4_2).f0), .int .i64 ((rd_T82 l0_2 x4_2).f1.f0), .int .i64 ((rd_T82 l0_2 x4_2).f1.f1), .int .i64 0]) ?_ 3 _ rfl; (with_reducible repeat (first | refine blk_drewN ?_ _ | refine blk_drew ?_ | refine blk_alloc ?_ _)); refine blk_put (cs := #[.int .i64 ((rd_T82 l0_2 x4_2).f0), .int .i64 ((rd_T82 l0_2 x4_2).f1.f0), .int .i64 0, .int .i64 0]) ?_ 2 _ rfl; (with_reducible repeat (first | refine blk_drewN ?_ _ | refine blk_drew ?_ | refine blk_alloc ?_ _)); refine blk_put (cs := #[.int .i64 ((rd_T82 l0_2 x4_2).f0), .int .i64 0, .int .i64 0, .int .i64 0]) ?_ 1 _ rfl; (with_reducible repeat (first | refine blk_drewN ?_ _ | refine blk_drew ?_ | refine blk_alloc ?_ _)); refine blk_put (cs := #[.int .i64 0, .int .i64 0, .int .i64 0, .int .i64 0]) ?_ 0 _ rfl; (with_reducible repeat (first | refine blk_drewN ?_ _ | refine blk_drew ?_ | refine blk_alloc ?_ _)); exact BK184.out⟩, ⟨by repeat (first | (with_reducible first | exact HB.out | apply below_alloc | apply pw_below_drewN | apply below_drew1 | refine below_set ?_ GE181.out | refine below_set ?_ GE184.out) | exact HB.out)⟩⟩
   rw [if_neg c32] at H
   have c32b0 : decide (((rd_T82 l0_2 x4_2).f2) < 0) = false := decide_eq_false c32
   clear c32
   by_cases c36 : ((rd_T82 l0_2 x4_2).f2) > 4
   · rw [if_pos c36] at H
     have c36b0 : decide (4 < ((rd_T82 l0_2 x4_2).f2)) = true := decide_eq_true c36
     clear c36
     have H' := Aside0.mk H
     clear H
     have hnb37 := NB184_181.out
     have hnc37 := NB181_184.out
     have hcz38_0 : w22.cell? ⟨gb184, 0, none⟩ = some (.int .i64 0) := (blk_cell BK184.out 0).trans rfl
     have hcz38_1 : w22.cell? ⟨gb184, 1, none⟩ = some (.int .i64 0) := (blk_cell BK184.out 1).trans rfl
     have hcz38_2 : w22.cell? ⟨gb184, 2, none⟩ = some (.int .i64 0) := (blk_cell BK184.out 2).trans rfl
     have hcz38_3 : w22.cell? ⟨gb184, 3, none⟩ = some (.int .i64 0) := (blk_cell BK184.out 3).trans rfl
     have hfz38_0 := blk_frozen BK184.out 0
     have hfz38_1 := blk_frozen BK184.out 1
     have hfz38_2 := blk_frozen BK184.out 2
     have hfz38_3 := blk_frozen BK184.out 3
     have hcz39_0 : w22.cell? ⟨gb181, 0, none⟩ = some (.int .i64 a0_0) := (blk_cell BK181.out 0).trans rfl
     have hcz39_1 : w22.cell? ⟨gb181, 1, none⟩ = some (.int .i64 a0_1) := (blk_cell BK181.out 1).trans rfl
     have hcz39_2 : w22.cell? ⟨gb181, 2, none⟩ = some (.slice (some ad183) l0_2.length c0_2) := (blk_cell BK181.out 2).trans rfl
     have hfz39_0 := blk_frozen BK181.out 0
     have hfz39_1 := blk_frozen BK181.out 1
     have hfz39_2 := blk_frozen BK181.out 2
     go_wp2
     repeat (go_quiet (fail); try go_wp2)
     go_meet
     case rel => exact ⟨_, (true), (by first | rfl | (simp; done) | (simp [*]; done)), H', ⟨by have := HJ1.out; have := HK2.out; first | omega | exact Nat.le_refl _⟩, ⟨by (with_reducible repeat (first | refine blk_drewN ?_ _ | refine blk_drew ?_ | refine blk_alloc ?_ _)); refine blk_far ?_ NB181_184.out _; (with_reducible repeat (first | refine blk_drewN ?_ _ | refine blk_drew ?_ | refine blk_alloc ?_ _)); refine blk_far ?_ NB181_184.out _; (with_reducible repeat (first | refine blk_drewN ?_ _ | refine blk_drew ?_ | refine blk_alloc ?_ _)); refine blk_far ?_ NB181_184.out _; (with_reducible repeat (first | refine blk_drewN ?_ _ | refine blk_drew ?_ | refine blk_alloc ?_ _)); refine blk_far ?_ NB181_184.out _; (with_reducible repeat (first | refine blk_drewN ?_ _ | refine blk_drew ?_ | refine blk_alloc ?_ _)); exact BK181.out⟩, ⟨by (with_reducible repeat (first | refine blk_drewN ?_ _ | refine blk_drew ?_ | refine blk_alloc ?_ _)); refine blk_put (cs := #[.int .i64 ((rd_T82 l0_2 x4_2).f0), .int .i64 ((rd_T82 l0_2 x4_2).f1.f0), .int .i64 ((rd_T82 l0_2 x4_2).f1.f1), .int .i64 0]) ?_ 3 _ rfl; (with_reducible repeat (first | refine blk_drewN ?_ _ | refine blk_drew ?_ | refine blk_alloc ?_ _)); refine blk_put (cs := #[.int .i64 ((rd_T82 l0_2 x4_2).f0), .int .i64 ((rd_T82 l0_2 x4_2).f1.f0), .int .i64 0, .int .i64 0]) ?_ 2 _ rfl; (with_reducible repeat (first | refine blk_drewN ?_ _ | refine blk_drew ?_ | refine blk_alloc ?_ _)); refine blk_put (cs := #[.int .i64 ((rd_T82 l0_2 x4_2).f0), .int .i64 0, .int .i64 0, .int .i64 0]) ?_ 1 _ rfl; (with_reducible repeat (first | refine blk_drewN ?_ _ | refine blk_drew ?_ | refine blk_alloc ?_ _)); refine blk_put (cs := #[.int .i64 0, .int .i64 0, .int .i64 0, .int .i64 0]) ?_ 0 _ rfl; (with_reducible repeat (first | refine blk_drewN ?_ _ | refine blk_drew ?_ | refine blk_alloc ?_ _)); exact BK184.out⟩, ⟨by repeat (first | (with_reducible first | exact HB.out | apply below_alloc | apply pw_below_drewN | apply below_drew1 | refine below_set ?_ GE181.out | refine below_set ?_ GE184.out) | exact HB.out)⟩⟩
   rw [if_neg c36] at H
   have c36b0 : decide (4 < ((rd_T82 l0_2 x4_2).f2)) = false := decide_eq_false c36
   clear c36
   replace H := Option.bind_eq_some_iff.mp H
   obtain ⟨t185, A400, H⟩ := H
   replace H : (spliceref08_Check.j2 k2 (l0_2.length : Int) x4_2 (!t185) a0_0 a0_1 l0_2 ((rd_T82 l0_2 x4_2).f0) ((rd_T82 l0_2 x4_2).f1.f0) ((rd_T82 l0_2 x4_2).f1.f1) ((rd_T82 l0_2 x4_2).f2)) = some r := H
   have A40 := Aside0.mk A400
   clear A400
   have H' := Aside0.mk H
   clear H
   have hnb41 := NB184_181.out
   have hnc41 := NB181_184.out
   have hcz42_0 : w22.cell? ⟨gb184, 0, none⟩ = some (.int .i64 0) := (blk_cell BK184.out 0).trans rfl
   have hcz42_1 : w22.cell? ⟨gb184, 1, none⟩ = some (.int .i64 0) := (blk_cell BK184.out 1).trans rfl
   have hcz42_2 : w22.cell? ⟨gb184, 2, none⟩ = some (.int .i64 0) := (blk_cell BK184.out 2).trans rfl
   have hcz42_3 : w22.cell? ⟨gb184, 3, none⟩ = some (.int .i64 0) := (blk_cell BK184.out 3).trans rfl
   have hfz42_0 := blk_frozen BK184.out 0
   have hfz42_1 := blk_frozen BK184.out 1
   have hfz42_2 := blk_frozen BK184.out 2
   have hfz42_3 := blk_frozen BK184.out 3
   have hcz43_0 : w22.cell? ⟨gb181, 0, none⟩ = some (.int .i64 a0_0) := (blk_cell BK181.out 0).trans rfl
   have hcz43_1 : w22.cell? ⟨gb181, 1, none⟩ = some (.int .i64 a0_1) := (blk_cell BK181.out 1).trans rfl
   have hcz43_2 : w22.cell? ⟨gb181, 2, none⟩ = some (.slice (some ad183) l0_2.length c0_2) := (blk_cell BK181.out 2).trans rfl
   have hfz43_0 := blk_frozen BK181.out 0
   have hfz43_1 := blk_frozen BK181.out 1
   have hfz43_2 := blk_frozen BK181.out 2
   go_wp2_with (first | (go_at_call 48; (with_reducible refine (spliceref03_One.calls ((rd_T82 l0_2 x4_2).f1.f0) ((rd_T82 l0_2 x4_2).f1.f1) t185 _ A40.out).mono ?_); rintro e w44 ⟨rfl, hb⟩; have n0_ := Aside0.mk (blk_below (g := gb181) (o := .cells #[.int .i64 a0_0, .int .i64 a0_1, .slice (some ad183) l0_2.length c0_2] 30 (0, 0)) (by (with_reducible repeat (first | refine blk_drewN ?_ _ | refine blk_drew ?_ | refine blk_alloc ?_ _)); refine blk_far ?_ NB181_184.out _; (with_reducible repeat (first | refine blk_drewN ?_ _ | refine blk_drew ?_ | refine blk_alloc ?_ _)); refine blk_far ?_ NB181_184.out _; (with_reducible repeat (first | refine blk_drewN ?_ _ | refine blk_drew ?_ | refine blk_alloc ?_ _)); refine blk_far ?_ NB181_184.out _; (with_reducible repeat (first | refine blk_drewN ?_ _ | refine blk_drew ?_ | refine blk_alloc ?_ _)); refine blk_far ?_ NB181_184.out _; (with_reducible repeat (first | refine blk_drewN ?_ _ | refine blk_drew ?_ | refine blk_alloc ?_ _)); exact BK181.out) hb); have n1_ := Aside0.mk (blk_below (g := gb184) (o := .cells #[.int .i64 ((rd_T82 l0_2 x4_2).f0), .int .i64 ((rd_T82 l0_2 x4_2).f1.f0), .int .i64 ((rd_T82 l0_2 x4_2).f1.f1), .int .i64 ((rd_T82 l0_2 x4_2).f2)] 82 (0, 0)) (by (with_reducible repeat (first | refine blk_drewN ?_ _ | refine blk_drew ?_ | refine blk_alloc ?_ _)); refine blk_put (cs := #[.int .i64 ((rd_T82 l0_2 x4_2).f0), .int .i64 ((rd_T82 l0_2 x4_2).f1.f0), .int .i64 ((rd_T82 l0_2 x4_2).f1.f1), .int .i64 0]) ?_ 3 _ rfl; (with_reducible repeat (first | refine blk_drewN ?_ _ | refine blk_drew ?_ | refine blk_alloc ?_ _)); refine blk_put (cs := #[.int .i64 ((rd_T82 l0_2 x4_2).f0), .int .i64 ((rd_T82 l0_2 x4_2).f1.f0), .int .i64 0, .int .i64 0]) ?_ 2 _ rfl; (with_reducible repeat (first | refine blk_drewN ?_ _ | refine blk_drew ?_ | refine blk_alloc ?_ _)); refine blk_put (cs := #[.int .i64 ((rd_T82 l0_2 x4_2).f0), .int .i64 0, .int .i64 0, .int .i64 0]) ?_ 1 _ rfl; (with_reducible repeat (first | refine blk_drewN ?_ _ | refine blk_drew ?_ | refine blk_alloc ?_ _)); refine blk_put (cs := #[.int .i64 0, .int .i64 0, .int .i64 0, .int .i64 0]) ?_ 0 _ rfl; (with_reducible repeat (first | refine blk_drewN ?_ _ | refine blk_drew ?_ | refine blk_alloc ?_ _)); exact BK184.out) hb); have n2_ := Aside0.mk (below_step (by repeat (first | (with_reducible first | exact HB.out | apply below_alloc | apply pw_below_drewN | apply below_drew1 | refine below_set ?_ GE181.out | refine below_set ?_ GE184.out) | exact HB.out)) hb); clear BK181; clear BK184; clear HB; have BK181 := n0_; have BK184 := n1_; have HB := n2_; clear n0_ n1_ n2_; (try clear hb); (try clear hb2); (try clear hk); (try clear hi)))
   repeat (go_quiet (first | (go_at_call 48; (with_reducible refine (spliceref03_One.calls ((rd_T82 l0_2 x4_2).f1.f0) ((rd_T82 l0_2 x4_2).f1.f1) t185 _ A40.out).mono ?_); rintro e w44 ⟨rfl, hb⟩; have n0_ := Aside0.mk (blk_below (g := gb181) (o := .cells #[.int .i64 a0_0, .int .i64 a0_1, .slice (some ad183) l0_2.length c0_2] 30 (0, 0)) (by (with_reducible repeat (first | refine blk_drewN ?_ _ | refine blk_drew ?_ | refine blk_alloc ?_ _)); refine blk_far ?_ NB181_184.out _; (with_reducible repeat (first | refine blk_drewN ?_ _ | refine blk_drew ?_ | refine blk_alloc ?_ _)); refine blk_far ?_ NB181_184.out _; (with_reducible repeat (first | refine blk_drewN ?_ _ | refine blk_drew ?_ | refine blk_alloc ?_ _)); refine blk_far ?_ NB181_184.out _; (with_reducible repeat (first | refine blk_drewN ?_ _ | refine blk_drew ?_ | refine blk_alloc ?_ _)); refine blk_far ?_ NB181_184.out _; (with_reducible repeat (first | refine blk_drewN ?_ _ | refine blk_drew ?_ | refine blk_alloc ?_ _)); exact BK181.out) hb); have n1_ := Aside0.mk (blk_below (g := gb184) (o := .cells #[.int .i64 ((rd_T82 l0_2 x4_2).f0), .int .i64 ((rd_T82 l0_2 x4_2).f1.f0), .int .i64 ((rd_T82 l0_2 x4_2).f1.f1), .int .i64 ((rd_T82 l0_2 x4_2).f2)] 82 (0, 0)) (by (with_reducible repeat (first | refine blk_drewN ?_ _ | refine blk_drew ?_ | refine blk_alloc ?_ _)); refine blk_put (cs := #[.int .i64 ((rd_T82 l0_2 x4_2).f0), .int .i64 ((rd_T82 l0_2 x4_2).f1.f0), .int .i64 ((rd_T82 l0_2 x4_2).f1.f1), .int .i64 0]) ?_ 3 _ rfl; (with_reducible repeat (first | refine blk_drewN ?_ _ | refine blk_drew ?_ | refine blk_alloc ?_ _)); refine blk_put (cs := #[.int .i64 ((rd_T82 l0_2 x4_2).f0), .int .i64 ((rd_T82 l0_2 x4_2).f1.f0), .int .i64 0, .int .i64 0]) ?_ 2 _ rfl; (with_reducible repeat (first | refine blk_drewN ?_ _ | refine blk_drew ?_ | refine blk_alloc ?_ _)); refine blk_put (cs := #[.int .i64 ((rd_T82 l0_2 x4_2).f0), .int .i64 0, .int .i64 0, .int .i64 0]) ?_ 1 _ rfl; (with_reducible repeat (first | refine blk_drewN ?_ _ | refine blk_drew ?_ | refine blk_alloc ?_ _)); refine blk_put (cs := #[.int .i64 0, .int .i64 0, .int .i64 0, .int .i64 0]) ?_ 0 _ rfl; (with_reducible repeat (first | refine blk_drewN ?_ _ | refine blk_drew ?_ | refine blk_alloc ?_ _)); exact BK184.out) hb); have n2_ := Aside0.mk (below_step (by repeat (first | (with_reducible first | exact HB.out | apply below_alloc | apply pw_below_drewN | apply below_drew1 | refine below_set ?_ GE181.out | refine below_set ?_ GE184.out) | exact HB.out)) hb); clear BK181; clear BK184; clear HB; have BK181 := n0_; have BK184 := n1_; have HB := n2_; clear n0_ n1_ n2_; (try clear hb); (try clear hb2); (try clear hk); (try clear hi))); try go_wp2_with (first | (go_at_call 48; (with_reducible refine (spliceref03_One.calls ((rd_T82 l0_2 x4_2).f1.f0) ((rd_T82 l0_2 x4_2).f1.f1) t185 _ A40.out).mono ?_); rintro e w44 ⟨rfl, hb⟩; have n0_ := Aside0.mk (blk_below (g := gb181) (o := .cells #[.int .i64 a0_0, .int .i64 a0_1, .slice (some ad183) l0_2.length c0_2] 30 (0, 0)) (by (with_reducible repeat (first | refine blk_drewN ?_ _ | refine blk_drew ?_ | refine blk_alloc ?_ _)); refine blk_far ?_ NB181_184.out _; (with_reducible repeat (first | refine blk_drewN ?_ _ | refine blk_drew ?_ | refine blk_alloc ?_ _)); refine blk_far ?_ NB181_184.out _; (with_reducible repeat (first | refine blk_drewN ?_ _ | refine blk_drew ?_ | refine blk_alloc ?_ _)); refine blk_far ?_ NB181_184.out _; (with_reducible repeat (first | refine blk_drewN ?_ _ | refine blk_drew ?_ | refine blk_alloc ?_ _)); refine blk_far ?_ NB181_184.out _; (with_reducible repeat (first | refine blk_drewN ?_ _ | refine blk_drew ?_ | refine blk_alloc ?_ _)); exact BK181.out) hb); have n1_ := Aside0.mk (blk_below (g := gb184) (o := .cells #[.int .i64 ((rd_T82 l0_2 x4_2).f0), .int .i64 ((rd_T82 l0_2 x4_2).f1.f0), .int .i64 ((rd_T82 l0_2 x4_2).f1.f1), .int .i64 ((rd_T82 l0_2 x4_2).f2)] 82 (0, 0)) (by (with_reducible repeat (first | refine blk_drewN ?_ _ | refine blk_drew ?_ | refine blk_alloc ?_ _)); refine blk_put (cs := #[.int .i64 ((rd_T82 l0_2 x4_2).f0), .int .i64 ((rd_T82 l0_2 x4_2).f1.f0), .int .i64 ((rd_T82 l0_2 x4_2).f1.f1), .int .i64 0]) ?_ 3 _ rfl; (with_reducible repeat (first | refine blk_drewN ?_ _ | refine blk_drew ?_ | refine blk_alloc ?_ _)); refine blk_put (cs := #[.int .i64 ((rd_T82 l0_2 x4_2).f0), .int .i64 ((rd_T82 l0_2 x4_2).f1.f0), .int .i64 0, .int .i64 0]) ?_ 2 _ rfl; (with_reducible repeat (first | refine blk_drewN ?_ _ | refine blk_drew ?_ | refine blk_alloc ?_ _)); refine blk_put (cs := #[.int .i64 ((rd_T82 l0_2 x4_2).f0), .int .i64 0, .int .i64 0, .int .i64 0]) ?_ 1 _ rfl; (with_reducible repeat (first | refine blk_drewN ?_ _ | refine blk_drew ?_ | refine blk_alloc ?_ _)); refine blk_put (cs := #[.int .i64 0, .int .i64 0, .int .i64 0, .int .i64 0]) ?_ 0 _ rfl; (with_reducible repeat (first | refine blk_drewN ?_ _ | refine blk_drew ?_ | refine blk_alloc ?_ _)); exact BK184.out) hb); have n2_ := Aside0.mk (below_step (by repeat (first | (with_reducible first | exact HB.out | apply below_alloc | apply pw_below_drewN | apply below_drew1 | refine below_set ?_ GE181.out | refine below_set ?_ GE184.out) | exact HB.out)) hb); clear BK181; clear BK184; clear HB; have BK181 := n0_; have BK184 := n1_; have HB := n2_; clear n0_ n1_ n2_; (try clear hb); (try clear hb2); (try clear hk); (try clear hi))))
   go_meet
   case rel => exact ⟨_, (!t185), (by first | rfl | (simp; done) | (simp [*]; done)), H', ⟨by have := HJ1.out; have := HK2.out; first | omega | exact Nat.le_refl _⟩, ⟨by (with_reducible repeat (first | refine blk_drewN ?_ _ | refine blk_drew ?_ | refine blk_alloc ?_ _)); exact BK181.out⟩, ⟨by (with_reducible repeat (first | refine blk_drewN ?_ _ | refine blk_drew ?_ | refine blk_alloc ?_ _)); exact BK184.out⟩, ⟨by repeat (first | (with_reducible first | exact HB.out | apply below_alloc | apply pw_below_drewN | apply below_drew1 | refine below_set ?_ GE181.out | refine below_set ?_ GE184.out) | exact HB.out)⟩⟩
 clear HC20
 try clear c1
 try clear p1
 try clear q1
 try clear hx1
 try clear c2
 try clear p2
 try clear c3
 try clear c4
 try clear c5
 try clear c5b0
 try clear c7
 try clear c7b0
 try clear c9
 try clear c9b0
 try clear c11
 try clear c11b0
 try clear c13
 try clear c13b0
 try clear c13b1
 try clear c16
 try clear c17
 try clear c17b0
 try clear c18
 try clear c18b0
 try clear p18
 try clear q18
 try clear hx18
 try clear c19
 try clear c19b0
 try clear c23
 try clear c25
 try clear c25b0
 try clear c26
 try clear c28
 try clear c28b0
 try clear c29
 try clear c32
 try clear c32b0
 try clear c33
 try clear c36
 try clear c36b0
 try clear c37
 try clear c41
 try clear hcz10_0
 try clear hcz10_1
 try clear hcz10_2
 try clear hcz12_0
 try clear hcz12_1
 try clear hcz12_2
 try clear hcz14_0
 try clear hcz14_1
 try clear hcz14_2
 try clear hcz15_0
 try clear hcz15_1
 try clear hcz15_2
 try clear hcz21_0
 try clear hcz21_1
 try clear hcz21_2
 try clear hcz24_0
 try clear hcz24_1
 try clear hcz24_2
 try clear hcz24_3
 try clear hcz27_0
 try clear hcz27_1
 try clear hcz27_2
 try clear hcz27_3
 try clear hcz30_0
 try clear hcz30_1
 try clear hcz30_2
 try clear hcz30_3
 try clear hcz31_0
 try clear hcz31_1
 try clear hcz31_2
 try clear hcz34_0
 try clear hcz34_1
 try clear hcz34_2
 try clear hcz34_3
 try clear hcz35_0
 try clear hcz35_1
 try clear hcz35_2
 try clear hcz38_0
 try clear hcz38_1
 try clear hcz38_2
 try clear hcz38_3
 try clear hcz39_0
 try clear hcz39_1
 try clear hcz39_2
 try clear hcz42_0
 try clear hcz42_1
 try clear hcz42_2
 try clear hcz42_3
 try clear hcz43_0
 try clear hcz43_1
 try clear hcz43_2
 try clear hcz4_0
 try clear hcz4_1
 try clear hcz4_2
 try clear hcz6_0
 try clear hcz6_1
 try clear hcz6_2
 try clear hcz8_0
 try clear hcz8_1
 try clear hcz8_2
 try clear hfz10_0
 try clear hfz10_1
 try clear hfz10_2
 try clear hfz12_0
 try clear hfz12_1
 try clear hfz12_2
 try clear hfz14_0
 try clear hfz14_1
 try clear hfz14_2
 try clear hfz15_0
 try clear hfz15_1
 try clear hfz15_2
 try clear hfz21_0
 try clear hfz21_1
 try clear hfz21_2
 try clear hfz24_0
 try clear hfz24_1
 try clear hfz24_2
 try clear hfz24_3
 try clear hfz27_0
 try clear hfz27_1
 try clear hfz27_2
 try clear hfz27_3
 try clear hfz30_0
 try clear hfz30_1
 try clear hfz30_2
 try clear hfz30_3
 try clear hfz31_0
 try clear hfz31_1
 try clear hfz31_2
 try clear hfz34_0
 try clear hfz34_1
 try clear hfz34_2
 try clear hfz34_3
 try clear hfz35_0
 try clear hfz35_1
 try clear hfz35_2
 try clear hfz38_0
 try clear hfz38_1
 try clear hfz38_2
 try clear hfz38_3
 try clear hfz39_0
 try clear hfz39_1
 try clear hfz39_2
 try clear hfz42_0
 try clear hfz42_1
 try clear hfz42_2
 try clear hfz42_3
 try clear hfz43_0
 try clear hfz43_1
 try clear hfz43_2
 try clear hfz4_0
 try clear hfz4_1
 try clear hfz4_2
 try clear hfz6_0
 try clear hfz6_1
 try clear hfz6_2
 try clear hfz8_0
 try clear hfz8_1
 try clear hfz8_2
 try clear hx183_0
 try clear hx183_1
 try clear hx183_2
 try clear hx183_3
 try clear p183
 try clear p2
 try clear q183
 obtain ⟨kq, x71_19, rfl, HA, HJ19, BK181, BK184, HB⟩ := hcut
 cases kq with
 | zero => exact absurd HA.out (by simp [spliceref08_Check.j2])
 | succ kj19 => ?_
 have H := HA.out
 clear HA; simp only [spliceref08_Check.j2] at H
 by_cases c45 : x71_19 = true
 · subst c45
   have H1 : (some false) = some r := by rw [if_pos rfl] at H; exact H
   clear H
   have H := H1
   clear H1
   obtain rfl := Option.some.inj H
   go_wp2
   repeat (go_quiet (fail); try go_wp2)
   go_ret
   exact ⟨by first | rfl | (simp [errW_none, errW_some] <;> rfl) | (simp [*, errW_none, errW_some] <;> rfl), by repeat (first | (with_reducible first | exact HB.out | apply below_alloc | apply pw_below_drewN | apply below_drew1 | refine below_set ?_ GE181.out | refine below_set ?_ GE184.out) | exact HB.out)⟩
 replace c45 := Bool.eq_false_iff.mpr c45
 subst c45
 have H1 : (if x4_2 = 0 then (if ((rd_T82 l0_2 x4_2).f1.f0) = 0 then (if x4_2 > 0 then (if 0 ≤ (wrap64 (x4_2 - 1)) then (if (wrap64 (x4_2 - 1)) < (l0_2.length : Int) then (spliceref08_Check.j3 kj19 (l0_2.length : Int) x4_2 (((rd_T82 l0_2 x4_2).f1.f0) != ((rd_T82 l0_2 (wrap64 (x4_2 - 1))).f1.f1)) a0_0 a0_1 l0_2 ((rd_T82 l0_2 x4_2).f0) ((rd_T82 l0_2 x4_2).f1.f0) ((rd_T82 l0_2 x4_2).f1.f1) ((rd_T82 l0_2 x4_2).f2)) else (none)) else (none)) else (spliceref08_Check.j3 kj19 (l0_2.length : Int) x4_2 false a0_0 a0_1 l0_2 ((rd_T82 l0_2 x4_2).f0) ((rd_T82 l0_2 x4_2).f1.f0) ((rd_T82 l0_2 x4_2).f1.f1) ((rd_T82 l0_2 x4_2).f2))) else (spliceref08_Check.j3 kj19 (l0_2.length : Int) x4_2 true a0_0 a0_1 l0_2 ((rd_T82 l0_2 x4_2).f0) ((rd_T82 l0_2 x4_2).f1.f0) ((rd_T82 l0_2 x4_2).f1.f1) ((rd_T82 l0_2 x4_2).f2))) else (if x4_2 > 0 then (if 0 ≤ (wrap64 (x4_2 - 1)) then (if (wrap64 (x4_2 - 1)) < (l0_2.length : Int) then (spliceref08_Check.j3 kj19 (l0_2.length : Int) x4_2 (((rd_T82 l0_2 x4_2).f1.f0) != ((rd_T82 l0_2 (wrap64 (x4_2 - 1))).f1.f1)) a0_0 a0_1 l0_2 ((rd_T82 l0_2 x4_2).f0) ((rd_T82 l0_2 x4_2).f1.f0) ((rd_T82 l0_2 x4_2).f1.f1) ((rd_T82 l0_2 x4_2).f2)) else (none)) else (none)) else (spliceref08_Check.j3 kj19 (l0_2.length : Int) x4_2 false a0_0 a0_1 l0_2 ((rd_T82 l0_2 x4_2).f0) ((rd_T82 l0_2 x4_2).f1.f0) ((rd_T82 l0_2 x4_2).f1.f1) ((rd_T82 l0_2 x4_2).f2)))) = some r := by rw [if_neg (show ¬ (false = true) by decide)] at H; exact H
 clear H
 have H := H1
 clear H1
 have HC46 := Aside0.mk H
 clear H
 go_upto_region 10 with (fail)
 repeat (go_quiet (fail); go_upto_region 10 with (fail))
 go_cut [97] (fun v97 wc => ∃ (kq : Nat) (x97_45 : Bool), v97 = .bool x97_45 ∧ Aside0 (spliceref08_Check.j3 kq (l0_2.length : Int) x4_2 x97_45 a0_0 a0_1 l0_2 ((rd_T82 l0_2 x4_2).f0) ((rd_T82 l0_2 x4_2).f1.f0) ((rd_T82 l0_2 x4_2).f1.f1) ((rd_T82 l0_2 x4_2).f2) = some r) ∧ Aside0 (kq ≤ kj19) ∧ Aside0 (wc.heap[gb181]? = some (.cells #[.int .i64 a0_0, .int .i64 a0_1, (.slice (some ad183) l0_2.length c0_2)] 30 (0, 0))) ∧ Aside0 (wc.heap[gb184]? = some (.cells #[.int .i64 ((rd_T82 l0_2 x4_2).f0), .int .i64 ((rd_T82 l0_2 x4_2).f1.f0), .int .i64 ((rd_T82 l0_2 x4_2).f1.f1), .int .i64 ((rd_T82 l0_2 x4_2).f2)] 82 (0, 0))) ∧ Aside0 (Below w.heap.size w wc))
 case first =>
   have H := HC46.out
   clear HC46
   by_cases c47 : x4_2 = 0
   rotate_left
   · rw [if_neg c47] at H
     have c47b0 : (x4_2 == 0) = false := beq_eq_false_iff_ne.mpr c47
     have c47b1 : (x4_2 != 0) = true := bne_iff_ne.mpr c47
     (first | rw [c47b0] | (simp only [i64_w, i32_w]; rw [c47b0]) | skip)
     by_cases c60 : x4_2 > 0
     rotate_left
     · rw [if_neg c60] at H
       have c60b0 : decide (0 < x4_2) = false := decide_eq_false c60
       clear c60
       have H' := Aside0.mk H
       clear H
       go_wp2
       repeat (go_quiet (fail); try go_wp2)
       go_meet
       case rel => exact ⟨_, (false), (by first | rfl | (simp; done) | (simp [*]; done)), H', ⟨by have := HJ1.out; have := HK2.out; have := HJ19.out; first | omega | exact Nat.le_refl _⟩, ⟨by (with_reducible repeat (first | refine blk_drewN ?_ _ | refine blk_drew ?_ | refine blk_alloc ?_ _)); exact BK181.out⟩, ⟨by (with_reducible repeat (first | refine blk_drewN ?_ _ | refine blk_drew ?_ | refine blk_alloc ?_ _)); exact BK184.out⟩, ⟨by repeat (first | (with_reducible first | exact HB.out | apply below_alloc | apply pw_below_drewN | apply below_drew1 | refine below_set ?_ GE181.out | refine below_set ?_ GE184.out) | exact HB.out)⟩⟩
     rw [if_pos c60] at H
     have c60b0 : decide (0 < x4_2) = true := decide_eq_true c60
     clear c60
     obtain ⟨ji61, hji61⟩ : ∃ j_ : Int, (wrap64 (x4_2 - 1)) = j_ := ⟨_, rfl⟩
     replace H : (if 0 ≤ (ji61) then (if (ji61) < (l0_2.length : Int) then (spliceref08_Check.j3 kj19 (l0_2.length : Int) x4_2 (((rd_T82 l0_2 x4_2).f1.f0) != ((rd_T82 l0_2 (ji61)).f1.f1)) a0_0 a0_1 l0_2 ((rd_T82 l0_2 x4_2).f0) ((rd_T82 l0_2 x4_2).f1.f0) ((rd_T82 l0_2 x4_2).f1.f1) ((rd_T82 l0_2 x4_2).f2)) else (none)) else (none)) = some r := by first | (rw [hji61] at H; exact H) | (simp only [hji61] at H ⊢; exact H)
     have hji61w : (IntKind.i64.wrap (x4_2 - 1)) = ji61 := (i64_w _).trans hji61
     by_cases c62 : 0 ≤ (ji61)
     rotate_left
     · rw [if_neg c62] at H; exact absurd H (by simp)
     rw [if_pos c62] at H
     have c62b0 : decide (0 ≤ (ji61)) = true := decide_eq_true c62
     clear c62
     by_cases c63 : (ji61) < (l0_2.length : Int)
     rotate_left
     · rw [if_neg c63] at H; exact absurd H (by simp)
     rw [if_pos c63] at H
     have c63b0 : decide ((ji61) < (l0_2.length : Int)) = true := decide_eq_true c63
     clear c63
     have H' := Aside0.mk H
     clear H
     have hnb64 := NB184_181.out
     have hnc64 := NB181_184.out
     have hcz65_0 : wc.cell? ⟨gb184, 0, none⟩ = some (.int .i64 ((rd_T82 l0_2 x4_2).f0)) := (blk_cell BK184.out 0).trans rfl
     have hcz65_1 : wc.cell? ⟨gb184, 1, none⟩ = some (.int .i64 ((rd_T82 l0_2 x4_2).f1.f0)) := (blk_cell BK184.out 1).trans rfl
     have hcz65_2 : wc.cell? ⟨gb184, 2, none⟩ = some (.int .i64 ((rd_T82 l0_2 x4_2).f1.f1)) := (blk_cell BK184.out 2).trans rfl
     have hcz65_3 : wc.cell? ⟨gb184, 3, none⟩ = some (.int .i64 ((rd_T82 l0_2 x4_2).f2)) := (blk_cell BK184.out 3).trans rfl
     have hfz65_0 := blk_frozen BK184.out 0
     have hfz65_1 := blk_frozen BK184.out 1
     have hfz65_2 := blk_frozen BK184.out 2
     have hfz65_3 := blk_frozen BK184.out 3
     have hcz66_0 : wc.cell? ⟨gb181, 0, none⟩ = some (.int .i64 a0_0) := (blk_cell BK181.out 0).trans rfl
     have hcz66_1 : wc.cell? ⟨gb181, 1, none⟩ = some (.int .i64 a0_1) := (blk_cell BK181.out 1).trans rfl
     have hcz66_2 : wc.cell? ⟨gb181, 2, none⟩ = some (.slice (some ad183) l0_2.length c0_2) := (blk_cell BK181.out 2).trans rfl
     have hfz66_0 := blk_frozen BK181.out 0
     have hfz66_1 := blk_frozen BK181.out 1
     have hfz66_2 := blk_frozen BK181.out 2
     have p187 : 0 ≤ ((ji61) : Int) := of_decide_eq_true (by first | (with_reducible assumption) | assumption)
     have q187 : (ji61) < (l0_2.length : Int) := of_decide_eq_true (by first | (with_reducible assumption) | assumption)
     obtain ⟨ad187, e187, hx187_0, hx187_1, hx187_2, hx187_3⟩ := at_T82 HR0_2.out (ji61) p187 q187
     obtain rfl : ad183 = ad187 := (by injection e187)
     replace hx187_0 := (HB.out.cell (World.block_lt_of_cell? w _ hx187_0)).trans hx187_0
     replace hx187_1 := (HB.out.cell (World.block_lt_of_cell? w _ hx187_1)).trans hx187_1
     replace hx187_2 := (HB.out.cell (World.block_lt_of_cell? w _ hx187_2)).trans hx187_2
     replace hx187_3 := (HB.out.cell (World.block_lt_of_cell? w _ hx187_3)).trans hx187_3
     replace p187 := eq_true p187
     replace q187 := eq_true q187
     go_wp2
     repeat (go_quiet (fail); try go_wp2)
     go_meet
     case rel => exact ⟨_, ((((rd_T82 l0_2 x4_2).f1.f0) != ((rd_T82 l0_2 (ji61)).f1.f1))), (by first | rfl | (simp; done) | (simp only [← hji61] <;> (first | rfl | simp)) | (simp [*]; done)), H', ⟨by have := HJ1.out; have := HK2.out; have := HJ19.out; first | omega | exact Nat.le_refl _⟩, ⟨by (with_reducible repeat (first | refine blk_drewN ?_ _ | refine blk_drew ?_ | refine blk_alloc ?_ _)); exact BK181.out⟩, ⟨by (with_reducible repeat (first | refine blk_drewN ?_ _ | refine blk_drew ?_ | refine blk_alloc ?_ _)); exact BK184.out⟩, ⟨by repeat (first | (with_reducible first | exact HB.out | apply below_alloc | apply pw_below_drewN | apply below_drew1 | refine below_set ?_ GE181.out | refine below_set ?_ GE184.out) | exact HB.out)⟩⟩
   rw [if_pos c47] at H
   have c47b0 : (x4_2 == 0) = true := beq_iff_eq.mpr c47
   have c47b1 : (x4_2 != 0) = false := bne_eq_false_iff_eq.mpr c47
   clear c47
   (first | rw [c47b0] | (simp only [i64_w, i32_w]; rw [c47b0]) | skip)
   by_cases c48 : ((rd_T82 l0_2 x4_2).f1.f0) = 0
   rotate_left
   · rw [if_neg c48] at H
     have c48b0 : (((rd_T82 l0_2 x4_2).f1.f0) == 0) = false := beq_eq_false_iff_ne.mpr c48
     have c48b1 : (((rd_T82 l0_2 x4_2).f1.f0) != 0) = true := bne_iff_ne.mpr c48
     have H' := Aside0.mk H
     clear H
     have hnb58 := NB184_181.out
     have hnc58 := NB181_184.out
     have hcz59_0 : wc.cell? ⟨gb184, 0, none⟩ = some (.int .i64 ((rd_T82 l0_2 x4_2).f0)) := (blk_cell BK184.out 0).trans rfl
     have hcz59_1 : wc.cell? ⟨gb184, 1, none⟩ = some (.int .i64 ((rd_T82 l0_2 x4_2).f1.f0)) := (blk_cell BK184.out 1).trans rfl
     have hcz59_2 : wc.cell? ⟨gb184, 2, none⟩ = some (.int .i64 ((rd_T82 l0_2 x4_2).f1.f1)) := (blk_cell BK184.out 2).trans rfl
     have hcz59_3 : wc.cell? ⟨gb184, 3, none⟩ = some (.int .i64 ((rd_T82 l0_2 x4_2).f2)) := (blk_cell BK184.out 3).trans rfl
     have hfz59_0 := blk_frozen BK184.out 0
     have hfz59_1 := blk_frozen BK184.out 1
     have hfz59_2 := blk_frozen BK184.out 2
     have hfz59_3 := blk_frozen BK184.out 3
     go_wp2
     repeat (go_quiet (fail); try go_wp2)
     go_meet
     case rel => exact ⟨_, (true), (by first | rfl | (simp; done) | (simp [*]; done)), H', ⟨by have := HJ1.out; have := HK2.out; have := HJ19.out; first | omega | exact Nat.le_refl _⟩, ⟨by (with_reducible repeat (first | refine blk_drewN ?_ _ | refine blk_drew ?_ | refine blk_alloc ?_ _)); exact BK181.out⟩, ⟨by (with_reducible repeat (first | refine blk_drewN ?_ _ | refine blk_drew ?_ | refine blk_alloc ?_ _)); exact BK184.out⟩, ⟨by repeat (first | (with_reducible first | exact HB.out | apply below_alloc | apply pw_below_drewN | apply below_drew1 | refine below_set ?_ GE181.out | refine below_set ?_ GE184.out) | exact HB.out)⟩⟩
   rw [if_pos c48] at H
   have c48b0 : (((rd_T82 l0_2 x4_2).f1.f0) == 0) = true := beq_iff_eq.mpr c48
   have c48b1 : (((rd_T82 l0_2 x4_2).f1.f0) != 0) = false := bne_eq_false_iff_eq.mpr c48
   clear c48
   by_cases c49 : x4_2 > 0
   rotate_left
   · rw [if_neg c49] at H
     have c49b0 : decide (0 < x4_2) = false := decide_eq_false c49
     clear c49
     have H' := Aside0.mk H
     clear H
     have hnb56 := NB184_181.out
     have hnc56 := NB181_184.out
     have hcz57_0 : wc.cell? ⟨gb184, 0, none⟩ = some (.int .i64 ((rd_T82 l0_2 x4_2).f0)) := (blk_cell BK184.out 0).trans rfl
     have hcz57_1 : wc.cell? ⟨gb184, 1, none⟩ = some (.int .i64 ((rd_T82 l0_2 x4_2).f1.f0)) := (blk_cell BK184.out 1).trans rfl
     have hcz57_2 : wc.cell? ⟨gb184, 2, none⟩ = some (.int .i64 ((rd_T82 l0_2 x4_2).f1.f1)) := (blk_cell BK184.out 2).trans rfl
     have hcz57_3 : wc.cell? ⟨gb184, 3, none⟩ = some (.int .i64 ((rd_T82 l0_2 x4_2).f2)) := (blk_cell BK184.out 3).trans rfl
     have hfz57_0 := blk_frozen BK184.out 0
     have hfz57_1 := blk_frozen BK184.out 1
     have hfz57_2 := blk_frozen BK184.out 2
     have hfz57_3 := blk_frozen BK184.out 3
     go_wp2
     repeat (go_quiet (fail); try go_wp2)
     go_meet
     case rel => exact ⟨_, (false), (by first | rfl | (simp; done) | (simp [*]; done)), H', ⟨by have := HJ1.out; have := HK2.out; have := HJ19.out; first | omega | exact Nat.le_refl _⟩, ⟨by (with_reducible repeat (first | refine blk_drewN ?_ _ | refine blk_drew ?_ | refine blk_alloc ?_ _)); exact BK181.out⟩, ⟨by (with_reducible repeat (first | refine blk_drewN ?_ _ | refine blk_drew ?_ | refine blk_alloc ?_ _)); exact BK184.out⟩, ⟨by repeat (first | (with_reducible first | exact HB.out | apply below_alloc | apply pw_below_drewN | apply below_drew1 | refine below_set ?_ GE181.out | refine below_set ?_ GE184.out) | exact HB.out)⟩⟩
   rw [if_pos c49] at H
   have c49b0 : decide (0 < x4_2) = true := decide_eq_true c49
   clear c49
   obtain ⟨ji50, hji50⟩ : ∃ j_ : Int, (wrap64 (x4_2 - 1)) = j_ := ⟨_, rfl⟩
   replace H : (if 0 ≤ (ji50) then (if (ji50) < (l0_2.length : Int) then (spliceref08_Check.j3 kj19 (l0_2.length : Int) x4_2 (((rd_T82 l0_2 x4_2).f1.f0) != ((rd_T82 l0_2 (ji50)).f1.f1)) a0_0 a0_1 l0_2 ((rd_T82 l0_2 x4_2).f0) ((rd_T82 l0_2 x4_2).f1.f0) ((rd_T82 l0_2 x4_2).f1.f1) ((rd_T82 l0_2 x4_2).f2)) else (none)) else (none)) = some r := by first | (rw [hji50] at H; exact H) | (simp only [hji50] at H ⊢; exact H)
   have hji50w : (IntKind.i64.wrap (x4_2 - 1)) = ji50 := (i64_w _).trans hji50
   by_cases c51 : 0 ≤ (ji50)
   rotate_left
   · rw [if_neg c51] at H; exact absurd H (by simp)
   rw [if_pos c51] at H
   have c51b0 : decide (0 ≤ (ji50)) = true := decide_eq_true c51
   clear c51
   by_cases c52 : (ji50) < (l0_2.length : Int)
   rotate_left
   · rw [if_neg c52] at H; exact absurd H (by simp)
   rw [if_pos c52] at H
   have c52b0 : decide ((ji50) < (l0_2.length : Int)) = true := decide_eq_true c52
   clear c52
   have H' := Aside0.mk H
   clear H
   have hnb53 := NB184_181.out
   have hnc53 := NB181_184.out
   have hcz54_0 : wc.cell? ⟨gb184, 0, none⟩ = some (.int .i64 ((rd_T82 l0_2 x4_2).f0)) := (blk_cell BK184.out 0).trans rfl
   have hcz54_1 : wc.cell? ⟨gb184, 1, none⟩ = some (.int .i64 ((rd_T82 l0_2 x4_2).f1.f0)) := (blk_cell BK184.out 1).trans rfl
   have hcz54_2 : wc.cell? ⟨gb184, 2, none⟩ = some (.int .i64 ((rd_T82 l0_2 x4_2).f1.f1)) := (blk_cell BK184.out 2).trans rfl
   have hcz54_3 : wc.cell? ⟨gb184, 3, none⟩ = some (.int .i64 ((rd_T82 l0_2 x4_2).f2)) := (blk_cell BK184.out 3).trans rfl
   have hfz54_0 := blk_frozen BK184.out 0
   have hfz54_1 := blk_frozen BK184.out 1
   have hfz54_2 := blk_frozen BK184.out 2
   have hfz54_3 := blk_frozen BK184.out 3
   have hcz55_0 : wc.cell? ⟨gb181, 0, none⟩ = some (.int .i64 a0_0) := (blk_cell BK181.out 0).trans rfl
   have hcz55_1 : wc.cell? ⟨gb181, 1, none⟩ = some (.int .i64 a0_1) := (blk_cell BK181.out 1).trans rfl
   have hcz55_2 : wc.cell? ⟨gb181, 2, none⟩ = some (.slice (some ad183) l0_2.length c0_2) := (blk_cell BK181.out 2).trans rfl
   have hfz55_0 := blk_frozen BK181.out 0
   have hfz55_1 := blk_frozen BK181.out 1
   have hfz55_2 := blk_frozen BK181.out 2
   have p186 : 0 ≤ ((ji50) : Int) := of_decide_eq_true (by first | (with_reducible assumption) | assumption)
   have q186 : (ji50) < (l0_2.length : Int) := of_decide_eq_true (by first | (with_reducible assumption) | assumption)
   obtain ⟨ad186, e186, hx186_0, hx186_1, hx186_2, hx186_3⟩ := at_T82 HR0_2.out (ji50) p186 q186
   obtain rfl : ad183 = ad186 := (by injection e186)
   replace hx186_0 := (HB.out.cell (World.block_lt_of_cell? w _ hx186_0)).trans hx186_0
   replace hx186_1 := (HB.out.cell (World.block_lt_of_cell? w _ hx186_1)).trans hx186_1
   replace hx186_2 := (HB.out.cell (World.block_lt_of_cell? w _ hx186_2)).trans hx186_2
   replace hx186_3 := (HB.out.cell (World.block_lt_of_cell? w _ hx186_3)).trans hx186_3
   replace p186 := eq_true p186
   replace q186 := eq_true q186
   go_wp2
   repeat (go_quiet (fail); try go_wp2)
   go_meet
   case rel => exact ⟨_, ((((rd_T82 l0_2 x4_2).f1.f0) != ((rd_T82 l0_2 (ji50)).f1.f1))), (by first | rfl | (simp; done) | (simp only [← hji50] <;> (first | rfl | simp)) | (simp [*]; done)), H', ⟨by have := HJ1.out; have := HK2.out; have := HJ19.out; first | omega | exact Nat.le_refl _⟩, ⟨by (with_reducible repeat (first | refine blk_drewN ?_ _ | refine blk_drew ?_ | refine blk_alloc ?_ _)); exact BK181.out⟩, ⟨by (with_reducible repeat (first | refine blk_drewN ?_ _ | refine blk_drew ?_ | refine blk_alloc ?_ _)); exact BK184.out⟩, ⟨by repeat (first | (with_reducible first | exact HB.out | apply below_alloc | apply pw_below_drewN | apply below_drew1 | refine below_set ?_ GE181.out | refine below_set ?_ GE184.out) | exact HB.out)⟩⟩
 clear HC46
 try clear c1
 try clear p1
 try clear q1
 try clear hx1
 try clear c2
 try clear p2
 try clear c3
 try clear c4
 try clear c5
 try clear c5b0
 try clear c6
 try clear p6
 try clear c7
 try clear c7b0
 try clear c9
 try clear c9b0
 try clear c11
 try clear c11b0
 try clear c13
 try clear c13b0
 try clear c13b1
 try clear c16
 try clear c17
 try clear c17b0
 try clear c18
 try clear c18b0
 try clear p18
 try clear q18
 try clear hx18
 try clear c19
 try clear c19b0
 try clear c23
 try clear c25
 try clear c25b0
 try clear c26
 try clear c28
 try clear c28b0
 try clear c29
 try clear c32
 try clear c32b0
 try clear c33
 try clear c36
 try clear c36b0
 try clear c37
 try clear c41
 try clear c45
 try clear c47
 try clear c47b0
 try clear c47b1
 try clear c48
 try clear c48b0
 try clear c48b1
 try clear c49
 try clear c49b0
 try clear c51
 try clear c51b0
 try clear c52
 try clear c52b0
 try clear c53
 try clear c56
 try clear c58
 try clear c60
 try clear c60b0
 try clear c62
 try clear c62b0
 try clear c63
 try clear c63b0
 try clear c64
 try clear p64
 try clear hcz10_0
 try clear hcz10_1
 try clear hcz10_2
 try clear hcz12_0
 try clear hcz12_1
 try clear hcz12_2
 try clear hcz14_0
 try clear hcz14_1
 try clear hcz14_2
 try clear hcz15_0
 try clear hcz15_1
 try clear hcz15_2
 try clear hcz21_0
 try clear hcz21_1
 try clear hcz21_2
 try clear hcz24_0
 try clear hcz24_1
 try clear hcz24_2
 try clear hcz24_3
 try clear hcz27_0
 try clear hcz27_1
 try clear hcz27_2
 try clear hcz27_3
 try clear hcz30_0
 try clear hcz30_1
 try clear hcz30_2
 try clear hcz30_3
 try clear hcz31_0
 try clear hcz31_1
 try clear hcz31_2
 try clear hcz34_0
 try clear hcz34_1
 try clear hcz34_2
 try clear hcz34_3
 try clear hcz35_0
 try clear hcz35_1
 try clear hcz35_2
 try clear hcz38_0
 try clear hcz38_1
 try clear hcz38_2
 try clear hcz38_3
 try clear hcz39_0
 try clear hcz39_1
 try clear hcz39_2
 try clear hcz42_0
 try clear hcz42_1
 try clear hcz42_2
 try clear hcz42_3
 try clear hcz43_0
 try clear hcz43_1
 try clear hcz43_2
 try clear hcz4_0
 try clear hcz4_1
 try clear hcz4_2
 try clear hcz54_0
 try clear hcz54_1
 try clear hcz54_2
 try clear hcz54_3
 try clear hcz55_0
 try clear hcz55_1
 try clear hcz55_2
 try clear hcz57_0
 try clear hcz57_1
 try clear hcz57_2
 try clear hcz57_3
 try clear hcz59_0
 try clear hcz59_1
 try clear hcz59_2
 try clear hcz59_3
 try clear hcz65_0
 try clear hcz65_1
 try clear hcz65_2
 try clear hcz65_3
 try clear hcz66_0
 try clear hcz66_1
 try clear hcz66_2
 try clear hcz6_0
 try clear hcz6_1
 try clear hcz6_2
 try clear hcz8_0
 try clear hcz8_1
 try clear hcz8_2
 try clear hfz10_0
 try clear hfz10_1
 try clear hfz10_2
 try clear hfz12_0
 try clear hfz12_1
 try clear hfz12_2
 try clear hfz14_0
 try clear hfz14_1
 try clear hfz14_2
 try clear hfz15_0
 try clear hfz15_1
 try clear hfz15_2
 try clear hfz21_0
 try clear hfz21_1
 try clear hfz21_2
 try clear hfz24_0
 try clear hfz24_1
 try clear hfz24_2
 try clear hfz24_3
 try clear hfz27_0
 try clear hfz27_1
 try clear hfz27_2
 try clear hfz27_3
 try clear hfz30_0
 try clear hfz30_1
 try clear hfz30_2
 try clear hfz30_3
 try clear hfz31_0
 try clear hfz31_1
 try clear hfz31_2
 try clear hfz34_0
 try clear hfz34_1
 try clear hfz34_2
 try clear hfz34_3
 try clear hfz35_0
 try clear hfz35_1
 try clear hfz35_2
 try clear hfz38_0
 try clear hfz38_1
 try clear hfz38_2
 try clear hfz38_3
 try clear hfz39_0
 try clear hfz39_1
 try clear hfz39_2
 try clear hfz42_0
 try clear hfz42_1
 try clear hfz42_2
 try clear hfz42_3
 try clear hfz43_0
 try clear hfz43_1
 try clear hfz43_2
 try clear hfz4_0
 try clear hfz4_1
 try clear hfz4_2
 try clear hfz54_0
 try clear hfz54_1
 try clear hfz54_2
 try clear hfz54_3
 try clear hfz55_0
 try clear hfz55_1
 try clear hfz55_2
 try clear hfz57_0
 try clear hfz57_1
 try clear hfz57_2
 try clear hfz57_3
 try clear hfz59_0
 try clear hfz59_1
 try clear hfz59_2
 try clear hfz59_3
 try clear hfz65_0
 try clear hfz65_1
 try clear hfz65_2
 try clear hfz65_3
 try clear hfz66_0
 try clear hfz66_1
 try clear hfz66_2
 try clear hfz6_0
 try clear hfz6_1
 try clear hfz6_2
 try clear hfz8_0
 try clear hfz8_1
 try clear hfz8_2
 try clear hx183_0
 try clear hx183_1
 try clear hx183_2
 try clear hx183_3
 try clear hx186_0
 try clear hx186_1
 try clear hx186_2
 try clear hx186_3
 try clear hx187_0
 try clear hx187_1
 try clear hx187_2
 try clear hx187_3
 try clear p1
 try clear p18
 try clear p183
 try clear p186
 try clear p187
 try clear p2
 try clear q1
 try clear q18
 try clear q183
 try clear q186
 try clear q187
 obtain ⟨kq, x97_45, rfl, HA, HJ45, BK181, BK184, HB⟩ := hcut
 cases kq with
 | zero => exact absurd HA.out (by simp [spliceref08_Check.j3])
 | succ kj45 => ?_
 have H := HA.out
 clear HA; simp only [spliceref08_Check.j3] at H
 by_cases c67 : x97_45 = true
 · subst c67
   have H1 : (some false) = some r := by rw [if_pos rfl] at H; exact H
   clear H
   have H := H1
   clear H1
   obtain rfl := Option.some.inj H
   go_wp2
   repeat (go_quiet (fail); try go_wp2)
   go_ret
   exact ⟨by first | rfl | (simp [errW_none, errW_some] <;> rfl) | (simp [*, errW_none, errW_some] <;> rfl), by repeat (first | (with_reducible first | exact HB.out | apply below_alloc | apply pw_below_drewN | apply below_drew1 | refine below_set ?_ GE181.out | refine below_set ?_ GE184.out) | exact HB.out)⟩
 replace c67 := Bool.eq_false_iff.mpr c67
 subst c67
 have H1 : (spliceref08_Check.l1 kj45 (l0_2.length : Int) x4_2 0 a0_0 a0_1 l0_2 ((rd_T82 l0_2 x4_2).f0) ((rd_T82 l0_2 x4_2).f1.f0) ((rd_T82 l0_2 x4_2).f1.f1) ((rd_T82 l0_2 x4_2).f2)) = some r := by rw [if_neg (show ¬ (false = true) by decide)] at H; exact H
 clear H
 have H := H1
 clear H1
 have H' := Aside0.mk H
 clear H
 go_wp2
 repeat (go_quiet (fail); try go_wp2)
 go_loopg [6] kj45 (fun kq v6 w' => ∃ (x6_5 : Int), v6 = .int .i64 x6_5 ∧ Aside0 (spliceref08_Check.l1 kq (l0_2.length : Int) x4_2 x6_5 a0_0 a0_1 l0_2 ((rd_T82 l0_2 x4_2).f0) ((rd_T82 l0_2 x4_2).f1.f0) ((rd_T82 l0_2 x4_2).f1.f1) ((rd_T82 l0_2 x4_2).f2) = some r) ∧ Aside0 (kq ≤ kj45) ∧ Aside0 (w'.heap[gb181]? = some (.cells #[.int .i64 a0_0, .int .i64 a0_1, (.slice (some ad183) l0_2.length c0_2)] 30 (0, 0))) ∧ Aside0 (w'.heap[gb184]? = some (.cells #[.int .i64 ((rd_T82 l0_2 x4_2).f0), .int .i64 ((rd_T82 l0_2 x4_2).f1.f0), .int .i64 ((rd_T82 l0_2 x4_2).f1.f1), .int .i64 ((rd_T82 l0_2 x4_2).f2)] 82 (0, 0))) ∧ Aside0 (Below w.heap.size w w'))
 case atStart => exact ⟨(0), (by first | rfl | (simp; done) | (simp [*]; done)), H', ⟨Nat.le_refl _⟩, ⟨by (with_reducible repeat (first | refine blk_drewN ?_ _ | refine blk_drew ?_ | refine blk_alloc ?_ _)); exact BK181.out⟩, ⟨by (with_reducible repeat (first | refine blk_drewN ?_ _ | refine blk_drew ?_ | refine blk_alloc ?_ _)); exact BK184.out⟩, ⟨by repeat (first | (with_reducible first | exact HB.out | apply below_alloc | apply pw_below_drewN | apply below_drew1 | refine below_set ?_ GE181.out | refine below_set ?_ GE184.out) | exact HB.out)⟩⟩
 clear H'
 try clear c1
 try clear p1
 try clear q1
 try clear hx1
 try clear c2
 try clear p2
 try clear c3
 try clear c4
 try clear c5
 try clear c5b0
 try clear c6
 try clear p6
 try clear c7
 try clear c7b0
 try clear c9
 try clear c9b0
 try clear c11
 try clear c11b0
 try clear c13
 try clear c13b0
 try clear c13b1
 try clear c16
 try clear c17
 try clear c17b0
 try clear c18
 try clear c18b0
 try clear p18
 try clear q18
 try clear hx18
 try clear c19
 try clear c19b0
 try clear c23
 try clear c25
 try clear c25b0
 try clear c26
 try clear c28
 try clear c28b0
 try clear c29
 try clear c32
 try clear c32b0
 try clear c33
 try clear c36
 try clear c36b0
 try clear c37
 try clear c41
 try clear c45
 try clear c47
 try clear c47b0
 try clear c47b1
 try clear c48
 try clear c48b0
 try clear c48b1
 try clear c49
 try clear c49b0
 try clear c51
 try clear c51b0
 try clear c52
 try clear c52b0
 try clear c53
 try clear c56
 try clear c58
 try clear c60
 try clear c60b0
 try clear c62
 try clear c62b0
 try clear c63
 try clear c63b0
 try clear c64
 try clear p64
 try clear c67
 try clear hcz10_0
 try clear hcz10_1
 try clear hcz10_2
 try clear hcz12_0
 try clear hcz12_1
 try clear hcz12_2
 try clear hcz14_0
 try clear hcz14_1
 try clear hcz14_2
 try clear hcz15_0
 try clear hcz15_1
 try clear hcz15_2
 try clear hcz21_0
 try clear hcz21_1
 try clear hcz21_2
 try clear hcz24_0
 try clear hcz24_1
 try clear hcz24_2
 try clear hcz24_3
 try clear hcz27_0
 try clear hcz27_1
 try clear hcz27_2
 try clear hcz27_3
 try clear hcz30_0
 try clear hcz30_1
 try clear hcz30_2
 try clear hcz30_3
 try clear hcz31_0
 try clear hcz31_1
 try clear hcz31_2
 try clear hcz34_0
 try clear hcz34_1
 try clear hcz34_2
 try clear hcz34_3
 try clear hcz35_0
 try clear hcz35_1
 try clear hcz35_2
 try clear hcz38_0
 try clear hcz38_1
 try clear hcz38_2
 try clear hcz38_3
 try clear hcz39_0
 try clear hcz39_1
 try clear hcz39_2
 try clear hcz42_0
 try clear hcz42_1
 try clear hcz42_2
 try clear hcz42_3
 try clear hcz43_0
 try clear hcz43_1
 try clear hcz43_2
 try clear hcz4_0
 try clear hcz4_1
 try clear hcz4_2
 try clear hcz54_0
 try clear hcz54_1
 try clear hcz54_2
 try clear hcz54_3
 try clear hcz55_0
 try clear hcz55_1
 try clear hcz55_2
 try clear hcz57_0
 try clear hcz57_1
 try clear hcz57_2
 try clear hcz57_3
 try clear hcz59_0
 try clear hcz59_1
 try clear hcz59_2
 try clear hcz59_3
 try clear hcz65_0
 try clear hcz65_1
 try clear hcz65_2
 try clear hcz65_3
 try clear hcz66_0
 try clear hcz66_1
 try clear hcz66_2
 try clear hcz6_0
 try clear hcz6_1
 try clear hcz6_2
 try clear hcz8_0
 try clear hcz8_1
 try clear hcz8_2
 try clear hfz10_0
 try clear hfz10_1
 try clear hfz10_2
 try clear hfz12_0
 try clear hfz12_1
 try clear hfz12_2
 try clear hfz14_0
 try clear hfz14_1
 try clear hfz14_2
 try clear hfz15_0
 try clear hfz15_1
 try clear hfz15_2
 try clear hfz21_0
 try clear hfz21_1
 try clear hfz21_2
 try clear hfz24_0
 try clear hfz24_1
 try clear hfz24_2
 try clear hfz24_3
 try clear hfz27_0
 try clear hfz27_1
 try clear hfz27_2
 try clear hfz27_3
 try clear hfz30_0
 try clear hfz30_1
 try clear hfz30_2
 try clear hfz30_3
 try clear hfz31_0
 try clear hfz31_1
 try clear hfz31_2
 try clear hfz34_0
 try clear hfz34_1
 try clear hfz34_2
 try clear hfz34_3
 try clear hfz35_0
 try clear hfz35_1
 try clear hfz35_2
 try clear hfz38_0
 try clear hfz38_1
 try clear hfz38_2
 try clear hfz38_3
 try clear hfz39_0
 try clear hfz39_1
 try clear hfz39_2
 try clear hfz42_0
 try clear hfz42_1
 try clear hfz42_2
 try clear hfz42_3
 try clear hfz43_0
 try clear hfz43_1
 try clear hfz43_2
 try clear hfz4_0
 try clear hfz4_1
 try clear hfz4_2
 try clear hfz54_0
 try clear hfz54_1
 try clear hfz54_2
 try clear hfz54_3
 try clear hfz55_0
 try clear hfz55_1
 try clear hfz55_2
 try clear hfz57_0
 try clear hfz57_1
 try clear hfz57_2
 try clear hfz57_3
 try clear hfz59_0
 try clear hfz59_1
 try clear hfz59_2
 try clear hfz59_3
 try clear hfz65_0
 try clear hfz65_1
 try clear hfz65_2
 try clear hfz65_3
 try clear hfz66_0
 try clear hfz66_1
 try clear hfz66_2
 try clear hfz6_0
 try clear hfz6_1
 try clear hfz6_2
 try clear hfz8_0
 try clear hfz8_1
 try clear hfz8_2
 try clear hx183_0
 try clear hx183_1
 try clear hx183_2
 try clear hx183_3
 try clear hx186_0
 try clear hx186_1
 try clear hx186_2
 try clear hx186_3
 try clear hx187_0
 try clear hx187_1
 try clear hx187_2
 try clear hx187_3
 try clear p1
 try clear p18
 try clear p183
 try clear p186
 try clear p187
 try clear p2
 try clear p6
 try clear p64
 try clear q1
 try clear q18
 try clear q183
 try clear q186
 try clear q187
 obtain ⟨x6_5, rfl, HA, HK5, BK181, BK184, HB⟩ := hrel
 cases gk with
 | zero => exact absurd HA.out (by simp [spliceref08_Check.l1])
 | succ k5 => ?_
 have H := HA.out
 clear HA; simp only [spliceref08_Check.l1] at H
 by_cases c68 : x6_5 < x4_2
 rotate_left
 · rw [if_neg c68] at H
   have c68b0 : decide (x6_5 < x4_2) = false := decide_eq_false c68
   clear c68
   have H' := Aside0.mk H
   clear H
   go_wp2
   repeat (go_quiet (fail); try go_wp2)
   go_roundg k5
   case measure => have := HJ1.out; have := HK2.out; have := HJ19.out; have := HJ45.out; have := HK5.out; omega
   case rel => exact ⟨(wrap64 (x4_2 + 1)), (by first | rfl | (simp; done) | (simp [*]; done)), H', ⟨by have := HJ1.out; have := HK2.out; have := HJ19.out; have := HJ45.out; have := HK5.out; omega⟩, ⟨by (with_reducible repeat (first | refine blk_drewN ?_ _ | refine blk_drew ?_ | refine blk_alloc ?_ _)); exact BK181.out⟩, ⟨by repeat (first | (with_reducible first | exact HB.out | apply below_alloc | apply pw_below_drewN | apply below_drew1 | refine below_set ?_ GE181.out | refine below_set ?_ GE184.out) | exact HB.out)⟩⟩
 rw [if_pos c68] at H
 have c68b0 : decide (x6_5 < x4_2) = true := decide_eq_true c68
 clear c68
 by_cases c69 : 0 ≤ x6_5
 rotate_left
 · rw [if_neg c69] at H; exact absurd H (by simp)
 rw [if_pos c69] at H
 have c69b0 : decide (0 ≤ x6_5) = true := decide_eq_true c69
 clear c69
 by_cases c70 : x6_5 < (l0_2.length : Int)
 rotate_left
 · rw [if_neg c70] at H; exact absurd H (by simp)
 rw [if_pos c70] at H
 have c70b0 : decide (x6_5 < (l0_2.length : Int)) = true := decide_eq_true c70
 clear c70
 by_cases c71 : ((rd_T82 l0_2 x6_5).f0) = ((rd_T82 l0_2 x4_2).f0)
 · rw [if_pos c71] at H
   have c71b0 : (((rd_T82 l0_2 x6_5).f0) == ((rd_T82 l0_2 x4_2).f0)) = true := beq_iff_eq.mpr c71
   have c71b1 : (((rd_T82 l0_2 x6_5).f0) != ((rd_T82 l0_2 x4_2).f0)) = false := bne_eq_false_iff_eq.mpr c71
   clear c71
   obtain rfl := Option.some.inj H
   have hnb72 := NB181_184.out
   have hnc72 := NB184_181.out
   have hcz73_0 : wr.cell? ⟨gb181, 0, none⟩ = some (.int .i64 a0_0) := (blk_cell BK181.out 0).trans rfl
   have hcz73_1 : wr.cell? ⟨gb181, 1, none⟩ = some (.int .i64 a0_1) := (blk_cell BK181.out 1).trans rfl
   have hcz73_2 : wr.cell? ⟨gb181, 2, none⟩ = some (.slice (some ad183) l0_2.length c0_2) := (blk_cell BK181.out 2).trans rfl
   have hfz73_0 := blk_frozen BK181.out 0
   have hfz73_1 := blk_frozen BK181.out 1
   have hfz73_2 := blk_frozen BK181.out 2
   have p188 : 0 ≤ (x6_5 : Int) := of_decide_eq_true (by first | (with_reducible assumption) | assumption)
   have q188 : x6_5 < (l0_2.length : Int) := of_decide_eq_true (by first | (with_reducible assumption) | assumption)
   obtain ⟨ad188, e188, hx188_0, hx188_1, hx188_2, hx188_3⟩ := at_T82 HR0_2.out x6_5 p188 q188
   obtain rfl : ad183 = ad188 := (by injection e188)
   replace hx188_0 := (HB.out.cell (World.block_lt_of_cell? w _ hx188_0)).trans hx188_0
   replace hx188_1 := (HB.out.cell (World.block_lt_of_cell? w _ hx188_1)).trans hx188_1
   replace hx188_2 := (HB.out.cell (World.block_lt_of_cell? w _ hx188_2)).trans hx188_2
   replace hx188_3 := (HB.out.cell (World.block_lt_of_cell? w _ hx188_3)).trans hx188_3
   replace p188 := eq_true p188
   replace q188 := eq_true q188
   have hcz74_0 : wr.cell? ⟨gb184, 0, none⟩ = some (.int .i64 ((rd_T82 l0_2 x4_2).f0)) := (blk_cell BK184.out 0).trans rfl
   have hcz74_1 : wr.cell? ⟨gb184, 1, none⟩ = some (.int .i64 ((rd_T82 l0_2 x4_2).f1.f0)) := (blk_cell BK184.out 1).trans rfl
   have hcz74_2 : wr.cell? ⟨gb184, 2, none⟩ = some (.int .i64 ((rd_T82 l0_2 x4_2).f1.f1)) := (blk_cell BK184.out 2).trans rfl
   have hcz74_3 : wr.cell? ⟨gb184, 3, none⟩ = some (.int .i64 ((rd_T82 l0_2 x4_2).f2)) := (blk_cell BK184.out 3).trans rfl
   have hfz74_0 := blk_frozen BK184.out 0
   have hfz74_1 := blk_frozen BK184.out 1
   have hfz74_2 := blk_frozen BK184.out 2
   have hfz74_3 := blk_frozen BK184.out 3
   go_wp2
   repeat (go_quiet (fail); try go_wp2)
   go_ret
   exact ⟨by first | rfl | (simp [errW_none, errW_some] <;> rfl) | (simp [*, errW_none, errW_some] <;> rfl), by repeat (first | (with_reducible first | exact HB.out | apply below_alloc | apply pw_below_drewN | apply below_drew1 | refine below_set ?_ GE181.out | refine below_set ?_ GE184.out) | exact HB.out)⟩
 rw [if_neg c71] at H
 have c71b0 : (((rd_T82 l0_2 x6_5).f0) == ((rd_T82 l0_2 x4_2).f0)) = false := beq_eq_false_iff_ne.mpr c71
 have c71b1 : (((rd_T82 l0_2 x6_5).f0) != ((rd_T82 l0_2 x4_2).f0)) = true := bne_iff_ne.mpr c71
 have H' := Aside0.mk H
 clear H
 have hnb75 := NB181_184.out
 have hnc75 := NB184_181.out
 have hcz76_0 : wr.cell? ⟨gb181, 0, none⟩ = some (.int .i64 a0_0) := (blk_cell BK181.out 0).trans rfl
 have hcz76_1 : wr.cell? ⟨gb181, 1, none⟩ = some (.int .i64 a0_1) := (blk_cell BK181.out 1).trans rfl
 have hcz76_2 : wr.cell? ⟨gb181, 2, none⟩ = some (.slice (some ad183) l0_2.length c0_2) := (blk_cell BK181.out 2).trans rfl
 have hfz76_0 := blk_frozen BK181.out 0
 have hfz76_1 := blk_frozen BK181.out 1
 have hfz76_2 := blk_frozen BK181.out 2
 have p188 : 0 ≤ (x6_5 : Int) := of_decide_eq_true (by first | (with_reducible assumption) | assumption)
 have q188 : x6_5 < (l0_2.length : Int) := of_decide_eq_true (by first | (with_reducible assumption) | assumption)
 obtain ⟨ad188, e188, hx188_0, hx188_1, hx188_2, hx188_3⟩ := at_T82 HR0_2.out x6_5 p188 q188
 obtain rfl : ad183 = ad188 := (by injection e188)
 replace hx188_0 := (HB.out.cell (World.block_lt_of_cell? w _ hx188_0)).trans hx188_0
 replace hx188_1 := (HB.out.cell (World.block_lt_of_cell? w _ hx188_1)).trans hx188_1
 replace hx188_2 := (HB.out.cell (World.block_lt_of_cell? w _ hx188_2)).trans hx188_2
 replace hx188_3 := (HB.out.cell (World.block_lt_of_cell? w _ hx188_3)).trans hx188_3
 replace p188 := eq_true p188
 replace q188 := eq_true q188
 have hcz77_0 : wr.cell? ⟨gb184, 0, none⟩ = some (.int .i64 ((rd_T82 l0_2 x4_2).f0)) := (blk_cell BK184.out 0).trans rfl
 have hcz77_1 : wr.cell? ⟨gb184, 1, none⟩ = some (.int .i64 ((rd_T82 l0_2 x4_2).f1.f0)) := (blk_cell BK184.out 1).trans rfl
 have hcz77_2 : wr.cell? ⟨gb184, 2, none⟩ = some (.int .i64 ((rd_T82 l0_2 x4_2).f1.f1)) := (blk_cell BK184.out 2).trans rfl
 have hcz77_3 : wr.cell? ⟨gb184, 3, none⟩ = some (.int .i64 ((rd_T82 l0_2 x4_2).f2)) := (blk_cell BK184.out 3).trans rfl
 have hfz77_0 := blk_frozen BK184.out 0
 have hfz77_1 := blk_frozen BK184.out 1
 have hfz77_2 := blk_frozen BK184.out 2
 have hfz77_3 := blk_frozen BK184.out 3
 go_wp2
 repeat (go_quiet (fail); try go_wp2)
 go_roundg k5
 case measure => have := HJ1.out; have := HK2.out; have := HJ19.out; have := HJ45.out; have := HK5.out; omega
 case rel => exact ⟨(wrap64 (x6_5 + 1)), (by first | rfl | (simp; done) | (simp [*]; done)), H', ⟨by have := HJ1.out; have := HK2.out; have := HJ19.out; have := HJ45.out; have := HK5.out; omega⟩, ⟨by (with_reducible repeat (first | refine blk_drewN ?_ _ | refine blk_drew ?_ | refine blk_alloc ?_ _)); exact BK181.out⟩, ⟨by (with_reducible repeat (first | refine blk_drewN ?_ _ | refine blk_drew ?_ | refine blk_alloc ?_ _)); exact BK184.out⟩, ⟨by repeat (first | (with_reducible first | exact HB.out | apply below_alloc | apply pw_below_drewN | apply below_drew1 | refine below_set ?_ GE181.out | refine below_set ?_ GE184.out) | exact HB.out)⟩⟩

end Go.Proofs.Ytbhlphadcphapaa.PD
