-- written by a program of this session
import Derived.Test.YtbhlphadcphapaaPDx0
import Derived.Test.YtbhlphadcphapaaPDx8
namespace Go.Proofs.Ytbhlphadcphapaa.PD
open Go.RowKit Go.Proofs.Ytbhlphadcphapaa.Op Go.Proofs.YtbhlphadcphapaaW.PrintWords Go.Proofs.YtbhlphadcphapaaW.PrintLast Go.Proofs.YtbhlphadcphapaaW.PrintMore
attribute [local go_sem] max2_int min2_int max_two min_two max_three min_three max_four min_four   -- for this text's walks alone
set_option linter.unusedVariables false
set_option linter.unusedSimpArgs false

/-! ### spliceref08_Find: function 28 -/
def spliceref08_Find.l0 : Nat → Int → Int → Int → Int → List (S82) → Option (Int)
  | 0, _, _, _, _, _ => none
  | k + 1, x1, x5, x190000, x190001, x190002 => if x5 < (x190002.length : Int) then ((spliceref08_Check.f k x190000 x190001 x190002).bind fun t190 => (if t190 = true then (if 0 ≤ x5 then (if ((rd_T82 x190002 x5).f0) = x1 then (some x5) else (spliceref08_Find.l0 k x1 (wrap64 (x5 + 1)) x190000 x190001 x190002)) else (none)) else (spliceref08_Find.l0 k x1 (wrap64 (x5 + 1)) x190000 x190001 x190002))) else (some (-1))
def spliceref08_Find.f (k : Nat) (a0_0 : Int) (a0_1 : Int) (l0_2 : List (S82)) (a1 : Int) : Option (Int) := spliceref08_Find.l0 k a1 0 a0_0 a0_1 l0_2
theorem spliceref08_Find.mono_l : ∀ k, (∀ y0 y1 y2 y3 y4, LeO (spliceref08_Find.l0 k y0 y1 y2 y3 y4) (spliceref08_Find.l0 (k + 1) y0 y1 y2 y3 y4))
  | 0 => fun _ _ _ _ _ r h => by simp [spliceref08_Find.l0] at h
  | k + 1 => by
    have ih0 := spliceref08_Find.mono_l k
    · intro y0 y1 y2 y3 y4
      unfold spliceref08_Find.l0
      repeat' first
      | (with_reducible exact ih0 _ _ _ _ _)
      | (with_reducible exact spliceref08_Check.mono _ _ _ _)
      | (with_reducible exact LeO.refl _)
      | (with_reducible exact LeO.none _)
      | (with_reducible refine LeO.ite ?_ ?_)
      | (with_reducible refine LeO.bind ?_ (fun _ => ?_))
      | exact ih0 _ _ _ _ _
      | exact spliceref08_Check.mono _ _ _ _
      | exact LeO.none _
      | refine LeO.ite ?_ ?_
      | refine LeO.bind ?_ (fun _ => ?_)
theorem spliceref08_Find.mono : ∀ a0 a1 a2 a3 k, LeO (spliceref08_Find.f k a0 a1 a2 a3) (spliceref08_Find.f (k + 1) a0 a1 a2 a3) := by
  intro a0 a1 a2 a3 k
  have ih0 := spliceref08_Find.mono_l k
  unfold spliceref08_Find.f
  repeat' first
      | (with_reducible exact ih0 _ _ _ _ _)
      | (with_reducible exact spliceref08_Check.mono _ _ _ _)
      | (with_reducible exact LeO.refl _)
      | (with_reducible exact LeO.none _)
      | (with_reducible refine LeO.ite ?_ ?_)
      | (with_reducible refine LeO.bind ?_ (fun _ => ?_))
      | exact ih0 _ _ _ _ _
      | exact spliceref08_Check.mono _ _ _ _
      | exact LeO.none _
      | refine LeO.ite ?_ ?_
      | refine LeO.bind ?_ (fun _ => ?_)
set_option maxHeartbeats 8000000 in
set_option maxRecDepth 100000 in
theorem spliceref08_Find.calls (k : Nat) (a0_0 : Int) (a0_1 : Int) (A0_2 : Option Addr) (c0_2 : Nat) (l0_2 : List (S82)) (a1 : Int) (r : Int) (w : World) (hr0_2 : Kd.C k82 w A0_2 l0_2.length l0_2) (hc0_2 : l0_2.length ≤ c0_2) (h : spliceref08_Find.f k a0_0 a0_1 l0_2 a1 = some r) :
    Calls Try.prog 28 #[.agg #[.int .i64 a0_0, .int .i64 a0_1, .slice A0_2 l0_2.length c0_2], .int .i64 a1] w fun e w' => e = .returned (.int .i64 r) ∧ Below w.heap.size w w' := by
  have hu30 := Try.underlying30
  have HR0_2 := Aside0.mk hr0_2
  have HC0_2 := Aside0.mk hc0_2
  clear hr0_2 hc0_2
  have HB := Aside0.mk (Below.refl w.heap.size w)
  have H : (spliceref08_Find.l0 k a1 0 a0_0 a0_1 l0_2) = some r := h
  clear h
  have H' := Aside0.mk H
  clear H
  go_enter Try.func28, Try.ntmps28
  go_wp2_with (first | ((with_reducible refine gate_dst (N := 2) rfl ?_); refine box_event ?hg (N := 2) ?hd (cs := #[.int .i64 a0_0, .int .i64 a0_1, .slice A0_2 l0_2.length c0_2]) (t := 30) ?hr ?_; (case hd => rfl); (case hg => rfl); (case hr => first | (go_simp; done) | (go_simp; rfl)); intro gb189 hg w3 hbox hb; have n0_ := Aside0.mk (below_step (by repeat (first | (with_reducible first | exact HB.out | apply below_alloc | apply pw_below_drewN | apply below_drew1) | exact HB.out)) hb); have n1_ := Aside0.mk (hbox); have n2_ := Aside0.mk ((by rw [hg]; exact (below_size (by repeat (first | (with_reducible first | exact HB.out | apply below_alloc | apply pw_below_drewN | apply below_drew1) | exact HB.out))) : w.heap.size ≤ gb189)); have n3_ := Aside0.mk ((by rw [hg]; exact (below_size (by repeat (first | (with_reducible first | exact HB.out | apply below_alloc | apply pw_below_drewN | apply below_drew1) | exact HB.out))) : w.heap.size ≤ gb189)); clear HB; have HB := n0_; have BK189 := n1_; have GW189 := n2_; have GE189 := n3_; clear n0_ n1_ n2_ n3_; clear hb hbox hg))
  go_loopg [5] k (fun kq v5 w' => ∃ (x5_1 : Int), v5 = .int .i64 x5_1 ∧ Aside0 (spliceref08_Find.l0 kq a1 x5_1 a0_0 a0_1 l0_2 = some r) ∧ Aside0 (kq ≤ k) ∧ Aside0 (w'.heap[gb189]? = some (.cells #[.int .i64 a0_0, .int .i64 a0_1, (.slice A0_2 l0_2.length c0_2)] 30 (0, 0))) ∧ Aside0 (Below w.heap.size w w'))
  case atStart => exact ⟨(0), (by first | rfl | (simp; done) | (simp [*]; done)), H', ⟨Nat.le_refl _⟩, ⟨by (with_reducible repeat (first | refine blk_drewN ?_ _ | refine blk_drew ?_ | refine blk_alloc ?_ _)); exact BK189.out⟩, ⟨by repeat (first | (with_reducible first | exact HB.out | apply below_alloc | apply pw_below_drewN | apply below_drew1 | refine below_set ?_ GE189.out) | exact HB.out)⟩⟩
  case round =>
    clear H'
    try clear c2
    try clear p2
    obtain ⟨x5_1, rfl, HA, HK1, BK189, HB⟩ := hrel
    cases gk with
    | zero => exact absurd HA.out (by simp [spliceref08_Find.l0])
    | succ k1 =>
      have H := HA.out
      clear HA
      simp only [spliceref08_Find.l0] at H
      by_cases c4 : x5_1 < (l0_2.length : Int)
      · rw [if_pos c4] at H
        have c4b0 : decide (x5_1 < (l0_2.length : Int)) = true := decide_eq_true c4
        clear c4
        replace H := Option.bind_eq_some_iff.mp H
        obtain ⟨t190, A50, H⟩ := H
        replace H : (if t190 = true then (if 0 ≤ x5_1 then (if ((rd_T82 l0_2 x5_1).f0) = a1 then (some x5_1) else (spliceref08_Find.l0 k1 a1 (wrap64 (x5_1 + 1)) a0_0 a0_1 l0_2)) else (none)) else (spliceref08_Find.l0 k1 a1 (wrap64 (x5_1 + 1)) a0_0 a0_1 l0_2)) = some r := H
        have A5 := Aside0.mk A50
        clear A50
        by_cases c6 : t190 = true
        · subst c6
          have H1 : (if 0 ≤ x5_1 then (if ((rd_T82 l0_2 x5_1).f0) = a1 then (some x5_1) else (spliceref08_Find.l0 k1 a1 (wrap64 (x5_1 + 1)) a0_0 a0_1 l0_2)) else (none)) = some r := by rw [if_pos rfl] at H; exact H
          clear H
          have H := H1
          clear H1
          by_cases c7 : 0 ≤ x5_1
          · rw [if_pos c7] at H
            have c7b0 : decide (0 ≤ x5_1) = true := decide_eq_true c7
            clear c7
            by_cases c8 : ((rd_T82 l0_2 x5_1).f0) = a1
            · rw [if_pos c8] at H
              have c8b0 : (((rd_T82 l0_2 x5_1).f0) == a1) = true := beq_iff_eq.mpr c8
              have c8b1 : (((rd_T82 l0_2 x5_1).f0) != a1) = false := bne_eq_false_iff_eq.mpr c8
              clear c8
              obtain rfl := Option.some.inj H
              have hcz9_0 : wr.cell? ⟨gb189, 0, none⟩ = some (.int .i64 a0_0) := (blk_cell BK189.out 0).trans rfl
              have hcz9_1 : wr.cell? ⟨gb189, 1, none⟩ = some (.int .i64 a0_1) := (blk_cell BK189.out 1).trans rfl
              have hcz9_2 : wr.cell? ⟨gb189, 2, none⟩ = some (.slice A0_2 l0_2.length c0_2) := (blk_cell BK189.out 2).trans rfl
              have hfz9_0 := blk_frozen BK189.out 0
              have hfz9_1 := blk_frozen BK189.out 1
              have hfz9_2 := blk_frozen BK189.out 2
              go_wp2_with (first | ((with_reducible refine gate_callee (f := 29) rfl ?_); refine goesL_ (some 14) rfl rfl Try.func29 (by kernel_rfl) rfl #[.agg #[.int .i64 a0_0, .int .i64 a0_1, .slice A0_2 l0_2.length c0_2]] rfl (by (try simp only [List.map_toArray, List.map_cons, List.map_nil]); first | done | rfl | (simp only [List.length_drop, List.length_take]; rfl)) ?_; (with_reducible refine (spliceref08_Check.calls k1 a0_0 a0_1 _ _ l0_2 true _ ?side1 ?side2 A5.out).mono ?_); (case side1 => repeat (first | exact (Kd.C_below HR0_2.out HB.out) | (with_reducible refine Kd.C_alloc ?_ _) | (with_reducible refine Kd.C_drewN ?_ _) | (with_reducible refine Kd.C_drew ?_))); (case side2 => exact HC0_2.out); rintro e w10 ⟨rfl, hb⟩; refine ⟨_, rfl, ?_⟩; have n0_ := Aside0.mk (blk_below (g := gb189) (o := .cells #[.int .i64 a0_0, .int .i64 a0_1, .slice A0_2 l0_2.length c0_2] 30 (0, 0)) (by (with_reducible repeat (first | refine blk_drewN ?_ _ | refine blk_drew ?_ | refine blk_alloc ?_ _)); exact BK189.out) hb); have n1_ := Aside0.mk (below_step (by repeat (first | (with_reducible first | exact HB.out | apply below_alloc | apply pw_below_drewN | apply below_drew1 | refine below_set ?_ GE189.out) | exact HB.out)) hb); clear BK189; clear HB; have BK189 := n0_; have HB := n1_; clear n0_ n1_; (try clear hb); (try clear hb2); (try clear hk); (try clear hi); have hcz11_0 : w10.cell? ⟨gb189, 0, none⟩ = some (.int .i64 a0_0) := (blk_cell BK189.out 0).trans rfl; have hcz11_1 : w10.cell? ⟨gb189, 1, none⟩ = some (.int .i64 a0_1) := (blk_cell BK189.out 1).trans rfl; have hcz11_2 : w10.cell? ⟨gb189, 2, none⟩ = some (.slice A0_2 l0_2.length c0_2) := (blk_cell BK189.out 2).trans rfl; have hfz11_0 := blk_frozen BK189.out 0; have hfz11_1 := blk_frozen BK189.out 1; have hfz11_2 := blk_frozen BK189.out 2; have p191 : 0 ≤ (x5_1 : Int) := of_decide_eq_true (by first | (with_reducible assumption) | assumption); have q191 : x5_1 < (l0_2.length : Int) := of_decide_eq_true (by first | (with_reducible assumption) | assumption); obtain ⟨ad191, e191, hx191_0, hx191_1, hx191_2, hx191_3⟩ := at_T82 HR0_2.out x5_1 p191 q191; cases e191; replace hx191_0 := (HB.out.cell (World.block_lt_of_cell? w _ hx191_0)).trans hx191_0; replace hx191_1 := (HB.out.cell (World.block_lt_of_cell? w _ hx191_1)).trans hx191_1; replace hx191_2 := (HB.out.cell (World.block_lt_of_cell? w _ hx191_2)).trans hx191_2; replace hx191_3 := (HB.out.cell (World.block_lt_of_cell? w _ hx191_3)).trans hx191_3; replace p191 := eq_true p191; replace q191 := eq_true q191))
              go_ret
              exact ⟨by first | rfl | (simp [errW_none, errW_some] <;> rfl) | (simp [*, errW_none, errW_some] <;> rfl), by repeat (first | (with_reducible first | exact HB.out | apply below_alloc | apply pw_below_drewN | apply below_drew1 | refine below_set ?_ GE189.out) | exact HB.out)⟩
            · rw [if_neg c8] at H
              have c8b0 : (((rd_T82 l0_2 x5_1).f0) == a1) = false := beq_eq_false_iff_ne.mpr c8
              have c8b1 : (((rd_T82 l0_2 x5_1).f0) != a1) = true := bne_iff_ne.mpr c8
              have H' := Aside0.mk H
              clear H
              have hcz12_0 : wr.cell? ⟨gb189, 0, none⟩ = some (.int .i64 a0_0) := (blk_cell BK189.out 0).trans rfl
              have hcz12_1 : wr.cell? ⟨gb189, 1, none⟩ = some (.int .i64 a0_1) := (blk_cell BK189.out 1).trans rfl
              have hcz12_2 : wr.cell? ⟨gb189, 2, none⟩ = some (.slice A0_2 l0_2.length c0_2) := (blk_cell BK189.out 2).trans rfl
              have hfz12_0 := blk_frozen BK189.out 0
              have hfz12_1 := blk_frozen BK189.out 1
              have hfz12_2 := blk_frozen BK189.out 2
              go_wp2_with (first | ((with_reducible refine gate_callee (f := 29) rfl ?_); refine goesL_ (some 14) rfl rfl Try.func29 (by kernel_rfl) rfl #[.agg #[.int .i64 a0_0, .int .i64 a0_1, .slice A0_2 l0_2.length c0_2]] rfl (by (try simp only [List.map_toArray, List.map_cons, List.map_nil]); first | done | rfl | (simp only [List.length_drop, List.length_take]; rfl)) ?_; (with_reducible refine (spliceref08_Check.calls k1 a0_0 a0_1 _ _ l0_2 true _ ?side1 ?side2 A5.out).mono ?_); (case side1 => repeat (first | exact (Kd.C_below HR0_2.out HB.out) | (with_reducible refine Kd.C_alloc ?_ _) | (with_reducible refine Kd.C_drewN ?_ _) | (with_reducible refine Kd.C_drew ?_))); (case side2 => exact HC0_2.out); rintro e w13 ⟨rfl, hb⟩; refine ⟨_, rfl, ?_⟩; have n0_ := Aside0.mk (blk_below (g := gb189) (o := .cells #[.int .i64 a0_0, .int .i64 a0_1, .slice A0_2 l0_2.length c0_2] 30 (0, 0)) (by (with_reducible repeat (first | refine blk_drewN ?_ _ | refine blk_drew ?_ | refine blk_alloc ?_ _)); exact BK189.out) hb); have n1_ := Aside0.mk (below_step (by repeat (first | (with_reducible first | exact HB.out | apply below_alloc | apply pw_below_drewN | apply below_drew1 | refine below_set ?_ GE189.out) | exact HB.out)) hb); clear BK189; clear HB; have BK189 := n0_; have HB := n1_; clear n0_ n1_; (try clear hb); (try clear hb2); (try clear hk); (try clear hi); have hcz14_0 : w13.cell? ⟨gb189, 0, none⟩ = some (.int .i64 a0_0) := (blk_cell BK189.out 0).trans rfl; have hcz14_1 : w13.cell? ⟨gb189, 1, none⟩ = some (.int .i64 a0_1) := (blk_cell BK189.out 1).trans rfl; have hcz14_2 : w13.cell? ⟨gb189, 2, none⟩ = some (.slice A0_2 l0_2.length c0_2) := (blk_cell BK189.out 2).trans rfl; have hfz14_0 := blk_frozen BK189.out 0; have hfz14_1 := blk_frozen BK189.out 1; have hfz14_2 := blk_frozen BK189.out 2; have p191 : 0 ≤ (x5_1 : Int) := of_decide_eq_true (by first | (with_reducible assumption) | assumption); have q191 : x5_1 < (l0_2.length : Int) := of_decide_eq_true (by first | (with_reducible assumption) | assumption); obtain ⟨ad191, e191, hx191_0, hx191_1, hx191_2, hx191_3⟩ := at_T82 HR0_2.out x5_1 p191 q191; cases e191; replace hx191_0 := (HB.out.cell (World.block_lt_of_cell? w _ hx191_0)).trans hx191_0; replace hx191_1 := (HB.out.cell (World.block_lt_of_cell? w _ hx191_1)).trans hx191_1; replace hx191_2 := (HB.out.cell (World.block_lt_of_cell? w _ hx191_2)).trans hx191_2; replace hx191_3 := (HB.out.cell (World.block_lt_of_cell? w _ hx191_3)).trans hx191_3; replace p191 := eq_true p191; replace q191 := eq_true q191))
              go_roundg k1
              case measure => have := HK1.out; omega
              case rel => exact ⟨(wrap64 (x5_1 + 1)), (by first | rfl | (simp; done) | (simp [*]; done)), H', ⟨by have := HK1.out; omega⟩, ⟨by (with_reducible repeat (first | refine blk_drewN ?_ _ | refine blk_drew ?_ | refine blk_alloc ?_ _)); exact BK189.out⟩, ⟨by repeat (first | (with_reducible first | exact HB.out | apply below_alloc | apply pw_below_drewN | apply below_drew1 | refine below_set ?_ GE189.out) | exact HB.out)⟩⟩
          · rw [if_neg c7] at H
            exact absurd H (by simp)
        · replace c6 := Bool.eq_false_iff.mpr c6
          subst c6
          have H1 : (spliceref08_Find.l0 k1 a1 (wrap64 (x5_1 + 1)) a0_0 a0_1 l0_2) = some r := by rw [if_neg (show ¬ (false = true) by decide)] at H; exact H
          clear H
          have H := H1
          clear H1
          have H' := Aside0.mk H
          clear H
          have hcz15_0 : wr.cell? ⟨gb189, 0, none⟩ = some (.int .i64 a0_0) := (blk_cell BK189.out 0).trans rfl
          have hcz15_1 : wr.cell? ⟨gb189, 1, none⟩ = some (.int .i64 a0_1) := (blk_cell BK189.out 1).trans rfl
          have hcz15_2 : wr.cell? ⟨gb189, 2, none⟩ = some (.slice A0_2 l0_2.length c0_2) := (blk_cell BK189.out 2).trans rfl
          have hfz15_0 := blk_frozen BK189.out 0
          have hfz15_1 := blk_frozen BK189.out 1
          have hfz15_2 := blk_frozen BK189.out 2
          go_wp2_with (first | ((with_reducible refine gate_callee (f := 29) rfl ?_); refine goesL_ (some 14) rfl rfl Try.func29 (by kernel_rfl) rfl #[.agg #[.int .i64 a0_0, .int .i64 a0_1, .slice A0_2 l0_2.length c0_2]] rfl (by (try simp only [List.map_toArray, List.map_cons, List.map_nil]); first | done | rfl | (simp only [List.length_drop, List.length_take]; rfl)) ?_; (with_reducible refine (spliceref08_Check.calls k1 a0_0 a0_1 _ _ l0_2 false _ ?side1 ?side2 A5.out).mono ?_); (case side1 => repeat (first | exact (Kd.C_below HR0_2.out HB.out) | (with_reducible refine Kd.C_alloc ?_ _) | (with_reducible refine Kd.C_drewN ?_ _) | (with_reducible refine Kd.C_drew ?_))); (case side2 => exact HC0_2.out); rintro e w16 ⟨rfl, hb⟩; refine ⟨_, rfl, ?_⟩; have n0_ := Aside0.mk (blk_below (g := gb189) (o := .cells #[.int .i64 a0_0, .int .i64 a0_1, .slice A0_2 l0_2.length c0_2] 30 (0, 0)) (by (with_reducible repeat (first | refine blk_drewN ?_ _ | refine blk_drew ?_ | refine blk_alloc ?_ _)); exact BK189.out) hb); have n1_ := Aside0.mk (below_step (by repeat (first | (with_reducible first | exact HB.out | apply below_alloc | apply pw_below_drewN | apply below_drew1 | refine below_set ?_ GE189.out) | exact HB.out)) hb); clear BK189; clear HB; have BK189 := n0_; have HB := n1_; clear n0_ n1_; (try clear hb); (try clear hb2); (try clear hk); (try clear hi)))
          go_roundg k1
          case measure => have := HK1.out; omega
          case rel => exact ⟨(wrap64 (x5_1 + 1)), (by first | rfl | (simp; done) | (simp [*]; done)), H', ⟨by have := HK1.out; omega⟩, ⟨by (with_reducible repeat (first | refine blk_drewN ?_ _ | refine blk_drew ?_ | refine blk_alloc ?_ _)); exact BK189.out⟩, ⟨by repeat (first | (with_reducible first | exact HB.out | apply below_alloc | apply pw_below_drewN | apply below_drew1 | refine below_set ?_ GE189.out) | exact HB.out)⟩⟩
      · rw [if_neg c4] at H
        have c4b0 : decide (x5_1 < (l0_2.length : Int)) = false := decide_eq_false c4
        clear c4
        obtain rfl := Option.some.inj H
        have hcz17_0 : wr.cell? ⟨gb189, 0, none⟩ = some (.int .i64 a0_0) := (blk_cell BK189.out 0).trans rfl
        have hcz17_1 : wr.cell? ⟨gb189, 1, none⟩ = some (.int .i64 a0_1) := (blk_cell BK189.out 1).trans rfl
        have hcz17_2 : wr.cell? ⟨gb189, 2, none⟩ = some (.slice A0_2 l0_2.length c0_2) := (blk_cell BK189.out 2).trans rfl
        have hfz17_0 := blk_frozen BK189.out 0
        have hfz17_1 := blk_frozen BK189.out 1
        have hfz17_2 := blk_frozen BK189.out 2
        go_wp2
        go_ret
        exact ⟨by first | rfl | (simp [errW_none, errW_some] <;> rfl) | (simp [*, errW_none, errW_some] <;> rfl), by repeat (first | (with_reducible first | exact HB.out | apply below_alloc | apply pw_below_drewN | apply below_drew1 | refine below_set ?_ GE189.out) | exact HB.out)⟩

/-! ### variables that lie in memory, one block each -/
abbrev BxL := List (Nat × Array Value × TypeId)
structure Bx (w W : World) (l : BxL) : Prop where
  at_ : ∀ e ∈ l, W.heap[e.1]? = some (.cells e.2.1 e.2.2 (0, 0)) ∧ w.heap.size ≤ e.1
  nd : (l.map (fun e => e.1)).Nodup
  bel : Below w.heap.size w W
theorem Bx.start (w : World) : Bx w w [] := ⟨fun _ h => by simp at h, by simp, Below.refl _ _⟩
theorem Bx.get {w W : World} {l : BxL} (h : Bx w W l) (i : Nat) {e : Nat × Array Value × TypeId} (hi : l[i]? = some e) : W.heap[e.1]? = some (.cells e.2.1 e.2.2 (0, 0)) := (h.at_ e (List.mem_of_getElem? hi)).1
theorem Bx.lt {w W : World} {l : BxL} (h : Bx w W l) (e : Nat × Array Value × TypeId) (he : e ∈ l) : e.1 < W.heap.size := blk_lt (h.at_ e he).1
theorem Bx.below {w W W' : World} {l : BxL} (h : Bx w W l) (hb : Below W.heap.size W W') : Bx w W' l := ⟨fun e he => ⟨blk_below (h.at_ e he).1 hb, (h.at_ e he).2⟩, h.nd, h.bel.trans (hb.mono h.bel.size)⟩
theorem Bx.pushed {w W W' : World} {l : BxL} (h : Bx w W l) {g : Nat} {cs : Array Value} {t : TypeId} (hg : g = W.heap.size) (hx : W'.heap[g]? = some (.cells cs t (0, 0))) (hb : Below W.heap.size W W') : Bx w W' (l ++ [(g, cs, t)]) := by
  refine ⟨fun e he => ?_, ?_, h.bel.trans (hb.mono h.bel.size)⟩
  · rcases List.mem_append.1 he with he | he
    · exact (h.below hb).at_ e he
    · simp only [List.mem_singleton] at he
      subst he
      exact ⟨hx, by rw [hg]; exact h.bel.size⟩
  · rw [List.map_append, List.nodup_append]
    refine ⟨h.nd, by simp, fun a ha b hb2 => ?_⟩
    simp only [List.map_cons, List.map_nil, List.mem_singleton] at hb2
    obtain ⟨e, he, rfl⟩ := List.mem_map.1 ha
    have := h.lt e he
    omega
theorem Bx.push {w W : World} {l : BxL} (h : Bx w W l) (cs : Array Value) (t : TypeId) : Bx w (W.alloc (.cells cs t)) (l ++ [(W.heap.size, cs, t)]) := h.pushed rfl (blk_new W _) (below_alloc (Below.refl _ _) _)
theorem Bx.ge {w W : World} {l : BxL} (h : Bx w W l) (i : Nat) {e : Nat × Array Value × TypeId} (hi : l[i]? = some e) : w.heap.size ≤ e.1 := (h.at_ e (List.mem_of_getElem? hi)).2
theorem Bx.set {w W : World} {l : BxL} (h : Bx w W l) (i j : Nat) (v : Value) {g : Nat} {cs : Array Value} {t : TypeId} (hi : l[i]? = some (g, cs, t)) : Bx w (W.setCell ⟨g, j, none⟩ v) (l.set i (g, cs.setIfInBounds j v, t)) := by
  obtain ⟨hil, hie⟩ := List.getElem?_eq_some_iff.1 hi
  have hmap : (l.set i (g, cs.setIfInBounds j v, t)).map (fun e => e.1) = l.map (fun e => e.1) := by
    rw [List.map_set]
    refine List.ext_getElem? (fun n => ?_)
    rw [List.getElem?_set]
    by_cases e : i = n
    · subst e
      simp [hil, hie]
    · simp [e]
  refine ⟨fun e he => ?_, hmap ▸ h.nd, below_set h.bel (h.ge i (e := (g, cs, t)) hi)⟩
  obtain ⟨n, hn⟩ := List.mem_iff_getElem?.1 he
  rw [List.getElem?_set] at hn
  by_cases e1 : i = n
  · subst e1
    simp only [hil, if_true] at hn
    injection hn with hn
    subst hn
    exact ⟨blk_put (h.get i (e := (g, cs, t)) hi) j v rfl, h.ge i (e := (g, cs, t)) hi⟩
  · rw [if_neg e1] at hn
    have hne : e.1 ≠ g := by
      intro e2
      obtain ⟨hnl, hne⟩ := List.getElem?_eq_some_iff.1 hn
      have hp := List.pairwise_iff_getElem.1 h.nd
      rcases Nat.lt_or_gt_of_ne e1 with hlt | hlt
      · exact hp i n (by simpa using hil) (by simpa using hnl) hlt (by simp [hie, hne, e2])
      · exact hp n i (by simpa using hnl) (by simpa using hil) hlt (by simp [hie, hne, e2])
    exact ⟨blk_far (p := ⟨g, j, none⟩) (h.at_ e (List.mem_of_getElem? hn)).1 hne v, (h.at_ e (List.mem_of_getElem? hn)).2⟩
theorem Bx.take {w W : World} {l : BxL} (h : Bx w W l) (n : Nat) : Bx w W (l.take n) :=
  ⟨fun e he => h.at_ e (List.mem_of_mem_take he), by rw [List.map_take]; exact h.nd.sublist (List.take_sublist _ _), h.bel⟩
/-- none of these blocks -/
def Off (ns : List Nat) (k : Nat) : Prop := ∀ n ∈ ns, k ≠ n
theorem Bx.fresh {w W : World} {l : BxL} (h : Bx w W l) {ns : List Nat} (hn : ns = l.map (fun e => e.1)) : ∀ k, W.heap.size ≤ k → Off ns k := fun k hk n hm => by
  subst hn
  obtain ⟨e, he, rfl⟩ := List.mem_map.1 hm
  have := h.lt e he
  omega
section
variable {α : Type} {d : Kd α} {e base : Nat} {W W' w : World} {ns : List Nat} {v : Value} {xs : List α} {ok : Nat → Prop}
theorem R_setB (h : d.R e W base (Off ns) v xs) {g : Nat} (hg : g ∈ ns) (j : Nat) (u : Value) : d.R e (W.setCell ⟨g, j, none⟩ u) base (Off ns) v xs := Kd.R_far (p := ⟨g, j, none⟩) h (fun _ hk => hk g hg) u
theorem R_pushB (h : d.R e W base (Off ns) v xs) {g : Nat} (hg : g = W.heap.size) (hb : Below W.heap.size W W') : d.R e W' base (Off (ns ++ [g])) v xs :=
  Kd.R_below (Kd.R_mono (Kd.R_bound h) (fun k hk n hn => by
    rcases List.mem_append.1 hn with hn | hn
    · exact hk.1 n hn
    · simp only [List.mem_singleton] at hn
      have := hk.2.2.1
      omega)) hb
theorem R_newB {l : BxL} (HB : Bx w W l) (hn : ns = l.map (fun e => e.1)) (h : d.R e W' W.heap.size ok v xs) : d.R e W' w.heap.size (Off ns) v xs :=
  Kd.R_lower (Kd.R_mono (Kd.R_bound h) (fun k hk => HB.fresh hn k hk.2.1)) HB.bel.size
theorem R_offB (h : d.R e W base (Off ns) v xs) (ns' : List Nat) (hs : ∀ n ∈ ns', n ∈ ns) : d.R e W base (Off ns') v xs := Kd.R_mono h (fun _ hk n hn => hk n (hs n hn))
theorem Bx.grown {l : BxL} (HB : Bx w W l) (hn : ns = l.map (fun e => e.1)) (hr : ∀ k, v.ownBlock = some k → Off ns k) (hg : W.grownBy W' v.ownBlock) (hb : Below w.heap.size w W') : Bx w W' l := by
  refine ⟨fun e he => ⟨blk_grown (HB.at_ e he).1 hg (fun q => ?_), (HB.at_ e he).2⟩, HB.nd, hb⟩
  exact hr e.1 q.symm e.1 (by rw [hn]; exact List.mem_map.2 ⟨e, he, rfl⟩) rfl
theorem Bx.grown0 {l : BxL} (HB : Bx w W l) (hg : W.grownBy W' none) (hb : Below w.heap.size w W') : Bx w W' l :=
  ⟨fun e he => ⟨blk_grown (HB.at_ e he).1 hg (fun q => by cases q), (HB.at_ e he).2⟩, HB.nd, hb⟩
theorem R_apart (h : d.R e W base (Off ns) v xs) {g : Nat} (hg : W.heap.size ≤ g) (hgr : W.grownBy W' none) : d.R e W' base (Off (ns ++ [g])) v xs :=
  Kd.R_mono (Kd.R_step (Kd.R_bound h) (fun k _ hk => hgr.block k hk (fun q => by cases q))) (fun k hk n hn => by
    rcases List.mem_append.1 hn with hn | hn
    · exact hk.1 n hn
    · simp only [List.mem_singleton] at hn
      have := hk.2.2.1
      omega)
end
theorem alloc_size (w : World) (o : Obj) : (w.alloc o).heap.size = w.heap.size + 1 := by simp

end Go.Proofs.Ytbhlphadcphapaa.PD
