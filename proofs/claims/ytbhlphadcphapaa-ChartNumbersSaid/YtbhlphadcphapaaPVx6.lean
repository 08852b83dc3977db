-- written by a program of this session
import Derived.Test.YtbhlphadcphapaaPVx0
import Derived.Test.YtbhlphadcphapaaPVx1
import Derived.Test.YtbhlphadcphapaaPVx2
import Derived.Test.YtbhlphadcphapaaPVx3
import Derived.Test.YtbhlphadcphapaaPVx5
namespace Go.Proofs.Ytbhlphadcphapaa.PV
open Go.RowKit Go.Proofs.Ytbhlphadcphapaa.Op Go.Proofs.YtbhlphadcphapaaW.PrintWords Go.Proofs.YtbhlphadcphapaaW.PrintLast Go.Proofs.YtbhlphadcphapaaW.PrintMore
attribute [local go_sem] max2_int min2_int max_two min_two max_three min_three max_four min_four   -- for this text's walks alone
set_option linter.unusedVariables false
set_option linter.unusedSimpArgs false

/-! ### splicelaw08_ChartWhole: function 5 (by hand) -/
mutual
def splicelaw08_ChartWhole.l0 : Nat → List Cht → Int → Int → Option Bool
  | 0, _, _, _ => none
  | k + 1, past, key, i => if i < (past.length : Int) then (if 0 ≤ i then splicelaw08_ChartWhole.l1 k past key i 0 0 else none) else splicelaw08_awake.f k
def splicelaw08_ChartWhole.l1 : Nat → List Cht → Int → Int → Int → Int → Option Bool
  | 0, _, _, _, _, _ => none
  | k + 1, past, key, i, n, j => if j < ((rd_T24 past i).f2.length : Int) then (if 0 ≤ j then (if (rd_T57 (rd_T24 past i).f2 j).f1.f0 ≤ key then (if key < (rd_T57 (rd_T24 past i).f2 j).f1.f1 then splicelaw08_ChartWhole.l1 k past key i (wrap64 (n + 1)) (wrap64 (j + 1)) else splicelaw08_ChartWhole.l1 k past key i n (wrap64 (j + 1))) else splicelaw08_ChartWhole.l1 k past key i n (wrap64 (j + 1))) else none) else (chart_Check.f k (rd_T24 past i).f0 (rd_T24 past i).f1 (rd_T24 past i).f2).bind fun t => if t = true then (if n = 1 then (if (rd_T24 past i).f0 = wrap64 (i + 1) then splicelaw08_ChartWhole.l0 k past key (wrap64 (i + 1)) else some false) else some false) else some false
end
def keyN (a : Int) : Int := Int.tmod (wrap64 (Int.tmod a 4096 + 4096)) 4096
def splicelaw08_ChartWhole.f (k : Nat) (a0 a1 : Int) (l2_0 : List (S39)) (a2_1 : Int) : Option Bool :=
  (splicelaw08_walk.f k a0 a1 l2_0 40).bind fun b => splicelaw08_ChartWhole.l0 k b.2 (keyN a2_1) 0
theorem splicelaw08_ChartWhole.mono_l : ∀ k, (∀ past key i, LeO (splicelaw08_ChartWhole.l0 k past key i) (splicelaw08_ChartWhole.l0 (k + 1) past key i)) ∧ (∀ past key i n j, LeO (splicelaw08_ChartWhole.l1 k past key i n j) (splicelaw08_ChartWhole.l1 (k + 1) past key i n j))
  | 0 => ⟨fun _ _ _ r h => by simp [splicelaw08_ChartWhole.l0] at h, fun _ _ _ _ _ r h => by simp [splicelaw08_ChartWhole.l1] at h⟩
  | k + 1 => by
    obtain ⟨ih0, ih1⟩ := splicelaw08_ChartWhole.mono_l k
    constructor
    · intro past key i
      unfold splicelaw08_ChartWhole.l0
      repeat' first
        | (with_reducible exact ih1 _ _ _ _ _)
        | (with_reducible exact LeO.none _)
        | (with_reducible exact splicelaw08_awake.mono _)
        | (with_reducible refine LeO.ite ?_ ?_)
    · intro past key i n j
      unfold splicelaw08_ChartWhole.l1
      repeat' first
        | (with_reducible exact ih1 _ _ _ _ _)
        | (with_reducible exact ih0 _ _ _)
        | (with_reducible exact LeO.none _)
        | (with_reducible exact LeO.refl _)
        | (with_reducible exact chart_Check.mono _ _ _ _)
        | (with_reducible refine LeO.ite ?_ ?_)
        | (with_reducible refine LeO.bind ?_ (fun _ => ?_))
theorem splicelaw08_ChartWhole.mono : ∀ a0 a1 l2 a2 k, LeO (splicelaw08_ChartWhole.f k a0 a1 l2 a2) (splicelaw08_ChartWhole.f (k + 1) a0 a1 l2 a2) := by
  intro a0 a1 l2 a2 k
  obtain ⟨ih0, _⟩ := splicelaw08_ChartWhole.mono_l k
  unfold splicelaw08_ChartWhole.f
  repeat' first
    | (with_reducible exact ih0 _ _ _)
    | (with_reducible exact splicelaw08_walk.mono _ _ _ _ _)
    | (with_reducible refine LeO.bind ?_ (fun _ => ?_))
/-- what a law of past charts keeps: the row of charts, to be read -/
structure PstS (w W : World) (Ap : Option Addr) (past : List Cht) : Prop where
  P : Kd.C k24 W Ap past.length past
  bel : Below w.heap.size w W
theorem PstS.below {w W W' : World} {Ap : Option Addr} {past : List Cht} (h : PstS w W Ap past) (hb : Below W.heap.size W W') : PstS w W' Ap past := ⟨Kd.C_below h.P hb, h.bel.trans (hb.mono h.bel.size)⟩
set_option maxHeartbeats 8000000 in
set_option maxRecDepth 100000 in
theorem splicelaw08_ChartWhole.calls (k : Nat) (a0 a1 : Int) (A2_0 : Option Addr) (c2_0 : Nat) (l2_0 : List (S39)) (a2_1 : Int) (r : Bool) (w : World) (hr2_0 : Kd.C k39 w A2_0 l2_0.length l2_0) (hc2_0 : l2_0.length ≤ c2_0) (h : splicelaw08_ChartWhole.f k a0 a1 l2_0 a2_1 = some r) (hr_ : r = true) :
    Calls Try.prog 5 #[.int .i64 a0, .int .i64 a1, .agg #[.slice A2_0 l2_0.length c2_0, .int .i64 a2_1]] w fun e w' => e = .returned (.bool r) ∧ Below w.heap.size w w' := by
  subst hr_
  have hu24 := Try.underlying24
  have hu50 := Try.underlying50
  have hu57 := Try.underlying57
  have hu55 := Try.underlying55
  unfold splicelaw08_ChartWhole.f at h
  obtain ⟨b, hw, h⟩ := Option.bind_eq_some_iff.1 h
  obtain ⟨cz, past⟩ := b
  have HW := Aside0.mk hw
  have HH := Aside0.mk h
  have HR2 := Aside0.mk hr2_0
  have HC2 := Aside0.mk hc2_0
  clear hw h hr2_0 hc2_0
  have hbk := Aside0.mk (blk_new w (.cells #[.slice A2_0 l2_0.length c2_0, .int .i64 a2_1] 50))
  have hbl := Aside0.mk ((Below.refl w.heap.size w).alloc (Nat.le_refl _) (.cells #[.slice A2_0 l2_0.length c2_0, .int .i64 a2_1] 50))
  have g0 := blk_cell hbk.out 0
  go_enter Try.func5, Try.ntmps5
  go_wp2_with fail
  refine (splicelaw08_walk.calls k a0 a1 A2_0 c2_0 l2_0 40 (cz, past) _ (Kd.C_alloc HR2.out _) HC2.out HW.out).mono ?_
  rintro e w1 ⟨Ac, nc, Ap, np, rfl, hcl, hcC, hpl, hpC, hb⟩
  have hbl1 := Aside0.mk (hbl.out.trans (hb.mono hbl.out.size))
  have hbk1 := Aside0.mk (blk_below hbk.out hb)
  have HP := Aside0.mk hpC
  have HPl := Aside0.mk hpl
  clear hcl hcC hpl hpC hb hbl hbk g0 HR2 HC2 HW
  dsimp only at HP HPl HH
  go_upto_region 2 with (fail)
  have hbk2 := Aside0.mk (blk_alloc hbk1.out (.cells #[.int .i64 cz.f0, .int .i64 cz.f1, .slice Ac cz.f2.length nc] 24))
  have HS : Aside0 (PstS w (w1.alloc (.cells #[.int .i64 cz.f0, .int .i64 cz.f1, .slice Ac cz.f2.length nc] 24)) Ap past) := ⟨⟨Kd.C_alloc HP.out _, hbl1.out.alloc hbl1.out.size _⟩⟩
  clear HP hbl1 hbk1
  generalize w1.alloc (.cells #[.int .i64 cz.f0, .int .i64 cz.f1, .slice Ac cz.f2.length nc] 24) = w2 at hbk2 HS ⊢
  have g1 := blk_cell hbk2.out 1
  go_wp2_with fail
  clear g1 hbk2
  go_loopg [10] k (fun kq v10 W => ∃ (i : Int), v10 = .int .i64 i ∧ Aside0 (splicelaw08_ChartWhole.l0 kq past (keyN a2_1) i = some true) ∧ Aside0 (kq ≤ k) ∧ Aside0 (PstS w W Ap past))
  case atStart => exact ⟨0, rfl, HH, ⟨Nat.le_refl _⟩, HS⟩
  case round =>
    clear HS HH
    obtain ⟨i, rfl, HA, HK1, HS⟩ := hrel
    cases gk with
    | zero => exact absurd HA.out (by simp [splicelaw08_ChartWhole.l0])
    | succ k1 =>
      have H := HA.out
      clear HA
      simp only [splicelaw08_ChartWhole.l0] at H
      by_cases c1 : i < (past.length : Int)
      case neg =>
        rw [if_neg c1] at H
        have q1 : decide (i < (past.length : Int)) = false := decide_eq_false c1
        go_wp2_with fail
        refine (splicelaw08_awake.calls k1 true _ H rfl).mono ?_
        rintro e w9 ⟨rfl, hb⟩
        go_wp2_with fail
        go_ret
        exact ⟨rfl, (HS.out.below hb).bel⟩
      rw [if_pos c1] at H
      have q1 : decide (i < (past.length : Int)) = true := decide_eq_true c1
      by_cases c2 : 0 ≤ i
      case neg => rw [if_neg c2] at H; exact absurd H (by simp)
      rw [if_pos c2] at H
      have HN := Aside0.mk H
      clear H
      have p2 := eq_true c2
      have p1 := eq_true c1
      obtain ⟨ad, e0⟩ : ∃ ad, Ap = some ad := by
        obtain ⟨ad, _, _, e, _⟩ := at_T24 HS.out.P i c2 c1
        exact ⟨ad, e⟩
      subst e0
      go_wp2_with fail
      go_loopg [11, 12] k1 (fun kq v11 v12 W => ∃ (n j : Int), v11 = .int .i64 n ∧ v12 = .int .i64 j ∧ Aside0 (splicelaw08_ChartWhole.l1 kq past (keyN a2_1) i n j = some true) ∧ Aside0 (kq ≤ k1) ∧ Aside0 (PstS w W (some ad) past))
      case atStart => exact ⟨0, 0, rfl, rfl, HN, ⟨Nat.le_refl _⟩, HS⟩
      case round =>
        clear HS HN
        obtain ⟨n, j, rfl, rfl, HA, HK2, HS⟩ := hrel
        cases gk with
        | zero => exact absurd HA.out (by simp [splicelaw08_ChartWhole.l1])
        | succ k2 =>
          have H := HA.out
          clear HA
          simp only [splicelaw08_ChartWhole.l1] at H
          obtain ⟨ad', A2, m2, e0, x0, x1, x2, xl, xC⟩ := at_T24 HS.out.P i c2 c1
          cases e0
          by_cases c3 : j < ((rd_T24 past i).f2.length : Int)
          case neg =>
            rw [if_neg c3] at H
            have q3 : decide (j < ((rd_T24 past i).f2.length : Int)) = false := decide_eq_false c3
            obtain ⟨t, ht, H2⟩ := Option.bind_eq_some_iff.1 H
            clear H
            have H := H2
            clear H2
            cases t with
            | false => rw [if_neg (by simp)] at H; exact absurd H (by simp)
            | true =>
              rw [if_pos rfl] at H
              by_cases c4 : n = 1
              case neg => rw [if_neg c4] at H; exact absurd H (by simp)
              rw [if_pos c4] at H
              by_cases c5 : (rd_T24 past i).f0 = wrap64 (i + 1)
              case neg => rw [if_neg c5] at H; exact absurd H (by simp)
              rw [if_pos c5] at H
              subst c4
              rw [c5] at ht
              have HT := Aside0.mk ht
              have HN := Aside0.mk H
              have HX := Aside0.mk xC
              have HXl := Aside0.mk xl
              clear ht H xC xl
              rw [c5] at x0
              go_wp2_with (with_reducible refine (chart_Check.calls k2 (wrap64 (i + 1)) (rd_T24 past i).f1 A2 m2 (rd_T24 past i).f2 true _ HX.out HXl.out HT.out).mono ?_; rintro e w9 ⟨rfl, hb⟩; replace x0 := (hb.cell (World.block_lt_of_cell? _ _ x0)).trans x0; replace HS := Aside0.mk (HS.out.below hb); clear hb HX)
              go_roundg k1
              case measure => omega
              case rel => exact ⟨_, rfl, ⟨at_rounds (fun q => (splicelaw08_ChartWhole.mono_l q).1 past (keyN a2_1) (wrap64 (i + 1))) (show k2 ≤ k1 by have := HK2.out; omega) HN.out⟩, ⟨by have := HK1.out; omega⟩, HS⟩
          rw [if_pos c3] at H
          have q3 : decide (j < ((rd_T24 past i).f2.length : Int)) = true := decide_eq_true c3
          by_cases c4 : 0 ≤ j
          case neg => rw [if_neg c4] at H; exact absurd H (by simp)
          rw [if_pos c4] at H
          obtain ⟨ae, e1, y0, y1, y2, y3⟩ := at_T57 xC j c4 c3
          subst e1
          have p3 := eq_true c3
          have p4 := eq_true c4
          by_cases c6 : (rd_T57 (rd_T24 past i).f2 j).f1.f0 ≤ keyN a2_1
          case neg =>
            rw [if_neg c6] at H
            have HN := Aside0.mk H
            clear H
            have q6 : decide ((rd_T57 (rd_T24 past i).f2 j).f1.f0 ≤ (wrap64 (a2_1.tmod 4096 + 4096)).tmod 4096) = false := decide_eq_false c6
            clear c6
            go_wp2_with fail
            go_roundg k2
            case measure => omega
            case rel => exact ⟨_, _, rfl, rfl, HN, ⟨by have := HK2.out; omega⟩, ⟨HS.out.below ((Below.refl _ _).alloc (Nat.le_refl _) _)⟩⟩
          rw [if_pos c6] at H
          have q6 : decide ((rd_T57 (rd_T24 past i).f2 j).f1.f0 ≤ (wrap64 (a2_1.tmod 4096 + 4096)).tmod 4096) = true := decide_eq_true c6
          by_cases c7 : keyN a2_1 < (rd_T57 (rd_T24 past i).f2 j).f1.f1
          case neg =>
            rw [if_neg c7] at H
            have HN := Aside0.mk H
            clear H
            have q7 : decide ((wrap64 (a2_1.tmod 4096 + 4096)).tmod 4096 < (rd_T57 (rd_T24 past i).f2 j).f1.f1) = false := decide_eq_false c7
            clear c6 c7
            go_wp2_with fail
            go_roundg k2
            case measure => omega
            case rel => exact ⟨_, _, rfl, rfl, HN, ⟨by have := HK2.out; omega⟩, ⟨HS.out.below ((Below.refl _ _).alloc (Nat.le_refl _) _)⟩⟩
          rw [if_pos c7] at H
          have HN := Aside0.mk H
          clear H
          have q7 : decide ((wrap64 (a2_1.tmod 4096 + 4096)).tmod 4096 < (rd_T57 (rd_T24 past i).f2 j).f1.f1) = true := decide_eq_true c7
          clear c6 c7
          go_wp2_with fail
          go_roundg k2
          case measure => omega
          case rel => exact ⟨_, _, rfl, rfl, HN, ⟨by have := HK2.out; omega⟩, ⟨HS.out.below ((Below.refl _ _).alloc (Nat.le_refl _) _)⟩⟩

def wf39 (x : S39) : Prop := (Lit.int .i64 x.f0).wf = true ∧ (Lit.int .i64 x.f1).wf = true ∧ (Lit.int .i64 x.f2).wf = true
theorem op39 : Go.Proofs.Ytbhlphadcphapaa.Op.Op Try.prog k39 39 wf39 := op_mono (op_iso (op_struct Try.underlying39 (by kernel_rfl) (opfs_cons (op_int Try.underlying3 (by kernel_rfl)) rfl (opfs_cons (op_int Try.underlying3 (by kernel_rfl)) rfl (opfs_last (op_int Try.underlying3 (by kernel_rfl)) rfl)))) (fun x : S39 => (x.f0, x.f1, x.f2)) (fun y => ⟨y.1, y.2.1, y.2.2⟩) (fun _ => rfl)) (fun _ h => h)

def wf50 (x : S50) : Prop := (x.f0.length * 24 ≤ 140737488351232 ∧ x.f0.length ≤ maxLen ∧ ∀ y0 ∈ x.f0, wf39 y0) ∧ (Lit.int .i64 x.f1).wf = true
theorem op50 : Go.Proofs.Ytbhlphadcphapaa.Op.Op Try.prog k50 50 wf50 := op_mono (op_iso (op_struct Try.underlying50 (by kernel_rfl) (opfs_cons (op_slice Try.underlying48 (by kernel_rfl) (show Try.prog.bytesOf 39 = 24 by kernel_rfl) op39 (by decide)) rfl (opfs_last (op_int Try.underlying3 (by kernel_rfl)) rfl))) (fun x : S50 => (x.f0, x.f1)) (fun y => ⟨y.1, y.2⟩) (fun _ => rfl)) (fun _ h => h)


/-! ### splicelaw08_ChartWhole: function 5 -/
/-- THE ONE PURE STATEMENT of splicelaw08_ChartWhole: yours. -/
def splicelaw08_ChartWhole.Pure : Prop := ∀ (x0 : Int) (x1 : Int) (x2 : S50), (Lit.int .i64 x0).wf = true → (Lit.int .i64 x1).wf = true → wf50 x2 → ∃ k, splicelaw08_ChartWhole.f k x0 x1 x2.f0 x2.f1 = some true

/-! ### chart_Find: function 24 -/
def chart_Find.f (k : Nat) (a0_0 : Int) (a0_1 : Int) (l0_2 : List (S57)) (a1 : Int) : Option (Int × Int × Int × Int × Bool) := (chart_place.f a0_0 a0_1 l0_2 a1).bind fun t165 => (if t165 < 0 then (some (0, 0, 0, 0, false)) else ((chart_Check.f k a0_0 a0_1 l0_2).bind fun t166 => (if t166 = true then (if 0 ≤ t165 then (if t165 < (l0_2.length : Int) then (some ((rd_T57 l0_2 t165).f0, (rd_T57 l0_2 t165).f1.f0, (rd_T57 l0_2 t165).f1.f1, (rd_T57 l0_2 t165).f2, true)) else (none)) else (none)) else (some (0, 0, 0, 0, false)))))
theorem chart_Find.mono : ∀ a0 a1 a2 a3 k, LeO (chart_Find.f k a0 a1 a2 a3) (chart_Find.f (k + 1) a0 a1 a2 a3) := by
  intro a0 a1 a2 a3 k
  unfold chart_Find.f
  repeat' first
      | (with_reducible exact chart_Check.mono _ _ _ _)
      | (with_reducible exact LeO.refl _)
      | (with_reducible exact LeO.none _)
      | (with_reducible refine LeO.ite ?_ ?_)
      | (with_reducible refine LeO.bind ?_ (fun _ => ?_))
      | exact chart_Check.mono _ _ _ _
      | exact LeO.none _
      | refine LeO.ite ?_ ?_
      | refine LeO.bind ?_ (fun _ => ?_)
set_option maxHeartbeats 8000000 in
set_option maxRecDepth 100000 in
theorem chart_Find.calls (k : Nat) (a0_0 : Int) (a0_1 : Int) (A0_2 : Option Addr) (c0_2 : Nat) (l0_2 : List (S57)) (a1 : Int) (r1 : Int) (r2 : Int) (r3 : Int) (r4 : Int) (r5 : Bool) (w : World) (hr0_2 : Kd.C k57 w A0_2 l0_2.length l0_2) (hc0_2 : l0_2.length ≤ c0_2) (h : chart_Find.f k a0_0 a0_1 l0_2 a1 = some (r1, r2, r3, r4, r5)) :
    Calls Try.prog 24 #[.agg #[.int .i64 a0_0, .int .i64 a0_1, .slice A0_2 l0_2.length c0_2], .int .i64 a1] w fun e w' => e = .returned (.tuple #[.agg #[.int .i64 r1, .int .i64 r2, .int .i64 r3, .int .i64 r4], .bool r5]) ∧ Below w.heap.size w w' := by
 have hu24 := Try.underlying24
 have hu57 := Try.underlying57
 have HR0_2 := Aside0.mk hr0_2
 have HC0_2 := Aside0.mk hc0_2
 clear hr0_2 hc0_2
 have HB := Aside0.mk (Below.refl w.heap.size w)
 have H : ((chart_place.f a0_0 a0_1 l0_2 a1).bind fun t165 => (if t165 < 0 then (some (0, 0, 0, 0, false)) else ((chart_Check.f k a0_0 a0_1 l0_2).bind fun t166 => (if t166 = true then (if 0 ≤ t165 then (if t165 < (l0_2.length : Int) then (some ((rd_T57 l0_2 t165).f0, (rd_T57 l0_2 t165).f1.f0, (rd_T57 l0_2 t165).f1.f1, (rd_T57 l0_2 t165).f2, true)) else (none)) else (none)) else (some (0, 0, 0, 0, false)))))) = some (r1, r2, r3, r4, r5) := h
 clear h
 replace H := Option.bind_eq_some_iff.mp H
 obtain ⟨t165, A30, H⟩ := H
 replace H : (if t165 < 0 then (some (0, 0, 0, 0, false)) else ((chart_Check.f k a0_0 a0_1 l0_2).bind fun t166 => (if t166 = true then (if 0 ≤ t165 then (if t165 < (l0_2.length : Int) then (some ((rd_T57 l0_2 t165).f0, (rd_T57 l0_2 t165).f1.f0, (rd_T57 l0_2 t165).f1.f1, (rd_T57 l0_2 t165).f2, true)) else (none)) else (none)) else (some (0, 0, 0, 0, false))))) = some (r1, r2, r3, r4, r5) := H
 have A3 := Aside0.mk A30
 clear A30
 by_cases c4 : t165 < 0
 · rw [if_pos c4] at H
   have c4b0 : decide (t165 < 0) = true := decide_eq_true c4
   clear c4; simp only [Option.some.injEq, Prod.mk.injEq] at H
   obtain ⟨rfl, rfl, rfl, rfl, rfl⟩ := H
   go_enter Try.func24, Try.ntmps24
   go_wp2_with (first | ((with_reducible refine gate_dst (N := 2) rfl ?_); refine box_event ?hg (N := 2) ?hd (cs := #[.int .i64 a0_0, .int .i64 a0_1, .slice A0_2 l0_2.length c0_2]) (t := 24) ?hr ?_; (case hd => rfl); (case hg => rfl); (case hr => first | (go_simp; done) | (go_simp; rfl)); intro gb163 hg w5 hbox hb; have n0_ := Aside0.mk (below_step (by repeat (first | (with_reducible first | exact HB.out | apply below_alloc | apply pw_below_drewN | apply below_drew1) | exact HB.out)) hb); have n1_ := Aside0.mk (hbox); have n2_ := Aside0.mk ((by rw [hg]; exact (below_size (by repeat (first | (with_reducible first | exact HB.out | apply below_alloc | apply pw_below_drewN | apply below_drew1) | exact HB.out))) : w.heap.size ≤ gb163)); have n3_ := Aside0.mk ((by rw [hg]; exact (below_size (by repeat (first | (with_reducible first | exact HB.out | apply below_alloc | apply pw_below_drewN | apply below_drew1) | exact HB.out))) : w.heap.size ≤ gb163)); clear HB; have HB := n0_; have BK163 := n1_; have GW163 := n2_; have GE163 := n3_; clear n0_ n1_ n2_ n3_; clear hb hbox hg) | ((with_reducible refine gate_dst (N := 4) rfl ?_); refine box_event ?hg (N := 4) ?hd (cs := #[.int .i64 0, .int .i64 0, .int .i64 0, .int .i64 0]) (t := 57) ?hr ?_; (case hd => rfl); (case hg => rfl); (case hr => first | (go_simp; done) | (go_simp; rfl)); intro gb164 hg w6 hbox hb; have n0_ := Aside0.mk (blk_below (g := gb163) (o := .cells #[.int .i64 a0_0, .int .i64 a0_1, .slice A0_2 l0_2.length c0_2] 24 (0, 0)) (by (with_reducible repeat (first | refine blk_drewN ?_ _ | refine blk_drew ?_ | refine blk_alloc ?_ _)); exact BK163.out) hb); have n1_ := Aside0.mk (below_step (by repeat (first | (with_reducible first | exact HB.out | apply below_alloc | apply pw_below_drewN | apply below_drew1 | refine below_set ?_ GE163.out) | exact HB.out)) hb); have n2_ := Aside0.mk (hbox); have n3_ := Aside0.mk ((by rw [hg]; exact (below_size (by repeat (first | (with_reducible first | exact HB.out | apply below_alloc | apply pw_below_drewN | apply below_drew1 | refine below_set ?_ GE163.out) | exact HB.out))) : w.heap.size ≤ gb164)); have n4_ := Aside0.mk ((by rw [hg]; exact (below_size (by repeat (first | (with_reducible first | exact HB.out | apply below_alloc | apply pw_below_drewN | apply below_drew1 | refine below_set ?_ GE163.out) | exact HB.out))) : w.heap.size ≤ gb164)); have n5_ := Aside0.mk ((by rw [hg]; exact Nat.ne_of_lt (blk_lt (g := gb163) (o := .cells #[.int .i64 a0_0, .int .i64 a0_1, .slice A0_2 l0_2.length c0_2] 24 (0, 0)) (by (with_reducible repeat (first | refine blk_drewN ?_ _ | refine blk_drew ?_ | refine blk_alloc ?_ _)); exact BK163.out)) : gb163 ≠ gb164)); have n6_ := Aside0.mk ((by rw [hg]; exact Nat.ne_of_gt (blk_lt (g := gb163) (o := .cells #[.int .i64 a0_0, .int .i64 a0_1, .slice A0_2 l0_2.length c0_2] 24 (0, 0)) (by (with_reducible repeat (first | refine blk_drewN ?_ _ | refine blk_drew ?_ | refine blk_alloc ?_ _)); exact BK163.out)) : gb164 ≠ gb163)); clear BK163; clear HB; have BK163 := n0_; have HB := n1_; have BK164 := n2_; have GW164 := n3_; have GE164 := n4_; have NB163_164 := n5_; have NB164_163 := n6_; clear n0_ n1_ n2_ n3_ n4_ n5_ n6_; clear hb hbox hg; have hnb7 := NB163_164.out; have hnc7 := NB164_163.out; have hcz8_0 : w6.cell? ⟨gb163, 0, none⟩ = some (.int .i64 a0_0) := (blk_cell BK163.out 0).trans rfl; have hcz8_1 : w6.cell? ⟨gb163, 1, none⟩ = some (.int .i64 a0_1) := (blk_cell BK163.out 1).trans rfl; have hcz8_2 : w6.cell? ⟨gb163, 2, none⟩ = some (.slice A0_2 l0_2.length c0_2) := (blk_cell BK163.out 2).trans rfl; have hfz8_0 := blk_frozen BK163.out 0; have hfz8_1 := blk_frozen BK163.out 1; have hfz8_2 := blk_frozen BK163.out 2) | ((with_reducible refine gate_callee (f := 43) rfl ?_); refine goesL_ (some 9) rfl rfl Try.func43 (by kernel_rfl) rfl #[.agg #[.int .i64 a0_0, .int .i64 a0_1, .slice A0_2 l0_2.length c0_2], .int .i64 a1] rfl (by (try simp only [List.map_toArray, List.map_cons, List.map_nil]); first | done | rfl | (simp only [List.length_drop, List.length_take]; rfl)) ?_; (with_reducible refine (chart_place.calls a0_0 a0_1 _ _ l0_2 a1 t165 _ ?side1 ?side2 A3.out).mono ?_); (case side1 => repeat (first | exact (Kd.C_below HR0_2.out HB.out) | (with_reducible refine Kd.C_alloc ?_ _) | (with_reducible refine Kd.C_drewN ?_ _) | (with_reducible refine Kd.C_drew ?_))); (case side2 => exact HC0_2.out); rintro e w9 ⟨rfl, hb⟩; refine ⟨_, rfl, ?_⟩; have n0_ := Aside0.mk (blk_below (g := gb163) (o := .cells #[.int .i64 a0_0, .int .i64 a0_1, .slice A0_2 l0_2.length c0_2] 24 (0, 0)) (by (with_reducible repeat (first | refine blk_drewN ?_ _ | refine blk_drew ?_ | refine blk_alloc ?_ _)); exact BK163.out) hb); have n1_ := Aside0.mk (blk_below (g := gb164) (o := .cells #[.int .i64 0, .int .i64 0, .int .i64 0, .int .i64 0] 57 (0, 0)) (by (with_reducible repeat (first | refine blk_drewN ?_ _ | refine blk_drew ?_ | refine blk_alloc ?_ _)); exact BK164.out) hb); have n2_ := Aside0.mk (below_step (by repeat (first | (with_reducible first | exact HB.out | apply below_alloc | apply pw_below_drewN | apply below_drew1 | refine below_set ?_ GE163.out | refine below_set ?_ GE164.out) | exact HB.out)) hb); clear BK163; clear BK164; clear HB; have BK163 := n0_; have BK164 := n1_; have HB := n2_; clear n0_ n1_ n2_; (try clear hb); (try clear hb2); (try clear hk); (try clear hi); have hcz10_0 : w9.cell? ⟨gb164, 0, none⟩ = some (.int .i64 0) := (blk_cell BK164.out 0).trans rfl; have hcz10_1 : w9.cell? ⟨gb164, 1, none⟩ = some (.int .i64 0) := (blk_cell BK164.out 1).trans rfl; have hcz10_2 : w9.cell? ⟨gb164, 2, none⟩ = some (.int .i64 0) := (blk_cell BK164.out 2).trans rfl; have hcz10_3 : w9.cell? ⟨gb164, 3, none⟩ = some (.int .i64 0) := (blk_cell BK164.out 3).trans rfl; have hfz10_0 := blk_frozen BK164.out 0; have hfz10_1 := blk_frozen BK164.out 1; have hfz10_2 := blk_frozen BK164.out 2; have hfz10_3 := blk_frozen BK164.out 3))
   refine bodyPost_ret (results_ct rfl _ _ gb164 57 #[.int .i64 0, .int .i64 0, .int .i64 0, .int .i64 0] (0, 0) _ rfl (by (with_reducible repeat (first | refine blk_drewN ?_ _ | refine blk_drew ?_ | refine blk_alloc ?_ _)); refine blk_put (cs := #[.int .i64 0, .int .i64 0, .int .i64 0, .int .i64 0]) ?_ 3 _ rfl; (with_reducible repeat (first | refine blk_drewN ?_ _ | refine blk_drew ?_ | refine blk_alloc ?_ _)); refine blk_put (cs := #[.int .i64 0, .int .i64 0, .int .i64 0, .int .i64 0]) ?_ 2 _ rfl; (with_reducible repeat (first | refine blk_drewN ?_ _ | refine blk_drew ?_ | refine blk_alloc ?_ _)); refine blk_put (cs := #[.int .i64 0, .int .i64 0, .int .i64 0, .int .i64 0]) ?_ 1 _ rfl; (with_reducible repeat (first | refine blk_drewN ?_ _ | refine blk_drew ?_ | refine blk_alloc ?_ _)); refine blk_put (cs := #[.int .i64 0, .int .i64 0, .int .i64 0, .int .i64 0]) ?_ 0 _ rfl; (with_reducible repeat (first | refine blk_drewN ?_ _ | refine blk_drew ?_ | refine blk_alloc ?_ _)); exact BK164.out) Try.underlying57 rfl (by kernel_rfl)) rfl ?_
   exact ⟨by first | rfl | (simp [errW_none, errW_some] <;> rfl) | (simp [*, errW_none, errW_some] <;> rfl), by repeat (first | (with_reducible first | exact HB.out | apply below_alloc | apply pw_below_drewN | apply below_drew1 | refine below_set ?_ GE163.out | refine below_set ?_ GE164.out) | exact HB.out)⟩
 rw [if_neg c4] at H
 have c4b0 : decide (t165 < 0) = false := decide_eq_false c4
 clear c4
 replace H := Option.bind_eq_some_iff.mp H
 obtain ⟨t166, A110, H⟩ := H
 replace H : (if t166 = true then (if 0 ≤ t165 then (if t165 < (l0_2.length : Int) then (some ((rd_T57 l0_2 t165).f0, (rd_T57 l0_2 t165).f1.f0, (rd_T57 l0_2 t165).f1.f1, (rd_T57 l0_2 t165).f2, true)) else (none)) else (none)) else (some (0, 0, 0, 0, false))) = some (r1, r2, r3, r4, r5) := H
 have A11 := Aside0.mk A110
 clear A110
 by_cases c12 : t166 = true
 rotate_left
 · replace c12 := Bool.eq_false_iff.mpr c12
   subst c12
   have H1 : (some (0, 0, 0, 0, false)) = some (r1, r2, r3, r4, r5) := by rw [if_neg (show ¬ (false = true) by decide)] at H; exact H
   clear H
   have H := H1
   clear H1; simp only [Option.some.injEq, Prod.mk.injEq] at H
   obtain ⟨rfl, rfl, rfl, rfl, rfl⟩ := H
   go_enter Try.func24, Try.ntmps24
   go_wp2_with (first | ((with_reducible refine gate_dst (N := 2) rfl ?_); refine box_event ?hg (N := 2) ?hd (cs := #[.int .i64 a0_0, .int .i64 a0_1, .slice A0_2 l0_2.length c0_2]) (t := 24) ?hr ?_; (case hd => rfl); (case hg => rfl); (case hr => first | (go_simp; done) | (go_simp; rfl)); intro gb163 hg w24 hbox hb; have n0_ := Aside0.mk (below_step (by repeat (first | (with_reducible first | exact HB.out | apply below_alloc | apply pw_below_drewN | apply below_drew1) | exact HB.out)) hb); have n1_ := Aside0.mk (hbox); have n2_ := Aside0.mk ((by rw [hg]; exact (below_size (by repeat (first | (with_reducible first | exact HB.out | apply below_alloc | apply pw_below_drewN | apply below_drew1) | exact HB.out))) : w.heap.size ≤ gb163)); have n3_ := Aside0.mk ((by rw [hg]; exact (below_size (by repeat (first | (with_reducible first | exact HB.out | apply below_alloc | apply pw_below_drewN | apply below_drew1) | exact HB.out))) : w.heap.size ≤ gb163)); clear HB; have HB := n0_; have BK163 := n1_; have GW163 := n2_; have GE163 := n3_; clear n0_ n1_ n2_ n3_; clear hb hbox hg) | ((with_reducible refine gate_dst (N := 4) rfl ?_); refine box_event ?hg (N := 4) ?hd (cs := #[.int .i64 0, .int .i64 0, .int .i64 0, .int .i64 0]) (t := 57) ?hr ?_; (case hd => rfl); (case hg => rfl); (case hr => first | (go_simp; done) | (go_simp; rfl)); intro gb164 hg w25 hbox hb; have n0_ := Aside0.mk (blk_below (g := gb163) (o := .cells #[.int .i64 a0_0, .int .i64 a0_1, .slice A0_2 l0_2.length c0_2] 24 (0, 0)) (by (with_reducible repeat (first | refine blk_drewN ?_ _ | refine blk_drew ?_ | refine blk_alloc ?_ _)); exact BK163.out) hb); have n1_ := Aside0.mk (below_step (by repeat (first | (with_reducible first | exact HB.out | apply below_alloc | apply pw_below_drewN | apply below_drew1 | refine below_set ?_ GE163.out) | exact HB.out)) hb); have n2_ := Aside0.mk (hbox); have n3_ := Aside0.mk ((by rw [hg]; exact (below_size (by repeat (first | (with_reducible first | exact HB.out | apply below_alloc | apply pw_below_drewN | apply below_drew1 | refine below_set ?_ GE163.out) | exact HB.out))) : w.heap.size ≤ gb164)); have n4_ := Aside0.mk ((by rw [hg]; exact (below_size (by repeat (first | (with_reducible first | exact HB.out | apply below_alloc | apply pw_below_drewN | apply below_drew1 | refine below_set ?_ GE163.out) | exact HB.out))) : w.heap.size ≤ gb164)); have n5_ := Aside0.mk ((by rw [hg]; exact Nat.ne_of_lt (blk_lt (g := gb163) (o := .cells #[.int .i64 a0_0, .int .i64 a0_1, .slice A0_2 l0_2.length c0_2] 24 (0, 0)) (by (with_reducible repeat (first | refine blk_drewN ?_ _ | refine blk_drew ?_ | refine blk_alloc ?_ _)); exact BK163.out)) : gb163 ≠ gb164)); have n6_ := Aside0.mk ((by rw [hg]; exact Nat.ne_of_gt (blk_lt (g := gb163) (o := .cells #[.int .i64 a0_0, .int .i64 a0_1, .slice A0_2 l0_2.length c0_2] 24 (0, 0)) (by (with_reducible repeat (first | refine blk_drewN ?_ _ | refine blk_drew ?_ | refine blk_alloc ?_ _)); exact BK163.out)) : gb164 ≠ gb163)); clear BK163; clear HB; have BK163 := n0_; have HB := n1_; have BK164 := n2_; have GW164 := n3_; have GE164 := n4_; have NB163_164 := n5_; have NB164_163 := n6_; clear n0_ n1_ n2_ n3_ n4_ n5_ n6_; clear hb hbox hg; have hnb26 := NB163_164.out; have hnc26 := NB164_163.out; have hcz27_0 : w25.cell? ⟨gb163, 0, none⟩ = some (.int .i64 a0_0) := (blk_cell BK163.out 0).trans rfl; have hcz27_1 : w25.cell? ⟨gb163, 1, none⟩ = some (.int .i64 a0_1) := (blk_cell BK163.out 1).trans rfl; have hcz27_2 : w25.cell? ⟨gb163, 2, none⟩ = some (.slice A0_2 l0_2.length c0_2) := (blk_cell BK163.out 2).trans rfl; have hfz27_0 := blk_frozen BK163.out 0; have hfz27_1 := blk_frozen BK163.out 1; have hfz27_2 := blk_frozen BK163.out 2) | ((with_reducible refine gate_callee (f := 43) rfl ?_); refine goesL_ (some 9) rfl rfl Try.func43 (by kernel_rfl) rfl #[.agg #[.int .i64 a0_0, .int .i64 a0_1, .slice A0_2 l0_2.length c0_2], .int .i64 a1] rfl (by (try simp only [List.map_toArray, List.map_cons, List.map_nil]); first | done | rfl | (simp only [List.length_drop, List.length_take]; rfl)) ?_; (with_reducible refine (chart_place.calls a0_0 a0_1 _ _ l0_2 a1 t165 _ ?side1 ?side2 A3.out).mono ?_); (case side1 => repeat (first | exact (Kd.C_below HR0_2.out HB.out) | (with_reducible refine Kd.C_alloc ?_ _) | (with_reducible refine Kd.C_drewN ?_ _) | (with_reducible refine Kd.C_drew ?_))); (case side2 => exact HC0_2.out); rintro e w28 ⟨rfl, hb⟩; refine ⟨_, rfl, ?_⟩; have n0_ := Aside0.mk (blk_below (g := gb163) (o := .cells #[.int .i64 a0_0, .int .i64 a0_1, .slice A0_2 l0_2.length c0_2] 24 (0, 0)) (by (with_reducible repeat (first | refine blk_drewN ?_ _ | refine blk_drew ?_ | refine blk_alloc ?_ _)); exact BK163.out) hb); have n1_ := Aside0.mk (blk_below (g := gb164) (o := .cells #[.int .i64 0, .int .i64 0, .int .i64 0, .int .i64 0] 57 (0, 0)) (by (with_reducible repeat (first | refine blk_drewN ?_ _ | refine blk_drew ?_ | refine blk_alloc ?_ _)); exact BK164.out) hb); have n2_ := Aside0.mk (below_step (by repeat (first | (with_reducible first | exact HB.out | apply below_alloc | apply pw_below_drewN | apply below_drew1 | refine below_set ?_ GE163.out | refine below_set ?_ GE164.out) | exact HB.out)) hb); clear BK163; clear BK164; clear HB; have BK163 := n0_; have BK164 := n1_; have HB := n2_; clear n0_ n1_ n2_; (try clear hb); (try clear hb2); (try clear hk); (try clear hi); have hcz29_0 : w28.cell? ⟨gb163, 0, none⟩ = some (.int .i64 a0_0) := (blk_cell BK163.out 0).trans rfl; have hcz29_1 : w28.cell? ⟨gb163, 1, none⟩ = some (.int .i64 a0_1) := (blk_cell BK163.out 1).trans rfl; have hcz29_2 : w28.cell? ⟨gb163, 2, none⟩ = some (.slice A0_2 l0_2.length c0_2) := (blk_cell BK163.out 2).trans rfl; have hfz29_0 := blk_frozen BK163.out 0; have hfz29_1 := blk_frozen BK163.out 1; have hfz29_2 := blk_frozen BK163.out 2) | (go_at_call 17; (with_reducible refine (chart_Check.calls k a0_0 a0_1 _ _ l0_2 false _ ?side1 ?side2 A11.out).mono ?_); (case side1 => repeat (first | exact (Kd.C_below HR0_2.out HB.out) | (with_reducible refine Kd.C_alloc ?_ _) | (with_reducible refine Kd.C_drewN ?_ _) | (with_reducible refine Kd.C_drew ?_))); (case side2 => exact HC0_2.out); rintro e w30 ⟨rfl, hb⟩; have n0_ := Aside0.mk (blk_below (g := gb163) (o := .cells #[.int .i64 a0_0, .int .i64 a0_1, .slice A0_2 l0_2.length c0_2] 24 (0, 0)) (by (with_reducible repeat (first | refine blk_drewN ?_ _ | refine blk_drew ?_ | refine blk_alloc ?_ _)); exact BK163.out) hb); have n1_ := Aside0.mk (blk_below (g := gb164) (o := .cells #[.int .i64 0, .int .i64 0, .int .i64 0, .int .i64 0] 57 (0, 0)) (by (with_reducible repeat (first | refine blk_drewN ?_ _ | refine blk_drew ?_ | refine blk_alloc ?_ _)); exact BK164.out) hb); have n2_ := Aside0.mk (below_step (by repeat (first | (with_reducible first | exact HB.out | apply below_alloc | apply pw_below_drewN | apply below_drew1 | refine below_set ?_ GE163.out | refine below_set ?_ GE164.out) | exact HB.out)) hb); clear BK163; clear BK164; clear HB; have BK163 := n0_; have BK164 := n1_; have HB := n2_; clear n0_ n1_ n2_; (try clear hb); (try clear hb2); (try clear hk); (try clear hi); have hcz31_0 : w30.cell? ⟨gb164, 0, none⟩ = some (.int .i64 0) := (blk_cell BK164.out 0).trans rfl; have hcz31_1 : w30.cell? ⟨gb164, 1, none⟩ = some (.int .i64 0) := (blk_cell BK164.out 1).trans rfl; have hcz31_2 : w30.cell? ⟨gb164, 2, none⟩ = some (.int .i64 0) := (blk_cell BK164.out 2).trans rfl; have hcz31_3 : w30.cell? ⟨gb164, 3, none⟩ = some (.int .i64 0) := (blk_cell BK164.out 3).trans rfl; have hfz31_0 := blk_frozen BK164.out 0; have hfz31_1 := blk_frozen BK164.out 1; have hfz31_2 := blk_frozen BK164.out 2; have hfz31_3 := blk_frozen BK164.out 3))
   refine bodyPost_ret (results_ct rfl _ _ gb164 57 #[.int .i64 0, .int .i64 0, .int .i64 0, .int .i64 0] (0, 0) _ rfl (by (with_reducible repeat (first | refine blk_drewN ?_ _ | refine blk_drew ?_ | refine blk_alloc ?_ _)); refine blk_put (cs := #[.int .i64 0, .int .i64 0, .int .i64 0, .int .i64 0]) ?_ 3 _ rfl; (with_reducible repeat (first | refine blk_drewN ?_ _ | refine blk_drew ?_ | refine blk_alloc ?_ _)); refine blk_put (cs := #[.int .i64 0, .int .i64 0, .int .i64 0, .int .i64 0]) ?_ 2 _ rfl; (with_reducible repeat (first | refine blk_drewN ?_ _ | refine blk_drew ?_ | refine blk_alloc ?_ _)); refine blk_put (cs := #[.int .i64 0, .int .i64 0, .int .i64 0, .int .i64 0]) ?_ 1 _ rfl; (with_reducible repeat (first | refine blk_drewN ?_ _ | refine blk_drew ?_ | refine blk_alloc ?_ _)); refine blk_put (cs := #[.int .i64 0, .int .i64 0, .int .i64 0, .int .i64 0]) ?_ 0 _ rfl; (with_reducible repeat (first | refine blk_drewN ?_ _ | refine blk_drew ?_ | refine blk_alloc ?_ _)); exact BK164.out) Try.underlying57 rfl (by kernel_rfl)) rfl ?_
   exact ⟨by first | rfl | (simp [errW_none, errW_some] <;> rfl) | (simp [*, errW_none, errW_some] <;> rfl), by repeat (first | (with_reducible first | exact HB.out | apply below_alloc | apply pw_below_drewN | apply below_drew1 | refine below_set ?_ GE163.out | refine below_set ?_ GE164.out) | exact HB.out)⟩
 subst c12
 have H1 : (if 0 ≤ t165 then (if t165 < (l0_2.length : Int) then (some ((rd_T57 l0_2 t165).f0, (rd_T57 l0_2 t165).f1.f0, (rd_T57 l0_2 t165).f1.f1, (rd_T57 l0_2 t165).f2, true)) else (none)) else (none)) = some (r1, r2, r3, r4, r5) := by rw [if_pos rfl] at H; exact H
 clear H
 have H := H1
 clear H1
 by_cases c13 : 0 ≤ t165
 rotate_left
 · rw [if_neg c13] at H; exact absurd H (by simp)
 rw [if_pos c13] at H
 have c13b0 : decide (0 ≤ t165) = true := decide_eq_true c13
 clear c13
 by_cases c14 : t165 < (l0_2.length : Int)
 rotate_left
 · rw [if_neg c14] at H; exact absurd H (by simp)
 rw [if_pos c14] at H
 have c14b0 : decide (t165 < (l0_2.length : Int)) = true := decide_eq_true c14
 clear c14; simp only [Option.some.injEq, Prod.mk.injEq] at H
 obtain ⟨rfl, rfl, rfl, rfl, rfl⟩ := H
 go_enter Try.func24, Try.ntmps24
 go_wp2_with (first | ((with_reducible refine gate_dst (N := 2) rfl ?_); refine box_event ?hg (N := 2) ?hd (cs := #[.int .i64 a0_0, .int .i64 a0_1, .slice A0_2 l0_2.length c0_2]) (t := 24) ?hr ?_; (case hd => rfl); (case hg => rfl); (case hr => first | (go_simp; done) | (go_simp; rfl)); intro gb163 hg w15 hbox hb; have n0_ := Aside0.mk (below_step (by repeat (first | (with_reducible first | exact HB.out | apply below_alloc | apply pw_below_drewN | apply below_drew1) | exact HB.out)) hb); have n1_ := Aside0.mk (hbox); have n2_ := Aside0.mk ((by rw [hg]; exact (below_size (by repeat (first | (with_reducible first | exact HB.out | apply below_alloc | apply pw_below_drewN | apply below_drew1) | exact HB.out))) : w.heap.size ≤ gb163)); have n3_ := Aside0.mk ((by rw [hg]; exact (below_size (by repeat (first | (with_reducible first | exact HB.out | apply below_alloc | apply pw_below_drewN | apply below_drew1) | exact HB.out))) : w.heap.size ≤ gb163)); clear HB; have HB := n0_; have BK163 := n1_; have GW163 := n2_; have GE163 := n3_; clear n0_ n1_ n2_ n3_; clear hb hbox hg) | ((with_reducible refine gate_dst (N := 4) rfl ?_); refine box_event ?hg (N := 4) ?hd (cs := #[.int .i64 0, .int .i64 0, .int .i64 0, .int .i64 0]) (t := 57) ?hr ?_; (case hd => rfl); (case hg => rfl); (case hr => first | (go_simp; done) | (go_simp; rfl)); intro gb164 hg w16 hbox hb; have n0_ := Aside0.mk (blk_below (g := gb163) (o := .cells #[.int .i64 a0_0, .int .i64 a0_1, .slice A0_2 l0_2.length c0_2] 24 (0, 0)) (by (with_reducible repeat (first | refine blk_drewN ?_ _ | refine blk_drew ?_ | refine blk_alloc ?_ _)); exact BK163.out) hb); have n1_ := Aside0.mk (below_step (by repeat (first | (with_reducible first | exact HB.out | apply below_alloc | apply pw_below_drewN | apply below_drew1 | refine below_set ?_ GE163.out) | exact HB.out)) hb); have n2_ := Aside0.mk (hbox); have n3_ := Aside0.mk ((by rw [hg]; exact (below_size (by repeat (first | (with_reducible first | exact HB.out | apply below_alloc | apply pw_below_drewN | apply below_drew1 | refine below_set ?_ GE163.out) | exact HB.out))) : w.heap.size ≤ gb164)); have n4_ := Aside0.mk ((by rw [hg]; exact (below_size (by repeat (first | (with_reducible first | exact HB.out | apply below_alloc | apply pw_below_drewN | apply below_drew1 | refine below_set ?_ GE163.out) | exact HB.out))) : w.heap.size ≤ gb164)); have n5_ := Aside0.mk ((by rw [hg]; exact Nat.ne_of_lt (blk_lt (g := gb163) (o := .cells #[.int .i64 a0_0, .int .i64 a0_1, .slice A0_2 l0_2.length c0_2] 24 (0, 0)) (by (with_reducible repeat (first | refine blk_drewN ?_ _ | refine blk_drew ?_ | refine blk_alloc ?_ _)); exact BK163.out)) : gb163 ≠ gb164)); have n6_ := Aside0.mk ((by rw [hg]; exact Nat.ne_of_gt (blk_lt (g := gb163) (o := .cells #[.int .i64 a0_0, .int .i64 a0_1, .slice A0_2 l0_2.length c0_2] 24 (0, 0)) (by (with_reducible repeat (first | refine blk_drewN ?_ _ | refine blk_drew ?_ | refine blk_alloc ?_ _)); exact BK163.out)) : gb164 ≠ gb163)); clear BK163; clear HB; have BK163 := n0_; have HB := n1_; have BK164 := n2_; have GW164 := n3_; have GE164 := n4_; have NB163_164 := n5_; have NB164_163 := n6_; clear n0_ n1_ n2_ n3_ n4_ n5_ n6_; clear hb hbox hg; have hnb17 := NB163_164.out; have hnc17 := NB164_163.out; have hcz18_0 : w16.cell? ⟨gb163, 0, none⟩ = some (.int .i64 a0_0) := (blk_cell BK163.out 0).trans rfl; have hcz18_1 : w16.cell? ⟨gb163, 1, none⟩ = some (.int .i64 a0_1) := (blk_cell BK163.out 1).trans rfl; have hcz18_2 : w16.cell? ⟨gb163, 2, none⟩ = some (.slice A0_2 l0_2.length c0_2) := (blk_cell BK163.out 2).trans rfl; have hfz18_0 := blk_frozen BK163.out 0; have hfz18_1 := blk_frozen BK163.out 1; have hfz18_2 := blk_frozen BK163.out 2) | ((with_reducible refine gate_callee (f := 43) rfl ?_); refine goesL_ (some 9) rfl rfl Try.func43 (by kernel_rfl) rfl #[.agg #[.int .i64 a0_0, .int .i64 a0_1, .slice A0_2 l0_2.length c0_2], .int .i64 a1] rfl (by (try simp only [List.map_toArray, List.map_cons, List.map_nil]); first | done | rfl | (simp only [List.length_drop, List.length_take]; rfl)) ?_; (with_reducible refine (chart_place.calls a0_0 a0_1 _ _ l0_2 a1 t165 _ ?side1 ?side2 A3.out).mono ?_); (case side1 => repeat (first | exact (Kd.C_below HR0_2.out HB.out) | (with_reducible refine Kd.C_alloc ?_ _) | (with_reducible refine Kd.C_drewN ?_ _) | (with_reducible refine Kd.C_drew ?_))); (case side2 => exact HC0_2.out); rintro e w19 ⟨rfl, hb⟩; refine ⟨_, rfl, ?_⟩; have n0_ := Aside0.mk (blk_below (g := gb163) (o := .cells #[.int .i64 a0_0, .int .i64 a0_1, .slice A0_2 l0_2.length c0_2] 24 (0, 0)) (by (with_reducible repeat (first | refine blk_drewN ?_ _ | refine blk_drew ?_ | refine blk_alloc ?_ _)); exact BK163.out) hb); have n1_ := Aside0.mk (blk_below (g := gb164) (o := .cells #[.int .i64 0, .int .i64 0, .int .i64 0, .int .i64 0] 57 (0, 0)) (by (with_reducible repeat (first | refine blk_drewN ?_ _ | refine blk_drew ?_ | refine blk_alloc ?_ _)); exact BK164.out) hb); have n2_ := Aside0.mk (below_step (by repeat (first | (with_reducible first | exact HB.out | apply below_alloc | apply pw_below_drewN | apply below_drew1 | refine below_set ?_ GE163.out | refine below_set ?_ GE164.out) | exact HB.out)) hb); clear BK163; clear BK164; clear HB; have BK163 := n0_; have BK164 := n1_; have HB := n2_; clear n0_ n1_ n2_; (try clear hb); (try clear hb2); (try clear hk); (try clear hi); have hcz20_0 : w19.cell? ⟨gb163, 0, none⟩ = some (.int .i64 a0_0) := (blk_cell BK163.out 0).trans rfl; have hcz20_1 : w19.cell? ⟨gb163, 1, none⟩ = some (.int .i64 a0_1) := (blk_cell BK163.out 1).trans rfl; have hcz20_2 : w19.cell? ⟨gb163, 2, none⟩ = some (.slice A0_2 l0_2.length c0_2) := (blk_cell BK163.out 2).trans rfl; have hfz20_0 := blk_frozen BK163.out 0; have hfz20_1 := blk_frozen BK163.out 1; have hfz20_2 := blk_frozen BK163.out 2) | (go_at_call 17; (with_reducible refine (chart_Check.calls k a0_0 a0_1 _ _ l0_2 true _ ?side1 ?side2 A11.out).mono ?_); (case side1 => repeat (first | exact (Kd.C_below HR0_2.out HB.out) | (with_reducible refine Kd.C_alloc ?_ _) | (with_reducible refine Kd.C_drewN ?_ _) | (with_reducible refine Kd.C_drew ?_))); (case side2 => exact HC0_2.out); rintro e w21 ⟨rfl, hb⟩; have n0_ := Aside0.mk (blk_below (g := gb163) (o := .cells #[.int .i64 a0_0, .int .i64 a0_1, .slice A0_2 l0_2.length c0_2] 24 (0, 0)) (by (with_reducible repeat (first | refine blk_drewN ?_ _ | refine blk_drew ?_ | refine blk_alloc ?_ _)); exact BK163.out) hb); have n1_ := Aside0.mk (blk_below (g := gb164) (o := .cells #[.int .i64 0, .int .i64 0, .int .i64 0, .int .i64 0] 57 (0, 0)) (by (with_reducible repeat (first | refine blk_drewN ?_ _ | refine blk_drew ?_ | refine blk_alloc ?_ _)); exact BK164.out) hb); have n2_ := Aside0.mk (below_step (by repeat (first | (with_reducible first | exact HB.out | apply below_alloc | apply pw_below_drewN | apply below_drew1 | refine below_set ?_ GE163.out | refine below_set ?_ GE164.out) | exact HB.out)) hb); clear BK163; clear BK164; clear HB; have BK163 := n0_; have BK164 := n1_; have HB := n2_; clear n0_ n1_ n2_; (try clear hb); (try clear hb2); (try clear hk); (try clear hi); have hcz22_0 : w21.cell? ⟨gb163, 0, none⟩ = some (.int .i64 a0_0) := (blk_cell BK163.out 0).trans rfl; have hcz22_1 : w21.cell? ⟨gb163, 1, none⟩ = some (.int .i64 a0_1) := (blk_cell BK163.out 1).trans rfl; have hcz22_2 : w21.cell? ⟨gb163, 2, none⟩ = some (.slice A0_2 l0_2.length c0_2) := (blk_cell BK163.out 2).trans rfl; have hfz22_0 := blk_frozen BK163.out 0; have hfz22_1 := blk_frozen BK163.out 1; have hfz22_2 := blk_frozen BK163.out 2; have p167 : 0 ≤ (t165 : Int) := of_decide_eq_true (by first | (with_reducible assumption) | assumption); have q167 : t165 < (l0_2.length : Int) := of_decide_eq_true (by first | (with_reducible assumption) | assumption); obtain ⟨ad167, e167, hx167_0, hx167_1, hx167_2, hx167_3⟩ := at_T57 HR0_2.out t165 p167 q167; cases e167; replace hx167_0 := (HB.out.cell (World.block_lt_of_cell? w _ hx167_0)).trans hx167_0; replace hx167_1 := (HB.out.cell (World.block_lt_of_cell? w _ hx167_1)).trans hx167_1; replace hx167_2 := (HB.out.cell (World.block_lt_of_cell? w _ hx167_2)).trans hx167_2; replace hx167_3 := (HB.out.cell (World.block_lt_of_cell? w _ hx167_3)).trans hx167_3; replace p167 := eq_true p167; replace q167 := eq_true q167; have hcz23_0 : w21.cell? ⟨gb164, 0, none⟩ = some (.int .i64 0) := (blk_cell BK164.out 0).trans rfl; have hcz23_1 : w21.cell? ⟨gb164, 1, none⟩ = some (.int .i64 0) := (blk_cell BK164.out 1).trans rfl; have hcz23_2 : w21.cell? ⟨gb164, 2, none⟩ = some (.int .i64 0) := (blk_cell BK164.out 2).trans rfl; have hcz23_3 : w21.cell? ⟨gb164, 3, none⟩ = some (.int .i64 0) := (blk_cell BK164.out 3).trans rfl; have hfz23_0 := blk_frozen BK164.out 0; have hfz23_1 := blk_frozen BK164.out 1; have hfz23_2 := blk_frozen BK164.out 2; have hfz23_3 := blk_frozen BK164.out 3))
 refine bodyPost_ret (results_ct rfl _ _ gb164 57 #[.int .i64 ((rd_T57 l0_2 t165).f0), .int .i64 ((rd_T57 l0_2 t165).f1.f0), .int .i64 ((rd_T57 l0_2 t165).f1.f1), .int .i64 ((rd_T57 l0_2 t165).f2)] (0, 0) _ rfl (by (with_reducible repeat (first | refine blk_drewN ?_ _ | refine blk_drew ?_ | refine blk_alloc ?_ _)); refine blk_put (cs := #[.int .i64 ((rd_T57 l0_2 t165).f0), .int .i64 ((rd_T57 l0_2 t165).f1.f0), .int .i64 ((rd_T57 l0_2 t165).f1.f1), .int .i64 0]) ?_ 3 _ rfl; (with_reducible repeat (first | refine blk_drewN ?_ _ | refine blk_drew ?_ | refine blk_alloc ?_ _)); refine blk_put (cs := #[.int .i64 ((rd_T57 l0_2 t165).f0), .int .i64 ((rd_T57 l0_2 t165).f1.f0), .int .i64 0, .int .i64 0]) ?_ 2 _ rfl; (with_reducible repeat (first | refine blk_drewN ?_ _ | refine blk_drew ?_ | refine blk_alloc ?_ _)); refine blk_put (cs := #[.int .i64 ((rd_T57 l0_2 t165).f0), .int .i64 0, .int .i64 0, .int .i64 0]) ?_ 1 _ rfl; (with_reducible repeat (first | refine blk_drewN ?_ _ | refine blk_drew ?_ | refine blk_alloc ?_ _)); refine blk_put (cs := #[.int .i64 0, .int .i64 0, .int .i64 0, .int .i64 0]) ?_ 0 _ rfl; (with_reducible repeat (first | refine blk_drewN ?_ _ | refine blk_drew ?_ | refine blk_alloc ?_ _)); exact BK164.out) Try.underlying57 rfl (by kernel_rfl)) rfl ?_
 exact ⟨by first | rfl | (simp [errW_none, errW_some] <;> rfl) | (simp [*, errW_none, errW_some] <;> rfl), by repeat (first | (with_reducible first | exact HB.out | apply below_alloc | apply pw_below_drewN | apply below_drew1 | refine below_set ?_ GE163.out | refine below_set ?_ GE164.out) | exact HB.out)⟩

/-! ### splicelaw08_ChartNumbers: function 6 (by hand) -/
mutual
def splicelaw08_ChartNumbers.l0 : Nat → List Cht → Int → Int → Option Bool
  | 0, _, _, _ => none
  | k + 1, past, nx, id => if id < nx then (if id < 100 then splicelaw08_ChartNumbers.l1 k past nx id false false ⟨0, ⟨0, 0⟩, 0⟩ 0 else splicelaw08_awake.f k) else splicelaw08_awake.f k
def splicelaw08_ChartNumbers.l1 : Nat → List Cht → Int → Int → Bool → Bool → Shd → Int → Option Bool
  | 0, _, _, _, _, _, _, _ => none
  | k + 1, past, nx, id, seen, gone, was, i => if i < (past.length : Int) then (if 0 ≤ i then (chart_Find.f k (rd_T24 past i).f0 (rd_T24 past i).f1 (rd_T24 past i).f2 id).bind fun t => (if t.2.2.2.2 = true then (if gone = true then some false else (if seen = true then (if t.1 = was.f0 ∧ t.2.1 = was.f1.f0 ∧ t.2.2.1 = was.f1.f1 ∧ t.2.2.2.1 = was.f2 then splicelaw08_ChartNumbers.l1 k past nx id true false was (wrap64 (i + 1)) else some false) else splicelaw08_ChartNumbers.l1 k past nx id true false ⟨t.1, ⟨t.2.1, t.2.2.1⟩, t.2.2.2.1⟩ (wrap64 (i + 1)))) else splicelaw08_ChartNumbers.l1 k past nx id seen (gone || seen) was (wrap64 (i + 1))) else none) else (if seen = true then splicelaw08_ChartNumbers.l0 k past nx (wrap64 (id + 1)) else some false)
end
def splicelaw08_ChartNumbers.f (k : Nat) (a0 a1 : Int) (l2_0 : List (S39)) (a2_1 : Int) : Option Bool :=
  (splicelaw08_walk.f k a0 a1 l2_0 40).bind fun b => if 1 ≤ b.2.length ∧ b.2.length ≤ 1000000 then splicelaw08_ChartNumbers.l0 k b.2 (rd_T24 b.2 ((b.2.length : Int) - 1)).f1 1 else none
theorem splicelaw08_ChartNumbers.mono_l : ∀ k, (∀ past nx id, LeO (splicelaw08_ChartNumbers.l0 k past nx id) (splicelaw08_ChartNumbers.l0 (k + 1) past nx id)) ∧ (∀ past nx id seen gone was i, LeO (splicelaw08_ChartNumbers.l1 k past nx id seen gone was i) (splicelaw08_ChartNumbers.l1 (k + 1) past nx id seen gone was i))
  | 0 => ⟨fun _ _ _ r h => by simp [splicelaw08_ChartNumbers.l0] at h, fun _ _ _ _ _ _ _ r h => by simp [splicelaw08_ChartNumbers.l1] at h⟩
  | k + 1 => by
    obtain ⟨ih0, ih1⟩ := splicelaw08_ChartNumbers.mono_l k
    constructor
    · intro past nx id
      unfold splicelaw08_ChartNumbers.l0
      repeat' first
        | (with_reducible exact ih1 _ _ _ _ _ _ _)
        | (with_reducible exact splicelaw08_awake.mono _)
        | (with_reducible refine LeO.ite ?_ ?_)
    · intro past nx id seen gone was i
      unfold splicelaw08_ChartNumbers.l1
      repeat' first
        | (with_reducible exact ih1 _ _ _ _ _ _ _)
        | (with_reducible exact ih0 _ _ _)
        | (with_reducible exact LeO.none _)
        | (with_reducible exact LeO.refl _)
        | (with_reducible exact chart_Find.mono _ _ _ _ _)
        | (with_reducible refine LeO.ite ?_ ?_)
        | (with_reducible refine LeO.bind ?_ (fun _ => ?_))
theorem splicelaw08_ChartNumbers.mono : ∀ a0 a1 l2 a2 k, LeO (splicelaw08_ChartNumbers.f k a0 a1 l2 a2) (splicelaw08_ChartNumbers.f (k + 1) a0 a1 l2 a2) := by
  intro a0 a1 l2 a2 k
  obtain ⟨ih0, _⟩ := splicelaw08_ChartNumbers.mono_l k
  unfold splicelaw08_ChartNumbers.f
  repeat' first
    | (with_reducible exact ih0 _ _ _)
    | (with_reducible exact LeO.none _)
    | (with_reducible exact splicelaw08_walk.mono _ _ _ _ _)
    | (with_reducible refine LeO.ite ?_ ?_)
    | (with_reducible refine LeO.bind ?_ (fun _ => ?_))
/-- past and the last chart, in memory -/
structure NumS (w W : World) (Ap : Option Addr) (past : List Cht) (kl : Nat) (u0 u2 : Value) (nx : Int) : Prop where
  P : Kd.C k24 W Ap past.length past
  L : W.heap[kl]? = some (.cells #[u0, .int .i64 nx, u2] 24 (0, 0))
  bel : Below w.heap.size w W
theorem NumS.below {w W W' : World} {Ap : Option Addr} {past : List Cht} {kl : Nat} {u0 u2 : Value} {nx : Int} (h : NumS w W Ap past kl u0 u2 nx) (hb : Below W.heap.size W W') : NumS w W' Ap past kl u0 u2 nx := ⟨Kd.C_below h.P hb, blk_below h.L hb, h.bel.trans (hb.mono h.bel.size)⟩
/-- the box of was, laid behind W0 -/
structure NumI (W0 W : World) (kw : Nat) (x : Shd) : Prop where
  b : Below W0.heap.size W0 W
  k : W.heap[kw]? = some (.cells #[.int .i64 x.f0, .int .i64 x.f1.f0, .int .i64 x.f1.f1, .int .i64 x.f2] 57 (0, 0))
  ge : W0.heap.size ≤ kw
theorem NumI.below {W0 W W' : World} {kw : Nat} {x : Shd} (h : NumI W0 W kw x) (hb : Below W.heap.size W W') : NumI W0 W' kw x := ⟨h.b.trans (hb.mono h.b.size), blk_below h.k hb, h.ge⟩
theorem NumI.put {W0 W : World} {kw : Nat} {x : Shd} (h : NumI W0 W kw x) (r1 r2 r3 r4 : Int) : NumI W0 ((((W.setCell ⟨kw, 0, none⟩ (.int .i64 r1)).setCell ⟨kw, 1, none⟩ (.int .i64 r2)).setCell ⟨kw, 2, none⟩ (.int .i64 r3)).setCell ⟨kw, 3, none⟩ (.int .i64 r4)) kw ⟨r1, ⟨r2, r3⟩, r4⟩ := by
  have b1 := blk_put h.k 0 (.int .i64 r1) rfl
  have b2 := blk_put b1 1 (.int .i64 r2) rfl
  have b3 := blk_put b2 2 (.int .i64 r3) rfl
  have b4 := blk_put b3 3 (.int .i64 r4) rfl
  exact ⟨below_set (below_set (below_set (below_set h.b h.ge) h.ge) h.ge) h.ge, b4, h.ge⟩
attribute [local go_sem high] eqA57 in
set_option maxHeartbeats 8000000 in
set_option maxRecDepth 100000 in
theorem splicelaw08_ChartNumbers.calls (k : Nat) (a0 a1 : Int) (A2_0 : Option Addr) (c2_0 : Nat) (l2_0 : List (S39)) (a2_1 : Int) (r : Bool) (w : World) (hr2_0 : Kd.C k39 w A2_0 l2_0.length l2_0) (hc2_0 : l2_0.length ≤ c2_0) (h : splicelaw08_ChartNumbers.f k a0 a1 l2_0 a2_1 = some r) (hr_ : r = true) :
    Calls Try.prog 6 #[.int .i64 a0, .int .i64 a1, .agg #[.slice A2_0 l2_0.length c2_0, .int .i64 a2_1]] w fun e w' => e = .returned (.bool r) ∧ Below w.heap.size w w' := by
  subst hr_
  have hu24 := Try.underlying24
  have hu50 := Try.underlying50
  have hu57 := Try.underlying57
  have hu55 := Try.underlying55
  unfold splicelaw08_ChartNumbers.f at h
  obtain ⟨b, hw, h2⟩ := Option.bind_eq_some_iff.1 h
  clear h
  obtain ⟨cz, past⟩ := b
  dsimp only at h2
  by_cases hlen : 1 ≤ past.length ∧ past.length ≤ 1000000
  case neg => rw [if_neg hlen] at h2; exact absurd h2 (by simp)
  rw [if_pos hlen] at h2
  obtain ⟨hlen1, hlen2⟩ := hlen
  have HW := Aside0.mk hw
  have HH := Aside0.mk h2
  have HR2 := Aside0.mk hr2_0
  have HC2 := Aside0.mk hc2_0
  clear hw h2 hr2_0 hc2_0
  have hbk := Aside0.mk (blk_new w (.cells #[.slice A2_0 l2_0.length c2_0, .int .i64 a2_1] 50))
  have hbl := Aside0.mk ((Below.refl w.heap.size w).alloc (Nat.le_refl _) (.cells #[.slice A2_0 l2_0.length c2_0, .int .i64 a2_1] 50))
  have g0 := blk_cell hbk.out 0
  go_enter Try.func6, Try.ntmps6
  go_wp2_with fail
  refine (splicelaw08_walk.calls k a0 a1 A2_0 c2_0 l2_0 40 (cz, past) _ (Kd.C_alloc HR2.out _) HC2.out HW.out).mono ?_
  rintro e w1 ⟨Ac, nc, Ap, np, rfl, hcl, hcC, hpl, hpC, hb⟩
  have hbl1 := Aside0.mk (hbl.out.trans (hb.mono hbl.out.size))
  have HP := Aside0.mk hpC
  have HPl := Aside0.mk hpl
  clear hcl hcC hpl hpC hb hbl hbk g0 HR2 HC2 HW
  dsimp only at HP HPl HH
  go_upto_region 2 with (fail)
  have HS : Aside0 (PstS w (w1.alloc (.cells #[.int .i64 cz.f0, .int .i64 cz.f1, .slice Ac cz.f2.length nc] 24)) Ap past) := ⟨⟨Kd.C_alloc HP.out _, hbl1.out.alloc hbl1.out.size _⟩⟩
  clear HP hbl1
  generalize w1.alloc (.cells #[.int .i64 cz.f0, .int .i64 cz.f1, .slice Ac cz.f2.length nc] 24) = w2 at HS ⊢
  have c1 : (0 : Int) ≤ (past.length : Int) - 1 := by omega
  have c2 : (past.length : Int) - 1 < (past.length : Int) := by omega
  obtain ⟨ad, A2, m2, e0, x0, x1, x2, xl, xC⟩ := at_T24 HS.out.P ((past.length : Int) - 1) c1 c2
  subst e0
  clear xl xC
  have htn : ((past.length : Int) - 1).toNat = past.length - 1 := by omega
  rw [htn] at x0 x1 x2
  clear htn
  go_upto_region 3 with (fail)
  clear c1 c2 hlen1
  have hbx := Aside0.mk (blk_new w2 (.cells #[.int .i64 (rd_T24 past ((past.length : Int) - 1)).f0, .int .i64 (rd_T24 past ((past.length : Int) - 1)).f1, .slice A2 (rd_T24 past ((past.length : Int) - 1)).f2.length m2] 24))
  have HS3 : Aside0 (NumS w (w2.alloc (.cells #[.int .i64 (rd_T24 past ((past.length : Int) - 1)).f0, .int .i64 (rd_T24 past ((past.length : Int) - 1)).f1, .slice A2 (rd_T24 past ((past.length : Int) - 1)).f2.length m2] 24)) (some ad) past w2.heap.size (.int .i64 (rd_T24 past ((past.length : Int) - 1)).f0) (.slice A2 (rd_T24 past ((past.length : Int) - 1)).f2.length m2) (rd_T24 past ((past.length : Int) - 1)).f1) := ⟨⟨Kd.C_alloc HS.out.P _, hbx.out, HS.out.bel.alloc HS.out.bel.size _⟩⟩
  clear HS hbx x0 x1 x2
  generalize w2.heap.size = kl at HS3 ⊢
  generalize w2.alloc (.cells #[.int .i64 (rd_T24 past ((past.length : Int) - 1)).f0, .int .i64 (rd_T24 past ((past.length : Int) - 1)).f1, .slice A2 (rd_T24 past ((past.length : Int) - 1)).f2.length m2] 24) = w3 at HS3 ⊢
  generalize (rd_T24 past ((past.length : Int) - 1)).f1 = nx at HS3 HH ⊢
  generalize (.int .i64 (rd_T24 past ((past.length : Int) - 1)).f0 : Value) = v0 at HS3 ⊢
  generalize (.slice A2 (rd_T24 past ((past.length : Int) - 1)).f2.length m2 : Value) = v2 at HS3 ⊢
  go_wp2_with fail
  go_loopg [10] k (fun kq v10 W => ∃ (id : Int), v10 = .int .i64 id ∧ Aside0 (splicelaw08_ChartNumbers.l0 kq past nx id = some true) ∧ Aside0 (kq ≤ k) ∧ Aside0 (NumS w W (some ad) past kl v0 v2 nx))
  case atStart => exact ⟨1, rfl, HH, ⟨Nat.le_refl _⟩, HS3⟩
  case round =>
    clear HS3 HH
    obtain ⟨id, rfl, HA, HK1, HS⟩ := hrel
    have y1 := blk_cell HS.out.L 1
    cases gk with
    | zero => exact absurd HA.out (by simp [splicelaw08_ChartNumbers.l0])
    | succ k1 =>
      have H := HA.out
      clear HA
      simp only [splicelaw08_ChartNumbers.l0] at H
      by_cases c1 : id < nx
      case neg =>
        rw [if_neg c1] at H
        have q1 : decide (id < nx) = false := decide_eq_false c1
        go_wp2_with fail
        refine (splicelaw08_awake.calls k1 true _ H rfl).mono ?_
        rintro e w9 ⟨rfl, hb⟩
        go_wp2_with fail
        go_ret
        exact ⟨rfl, (HS.out.below hb).bel⟩
      rw [if_pos c1] at H
      have q1 : decide (id < nx) = true := decide_eq_true c1
      by_cases c2 : id < 100
      case neg =>
        rw [if_neg c2] at H
        have q2 : decide (id < 100) = false := decide_eq_false c2
        go_wp2_with fail
        refine (splicelaw08_awake.calls k1 true _ H rfl).mono ?_
        rintro e w9 ⟨rfl, hb⟩
        go_wp2_with fail
        go_ret
        exact ⟨rfl, (HS.out.below hb).bel⟩
      rw [if_pos c2] at H
      have q2 : decide (id < 100) = true := decide_eq_true c2
      have HN := Aside0.mk H
      clear H
      go_wp2_with fail
      have HI : Aside0 (NumI wr (wr.alloc (.cells #[.int .i64 0, .int .i64 0, .int .i64 0, .int .i64 0] 57)) wr.heap.size ⟨0, ⟨0, 0⟩, 0⟩) := ⟨⟨(Below.refl _ _).alloc (Nat.le_refl _) _, blk_new wr _, Nat.le_refl _⟩⟩
      obtain ⟨wo, rfl⟩ : ∃ wo : World, wo = wr := ⟨_, rfl⟩
      generalize wo.heap.size = kw at HI ⊢
      generalize wo.alloc (.cells #[.int .i64 0, .int .i64 0, .int .i64 0, .int .i64 0] 57) = wi at HI ⊢
      clear y1
      go_wp2_with fail
      go_loopg [11, 12, 14] k1 (fun kq v11 v12 v14 W => ∃ (seen gone : Bool) (was : Shd) (i : Int), v11 = .bool seen ∧ v12 = .bool gone ∧ v14 = .int .i64 i ∧ Aside0 (splicelaw08_ChartNumbers.l1 kq past nx id seen gone was i = some true) ∧ Aside0 (kq ≤ k1) ∧ Aside0 (NumI wo W kw was))
      case atStart => exact ⟨_, _, _, 0, rfl, rfl, rfl, HN, ⟨Nat.le_refl _⟩, HI⟩
      case round =>
        clear HI HN
        obtain ⟨seen, gone, was, i, rfl, rfl, rfl, HA, HK2, HI⟩ := hrel
        cases gk with
        | zero => exact absurd HA.out (by simp [splicelaw08_ChartNumbers.l1])
        | succ k2 =>
          have H := HA.out
          clear HA
          simp only [splicelaw08_ChartNumbers.l1] at H
          by_cases c3 : i < (past.length : Int)
          case neg =>
            rw [if_neg c3] at H
            have q3 : decide (i < (past.length : Int)) = false := decide_eq_false c3
            cases seen with
            | false => rw [if_neg (by decide)] at H; exact absurd H (by simp)
            | true =>
              rw [if_pos rfl] at H
              have HN := Aside0.mk H
              clear H
              go_wp2_with fail
              go_roundg k1
              case measure => omega
              case rel => exact ⟨_, rfl, ⟨at_rounds (fun q => (splicelaw08_ChartNumbers.mono_l q).1 past nx (wrap64 (id + 1))) (show k2 ≤ k1 by have := HK2.out; omega) HN.out⟩, ⟨by have := HK1.out; omega⟩, ⟨HS.out.below HI.out.b⟩⟩
          rw [if_pos c3] at H
          have q3 : decide (i < (past.length : Int)) = true := decide_eq_true c3
          by_cases c4 : 0 ≤ i
          case neg => rw [if_neg c4] at H; exact absurd H (by simp)
          rw [if_pos c4] at H
          have hwi : wrap64 (i + 1) = i + 1 := by unfold wrap64; omega
          rw [hwi] at H
          clear hwi
          have p3 := eq_true c3
          have p4 := eq_true c4
          obtain ⟨ad', A2, m2, e0, x0, x1, x2, xl, xC⟩ := at_T24 HS.out.P i c4 c3
          cases e0
          replace x0 := (HI.out.b.cell (World.block_lt_of_cell? wo _ x0)).trans x0
          replace x1 := (HI.out.b.cell (World.block_lt_of_cell? wo _ x1)).trans x1
          replace x2 := (HI.out.b.cell (World.block_lt_of_cell? wo _ x2)).trans x2
          have HX := Aside0.mk (Kd.C_below xC HI.out.b)
          have HXl := Aside0.mk xl
          clear xl xC
          obtain ⟨y, hy, H2⟩ := Option.bind_eq_some_iff.1 H
          clear H
          obtain ⟨r1, r2, r3, r4, is⟩ := y
          have HT := Aside0.mk hy
          clear hy
          dsimp only at H2
          cases is with
          | false =>
            rw [if_neg (by decide)] at H2
            have HN := Aside0.mk H2
            clear H2
            cases gone <;> cases seen
            all_goals
              go_wp2_with (with_reducible refine (chart_Find.calls k2 _ _ A2 m2 _ id _ _ _ _ _ _ HX.out HXl.out HT.out).mono ?_; rintro e w9 ⟨rfl, hb⟩; replace HI := Aside0.mk (HI.out.below hb); have z0 := blk_cell HI.out.k 0; have z1 := blk_cell HI.out.k 1; have z2 := blk_cell HI.out.k 2; have z3 := blk_cell HI.out.k 3; have e0 := blk_frozen HI.out.k 0; have e1 := blk_frozen HI.out.k 1; have e2 := blk_frozen HI.out.k 2; have e3 := blk_frozen HI.out.k 3; have hlw := blk_lt HI.out.k; clear hb HX HT HXl)
              go_roundg k2
              case measure => omega
              case rel => exact ⟨_, _, _, _, rfl, rfl, rfl, HN, ⟨by have := HK2.out; omega⟩, ⟨HI.out.below ((Below.refl _ _).alloc (Nat.le_refl _) _)⟩⟩
          | true =>
            rw [if_pos rfl] at H2
            cases gone with
            | true => rw [if_pos rfl] at H2; exact absurd H2 (by simp)
            | false =>
              rw [if_neg (by decide)] at H2
              cases seen with
              | true =>
                rw [if_pos rfl] at H2
                by_cases c5 : r1 = was.f0 ∧ r2 = was.f1.f0 ∧ r3 = was.f1.f1 ∧ r4 = was.f2
                case neg => rw [if_neg c5] at H2; exact absurd H2 (by simp)
                rw [if_pos c5] at H2
                obtain ⟨d1, d2, d3, d4⟩ := c5
                have HN := Aside0.mk H2
                clear H2
                subst d1 d2 d3 d4
                go_wp2_with (with_reducible refine (chart_Find.calls k2 _ _ A2 m2 _ id _ _ _ _ _ _ HX.out HXl.out HT.out).mono ?_; rintro e w9 ⟨rfl, hb⟩; replace HI := Aside0.mk (HI.out.below hb); have z0 := blk_cell HI.out.k 0; have z1 := blk_cell HI.out.k 1; have z2 := blk_cell HI.out.k 2; have z3 := blk_cell HI.out.k 3; have e0 := blk_frozen HI.out.k 0; have e1 := blk_frozen HI.out.k 1; have e2 := blk_frozen HI.out.k 2; have e3 := blk_frozen HI.out.k 3; have hlw := blk_lt HI.out.k; clear hb HX HT HXl)
                go_roundg k2
                case measure => omega
                case rel => exact ⟨_, _, _, _, rfl, rfl, rfl, HN, ⟨by have := HK2.out; omega⟩, ⟨(HI.out.put was.f0 was.f1.f0 was.f1.f1 was.f2).below ((Below.refl _ _).alloc (Nat.le_refl _) _)⟩⟩
              | false =>
                rw [if_neg (by decide)] at H2
                have HN := Aside0.mk H2
                clear H2
                go_wp2_with (with_reducible refine (chart_Find.calls k2 _ _ A2 m2 _ id _ _ _ _ _ _ HX.out HXl.out HT.out).mono ?_; rintro e w9 ⟨rfl, hb⟩; replace HI := Aside0.mk (HI.out.below hb); have z0 := blk_cell HI.out.k 0; have z1 := blk_cell HI.out.k 1; have z2 := blk_cell HI.out.k 2; have z3 := blk_cell HI.out.k 3; have e0 := blk_frozen HI.out.k 0; have e1 := blk_frozen HI.out.k 1; have e2 := blk_frozen HI.out.k 2; have e3 := blk_frozen HI.out.k 3; have hlw := blk_lt HI.out.k; clear hb HX HT HXl)
                go_roundg k2
                case measure => omega
                case rel => exact ⟨_, _, _, _, rfl, rfl, rfl, HN, ⟨by have := HK2.out; omega⟩, ⟨(HI.out.put r1 r2 r3 r4).below ((Below.refl _ _).alloc (Nat.le_refl _) _)⟩⟩

/-! ### splicelaw08_ChartNumbers: function 6 -/
/-- THE ONE PURE STATEMENT of splicelaw08_ChartNumbers: yours. -/
def splicelaw08_ChartNumbers.Pure : Prop := ∀ (x0 : Int) (x1 : Int) (x2 : S50), (Lit.int .i64 x0).wf = true → (Lit.int .i64 x1).wf = true → wf50 x2 → ∃ k, splicelaw08_ChartNumbers.f k x0 x1 x2.f0 x2.f1 = some true

end Go.Proofs.Ytbhlphadcphapaa.PV
