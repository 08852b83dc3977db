-- written by a program of this session
import Derived.Test.YteclhjhnbolkmaaPBx0
namespace Go.Proofs.Yteclhjhnbolkmaa.PB
open Go.RowKit Go.Proofs.Yteclhjhnbolkmaa.Op Go.Proofs.YteclhjhnbolkmaaW.PrintWords Go.Proofs.YteclhjhnbolkmaaW.PrintLast Go.Proofs.YteclhjhnbolkmaaW.PrintMore
attribute [local go_sem] max2_int min2_int max_two min_two max_three min_three max_four min_four   -- for this text's walks alone
set_option linter.unusedVariables false
set_option linter.unusedSimpArgs false

/-! ### splicelaw25_squares: function 28 -/
def splicelaw25_squares.l0 : Nat → List Int → Int → Int → Option (Int)
  | 0, _, _, _ => none
  | k + 1, x0, x3, x4 => if x4 < (x0.length : Int) then (if 0 ≤ x4 then (splicelaw25_squares.l0 k x0 (wrap64 (x3 + (wrap64 ((rd x0 x4) * (rd x0 x4))))) (wrap64 (x4 + 1))) else (none)) else (some x3)
def splicelaw25_squares.f (k : Nat) (l0 : List Int) : Option (Int) := splicelaw25_squares.l0 k l0 0 0
theorem splicelaw25_squares.mono_l : ∀ k, (∀ y0 y1 y2, LeO (splicelaw25_squares.l0 k y0 y1 y2) (splicelaw25_squares.l0 (k + 1) y0 y1 y2))
  | 0 => fun _ _ _ r h => by simp [splicelaw25_squares.l0] at h
  | k + 1 => by
    have ih0 := splicelaw25_squares.mono_l k
    · intro y0 y1 y2
      unfold splicelaw25_squares.l0
      repeat' first
      | (with_reducible exact ih0 _ _ _)
      | (with_reducible exact LeO.refl _)
      | (with_reducible exact LeO.none _)
      | (with_reducible refine LeO.ite ?_ ?_)
      | (with_reducible refine LeO.bind ?_ (fun _ => ?_))
      | exact ih0 _ _ _
      | exact LeO.none _
      | refine LeO.ite ?_ ?_
      | refine LeO.bind ?_ (fun _ => ?_)
theorem splicelaw25_squares.mono : ∀ a0 k, LeO (splicelaw25_squares.f k a0) (splicelaw25_squares.f (k + 1) a0) := by
  intro a0 k
  have ih0 := splicelaw25_squares.mono_l k
  unfold splicelaw25_squares.f
  repeat' first
      | (with_reducible exact ih0 _ _ _)
      | (with_reducible exact LeO.refl _)
      | (with_reducible exact LeO.none _)
      | (with_reducible refine LeO.ite ?_ ?_)
      | (with_reducible refine LeO.bind ?_ (fun _ => ?_))
      | exact ih0 _ _ _
      | exact LeO.none _
      | refine LeO.ite ?_ ?_
      | refine LeO.bind ?_ (fun _ => ?_)
set_option maxHeartbeats 8000000 in
set_option maxRecDepth 100000 in
theorem splicelaw25_squares.calls (k : Nat) (A0 : Option Addr) (c0 : Nat) (l0 : List Int) (r : Int) (w : World) (hr0 : Kd.C (Kd.int .i64) w A0 l0.length l0) (hc0 : l0.length ≤ c0) (h : splicelaw25_squares.f k l0 = some r) :
    Calls Try.prog 28 #[.slice A0 l0.length c0] w fun e w' => e = .returned (.int .i64 r) ∧ Drawn0 w w' := by
  have HR0 := Aside0.mk hr0
  have HC0 := Aside0.mk hc0
  clear hr0 hc0
  have H : (splicelaw25_squares.l0 k l0 0 0) = some r := h
  clear h
  have H' := Aside0.mk H
  clear H
  go_enter Try.func28, Try.ntmps28
  go_wp2
  repeat (go_quiet (fail); try go_wp2)
  go_loopg [3, 4] k (fun kq v3 v4 w' => ∃ (x3_1 : Int) (x4_1 : Int), v3 = .int .i64 x3_1 ∧ v4 = .int .i64 x4_1 ∧ Aside0 (splicelaw25_squares.l0 kq l0 x3_1 x4_1 = some r) ∧ Aside0 (kq ≤ k) ∧ Drawn0 w w')
  case atStart => exact ⟨(0), (0), (by first | rfl | (simp; done) | (simp [*]; done)), (by first | rfl | (simp; done) | (simp [*]; done)), H', ⟨Nat.le_refl _⟩, by repeat (first | exact Drawn0.refl _ | apply Drawn0.step)⟩
  case round =>
    clear H'
    obtain ⟨x3_1, x4_1, rfl, rfl, HA, HK1, ⟨m1, rfl⟩⟩ := hrel
    cases gk with
    | zero => exact absurd HA.out (by simp [splicelaw25_squares.l0])
    | succ k1 =>
      have H := HA.out
      clear HA
      simp only [splicelaw25_squares.l0] at H
      by_cases c2 : x4_1 < (l0.length : Int)
      · rw [if_pos c2] at H
        have c2b0 : decide (x4_1 < (l0.length : Int)) = true := decide_eq_true c2
        clear c2
        by_cases c3 : 0 ≤ x4_1
        · rw [if_pos c3] at H
          have c3b0 : decide (0 ≤ x4_1) = true := decide_eq_true c3
          clear c3
          have H' := Aside0.mk H
          clear H
          have p237 : 0 ≤ (x4_1 : Int) := of_decide_eq_true (by first | (with_reducible assumption) | assumption)
          have q237 : x4_1 < (l0.length : Int) := of_decide_eq_true (by first | (with_reducible assumption) | assumption)
          obtain ⟨ad237, e237, hx237_0⟩ := Kd.at_int HR0.out x4_1 p237 q237
          cases e237
          replace p237 := eq_true p237
          replace q237 := eq_true q237
          have p238 : 0 ≤ (x4_1 : Int) := of_decide_eq_true (by first | (with_reducible assumption) | assumption)
          have q238 : x4_1 < (l0.length : Int) := of_decide_eq_true (by first | (with_reducible assumption) | assumption)
          obtain ⟨ad238, e238, hx238_0⟩ := Kd.at_int HR0.out x4_1 p238 q238
          obtain rfl : ad237 = ad238 := (by injection e238)
          replace p238 := eq_true p238
          replace q238 := eq_true q238
          go_wp2
          repeat (go_quiet (fail); try go_wp2)
          go_roundg k1
          case measure => have := HK1.out; omega
          case rel => exact ⟨(wrap64 (x3_1 + (wrap64 ((rd l0 x4_1) * (rd l0 x4_1))))), (wrap64 (x4_1 + 1)), (by first | rfl | (simp; done) | (simp [*]; done)), (by first | rfl | (simp; done) | (simp [*]; done)), H', ⟨by have := HK1.out; omega⟩, by repeat (first | exact Drawn0.refl _ | apply Drawn0.step)⟩
        · rw [if_neg c3] at H
          exact absurd H (by simp)
      · rw [if_neg c2] at H
        have c2b0 : decide (x4_1 < (l0.length : Int)) = false := decide_eq_false c2
        clear c2
        obtain rfl := Option.some.inj H
        go_wp2
        repeat (go_quiet (fail); try go_wp2)
        go_ret
        exact ⟨by first | rfl | (simp; done) | (simp [*]; done), by repeat (first | exact Drawn0.refl _ | apply Drawn0.step)⟩

def wf65 (x : S65) : Prop := (Lit.int .i64 x.f0).wf = true ∧ (Lit.int .i64 x.f1).wf = true
theorem op65 : Go.Proofs.Yteclhjhnbolkmaa.Op.Op Try.prog k65 65 wf65 := op_mono (op_iso (op_struct Try.underlying65 (by kernel_rfl) (opfs_cons (op_int Try.underlying3 (by kernel_rfl)) rfl (opfs_last (op_int Try.underlying3 (by kernel_rfl)) rfl))) (fun x : S65 => (x.f0, x.f1)) (fun y => ⟨y.1, y.2⟩) (fun _ => rfl)) (fun _ h => h)

def wf67 (x : S67) : Prop := (Lit.int .i64 x.f0).wf = true ∧ wf65 x.f1 ∧ (Lit.int .i64 x.f2).wf = true
theorem op67 : Go.Proofs.Yteclhjhnbolkmaa.Op.Op Try.prog k67 67 wf67 := op_mono (op_iso (op_struct Try.underlying67 (by kernel_rfl) (opfs_cons (op_int Try.underlying3 (by kernel_rfl)) rfl (opfs_cons op65 rfl (opfs_last (op_int Try.underlying3 (by kernel_rfl)) rfl)))) (fun x : S67 => (x.f0, x.f1, x.f2)) (fun y => ⟨y.1, y.2.1, y.2.2⟩) (fun _ => rfl)) (fun _ h => h)

def wf24 (x : S24) : Prop := (Lit.int .i64 x.f0).wf = true ∧ (Lit.int .i64 x.f1).wf = true ∧ (x.f2.length * 32 ≤ 140737488351232 ∧ x.f2.length ≤ maxLen ∧ ∀ y0 ∈ x.f2, wf67 y0)
theorem op24 : Go.Proofs.Yteclhjhnbolkmaa.Op.Op Try.prog k24 24 wf24 := op_mono (op_iso (op_struct Try.underlying24 (by kernel_rfl) (opfs_cons (op_int Try.underlying3 (by kernel_rfl)) rfl (opfs_cons (op_int Try.underlying3 (by kernel_rfl)) rfl (opfs_last (op_slice Try.underlying22 (by kernel_rfl) (show Try.prog.bytesOf 67 = 32 by kernel_rfl) op67 (by decide)) rfl)))) (fun x : S24 => (x.f0, x.f1, x.f2)) (fun y => ⟨y.1, y.2.1, y.2.2⟩) (fun _ => rfl)) (fun _ h => h)

def wf70 (x : S70) : Prop := (Lit.int .i64 x.f0).wf = true ∧ (Lit.int .i64 x.f1).wf = true
theorem op70 : Go.Proofs.Yteclhjhnbolkmaa.Op.Op Try.prog k70 70 wf70 := op_mono (op_iso (op_struct Try.underlying70 (by kernel_rfl) (opfs_cons (op_int Try.underlying3 (by kernel_rfl)) rfl (opfs_last (op_int Try.underlying3 (by kernel_rfl)) rfl))) (fun x : S70 => (x.f0, x.f1)) (fun y => ⟨y.1, y.2⟩) (fun _ => rfl)) (fun _ h => h)

def wf27 (x : S27) : Prop := (Lit.int .i64 x.f0).wf = true ∧ (Lit.int .i64 x.f1).wf = true ∧ (Lit.int .i64 x.f2).wf = true
theorem op27 : Go.Proofs.Yteclhjhnbolkmaa.Op.Op Try.prog k27 27 wf27 := op_mono (op_iso (op_struct Try.underlying27 (by kernel_rfl) (opfs_cons (op_int Try.underlying3 (by kernel_rfl)) rfl (opfs_cons (op_int Try.underlying3 (by kernel_rfl)) rfl (opfs_last (op_int Try.underlying3 (by kernel_rfl)) rfl)))) (fun x : S27 => (x.f0, x.f1, x.f2)) (fun y => ⟨y.1, y.2.1, y.2.2⟩) (fun _ => rfl)) (fun _ h => h)

def wf29 (x : S29) : Prop := wf24 x.f0 ∧ (x.f1.length * 16 ≤ 140737488351232 ∧ x.f1.length ≤ maxLen ∧ ∀ y0 ∈ x.f1, wf70 y0) ∧ wf27 x.f2 ∧ (Lit.int .i64 x.f3).wf = true
theorem op29 : Go.Proofs.Yteclhjhnbolkmaa.Op.Op Try.prog k29 29 wf29 := op_mono (op_iso (op_struct Try.underlying29 (by kernel_rfl) (opfs_cons op24 rfl (opfs_cons (op_slice Try.underlying25 (by kernel_rfl) (show Try.prog.bytesOf 70 = 16 by kernel_rfl) op70 (by decide)) rfl (opfs_cons op27 rfl (opfs_last (op_int Try.underlying3 (by kernel_rfl)) rfl))))) (fun x : S29 => (x.f0, x.f1, x.f2, x.f3)) (fun y => ⟨y.1, y.2.1, y.2.2.1, y.2.2.2⟩) (fun _ => rfl)) (fun _ h => h)


end Go.Proofs.Yteclhjhnbolkmaa.PB
