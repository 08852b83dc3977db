-- written by a program of this session
import Derived.Test.YtbhlphadcphapaaPEx0
import Derived.Test.YtbhlphadcphapaaPEx1
import Derived.Test.YtbhlphadcphapaaPEx3
import Derived.Test.YtbhlphadcphapaaPEx5
import Derived.Test.YtbhlphadcphapaaPEx7
import Derived.Test.YtbhlphadcphapaaPEx8
namespace Go.Proofs.Ytbhlphadcphapaa.PE
open Go.RowKit Go.Proofs.Ytbhlphadcphapaa.Op Go.Proofs.YtbhlphadcphapaaW.PrintWords Go.Proofs.YtbhlphadcphapaaW.PrintLast Go.Proofs.YtbhlphadcphapaaW.PrintMore
attribute [local go_sem] max2_int min2_int max_two min_two max_three min_three max_four min_four   -- for this text's walks alone
set_option linter.unusedVariables false
set_option linter.unusedSimpArgs false

attribute [local go_sem high] eqA57
/-! ### spliceref03_Has: function 35 -/
def spliceref03_Has.l0 : Nat → List (S80) → Int → Int → Option (Bool)
  | 0, _, _, _ => none
  | k + 1, x0, x1, x5 => if x5 < (x0.length : Int) then (if 0 ≤ x5 then ((spliceref03_One.f ((rd_T80 x0 x5).f0) ((rd_T80 x0 x5).f1)).bind fun t207 => (if t207 = true then (if x1 ≥ ((rd_T80 x0 x5).f0) then (if x1 < ((rd_T80 x0 x5).f1) then (some true) else (spliceref03_Has.l0 k x0 x1 (wrap64 (x5 + 1)))) else (spliceref03_Has.l0 k x0 x1 (wrap64 (x5 + 1)))) else (spliceref03_Has.l0 k x0 x1 (wrap64 (x5 + 1))))) else (none)) else (some false)
def spliceref03_Has.f (k : Nat) (l0 : List (S80)) (a1 : Int) : Option (Bool) := spliceref03_Has.l0 k l0 a1 0
theorem spliceref03_Has.mono_l : ∀ k, (∀ y0 y1 y2, LeO (spliceref03_Has.l0 k y0 y1 y2) (spliceref03_Has.l0 (k + 1) y0 y1 y2))
  | 0 => fun _ _ _ r h => by simp [spliceref03_Has.l0] at h
  | k + 1 => by
    have ih0 := spliceref03_Has.mono_l k
    · intro y0 y1 y2
      unfold spliceref03_Has.l0
      repeat' first
      | (with_reducible exact ih0 _ _ _)
      | (with_reducible exact LeO.refl _)
      | (with_reducible exact LeO.none _)
      | (with_reducible refine LeO.ite ?_ ?_)
      | (with_reducible refine LeO.bind ?_ (fun _ => ?_))
      | exact ih0 _ _ _
      | exact LeO.none _
      | refine LeO.ite ?_ ?_
      | refine LeO.bind ?_ (fun _ => ?_)
theorem spliceref03_Has.mono : ∀ a0 a1 k, LeO (spliceref03_Has.f k a0 a1) (spliceref03_Has.f (k + 1) a0 a1) := by
  intro a0 a1 k
  have ih0 := spliceref03_Has.mono_l k
  unfold spliceref03_Has.f
  repeat' first
      | (with_reducible exact ih0 _ _ _)
      | (with_reducible exact LeO.refl _)
      | (with_reducible exact LeO.none _)
      | (with_reducible refine LeO.ite ?_ ?_)
      | (with_reducible refine LeO.bind ?_ (fun _ => ?_))
      | exact ih0 _ _ _
      | exact LeO.none _
      | refine LeO.ite ?_ ?_
      | refine LeO.bind ?_ (fun _ => ?_)
set_option maxHeartbeats 8000000 in
set_option maxRecDepth 100000 in
theorem spliceref03_Has.calls (k : Nat) (A0 : Option Addr) (c0 : Nat) (l0 : List (S80)) (a1 : Int) (r : Bool) (w : World) (hr0 : Kd.C k80 w A0 l0.length l0) (hc0 : l0.length ≤ c0) (h : spliceref03_Has.f k l0 a1 = some r) :
    Calls Try.prog 35 #[.slice A0 l0.length c0, .int .i64 a1] w fun e w' => e = .returned (.bool r) ∧ Below w.heap.size w w' := by
  have hu80 := Try.underlying80
  have HR0 := Aside0.mk hr0
  have HC0 := Aside0.mk hc0
  clear hr0 hc0
  have HB := Aside0.mk (Below.refl w.heap.size w)
  have H : (spliceref03_Has.l0 k l0 a1 0) = some r := h
  clear h
  have H' := Aside0.mk H
  clear H
  go_enter Try.func35, Try.ntmps35
  go_wp2
  go_loopg [5] k (fun kq v5 w' => ∃ (x5_1 : Int), v5 = .int .i64 x5_1 ∧ Aside0 (spliceref03_Has.l0 kq l0 a1 x5_1 = some r) ∧ Aside0 (kq ≤ k) ∧ Aside0 (Below w.heap.size w w'))
  case atStart => exact ⟨(0), (by first | rfl | (simp; done) | (simp [*]; done)), H', ⟨Nat.le_refl _⟩, ⟨by repeat (first | (with_reducible first | exact HB.out | apply below_alloc | apply pw_below_drewN | apply below_drew1) | exact HB.out)⟩⟩
  case round =>
    clear H'
    try clear p2
    obtain ⟨x5_1, rfl, HA, HK1, HB⟩ := hrel
    cases gk with
    | zero => exact absurd HA.out (by simp [spliceref03_Has.l0])
    | succ k1 =>
      have H := HA.out
      clear HA
      simp only [spliceref03_Has.l0] at H
      by_cases c3 : x5_1 < (l0.length : Int)
      · rw [if_pos c3] at H
        have c3b0 : decide (x5_1 < (l0.length : Int)) = true := decide_eq_true c3
        clear c3
        by_cases c4 : 0 ≤ x5_1
        · rw [if_pos c4] at H
          have c4b0 : decide (0 ≤ x5_1) = true := decide_eq_true c4
          clear c4
          replace H := Option.bind_eq_some_iff.mp H
          obtain ⟨t207, A50, H⟩ := H
          replace H : (if t207 = true then (if a1 ≥ ((rd_T80 l0 x5_1).f0) then (if a1 < ((rd_T80 l0 x5_1).f1) then (some true) else (spliceref03_Has.l0 k1 l0 a1 (wrap64 (x5_1 + 1)))) else (spliceref03_Has.l0 k1 l0 a1 (wrap64 (x5_1 + 1)))) else (spliceref03_Has.l0 k1 l0 a1 (wrap64 (x5_1 + 1)))) = some r := H
          have A5 := Aside0.mk A50
          clear A50
          by_cases c6 : t207 = true
          · subst c6
            have H1 : (if a1 ≥ ((rd_T80 l0 x5_1).f0) then (if a1 < ((rd_T80 l0 x5_1).f1) then (some true) else (spliceref03_Has.l0 k1 l0 a1 (wrap64 (x5_1 + 1)))) else (spliceref03_Has.l0 k1 l0 a1 (wrap64 (x5_1 + 1)))) = some r := by rw [if_pos rfl] at H; exact H
            clear H
            have H := H1
            clear H1
            by_cases c7 : a1 ≥ ((rd_T80 l0 x5_1).f0)
            · rw [if_pos c7] at H
              have c7b0 : decide (((rd_T80 l0 x5_1).f0) ≤ a1) = true := decide_eq_true c7
              clear c7
              by_cases c8 : a1 < ((rd_T80 l0 x5_1).f1)
              · rw [if_pos c8] at H
                have c8b0 : decide (a1 < ((rd_T80 l0 x5_1).f1)) = true := decide_eq_true c8
                clear c8
                obtain rfl := Option.some.inj H
                have p206 : 0 ≤ (x5_1 : Int) := of_decide_eq_true (by first | (with_reducible assumption) | assumption)
                have q206 : x5_1 < (l0.length : Int) := of_decide_eq_true (by first | (with_reducible assumption) | assumption)
                obtain ⟨ad206, e206, hx206_0, hx206_1⟩ := at_T80 HR0.out x5_1 p206 q206
                cases e206
                replace hx206_0 := (HB.out.cell (World.block_lt_of_cell? w _ hx206_0)).trans hx206_0
                replace hx206_1 := (HB.out.cell (World.block_lt_of_cell? w _ hx206_1)).trans hx206_1
                replace p206 := eq_true p206
                replace q206 := eq_true q206
                go_wp2_with (first | ((with_reducible refine gate_callee (f := 48) rfl ?_); refine goesL_ (some 16) rfl rfl Try.func48 (by kernel_rfl) rfl #[.agg #[.int .i64 ((rd_T80 l0 x5_1).f0), .int .i64 ((rd_T80 l0 x5_1).f1)]] rfl (by (try simp only [List.map_toArray, List.map_cons, List.map_nil]); first | done | rfl | (simp only [List.length_drop, List.length_take]; rfl)) ?_; (with_reducible refine (spliceref03_One.calls ((rd_T80 l0 x5_1).f0) ((rd_T80 l0 x5_1).f1) true _ A5.out).mono ?_); rintro e w9 ⟨rfl, hb⟩; refine ⟨_, rfl, ?_⟩; have n0_ := Aside0.mk (below_step (by repeat (first | (with_reducible first | exact HB.out | apply below_alloc | apply pw_below_drewN | apply below_drew1) | exact HB.out)) hb); clear HB; have HB := n0_; clear n0_; (try clear hb); (try clear hb2); (try clear hk); (try clear hi); have p208 : 0 ≤ (x5_1 : Int) := of_decide_eq_true (by first | (with_reducible assumption) | assumption); have q208 : x5_1 < (l0.length : Int) := of_decide_eq_true (by first | (with_reducible assumption) | assumption); obtain ⟨ad208, e208, hx208_0, hx208_1⟩ := at_T80 HR0.out x5_1 p208 q208; obtain rfl : ad206 = ad208 := (by injection e208); replace hx208_0 := (HB.out.cell (World.block_lt_of_cell? w _ hx208_0)).trans hx208_0; replace hx208_1 := (HB.out.cell (World.block_lt_of_cell? w _ hx208_1)).trans hx208_1; replace p208 := eq_true p208; replace q208 := eq_true q208; have p209 : 0 ≤ (x5_1 : Int) := of_decide_eq_true (by first | (with_reducible assumption) | assumption); have q209 : x5_1 < (l0.length : Int) := of_decide_eq_true (by first | (with_reducible assumption) | assumption); obtain ⟨ad209, e209, hx209_0, hx209_1⟩ := at_T80 HR0.out x5_1 p209 q209; obtain rfl : ad206 = ad209 := (by injection e209); replace hx209_0 := (HB.out.cell (World.block_lt_of_cell? w _ hx209_0)).trans hx209_0; replace hx209_1 := (HB.out.cell (World.block_lt_of_cell? w _ hx209_1)).trans hx209_1; replace p209 := eq_true p209; replace q209 := eq_true q209))
                go_ret
                exact ⟨by first | rfl | (simp [errW_none, errW_some] <;> rfl) | (simp [*, errW_none, errW_some] <;> rfl), by repeat (first | (with_reducible first | exact HB.out | apply below_alloc | apply pw_below_drewN | apply below_drew1) | exact HB.out)⟩
              · rw [if_neg c8] at H
                have c8b0 : decide (a1 < ((rd_T80 l0 x5_1).f1)) = false := decide_eq_false c8
                clear c8
                have H' := Aside0.mk H
                clear H
                have p206 : 0 ≤ (x5_1 : Int) := of_decide_eq_true (by first | (with_reducible assumption) | assumption)
                have q206 : x5_1 < (l0.length : Int) := of_decide_eq_true (by first | (with_reducible assumption) | assumption)
                obtain ⟨ad206, e206, hx206_0, hx206_1⟩ := at_T80 HR0.out x5_1 p206 q206
                cases e206
                replace hx206_0 := (HB.out.cell (World.block_lt_of_cell? w _ hx206_0)).trans hx206_0
                replace hx206_1 := (HB.out.cell (World.block_lt_of_cell? w _ hx206_1)).trans hx206_1
                replace p206 := eq_true p206
                replace q206 := eq_true q206
                go_wp2_with (first | ((with_reducible refine gate_callee (f := 48) rfl ?_); refine goesL_ (some 16) rfl rfl Try.func48 (by kernel_rfl) rfl #[.agg #[.int .i64 ((rd_T80 l0 x5_1).f0), .int .i64 ((rd_T80 l0 x5_1).f1)]] rfl (by (try simp only [List.map_toArray, List.map_cons, List.map_nil]); first | done | rfl | (simp only [List.length_drop, List.length_take]; rfl)) ?_; (with_reducible refine (spliceref03_One.calls ((rd_T80 l0 x5_1).f0) ((rd_T80 l0 x5_1).f1) true _ A5.out).mono ?_); rintro e w10 ⟨rfl, hb⟩; refine ⟨_, rfl, ?_⟩; have n0_ := Aside0.mk (below_step (by repeat (first | (with_reducible first | exact HB.out | apply below_alloc | apply pw_below_drewN | apply below_drew1) | exact HB.out)) hb); clear HB; have HB := n0_; clear n0_; (try clear hb); (try clear hb2); (try clear hk); (try clear hi); have p208 : 0 ≤ (x5_1 : Int) := of_decide_eq_true (by first | (with_reducible assumption) | assumption); have q208 : x5_1 < (l0.length : Int) := of_decide_eq_true (by first | (with_reducible assumption) | assumption); obtain ⟨ad208, e208, hx208_0, hx208_1⟩ := at_T80 HR0.out x5_1 p208 q208; obtain rfl : ad206 = ad208 := (by injection e208); replace hx208_0 := (HB.out.cell (World.block_lt_of_cell? w _ hx208_0)).trans hx208_0; replace hx208_1 := (HB.out.cell (World.block_lt_of_cell? w _ hx208_1)).trans hx208_1; replace p208 := eq_true p208; replace q208 := eq_true q208; have p209 : 0 ≤ (x5_1 : Int) := of_decide_eq_true (by first | (with_reducible assumption) | assumption); have q209 : x5_1 < (l0.length : Int) := of_decide_eq_true (by first | (with_reducible assumption) | assumption); obtain ⟨ad209, e209, hx209_0, hx209_1⟩ := at_T80 HR0.out x5_1 p209 q209; obtain rfl : ad206 = ad209 := (by injection e209); replace hx209_0 := (HB.out.cell (World.block_lt_of_cell? w _ hx209_0)).trans hx209_0; replace hx209_1 := (HB.out.cell (World.block_lt_of_cell? w _ hx209_1)).trans hx209_1; replace p209 := eq_true p209; replace q209 := eq_true q209))
                go_roundg k1
                case measure => have := HK1.out; omega
                case rel => exact ⟨(wrap64 (x5_1 + 1)), (by first | rfl | (simp; done) | (simp [*]; done)), H', ⟨by have := HK1.out; omega⟩, ⟨by repeat (first | (with_reducible first | exact HB.out | apply below_alloc | apply pw_below_drewN | apply below_drew1) | exact HB.out)⟩⟩
            · rw [if_neg c7] at H
              have c7b0 : decide (((rd_T80 l0 x5_1).f0) ≤ a1) = false := decide_eq_false c7
              clear c7
              have H' := Aside0.mk H
              clear H
              have p206 : 0 ≤ (x5_1 : Int) := of_decide_eq_true (by first | (with_reducible assumption) | assumption)
              have q206 : x5_1 < (l0.length : Int) := of_decide_eq_true (by first | (with_reducible assumption) | assumption)
              obtain ⟨ad206, e206, hx206_0, hx206_1⟩ := at_T80 HR0.out x5_1 p206 q206
              cases e206
              replace hx206_0 := (HB.out.cell (World.block_lt_of_cell? w _ hx206_0)).trans hx206_0
              replace hx206_1 := (HB.out.cell (World.block_lt_of_cell? w _ hx206_1)).trans hx206_1
              replace p206 := eq_true p206
              replace q206 := eq_true q206
              go_wp2_with (first | ((with_reducible refine gate_callee (f := 48) rfl ?_); refine goesL_ (some 16) rfl rfl Try.func48 (by kernel_rfl) rfl #[.agg #[.int .i64 ((rd_T80 l0 x5_1).f0), .int .i64 ((rd_T80 l0 x5_1).f1)]] rfl (by (try simp only [List.map_toArray, List.map_cons, List.map_nil]); first | done | rfl | (simp only [List.length_drop, List.length_take]; rfl)) ?_; (with_reducible refine (spliceref03_One.calls ((rd_T80 l0 x5_1).f0) ((rd_T80 l0 x5_1).f1) true _ A5.out).mono ?_); rintro e w11 ⟨rfl, hb⟩; refine ⟨_, rfl, ?_⟩; have n0_ := Aside0.mk (below_step (by repeat (first | (with_reducible first | exact HB.out | apply below_alloc | apply pw_below_drewN | apply below_drew1) | exact HB.out)) hb); clear HB; have HB := n0_; clear n0_; (try clear hb); (try clear hb2); (try clear hk); (try clear hi); have p208 : 0 ≤ (x5_1 : Int) := of_decide_eq_true (by first | (with_reducible assumption) | assumption); have q208 : x5_1 < (l0.length : Int) := of_decide_eq_true (by first | (with_reducible assumption) | assumption); obtain ⟨ad208, e208, hx208_0, hx208_1⟩ := at_T80 HR0.out x5_1 p208 q208; obtain rfl : ad206 = ad208 := (by injection e208); replace hx208_0 := (HB.out.cell (World.block_lt_of_cell? w _ hx208_0)).trans hx208_0; replace hx208_1 := (HB.out.cell (World.block_lt_of_cell? w _ hx208_1)).trans hx208_1; replace p208 := eq_true p208; replace q208 := eq_true q208))
              go_roundg k1
              case measure => have := HK1.out; omega
              case rel => exact ⟨(wrap64 (x5_1 + 1)), (by first | rfl | (simp; done) | (simp [*]; done)), H', ⟨by have := HK1.out; omega⟩, ⟨by repeat (first | (with_reducible first | exact HB.out | apply below_alloc | apply pw_below_drewN | apply below_drew1) | exact HB.out)⟩⟩
          · replace c6 := Bool.eq_false_iff.mpr c6
            subst c6
            have H1 : (spliceref03_Has.l0 k1 l0 a1 (wrap64 (x5_1 + 1))) = some r := by rw [if_neg (show ¬ (false = true) by decide)] at H; exact H
            clear H
            have H := H1
            clear H1
            have H' := Aside0.mk H
            clear H
            have p206 : 0 ≤ (x5_1 : Int) := of_decide_eq_true (by first | (with_reducible assumption) | assumption)
            have q206 : x5_1 < (l0.length : Int) := of_decide_eq_true (by first | (with_reducible assumption) | assumption)
            obtain ⟨ad206, e206, hx206_0, hx206_1⟩ := at_T80 HR0.out x5_1 p206 q206
            cases e206
            replace hx206_0 := (HB.out.cell (World.block_lt_of_cell? w _ hx206_0)).trans hx206_0
            replace hx206_1 := (HB.out.cell (World.block_lt_of_cell? w _ hx206_1)).trans hx206_1
            replace p206 := eq_true p206
            replace q206 := eq_true q206
            go_wp2_with (first | ((with_reducible refine gate_callee (f := 48) rfl ?_); refine goesL_ (some 16) rfl rfl Try.func48 (by kernel_rfl) rfl #[.agg #[.int .i64 ((rd_T80 l0 x5_1).f0), .int .i64 ((rd_T80 l0 x5_1).f1)]] rfl (by (try simp only [List.map_toArray, List.map_cons, List.map_nil]); first | done | rfl | (simp only [List.length_drop, List.length_take]; rfl)) ?_; (with_reducible refine (spliceref03_One.calls ((rd_T80 l0 x5_1).f0) ((rd_T80 l0 x5_1).f1) false _ A5.out).mono ?_); rintro e w12 ⟨rfl, hb⟩; refine ⟨_, rfl, ?_⟩; have n0_ := Aside0.mk (below_step (by repeat (first | (with_reducible first | exact HB.out | apply below_alloc | apply pw_below_drewN | apply below_drew1) | exact HB.out)) hb); clear HB; have HB := n0_; clear n0_; (try clear hb); (try clear hb2); (try clear hk); (try clear hi)))
            go_roundg k1
            case measure => have := HK1.out; omega
            case rel => exact ⟨(wrap64 (x5_1 + 1)), (by first | rfl | (simp; done) | (simp [*]; done)), H', ⟨by have := HK1.out; omega⟩, ⟨by repeat (first | (with_reducible first | exact HB.out | apply below_alloc | apply pw_below_drewN | apply below_drew1) | exact HB.out)⟩⟩
        · rw [if_neg c4] at H
          exact absurd H (by simp)
      · rw [if_neg c3] at H
        have c3b0 : decide (x5_1 < (l0.length : Int)) = false := decide_eq_false c3
        clear c3
        obtain rfl := Option.some.inj H
        go_wp2
        go_ret
        exact ⟨by first | rfl | (simp [errW_none, errW_some] <;> rfl) | (simp [*, errW_none, errW_some] <;> rfl), by repeat (first | (with_reducible first | exact HB.out | apply below_alloc | apply pw_below_drewN | apply below_drew1) | exact HB.out)⟩

def wf55 (x : S55) : Prop := (Lit.int .i64 x.f0).wf = true ∧ (Lit.int .i64 x.f1).wf = true
theorem op55 : Go.Proofs.Ytbhlphadcphapaa.Op.Op Try.prog k55 55 wf55 := op_mono (op_iso (op_struct Try.underlying55 (by kernel_rfl) (opfs_cons (op_int Try.underlying3 (by kernel_rfl)) rfl (opfs_last (op_int Try.underlying3 (by kernel_rfl)) rfl))) (fun x : S55 => (x.f0, x.f1)) (fun y => ⟨y.1, y.2⟩) (fun _ => rfl)) (fun _ h => h)

def wf57 (x : S57) : Prop := (Lit.int .i64 x.f0).wf = true ∧ wf55 x.f1 ∧ (Lit.int .i64 x.f2).wf = true
theorem op57 : Go.Proofs.Ytbhlphadcphapaa.Op.Op Try.prog k57 57 wf57 := op_mono (op_iso (op_struct Try.underlying57 (by kernel_rfl) (opfs_cons (op_int Try.underlying3 (by kernel_rfl)) rfl (opfs_cons op55 rfl (opfs_last (op_int Try.underlying3 (by kernel_rfl)) rfl)))) (fun x : S57 => (x.f0, x.f1, x.f2)) (fun y => ⟨y.1, y.2.1, y.2.2⟩) (fun _ => rfl)) (fun _ h => h)

def wf24 (x : S24) : Prop := (Lit.int .i64 x.f0).wf = true ∧ (Lit.int .i64 x.f1).wf = true ∧ (x.f2.length * 32 ≤ 140737488351232 ∧ x.f2.length ≤ maxLen ∧ ∀ y0 ∈ x.f2, wf57 y0)
theorem op24 : Go.Proofs.Ytbhlphadcphapaa.Op.Op Try.prog k24 24 wf24 := op_mono (op_iso (op_struct Try.underlying24 (by kernel_rfl) (opfs_cons (op_int Try.underlying3 (by kernel_rfl)) rfl (opfs_cons (op_int Try.underlying3 (by kernel_rfl)) rfl (opfs_last (op_slice Try.underlying22 (by kernel_rfl) (show Try.prog.bytesOf 57 = 32 by kernel_rfl) op57 (by decide)) rfl)))) (fun x : S24 => (x.f0, x.f1, x.f2)) (fun y => ⟨y.1, y.2.1, y.2.2⟩) (fun _ => rfl)) (fun _ h => h)


/-! ### splicelaw08_ChartSets: function 9 -/
theorem sz1_9 {α : Type _} {l : List α} {i : Nat} {a : α} : l.toArray.setIfInBounds i a = (l.set i a).toArray := List.setIfInBounds_toArray l i a
theorem sz2_9 {α : Type _} {a b : α} {l : List α} : (a :: l).set 0 b = b :: l := List.set_cons_zero
theorem sz3_9 {α : Type _} {a b : α} {l : List α} {n : Nat} : (a :: l).set (n + 1) b = a :: l.set n b := List.set_cons_succ
def bA_9 (n m : Nat) : Array Bool := ((List.range n).map (fun i => m.testBit i)).toArray
theorem far4_9 {w : World} {q : Addr} {g i0 i1 i2 i3 : Nat} {a b c d : Value} {v : Option Value} (h : q.block ≠ g) (e : w.cell? q = v) : ((((w.setCell ⟨g, i0, none⟩ a).setCell ⟨g, i1, none⟩ b).setCell ⟨g, i2, none⟩ c).setCell ⟨g, i3, none⟩ d).cell? q = v :=
  (cell_far (p := ⟨g, i3, none⟩) h d).trans ((cell_far (p := ⟨g, i2, none⟩) h c).trans ((cell_far (p := ⟨g, i1, none⟩) h b).trans ((cell_far (p := ⟨g, i0, none⟩) h a).trans e)))
mutual
def splicelaw08_ChartSets.j0 : Nat → List (S55) → Int → Bool → Int → Int → List (S57) → Option (Bool)
  | 0, _, _, _, _, _, _ => none
  | k + 1, x1, x2, x37, x211000, x211001, x211002 => if x37 = true then ((splicelaw08_awake.f k).bind fun t217 => (some t217)) else ((chart_Owners.f k x211000 x211001 x211002 x1).bind fun t218 => (splicelaw08_ChartSets.l0 k x1 x2 t218 0 x211000 x211001 x211002))
def splicelaw08_ChartSets.l0 : Nat → List (S55) → Int → List Int → Int → Int → Int → List (S57) → Option (Bool)
  | 0, _, _, _, _, _, _, _ => none
  | k + 1, x1, x2, x7, x8, x211000, x211001, x211002 => if x8 < (x7.length : Int) then (if 0 ≤ x8 then ((chart_Find.f k x211000 x211001 x211002 (rd x7 x8)).bind fun bt222 => (splicelaw08_ChartSets.l1 k x1 x2 x7 x8 bt222.2.2.2.2 false 0 x211000 x211001 x211002 bt222.1 bt222.2.1 bt222.2.2.1 bt222.2.2.2.1)) else (none)) else ((chart_Owner.f k x211000 x211001 x211002 x2).bind fun bt237 => (if bt237.2.2.2.2 = true then ((splicelaw03_Refs.f k x1).bind fun t243 => ((spliceref03_Has.f k t243 x2).bind fun t246 => (splicelaw08_ChartSets.j3 k x7 (!t246) bt237.1 bt237.2.1 bt237.2.2.1 bt237.2.2.2.1))) else (splicelaw08_ChartSets.j3 k x7 true bt237.1 bt237.2.1 bt237.2.2.1 bt237.2.2.2.1)))
def splicelaw08_ChartSets.l1 : Nat → List (S55) → Int → List Int → Int → Bool → Bool → Int → Int → Int → List (S57) → Int → Int → Int → Int → Option (Bool)
  | 0, _, _, _, _, _, _, _, _, _, _, _, _, _, _ => none
  | k + 1, x1, x2, x7, x8, x10, x11, x12, x211000, x211001, x211002, x228000, x228001, x228002, x228003 => if x12 < (x1.length : Int) then (if 0 ≤ x12 then ((chart_Owner.f k x211000 x211001 x211002 (mx ((rd_T55 x1 x12).f0) x228001)).bind fun bt229 => (if x11 = true then (splicelaw08_ChartSets.l1 k x1 x2 x7 x8 x10 true (wrap64 (x12 + 1)) x211000 x211001 x211002 x228000 x228001 x228002 x228003) else (if bt229.2.2.2.2 = true then (if (bt229.1 == x228000 && ((bt229.2.1 == x228001 && (bt229.2.2.1 == x228002)) && (bt229.2.2.2.1 == x228003))) = true then (splicelaw08_ChartSets.l1 k x1 x2 x7 x8 x10 (decide ((mx ((rd_T55 x1 x12).f0) x228001) < ((rd_T55 x1 x12).f1))) (wrap64 (x12 + 1)) x211000 x211001 x211002 x228000 x228001 x228002 x228003) else (splicelaw08_ChartSets.l1 k x1 x2 x7 x8 x10 false (wrap64 (x12 + 1)) x211000 x211001 x211002 x228000 x228001 x228002 x228003)) else (splicelaw08_ChartSets.l1 k x1 x2 x7 x8 x10 false (wrap64 (x12 + 1)) x211000 x211001 x211002 x228000 x228001 x228002 x228003)))) else (none)) else (if x10 = true then (if x11 = true then (splicelaw08_ChartSets.l0 k x1 x2 x7 (wrap64 (x8 + 1)) x211000 x211001 x211002) else (some false)) else (some false))
def splicelaw08_ChartSets.j3 : Nat → List Int → Bool → Int → Int → Int → Int → Option (Bool)
  | 0, _, _, _, _, _, _ => none
  | k + 1, x7, x123, x243000, x243001, x243002, x243003 => if x123 = true then ((splicelaw08_awake.f k).bind fun t247 => (some t247)) else (splicelaw08_ChartSets.l2 k x7 false 0 x243000 x243001 x243002 x243003)
def splicelaw08_ChartSets.l2 : Nat → List Int → Bool → Int → Int → Int → Int → Int → Option (Bool)
  | 0, _, _, _, _, _, _, _ => none
  | k + 1, x7, x17, x18, x243000, x243001, x243002, x243003 => if x18 < (x7.length : Int) then (if x17 = true then (splicelaw08_ChartSets.l2 k x7 true (wrap64 (x18 + 1)) x243000 x243001 x243002 x243003) else (if 0 ≤ x18 then (splicelaw08_ChartSets.l2 k x7 ((rd x7 x18) == x243000) (wrap64 (x18 + 1)) x243000 x243001 x243002 x243003) else (none))) else ((splicelaw08_awake.f k).bind fun t249 => (if t249 = true then (some x17) else (some false)))
end
def splicelaw08_ChartSets.f (k : Nat) (a0_0 : Int) (a0_1 : Int) (l0_2 : List (S57)) (l1 : List (S55)) (a2 : Int) : Option (Bool) := (splicelaw08_few.f a0_0 a0_1 l0_2).bind fun t211 => (if t211 = true then (if (l1.length : Int) > 100 then (splicelaw08_ChartSets.j0 k l1 a2 true a0_0 a0_1 l0_2) else ((chart_Check.f k a0_0 a0_1 l0_2).bind fun t212 => (if t212 = true then ((splicelaw03_Refs.f k l1).bind fun t213 => ((spliceref03_Check.f k t213).bind fun t216 => (splicelaw08_ChartSets.j0 k l1 a2 (!t216) a0_0 a0_1 l0_2))) else (splicelaw08_ChartSets.j0 k l1 a2 true a0_0 a0_1 l0_2)))) else (splicelaw08_ChartSets.j0 k l1 a2 true a0_0 a0_1 l0_2))
theorem splicelaw08_ChartSets.mono_l : ∀ k, (∀ y0 y1 y2 y3 y4 y5, LeO (splicelaw08_ChartSets.j0 k y0 y1 y2 y3 y4 y5) (splicelaw08_ChartSets.j0 (k + 1) y0 y1 y2 y3 y4 y5)) ∧ (∀ y0 y1 y2 y3 y4 y5 y6, LeO (splicelaw08_ChartSets.l0 k y0 y1 y2 y3 y4 y5 y6) (splicelaw08_ChartSets.l0 (k + 1) y0 y1 y2 y3 y4 y5 y6)) ∧ (∀ y0 y1 y2 y3 y4 y5 y6 y7 y8 y9 y10 y11 y12 y13, LeO (splicelaw08_ChartSets.l1 k y0 y1 y2 y3 y4 y5 y6 y7 y8 y9 y10 y11 y12 y13) (splicelaw08_ChartSets.l1 (k + 1) y0 y1 y2 y3 y4 y5 y6 y7 y8 y9 y10 y11 y12 y13)) ∧ (∀ y0 y1 y2 y3 y4 y5, LeO (splicelaw08_ChartSets.j3 k y0 y1 y2 y3 y4 y5) (splicelaw08_ChartSets.j3 (k + 1) y0 y1 y2 y3 y4 y5)) ∧ (∀ y0 y1 y2 y3 y4 y5 y6, LeO (splicelaw08_ChartSets.l2 k y0 y1 y2 y3 y4 y5 y6) (splicelaw08_ChartSets.l2 (k + 1) y0 y1 y2 y3 y4 y5 y6))
  | 0 => ⟨fun _ _ _ _ _ _ r h => by simp [splicelaw08_ChartSets.j0] at h, fun _ _ _ _ _ _ _ r h => by simp [splicelaw08_ChartSets.l0] at h, fun _ _ _ _ _ _ _ _ _ _ _ _ _ _ r h => by simp [splicelaw08_ChartSets.l1] at h, fun _ _ _ _ _ _ r h => by simp [splicelaw08_ChartSets.j3] at h, fun _ _ _ _ _ _ _ r h => by simp [splicelaw08_ChartSets.l2] at h⟩
  | k + 1 => by
    obtain ⟨ih0, ih1, ih2, ih3, ih4⟩ := splicelaw08_ChartSets.mono_l k
    refine ⟨?_, ?_, ?_, ?_, ?_⟩
    · intro y0 y1 y2 y3 y4 y5
      unfold splicelaw08_ChartSets.j0
      repeat' first
      | (with_reducible exact ih0 _ _ _ _ _ _)
      | (with_reducible exact ih1 _ _ _ _ _ _ _)
      | (with_reducible exact ih2 _ _ _ _ _ _ _ _ _ _ _ _ _ _)
      | (with_reducible exact ih3 _ _ _ _ _ _)
      | (with_reducible exact ih4 _ _ _ _ _ _ _)
      | (with_reducible exact chart_Check.mono _ _ _ _)
      | (with_reducible exact chart_Find.mono _ _ _ _ _)
      | (with_reducible exact chart_Owner.mono _ _ _ _ _)
      | (with_reducible exact chart_Owners.mono _ _ _ _ _)
      | (with_reducible exact splicelaw03_Refs.mono _ _)
      | (with_reducible exact splicelaw08_awake.mono _)
      | (with_reducible exact spliceref03_Check.mono _ _)
      | (with_reducible exact spliceref03_Has.mono _ _ _)
      | (with_reducible exact LeO.refl _)
      | (with_reducible exact LeO.none _)
      | (with_reducible refine LeO.ite ?_ ?_)
      | (with_reducible refine LeO.bind ?_ (fun _ => ?_))
      | exact ih0 _ _ _ _ _ _
      | exact ih1 _ _ _ _ _ _ _
      | exact ih2 _ _ _ _ _ _ _ _ _ _ _ _ _ _
      | exact ih3 _ _ _ _ _ _
      | exact ih4 _ _ _ _ _ _ _
      | exact chart_Check.mono _ _ _ _
      | exact chart_Find.mono _ _ _ _ _
      | exact chart_Owner.mono _ _ _ _ _
      | exact chart_Owners.mono _ _ _ _ _
      | exact splicelaw03_Refs.mono _ _
      | exact splicelaw08_awake.mono _
      | exact spliceref03_Check.mono _ _
      | exact spliceref03_Has.mono _ _ _
      | exact LeO.none _
      | refine LeO.ite ?_ ?_
      | refine LeO.bind ?_ (fun _ => ?_)
    · intro y0 y1 y2 y3 y4 y5 y6
      unfold splicelaw08_ChartSets.l0
      repeat' first
      | (with_reducible exact ih0 _ _ _ _ _ _)
      | (with_reducible exact ih1 _ _ _ _ _ _ _)
      | (with_reducible exact ih2 _ _ _ _ _ _ _ _ _ _ _ _ _ _)
      | (with_reducible exact ih3 _ _ _ _ _ _)
      | (with_reducible exact ih4 _ _ _ _ _ _ _)
      | (with_reducible exact chart_Check.mono _ _ _ _)
      | (with_reducible exact chart_Find.mono _ _ _ _ _)
      | (with_reducible exact chart_Owner.mono _ _ _ _ _)
      | (with_reducible exact chart_Owners.mono _ _ _ _ _)
      | (with_reducible exact splicelaw03_Refs.mono _ _)
      | (with_reducible exact splicelaw08_awake.mono _)
      | (with_reducible exact spliceref03_Check.mono _ _)
      | (with_reducible exact spliceref03_Has.mono _ _ _)
      | (with_reducible exact LeO.refl _)
      | (with_reducible exact LeO.none _)
      | (with_reducible refine LeO.ite ?_ ?_)
      | (with_reducible refine LeO.bind ?_ (fun _ => ?_))
      | exact ih0 _ _ _ _ _ _
      | exact ih1 _ _ _ _ _ _ _
      | exact ih2 _ _ _ _ _ _ _ _ _ _ _ _ _ _
      | exact ih3 _ _ _ _ _ _
      | exact ih4 _ _ _ _ _ _ _
      | exact chart_Check.mono _ _ _ _
      | exact chart_Find.mono _ _ _ _ _
      | exact chart_Owner.mono _ _ _ _ _
      | exact chart_Owners.mono _ _ _ _ _
      | exact splicelaw03_Refs.mono _ _
      | exact splicelaw08_awake.mono _
      | exact spliceref03_Check.mono _ _
      | exact spliceref03_Has.mono _ _ _
      | exact LeO.none _
      | refine LeO.ite ?_ ?_
      | refine LeO.bind ?_ (fun _ => ?_)
    · intro y0 y1 y2 y3 y4 y5 y6 y7 y8 y9 y10 y11 y12 y13
      unfold splicelaw08_ChartSets.l1
      repeat' first
      | (with_reducible exact ih0 _ _ _ _ _ _)
      | (with_reducible exact ih1 _ _ _ _ _ _ _)
      | (with_reducible exact ih2 _ _ _ _ _ _ _ _ _ _ _ _ _ _)
      | (with_reducible exact ih3 _ _ _ _ _ _)
      | (with_reducible exact ih4 _ _ _ _ _ _ _)
      | (with_reducible exact chart_Check.mono _ _ _ _)
      | (with_reducible exact chart_Find.mono _ _ _ _ _)
      | (with_reducible exact chart_Owner.mono _ _ _ _ _)
      | (with_reducible exact chart_Owners.mono _ _ _ _ _)
      | (with_reducible exact splicelaw03_Refs.mono _ _)
      | (with_reducible exact splicelaw08_awake.mono _)
      | (with_reducible exact spliceref03_Check.mono _ _)
      | (with_reducible exact spliceref03_Has.mono _ _ _)
      | (with_reducible exact LeO.refl _)
      | (with_reducible exact LeO.none _)
      | (with_reducible refine LeO.ite ?_ ?_)
      | (with_reducible refine LeO.bind ?_ (fun _ => ?_))
      | exact ih0 _ _ _ _ _ _
      | exact ih1 _ _ _ _ _ _ _
      | exact ih2 _ _ _ _ _ _ _ _ _ _ _ _ _ _
      | exact ih3 _ _ _ _ _ _
      | exact ih4 _ _ _ _ _ _ _
      | exact chart_Check.mono _ _ _ _
      | exact chart_Find.mono _ _ _ _ _
      | exact chart_Owner.mono _ _ _ _ _
      | exact chart_Owners.mono _ _ _ _ _
      | exact splicelaw03_Refs.mono _ _
      | exact splicelaw08_awake.mono _
      | exact spliceref03_Check.mono _ _
      | exact spliceref03_Has.mono _ _ _
      | exact LeO.none _
      | refine LeO.ite ?_ ?_
      | refine LeO.bind ?_ (fun _ => ?_)
    · intro y0 y1 y2 y3 y4 y5
      unfold splicelaw08_ChartSets.j3
      repeat' first
      | (with_reducible exact ih0 _ _ _ _ _ _)
      | (with_reducible exact ih1 _ _ _ _ _ _ _)
      | (with_reducible exact ih2 _ _ _ _ _ _ _ _ _ _ _ _ _ _)
      | (with_reducible exact ih3 _ _ _ _ _ _)
      | (with_reducible exact ih4 _ _ _ _ _ _ _)
      | (with_reducible exact chart_Check.mono _ _ _ _)
      | (with_reducible exact chart_Find.mono _ _ _ _ _)
      | (with_reducible exact chart_Owner.mono _ _ _ _ _)
      | (with_reducible exact chart_Owners.mono _ _ _ _ _)
      | (with_reducible exact splicelaw03_Refs.mono _ _)
      | (with_reducible exact splicelaw08_awake.mono _)
      | (with_reducible exact spliceref03_Check.mono _ _)
      | (with_reducible exact spliceref03_Has.mono _ _ _)
      | (with_reducible exact LeO.refl _)
      | (with_reducible exact LeO.none _)
      | (with_reducible refine LeO.ite ?_ ?_)
      | (with_reducible refine LeO.bind ?_ (fun _ => ?_))
      | exact ih0 _ _ _ _ _ _
      | exact ih1 _ _ _ _ _ _ _
      | exact ih2 _ _ _ _ _ _ _ _ _ _ _ _ _ _
      | exact ih3 _ _ _ _ _ _
      | exact ih4 _ _ _ _ _ _ _
      | exact chart_Check.mono _ _ _ _
      | exact chart_Find.mono _ _ _ _ _
      | exact chart_Owner.mono _ _ _ _ _
      | exact chart_Owners.mono _ _ _ _ _
      | exact splicelaw03_Refs.mono _ _
      | exact splicelaw08_awake.mono _
      | exact spliceref03_Check.mono _ _
      | exact spliceref03_Has.mono _ _ _
      | exact LeO.none _
      | refine LeO.ite ?_ ?_
      | refine LeO.bind ?_ (fun _ => ?_)
    · intro y0 y1 y2 y3 y4 y5 y6
      unfold splicelaw08_ChartSets.l2
      repeat' first
      | (with_reducible exact ih0 _ _ _ _ _ _)
      | (with_reducible exact ih1 _ _ _ _ _ _ _)
      | (with_reducible exact ih2 _ _ _ _ _ _ _ _ _ _ _ _ _ _)
      | (with_reducible exact ih3 _ _ _ _ _ _)
      | (with_reducible exact ih4 _ _ _ _ _ _ _)
      | (with_reducible exact chart_Check.mono _ _ _ _)
      | (with_reducible exact chart_Find.mono _ _ _ _ _)
      | (with_reducible exact chart_Owner.mono _ _ _ _ _)
      | (with_reducible exact chart_Owners.mono _ _ _ _ _)
      | (with_reducible exact splicelaw03_Refs.mono _ _)
      | (with_reducible exact splicelaw08_awake.mono _)
      | (with_reducible exact spliceref03_Check.mono _ _)
      | (with_reducible exact spliceref03_Has.mono _ _ _)
      | (with_reducible exact LeO.refl _)
      | (with_reducible exact LeO.none _)
      | (with_reducible refine LeO.ite ?_ ?_)
      | (with_reducible refine LeO.bind ?_ (fun _ => ?_))
      | exact ih0 _ _ _ _ _ _
      | exact ih1 _ _ _ _ _ _ _
      | exact ih2 _ _ _ _ _ _ _ _ _ _ _ _ _ _
      | exact ih3 _ _ _ _ _ _
      | exact ih4 _ _ _ _ _ _ _
      | exact chart_Check.mono _ _ _ _
      | exact chart_Find.mono _ _ _ _ _
      | exact chart_Owner.mono _ _ _ _ _
      | exact chart_Owners.mono _ _ _ _ _
      | exact splicelaw03_Refs.mono _ _
      | exact splicelaw08_awake.mono _
      | exact spliceref03_Check.mono _ _
      | exact spliceref03_Has.mono _ _ _
      | exact LeO.none _
      | refine LeO.ite ?_ ?_
      | refine LeO.bind ?_ (fun _ => ?_)
theorem splicelaw08_ChartSets.mono : ∀ a0 a1 a2 a3 a4 k, LeO (splicelaw08_ChartSets.f k a0 a1 a2 a3 a4) (splicelaw08_ChartSets.f (k + 1) a0 a1 a2 a3 a4) := by
  intro a0 a1 a2 a3 a4 k
  obtain ⟨ih0, ih1, ih2, ih3, ih4⟩ := splicelaw08_ChartSets.mono_l k
  unfold splicelaw08_ChartSets.f
  repeat' first
      | (with_reducible exact ih0 _ _ _ _ _ _)
      | (with_reducible exact ih1 _ _ _ _ _ _ _)
      | (with_reducible exact ih2 _ _ _ _ _ _ _ _ _ _ _ _ _ _)
      | (with_reducible exact ih3 _ _ _ _ _ _)
      | (with_reducible exact ih4 _ _ _ _ _ _ _)
      | (with_reducible exact chart_Check.mono _ _ _ _)
      | (with_reducible exact chart_Find.mono _ _ _ _ _)
      | (with_reducible exact chart_Owner.mono _ _ _ _ _)
      | (with_reducible exact chart_Owners.mono _ _ _ _ _)
      | (with_reducible exact splicelaw03_Refs.mono _ _)
      | (with_reducible exact splicelaw08_awake.mono _)
      | (with_reducible exact spliceref03_Check.mono _ _)
      | (with_reducible exact spliceref03_Has.mono _ _ _)
      | (with_reducible exact LeO.refl _)
      | (with_reducible exact LeO.none _)
      | (with_reducible refine LeO.ite ?_ ?_)
      | (with_reducible refine LeO.bind ?_ (fun _ => ?_))
      | exact ih0 _ _ _ _ _ _
      | exact ih1 _ _ _ _ _ _ _
      | exact ih2 _ _ _ _ _ _ _ _ _ _ _ _ _ _
      | exact ih3 _ _ _ _ _ _
      | exact ih4 _ _ _ _ _ _ _
      | exact chart_Check.mono _ _ _ _
      | exact chart_Find.mono _ _ _ _ _
      | exact chart_Owner.mono _ _ _ _ _
      | exact chart_Owners.mono _ _ _ _ _
      | exact splicelaw03_Refs.mono _ _
      | exact splicelaw08_awake.mono _
      | exact spliceref03_Check.mono _ _
      | exact spliceref03_Has.mono _ _ _
      | exact LeO.none _
      | refine LeO.ite ?_ ?_
      | refine LeO.bind ?_ (fun _ => ?_)
def splicelaw08_ChartSets.T7 : Bool × List (List Nat × List Nat) := (true, [([], []), ([], []), ([], []), ([1, 2], [1, 2]), ([3], [3]), ([0, 4], [0, 4]), ([5], [5]), ([6], [6]), ([6], [6]), ([], []), ([9, 7, 5, 0, 1, 2, 3, 4, 5, 6, 7, 9], [7, 9]), ([8, 10, 0, 1, 2, 3, 4, 5, 6, 7, 8, 9, 10], [8])])
def splicelaw08_ChartSets.B7 : List Nat := [0, 0, 0, 6, 14, 31, 63, 127, 127, 0, 767, 2047]
theorem splicelaw08_ChartSets.tab7 : rtab .any (opsOf Try.f9 7) = splicelaw08_ChartSets.T7 := by kernel_rfl
theorem splicelaw08_ChartSets.bits7 : waitsOk splicelaw08_ChartSets.T7.2 splicelaw08_ChartSets.B7 = true := by kernel_rfl
def splicelaw08_ChartSets.T12 : Bool × List (List Nat × List Nat) := (true, [([], []), ([], []), ([], []), ([1, 2], [1, 2]), ([3], [3]), ([4], [4]), ([], []), ([6], [6]), ([7], [7]), ([5, 8], [5, 8]), ([0, 9], [0, 9]), ([10], [10]), ([11], [11]), ([11], [11]), ([], []), ([14, 12, 10, 0, 1, 2, 3, 4, 5, 6, 7, 8, 9, 10, 11, 12, 14], [12, 14]), ([13, 15, 0, 1, 2, 3, 4, 5, 6, 7, 8, 9, 10, 11, 12, 13, 14, 15], [13])])
def splicelaw08_ChartSets.B12 : List Nat := [0, 0, 0, 6, 14, 30, 0, 64, 192, 510, 1023, 2047, 4095, 4095, 0, 24575, 65535]
theorem splicelaw08_ChartSets.tab12 : rtab .any (opsOf Try.f9 12) = splicelaw08_ChartSets.T12 := by kernel_rfl
theorem splicelaw08_ChartSets.bits12 : waitsOk splicelaw08_ChartSets.T12.2 splicelaw08_ChartSets.B12 = true := by kernel_rfl
def splicelaw08_ChartSets.T13 : Bool × List (List Nat × List Nat) := (true, [([], []), ([0], [0]), ([1], [1]), ([2, 1, 1], [1, 2]), ([3], [3]), ([3], [3]), ([4, 5, 3], [3, 4, 5]), ([3, 6, 1], [1, 3, 6]), ([7, 3, 1], [1, 7]), ([8], [8]), ([8], [8]), ([9, 10, 8], [8, 9, 10]), ([11, 8], [8, 11]), ([12, 8], [8, 12]), ([8], [8]), ([14, 8], [8, 14]), ([15, 8], [8, 15]), ([13, 16, 8], [8, 13, 16]), ([8], [8]), ([8], [8]), ([18, 19, 8], [8, 18, 19]), ([20, 8], [8, 20]), ([21, 8], [8, 21]), ([17, 22, 8], [8, 17, 22]), ([8, 23, 1], [1, 8, 23]), ([1, 24], [1, 24]), ([25, 8, 0, 1, 2, 3, 4, 5, 6, 7, 8, 9, 10, 11, 12, 13, 14, 15, 16, 17, 18, 19, 20, 21, 22, 23, 24, 25], [0, 25])])
def splicelaw08_ChartSets.B13 : List Nat := [0, 1, 3, 7, 15, 15, 63, 127, 255, 511, 511, 2047, 4095, 8191, 511, 16895, 49663, 131071, 511, 511, 786943, 1835519, 3932671, 8388607, 16777215, 33554431, 67108863]
theorem splicelaw08_ChartSets.tab13 : rtab .any (opsOf Try.f9 13) = splicelaw08_ChartSets.T13 := by kernel_rfl
theorem splicelaw08_ChartSets.bits13 : waitsOk splicelaw08_ChartSets.T13.2 splicelaw08_ChartSets.B13 = true := by kernel_rfl
def splicelaw08_ChartSets.T23 : Bool × List (List Nat × List Nat) := (true, [([], []), ([0], [0]), ([1], [1]), ([1], [1]), ([2, 3, 1], [1, 2, 3]), ([4, 1], [1, 4]), ([1], [1]), ([6, 1], [1, 6]), ([5, 7, 1], [1, 5, 7]), ([1, 8], [1, 8]), ([9, 1, 0, 1, 2, 3, 4, 5, 6, 7, 8, 9], [0, 9])])
def splicelaw08_ChartSets.B23 : List Nat := [0, 1, 3, 3, 15, 31, 3, 67, 255, 511, 1023]
theorem splicelaw08_ChartSets.tab23 : rtab .any (opsOf Try.f9 23) = splicelaw08_ChartSets.T23 := by kernel_rfl
theorem splicelaw08_ChartSets.bits23 : waitsOk splicelaw08_ChartSets.T23.2 splicelaw08_ChartSets.B23 = true := by kernel_rfl

end Go.Proofs.Ytbhlphadcphapaa.PE
