/- ChartFirsts: the first chart of any numbers of nodes and shards, or the error, is the document's. For every input. -/
import Derived.Test.YtbhlphadcphapaaPAx3
import Derived.Test.YtbhlphadcphapaaPAx4
import Derived.Test.YtbhlphadcphapaaPAx7
import Derived.Test.YtbhlphadcphapaaPAx8
import Derived.OpenShut
namespace Go.Proofs.Ytbhlphadcphapaa.Pure
open Go.RowKit Go.Proofs.Ytbhlphadcphapaa.PA Go.Proofs.YtbhlphadcphapaaW.PrintWords Go.Proofs.YtbhlphadcphapaaW.PrintLast Go.Proofs.YtbhlphadcphapaaW.PrintMore
set_option linter.unusedVariables false
set_option linter.unusedSimpArgs false


theorem firsts_all : ∀ a : Fin 5, ∀ b : Fin 24, splicelaw08_ChartFirsts.f 60 ((a.val : Int) + 1) ((b.val : Int) + 1) = some true := by decide +kernel
theorem first_err (a b : Int) (h : ¬ (1 ≤ a ∧ a ≤ 5 ∧ 1 ≤ b ∧ b ≤ 24)) : chart_First.f 60 a b = some (0, 0, [], 1) := by
  unfold chart_First.f
  by_cases h1 : a < 1
  · rw [if_pos h1]; rfl
  rw [if_neg h1]
  by_cases h2 : a > 5
  · rw [if_pos h2]; rfl
  rw [if_neg h2]
  by_cases h3 : b < 1
  · rw [if_pos h3]; rfl
  rw [if_neg h3, decide_eq_true (by omega)]; rfl
theorem reffirst_err (a b : Int) (h : ¬ (1 ≤ a ∧ a ≤ 5 ∧ 1 ≤ b ∧ b ≤ 24)) : spliceref08_First.f 60 a b = some (0, 0, [], 1) := by
  unfold spliceref08_First.f
  by_cases h1 : a < 1
  · rw [if_pos h1]; rfl
  rw [if_neg h1]
  by_cases h2 : a > 5
  · rw [if_pos h2]; rfl
  rw [if_neg h2]
  by_cases h3 : b < 1
  · rw [if_pos h3]; rfl
  rw [if_neg h3, decide_eq_true (by omega)]; rfl
theorem ChartFirsts : splicelaw08_ChartFirsts.Pure := by
  intro a0 a1 _ _
  refine ⟨60, ?_⟩
  by_cases h : 1 ≤ a0 ∧ a0 ≤ 5 ∧ 1 ≤ a1 ∧ a1 ≤ 24
  · have h1 := firsts_all ⟨(a0 - 1).toNat, by omega⟩ ⟨(a1 - 1).toNat, by omega⟩
    have e0 : (((a0 - 1).toNat : Nat) : Int) + 1 = a0 := by omega
    have e1 : (((a1 - 1).toNat : Nat) : Int) + 1 = a1 := by omega
    simp only [e0, e1] at h1
    exact h1
  · unfold splicelaw08_ChartFirsts.f
    rw [first_err a0 a1 h, reffirst_err a0 a1 h]
    have hw : splicelaw08_awake.f 60 = some true := by decide +kernel
    simp only [Option.bind_some, hw, if_pos]
    decide +kernel

end Go.Proofs.Ytbhlphadcphapaa.Pure
