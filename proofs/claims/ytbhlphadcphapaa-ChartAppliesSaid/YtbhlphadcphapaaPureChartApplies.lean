/- ChartApplies: what each change makes of each chart (up to 60 shards), which were and which came, or the error, is the document's. For every input. -/
import Derived.Test.YtbhlphadcphapaaPDx12
import Derived.Test.YtbhlphadcphapaaPDx6
import Derived.Test.YtbhlphadcphapaaDQ1
import Derived.Test.YtbhlphadcphapaaDQ2
import Derived.OpenShut
namespace Go.Proofs.Ytbhlphadcphapaa.Pure
open Go.RowKit Go.Proofs.Ytbhlphadcphapaa.PD Go.Proofs.YtbhlphadcphapaaW.PrintWords Go.Proofs.YtbhlphadcphapaaW.PrintLast Go.Proofs.YtbhlphadcphapaaW.PrintMore
set_option linter.unusedVariables false
set_option linter.unusedSimpArgs false


theorem ChartApplies : splicelaw08_ChartApplies.Pure := by
  intro x0 x1 _ _
  generalize x0.f0 = a0_0
  generalize x0.f1 = a0_1
  generalize x0.f2 = l0_2
  generalize x1.f0 = a1_0
  generalize x1.f1 = a1_1
  generalize x1.f2 = a1_2
  refine ⟨1200, ?_⟩
  unfold splicelaw08_ChartApplies.f splicelaw08_few.f
  rw [Option.bind_some]
  by_cases h : (l0_2.length : Int) ≤ 60
  case neg => rw [if_neg (by simp [h]), awake8_f _ (by omega)]; rfl
  rw [if_pos (decide_eq_true h), apply_f 1200 a0_0 a0_1 l0_2 (by omega) a1_0 a1_1 a1_2 (by omega), Option.bind_some, ref_f 1200 _ _ _ (by omega) (by omega), Option.bind_some]
  dsimp only
  rw [refapply_f 1200 a0_0 a0_1 l0_2 (by omega) a1_0 a1_1 a1_2 (by omega), Option.bind_some, awake8_f _ (by omega), Option.bind_some, if_pos rfl]
  obtain ⟨h1, h2, h3⟩ := applyS_len a0_0 a0_1 l0_2 a1_0 a1_1 a1_2
  generalize applyS a0_0 a0_1 l0_2 a1_0 a1_1 a1_2 = r at h1 h2 h3 ⊢
  dsimp only
  rw [ref_f 1200 _ _ _ (by omega) (by omega), Option.bind_some]
  dsimp only
  rw [same_f 1200 _ _ _ (by rw [List.length_map]; omega) (by rw [List.length_map]; omega), Option.bind_some, if_pos rfl, refs_f 1200 _ (by omega) (by omega), Option.bind_some, samelist_f 1200 _ (by rw [List.length_map]; omega) (by rw [List.length_map]; omega), Option.bind_some, if_pos rfl, refs_f 1200 _ (by omega) (by omega), Option.bind_some, samelist_f 1200 _ (by rw [List.length_map]; omega) (by rw [List.length_map]; omega), Option.bind_some, if_pos rfl]
  simp

end Go.Proofs.Ytbhlphadcphapaa.Pure
