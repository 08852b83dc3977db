/- ChartOwners: which charts may be, which shard has a key, or a number, and which ones the keys of a set, are the document's (up to 60 shards, 100 spans). For every input. -/
import Derived.Test.YtbhlphadcphapaaPDx18
import Derived.Test.YtbhlphadcphapaaPDx6
import Derived.Test.YtbhlphadcphapaaDQ1
import Derived.Test.YtbhlphadcphapaaDQ3
import Derived.OpenShut
namespace Go.Proofs.Ytbhlphadcphapaa.Pure
open Go.RowKit Go.Proofs.Ytbhlphadcphapaa.PD Go.Proofs.YtbhlphadcphapaaW.PrintWords Go.Proofs.YtbhlphadcphapaaW.PrintLast Go.Proofs.YtbhlphadcphapaaW.PrintMore
set_option linter.unusedVariables false
set_option linter.unusedSimpArgs false


theorem ChartOwners : splicelaw08_ChartOwners.Pure := by
  intro x0 key keys
  intros
  generalize x0.f0 = ep
  generalize x0.f1 = nx
  generalize x0.f2 = l
  have hall : ∀ k, 7010 ≤ k → splicelaw08_ChartOwners.f k ep nx l key keys = some true := by
    intro k hk
    obtain ⟨k, rfl⟩ : ∃ k', k = k' + 2 := ⟨k - 2, by omega⟩
    unfold splicelaw08_ChartOwners.f splicelaw08_few.f
    rw [Option.bind_some]
    by_cases h : (l.length : Int) ≤ 60
    case neg => rw [if_neg (by simp [h]), splicelaw08_ChartOwners.j0, if_pos rfl, awake8_f _ (by omega)]; rfl
    rw [if_pos (decide_eq_true h), splicelaw08_ChartOwners.j0]
    by_cases h2 : (keys.length : Int) > 100
    · rw [if_pos (decide_eq_true h2), awake8_f _ (by omega)]; rfl
    rw [if_neg (by simp [h2])]
    have hlt : ∀ i : Int, i < (l.length : Int) → (if checkB ep nx l = true then i else -1) < (l.length : Int) := fun i hi => by split <;> omega
    rw [ref_f _ _ _ _ (by omega) (by omega), Option.bind_some, owner_f _ _ _ _ (by omega) _ (by omega), Option.bind_some, find_f _ _ _ _ (by omega) _ (by omega), Option.bind_some]
    dsimp only
    rw [refowner_f _ _ _ _ (by omega) _ (by omega), Option.bind_some, one_eq _ l (by omega) ep nx _ (hlt _ (ixOf_lt _ l)) (by omega), Option.bind_some, if_pos rfl, reffind_f _ _ _ _ (by omega) _ (by omega), Option.bind_some, one_eq _ l (by omega) ep nx _ (hlt _ (ixOf_lt _ l)) (by omega), Option.bind_some, splicelaw08_ChartOwners.j1, if_neg (by simp), awake8_f _ (by omega), Option.bind_some, if_pos rfl,
      check_f _ _ _ _ (by omega) (by omega), Option.bind_some, refcheck_f _ _ _ _ (by omega) (by omega), Option.bind_some, if_pos (by simp), owners_f _ _ _ _ (by omega) keys (by omega) (by omega), Option.bind_some, refs3_f _ keys (by omega) (by omega), Option.bind_some, refowners_f _ _ _ _ (by omega) keys (by omega) (by omega), Option.bind_some]
    rw [same1_f]
    · rfl
    · split
      · split
        · have := List.length_filter_le (fun x => keys.any (ovR x)) l; simp only [ownS, List.length_map]; omega
        · simp
      · simp
    · split
      · split
        · have := List.length_filter_le (fun x => keys.any (ovR x)) l; simp only [ownS, List.length_map]; omega
        · simp; omega
      · simp; omega
  exact ⟨7010, hall 7010 (by omega)⟩

end Go.Proofs.Ytbhlphadcphapaa.Pure
