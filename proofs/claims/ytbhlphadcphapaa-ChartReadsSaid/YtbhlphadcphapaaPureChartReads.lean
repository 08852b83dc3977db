/- ChartReads: the bytes of each chart, and which chart any bytes say, or the error, are the document's (up to 60 shards, 2,000 bytes). For every input. -/
import Derived.Test.YtbhlphadcphapaaPRx14
import Derived.Test.YtbhlphadcphapaaPRx6
import Derived.Test.YtbhlphadcphapaaRQ1
import Derived.Test.YtbhlphadcphapaaRQ2
import Derived.OpenShut
namespace Go.Proofs.Ytbhlphadcphapaa.Pure
open Go.RowKit Go.Proofs.Ytbhlphadcphapaa.PR Go.Proofs.YtbhlphadcphapaaW.PrintWords Go.Proofs.YtbhlphadcphapaaW.PrintLast Go.Proofs.YtbhlphadcphapaaW.PrintMore
set_option linter.unusedVariables false
set_option linter.unusedSimpArgs false


theorem ChartReads : splicelaw08_ChartReads.Pure := by
  intro x0 x1 hw hs
  refine ⟨6000, ?_⟩
  have haw : ∀ k ep nx l, 100 ≤ k → splicelaw08_ChartReads.j0 (k + 1) x1 true ep nx l = some true := by
    intro k ep nx l hk
    rw [splicelaw08_ChartReads.j0, if_pos rfl, awake8_f k (by omega)]; rfl
  unfold splicelaw08_ChartReads.f splicelaw08_few.f
  rw [Option.bind_some]
  by_cases h60 : (x0.f2.length : Int) ≤ 60
  case neg => rw [decide_eq_false h60, if_neg (by simp), haw 5999 _ _ _ (by omega)]
  rw [decide_eq_true h60, if_pos rfl]
  by_cases h2 : (x1.size : Int) > 2000
  · rw [decide_eq_true h2, haw 5999 _ _ _ (by omega)]
  rw [decide_eq_false h2, splicelaw08_ChartReads.j0, if_neg (by simp), read_f8 5999 x1 (by omega) (by omega), Option.bind_some, refread_f8 5999 x1 (by omega) (by omega), Option.bind_some, awake8_f 5999 (by omega), Option.bind_some, if_pos rfl]
  have hlen : (readS x1).2.2.1.length ≤ 24 := fin8_len _ _ _
  generalize readS x1 = y at hlen ⊢
  rw [text_f8 5999 (by omega) _ _ _ (by omega), Option.bind_some, ref_f 5999 _ _ _ (by omega) (by omega), Option.bind_some]
  dsimp only
  rw [reftext_f8 5999 (by omega) _ _ _ (by omega), Option.bind_some, if_pos rfl, ref_f 5999 _ _ _ (by omega) (by omega), Option.bind_some]
  dsimp only [mp8]
  rw [same_f 5999 _ _ _ (by rw [List.length_map]; omega) (by rw [List.length_map]; omega), Option.bind_some, if_pos rfl]
  simp

end Go.Proofs.Ytbhlphadcphapaa.Pure
