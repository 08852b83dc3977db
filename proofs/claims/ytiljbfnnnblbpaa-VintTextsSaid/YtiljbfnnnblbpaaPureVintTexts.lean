/- VintTexts: the bytes of each text of up to 20,000 bytes and of each list of up to 300 numbers are the document's. For every input. -/
import Derived.Test.YtiljbfnnnblbpaaPAx3
import Derived.Test.YtiljbfnnnblbpaaQ1
import Derived.Test.YtiljbfnnnblbpaaQ2
import Derived.Test.YtiljbfnnnblbpaaQ3
import Derived.OpenShut
namespace Go.Proofs.Ytiljbfnnnblbpaa.Pure
open Go.RowKit Go.Proofs.Ytiljbfnnnblbpaa.PA Go.Proofs.YtiljbfnnnblbpaaW.PrintWords Go.Proofs.YtiljbfnnnblbpaaW.PrintLast Go.Proofs.YtiljbfnnnblbpaaW.PrintMore
set_option linter.unusedVariables false
set_option linter.unusedSimpArgs false

theorem VintTexts : splicelaw01_VintTexts.Pure := by
  intro s l hs hl
  refine ⟨l.length + 31, ?_⟩
  have aw : splicelaw01_VintTexts.j0 (l.length + 31) s l true = some true := by
    simp only [splicelaw01_VintTexts.j0]
    rw [awake_f _ (by omega)]
    rfl
  unfold splicelaw01_VintTexts.f
  by_cases h1 : (s.size : Int) > 20000
  · rw [if_pos h1]; exact aw
  · rw [if_neg h1]
    by_cases h2 : (l.length : Int) > 300
    · rw [decide_eq_true h2]; exact aw
    · rw [decide_eq_false h2]
      simp only [splicelaw01_VintTexts.j0]
      rw [if_neg (by decide), awake_f _ (by omega), text_f _ (by omega) _ hs, reftext_f _ (by omega) _ hs, list_f _ l (by omega) (by omega), reflist_f _ l (by omega) (by omega)]
      simp

end Go.Proofs.Ytiljbfnnnblbpaa.Pure
