/- VintNums: the bytes of each number, of each whole one, and of each flag are the document's. For every input. -/
import Derived.Test.YtiljbfnnnblbpaaPAx4
import Derived.Test.YtiljbfnnnblbpaaQ1
import Derived.Test.YtiljbfnnnblbpaaQ2
import Derived.OpenShut
namespace Go.Proofs.Ytiljbfnnnblbpaa.Pure
open Go.RowKit Go.Proofs.Ytiljbfnnnblbpaa.PA Go.Proofs.YtiljbfnnnblbpaaW.PrintWords Go.Proofs.YtiljbfnnnblbpaaW.PrintLast Go.Proofs.YtiljbfnnnblbpaaW.PrintMore
set_option linter.unusedVariables false
set_option linter.unusedSimpArgs false

theorem VintNums : splicelaw01_VintNums.Pure := by
  intro a z b ha hz
  have ha := bounds_i64 ha
  refine ⟨30, ?_⟩
  unfold splicelaw01_VintNums.f
  have e : vint_Num.f 30 a = spliceref01_Num.f 30 a := by
    by_cases h : a < 0
    · rw [num_neg 30 a h, refnum_neg 30 a h]
    · rw [num_f 30 (by omega) a (by omega) (by omega), refnum_f 30 (by omega) a (by omega) (by omega)]
  rw [awake_f 30 (by omega), whole_f 30 (by omega), refwhole_f 30 (by omega), e]
  obtain ⟨x, hx⟩ : ∃ x, spliceref01_Num.f 30 a = some x := by
    by_cases h : a < 0
    · exact ⟨_, refnum_neg 30 a h⟩
    · exact ⟨_, refnum_f 30 (by omega) a (by omega) (by omega)⟩
  rw [hx]
  cases b <;> simp [vint_Flag.f, spliceref01_Flag.f]

end Go.Proofs.Ytiljbfnnnblbpaa.Pure
