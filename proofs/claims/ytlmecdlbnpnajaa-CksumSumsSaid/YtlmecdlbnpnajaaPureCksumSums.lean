/- CksumSums: the sum of any bytes (up to 20,000) is the document's. For every input. -/
import Derived.Test.YtlmecdlbnpnajaaPAx3
import Derived.Test.YtlmecdlbnpnajaaAQ1
import Derived.Test.YtlmecdlbnpnajaaAQ2
import Derived.OpenShut
namespace Go.Proofs.Ytlmecdlbnpnajaa.Pure
open Go.RowKit Go.Proofs.Ytlmecdlbnpnajaa.PA Go.Proofs.YtlmecdlbnpnajaaW.PrintWords Go.Proofs.YtlmecdlbnpnajaaW.PrintLast Go.Proofs.YtlmecdlbnpnajaaW.PrintMore
set_option linter.unusedVariables false
set_option linter.unusedSimpArgs false


theorem CksumSums : splicelaw02_CksumSums.Pure := by
  intro s hs
  refine ⟨10 * s.size + 400, ?_⟩
  unfold splicelaw02_CksumSums.f
  rw [awake2_f _ (by omega), sum_f _ s hs (by omega), refsum_f _ s hs (by omega)]
  by_cases h : (s.size : Int) > 20000
  · rw [if_pos h]; rfl
  · rw [if_neg h]; simp

end Go.Proofs.Ytlmecdlbnpnajaa.Pure
