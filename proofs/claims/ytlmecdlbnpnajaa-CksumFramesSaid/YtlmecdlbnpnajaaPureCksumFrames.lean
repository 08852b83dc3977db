/- CksumFrames: the frame of each body (up to 20,000 bytes), or that it has too many bytes, is the document's. For every input. -/
import Derived.Test.YtlmecdlbnpnajaaPAx4
import Derived.Test.YtlmecdlbnpnajaaAQ1
import Derived.Test.YtlmecdlbnpnajaaAQ2
import Derived.OpenShut
namespace Go.Proofs.Ytlmecdlbnpnajaa.Pure
open Go.RowKit Go.Proofs.Ytlmecdlbnpnajaa.PA Go.Proofs.YtlmecdlbnpnajaaW.PrintWords Go.Proofs.YtlmecdlbnpnajaaW.PrintLast Go.Proofs.YtlmecdlbnpnajaaW.PrintMore
set_option linter.unusedVariables false
set_option linter.unusedSimpArgs false


theorem CksumFrames : splicelaw02_CksumFrames.Pure := by
  intro s hs
  refine ⟨10 * s.size + 400, ?_⟩
  unfold splicelaw02_CksumFrames.f
  by_cases h : s.size ≤ 1048576
  · rw [frame_f _ s h (by omega), awake2_f _ (by omega), refframe_f _ s h (by omega)]
    simp only [Option.bind_some]
    rw [if_neg (by omega)]
    by_cases h2 : (s.size : Int) > 20000
    · rw [if_pos h2]; rfl
    · rw [if_neg h2, if_pos trivial, if_pos trivial]; rfl
  · rw [frame_long _ s (by omega), awake2_f _ (by omega)]
    simp only [Option.bind_some]
    rw [if_pos (by omega), if_pos trivial, if_pos ((ba_nil_iff []).2 rfl)]
    rfl

end Go.Proofs.Ytlmecdlbnpnajaa.Pure
