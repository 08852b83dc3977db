/- BagPlays: the bag and the document's bag answer alike, act for act. For every input. -/
import Derived.Test.YtppoahccmcnenaaPPx12
import Derived.OpenShut
namespace Go.Proofs.Ytppoahccmcnenaa.Pure
open Go.RowKit Go.Proofs.Ytppoahccmcnenaa.PP Go.Proofs.YtppoahccmcnenaaW.PrintWords Go.Proofs.YtppoahccmcnenaaW.PrintLast Go.Proofs.YtppoahccmcnenaaW.PrintMore
set_option linter.unusedVariables false
set_option linter.unusedSimpArgs false


theorem wf64 {n : Int} (h : (Lit.int .i64 n).wf = true) : -9223372036854775808 ≤ n ∧ n ≤ 9223372036854775807 := by
  have e1 : IntKind.min .i64 = -9223372036854775808 := by decide
  have e2 : IntKind.max .i64 = 9223372036854775807 := by decide
  simpa only [Lit.wf, e1, e2, Bool.and_eq_true, decide_eq_true_eq] using h
theorem BagPlays : splicelaw10_BagPlays.Pure := by
  intro x0 h
  unfold splicelaw10_BagPlays.f
  rw [if_pos]
  rw [List.all_eq_true]
  intro x hx
  exact decide_eq_true (wf64 (h.2.2 x hx).2.1)

end Go.Proofs.Ytppoahccmcnenaa.Pure
