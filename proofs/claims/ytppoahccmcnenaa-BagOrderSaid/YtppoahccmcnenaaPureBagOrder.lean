/- BagOrder: mails come in any order, all of them: taken from the last one on or from the first one, each is what was sent. For every input. -/
import Derived.Test.YtppoahccmcnenaaPDx4
import Derived.OpenShut
namespace Go.Proofs.Ytppoahccmcnenaa.Pure
open Go.RowKit Go.Proofs.Ytppoahccmcnenaa.PD Go.Proofs.YtppoahccmcnenaaW.PrintWords Go.Proofs.YtppoahccmcnenaaW.PrintLast Go.Proofs.YtppoahccmcnenaaW.PrintMore
set_option linter.unusedVariables false
set_option linter.unusedSimpArgs false


theorem BagOrder : splicelaw10_BagOrder.Pure := by intros; intro _; intros; rfl

end Go.Proofs.Ytppoahccmcnenaa.Pure
