/- BagNil: a nil bag has nothing. For every input. -/
import Derived.Test.YtppoahccmcnenaaPNx3
import Derived.OpenShut
namespace Go.Proofs.Ytppoahccmcnenaa.Pure
open Go.RowKit Go.Proofs.Ytppoahccmcnenaa.PN Go.Proofs.YtppoahccmcnenaaW.PrintWords Go.Proofs.YtppoahccmcnenaaW.PrintLast Go.Proofs.YtppoahccmcnenaaW.PrintMore
set_option linter.unusedVariables false
set_option linter.unusedSimpArgs false


theorem BagNil : splicelaw10_BagNil.Pure := by intros; intro _; intros; rfl

end Go.Proofs.Ytppoahccmcnenaa.Pure
