/- BagFull: a full bag takes no more, nor doubles; one that is taken or lost makes room, and no number is given again. For every input. -/
import Derived.Test.YtppoahccmcnenaaPUx3
import Derived.OpenShut
namespace Go.Proofs.Ytppoahccmcnenaa.Pure
open Go.RowKit Go.Proofs.Ytppoahccmcnenaa.PU Go.Proofs.YtppoahccmcnenaaW.PrintWords Go.Proofs.YtppoahccmcnenaaW.PrintLast Go.Proofs.YtppoahccmcnenaaW.PrintMore
set_option linter.unusedVariables false
set_option linter.unusedSimpArgs false


theorem BagFull : splicelaw10_BagFull.Pure := by intros; intro _; intros; rfl

end Go.Proofs.Ytppoahccmcnenaa.Pure
