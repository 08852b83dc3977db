/- BagApart: who is apart is told nothing, either way, until they are together again; all others are. For every input. -/
import Derived.Test.YtppoahccmcnenaaPAx4
import Derived.OpenShut
namespace Go.Proofs.Ytppoahccmcnenaa.Pure
open Go.RowKit Go.Proofs.Ytppoahccmcnenaa.PA Go.Proofs.YtppoahccmcnenaaW.PrintWords Go.Proofs.YtppoahccmcnenaaW.PrintLast Go.Proofs.YtppoahccmcnenaaW.PrintMore
set_option linter.unusedVariables false
set_option linter.unusedSimpArgs false


theorem BagApart : splicelaw10_BagApart.Pure := by intros; intro _; intros; rfl

end Go.Proofs.Ytppoahccmcnenaa.Pure
