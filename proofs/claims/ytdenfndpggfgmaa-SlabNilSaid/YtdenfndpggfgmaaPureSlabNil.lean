/- SlabNil: a nil slab has nothing: each of its calls answers so. For every input. -/
import Derived.Test.YtdenfndpggfgmaaPNx2
import Derived.OpenShut
namespace Go.Proofs.Ytdenfndpggfgmaa.Pure
open Go.RowKit Go.Proofs.Ytdenfndpggfgmaa.PN Go.Proofs.YtdenfndpggfgmaaW.PrintWords Go.Proofs.YtdenfndpggfgmaaW.PrintLast Go.Proofs.YtdenfndpggfgmaaW.PrintMore
set_option linter.unusedVariables false
set_option linter.unusedSimpArgs false


theorem SlabNil : splicelaw07_SlabNil.Pure := fun _ _ _ _ _ _ => rfl

end Go.Proofs.Ytdenfndpggfgmaa.Pure
