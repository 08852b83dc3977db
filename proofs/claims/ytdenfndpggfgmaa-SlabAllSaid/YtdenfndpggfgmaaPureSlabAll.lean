/- SlabAll: keeping all is a flush, keeping nothing is what was sure. For every input. -/
import Derived.Test.YtdenfndpggfgmaaPCx4
import Derived.OpenShut
namespace Go.Proofs.Ytdenfndpggfgmaa.Pure
open Go.RowKit Go.Proofs.Ytdenfndpggfgmaa.PC Go.Proofs.YtdenfndpggfgmaaW.PrintWords Go.Proofs.YtdenfndpggfgmaaW.PrintLast Go.Proofs.YtdenfndpggfgmaaW.PrintMore
set_option linter.unusedVariables false
set_option linter.unusedSimpArgs false


theorem SlabAll : splicelaw07_SlabAll.Pure := fun _ _ => rfl

end Go.Proofs.Ytdenfndpggfgmaa.Pure
