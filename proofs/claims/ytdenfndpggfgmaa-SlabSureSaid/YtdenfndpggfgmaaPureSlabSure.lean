/- SlabSure: what was flushed is there behind any loss, whatever was written to other blocks since. For every input. -/
import Derived.Test.YtdenfndpggfgmaaPSx4
import Derived.OpenShut
namespace Go.Proofs.Ytdenfndpggfgmaa.Pure
open Go.RowKit Go.Proofs.Ytdenfndpggfgmaa.PS Go.Proofs.YtdenfndpggfgmaaW.PrintWords Go.Proofs.YtdenfndpggfgmaaW.PrintLast Go.Proofs.YtdenfndpggfgmaaW.PrintMore
set_option linter.unusedVariables false
set_option linter.unusedSimpArgs false


theorem SlabSure : splicelaw07_SlabSure.Pure := fun _ _ _ _ _ _ => rfl

end Go.Proofs.Ytdenfndpggfgmaa.Pure
