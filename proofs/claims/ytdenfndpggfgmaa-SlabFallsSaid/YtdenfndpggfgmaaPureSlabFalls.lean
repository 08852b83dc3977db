/- SlabFalls: behind a loss each block has what was sure, or what was written last, but one, which has a beginning of that. For every input. -/
import Derived.Test.YtdenfndpggfgmaaPFx4
import Derived.OpenShut
namespace Go.Proofs.Ytdenfndpggfgmaa.Pure
open Go.RowKit Go.Proofs.Ytdenfndpggfgmaa.PF Go.Proofs.YtdenfndpggfgmaaW.PrintWords Go.Proofs.YtdenfndpggfgmaaW.PrintLast Go.Proofs.YtdenfndpggfgmaaW.PrintMore
set_option linter.unusedVariables false
set_option linter.unusedSimpArgs false


theorem SlabFalls : splicelaw07_SlabFalls.Pure := fun _ _ _ _ _ _ => rfl

end Go.Proofs.Ytdenfndpggfgmaa.Pure
