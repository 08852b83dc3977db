/- SlabLast: of writings to one block the last one counts, for what is read, and for what is kept of it. For every input. -/
import Derived.Test.YtdenfndpggfgmaaPLx3
import Derived.OpenShut
namespace Go.Proofs.Ytdenfndpggfgmaa.Pure
open Go.RowKit Go.Proofs.Ytdenfndpggfgmaa.PL Go.Proofs.YtdenfndpggfgmaaW.PrintWords Go.Proofs.YtdenfndpggfgmaaW.PrintLast Go.Proofs.YtdenfndpggfgmaaW.PrintMore
set_option linter.unusedVariables false
set_option linter.unusedSimpArgs false


theorem SlabLast : splicelaw07_SlabLast.Pure := by
  intro x0 x1 x2 _ h
  unfold splicelaw07_SlabLast.f
  rw [if_pos (by have := h.1; omega)]

end Go.Proofs.Ytdenfndpggfgmaa.Pure
