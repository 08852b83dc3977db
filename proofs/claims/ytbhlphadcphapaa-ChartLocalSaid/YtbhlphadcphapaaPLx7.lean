-- written by a program of this session
import Derived.Test.YtbhlphadcphapaaPLx0
import Derived.Test.YtbhlphadcphapaaPLx6
namespace Go.Proofs.Ytbhlphadcphapaa.PL
open Go.RowKit Go.Proofs.Ytbhlphadcphapaa.Op Go.Proofs.YtbhlphadcphapaaW.PrintWords Go.Proofs.YtbhlphadcphapaaW.PrintLast Go.Proofs.YtbhlphadcphapaaW.PrintMore
attribute [local go_sem] max2_int min2_int max_two min_two max_three min_three max_four min_four   -- for this text's walks alone
set_option linter.unusedVariables false
set_option linter.unusedSimpArgs false

def wf39 (x : S39) : Prop := (Lit.int .i64 x.f0).wf = true ∧ (Lit.int .i64 x.f1).wf = true ∧ (Lit.int .i64 x.f2).wf = true
theorem op39 : Go.Proofs.Ytbhlphadcphapaa.Op.Op Try.prog k39 39 wf39 := op_mono (op_iso (op_struct Try.underlying39 (by kernel_rfl) (opfs_cons (op_int Try.underlying3 (by kernel_rfl)) rfl (opfs_cons (op_int Try.underlying3 (by kernel_rfl)) rfl (opfs_last (op_int Try.underlying3 (by kernel_rfl)) rfl)))) (fun x : S39 => (x.f0, x.f1, x.f2)) (fun y => ⟨y.1, y.2.1, y.2.2⟩) (fun _ => rfl)) (fun _ h => h)

def wf50 (x : S50) : Prop := (x.f0.length * 24 ≤ 140737488351232 ∧ x.f0.length ≤ maxLen ∧ ∀ y0 ∈ x.f0, wf39 y0) ∧ (Lit.int .i64 x.f1).wf = true
theorem op50 : Go.Proofs.Ytbhlphadcphapaa.Op.Op Try.prog k50 50 wf50 := op_mono (op_iso (op_struct Try.underlying50 (by kernel_rfl) (opfs_cons (op_slice Try.underlying48 (by kernel_rfl) (show Try.prog.bytesOf 39 = 24 by kernel_rfl) op39 (by decide)) rfl (opfs_last (op_int Try.underlying3 (by kernel_rfl)) rfl))) (fun x : S50 => (x.f0, x.f1)) (fun y => ⟨y.1, y.2⟩) (fun _ => rfl)) (fun _ h => h)


/-! ### splicelaw08_ChartLocal: function 7 -/
/-- THE ONE PURE STATEMENT of splicelaw08_ChartLocal: yours. -/
def splicelaw08_ChartLocal.Pure : Prop := ∀ (x0 : Int) (x1 : Int) (x2 : S50), (Lit.int .i64 x0).wf = true → (Lit.int .i64 x1).wf = true → wf50 x2 → ∃ k, splicelaw08_ChartLocal.f k x0 x1 x2.f0 x2.f1 = some true

end Go.Proofs.Ytbhlphadcphapaa.PL
