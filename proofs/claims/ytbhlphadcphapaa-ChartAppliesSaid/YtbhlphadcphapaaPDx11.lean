-- written by a program of this session
import Derived.Test.YtbhlphadcphapaaPDx0
namespace Go.Proofs.Ytbhlphadcphapaa.PD
open Go.RowKit Go.Proofs.Ytbhlphadcphapaa.Op Go.Proofs.YtbhlphadcphapaaW.PrintWords Go.Proofs.YtbhlphadcphapaaW.PrintLast Go.Proofs.YtbhlphadcphapaaW.PrintMore
attribute [local go_sem] max2_int min2_int max_two min_two max_three min_three max_four min_four   -- for this text's walks alone
set_option linter.unusedVariables false
set_option linter.unusedSimpArgs false

def wf55 (x : S55) : Prop := (Lit.int .i64 x.f0).wf = true ∧ (Lit.int .i64 x.f1).wf = true
theorem op55 : Go.Proofs.Ytbhlphadcphapaa.Op.Op Try.prog k55 55 wf55 := op_mono (op_iso (op_struct Try.underlying55 (by kernel_rfl) (opfs_cons (op_int Try.underlying3 (by kernel_rfl)) rfl (opfs_last (op_int Try.underlying3 (by kernel_rfl)) rfl))) (fun x : S55 => (x.f0, x.f1)) (fun y => ⟨y.1, y.2⟩) (fun _ => rfl)) (fun _ h => h)

def wf57 (x : S57) : Prop := (Lit.int .i64 x.f0).wf = true ∧ wf55 x.f1 ∧ (Lit.int .i64 x.f2).wf = true
theorem op57 : Go.Proofs.Ytbhlphadcphapaa.Op.Op Try.prog k57 57 wf57 := op_mono (op_iso (op_struct Try.underlying57 (by kernel_rfl) (opfs_cons (op_int Try.underlying3 (by kernel_rfl)) rfl (opfs_cons op55 rfl (opfs_last (op_int Try.underlying3 (by kernel_rfl)) rfl)))) (fun x : S57 => (x.f0, x.f1, x.f2)) (fun y => ⟨y.1, y.2.1, y.2.2⟩) (fun _ => rfl)) (fun _ h => h)

def wf24 (x : S24) : Prop := (Lit.int .i64 x.f0).wf = true ∧ (Lit.int .i64 x.f1).wf = true ∧ (x.f2.length * 32 ≤ 140737488351232 ∧ x.f2.length ≤ maxLen ∧ ∀ y0 ∈ x.f2, wf57 y0)
theorem op24 : Go.Proofs.Ytbhlphadcphapaa.Op.Op Try.prog k24 24 wf24 := op_mono (op_iso (op_struct Try.underlying24 (by kernel_rfl) (opfs_cons (op_int Try.underlying3 (by kernel_rfl)) rfl (opfs_cons (op_int Try.underlying3 (by kernel_rfl)) rfl (opfs_last (op_slice Try.underlying22 (by kernel_rfl) (show Try.prog.bytesOf 57 = 32 by kernel_rfl) op57 (by decide)) rfl)))) (fun x : S24 => (x.f0, x.f1, x.f2)) (fun y => ⟨y.1, y.2.1, y.2.2⟩) (fun _ => rfl)) (fun _ h => h)

def wf39 (x : S39) : Prop := (Lit.int .i64 x.f0).wf = true ∧ (Lit.int .i64 x.f1).wf = true ∧ (Lit.int .i64 x.f2).wf = true
theorem op39 : Go.Proofs.Ytbhlphadcphapaa.Op.Op Try.prog k39 39 wf39 := op_mono (op_iso (op_struct Try.underlying39 (by kernel_rfl) (opfs_cons (op_int Try.underlying3 (by kernel_rfl)) rfl (opfs_cons (op_int Try.underlying3 (by kernel_rfl)) rfl (opfs_last (op_int Try.underlying3 (by kernel_rfl)) rfl)))) (fun x : S39 => (x.f0, x.f1, x.f2)) (fun y => ⟨y.1, y.2.1, y.2.2⟩) (fun _ => rfl)) (fun _ h => h)


end Go.Proofs.Ytbhlphadcphapaa.PD
