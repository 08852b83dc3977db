/- CksumApart: two bodies (of up to 20,000 bytes each) have the same frame just if they are the same. For every input. -/
import Derived.Test.YtlmecdlbnpnajaaPAx6
import Derived.Test.YtlmecdlbnpnajaaAQ1
import Derived.Test.YtlmecdlbnpnajaaAQ2
import Derived.OpenShut
namespace Go.Proofs.Ytlmecdlbnpnajaa.Pure
open Go.RowKit Go.Proofs.Ytlmecdlbnpnajaa.PA Go.Proofs.YtlmecdlbnpnajaaW.PrintWords Go.Proofs.YtlmecdlbnpnajaaW.PrintLast Go.Proofs.YtlmecdlbnpnajaaW.PrintMore
set_option linter.unusedVariables false
set_option linter.unusedSimpArgs false


theorem frm_inj (x y : List Nat) (hx : x.length < 9223372036854775808) (hy : y.length < 9223372036854775808) (h : frm x = frm y) : x = y := by
  have h1 : Vm.rt (x.length : Int) (frm x, 0) = (x, Crc.four (Crc.sum (pre x)), 0) := by
    unfold frm pre; rw [List.append_assoc]; exact Vm.rt_enc x _ (by omega) hx _
  have h2 : Vm.rn (frm x, 0) = (x.length, x ++ Crc.four (Crc.sum (pre x)), 0) := by
    unfold frm pre; rw [List.append_assoc]; exact Vm.rn_enc _ hx _
  have h3 : Vm.rn (frm y, 0) = (y.length, y ++ Crc.four (Crc.sum (pre y)), 0) := by
    unfold frm pre; rw [List.append_assoc]; exact Vm.rn_enc _ hy _
  rw [h, h3] at h2
  simp only [Prod.mk.injEq, and_true] at h2
  exact (List.append_inj_left h2.2.symm h2.1.symm)
theorem CksumApart : splicelaw02_CksumApart.Pure := by
  intro a b ha hb
  refine ⟨10 * a.size + 10 * b.size + 500, ?_⟩
  unfold splicelaw02_CksumApart.f
  have aw : splicelaw02_CksumApart.j0 (10 * a.size + 10 * b.size + 500) a b true = some true := by
    simp only [splicelaw02_CksumApart.j0]
    rw [awake2_f _ (by omega)]; rfl
  by_cases h1 : (a.size : Int) > 20000
  · rw [if_pos h1]; exact aw
  · rw [if_neg h1]
    by_cases h2 : (b.size : Int) > 20000
    · rw [decide_eq_true h2]; exact aw
    · rw [decide_eq_false h2]
      simp only [splicelaw02_CksumApart.j0]
      rw [if_neg (by decide), frame_f _ a (by omega) (by omega), frame_f _ b (by omega) (by omega), awake2_f _ (by omega)]
      simp only [Option.bind_some]
      rw [if_pos trivial, if_pos trivial, if_pos trivial]
      have hla := nb_len a
      have hlb := nb_len b
      congr 1
      rw [beq_iff_eq, Bool.eq_iff_iff, beq_iff_eq, beq_iff_eq, toList_iff, toList_iff, ba_inj _ _ (frm_byte _ (nb_lt a)) (frm_byte _ (nb_lt b))]
      constructor
      · intro h
        exact nb_inj (frm_inj _ _ (by omega) (by omega) h)
      · rintro rfl; rfl

end Go.Proofs.Ytlmecdlbnpnajaa.Pure
