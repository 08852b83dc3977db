/- VintRises: of two numbers that are not below 0 the lesser one has no more bytes than the greater one, at least one and at most nine, and the bytes are the same just if the numbers are; of a number below 0 there are no bytes. For every input. -/
import Derived.Test.YtiljbfnnnblbpaaPAx3
import Derived.Test.YtiljbfnnnblbpaaQ1
import Derived.OpenShut
namespace Go.Proofs.Ytiljbfnnnblbpaa.Pure
open Go.RowKit Go.Proofs.Ytiljbfnnnblbpaa.PA Go.Proofs.YtiljbfnnnblbpaaW.PrintWords Go.Proofs.YtiljbfnnnblbpaaW.PrintLast Go.Proofs.YtiljbfnnnblbpaaW.PrintMore
set_option linter.unusedVariables false
set_option linter.unusedSimpArgs false

theorem ba_inj_enc (n m : Nat) : (ba (Vm.enc n)).toList = (ba (Vm.enc m)).toList ↔ n = m := by
  rw [toList_iff]
  constructor
  · intro h
    have := congrArg nb h
    rw [nb_ba _ (Vm.enc_byte n), nb_ba _ (Vm.enc_byte m)] at this
    exact Vm.enc_inj _ _ this
  · rintro rfl; rfl
theorem VintRises : splicelaw01_VintRises.Pure := by
  intro a b ha hb
  have ha := bounds_i64 ha
  have hb := bounds_i64 hb
  refine ⟨31, ?_⟩
  have neg : a < 0 ∨ b < 0 → splicelaw01_VintRises.j0 31 a b true = some true := by
    intro h
    simp only [splicelaw01_VintRises.j0]
    rw [awake_f 30 (by omega), num_neg 30 _ (by unfold mn; split <;> omega)]
    simp only [Option.bind_some, if_true, ba_toList]
    rfl
  unfold splicelaw01_VintRises.f
  by_cases h1 : a < 0
  · rw [if_pos h1]; exact neg (.inl h1)
  · rw [if_neg h1]
    by_cases h2 : b < 0
    · rw [decide_eq_true h2]; exact neg (.inr h2)
    · rw [decide_eq_false h2]
      simp only [splicelaw01_VintRises.j0]
      have h3 : 0 ≤ mn a b := by unfold mn; split <;> omega
      have h4 : mn a b ≤ mx a b := by unfold mn mx; split <;> split <;> omega
      have h5 : mx a b < 9223372036854775808 := by unfold mx; split <;> omega
      have h6 : (mn a b = mx a b) ↔ a = b := by unfold mn mx; split <;> split <;> omega
      rw [if_neg (by decide), num_f 30 (by omega) _ h3 (by omega), num_f 30 (by omega) _ (by omega) h5, awake_f 30 (by omega)]
      simp only [Option.bind_some, if_true, ba_size]
      have m1 := Vm.enc_len_mono (mn a b).toNat (mx a b).toNat (by omega)
      have m2 := Vm.enc_pos (mn a b).toNat
      have m3 := Vm.enc_len9 (mx a b).toNat (by omega)
      rw [if_pos (by omega), if_pos (by omega), if_pos (by omega)]
      congr 1
      rw [beq_iff_eq, Bool.eq_iff_iff, beq_iff_eq, beq_iff_eq, ba_inj_enc, ← h6]
      omega

end Go.Proofs.Ytiljbfnnnblbpaa.Pure
