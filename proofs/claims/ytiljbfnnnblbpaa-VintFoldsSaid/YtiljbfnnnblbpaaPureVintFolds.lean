/- VintFolds: of two whole numbers from 0 on, the lesser one has no more bytes; -z - 1 has as many as z; a number twice as great has the bytes of the whole one. For every input. -/
import Derived.Test.YtiljbfnnnblbpaaPAx3
import Derived.Test.YtiljbfnnnblbpaaQ1
import Derived.Test.YtiljbfnnnblbpaaQ2
import Derived.OpenShut
namespace Go.Proofs.Ytiljbfnnnblbpaa.Pure
open Go.RowKit Go.Proofs.Ytiljbfnnnblbpaa.PA Go.Proofs.YtiljbfnnnblbpaaW.PrintWords Go.Proofs.YtiljbfnnnblbpaaW.PrintLast Go.Proofs.YtiljbfnnnblbpaaW.PrintMore
set_option linter.unusedVariables false
set_option linter.unusedSimpArgs false

theorem wl (z : Int) (h : Vm.may z) : (ba (if Vm.may z then Vm.enc (Vm.fold z) else [])).size = (Vm.enc (Vm.fold z)).length := by
  rw [if_pos h, ba_size]
theorem enc_len_pair (n : Nat) : (Vm.enc (2 * n + 1)).length = (Vm.enc (2 * n)).length := by
  by_cases h : 2 * n < 128
  · rw [Vm.enc_lt h, Vm.enc_lt (by omega)]; simp
  · rw [Vm.enc_ge h, Vm.enc_ge (show ¬ 2 * n + 1 < 128 by omega), List.length_cons, List.length_cons, show (2 * n + 1) / 128 = 2 * n / 128 by omega]
theorem VintFolds : splicelaw01_VintFolds.Pure := by
  intro a b ha hb
  have ha := bounds_i64 ha
  have hb := bounds_i64 hb
  refine ⟨31, ?_⟩
  have aw : splicelaw01_VintFolds.j0 31 a b true = some true := by
    simp only [splicelaw01_VintFolds.j0]
    rw [awake_f 30 (by omega)]
    rfl
  unfold splicelaw01_VintFolds.f
  rw [refmay_f, refmay_f]
  simp only [Option.bind_some, decide_eq_true_eq]
  by_cases m1 : Vm.may a
  · rw [if_pos m1]
    by_cases m2 : Vm.may b
    · rw [if_pos m2]
      by_cases h1 : a < 0
      · rw [if_pos h1]; exact aw
      · rw [if_neg h1]
        by_cases h2 : b < 0
        · rw [decide_eq_true h2]; exact aw
        · rw [decide_eq_false h2]
          have h3 : 0 ≤ mn a b := by unfold mn; split <;> omega
          have h4 : mn a b ≤ mx a b := by unfold mn mx; split <;> split <;> omega
          have h5 : mx a b ≤ 4611686018427387903 := by unfold Vm.may at *; unfold mx; split <;> omega
          have h7 : 0 ≤ mn a 1152921504606846976 ∧ mn a 1152921504606846976 ≤ 1152921504606846976 := by unfold mn; split <;> omega
          have q1 : Vm.may (mn a b) := by unfold Vm.may; omega
          have q2 : Vm.may (mx a b) := by unfold Vm.may; omega
          have e9 : wrap64 (wrap64 (-a) - 1) = -a - 1 := by unfold Vm.may at m1; unfold wrap64; omega
          have q3 : Vm.may (-a - 1) := by unfold Vm.may at *; omega
          have q4 : Vm.may (mn a 1152921504606846976) := by unfold Vm.may; omega
          simp only [splicelaw01_VintFolds.j0]
          rw [if_neg (by decide), e9, whole_f 30 (by omega), whole_f 30 (by omega), whole_f 30 (by omega), awake_f 30 (by omega), whole_f 30 (by omega), whole_f 30 (by omega)]
          have f1 : Vm.fold (mn a b) ≤ Vm.fold (mx a b) := by unfold Vm.fold; rw [if_pos h3, if_pos (by omega)]; omega
          have g1 := Vm.enc_len_mono _ _ f1
          have f2 : Vm.fold (-a - 1) = 2 * a.toNat + 1 := by unfold Vm.fold; rw [if_neg (by omega)]; omega
          have f3 : Vm.fold a = 2 * a.toNat := by unfold Vm.fold; rw [if_pos (by omega)]; omega
          have e8 : wrap64 (2 * mn a 1152921504606846976) = ((Vm.fold (mn a 1152921504606846976) : Nat) : Int) := by unfold Vm.fold wrap64; rw [if_pos h7.1]; omega
          have hl := Vm.fold_lt _ q4
          simp only [Option.bind_some, if_true]
          rw [wl _ q1, wl _ q2, wl _ q3, wl _ m1, if_pos (by omega), f2, f3, enc_len_pair, if_pos rfl, e8, num_f 30 (by omega) _ (by omega) (by omega)]
          simp only [Option.bind_some, Int.toNat_natCast, if_pos q4, beq_self_eq_true]
    · rw [if_neg m2]; exact aw
  · rw [if_neg m1]; exact aw

end Go.Proofs.Ytiljbfnnnblbpaa.Pure
