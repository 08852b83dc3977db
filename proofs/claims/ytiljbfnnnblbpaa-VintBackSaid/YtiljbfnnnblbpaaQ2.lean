import Derived.Test.YtiljbfnnnblbpaaPAx2
import Derived.Test.YtiljbfnnnblbpaaPAx3
import Derived.Test.YtiljbfnnnblbpaaQ1
namespace Go.Proofs.Ytiljbfnnnblbpaa.PA
open Go.RowKit Go.Proofs.YtiljbfnnnblbpaaW.PrintWords Go.Proofs.YtiljbfnnnblbpaaW.PrintLast Go.Proofs.YtiljbfnnnblbpaaW.PrintMore
set_option linter.unusedVariables false
set_option linter.unusedSimpArgs false

/-! the reference's numbers, the same -/
theorem refnum_byte (n : Nat) (h : n < 9223372036854775808) : wrap64 (128 + (Int.tmod (n : Int) 128)) % 256 = ((n % 128 + 128 : Nat) : Int) := by
  rw [Int.tmod_eq_emod_of_nonneg (by omega)]
  unfold wrap64; omega
theorem refnum_l0 : ∀ (k n : Nat) (acc : List Nat), (Vm.enc n).length ≤ k → n < 9223372036854775808 → acc.length + (Vm.enc n).length ≤ 1000000 →
    spliceref01_Num.l0 k (n : Int) (acc.map (fun x : Nat => (x : Int))) = some (ba (acc ++ Vm.enc n)) := by
  intro k
  induction k with
  | zero => intro n acc h; have := Vm.enc_pos n; omega
  | succ k ih =>
    intro n acc hk hn hl
    have hp := Vm.enc_pos n
    simp only [spliceref01_Num.l0]
    by_cases h : n < 128
    · rw [if_neg (by omega), if_pos (by simp; omega), Vm.enc_lt h, ← strOfNums_ba]
      congr 2
      simp
      omega
    · rw [if_pos (by omega), if_pos (by simp; omega), refnum_byte n hn]
      have e1 : wrap64 (Int.tdiv (n : Int) 128) = ((n / 128 : Nat) : Int) := by
        rw [Int.tdiv_eq_ediv_of_nonneg (by omega)]; unfold wrap64; omega
      rw [Vm.enc_ge h] at hk hl ⊢
      simp only [List.length_cons] at hk hl
      have e2 : acc.map (fun x : Nat => (x : Int)) ++ [((n % 128 + 128 : Nat) : Int)] = (acc ++ [n % 128 + 128]).map (fun x : Nat => (x : Int)) := by simp
      rw [e1, e2, ih (n / 128) (acc ++ [n % 128 + 128]) (by omega) (by omega) (by simp; omega)]
      simp
theorem refnum_f (k : Nat) (hk : 9 ≤ k) (n : Int) (h0 : 0 ≤ n) (h1 : n < 9223372036854775808) : spliceref01_Num.f k n = some (ba (Vm.enc n.toNat)) := by
  obtain ⟨m, rfl⟩ := Int.eq_ofNat_of_zero_le h0
  unfold spliceref01_Num.f
  rw [if_neg (by omega)]
  have h9 := Vm.enc_len9 m (by omega)
  have := refnum_l0 k m [] (by omega) (by omega) (by simp; omega)
  simpa using this
theorem refnum_neg (k : Nat) (n : Int) (h0 : n < 0) : spliceref01_Num.f k n = some (ba []) := by
  unfold spliceref01_Num.f
  rw [if_pos h0]; rfl
theorem refmay_f (z : Int) : spliceref01_May.f z = some (decide (Vm.may z)) := by
  have := may_f z
  unfold vint_may.f at this
  unfold spliceref01_May.f
  exact this
theorem refwhole_f (k : Nat) (hk : 9 ≤ k) (z : Int) : spliceref01_Whole.f k z = some (ba (if Vm.may z then Vm.enc (Vm.fold z) else [])) := by
  unfold spliceref01_Whole.f
  rw [refmay_f]
  simp only [Option.bind_some, decide_eq_true_eq]
  by_cases h : Vm.may z
  · rw [if_pos h, if_pos h]
    have hl := Vm.fold_lt z h
    have h2 := h
    unfold Vm.may at h2
    by_cases hz : z ≥ 0
    · rw [if_pos hz]
      have e : wrap64 (z + z) = ((Vm.fold z : Nat) : Int) := by unfold Vm.fold wrap64; rw [if_pos (by omega)]; omega
      rw [e, refnum_f k hk _ (by omega) (by omega)]
      simp
    · rw [if_neg hz]
      have e : wrap64 (wrap64 (wrap64 (-z) - z) - 1) = ((Vm.fold z : Nat) : Int) := by unfold Vm.fold wrap64; rw [if_neg (by omega)]; omega
      rw [e, refnum_f k hk _ (by omega) (by omega)]
      simp
  · rw [if_neg h, if_neg h]; rfl
theorem reftext_f (k : Nat) (hk : 9 ≤ k) (s : ByteArray) (h : s.size ≤ 140737488351232) : spliceref01_Text.f k s = some (ba (Vm.enc s.size) ++ s) := by
  unfold spliceref01_Text.f
  rw [refnum_f k hk _ (by omega) (by omega)]
  have h9 := Vm.enc_len9 s.size (by omega)
  simp only [Option.bind_some, Int.toNat_natCast, ba_size]
  rw [if_pos (by omega)]
theorem text_f (k : Nat) (hk : 9 ≤ k) (s : ByteArray) (h : s.size ≤ 140737488351232) : vint_Text.f k s = some (ba (Vm.enc s.size) ++ s) := by
  unfold vint_Text.f
  rw [num_f k hk _ (by omega) (by omega)]
  have h9 := Vm.enc_len9 s.size (by omega)
  simp only [Option.bind_some, Int.toNat_natCast, ba_size]
  rw [if_pos (by omega)]

end Go.Proofs.Ytiljbfnnnblbpaa.PA
