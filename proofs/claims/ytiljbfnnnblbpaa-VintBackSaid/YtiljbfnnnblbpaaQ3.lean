import Derived.Test.YtiljbfnnnblbpaaQ1
import Derived.Test.YtiljbfnnnblbpaaQ2
namespace Go.Proofs.Ytiljbfnnnblbpaa.PA
open Go.RowKit Go.Proofs.YtiljbfnnnblbpaaW.PrintWords Go.Proofs.YtiljbfnnnblbpaaW.PrintLast Go.Proofs.YtiljbfnnnblbpaaW.PrintMore
set_option linter.unusedVariables false
set_option linter.unusedSimpArgs false

/-! lists -/
def lenc (l : List Int) : List Nat := l.flatMap fun z => Vm.enc (Vm.fold z)
def allMay (l : List Int) : Bool := l.all fun z => decide (Vm.may z)
/-- a list's bytes -/
def listB (l : List Int) : ByteArray := if allMay l = true then ba (Vm.enc l.length ++ lenc l) else ba []
theorem allMay_cons (z : Int) (l : List Int) : allMay (z :: l) = (decide (Vm.may z) && allMay l) := rfl
theorem lenc_cons (z : Int) (l : List Int) : lenc (z :: l) = Vm.enc (Vm.fold z) ++ lenc l := rfl
theorem rd_drop (l : List Int) (i : Nat) (h : i < l.length) : l.drop i = rd l (i : Int) :: l.drop (i + 1) := by
  rw [List.drop_eq_getElem_cons h]
  congr 1
  unfold rd
  simp [List.getD_eq_getElem?_getD, h]
theorem list_l0 : ∀ (k i : Nat) (l : List Int) (acc : List Nat), l.length - i + 10 ≤ k → i ≤ l.length → l.length ≤ 1000000000 → acc.length + 9 * (l.length - i) ≤ 100000000000 →
    vint_List.l0 k l (ba acc) (i : Int) = some (if allMay (l.drop i) = true then ba (acc ++ lenc (l.drop i)) else ba []) := by
  intro k
  induction k with
  | zero => intro i l acc h; omega
  | succ k ih =>
    intro i l acc hk hi hl ha
    simp only [vint_List.l0]
    by_cases h : i < l.length
    · rw [if_pos (by omega), if_pos (by omega), may_f, rd_drop l i h]
      simp only [Option.bind_some, decide_eq_true_eq, allMay_cons, Bool.and_eq_true]
      by_cases hm : Vm.may (rd l (i : Int))
      · rw [if_pos hm, whole_f k (by omega), if_pos hm]
        have h9 := Vm.enc_len9 _ (Vm.fold_lt _ hm)
        simp only [Option.bind_some, ba_size]
        have e : wrap64 ((i : Int) + 1) = ((i + 1 : Nat) : Int) := by unfold wrap64; omega
        rw [if_pos (by omega), e, ba_append, ih (i + 1) l _ (by omega) (by omega) hl (by rw [List.length_append]; omega)]
        congr 1
        rw [lenc_cons, List.append_assoc]
        by_cases hq : allMay (l.drop (i + 1)) = true
        · rw [if_pos hq, if_pos ⟨hm, hq⟩]
        · rw [if_neg hq, if_neg (fun h => hq h.2)]
      · rw [if_neg hm]
        congr 1
        rw [if_neg (fun h => hm h.1)]; rfl
    · rw [if_neg (by omega), List.drop_of_length_le (by omega)]
      simp [allMay, lenc]
theorem list_f (k : Nat) (l : List Int) (hk : l.length + 20 ≤ k) (hl : l.length ≤ 1000000000) : vint_List.f k l = some (listB l) := by
  unfold vint_List.f
  rw [num_f k (by omega) _ (by omega) (by omega)]
  have h9 := Vm.enc_len9 l.length (by omega)
  simp only [Option.bind_some, Int.toNat_natCast, ba_size]
  rw [if_pos (by omega)]
  have := list_l0 k 0 l (Vm.enc l.length) (by omega) (by omega) hl (by omega)
  simpa [listB] using this

theorem reflist_l0 : ∀ (k i : Nat) (l : List Int) (acc : List Nat), l.length - i + 10 ≤ k → i ≤ l.length → l.length ≤ 1000000000 → acc.length + 9 * (l.length - i) ≤ 100000000000 →
    spliceref01_List.l0 k l (ba acc) (i : Int) = some (if allMay (l.drop i) = true then ba (acc ++ lenc (l.drop i)) else ba []) := by
  intro k
  induction k with
  | zero => intro i l acc h; omega
  | succ k ih =>
    intro i l acc hk hi hl ha
    simp only [spliceref01_List.l0]
    by_cases h : i < l.length
    · rw [if_pos (by omega), if_pos (by omega), refmay_f, rd_drop l i h]
      simp only [Option.bind_some, decide_eq_true_eq, allMay_cons, Bool.and_eq_true]
      by_cases hm : Vm.may (rd l (i : Int))
      · rw [if_pos hm, refwhole_f k (by omega), if_pos hm]
        have h9 := Vm.enc_len9 _ (Vm.fold_lt _ hm)
        simp only [Option.bind_some, ba_size]
        have e : wrap64 ((i : Int) + 1) = ((i + 1 : Nat) : Int) := by unfold wrap64; omega
        rw [if_pos (by omega), e, ba_append, ih (i + 1) l _ (by omega) (by omega) hl (by rw [List.length_append]; omega)]
        congr 1
        rw [lenc_cons, List.append_assoc]
        by_cases hq : allMay (l.drop (i + 1)) = true
        · rw [if_pos hq, if_pos ⟨hm, hq⟩]
        · rw [if_neg hq, if_neg (fun h => hq h.2)]
      · rw [if_neg hm]
        congr 1
        rw [if_neg (fun h => hm h.1)]; rfl
    · rw [if_neg (by omega), List.drop_of_length_le (by omega)]
      simp [allMay, lenc]
theorem reflist_f (k : Nat) (l : List Int) (hk : l.length + 20 ≤ k) (hl : l.length ≤ 1000000000) : spliceref01_List.f k l = some (listB l) := by
  unfold spliceref01_List.f
  rw [refnum_f k (by omega) _ (by omega) (by omega)]
  have h9 := Vm.enc_len9 l.length (by omega)
  simp only [Option.bind_some, Int.toNat_natCast]
  have := reflist_l0 k 0 l (Vm.enc l.length) (by omega) (by omega) hl (by omega)
  simpa [listB] using this

end Go.Proofs.Ytiljbfnnnblbpaa.PA
