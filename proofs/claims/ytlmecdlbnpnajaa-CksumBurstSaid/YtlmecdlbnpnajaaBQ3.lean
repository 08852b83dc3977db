import Derived.Test.YtlmecdlbnpnajaaPBx0
import Derived.Test.YtlmecdlbnpnajaaBQ1
import Derived.Test.YtlmecdlbnpnajaaBQ2
namespace Go.Proofs.Ytlmecdlbnpnajaa.PB
open Go.RowKit Go.Proofs.YtlmecdlbnpnajaaW.PrintWords Go.Proofs.YtlmecdlbnpnajaaW.PrintLast Go.Proofs.YtlmecdlbnpnajaaW.PrintMore
set_option linter.unusedVariables false
set_option linter.unusedSimpArgs false


/-! the document's readers -/
theorem drop_cons0 (l : List Nat) (i : Nat) (h : i < l.length) : l.drop i = l.getD i 0 :: l.drop (i + 1) := by
  rw [List.drop_eq_getElem_cons h]
  congr 1
  simp [List.getD_eq_getElem?_getD, h]
theorem val_cons (b : Nat) (l : List Nat) : Vm.val (b :: l) = b % 128 + 128 * Vm.val l := rfl
theorem ref_step (b q : Nat) (hb : b < 256) (hq : q < 72057594037927936) : wrap64 (wrap64 (128 * ((q : Nat) : Int)) + Int.tmod (wrap64 ((b : Nat) : Int)) 128) = ((b % 128 + 128 * q : Nat) : Int) := by
  have e2 : wrap64 ((b : Nat) : Int) = ((b : Nat) : Int) := by unfold wrap64; omega
  rw [e2, Int.tmod_eq_emod_of_nonneg (by omega)]
  unfold wrap64
  omega
theorem w64_pred (d : Nat) (h : d < 1000000000) : wrap64 ((d : Int) - 1) = (d : Int) - 1 := by unfold wrap64; omega
/-! what opening a frame says -/
/-- what is read as a text stands at the front as a text's bytes -/
theorem rt_once (m : Int) (hm : m < 9223372036854775808) (x : List Nat) (hx : ∀ a ∈ x, a < 256) (h : (Vm.rt m (x, 0)).2.2 = 0) :
    x = pre (Vm.rt m (x, 0)).1 ++ (Vm.rt m (x, 0)).2.1 ∧ ((Vm.rt m (x, 0)).1.length : Int) ≤ m := by
  unfold Vm.rt at h ⊢
  by_cases h0 : (Vm.rn (x, 0)).2.2 = 0
  · rw [if_pos h0] at h ⊢
    by_cases h1 : ((Vm.rn (x, 0)).1 : Int) > m
    · rw [if_pos h1] at h; simp at h
    · rw [if_neg h1] at h ⊢
      by_cases h2 : (Vm.rn (x, 0)).1 > (Vm.rn (x, 0)).2.1.length
      · rw [if_pos h2] at h; simp at h
      · rw [if_neg h2] at h ⊢
        have hq : Vm.rn (x, 0) = ((Vm.rn (x, 0)).1, (Vm.rn (x, 0)).2.1, 0) := Prod.ext rfl (Prod.ext rfl h0)
        obtain ⟨e1, e2⟩ := Vm.rn_once x hx _ _ hq
        simp only
        unfold pre
        have hl : ((Vm.rn (x, 0)).2.1.take (Vm.rn (x, 0)).1).length = (Vm.rn (x, 0)).1 := by rw [List.length_take]; omega
        rw [hl]
        refine ⟨?_, by omega⟩
        rw [List.append_assoc, List.take_append_drop]
        exact e1.symm
  · rw [if_neg h0] at h
    exact absurd h h0
theorem opn_frm (x r : List Nat) (hl : x.length ≤ 1048576) : opn (frm x ++ r) = (x, r, 0) := by
  have h1 : Vm.rt 1048576 (frm x ++ r, 0) = (x, Crc.four (Crc.sum (pre x)) ++ r, 0) := by
    unfold frm pre
    rw [List.append_assoc, List.append_assoc]
    exact Vm.rt_enc x _ (by omega) (by omega) _
  unfold opn
  rw [h1]
  simp only
  rw [if_neg (by simp), if_neg (by rw [List.length_append, four_len]; omega)]
  have e : (frm x ++ r).take ((frm x ++ r).length - (Crc.four (Crc.sum (pre x)) ++ r).length) = pre x := by
    have : (frm x ++ r).length - (Crc.four (Crc.sum (pre x)) ++ r).length = (pre x).length := by
      unfold frm; simp only [List.length_append]; omega
    rw [this]
    unfold frm
    rw [List.append_assoc, List.take_left]
  rw [e]
  have e2 : (Crc.four (Crc.sum (pre x)) ++ r).take 4 = Crc.four (Crc.sum (pre x)) := List.take_left (l₁ := Crc.four (Crc.sum (pre x)))
  have e3 : (Crc.four (Crc.sum (pre x)) ++ r).drop 4 = r := List.drop_left (l₁ := Crc.four (Crc.sum (pre x)))
  rw [e2, if_pos rfl, e3]
theorem opn_once (x : List Nat) (hx : ∀ a ∈ x, a < 256) (h : (opn x).2.2 = 0) : x = frm (opn x).1 ++ (opn x).2.1 ∧ (opn x).1.length ≤ 1048576 := by
  unfold opn at h ⊢
  simp only at h ⊢
  by_cases h0 : (Vm.rt 1048576 (x, 0)).2.2 = 0
  · obtain ⟨e1, e2⟩ := rt_once 1048576 (by omega) x hx h0
    rw [if_neg (by simp [h0])] at h ⊢
    by_cases h4 : (Vm.rt 1048576 (x, 0)).2.1.length < 4
    · rw [if_pos h4] at h; simp at h
    · rw [if_neg h4] at h ⊢
      have e3 : x.take (x.length - (Vm.rt 1048576 (x, 0)).2.1.length) = pre (Vm.rt 1048576 (x, 0)).1 := by
        have : x.length - (Vm.rt 1048576 (x, 0)).2.1.length = (pre (Vm.rt 1048576 (x, 0)).1).length := by
          have := congrArg List.length e1
          rw [List.length_append] at this
          omega
        rw [this]
        have e9 : ∀ (a b c : List Nat), c = a ++ b → c.take a.length = a := by
          intro a b c h; rw [h, List.take_left]
        exact e9 _ _ _ e1
      rw [e3] at h ⊢
      by_cases hc : Crc.four (Crc.sum (pre (Vm.rt 1048576 (x, 0)).1)) = (Vm.rt 1048576 (x, 0)).2.1.take 4
      · rw [if_pos hc] at h ⊢
        simp only
        refine ⟨?_, by omega⟩
        unfold frm
        rw [hc, List.append_assoc, List.take_append_drop]
        exact e1
      · rw [if_neg hc] at h; simp at h
  · rw [if_pos h0] at h
    exact absurd h h0
theorem opn_err (x : List Nat) (h : (opn x).2.2 ≠ 0) : opn x = ([], [], (opn x).2.2) := by
  unfold opn at h ⊢
  simp only at h ⊢
  split
  · rfl
  · rename_i h0
    rw [if_neg h0] at h
    split
    · rfl
    · rename_i h4
      rw [if_neg h4] at h
      split
      · rename_i hc
        rw [if_pos hc] at h
        simp at h
      · rfl
theorem opn_left (x : List Nat) (hx : ∀ a ∈ x, a < 256) (h : (opn x).2.2 = 0) : (opn x).2.1.length + 5 ≤ x.length ∧ (∀ a ∈ (opn x).2.1, a < 256) ∧ (∀ a ∈ (opn x).1, a < 256) := by
  obtain ⟨e, hl⟩ := opn_once x hx h
  have hf := frm_len (opn x).1 (by omega)
  have := congrArg List.length e
  rw [List.length_append] at this
  refine ⟨by omega, fun a ha => hx a (by rw [e]; exact List.mem_append_right _ ha), fun a ha => hx a (by rw [e]; unfold frm pre; simp [ha])⟩

end Go.Proofs.Ytlmecdlbnpnajaa.PB
