/- VintCut: bytes that are cut off within what was written say that they end (of a number, a whole one, a text of up to 2,000 bytes). For every input. -/
import Derived.Test.YtiljbfnnnblbpaaPTx2
import Derived.Test.YtiljbfnnnblbpaaPTx3
import Derived.Test.YtiljbfnnnblbpaaTQ1
import Derived.OpenShut
namespace Go.Proofs.Ytiljbfnnnblbpaa.Pure
open Go.RowKit Go.Proofs.Ytiljbfnnnblbpaa.PT Go.Proofs.YtiljbfnnnblbpaaW.PrintWords Go.Proofs.YtiljbfnnnblbpaaW.PrintLast Go.Proofs.YtiljbfnnnblbpaaW.PrintMore
set_option linter.unusedVariables false
set_option linter.unusedSimpArgs false


theorem cut1_ba (l : List Nat) : cut1 (ba l) = ba (l.take (l.length - 1)) := by
  unfold cut1
  rw [ba_extract, ba_size, List.drop_zero]
theorem ok_take (l : List Nat) (h : ∀ x ∈ l, x < 256) (hl : l.length ≤ 1000000) (m : Nat) : Vm.Ok (l.take m, 0) :=
  ⟨fun x hx => h x (List.mem_of_mem_take hx), by show (l.take m).length ≤ _; rw [List.length_take]; omega, Or.inl rfl⟩
theorem rn_cut (n : Nat) (h : n < 9223372036854775808) : Vm.rn ((Vm.enc n).take ((Vm.enc n).length - 1), 0) = (0, [], 5) := by
  have hp := Vm.enc_pos n
  unfold Vm.rn
  rw [if_pos rfl]
  simp only
  rw [Vm.dec_cut n h _ (by omega)]
theorem rt_cut (s : List Nat) (hb : ∀ x ∈ s, x < 256) (hs : s.length ≤ 2000) : (Vm.rt 2000 ((Vm.enc s.length ++ s).take ((Vm.enc s.length ++ s).length - 1), 0)).2.2 = 5 := by
  have hp := Vm.enc_pos s.length
  by_cases h0 : s.length = 0
  · have e : s = [] := List.eq_nil_of_length_eq_zero h0
    subst e
    have h1 : ((Vm.enc ([] : List Nat).length ++ []).take ((Vm.enc ([] : List Nat).length ++ []).length - 1)) = (Vm.enc 0).take ((Vm.enc 0).length - 1) := by simp
    rw [h1]
    unfold Vm.rt
    rw [rn_cut 0 (by omega), if_neg (by simp)]
  · have h1 : (Vm.enc s.length ++ s).take ((Vm.enc s.length ++ s).length - 1) = Vm.enc s.length ++ s.take (s.length - 1) := by
      rw [List.length_append, show (Vm.enc s.length).length + s.length - 1 = (Vm.enc s.length).length + (s.length - 1) by omega, List.take_append, List.take_of_length_le (by omega)]
      simp
    rw [h1]
    unfold Vm.rt
    rw [Vm.rn_enc s.length (by omega), if_pos rfl]
    simp only
    rw [if_neg (by omega), if_pos (by rw [List.length_take]; omega)]
theorem VintCut : splicelaw01_VintCut.Pure := by
  intro n z s hn hz hs
  have hn := bounds_i64 hn
  refine ⟨1000, ?_⟩
  unfold splicelaw01_VintCut.f
  by_cases h0 : n < 0
  · rw [if_pos h0, awake_f _ (by omega)]
  rw [if_neg h0]
  have hmay : spliceref01_May.f z = some (decide (Vm.may z)) := by
    unfold spliceref01_May.f Vm.may
    by_cases h : z ≥ (-4611686018427387904)
    · rw [if_pos h]; congr 1; rw [Bool.eq_iff_iff]; simp; omega
    · rw [if_neg h]; congr 1; rw [Bool.eq_iff_iff]; simp; omega
  rw [hmay, Option.bind_some]
  by_cases hm : Vm.may z
  case neg => rw [if_neg (by simp [hm]), awake_f _ (by omega)]
  rw [if_pos (decide_eq_true hm)]
  by_cases h2 : (s.size : Int) > 2000
  · rw [if_pos h2, awake_f _ (by omega)]
  rw [if_neg h2, awake_f _ (by omega)]
  have fN := num_f 1000 (by omega) n (by omega) (by omega)
  have fW := whole_f 1000 (by omega) z
  rw [if_pos hm] at fW
  have fT := text_f 1000 (by omega) s hs
  have ec : ba (Vm.enc s.size) ++ s = ba (Vm.enc (nb s).length ++ nb s) := by rw [← ba_append, ba_nb, nb_len]
  rw [ec] at fT
  have l1 := Vm.enc_len9 n.toNat (by omega)
  have l2 := Vm.enc_len9 (Vm.fold z) (Vm.fold_lt z hm)
  have l3 := Vm.enc_len9 (nb s).length (by rw [nb_len]; omega)
  have p1 := Vm.enc_pos n.toNat
  have p2 := Vm.enc_pos (Vm.fold z)
  have p3 := Vm.enc_pos (nb s).length
  have ls := nb_len s
  have b3 : ∀ x ∈ Vm.enc (nb s).length ++ nb s, x < 256 := fun x hx => by
    rcases List.mem_append.1 hx with h | h
    · exact Vm.enc_byte _ x h
    · exact nb_lt s x h
  have rN := rnum_g 1000 (by omega) _ (ok_take (Vm.enc n.toNat) (Vm.enc_byte _) (by omega) ((Vm.enc n.toNat).length - 1))
  have rW := rwhole_g 1000 (by omega) _ (ok_take (Vm.enc (Vm.fold z)) (Vm.enc_byte _) (by omega) ((Vm.enc (Vm.fold z)).length - 1))
  have rT := rtext_g 1000 (by omega) 2000 _ (ok_take (Vm.enc (nb s).length ++ nb s) b3 (by rw [List.length_append]; omega) ((Vm.enc (nb s).length ++ nb s).length - 1))
  have eN : (Vm.rn ((Vm.enc n.toNat).take ((Vm.enc n.toNat).length - 1), 0)).2.2 = 5 := by rw [rn_cut n.toNat (by omega)]
  have eW : (Vm.rw ((Vm.enc (Vm.fold z)).take ((Vm.enc (Vm.fold z)).length - 1), 0)).2.2 = 5 := by
    show (Vm.rn ((Vm.enc (Vm.fold z)).take ((Vm.enc (Vm.fold z)).length - 1), 0)).2.2 = 5
    rw [rn_cut _ (Vm.fold_lt z hm)]
  have eT := rt_cut (nb s) (nb_lt s) (by omega)
  simp only at rN rW rT
  rw [show ((0 : Nat) : Int) = 0 from rfl, eN] at rN
  rw [show ((0 : Nat) : Int) = 0 from rfl, eW] at rW
  rw [show ((0 : Nat) : Int) = 0 from rfl, eT] at rT
  have hB : cutOk 1000 n z s = true := by
    unfold cutOk
    rw [fN, fW, fT]
    simp only [cut1_ba, rN, rW, rT]
    simp only [ba_size, List.length_append, Bool.and_eq_true, decide_eq_true_eq]
    refine ⟨⟨⟨⟨⟨⟨by omega, by omega⟩, by omega⟩, by omega⟩, by omega⟩, by omega⟩, by simp⟩
  rw [if_pos hB]

end Go.Proofs.Ytiljbfnnnblbpaa.Pure
