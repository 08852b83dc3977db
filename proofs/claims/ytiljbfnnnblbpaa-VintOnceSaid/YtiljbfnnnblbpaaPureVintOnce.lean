/- VintOnce: in one way alone: what is read of any bytes, written again, are the bytes that were read (up to 20,000 bytes, lists of up to 300). For every input. -/
import Derived.Test.YtiljbfnnnblbpaaPSx3
import Derived.Test.YtiljbfnnnblbpaaSQ1
import Derived.OpenShut
namespace Go.Proofs.Ytiljbfnnnblbpaa.Pure
open Go.RowKit Go.Proofs.Ytiljbfnnnblbpaa.PS Go.Proofs.YtiljbfnnnblbpaaW.PrintWords Go.Proofs.YtiljbfnnnblbpaaW.PrintLast Go.Proofs.YtiljbfnnnblbpaaW.PrintMore
set_option linter.unusedVariables false
set_option linter.unusedSimpArgs false


theorem rls_len' : ∀ (n : Nat) (acc : List Int) (s : Vm.St), (Vm.rls n acc s).1.length ≤ acc.length + n := by
  intro n
  induction n with
  | zero => intro acc s; simp [Vm.rls]
  | succ n ih =>
    intro acc s
    simp only [Vm.rls]
    split
    · have := ih (acc ++ [(Vm.rw s).1]) (Vm.rw s).2
      simp only [List.length_append, List.length_cons, List.length_nil] at this
      omega
    · simp
theorem rl_len' (m : Int) (hm : m ≤ 300) (s : Vm.St) : (Vm.rl m s).1.length ≤ 300 := by
  unfold Vm.rl
  split
  · split
    · simp
    · have := rls_len' (Vm.rn s).1 [] (Vm.rn s).2
      simp only [List.length_nil] at this
      omega
  · simp
theorem once_rn (s : List Nat) (h : ∀ x ∈ s, x < 256) (he : (Vm.rn (s, 0)).2.2 = 0) : Vm.enc (Vm.rn (s, 0)).1 ++ (Vm.rn (s, 0)).2.1 = s ∧ (Vm.rn (s, 0)).1 < 9223372036854775808 :=
  Vm.rn_once s h (Vm.rn (s, 0)).1 (Vm.rn (s, 0)).2.1 (Prod.ext rfl (Prod.ext rfl he))
theorem once_rn' (s : Vm.St) (h : Vm.Ok s) (h0 : s.2 = 0) (he : (Vm.rn s).2.2 = 0) : Vm.enc (Vm.rn s).1 ++ (Vm.rn s).2.1 = s.1 := by
  obtain ⟨a, b⟩ := s
  obtain rfl : b = 0 := h0
  exact (once_rn a h.1 he).1
theorem once_rls : ∀ (n : Nat) (acc : List Int) (s : Vm.St), Vm.Ok s → s.2 = 0 → (Vm.rls n acc s).2.2 = 0 → ∃ l, (Vm.rls n acc s).1 = acc ++ l ∧ l.length = n ∧ lenc l ++ (Vm.rls n acc s).2.1 = s.1 ∧ ∀ z ∈ l, Vm.may z := by
  intro n
  induction n with
  | zero => intro acc s _ _ _; exact ⟨[], by simp [Vm.rls], rfl, rfl, by simp⟩
  | succ n ih =>
    intro acc s h h0 he
    simp only [Vm.rls] at he ⊢
    by_cases hw : (Vm.rw s).2.2 = 0
    · rw [if_pos hw] at he ⊢
      obtain ⟨l, h1, h2, h3, h4⟩ := ih (acc ++ [(Vm.rw s).1]) (Vm.rw s).2 (Vm.rw_ok s h).1 hw he
      refine ⟨(Vm.rw s).1 :: l, by rw [h1, List.append_assoc]; rfl, by simp [h2], ?_, ?_⟩
      · rw [lenc_cons, List.append_assoc, h3]
        have h5 := once_rn' s h h0 hw
        show Vm.enc (Vm.fold (Vm.unfold' (Vm.rn s).1)) ++ (Vm.rn s).2.1 = s.1
        rw [Vm.fold_unfold]
        exact h5
      · intro z hz
        rcases List.mem_cons.1 hz with rfl | hz
        · exact Vm.rw_may s h
        · exact h4 z hz
    · rw [if_neg hw] at he
      exact absurd he hw
theorem VintOnce : splicelaw01_VintOnce.Pure := by
  intro s hs
  refine ⟨1000, ?_⟩
  unfold splicelaw01_VintOnce.f
  by_cases h : (s.size : Int) > 20000
  · rw [if_pos h, awake_f _ (by omega)]
  rw [if_neg h]
  have hok : Vm.Ok (nb s, 0) := ok_from s hs
  have hb : ba (nb s) = s := ba_nb s
  have hlen : (nb s).length ≤ 20000 := by rw [nb_len]; omega
  have fN := rnum_g 1000 (by omega) (nb s, 0) hok
  have fZ := rwhole_g 1000 (by omega) (nb s, 0) hok
  have fT := rtext_g 1000 (by omega) 20000 (nb s, 0) hok
  have fL := rlist_g 1000 300 (nb s, 0) hok (by omega) (fun _ h2 => by constructor <;> omega)
  simp only [hb] at fN fZ fT fL
  have e0 : (((nb s, 0) : Vm.St).2 : Int) = 0 := rfl
  rw [show ((0 : Nat) : Int) = 0 from rfl] at fN fZ fT fL
  have hB : onceB 1000 s = true := by
    unfold onceB
    rw [fN, fZ, fT, fL, awake_f _ (by omega)]
    simp only [Bool.and_eq_true]
    have hor : ∀ (e : Nat) (o : Option ByteArray) (r : ByteArray), (e = 0 → okB o r s = true) → (decide ((e : Int) ≠ 0) || okB o r s) = true := by
      intro e o r h
      by_cases he : e = 0
      · rw [h he, Bool.or_true]
      · rw [decide_eq_true (by omega), Bool.true_or]
    refine ⟨⟨⟨hor _ _ _ ?_, hor _ _ _ ?_⟩, hor _ _ _ ?_⟩, hor _ _ _ ?_⟩
    · intro he
      obtain ⟨h1, h2⟩ := once_rn (nb s) hok.1 he
      rw [num_f 1000 (by omega) _ (by omega) (by omega), Int.toNat_natCast]
      simp only [okB]
      rw [ba_append, h1, hb]; simp
    · intro he
      obtain ⟨h1, h2⟩ := once_rn (nb s) hok.1 he
      rw [whole_f 1000 (by omega), if_pos (Vm.rw_may _ hok)]
      simp only [okB]
      have e1 : Vm.fold (Vm.rw (nb s, 0)).1 = (Vm.rn (nb s, 0)).1 := Vm.fold_unfold _
      rw [e1, ba_append]
      have e2 : (Vm.rw (nb s, 0)).2.1 = (Vm.rn (nb s, 0)).2.1 := rfl
      rw [e2, h1, hb]; simp
    · intro he
      have hl := (Vm.rt_ok 20000 (nb s, 0) hok).2.2.1
      rw [text_f 1000 (by omega) _ (by rw [ba_size]; have : (Vm.rt 20000 (nb s, 0)).1.length ≤ (nb s).length := hl; omega), ba_size]
      simp only [okB]
      unfold Vm.rt at he ⊢
      split at he
      · rename_i hn
        obtain ⟨h1, h2⟩ := once_rn (nb s) hok.1 hn
        split at he
        · simp at he
        · split at he
          · simp at he
          · rename_i h3 h4
            rw [if_pos hn, if_neg h3, if_neg h4]
            simp only
            rw [List.length_take, Nat.min_eq_left (by omega), ba_append, ba_append, List.append_assoc, List.take_append_drop, h1, hb]; simp
      · rename_i hn; exact absurd he hn
    · intro he
      have hl300 := rl_len' 300 (by omega) (nb s, 0)
      rw [list_f 1000 _ (by omega) (by omega)]
      simp only [okB]
      unfold Vm.rl at he ⊢
      split at he
      · rename_i hn
        obtain ⟨h1, h2⟩ := once_rn (nb s) hok.1 hn
        split at he
        · simp at he
        · rename_i h3
          obtain ⟨l, g1, g2, g3, g4⟩ := once_rls (Vm.rn (nb s, 0)).1 [] (Vm.rn (nb s, 0)).2 (Vm.rn_ok _ hok).1 hn he
          rw [if_pos hn, if_neg h3, g1, List.nil_append]
          have hm : allMay l = true := by unfold allMay; rw [List.all_eq_true]; exact fun z hz => decide_eq_true (g4 z hz)
          have hlb : listB l = ba (Vm.enc l.length ++ lenc l) := by unfold listB; rw [if_pos hm]
          rw [hlb, g2, ba_append, List.append_assoc, g3, h1, hb]; simp
      · rename_i hn; exact absurd he hn
  rw [if_pos hB]

end Go.Proofs.Ytiljbfnnnblbpaa.Pure
