/- VintFirst: the first error stays: behind it nothing is read, and nothing is left. For every input. -/
import Derived.Test.YtiljbfnnnblbpaaPFx0
import Derived.Test.YtiljbfnnnblbpaaPFx1
import Derived.Test.YtiljbfnnnblbpaaPFx3
import Derived.Test.YtiljbfnnnblbpaaFQ1
import Derived.OpenShut
namespace Go.Proofs.Ytiljbfnnnblbpaa.Pure
open Go.RowKit Go.Proofs.Ytiljbfnnnblbpaa.PF Go.Proofs.YtiljbfnnnblbpaaW.PrintWords Go.Proofs.YtiljbfnnnblbpaaW.PrintLast Go.Proofs.YtiljbfnnnblbpaaW.PrintMore
set_option linter.unusedVariables false
set_option linter.unusedSimpArgs false


theorem first_l1 (l : List S46) (e : Nat) (he : e = 3 ∨ e = 5) : ∀ (d k i : Nat), d = 20 - i → i ≤ 20 → 2 * d + 100 ≤ k → l.length < 4611686018427387904 →
    splicelaw01_VintFirst.l1 k l (e : Int) (i : Int) (ba []) (e : Int) = some true := by
  have hok : Vm.Ok ([], e) := Vm.nil_ok e (by omega)
  have hne : (([], e) : Vm.St).2 ≠ 0 := by show e ≠ 0; omega
  obtain ⟨b1, b2, b3, b4, b5, b6⟩ := Vm.bad ([], e) hne
  have fin : ∀ k i, 30 ≤ k → splicelaw01_VintFirst.j3 k l (e : Int) i false (ba []) (e : Int) = some true := by
    intro k i hk
    obtain ⟨j, rfl⟩ : ∃ j, k = j + 1 := ⟨k - 1, by omega⟩
    simp only [splicelaw01_VintFirst.j3]
    rw [if_neg (by decide), awake_f j (by omega)]
    rfl
  intro d
  induction d with
  | zero =>
    intro k i hd hi hk hl
    obtain ⟨j, rfl⟩ : ∃ j, k = j + 2 := ⟨k - 2, by omega⟩
    simp only [splicelaw01_VintFirst.l1]
    by_cases h : (i : Int) < (l.length : Int)
    · rw [if_pos h, decide_eq_false (by omega)]
      exact fin _ _ (by omega)
    · rw [if_neg h]
      exact fin _ _ (by omega)
  | succ d ih =>
    intro k i hd hi hk hl
    obtain ⟨j, rfl⟩ : ∃ j, k = j + 2 := ⟨k - 2, by omega⟩
    simp only [splicelaw01_VintFirst.l1]
    by_cases h : (i : Int) < (l.length : Int)
    · rw [if_pos h, decide_eq_true (by omega)]
      simp only [splicelaw01_VintFirst.j3]
      have g1 := rnum_g j (by omega) _ hok
      rw [b1] at g1
      have g2 := rwhole_g j (by omega) _ hok
      rw [b2] at g2
      have g3 := rflag_g _ hok
      rw [b3] at g3
      have g4 := rtext_g j (by omega) (rd_T46 l (i : Int)).f1 _ hok
      rw [b4] at g4
      have g5 := rlist_g j (rd_T46 l (i : Int)).f1 _ hok (by omega) (by rw [b1]; intro h; exact absurd h hne)
      rw [b5] at g5
      have g6 := rend_g ([], e)
      rw [b6] at g6
      simp only at g1 g2 g3 g4 g5 g6
      rw [if_pos trivial, g1]
      simp only [Option.bind_some]
      rw [if_pos (by rfl), g2]
      simp only [Option.bind_some]
      rw [if_pos trivial, g3]
      simp only [Option.bind_some]
      rw [if_neg (by decide), if_pos (by omega), if_pos h, g4]
      simp only [Option.bind_some]
      rw [if_pos ((ba_nil_iff []).2 rfl), g5]
      simp only [Option.bind_some]
      rw [if_pos (by rfl)]
      unfold vint_Reader_Err.f
      simp only [Option.bind_some]
      rw [if_pos trivial, g6]
      simp only [Option.bind_some]
      rw [if_pos trivial]
      unfold vint_Reader_Left.f
      simp only [Option.bind_some]
      rw [if_pos ((ba_nil_iff []).2 rfl), w1 i (by omega)]
      exact ih j (i + 1) (by omega) (by omega) (by omega) hl
    · rw [if_neg h]
      exact fin _ _ (by omega)
theorem first_j1 (l : List S46) (hl : l.length < 4611686018427387904) (s : Vm.St) (hok : Vm.Ok s) (hs : s.1 = [] ∧ (s.2 = 0 ∨ s.2 = 3 ∨ s.2 = 5)) (k : Nat) (hk : 300 ≤ k) :
    splicelaw01_VintFirst.j1 k l (ba s.1) (s.2 : Int) = some true := by
  obtain ⟨x, e⟩ := s
  obtain ⟨hx, he⟩ := hs
  simp only at hx he
  subst hx
  obtain ⟨j, rfl⟩ : ∃ j, k = j + 1 := ⟨k - 1, by omega⟩
  simp only [splicelaw01_VintFirst.j1]
  have g1 := rnum_g j (by omega) _ hok
  have : ∃ e2, Vm.rn ([], e) = (0, [], e2) ∧ (e2 = 3 ∨ e2 = 5) := by
    by_cases h0 : e = 0
    · subst h0; exact ⟨5, rfl, by omega⟩
    · refine ⟨e, ?_, by omega⟩
      unfold Vm.rn; rw [if_neg h0]
  obtain ⟨e2, h2, h3⟩ := this
  rw [h2] at g1
  simp only at g1
  rw [g1]
  unfold vint_Reader_Err.f
  simp only [Option.bind_some]
  rw [if_neg (by omega)]
  exact first_l1 l e2 h3 20 j 0 (by omega) (by omega) (by omega) hl
theorem first_l0 (l : List S46) (hl : l.length < 4611686018427387904) : ∀ (d k : Nat) (s : Vm.St), Vm.Ok s → (s.2 = 0 ∨ s.1 = [] ∧ (s.2 = 3 ∨ s.2 = 5)) → s.1.length ≤ d → d + 400 ≤ k → splicelaw01_VintFirst.l0 k l (ba s.1) (s.2 : Int) = some true := by
  intro d
  induction d with
  | zero =>
    intro k s hok hs hd hk
    obtain ⟨j, rfl⟩ : ∃ j, k = j + 1 := ⟨k - 1, by omega⟩
    have hx : s.1 = [] := List.eq_nil_of_length_eq_zero (by omega)
    simp only [splicelaw01_VintFirst.l0]
    unfold vint_Reader_Err.f vint_Reader_Left.f
    simp only [Option.bind_some]
    by_cases h0 : (s.2 : Int) = 0
    · rw [if_pos h0, if_pos ((ba_nil_iff _).2 hx)]
      exact first_j1 l hl s hok ⟨hx, by omega⟩ j (by omega)
    · rw [if_neg h0]
      exact first_j1 l hl s hok ⟨hx, by omega⟩ j (by omega)
  | succ d ih =>
    intro k s hok hs hd hk
    obtain ⟨j, rfl⟩ : ∃ j, k = j + 1 := ⟨k - 1, by omega⟩
    simp only [splicelaw01_VintFirst.l0]
    unfold vint_Reader_Err.f vint_Reader_Left.f
    simp only [Option.bind_some]
    by_cases h0 : (s.2 : Int) = 0
    · have h00 : s.2 = 0 := by omega
      rw [if_pos h0]
      by_cases hx : s.1 = []
      · rw [if_pos ((ba_nil_iff _).2 hx)]
        exact first_j1 l hl s hok ⟨hx, by omega⟩ j (by omega)
      · rw [if_neg (fun h => hx ((ba_nil_iff _).1 h)), rnum_g j (by omega) s hok]
        simp only [Option.bind_some]
        have hlt : 0 < s.1.length := by
          cases e : s.1 with
          | nil => exact absurd e hx
          | cons a b => simp
        have e1 : Vm.rn s = ((Vm.dec s.1).2.1, (Vm.dec s.1).2.2, (Vm.dec s.1).1) := by unfold Vm.rn; rw [if_pos h00]
        refine ih j _ (Vm.rn_ok s hok).1 ?_ ?_ (by omega)
        · rw [e1]
          by_cases hd0 : (Vm.dec s.1).1 = 0
          · exact Or.inl hd0
          · have := Vm.dec_err s.1 hd0
            refine Or.inr ⟨?_, this.2⟩
            show (Vm.dec s.1).2.2 = []
            rw [this.1]
        · rw [e1]
          show (Vm.dec s.1).2.2.length ≤ d
          by_cases hd0 : (Vm.dec s.1).1 = 0
          · have := Vm.dec_left s.1 hd0; omega
          · rw [(Vm.dec_err s.1 hd0).1]; simp
    · have hx : s.1 = [] := by rcases hs with h | h; omega; exact h.1
      rw [if_neg h0]
      exact first_j1 l hl s hok ⟨hx, by omega⟩ j (by omega)
theorem VintFirst : splicelaw01_VintFirst.Pure := by
  intro s l hs ⟨h8, _, hw⟩
  refine ⟨s.size + 500, ?_⟩
  unfold splicelaw01_VintFirst.f
  by_cases h : (s.size : Int) > 20000
  · rw [if_pos h, awake_f _ (by omega)]; rfl
  · rw [if_neg h, rfrom_g]
    simp only [Option.bind_some]
    exact first_l0 l (by omega) s.size _ (nb s, 0) (ok_from s hs) (Or.inl rfl) (by show (nb s).length ≤ _; rw [nb_len]; omega) (by omega)

end Go.Proofs.Ytiljbfnnnblbpaa.Pure
