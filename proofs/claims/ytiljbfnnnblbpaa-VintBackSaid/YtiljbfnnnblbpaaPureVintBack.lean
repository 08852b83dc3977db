/- VintBack: what is written is read, whatever stands behind it. For every input. -/
import Derived.Test.YtiljbfnnnblbpaaPAx8
import Derived.Test.YtiljbfnnnblbpaaQ1
import Derived.Test.YtiljbfnnnblbpaaQ2
import Derived.Test.YtiljbfnnnblbpaaQ3
import Derived.Test.YtiljbfnnnblbpaaQ4
import Derived.Test.YtiljbfnnnblbpaaQ5
import Derived.OpenShut
namespace Go.Proofs.Ytiljbfnnnblbpaa.Pure
open Go.RowKit Go.Proofs.Ytiljbfnnnblbpaa.PA Go.Proofs.YtiljbfnnnblbpaaW.PrintWords Go.Proofs.YtiljbfnnnblbpaaW.PrintLast Go.Proofs.YtiljbfnnnblbpaaW.PrintMore
set_option linter.unusedVariables false
set_option linter.unusedSimpArgs false

theorem same_l0 (l : List Int) (hl : l.length ≤ 1000000000) : ∀ (d k i : Nat), i + d = l.length → d + 1 ≤ k → spliceref01_Same.l0 k l l (i : Int) = some true := by
  intro d
  induction d with
  | zero =>
    intro k i hi hk
    obtain ⟨j, rfl⟩ : ∃ j, k = j + 1 := ⟨k - 1, by omega⟩
    simp only [spliceref01_Same.l0]
    rw [if_neg (by omega)]
  | succ d ih =>
    intro k i hi hk
    obtain ⟨j, rfl⟩ : ∃ j, k = j + 1 := ⟨k - 1, by omega⟩
    simp only [spliceref01_Same.l0]
    rw [if_pos (by omega), if_pos (by omega), if_pos (by omega), if_pos trivial, w1 i (by omega)]
    exact ih j (i + 1) (by omega) (by omega)
theorem same_f (l : List Int) (hl : l.length ≤ 1000000000) (k : Nat) (hk : l.length + 1 ≤ k) : spliceref01_Same.f k l l = some true := by
  unfold spliceref01_Same.f
  rw [if_pos rfl]
  exact same_l0 l hl l.length k 0 (by omega) hk
theorem lenc_eq (l : List Int) : lenc l = Vm.lencs l := rfl
theorem behind_ba : (⟨#[98, 101, 104, 105, 110, 100]⟩ : ByteArray) = ba [98, 101, 104, 105, 110, 100] := rfl
theorem lenc_byte (l : List Int) : ∀ x ∈ Vm.lencs l, x < 256 := by
  intro x hx
  simp only [Vm.lencs, List.mem_flatMap] at hx
  obtain ⟨a, _, ha⟩ := hx
  exact Vm.enc_byte _ x ha
theorem lenc_len (l : List Int) (h : ∀ z ∈ l, Vm.may z) : (Vm.lencs l).length ≤ 9 * l.length := by
  induction l with
  | nil => simp [Vm.lencs]
  | cons a y ih2 =>
    have h1 := Vm.enc_len9 _ (Vm.fold_lt a (h a (by simp)))
    have h2 := ih2 (fun x hx => h x (by simp [hx]))
    have : Vm.lencs (a :: y) = Vm.enc (Vm.fold a) ++ Vm.lencs y := rfl
    rw [this, List.length_append, List.length_cons]
    omega
theorem back_end (k : Nat) (z : Int) (s : ByteArray) (l : List Int) (hk : l.length + 200 ≤ k) (hs : s.size ≤ 20000) (hl : l.length ≤ 300) (hz : Vm.may z) (hm : ∀ y ∈ l, Vm.may y) :
    splicelaw01_VintBack.l0 k z s l true (l.length : Int) = some true := by
  obtain ⟨j, rfl⟩ : ∃ j, k = j + 1 := ⟨k - 1, by omega⟩
  have hall : allMay l = true := by unfold allMay; rw [List.all_eq_true]; intro y hy; exact decide_eq_true (hm y hy)
  simp only [splicelaw01_VintBack.l0]
  rw [if_neg (by omega), if_pos trivial, whole_f j (by omega), if_pos hz, text_f j (by omega) s (by omega), list_f j l (by omega) (by omega)]
  unfold listB
  rw [if_pos hall, lenc_eq]
  have h1 := Vm.enc_len9 _ (Vm.fold_lt z hz)
  have h2 := Vm.enc_len9 s.size (by omega)
  have h3 := Vm.enc_len9 l.length (by omega)
  have h4 := lenc_len l hm
  have hn := nb_len s
  have es : s = ba (nb s) := (ba_nb s).symm
  have eb : ba (Vm.enc s.size) ++ s = ba (Vm.enc s.size ++ nb s) := by
    rw [← ba_append, ba_nb]
  rw [eb]
  simp only [Option.bind_some, ba_append, ba_size]
  rw [if_pos (by simp only [List.length_append]; omega), if_pos (by simp only [List.length_append]; omega)]
  have ef : vint_Flag.f true = some (ba [1]) := rfl
  rw [ef]
  simp only [Option.bind_some, ba_append, ba_size]
  rw [if_pos (by simp only [List.length_append, List.length_cons, List.length_nil]; omega), if_pos (by simp only [List.length_append, List.length_cons, List.length_nil]; omega)]
  rw [behind_ba, ba_append]
  have ev : ∀ x : List Nat, vint_From.f (ba x) = some (ba x, ((0 : Nat) : Int)) := fun _ => rfl
  rw [ev]
  simp only [Option.bind_some]
  have q0 : ((((Vm.enc (Vm.fold z) ++ (Vm.enc s.size ++ nb s)) ++ (Vm.enc l.length ++ Vm.lencs l)) ++ [1]) ++ [98, 101, 104, 105, 110, 100]) = Vm.enc (Vm.fold z) ++ (Vm.enc (nb s).length ++ (nb s ++ (Vm.enc l.length ++ (Vm.lencs l ++ (1 :: [98, 101, 104, 105, 110, 100]))))) := by
    rw [hn]; simp only [List.append_assoc, List.singleton_append]
  rw [q0]
  have k4 : Vm.Ok (1 :: [98, 101, 104, 105, 110, 100], 0) := by
    refine ⟨?_, by simp, Or.inl rfl⟩
    intro x hx
    simp only [List.mem_cons, List.not_mem_nil, or_false] at hx
    omega
  have mk : ∀ (a b : List Nat), (∀ x ∈ a, x < 256) → a.length ≤ 100000 → b.length ≤ 10000000 → Vm.Ok (b, 0) → Vm.Ok (a ++ b, 0) := by
    intro a b ha hla hlb hb
    refine ⟨?_, ?_, Or.inl rfl⟩
    · intro x hx
      rcases List.mem_append.1 hx with hx | hx
      · exact ha x hx
      · exact hb.1 x hx
    · simp only [List.length_append]; omega
  have k3b := mk _ _ (lenc_byte l) (by omega) (by simp) k4
  have k3 := mk _ _ (Vm.enc_byte l.length) (by omega) (by simp only [List.length_append, List.length_cons, List.length_nil]; omega) k3b
  have k2b := mk _ _ (nb_lt s) (by omega) (by simp only [List.length_append, List.length_cons, List.length_nil]; omega) k3
  have k2 := mk _ _ (Vm.enc_byte (nb s).length) (by rw [hn]; omega) (by simp only [List.length_append, List.length_cons, List.length_nil]; omega) k2b
  have k1 := mk _ _ (Vm.enc_byte (Vm.fold z)) (by omega) (by rw [← hn] at h2; simp only [List.length_append, List.length_cons, List.length_nil]; omega) k2
  have g1 := rwhole_g j (by omega) _ k1
  rw [Vm.rw_enc z hz] at g1
  simp only at g1
  rw [g1]
  simp only [Option.bind_some]
  have g2 := rtext_g j (by omega) (s.size : Int) _ k2
  rw [Vm.rt_enc (nb s) _ (by omega) (by omega)] at g2
  simp only at g2
  rw [g2]
  simp only [Option.bind_some]
  have g3 := rlist_g j (l.length : Int) _ k3 (by omega) (by rw [Vm.rn_enc _ (by omega)]; intro _ _; exact ⟨by show l.length + 60 ≤ j; omega, by show l.length ≤ _; omega⟩)
  rw [Vm.rl_enc l _ (by omega) (by omega) hm] at g3
  simp only at g3
  rw [g3]
  simp only [Option.bind_some]
  have g4 := rflag_g _ k4
  have g5 : Vm.rf (1 :: [98, 101, 104, 105, 110, 100], 0) = (true, [98, 101, 104, 105, 110, 100], 0) := rfl
  rw [g5] at g4
  simp only at g4
  rw [g4]
  simp only [Option.bind_some]
  rw [awake_f j (by omega)]
  simp only [Option.bind_some, if_true]
  rw [ba_nb, if_pos rfl, same_f l (by omega) j (by omega)]
  simp only [Option.bind_some, if_true]
  unfold vint_Reader_Left.f
  simp only [Option.bind_some, ba_toList]
  rfl
theorem back_off (k : Nat) (z : Int) (s : ByteArray) (l : List Int) (hl : l.length ≤ 300) : ∀ (d i : Nat), i + d = l.length → d + 30 ≤ k →
    splicelaw01_VintBack.l0 k z s l false (i : Int) = some true := by
  induction k with
  | zero => intro d i _ h; omega
  | succ k ih =>
    intro d i hi hk
    simp only [splicelaw01_VintBack.l0]
    by_cases h : i < l.length
    · rw [if_pos (by omega), if_neg (by decide), w1 i (by omega)]
      exact ih (d - 1) (i + 1) (by omega) (by omega)
    · rw [if_neg (by omega), if_neg (by decide), awake_f k (by omega)]
      rfl
theorem back_l0 (z : Int) (s : ByteArray) (l : List Int) (hs : s.size ≤ 20000) (hl : l.length ≤ 300) (hz : Vm.may z) : ∀ (d k i : Nat), i + d = l.length → l.length + d + 230 ≤ k → (∀ y ∈ l.take i, Vm.may y) →
    splicelaw01_VintBack.l0 k z s l true (i : Int) = some true := by
  intro d
  induction d with
  | zero =>
    intro k i hi hk hm
    have : i = l.length := by omega
    subst this
    exact back_end k z s l (by omega) hs hl hz (by rw [List.take_length] at hm; exact hm)
  | succ d ih =>
    intro k i hi hk hm
    obtain ⟨j, rfl⟩ : ∃ j, k = j + 1 := ⟨k - 1, by omega⟩
    simp only [splicelaw01_VintBack.l0]
    rw [if_pos (by omega), if_pos trivial, if_pos (by omega), refmay_f, w1 i (by omega)]
    simp only [Option.bind_some]
    by_cases h : Vm.may (rd l (i : Int))
    · rw [decide_eq_true h]
      refine ih j (i + 1) (by omega) (by omega) ?_
      intro y hy
      have hlt : i < l.length := by omega
      rw [List.take_succ_eq_append_getElem hlt] at hy
      rcases List.mem_append.1 hy with hy | hy
      · exact hm y hy
      · have hrd : rd l (i : Int) = l[i] := by
          have := rd_drop l i hlt
          rw [List.drop_eq_getElem_cons hlt] at this
          exact (List.cons.inj this).1.symm
        simp only [List.mem_singleton] at hy
        rw [hy, ← hrd]
        exact h
    · rw [decide_eq_false h]
      exact back_off j z s l hl d (i + 1) (by omega) (by omega)
theorem VintBack : splicelaw01_VintBack.Pure := by
  intro z s l hz hs ⟨h8, _, hw⟩
  by_cases hg : s.size ≤ 20000 ∧ l.length ≤ 300
  · refine ⟨1000, ?_⟩
    unfold splicelaw01_VintBack.f
    rw [if_neg (by omega), decide_eq_false (by omega)]
    simp only [splicelaw01_VintBack.j0]
    rw [if_neg (by decide), refmay_f]
    simp only [Option.bind_some]
    by_cases h : Vm.may z
    · rw [decide_eq_true h]
      exact back_l0 z s l hg.1 hg.2 h l.length _ 0 (by omega) (by omega) (by simp)
    · rw [decide_eq_false h]
      exact back_off _ z s l hg.2 l.length 0 (by omega) (by omega)
  · refine ⟨100, ?_⟩
    unfold splicelaw01_VintBack.f
    have aw : splicelaw01_VintBack.j0 100 z s l true = some true := by
      simp only [splicelaw01_VintBack.j0]
      rw [awake_f _ (by omega)]
      rfl
    by_cases h1 : (s.size : Int) > 20000
    · rw [if_pos h1]; exact aw
    · rw [if_neg h1, decide_eq_true (by omega)]; exact aw

end Go.Proofs.Ytiljbfnnnblbpaa.Pure
