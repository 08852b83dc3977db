/- VintRows: numbers of 0 or more that are written one behind the other (up to 200 of them) are read one behind the other, and nothing is left. For every input. -/
import Derived.Test.YtiljbfnnnblbpaaPAx4
import Derived.Test.YtiljbfnnnblbpaaQ1
import Derived.Test.YtiljbfnnnblbpaaQ3
import Derived.Test.YtiljbfnnnblbpaaQ4
import Derived.Test.YtiljbfnnnblbpaaQ5
import Derived.OpenShut
namespace Go.Proofs.Ytiljbfnnnblbpaa.Pure
open Go.RowKit Go.Proofs.Ytiljbfnnnblbpaa.PA Go.Proofs.YtiljbfnnnblbpaaW.PrintWords Go.Proofs.YtiljbfnnnblbpaaW.PrintLast Go.Proofs.YtiljbfnnnblbpaaW.PrintMore
set_option linter.unusedVariables false
set_option linter.unusedSimpArgs false

def pick : Nat → List Int → List Nat
  | _, [] => []
  | 0, _ :: _ => []
  | m + 1, z :: l => if 0 ≤ z then z.toNat :: pick m l else pick (m + 1) l
def encs (l : List Nat) : List Nat := l.flatMap Vm.enc
theorem pick_zero (l : List Int) : pick 0 l = [] := by cases l <;> rfl
theorem pick_le (m : Nat) (l : List Int) : (pick m l).length ≤ m ∧ (pick m l).length ≤ l.length := by
  induction l generalizing m with
  | nil => cases m <;> simp [pick]
  | cons z l ih =>
    cases m with
    | zero => simp [pick]
    | succ m =>
      simp only [pick]
      split
      · have := ih m; simp; omega
      · have := ih (m + 1); simp; omega
theorem pick_self (m : Nat) (l : List Int) : pick (pick m l).length l = pick m l := by
  induction l generalizing m with
  | nil => cases m <;> rfl
  | cons z l ih =>
    cases m with
    | zero => rfl
    | succ m =>
      simp only [pick]
      by_cases h : 0 ≤ z
      · rw [if_pos h]
        simp only [List.length_cons, pick]
        rw [if_pos h, ih m]
      · rw [if_neg h]
        have := ih (m + 1)
        cases e : (pick (m + 1) l).length with
        | zero =>
          rw [pick_zero]
          exact (List.eq_nil_of_length_eq_zero e).symm
        | succ j =>
          simp only [pick]
          rw [if_neg h, ← e, this]
theorem end_f (k : Nat) (hk : 30 ≤ k) (m n i : Int) (l : List Int) : splicelaw01_VintRows.j3 k l m n i false (ba []) 0 = some true := by
  obtain ⟨j, rfl⟩ : ∃ j, k = j + 1 := ⟨k - 1, by omega⟩
  simp only [splicelaw01_VintRows.j3]
  rw [if_neg (by decide), awake_f j (by omega)]
  have := rend_g ([], 0)
  simp only [Option.bind_some, if_true]
  rw [show (0 : Int) = ((0 : Nat) : Int) from rfl, this]
  rfl
theorem rows_l1 (l : List Int) (hw : ∀ y ∈ l, (Lit.int .i64 y).wf = true) (hl : l.length ≤ 17592186044416) (m : Nat) (hm : m ≤ 200) : ∀ (d k i n r : Nat), i + d = l.length → 2 * d + 100 ≤ k → n + r = m → (pick r (l.drop i)).length = r →
    splicelaw01_VintRows.l1 k l (m : Int) (n : Int) (i : Int) (ba (encs (pick r (l.drop i)))) 0 = some true := by
  intro d
  induction d with
  | zero =>
    intro k i n r hd hk hr hn
    obtain ⟨j, rfl⟩ : ∃ j, k = j + 1 := ⟨k - 1, by omega⟩
    simp only [splicelaw01_VintRows.l1]
    rw [List.drop_of_length_le (by omega)]
    have : pick r ([] : List Int) = [] := by cases r <;> rfl
    rw [this, if_neg (by omega)]
    exact end_f j (by omega) _ _ _ _
  | succ d ih =>
    intro k i n r hd hk hr hn
    obtain ⟨j, rfl⟩ : ∃ j, k = j + 2 := ⟨k - 2, by omega⟩
    have hd2 : i + 1 + d = l.length := by omega
    have hk2 : 2 * d + 100 ≤ j := by omega
    simp only [splicelaw01_VintRows.l1]
    rw [if_pos (by omega)]
    by_cases hnm : n < m
    · have hrd := rd_drop l i (by omega)
      rw [decide_eq_true (by omega : (n : Int) < (m : Int))]
      simp only [splicelaw01_VintRows.j3]
      rw [if_pos trivial, if_pos (by omega), if_pos (by omega)]
      have hmem : rd l (i : Int) ∈ l := List.mem_of_mem_drop (by rw [hrd]; exact List.mem_cons_self)
      have hb := bounds_i64 (hw _ hmem)
      rw [hrd] at hn ⊢
      obtain ⟨q, rfl⟩ : ∃ q, r = q + 1 := ⟨r - 1, by omega⟩
      simp only [pick] at hn ⊢
      by_cases hz : rd l (i : Int) < 0
      · rw [if_pos hz, w1 i (by omega), if_neg (by omega)]
        rw [if_neg (by omega)] at hn
        exact ih j (i + 1) n (q + 1) hd2 hk2 hr hn
      · rw [if_neg hz, if_pos (by omega)]
        rw [if_pos (by omega)] at hn
        have e3 : encs ((rd l (i : Int)).toNat :: pick q (l.drop (i + 1))) = Vm.enc (rd l (i : Int)).toNat ++ encs (pick q (l.drop (i + 1))) := rfl
        rw [e3]
        have hlt : (rd l (i : Int)).toNat < 9223372036854775808 := by omega
        have h9 : ∀ (y : List Nat), (∀ x ∈ y, x < 9223372036854775808) → (encs y).length ≤ 9 * y.length := by
          intro y
          induction y with
          | nil => intro _; simp [encs]
          | cons a y ih2 =>
            intro hy
            have h1 := Vm.enc_len9 a (hy a (by simp))
            have h2 := ih2 (fun x hx => hy x (by simp [hx]))
            have : encs (a :: y) = Vm.enc a ++ encs y := rfl
            rw [this, List.length_append, List.length_cons]
            omega
        have hpl : ∀ (q : Nat) (y : List Int), (∀ z ∈ y, (Lit.int .i64 z).wf = true) → ∀ x ∈ pick q y, x < 9223372036854775808 := by
          intro q y
          induction y generalizing q with
          | nil => intro _ x hx; cases q <;> simp [pick] at hx
          | cons a y ih2 =>
            intro hy x hx
            cases q with
            | zero => simp [pick] at hx
            | succ q =>
              have h2 : ∀ z ∈ y, (Lit.int .i64 z).wf = true := fun z hz => hy z (by simp [hz])
              simp only [pick] at hx
              split at hx
              · rcases List.mem_cons.1 hx with rfl | hx
                · have := bounds_i64 (hy a (by simp)); omega
                · exact ih2 q h2 x hx
              · exact ih2 (q + 1) h2 x hx
        have hrest := hpl q (l.drop (i + 1)) (fun z hz => hw z (List.mem_of_mem_drop hz))
        have hlen := h9 _ hrest
        have hb256 : ∀ (y : List Nat), ∀ x ∈ encs y, x < 256 := by
          intro y x hx
          simp only [encs, List.mem_flatMap] at hx
          obtain ⟨a, _, ha⟩ := hx
          exact Vm.enc_byte a x ha
        have h9a := Vm.enc_len9 _ hlt
        have hok : Vm.Ok (Vm.enc (rd l (i : Int)).toNat ++ encs (pick q (l.drop (i + 1))), 0) := by
          refine ⟨?_, ?_, Or.inl rfl⟩
          · intro x hx
            rcases List.mem_append.1 hx with hx | hx
            · exact Vm.enc_byte _ x hx
            · exact hb256 _ x hx
          · simp only [List.length_append]
            have := (pick_le q (l.drop (i + 1))).1
            omega
        have hg := rnum_g j (by omega) _ hok
        rw [Vm.rn_enc _ hlt] at hg
        simp only at hg
        rw [show (0 : Int) = ((0 : Nat) : Int) from rfl, hg]
        simp only [Option.bind_some]
        rw [if_pos (by omega), w1 i (by omega), w1 n (by omega)]
        exact ih j (i + 1) (n + 1) q hd2 hk2 (by omega) (by simpa using hn)
    · rw [decide_eq_false (by omega : ¬ (n : Int) < (m : Int))]
      have : r = 0 := by omega
      rw [this, pick_zero]
      exact end_f _ (by omega) _ _ _ _
theorem rows_l0 (l : List Int) (hw : ∀ y ∈ l, (Lit.int .i64 y).wf = true) (hl : l.length ≤ 17592186044416) : ∀ (d k i n : Nat) (acc : List Nat), l.length - i = d → 2 * l.length + 2 * d + 200 ≤ k → i ≤ l.length → n ≤ 200 → acc.length ≤ 9 * n →
    (∀ j, 2 * l.length + 100 ≤ j → splicelaw01_VintRows.l1 j l ((n + (pick (200 - n) (l.drop i)).length : Nat) : Int) 0 0 (ba (acc ++ encs (pick (200 - n) (l.drop i)))) 0 = some true) →
    splicelaw01_VintRows.l0 k l (ba acc) (n : Int) (i : Int) = some true := by
  intro d
  induction d with
  | zero =>
    intro k i n acc hd hk hi hn ha H
    obtain ⟨j, rfl⟩ : ∃ j, k = j + 2 := ⟨k - 2, by omega⟩
    simp only [splicelaw01_VintRows.l0]
    rw [if_neg (by omega)]
    simp only [splicelaw01_VintRows.j1]
    rw [if_neg (by decide)]
    have e : l.drop i = [] := List.drop_of_length_le (by omega)
    have e2 : pick (200 - n) ([] : List Int) = [] := by cases (200 - n) <;> rfl
    rw [e, e2] at H
    have := H j (by omega)
    simpa [vint_From.f, encs] using this
  | succ d ih =>
    intro k i n acc hd hk hi hn ha H
    obtain ⟨j, rfl⟩ : ∃ j, k = j + 2 := ⟨k - 2, by omega⟩
    simp only [splicelaw01_VintRows.l0]
    rw [if_pos (by omega)]
    by_cases hnm : n < 200
    · have hrd := rd_drop l i (by omega)
      have hmem : rd l (i : Int) ∈ l := List.mem_of_mem_drop (by rw [hrd]; exact List.mem_cons_self)
      have hb := bounds_i64 (hw _ hmem)
      rw [decide_eq_true (by omega : (n : Int) < 200)]
      simp only [splicelaw01_VintRows.j1]
      rw [if_pos trivial, if_pos (by omega), if_pos (by omega)]
      obtain ⟨q, hq⟩ : ∃ q, 200 - n = q + 1 := ⟨200 - n - 1, by omega⟩
      rw [hrd, hq] at H
      simp only [pick] at H
      by_cases hz : rd l (i : Int) ≥ 0
      · rw [if_pos hz, num_f j (by omega) _ hz (by omega)]
        rw [if_pos hz] at H
        have h9 := Vm.enc_len9 (rd l (i : Int)).toNat (by omega)
        simp only [Option.bind_some, ba_size]
        rw [if_pos (by omega), ba_append, w1 i (by omega), w1 n (by omega)]
        refine ih j (i + 1) (n + 1) _ (by omega) (by omega) (by omega) (by omega) (by rw [List.length_append]; omega) ?_
        intro j2 hj2
        have e5 : 200 - (n + 1) = q := by omega
        have := H j2 hj2
        rw [e5]
        have e3 : encs ((rd l (i : Int)).toNat :: pick q (l.drop (i + 1))) = Vm.enc (rd l (i : Int)).toNat ++ encs (pick q (l.drop (i + 1))) := rfl
        rw [e3, ← List.append_assoc] at this
        have e6 : n + 1 + (pick q (l.drop (i + 1))).length = n + ((rd l (i : Int)).toNat :: pick q (l.drop (i + 1))).length := by simp only [List.length_cons]; omega
        rw [e6]
        exact this
      · rw [if_neg hz, w1 i (by omega)]
        rw [if_neg hz, ← hq] at H
        exact ih j (i + 1) n acc (by omega) (by omega) (by omega) hn ha H
    · rw [decide_eq_false (by omega : ¬ (n : Int) < 200)]
      simp only [splicelaw01_VintRows.j1]
      rw [if_neg (by decide)]
      have e : 200 - n = 0 := by omega
      rw [e, pick_zero] at H
      have := H j (by omega)
      simpa [vint_From.f, encs] using this
theorem VintRows : splicelaw01_VintRows.Pure := by
  intro l ⟨h8, _, hw⟩
  refine ⟨4 * l.length + 300, ?_⟩
  refine rows_l0 l hw (by omega) (l.length) _ 0 0 [] (by omega) (by omega) (by omega) (by omega) (by simp) ?_
  intro j hj
  simp only [List.drop_zero, Nat.sub_zero, Nat.zero_add, List.nil_append]
  have := rows_l1 l hw (by omega) (pick 200 l).length (pick_le 200 l).1 l.length j 0 0 (pick 200 l).length (by omega) (by omega) (by omega) (by rw [List.drop_zero, pick_self])
  rw [List.drop_zero, pick_self] at this
  exact this

end Go.Proofs.Ytiljbfnnnblbpaa.Pure
