import Derived.Test.YtbhlphadcphapaaPEx0
import Derived.Test.YtbhlphadcphapaaPEx2
import Derived.Test.YtbhlphadcphapaaPEx5
import Derived.Test.YtbhlphadcphapaaPEx9
import Derived.Test.YtbhlphadcphapaaEQ1
namespace Go.Proofs.Ytbhlphadcphapaa.PE
open Go.RowKit Go.Proofs.YtbhlphadcphapaaW.PrintWords Go.Proofs.YtbhlphadcphapaaW.PrintLast Go.Proofs.YtbhlphadcphapaaW.PrintMore
set_option linter.unusedVariables false
set_option linter.unusedSimpArgs false


/-! ### what a chart that may be is like: no two shards have one number, each key has one owner -/
theorem chain_ge (nx : Int) (l : List S57) : ∀ (d i : Nat) (prev : Int), i + d = l.length → chain0 nx l d i prev = true → ∀ j : Nat, i ≤ j → j < l.length → prev ≤ (rd_T57 l (j : Int)).f1.f0 := by
  intro d
  induction d with
  | zero => intro i prev hi _ j h1 h2; omega
  | succ d ih =>
    intro i prev hi h j h1 h2
    simp only [chain0, elemB, Bool.and_eq_true, decide_eq_true_eq] at h
    by_cases e : j = i
    · subst e; have := h.1.2; omega
    · have h3 := ih (i + 1) _ (by omega) h.2 j (by omega) h2
      have h4 := h.1.1.2.1.2
      have h5 := h.1.2
      omega
theorem chain_sorted (nx : Int) (l : List S57) : ∀ (d i : Nat) (prev : Int), i + d = l.length → chain0 nx l d i prev = true → ∀ p q : Nat, i ≤ p → p < q → q < l.length → (rd_T57 l (p : Int)).f1.f1 ≤ (rd_T57 l (q : Int)).f1.f0 := by
  intro d
  induction d with
  | zero => intro i prev hi _ p q h1 h2 h3; omega
  | succ d ih =>
    intro i prev hi h p q h1 h2 h3
    simp only [chain0, Bool.and_eq_true] at h
    by_cases e : p = i
    · subst e; exact chain_ge nx l d (p + 1) _ (by omega) h.2 q (by omega) h3
    · exact ih (i + 1) _ (by omega) h.2 p q (by omega) h2 h3
theorem onceF_uniq (l : List S57) : ∀ (d i : Nat), onceF l d i = true → ∀ j : Nat, i ≤ j → j < i + d → (l.take j).any (fun o => decide (o.f0 = (rd_T57 l (j : Int)).f0)) = false := by
  intro d
  induction d with
  | zero => intro i _ j h1 h2; omega
  | succ d ih =>
    intro i h j h1 h2
    simp only [onceF] at h
    split at h
    · simp at h
    · rename_i hn
      by_cases e : j = i
      · subst e; exact Bool.eq_false_iff.mpr hn
      · exact ih (i + 1) h j (by omega) (by omega)
theorem ids_apart (l : List S57) (h : onceF l l.length 0 = true) (p q : Nat) (hpq : p < q) (hq : q < l.length) : (rd_T57 l (p : Int)).f0 ≠ (rd_T57 l (q : Int)).f0 := by
  have h1 := onceF_uniq l l.length 0 h q (by omega) (by omega)
  intro e
  rw [List.any_eq_false] at h1
  refine h1 (rd_T57 l (p : Int)) ?_ (decide_eq_true e)
  rw [rd_get l p (by omega)]
  exact List.mem_iff_getElem.2 ⟨p, by rw [List.length_take]; omega, by rw [List.getElem_take]⟩
theorem ixOf_at (p : S57 → Bool) (l : List S57) : ∀ (d i j : Nat), i + d = j → j < l.length → p (rd_T57 l (j : Int)) = true → (∀ m : Nat, i ≤ m → m < j → p (rd_T57 l (m : Int)) = false) → ixOf p (l.drop i) i = (j : Int) := by
  intro d
  induction d with
  | zero =>
    intro i j hi hj h _
    have : i = j := by omega
    subst this
    rw [drop_rd l i hj]
    simp only [ixOf]
    rw [if_pos h]
  | succ d ih =>
    intro i j hi hj h hm
    rw [drop_rd l i (by omega)]
    simp only [ixOf]
    rw [if_neg (by rw [hm i (by omega) (by omega)]; simp)]
    exact ih (i + 1) j (by omega) hj h (fun m h1 h2 => hm m (by omega) h2)
theorem ixOf_p (p : S57 → Bool) (l : List S57) : ∀ (i j : Nat), ixOf p (l.drop i) i = (j : Int) → p (rd_T57 l (j : Int)) = true := by
  intro i
  by_cases hi : i < l.length
  · have key : ∀ (d i j : Nat), i + d = l.length → ixOf p (l.drop i) i = (j : Int) → p (rd_T57 l (j : Int)) = true := by
      intro d
      induction d with
      | zero => intro i j h h1; rw [List.drop_eq_nil_of_le (by omega)] at h1; simp only [ixOf] at h1; omega
      | succ d ih =>
        intro i j h h1
        rw [drop_rd l i (by omega)] at h1
        simp only [ixOf] at h1
        split at h1
        · rename_i h2
          have : i = j := by omega
          subst this; exact h2
        · exact ih (i + 1) j (by omega) h1
    exact fun j => key (l.length - i) i j (by omega)
  · intro j h1
    rw [List.drop_eq_nil_of_le (by omega)] at h1; simp only [ixOf] at h1; omega
structure GoodC (l : List S57) : Prop where
  sorted : ∀ p q : Nat, p < q → q < l.length → (rd_T57 l (p : Int)).f1.f1 ≤ (rd_T57 l (q : Int)).f1.f0
  one : ∀ j : Nat, j < l.length → oneS (rd_T57 l (j : Int)).f1 = true
  apart : ∀ p q : Nat, p < q → q < l.length → (rd_T57 l (p : Int)).f0 ≠ (rd_T57 l (q : Int)).f0
theorem good_of (ep nx : Int) (l : List S57) (h : checkB ep nx l = true) : GoodC l := by
  have h1 := check_one ep nx l h
  simp only [checkB, Bool.and_eq_true] at h
  exact ⟨fun p q h2 h3 => chain_sorted nx l l.length 0 0 (by omega) h.2.1 p q (by omega) h2 h3, fun j hj => h1 _ (by rw [rd_get l j hj]; exact List.getElem_mem _), fun p q h2 h3 => ids_apart l h.2.2 p q h2 h3⟩
theorem find_at (l : List S57) (h : GoodC l) (j : Nat) (hj : j < l.length) : ixOf (fun x => decide (x.f0 = (rd_T57 l (j : Int)).f0)) l 0 = (j : Int) :=
  ixOf_at _ l j 0 j (by omega) hj (by simp) (fun m _ hm => decide_eq_false (h.apart m j hm hj))
theorem owner_at (l : List S57) (h : GoodC l) (j : Nat) (hj : j < l.length) (m : Int) (h1 : (rd_T57 l (j : Int)).f1.f0 ≤ m) (h2 : m < (rd_T57 l (j : Int)).f1.f1) : ixOf (ownP m) l 0 = (j : Int) :=
  ixOf_at _ l j 0 j (by omega) hj (by simp [ownP, h1, h2]) (fun i _ hi => by
    have := h.sorted i j hi hj
    simp only [ownP, Bool.and_eq_false_imp, decide_eq_true_eq, decide_eq_false_iff_not]
    intro _; omega)
theorem atS_nat (l : List S57) (j : Nat) : atS l (j : Int) = ((rd_T57 l (j : Int)).f0, (rd_T57 l (j : Int)).f1.f0, (rd_T57 l (j : Int)).f1.f1, (rd_T57 l (j : Int)).f2, true) := by
  unfold atS; rw [if_neg (by omega)]
theorem mem_rd (l : List S57) (x : S57) (h : x ∈ l) : ∃ j : Nat, j < l.length ∧ rd_T57 l (j : Int) = x := by
  obtain ⟨j, hj, e⟩ := List.mem_iff_getElem.1 h
  exact ⟨j, hj, by rw [rd_get l j hj]; exact e⟩
theorem has_l0 (keys : List S55) (hkl : keys.length ≤ 1000000) (key : Int) : ∀ (d k i : Nat), i + d = keys.length → d < k → spliceref03_Has.l0 k (keys.map rs) key (i : Int) = some ((keys.drop i).any (fun q => oneS q && (decide (q.f0 ≤ key) && decide (key < q.f1)))) := by
  intro d
  induction d with
  | zero =>
    intro k i hi hk
    obtain ⟨k, rfl⟩ : ∃ k', k = k' + 1 := ⟨k - 1, by omega⟩
    rw [spliceref03_Has.l0, List.length_map, if_neg (by omega), List.drop_eq_nil_of_le (by omega)]; rfl
  | succ d ih =>
    intro k i hi hk
    obtain ⟨k, rfl⟩ : ∃ k', k = k' + 1 := ⟨k - 1, by omega⟩
    rw [spliceref03_Has.l0, List.length_map, if_pos (by omega), if_pos (by omega), rd_maps, refone_fs (rd_T55 keys (i : Int)), Option.bind_some, w1c i (by omega), ih k (i + 1) (by omega) (by omega), drop_rds keys i (by omega)]
    simp only [rd_maps, List.any_cons]
    cases h1 : oneS (rd_T55 keys (i : Int))
    · simp
    · rw [if_pos rfl]
      by_cases h2 : key ≥ (rd_T55 keys (i : Int)).f0
      · rw [if_pos h2]
        by_cases h3 : key < (rd_T55 keys (i : Int)).f1
        · rw [if_pos h3]; simp [h3]; omega
        · rw [if_neg h3]; simp [h3]
      · rw [if_neg h2]
        have : ¬ (rd_T55 keys (i : Int)).f0 ≤ key := h2
        simp [this]
theorem has_f (k : Nat) (keys : List S55) (hkl : keys.length ≤ 1000000) (key : Int) (hk : keys.length < k) : spliceref03_Has.f k (keys.map rs) key = some (keys.any (fun q => oneS q && (decide (q.f0 ≤ key) && decide (key < q.f1)))) := by
  have := has_l0 keys hkl key keys.length k 0 (by omega) hk
  rw [show ((0 : Nat) : Int) = 0 from rfl] at this
  unfold spliceref03_Has.f
  rw [this]; rfl
theorem rd_int (l : List Int) (i : Nat) (h : i < l.length) : l.drop i = rd l (i : Int) :: l.drop (i + 1) := by
  unfold rd
  rw [Int.toNat_natCast, List.getD_eq_getElem?_getD, List.getElem?_eq_getElem h]; exact List.drop_eq_getElem_cons h

end Go.Proofs.Ytbhlphadcphapaa.PE
