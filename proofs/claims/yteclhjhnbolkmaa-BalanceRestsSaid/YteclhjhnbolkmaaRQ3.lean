import Derived.Test.YteclhjhnbolkmaaPRx0
import Derived.Test.YteclhjhnbolkmaaPRx2
import Derived.Test.YteclhjhnbolkmaaPRx5
import Derived.Test.YteclhjhnbolkmaaPRx9
import Derived.Test.YteclhjhnbolkmaaRQ1
import Derived.Test.YteclhjhnbolkmaaRQ2
namespace Go.Proofs.Yteclhjhnbolkmaa.PR
open Go.RowKit Go.Proofs.YteclhjhnbolkmaaW.PrintWords Go.Proofs.YteclhjhnbolkmaaW.PrintLast Go.Proofs.YteclhjhnbolkmaaW.PrintMore
set_option linter.unusedVariables false
set_option linter.unusedSimpArgs false


/-! ### what a chart that may be is like: no two shards have one number, each key has one owner -/
theorem chain_ge (nx : Int) (l : List S67) : ∀ (d i : Nat) (prev : Int), i + d = l.length → chain0 nx l d i prev = true → ∀ j : Nat, i ≤ j → j < l.length → prev ≤ (rd_T67 l (j : Int)).f1.f0 := by
  intro d
  induction d with
  | zero => intro i prev hi _ j h1 h2; omega
  | succ d ih =>
    intro i prev hi h j h1 h2
    simp only [chain0, elemB, Bool.and_eq_true, decide_eq_true_eq] at h
    by_cases e : j = i
    · subst e; have := h.1.2; omega
    · have h3 := ih (i + 1) _ (by omega) h.2 j (by omega) h2
      have h4 := h.1.1.2.1.2
      have h5 := h.1.2
      omega
theorem chain_sorted (nx : Int) (l : List S67) : ∀ (d i : Nat) (prev : Int), i + d = l.length → chain0 nx l d i prev = true → ∀ p q : Nat, i ≤ p → p < q → q < l.length → (rd_T67 l (p : Int)).f1.f1 ≤ (rd_T67 l (q : Int)).f1.f0 := by
  intro d
  induction d with
  | zero => intro i prev hi _ p q h1 h2 h3; omega
  | succ d ih =>
    intro i prev hi h p q h1 h2 h3
    simp only [chain0, Bool.and_eq_true] at h
    by_cases e : p = i
    · subst e; exact chain_ge nx l d (p + 1) _ (by omega) h.2 q (by omega) h3
    · exact ih (i + 1) _ (by omega) h.2 p q (by omega) h2 h3
theorem onceF_uniq (l : List S67) : ∀ (d i : Nat), onceF l d i = true → ∀ j : Nat, i ≤ j → j < i + d → (l.take j).any (fun o => decide (o.f0 = (rd_T67 l (j : Int)).f0)) = false := by
  intro d
  induction d with
  | zero => intro i _ j h1 h2; omega
  | succ d ih =>
    intro i h j h1 h2
    simp only [onceF] at h
    split at h
    · simp at h
    · rename_i hn
      by_cases e : j = i
      · subst e; exact Bool.eq_false_iff.mpr hn
      · exact ih (i + 1) h j (by omega) (by omega)
theorem ids_apart (l : List S67) (h : onceF l l.length 0 = true) (p q : Nat) (hpq : p < q) (hq : q < l.length) : (rd_T67 l (p : Int)).f0 ≠ (rd_T67 l (q : Int)).f0 := by
  have h1 := onceF_uniq l l.length 0 h q (by omega) (by omega)
  intro e
  rw [List.any_eq_false] at h1
  refine h1 (rd_T67 l (p : Int)) ?_ (decide_eq_true e)
  rw [rd_get l p (by omega)]
  exact List.mem_iff_getElem.2 ⟨p, by rw [List.length_take]; omega, by rw [List.getElem_take]⟩
theorem ixOf_at (p : S67 → Bool) (l : List S67) : ∀ (d i j : Nat), i + d = j → j < l.length → p (rd_T67 l (j : Int)) = true → (∀ m : Nat, i ≤ m → m < j → p (rd_T67 l (m : Int)) = false) → ixOf p (l.drop i) i = (j : Int) := by
  intro d
  induction d with
  | zero =>
    intro i j hi hj h _
    have : i = j := by omega
    subst this
    rw [drop_rd l i hj]
    simp only [ixOf]
    rw [if_pos h]
  | succ d ih =>
    intro i j hi hj h hm
    rw [drop_rd l i (by omega)]
    simp only [ixOf]
    rw [if_neg (by rw [hm i (by omega) (by omega)]; simp)]
    exact ih (i + 1) j (by omega) hj h (fun m h1 h2 => hm m (by omega) h2)
theorem ixOf_p (p : S67 → Bool) (l : List S67) : ∀ (i j : Nat), ixOf p (l.drop i) i = (j : Int) → p (rd_T67 l (j : Int)) = true := by
  intro i
  by_cases hi : i < l.length
  · have key : ∀ (d i j : Nat), i + d = l.length → ixOf p (l.drop i) i = (j : Int) → p (rd_T67 l (j : Int)) = true := by
      intro d
      induction d with
      | zero => intro i j h h1; rw [List.drop_eq_nil_of_le (by omega)] at h1; simp only [ixOf] at h1; omega
      | succ d ih =>
        intro i j h h1
        rw [drop_rd l i (by omega)] at h1
        simp only [ixOf] at h1
        split at h1
        · rename_i h2
          have : i = j := by omega
          subst this; exact h2
        · exact ih (i + 1) j (by omega) h1
    exact fun j => key (l.length - i) i j (by omega)
  · intro j h1
    rw [List.drop_eq_nil_of_le (by omega)] at h1; simp only [ixOf] at h1; omega
structure GoodC (l : List S67) : Prop where
  sorted : ∀ p q : Nat, p < q → q < l.length → (rd_T67 l (p : Int)).f1.f1 ≤ (rd_T67 l (q : Int)).f1.f0
  one : ∀ j : Nat, j < l.length → oneS (rd_T67 l (j : Int)).f1 = true
  apart : ∀ p q : Nat, p < q → q < l.length → (rd_T67 l (p : Int)).f0 ≠ (rd_T67 l (q : Int)).f0
theorem good_of (ep nx : Int) (l : List S67) (h : checkB ep nx l = true) : GoodC l := by
  have h1 := check_one ep nx l h
  simp only [checkB, Bool.and_eq_true] at h
  exact ⟨fun p q h2 h3 => chain_sorted nx l l.length 0 0 (by omega) h.2.1 p q (by omega) h2 h3, fun j hj => h1 _ (by rw [rd_get l j hj]; exact List.getElem_mem _), fun p q h2 h3 => ids_apart l h.2.2 p q h2 h3⟩
theorem find_at (l : List S67) (h : GoodC l) (j : Nat) (hj : j < l.length) : ixOf (fun x => decide (x.f0 = (rd_T67 l (j : Int)).f0)) l 0 = (j : Int) :=
  ixOf_at _ l j 0 j (by omega) hj (by simp) (fun m _ hm => decide_eq_false (h.apart m j hm hj))
theorem atS_nat (l : List S67) (j : Nat) : atS l (j : Int) = ((rd_T67 l (j : Int)).f0, (rd_T67 l (j : Int)).f1.f0, (rd_T67 l (j : Int)).f1.f1, (rd_T67 l (j : Int)).f2, true) := by
  unfold atS; rw [if_neg (by omega)]
theorem mem_rd (l : List S67) (x : S67) (h : x ∈ l) : ∃ j : Nat, j < l.length ∧ rd_T67 l (j : Int) = x := by
  obtain ⟨j, hj, e⟩ := List.mem_iff_getElem.1 h
  exact ⟨j, hj, by rw [rd_get l j hj]; exact e⟩
theorem rd_int (l : List Int) (i : Nat) (h : i < l.length) : l.drop i = rd l (i : Int) :: l.drop (i + 1) := by
  unfold rd
  rw [Int.toNat_natCast, List.getD_eq_getElem?_getD, List.getElem?_eq_getElem h]; exact List.drop_eq_getElem_cons h

/-! ### charts one behind the other -/
theorem tmod_b (a m : Int) (hm : 0 < m) : -m < Int.tmod a m ∧ Int.tmod a m < m := by
  have h1 := Int.tmod_lt_of_pos a hm
  have h2 := Int.tmod_lt_of_pos (-a) hm
  rw [Int.neg_tmod] at h2
  omega
theorem two_mod (a m : Int) (hm : 0 < m) (hb : m ≤ 1000000) : 0 ≤ Int.tmod (wrap64 (Int.tmod a m + m)) m ∧ Int.tmod (wrap64 (Int.tmod a m + m)) m < m := by
  have h1 := tmod_b a m hm
  generalize Int.tmod a m = b at h1
  have h2 : wrap64 (b + m) = b + m := by unfold wrap64; omega
  rw [h2, Int.tmod_eq_emod_of_nonneg (by omega)]
  exact ⟨Int.emod_nonneg _ (by omega), Int.emod_lt_of_pos _ hm⟩
theorem rdc_get (l : List S24) (i : Nat) (h : i < l.length) : rd_T24 l (i : Int) = l[i] := by
  unfold rd_T24
  rw [Int.toNat_natCast, List.getD_eq_getElem?_getD, List.getElem?_eq_getElem h]; rfl
theorem rdc_old (l : List S24) (x : S24) (i : Nat) (h : i < l.length) : rd_T24 (l ++ [x]) (i : Int) = rd_T24 l (i : Int) := by
  rw [rdc_get _ _ (by simp; omega), rdc_get _ _ h, List.getElem_append_left h]
theorem rdc_new (l : List S24) (x : S24) : rd_T24 (l ++ [x]) (l.length : Int) = x := by
  rw [rdc_get _ _ (by simp)]
  simp
/-- charts one behind the other, each made of the one ahead of it by a change -/
structure Wk (p : List S24) : Prop where
  ne : 1 ≤ p.length
  chk : ∀ i : Nat, i < p.length → checkB (rd_T24 p (i : Int)).f0 (rd_T24 p (i : Int)).f1 (rd_T24 p (i : Int)).f2 = true
  ep : ∀ i : Nat, i < p.length → (rd_T24 p (i : Int)).f0 = (i : Int) + 1
  st : ∀ i : Nat, i + 1 < p.length → ∃ kd id at_ old fresh, applyS (rd_T24 p (i : Int)).f0 (rd_T24 p (i : Int)).f1 (rd_T24 p (i : Int)).f2 kd id at_ = ((rd_T24 p ((i + 1 : Nat) : Int)).f0, (rd_T24 p ((i + 1 : Nat) : Int)).f1, (rd_T24 p ((i + 1 : Nat) : Int)).f2, old, fresh, 0)
  fst : ∀ id : Int, 1 ≤ id → id < (rd_T24 p 0).f1 → ∃ x ∈ (rd_T24 p 0).f2, x.f0 = id
theorem check_len (ep nx : Int) (l : List S67) (h : checkB ep nx l = true) : 1 ≤ l.length ∧ l.length ≤ 24 ∧ 1 ≤ ep ∧ ep ≤ 1073741824 ∧ 1 ≤ nx ∧ nx ≤ 65537 := by
  simp only [checkB, headB, Bool.and_eq_true, Bool.not_eq_true', decide_eq_false_iff_not] at h
  obtain ⟨⟨⟨⟨⟨⟨h1, h2⟩, h3⟩, h4⟩, h5⟩, h6⟩, _⟩ := h
  omega
/-- what a change that could be made has made -/
theorem apply_ok (ep nx : Int) (l : List S67) (kd id at_ : Int) (ep' nx' : Int) (l' old fresh : List S67) (h : applyS ep nx l kd id at_ = (ep', nx', l', old, fresh, 0)) (hc : checkB ep nx l = true) :
    checkB ep' nx' l' = true ∧ ep' = ep + 1 ∧ ∃ j : Nat, j < l.length ∧ (rd_T67 l (j : Int)).f0 = id ∧ mayChange kd at_ = true ∧ (chg nx kd at_ l j).2.2 = 0 ∧ fresh = (chg nx kd at_ l j).2.1 ∧ old = (l.drop j).take (chg nx kd at_ l j).1 ∧ nx' = nx + fresh.length ∧ l' = l.take j ++ fresh ++ l.drop (j + (chg nx kd at_ l j).1) := by
  have hl := check_len ep nx l hc
  unfold applyS at h
  rw [if_pos hc] at h
  by_cases h1 : mayChange kd at_ = true
  case neg => rw [if_neg h1] at h; simp at h
  rw [if_pos h1] at h
  have hr := ixOf_range (fun x => decide (x.f0 = id)) l 0
  by_cases h2 : ixOf (fun x => decide (x.f0 = id)) l 0 < 0
  · rw [if_pos h2] at h; simp at h
  rw [if_neg h2] at h
  obtain ⟨j, hj⟩ : ∃ j : Nat, ixOf (fun x => decide (x.f0 = id)) l 0 = (j : Int) := ⟨(ixOf (fun x => decide (x.f0 = id)) l 0).toNat, by omega⟩
  have hjl : j < l.length := by omega
  have hp := ixOf_p (fun x => decide (x.f0 = id)) l 0 j (by rw [List.drop_zero]; exact hj)
  rw [hj, Int.toNat_natCast] at h
  by_cases h3 : (chg nx kd at_ l j).2.2 = 0
  case neg => rw [if_neg h3] at h; simp only [Prod.mk.injEq] at h; exact absurd h.2.2.2.2.2 h3
  rw [if_pos h3] at h
  split at h
  case isFalse => simp at h
  rename_i h4
  simp only [Prod.mk.injEq] at h
  obtain ⟨e1, e2, e3, e4, e5, _⟩ := h
  have hcl := chg_len nx kd at_ l j
  have w1 : wrap64 (ep + 1) = ep + 1 := by unfold wrap64; omega
  have w2 : wrap64 (nx + ((chg nx kd at_ l j).2.1.length : Int)) = nx + ((chg nx kd at_ l j).2.1.length : Int) := by unfold wrap64; omega
  rw [w1] at e1 h4
  rw [w2] at e2 h4
  subst e1 e2 e3 e4 e5
  exact ⟨h4, rfl, j, hjl, by simpa using hp, h1, h3, rfl, rfl, rfl, rfl⟩
theorem Wk.snoc {p : List S24} (h : Wk p) (c d : S24) (hc : rd_T24 p ((p.length - 1 : Nat) : Int) = c) (kd id at_ : Int) (old fresh : List S67) (ha : applyS c.f0 c.f1 c.f2 kd id at_ = (d.f0, d.f1, d.f2, old, fresh, 0)) : Wk (p ++ [d]) := by
  have hne := h.ne
  have hck := h.chk (p.length - 1) (by omega)
  have hep := h.ep (p.length - 1) (by omega)
  rw [hc] at hck hep
  have hok := apply_ok _ _ _ _ _ _ _ _ _ _ _ ha hck
  refine ⟨by simp, fun i hi => ?_, fun i hi => ?_, fun i hi => ?_, ?_⟩
  · rw [List.length_append, List.length_singleton] at hi
    by_cases e : i = p.length
    · subst e; rw [rdc_new]; exact hok.1
    · rw [rdc_old _ _ _ (by omega)]; exact h.chk i (by omega)
  · rw [List.length_append, List.length_singleton] at hi
    by_cases e : i = p.length
    · subst e; rw [rdc_new, hok.2.1, hep]; omega
    · rw [rdc_old _ _ _ (by omega)]; exact h.ep i (by omega)
  · rw [List.length_append, List.length_singleton] at hi
    by_cases e : i + 1 = p.length
    · have e2 : i = p.length - 1 := by omega
      rw [rdc_old _ _ i (by omega), e, rdc_new, e2, hc]
      exact ⟨kd, id, at_, old, fresh, ha⟩
    · rw [rdc_old _ _ i (by omega), rdc_old _ _ (i + 1) (by omega)]; exact h.st i (by omega)
  · have e := rdc_old p d 0 (by omega)
    rw [show ((0 : Nat) : Int) = 0 from rfl] at e
    rw [e]; exact h.fst
def firstOk (a b : Nat) : Bool :=
  match chart_First.f 60 ((a : Int) + 1) ((b : Int) + 1) with
  | some (ep, nx, l, _) => decide (ep = 1) && checkB ep nx l && (List.range (nx.toNat - 1)).all (fun j => l.any (fun x => decide (x.f0 = (j : Int) + 1)))
  | none => false
theorem firsts_ok : ∀ a : Fin 5, ∀ b : Fin 8, firstOk a.val b.val = true := by decide +kernel
theorem first_ok (a b : Int) (h : 1 ≤ a ∧ a ≤ 5 ∧ 1 ≤ b ∧ b ≤ 8) (k : Nat) (hk : 60 ≤ k) : ∃ nx l e, chart_First.f k a b = some (1, nx, l, e) ∧ checkB 1 nx l = true ∧ ∀ id : Int, 1 ≤ id → id < nx → ∃ x ∈ l, x.f0 = id := by
  have h1 := firsts_ok ⟨(a - 1).toNat, by omega⟩ ⟨(b - 1).toNat, by omega⟩
  unfold firstOk at h1
  have e0 : (((a - 1).toNat : Nat) : Int) + 1 = a := by omega
  have e1 : (((b - 1).toNat : Nat) : Int) + 1 = b := by omega
  simp only [e0, e1] at h1
  cases hf : chart_First.f 60 a b with
  | none => rw [hf] at h1; simp at h1
  | some y =>
    obtain ⟨ep, nx, l, e⟩ := y
    rw [hf] at h1
    simp only [Bool.and_eq_true, decide_eq_true_eq] at h1
    obtain ⟨⟨rfl, h2⟩, h3⟩ := h1
    refine ⟨nx, l, e, at_rounds (fun q => chart_First.mono a b q) hk hf, h2, fun id i1 i2 => ?_⟩
    have h4 := List.all_eq_true.1 h3 (id - 1).toNat (by rw [List.mem_range]; omega)
    obtain ⟨x, hx, h5⟩ := List.any_eq_true.1 h4
    exact ⟨x, hx, by have := of_decide_eq_true h5; omega⟩
end Go.Proofs.Yteclhjhnbolkmaa.PR
