/- ChartLocal: a change changes the owner of just the keys of the old shards: all other keys have the owner that they had, and the fresh ones have together the keys of the old ones (behind up to 30 changes; any key). For every input. -/
import Derived.Test.YtbhlphadcphapaaPLx0
import Derived.Test.YtbhlphadcphapaaPLx2
import Derived.Test.YtbhlphadcphapaaPLx4
import Derived.Test.YtbhlphadcphapaaPLx5
import Derived.Test.YtbhlphadcphapaaPLx6
import Derived.Test.YtbhlphadcphapaaPLx7
import Derived.Test.YtbhlphadcphapaaLQ1
import Derived.Test.YtbhlphadcphapaaLQ2
import Derived.OpenShut
namespace Go.Proofs.Ytbhlphadcphapaa.Pure
open Go.RowKit Go.Proofs.Ytbhlphadcphapaa.PL Go.Proofs.YtbhlphadcphapaaW.PrintWords Go.Proofs.YtbhlphadcphapaaW.PrintLast Go.Proofs.YtbhlphadcphapaaW.PrintMore
set_option linter.unusedVariables false
set_option linter.unusedSimpArgs false


theorem take_one (l : List S57) (j : Nat) (h : j < l.length) : (l.drop j).take 1 = [rd_T57 l (j : Int)] := by
  rw [drop_rd l j h]; rfl
theorem take_both (l : List S57) (j : Nat) (h : j + 1 < l.length) : (l.drop j).take 2 = [rd_T57 l (j : Int), rd_T57 l ((j + 1 : Nat) : Int)] := by
  rw [drop_rd l j (by omega), drop_rd l (j + 1) h]; rfl
def shapeP (l : List S57) (j : Nat) (n : Nat) (fresh : List S57) : Prop :=
  1 ≤ n ∧ n ≤ 2 ∧ j + n ≤ l.length ∧ 1 ≤ fresh.length ∧ fresh.length ≤ 2 ∧ (rd_T57 ((l.drop j).take n) 0).f1.f0 = (rd_T57 fresh 0).f1.f0 ∧ (rd_T57 ((l.drop j).take n) ((((l.drop j).take n).length : Int) - 1)).f1.f1 = (rd_T57 fresh ((fresh.length : Int) - 1)).f1.f1
theorem chg_shape (nx kd at_ : Int) (l : List S57) (j : Nat) (hj : j < l.length) (h0 : (chg nx kd at_ l j).2.2 = 0) : shapeP l j (chg nx kd at_ l j).1 (chg nx kd at_ l j).2.1 := by
  unfold chg at h0 ⊢
  dsimp only at h0 ⊢
  by_cases h1 : kd = 1
  · rw [if_pos h1] at h0 ⊢
    split at h0
    · simp at h0
    · rename_i h2
      rw [if_neg h2]
      unfold shapeP
      rw [take_one l j hj]
      exact ⟨Nat.le_refl 1, Nat.le_succ 1, hj, Nat.le_succ 1, Nat.le_refl 2, rfl, rfl⟩
  · rw [if_neg h1] at h0 ⊢
    by_cases h3 : kd = 2
    · rw [if_pos h3] at h0 ⊢
      split at h0
      · simp at h0
      · rename_i h2
        rw [if_neg h2]
        unfold shapeP
        rw [take_both l j (by omega)]
        exact ⟨Nat.le_succ 1, Nat.le_refl 2, (by omega : j + 2 ≤ l.length), Nat.le_refl 1, Nat.le_succ 1, rfl, rfl⟩
    · rw [if_neg h3] at h0 ⊢
      unfold shapeP
      rw [take_one l j hj]
      exact ⟨Nat.le_refl 1, Nat.le_succ 1, hj, Nat.le_refl 1, Nat.le_succ 1, rfl, rfl⟩
theorem eqShd_iff (x y : S57) : eqShd x y = true ↔ x = y := by
  obtain ⟨x0, ⟨x1, x2⟩, x3⟩ := x
  obtain ⟨y0, ⟨y1, y2⟩, y3⟩ := y
  simp only [eqShd, Bool.and_eq_true, beq_iff_eq, S57.mk.injEq, S55.mk.injEq]
theorem any_eqShd (l : List S57) (x : S57) : l.any (fun y => eqShd y x) = true ↔ x ∈ l := by
  rw [List.any_eq_true]
  constructor
  · rintro ⟨y, hy, e⟩
    rw [← (eqShd_iff y x).1 e]; exact hy
  · intro h; exact ⟨x, h, (eqShd_iff x x).2 rfl⟩
theorem apply_err (ep nx : Int) (l : List S57) (kd id at_ : Int) (ep' nx' : Int) (l' old fresh : List S57) (e : Int) (h : applyS ep nx l kd id at_ = (ep', nx', l', old, fresh, e)) (he : e ≠ 0) : old.length = 0 ∧ fresh.length = 0 := by
  unfold applyS at h
  repeat' split at h
  all_goals
    simp only [Prod.mk.injEq] at h
    obtain ⟨_, _, _, rfl, rfl, rfl⟩ := h
    first
      | exact absurd rfl he
      | exact ⟨rfl, rfl⟩
/-- each key has an owner -/
theorem chain_has (nx : Int) (l : List S57) (key : Int) (hk1 : key < 4096) : ∀ (d i : Nat) (prev : Int), i + d = l.length → chain0 nx l d i prev = true → prev ≤ key → ∃ j : Nat, j < l.length ∧ (rd_T57 l (j : Int)).f1.f0 ≤ key ∧ key < (rd_T57 l (j : Int)).f1.f1 := by
  intro d
  induction d with
  | zero => intro i prev hi h hp; simp only [chain0, decide_eq_true_eq] at h; omega
  | succ d ih =>
    intro i prev hi h hp
    simp only [chain0, elemB, Bool.and_eq_true, decide_eq_true_eq] at h
    by_cases h2 : key < (rd_T57 l (i : Int)).f1.f1
    · exact ⟨i, by omega, by have := h.1.2; omega, h2⟩
    · exact ih (i + 1) _ (by omega) h.2 (by omega)
theorem owner_has (ep nx : Int) (l : List S57) (hc : checkB ep nx l = true) (key : Int) (hk0 : 0 ≤ key) (hk1 : key < 4096) : ∃ A ∈ l, A.f1.f0 ≤ key ∧ key < A.f1.f1 ∧ mkShd (atS l (ixOf (ownP key) l 0)) = A := by
  have hch := hc
  simp only [checkB, Bool.and_eq_true] at hch
  obtain ⟨j, hj, h1, h2⟩ := chain_has nx l key hk1 l.length 0 0 (Nat.zero_add _) hch.2.1 hk0
  refine ⟨rd_T57 l (j : Int), by rw [rd_get l j hj]; exact List.getElem_mem _, h1, h2, ?_⟩
  rw [owner_at l (good_of _ _ _ hc) j hj key h1 h2, atS_nat]
  rfl
theorem owner_one (ep nx : Int) (l : List S57) (hc : checkB ep nx l = true) (key : Int) (A B : S57) (hA : A ∈ l) (hB : B ∈ l) (a1 : A.f1.f0 ≤ key) (a2 : key < A.f1.f1) (b1 : B.f1.f0 ≤ key) (b2 : key < B.f1.f1) : A = B := by
  obtain ⟨p, hp, rfl⟩ := mem_rd l A hA
  obtain ⟨q, hq, rfl⟩ := mem_rd l B hB
  have e1 := owner_at l (good_of _ _ _ hc) p hp key a1 a2
  have e2 := owner_at l (good_of _ _ _ hc) q hq key b1 b2
  have : p = q := by omega
  rw [this]
theorem mem_parts (l : List S57) (j n : Nat) (A : S57) (h : A ∈ l) : A ∈ l.take j ∨ A ∈ (l.drop j).take n ∨ A ∈ l.drop (j + n) := by
  rw [← List.take_append_drop j l] at h
  rcases List.mem_append.1 h with h | h
  · exact Or.inl h
  · rw [← List.take_append_drop n (l.drop j), List.drop_drop] at h
    rcases List.mem_append.1 h with h | h
    · exact Or.inr (Or.inl h)
    · exact Or.inr (Or.inr h)
theorem old_not (l : List S57) (hg : GoodC l) (j n : Nat) (hjn : j + n ≤ l.length) (A : S57) (h1 : A ∈ (l.drop j).take n) (h2 : A ∈ l.take j ∨ A ∈ l.drop (j + n)) : False := by
  obtain ⟨q, hq, e⟩ := List.mem_iff_getElem.1 h1
  rw [List.length_take, List.length_drop] at hq
  rw [List.getElem_take, List.getElem_drop] at e
  have hA : rd_T57 l ((j + q : Nat) : Int) = A := by rw [rd_get l (j + q) (by omega)]; exact e
  rcases h2 with h2 | h2
  · obtain ⟨p, hp, e2⟩ := List.mem_iff_getElem.1 h2
    rw [List.length_take] at hp
    rw [List.getElem_take] at e2
    have hA2 : rd_T57 l (p : Int) = A := by rw [rd_get l p (by omega)]; exact e2
    exact hg.apart p (j + q) (by omega) (by omega) (by rw [hA, hA2])
  · obtain ⟨p, hp, e2⟩ := List.mem_iff_getElem.1 h2
    rw [List.length_drop] at hp
    rw [List.getElem_drop] at e2
    have hA2 : rd_T57 l ((j + n + p : Nat) : Int) = A := by rw [rd_get l (j + n + p) (by omega)]; exact e2
    exact hg.apart (j + q) (j + n + p) (by omega) (by omega) (by rw [hA, hA2])
theorem local_ok (ep nx : Int) (l : List S57) (kd id at_ : Int) (ep' nx' : Int) (l' old fresh : List S57) (h : applyS ep nx l kd id at_ = (ep', nx', l', old, fresh, 0)) (hc : checkB ep nx l = true) (key : Int) (hk0 : 0 ≤ key) (hk1 : key < 4096) :
    l'.length ≤ 24 ∧ checkB ep' nx' l' = true ∧ 1 ≤ old.length ∧ old.length ≤ 2 ∧ 1 ≤ fresh.length ∧ fresh.length ≤ 2 ∧ localB l l' old fresh (mkShd (atS l (ixOf (ownP key) l 0))) (mkShd (atS l' (ixOf (ownP key) l' 0))) = true := by
  have hl := check_len ep nx l hc
  obtain ⟨hc', _, j, hj, _, _, h0, hf, ho, _, hl'⟩ := apply_ok _ _ _ _ _ _ _ _ _ _ _ h hc
  have hlen' := check_len _ _ _ hc'
  obtain ⟨n1, n2, n3, f1, f2, s1, s2⟩ := chg_shape nx kd at_ l j hj h0
  obtain ⟨i1, _⟩ := chg_ids nx kd at_ l j (by omega) (by omega) h0
  rw [← hf] at f1 f2 s1 s2 i1
  rw [← ho] at s1 s2
  generalize (chg nx kd at_ l j).1 = n at n1 n2 n3 ho hl'
  have hol : old.length = n := by rw [ho, List.length_take, List.length_drop]; omega
  have hll : l'.length = j + fresh.length + (l.length - (j + n)) := by rw [hl']; simp only [List.length_append, List.length_take, List.length_drop]; omega
  refine ⟨hlen'.2.1, hc', by omega, by omega, f1, f2, ?_⟩
  obtain ⟨A, hA, a1, a2, ea⟩ := owner_has _ _ _ hc key hk0 hk1
  obtain ⟨B, hB, b1, b2, eb⟩ := owner_has _ _ _ hc' key hk0 hk1
  rw [ea, eb]
  have idA := check_ids _ _ _ hc A hA
  have hB' := hB
  rw [hl'] at hB'
  have hin : ∀ X : S57, X ∈ l.take j ∨ X ∈ l.drop (j + n) → X ∈ l' ∧ X ∈ l := fun X hX => by
    rw [hl']
    rcases hX with hX | hX
    · exact ⟨List.mem_append_left _ (List.mem_append_left _ hX), List.mem_of_mem_take hX⟩
    · exact ⟨List.mem_append_right _ hX, List.mem_of_mem_drop hX⟩
  have hlenE : ((l'.length : Int) == (l.length : Int) - (old.length : Int) + (fresh.length : Int)) = true := by rw [beq_iff_eq]; omega
  have hE : ((rd_T57 old 0).f1.f0 == (rd_T57 fresh 0).f1.f0) = true := by rw [beq_iff_eq]; exact s1
  have hF : ((rd_T57 old ((old.length : Int) - 1)).f1.f1 == (rd_T57 fresh ((fresh.length : Int) - 1)).f1.f1) = true := by rw [beq_iff_eq]; exact s2
  have hBc : B ∈ fresh ∨ (B ∈ l.take j ∨ B ∈ l.drop (j + n)) := by
    rcases List.mem_append.1 hB' with hB' | hB'
    · rcases List.mem_append.1 hB' with hB' | hB'
      · exact Or.inr (Or.inl hB')
      · exact Or.inl hB'
    · exact Or.inr (Or.inr hB')
  have hcore : (old.any (fun x => eqShd x A) == fresh.any (fun x => eqShd x B)) = true ∧ (old.any (fun x => eqShd x A) || eqShd A B) = true := by
    rcases hBc with hBf | hBo
    · have hbid := i1 B hBf
      have hAo : A ∈ old := by
        rcases mem_parts l j n A hA with hq | hq | hq
        · have := owner_one _ _ _ hc' key A B (hin A (Or.inl hq)).1 hB a1 a2 b1 b2
          rw [this] at idA; omega
        · rw [ho]; exact hq
        · have := owner_one _ _ _ hc' key A B (hin A (Or.inr hq)).1 hB a1 a2 b1 b2
          rw [this] at idA; omega
      rw [(any_eqShd old A).2 hAo, (any_eqShd fresh B).2 hBf]
      exact ⟨rfl, rfl⟩
    · have hAB := owner_one _ _ _ hc key A B hA (hin B hBo).2 a1 a2 b1 b2
      subst hAB
      have h1 : old.any (fun x => eqShd x A) = false := by
        rw [Bool.eq_false_iff]
        intro h2
        rw [any_eqShd, ho] at h2
        exact old_not l (good_of _ _ _ hc) j n n3 A h2 hBo
      have h3 : fresh.any (fun x => eqShd x A) = false := by
        rw [Bool.eq_false_iff]
        intro h2
        rw [any_eqShd] at h2
        have := i1 A h2
        omega
      rw [h1, h3, (eqShd_iff A A).2 rfl]
      exact ⟨rfl, rfl⟩
  unfold localB
  rw [hcore.1, hcore.2, hE, hF, hlenE]
  rfl
theorem ChartLocal : splicelaw08_ChartLocal.Pure := by
  intro a0 a1 x _ _ hx
  obtain ⟨r, h1, h2, h3, h4⟩ := walk_f 3000 (by omega) a0 a1 x.f0 30 (by have := hx.1; omega) (by omega)
  refine ⟨3000, ?_⟩
  unfold splicelaw08_ChartLocal.f
  rw [h1, Option.bind_some]
  by_cases c1 : x.f0.length = 0
  · rw [if_pos c1]; exact awake8_f 3000 (by omega)
  rw [if_neg c1, if_pos (by have := hx.1; omega)]
  have hne := h2.ne
  have hck := h2.chk (r.2.length - 1) (by omega)
  rw [h3] at hck
  have hcl := check_len _ _ _ hck
  rw [apply_f 3000 _ _ _ (by omega) _ _ _ (by omega), Option.bind_some]
  generalize ha : applyS r.1.f0 r.1.f1 r.1.f2 (rd_T39 x.f0 ((x.f0.length : Int) - 1)).f0 (rd_T39 x.f0 ((x.f0.length : Int) - 1)).f1 (rd_T39 x.f0 ((x.f0.length : Int) - 1)).f2 = y
  obtain ⟨y1, y2, y3, y4, y5, y6⟩ := y
  dsimp only
  by_cases c2 : y6 = 0
  · subst c2
    have hk := two_mod x.f1 4096 (by omega) (by omega)
    obtain ⟨g1, g2, g3, g4, g5, g6, g7⟩ := local_ok _ _ _ _ _ _ _ _ _ _ _ ha hck (keyL x.f1) hk.1 hk.2
    rw [if_pos rfl, if_pos ⟨by omega, by omega, by omega, by omega, by omega, by omega⟩]
    rw [owner_f 3000 _ _ _ (by omega) _ (by omega), Option.bind_some, hck, if_pos rfl, owner_f 3000 _ _ _ (by omega) _ (by omega), Option.bind_some, g2, if_pos rfl, awake8_f 3000 (by omega), Option.bind_some, g7]
    rfl
  · rw [if_neg c2, awake8_f 3000 (by omega), Option.bind_some, decide_eq_true (apply_err _ _ _ _ _ _ _ _ _ _ _ _ ha c2)]
    rfl

end Go.Proofs.Ytbhlphadcphapaa.Pure
