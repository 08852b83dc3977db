/- ChartSets: the owners of a set are those of its keys: a shard is among them just if it is the owner of a key of the set (up to 60 shards, 100 spans; any key). For every input. -/
import Derived.Test.YtbhlphadcphapaaPEx0
import Derived.Test.YtbhlphadcphapaaPEx10
import Derived.Test.YtbhlphadcphapaaPEx2
import Derived.Test.YtbhlphadcphapaaPEx5
import Derived.Test.YtbhlphadcphapaaPEx9
import Derived.Test.YtbhlphadcphapaaEQ1
import Derived.Test.YtbhlphadcphapaaEQ2
import Derived.OpenShut
namespace Go.Proofs.Ytbhlphadcphapaa.Pure
open Go.RowKit Go.Proofs.Ytbhlphadcphapaa.PE Go.Proofs.YtbhlphadcphapaaW.PrintWords Go.Proofs.YtbhlphadcphapaaW.PrintLast Go.Proofs.YtbhlphadcphapaaW.PrintMore
set_option linter.unusedVariables false
set_option linter.unusedSimpArgs false


theorem sets_l1 (ep nx key : Int) (l : List S57) (hl : l.length ≤ 1000000) (hc : checkB ep nx l = true) (keys : List S55) (hkl : keys.length ≤ 1000000) (hk1 : ∀ q ∈ keys, oneS q = true) (ids : List Int) (i : Nat) (hi : i < 1000000) (j : Nat) (hj : j < l.length) :
    ∀ (d k m : Nat) (b : Bool), m + d = keys.length → 70 ≤ k → (b = true ∨ (keys.drop m).any (ovR (rd_T57 l (j : Int))) = true) →
    splicelaw08_ChartSets.l1 (k + d + 1) keys key ids (i : Int) true b (m : Int) ep nx l (rd_T57 l (j : Int)).f0 (rd_T57 l (j : Int)).f1.f0 (rd_T57 l (j : Int)).f1.f1 (rd_T57 l (j : Int)).f2 = splicelaw08_ChartSets.l0 k keys key ids ((i + 1 : Nat) : Int) ep nx l := by
  intro d
  have hg := good_of ep nx l hc
  induction d with
  | zero =>
    intro k m b hm hk hb
    have : b = true := by
      rcases hb with h | h
      · exact h
      · rw [List.drop_eq_nil_of_le (by omega)] at h; simp at h
    subst this
    rw [show k + 0 + 1 = k + 1 from rfl, splicelaw08_ChartSets.l1, if_neg (by omega), if_pos rfl, if_pos rfl, w1c i (by omega)]
  | succ d ih =>
    intro k m b hm hk hb
    rw [show k + (d + 1) + 1 = (k + d + 1) + 1 by omega, splicelaw08_ChartSets.l1, if_pos (by omega), if_pos (by omega), owner_f (k + d + 1) ep nx l hl _ (by omega), Option.bind_some, if_pos hc, w1c m (by omega)]
    rw [drop_rds keys m (by omega), List.any_cons] at hb
    have hq : oneS (rd_T55 keys (m : Int)) = true := hk1 _ (by have := drop_rds keys m (by omega); exact List.mem_of_mem_drop (by rw [this]; exact List.mem_cons_self))
    generalize rd_T55 keys (m : Int) = q at hb hq ⊢
    by_cases h1 : b = true
    · rw [if_pos h1]
      exact ih k (m + 1) true (by omega) hk (Or.inl rfl)
    rw [if_neg h1]
    by_cases h2 : ovR (rd_T57 l (j : Int)) q = true
    · have hx := hg.one j hj
      simp only [oneS, Bool.and_eq_true, decide_eq_true_eq] at hx hq
      simp only [ovR, Bool.and_eq_true, decide_eq_true_eq] at h2
      have hm1 : (rd_T57 l (j : Int)).f1.f0 ≤ mx q.f0 (rd_T57 l (j : Int)).f1.f0 ∧ mx q.f0 (rd_T57 l (j : Int)).f1.f0 < (rd_T57 l (j : Int)).f1.f1 ∧ mx q.f0 (rd_T57 l (j : Int)).f1.f0 < q.f1 := by unfold mx; split <;> omega
      rw [owner_at l hg j hj _ hm1.1 hm1.2.1, atS_nat]
      dsimp only
      rw [if_pos rfl, if_pos (by simp)]
      exact ih k (m + 1) _ (by omega) hk (Or.inl (decide_eq_true hm1.2.2))
    · have hb2 : (keys.drop (m + 1)).any (ovR (rd_T57 l (j : Int))) = true := by
        rcases hb with h | h
        · exact absurd h h1
        · rw [Bool.eq_false_iff.mpr h2] at h; simpa using h
      split
      · split
        · exact ih k (m + 1) _ (by omega) hk (Or.inr hb2)
        · exact ih k (m + 1) _ (by omega) hk (Or.inr hb2)
      · exact ih k (m + 1) _ (by omega) hk (Or.inr hb2)
theorem sets_l2 (ids : List Int) (hl : ids.length ≤ 1000000) (a b c e : Int) : ∀ (d k i : Nat) (q : Bool), i + d = ids.length → d + 70 < k → (q = true ∨ (ids.drop i).any (fun x => x == a) = true) →
    splicelaw08_ChartSets.l2 k ids q (i : Int) a b c e = some true := by
  intro d
  induction d with
  | zero =>
    intro k i q hi hk hq
    have : q = true := by
      rcases hq with h | h
      · exact h
      · rw [List.drop_eq_nil_of_le (by omega)] at h; simp at h
    subst this
    obtain ⟨k, rfl⟩ : ∃ k', k = k' + 1 := ⟨k - 1, by omega⟩
    rw [splicelaw08_ChartSets.l2, if_neg (by omega), awake8_f _ (by omega)]; rfl
  | succ d ih =>
    intro k i q hi hk hq
    obtain ⟨k, rfl⟩ : ∃ k', k = k' + 1 := ⟨k - 1, by omega⟩
    rw [splicelaw08_ChartSets.l2, if_pos (by omega), w1c i (by omega)]
    rw [rd_int ids i (by omega), List.any_cons] at hq
    by_cases h1 : q = true
    · rw [if_pos h1]; exact ih k (i + 1) true (by omega) (by omega) (Or.inl rfl)
    · rw [if_neg h1, if_pos (by omega)]
      refine ih k (i + 1) _ (by omega) (by omega) ?_
      rcases hq with h | h
      · exact absurd h h1
      · simpa using h
theorem sets_end (ep nx key : Int) (l : List S57) (hl : l.length ≤ 60) (hc : checkB ep nx l = true) (keys : List S55) (hkl : keys.length ≤ 100) (k : Nat) (hk : 300 ≤ k) :
    splicelaw08_ChartSets.l0 (k + 1) keys key (ownS keys l) (((ownS keys l).length : Nat) : Int) ep nx l = some true := by
  have hlen : (ownS keys l).length ≤ 60 := by have := List.length_filter_le (fun x => keys.any (ovR x)) l; simp only [ownS, List.length_map]; omega
  obtain ⟨k, rfl⟩ : ∃ k', k = k' + 1 := ⟨k - 1, by omega⟩
  rw [splicelaw08_ChartSets.l0, if_neg (by omega), owner_f _ ep nx l (by omega) key (by omega), Option.bind_some, if_pos hc]
  have hr := ixOf_range (ownP key) l 0
  have hix := fun j : Nat => ixOf_at (ownP key) l j 0 j (by omega)
  by_cases hneg : ixOf (ownP key) l 0 < 0
  · have e : atS l (ixOf (ownP key) l 0) = (0, 0, 0, 0, false) := by unfold atS; rw [if_pos hneg]
    rw [e]
    dsimp only
    rw [if_neg (by simp), splicelaw08_ChartSets.j3, if_pos rfl, awake8_f _ (by omega)]; rfl
  · obtain ⟨j, hj, hjl⟩ : ∃ j : Nat, ixOf (ownP key) l 0 = (j : Int) ∧ j < l.length := ⟨(ixOf (ownP key) l 0).toNat, by omega, by omega⟩
    have hown : ownP key (rd_T57 l (j : Int)) = true := by
      have := ixOf_p (ownP key) l 0 j hj
      exact this
    rw [hj, atS_nat]
    dsimp only
    rw [if_pos rfl, refs3_f _ keys (by omega) (by omega), Option.bind_some, has_f _ keys (by omega) key (by omega), Option.bind_some, splicelaw08_ChartSets.j3]
    cases hh : keys.any (fun q => oneS q && (decide (q.f0 ≤ key) && decide (key < q.f1)))
    · rw [if_pos (by simp), awake8_f _ (by omega)]; rfl
    · rw [if_neg (by simp)]
      have hany : (ownS keys l).any (fun x => x == (rd_T57 l (j : Int)).f0) = true := by
        rw [List.any_eq_true] at hh ⊢
        obtain ⟨q, hq, hq2⟩ := hh
        refine ⟨(rd_T57 l (j : Int)).f0, ?_, by simp⟩
        unfold ownS
        refine List.mem_map.2 ⟨rd_T57 l (j : Int), List.mem_filter.2 ⟨by rw [rd_get l j hjl]; exact List.getElem_mem _, ?_⟩, rfl⟩
        rw [List.any_eq_true]
        refine ⟨q, hq, ?_⟩
        simp only [ownP, Bool.and_eq_true, decide_eq_true_eq] at hown hq2
        simp only [ovR, Bool.and_eq_true, decide_eq_true_eq]
        omega
      have := sets_l2 (ownS keys l) (by omega) (rd_T57 l (j : Int)).f0 (rd_T57 l (j : Int)).f1.f0 (rd_T57 l (j : Int)).f1.f1 (rd_T57 l (j : Int)).f2 (ownS keys l).length k 0 false (by omega) (by omega) (Or.inr (by simpa using hany))
      rw [show ((0 : Nat) : Int) = 0 from rfl] at this
      exact this
theorem sets_l0 (ep nx key : Int) (l : List S57) (hl : l.length ≤ 60) (hc : checkB ep nx l = true) (keys : List S55) (hkl : keys.length ≤ 100) (hk1 : ∀ q ∈ keys, oneS q = true) : ∀ (d k i : Nat), i + d = (ownS keys l).length → d * (keys.length + 2) + 400 < k →
    splicelaw08_ChartSets.l0 k keys key (ownS keys l) (i : Int) ep nx l = some true := by
  intro d
  have hlen : (ownS keys l).length ≤ 60 := by have := List.length_filter_le (fun x => keys.any (ovR x)) l; simp only [ownS, List.length_map]; omega
  have hg := good_of ep nx l hc
  induction d with
  | zero =>
    intro k i hi hk
    obtain ⟨k, rfl⟩ : ∃ k', k = k' + 1 := ⟨k - 1, by omega⟩
    have : i = (ownS keys l).length := by omega
    subst this
    exact sets_end ep nx key l hl hc keys hkl k (by omega)
  | succ d ih =>
    intro k i hi hk
    rw [Nat.add_mul, Nat.one_mul] at hk
    obtain ⟨k, rfl⟩ : ∃ k', k = (k' + keys.length + 1) + 1 := ⟨k - keys.length - 2, by omega⟩
    have hmem : rd (ownS keys l) (i : Int) ∈ ownS keys l := by
      have := rd_int (ownS keys l) i (by omega)
      exact List.mem_of_mem_drop (by rw [this]; exact List.mem_cons_self)
    obtain ⟨x, hx, hx2⟩ := List.mem_map.1 (show rd (ownS keys l) (i : Int) ∈ (l.filter (fun x => keys.any (ovR x))).map (fun x => x.f0) from hmem)
    obtain ⟨hx3, hx4⟩ := List.mem_filter.1 hx
    obtain ⟨j, hj, rfl⟩ := mem_rd l x hx3
    rw [splicelaw08_ChartSets.l0, if_pos (by omega), if_pos (by omega), ← hx2, find_f _ ep nx l (by omega) _ (by omega), Option.bind_some, if_pos hc, find_at l hg j hj, atS_nat]
    dsimp only
    have h1 := sets_l1 ep nx key l (by omega) hc keys (by omega) hk1 (ownS keys l) i (by omega) j hj keys.length k 0 false (by omega) (by omega) (Or.inr (by simpa using hx4))
    rw [show ((0 : Nat) : Int) = 0 from rfl] at h1
    rw [h1]
    exact ih k (i + 1) (by omega) (by omega)
theorem ChartSets : splicelaw08_ChartSets.Pure := by
  intro x0 keys key
  intros
  generalize x0.f0 = ep
  generalize x0.f1 = nx
  generalize x0.f2 = l
  have hall : ∀ k, 8000 ≤ k → splicelaw08_ChartSets.f k ep nx l keys key = some true := by
    intro k hk
    obtain ⟨k, rfl⟩ : ∃ k', k = k' + 1 := ⟨k - 1, by omega⟩
    have hbad : splicelaw08_ChartSets.j0 (k + 1) keys key true ep nx l = some true := by
      rw [splicelaw08_ChartSets.j0, if_pos rfl, awake8_f _ (by omega)]; rfl
    unfold splicelaw08_ChartSets.f splicelaw08_few.f
    rw [Option.bind_some]
    by_cases h : (l.length : Int) ≤ 60
    case neg => rw [if_neg (by simp [h]), hbad]
    rw [if_pos (decide_eq_true h)]
    by_cases h2 : (keys.length : Int) > 100
    · rw [if_pos h2, hbad]
    rw [if_neg h2, check_f _ ep nx l (by omega) (by omega), Option.bind_some]
    by_cases hc : checkB ep nx l = true
    case neg => rw [if_neg hc, hbad]
    rw [if_pos hc, refs3_f _ keys (by omega) (by omega), Option.bind_some, refspcheck_f _ keys (by omega) (by omega), Option.bind_some]
    cases hs : sp0 keys keys.length 0
    · exact hbad
    · rw [show (!true) = false from rfl, splicelaw08_ChartSets.j0, if_neg (by simp), owners_f _ ep nx l (by omega) keys (by omega) (by omega), Option.bind_some, if_pos hc, if_pos hs]
      have hlen : (ownS keys l).length ≤ 60 := by have := List.length_filter_le (fun x => keys.any (ovR x)) l; simp only [ownS, List.length_map]; omega
      have hm : (ownS keys l).length * (keys.length + 2) ≤ 60 * 102 := Nat.mul_le_mul hlen (by omega)
      have h3 := sets_l0 ep nx key l (by omega) hc keys (by omega) (by have := sp0_one keys keys.length 0 (by omega) hs; simpa using this) (ownS keys l).length k 0 (by omega) (by omega)
      rw [show ((0 : Nat) : Int) = 0 from rfl] at h3
      exact h3
  exact ⟨8000, hall 8000 (by omega)⟩

end Go.Proofs.Ytbhlphadcphapaa.Pure
