import Derived.Test.YtbhlphadcphapaaPLx0
import Derived.Test.YtbhlphadcphapaaPLx2
import Derived.Test.YtbhlphadcphapaaPLx4
import Derived.Test.YtbhlphadcphapaaPLx5
import Derived.Test.YtbhlphadcphapaaLQ1
namespace Go.Proofs.Ytbhlphadcphapaa.PL
open Go.RowKit Go.Proofs.YtbhlphadcphapaaW.PrintWords Go.Proofs.YtbhlphadcphapaaW.PrintLast Go.Proofs.YtbhlphadcphapaaW.PrintMore
set_option linter.unusedVariables false
set_option linter.unusedSimpArgs false


/-! ### charts one behind the other -/
theorem tmod_b (a m : Int) (hm : 0 < m) : -m < Int.tmod a m ∧ Int.tmod a m < m := by
  have h1 := Int.tmod_lt_of_pos a hm
  have h2 := Int.tmod_lt_of_pos (-a) hm
  rw [Int.neg_tmod] at h2
  omega
theorem two_mod (a m : Int) (hm : 0 < m) (hb : m ≤ 1000000) : 0 ≤ Int.tmod (wrap64 (Int.tmod a m + m)) m ∧ Int.tmod (wrap64 (Int.tmod a m + m)) m < m := by
  have h1 := tmod_b a m hm
  generalize Int.tmod a m = b at h1
  have h2 : wrap64 (b + m) = b + m := by unfold wrap64; omega
  rw [h2, Int.tmod_eq_emod_of_nonneg (by omega)]
  exact ⟨Int.emod_nonneg _ (by omega), Int.emod_lt_of_pos _ hm⟩
theorem rdc_get (l : List S24) (i : Nat) (h : i < l.length) : rd_T24 l (i : Int) = l[i] := by
  unfold rd_T24
  rw [Int.toNat_natCast, List.getD_eq_getElem?_getD, List.getElem?_eq_getElem h]; rfl
theorem rdc_old (l : List S24) (x : S24) (i : Nat) (h : i < l.length) : rd_T24 (l ++ [x]) (i : Int) = rd_T24 l (i : Int) := by
  rw [rdc_get _ _ (by simp; omega), rdc_get _ _ h, List.getElem_append_left h]
theorem rdc_new (l : List S24) (x : S24) : rd_T24 (l ++ [x]) (l.length : Int) = x := by
  rw [rdc_get _ _ (by simp)]
  simp
/-- charts one behind the other, each made of the one ahead of it by a change -/
structure Wk (p : List S24) : Prop where
  ne : 1 ≤ p.length
  chk : ∀ i : Nat, i < p.length → checkB (rd_T24 p (i : Int)).f0 (rd_T24 p (i : Int)).f1 (rd_T24 p (i : Int)).f2 = true
  ep : ∀ i : Nat, i < p.length → (rd_T24 p (i : Int)).f0 = (i : Int) + 1
  st : ∀ i : Nat, i + 1 < p.length → ∃ kd id at_ old fresh, applyS (rd_T24 p (i : Int)).f0 (rd_T24 p (i : Int)).f1 (rd_T24 p (i : Int)).f2 kd id at_ = ((rd_T24 p ((i + 1 : Nat) : Int)).f0, (rd_T24 p ((i + 1 : Nat) : Int)).f1, (rd_T24 p ((i + 1 : Nat) : Int)).f2, old, fresh, 0)
  fst : ∀ id : Int, 1 ≤ id → id < (rd_T24 p 0).f1 → ∃ x ∈ (rd_T24 p 0).f2, x.f0 = id
theorem check_len (ep nx : Int) (l : List S57) (h : checkB ep nx l = true) : 1 ≤ l.length ∧ l.length ≤ 24 ∧ 1 ≤ ep ∧ ep ≤ 1073741824 ∧ 1 ≤ nx ∧ nx ≤ 65537 := by
  simp only [checkB, headB, Bool.and_eq_true, Bool.not_eq_true', decide_eq_false_iff_not] at h
  obtain ⟨⟨⟨⟨⟨⟨h1, h2⟩, h3⟩, h4⟩, h5⟩, h6⟩, _⟩ := h
  omega
/-- what a change that could be made has made -/
theorem apply_ok (ep nx : Int) (l : List S57) (kd id at_ : Int) (ep' nx' : Int) (l' old fresh : List S57) (h : applyS ep nx l kd id at_ = (ep', nx', l', old, fresh, 0)) (hc : checkB ep nx l = true) :
    checkB ep' nx' l' = true ∧ ep' = ep + 1 ∧ ∃ j : Nat, j < l.length ∧ (rd_T57 l (j : Int)).f0 = id ∧ mayChange kd at_ = true ∧ (chg nx kd at_ l j).2.2 = 0 ∧ fresh = (chg nx kd at_ l j).2.1 ∧ old = (l.drop j).take (chg nx kd at_ l j).1 ∧ nx' = nx + fresh.length ∧ l' = l.take j ++ fresh ++ l.drop (j + (chg nx kd at_ l j).1) := by
  have hl := check_len ep nx l hc
  unfold applyS at h
  rw [if_pos hc] at h
  by_cases h1 : mayChange kd at_ = true
  case neg => rw [if_neg h1] at h; simp at h
  rw [if_pos h1] at h
  have hr := ixOf_range (fun x => decide (x.f0 = id)) l 0
  by_cases h2 : ixOf (fun x => decide (x.f0 = id)) l 0 < 0
  · rw [if_pos h2] at h; simp at h
  rw [if_neg h2] at h
  obtain ⟨j, hj⟩ : ∃ j : Nat, ixOf (fun x => decide (x.f0 = id)) l 0 = (j : Int) := ⟨(ixOf (fun x => decide (x.f0 = id)) l 0).toNat, by omega⟩
  have hjl : j < l.length := by omega
  have hp := ixOf_p (fun x => decide (x.f0 = id)) l 0 j (by rw [List.drop_zero]; exact hj)
  rw [hj, Int.toNat_natCast] at h
  by_cases h3 : (chg nx kd at_ l j).2.2 = 0
  case neg => rw [if_neg h3] at h; simp only [Prod.mk.injEq] at h; exact absurd h.2.2.2.2.2 h3
  rw [if_pos h3] at h
  split at h
  case isFalse => simp at h
  rename_i h4
  simp only [Prod.mk.injEq] at h
  obtain ⟨e1, e2, e3, e4, e5, _⟩ := h
  have hcl := chg_len nx kd at_ l j
  have w1 : wrap64 (ep + 1) = ep + 1 := by unfold wrap64; omega
  have w2 : wrap64 (nx + ((chg nx kd at_ l j).2.1.length : Int)) = nx + ((chg nx kd at_ l j).2.1.length : Int) := by unfold wrap64; omega
  rw [w1] at e1 h4
  rw [w2] at e2 h4
  subst e1 e2 e3 e4 e5
  exact ⟨h4, rfl, j, hjl, by simpa using hp, h1, h3, rfl, rfl, rfl, rfl⟩
theorem Wk.snoc {p : List S24} (h : Wk p) (c d : S24) (hc : rd_T24 p ((p.length - 1 : Nat) : Int) = c) (kd id at_ : Int) (old fresh : List S57) (ha : applyS c.f0 c.f1 c.f2 kd id at_ = (d.f0, d.f1, d.f2, old, fresh, 0)) : Wk (p ++ [d]) := by
  have hne := h.ne
  have hck := h.chk (p.length - 1) (by omega)
  have hep := h.ep (p.length - 1) (by omega)
  rw [hc] at hck hep
  have hok := apply_ok _ _ _ _ _ _ _ _ _ _ _ ha hck
  refine ⟨by simp, fun i hi => ?_, fun i hi => ?_, fun i hi => ?_, ?_⟩
  · rw [List.length_append, List.length_singleton] at hi
    by_cases e : i = p.length
    · subst e; rw [rdc_new]; exact hok.1
    · rw [rdc_old _ _ _ (by omega)]; exact h.chk i (by omega)
  · rw [List.length_append, List.length_singleton] at hi
    by_cases e : i = p.length
    · subst e; rw [rdc_new, hok.2.1, hep]; omega
    · rw [rdc_old _ _ _ (by omega)]; exact h.ep i (by omega)
  · rw [List.length_append, List.length_singleton] at hi
    by_cases e : i + 1 = p.length
    · have e2 : i = p.length - 1 := by omega
      rw [rdc_old _ _ i (by omega), e, rdc_new, e2, hc]
      exact ⟨kd, id, at_, old, fresh, ha⟩
    · rw [rdc_old _ _ i (by omega), rdc_old _ _ (i + 1) (by omega)]; exact h.st i (by omega)
  · have e := rdc_old p d 0 (by omega)
    rw [show ((0 : Nat) : Int) = 0 from rfl] at e
    rw [e]; exact h.fst
theorem walk_l0 (l : List S39) (most : Int) (hl : l.length ≤ 140737488351232) (hm : most ≤ 1000) : ∀ (d k i : Nat) (c : S24) (p : List S24), i + d = 1000 → d + 100 ≤ k → i ≤ most.toNat → p.length ≤ i + 1 → Wk p → rd_T24 p ((p.length - 1 : Nat) : Int) = c →
    ∃ r, splicelaw08_walk.l0 k l most (i : Int) c p = some r ∧ Wk r.2 ∧ rd_T24 r.2 ((r.2.length - 1 : Nat) : Int) = r.1 ∧ r.2.length ≤ most.toNat + 1 := by
  intro d
  induction d with
  | zero =>
    intro k i c p hi hk him hpl hw hc
    obtain ⟨k, rfl⟩ : ∃ m, k = m + 1 := ⟨k - 1, by omega⟩
    simp only [splicelaw08_walk.l0]
    by_cases h1 : (i : Int) < (l.length : Int)
    · rw [if_pos h1, if_neg (by omega)]; exact ⟨_, rfl, hw, hc, by dsimp only; omega⟩
    · rw [if_neg h1]; exact ⟨_, rfl, hw, hc, by dsimp only; omega⟩
  | succ d ih =>
    intro k i c p hi hk him hpl hw hc
    obtain ⟨k, rfl⟩ : ∃ m, k = m + 1 := ⟨k - 1, by omega⟩
    simp only [splicelaw08_walk.l0]
    by_cases h1 : (i : Int) < (l.length : Int)
    case neg => rw [if_neg h1]; exact ⟨_, rfl, hw, hc, by dsimp only; omega⟩
    rw [if_pos h1]
    by_cases h2 : (i : Int) < most
    case neg => rw [if_neg h2]; exact ⟨_, rfl, hw, hc, by dsimp only; omega⟩
    rw [if_pos h2, if_pos (by omega)]
    have hck := hw.chk (p.length - 1) (by have := hw.ne; omega)
    rw [hc] at hck
    have hcl := check_len _ _ _ hck
    rw [apply_f k _ _ _ (by omega) _ _ _ (by omega), Option.bind_some]
    rw [w1c i (by omega)]
    generalize ha : applyS c.f0 c.f1 c.f2 (rd_T39 l (i : Int)).f0 (rd_T39 l (i : Int)).f1 (rd_T39 l (i : Int)).f2 = y
    obtain ⟨y1, y2, y3, y4, y5, y6⟩ := y
    dsimp only
    by_cases h3 : y6 = 0
    · subst h3
      rw [if_pos rfl, if_pos (by omega)]
      exact ih k (i + 1) _ _ (by omega) (by omega) (by omega) (by simp; omega) (hw.snoc c ⟨y1, y2, y3⟩ hc _ _ _ y4 y5 ha) (by rw [List.length_append, List.length_singleton, Nat.add_sub_cancel, rdc_new])
    · rw [if_neg h3]
      exact ih k (i + 1) c p (by omega) (by omega) (by omega) (by omega) hw hc
def firstOk (a b : Nat) : Bool :=
  match chart_First.f 60 ((a : Int) + 1) ((b : Int) + 1) with
  | some (ep, nx, l, _) => decide (ep = 1) && checkB ep nx l && (List.range (nx.toNat - 1)).all (fun j => l.any (fun x => decide (x.f0 = (j : Int) + 1)))
  | none => false
theorem firsts_ok : ∀ a : Fin 5, ∀ b : Fin 8, firstOk a.val b.val = true := by decide +kernel
theorem first_ok (a b : Int) (h : 1 ≤ a ∧ a ≤ 5 ∧ 1 ≤ b ∧ b ≤ 8) (k : Nat) (hk : 60 ≤ k) : ∃ nx l e, chart_First.f k a b = some (1, nx, l, e) ∧ checkB 1 nx l = true ∧ ∀ id : Int, 1 ≤ id → id < nx → ∃ x ∈ l, x.f0 = id := by
  have h1 := firsts_ok ⟨(a - 1).toNat, by omega⟩ ⟨(b - 1).toNat, by omega⟩
  unfold firstOk at h1
  have e0 : (((a - 1).toNat : Nat) : Int) + 1 = a := by omega
  have e1 : (((b - 1).toNat : Nat) : Int) + 1 = b := by omega
  simp only [e0, e1] at h1
  cases hf : chart_First.f 60 a b with
  | none => rw [hf] at h1; simp at h1
  | some y =>
    obtain ⟨ep, nx, l, e⟩ := y
    rw [hf] at h1
    simp only [Bool.and_eq_true, decide_eq_true_eq] at h1
    obtain ⟨⟨rfl, h2⟩, h3⟩ := h1
    refine ⟨nx, l, e, at_rounds (fun q => chart_First.mono a b q) hk hf, h2, fun id i1 i2 => ?_⟩
    have h4 := List.all_eq_true.1 h3 (id - 1).toNat (by rw [List.mem_range]; omega)
    obtain ⟨x, hx, h5⟩ := List.any_eq_true.1 h4
    exact ⟨x, hx, by have := of_decide_eq_true h5; omega⟩
theorem walk_f (k : Nat) (hk : 1200 ≤ k) (a0 a1 : Int) (l : List S39) (most : Int) (hl : l.length ≤ 140737488351232) (hm : most ≤ 1000) :
    ∃ r, splicelaw08_walk.f k a0 a1 l most = some r ∧ Wk r.2 ∧ rd_T24 r.2 ((r.2.length - 1 : Nat) : Int) = r.1 ∧ r.2.length ≤ most.toNat + 1 := by
  unfold splicelaw08_walk.f walkN
  have h5 := two_mod a0 5 (by omega) (by omega)
  have h8 := two_mod a1 8 (by omega) (by omega)
  generalize Int.tmod (wrap64 (Int.tmod a0 5 + 5)) 5 = u at h5
  generalize Int.tmod (wrap64 (Int.tmod a1 8 + 8)) 8 = v at h8
  have w5 : wrap64 (1 + u) = 1 + u := by unfold wrap64; omega
  have w8 : wrap64 (1 + v) = 1 + v := by unfold wrap64; omega
  rw [w5, w8]
  obtain ⟨nx, L, e, h1, h2, h3⟩ := first_ok (1 + u) (1 + v) (by omega) k (by omega)
  rw [h1, Option.bind_some]
  refine walk_l0 l most hl hm 1000 k 0 _ _ (by omega) (by omega) (by omega) (by simp) ⟨by simp, fun i hi => ?_, fun i hi => ?_, fun i hi => ?_, h3⟩ rfl
  · have : i = 0 := by simpa using hi
    subst this; exact h2
  · have : i = 0 := by simpa using hi
    subst this; rfl
  · simp at hi

/-! ### what a change leaves, and what it brings -/
theorem chain_ids (nx : Int) (l : List S57) : ∀ (d i : Nat) (prev : Int), i + d = l.length → chain0 nx l d i prev = true → ∀ x ∈ l.drop i, 1 ≤ x.f0 ∧ x.f0 < nx := by
  intro d
  induction d with
  | zero => intro i prev hi _ q hq; rw [List.drop_eq_nil_of_le (by omega)] at hq; simp at hq
  | succ d ih =>
    intro i prev hi h q hq
    simp only [chain0, elemB, Bool.and_eq_true, Bool.not_eq_true', decide_eq_false_iff_not] at h
    rw [drop_rd l i (by omega)] at hq
    rcases List.mem_cons.1 hq with rfl | hq
    · have h1 := h.1.1.1.1.1
      have h2 := h.1.1.1.1.2
      omega
    · exact ih (i + 1) _ (by omega) h.2 q hq
theorem check_ids (ep nx : Int) (l : List S57) (h : checkB ep nx l = true) : ∀ x ∈ l, 1 ≤ x.f0 ∧ x.f0 < nx := by
  simp only [checkB, Bool.and_eq_true] at h
  have := chain_ids nx l l.length 0 0 (by omega) h.2.1
  simpa using this
theorem chg_ids (nx kd at_ : Int) (l : List S57) (j : Nat) (hn : nx ≤ 65537) (hn1 : 1 ≤ nx) (h0 : (chg nx kd at_ l j).2.2 = 0) : (∀ y ∈ (chg nx kd at_ l j).2.1, nx ≤ y.f0) ∧ ∀ id : Int, nx ≤ id → id < nx + (chg nx kd at_ l j).2.1.length → ∃ y ∈ (chg nx kd at_ l j).2.1, y.f0 = id := by
  have w : wrap64 (nx + 1) = nx + 1 := by unfold wrap64; omega
  unfold chg at h0 ⊢
  rw [w] at h0 ⊢
  clear w
  dsimp only at h0 ⊢
  by_cases h1 : kd = 1
  · rw [if_pos h1] at h0 ⊢
    split at h0
    · simp at h0
    · rename_i h2
      rw [if_neg h2]
      refine ⟨fun y hy => ?_, fun id i1 i2 => ?_⟩
      · simp only [List.mem_cons, List.not_mem_nil, or_false] at hy
        rcases hy with rfl | rfl
        · exact Int.le_refl _
        · show nx ≤ nx + 1; omega
      · simp only [List.length_cons, List.length_nil] at i2
        by_cases e : id = nx
        · exact ⟨_, List.mem_cons_self, e.symm⟩
        · exact ⟨_, List.mem_cons_of_mem _ List.mem_cons_self, by show nx + 1 = id; omega⟩
  · rw [if_neg h1] at h0 ⊢
    by_cases h3 : kd = 2
    · rw [if_pos h3] at h0 ⊢
      split at h0
      · simp at h0
      · rename_i h2
        rw [if_neg h2]
        refine ⟨fun y hy => ?_, fun id i1 i2 => ?_⟩
        · simp only [List.mem_cons, List.not_mem_nil, or_false] at hy
          subst hy; exact Int.le_refl _
        · simp only [List.length_cons, List.length_nil] at i2
          exact ⟨_, List.mem_cons_self, by show nx = id; omega⟩
    · rw [if_neg h3] at h0 ⊢
      refine ⟨fun y hy => ?_, fun id i1 i2 => ?_⟩
      · simp only [List.mem_cons, List.not_mem_nil, or_false] at hy
        subst hy; exact Int.le_refl _
      · simp only [List.length_cons, List.length_nil] at i2
        exact ⟨_, List.mem_cons_self, by show nx = id; omega⟩
theorem step_ids (ep nx : Int) (l : List S57) (kd id at_ : Int) (ep' nx' : Int) (l' old fresh : List S57) (h : applyS ep nx l kd id at_ = (ep', nx', l', old, fresh, 0)) (hc : checkB ep nx l = true) :
    nx ≤ nx' ∧ (∀ y ∈ l', y.f0 < nx → y ∈ l) ∧ ∀ i : Int, nx ≤ i → i < nx' → ∃ y ∈ l', y.f0 = i := by
  have hl := check_len ep nx l hc
  obtain ⟨_, _, j, hj, _, _, h0, rfl, _, rfl, rfl⟩ := apply_ok _ _ _ _ _ _ _ _ _ _ _ h hc
  obtain ⟨c1, c2⟩ := chg_ids nx kd at_ l j (by omega) (by omega) h0
  refine ⟨by omega, fun y hy hlt => ?_, fun i i1 i2 => ?_⟩
  · rcases List.mem_append.1 hy with hy | hy
    · rcases List.mem_append.1 hy with hy | hy
      · exact List.mem_of_mem_take hy
      · have := c1 y hy; omega
    · exact List.mem_of_mem_drop hy
  · obtain ⟨y, hy, e⟩ := c2 i i1 i2
    exact ⟨y, List.mem_append_left _ (List.mem_append_right _ hy), e⟩
theorem wk_back {p : List S24} (hw : Wk p) (i : Nat) : ∀ d : Nat, i + d < p.length → (rd_T24 p (i : Int)).f1 ≤ (rd_T24 p ((i + d : Nat) : Int)).f1 ∧ ∀ y ∈ (rd_T24 p ((i + d : Nat) : Int)).f2, y.f0 < (rd_T24 p (i : Int)).f1 → y ∈ (rd_T24 p (i : Int)).f2 := by
  intro d
  induction d with
  | zero => intro _; exact ⟨Int.le_refl _, fun y hy _ => hy⟩
  | succ d ih =>
    intro h
    obtain ⟨i1, i2⟩ := ih (by omega)
    obtain ⟨kd, id, at_, old, fresh, ha⟩ := hw.st (i + d) (by omega)
    obtain ⟨s1, s2, _⟩ := step_ids _ _ _ _ _ _ _ _ _ _ _ ha (hw.chk (i + d) (by omega))
    rw [show i + d + 1 = i + (d + 1) from by omega] at s1 s2
    exact ⟨Int.le_trans i1 s1, fun y hy hlt => i2 y (s2 y hy (by omega)) hlt⟩
theorem wk_seen {p : List S24} (hw : Wk p) : ∀ j : Nat, j < p.length → ∀ id : Int, 1 ≤ id → id < (rd_T24 p (j : Int)).f1 → ∃ m : Nat, m ≤ j ∧ ∃ x ∈ (rd_T24 p (m : Int)).f2, x.f0 = id := by
  intro j
  induction j with
  | zero => intro _ id h1 h2; exact ⟨0, Nat.le_refl _, hw.fst id h1 h2⟩
  | succ j ih =>
    intro hj id h1 h2
    by_cases h : id < (rd_T24 p (j : Int)).f1
    · obtain ⟨m, hm, hx⟩ := ih (by omega) id h1 h
      exact ⟨m, by omega, hx⟩
    · obtain ⟨kd, id', at_, old, fresh, ha⟩ := hw.st j (by omega)
      obtain ⟨_, _, s3⟩ := step_ids _ _ _ _ _ _ _ _ _ _ _ ha (hw.chk j (by omega))
      exact ⟨j + 1, Nat.le_refl _, s3 id (by omega) h2⟩
theorem uniq_mem (l : List S57) (h : GoodC l) (x y : S57) (hx : x ∈ l) (hy : y ∈ l) (e : x.f0 = y.f0) : x = y := by
  obtain ⟨p, hp, rfl⟩ := mem_rd l x hx
  obtain ⟨q, hq, rfl⟩ := mem_rd l y hy
  by_cases e1 : p < q
  · exact absurd e (h.apart p q e1 hq)
  by_cases e2 : q < p
  · exact absurd e.symm (h.apart q p e2 hp)
  have : p = q := by omega
  rw [this]
theorem find_val (ep nx : Int) (l : List S57) (h : checkB ep nx l = true) (id : Int) :
    ((∀ x ∈ l, x.f0 ≠ id) ∧ atS l (ixOf (fun x => decide (x.f0 = id)) l 0) = (0, 0, 0, 0, false)) ∨ ∃ y ∈ l, y.f0 = id ∧ atS l (ixOf (fun x => decide (x.f0 = id)) l 0) = (y.f0, y.f1.f0, y.f1.f1, y.f2, true) := by
  have hr := ixOf_range (fun x => decide (x.f0 = id)) l 0
  have hp := ixOf_pos (fun x => decide (x.f0 = id)) l 0
  by_cases h2 : ixOf (fun x => decide (x.f0 = id)) l 0 < 0
  · left
    refine ⟨fun x hx e => ?_, by unfold atS; rw [if_pos h2]⟩
    have := hp.2 (List.any_eq_true.2 ⟨x, hx, decide_eq_true e⟩)
    omega
  · right
    obtain ⟨j, hj⟩ : ∃ j : Nat, ixOf (fun x => decide (x.f0 = id)) l 0 = (j : Int) := ⟨(ixOf (fun x => decide (x.f0 = id)) l 0).toNat, by omega⟩
    have hq := ixOf_p (fun x => decide (x.f0 = id)) l 0 j (by rw [List.drop_zero]; exact hj)
    refine ⟨rd_T57 l (j : Int), ?_, by simpa using hq, by rw [hj, atS_nat]⟩
    rw [rd_get l j (by omega)]
    exact List.getElem_mem _

end Go.Proofs.Ytbhlphadcphapaa.PL
