import Derived.Test.YtbhlphadcphapaaPVx0
import Derived.Test.YtbhlphadcphapaaPVx2
import Derived.Test.YtbhlphadcphapaaPVx4
import Derived.Test.YtbhlphadcphapaaVQ1
import Derived.Test.YtbhlphadcphapaaVQ2
namespace Go.Proofs.Ytbhlphadcphapaa.PV
open Go.RowKit Go.Proofs.YtbhlphadcphapaaW.PrintWords Go.Proofs.YtbhlphadcphapaaW.PrintLast Go.Proofs.YtbhlphadcphapaaW.PrintMore
set_option linter.unusedVariables false
set_option linter.unusedSimpArgs false


/-! ### what a change leaves, and what it brings -/
theorem chain_ids (nx : Int) (l : List S57) : ∀ (d i : Nat) (prev : Int), i + d = l.length → chain0 nx l d i prev = true → ∀ x ∈ l.drop i, 1 ≤ x.f0 ∧ x.f0 < nx := by
  intro d
  induction d with
  | zero => intro i prev hi _ q hq; rw [List.drop_eq_nil_of_le (by omega)] at hq; simp at hq
  | succ d ih =>
    intro i prev hi h q hq
    simp only [chain0, elemB, Bool.and_eq_true, Bool.not_eq_true', decide_eq_false_iff_not] at h
    rw [drop_rd l i (by omega)] at hq
    rcases List.mem_cons.1 hq with rfl | hq
    · have h1 := h.1.1.1.1.1
      have h2 := h.1.1.1.1.2
      omega
    · exact ih (i + 1) _ (by omega) h.2 q hq
theorem check_ids (ep nx : Int) (l : List S57) (h : checkB ep nx l = true) : ∀ x ∈ l, 1 ≤ x.f0 ∧ x.f0 < nx := by
  simp only [checkB, Bool.and_eq_true] at h
  have := chain_ids nx l l.length 0 0 (by omega) h.2.1
  simpa using this
theorem chg_ids (nx kd at_ : Int) (l : List S57) (j : Nat) (hn : nx ≤ 65537) (hn1 : 1 ≤ nx) (h0 : (chg nx kd at_ l j).2.2 = 0) : (∀ y ∈ (chg nx kd at_ l j).2.1, nx ≤ y.f0) ∧ ∀ id : Int, nx ≤ id → id < nx + (chg nx kd at_ l j).2.1.length → ∃ y ∈ (chg nx kd at_ l j).2.1, y.f0 = id := by
  have w : wrap64 (nx + 1) = nx + 1 := by unfold wrap64; omega
  unfold chg at h0 ⊢
  rw [w] at h0 ⊢
  clear w
  dsimp only at h0 ⊢
  by_cases h1 : kd = 1
  · rw [if_pos h1] at h0 ⊢
    split at h0
    · simp at h0
    · rename_i h2
      rw [if_neg h2]
      refine ⟨fun y hy => ?_, fun id i1 i2 => ?_⟩
      · simp only [List.mem_cons, List.not_mem_nil, or_false] at hy
        rcases hy with rfl | rfl
        · exact Int.le_refl _
        · show nx ≤ nx + 1; omega
      · simp only [List.length_cons, List.length_nil] at i2
        by_cases e : id = nx
        · exact ⟨_, List.mem_cons_self, e.symm⟩
        · exact ⟨_, List.mem_cons_of_mem _ List.mem_cons_self, by show nx + 1 = id; omega⟩
  · rw [if_neg h1] at h0 ⊢
    by_cases h3 : kd = 2
    · rw [if_pos h3] at h0 ⊢
      split at h0
      · simp at h0
      · rename_i h2
        rw [if_neg h2]
        refine ⟨fun y hy => ?_, fun id i1 i2 => ?_⟩
        · simp only [List.mem_cons, List.not_mem_nil, or_false] at hy
          subst hy; exact Int.le_refl _
        · simp only [List.length_cons, List.length_nil] at i2
          exact ⟨_, List.mem_cons_self, by show nx = id; omega⟩
    · rw [if_neg h3] at h0 ⊢
      refine ⟨fun y hy => ?_, fun id i1 i2 => ?_⟩
      · simp only [List.mem_cons, List.not_mem_nil, or_false] at hy
        subst hy; exact Int.le_refl _
      · simp only [List.length_cons, List.length_nil] at i2
        exact ⟨_, List.mem_cons_self, by show nx = id; omega⟩
theorem step_ids (ep nx : Int) (l : List S57) (kd id at_ : Int) (ep' nx' : Int) (l' old fresh : List S57) (h : applyS ep nx l kd id at_ = (ep', nx', l', old, fresh, 0)) (hc : checkB ep nx l = true) :
    nx ≤ nx' ∧ (∀ y ∈ l', y.f0 < nx → y ∈ l) ∧ ∀ i : Int, nx ≤ i → i < nx' → ∃ y ∈ l', y.f0 = i := by
  have hl := check_len ep nx l hc
  obtain ⟨_, _, j, hj, _, _, h0, rfl, _, rfl, rfl⟩ := apply_ok _ _ _ _ _ _ _ _ _ _ _ h hc
  obtain ⟨c1, c2⟩ := chg_ids nx kd at_ l j (by omega) (by omega) h0
  refine ⟨by omega, fun y hy hlt => ?_, fun i i1 i2 => ?_⟩
  · rcases List.mem_append.1 hy with hy | hy
    · rcases List.mem_append.1 hy with hy | hy
      · exact List.mem_of_mem_take hy
      · have := c1 y hy; omega
    · exact List.mem_of_mem_drop hy
  · obtain ⟨y, hy, e⟩ := c2 i i1 i2
    exact ⟨y, List.mem_append_left _ (List.mem_append_right _ hy), e⟩
theorem wk_back {p : List S24} (hw : Wk p) (i : Nat) : ∀ d : Nat, i + d < p.length → (rd_T24 p (i : Int)).f1 ≤ (rd_T24 p ((i + d : Nat) : Int)).f1 ∧ ∀ y ∈ (rd_T24 p ((i + d : Nat) : Int)).f2, y.f0 < (rd_T24 p (i : Int)).f1 → y ∈ (rd_T24 p (i : Int)).f2 := by
  intro d
  induction d with
  | zero => intro _; exact ⟨Int.le_refl _, fun y hy _ => hy⟩
  | succ d ih =>
    intro h
    obtain ⟨i1, i2⟩ := ih (by omega)
    obtain ⟨kd, id, at_, old, fresh, ha⟩ := hw.st (i + d) (by omega)
    obtain ⟨s1, s2, _⟩ := step_ids _ _ _ _ _ _ _ _ _ _ _ ha (hw.chk (i + d) (by omega))
    rw [show i + d + 1 = i + (d + 1) from by omega] at s1 s2
    exact ⟨Int.le_trans i1 s1, fun y hy hlt => i2 y (s2 y hy (by omega)) hlt⟩
theorem wk_seen {p : List S24} (hw : Wk p) : ∀ j : Nat, j < p.length → ∀ id : Int, 1 ≤ id → id < (rd_T24 p (j : Int)).f1 → ∃ m : Nat, m ≤ j ∧ ∃ x ∈ (rd_T24 p (m : Int)).f2, x.f0 = id := by
  intro j
  induction j with
  | zero => intro _ id h1 h2; exact ⟨0, Nat.le_refl _, hw.fst id h1 h2⟩
  | succ j ih =>
    intro hj id h1 h2
    by_cases h : id < (rd_T24 p (j : Int)).f1
    · obtain ⟨m, hm, hx⟩ := ih (by omega) id h1 h
      exact ⟨m, by omega, hx⟩
    · obtain ⟨kd, id', at_, old, fresh, ha⟩ := hw.st j (by omega)
      obtain ⟨_, _, s3⟩ := step_ids _ _ _ _ _ _ _ _ _ _ _ ha (hw.chk j (by omega))
      exact ⟨j + 1, Nat.le_refl _, s3 id (by omega) h2⟩
theorem uniq_mem (l : List S57) (h : GoodC l) (x y : S57) (hx : x ∈ l) (hy : y ∈ l) (e : x.f0 = y.f0) : x = y := by
  obtain ⟨p, hp, rfl⟩ := mem_rd l x hx
  obtain ⟨q, hq, rfl⟩ := mem_rd l y hy
  by_cases e1 : p < q
  · exact absurd e (h.apart p q e1 hq)
  by_cases e2 : q < p
  · exact absurd e.symm (h.apart q p e2 hp)
  have : p = q := by omega
  rw [this]
theorem find_val (ep nx : Int) (l : List S57) (h : checkB ep nx l = true) (id : Int) :
    ((∀ x ∈ l, x.f0 ≠ id) ∧ atS l (ixOf (fun x => decide (x.f0 = id)) l 0) = (0, 0, 0, 0, false)) ∨ ∃ y ∈ l, y.f0 = id ∧ atS l (ixOf (fun x => decide (x.f0 = id)) l 0) = (y.f0, y.f1.f0, y.f1.f1, y.f2, true) := by
  have hr := ixOf_range (fun x => decide (x.f0 = id)) l 0
  have hp := ixOf_pos (fun x => decide (x.f0 = id)) l 0
  by_cases h2 : ixOf (fun x => decide (x.f0 = id)) l 0 < 0
  · left
    refine ⟨fun x hx e => ?_, by unfold atS; rw [if_pos h2]⟩
    have := hp.2 (List.any_eq_true.2 ⟨x, hx, decide_eq_true e⟩)
    omega
  · right
    obtain ⟨j, hj⟩ : ∃ j : Nat, ixOf (fun x => decide (x.f0 = id)) l 0 = (j : Int) := ⟨(ixOf (fun x => decide (x.f0 = id)) l 0).toNat, by omega⟩
    have hq := ixOf_p (fun x => decide (x.f0 = id)) l 0 j (by rw [List.drop_zero]; exact hj)
    refine ⟨rd_T57 l (j : Int), ?_, by simpa using hq, by rw [hj, atS_nat]⟩
    rw [rd_get l j (by omega)]
    exact List.getElem_mem _

end Go.Proofs.Ytbhlphadcphapaa.PV
