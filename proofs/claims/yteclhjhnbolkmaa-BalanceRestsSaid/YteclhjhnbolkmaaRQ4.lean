import Derived.Test.YteclhjhnbolkmaaPRx0
import Derived.Test.YteclhjhnbolkmaaPRx3
import Derived.Test.YteclhjhnbolkmaaPRx4
import Derived.Test.YteclhjhnbolkmaaPRx6
import Derived.Test.YteclhjhnbolkmaaPRx7
import Derived.Test.YteclhjhnbolkmaaPRx8
import Derived.Test.YteclhjhnbolkmaaRQ1
import Derived.Test.YteclhjhnbolkmaaRQ2
import Derived.Test.YteclhjhnbolkmaaRQ3
namespace Go.Proofs.Yteclhjhnbolkmaa.PR
open Go.RowKit Go.Proofs.YteclhjhnbolkmaaW.PrintWords Go.Proofs.YteclhjhnbolkmaaW.PrintLast Go.Proofs.YteclhjhnbolkmaaW.PrintMore
set_option linter.unusedVariables false
set_option linter.unusedSimpArgs false


/-! ### spans' loads without wrap, the cut, and the best of a list -/
theorem tbl_at (l : List Pr70) : ∀ (d i : Nat), i + d = l.length → tbl0 l d i = true → ∀ j : Nat, i ≤ j → j < l.length → 0 ≤ (rd_T70 l (j : Int)).f0 ∧ (0 < j → (rd_T70 l ((j - 1 : Nat) : Int)).f0 < (rd_T70 l (j : Int)).f0) := by
  intro d
  induction d with
  | zero => intro i hi _ j h1 h2; omega
  | succ d ih =>
    intro i hi h j h1 h2
    simp only [tbl0] at h
    split at h
    · simp at h
    split at h
    · simp at h
    split at h
    · simp at h
    split at h
    · simp at h
    split at h
    · simp at h
    rename_i n1 _ _ _ n5
    by_cases e : j = i
    · subst e
      exact ⟨by omega, fun q => by
        have : ¬ (rd_T70 l ((j - 1 : Nat) : Int)).f0 ≥ (rd_T70 l (j : Int)).f0 := fun z => n5 ⟨q, z⟩
        omega⟩
    · exact ih (i + 1) (by omega) h j (by omega) h2
structure GoodP (l : List Pr70) : Prop where
  up : ∀ a b : Nat, a < b → b < l.length → (rd_T70 l (a : Int)).f0 < (rd_T70 l (b : Int)).f0
  pos : ∀ x ∈ l, 0 ≤ x.f0
  val : ∀ x ∈ l, 0 ≤ x.f1
theorem goodp_of (l : List Pr70) (h : loadB l = true) : GoodP l := by
  simp only [loadB, Bool.and_eq_true, Bool.not_eq_true'] at h
  have ha := tbl_at l l.length 0 (by omega) h.1
  refine ⟨?_, ?_, ?_⟩
  · intro a b hab hb
    obtain ⟨c, rfl⟩ : ∃ c, b = a + 1 + c := ⟨b - a - 1, by omega⟩
    clear hab
    induction c with
    | zero =>
      have := (ha (a + 1) (by omega) (by omega)).2 (by omega)
      simpa using this
    | succ c ih =>
      have h1 := ih (by omega)
      have h2 := (ha (a + 1 + (c + 1)) (by omega) (by omega)).2 (by omega)
      rw [show a + 1 + (c + 1) - 1 = a + 1 + c from by omega] at h2
      omega
  · intro x hx
    obtain ⟨i, hi, rfl⟩ := List.mem_iff_getElem.mp hx
    have := (ha i (by omega) hi).1
    rwa [rdp_get l i hi] at this
  · intro x hx
    have h2 := h.2
    rw [List.any_eq_false] at h2
    have := h2 x hx
    simp only [negP, decide_eq_true_eq] at this
    omega
/-- the load of the keys from lo up to hi, without wrap -/
def sm (lo hi : Int) : List Pr70 → Int
  | [] => 0
  | x :: l => (if lo ≤ x.f0 ∧ x.f0 < hi then x.f1 else 0) + sm lo hi l
theorem sm_nonneg (lo hi : Int) : ∀ l : List Pr70, (∀ x ∈ l, 0 ≤ x.f1) → 0 ≤ sm lo hi l := by
  intro l
  induction l with
  | nil => intro _; exact Int.le_refl _
  | cons x l ih =>
    intro h
    have h1 := ih (fun y hy => h y (List.mem_cons_of_mem _ hy))
    have h2 := h x List.mem_cons_self
    simp only [sm]
    split <;> omega
theorem sm_le (lo hi : Int) : ∀ l : List Pr70, (∀ x ∈ l, 0 ≤ x.f1 ∧ x.f1 ≤ 16384) → sm lo hi l ≤ 16384 * l.length := by
  intro l
  induction l with
  | nil => intro _; simp [sm]
  | cons x l ih =>
    intro h
    have h1 := ih (fun y hy => h y (List.mem_cons_of_mem _ hy))
    have h2 := h x List.mem_cons_self
    simp only [sm, List.length_cons]
    split <;> omega
theorem sm_pos (lo hi : Int) : ∀ l : List Pr70, (∀ x ∈ l, 0 ≤ x.f1) → (∃ p ∈ l, lo ≤ p.f0 ∧ p.f0 < hi ∧ 0 < p.f1) → 0 < sm lo hi l := by
  intro l
  induction l with
  | nil => intro _ h; obtain ⟨p, hp, _⟩ := h; simp at hp
  | cons x l ih =>
    intro h hp
    have h1 := sm_nonneg lo hi l (fun y hy => h y (List.mem_cons_of_mem _ hy))
    have h2 := h x List.mem_cons_self
    obtain ⟨p, hp, q⟩ := hp
    rcases List.mem_cons.mp hp with rfl | hp
    · simp only [sm]; rw [if_pos ⟨q.1, q.2.1⟩]; omega
    · have h3 := ih (fun y hy => h y (List.mem_cons_of_mem _ hy)) ⟨p, hp, q⟩
      simp only [sm]; split <;> omega
theorem sm_add (lo mid hi : Int) (h1 : lo ≤ mid) (h2 : mid ≤ hi) : ∀ l : List Pr70, sm lo mid l + sm mid hi l = sm lo hi l := by
  intro l
  induction l with
  | nil => rfl
  | cons x l ih =>
    simp only [sm]
    by_cases a : lo ≤ x.f0 ∧ x.f0 < mid
    · rw [if_pos a, if_neg (by omega), if_pos (by omega)]; omega
    · rw [if_neg a]
      by_cases b : mid ≤ x.f0 ∧ x.f0 < hi
      · rw [if_pos b, if_pos (by omega)]; omega
      · rw [if_neg b, if_neg (by omega)]; omega
theorem sum0_sm (l : List Pr70) (lo hi : Int) (hl : l.length ≤ 60) (hv : ∀ x ∈ l, 0 ≤ x.f1 ∧ x.f1 ≤ 16384) : ∀ (d i : Nat) (acc : Int), i + d = l.length → 0 ≤ acc → acc ≤ 16384 * i → sum0 l lo hi d i acc = acc + sm lo hi (l.drop i) := by
  intro d
  induction d with
  | zero => intro i acc hi h0 h1; rw [List.drop_eq_nil_of_le (by omega)]; simp [sum0, sm]
  | succ d ih =>
    intro i acc hi0 h0 h1
    have hx := hv (rd_T70 l (i : Int)) (by rw [rdp_get l i (by omega)]; exact List.getElem_mem _)
    rw [drop_rdp l i (by omega)]
    simp only [sum0, sm]
    by_cases a : (rd_T70 l (i : Int)).f0 ≥ lo
    · rw [if_pos a]
      by_cases b : (rd_T70 l (i : Int)).f0 < hi
      · have hw : wrap64 (acc + (rd_T70 l (i : Int)).f1) = acc + (rd_T70 l (i : Int)).f1 := by unfold wrap64; omega
        rw [if_pos b, if_pos ⟨a, b⟩, hw, ih (i + 1) _ (by omega) (by omega) (by omega)]; omega
      · rw [if_neg b, if_neg (fun q => b q.2), ih (i + 1) _ (by omega) h0 (by omega)]; omega
    · rw [if_neg a, if_neg (fun q => a q.1), ih (i + 1) _ (by omega) h0 (by omega)]; omega
structure SmallP (l : List Pr70) : Prop where
  len : l.length ≤ 60
  val : ∀ x ∈ l, 0 ≤ x.f1 ∧ x.f1 ≤ 16384
theorem sumS_sm (l : List Pr70) (h : SmallP l) (lo hi : Int) : sumS l lo hi = sm lo hi l := by
  unfold sumS
  rw [sum0_sm l lo hi h.len h.val l.length 0 0 (by omega) (by omega) (by omega), List.drop_zero]; omega
theorem sumS_b (l : List Pr70) (h : SmallP l) (lo hi : Int) : 0 ≤ sumS l lo hi ∧ sumS l lo hi ≤ 983040 := by
  rw [sumS_sm l h]
  have h1 := sm_nonneg lo hi l (fun x hx => (h.val x hx).1)
  have h2 := sm_le lo hi l h.val
  have h3 := h.len
  omega
theorem sumS_add (l : List Pr70) (h : SmallP l) (lo mid hi : Int) (h1 : lo ≤ mid) (h2 : mid ≤ hi) : sumS l lo mid + sumS l mid hi = sumS l lo hi := by
  rw [sumS_sm l h, sumS_sm l h, sumS_sm l h]; exact sm_add lo mid hi h1 h2 l
/-- behind the last load ahead of key -/
theorem behind_l0 (l : List Pr70) (hl : l.length ≤ 1000000) (hg : GoodP l) (lo hi key : Int) (hk : lo ≤ key) (hkey : key ≤ 1000000) (hlo : 0 ≤ lo) : ∀ (d k i : Nat) (acc : Int), i + d = l.length → d < k → acc ≤ key → (∀ j : Nat, i ≤ j → j < l.length → lo ≤ (rd_T70 l (j : Int)).f0 → acc ≤ (rd_T70 l (j : Int)).f0) →
    ∃ r, balance_behind.l0 k key acc l (l.length : Int) (i : Int) lo hi = some r ∧ acc ≤ r ∧ r ≤ key ∧ ∀ j : Nat, i ≤ j → j < l.length → lo ≤ (rd_T70 l (j : Int)).f0 → (rd_T70 l (j : Int)).f0 < key → 0 < (rd_T70 l (j : Int)).f1 → (rd_T70 l (j : Int)).f0 < r := by
  intro d
  induction d with
  | zero =>
    intro k i acc hi hk ha _
    obtain ⟨k, rfl⟩ : ∃ m, k = m + 1 := ⟨k - 1, by omega⟩
    simp only [balance_behind.l0]
    rw [if_neg (by omega)]
    exact ⟨_, rfl, Int.le_refl _, ha, fun j h1 h2 => by omega⟩
  | succ d ih =>
    intro k i acc hi0 hk0 ha hq
    obtain ⟨k, rfl⟩ : ∃ m, k = m + 1 := ⟨k - 1, by omega⟩
    have hp := hg.pos (rd_T70 l (i : Int)) (by rw [rdp_get l i (by omega)]; exact List.getElem_mem _)
    simp only [balance_behind.l0]
    rw [if_pos (by omega), if_pos (by omega), if_pos (by omega), w1c i (by omega)]
    have skip : ¬ (lo ≤ (rd_T70 l (i : Int)).f0 ∧ (rd_T70 l (i : Int)).f0 < key ∧ 0 < (rd_T70 l (i : Int)).f1) → ∃ r, balance_behind.l0 k key acc l (l.length : Int) ((i + 1 : Nat) : Int) lo hi = some r ∧ acc ≤ r ∧ r ≤ key ∧ ∀ j : Nat, i ≤ j → j < l.length → lo ≤ (rd_T70 l (j : Int)).f0 → (rd_T70 l (j : Int)).f0 < key → 0 < (rd_T70 l (j : Int)).f1 → (rd_T70 l (j : Int)).f0 < r := fun hs => by
      obtain ⟨r, e, r1, r2, r3⟩ := ih k (i + 1) acc (by omega) (by omega) ha (fun j h1 h2 => hq j (by omega) h2)
      refine ⟨r, e, r1, r2, fun j h1 h2 h3 h4 h5 => ?_⟩
      by_cases ej : j = i
      · subst ej; exact absurd ⟨h3, h4, h5⟩ hs
      · exact r3 j (by omega) h2 h3 h4 h5
    by_cases a : (rd_T70 l (i : Int)).f0 ≥ lo
    case neg => rw [if_neg a]; exact skip (fun q => a q.1)
    rw [if_pos a]
    by_cases b : (rd_T70 l (i : Int)).f0 < key
    case neg => rw [if_neg b]; exact skip (fun q => b q.2.1)
    rw [if_pos b]
    by_cases c : (rd_T70 l (i : Int)).f1 > 0
    case neg => rw [if_neg c]; exact skip (fun q => c q.2.2)
    rw [if_pos c]
    have hw : wrap64 ((rd_T70 l (i : Int)).f0 + 1) = (rd_T70 l (i : Int)).f0 + 1 := by unfold wrap64; omega
    have hai := hq i (Nat.le_refl _) (by omega) a
    rw [hw]
    obtain ⟨r, e, r1, r2, r3⟩ := ih k (i + 1) ((rd_T70 l (i : Int)).f0 + 1) (by omega) (by omega) (by omega) (fun j h1 h2 h3 => by
      have := hg.up i j (by omega) h2
      omega)
    refine ⟨r, e, by omega, r2, fun j h1 h2 h3 h4 h5 => ?_⟩
    by_cases ej : j = i
    · subst ej; omega
    · exact r3 j (by omega) h2 h3 h4 h5
/-- a key that leaves loads on both sides -/
def Parts (l : List Pr70) (lo hi at_ : Int) : Prop := (∃ p ∈ l, lo ≤ p.f0 ∧ p.f0 < at_ ∧ 0 < p.f1) ∧ ∃ q ∈ l, at_ ≤ q.f0 ∧ q.f0 < hi ∧ 0 < q.f1
theorem cut_l0 (l : List Pr70) (hl : l.length ≤ 60) (hg : GoodP l) (lo hi tot : Int) (hlo : 0 ≤ lo) (hhi : hi ≤ 4096) : ∀ (d k i : Nat) (left at_ off : Int), i + d = l.length → 2 * d + 70 < k → (0 ≤ off → Parts l lo hi at_) → (0 < left → ∃ j : Nat, j < i ∧ lo ≤ (rd_T70 l (j : Int)).f0 ∧ 0 < (rd_T70 l (j : Int)).f1) →
    ∃ r, balance_cut.l0 k l tot left at_ off l (l.length : Int) (i : Int) lo hi = some r ∧ (r.2 = true → Parts l lo hi r.1) := by
  intro d
  induction d with
  | zero =>
    intro k i left at_ off hi0 hk h1 h2
    obtain ⟨k, rfl⟩ : ∃ m, k = m + 1 := ⟨k - 1, by omega⟩
    simp only [balance_cut.l0]
    rw [if_neg (by omega)]
    exact ⟨_, rfl, fun h => h1 (by simpa using h)⟩
  | succ d ih =>
    intro k i left at_ off hi0 hk h1 h2
    obtain ⟨k, rfl⟩ : ∃ m, k = m + 2 := ⟨k - 2, by omega⟩
    have hmem : (rd_T70 l (i : Int)) ∈ l := by rw [rdp_get l i (by omega)]; exact List.getElem_mem _
    have hp := hg.pos _ hmem
    have hv := hg.val _ hmem
    have skip : ∃ r, balance_cut.l0 k l tot left at_ off l (l.length : Int) ((i + 1 : Nat) : Int) lo hi = some r ∧ (r.2 = true → Parts l lo hi r.1) := ih k (i + 1) left at_ off (by omega) (by omega) h1 (fun q => by obtain ⟨j, hj, z⟩ := h2 q; exact ⟨j, by omega, z⟩)
    simp only [balance_cut.l0]
    rw [if_pos (by omega), if_pos (by omega), if_pos (by omega)]
    by_cases a : (rd_T70 l (i : Int)).f0 < lo
    · rw [if_pos a]; simp only [balance_cut.j1]; rw [if_pos trivial, w1c i (by omega)]; exact skip
    rw [if_neg a]
    by_cases b : (rd_T70 l (i : Int)).f0 ≥ hi
    · rw [if_pos b]; simp only [balance_cut.j1]; rw [if_pos trivial, w1c i (by omega)]; exact skip
    rw [if_neg b]
    simp only [balance_cut.j1]
    by_cases c : (rd_T70 l (i : Int)).f1 = 0
    · rw [if_pos (beq_iff_eq.mpr c), w1c i (by omega)]; exact skip
    rw [if_neg (by simpa using c), w1c i (by omega)]
    have wit : ∃ j : Nat, j < i + 1 ∧ lo ≤ (rd_T70 l (j : Int)).f0 ∧ 0 < (rd_T70 l (j : Int)).f1 := ⟨i, by omega, by omega, by omega⟩
    have keep : ∃ r, balance_cut.l0 k l tot (wrap64 (left + (rd_T70 l (i : Int)).f1)) at_ off l (l.length : Int) ((i + 1 : Nat) : Int) lo hi = some r ∧ (r.2 = true → Parts l lo hi r.1) := ih k (i + 1) _ at_ off (by omega) (by omega) h1 (fun _ => wit)
    by_cases e : left > 0
    case neg => rw [if_neg e]; exact keep
    rw [if_pos e]
    obtain ⟨j, hj, j1, j2⟩ := h2 e
    have hup := hg.up j i hj (by omega)
    obtain ⟨r, er, r1, r2, r3⟩ := behind_l0 l (by omega) hg lo hi (rd_T70 l (i : Int)).f0 (by omega) (by omega) hlo l.length k 0 lo (by omega) (by omega) (by omega) (fun _ _ _ z => z)
    have hb : balance_behind.f k l lo hi (rd_T70 l (i : Int)).f0 = some r := er
    have hparts : Parts l lo hi r := ⟨⟨rd_T70 l (j : Int), by rw [rdp_get l j (by omega)]; exact List.getElem_mem _, j1, r3 j (by omega) (by omega) j1 hup j2, j2⟩, ⟨_, hmem, r2, by omega, by omega⟩⟩
    have take : ∀ off', ∃ r', balance_cut.l0 k l tot (wrap64 (left + (rd_T70 l (i : Int)).f1)) r off' l (l.length : Int) ((i + 1 : Nat) : Int) lo hi = some r' ∧ (r'.2 = true → Parts l lo hi r'.1) := fun off' => ih k (i + 1) _ r off' (by omega) (by omega) (fun _ => hparts) (fun _ => wit)
    by_cases g : off < 0
    · rw [if_pos g, hb, Option.bind_some]; exact take _
    rw [if_neg g]
    split
    · rw [hb, Option.bind_some]; exact take _
    · exact keep
theorem cut_f (k : Nat) (hk : 200 ≤ k) (l : List Pr70) (hl : l.length ≤ 60) (hg : GoodP l) (lo hi : Int) (hlo : 0 ≤ lo) (hhi : hi ≤ 4096) : ∃ r, balance_cut.f k l lo hi = some r ∧ (r.2 = true → Parts l lo hi r.1) := by
  unfold balance_cut.f
  rw [sum_f k l (by omega) lo hi (by omega), Option.bind_some]
  exact cut_l0 l hl hg lo hi _ hlo hhi l.length k 0 0 0 (-1) (by omega) (by omega) (fun h => by omega) (fun h => by omega)
theorem bestS_ix (m : Nat → S67 → Int × Bool) : ∀ (l : List S67) (i : Nat) (at_ most : Int), bestLS m l i at_ most = at_ ∨ ∃ j, ∃ h : j < l.length, bestLS m l i at_ most = ((i + j : Nat) : Int) ∧ (m (i + j) l[j]).2 = true := by
  intro l
  induction l with
  | nil => intro i at_ most; exact Or.inl rfl
  | cons x l ih =>
    intro i at_ most
    have up : ∀ a b : Int, bestLS m l (i + 1) a b = a ∨ ∃ j, ∃ h : j < (x :: l).length, 0 < j ∧ bestLS m l (i + 1) a b = ((i + j : Nat) : Int) ∧ (m (i + j) (x :: l)[j]).2 = true := fun a b => by
      rcases ih (i + 1) a b with h | ⟨j, hj, e, g⟩
      · exact Or.inl h
      · refine Or.inr ⟨j + 1, by simpa using hj, by omega, by rw [e]; congr 1; omega, ?_⟩
        rw [List.getElem_cons_succ, show i + (j + 1) = i + 1 + j from by omega]; exact g
    simp only [bestLS]
    by_cases h1 : (m i x).2 = true
    · rw [if_pos h1]
      have here : ∀ b : Int, bestLS m l (i + 1) (i : Int) b = at_ ∨ ∃ j, ∃ h : j < (x :: l).length, bestLS m l (i + 1) (i : Int) b = ((i + j : Nat) : Int) ∧ (m (i + j) (x :: l)[j]).2 = true := fun b => by
        rcases up (i : Int) b with h | ⟨j, hj, _, e, g⟩
        · exact Or.inr ⟨0, by simp, by rw [h]; rfl, h1⟩
        · exact Or.inr ⟨j, hj, e, g⟩
      split
      · exact here _
      · split
        · exact here _
        · rcases up at_ most with h | ⟨j, hj, _, e, g⟩
          · exact Or.inl h
          · exact Or.inr ⟨j, hj, e, g⟩
    · rw [if_neg h1]
      rcases up at_ most with h | ⟨j, hj, _, e, g⟩
      · exact Or.inl h
      · exact Or.inr ⟨j, hj, e, g⟩
theorem bestS_none (m : Nat → S67 → Int × Bool) (l : List S67) : bestLS m l 0 (-1) 0 < 0 ∨ ∃ j, ∃ h : j < l.length, bestLS m l 0 (-1) 0 = (j : Int) ∧ (m j l[j]).2 = true := by
  rcases bestS_ix m l 0 (-1) 0 with h | ⟨j, hj, e, g⟩
  · exact Or.inl (by omega)
  · rw [Nat.zero_add] at e g; exact Or.inr ⟨j, hj, e, g⟩
theorem bestI_ix (m : Nat → Int → Int × Bool) (hm : ∀ i x, (m i x).2 = true) : ∀ (l : List Int) (i : Nat) (at_ most : Int), at_ < (i : Int) → (0 ≤ at_ ∨ 0 < l.length) → 0 ≤ bestLI m l i at_ most ∧ bestLI m l i at_ most < ((i + l.length : Nat) : Int) := by
  intro l
  induction l with
  | nil => intro i at_ most h1 h; simp only [bestLI]; simp at h; simp; omega
  | cons x l ih =>
    intro i at_ most h1 h
    simp only [bestLI]
    rw [if_pos (hm i x)]
    simp only [List.length_cons] at h ⊢
    have here : ∀ b : Int, 0 ≤ bestLI m l (i + 1) (i : Int) b ∧ bestLI m l (i + 1) (i : Int) b < ((i + (l.length + 1) : Nat) : Int) := fun b => by
      have := ih (i + 1) (i : Int) b (by omega) (Or.inl (by omega))
      omega
    split
    · exact here _
    · split
      · exact here _
      · have := ih (i + 1) at_ most (by omega) (Or.inl (by omega)); omega

/-! ### what Suggest suggests -/
theorem chain_adj (nx : Int) (l : List S67) : ∀ (d i : Nat) (prev : Int), i + d = l.length → chain0 nx l d i prev = true → ∀ p : Nat, i ≤ p → p + 1 < l.length → (rd_T67 l (p : Int)).f1.f1 = (rd_T67 l ((p + 1 : Nat) : Int)).f1.f0 := by
  intro d
  induction d with
  | zero => intro i prev hi _ p h1 h2; omega
  | succ d ih =>
    intro i prev hi h p h1 h2
    simp only [chain0, Bool.and_eq_true] at h
    by_cases e : p = i
    · subst e
      obtain ⟨d, rfl⟩ : ∃ m, d = m + 1 := ⟨d - 1, by omega⟩
      have h3 := h.2
      simp only [chain0, elemB, Bool.and_eq_true, decide_eq_true_eq] at h3
      exact h3.1.2.symm
    · exact ih (i + 1) _ (by omega) h.2 p (by omega) h2
theorem check_adj (ep nx : Int) (l : List S67) (h : checkB ep nx l = true) (p : Nat) (hp : p + 1 < l.length) : (rd_T67 l (p : Int)).f1.f1 = (rd_T67 l ((p + 1 : Nat) : Int)).f1.f0 := by
  simp only [checkB, Bool.and_eq_true] at h
  exact chain_adj nx l l.length 0 0 (by omega) h.2.1 p (by omega) hp
theorem span_b (l : List S67) (h : GoodC l) (x : S67) (hx : x ∈ l) : 0 ≤ x.f1.f0 ∧ x.f1.f0 < x.f1.f1 ∧ x.f1.f1 ≤ 4096 := by
  obtain ⟨p, hp, rfl⟩ := mem_rd l x hx
  have := h.one p hp
  simp only [oneS, Bool.and_eq_true, decide_eq_true_eq] at this
  omega
theorem cuts_f (k : Nat) (hk : 200 ≤ k) (l : List Pr70) (hl : l.length ≤ 60) (hg : GoodP l) : ∀ L : List S67, (∀ x ∈ L, 0 ≤ x.f1.f0 ∧ x.f1.f1 ≤ 4096) → ∃ ts, cutsF k l L = some ts ∧ ∀ j, ∀ h : j < L.length, (tsAt ts j).2 = true → Parts l L[j].f1.f0 L[j].f1.f1 (tsAt ts j).1 := by
  intro L
  induction L with
  | nil => intro _; exact ⟨[], rfl, fun j h => by simp at h⟩
  | cons x L ih =>
    intro hx
    obtain ⟨r, e, g⟩ := cut_f k hk l hl hg x.f1.f0 x.f1.f1 (hx x List.mem_cons_self).1 (hx x List.mem_cons_self).2
    obtain ⟨ts, e2, g2⟩ := ih (fun y hy => hx y (List.mem_cons_of_mem _ hy))
    refine ⟨r :: ts, by simp only [cutsF]; rw [e, Option.bind_some, e2]; rfl, fun j h => ?_⟩
    cases j with
    | zero => exact g
    | succ j => exact g2 j (by simpa using h)
abbrev shAt (l : List Pr70) (L : List S67) (b : Nat) : Int := shS l (rd_T67 L (b : Int))
theorem rd_sh (l : List Pr70) (L : List S67) (b : Nat) (hb : b < L.length) : rd (L.map (shS l)) (b : Int) = shAt l L b := by
  rw [rdi_get _ b (by rw [List.length_map]; exact hb), List.getElem_map, shAt, rd_get L b hb]
/-- what is known of a change that is suggested -/
def Sug (l : List Pr70) (L : List S67) (nd : List Int) (p0 p1 kd id at_ : Int) : Prop :=
  (kd = 1 ∧ ∃ b : Nat, b < L.length ∧ id = (rd_T67 L (b : Int)).f0 ∧ p0 < shAt l L b ∧ Parts l (rd_T67 L (b : Int)).f1.f0 (rd_T67 L (b : Int)).f1.f1 at_)
  ∨ (kd = 3 ∧ ∃ b fr : Nat, b < L.length ∧ fr < nd.length ∧ 0 ≤ at_ ∧ at_ < (nd.length : Int) ∧ id = (rd_T67 L (b : Int)).f0 ∧ (rd_T67 L (b : Int)).f2 = (fr : Int) ∧ 0 < shAt l L b ∧ shAt l L b < wrap64 (rd nd (fr : Int) - rd nd at_))
  ∨ (kd = 2 ∧ ∃ b : Nat, b + 1 < L.length ∧ id = (rd_T67 L (b : Int)).f0 ∧ wrap64 (shAt l L b + shAt l L (b + 1)) ≤ p1)
theorem split_f (k : Nat) (hk : 200 ≤ k) (ep nx : Int) (l : List Pr70) (hl : l.length ≤ 60) (hg : GoodP l) (L : List S67) (hL : GoodC L) (nd : List Int) (p0 p1 : Int) :
    ∃ t, balance_split.f k ep nx L l (L.map (shS l)) p0 = some t ∧ (t.2.2.2 = true → Sug l L nd p0 p1 t.1 t.2.1 t.2.2.1) := by
  unfold balance_split.f
  by_cases h1 : (L.length : Int) ≥ 24
  · rw [if_pos h1]; exact ⟨_, rfl, fun h => by simp at h⟩
  rw [if_neg h1, if_pos (by rw [List.length_map]; exact Nat.le_refl _)]
  obtain ⟨ts, e, g⟩ := cuts_f k hk l hl hg L (fun x hx => ⟨(span_b L hL x hx).1, (span_b L hL x hx).2.2⟩)
  rw [e, Option.bind_some]
  rcases bestS_none (splM ts (L.map (shS l)) p0) L with h | ⟨j, hj, e2, g2⟩
  · rw [if_pos h]; exact ⟨_, rfl, fun h => by simp at h⟩
  · rw [e2, if_neg (by omega), if_pos (by omega)]
    refine ⟨_, rfl, fun _ => Or.inl ⟨rfl, j, hj, rfl, ?_, ?_⟩⟩
    · simp only [splM, Bool.and_eq_true, decide_eq_true_eq] at g2
      rw [rd_sh l L j hj] at g2; exact g2.2
    · simp only [splM, Bool.and_eq_true] at g2
      have := g j hj g2.1
      rw [Int.toNat_natCast, rd_get L j hj]; exact this
theorem shift_f (ep nx : Int) (l : List Pr70) (L : List S67) (hlen : L.length ≤ 1000) (nd : List Int) (hn1 : 0 < nd.length) (hn5 : nd.length ≤ 5) (p0 p1 p2 : Int) :
    ∃ t, balance_shift.f ep nx L (L.map (shS l)) nd p2 = some t ∧ (t.2.2.2 = true → Sug l L nd p0 p1 t.1 t.2.1 t.2.2.1) := by
  unfold balance_shift.f
  have a := bestI_ix topM (fun _ _ => rfl) nd 0 (-1) 0 (by omega) (Or.inr hn1)
  have b := bestI_ix lowM (fun _ _ => rfl) nd 0 (-1) 0 (by omega) (Or.inr hn1)
  rw [Nat.zero_add] at a b
  generalize bestLI topM nd 0 (-1) 0 = fr at a ⊢
  generalize bestLI lowM nd 0 (-1) 0 = tn at b ⊢
  rw [if_pos ⟨by omega, by omega, by rw [List.length_map]; exact Nat.le_refl _, a.1, a.2, b.1, b.2⟩]
  split
  · exact ⟨_, rfl, fun h => by simp at h⟩
  rcases bestS_none (shfM (L.map (shS l)) fr (wrap64 (rd nd fr - rd nd tn))) L with h | ⟨j, hj, e2, g2⟩
  · rw [if_pos h]; exact ⟨_, rfl, fun h => by simp at h⟩
  · rw [e2, if_neg (by omega), if_pos (by omega)]
    obtain ⟨frn, rfl⟩ : ∃ m : Nat, fr = (m : Int) := ⟨fr.toNat, by omega⟩
    simp only [shfM, Bool.and_eq_true, decide_eq_true_eq] at g2
    rw [rd_sh l L j hj, ← rd_get L j hj] at g2
    exact ⟨_, rfl, fun _ => Or.inr (Or.inl ⟨rfl, j, frn, hj, by omega, b.1, b.2, rfl, g2.1.1, g2.1.2, g2.2⟩)⟩
theorem merge_f (ep nx : Int) (l : List Pr70) (L : List S67) (h1 : 1 ≤ L.length) (hlen : L.length ≤ 1000) (nd : List Int) (p0 p1 : Int) :
    ∃ t, balance_merge.f ep nx L (L.map (shS l)) p1 = some t ∧ (t.2.2.2 = true → Sug l L nd p0 p1 t.1 t.2.1 t.2.2.1) := by
  unfold balance_merge.f
  rw [if_pos ⟨h1, by omega, by rw [List.length_map]; exact Nat.le_refl _⟩]
  rcases bestS_none (mrgM L (L.map (shS l)) p1) (L.drop 1) with h | ⟨j, hj, e2, g2⟩
  · rw [if_pos h]; exact ⟨_, rfl, fun h => by simp at h⟩
  · rw [List.length_drop] at hj
    rw [e2, if_neg (by omega), if_pos (by omega)]
    simp only [mrgM, Bool.and_eq_true, decide_eq_true_eq] at g2
    rw [show (j : Int) + 1 = ((j + 1 : Nat) : Int) from by omega, rd_sh l L j (by omega), rd_sh l L (j + 1) (by omega)] at g2
    exact ⟨_, rfl, fun _ => Or.inr (Or.inr ⟨rfl, j, by omega, rfl, g2.2⟩)⟩
theorem first_f (k : Nat) (hk : 200 ≤ k) (ep nx : Int) (l : List Pr70) (hl : l.length ≤ 60) (hg : GoodP l) (L : List S67) (hL : GoodC L) (h1 : 1 ≤ L.length) (hlen : L.length ≤ 1000) (nd : List Int) (hn1 : 0 < nd.length) (hn5 : nd.length ≤ 5) (p0 p1 p2 : Int) :
    ∃ t, balance_first.f k ep nx L l p0 p1 p2 (L.map (shS l)) nd = some t ∧ (t.2.2.2 = true → Sug l L nd p0 p1 t.1 t.2.1 t.2.2.1) := by
  unfold balance_first.f
  obtain ⟨t, e, g⟩ := split_f k hk ep nx l hl hg L hL nd p0 p1
  rw [e, Option.bind_some]
  by_cases c : t.2.2.2 = true
  · rw [if_pos c]; exact ⟨_, rfl, fun _ => g c⟩
  rw [if_neg c]
  obtain ⟨t2, e2, g2⟩ := shift_f ep nx l L hlen nd hn1 hn5 p0 p1 p2
  rw [e2, Option.bind_some]
  by_cases c2 : t2.2.2.2 = true
  · rw [if_pos c2]; exact ⟨_, rfl, fun _ => g2 c2⟩
  rw [if_neg c2]
  obtain ⟨t3, e3, g3⟩ := merge_f ep nx l L h1 hlen nd p0 p1
  rw [e3, Option.bind_some]
  exact ⟨_, rfl, fun h => g3 h⟩
theorem suggest_f (k : Nat) (hk : 1000 ≤ k) (ep nx : Int) (L : List S67) (hL : L.length ≤ 60) (l : List Pr70) (hl : l.length ≤ 60) (p0 p1 p2 n : Int) :
    ∃ t, balance_Suggest.f k ep nx L l p0 p1 p2 n = some t ∧ (t.2.2.2.2 = 0 → t.2.2.2.1 = true → mayB ep nx L l n = true ∧ (applyS ep nx L t.1 t.2.1 t.2.2.1).2.2.2.2.2 = 0 ∧ Sug l L (nodesS ep nx L l n).1 p0 p1 t.1 t.2.1 t.2.2.1) := by
  obtain ⟨k, rfl⟩ : ∃ m, k = m + 1 := ⟨k - 1, by omega⟩
  unfold balance_Suggest.f
  rw [nodes_f (k + 1) ep nx L (by omega) l (by omega) n (by omega), Option.bind_some]
  have bad : ∃ t, balance_Suggest.j0 (k + 1) l (nodesS ep nx L l n).1 true ep nx L p0 p1 p2 = some t ∧ (t.2.2.2.2 = 0 → t.2.2.2.1 = true → mayB ep nx L l n = true ∧ (applyS ep nx L t.1 t.2.1 t.2.2.1).2.2.2.2.2 = 0 ∧ Sug l L (nodesS ep nx L l n).1 p0 p1 t.1 t.2.1 t.2.2.1) := by
    simp only [balance_Suggest.j0]
    exact ⟨_, rfl, fun h => by simp at h⟩
  by_cases hm : mayB ep nx L l n = true
  case neg =>
    have : (nodesS ep nx L l n).2 = 1 := by unfold nodesS; rw [if_neg hm]
    rw [this, if_neg (by decide)]; exact bad
  have e1 : (nodesS ep nx L l n).2 = 0 := by unfold nodesS; rw [if_pos hm]
  rw [e1, if_pos rfl]
  have hs : ∃ t, balance_Check.f p0 p1 p2 = some t := by unfold balance_Check.f; repeat' split
                                                         all_goals exact ⟨_, rfl⟩
  obtain ⟨pc, hpc⟩ := hs
  rw [hpc, Option.bind_some]
  cases pc with
  | false => exact bad
  | true =>
    have hm2 := hm
    simp only [mayB, Bool.and_eq_true, decide_eq_true_eq] at hm2
    obtain ⟨_, hc, hld, hn1, hn5⟩ := hm2
    have hcl := check_len ep nx L hc
    simp only [balance_Suggest.j0]
    rw [if_neg (by decide), shards_f k ep nx L (by omega) l (by omega) (by omega), Option.bind_some]
    have e2 : (shardsS ep nx L l).1 = L.map (shS l) := by unfold shardsS; rw [if_pos (by rw [hc, hld]; rfl)]
    have e3 : (nodesS ep nx L l n).1 = nodesL l L (List.replicate n.toNat 0) := by unfold nodesS; rw [if_pos hm]
    have e4 : (nodesS ep nx L l n).1.length = n.toNat := by rw [e3]; simp [nodesL]
    rw [e2]
    obtain ⟨t, e, g⟩ := first_f k (by omega) ep nx l hl (goodp_of l hld) L (good_of ep nx L hc) hcl.1 (by omega) (nodesS ep nx L l n).1 (by omega) (by omega) p0 p1 p2
    rw [e, Option.bind_some]
    by_cases c : t.2.2.2 = true
    case neg => rw [if_neg c]; exact ⟨_, rfl, fun _ h => by simp at h⟩
    rw [if_pos c, apply_f k ep nx L (by omega) _ _ _ (by omega), Option.bind_some]
    by_cases d : (applyS ep nx L t.1 t.2.1 t.2.2.1).2.2.2.2.2 = 0
    case neg => rw [if_neg d]; exact ⟨_, rfl, fun h => by simp at h⟩
    rw [if_pos d]
    exact ⟨_, rfl, fun _ _ => ⟨hm, d, g c⟩⟩

end Go.Proofs.Yteclhjhnbolkmaa.PR
