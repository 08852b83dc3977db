import Derived.Test.YteclhjhnbolkmaaPRx0
import Derived.Test.YteclhjhnbolkmaaPRx4
import Derived.Test.YteclhjhnbolkmaaPRx6
import Derived.Test.YteclhjhnbolkmaaPRx7
import Derived.Test.YteclhjhnbolkmaaPRx8
import Derived.Test.YteclhjhnbolkmaaRQ1
import Derived.Test.YteclhjhnbolkmaaRQ2
import Derived.Test.YteclhjhnbolkmaaRQ3
import Derived.Test.YteclhjhnbolkmaaRQ4
namespace Go.Proofs.Yteclhjhnbolkmaa.PR
open Go.RowKit Go.Proofs.YteclhjhnbolkmaaW.PrintWords Go.Proofs.YteclhjhnbolkmaaW.PrintLast Go.Proofs.YteclhjhnbolkmaaW.PrintMore
set_option linter.unusedVariables false
set_option linter.unusedSimpArgs false


/-! ### the cut: the code's against the document's -/
theorem tbl_val (l : List Pr70) : ∀ (d i : Nat), i + d = l.length → tbl0 l d i = true → ∀ j : Nat, i ≤ j → j < l.length → (rd_T70 l (j : Int)).f0 < 4096 ∧ (rd_T70 l (j : Int)).f1 ≤ 1099511627776 := by
  intro d
  induction d with
  | zero => intro i hi _ j h1 h2; omega
  | succ d ih =>
    intro i hi h j h1 h2
    simp only [tbl0] at h
    split at h
    · simp at h
    split at h
    · simp at h
    split at h
    · simp at h
    split at h
    · simp at h
    split at h
    · simp at h
    by_cases e : j = i
    · subst e; omega
    · exact ih (i + 1) (by omega) h j (by omega) h2
structure BigP (l : List Pr70) : Prop where
  len : l.length ≤ 60
  val : ∀ x ∈ l, 0 ≤ x.f1 ∧ x.f1 ≤ 1099511627776
  key : ∀ x ∈ l, 0 ≤ x.f0 ∧ x.f0 < 4096
theorem bigp_of (l : List Pr70) (hl : l.length ≤ 60) (h : loadB l = true) : BigP l := by
  have hg := goodp_of l h
  simp only [loadB, Bool.and_eq_true] at h
  have hv := tbl_val l l.length 0 (by omega) h.1
  refine ⟨hl, fun x hx => ⟨hg.val x hx, ?_⟩, fun x hx => ⟨hg.pos x hx, ?_⟩⟩
  · obtain ⟨i, hi, rfl⟩ := List.mem_iff_getElem.mp hx
    have := (hv i (by omega) hi).2
    rwa [rdp_get l i hi] at this
  · obtain ⟨i, hi, rfl⟩ := List.mem_iff_getElem.mp hx
    have := (hv i (by omega) hi).1
    rwa [rdp_get l i hi] at this
theorem sm_leB (lo hi : Int) : ∀ l : List Pr70, (∀ x ∈ l, 0 ≤ x.f1 ∧ x.f1 ≤ 1099511627776) → sm lo hi l ≤ 1099511627776 * l.length := by
  intro l
  induction l with
  | nil => intro _; simp [sm]
  | cons x l ih =>
    intro h
    have h1 := ih (fun y hy => h y (List.mem_cons_of_mem _ hy))
    have h2 := h x List.mem_cons_self
    simp only [sm, List.length_cons]
    split <;> omega
theorem sum0_smB (l : List Pr70) (lo hi : Int) (hl : l.length ≤ 60) (hv : ∀ x ∈ l, 0 ≤ x.f1 ∧ x.f1 ≤ 1099511627776) : ∀ (d i : Nat) (acc : Int), i + d = l.length → 0 ≤ acc → acc ≤ 1099511627776 * i → sum0 l lo hi d i acc = acc + sm lo hi (l.drop i) := by
  intro d
  induction d with
  | zero => intro i acc hi h0 h1; rw [List.drop_eq_nil_of_le (by omega)]; simp [sum0, sm]
  | succ d ih =>
    intro i acc hi0 h0 h1
    have hx := hv (rd_T70 l (i : Int)) (by rw [rdp_get l i (by omega)]; exact List.getElem_mem _)
    rw [drop_rdp l i (by omega)]
    simp only [sum0, sm]
    by_cases a : (rd_T70 l (i : Int)).f0 ≥ lo
    · rw [if_pos a]
      by_cases b : (rd_T70 l (i : Int)).f0 < hi
      · have hw : wrap64 (acc + (rd_T70 l (i : Int)).f1) = acc + (rd_T70 l (i : Int)).f1 := by unfold wrap64; omega
        rw [if_pos b, if_pos ⟨a, b⟩, hw, ih (i + 1) _ (by omega) (by omega) (by omega)]; omega
      · rw [if_neg b, if_neg (fun q => b q.2), ih (i + 1) _ (by omega) h0 (by omega)]; omega
    · rw [if_neg a, if_neg (fun q => a q.1), ih (i + 1) _ (by omega) h0 (by omega)]; omega
theorem sumS_smB (l : List Pr70) (h : BigP l) (lo hi : Int) : sumS l lo hi = sm lo hi l := by
  unfold sumS
  rw [sum0_smB l lo hi h.len h.val l.length 0 0 (by omega) (by omega) (by omega), List.drop_zero]; omega
theorem sm_bB (l : List Pr70) (h : BigP l) (lo hi : Int) (m : List Pr70) (hm : ∀ x ∈ m, x ∈ l) (hlen : m.length ≤ 60) : 0 ≤ sm lo hi m ∧ sm lo hi m ≤ 65970697666560 := by
  have h1 := sm_nonneg lo hi m (fun x hx => (h.val x (hm x hx)).1)
  have h2 := sm_leB lo hi m (fun x hx => h.val x (hm x hx))
  omega
theorem sumS_bB (l : List Pr70) (h : BigP l) (lo hi : Int) : 0 ≤ sumS l lo hi ∧ sumS l lo hi ≤ 65970697666560 := by
  rw [sumS_smB l h]; exact sm_bB l h lo hi l (fun _ q => q) h.len
theorem sm_app (lo hi : Int) : ∀ a b : List Pr70, sm lo hi (a ++ b) = sm lo hi a + sm lo hi b := by
  intro a b
  induction a with
  | nil => simp [sm]
  | cons x a ih => simp only [List.cons_append, sm, ih]; omega
theorem sm_congr (lo hi lo' hi' : Int) : ∀ a : List Pr70, (∀ x ∈ a, (lo ≤ x.f0 ∧ x.f0 < hi) ↔ (lo' ≤ x.f0 ∧ x.f0 < hi')) → sm lo hi a = sm lo' hi' a := by
  intro a
  induction a with
  | nil => intro _; rfl
  | cons x a ih =>
    intro h
    have h1 := h x List.mem_cons_self
    simp only [sm]
    rw [ih (fun y hy => h y (List.mem_cons_of_mem _ hy))]
    by_cases c : lo ≤ x.f0 ∧ x.f0 < hi
    · rw [if_pos c, if_pos (h1.mp c)]
    · rw [if_neg c, if_neg (fun q => c (h1.mpr q))]
theorem sm_none (lo hi : Int) : ∀ a : List Pr70, (∀ x ∈ a, ¬ (lo ≤ x.f0 ∧ x.f0 < hi)) → sm lo hi a = 0 := by
  intro a
  induction a with
  | nil => intro _; rfl
  | cons x a ih =>
    intro h
    simp only [sm]
    rw [if_neg (h x List.mem_cons_self), ih (fun y hy => h y (List.mem_cons_of_mem _ hy))]; rfl
theorem take_rdp (l : List Pr70) (i : Nat) (h : i < l.length) : l.take (i + 1) = l.take i ++ [rd_T70 l (i : Int)] := by
  rw [rdp_get l i h]; exact (List.take_append_getElem h).symm
theorem sm_take (lo hi : Int) (l : List Pr70) (i : Nat) (h : i < l.length) : sm lo hi (l.take (i + 1)) = sm lo hi (l.take i) + (if lo ≤ (rd_T70 l (i : Int)).f0 ∧ (rd_T70 l (i : Int)).f0 < hi then (rd_T70 l (i : Int)).f1 else 0) := by
  rw [take_rdp l i h, sm_app]; simp [sm]
theorem mem_takep (l : List Pr70) (hg : GoodP l) (i : Nat) (hi : i < l.length) (x : Pr70) (hx : x ∈ l.take i) : x.f0 < (rd_T70 l (i : Int)).f0 := by
  obtain ⟨j, hj, rfl⟩ := List.mem_iff_getElem.mp hx
  rw [List.length_take] at hj
  rw [List.getElem_take]
  have := hg.up j i (by omega) hi
  rwa [rdp_get l j (by omega)] at this
theorem mem_dropp (l : List Pr70) (hg : GoodP l) (i : Nat) (x : Pr70) (hx : x ∈ l.drop (i + 1)) : (rd_T70 l (i : Int)).f0 < x.f0 := by
  obtain ⟨j, hj, rfl⟩ := List.mem_iff_getElem.mp hx
  rw [List.length_drop] at hj
  rw [List.getElem_drop]
  have := hg.up i (i + 1 + j) (by omega) (by omega)
  rwa [rdp_get l (i + 1 + j) (by omega)] at this
/-- the load up to and with a pair's key -/
theorem sm_upto (l : List Pr70) (hg : GoodP l) (lo hi : Int) (i : Nat) (hi_ : i < l.length) (h2 : (rd_T70 l (i : Int)).f0 + 1 ≤ hi) : sm lo ((rd_T70 l (i : Int)).f0 + 1) l = sm lo hi (l.take (i + 1)) := by
  have e : l = l.take (i + 1) ++ l.drop (i + 1) := (List.take_append_drop _ _).symm
  have h3 : sm lo ((rd_T70 l (i : Int)).f0 + 1) (l.drop (i + 1)) = 0 := sm_none _ _ _ (fun x hx => by have := mem_dropp l hg i x hx; omega)
  have h4 : sm lo ((rd_T70 l (i : Int)).f0 + 1) (l.take (i + 1)) = sm lo hi (l.take (i + 1)) := sm_congr _ _ _ _ _ (fun x hx => by
    rw [take_rdp l i hi_] at hx
    rcases List.mem_append.mp hx with hx | hx
    · have := mem_takep l hg i hi_ x hx; omega
    · rw [List.mem_singleton] at hx; subst hx; omega)
  generalize (rd_T70 l (i : Int)).f0 + 1 = kk at h3 h4 ⊢
  conv => lhs; rw [e]
  rw [sm_app, h3, h4]; omega
/-- one behind the last key that weighs -/
def qL (lo hi : Int) : List Pr70 → Int → Int
  | [], acc => acc
  | x :: l, acc => if lo ≤ x.f0 ∧ x.f0 < hi ∧ 0 < x.f1 then qL lo hi l (x.f0 + 1) else qL lo hi l acc
theorem qL_app (lo hi : Int) : ∀ (a b : List Pr70) (acc : Int), qL lo hi (a ++ b) acc = qL lo hi b (qL lo hi a acc) := by
  intro a
  induction a with
  | nil => intro b acc; rfl
  | cons x a ih => intro b acc; simp only [List.cons_append, qL]; split <;> exact ih b _
theorem qL_none (lo hi : Int) : ∀ (a : List Pr70) (acc : Int), (∀ x ∈ a, ¬ (lo ≤ x.f0 ∧ x.f0 < hi ∧ 0 < x.f1)) → qL lo hi a acc = acc := by
  intro a
  induction a with
  | nil => intro acc _; rfl
  | cons x a ih =>
    intro acc h
    simp only [qL]
    rw [if_neg (h x List.mem_cons_self)]; exact ih acc (fun y hy => h y (List.mem_cons_of_mem _ hy))
theorem qL_congr (lo hi hi' : Int) : ∀ (a : List Pr70) (acc : Int), (∀ x ∈ a, x.f0 < hi ∧ x.f0 < hi') → qL lo hi a acc = qL lo hi' a acc := by
  intro a
  induction a with
  | nil => intro acc _; rfl
  | cons x a ih =>
    intro acc h
    have h1 := h x List.mem_cons_self
    simp only [qL]
    by_cases c : lo ≤ x.f0 ∧ x.f0 < hi ∧ 0 < x.f1
    · rw [if_pos c, if_pos ⟨c.1, h1.2, c.2.2⟩]; exact ih _ (fun y hy => h y (List.mem_cons_of_mem _ hy))
    · rw [if_neg c, if_neg (fun q => c ⟨q.1, h1.1, q.2.2⟩)]; exact ih _ (fun y hy => h y (List.mem_cons_of_mem _ hy))
theorem qL_ge (lo hi : Int) : ∀ (a : List Pr70) (acc : Int), lo ≤ acc → lo ≤ qL lo hi a acc := by
  intro a
  induction a with
  | nil => intro acc h; exact h
  | cons x a ih => intro acc h; simp only [qL]; split <;> exact ih _ (by omega)
theorem behind_q (l : List Pr70) (hb : BigP l) (lo hi key : Int) : ∀ (d k i : Nat) (acc : Int), i + d = l.length → d < k → balance_behind.l0 k key acc l (l.length : Int) (i : Int) lo hi = some (qL lo key (l.drop i) acc) := by
  have hl := hb.len
  intro d
  induction d with
  | zero =>
    intro k i acc hi0 hk
    obtain ⟨k, rfl⟩ : ∃ m, k = m + 1 := ⟨k - 1, by omega⟩
    simp only [balance_behind.l0]
    rw [if_neg (by omega), List.drop_eq_nil_of_le (by omega)]; rfl
  | succ d ih =>
    intro k i acc hi0 hk
    obtain ⟨k, rfl⟩ : ∃ m, k = m + 1 := ⟨k - 1, by omega⟩
    have hx := hb.key (rd_T70 l (i : Int)) (by rw [rdp_get l i (by omega)]; exact List.getElem_mem _)
    simp only [balance_behind.l0]
    rw [if_pos (by omega), if_pos (by omega), if_pos (by omega), w1c i (by omega), drop_rdp l i (by omega)]
    simp only [qL]
    by_cases a : (rd_T70 l (i : Int)).f0 ≥ lo
    case neg => rw [if_neg a, if_neg (fun q => a q.1)]; exact ih k (i + 1) acc (by omega) (by omega)
    rw [if_pos a]
    by_cases b : (rd_T70 l (i : Int)).f0 < key
    case neg => rw [if_neg b, if_neg (fun q => b q.2.1)]; exact ih k (i + 1) acc (by omega) (by omega)
    rw [if_pos b]
    by_cases c : (rd_T70 l (i : Int)).f1 > 0
    case neg => rw [if_neg c, if_neg (fun q => c q.2.2)]; exact ih k (i + 1) acc (by omega) (by omega)
    have hw : wrap64 ((rd_T70 l (i : Int)).f0 + 1) = (rd_T70 l (i : Int)).f0 + 1 := by unfold wrap64; omega
    rw [if_pos c, if_pos ⟨a, b, c⟩, hw]; exact ih k (i + 1) _ (by omega) (by omega)
theorem behind_at (k : Nat) (l : List Pr70) (hb : BigP l) (hg : GoodP l) (lo hi : Int) (i : Nat) (hi_ : i < l.length) (h2 : (rd_T70 l (i : Int)).f0 < hi) (hk : 61 ≤ k) : balance_behind.f k l lo hi (rd_T70 l (i : Int)).f0 = some (qL lo hi (l.take i) lo) := by
  have hl := hb.len
  have e0 : balance_behind.f k l lo hi (rd_T70 l (i : Int)).f0 = some (qL lo (rd_T70 l (i : Int)).f0 (l.drop 0) lo) := behind_q l hb lo hi (rd_T70 l (i : Int)).f0 l.length k 0 lo (by omega) (by omega)
  rw [e0, List.drop_zero]
  have e : l = l.take i ++ l.drop i := (List.take_append_drop _ _).symm
  congr 1
  conv => lhs; arg 3; rw [e]
  rw [qL_app, qL_none]
  · exact qL_congr _ _ _ _ _ (fun x hx => by have := mem_takep l hg i hi_ x hx; omega)
  · intro x hx
    rw [drop_rdp l i hi_] at hx
    rcases List.mem_cons.mp hx with rfl | hx
    · omega
    · have := mem_dropp l hg i x hx; omega
def dd (tot left : Int) : Int := if tot - 2 * left ≥ 2 * left - tot then tot - 2 * left else 2 * left - tot
theorem dd_pos (tot left : Int) : 0 ≤ dd tot left := by unfold dd; split <;> omega
theorem dd_w (tot left : Int) (h1 : 0 ≤ tot) (h2 : tot ≤ 65970697666560) (h3 : 0 ≤ left) (h4 : left ≤ 65970697666560) : mx (wrap64 (tot - wrap64 (2 * left))) (wrap64 (wrap64 (2 * left) - tot)) = dd tot left := by
  have e1 : wrap64 (2 * left) = 2 * left := by unfold wrap64; omega
  have e2 : wrap64 (tot - 2 * left) = tot - 2 * left := by unfold wrap64; omega
  have e3 : wrap64 (2 * left - tot) = 2 * left - tot := by unfold wrap64; omega
  rw [e1, e2, e3]; unfold mx dd; repeat' split
  all_goals omega
/-- what the code's cut comes to -/
def cutS (lo hi tot : Int) (l : List Pr70) : Nat → Nat → Int → Int → Int → Int × Bool
  | 0, _, _, at_, off => (at_, decide (off ≥ 0))
  | d + 1, i, left, at_, off =>
    if (rd_T70 l (i : Int)).f0 < lo ∨ (rd_T70 l (i : Int)).f0 ≥ hi ∨ (rd_T70 l (i : Int)).f1 = 0 then cutS lo hi tot l d (i + 1) left at_ off
    else if 0 < left ∧ (off < 0 ∨ dd tot left < off) then cutS lo hi tot l d (i + 1) (left + (rd_T70 l (i : Int)).f1) (qL lo hi (l.take i) lo) (dd tot left)
    else cutS lo hi tot l d (i + 1) (left + (rd_T70 l (i : Int)).f1) at_ off
theorem cut_x (l : List Pr70) (hb : BigP l) (hg : GoodP l) (lo hi tot : Int) (ht : 0 ≤ tot ∧ tot ≤ 65970697666560) : ∀ (d k i : Nat) (left at_ off : Int), i + d = l.length → 2 * d + 70 < k → left = sm lo hi (l.take i) →
    balance_cut.l0 k l tot left at_ off l (l.length : Int) (i : Int) lo hi = some (cutS lo hi tot l d i left at_ off) := by
  have hl := hb.len
  intro d
  induction d with
  | zero =>
    intro k i left at_ off hi0 hk _
    obtain ⟨k, rfl⟩ : ∃ m, k = m + 1 := ⟨k - 1, by omega⟩
    simp only [balance_cut.l0]
    rw [if_neg (by omega)]; rfl
  | succ d ih =>
    intro k i left at_ off hi0 hk hleft
    obtain ⟨k, rfl⟩ : ∃ m, k = m + 2 := ⟨k - 2, by omega⟩
    have hmem : (rd_T70 l (i : Int)) ∈ l := by rw [rdp_get l i (by omega)]; exact List.getElem_mem _
    have hv := hb.val _ hmem
    have hbd := sm_bB l hb lo hi (l.take i) (fun x hx => List.mem_of_mem_take hx) (by rw [List.length_take]; omega)
    rw [← hleft] at hbd
    have hnext := sm_take lo hi l i (by omega)
    simp only [balance_cut.l0, cutS]
    rw [if_pos (by omega), if_pos (by omega), if_pos (by omega)]
    by_cases a : (rd_T70 l (i : Int)).f0 < lo
    · rw [if_pos a, if_pos (Or.inl a)]; simp only [balance_cut.j1]; rw [if_pos trivial, w1c i (by omega)]
      exact ih k (i + 1) left at_ off (by omega) (by omega) (by rw [hnext, if_neg (by omega)]; omega)
    rw [if_neg a]
    by_cases b : (rd_T70 l (i : Int)).f0 ≥ hi
    · rw [if_pos b, if_pos (Or.inr (Or.inl b))]; simp only [balance_cut.j1]; rw [if_pos trivial, w1c i (by omega)]
      exact ih k (i + 1) left at_ off (by omega) (by omega) (by rw [hnext, if_neg (by omega)]; omega)
    rw [if_neg b]
    simp only [balance_cut.j1]
    rw [if_pos ⟨by omega, by omega⟩] at hnext
    by_cases c : (rd_T70 l (i : Int)).f1 = 0
    · rw [if_pos (beq_iff_eq.mpr c), if_pos (Or.inr (Or.inr c)), w1c i (by omega)]
      exact ih k (i + 1) left at_ off (by omega) (by omega) (by rw [hnext]; omega)
    have hsk : ¬ ((rd_T70 l (i : Int)).f0 < lo ∨ (rd_T70 l (i : Int)).f0 ≥ hi ∨ (rd_T70 l (i : Int)).f1 = 0) := fun q => q.elim a (fun q => q.elim b c)
    rw [if_neg (by simpa using c), if_neg hsk, w1c i (by omega), dd_w tot left ht.1 ht.2 hbd.1 hbd.2, behind_at k l hb hg lo hi i (by omega) (by omega) (by omega), Option.bind_some]
    have hw : wrap64 (left + (rd_T70 l (i : Int)).f1) = left + (rd_T70 l (i : Int)).f1 := by unfold wrap64; omega
    rw [hw]
    have go := fun x y => ih k (i + 1) (left + (rd_T70 l (i : Int)).f1) x y (by omega) (by omega) (by rw [hnext]; omega)
    simp only [go]
    by_cases e : left > 0
    case neg => rw [if_neg e, if_neg (fun q => e q.1)]
    rw [if_pos e]
    by_cases g : off < 0
    · rw [if_pos g, if_pos ⟨e, Or.inl g⟩]
    rw [if_neg g]
    by_cases g2 : dd tot left < off
    · rw [if_pos g2, if_pos ⟨e, Or.inr g2⟩]
    · rw [if_neg g2, if_neg (fun q => q.2.elim g g2)]
def cutR (l : List Pr70) (lo hi : Int) : Int × Bool := cutS lo hi (sm lo hi l) l l.length 0 0 0 (-1)
theorem cut_xf (k : Nat) (hk : 200 ≤ k) (l : List Pr70) (hb : BigP l) (hg : GoodP l) (lo hi : Int) : balance_cut.f k l lo hi = some (cutR l lo hi) := by
  have hl := hb.len
  unfold balance_cut.f cutR
  rw [sum_f k l (by omega) lo hi (by omega), Option.bind_some]
  have e := sumS_smB l hb lo hi
  have hbd := sumS_bB l hb lo hi
  rw [← e]
  exact cut_x l hb hg lo hi _ hbd l.length k 0 0 0 (-1) (by omega) (by omega) (by simp [sm])
/-- two keys that weigh: it can be cut -/
def weighs (lo hi : Int) (x : Pr70) : Bool := decide (lo ≤ x.f0 ∧ x.f0 < hi ∧ 0 < x.f1)
theorem cutS_can (l : List Pr70) (hv : ∀ x ∈ l, 0 ≤ x.f1) (lo hi tot : Int) : ∀ (d i : Nat) (left at_ off : Int), i + d = l.length → 0 ≤ left → (0 ≤ off ∨ (0 < left ∧ 1 ≤ (l.drop i).countP (weighs lo hi)) ∨ 2 ≤ (l.drop i).countP (weighs lo hi)) → (cutS lo hi tot l d i left at_ off).2 = true := by
  intro d
  induction d with
  | zero =>
    intro i left at_ off hi0 _ h
    rw [List.drop_eq_nil_of_le (by omega)] at h
    simp only [List.countP_nil] at h
    simp only [cutS]
    exact decide_eq_true (by omega)
  | succ d ih =>
    intro i left at_ off hi0 h0 h
    have hx := hv (rd_T70 l (i : Int)) (by rw [rdp_get l i (by omega)]; exact List.getElem_mem _)
    rw [drop_rdp l i (by omega), List.countP_cons] at h
    have hwd : weighs lo hi (rd_T70 l (i : Int)) = decide (lo ≤ (rd_T70 l (i : Int)).f0 ∧ (rd_T70 l (i : Int)).f0 < hi ∧ 0 < (rd_T70 l (i : Int)).f1) := rfl
    simp only [cutS]
    by_cases a : (rd_T70 l (i : Int)).f0 < lo ∨ (rd_T70 l (i : Int)).f0 ≥ hi ∨ (rd_T70 l (i : Int)).f1 = 0
    · rw [if_pos a]
      rw [hwd, decide_eq_false (by omega)] at h
      exact ih (i + 1) left at_ off (by omega) h0 (by simpa using h)
    rw [if_neg a]
    rw [hwd, decide_eq_true (by omega), if_pos rfl] at h
    by_cases b : 0 < left ∧ (off < 0 ∨ dd tot left < off)
    · rw [if_pos b]
      exact ih (i + 1) _ _ _ (by omega) (by omega) (Or.inl (dd_pos _ _))
    · rw [if_neg b]
      refine ih (i + 1) _ _ _ (by omega) (by omega) ?_
      have := dd_pos tot left
      omega
theorem cutR_can (l : List Pr70) (hv : ∀ x ∈ l, 0 ≤ x.f1) (lo hi : Int) (h : 2 ≤ l.countP (weighs lo hi)) : (cutR l lo hi).2 = true :=
  cutS_can l hv lo hi _ l.length 0 0 0 (-1) (by omega) (by omega) (Or.inr (Or.inr (by simpa using h)))
/-! ### the document's cut -/
def apartI (a b : Int) : Int := if a > b then a - b else b - a
def refS (lo hi : Int) (l : List Pr70) : Nat → Nat → Int → Int → Int
  | 0, _, at_, _ => at_
  | d + 1, i, at_, ls =>
    if (rd_T70 l (i : Int)).f0 + 1 ≤ lo ∨ (rd_T70 l (i : Int)).f0 + 1 ≥ hi then refS lo hi l d (i + 1) at_ ls
    else if 0 < sm lo ((rd_T70 l (i : Int)).f0 + 1) l ∧ 0 < sm ((rd_T70 l (i : Int)).f0 + 1) hi l ∧ (at_ < 0 ∨ apartI (sm lo ((rd_T70 l (i : Int)).f0 + 1) l) (sm ((rd_T70 l (i : Int)).f0 + 1) hi l) < ls) then
      refS lo hi l d (i + 1) ((rd_T70 l (i : Int)).f0 + 1) (apartI (sm lo ((rd_T70 l (i : Int)).f0 + 1) l) (sm ((rd_T70 l (i : Int)).f0 + 1) hi l))
    else refS lo hi l d (i + 1) at_ ls
def orNo (r : Int × Bool) : Int := bif r.2 then r.1 else -1
structure CutRel (tot left at_ off q at2 ls2 : Int) : Prop where
  up : 0 < left → left < tot → (off < 0 ∨ dd tot left < off) → at2 = q ∧ ls2 = dd tot left
  no : ¬ (0 < left ∧ left < tot ∧ (off < 0 ∨ dd tot left < off)) → off < 0 → at2 = -1
  some_ : ¬ (0 < left ∧ left < tot ∧ (off < 0 ∨ dd tot left < off)) → 0 ≤ off → at2 = at_ ∧ ls2 = off ∧ 0 ≤ at_
theorem apart_dd (tot left : Int) : apartI left (tot - left) = dd tot left := by unfold apartI dd; split <;> split <;> omega
theorem cut_ref (l : List Pr70) (hb : BigP l) (hg : GoodP l) (lo hi : Int) (hlo : 0 ≤ lo) : ∀ (d i : Nat) (left at_ off at2 ls2 : Int), i + d = l.length → left = sm lo hi (l.take i) → CutRel (sm lo hi l) left at_ off (qL lo hi (l.take i) lo) at2 ls2 →
    refS lo hi l d i at2 ls2 = orNo (cutS lo hi (sm lo hi l) l d i left at_ off) := by
  intro d
  induction d with
  | zero =>
    intro i left at_ off at2 ls2 hi0 hleft hr
    rw [List.take_of_length_le (by omega)] at hleft
    simp only [refS, cutS, orNo]
    by_cases h : off ≥ 0
    · rw [decide_eq_true h, cond_true]; exact (hr.some_ (by omega) h).1
    · rw [decide_eq_false h, cond_false]; exact hr.no (by omega) (by omega)
  | succ d ih =>
    intro i left at_ off at2 ls2 hi0 hleft hr
    have hmem : (rd_T70 l (i : Int)) ∈ l := by rw [rdp_get l i (by omega)]; exact List.getElem_mem _
    have hv := hb.val _ hmem
    have hbd := sm_bB l hb lo hi (l.take i) (fun x hx => List.mem_of_mem_take hx) (by rw [List.length_take]; have := hb.len; omega)
    rw [← hleft] at hbd
    have hnext := sm_take lo hi l i (by omega)
    rw [← hleft] at hnext
    have hq : qL lo hi (l.take (i + 1)) lo = qL lo hi [rd_T70 l (i : Int)] (qL lo hi (l.take i) lo) := by rw [take_rdp l i (by omega), qL_app]
    have hqlo : lo ≤ qL lo hi (l.take i) lo := qL_ge lo hi _ lo (Int.le_refl _)
    have hupto := fun h2 => sm_upto l hg lo hi i (by omega) h2
    have hsplit : sm lo hi l = sm lo hi (l.take (i + 1)) + sm lo hi (l.drop (i + 1)) := by rw [← sm_app, List.take_append_drop]
    have hrest := sm_nonneg lo hi (l.drop (i + 1)) (fun x hx => (hb.val x (List.mem_of_mem_drop hx)).1)
    have hlast : (rd_T70 l (i : Int)).f0 + 1 ≥ hi → sm lo hi (l.drop (i + 1)) = 0 := fun h => sm_none lo hi _ (fun x hx => by have := mem_dropp l hg i x hx; omega)
    have hadd := fun h1 h2 => sm_add lo ((rd_T70 l (i : Int)).f0 + 1) hi h1 h2 l
    have ih := ih (i + 1)
    simp only [refS, cutS]
    clear hmem
    generalize rd_T70 l (i : Int) = p at hv hnext hq hupto hlast hadd ⊢
    simp only [qL] at hq
    by_cases a : p.f0 < lo ∨ p.f0 ≥ hi
    · rw [if_pos (by omega), if_pos (by omega)]
      refine ih left at_ off at2 ls2 (by omega) (by rw [hnext, if_neg (by omega)]; omega) ?_
      rw [hq, if_neg (by omega)]; exact hr
    rw [if_pos ⟨by omega, by omega⟩] at hnext
    by_cases c : p.f1 = 0
    · rw [if_pos (Or.inr (Or.inr c))]
      have hl2 : sm lo hi (l.take (i + 1)) = left := by omega
      have hr2 : CutRel (sm lo hi l) left at_ off (qL lo hi (l.take (i + 1)) lo) at2 ls2 := by rw [hq, if_neg (by omega)]; exact hr
      have hskip := ih left at_ off at2 ls2 (by omega) hl2.symm hr2
      by_cases k1 : p.f0 + 1 ≥ hi
      · rw [if_pos (Or.inr k1)]; exact hskip
      rw [if_neg (by omega)]
      have e1 := hupto (by omega)
      have e2 := hadd (by omega) (by omega)
      rw [e1, hl2] at e2 ⊢
      have e3 : sm (p.f0 + 1) hi l = sm lo hi l - left := by omega
      rw [e3, apart_dd, if_neg]
      · exact hskip
      · rintro ⟨g1, g2, g3⟩
        by_cases h : 0 < left ∧ left < sm lo hi l ∧ (off < 0 ∨ dd (sm lo hi l) left < off)
        · have := hr.up h.1 h.2.1 h.2.2
          omega
        · have h1 : 0 ≤ off := by omega
          have := hr.some_ h h1
          omega
    have hsk : ¬ (p.f0 < lo ∨ p.f0 ≥ hi ∨ p.f1 = 0) := by omega
    rw [if_neg hsk]
    have hw : sm lo hi (l.take (i + 1)) = left + p.f1 := by omega
    have hq2 : qL lo hi (l.take (i + 1)) lo = p.f0 + 1 := by rw [hq, if_pos ⟨by omega, by omega, by omega⟩]
    have step : ∀ at1 off1 : Int, (off1 < 0 → at2 = -1) → (0 ≤ off1 → at2 = at1 ∧ ls2 = off1 ∧ 0 ≤ at1) →
        (if p.f0 + 1 ≤ lo ∨ p.f0 + 1 ≥ hi then refS lo hi l d (i + 1) at2 ls2
          else if 0 < sm lo (p.f0 + 1) l ∧ 0 < sm (p.f0 + 1) hi l ∧ (at2 < 0 ∨ apartI (sm lo (p.f0 + 1) l) (sm (p.f0 + 1) hi l) < ls2) then refS lo hi l d (i + 1) (p.f0 + 1) (apartI (sm lo (p.f0 + 1) l) (sm (p.f0 + 1) hi l))
          else refS lo hi l d (i + 1) at2 ls2) = orNo (cutS lo hi (sm lo hi l) l d (i + 1) (left + p.f1) at1 off1) := by
      intro at1 off1 n1 n2
      have go := fun x y h => ih (left + p.f1) at1 off1 x y (by omega) hw.symm h
      rw [hq2] at go
      by_cases k1 : p.f0 + 1 ≥ hi
      · rw [if_pos (Or.inr k1)]
        have := hlast k1
        exact go at2 ls2 ⟨fun _ h => by omega, fun _ => n1, fun _ => n2⟩
      rw [if_neg (by omega)]
      have e1 := hupto (by omega)
      have e2 := hadd (by omega) (by omega)
      rw [e1, hw] at e2 ⊢
      have e3 : sm (p.f0 + 1) hi l = sm lo hi l - (left + p.f1) := by omega
      rw [e3, apart_dd]
      by_cases h : 0 < left + p.f1 ∧ 0 < sm lo hi l - (left + p.f1) ∧ (at2 < 0 ∨ dd (sm lo hi l) (left + p.f1) < ls2)
      · rw [if_pos h]
        refine go _ _ ⟨fun _ _ _ => ⟨rfl, rfl⟩, fun q => ?_, fun q => ?_⟩
        · exact absurd ⟨h.1, by omega, by omega⟩ q
        · exact absurd ⟨h.1, by omega, by omega⟩ q
      · rw [if_neg h]
        refine go _ _ ⟨fun g1 g2 g3 => ?_, fun _ => n1, fun _ => n2⟩
        exact absurd ⟨g1, by omega, by omega⟩ h
    have hdd := dd_pos (sm lo hi l) left
    by_cases b : 0 < left ∧ (off < 0 ∨ dd (sm lo hi l) left < off)
    · rw [if_pos b]
      have := hr.up b.1 (by omega) b.2
      exact step _ _ (fun h => by omega) (fun _ => ⟨this.1, this.2, by omega⟩)
    · rw [if_neg b]
      have nb : ¬ (0 < left ∧ left < sm lo hi l ∧ (off < 0 ∨ dd (sm lo hi l) left < off)) := fun q => b ⟨q.1, q.2.2⟩
      exact step _ _ (hr.no nb) (hr.some_ nb)
theorem cut_refR (l : List Pr70) (hb : BigP l) (hg : GoodP l) (lo hi : Int) (hlo : 0 ≤ lo) : refS lo hi l l.length 0 (-1) 0 = orNo (cutR l lo hi) :=
  cut_ref l hb hg lo hi hlo l.length 0 0 0 (-1) (-1) 0 (by omega) (by simp [sm]) ⟨fun h => by omega, fun _ _ => rfl, fun _ h => by omega⟩
/-! ### the best of a list, as a loop over its places -/
def bestRf (key : Nat → Int) (can : Nat → Bool) : Nat → Nat → Int → Int
  | 0, _, at_ => at_
  | d + 1, i, at_ => if can i = true ∧ (at_ < 0 ∨ key at_.toNat < key i) then bestRf key can d (i + 1) i else bestRf key can d (i + 1) at_
theorem bestS_R (m : Nat → S67 → Int × Bool) (key : Nat → Int) (can : Nat → Bool) : ∀ (l : List S67) (i : Nat) (at_ most : Int), (∀ j, ∀ h : j < l.length, m (i + j) l[j] = (key (i + j), can (i + j))) → (0 ≤ at_ → most = key at_.toNat) → bestLS m l i at_ most = bestRf key can l.length i at_ := by
  intro l
  induction l with
  | nil => intro i at_ most _ _; rfl
  | cons x l ih =>
    intro i at_ most h h2
    have h0 := h 0 (by simp)
    simp only [List.getElem_cons_zero, Nat.add_zero] at h0
    have ht : ∀ j, ∀ q : j < l.length, m (i + 1 + j) l[j] = (key (i + 1 + j), can (i + 1 + j)) := fun j q => by
      have := h (j + 1) (by simpa using q)
      rwa [List.getElem_cons_succ, show i + (j + 1) = i + 1 + j from by omega] at this
    simp only [bestLS, List.length_cons, bestRf, h0]
    by_cases a : can i = true
    · rw [if_pos a]
      by_cases b : at_ < 0
      · rw [if_pos b, if_pos ⟨a, Or.inl b⟩]; exact ih (i + 1) _ _ ht (fun _ => by rw [Int.toNat_natCast])
      · rw [if_neg b, ← h2 (by omega)]
        by_cases c : most < key i
        · rw [if_pos c, if_pos ⟨a, Or.inr c⟩]; exact ih (i + 1) _ _ ht (fun _ => by rw [Int.toNat_natCast])
        · rw [if_neg c, if_neg (fun q => q.2.elim b c)]; exact ih (i + 1) _ _ ht h2
    · rw [if_neg a, if_neg (fun q => a q.1)]; exact ih (i + 1) _ _ ht h2
theorem bestI_R (m : Nat → Int → Int × Bool) (key : Nat → Int) (can : Nat → Bool) : ∀ (l : List Int) (i : Nat) (at_ most : Int), (∀ j, ∀ h : j < l.length, m (i + j) l[j] = (key (i + j), can (i + j))) → (0 ≤ at_ → most = key at_.toNat) → bestLI m l i at_ most = bestRf key can l.length i at_ := by
  intro l
  induction l with
  | nil => intro i at_ most _ _; rfl
  | cons x l ih =>
    intro i at_ most h h2
    have h0 := h 0 (by simp)
    simp only [List.getElem_cons_zero, Nat.add_zero] at h0
    have ht : ∀ j, ∀ q : j < l.length, m (i + 1 + j) l[j] = (key (i + 1 + j), can (i + 1 + j)) := fun j q => by
      have := h (j + 1) (by simpa using q)
      rwa [List.getElem_cons_succ, show i + (j + 1) = i + 1 + j from by omega] at this
    simp only [bestLI, List.length_cons, bestRf, h0]
    by_cases a : can i = true
    · rw [if_pos a]
      by_cases b : at_ < 0
      · rw [if_pos b, if_pos ⟨a, Or.inl b⟩]; exact ih (i + 1) _ _ ht (fun _ => by rw [Int.toNat_natCast])
      · rw [if_neg b, ← h2 (by omega)]
        by_cases c : most < key i
        · rw [if_pos c, if_pos ⟨a, Or.inr c⟩]; exact ih (i + 1) _ _ ht (fun _ => by rw [Int.toNat_natCast])
        · rw [if_neg c, if_neg (fun q => q.2.elim b c)]; exact ih (i + 1) _ _ ht h2
    · rw [if_neg a, if_neg (fun q => a q.1)]; exact ih (i + 1) _ _ ht h2
/-- none is found: none can be -/
theorem bestRf_none (key : Nat → Int) (can : Nat → Bool) : ∀ (d i : Nat) (at_ : Int), bestRf key can d i at_ < 0 → at_ < 0 ∧ ∀ j, i ≤ j → j < i + d → can j = false := by
  intro d
  induction d with
  | zero => intro i at_ h; exact ⟨h, fun j h1 h2 => by omega⟩
  | succ d ih =>
    intro i at_ h
    simp only [bestRf] at h
    by_cases a : can i = true ∧ (at_ < 0 ∨ key at_.toNat < key i)
    · rw [if_pos a] at h
      have := (ih (i + 1) _ h).1
      omega
    · rw [if_neg a] at h
      have h1 := ih (i + 1) _ h
      refine ⟨h1.1, fun j h2 h3 => ?_⟩
      by_cases e : j = i
      · subst e
        cases hc : can j with
        | false => rfl
        | true => exact absurd ⟨hc, Or.inl h1.1⟩ a
      · exact h1.2 j (by omega) (by omega)

/-! ### what Suggest says, exactly -/
theorem bestRf_b (key : Nat → Int) (can : Nat → Bool) : ∀ (d i : Nat) (at_ : Int), at_ < (i : Int) → bestRf key can d i at_ < ((i + d : Nat) : Int) := by
  intro d
  induction d with
  | zero => intro i at_ h; simp only [bestRf]; omega
  | succ d ih =>
    intro i at_ h
    simp only [bestRf]
    split
    · have := ih (i + 1) (i : Int) (by omega); omega
    · have := ih (i + 1) at_ (by omega); omega
theorem bestRf_congr (key key' : Nat → Int) (can can' : Nat → Bool) : ∀ (d i : Nat) (at_ : Int), (∀ j, j < i + d → key j = key' j) → (∀ j, j < i + d → can j = can' j) → at_ < (i : Int) → bestRf key can d i at_ = bestRf key' can' d i at_ := by
  intro d
  induction d with
  | zero => intro i at_ _ _ _; rfl
  | succ d ih =>
    intro i at_ h1 h2 h3
    simp only [bestRf]
    rw [h2 i (by omega), ih (i + 1) (i : Int) (fun j hj => h1 j (by omega)) (fun j hj => h2 j (by omega)) (by omega), ih (i + 1) at_ (fun j hj => h1 j (by omega)) (fun j hj => h2 j (by omega)) (by omega), h1 i (by omega)]
    by_cases a : at_ < 0
    · simp [a]
    · rw [h1 at_.toNat (by omega)]
abbrev lo9 (L : List S67) (i : Nat) : Int := (rd_T67 L (i : Int)).f1.f0
abbrev hi9 (L : List S67) (i : Nat) : Int := (rd_T67 L (i : Int)).f1.f1
def cutAt (l : List Pr70) (L : List S67) (i : Nat) : Int × Bool := cutR l (lo9 L i) (hi9 L i)
theorem cuts_x (k : Nat) (hk : 200 ≤ k) (l : List Pr70) (hb : BigP l) (hg : GoodP l) : ∀ L : List S67, cutsF k l L = some (L.map (fun x => cutR l x.f1.f0 x.f1.f1)) := by
  intro L
  induction L with
  | nil => rfl
  | cons x L ih => simp only [cutsF, List.map_cons]; rw [cut_xf k hk l hb hg, Option.bind_some, ih]; rfl
theorem tsAt_x (l : List Pr70) (L : List S67) (j : Nat) (hj : j < L.length) : tsAt (L.map (fun x => cutR l x.f1.f0 x.f1.f1)) j = cutAt l L j := by
  unfold tsAt cutAt lo9 hi9
  rw [List.getD_eq_getElem?_getD, List.getElem?_map, List.getElem?_eq_getElem hj, rd_get L j hj]; rfl
def spB (l : List Pr70) (L : List S67) (p0 : Int) : Int := bestRf (shAt l L) (fun i => (cutAt l L i).2 && decide (p0 < shAt l L i)) L.length 0 (-1)
def splitS (l : List Pr70) (L : List S67) (p0 : Int) : Int × Int × Int × Bool :=
  if 24 ≤ L.length ∨ spB l L p0 < 0 then (0, 0, 0, false) else (1, (rd_T67 L (spB l L p0)).f0, (cutAt l L (spB l L p0).toNat).1, true)
theorem split_x (k : Nat) (hk : 200 ≤ k) (ep nx : Int) (l : List Pr70) (hb : BigP l) (hg : GoodP l) (L : List S67) (p0 : Int) :
    balance_split.f k ep nx L l (L.map (shS l)) p0 = some (splitS l L p0) := by
  unfold balance_split.f splitS
  by_cases h1 : (L.length : Int) ≥ 24
  · rw [if_pos h1, if_pos (Or.inl (by omega))]
  rw [if_neg h1, if_pos (by rw [List.length_map]; exact Nat.le_refl _), cuts_x k hk l hb hg L, Option.bind_some]
  have e : bestLS (splM (L.map (fun x => cutR l x.f1.f0 x.f1.f1)) (L.map (shS l)) p0) L 0 (-1) 0 = spB l L p0 := by
    refine bestS_R _ _ _ L 0 (-1) 0 (fun j hj => ?_) (fun h => by omega)
    rw [Nat.zero_add]
    simp only [splM]
    rw [rd_sh l L j hj, tsAt_x l L j hj]
  rw [e]
  have hlt := bestRf_b (shAt l L) (fun i => (cutAt l L i).2 && decide (p0 < shAt l L i)) L.length 0 (-1) (by omega)
  rw [Nat.zero_add] at hlt
  by_cases h2 : spB l L p0 < 0
  · rw [if_pos h2, if_pos (Or.inr h2)]
  · have hlt2 : spB l L p0 < (L.length : Int) := hlt
    rw [if_neg h2, if_pos hlt2, if_neg (by omega), tsAt_x l L _ (by omega)]
def frB (nd : List Int) : Int := bestRf (fun i => rd nd (i : Int)) (fun _ => true) nd.length 0 (-1)
def toB (nd : List Int) : Int := bestRf (fun i => wrap64 (-(rd nd (i : Int)))) (fun _ => true) nd.length 0 (-1)
def dfB (nd : List Int) : Int := wrap64 (rd nd (frB nd) - rd nd (toB nd))
def shB (l : List Pr70) (L : List S67) (nd : List Int) : Int := bestRf (shAt l L) (fun i => decide ((rd_T67 L (i : Int)).f2 = frB nd) && decide (0 < shAt l L i) && decide (shAt l L i < dfB nd)) L.length 0 (-1)
def shiftS (l : List Pr70) (L : List S67) (nd : List Int) (p2 : Int) : Int × Int × Int × Bool :=
  if dfB nd ≤ p2 ∨ shB l L nd < 0 then (0, 0, 0, false) else (3, (rd_T67 L (shB l L nd)).f0, toB nd, true)
theorem shift_x (ep nx : Int) (l : List Pr70) (L : List S67) (hlen : L.length ≤ 1000) (nd : List Int) (hn1 : 0 < nd.length) (hn5 : nd.length ≤ 5) (p2 : Int) :
    balance_shift.f ep nx L (L.map (shS l)) nd p2 = some (shiftS l L nd p2) := by
  have a := bestI_ix topM (fun _ _ => rfl) nd 0 (-1) 0 (by omega) (Or.inr hn1)
  have b := bestI_ix lowM (fun _ _ => rfl) nd 0 (-1) 0 (by omega) (Or.inr hn1)
  rw [Nat.zero_add] at a b
  have ea : bestLI topM nd 0 (-1) 0 = frB nd := by
    refine bestI_R _ _ _ nd 0 (-1) 0 (fun j hj => ?_) (fun h => by omega)
    simp only [topM, Nat.zero_add]; rw [rdi_get nd j hj]
  have eb : bestLI lowM nd 0 (-1) 0 = toB nd := by
    refine bestI_R _ _ _ nd 0 (-1) 0 (fun j hj => ?_) (fun h => by omega)
    simp only [lowM, Nat.zero_add]; rw [rdi_get nd j hj]
  unfold balance_shift.f shiftS
  rw [ea] at a
  rw [eb] at b
  rw [ea, eb, if_pos ⟨by omega, by omega, by rw [List.length_map]; exact Nat.le_refl _, a.1, a.2, b.1, b.2⟩]
  have ed : wrap64 (rd nd (frB nd) - rd nd (toB nd)) = dfB nd := rfl
  rw [ed]
  by_cases h1 : dfB nd ≤ p2
  · rw [if_pos h1, if_pos (Or.inl h1)]
  rw [if_neg h1]
  have e : bestLS (shfM (L.map (shS l)) (frB nd) (dfB nd)) L 0 (-1) 0 = shB l L nd := by
    refine bestS_R _ _ _ L 0 (-1) 0 (fun j hj => ?_) (fun h => by omega)
    rw [Nat.zero_add]
    simp only [shfM]
    rw [rd_sh l L j hj, ← rd_get L j hj]
  rw [e]
  have hlt := bestRf_b (shAt l L) (fun i => decide ((rd_T67 L (i : Int)).f2 = frB nd) && decide (0 < shAt l L i) && decide (shAt l L i < dfB nd)) L.length 0 (-1) (by omega)
  rw [Nat.zero_add] at hlt
  by_cases h2 : shB l L nd < 0
  · rw [if_pos h2, if_pos (Or.inr h2)]
  · have hlt2 : shB l L nd < (L.length : Int) := hlt
    rw [if_neg h2, if_pos hlt2, if_neg (by omega)]
def twoS (l : List Pr70) (L : List S67) (i : Nat) : Int := wrap64 (shAt l L i + shAt l L (i + 1))
def mgB (l : List Pr70) (L : List S67) (p1 : Int) : Int := bestRf (fun i => wrap64 (-(twoS l L i))) (fun i => decide ((rd_T67 L (i : Int)).f2 = (rd_T67 L ((i + 1 : Nat) : Int)).f2) && decide (twoS l L i ≤ p1)) (L.length - 1) 0 (-1)
def mergeS (l : List Pr70) (L : List S67) (p1 : Int) : Int × Int × Int × Bool :=
  if mgB l L p1 < 0 then (0, 0, 0, false) else (2, (rd_T67 L (mgB l L p1)).f0, 0, true)
theorem merge_x (ep nx : Int) (l : List Pr70) (L : List S67) (h1 : 1 ≤ L.length) (hlen : L.length ≤ 1000) (p1 : Int) :
    balance_merge.f ep nx L (L.map (shS l)) p1 = some (mergeS l L p1) := by
  unfold balance_merge.f mergeS
  rw [if_pos ⟨h1, by omega, by rw [List.length_map]; exact Nat.le_refl _⟩]
  have e : bestLS (mrgM L (L.map (shS l)) p1) (L.drop 1) 0 (-1) 0 = mgB l L p1 := by
    unfold mgB
    rw [← List.length_drop]
    refine bestS_R _ _ _ (L.drop 1) 0 (-1) 0 (fun j hj => ?_) (fun h => by omega)
    rw [List.length_drop] at hj
    rw [Nat.zero_add]
    simp only [mrgM, twoS]
    rw [show (j : Int) + 1 = ((j + 1 : Nat) : Int) from by omega, rd_sh l L j (by omega), rd_sh l L (j + 1) (by omega), List.getElem_drop, rd_get L (j + 1) (by omega)]
    simp only [Nat.add_comm 1 j]
    rfl
  rw [e]
  have hlt := bestRf_b (fun i => wrap64 (-(twoS l L i))) (fun i => decide ((rd_T67 L (i : Int)).f2 = (rd_T67 L ((i + 1 : Nat) : Int)).f2) && decide (twoS l L i ≤ p1)) (L.length - 1) 0 (-1) (by omega)
  rw [Nat.zero_add] at hlt
  by_cases h2 : mgB l L p1 < 0
  · rw [if_pos h2, if_pos h2]
  · have hlt2 : mgB l L p1 < (L.length : Int) := by have : mgB l L p1 < ((L.length - 1 : Nat) : Int) := hlt; omega
    rw [if_neg h2, if_pos hlt2, if_neg h2]
def firstS (l : List Pr70) (L : List S67) (nd : List Int) (p0 p1 p2 : Int) : Int × Int × Int × Bool :=
  if (splitS l L p0).2.2.2 = true then splitS l L p0 else if (shiftS l L nd p2).2.2.2 = true then shiftS l L nd p2 else mergeS l L p1
theorem first_x (k : Nat) (hk : 200 ≤ k) (ep nx : Int) (l : List Pr70) (hb : BigP l) (hg : GoodP l) (L : List S67) (h1 : 1 ≤ L.length) (hlen : L.length ≤ 1000) (nd : List Int) (hn1 : 0 < nd.length) (hn5 : nd.length ≤ 5) (p0 p1 p2 : Int) :
    balance_first.f k ep nx L l p0 p1 p2 (L.map (shS l)) nd = some (firstS l L nd p0 p1 p2) := by
  unfold balance_first.f firstS
  rw [split_x k hk ep nx l hb hg L p0, Option.bind_some]
  by_cases c : (splitS l L p0).2.2.2 = true
  · rw [if_pos c, if_pos c]
    exact congrArg some (Prod.ext rfl (Prod.ext rfl (Prod.ext rfl c.symm)))
  rw [if_neg c, if_neg c, shift_x ep nx l L hlen nd hn1 hn5 p2, Option.bind_some]
  by_cases c2 : (shiftS l L nd p2).2.2.2 = true
  · rw [if_pos c2, if_pos c2]
    exact congrArg some (Prod.ext rfl (Prod.ext rfl (Prod.ext rfl c2.symm)))
  rw [if_neg c2, if_neg c2, merge_x ep nx l L h1 hlen p1, Option.bind_some]
def polB (p0 p1 p2 : Int) : Bool := decide (p1 ≥ 0) && (decide (p1 ≤ p0) && (decide (p0 ≤ 1099511627776) && (decide (p2 ≥ 0) && decide (p2 ≤ 1099511627776))))
theorem pol_f (p0 p1 p2 : Int) : balance_Check.f p0 p1 p2 = some (polB p0 p1 p2) := by
  unfold balance_Check.f polB
  by_cases a : p1 ≥ 0
  case neg => rw [if_neg a, decide_eq_false a]; rfl
  rw [if_pos a, decide_eq_true a]
  by_cases b : p1 ≤ p0
  case neg => rw [if_neg b, decide_eq_false b]; rfl
  rw [if_pos b, decide_eq_true b]
  by_cases c : p0 ≤ 1099511627776
  case neg => rw [if_neg c, decide_eq_false c]; rfl
  rw [if_pos c, decide_eq_true c]
  by_cases d : p2 ≥ 0
  case neg => rw [if_neg d, decide_eq_false d]; rfl
  rw [if_pos d, decide_eq_true d]; rfl
def nod (l : List Pr70) (L : List S67) (n : Int) : List Int := nodesL l L (List.replicate n.toNat 0)
def sugS (ep nx : Int) (L : List S67) (l : List Pr70) (p0 p1 p2 n : Int) : Int × Int × Int × Bool × Int :=
  if (mayB ep nx L l n && polB p0 p1 p2) = true then
    (if (firstS l L (nod l L n) p0 p1 p2).2.2.2 = true then
      (if (applyS ep nx L (firstS l L (nod l L n) p0 p1 p2).1 (firstS l L (nod l L n) p0 p1 p2).2.1 (firstS l L (nod l L n) p0 p1 p2).2.2.1).2.2.2.2.2 = 0 then ((firstS l L (nod l L n) p0 p1 p2).1, (firstS l L (nod l L n) p0 p1 p2).2.1, (firstS l L (nod l L n) p0 p1 p2).2.2.1, true, 0) else (0, 0, 0, false, 2))
    else (0, 0, 0, false, 0))
  else (0, 0, 0, false, 1)
theorem suggest_x (k : Nat) (hk : 1000 ≤ k) (ep nx : Int) (L : List S67) (hL : L.length ≤ 60) (l : List Pr70) (hl : l.length ≤ 60) (p0 p1 p2 n : Int) :
    balance_Suggest.f k ep nx L l p0 p1 p2 n = some (sugS ep nx L l p0 p1 p2 n) := by
  obtain ⟨k, rfl⟩ : ∃ m, k = m + 1 := ⟨k - 1, by omega⟩
  unfold balance_Suggest.f sugS
  rw [nodes_f (k + 1) ep nx L (by omega) l (by omega) n (by omega), Option.bind_some]
  by_cases hm : mayB ep nx L l n = true
  case neg =>
    have : (nodesS ep nx L l n).2 = 1 := by unfold nodesS; rw [if_neg hm]
    rw [this, if_neg (by decide), Bool.eq_false_iff.mpr hm]
    simp only [balance_Suggest.j0]; rfl
  have e1 : (nodesS ep nx L l n).2 = 0 := by unfold nodesS; rw [if_pos hm]
  rw [e1, if_pos rfl, pol_f, Option.bind_some, hm, Bool.true_and]
  cases hp : polB p0 p1 p2 with
  | false => simp only [balance_Suggest.j0]; rfl
  | true =>
    have hm2 := hm
    simp only [mayB, Bool.and_eq_true, decide_eq_true_eq] at hm2
    obtain ⟨_, hc, hld, hn1, hn5⟩ := hm2
    have hcl := check_len ep nx L hc
    simp only [balance_Suggest.j0]
    rw [if_neg (by decide), shards_f k ep nx L (by omega) l (by omega) (by omega), Option.bind_some]
    have e2 : (shardsS ep nx L l).1 = L.map (shS l) := by unfold shardsS; rw [if_pos (by rw [hc, hld]; rfl)]
    have e3 : (nodesS ep nx L l n).1 = nod l L n := by unfold nodesS nod; rw [if_pos hm]
    have e4 : (nod l L n).length = n.toNat := by unfold nod; simp [nodesL]
    rw [e2, e3, first_x k (by omega) ep nx l (bigp_of l hl hld) (goodp_of l hld) L hcl.1 (by omega) (nod l L n) (by omega) (by omega) p0 p1 p2, Option.bind_some, if_pos trivial]
    by_cases c : (firstS l L (nod l L n) p0 p1 p2).2.2.2 = true
    case neg => rw [if_neg c, if_neg c]
    rw [if_pos c, if_pos c, apply_f k ep nx L (by omega) _ _ _ (by omega), Option.bind_some]
    split <;> rfl
/-! ### the greatest and the least node, told as the statements tell it -/
def ftS (nd : List Int) : Nat → Nat × Nat
  | 0 => (0, 0)
  | i + 1 => (if rd nd ((ftS nd i).1 : Int) < rd nd (i : Int) then i else (ftS nd i).1, if rd nd (i : Int) < rd nd ((ftS nd i).2 : Int) then i else (ftS nd i).2)
theorem ft_top (nd : List Int) : ∀ (d i : Nat), 1 ≤ i → bestRf (fun i => rd nd (i : Int)) (fun _ => true) d i ((ftS nd i).1 : Int) = ((ftS nd (i + d)).1 : Int) := by
  intro d
  induction d with
  | zero => intro i _; rfl
  | succ d ih =>
    intro i hi
    have h1 := ih (i + 1) (by omega)
    rw [show i + (d + 1) = i + 1 + d from by omega, ← h1]
    simp only [bestRf, ftS, Int.toNat_natCast, true_and]
    by_cases c : rd nd ((ftS nd i).1 : Int) < rd nd (i : Int)
    · rw [if_pos (Or.inr c), if_pos c]
    · rw [if_neg (fun q => q.elim (fun z => by omega) c), if_neg c]
theorem ft_low (nd : List Int) (N : Nat) (hb : ∀ i : Nat, i < N → 0 ≤ rd nd (i : Int) ∧ rd nd (i : Int) ≤ 4611686018427387904) : ∀ (d i : Nat), 1 ≤ i → i + d ≤ N → (ftS nd i).2 < N → bestRf (fun i => wrap64 (-(rd nd (i : Int)))) (fun _ => true) d i ((ftS nd i).2 : Int) = ((ftS nd (i + d)).2 : Int) := by
  intro d
  induction d with
  | zero => intro i _ _ _; rfl
  | succ d ih =>
    intro i hi hd hf
    have hlt : (ftS nd (i + 1)).2 < N := by simp only [ftS]; split <;> omega
    have h1 := ih (i + 1) (by omega) (by omega) hlt
    rw [show i + (d + 1) = i + 1 + d from by omega, ← h1]
    have w : ∀ j : Nat, j < N → wrap64 (-(rd nd (j : Int))) = -(rd nd (j : Int)) := fun j hj => by have := hb j hj; unfold wrap64; omega
    simp only [bestRf, ftS, Int.toNat_natCast, true_and]
    rw [w _ hf, w i (by omega)]
    by_cases c : rd nd (i : Int) < rd nd ((ftS nd i).2 : Int)
    · rw [if_pos (Or.inr (by omega)), if_pos c]
    · rw [if_neg (fun q => q.elim (fun z => by omega) (fun z => by omega)), if_neg c]
theorem fr_ft (nd : List Int) (h1 : 1 ≤ nd.length) : frB nd = ((ftS nd nd.length).1 : Int) := by
  unfold frB
  obtain ⟨m, hm⟩ : ∃ m, nd.length = m + 1 := ⟨nd.length - 1, by omega⟩
  have h0 : (ftS nd 1).1 = 0 := by simp [ftS]
  have := ft_top nd m 1 (Nat.le_refl _)
  rw [hm, show m + 1 = 1 + m from by omega, ← this, show 1 + m = m + 1 from by omega, h0]
  simp only [bestRf]
  rw [if_pos ⟨trivial, Or.inl (by omega)⟩]
theorem to_ft (nd : List Int) (h1 : 1 ≤ nd.length) (hb : ∀ i : Nat, i < nd.length → 0 ≤ rd nd (i : Int) ∧ rd nd (i : Int) ≤ 4611686018427387904) : toB nd = ((ftS nd nd.length).2 : Int) := by
  unfold toB
  obtain ⟨m, hm⟩ : ∃ m, nd.length = m + 1 := ⟨nd.length - 1, by omega⟩
  have h0 : (ftS nd 1).2 = 0 := by simp [ftS]
  have := ft_low nd nd.length hb m 1 (Nat.le_refl _) (by omega) (by rw [h0]; omega)
  rw [hm, show m + 1 = 1 + m from by omega, ← this, show 1 + m = m + 1 from by omega, h0]
  simp only [bestRf]
  rw [if_pos ⟨trivial, Or.inl (by omega)⟩]
theorem load0_b (l : List Pr70) (h : BigP l) (m : Int) : ∀ (L : List S67) (acc : Int), 0 ≤ acc → acc + 65970697666560 * L.length ≤ 4611686018427387904 → 0 ≤ load0 l m L acc ∧ load0 l m L acc ≤ 4611686018427387904 := by
  intro L
  induction L with
  | nil => intro acc h0 h1; simp only [load0]; simp at h1; omega
  | cons x L ih =>
    intro acc h0 h1
    have hx : 0 ≤ shS l x ∧ shS l x ≤ 65970697666560 := sumS_bB l h _ _
    simp only [List.length_cons] at h1
    simp only [load0]
    split
    · have w : wrap64 (acc + shS l x) = acc + shS l x := by unfold wrap64; omega
      rw [w]; exact ih _ (by omega) (by omega)
    · exact ih _ h0 (by omega)
theorem nod_len (l : List Pr70) (L : List S67) (n : Int) : (nod l L n).length = n.toNat := by unfold nod; simp [nodesL]
theorem nod_get (l : List Pr70) (L : List S67) (n : Int) (i : Nat) (hi : i < n.toNat) : rd (nod l L n) (i : Int) = load0 l (i : Int) L 0 := by
  unfold nod nodesL rd
  rw [Int.toNat_natCast, List.getD_eq_getElem?_getD, List.getElem?_map, List.length_replicate, List.getElem?_range hi]
  show load0 l (i : Int) L (rd (List.replicate n.toNat 0) (i : Int)) = load0 l (i : Int) L 0
  rw [rdi_get _ i (by simpa using hi), List.getElem_replicate]
theorem nod_b (l : List Pr70) (h : BigP l) (L : List S67) (hL : L.length ≤ 60) (n : Int) (i : Nat) (hi : i < (nod l L n).length) : 0 ≤ rd (nod l L n) (i : Int) ∧ rd (nod l L n) (i : Int) ≤ 4611686018427387904 := by
  rw [nod_get l L n i (by rw [nod_len] at hi; exact hi)]
  exact load0_b l h _ L 0 (by omega) (by omega)

end Go.Proofs.Yteclhjhnbolkmaa.PR
