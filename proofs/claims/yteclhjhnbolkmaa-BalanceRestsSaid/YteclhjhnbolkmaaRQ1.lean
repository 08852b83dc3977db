import Derived.Test.YteclhjhnbolkmaaPRx0
import Derived.Test.YteclhjhnbolkmaaPRx2
import Derived.Test.YteclhjhnbolkmaaPRx4
import Derived.Test.YteclhjhnbolkmaaPRx5

namespace Go.Proofs.Yteclhjhnbolkmaa.PR
open Go.RowKit Go.Proofs.YteclhjhnbolkmaaW.PrintWords Go.Proofs.YteclhjhnbolkmaaW.PrintLast Go.Proofs.YteclhjhnbolkmaaW.PrintMore
set_option linter.unusedVariables false
set_option linter.unusedSimpArgs false


/-! ### the document's shards, and which charts may be -/
theorem w1c (i : Nat) (h : i < 1000000000) : wrap64 ((i : Int) + 1) = ((i + 1 : Nat) : Int) := by unfold wrap64; omega
theorem leo_up {α : Type} (f : Nat → Option α) (hf : ∀ k, LeO (f k) (f (k + 1))) (a b : Nat) (r : α) (hab : a ≤ b) (h : f a = some r) : f b = some r := by
  obtain ⟨d, rfl⟩ := Nat.exists_eq_add_of_le hab
  induction d with
  | zero => exact h
  | succ d ih => exact hf _ _ (ih (by omega))
theorem rd_get (l : List S67) (i : Nat) (h : i < l.length) : rd_T67 l (i : Int) = l[i] := by
  unfold rd_T67
  rw [Int.toNat_natCast, List.getD_eq_getElem?_getD, List.getElem?_eq_getElem h]; rfl
theorem drop_rd (l : List S67) (i : Nat) (h : i < l.length) : l.drop i = rd_T67 l (i : Int) :: l.drop (i + 1) := by
  rw [rd_get l i h]; exact List.drop_eq_getElem_cons h
def elemB (nx prev : Int) (x : S67) : Bool :=
  !decide (x.f0 < 1) && !decide (x.f0 ≥ nx) && (decide (0 ≤ x.f2) && decide (x.f2 < 5)) && (decide (0 ≤ x.f1.f0) && decide (x.f1.f0 < x.f1.f1) && decide (x.f1.f1 ≤ 4096)) && decide (x.f1.f0 = prev)
def uniqB (l : List S67) (i : Nat) : Bool := !(l.take i).any (fun o => decide (o.f0 = (rd_T67 l (i : Int)).f0))
/-- the elements from i on (d of them), each held against the one ahead of it -/
def chain0 (nx : Int) (l : List S67) : Nat → Nat → Int → Bool
  | 0, _, prev => decide (prev = 4096)
  | d + 1, i, prev => elemB nx prev (rd_T67 l (i : Int)) && chain0 nx l d (i + 1) (rd_T67 l (i : Int)).f1.f1
def headB (ep nx : Int) (l : List S67) : Bool :=
  !decide (ep < 1) && !decide (ep > 1073741824) && !decide (nx < 1) && !decide (nx > 65537) && !decide ((l.length : Int) < 1) && !decide ((l.length : Int) > 24)
def checkB (ep nx : Int) (l : List S67) : Bool := headB ep nx l && (chain0 nx l l.length 0 0 && onceF l l.length 0)
theorem one_f (a b : Int) : span_One.f a b = some (decide (0 ≤ a) && decide (a < b) && decide (b ≤ 4096)) := by
  unfold span_One.f
  by_cases h1 : a ≥ 0
  · rw [if_pos h1, decide_eq_true (show 0 ≤ a from h1)]
    by_cases h2 : a < b
    · rw [if_pos h2, decide_eq_true h2]; simp
    · rw [if_neg h2, decide_eq_false h2]; simp
  · rw [if_neg h1, decide_eq_false (show ¬ 0 ≤ a from h1)]; simp
theorem node_f' (a : Int) : chart_node.f a = some (decide (0 ≤ a) && decide (a < 5)) := by
  unfold chart_node.f
  by_cases h1 : a ≥ 0
  · rw [if_pos h1, decide_eq_true (show 0 ≤ a from h1)]; simp
  · rw [if_neg h1, decide_eq_false (show ¬ 0 ≤ a from h1)]; simp
theorem chk_l0 (ep nx : Int) (l : List S67) (hl : l.length ≤ 1000000) : ∀ (d k i : Nat) (prev : Int), i + d = l.length → d < k →
    chart_Check.l0 k prev l (l.length : Int) (i : Int) ep nx l = some (chain0 nx l d i prev && onceF l l.length 0) := by
  intro d
  induction d with
  | zero =>
    intro k i prev hi hk
    obtain ⟨k, rfl⟩ : ∃ k', k = k' + 1 := ⟨k - 1, by omega⟩
    rw [chart_Check.l0, if_neg (by omega)]
    by_cases hp : prev = 4096
    · rw [if_pos hp]
      unfold chart_once.f
      rw [if_pos (by omega)]
      simp [chain0, hp]
    · rw [if_neg hp]
      simp [chain0, hp]
  | succ d ih =>
    intro k i prev hi hk
    obtain ⟨k, rfl⟩ : ∃ k', k = k' + 1 := ⟨k - 1, by omega⟩
    rw [chart_Check.l0, if_pos (by omega), if_pos (by omega), if_pos (by omega)]
    simp only [chain0, elemB]
    generalize hx : rd_T67 l (i : Int) = x
    by_cases h1 : x.f0 < 1
    · rw [if_pos h1]; simp [h1]
    rw [if_neg h1]
    by_cases h2 : x.f0 ≥ nx
    · rw [if_pos h2]; simp [h2]
    rw [if_neg h2, node_f', Option.bind_some]
    by_cases h3 : (decide (0 ≤ x.f2) && decide (x.f2 < 5)) = true
    case neg => rw [if_neg h3]; simp only [Bool.not_eq_true] at h3; simp [h3]
    rw [if_pos h3, one_f, Option.bind_some]
    by_cases h4 : (decide (0 ≤ x.f1.f0) && decide (x.f1.f0 < x.f1.f1) && decide (x.f1.f1 ≤ 4096)) = true
    case neg => rw [if_neg h4]; simp only [Bool.not_eq_true] at h4; simp only [h3, h4]; simp
    rw [if_pos h4]
    by_cases h5 : x.f1.f0 = prev
    · rw [if_pos h5, w1c i (by omega), ih k (i + 1) _ (by omega) (by omega)]
      simp only [h3, h4, decide_eq_false h1, decide_eq_false h2, decide_eq_true h5]; simp
    · rw [if_neg h5]; simp only [decide_eq_false h5]; simp
theorem check_f (k : Nat) (ep nx : Int) (l : List S67) (hl : l.length ≤ 1000000) (hk : 60 ≤ k) : chart_Check.f k ep nx l = some (checkB ep nx l) := by
  have hj0 : ∀ b : Bool, (b = false → l.length ≤ 24) → chart_Check.j0 k b ep nx l = some (!b && (chain0 nx l l.length 0 0 && onceF l l.length 0)) := by
    intro b hb
    obtain ⟨k, rfl⟩ : ∃ k', k = k' + 1 := ⟨k - 1, by omega⟩
    rw [chart_Check.j0]
    cases b
    · rw [if_neg (by simp)]
      have := chk_l0 ep nx l hl l.length k 0 0 (by omega) (by have := hb rfl; omega)
      rw [show ((0 : Nat) : Int) = 0 from rfl] at this
      rw [this]; simp
    · rw [if_pos rfl]; rfl
  unfold chart_Check.f checkB headB
  by_cases h1 : ep < 1
  · rw [if_pos h1, hj0 true (by simp), decide_eq_true h1]; rfl
  rw [if_neg h1, decide_eq_false h1]
  by_cases h2 : ep > 1073741824
  · rw [if_pos h2, hj0 true (by simp), decide_eq_true h2]; rfl
  rw [if_neg h2, decide_eq_false h2]
  by_cases h3 : nx < 1
  · rw [if_pos h3, hj0 true (by simp), decide_eq_true h3]; rfl
  rw [if_neg h3, decide_eq_false h3]
  by_cases h4 : nx > 65537
  · rw [if_pos h4, hj0 true (by simp), decide_eq_true h4]; rfl
  rw [if_neg h4, decide_eq_false h4]
  by_cases h5 : (l.length : Int) < 1
  · rw [if_pos h5, hj0 true (by simp), decide_eq_true h5]; rfl
  rw [if_neg h5, decide_eq_false h5, hj0 _ (by intro h; have := of_decide_eq_false h; omega)]
  simp
def chainU (nx : Int) (l : List S67) : Nat → Nat → Int → Bool
  | 0, _, prev => decide (prev = 4096)
  | d + 1, i, prev => elemB nx prev (rd_T67 l (i : Int)) && (!(l.take i).any (fun o => decide (o.f0 = (rd_T67 l (i : Int)).f0)) && chainU nx l d (i + 1) (rd_T67 l (i : Int)).f1.f1)
theorem chainU_eq (nx : Int) (l : List S67) : ∀ d i prev, chainU nx l d i prev = (chain0 nx l d i prev && onceF l d i) := by
  intro d
  induction d with
  | zero => intro i prev; simp [chainU, chain0, onceF]
  | succ d ih =>
    intro i prev
    simp only [chainU, chain0, onceF]
    rw [ih]
    cases (l.take i).any (fun o => decide (o.f0 = (rd_T67 l (i : Int)).f0)) <;> simp [Bool.and_assoc]
/-- what both Apply answer -/
def applyS (ep nx : Int) (l : List S67) (kd id at_ : Int) : Int × Int × List S67 × List S67 × List S67 × Int :=
  if checkB ep nx l = true then
    if mayChange kd at_ = true then
      if ixOf (fun x => decide (x.f0 = id)) l 0 < 0 then (0, 0, [], [], [], 4)
      else if (chg nx kd at_ l (ixOf (fun x => decide (x.f0 = id)) l 0).toNat).2.2 = 0 then
        if checkB (wrap64 (ep + 1)) (wrap64 (nx + ((chg nx kd at_ l (ixOf (fun x => decide (x.f0 = id)) l 0).toNat).2.1.length : Int))) (l.take (ixOf (fun x => decide (x.f0 = id)) l 0).toNat ++ (chg nx kd at_ l (ixOf (fun x => decide (x.f0 = id)) l 0).toNat).2.1 ++ l.drop ((ixOf (fun x => decide (x.f0 = id)) l 0).toNat + (chg nx kd at_ l (ixOf (fun x => decide (x.f0 = id)) l 0).toNat).1)) = true then
          (wrap64 (ep + 1), wrap64 (nx + ((chg nx kd at_ l (ixOf (fun x => decide (x.f0 = id)) l 0).toNat).2.1.length : Int)), l.take (ixOf (fun x => decide (x.f0 = id)) l 0).toNat ++ (chg nx kd at_ l (ixOf (fun x => decide (x.f0 = id)) l 0).toNat).2.1 ++ l.drop ((ixOf (fun x => decide (x.f0 = id)) l 0).toNat + (chg nx kd at_ l (ixOf (fun x => decide (x.f0 = id)) l 0).toNat).1), (l.drop (ixOf (fun x => decide (x.f0 = id)) l 0).toNat).take (chg nx kd at_ l (ixOf (fun x => decide (x.f0 = id)) l 0).toNat).1, (chg nx kd at_ l (ixOf (fun x => decide (x.f0 = id)) l 0).toNat).2.1, 0)
        else (0, 0, [], [], [], 2)
      else (0, 0, [], [], [], (chg nx kd at_ l (ixOf (fun x => decide (x.f0 = id)) l 0).toNat).2.2)
    else (0, 0, [], [], [], 1)
  else (0, 0, [], [], [], 1)
theorem chg_len (nx kd at_ : Int) (l : List S67) (i : Nat) : (chg nx kd at_ l i).2.1.length ≤ 2 := by
  unfold chg
  dsimp only
  split
  · split <;> simp
  · split
    · split <;> simp
    · simp
theorem apply_f (k : Nat) (ep nx : Int) (l : List S67) (hl : l.length ≤ 900000) (kd id at_ : Int) (hk : 60 ≤ k) : chart_Apply.f k ep nx l kd id at_ = some (applyS ep nx l kd id at_) := by
  unfold chart_Apply.f applyS
  rw [if_pos (by omega), check_f k ep nx l (by omega) hk, Option.bind_some]
  by_cases h1 : checkB ep nx l = true
  case neg => rw [if_neg h1, if_neg h1]
  rw [if_pos h1, if_pos h1]
  by_cases h2 : mayChange kd at_ = true
  case neg => rw [if_neg h2, if_neg h2]
  rw [if_pos h2, if_pos h2]
  unfold chart_place.f
  rw [if_pos (by omega), Option.bind_some]
  generalize ixOf (fun x => decide (x.f0 = id)) l 0 = i
  by_cases h3 : i < 0
  · rw [if_pos h3, if_pos h3]
  rw [if_neg h3, if_neg h3]
  have hc := chg_len nx kd at_ l i.toNat
  generalize chg nx kd at_ l i.toNat = c at hc ⊢
  by_cases h4 : c.2.2 = 0
  case neg => rw [if_neg h4, if_neg h4]
  rw [if_pos h4, if_pos h4, check_f k _ _ _ (by simp only [List.length_append, List.length_take, List.length_drop]; omega) hk, Option.bind_some]
  by_cases h5 : checkB (wrap64 (ep + 1)) (wrap64 (nx + (c.2.1.length : Int))) (l.take i.toNat ++ c.2.1 ++ l.drop (i.toNat + c.1)) = true
  · rw [if_pos h5, if_pos h5]
  · rw [if_neg h5, if_neg h5]
theorem drop_rds (l : List S65) (i : Nat) (h : i < l.length) : l.drop i = rd_T65 l (i : Int) :: l.drop (i + 1) := by
  unfold rd_T65
  rw [Int.toNat_natCast, List.getD_eq_getElem?_getD, List.getElem?_eq_getElem h]; exact List.drop_eq_getElem_cons h
def oneS (x : S65) : Bool := decide (0 ≤ x.f0) && decide (x.f0 < x.f1) && decide (x.f1 ≤ 4096)
theorem one_fs (x : S65) : span_One.f x.f0 x.f1 = some (oneS x) := one_f _ _
def sp0 (l : List S65) : Nat → Nat → Bool
  | 0, _ => decide ((l.length : Int) ≤ 64)
  | d + 1, i => oneS (rd_T65 l (i : Int)) && ((decide (i = 0) || !decide ((rd_T65 l (i : Int)).f0 ≤ (rd_T65 l ((i - 1 : Nat) : Int)).f1)) && sp0 l d (i + 1))
def ovM (a b : Int) (q : S65) : Bool := decide (mx a q.f0 < mn b q.f1)
def ovR (x : S67) (q : S65) : Bool := decide (q.f0 < x.f1.f1) && decide (x.f1.f0 < q.f1)
theorem sp0_one (l : List S65) : ∀ (d i : Nat), i + d = l.length → sp0 l d i = true → ∀ q ∈ l.drop i, oneS q = true := by
  intro d
  induction d with
  | zero => intro i hi _ q hq; rw [List.drop_eq_nil_of_le (by omega)] at hq; simp at hq
  | succ d ih =>
    intro i hi h q hq
    simp only [sp0, Bool.and_eq_true] at h
    rw [drop_rds l i (by omega)] at hq
    rcases List.mem_cons.1 hq with rfl | hq
    · exact h.1
    · exact ih (i + 1) (by omega) h.2.2 q hq
theorem any_ov (x : S67) (keys : List S65) (hx : oneS x.f1 = true) (hk : ∀ q ∈ keys, oneS q = true) : keys.any (ovM x.f1.f0 x.f1.f1) = keys.any (ovR x) := by
  induction keys with
  | nil => rfl
  | cons q l ih =>
    simp only [List.any_cons]
    rw [ih (fun q hq => hk q (List.mem_cons_of_mem _ hq))]
    have h1 := hk q List.mem_cons_self
    simp only [oneS, Bool.and_eq_true, decide_eq_true_eq] at h1 hx
    congr 1
    rw [Bool.eq_iff_iff]
    simp only [ovM, ovR, Bool.and_eq_true, decide_eq_true_eq]
    unfold mx mn
    split <;> split <;> omega
/-- the numbers of the shards that have a key of a set -/
def ownS (keys : List S65) (l : List S67) : List Int := (l.filter (fun x => keys.any (ovR x))).map (fun x => x.f0)
theorem chain_one (nx : Int) (l : List S67) : ∀ (d i : Nat) (prev : Int), i + d = l.length → chain0 nx l d i prev = true → ∀ x ∈ l.drop i, oneS x.f1 = true := by
  intro d
  induction d with
  | zero => intro i prev hi _ q hq; rw [List.drop_eq_nil_of_le (by omega)] at hq; simp at hq
  | succ d ih =>
    intro i prev hi h q hq
    simp only [chain0, elemB, Bool.and_eq_true] at h
    rw [drop_rd l i (by omega)] at hq
    rcases List.mem_cons.1 hq with rfl | hq
    · have := h.1.1.2; simp only [oneS, Bool.and_eq_true]; exact this
    · exact ih (i + 1) _ (by omega) h.2 q hq
theorem check_one (ep nx : Int) (l : List S67) (h : checkB ep nx l = true) : ∀ x ∈ l, oneS x.f1 = true := by
  simp only [checkB, Bool.and_eq_true] at h
  have := chain_one nx l l.length 0 0 (by omega) h.2.1
  simpa using this
/-- the shard at a place, or none -/
def atS (l : List S67) (i : Int) : Int × Int × Int × Int × Bool :=
  if i < 0 then (0, 0, 0, 0, false) else ((rd_T67 l i).f0, (rd_T67 l i).f1.f0, (rd_T67 l i).f1.f1, (rd_T67 l i).f2, true)
theorem ixOf_lt (p : S67 → Bool) (l : List S67) : ixOf p l 0 < (l.length : Int) := by
  rcases ixOf_range p l 0 with h | h <;> omega

end Go.Proofs.Yteclhjhnbolkmaa.PR
