import Derived.Test.YtbhlphadcphapaaPEx0
import Derived.Test.YtbhlphadcphapaaPEx2
import Derived.Test.YtbhlphadcphapaaPEx3
import Derived.Test.YtbhlphadcphapaaPEx4
import Derived.Test.YtbhlphadcphapaaPEx5
import Derived.Test.YtbhlphadcphapaaPEx6
import Derived.Test.YtbhlphadcphapaaPEx7
import Derived.Test.YtbhlphadcphapaaPEx8

namespace Go.Proofs.Ytbhlphadcphapaa.PE
open Go.RowKit Go.Proofs.YtbhlphadcphapaaW.PrintWords Go.Proofs.YtbhlphadcphapaaW.PrintLast Go.Proofs.YtbhlphadcphapaaW.PrintMore
set_option linter.unusedVariables false
set_option linter.unusedSimpArgs false


/-! ### the document's shards, and which charts may be -/
theorem w1c (i : Nat) (h : i < 1000000000) : wrap64 ((i : Int) + 1) = ((i + 1 : Nat) : Int) := by unfold wrap64; omega
theorem leo_up {α : Type} (f : Nat → Option α) (hf : ∀ k, LeO (f k) (f (k + 1))) (a b : Nat) (r : α) (hab : a ≤ b) (h : f a = some r) : f b = some r := by
  obtain ⟨d, rfl⟩ := Nat.exists_eq_add_of_le hab
  induction d with
  | zero => exact h
  | succ d ih => exact hf _ _ (ih (by omega))
theorem rd_get (l : List S57) (i : Nat) (h : i < l.length) : rd_T57 l (i : Int) = l[i] := by
  unfold rd_T57
  rw [Int.toNat_natCast, List.getD_eq_getElem?_getD, List.getElem?_eq_getElem h]; rfl
theorem drop_rd (l : List S57) (i : Nat) (h : i < l.length) : l.drop i = rd_T57 l (i : Int) :: l.drop (i + 1) := by
  rw [rd_get l i h]; exact List.drop_eq_getElem_cons h
def elemB (nx prev : Int) (x : S57) : Bool :=
  !decide (x.f0 < 1) && !decide (x.f0 ≥ nx) && (decide (0 ≤ x.f2) && decide (x.f2 < 5)) && (decide (0 ≤ x.f1.f0) && decide (x.f1.f0 < x.f1.f1) && decide (x.f1.f1 ≤ 4096)) && decide (x.f1.f0 = prev)
def uniqB (l : List S57) (i : Nat) : Bool := !(l.take i).any (fun o => decide (o.f0 = (rd_T57 l (i : Int)).f0))
/-- the elements from i on (d of them), each held against the one ahead of it -/
def chain0 (nx : Int) (l : List S57) : Nat → Nat → Int → Bool
  | 0, _, prev => decide (prev = 4096)
  | d + 1, i, prev => elemB nx prev (rd_T57 l (i : Int)) && chain0 nx l d (i + 1) (rd_T57 l (i : Int)).f1.f1
def headB (ep nx : Int) (l : List S57) : Bool :=
  !decide (ep < 1) && !decide (ep > 1073741824) && !decide (nx < 1) && !decide (nx > 65537) && !decide ((l.length : Int) < 1) && !decide ((l.length : Int) > 24)
def checkB (ep nx : Int) (l : List S57) : Bool := headB ep nx l && (chain0 nx l l.length 0 0 && onceF l l.length 0)
theorem one_f (a b : Int) : span_One.f a b = some (decide (0 ≤ a) && decide (a < b) && decide (b ≤ 4096)) := by
  unfold span_One.f
  by_cases h1 : a ≥ 0
  · rw [if_pos h1, decide_eq_true (show 0 ≤ a from h1)]
    by_cases h2 : a < b
    · rw [if_pos h2, decide_eq_true h2]; simp
    · rw [if_neg h2, decide_eq_false h2]; simp
  · rw [if_neg h1, decide_eq_false (show ¬ 0 ≤ a from h1)]; simp
theorem refone_f (a b : Int) : spliceref03_One.f a b = some (decide (0 ≤ a) && decide (a < b) && decide (b ≤ 4096)) := one_f a b
theorem node_f' (a : Int) : chart_node.f a = some (decide (0 ≤ a) && decide (a < 5)) := by
  unfold chart_node.f
  by_cases h1 : a ≥ 0
  · rw [if_pos h1, decide_eq_true (show 0 ≤ a from h1)]; simp
  · rw [if_neg h1, decide_eq_false (show ¬ 0 ≤ a from h1)]; simp
theorem chk_l0 (ep nx : Int) (l : List S57) (hl : l.length ≤ 1000000) : ∀ (d k i : Nat) (prev : Int), i + d = l.length → d < k →
    chart_Check.l0 k prev l (l.length : Int) (i : Int) ep nx l = some (chain0 nx l d i prev && onceF l l.length 0) := by
  intro d
  induction d with
  | zero =>
    intro k i prev hi hk
    obtain ⟨k, rfl⟩ : ∃ k', k = k' + 1 := ⟨k - 1, by omega⟩
    rw [chart_Check.l0, if_neg (by omega)]
    by_cases hp : prev = 4096
    · rw [if_pos hp]
      unfold chart_once.f
      rw [if_pos (by omega)]
      simp [chain0, hp]
    · rw [if_neg hp]
      simp [chain0, hp]
  | succ d ih =>
    intro k i prev hi hk
    obtain ⟨k, rfl⟩ : ∃ k', k = k' + 1 := ⟨k - 1, by omega⟩
    rw [chart_Check.l0, if_pos (by omega), if_pos (by omega), if_pos (by omega)]
    simp only [chain0, elemB]
    generalize hx : rd_T57 l (i : Int) = x
    by_cases h1 : x.f0 < 1
    · rw [if_pos h1]; simp [h1]
    rw [if_neg h1]
    by_cases h2 : x.f0 ≥ nx
    · rw [if_pos h2]; simp [h2]
    rw [if_neg h2, node_f', Option.bind_some]
    by_cases h3 : (decide (0 ≤ x.f2) && decide (x.f2 < 5)) = true
    case neg => rw [if_neg h3]; simp only [Bool.not_eq_true] at h3; simp [h3]
    rw [if_pos h3, one_f, Option.bind_some]
    by_cases h4 : (decide (0 ≤ x.f1.f0) && decide (x.f1.f0 < x.f1.f1) && decide (x.f1.f1 ≤ 4096)) = true
    case neg => rw [if_neg h4]; simp only [Bool.not_eq_true] at h4; simp only [h3, h4]; simp
    rw [if_pos h4]
    by_cases h5 : x.f1.f0 = prev
    · rw [if_pos h5, w1c i (by omega), ih k (i + 1) _ (by omega) (by omega)]
      simp only [h3, h4, decide_eq_false h1, decide_eq_false h2, decide_eq_true h5]; simp
    · rw [if_neg h5]; simp only [decide_eq_false h5]; simp
theorem check_f (k : Nat) (ep nx : Int) (l : List S57) (hl : l.length ≤ 1000000) (hk : 60 ≤ k) : chart_Check.f k ep nx l = some (checkB ep nx l) := by
  have hj0 : ∀ b : Bool, (b = false → l.length ≤ 24) → chart_Check.j0 k b ep nx l = some (!b && (chain0 nx l l.length 0 0 && onceF l l.length 0)) := by
    intro b hb
    obtain ⟨k, rfl⟩ : ∃ k', k = k' + 1 := ⟨k - 1, by omega⟩
    rw [chart_Check.j0]
    cases b
    · rw [if_neg (by simp)]
      have := chk_l0 ep nx l hl l.length k 0 0 (by omega) (by have := hb rfl; omega)
      rw [show ((0 : Nat) : Int) = 0 from rfl] at this
      rw [this]; simp
    · rw [if_pos rfl]; rfl
  unfold chart_Check.f checkB headB
  by_cases h1 : ep < 1
  · rw [if_pos h1, hj0 true (by simp), decide_eq_true h1]; rfl
  rw [if_neg h1, decide_eq_false h1]
  by_cases h2 : ep > 1073741824
  · rw [if_pos h2, hj0 true (by simp), decide_eq_true h2]; rfl
  rw [if_neg h2, decide_eq_false h2]
  by_cases h3 : nx < 1
  · rw [if_pos h3, hj0 true (by simp), decide_eq_true h3]; rfl
  rw [if_neg h3, decide_eq_false h3]
  by_cases h4 : nx > 65537
  · rw [if_pos h4, hj0 true (by simp), decide_eq_true h4]; rfl
  rw [if_neg h4, decide_eq_false h4]
  by_cases h5 : (l.length : Int) < 1
  · rw [if_pos h5, hj0 true (by simp), decide_eq_true h5]; rfl
  rw [if_neg h5, decide_eq_false h5, hj0 _ (by intro h; have := of_decide_eq_false h; omega)]
  simp
def chainU (nx : Int) (l : List S57) : Nat → Nat → Int → Bool
  | 0, _, prev => decide (prev = 4096)
  | d + 1, i, prev => elemB nx prev (rd_T57 l (i : Int)) && (!(l.take i).any (fun o => decide (o.f0 = (rd_T57 l (i : Int)).f0)) && chainU nx l d (i + 1) (rd_T57 l (i : Int)).f1.f1)
theorem chainU_eq (nx : Int) (l : List S57) : ∀ d i prev, chainU nx l d i prev = (chain0 nx l d i prev && onceF l d i) := by
  intro d
  induction d with
  | zero => intro i prev; simp [chainU, chain0, onceF]
  | succ d ih =>
    intro i prev
    simp only [chainU, chain0, onceF]
    rw [ih]
    cases (l.take i).any (fun o => decide (o.f0 = (rd_T57 l (i : Int)).f0)) <;> simp [Bool.and_assoc]
/-- what both Apply answer -/
def applyS (ep nx : Int) (l : List S57) (kd id at_ : Int) : Int × Int × List S57 × List S57 × List S57 × Int :=
  if checkB ep nx l = true then
    if mayChange kd at_ = true then
      if ixOf (fun x => decide (x.f0 = id)) l 0 < 0 then (0, 0, [], [], [], 4)
      else if (chg nx kd at_ l (ixOf (fun x => decide (x.f0 = id)) l 0).toNat).2.2 = 0 then
        if checkB (wrap64 (ep + 1)) (wrap64 (nx + ((chg nx kd at_ l (ixOf (fun x => decide (x.f0 = id)) l 0).toNat).2.1.length : Int))) (l.take (ixOf (fun x => decide (x.f0 = id)) l 0).toNat ++ (chg nx kd at_ l (ixOf (fun x => decide (x.f0 = id)) l 0).toNat).2.1 ++ l.drop ((ixOf (fun x => decide (x.f0 = id)) l 0).toNat + (chg nx kd at_ l (ixOf (fun x => decide (x.f0 = id)) l 0).toNat).1)) = true then
          (wrap64 (ep + 1), wrap64 (nx + ((chg nx kd at_ l (ixOf (fun x => decide (x.f0 = id)) l 0).toNat).2.1.length : Int)), l.take (ixOf (fun x => decide (x.f0 = id)) l 0).toNat ++ (chg nx kd at_ l (ixOf (fun x => decide (x.f0 = id)) l 0).toNat).2.1 ++ l.drop ((ixOf (fun x => decide (x.f0 = id)) l 0).toNat + (chg nx kd at_ l (ixOf (fun x => decide (x.f0 = id)) l 0).toNat).1), (l.drop (ixOf (fun x => decide (x.f0 = id)) l 0).toNat).take (chg nx kd at_ l (ixOf (fun x => decide (x.f0 = id)) l 0).toNat).1, (chg nx kd at_ l (ixOf (fun x => decide (x.f0 = id)) l 0).toNat).2.1, 0)
        else (0, 0, [], [], [], 2)
      else (0, 0, [], [], [], (chg nx kd at_ l (ixOf (fun x => decide (x.f0 = id)) l 0).toNat).2.2)
    else (0, 0, [], [], [], 1)
  else (0, 0, [], [], [], 1)
theorem chg_len (nx kd at_ : Int) (l : List S57) (i : Nat) : (chg nx kd at_ l i).2.1.length ≤ 2 := by
  unfold chg
  dsimp only
  split
  · split <;> simp
  · split
    · split <;> simp
    · simp
theorem apply_f (k : Nat) (ep nx : Int) (l : List S57) (hl : l.length ≤ 900000) (kd id at_ : Int) (hk : 60 ≤ k) : chart_Apply.f k ep nx l kd id at_ = some (applyS ep nx l kd id at_) := by
  unfold chart_Apply.f applyS
  rw [if_pos (by omega), check_f k ep nx l (by omega) hk, Option.bind_some]
  by_cases h1 : checkB ep nx l = true
  case neg => rw [if_neg h1, if_neg h1]
  rw [if_pos h1, if_pos h1]
  by_cases h2 : mayChange kd at_ = true
  case neg => rw [if_neg h2, if_neg h2]
  rw [if_pos h2, if_pos h2]
  unfold chart_place.f
  rw [if_pos (by omega), Option.bind_some]
  generalize ixOf (fun x => decide (x.f0 = id)) l 0 = i
  by_cases h3 : i < 0
  · rw [if_pos h3, if_pos h3]
  rw [if_neg h3, if_neg h3]
  have hc := chg_len nx kd at_ l i.toNat
  generalize chg nx kd at_ l i.toNat = c at hc ⊢
  by_cases h4 : c.2.2 = 0
  case neg => rw [if_neg h4, if_neg h4]
  rw [if_pos h4, if_pos h4, check_f k _ _ _ (by simp only [List.length_append, List.length_take, List.length_drop]; omega) hk, Option.bind_some]
  by_cases h5 : checkB (wrap64 (ep + 1)) (wrap64 (nx + (c.2.1.length : Int))) (l.take i.toNat ++ c.2.1 ++ l.drop (i.toNat + c.1)) = true
  · rw [if_pos h5, if_pos h5]
  · rw [if_neg h5, if_neg h5]
theorem awake8_f (k : Nat) (hk : 60 ≤ k) : splicelaw08_awake.f k = some true :=
  leo_up (fun k => splicelaw08_awake.f k) splicelaw08_awake.mono 60 k true hk (by decide +kernel)

/-! ### owners -/
abbrev rs (x : S55) : S80 := ⟨x.f0, x.f1⟩
theorem rd_maps (l : List S55) (i : Int) : rd_T80 (l.map rs) i = rs (rd_T55 l i) := by
  unfold rd_T80 rd_T55
  rw [List.getD_eq_getElem?_getD, List.getD_eq_getElem?_getD, List.getElem?_map]
  cases l[i.toNat]? <;> rfl
theorem drop_rds (l : List S55) (i : Nat) (h : i < l.length) : l.drop i = rd_T55 l (i : Int) :: l.drop (i + 1) := by
  unfold rd_T55
  rw [Int.toNat_natCast, List.getD_eq_getElem?_getD, List.getElem?_eq_getElem h]; exact List.drop_eq_getElem_cons h
theorem refs3_l0 (l : List S55) (hl : l.length ≤ 1000000) : ∀ (d k i : Nat) (acc : List S80), i + d = l.length → d < k → acc.length ≤ i → splicelaw03_Refs.l0 k l acc (i : Int) = some (acc ++ (l.drop i).map rs) := by
  intro d
  induction d with
  | zero =>
    intro k i acc hi hk ha
    obtain ⟨k, rfl⟩ : ∃ k', k = k' + 1 := ⟨k - 1, by omega⟩
    rw [splicelaw03_Refs.l0, if_neg (by omega), List.drop_eq_nil_of_le (by omega)]
    simp
  | succ d ih =>
    intro k i acc hi hk ha
    obtain ⟨k, rfl⟩ : ∃ k', k = k' + 1 := ⟨k - 1, by omega⟩
    rw [splicelaw03_Refs.l0, if_pos (by omega), if_pos (by omega), if_pos (by omega), w1c i (by omega), ih k (i + 1) _ (by omega) (by omega) (by simp; omega), drop_rds l i (by omega)]
    simp
theorem refs3_f (k : Nat) (l : List S55) (hl : l.length ≤ 1000000) (hk : l.length < k) : splicelaw03_Refs.f k l = some (l.map rs) := by
  have := refs3_l0 l hl l.length k 0 [] (by omega) hk (by simp)
  rw [show ((0 : Nat) : Int) = 0 from rfl] at this
  unfold splicelaw03_Refs.f
  rw [this]; simp
def oneS (x : S55) : Bool := decide (0 ≤ x.f0) && decide (x.f0 < x.f1) && decide (x.f1 ≤ 4096)
theorem one_fs (x : S55) : span_One.f x.f0 x.f1 = some (oneS x) := one_f _ _
theorem refone_fs (x : S55) : spliceref03_One.f x.f0 x.f1 = some (oneS x) := one_f _ _
def sp0 (l : List S55) : Nat → Nat → Bool
  | 0, _ => decide ((l.length : Int) ≤ 64)
  | d + 1, i => oneS (rd_T55 l (i : Int)) && ((decide (i = 0) || !decide ((rd_T55 l (i : Int)).f0 ≤ (rd_T55 l ((i - 1 : Nat) : Int)).f1)) && sp0 l d (i + 1))
theorem spchk_l0 (l : List S55) (hl : l.length ≤ 1000000) : ∀ (d k i : Nat), i + d = l.length → d < k → span_Check.l0 k l l (l.length : Int) (i : Int) = some (sp0 l d i) := by
  intro d
  induction d with
  | zero =>
    intro k i hi hk
    obtain ⟨k, rfl⟩ : ∃ k', k = k' + 1 := ⟨k - 1, by omega⟩
    rw [span_Check.l0, if_neg (by omega)]; rfl
  | succ d ih =>
    intro k i hi hk
    obtain ⟨k, rfl⟩ : ∃ k', k = k' + 1 := ⟨k - 1, by omega⟩
    rw [span_Check.l0, if_pos (by omega), if_pos (by omega), if_pos (by omega), one_fs, Option.bind_some, w1c i (by omega), ih k (i + 1) (by omega) (by omega)]
    simp only [sp0]
    by_cases h1 : oneS (rd_T55 l (i : Int)) = true
    · rw [if_pos h1, h1]
      by_cases h0 : i = 0
      · subst h0; rw [if_neg (by omega)]; simp
      · have ew : wrap64 ((i : Int) - 1) = ((i - 1 : Nat) : Int) := by unfold wrap64; omega
        rw [if_pos (by omega), ew, if_pos (by omega), if_pos (by omega)]
        by_cases h2 : (rd_T55 l (i : Int)).f0 ≤ (rd_T55 l ((i - 1 : Nat) : Int)).f1
        · rw [if_pos h2]; simp [h0, h2]
        · rw [if_neg h2]; simp [h0, h2]
    · rw [if_neg h1, Bool.eq_false_iff.mpr h1]; simp
theorem spcheck_f (k : Nat) (l : List S55) (hl : l.length ≤ 1000000) (hk : l.length < k) : span_Check.f k l = some (sp0 l l.length 0) := by
  have := spchk_l0 l hl l.length k 0 (by omega) hk
  rw [show ((0 : Nat) : Int) = 0 from rfl] at this
  exact this
theorem refspchk_l0 (l : List S55) (hl : l.length ≤ 1000000) : ∀ (d k i : Nat), i + d = l.length → d < k → spliceref03_Check.l0 k (l.map rs) (i : Int) = some (sp0 l d i) := by
  intro d
  induction d with
  | zero =>
    intro k i hi hk
    obtain ⟨k, rfl⟩ : ∃ k', k = k' + 1 := ⟨k - 1, by omega⟩
    rw [spliceref03_Check.l0, List.length_map, if_neg (by omega)]; rfl
  | succ d ih =>
    intro k i hi hk
    obtain ⟨k, rfl⟩ : ∃ k', k = k' + 1 := ⟨k - 1, by omega⟩
    rw [spliceref03_Check.l0, List.length_map, if_pos (by omega), if_pos (by omega), rd_maps, refone_fs (rd_T55 l (i : Int)), Option.bind_some, w1c i (by omega), ih k (i + 1) (by omega) (by omega)]
    simp only [sp0, rd_maps]
    by_cases h1 : oneS (rd_T55 l (i : Int)) = true
    · rw [if_pos h1, h1]
      by_cases h0 : i = 0
      · subst h0; rw [if_neg (by omega)]; simp
      · have ew : wrap64 ((i : Int) - 1) = ((i - 1 : Nat) : Int) := by unfold wrap64; omega
        rw [if_pos (by omega), ew, if_pos (by omega), if_pos (by omega)]
        by_cases h2 : (rd_T55 l (i : Int)).f0 ≤ (rd_T55 l ((i - 1 : Nat) : Int)).f1
        · rw [if_pos h2]; simp [h0, h2]
        · rw [if_neg h2]; simp [h0, h2]
    · rw [if_neg h1, Bool.eq_false_iff.mpr h1]; simp
theorem refspcheck_f (k : Nat) (l : List S55) (hl : l.length ≤ 1000000) (hk : l.length < k) : spliceref03_Check.f k (l.map rs) = some (sp0 l l.length 0) := by
  have := refspchk_l0 l hl l.length k 0 (by omega) hk
  rw [show ((0 : Nat) : Int) = 0 from rfl] at this
  exact this
def ovM (a b : Int) (q : S55) : Bool := decide (mx a q.f0 < mn b q.f1)
theorem both_l1 (x : S55) (keys : List S55) (hl : keys.length ≤ 1000000) (a b : Int) : ∀ (d k i : Nat) (acc : List S55), i + d = keys.length → d + 1 < k → acc.length ≤ i →
    ∃ r, span_both.l1 k keys acc [x] 1 0 keys (keys.length : Int) (i : Int) a b = some r ∧ decide ((r.length : Int) > 0) = (decide ((acc.length : Int) > 0) || (keys.drop i).any (ovM a b)) := by
  intro d
  induction d with
  | zero =>
    intro k i acc hi hk ha
    obtain ⟨k, rfl⟩ : ∃ k', k = k' + 1 + 1 := ⟨k - 2, by omega⟩
    refine ⟨acc, ?_, ?_⟩
    · rw [span_both.l1, if_neg (by omega), span_both.l0, if_neg (by unfold wrap64; omega)]
    · rw [List.drop_eq_nil_of_le (by omega)]; simp
  | succ d ih =>
    intro k i acc hi hk ha
    obtain ⟨k, rfl⟩ : ∃ k', k = k' + 1 := ⟨k - 1, by omega⟩
    rw [span_both.l1, if_pos (by omega), if_pos (by omega), if_pos (by omega), w1c i (by omega), drop_rds keys i (by omega)]
    by_cases h : mx a (rd_T55 keys (i : Int)).f0 < mn b (rd_T55 keys (i : Int)).f1
    · rw [if_pos h, if_pos (by omega)]
      obtain ⟨r, h1, h2⟩ := ih k (i + 1) (acc ++ [⟨mx a (rd_T55 keys (i : Int)).f0, mn b (rd_T55 keys (i : Int)).f1⟩]) (by omega) (by omega) (by simp; omega)
      refine ⟨r, h1, ?_⟩
      rw [h2, decide_eq_true (show (((acc ++ [⟨mx a (rd_T55 keys (i : Int)).f0, mn b (rd_T55 keys (i : Int)).f1⟩] : List S55).length : Nat) : Int) > 0 by simp)]
      simp [ovM, h]
    · rw [if_neg h]
      obtain ⟨r, h1, h2⟩ := ih k (i + 1) acc (by omega) (by omega) (by omega)
      refine ⟨r, h1, ?_⟩
      rw [h2]
      simp [ovM, h]
theorem touch_f (k : Nat) (x : S55) (keys : List S55) (hl : keys.length ≤ 1000000) (hk : keys.length + 10 < k) :
    span_Touch.f k [x] keys = some (oneS x && (sp0 keys keys.length 0 && keys.any (ovM x.f0 x.f1))) := by
  unfold span_Touch.f
  rw [spcheck_f k [x] (by simp) (by simp; omega), Option.bind_some, spcheck_f k keys hl (by omega), Option.bind_some]
  have e1 : sp0 [x] ([x] : List S55).length 0 = oneS x := by simp [sp0, rd_T55]
  rw [e1]
  cases h1 : oneS x
  · rfl
  rw [if_pos rfl]
  cases h2 : sp0 keys keys.length 0
  · rfl
  rw [if_pos rfl]
  obtain ⟨k, rfl⟩ : ∃ k', k = k' + 1 := ⟨k - 1, by omega⟩
  obtain ⟨r, h3, h4⟩ := both_l1 x keys hl x.f0 x.f1 keys.length k 0 [] (by omega) (by omega) (by simp)
  have h5 : span_both.f (k + 1) [x] keys = some r := by
    unfold span_both.f
    rw [span_both.l0, if_pos (by simp), if_pos (by decide), if_pos (by simp)]
    exact h3
  rw [h5, Option.bind_some, h4]; simp
def ovR (x : S57) (q : S55) : Bool := decide (q.f0 < x.f1.f1) && decide (x.f1.f0 < q.f1)
theorem sp0_one (l : List S55) : ∀ (d i : Nat), i + d = l.length → sp0 l d i = true → ∀ q ∈ l.drop i, oneS q = true := by
  intro d
  induction d with
  | zero => intro i hi _ q hq; rw [List.drop_eq_nil_of_le (by omega)] at hq; simp at hq
  | succ d ih =>
    intro i hi h q hq
    simp only [sp0, Bool.and_eq_true] at h
    rw [drop_rds l i (by omega)] at hq
    rcases List.mem_cons.1 hq with rfl | hq
    · exact h.1
    · exact ih (i + 1) (by omega) h.2.2 q hq
theorem any_ov (x : S57) (keys : List S55) (hx : oneS x.f1 = true) (hk : ∀ q ∈ keys, oneS q = true) : keys.any (ovM x.f1.f0 x.f1.f1) = keys.any (ovR x) := by
  induction keys with
  | nil => rfl
  | cons q l ih =>
    simp only [List.any_cons]
    rw [ih (fun q hq => hk q (List.mem_cons_of_mem _ hq))]
    have h1 := hk q List.mem_cons_self
    simp only [oneS, Bool.and_eq_true, decide_eq_true_eq] at h1 hx
    congr 1
    rw [Bool.eq_iff_iff]
    simp only [ovM, ovR, Bool.and_eq_true, decide_eq_true_eq]
    unfold mx mn
    split <;> split <;> omega
/-- the numbers of the shards that have a key of a set -/
def ownS (keys : List S55) (l : List S57) : List Int := (l.filter (fun x => keys.any (ovR x))).map (fun x => x.f0)
theorem owners_l0 (keys : List S55) (hkl : keys.length ≤ 1000000) (hs : sp0 keys keys.length 0 = true) (l : List S57) (hl : l.length ≤ 1000000) (hone : ∀ x ∈ l, oneS x.f1 = true) : ∀ (d k i : Nat) (acc : List Int), i + d = l.length → d + keys.length + 20 < k → acc.length ≤ i →
    chart_Owners.l0 k keys acc l (l.length : Int) (i : Int) = some (acc ++ ownS keys (l.drop i)) := by
  intro d
  induction d with
  | zero =>
    intro k i acc hi hk ha
    obtain ⟨k, rfl⟩ : ∃ k', k = k' + 1 := ⟨k - 1, by omega⟩
    rw [chart_Owners.l0, if_neg (by omega), List.drop_eq_nil_of_le (by omega)]; simp [ownS]
  | succ d ih =>
    intro k i acc hi hk ha
    obtain ⟨k, rfl⟩ : ∃ k', k = k' + 1 := ⟨k - 1, by omega⟩
    have hx : oneS (rd_T57 l (i : Int)).f1 = true := hone _ (by rw [rd_get l i (by omega)]; exact List.getElem_mem _)
    rw [chart_Owners.l0, if_pos (by omega), if_pos (by omega), if_pos (by omega)]
    have ht := touch_f k (rd_T57 l (i : Int)).f1 keys hkl (by omega)
    rw [hx, hs, any_ov _ keys hx (by have := sp0_one keys keys.length 0 (by omega) hs; simpa using this)] at ht
    have ht2 : span_Touch.f k [(⟨(rd_T57 l (i : Int)).f1.f0, (rd_T57 l (i : Int)).f1.f1⟩ : S55)] keys = some (keys.any (ovR (rd_T57 l (i : Int)))) := by refine Eq.trans ht ?_; simp
    rw [ht2, Option.bind_some, w1c i (by omega), drop_rd l i (by omega)]
    by_cases h : keys.any (ovR (rd_T57 l (i : Int))) = true
    · rw [if_pos h, if_pos (by omega), ih k (i + 1) _ (by omega) (by omega) (by simp; omega)]
      simp [ownS, h]
    · rw [if_neg h, ih k (i + 1) acc (by omega) (by omega) (by omega)]
      simp [ownS, h]
theorem owners_bad (keys : List S55) (hkl : keys.length ≤ 1000000) (hs : sp0 keys keys.length 0 = false) (l : List S57) (hl : l.length ≤ 1000000) : ∀ (d k i : Nat), i + d = l.length → d + keys.length + 20 < k →
    chart_Owners.l0 k keys [] l (l.length : Int) (i : Int) = some [] := by
  intro d
  induction d with
  | zero =>
    intro k i hi hk
    obtain ⟨k, rfl⟩ : ∃ k', k = k' + 1 := ⟨k - 1, by omega⟩
    rw [chart_Owners.l0, if_neg (by omega)]
  | succ d ih =>
    intro k i hi hk
    obtain ⟨k, rfl⟩ : ∃ k', k = k' + 1 := ⟨k - 1, by omega⟩
    rw [chart_Owners.l0, if_pos (by omega), if_pos (by omega), if_pos (by omega)]
    have ht := touch_f k (rd_T57 l (i : Int)).f1 keys hkl (by omega)
    have ht2 : span_Touch.f k [(⟨(rd_T57 l (i : Int)).f1.f0, (rd_T57 l (i : Int)).f1.f1⟩ : S55)] keys = some false := by refine Eq.trans ht ?_; rw [hs]; simp
    rw [ht2, Option.bind_some, if_neg (by simp), w1c i (by omega), ih k (i + 1) (by omega) (by omega)]
theorem chain_one (nx : Int) (l : List S57) : ∀ (d i : Nat) (prev : Int), i + d = l.length → chain0 nx l d i prev = true → ∀ x ∈ l.drop i, oneS x.f1 = true := by
  intro d
  induction d with
  | zero => intro i prev hi _ q hq; rw [List.drop_eq_nil_of_le (by omega)] at hq; simp at hq
  | succ d ih =>
    intro i prev hi h q hq
    simp only [chain0, elemB, Bool.and_eq_true] at h
    rw [drop_rd l i (by omega)] at hq
    rcases List.mem_cons.1 hq with rfl | hq
    · have := h.1.1.2; simp only [oneS, Bool.and_eq_true]; exact this
    · exact ih (i + 1) _ (by omega) h.2 q hq
theorem check_one (ep nx : Int) (l : List S57) (h : checkB ep nx l = true) : ∀ x ∈ l, oneS x.f1 = true := by
  simp only [checkB, Bool.and_eq_true] at h
  have := chain_one nx l l.length 0 0 (by omega) h.2.1
  simpa using this
theorem owners_f (k : Nat) (ep nx : Int) (l : List S57) (hl : l.length ≤ 1000000) (keys : List S55) (hkl : keys.length ≤ 1000000) (hk : l.length + keys.length + 60 < k) :
    chart_Owners.f k ep nx l keys = some (if checkB ep nx l = true then (if sp0 keys keys.length 0 = true then ownS keys l else []) else []) := by
  unfold chart_Owners.f
  rw [check_f k ep nx l hl (by omega), Option.bind_some]
  by_cases h : checkB ep nx l = true
  · rw [if_pos h, if_pos h]
    by_cases hs : sp0 keys keys.length 0 = true
    · rw [if_pos hs]
      have := owners_l0 keys hkl hs l hl (check_one ep nx l h) l.length k 0 [] (by omega) (by omega) (by simp)
      rw [show ((0 : Nat) : Int) = 0 from rfl] at this
      rw [this]; simp
    · rw [if_neg hs]
      have := owners_bad keys hkl (Bool.eq_false_iff.mpr hs) l hl l.length k 0 (by omega) (by omega)
      rw [show ((0 : Nat) : Int) = 0 from rfl] at this
      exact this
  · rw [if_neg h, if_neg h]
/-- the shard at a place, or none -/
def atS (l : List S57) (i : Int) : Int × Int × Int × Int × Bool :=
  if i < 0 then (0, 0, 0, 0, false) else ((rd_T57 l i).f0, (rd_T57 l i).f1.f0, (rd_T57 l i).f1.f1, (rd_T57 l i).f2, true)
theorem owner_f (k : Nat) (ep nx : Int) (l : List S57) (hl : l.length ≤ 1000000) (key : Int) (hk : 60 ≤ k) :
    chart_Owner.f k ep nx l key = some (atS l (if checkB ep nx l = true then ixOf (ownP key) l 0 else -1)) := by
  unfold chart_Owner.f
  rw [if_pos (by omega), check_f k ep nx l hl hk, Option.bind_some]
  by_cases h : checkB ep nx l = true
  · rw [if_pos h, if_pos h]
    generalize ixOf (ownP key) l 0 = i
    unfold atS
    by_cases hi : i < 0
    · rw [if_pos hi, if_pos hi]
    · rw [if_neg hi, if_neg hi]
  · rw [if_neg h, if_neg h]; rfl
theorem find_f (k : Nat) (ep nx : Int) (l : List S57) (hl : l.length ≤ 1000000) (id : Int) (hk : 60 ≤ k) :
    chart_Find.f k ep nx l id = some (atS l (if checkB ep nx l = true then ixOf (fun x => decide (x.f0 = id)) l 0 else -1)) := by
  unfold chart_Find.f chart_place.f
  rw [if_pos (by omega), Option.bind_some, check_f k ep nx l hl hk, Option.bind_some]
  have hr := ixOf_range (fun x : S57 => decide (x.f0 = id)) l 0
  generalize ixOf (fun x => decide (x.f0 = id)) l 0 = i at hr ⊢
  unfold atS
  by_cases hi : i < 0
  · rw [if_pos hi]
    by_cases h : checkB ep nx l = true
    · rw [if_pos h, if_pos hi]
    · rw [if_neg h]; rfl
  · rw [if_neg hi]
    by_cases h : checkB ep nx l = true
    · rw [if_pos h, if_pos h, if_neg hi, if_pos (by omega), if_pos (by omega)]
    · rw [if_neg h, if_neg h]; rfl
theorem ixOf_lt (p : S57 → Bool) (l : List S57) : ixOf p l 0 < (l.length : Int) := by
  rcases ixOf_range p l 0 with h | h <;> omega

end Go.Proofs.Ytbhlphadcphapaa.PE
