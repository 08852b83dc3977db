import Derived.Test.YtbhlphadcphapaaPDx0
import Derived.Test.YtbhlphadcphapaaPDx3
import Derived.Test.YtbhlphadcphapaaPDx4
import Derived.Test.YtbhlphadcphapaaPDx5
import Derived.Test.YtbhlphadcphapaaPDx6
import Derived.Test.YtbhlphadcphapaaPDx7
import Derived.Test.YtbhlphadcphapaaPDx8
import Derived.Test.YtbhlphadcphapaaPDx9

namespace Go.Proofs.Ytbhlphadcphapaa.PD
open Go.RowKit Go.Proofs.YtbhlphadcphapaaW.PrintWords Go.Proofs.YtbhlphadcphapaaW.PrintLast Go.Proofs.YtbhlphadcphapaaW.PrintMore
set_option linter.unusedVariables false
set_option linter.unusedSimpArgs false


/-! ### the document's shards, and which charts may be -/
theorem w1c (i : Nat) (h : i < 1000000000) : wrap64 ((i : Int) + 1) = ((i + 1 : Nat) : Int) := by unfold wrap64; omega
theorem leo_up {α : Type} (f : Nat → Option α) (hf : ∀ k, LeO (f k) (f (k + 1))) (a b : Nat) (r : α) (hab : a ≤ b) (h : f a = some r) : f b = some r := by
  obtain ⟨d, rfl⟩ := Nat.exists_eq_add_of_le hab
  induction d with
  | zero => exact h
  | succ d ih => exact hf _ _ (ih (by omega))
abbrev rf (x : S57) : S82 := ⟨x.f0, ⟨x.f1.f0, x.f1.f1⟩, x.f2⟩
theorem rd_map (l : List S57) (i : Int) : rd_T82 (l.map rf) i = rf (rd_T57 l i) := by
  unfold rd_T82 rd_T57
  rw [List.getD_eq_getElem?_getD, List.getD_eq_getElem?_getD, List.getElem?_map]
  cases l[i.toNat]? <;> rfl
theorem rd_get (l : List S57) (i : Nat) (h : i < l.length) : rd_T57 l (i : Int) = l[i] := by
  unfold rd_T57
  rw [Int.toNat_natCast, List.getD_eq_getElem?_getD, List.getElem?_eq_getElem h]; rfl
theorem drop_rd (l : List S57) (i : Nat) (h : i < l.length) : l.drop i = rd_T57 l (i : Int) :: l.drop (i + 1) := by
  rw [rd_get l i h]; exact List.drop_eq_getElem_cons h
def elemB (nx prev : Int) (x : S57) : Bool :=
  !decide (x.f0 < 1) && !decide (x.f0 ≥ nx) && (decide (0 ≤ x.f2) && decide (x.f2 < 5)) && (decide (0 ≤ x.f1.f0) && decide (x.f1.f0 < x.f1.f1) && decide (x.f1.f1 ≤ 4096)) && decide (x.f1.f0 = prev)
def uniqB (l : List S57) (i : Nat) : Bool := !(l.take i).any (fun o => decide (o.f0 = (rd_T57 l (i : Int)).f0))
/-- the elements from i on (d of them), each held against the one ahead of it -/
def chain0 (nx : Int) (l : List S57) : Nat → Nat → Int → Bool
  | 0, _, prev => decide (prev = 4096)
  | d + 1, i, prev => elemB nx prev (rd_T57 l (i : Int)) && chain0 nx l d (i + 1) (rd_T57 l (i : Int)).f1.f1
def headB (ep nx : Int) (l : List S57) : Bool :=
  !decide (ep < 1) && !decide (ep > 1073741824) && !decide (nx < 1) && !decide (nx > 65537) && !decide ((l.length : Int) < 1) && !decide ((l.length : Int) > 24)
def checkB (ep nx : Int) (l : List S57) : Bool := headB ep nx l && (chain0 nx l l.length 0 0 && onceF l l.length 0)
theorem one_f (a b : Int) : span_One.f a b = some (decide (0 ≤ a) && decide (a < b) && decide (b ≤ 4096)) := by
  unfold span_One.f
  by_cases h1 : a ≥ 0
  · rw [if_pos h1, decide_eq_true (show 0 ≤ a from h1)]
    by_cases h2 : a < b
    · rw [if_pos h2, decide_eq_true h2]; simp
    · rw [if_neg h2, decide_eq_false h2]; simp
  · rw [if_neg h1, decide_eq_false (show ¬ 0 ≤ a from h1)]; simp
theorem refone_f (a b : Int) : spliceref03_One.f a b = some (decide (0 ≤ a) && decide (a < b) && decide (b ≤ 4096)) := one_f a b
theorem node_f' (a : Int) : chart_node.f a = some (decide (0 ≤ a) && decide (a < 5)) := by
  unfold chart_node.f
  by_cases h1 : a ≥ 0
  · rw [if_pos h1, decide_eq_true (show 0 ≤ a from h1)]; simp
  · rw [if_neg h1, decide_eq_false (show ¬ 0 ≤ a from h1)]; simp
theorem chk_l0 (ep nx : Int) (l : List S57) (hl : l.length ≤ 1000000) : ∀ (d k i : Nat) (prev : Int), i + d = l.length → d < k →
    chart_Check.l0 k prev l (l.length : Int) (i : Int) ep nx l = some (chain0 nx l d i prev && onceF l l.length 0) := by
  intro d
  induction d with
  | zero =>
    intro k i prev hi hk
    obtain ⟨k, rfl⟩ : ∃ k', k = k' + 1 := ⟨k - 1, by omega⟩
    rw [chart_Check.l0, if_neg (by omega)]
    by_cases hp : prev = 4096
    · rw [if_pos hp]
      unfold chart_once.f
      rw [if_pos (by omega)]
      simp [chain0, hp]
    · rw [if_neg hp]
      simp [chain0, hp]
  | succ d ih =>
    intro k i prev hi hk
    obtain ⟨k, rfl⟩ : ∃ k', k = k' + 1 := ⟨k - 1, by omega⟩
    rw [chart_Check.l0, if_pos (by omega), if_pos (by omega), if_pos (by omega)]
    simp only [chain0, elemB]
    generalize hx : rd_T57 l (i : Int) = x
    by_cases h1 : x.f0 < 1
    · rw [if_pos h1]; simp [h1]
    rw [if_neg h1]
    by_cases h2 : x.f0 ≥ nx
    · rw [if_pos h2]; simp [h2]
    rw [if_neg h2, node_f', Option.bind_some]
    by_cases h3 : (decide (0 ≤ x.f2) && decide (x.f2 < 5)) = true
    case neg => rw [if_neg h3]; simp only [Bool.not_eq_true] at h3; simp [h3]
    rw [if_pos h3, one_f, Option.bind_some]
    by_cases h4 : (decide (0 ≤ x.f1.f0) && decide (x.f1.f0 < x.f1.f1) && decide (x.f1.f1 ≤ 4096)) = true
    case neg => rw [if_neg h4]; simp only [Bool.not_eq_true] at h4; simp only [h3, h4]; simp
    rw [if_pos h4]
    by_cases h5 : x.f1.f0 = prev
    · rw [if_pos h5, w1c i (by omega), ih k (i + 1) _ (by omega) (by omega)]
      simp only [h3, h4, decide_eq_false h1, decide_eq_false h2, decide_eq_true h5]; simp
    · rw [if_neg h5]; simp only [decide_eq_false h5]; simp
theorem check_f (k : Nat) (ep nx : Int) (l : List S57) (hl : l.length ≤ 1000000) (hk : 60 ≤ k) : chart_Check.f k ep nx l = some (checkB ep nx l) := by
  have hj0 : ∀ b : Bool, (b = false → l.length ≤ 24) → chart_Check.j0 k b ep nx l = some (!b && (chain0 nx l l.length 0 0 && onceF l l.length 0)) := by
    intro b hb
    obtain ⟨k, rfl⟩ : ∃ k', k = k' + 1 := ⟨k - 1, by omega⟩
    rw [chart_Check.j0]
    cases b
    · rw [if_neg (by simp)]
      have := chk_l0 ep nx l hl l.length k 0 0 (by omega) (by have := hb rfl; omega)
      rw [show ((0 : Nat) : Int) = 0 from rfl] at this
      rw [this]; simp
    · rw [if_pos rfl]; rfl
  unfold chart_Check.f checkB headB
  by_cases h1 : ep < 1
  · rw [if_pos h1, hj0 true (by simp), decide_eq_true h1]; rfl
  rw [if_neg h1, decide_eq_false h1]
  by_cases h2 : ep > 1073741824
  · rw [if_pos h2, hj0 true (by simp), decide_eq_true h2]; rfl
  rw [if_neg h2, decide_eq_false h2]
  by_cases h3 : nx < 1
  · rw [if_pos h3, hj0 true (by simp), decide_eq_true h3]; rfl
  rw [if_neg h3, decide_eq_false h3]
  by_cases h4 : nx > 65537
  · rw [if_pos h4, hj0 true (by simp), decide_eq_true h4]; rfl
  rw [if_neg h4, decide_eq_false h4]
  by_cases h5 : (l.length : Int) < 1
  · rw [if_pos h5, hj0 true (by simp), decide_eq_true h5]; rfl
  rw [if_neg h5, decide_eq_false h5, hj0 _ (by intro h; have := of_decide_eq_false h; omega)]
  simp
/-! ### the document's Check -/
theorem refchk_l1 (n ep nx : Int) (l : List S57) (hl : l.length ≤ 1000000) (i : Nat) (hi : i < l.length) (id a b c : Int) : ∀ (e k m : Nat), m + e = i →
    spliceref08_Check.l1 (k + e + 1) n (i : Int) (m : Int) ep nx (l.map rf) id a b c = if ((l.drop m).take e).any (fun o => decide (o.f0 = id)) = true then some false else spliceref08_Check.l0 k n ((i + 1 : Nat) : Int) ep nx (l.map rf) := by
  intro e
  induction e with
  | zero =>
    intro k m hm
    rw [show k + 0 + 1 = k + 1 from rfl, spliceref08_Check.l1, if_neg (by omega), w1c i (by omega)]
    rfl
  | succ e ih =>
    intro k m hm
    rw [show k + (e + 1) + 1 = (k + e + 1) + 1 by omega, spliceref08_Check.l1, if_pos (by omega), if_pos (by omega), if_pos (by rw [List.length_map]; omega), rd_map, w1c m (by omega), ih k (m + 1) (by omega), drop_rd l m (by omega)]
    simp only [List.take_succ_cons, List.any_cons, rf]
    by_cases h : (rd_T57 l (m : Int)).f0 = id
    · rw [if_pos h]; simp [h]
    · rw [if_neg h]; simp [h]
theorem refchk_j3 (n ep nx : Int) (l : List S57) (hl : l.length ≤ 1000000) (i : Nat) (hi : i < l.length) (id a b c : Int) (k : Nat) (q : Bool) :
    spliceref08_Check.j3 (k + i + 2) n (i : Int) q ep nx (l.map rf) id a b c = if q = true then some false else if (l.take i).any (fun o => decide (o.f0 = id)) = true then some false else spliceref08_Check.l0 k n ((i + 1 : Nat) : Int) ep nx (l.map rf) := by
  rw [show k + i + 2 = (k + i + 1) + 1 by omega, spliceref08_Check.j3]
  have := refchk_l1 n ep nx l hl i hi id a b c i k 0 (by omega)
  rw [show ((0 : Nat) : Int) = 0 from rfl] at this
  rw [this]; rfl
theorem refchk_j2 (n ep nx : Int) (l : List S57) (hl : l.length ≤ 1000000) (i : Nat) (hi : i < l.length) (id a b c prev : Int) (hp : prev = if i = 0 then 0 else (rd_T57 l ((i - 1 : Nat) : Int)).f1.f1) (k : Nat) (q : Bool) :
    spliceref08_Check.j2 (k + i + 3) n (i : Int) q ep nx (l.map rf) id a b c = if q = true then some false else if a = prev then (if (l.take i).any (fun o => decide (o.f0 = id)) = true then some false else spliceref08_Check.l0 k n ((i + 1 : Nat) : Int) ep nx (l.map rf)) else some false := by
  rw [show k + i + 3 = (k + i + 2) + 1 by omega, spliceref08_Check.j2]
  cases q with
  | true => rfl
  | false =>
    simp only [Bool.false_eq_true, if_false]
    by_cases h0 : i = 0
    · subst h0
      rw [if_pos rfl] at hp
      subst hp
      rw [show ((0 : Nat) : Int) = 0 from rfl, if_pos (by rfl)]
      have e3 := fun q => refchk_j3 n ep nx l hl 0 hi id a b c k q
      rw [show ((0 : Nat) : Int) = 0 from rfl] at e3
      by_cases ha : a = 0
      · rw [if_pos ha, if_neg (by omega), e3, if_pos ha]; rfl
      · rw [if_neg ha, e3, if_neg ha]; rfl
    · rw [if_neg h0] at hp
      have ew : wrap64 ((i : Int) - 1) = ((i - 1 : Nat) : Int) := by unfold wrap64; omega
      rw [if_neg (by omega), if_pos (by omega), ew, if_pos (by omega), if_pos (by rw [List.length_map]; omega), rd_map, refchk_j3 n ep nx l hl i hi, hp]
      by_cases ha : a = (rd_T57 l ((i - 1 : Nat) : Int)).f1.f1
      · rw [if_pos ha, if_neg (by simp [rf, ha])]
      · rw [if_neg ha, if_pos (by simp [rf, ha])]
def chainU (nx : Int) (l : List S57) : Nat → Nat → Int → Bool
  | 0, _, prev => decide (prev = 4096)
  | d + 1, i, prev => elemB nx prev (rd_T57 l (i : Int)) && (!(l.take i).any (fun o => decide (o.f0 = (rd_T57 l (i : Int)).f0)) && chainU nx l d (i + 1) (rd_T57 l (i : Int)).f1.f1)
theorem chainU_eq (nx : Int) (l : List S57) : ∀ d i prev, chainU nx l d i prev = (chain0 nx l d i prev && onceF l d i) := by
  intro d
  induction d with
  | zero => intro i prev; simp [chainU, chain0, onceF]
  | succ d ih =>
    intro i prev
    simp only [chainU, chain0, onceF]
    rw [ih]
    cases (l.take i).any (fun o => decide (o.f0 = (rd_T57 l (i : Int)).f0)) <;> simp [Bool.and_assoc]
theorem refchk_l0 (ep nx : Int) (l : List S57) (hl : l.length ≤ 24) (h1 : 1 ≤ l.length) : ∀ (d k i : Nat) (prev : Int), i + d = l.length → d * 30 < k → (prev = if i = 0 then 0 else (rd_T57 l ((i - 1 : Nat) : Int)).f1.f1) →
    spliceref08_Check.l0 k (l.length : Int) (i : Int) ep nx (l.map rf) = some (chainU nx l d i prev) := by
  intro d
  induction d with
  | zero =>
    intro k i prev hi hk hp
    obtain ⟨k, rfl⟩ : ∃ k', k = k' + 1 := ⟨k - 1, by omega⟩
    have ew : wrap64 ((l.length : Int) - 1) = ((l.length - 1 : Nat) : Int) := by unfold wrap64; omega
    rw [spliceref08_Check.l0, if_neg (by omega), ew, if_pos (by omega), if_pos (by rw [List.length_map]; omega), rd_map]
    have : i = l.length := by omega
    subst this
    rw [if_neg (by omega)] at hp
    simp only [chainU, hp, rf]
    congr 1
  | succ d ih =>
    intro k i prev hi hk hp
    obtain ⟨k, rfl⟩ : ∃ k', k = (k' + i + 3) + 1 := ⟨k - i - 4, by omega⟩
    have hi2 : i < l.length := by omega
    rw [spliceref08_Check.l0, if_pos (by omega), if_pos (by omega), if_pos (by rw [List.length_map]; omega)]
    simp only [rd_map]
    have hj := fun q => refchk_j2 (l.length : Int) ep nx l (by omega) i hi2 (rf (rd_T57 l (i : Int))).f0 (rf (rd_T57 l (i : Int))).f1.f0 (rf (rd_T57 l (i : Int))).f1.f1 (rf (rd_T57 l (i : Int))).f2 prev hp k q
    have hn := ih k (i + 1) (rd_T57 l (i : Int)).f1.f1 (by omega) (by omega) (by rw [if_neg (by omega)]; rfl)
    simp only [hj, hn, chainU]
    generalize hx : rd_T57 l (i : Int) = x
    simp only [rf, elemB]
    by_cases c1 : x.f0 < 1
    · rw [if_pos c1]; simp [c1]
    rw [if_neg c1]
    by_cases c2 : x.f0 ≥ nx
    · rw [if_pos c2]; simp [c2]
    rw [if_neg c2]
    by_cases c3 : x.f2 < 0
    · rw [if_pos c3]; simp; omega
    rw [if_neg c3]
    by_cases c4 : x.f2 > 4
    · rw [if_pos c4]; simp; omega
    rw [if_neg c4, refone_f, Option.bind_some]
    have c34 : (decide (0 ≤ x.f2) && decide (x.f2 < 5)) = true := by rw [decide_eq_true (by omega), decide_eq_true (by omega)]; rfl
    simp only [decide_eq_false c1, decide_eq_false c2, c34]
    cases (decide (0 ≤ x.f1.f0) && decide (x.f1.f0 < x.f1.f1) && decide (x.f1.f1 ≤ 4096))
    · simp
    · by_cases c5 : x.f1.f0 = prev
      · simp only [decide_eq_true c5, if_pos c5]
        cases (l.take i).any (fun o => decide (o.f0 = x.f0)) <;> simp
      · simp only [decide_eq_false c5, if_neg c5]; simp
theorem refcheck_f (k : Nat) (ep nx : Int) (l : List S57) (hl : l.length ≤ 1000000) (hk : 800 ≤ k) : spliceref08_Check.f k ep nx (l.map rf) = some (checkB ep nx l) := by
  have hj0 : ∀ b : Bool, (b = false → l.length ≤ 24 ∧ 1 ≤ l.length) → spliceref08_Check.j0 k (l.length : Int) b ep nx (l.map rf) = some (!b && (chain0 nx l l.length 0 0 && onceF l l.length 0)) := by
    intro b hb
    obtain ⟨k, rfl⟩ : ∃ k', k = k' + 1 := ⟨k - 1, by omega⟩
    rw [spliceref08_Check.j0]
    cases b
    · rw [if_neg (by simp)]
      have := refchk_l0 ep nx l (hb rfl).1 (hb rfl).2 l.length k 0 0 (by omega) (by have := (hb rfl).1; omega) rfl
      rw [show ((0 : Nat) : Int) = 0 from rfl] at this
      rw [this, chainU_eq]; simp
    · rw [if_pos rfl]; rfl
  unfold spliceref08_Check.f checkB headB
  rw [List.length_map]
  by_cases h1 : ep < 1
  · rw [if_pos h1, hj0 true (by simp), decide_eq_true h1]; rfl
  rw [if_neg h1, decide_eq_false h1]
  by_cases h2 : ep > 1073741824
  · rw [if_pos h2, hj0 true (by simp), decide_eq_true h2]; rfl
  rw [if_neg h2, decide_eq_false h2]
  by_cases h3 : nx < 1
  · rw [if_pos h3, hj0 true (by simp), decide_eq_true h3]; rfl
  rw [if_neg h3, decide_eq_false h3]
  by_cases h4 : nx > 65537
  · rw [if_pos h4, hj0 true (by simp), decide_eq_true h4]; rfl
  rw [if_neg h4, decide_eq_false h4]
  by_cases h5 : (l.length : Int) < 1
  · rw [if_pos h5, hj0 true (by simp), decide_eq_true h5]; rfl
  rw [if_neg h5, decide_eq_false h5, hj0 _ (by intro h; have := of_decide_eq_false h; omega)]
  simp
/-! ### Refs, Same, Find, Apply -/
theorem refs_l0 (l : List S57) (hl : l.length ≤ 1000000) : ∀ (d k i : Nat) (acc : List S82), i + d = l.length → d < k → acc.length ≤ i → splicelaw08_Refs.l0 k l acc (i : Int) = some (acc ++ (l.drop i).map rf) := by
  intro d
  induction d with
  | zero =>
    intro k i acc hi hk ha
    obtain ⟨k, rfl⟩ : ∃ k', k = k' + 1 := ⟨k - 1, by omega⟩
    rw [splicelaw08_Refs.l0, if_neg (by omega), List.drop_eq_nil_of_le (by omega)]
    simp
  | succ d ih =>
    intro k i acc hi hk ha
    obtain ⟨k, rfl⟩ : ∃ k', k = k' + 1 := ⟨k - 1, by omega⟩
    rw [splicelaw08_Refs.l0, if_pos (by omega), if_pos (by omega), if_pos (by omega), w1c i (by omega), ih k (i + 1) _ (by omega) (by omega) (by simp; omega), drop_rd l i (by omega)]
    simp [rf]
theorem refs_f (k : Nat) (l : List S57) (hl : l.length ≤ 1000000) (hk : l.length < k) : splicelaw08_Refs.f k l = some (l.map rf) := by
  have := refs_l0 l hl l.length k 0 [] (by omega) hk (by simp)
  rw [show ((0 : Nat) : Int) = 0 from rfl] at this
  unfold splicelaw08_Refs.f
  rw [this]; simp
theorem ref_f (k : Nat) (a b : Int) (l : List S57) (hl : l.length ≤ 1000000) (hk : l.length < k) : splicelaw08_Ref.f k a b l = some (a, b, l.map rf) := by
  unfold splicelaw08_Ref.f
  rw [refs_f k l hl hk]; rfl
theorem samelist_l0 (l : List S82) (hl : l.length ≤ 1000000) : ∀ (d k i : Nat), i + d = l.length → d < k → spliceref08_SameList.l0 k l l (i : Int) = some true := by
  intro d
  induction d with
  | zero =>
    intro k i hi hk
    obtain ⟨k, rfl⟩ : ∃ k', k = k' + 1 := ⟨k - 1, by omega⟩
    rw [spliceref08_SameList.l0, if_neg (by omega)]
  | succ d ih =>
    intro k i hi hk
    obtain ⟨k, rfl⟩ : ∃ k', k = k' + 1 := ⟨k - 1, by omega⟩
    rw [spliceref08_SameList.l0, if_pos (by omega), if_pos (by omega), if_pos (by omega), if_neg (by simp), w1c i (by omega), ih k (i + 1) (by omega) (by omega)]
theorem samelist_f (k : Nat) (l : List S82) (hl : l.length ≤ 1000000) (hk : l.length < k) : spliceref08_SameList.f k l l = some true := by
  have := samelist_l0 l hl l.length k 0 (by omega) hk
  rw [show ((0 : Nat) : Int) = 0 from rfl] at this
  unfold spliceref08_SameList.f
  rw [if_pos rfl, this]
theorem same_f (k : Nat) (a b : Int) (l : List S82) (hl : l.length ≤ 1000000) (hk : l.length < k) : spliceref08_Same.f k a b l a b l = some true := by
  unfold spliceref08_Same.f
  rw [if_pos rfl, if_pos rfl, samelist_f k l hl hk]; rfl
theorem find_l0 (ep nx : Int) (l : List S57) (hl : l.length ≤ 1000000) (id : Int) : ∀ (d k i : Nat), i + d = l.length → d + 900 < k →
    spliceref08_Find.l0 k id (i : Int) ep nx (l.map rf) = some (if checkB ep nx l = true then ixOf (fun x => decide (x.f0 = id)) (l.drop i) i else -1) := by
  intro d
  induction d with
  | zero =>
    intro k i hi hk
    obtain ⟨k, rfl⟩ : ∃ k', k = k' + 1 := ⟨k - 1, by omega⟩
    rw [spliceref08_Find.l0, if_neg (by rw [List.length_map]; omega), List.drop_eq_nil_of_le (by omega)]
    simp [ixOf]
  | succ d ih =>
    intro k i hi hk
    obtain ⟨k, rfl⟩ : ∃ k', k = k' + 1 := ⟨k - 1, by omega⟩
    rw [spliceref08_Find.l0, if_pos (by rw [List.length_map]; omega), refcheck_f k ep nx l hl (by omega), Option.bind_some, w1c i (by omega), ih k (i + 1) (by omega) (by omega)]
    by_cases hc : checkB ep nx l = true
    · rw [if_pos hc, if_pos (by omega), rd_map, drop_rd l i (by omega)]
      simp only [ixOf, rf, if_pos hc]
      by_cases hx : (rd_T57 l (i : Int)).f0 = id
      · rw [if_pos hx, if_pos (decide_eq_true hx)]
      · rw [if_neg hx, if_neg (by simp [hx])]
    · rw [if_neg hc, if_neg hc, if_neg hc]
theorem reffind_f (k : Nat) (ep nx : Int) (l : List S57) (hl : l.length ≤ 1000000) (id : Int) (hk : l.length + 900 < k) :
    spliceref08_Find.f k ep nx (l.map rf) id = some (if checkB ep nx l = true then ixOf (fun x => decide (x.f0 = id)) l 0 else -1) := by
  have := find_l0 ep nx l hl id l.length k 0 (by omega) hk
  rw [show ((0 : Nat) : Int) = 0 from rfl] at this
  unfold spliceref08_Find.f
  rw [this]; rfl
/-- what both Apply answer -/
def applyS (ep nx : Int) (l : List S57) (kd id at_ : Int) : Int × Int × List S57 × List S57 × List S57 × Int :=
  if checkB ep nx l = true then
    if mayChange kd at_ = true then
      if ixOf (fun x => decide (x.f0 = id)) l 0 < 0 then (0, 0, [], [], [], 4)
      else if (chg nx kd at_ l (ixOf (fun x => decide (x.f0 = id)) l 0).toNat).2.2 = 0 then
        if checkB (wrap64 (ep + 1)) (wrap64 (nx + ((chg nx kd at_ l (ixOf (fun x => decide (x.f0 = id)) l 0).toNat).2.1.length : Int))) (l.take (ixOf (fun x => decide (x.f0 = id)) l 0).toNat ++ (chg nx kd at_ l (ixOf (fun x => decide (x.f0 = id)) l 0).toNat).2.1 ++ l.drop ((ixOf (fun x => decide (x.f0 = id)) l 0).toNat + (chg nx kd at_ l (ixOf (fun x => decide (x.f0 = id)) l 0).toNat).1)) = true then
          (wrap64 (ep + 1), wrap64 (nx + ((chg nx kd at_ l (ixOf (fun x => decide (x.f0 = id)) l 0).toNat).2.1.length : Int)), l.take (ixOf (fun x => decide (x.f0 = id)) l 0).toNat ++ (chg nx kd at_ l (ixOf (fun x => decide (x.f0 = id)) l 0).toNat).2.1 ++ l.drop ((ixOf (fun x => decide (x.f0 = id)) l 0).toNat + (chg nx kd at_ l (ixOf (fun x => decide (x.f0 = id)) l 0).toNat).1), (l.drop (ixOf (fun x => decide (x.f0 = id)) l 0).toNat).take (chg nx kd at_ l (ixOf (fun x => decide (x.f0 = id)) l 0).toNat).1, (chg nx kd at_ l (ixOf (fun x => decide (x.f0 = id)) l 0).toNat).2.1, 0)
        else (0, 0, [], [], [], 2)
      else (0, 0, [], [], [], (chg nx kd at_ l (ixOf (fun x => decide (x.f0 = id)) l 0).toNat).2.2)
    else (0, 0, [], [], [], 1)
  else (0, 0, [], [], [], 1)
theorem chg_len (nx kd at_ : Int) (l : List S57) (i : Nat) : (chg nx kd at_ l i).2.1.length ≤ 2 := by
  unfold chg
  dsimp only
  split
  · split <;> simp
  · split
    · split <;> simp
    · simp
theorem apply_f (k : Nat) (ep nx : Int) (l : List S57) (hl : l.length ≤ 900000) (kd id at_ : Int) (hk : 60 ≤ k) : chart_Apply.f k ep nx l kd id at_ = some (applyS ep nx l kd id at_) := by
  unfold chart_Apply.f applyS
  rw [if_pos (by omega), check_f k ep nx l (by omega) hk, Option.bind_some]
  by_cases h1 : checkB ep nx l = true
  case neg => rw [if_neg h1, if_neg h1]
  rw [if_pos h1, if_pos h1]
  by_cases h2 : mayChange kd at_ = true
  case neg => rw [if_neg h2, if_neg h2]
  rw [if_pos h2, if_pos h2]
  unfold chart_place.f
  rw [if_pos (by omega), Option.bind_some]
  generalize ixOf (fun x => decide (x.f0 = id)) l 0 = i
  by_cases h3 : i < 0
  · rw [if_pos h3, if_pos h3]
  rw [if_neg h3, if_neg h3]
  have hc := chg_len nx kd at_ l i.toNat
  generalize chg nx kd at_ l i.toNat = c at hc ⊢
  by_cases h4 : c.2.2 = 0
  case neg => rw [if_neg h4, if_neg h4]
  rw [if_pos h4, if_pos h4, check_f k _ _ _ (by simp only [List.length_append, List.length_take, List.length_drop]; omega) hk, Option.bind_some]
  by_cases h5 : checkB (wrap64 (ep + 1)) (wrap64 (nx + (c.2.1.length : Int))) (l.take i.toNat ++ c.2.1 ++ l.drop (i.toNat + c.1)) = true
  · rw [if_pos h5, if_pos h5]
  · rw [if_neg h5, if_neg h5]
theorem awake8_f (k : Nat) (hk : 60 ≤ k) : splicelaw08_awake.f k = some true :=
  leo_up (fun k => splicelaw08_awake.f k) splicelaw08_awake.mono 60 k true hk (by decide +kernel)

end Go.Proofs.Ytbhlphadcphapaa.PD
