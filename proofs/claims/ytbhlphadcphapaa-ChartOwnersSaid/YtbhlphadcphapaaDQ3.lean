import Derived.Test.YtbhlphadcphapaaPDx0
import Derived.Test.YtbhlphadcphapaaPDx13
import Derived.Test.YtbhlphadcphapaaPDx14
import Derived.Test.YtbhlphadcphapaaPDx15
import Derived.Test.YtbhlphadcphapaaPDx16
import Derived.Test.YtbhlphadcphapaaPDx17
import Derived.Test.YtbhlphadcphapaaPDx3
import Derived.Test.YtbhlphadcphapaaPDx4
import Derived.Test.YtbhlphadcphapaaPDx6
import Derived.Test.YtbhlphadcphapaaPDx7
import Derived.Test.YtbhlphadcphapaaDQ1
namespace Go.Proofs.Ytbhlphadcphapaa.PD
open Go.RowKit Go.Proofs.YtbhlphadcphapaaW.PrintWords Go.Proofs.YtbhlphadcphapaaW.PrintLast Go.Proofs.YtbhlphadcphapaaW.PrintMore
set_option linter.unusedVariables false
set_option linter.unusedSimpArgs false


/-! ### owners -/
abbrev rs (x : S55) : S80 := ⟨x.f0, x.f1⟩
theorem rd_maps (l : List S55) (i : Int) : rd_T80 (l.map rs) i = rs (rd_T55 l i) := by
  unfold rd_T80 rd_T55
  rw [List.getD_eq_getElem?_getD, List.getD_eq_getElem?_getD, List.getElem?_map]
  cases l[i.toNat]? <;> rfl
theorem drop_rds (l : List S55) (i : Nat) (h : i < l.length) : l.drop i = rd_T55 l (i : Int) :: l.drop (i + 1) := by
  unfold rd_T55
  rw [Int.toNat_natCast, List.getD_eq_getElem?_getD, List.getElem?_eq_getElem h]; exact List.drop_eq_getElem_cons h
theorem refs3_l0 (l : List S55) (hl : l.length ≤ 1000000) : ∀ (d k i : Nat) (acc : List S80), i + d = l.length → d < k → acc.length ≤ i → splicelaw03_Refs.l0 k l acc (i : Int) = some (acc ++ (l.drop i).map rs) := by
  intro d
  induction d with
  | zero =>
    intro k i acc hi hk ha
    obtain ⟨k, rfl⟩ : ∃ k', k = k' + 1 := ⟨k - 1, by omega⟩
    rw [splicelaw03_Refs.l0, if_neg (by omega), List.drop_eq_nil_of_le (by omega)]
    simp
  | succ d ih =>
    intro k i acc hi hk ha
    obtain ⟨k, rfl⟩ : ∃ k', k = k' + 1 := ⟨k - 1, by omega⟩
    rw [splicelaw03_Refs.l0, if_pos (by omega), if_pos (by omega), if_pos (by omega), w1c i (by omega), ih k (i + 1) _ (by omega) (by omega) (by simp; omega), drop_rds l i (by omega)]
    simp
theorem refs3_f (k : Nat) (l : List S55) (hl : l.length ≤ 1000000) (hk : l.length < k) : splicelaw03_Refs.f k l = some (l.map rs) := by
  have := refs3_l0 l hl l.length k 0 [] (by omega) hk (by simp)
  rw [show ((0 : Nat) : Int) = 0 from rfl] at this
  unfold splicelaw03_Refs.f
  rw [this]; simp
def oneS (x : S55) : Bool := decide (0 ≤ x.f0) && decide (x.f0 < x.f1) && decide (x.f1 ≤ 4096)
theorem one_fs (x : S55) : span_One.f x.f0 x.f1 = some (oneS x) := one_f _ _
theorem refone_fs (x : S55) : spliceref03_One.f x.f0 x.f1 = some (oneS x) := one_f _ _
def sp0 (l : List S55) : Nat → Nat → Bool
  | 0, _ => decide ((l.length : Int) ≤ 64)
  | d + 1, i => oneS (rd_T55 l (i : Int)) && ((decide (i = 0) || !decide ((rd_T55 l (i : Int)).f0 ≤ (rd_T55 l ((i - 1 : Nat) : Int)).f1)) && sp0 l d (i + 1))
theorem spchk_l0 (l : List S55) (hl : l.length ≤ 1000000) : ∀ (d k i : Nat), i + d = l.length → d < k → span_Check.l0 k l l (l.length : Int) (i : Int) = some (sp0 l d i) := by
  intro d
  induction d with
  | zero =>
    intro k i hi hk
    obtain ⟨k, rfl⟩ : ∃ k', k = k' + 1 := ⟨k - 1, by omega⟩
    rw [span_Check.l0, if_neg (by omega)]; rfl
  | succ d ih =>
    intro k i hi hk
    obtain ⟨k, rfl⟩ : ∃ k', k = k' + 1 := ⟨k - 1, by omega⟩
    rw [span_Check.l0, if_pos (by omega), if_pos (by omega), if_pos (by omega), one_fs, Option.bind_some, w1c i (by omega), ih k (i + 1) (by omega) (by omega)]
    simp only [sp0]
    by_cases h1 : oneS (rd_T55 l (i : Int)) = true
    · rw [if_pos h1, h1]
      by_cases h0 : i = 0
      · subst h0; rw [if_neg (by omega)]; simp
      · have ew : wrap64 ((i : Int) - 1) = ((i - 1 : Nat) : Int) := by unfold wrap64; omega
        rw [if_pos (by omega), ew, if_pos (by omega), if_pos (by omega)]
        by_cases h2 : (rd_T55 l (i : Int)).f0 ≤ (rd_T55 l ((i - 1 : Nat) : Int)).f1
        · rw [if_pos h2]; simp [h0, h2]
        · rw [if_neg h2]; simp [h0, h2]
    · rw [if_neg h1, Bool.eq_false_iff.mpr h1]; simp
theorem spcheck_f (k : Nat) (l : List S55) (hl : l.length ≤ 1000000) (hk : l.length < k) : span_Check.f k l = some (sp0 l l.length 0) := by
  have := spchk_l0 l hl l.length k 0 (by omega) hk
  rw [show ((0 : Nat) : Int) = 0 from rfl] at this
  exact this
theorem refspchk_l0 (l : List S55) (hl : l.length ≤ 1000000) : ∀ (d k i : Nat), i + d = l.length → d < k → spliceref03_Check.l0 k (l.map rs) (i : Int) = some (sp0 l d i) := by
  intro d
  induction d with
  | zero =>
    intro k i hi hk
    obtain ⟨k, rfl⟩ : ∃ k', k = k' + 1 := ⟨k - 1, by omega⟩
    rw [spliceref03_Check.l0, List.length_map, if_neg (by omega)]; rfl
  | succ d ih =>
    intro k i hi hk
    obtain ⟨k, rfl⟩ : ∃ k', k = k' + 1 := ⟨k - 1, by omega⟩
    rw [spliceref03_Check.l0, List.length_map, if_pos (by omega), if_pos (by omega), rd_maps, refone_fs (rd_T55 l (i : Int)), Option.bind_some, w1c i (by omega), ih k (i + 1) (by omega) (by omega)]
    simp only [sp0, rd_maps]
    by_cases h1 : oneS (rd_T55 l (i : Int)) = true
    · rw [if_pos h1, h1]
      by_cases h0 : i = 0
      · subst h0; rw [if_neg (by omega)]; simp
      · have ew : wrap64 ((i : Int) - 1) = ((i - 1 : Nat) : Int) := by unfold wrap64; omega
        rw [if_pos (by omega), ew, if_pos (by omega), if_pos (by omega)]
        by_cases h2 : (rd_T55 l (i : Int)).f0 ≤ (rd_T55 l ((i - 1 : Nat) : Int)).f1
        · rw [if_pos h2]; simp [h0, h2]
        · rw [if_neg h2]; simp [h0, h2]
    · rw [if_neg h1, Bool.eq_false_iff.mpr h1]; simp
theorem refspcheck_f (k : Nat) (l : List S55) (hl : l.length ≤ 1000000) (hk : l.length < k) : spliceref03_Check.f k (l.map rs) = some (sp0 l l.length 0) := by
  have := refspchk_l0 l hl l.length k 0 (by omega) hk
  rw [show ((0 : Nat) : Int) = 0 from rfl] at this
  exact this
def ovM (a b : Int) (q : S55) : Bool := decide (mx a q.f0 < mn b q.f1)
theorem both_l1 (x : S55) (keys : List S55) (hl : keys.length ≤ 1000000) (a b : Int) : ∀ (d k i : Nat) (acc : List S55), i + d = keys.length → d + 1 < k → acc.length ≤ i →
    ∃ r, span_both.l1 k keys acc [x] 1 0 keys (keys.length : Int) (i : Int) a b = some r ∧ decide ((r.length : Int) > 0) = (decide ((acc.length : Int) > 0) || (keys.drop i).any (ovM a b)) := by
  intro d
  induction d with
  | zero =>
    intro k i acc hi hk ha
    obtain ⟨k, rfl⟩ : ∃ k', k = k' + 1 + 1 := ⟨k - 2, by omega⟩
    refine ⟨acc, ?_, ?_⟩
    · rw [span_both.l1, if_neg (by omega), span_both.l0, if_neg (by unfold wrap64; omega)]
    · rw [List.drop_eq_nil_of_le (by omega)]; simp
  | succ d ih =>
    intro k i acc hi hk ha
    obtain ⟨k, rfl⟩ : ∃ k', k = k' + 1 := ⟨k - 1, by omega⟩
    rw [span_both.l1, if_pos (by omega), if_pos (by omega), if_pos (by omega), w1c i (by omega), drop_rds keys i (by omega)]
    by_cases h : mx a (rd_T55 keys (i : Int)).f0 < mn b (rd_T55 keys (i : Int)).f1
    · rw [if_pos h, if_pos (by omega)]
      obtain ⟨r, h1, h2⟩ := ih k (i + 1) (acc ++ [⟨mx a (rd_T55 keys (i : Int)).f0, mn b (rd_T55 keys (i : Int)).f1⟩]) (by omega) (by omega) (by simp; omega)
      refine ⟨r, h1, ?_⟩
      rw [h2, decide_eq_true (show (((acc ++ [⟨mx a (rd_T55 keys (i : Int)).f0, mn b (rd_T55 keys (i : Int)).f1⟩] : List S55).length : Nat) : Int) > 0 by simp)]
      simp [ovM, h]
    · rw [if_neg h]
      obtain ⟨r, h1, h2⟩ := ih k (i + 1) acc (by omega) (by omega) (by omega)
      refine ⟨r, h1, ?_⟩
      rw [h2]
      simp [ovM, h]
theorem touch_f (k : Nat) (x : S55) (keys : List S55) (hl : keys.length ≤ 1000000) (hk : keys.length + 10 < k) :
    span_Touch.f k [x] keys = some (oneS x && (sp0 keys keys.length 0 && keys.any (ovM x.f0 x.f1))) := by
  unfold span_Touch.f
  rw [spcheck_f k [x] (by simp) (by simp; omega), Option.bind_some, spcheck_f k keys hl (by omega), Option.bind_some]
  have e1 : sp0 [x] ([x] : List S55).length 0 = oneS x := by simp [sp0, rd_T55]
  rw [e1]
  cases h1 : oneS x
  · rfl
  rw [if_pos rfl]
  cases h2 : sp0 keys keys.length 0
  · rfl
  rw [if_pos rfl]
  obtain ⟨k, rfl⟩ : ∃ k', k = k' + 1 := ⟨k - 1, by omega⟩
  obtain ⟨r, h3, h4⟩ := both_l1 x keys hl x.f0 x.f1 keys.length k 0 [] (by omega) (by omega) (by simp)
  have h5 : span_both.f (k + 1) [x] keys = some r := by
    unfold span_both.f
    rw [span_both.l0, if_pos (by simp), if_pos (by decide), if_pos (by simp)]
    exact h3
  rw [h5, Option.bind_some, h4]; simp
def ovR (x : S57) (q : S55) : Bool := decide (q.f0 < x.f1.f1) && decide (x.f1.f0 < q.f1)
theorem sp0_one (l : List S55) : ∀ (d i : Nat), i + d = l.length → sp0 l d i = true → ∀ q ∈ l.drop i, oneS q = true := by
  intro d
  induction d with
  | zero => intro i hi _ q hq; rw [List.drop_eq_nil_of_le (by omega)] at hq; simp at hq
  | succ d ih =>
    intro i hi h q hq
    simp only [sp0, Bool.and_eq_true] at h
    rw [drop_rds l i (by omega)] at hq
    rcases List.mem_cons.1 hq with rfl | hq
    · exact h.1
    · exact ih (i + 1) (by omega) h.2.2 q hq
theorem any_ov (x : S57) (keys : List S55) (hx : oneS x.f1 = true) (hk : ∀ q ∈ keys, oneS q = true) : keys.any (ovM x.f1.f0 x.f1.f1) = keys.any (ovR x) := by
  induction keys with
  | nil => rfl
  | cons q l ih =>
    simp only [List.any_cons]
    rw [ih (fun q hq => hk q (List.mem_cons_of_mem _ hq))]
    have h1 := hk q List.mem_cons_self
    simp only [oneS, Bool.and_eq_true, decide_eq_true_eq] at h1 hx
    congr 1
    rw [Bool.eq_iff_iff]
    simp only [ovM, ovR, Bool.and_eq_true, decide_eq_true_eq]
    unfold mx mn
    split <;> split <;> omega
/-- the numbers of the shards that have a key of a set -/
def ownS (keys : List S55) (l : List S57) : List Int := (l.filter (fun x => keys.any (ovR x))).map (fun x => x.f0)
theorem owners_l0 (keys : List S55) (hkl : keys.length ≤ 1000000) (hs : sp0 keys keys.length 0 = true) (l : List S57) (hl : l.length ≤ 1000000) (hone : ∀ x ∈ l, oneS x.f1 = true) : ∀ (d k i : Nat) (acc : List Int), i + d = l.length → d + keys.length + 20 < k → acc.length ≤ i →
    chart_Owners.l0 k keys acc l (l.length : Int) (i : Int) = some (acc ++ ownS keys (l.drop i)) := by
  intro d
  induction d with
  | zero =>
    intro k i acc hi hk ha
    obtain ⟨k, rfl⟩ : ∃ k', k = k' + 1 := ⟨k - 1, by omega⟩
    rw [chart_Owners.l0, if_neg (by omega), List.drop_eq_nil_of_le (by omega)]; simp [ownS]
  | succ d ih =>
    intro k i acc hi hk ha
    obtain ⟨k, rfl⟩ : ∃ k', k = k' + 1 := ⟨k - 1, by omega⟩
    have hx : oneS (rd_T57 l (i : Int)).f1 = true := hone _ (by rw [rd_get l i (by omega)]; exact List.getElem_mem _)
    rw [chart_Owners.l0, if_pos (by omega), if_pos (by omega), if_pos (by omega)]
    have ht := touch_f k (rd_T57 l (i : Int)).f1 keys hkl (by omega)
    rw [hx, hs, any_ov _ keys hx (by have := sp0_one keys keys.length 0 (by omega) hs; simpa using this)] at ht
    have ht2 : span_Touch.f k [(⟨(rd_T57 l (i : Int)).f1.f0, (rd_T57 l (i : Int)).f1.f1⟩ : S55)] keys = some (keys.any (ovR (rd_T57 l (i : Int)))) := by refine Eq.trans ht ?_; simp
    rw [ht2, Option.bind_some, w1c i (by omega), drop_rd l i (by omega)]
    by_cases h : keys.any (ovR (rd_T57 l (i : Int))) = true
    · rw [if_pos h, if_pos (by omega), ih k (i + 1) _ (by omega) (by omega) (by simp; omega)]
      simp [ownS, h]
    · rw [if_neg h, ih k (i + 1) acc (by omega) (by omega) (by omega)]
      simp [ownS, h]
theorem owners_bad (keys : List S55) (hkl : keys.length ≤ 1000000) (hs : sp0 keys keys.length 0 = false) (l : List S57) (hl : l.length ≤ 1000000) : ∀ (d k i : Nat), i + d = l.length → d + keys.length + 20 < k →
    chart_Owners.l0 k keys [] l (l.length : Int) (i : Int) = some [] := by
  intro d
  induction d with
  | zero =>
    intro k i hi hk
    obtain ⟨k, rfl⟩ : ∃ k', k = k' + 1 := ⟨k - 1, by omega⟩
    rw [chart_Owners.l0, if_neg (by omega)]
  | succ d ih =>
    intro k i hi hk
    obtain ⟨k, rfl⟩ : ∃ k', k = k' + 1 := ⟨k - 1, by omega⟩
    rw [chart_Owners.l0, if_pos (by omega), if_pos (by omega), if_pos (by omega)]
    have ht := touch_f k (rd_T57 l (i : Int)).f1 keys hkl (by omega)
    have ht2 : span_Touch.f k [(⟨(rd_T57 l (i : Int)).f1.f0, (rd_T57 l (i : Int)).f1.f1⟩ : S55)] keys = some false := by refine Eq.trans ht ?_; rw [hs]; simp
    rw [ht2, Option.bind_some, if_neg (by simp), w1c i (by omega), ih k (i + 1) (by omega) (by omega)]
theorem chain_one (nx : Int) (l : List S57) : ∀ (d i : Nat) (prev : Int), i + d = l.length → chain0 nx l d i prev = true → ∀ x ∈ l.drop i, oneS x.f1 = true := by
  intro d
  induction d with
  | zero => intro i prev hi _ q hq; rw [List.drop_eq_nil_of_le (by omega)] at hq; simp at hq
  | succ d ih =>
    intro i prev hi h q hq
    simp only [chain0, elemB, Bool.and_eq_true] at h
    rw [drop_rd l i (by omega)] at hq
    rcases List.mem_cons.1 hq with rfl | hq
    · have := h.1.1.2; simp only [oneS, Bool.and_eq_true]; exact this
    · exact ih (i + 1) _ (by omega) h.2 q hq
theorem check_one (ep nx : Int) (l : List S57) (h : checkB ep nx l = true) : ∀ x ∈ l, oneS x.f1 = true := by
  simp only [checkB, Bool.and_eq_true] at h
  have := chain_one nx l l.length 0 0 (by omega) h.2.1
  simpa using this
theorem owners_f (k : Nat) (ep nx : Int) (l : List S57) (hl : l.length ≤ 1000000) (keys : List S55) (hkl : keys.length ≤ 1000000) (hk : l.length + keys.length + 60 < k) :
    chart_Owners.f k ep nx l keys = some (if checkB ep nx l = true then (if sp0 keys keys.length 0 = true then ownS keys l else []) else []) := by
  unfold chart_Owners.f
  rw [check_f k ep nx l hl (by omega), Option.bind_some]
  by_cases h : checkB ep nx l = true
  · rw [if_pos h, if_pos h]
    by_cases hs : sp0 keys keys.length 0 = true
    · rw [if_pos hs]
      have := owners_l0 keys hkl hs l hl (check_one ep nx l h) l.length k 0 [] (by omega) (by omega) (by simp)
      rw [show ((0 : Nat) : Int) = 0 from rfl] at this
      rw [this]; simp
    · rw [if_neg hs]
      have := owners_bad keys hkl (Bool.eq_false_iff.mpr hs) l hl l.length k 0 (by omega) (by omega)
      rw [show ((0 : Nat) : Int) = 0 from rfl] at this
      exact this
  · rw [if_neg h, if_neg h]
theorem refown_l1 (ep nx : Int) (l : List S57) (keys : List S55) (i : Nat) (hl : l.length ≤ 1000000) (hkl : keys.length ≤ 1000000) (hi : i < l.length) : ∀ (d k j : Nat) (b : Bool) (acc : List Int), j + d = keys.length → acc.length ≤ i →
    spliceref08_Owners.l1 (k + d + 1) (keys.map rs) acc (i : Int) b (j : Int) ep nx (l.map rf) = if (b || (keys.drop j).any (ovR (rd_T57 l (i : Int)))) = true then spliceref08_Owners.l0 k (keys.map rs) (acc ++ [(rd_T57 l (i : Int)).f0]) ((i + 1 : Nat) : Int) ep nx (l.map rf) else spliceref08_Owners.l0 k (keys.map rs) acc ((i + 1 : Nat) : Int) ep nx (l.map rf) := by
  intro d
  induction d with
  | zero =>
    intro k j b acc hj ha
    rw [show k + 0 + 1 = k + 1 from rfl, spliceref08_Owners.l1, List.length_map, if_neg (by omega), w1c i (by omega), List.drop_eq_nil_of_le (by omega)]
    cases b
    · rfl
    · rw [if_pos rfl, if_pos (by omega), if_pos (by rw [List.length_map]; omega), if_pos (by omega), rd_map]; rfl
  | succ d ih =>
    intro k j b acc hj ha
    rw [show k + (d + 1) + 1 = (k + d + 1) + 1 by omega, spliceref08_Owners.l1, List.length_map, if_pos (by omega), w1c j (by omega), drop_rds keys j (by omega)]
    simp only [ih k (j + 1) _ acc (by omega) ha]
    cases b
    · simp only [Bool.false_eq_true, if_false, rd_map, rd_maps, List.any_cons, ovR]
      rw [if_pos (by omega), if_pos (by omega), if_pos (by rw [List.length_map]; omega)]
      by_cases h : (rd_T55 keys (j : Int)).f0 < (rd_T57 l (i : Int)).f1.f1
      · rw [if_pos h]; simp [h]
      · rw [if_neg h]; simp [h]
    · simp
theorem refown_l0 (ep nx : Int) (l : List S57) (keys : List S55) (hl : l.length ≤ 1000000) (hkl : keys.length ≤ 1000000) : ∀ (d k i : Nat) (acc : List Int), i + d = l.length → d * (keys.length + 2) < k → acc.length ≤ i →
    spliceref08_Owners.l0 k (keys.map rs) acc (i : Int) ep nx (l.map rf) = some (acc ++ ownS keys (l.drop i)) := by
  intro d
  induction d with
  | zero =>
    intro k i acc hi hk ha
    obtain ⟨k, rfl⟩ : ∃ k', k = k' + 1 := ⟨k - 1, by omega⟩
    rw [spliceref08_Owners.l0, List.length_map, if_neg (by omega), List.drop_eq_nil_of_le (by omega)]; simp [ownS]
  | succ d ih =>
    intro k i acc hi hk ha
    rw [Nat.add_mul, Nat.one_mul] at hk
    obtain ⟨k, rfl⟩ : ∃ k', k = (k' + keys.length + 1) + 1 := ⟨k - keys.length - 2, by omega⟩
    have h1 := refown_l1 ep nx l keys i hl hkl (by omega) keys.length k 0 false acc (by omega) ha
    rw [show ((0 : Nat) : Int) = 0 from rfl] at h1
    rw [spliceref08_Owners.l0, List.length_map, if_pos (by omega), h1, drop_rd l i (by omega)]
    simp only [Bool.false_or, List.drop_zero]
    by_cases h : keys.any (ovR (rd_T57 l (i : Int))) = true
    · rw [if_pos h, ih k (i + 1) _ (by omega) (by omega) (by simp; omega)]
      simp [ownS, h]
    · rw [if_neg h, ih k (i + 1) acc (by omega) (by omega) (by omega)]
      simp [ownS, h]
theorem refowners_f (k : Nat) (ep nx : Int) (l : List S57) (hl : l.length ≤ 60) (keys : List S55) (hkl : keys.length ≤ 100) (hk : 7000 < k) :
    spliceref08_Owners.f k ep nx (l.map rf) (keys.map rs) = some (if checkB ep nx l = true then (if sp0 keys keys.length 0 = true then ownS keys l else []) else []) := by
  obtain ⟨k, rfl⟩ : ∃ k', k = k' + 1 := ⟨k - 1, by omega⟩
  unfold spliceref08_Owners.f
  rw [refcheck_f (k + 1) ep nx l (by omega) (by omega), Option.bind_some]
  by_cases h : checkB ep nx l = true
  · rw [if_pos h, if_pos h, refspcheck_f (k + 1) keys (by omega) (by omega), Option.bind_some, spliceref08_Owners.j0]
    cases hs : sp0 keys keys.length 0
    · rfl
    · rw [if_neg (by simp), if_pos rfl]
      have hm : l.length * (keys.length + 2) ≤ 60 * 102 := Nat.mul_le_mul hl (by omega)
      have := refown_l0 ep nx l keys (by omega) (by omega) l.length k 0 [] (by omega) (by omega) (by simp)
      rw [show ((0 : Nat) : Int) = 0 from rfl] at this
      rw [this]; simp
  · rw [if_neg h, if_neg h, spliceref08_Owners.j0, if_pos rfl]
theorem refowner_l0 (ep nx : Int) (l : List S57) (hl : l.length ≤ 1000000) (key : Int) : ∀ (d k i : Nat), i + d = l.length → d + 900 < k →
    spliceref08_Owner.l0 k key (i : Int) ep nx (l.map rf) = some (if checkB ep nx l = true then ixOf (ownP key) (l.drop i) i else -1) := by
  intro d
  induction d with
  | zero =>
    intro k i hi hk
    obtain ⟨k, rfl⟩ : ∃ k', k = k' + 1 := ⟨k - 1, by omega⟩
    rw [spliceref08_Owner.l0, if_neg (by rw [List.length_map]; omega), List.drop_eq_nil_of_le (by omega)]
    simp [ixOf]
  | succ d ih =>
    intro k i hi hk
    obtain ⟨k, rfl⟩ : ∃ k', k = k' + 1 := ⟨k - 1, by omega⟩
    rw [spliceref08_Owner.l0, if_pos (by rw [List.length_map]; omega), refcheck_f k ep nx l hl (by omega), Option.bind_some, w1c i (by omega), ih k (i + 1) (by omega) (by omega)]
    by_cases hc : checkB ep nx l = true
    · rw [if_pos hc, if_pos (by omega), rd_map, drop_rd l i (by omega)]
      simp only [ixOf, if_pos hc]
      by_cases hx : key ≥ (rd_T57 l (i : Int)).f1.f0
      · rw [if_pos hx]
        by_cases hy : key < (rd_T57 l (i : Int)).f1.f1
        · rw [if_pos hy, if_pos (by simp only [ownP, Bool.and_eq_true, decide_eq_true_eq]; exact ⟨hx, hy⟩)]
        · rw [if_neg hy, if_neg (by simp only [ownP, Bool.and_eq_true, decide_eq_true_eq]; exact fun h => hy h.2)]
      · rw [if_neg hx, if_neg (by simp only [ownP, Bool.and_eq_true, decide_eq_true_eq]; exact fun h => hx h.1)]
    · rw [if_neg hc, if_neg hc, if_neg hc]
theorem refowner_f (k : Nat) (ep nx : Int) (l : List S57) (hl : l.length ≤ 1000000) (key : Int) (hk : l.length + 900 < k) :
    spliceref08_Owner.f k ep nx (l.map rf) key = some (if checkB ep nx l = true then ixOf (ownP key) l 0 else -1) := by
  have := refowner_l0 ep nx l hl key l.length k 0 (by omega) hk
  rw [show ((0 : Nat) : Int) = 0 from rfl] at this
  unfold spliceref08_Owner.f
  rw [this]; rfl
/-- the shard at a place, or none -/
def atS (l : List S57) (i : Int) : Int × Int × Int × Int × Bool :=
  if i < 0 then (0, 0, 0, 0, false) else ((rd_T57 l i).f0, (rd_T57 l i).f1.f0, (rd_T57 l i).f1.f1, (rd_T57 l i).f2, true)
theorem owner_f (k : Nat) (ep nx : Int) (l : List S57) (hl : l.length ≤ 1000000) (key : Int) (hk : 60 ≤ k) :
    chart_Owner.f k ep nx l key = some (atS l (if checkB ep nx l = true then ixOf (ownP key) l 0 else -1)) := by
  unfold chart_Owner.f
  rw [if_pos (by omega), check_f k ep nx l hl hk, Option.bind_some]
  by_cases h : checkB ep nx l = true
  · rw [if_pos h, if_pos h]
    generalize ixOf (ownP key) l 0 = i
    unfold atS
    by_cases hi : i < 0
    · rw [if_pos hi, if_pos hi]
    · rw [if_neg hi, if_neg hi]
  · rw [if_neg h, if_neg h]; rfl
theorem find_f (k : Nat) (ep nx : Int) (l : List S57) (hl : l.length ≤ 1000000) (id : Int) (hk : 60 ≤ k) :
    chart_Find.f k ep nx l id = some (atS l (if checkB ep nx l = true then ixOf (fun x => decide (x.f0 = id)) l 0 else -1)) := by
  unfold chart_Find.f chart_place.f
  rw [if_pos (by omega), Option.bind_some, check_f k ep nx l hl hk, Option.bind_some]
  have hr := ixOf_range (fun x : S57 => decide (x.f0 = id)) l 0
  generalize ixOf (fun x => decide (x.f0 = id)) l 0 = i at hr ⊢
  unfold atS
  by_cases hi : i < 0
  · rw [if_pos hi]
    by_cases h : checkB ep nx l = true
    · rw [if_pos h, if_pos hi]
    · rw [if_neg h]; rfl
  · rw [if_neg hi]
    by_cases h : checkB ep nx l = true
    · rw [if_pos h, if_pos h, if_neg hi, if_pos (by omega), if_pos (by omega)]
    · rw [if_neg h, if_neg h]; rfl
theorem one_eq (k : Nat) (l : List S57) (hl : l.length ≤ 1000000) (ep nx i : Int) (hi : i < (l.length : Int)) (hk : 10 ≤ k) :
    splicelaw08_one.f k (atS l i).1 (atS l i).2.1 (atS l i).2.2.1 (atS l i).2.2.2.1 (atS l i).2.2.2.2 ep nx (l.map rf) i = some true := by
  unfold splicelaw08_one.f atS
  by_cases h : i < 0
  · rw [if_pos h, if_pos h]; rfl
  · obtain ⟨j, rfl⟩ : ∃ j : Nat, i = (j : Int) := ⟨i.toNat, by omega⟩
    rw [if_neg h, if_neg h, if_pos rfl]
    have e1 := refs_f k [rd_T57 l (j : Int)] (by simp) (by simp; omega)
    have e2 : splicelaw08_Refs.f k [(⟨(rd_T57 l (j : Int)).f0, (⟨(rd_T57 l (j : Int)).f1.f0, (rd_T57 l (j : Int)).f1.f1⟩ : S55), (rd_T57 l (j : Int)).f2⟩ : S57)] = some [rf (rd_T57 l (j : Int))] := e1
    dsimp only
    rw [e2, Option.bind_some, w1c j (by omega), if_pos (by omega), if_pos (by omega), if_pos (by rw [List.length_map]; omega), Int.toNat_natCast, Int.toNat_natCast]
    have e3 : ((l.map rf).take (j + 1)).drop j = [rf (rd_T57 l (j : Int))] := by
      rw [← List.map_take, ← List.map_drop, List.drop_take, show j + 1 - j = 1 by omega, drop_rd l j (by omega)]; rfl
    rw [e3, samelist_f k _ (by simp) (by simp; omega)]; rfl
theorem same1_l0 (l : List Int) (hl : l.length ≤ 1000000) : ∀ (d k i : Nat), i + d = l.length → d < k → spliceref01_Same.l0 k l l (i : Int) = some true := by
  intro d
  induction d with
  | zero =>
    intro k i hi hk
    obtain ⟨k, rfl⟩ : ∃ k', k = k' + 1 := ⟨k - 1, by omega⟩
    rw [spliceref01_Same.l0, if_neg (by omega)]
  | succ d ih =>
    intro k i hi hk
    obtain ⟨k, rfl⟩ : ∃ k', k = k' + 1 := ⟨k - 1, by omega⟩
    rw [spliceref01_Same.l0, if_pos (by omega), if_pos (by omega), if_pos (by omega), if_pos rfl, w1c i (by omega), ih k (i + 1) (by omega) (by omega)]
theorem same1_f (k : Nat) (l : List Int) (hl : l.length ≤ 1000000) (hk : l.length < k) : spliceref01_Same.f k l l = some true := by
  have := same1_l0 l hl l.length k 0 (by omega) hk
  rw [show ((0 : Nat) : Int) = 0 from rfl] at this
  unfold spliceref01_Same.f
  rw [if_pos rfl, this]
theorem ixOf_lt (p : S57 → Bool) (l : List S57) : ixOf p l 0 < (l.length : Int) := by
  rcases ixOf_range p l 0 with h | h <;> omega

end Go.Proofs.Ytbhlphadcphapaa.PD
