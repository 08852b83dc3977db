import Derived.Test.YteclhjhnbolkmaaPRx0
import Derived.Test.YteclhjhnbolkmaaPRx3
import Derived.Test.YteclhjhnbolkmaaPRx4
import Derived.Test.YteclhjhnbolkmaaPRx9
import Derived.Test.YteclhjhnbolkmaaRQ1
namespace Go.Proofs.Yteclhjhnbolkmaa.PR
open Go.RowKit Go.Proofs.YteclhjhnbolkmaaW.PrintWords Go.Proofs.YteclhjhnbolkmaaW.PrintLast Go.Proofs.YteclhjhnbolkmaaW.PrintMore
set_option linter.unusedVariables false
set_option linter.unusedSimpArgs false


/-! ### loads: pairs, sums, shards' loads and nodes' loads -/
abbrev Pr70 := S70
theorem rdp_get (l : List Pr70) (i : Nat) (h : i < l.length) : rd_T70 l (i : Int) = l[i] := by
  unfold rd_T70
  rw [Int.toNat_natCast, List.getD_eq_getElem?_getD, List.getElem?_eq_getElem h]; rfl
theorem drop_rdp (l : List Pr70) (i : Nat) (h : i < l.length) : l.drop i = rd_T70 l (i : Int) :: l.drop (i + 1) := by
  rw [rdp_get l i h]; exact List.drop_eq_getElem_cons h
/-- the pairs from i on, each held against the one ahead of it -/
def tbl0 (l : List Pr70) : Nat → Nat → Bool
  | 0, _ => true
  | d + 1, i => if (rd_T70 l (i : Int)).f0 < 0 then false else if (rd_T70 l (i : Int)).f0 ≥ 4096 then false else if (rd_T70 l (i : Int)).f1 < -1099511627776 then false else if (rd_T70 l (i : Int)).f1 > 1099511627776 then false
    else if 0 < i ∧ (rd_T70 l ((i - 1 : Nat) : Int)).f0 ≥ (rd_T70 l (i : Int)).f0 then false else tbl0 l d (i + 1)
theorem wm1 (i : Nat) (h : 0 < i) (h2 : i < 1000000000) : wrap64 ((i : Int) - 1) = ((i - 1 : Nat) : Int) := by unfold wrap64; omega
theorem table_l0 (l : List Pr70) (hl : l.length ≤ 1000000) : ∀ (d k i : Nat), i + d = l.length → d < k → table_Check.l0 k l l (l.length : Int) (i : Int) = some (tbl0 l d i) := by
  intro d
  induction d with
  | zero =>
    intro k i hi hk
    obtain ⟨k, rfl⟩ : ∃ m, k = m + 1 := ⟨k - 1, by omega⟩
    simp only [table_Check.l0, tbl0]
    rw [if_neg (by omega)]
  | succ d ih =>
    intro k i hi hk
    obtain ⟨k, rfl⟩ : ∃ m, k = m + 1 := ⟨k - 1, by omega⟩
    simp only [table_Check.l0, tbl0]
    rw [if_pos (by omega), if_pos (by omega), if_pos (by omega), w1c i (by omega), ih k (i + 1) (by omega) (by omega)]
    by_cases h1 : (rd_T70 l (i : Int)).f0 < 0
    · rw [if_pos h1, if_pos h1]
    rw [if_neg h1, if_neg h1]
    by_cases h2 : (rd_T70 l (i : Int)).f0 ≥ 4096
    · rw [if_pos h2, if_pos h2]
    rw [if_neg h2, if_neg h2]
    by_cases h3 : (rd_T70 l (i : Int)).f1 < -1099511627776
    · rw [if_pos h3, if_pos h3]
    rw [if_neg h3, if_neg h3]
    by_cases h4 : (rd_T70 l (i : Int)).f1 > 1099511627776
    · rw [if_pos h4, if_pos h4]
    rw [if_neg h4, if_neg h4]
    by_cases h5 : 0 < i
    · rw [if_pos (by omega), wm1 i h5 (by omega), if_pos (by omega), if_pos (by omega)]
      by_cases h6 : (rd_T70 l ((i - 1 : Nat) : Int)).f0 ≥ (rd_T70 l (i : Int)).f0
      · rw [if_pos h6, if_pos ⟨h5, h6⟩]
      · rw [if_neg h6, if_neg (fun q => h6 q.2)]
    · rw [if_neg (by omega), if_neg (fun q => h5 q.1)]
theorem table_f (k : Nat) (l : List Pr70) (hl : l.length ≤ 1000000) (hk : l.length < k) : table_Check.f k l = some (tbl0 l l.length 0) := by
  unfold table_Check.f
  exact table_l0 l hl l.length k 0 (by omega) hk
def loadB (l : List Pr70) : Bool := tbl0 l l.length 0 && !(l.any negP)
theorem loads_f (k : Nat) (l : List Pr70) (hl : l.length ≤ 1000000) (hk : l.length < k) : balance_loads.f k l = some (loadB l) := by
  unfold balance_loads.f loadB
  rw [if_pos (by omega), table_f k l hl hk, Option.bind_some]
  cases tbl0 l l.length 0 <;> rfl
/-- the load of the keys from lo up to hi, of the pairs from i on -/
def sum0 (l : List Pr70) (lo hi : Int) : Nat → Nat → Int → Int
  | 0, _, acc => acc
  | d + 1, i, acc => if (rd_T70 l (i : Int)).f0 ≥ lo then (if (rd_T70 l (i : Int)).f0 < hi then sum0 l lo hi d (i + 1) (wrap64 (acc + (rd_T70 l (i : Int)).f1)) else sum0 l lo hi d (i + 1) acc) else sum0 l lo hi d (i + 1) acc
def sumS (l : List Pr70) (lo hi : Int) : Int := sum0 l lo hi l.length 0 0
theorem sum_l0 (l : List Pr70) (hl : l.length ≤ 1000000) (lo hi : Int) : ∀ (d k i : Nat) (acc : Int), i + d = l.length → d < k → balance_sum.l0 k acc l (l.length : Int) (i : Int) lo hi = some (sum0 l lo hi d i acc) := by
  intro d
  induction d with
  | zero =>
    intro k i acc hi hk
    obtain ⟨k, rfl⟩ : ∃ m, k = m + 1 := ⟨k - 1, by omega⟩
    simp only [balance_sum.l0, sum0]
    rw [if_neg (by omega)]
  | succ d ih =>
    intro k i acc hi hk
    obtain ⟨k, rfl⟩ : ∃ m, k = m + 1 := ⟨k - 1, by omega⟩
    simp only [balance_sum.l0, sum0]
    rw [if_pos (by omega), if_pos (by omega), if_pos (by omega), w1c i (by omega), ih k (i + 1) _ (by omega) (by omega), ih k (i + 1) _ (by omega) (by omega)]
    split
    · split <;> rfl
    · rfl
theorem sum_f (k : Nat) (l : List Pr70) (hl : l.length ≤ 1000000) (lo hi : Int) (hk : l.length < k) : balance_sum.f k l lo hi = some (sumS l lo hi) := sum_l0 l hl lo hi l.length k 0 0 (by omega) hk
def shS (l : List Pr70) (x : S67) : Int := sumS l x.f1.f0 x.f1.f1
theorem shards_l0 (l : List Pr70) (hl : l.length ≤ 1000000) (L : List S67) (hL : L.length ≤ 1000000) : ∀ (d k i : Nat) (acc : List Int), i + d = L.length → d + l.length < k → acc.length ≤ i → balance_Shards.l0 k l acc L (L.length : Int) (i : Int) = some (acc ++ (L.drop i).map (shS l), 0) := by
  intro d
  induction d with
  | zero =>
    intro k i acc hi hk ha
    obtain ⟨k, rfl⟩ : ∃ m, k = m + 1 := ⟨k - 1, by omega⟩
    simp only [balance_Shards.l0]
    rw [if_neg (by omega), List.drop_eq_nil_of_le (by omega), List.map_nil, List.append_nil]
  | succ d ih =>
    intro k i acc hi hk ha
    obtain ⟨k, rfl⟩ : ∃ m, k = m + 1 := ⟨k - 1, by omega⟩
    simp only [balance_Shards.l0]
    rw [if_pos (by omega), if_pos (by omega), if_pos (by omega), sum_f k l hl _ _ (by omega), Option.bind_some, if_pos (by omega), w1c i (by omega), ih k (i + 1) _ (by omega) (by omega) (by simp; omega), drop_rd L i (by omega), List.map_cons, List.append_assoc]
    rfl
def shardsS (ep nx : Int) (L : List S67) (l : List Pr70) : List Int × Int := if (checkB ep nx L && loadB l) = true then (L.map (shS l), 0) else ([], 1)
theorem shards_f (k : Nat) (ep nx : Int) (L : List S67) (hL : L.length ≤ 1000000) (l : List Pr70) (hl : l.length ≤ 1000000) (hk : L.length + l.length + 61 < k) : balance_Shards.f k ep nx L l = some (shardsS ep nx L l) := by
  unfold balance_Shards.f shardsS
  obtain ⟨k, rfl⟩ : ∃ m, k = m + 1 := ⟨k - 1, by omega⟩
  rw [check_f (k + 1) ep nx L hL (by omega), Option.bind_some]
  cases hc : checkB ep nx L with
  | false =>
    rw [if_neg (by decide), Bool.false_and, if_neg (by decide)]
    simp only [balance_Shards.j0]
    rfl
  | true =>
    rw [if_pos rfl, loads_f (k + 1) l hl (by omega), Option.bind_some, Bool.true_and]
    cases hb : loadB l with
    | false => rw [if_neg (by decide)]; simp only [balance_Shards.j0]; rfl
    | true =>
      rw [if_pos rfl]
      simp only [balance_Shards.j0]
      have := shards_l0 l hl L hL L.length k 0 [] (by omega) (by omega) (by simp)
      simpa using this
/-! ### the nodes' loads -/
/-- a node's load, from what it has on -/
def load0 (l : List Pr70) (n : Int) : List S67 → Int → Int
  | [], acc => acc
  | x :: L, acc => if x.f2 = n then load0 l n L (wrap64 (acc + shS l x)) else load0 l n L acc
def nodesL (l : List Pr70) (L : List S67) (out : List Int) : List Int := (List.range out.length).map (fun n : Nat => load0 l (n : Int) L (rd out (n : Int)))
theorem rdi_get (l : List Int) (i : Nat) (h : i < l.length) : rd l (i : Int) = l[i] := by
  unfold rd
  rw [Int.toNat_natCast, List.getD_eq_getElem?_getD, List.getElem?_eq_getElem h]; rfl
theorem nodesL_nil (l : List Pr70) (out : List Int) : nodesL l [] out = out := by
  unfold nodesL
  refine List.ext_getElem (by simp) (fun i h1 h2 => ?_)
  rw [List.getElem_map, List.getElem_range]
  simp only [load0]
  exact rdi_get out i h2
theorem nodesL_cons (l : List Pr70) (x : S67) (L : List S67) (out : List Int) (h0 : 0 ≤ x.f2) (h1 : x.f2 < (out.length : Int)) : nodesL l L (out.set x.f2.toNat (wrap64 (rd out x.f2 + shS l x))) = nodesL l (x :: L) out := by
  unfold nodesL
  rw [List.length_set]
  refine List.map_congr_left (fun n hn => ?_)
  rw [List.mem_range] at hn
  simp only [load0]
  by_cases e : x.f2 = (n : Int)
  · rw [if_pos e]
    congr 1
    rw [rdi_get _ n (by rw [List.length_set]; exact hn), List.getElem_set, if_pos (by omega), e]
  · rw [if_neg e]
    congr 1
    rw [rdi_get _ n (by rw [List.length_set]; exact hn), List.getElem_set, if_neg (by omega), rdi_get out n hn]
theorem bnodes_l0 (l : List Pr70) (sh : List Int) : ∀ (L : List S67) (i : Nat) (out : List Int), (∀ x ∈ L, 0 ≤ x.f2 ∧ x.f2 < (out.length : Int)) → sh.drop i = L.map (shS l) → balance_Nodes.l0 L i sh out = some (nodesL l L out) := by
  intro L
  induction L with
  | nil => intro i out _ _; simp only [balance_Nodes.l0]; rw [nodesL_nil]
  | cons x L ih =>
    intro i out hx hs
    simp only [balance_Nodes.l0]
    have hx0 := hx x List.mem_cons_self
    have hil : i < sh.length := by
      have h := congrArg List.length hs
      rw [List.length_drop, List.length_map, List.length_cons] at h
      omega
    have hrd : rd sh (i : Int) = shS l x := by
      rw [List.drop_eq_getElem_cons hil, List.map_cons] at hs
      injection hs with h1 h2
      rw [rdi_get sh i hil]; exact h1
    have htl : sh.drop (i + 1) = L.map (shS l) := by
      rw [List.drop_eq_getElem_cons hil, List.map_cons] at hs
      injection hs
    rw [if_pos ⟨hx0.1, hx0.2, hil⟩, hrd, ih (i + 1) _ (fun y hy => by rw [List.length_set]; exact hx y (List.mem_cons_of_mem _ hy)) htl, nodesL_cons l x L out hx0.1 hx0.2]
theorem chain_node (nx : Int) (l : List S67) : ∀ (d i : Nat) (prev : Int), i + d = l.length → chain0 nx l d i prev = true → ∀ x ∈ l.drop i, 0 ≤ x.f2 := by
  intro d
  induction d with
  | zero => intro i prev hi _ q hq; rw [List.drop_eq_nil_of_le (by omega)] at hq; simp at hq
  | succ d ih =>
    intro i prev hi h q hq
    simp only [chain0, elemB, Bool.and_eq_true, decide_eq_true_eq] at h
    rw [drop_rd l i (by omega)] at hq
    rcases List.mem_cons.1 hq with rfl | hq
    · exact h.1.1.1.2.1
    · exact ih (i + 1) _ (by omega) h.2 q hq
theorem check_node (ep nx : Int) (l : List S67) (h : checkB ep nx l = true) : ∀ x ∈ l, 0 ≤ x.f2 := by
  simp only [checkB, Bool.and_eq_true] at h
  have := chain_node nx l l.length 0 0 (by omega) h.2.1
  simpa using this
def mayB (ep nx : Int) (L : List S67) (l : List Pr70) (n : Int) : Bool := !(L.any (farN n)) && (checkB ep nx L && (loadB l && (decide (1 ≤ n) && decide (n ≤ 5))))
def nodesS (ep nx : Int) (L : List S67) (l : List Pr70) (n : Int) : List Int × Int := if mayB ep nx L l n = true then (nodesL l L (List.replicate n.toNat 0), 0) else ([], 1)
theorem nodes_f (k : Nat) (ep nx : Int) (L : List S67) (hL : L.length ≤ 1000000) (l : List Pr70) (hl : l.length ≤ 1000000) (n : Int) (hk : L.length + l.length + 61 < k) : balance_Nodes.f k ep nx L l n = some (nodesS ep nx L l n) := by
  unfold balance_Nodes.f nodesS mayB
  rw [if_pos (by omega), shards_f k ep nx L hL l hl hk, Option.bind_some]
  unfold shardsS
  cases hc : checkB ep nx L with
  | false => simp
  | true =>
    cases hb : loadB l with
    | false => simp
    | true =>
      simp only [Bool.and_self, if_true, Bool.true_and]
      by_cases h1 : n < 1
      · rw [if_pos h1, decide_eq_false (by omega)]; simp
      rw [if_neg h1, decide_eq_true (by omega)]
      by_cases h2 : n > 5
      · rw [if_pos h2, decide_eq_false (by omega)]; simp
      rw [if_neg h2, decide_eq_true (by omega)]
      cases h3 : L.any (farN n) with
      | true => simp
      | false =>
        rw [if_neg (by decide), bnodes_l0 l _ L 0 _ (fun x hx => ⟨check_node ep nx L hc x hx, ?_⟩) (by simp)]
        · simp
        · rw [List.length_replicate]
          rw [List.any_eq_false] at h3
          have := h3 x hx
          simp only [farN, decide_eq_true_eq] at this
          omega
theorem awake25_f (k : Nat) (hk : 100 ≤ k) : splicelaw25_awake.f k = some true :=
  at_rounds (fun q => splicelaw25_awake.mono q) hk (by decide +kernel)

end Go.Proofs.Yteclhjhnbolkmaa.PR
