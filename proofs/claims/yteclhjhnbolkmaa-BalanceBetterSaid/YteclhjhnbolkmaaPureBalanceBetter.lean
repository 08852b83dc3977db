/- BalanceBetter: a suggested change betters things: a split cuts a hot shard into two with loads, a merge keeps within the low mark, a shift brings the nodes nearer. For every input. -/
import Derived.Test.YteclhjhnbolkmaaPBx0
import Derived.Test.YteclhjhnbolkmaaPBx10
import Derived.Test.YteclhjhnbolkmaaPBx11
import Derived.Test.YteclhjhnbolkmaaPBx2
import Derived.Test.YteclhjhnbolkmaaPBx4
import Derived.Test.YteclhjhnbolkmaaPBx5
import Derived.Test.YteclhjhnbolkmaaPBx9
import Derived.Test.YteclhjhnbolkmaaBQ1
import Derived.Test.YteclhjhnbolkmaaBQ2
import Derived.Test.YteclhjhnbolkmaaBQ3
import Derived.Test.YteclhjhnbolkmaaBQ4
namespace Go.Proofs.Yteclhjhnbolkmaa.Pure
open Go.RowKit Go.Proofs.Yteclhjhnbolkmaa.PB Go.Proofs.YteclhjhnbolkmaaW.PrintWords Go.Proofs.YteclhjhnbolkmaaW.PrintLast Go.Proofs.YteclhjhnbolkmaaW.PrintMore
set_option linter.unusedVariables false
set_option linter.unusedSimpArgs false


theorem take_one (l : List S67) (j : Nat) (h : j < l.length) : (l.drop j).take 1 = [rd_T67 l (j : Int)] := by
  rw [drop_rd l j h]; rfl
theorem take_both (l : List S67) (j : Nat) (h : j + 1 < l.length) : (l.drop j).take 2 = [rd_T67 l (j : Int), rd_T67 l ((j + 1 : Nat) : Int)] := by
  rw [drop_rd l j (by omega), drop_rd l (j + 1) h]; rfl
theorem small_l0 (l : List Pr70) (hl : l.length ≤ 60) : ∀ (d k i : Nat), i + d = l.length → d < k → ∃ t, splicelaw25_small.l0 k l (i : Int) = some t ∧ (t = true → ∀ x ∈ l.drop i, x.f1 ≤ 16384) := by
  intro d
  induction d with
  | zero =>
    intro k i hi hk
    obtain ⟨k, rfl⟩ : ∃ m, k = m + 1 := ⟨k - 1, by omega⟩
    simp only [splicelaw25_small.l0]
    rw [if_neg (by omega), List.drop_eq_nil_of_le (by omega)]
    exact ⟨_, rfl, fun _ x hx => by simp at hx⟩
  | succ d ih =>
    intro k i hi hk
    obtain ⟨k, rfl⟩ : ∃ m, k = m + 1 := ⟨k - 1, by omega⟩
    simp only [splicelaw25_small.l0]
    rw [if_pos (by omega), if_pos (by omega), w1c i (by omega)]
    by_cases h : (rd_T70 l (i : Int)).f1 > 16384
    · rw [if_pos h]; exact ⟨_, rfl, fun h => by simp at h⟩
    rw [if_neg h]
    obtain ⟨t, e, g⟩ := ih k (i + 1) (by omega) (by omega)
    refine ⟨t, e, fun q x hx => ?_⟩
    rw [drop_rdp l i (by omega)] at hx
    rcases List.mem_cons.mp hx with rfl | hx
    · omega
    · exact g q x hx
section loops
variable (l : List Pr70) (hl : l.length ≤ 60) (ep nx : Int) (L : List S67) (p0 p1 p2 n kd id at_ ep' nx' : Int) (L' : List S67)
include hl
theorem was_step (k : Nat) (hk : 100 ≤ k) (x7 x8 : List S67) (acc : Int) (out : List Int) (i : Nat) (hi : i < x7.length) (hi2 : i < 1000) :
    splicelaw25_BalanceBetter.l0 (k + 1) x7 x8 (l.map rp) acc out (i : Int) ep nx L l p0 p1 p2 n kd id at_ ep' nx' L' = splicelaw25_BalanceBetter.l0 k x7 x8 (l.map rp) (wrap64 (acc + shAt l x7 i)) out ((i + 1 : Nat) : Int) ep nx L l p0 p1 p2 n kd id at_ ep' nx' L' := by
  rw [splicelaw25_BalanceBetter.l0, if_pos (by omega), if_pos (by omega), refsum_f k l (by omega) _ _ (by omega), Option.bind_some, w1c i (by omega)]; rfl
omit hl in
theorem was_end (k : Nat) (x7 x8 : List S67) (acc : Int) (out : List Int) (i : Nat) (hi : i = x7.length) :
    splicelaw25_BalanceBetter.l0 (k + 1) x7 x8 (l.map rp) acc out (i : Int) ep nx L l p0 p1 p2 n kd id at_ ep' nx' L' = splicelaw25_BalanceBetter.l1 k x8 (l.map rp) acc out ((0 : Nat) : Int) ep nx L l p0 p1 p2 n kd id at_ ep' nx' L' := by
  rw [splicelaw25_BalanceBetter.l0, if_neg (by omega)]; rfl
theorem is_step (k : Nat) (hk : 100 ≤ k) (x8 : List S67) (acc : Int) (out : List Int) (i : Nat) (hi : i < x8.length) (hi2 : i < 1000) (ho : out.length ≤ 1000) :
    splicelaw25_BalanceBetter.l1 (k + 1) x8 (l.map rp) acc out (i : Int) ep nx L l p0 p1 p2 n kd id at_ ep' nx' L' = splicelaw25_BalanceBetter.l1 k x8 (l.map rp) acc (out ++ [shAt l x8 i]) ((i + 1 : Nat) : Int) ep nx L l p0 p1 p2 n kd id at_ ep' nx' L' := by
  rw [splicelaw25_BalanceBetter.l1, if_pos (by omega), if_pos (by omega), refsum_f k l (by omega) _ _ (by omega), Option.bind_some, if_pos (by omega), w1c i (by omega)]; rfl
omit hl in
theorem end_split (k : Nat) (hk : 100 ≤ k) (x8 : List S67) (hx : x8.length = 2) (acc : Int) (a b : Int) (hkd : kd = 1) (h0 : p0 < acc) (ha : 0 < a) (hb : 0 < b) (hs : wrap64 (a + b) = acc) :
    splicelaw25_BalanceBetter.l1 (k + 1) x8 (l.map rp) acc [a, b] ((2 : Nat) : Int) ep nx L l p0 p1 p2 n kd id at_ ep' nx' L' = some true := by
  rw [splicelaw25_BalanceBetter.l1, if_neg (by omega), if_pos hkd, awake25_f k hk, Option.bind_some, if_pos rfl, if_pos (by omega), if_pos (show (([a, b] : List Int).length : Int) = 2 from rfl), if_pos (by simp), if_pos (show rd [a, b] 0 > 0 from ha), if_pos (by simp), if_pos (show rd [a, b] 1 > 0 from hb)]
  exact congrArg some (beq_iff_eq.mpr hs)
omit hl in
theorem end_merge (k : Nat) (hk : 100 ≤ k) (x8 : List S67) (hx : x8.length = 1) (acc : Int) (hkd : kd = 2) (h1 : acc ≤ p1) (hL : L.length ≤ 1000) (hs : L'.length + 1 = L.length) :
    splicelaw25_BalanceBetter.l1 (k + 1) x8 (l.map rp) acc [acc] ((1 : Nat) : Int) ep nx L l p0 p1 p2 n kd id at_ ep' nx' L' = some true := by
  rw [splicelaw25_BalanceBetter.l1, if_neg (by omega), if_neg (by omega), if_pos hkd, awake25_f k hk, Option.bind_some, if_pos rfl, if_pos (show (([acc] : List Int).length : Int) = 1 from rfl), if_pos (by simp), if_pos (show rd [acc] 0 = acc from rfl), if_pos h1]
  have : wrap64 ((L.length : Int) - 1) = (L'.length : Int) := by unfold wrap64; omega
  rw [this, beq_self_eq_true]
theorem end_shift (k : Nat) (hk : 1000 ≤ k) (x8 : List S67) (hx : x8.length = 1) (acc : Int) (hkd : kd = 3) (h1 : 0 < acc) (hL : L.length ≤ 60) (hL' : L'.length ≤ 60) (hm : mayB ep nx L l n = true) (hm' : mayB ep' nx' L' l n = true)
    (s s' : Int) (e : splicelaw25_squares.f k (nodesL l L (List.replicate n.toNat 0)) = some s) (e' : splicelaw25_squares.f k (nodesL l L' (List.replicate n.toNat 0)) = some s') (hs : s' < s) :
    splicelaw25_BalanceBetter.l1 (k + 1) x8 (l.map rp) acc [acc] ((1 : Nat) : Int) ep nx L l p0 p1 p2 n kd id at_ ep' nx' L' = some true := by
  have q : nodesS ep nx L l n = (nodesL l L (List.replicate n.toNat 0), 0) := by unfold nodesS; rw [if_pos hm]
  have q' : nodesS ep' nx' L' l n = (nodesL l L' (List.replicate n.toNat 0), 0) := by unfold nodesS; rw [if_pos hm']
  rw [splicelaw25_BalanceBetter.l1, if_neg (by omega), if_neg (by omega), if_neg (by omega), nodes_f k ep nx L (by omega) l (by omega) n (by omega), Option.bind_some, nodes_f k ep' nx' L' (by omega) l (by omega) n (by omega), Option.bind_some, awake25_f k (by omega), Option.bind_some, if_pos rfl, q, q', if_pos rfl, e', Option.bind_some, e, Option.bind_some, if_pos hs, if_pos (show (([acc] : List Int).length : Int) = 1 from rfl), if_pos (by simp), if_pos (show rd [acc] 0 = acc from rfl), decide_eq_true (show acc > 0 from h1)]
end loops
/-! ### the squares of the nodes' loads -/
def sqs : List Int → Int
  | [] => 0
  | x :: l => x * x + sqs l
theorem sqs_app : ∀ a b : List Int, sqs (a ++ b) = sqs a + sqs b := by
  intro a b
  induction a with
  | nil => simp [sqs]
  | cons x a ih => simp only [List.cons_append, sqs, ih]; omega
theorem squares_l0 (out : List Int) (ho : out.length ≤ 5) (hb : ∀ x ∈ out, 0 ≤ x ∧ x ≤ 59000000) : ∀ (d k i : Nat) (acc : Int), i + d = out.length → d < k → 0 ≤ acc → acc ≤ 3481000000000000 * i → splicelaw25_squares.l0 k out acc (i : Int) = some (acc + sqs (out.drop i)) := by
  intro d
  induction d with
  | zero =>
    intro k i acc hi hk _ _
    obtain ⟨k, rfl⟩ : ∃ m, k = m + 1 := ⟨k - 1, by omega⟩
    simp only [splicelaw25_squares.l0]
    rw [if_neg (by omega), List.drop_eq_nil_of_le (by omega)]; simp [sqs]
  | succ d ih =>
    intro k i acc hi hk h0 h1
    obtain ⟨k, rfl⟩ : ∃ m, k = m + 1 := ⟨k - 1, by omega⟩
    simp only [splicelaw25_squares.l0]
    rw [if_pos (by omega), if_pos (by omega), w1c i (by omega), rdi_get out i (by omega)]
    have hx := hb out[i] (List.getElem_mem _)
    rw [List.drop_eq_getElem_cons (by omega : i < out.length)]
    generalize out[i] = x at hx ⊢
    have a1 : 0 ≤ x * x := Int.mul_nonneg hx.1 hx.1
    have a2 : x * x ≤ 59000000 * 59000000 := Int.mul_le_mul hx.2 hx.2 hx.1 (by omega)
    have w : wrap64 (acc + wrap64 (x * x)) = acc + x * x := by
      generalize x * x = y at a1 a2 ⊢
      unfold wrap64; omega
    rw [w, ih k (i + 1) (acc + x * x) (by omega) (by omega) (by omega) (by omega)]
    simp only [sqs]; rw [Int.add_assoc]
theorem squares_f (k : Nat) (hk : 10 ≤ k) (out : List Int) (ho : out.length ≤ 5) (hb : ∀ x ∈ out, 0 ≤ x ∧ x ≤ 59000000) : splicelaw25_squares.f k out = some (sqs out) := by
  unfold splicelaw25_squares.f
  have := squares_l0 out ho hb out.length k 0 0 (by omega) (by omega) (by omega) (by omega)
  simpa using this
/-- a node's load, without wrap -/
def ld (l : List Pr70) (m : Int) : List S67 → Int
  | [] => 0
  | x :: L => (if x.f2 = m then shS l x else 0) + ld l m L
theorem ld_app (l : List Pr70) (m : Int) : ∀ a b : List S67, ld l m (a ++ b) = ld l m a + ld l m b := by
  intro a b
  induction a with
  | nil => simp [ld]
  | cons x a ih => simp only [List.cons_append, ld, ih]; omega
theorem ld_b (l : List Pr70) (h : SmallP l) (m : Int) : ∀ L : List S67, 0 ≤ ld l m L ∧ ld l m L ≤ 983040 * L.length := by
  intro L
  induction L with
  | nil => simp [ld]
  | cons x L ih =>
    have hx : 0 ≤ shS l x ∧ shS l x ≤ 983040 := sumS_b l h _ _
    simp only [ld, List.length_cons]
    split <;> omega
theorem load0_ld (l : List Pr70) (h : SmallP l) (m : Int) : ∀ (L : List S67) (acc : Int), 0 ≤ acc → acc + 983040 * L.length ≤ 1000000000 → load0 l m L acc = acc + ld l m L := by
  intro L
  induction L with
  | nil => intro acc _ _; simp [load0, ld]
  | cons x L ih =>
    intro acc h0 h1
    have hx : 0 ≤ shS l x ∧ shS l x ≤ 983040 := sumS_b l h _ _
    simp only [List.length_cons] at h1
    simp only [load0, ld]
    by_cases c : x.f2 = m
    · have w : wrap64 (acc + shS l x) = acc + shS l x := by unfold wrap64; omega
      rw [if_pos c, if_pos c, w, ih _ (by omega) (by omega)]; omega
    · rw [if_neg c, if_neg c, ih _ h0 (by omega)]; omega
theorem nodes_ld (l : List Pr70) (h : SmallP l) (L : List S67) (hL : L.length ≤ 60) (n : Nat) : nodesL l L (List.replicate n 0) = (List.range n).map (fun m : Nat => ld l (m : Int) L) := by
  unfold nodesL
  rw [List.length_replicate]
  refine List.map_congr_left (fun m hm => ?_)
  rw [List.mem_range] at hm
  rw [rdi_get _ m (by rw [List.length_replicate]; exact hm), List.getElem_replicate, load0_ld l h _ L 0 (by omega) (by omega)]; omega
def sqr (f : Nat → Int) : Nat → Int
  | 0 => 0
  | n + 1 => sqr f n + f n * f n
theorem sqs_sqr (f : Nat → Int) : ∀ n, sqs ((List.range n).map f) = sqr f n := by
  intro n
  induction n with
  | zero => rfl
  | succ n ih => rw [List.range_succ, List.map_append, sqs_app, ih]; simp [sqr, sqs]
theorem sqr_move (f g : Nat → Int) (a b : Nat) (hab : a ≠ b) (hg : ∀ m, m ≠ a → m ≠ b → g m = f m) : ∀ n, sqr g n = sqr f n + (if a < n then g a * g a - f a * f a else 0) + (if b < n then g b * g b - f b * f b else 0) := by
  intro n
  induction n with
  | zero => simp [sqr]
  | succ n ih =>
    simp only [sqr, ih]
    by_cases h1 : n = a
    · subst h1
      rw [if_neg (by omega : ¬ n < n), if_pos (by omega : n < n + 1)]
      by_cases h2 : b < n
      · rw [if_pos h2, if_pos (by omega : b < n + 1)]; omega
      · rw [if_neg h2, if_neg (by omega : ¬ b < n + 1)]; omega
    · by_cases h2 : n = b
      · subst h2
        rw [if_neg (by omega : ¬ n < n), if_pos (by omega : n < n + 1)]
        by_cases h3 : a < n
        · rw [if_pos h3, if_pos (by omega)]; omega
        · rw [if_neg h3, if_neg (by omega)]; omega
      · rw [hg n h1 h2]
        have e1 : (a < n + 1) = (a < n) := propext ⟨fun h => by omega, fun h => by omega⟩
        have e2 : (b < n + 1) = (b < n) := propext ⟨fun h => by omega, fun h => by omega⟩
        simp only [e1, e2]; omega
theorem nearer (A B w : Int) (h0 : 0 < w) (h1 : w < A - B) : (A - w) * (A - w) - A * A + ((B + w) * (B + w) - B * B) < 0 := by
  have h2 : 0 < w * (A - B - w) := Int.mul_pos h0 (by omega)
  have e : (A - w) * (A - w) - A * A + ((B + w) * (B + w) - B * B) = -2 * (w * (A - B - w)) := by
    simp only [Int.sub_mul, Int.mul_sub, Int.add_mul, Int.mul_add, Int.mul_comm B w, Int.mul_comm A w]
    omega
  omega
theorem shift_sq (kk : Nat) (hkk : 10 ≤ kk) (l : List Pr70) (h : SmallP l) (L : List S67) (hL : L.length ≤ 60) (j : Nat) (hj : j < L.length) (s' : S67) (hs : s'.f1 = (rd_T67 L (j : Int)).f1) (n fr to_ : Nat) (hn : n ≤ 5) (hfr : fr < n) (hto : to_ < n) (e1 : (rd_T67 L (j : Int)).f2 = (fr : Int)) (e2 : s'.f2 = (to_ : Int))
    (h0 : 0 < shAt l L j) (h1 : shAt l L j < wrap64 (rd (nodesL l L (List.replicate n 0)) (fr : Int) - rd (nodesL l L (List.replicate n 0)) (to_ : Int))) :
    ∃ a b, splicelaw25_squares.f kk (nodesL l L (List.replicate n 0)) = some a ∧ splicelaw25_squares.f kk (nodesL l (L.take j ++ [s'] ++ L.drop (j + 1)) (List.replicate n 0)) = some b ∧ b < a := by
  have hL' : (L.take j ++ [s'] ++ L.drop (j + 1)).length = L.length := by simp; omega
  have bnd : ∀ (K : List S67), K.length ≤ 60 → ∀ x ∈ (List.range n).map (fun m : Nat => ld l (m : Int) K), 0 ≤ x ∧ x ≤ 59000000 := fun K hK x hx => by
    obtain ⟨m, _, rfl⟩ := List.mem_map.mp hx
    have := ld_b l h (m : Int) K
    omega
  have get : ∀ m : Nat, m < n → rd ((List.range n).map (fun m : Nat => ld l (m : Int) L)) (m : Int) = ld l (m : Int) L := fun m hm => by
    rw [rdi_get _ m (by simpa using hm)]; simp
  rw [nodes_ld l h L hL] at h1
  rw [nodes_ld l h L hL, nodes_ld l h _ (by omega)]
  rw [get fr hfr, get to_ hto] at h1
  have bf := ld_b l h (fr : Int) L
  have bt := ld_b l h (to_ : Int) L
  have w : wrap64 (ld l (fr : Int) L - ld l (to_ : Int) L) = ld l (fr : Int) L - ld l (to_ : Int) L := by unfold wrap64; omega
  rw [w] at h1
  refine ⟨_, _, squares_f kk hkk _ (by simpa using hn) (bnd L hL), squares_f kk hkk _ (by simpa using hn) (bnd _ (by omega)), ?_⟩
  rw [sqs_sqr, sqs_sqr]
  have sL : L = L.take j ++ [rd_T67 L (j : Int)] ++ L.drop (j + 1) := by
    rw [List.append_assoc, List.singleton_append, ← drop_rd L j hj, List.take_append_drop]
  have hw : shS l s' = shAt l L j := by unfold shAt shS; rw [hs]
  have move : ∀ m : Int, ld l m (L.take j ++ [s'] ++ L.drop (j + 1)) = ld l m L - (if (fr : Int) = m then shAt l L j else 0) + (if (to_ : Int) = m then shAt l L j else 0) := fun m => by
    have e : ld l m L = ld l m (L.take j) + (if (fr : Int) = m then shAt l L j else 0) + ld l m (L.drop (j + 1)) := by
      conv => lhs; rw [sL]
      rw [ld_app, ld_app]; simp only [ld]; rw [e1, show shS l (rd_T67 L (j : Int)) = shAt l L j from rfl]; omega
    rw [e, ld_app, ld_app]; simp only [ld]; rw [e2, hw]; omega
  have hne : fr ≠ to_ := fun q => by subst q; omega
  rw [sqr_move (fun m : Nat => ld l (m : Int) L) _ fr to_ hne (fun m h3 h4 => by
    show ld l (m : Int) (L.take j ++ [s'] ++ L.drop (j + 1)) = ld l (m : Int) L
    rw [move, if_neg (by omega), if_neg (by omega)]; omega) n, if_pos hfr, if_pos hto]
  have m1 : ld l (fr : Int) (L.take j ++ [s'] ++ L.drop (j + 1)) = ld l (fr : Int) L - shAt l L j := by rw [move, if_pos rfl, if_neg (by omega)]; omega
  have m2 : ld l (to_ : Int) (L.take j ++ [s'] ++ L.drop (j + 1)) = ld l (to_ : Int) L + shAt l L j := by rw [move, if_neg (by omega), if_pos rfl]; omega
  simp only [m1, m2]
  have := nearer _ _ _ h0 h1
  omega
theorem better_ok (ep nx : Int) (L : List S67) (hL : L.length ≤ 60) (l : List Pr70) (h : SmallP l) (p0 p1 p2 n kd id at_ : Int) (hm : mayB ep nx L l n = true) (ha : (applyS ep nx L kd id at_).2.2.2.2.2 = 0) (hsug : Sug l L (nodesS ep nx L l n).1 p0 p1 kd id at_) :
    splicelaw25_BalanceBetter.l0 1100 (applyS ep nx L kd id at_).2.2.2.1 (applyS ep nx L kd id at_).2.2.2.2.1 (l.map rp) 0 [] 0 ep nx L l p0 p1 p2 n kd id at_ (applyS ep nx L kd id at_).1 (applyS ep nx L kd id at_).2.1 (applyS ep nx L kd id at_).2.2.1 = some true := by
  have hm2 := hm
  simp only [mayB, Bool.and_eq_true, decide_eq_true_eq, Bool.not_eq_true'] at hm2
  obtain ⟨hfar, hc, hld, hn1, hn5⟩ := hm2
  have hg := good_of ep nx L hc
  have hgp := goodp_of l hld
  have hlen := h.len
  have e3 : (nodesS ep nx L l n).1 = nodesL l L (List.replicate n.toNat 0) := by unfold nodesS; rw [if_pos hm]
  have e4 : (nodesL l L (List.replicate n.toNat 0)).length = n.toNat := by simp [nodesL]
  generalize hS : applyS ep nx L kd id at_ = S at ha ⊢
  obtain ⟨ep', nx', L', old, fresh, err⟩ := S
  dsimp only at ha ⊢
  subst ha
  obtain ⟨hc', _, j, hj, hid, hmc, h0, hf, ho, _, hL2⟩ := apply_ok ep nx L kd id at_ ep' nx' L' old fresh hS hc
  have same : ∀ b : Nat, b < L.length → id = (rd_T67 L (b : Int)).f0 → b = j := fun b hb e => by
    by_cases c1 : b < j
    · exact absurd (e.symm.trans hid.symm) (hg.apart b j c1 hj)
    by_cases c2 : j < b
    · exact absurd (hid.trans e) (hg.apart j b c2 hb)
    omega
  have sp := hg.one j hj
  simp only [oneS, Bool.and_eq_true, decide_eq_true_eq] at sp
  have bj : 0 ≤ shAt l L j ∧ shAt l L j ≤ 983040 := sumS_b l h _ _
  rw [e3] at hsug
  rcases hsug with ⟨hk, b, hb, hid2, hhi, hparts⟩ | ⟨hk, b, fr, hb, hfr, ha1, ha2, hid2, hf2, hw0, hw1⟩ | ⟨hk, b, hb, hid2, hlow⟩
  · -- a split
    have := same b hb hid2
    subst this
    subst hk
    unfold chg at hf ho h0
    dsimp only at hf ho h0
    rw [if_pos rfl] at hf ho h0
    by_cases hcut : at_ ≤ (rd_T67 L (b : Int)).f1.f0 ∨ at_ ≥ (rd_T67 L (b : Int)).f1.f1
    · rw [if_pos hcut] at h0; simp at h0
    rw [if_neg hcut] at hf ho
    dsimp only at hf ho
    rw [take_one L b hj] at ho
    subst hf ho
    have add := sumS_add l h (rd_T67 L (b : Int)).f1.f0 at_ (rd_T67 L (b : Int)).f1.f1 (by omega) (by omega)
    have pa : 0 < sumS l (rd_T67 L (b : Int)).f1.f0 at_ := by rw [sumS_sm l h]; exact sm_pos _ _ l hgp.val hparts.1
    have pb : 0 < sumS l at_ (rd_T67 L (b : Int)).f1.f1 := by rw [sumS_sm l h]; exact sm_pos _ _ l hgp.val hparts.2
    have hacc : wrap64 (0 + shAt l [rd_T67 L (b : Int)] 0) = shAt l L b := by
      show wrap64 (0 + shAt l L b) = shAt l L b
      unfold wrap64; omega
    refine (was_step l hlen ep nx L p0 p1 p2 n 1 id at_ ep' nx' L' 1099 (by omega) _ _ 0 [] 0 (by simp) (by omega)).trans ?_
    rw [hacc, was_end l ep nx L p0 p1 p2 n 1 id at_ ep' nx' L' 1098 _ _ _ [] (0 + 1) rfl,
      is_step l hlen ep nx L p0 p1 p2 n 1 id at_ ep' nx' L' 1097 (by omega) _ _ [] 0 (by simp) (by omega) (by simp),
      is_step l hlen ep nx L p0 p1 p2 n 1 id at_ ep' nx' L' 1096 (by omega) _ _ _ (0 + 1) (by simp) (by omega) (by simp)]
    refine end_split l ep nx L p0 p1 p2 n 1 id at_ ep' nx' L' 1095 (by omega) _ rfl _ _ _ rfl hhi pa pb ?_
    show wrap64 (sumS l (rd_T67 L (b : Int)).f1.f0 at_ + sumS l at_ (rd_T67 L (b : Int)).f1.f1) = shAt l L b
    rw [add]
    show wrap64 (shAt l L b) = shAt l L b
    unfold wrap64; omega
  · -- a shift
    have := same b hb hid2
    subst this
    subst hk
    unfold chg at hf ho hL2
    dsimp only at hf ho hL2
    rw [if_neg (by decide), if_neg (by decide)] at hf ho hL2
    dsimp only at hf ho hL2
    rw [take_one L b hj] at ho
    obtain ⟨tn, rfl⟩ : ∃ m : Nat, at_ = (m : Int) := ⟨at_.toNat, by omega⟩
    have hL'len : L'.length = L.length := by rw [hL2, hf]; simp; omega
    have hm' : mayB ep' nx' L' l n = true := by
      unfold mayB
      rw [hc', hld, decide_eq_true hn1, decide_eq_true hn5]
      have : L'.any (farN n) = false := by
        rw [List.any_eq_false] at hfar ⊢
        intro x hx
        rw [hL2, hf] at hx
        rcases List.mem_append.mp hx with hx | hx
        · rcases List.mem_append.mp hx with hx | hx
          · exact hfar x (List.mem_of_mem_take hx)
          · rw [List.mem_singleton] at hx
            subst hx
            simp only [farN, decide_eq_true_eq]; omega
        · exact hfar x (List.mem_of_mem_drop hx)
      rw [this]; rfl
    obtain ⟨s, s', es, es', hss⟩ := shift_sq 1096 (by omega) l h L hL b hj ⟨nx, (rd_T67 L (b : Int)).f1, (tn : Int)⟩ rfl n.toNat fr tn (by omega) (by omega) (by omega) hf2 rfl hw0 hw1
    rw [hf] at hL2
    rw [← hL2] at es'
    subst hf ho
    have hacc : wrap64 (0 + shAt l [rd_T67 L (b : Int)] 0) = shAt l L b := by
      show wrap64 (0 + shAt l L b) = shAt l L b
      unfold wrap64; omega
    refine (was_step l hlen ep nx L p0 p1 p2 n 3 id (tn : Int) ep' nx' L' 1099 (by omega) _ _ 0 [] 0 (by simp) (by omega)).trans ?_
    rw [hacc, was_end l ep nx L p0 p1 p2 n 3 id (tn : Int) ep' nx' L' 1098 _ _ _ [] (0 + 1) rfl,
      is_step l hlen ep nx L p0 p1 p2 n 3 id (tn : Int) ep' nx' L' 1097 (by omega) _ _ [] 0 (by simp) (by omega) (by simp)]
    exact end_shift l hlen ep nx L p0 p1 p2 n 3 id (tn : Int) ep' nx' L' 1096 (by omega) _ rfl _ rfl hw0 hL (by omega) hm hm' s s' es es' hss
  · -- a merge
    have := same b (by omega) hid2
    subst this
    subst hk
    unfold chg at hf ho h0 hL2
    dsimp only at hf ho h0 hL2
    rw [if_neg (by decide), if_pos rfl, if_neg (by omega)] at hf ho hL2
    dsimp only at hf ho hL2
    rw [take_both L b hb] at ho
    have hL'len : L'.length + 1 = L.length := by rw [hL2, hf]; simp; omega
    have adj := check_adj ep nx L hc b hb
    have bj1 : 0 ≤ shAt l L (b + 1) ∧ shAt l L (b + 1) ≤ 983040 := sumS_b l h _ _
    have sp1 := hg.one (b + 1) hb
    simp only [oneS, Bool.and_eq_true, decide_eq_true_eq] at sp1
    have w : wrap64 (shAt l L b + shAt l L (b + 1)) = shAt l L b + shAt l L (b + 1) := by unfold wrap64; omega
    rw [w] at hlow
    have add := sumS_add l h (rd_T67 L (b : Int)).f1.f0 (rd_T67 L (b : Int)).f1.f1 (rd_T67 L ((b + 1 : Nat) : Int)).f1.f1 (by omega) (by omega)
    have add2 : shAt l L b + shAt l L (b + 1) = sumS l (rd_T67 L (b : Int)).f1.f0 (rd_T67 L ((b + 1 : Nat) : Int)).f1.f1 := by
      rw [← add]; unfold shAt shS; rw [adj]
    subst hf ho
    have hacc : wrap64 (0 + shAt l [rd_T67 L (b : Int), rd_T67 L ((b + 1 : Nat) : Int)] 0) = shAt l L b := by
      show wrap64 (0 + shAt l L b) = shAt l L b
      unfold wrap64; omega
    have hacc2 : wrap64 (shAt l L b + shAt l [rd_T67 L (b : Int), rd_T67 L ((b + 1 : Nat) : Int)] (0 + 1)) = shAt l L b + shAt l L (b + 1) := w
    refine (was_step l hlen ep nx L p0 p1 p2 n 2 id at_ ep' nx' L' 1099 (by omega) _ _ 0 [] 0 (by simp) (by omega)).trans ?_
    rw [hacc, was_step l hlen ep nx L p0 p1 p2 n 2 id at_ ep' nx' L' 1098 (by omega) _ _ _ [] (0 + 1) (by simp) (by omega), hacc2, was_end l ep nx L p0 p1 p2 n 2 id at_ ep' nx' L' 1097 _ _ _ [] (0 + 1 + 1) rfl,
      is_step l hlen ep nx L p0 p1 p2 n 2 id at_ ep' nx' L' 1096 (by omega) _ _ [] 0 (by simp) (by omega) (by simp)]
    have hout : ([] ++ [shAt l [(⟨nx, ⟨(rd_T67 L (b : Int)).f1.f0, (rd_T67 L ((b + 1 : Nat) : Int)).f1.f1⟩, (rd_T67 L (b : Int)).f2⟩ : S67)] 0] : List Int) = [shAt l L b + shAt l L (b + 1)] := by rw [add2]; rfl
    rw [hout]
    exact end_merge l ep nx L p0 p1 p2 n 2 id at_ ep' nx' L' 1095 (by omega) _ rfl _ rfl hlow (by omega) hL'len
theorem BalanceBetter : splicelaw25_BalanceBetter.Pure := by
  intro x hx
  refine ⟨1102, ?_⟩
  have asleep : ∀ a b c d e f g h, splicelaw25_BalanceBetter.j0 1102 true a b c d e f g h = some true := fun a b c d e f g h => by
    simp only [splicelaw25_BalanceBetter.j0]
    rw [if_pos trivial, awake25_f 1101 (by omega)]; rfl
  unfold splicelaw25_BalanceBetter.f splicelaw25_few.f
  by_cases h60 : (x.f0.f2.length : Int) ≤ 60
  case neg => rw [if_neg h60, Option.bind_some, if_neg (by decide)]; exact asleep _ _ _ _ _ _ _ _
  rw [if_pos h60, Option.bind_some]
  by_cases h61 : (x.f1.length : Int) ≤ 60
  case neg => rw [decide_eq_false h61, if_neg (by decide)]; exact asleep _ _ _ _ _ _ _ _
  have hL : x.f0.f2.length ≤ 60 := by omega
  have hl : x.f1.length ≤ 60 := by omega
  obtain ⟨t, et, gt⟩ := small_l0 x.f1 hl x.f1.length 1102 0 (by omega) (by omega)
  have et2 : splicelaw25_small.f 1102 x.f1 = some t := et
  rw [decide_eq_true h61, if_pos rfl, et2, Option.bind_some]
  cases t with
  | false => exact asleep _ _ _ _ _ _ _ _
  | true =>
    have hsm := gt rfl
    rw [List.drop_zero] at hsm
    simp only [splicelaw25_BalanceBetter.j0]
    rw [if_neg (by decide)]
    obtain ⟨s, es, gs⟩ := suggest_f 1101 (by omega) x.f0.f0 x.f0.f1 x.f0.f2 hL x.f1 hl x.f2.f0 x.f2.f1 x.f2.f2 x.f3
    rw [es, Option.bind_some]
    have asleep1 : splicelaw25_BalanceBetter.j1 1101 true x.f0.f0 x.f0.f1 x.f0.f2 x.f1 x.f2.f0 x.f2.f1 x.f2.f2 x.f3 s.1 s.2.1 s.2.2.1 = some true := by
      simp only [splicelaw25_BalanceBetter.j1]
      rw [if_pos trivial, awake25_f 1100 (by omega)]; rfl
    by_cases c : s.2.2.2.2 = 0
    case neg => rw [if_neg c]; exact asleep1
    rw [if_pos c]
    by_cases d : s.2.2.2.1 = true
    case neg => rw [Bool.eq_false_iff.mpr d]; exact asleep1
    obtain ⟨hm, ha, hsug⟩ := gs c d
    have hm2 := hm
    simp only [mayB, Bool.and_eq_true, decide_eq_true_eq] at hm2
    have hgp := goodp_of x.f1 hm2.2.2.1
    rw [d]
    simp only [splicelaw25_BalanceBetter.j1]
    rw [if_neg (by decide), apply_f 1100 _ _ _ (by omega) _ _ _ (by omega), Option.bind_some, if_pos ha, refsp_f 1100 x.f1 (by omega) (by omega), Option.bind_some]
    exact better_ok x.f0.f0 x.f0.f1 x.f0.f2 hL x.f1 ⟨hl, fun y hy => ⟨hgp.val y hy, hsm y hy⟩⟩ _ _ _ _ _ _ _ hm ha hsug

end Go.Proofs.Yteclhjhnbolkmaa.Pure
