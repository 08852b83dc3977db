import Derived.Test.YtlmecdlbnpnajaaPBx1
import Derived.Test.YtlmecdlbnpnajaaPBx2
import Derived.Test.YtlmecdlbnpnajaaPBx3
import Derived.Test.YtlmecdlbnpnajaaBQ1
namespace Go.Proofs.Ytlmecdlbnpnajaa.PB
open Go.RowKit Go.Proofs.YtlmecdlbnpnajaaW.PrintWords Go.Proofs.YtlmecdlbnpnajaaW.PrintLast Go.Proofs.YtlmecdlbnpnajaaW.PrintMore
set_option linter.unusedVariables false
set_option linter.unusedSimpArgs false

namespace Crc
def poly : BitVec 32 := 0xedb88320#32
/-- one bit step -/
def st (c : BitVec 32) : BitVec 32 := (c >>> 1) ^^^ (if c.getLsbD 0 = true then poly else 0#32)
theorem st_xor (a b : BitVec 32) : st (a ^^^ b) = st a ^^^ st b := by
  unfold st
  rw [BitVec.getLsbD_xor]
  have h : (a ^^^ b) >>> 1 = (a >>> 1) ^^^ (b >>> 1) := by
    apply BitVec.eq_of_getLsbD_eq; intro i hi; simp
  rw [h]
  generalize a >>> 1 = x
  generalize b >>> 1 = y
  have e1 : ∀ p : BitVec 32, (x ^^^ y) ^^^ p = (x ^^^ p) ^^^ (y ^^^ 0#32) := by intro p; rw [BitVec.xor_zero, BitVec.xor_assoc, BitVec.xor_comm y p, ← BitVec.xor_assoc]
  cases ha : a.getLsbD 0 <;> cases hb : b.getLsbD 0
  · simp
  · simp only [Bool.false_bne, ↓reduceIte, Bool.false_eq_true, BitVec.xor_zero]; rw [BitVec.xor_assoc]
  · simp only [Bool.true_bne, Bool.not_false, ↓reduceIte, Bool.false_eq_true]; exact e1 _
  · simp only [bne_self_eq_false, ↓reduceIte, Bool.false_eq_true, BitVec.xor_zero]
    rw [BitVec.xor_assoc x, BitVec.xor_comm y, ← BitVec.xor_assoc poly, BitVec.xor_self, BitVec.zero_xor]
theorem st_zero : st 0#32 = 0#32 := by decide
theorem st_inj0 (c : BitVec 32) (h : st c = 0#32) : c = 0#32 := by
  have h31 : (st c).getLsbD 31 = false := by rw [h]; simp
  have h0 : c.getLsbD 0 = false := by
    cases h0 : c.getLsbD 0 with
    | false => rfl
    | true => unfold st at h31; rw [if_pos h0] at h31; simp [poly] at h31
  unfold st at h
  rw [h0] at h
  simp only [Bool.false_eq_true, ↓reduceIte, BitVec.xor_zero] at h
  apply BitVec.eq_of_getLsbD_eq
  intro i hi
  rcases i with _ | i
  · simpa using h0
  · have := congrArg (fun x => x.getLsbD i) h
    simp only [BitVec.getLsbD_ushiftRight, BitVec.getLsbD_zero] at this
    rw [Nat.add_comm i 1, this]; simp
theorem st_inj (a b : BitVec 32) (h : st a = st b) : a = b := by
  have : st (a ^^^ b) = 0#32 := by rw [st_xor, h, BitVec.xor_self]
  have := st_inj0 _ this
  exact BitVec.xor_eq_zero_iff.1 this
/-- feeding one bit -/
def fb (c : BitVec 32) (b : Bool) : BitVec 32 := st (c ^^^ (if b = true then 1#32 else 0#32))
/-- feeding bits -/
def fbs (c : BitVec 32) (l : List Bool) : BitVec 32 := l.foldl fb c
theorem fbs_append (c : BitVec 32) (l m : List Bool) : fbs c (l ++ m) = fbs (fbs c l) m := List.foldl_append
def xl : List Bool → List Bool → List Bool := List.zipWith Bool.xor
theorem fb_xor (c d : BitVec 32) (a b : Bool) : fb (c ^^^ d) (Bool.xor a b) = fb c a ^^^ fb d b := by
  unfold fb
  rw [← st_xor]
  congr 1
  cases a <;> cases b <;> simp
  · rw [BitVec.xor_assoc]
  · rw [BitVec.xor_assoc, BitVec.xor_assoc, BitVec.xor_comm d]
  · rw [BitVec.xor_assoc, BitVec.xor_comm 1#32, BitVec.xor_assoc, BitVec.xor_self, BitVec.xor_zero]
theorem fbs_xor (l m : List Bool) (h : l.length = m.length) : ∀ c d : BitVec 32, fbs (c ^^^ d) (xl l m) = fbs c l ^^^ fbs d m := by
  induction l generalizing m with
  | nil => intro c d; cases m with | nil => rfl | cons => simp at h
  | cons a l ih =>
    cases m with
    | nil => simp at h
    | cons b m =>
      intro c d
      show fbs (fb (c ^^^ d) (Bool.xor a b)) (xl l m) = _
      rw [fb_xor]; exact ih m (by simpa using h) _ _
theorem fbs_zeros (n : Nat) : ∀ c : BitVec 32, c ≠ 0#32 → fbs c (List.replicate n false) ≠ 0#32 := by
  induction n with
  | zero => intro c h; exact h
  | succ n ih =>
    intro c h
    show fbs (fb c false) (List.replicate n false) ≠ 0#32
    apply ih
    intro e
    apply h
    unfold fb at e
    simpa using st_inj0 _ e
theorem fbs_zeros0 (n : Nat) : fbs 0#32 (List.replicate n false) = 0#32 := by
  induction n with
  | zero => rfl
  | succ n ih =>
    show fbs (fb 0#32 false) (List.replicate n false) = _
    have : fb 0#32 false = 0#32 := by decide
    rw [this]; exact ih
/-- the bits as a number, the first the lowest -/
def ob (l : List Bool) : BitVec 32 := BitVec.ofNat 32 ((l.foldr (fun b n => 2 * n + b.toNat) 0))
theorem ob_get (l : List Bool) : ∀ i, i < 32 → (ob l).getLsbD i = l.getD i false := by
  intro i hi
  unfold ob
  rw [BitVec.getLsbD_ofNat]
  simp only [hi, decide_true, Bool.true_and]
  clear hi
  induction l generalizing i with
  | nil => simp
  | cons b l ih =>
    cases i with
    | zero => simp only [List.foldr_cons, List.getD_cons_zero]; cases b <;> simp [Nat.testBit_zero]
    | succ i =>
      simp only [List.foldr_cons, List.getD_cons_succ]
      rw [← ih i, Nat.testBit_succ]
      congr 1
      cases b <;> simp <;> omega
def stn : Nat → BitVec 32 → BitVec 32
  | 0, c => c
  | n + 1, c => stn n (st c)
theorem stn_inj0 (n : Nat) : ∀ c, stn n c = 0#32 → c = 0#32 := by
  induction n with
  | zero => intro c h; exact h
  | succ n ih => intro c h; exact st_inj0 _ (ih _ h)
theorem stn_inj (n : Nat) : ∀ a b, stn n a = stn n b → a = b := by
  induction n with
  | zero => intro a b h; exact h
  | succ n ih => intro a b h; exact st_inj _ _ (ih _ _ h)
theorem ob_cons (b : Bool) (l : List Bool) : ob (b :: l) = (if b = true then 1#32 else 0#32) ^^^ ob (false :: l) := by
  apply BitVec.eq_of_getLsbD_eq
  intro i hi
  rw [BitVec.getLsbD_xor, ob_get _ i hi, ob_get _ i hi]
  cases i with
  | zero => cases b <;> simp
  | succ i => cases b <;> simp
theorem st_ob (l : List Bool) (h : l.length < 32) : st (ob (false :: l)) = ob l := by
  have h0 : (ob (false :: l)).getLsbD 0 = false := by rw [ob_get _ 0 (by omega)]; rfl
  unfold st
  rw [h0]
  simp only [Bool.false_eq_true, ↓reduceIte, BitVec.xor_zero]
  apply BitVec.eq_of_getLsbD_eq
  intro i hi
  rw [BitVec.getLsbD_ushiftRight, ob_get l i hi]
  by_cases h1 : 1 + i < 32
  · rw [ob_get _ _ h1, Nat.add_comm]; rfl
  · rw [BitVec.getLsbD_of_ge _ _ (by omega)]
    have : l.length ≤ i := by omega
    simp [this]
theorem fbs_stn (l : List Bool) (h : l.length ≤ 32) : ∀ c, fbs c l = stn l.length (c ^^^ ob l) := by
  induction l with
  | nil => intro c; show c = c ^^^ ob []; have : ob [] = 0#32 := by decide
           rw [this]; simp
  | cons b l ih =>
    intro c
    have hl : l.length < 32 := by have := h; simp at this; omega
    show fbs (fb c b) l = stn l.length (st (c ^^^ ob (b :: l)))
    rw [ih (by omega), ob_cons b l, ← BitVec.xor_assoc, st_xor, st_ob l hl]
    rfl
theorem fbs_short (l : List Bool) (h : l.length ≤ 32) (h0 : fbs 0#32 l = 0#32) : ∀ i, l.getD i false = false := by
  rw [fbs_stn l h] at h0
  have := stn_inj0 _ _ h0
  rw [BitVec.zero_xor] at this
  intro i
  by_cases hi : i < 32
  · rw [← ob_get l i hi, this]; simp
  · have : l.length ≤ i := by omega
    simp [this]
/-- a burst of at most 32 bits is seen -/
theorem burst (c : BitVec 32) (f g : List Bool) (hl : f.length = g.length) (a b : Nat) (w : List Bool) (hw : w.length ≤ 32) (hx : xl f g = List.replicate a false ++ w ++ List.replicate b false) (h : fbs c f = fbs c g) : ∀ i, w.getD i false = false := by
  have h1 := fbs_xor f g hl c c
  rw [BitVec.xor_self, h, BitVec.xor_self, hx, fbs_append, fbs_append, fbs_zeros0] at h1
  apply fbs_short w hw
  apply Classical.byContradiction
  intro hne
  exact fbs_zeros b _ hne h1
theorem getD_app_l {α : Type} (l m : List α) (d : α) (i : Nat) (h : i < l.length) : (l ++ m).getD i d = l.getD i d := by
  rw [List.getD_eq_getElem?_getD, List.getElem?_append_left h, ← List.getD_eq_getElem?_getD]
theorem getD_app_r {α : Type} (l m : List α) (d : α) (i : Nat) (h : l.length ≤ i) : (l ++ m).getD i d = m.getD (i - l.length) d := by
  rw [List.getD_eq_getElem?_getD, List.getElem?_append_right h, ← List.getD_eq_getElem?_getD]
def byteBits (x : Nat) : List Bool := (List.range 8).map x.testBit
def bitsOf (l : List Nat) : List Bool := l.flatMap byteBits
theorem byteBits_len (x : Nat) : (byteBits x).length = 8 := by simp [byteBits]
theorem bitsOf_append (l m : List Nat) : bitsOf (l ++ m) = bitsOf l ++ bitsOf m := by simp [bitsOf]
theorem bitsOf_cons (x : Nat) (m : List Nat) : bitsOf (x :: m) = byteBits x ++ bitsOf m := by simp [bitsOf]
theorem bitsOf_len (l : List Nat) : (bitsOf l).length = 8 * l.length := by
  induction l with
  | nil => rfl
  | cons x l ih => rw [bitsOf_cons, List.length_append, byteBits_len, ih, List.length_cons]; omega
theorem byteBits_get (x i : Nat) (h : i < 8) : (byteBits x).getD i false = x.testBit i := by
  simp [byteBits, h]
theorem bitsOf_get (l : List Nat) : ∀ i, i < 8 * l.length → (bitsOf l).getD i false = (l.getD (i / 8) 0).testBit (i % 8) := by
  induction l with
  | nil => intro i h; simp at h
  | cons x l ih =>
    intro i h
    rw [bitsOf_cons]
    by_cases h8 : i < 8
    · rw [getD_app_l _ _ _ _ (by rw [byteBits_len]; exact h8), byteBits_get x i h8, Nat.div_eq_of_lt h8, Nat.mod_eq_of_lt h8]; rfl
    · rw [getD_app_r _ _ _ _ (by rw [byteBits_len]; omega), byteBits_len, ih (i - 8) (by rw [List.length_cons] at h; omega)]
      have e1 : i / 8 = (i - 8) / 8 + 1 := by omega
      have e2 : i % 8 = (i - 8) % 8 := by omega
      rw [e1, e2]; rfl
def feed (c : BitVec 32) (l : List Nat) : BitVec 32 := fbs c (bitsOf l)
theorem feed_append (c : BitVec 32) (l m : List Nat) : feed c (l ++ m) = feed (feed c l) m := by unfold feed; rw [bitsOf_append, fbs_append]
def sum (l : List Nat) : BitVec 32 := ~~~ (feed (BitVec.allOnes 32) l)
theorem ob_byteBits (x : Nat) (h : x < 256) : ob (byteBits x) = BitVec.ofNat 32 x := by
  apply BitVec.eq_of_getLsbD_eq
  intro i hi
  rw [ob_get _ i hi, BitVec.getLsbD_ofNat]
  by_cases h8 : i < 8
  · rw [byteBits_get x i h8]; simp [hi]
  · have : x.testBit i = false := Nat.testBit_lt_two_pow (Nat.lt_of_lt_of_le h (by rw [show 256 = 2 ^ 8 by rfl]; exact Nat.pow_le_pow_right (by decide) (by omega)))
    rw [this, Bool.and_false]
    have : (byteBits x).length ≤ i := by rw [byteBits_len]; omega
    simp [this]
theorem feed_byte (c : BitVec 32) (x : Nat) (h : x < 256) : feed c [x] = stn 8 (c ^^^ BitVec.ofNat 32 x) := by
  unfold feed
  rw [show bitsOf [x] = byteBits x by simp [bitsOf], fbs_stn _ (by rw [byteBits_len]; omega), byteBits_len, ob_byteBits x h]
/-- a sum's four bytes -/
def four (c : BitVec 32) : List Nat := [c.toNat % 256, c.toNat / 256 % 256, c.toNat / 65536 % 256, c.toNat / 16777216 % 256]
theorem ob_four (c : BitVec 32) : ob (bitsOf (four c)) = c := by
  apply BitVec.eq_of_getLsbD_eq
  intro i hi
  rw [ob_get _ i hi, bitsOf_get _ i (by simp [four]; omega), ← BitVec.testBit_toNat]
  have k : ∀ j n, j < 8 → (c.toNat / 2 ^ n % 256).testBit j = c.toNat.testBit (n + j) := by
    intro j n hj
    rw [show 256 = 2 ^ 8 by rfl, Nat.testBit_mod_two_pow, Nat.testBit_div_two_pow]
    simp [hj, Nat.add_comm]
  have hq : i / 8 = 0 ∨ i / 8 = 1 ∨ i / 8 = 2 ∨ i / 8 = 3 := by omega
  have hj : i % 8 < 8 := Nat.mod_lt _ (by decide)
  rcases hq with q | q | q | q <;> rw [q] <;> simp only [four, List.getD_cons_zero, List.getD_cons_succ]
  · have := k (i % 8) 0 hj; rw [show c.toNat / 2 ^ 0 = c.toNat by simp] at this; rw [this]; congr 1; omega
  · have := k (i % 8) 8 hj; rw [show (256:Nat) = 2 ^ 8 by rfl]; rw [show (256:Nat) = 2 ^ 8 by rfl] at this; rw [this]; congr 1; omega
  · have := k (i % 8) 16 hj; rw [show (65536:Nat) = 2 ^ 16 by rfl]; rw [this]; congr 1; omega
  · have := k (i % 8) 24 hj; rw [show (16777216:Nat) = 2 ^ 24 by rfl]; rw [this]; congr 1; omega
theorem feed_four (c s : BitVec 32) : feed c (four s) = stn 32 (c ^^^ s) := by
  unfold feed
  have hl : (bitsOf (four s)).length = 32 := by rw [bitsOf_len]; rfl
  rw [fbs_stn _ (by omega), hl, ob_four]
/-- the check, as one feed -/
theorem check_iff (t : List Nat) (s : BitVec 32) : sum t = s ↔ feed (BitVec.allOnes 32) (t ++ four s) = stn 32 (BitVec.allOnes 32) := by
  rw [feed_append, feed_four]
  have e : ∀ c : BitVec 32, ~~~ c = c ^^^ BitVec.allOnes 32 := fun c => by rw [BitVec.xor_allOnes]
  unfold sum
  rw [e]
  generalize feed (BitVec.allOnes 32) t = c
  constructor
  · intro h; rw [← h, ← BitVec.xor_assoc, BitVec.xor_self, BitVec.zero_xor]
  · intro h
    have := stn_inj _ _ _ h
    rw [← this, ← BitVec.xor_assoc, BitVec.xor_self, BitVec.zero_xor]
theorem feed_len_xor (l m : List Nat) (h : l.length = m.length) (c d : BitVec 32) : fbs (c ^^^ d) (xl (bitsOf l) (bitsOf m)) = feed c l ^^^ feed d m := fbs_xor _ _ (by rw [bitsOf_len, bitsOf_len, h]) c d
end Crc

/-! sums -/
theorem bw32 (c : BitVec 32) : BitVec.ofInt 32 ((c.toNat : Nat) : Int) = c := by
  rw [BitVec.ofInt_natCast]; simp
theorem xor32 (a b : BitVec 32) : Go.bits .xor .u32 ((a.toNat : Nat) : Int) ((b.toNat : Nat) : Int) = (((a ^^^ b).toNat : Nat) : Int) := by
  show IntKind.u32.wrap ((BitVec.ofInt 32 ((a.toNat : Nat) : Int) ^^^ BitVec.ofInt 32 ((b.toNat : Nat) : Int)).toNat : Int) = _
  rw [bw32, bw32, IntKind.wrap_u32]
  have := (a ^^^ b).isLt
  omega
theorem and32 (a b : BitVec 32) : Go.bits .and .u32 ((a.toNat : Nat) : Int) ((b.toNat : Nat) : Int) = (((a &&& b).toNat : Nat) : Int) := by
  show IntKind.u32.wrap ((BitVec.ofInt 32 ((a.toNat : Nat) : Int) &&& BitVec.ofInt 32 ((b.toNat : Nat) : Int)).toNat : Int) = _
  rw [bw32, bw32, IntKind.wrap_u32]
  have := (a &&& b).isLt
  omega
theorem half32 (c : BitVec 32) : ((c.toNat : Nat) : Int) / (2 : Int) = (((c >>> 1).toNat : Nat) : Int) := by
  rw [BitVec.toNat_ushiftRight, Nat.shiftRight_eq_div_pow]
  omega
theorem lsb_and (c : BitVec 32) : c &&& 1#32 = if c.getLsbD 0 = true then 1#32 else 0#32 := by
  apply BitVec.eq_of_getLsbD_eq
  intro i hi
  rw [BitVec.getLsbD_and]
  cases i with
  | zero => cases h : c.getLsbD 0 <;> simp
  | succ i => cases h : c.getLsbD 0 <;> simp
theorem step32 (c : BitVec 32) : Go.bits .xor .u32 (((c.toNat : Nat) : Int) / 2) (Go.bits .and .u32 3988292384 ((-(Go.bits .and .u32 ((c.toNat : Nat) : Int) 1)) % 4294967296)) = (((Crc.st c).toNat : Nat) : Int) := by
  have h1 : (1 : Int) = (((1#32).toNat : Nat) : Int) := rfl
  have h2 : (3988292384 : Int) = ((Crc.poly.toNat : Nat) : Int) := rfl
  have e : (-(Go.bits .and .u32 ((c.toNat : Nat) : Int) 1)) % 4294967296 = (((if c.getLsbD 0 = true then BitVec.allOnes 32 else 0#32 : BitVec 32).toNat : Nat) : Int) := by
    rw [h1, and32, lsb_and]
    cases c.getLsbD 0
    · rfl
    · rfl
  rw [e, h2, and32, half32, xor32]
  unfold Crc.st
  cases c.getLsbD 0
  · simp
  · rw [if_pos rfl, if_pos rfl, BitVec.and_allOnes]
theorem sum_l1 (s : ByteArray) (n i : Int) : ∀ (d m j : Nat) (c : BitVec 32), j + d = 8 → cksum_Sum.l1 (m + d + 1) s ((c.toNat : Nat) : Int) n i (j : Int) = cksum_Sum.l0 m s (((Crc.stn d c).toNat : Nat) : Int) n (wrap64 (i + 1)) := by
  intro d
  induction d with
  | zero =>
    intro m j c h
    simp only [cksum_Sum.l1]
    rw [if_neg (by omega)]
    rfl
  | succ d ih =>
    intro m j c h
    rw [show m + (d + 1) + 1 = (m + d + 1) + 1 by omega]
    simp only [cksum_Sum.l1]
    rw [if_pos (by omega), step32, w1 j (by omega)]
    exact ih m (j + 1) (Crc.st c) (by omega)
theorem byte32 (x : Nat) (h : x < 256) : ((x : Nat) : Int) % 4294967296 = (((BitVec.ofNat 32 x).toNat : Nat) : Int) := by
  rw [BitVec.toNat_ofNat]; omega
theorem drop_cons (l : List Nat) (i : Nat) (h : i < l.length) : l.drop i = l.getD i 0 :: l.drop (i + 1) := by
  rw [List.drop_eq_getElem_cons h]
  congr 1
  simp [List.getD_eq_getElem?_getD, h]
theorem sum_l0 (s : ByteArray) (hs : s.size ≤ 140737488351232) : ∀ (d m i : Nat) (c : BitVec 32), i + d = s.size → cksum_Sum.l0 (m + 10 * d + 1) s ((c.toNat : Nat) : Int) (s.size : Int) (i : Int) = some ((((~~~ Crc.feed c ((nb s).drop i)).toNat : Nat) : Int)) := by
  intro d
  induction d with
  | zero =>
    intro m i c h
    have e : (4294967295 : Int) = (((BitVec.allOnes 32).toNat : Nat) : Int) := rfl
    simp only [cksum_Sum.l0]
    rw [if_neg (by omega), e, xor32, List.drop_of_length_le (by rw [nb_len]; omega)]
    have : Crc.feed c [] = c := rfl
    rw [this, BitVec.allOnes_xor]
  | succ d ih =>
    intro m i c h
    have hb := byte_lt s i
    rw [show m + 10 * (d + 1) + 1 = ((m + 10 * d + 1) + 8 + 1) + 1 by omega]
    simp only [cksum_Sum.l0]
    rw [if_pos (by omega), if_pos (by omega), if_pos (by omega), bt_nb, byte32 _ hb, xor32]
    have := sum_l1 s (s.size : Int) (i : Int) 8 (m + 10 * d + 1) 0 (c ^^^ BitVec.ofNat 32 ((nb s).getD i 0)) rfl
    rw [show ((0 : Nat) : Int) = 0 from rfl] at this
    rw [this, w1 i (by omega), ih m (i + 1) _ (by omega), drop_cons (nb s) i (by rw [nb_len]; omega)]
    have e : Crc.feed c ((nb s).getD i 0 :: (nb s).drop (i + 1)) = Crc.feed (Crc.feed c [(nb s).getD i 0]) ((nb s).drop (i + 1)) := by
      rw [← Crc.feed_append]; rfl
    rw [e, Crc.feed_byte _ _ hb]
theorem sum_f (k : Nat) (s : ByteArray) (hs : s.size ≤ 140737488351232) (hk : 10 * s.size + 1 ≤ k) : cksum_Sum.f k s = some ((((Crc.sum (nb s)).toNat : Nat) : Int)) := by
  obtain ⟨m, rfl⟩ : ∃ m, k = m + 10 * s.size + 1 := ⟨k - 10 * s.size - 1, by omega⟩
  unfold cksum_Sum.f
  have := sum_l0 s hs s.size m 0 (BitVec.allOnes 32) (by omega)
  rw [List.drop_zero] at this
  exact this
theorem fb_eq (c : BitVec 32) (b : Bool) : Crc.fb c b = if c.getLsbD 0 = b then c >>> 1 else (c >>> 1) ^^^ Crc.poly := by
  unfold Crc.fb Crc.st
  have h : (c ^^^ (if b = true then 1#32 else 0#32)) >>> 1 = c >>> 1 := by
    apply BitVec.eq_of_getLsbD_eq
    intro i hi
    cases b <;> simp
  rw [h, BitVec.getLsbD_xor]
  cases b <;> cases h : c.getLsbD 0 <;> simp
theorem drop_consD {α : Type} (d : α) (l : List α) (i : Nat) (h : i < l.length) : l.drop i = l.getD i d :: l.drop (i + 1) := by
  rw [List.drop_eq_getElem_cons h]
  congr 1
  simp [List.getD_eq_getElem?_getD, h]
theorem bb_drop (x j : Nat) (hj : j < 8) : (Crc.byteBits x).drop j = x.testBit j :: (Crc.byteBits x).drop (j + 1) := by
  rw [drop_consD false _ j (by rw [Crc.byteBits_len]; omega), Crc.byteBits_get x j hj]
theorem fbs_cons (c : BitVec 32) (b : Bool) (l : List Bool) : Crc.fbs c (b :: l) = Crc.fbs (Crc.fb c b) l := rfl
theorem bit_eq (a y : Nat) (ha : a < 4294967296) (hy : y < 256) : (decide (a % 2 = 1) = decide (y % 2 = 1)) ↔ (((a % 2 : Nat) : Int) = ((y : Nat) : Int) % (4294967296 : Int) % (2 : Int)) := by
  rw [decide_eq_decide]
  omega
theorem tail_f (c : BitVec 32) : cksum_tail.f ((c.toNat : Nat) : Int) = some (ba (Crc.four c)) := by
  have hc := c.isLt
  unfold cksum_tail.f
  rw [← strOfNums_ba]
  unfold Crc.four
  simp only [List.map_cons, List.map_nil]
  have e1 : ((c.toNat : Nat) : Int) % 256 = ((c.toNat % 256 : Nat) : Int) := by omega
  have e2 : ((c.toNat : Nat) : Int) / 256 % 256 = ((c.toNat / 256 % 256 : Nat) : Int) := by omega
  have e3 : ((c.toNat : Nat) : Int) / 65536 % 256 = ((c.toNat / 65536 % 256 : Nat) : Int) := by omega
  have e4 : ((c.toNat : Nat) : Int) / 16777216 % 256 = ((c.toNat / 16777216 % 256 : Nat) : Int) := by omega
  rw [e1, e2, e3, e4]
/-! frames -/
def pre (x : List Nat) : List Nat := Vm.enc x.length ++ x
def frm (x : List Nat) : List Nat := pre x ++ Crc.four (Crc.sum (pre x))
theorem pre_byte (x : List Nat) (h : ∀ y ∈ x, y < 256) : ∀ y ∈ pre x, y < 256 := by
  intro y hy
  rcases List.mem_append.1 hy with hy | hy
  · exact Vm.enc_byte _ y hy
  · exact h y hy
theorem four_byte (c : BitVec 32) : ∀ y ∈ Crc.four c, y < 256 := by
  intro y hy
  simp only [Crc.four, List.mem_cons, List.not_mem_nil, or_false] at hy
  omega
theorem four_len (c : BitVec 32) : (Crc.four c).length = 4 := rfl
theorem frm_byte (x : List Nat) (h : ∀ y ∈ x, y < 256) : ∀ y ∈ frm x, y < 256 := by
  intro y hy
  rcases List.mem_append.1 hy with hy | hy
  · exact pre_byte x h y hy
  · exact four_byte _ y hy
theorem pre_len (x : List Nat) (h : x.length < 9223372036854775808) : x.length + 1 ≤ (pre x).length ∧ (pre x).length ≤ x.length + 9 := by
  unfold pre
  have h1 := Vm.enc_pos x.length
  have h2 := Vm.enc_len9 x.length h
  rw [List.length_append]
  omega
theorem frm_len (x : List Nat) (h : x.length < 9223372036854775808) : x.length + 5 ≤ (frm x).length ∧ (frm x).length ≤ x.length + 13 := by
  have := pre_len x h
  unfold frm
  rw [List.length_append, four_len]
  omega
theorem four_inj (a b : BitVec 32) (h : Crc.four a = Crc.four b) : a = b := by
  rw [← Crc.ob_four a, h, Crc.ob_four]
theorem sum_ba (k : Nat) (y : List Nat) (hy : ∀ x ∈ y, x < 256) (hl : y.length ≤ 140737488351232) (hk : 10 * y.length + 1 ≤ k) : cksum_Sum.f k (ba y) = some ((((Crc.sum y).toNat : Nat) : Int)) := by
  have := sum_f k (ba y) (by rw [ba_size]; exact hl) (by rw [ba_size]; exact hk)
  rw [nb_ba y hy] at this
  exact this
theorem frame_f (k : Nat) (s : ByteArray) (hs : s.size ≤ 1048576) (hk : 10 * s.size + 100 ≤ k) : cksum_Frame.f k s = some (ba (frm (nb s)), 0) := by
  unfold cksum_Frame.f
  have e : ba (Vm.enc s.size) ++ s = ba (pre (nb s)) := by
    unfold pre; rw [← ba_append, ba_nb, nb_len]
  have hl := nb_len s
  have h1 := pre_len (nb s) (by omega)
  rw [if_neg (by omega), text_f k (by omega) s (by omega), e]
  simp only [Option.bind_some]
  rw [sum_ba k _ (pre_byte _ (nb_lt s)) (by omega) (by omega)]
  simp only [Option.bind_some]
  rw [tail_f]
  simp only [Option.bind_some, ba_size, four_len, ba_append]
  rw [if_pos (by omega)]
  rfl
theorem frame_long (k : Nat) (s : ByteArray) (hs : 1048576 < s.size) : cksum_Frame.f k s = some (ba [], 2) := by
  unfold cksum_Frame.f
  rw [if_pos (by omega)]
  rfl
/-- opening a frame -/
def opn (x : List Nat) : List Nat × List Nat × Nat :=
  let r := Vm.rt 1048576 (x, 0)
  if r.2.2 ≠ 0 then ([], [], r.2.2)
  else if r.2.1.length < 4 then ([], [], 5)
  else if Crc.four (Crc.sum (x.take (x.length - r.2.1.length))) = r.2.1.take 4 then (r.1, r.2.1.drop 4, 0) else ([], [], 6)
theorem ba_inj (x y : List Nat) (hx : ∀ a ∈ x, a < 256) (hy : ∀ a ∈ y, a < 256) : ba x = ba y ↔ x = y := by
  constructor
  · intro h; rw [← nb_ba x hx, h, nb_ba y hy]
  · rintro rfl; rfl
theorem rt_err (m : Int) (x : List Nat) : (Vm.rt m (x, 0)).2.2 = 0 ∨ (Vm.rt m (x, 0)).2.2 = 2 ∨ (Vm.rt m (x, 0)).2.2 = 3 ∨ (Vm.rt m (x, 0)).2.2 = 5 := by
  unfold Vm.rt
  split
  · split
    · simp
    · split <;> simp
  · rename_i h
    unfold Vm.rn at h ⊢
    rw [if_pos rfl] at h ⊢
    rcases (Vm.dec_err x h).2 with h2 | h2
    · right; right; left; exact h2
    · right; right; right; exact h2
theorem opn_f (k : Nat) (x : List Nat) (hx : ∀ a ∈ x, a < 256) (hl : x.length ≤ 140737488351232) (hk : 10 * x.length + 100 ≤ k) : cksum_Open.f k (ba x) = some (ba (opn x).1, ba (opn x).2.1, ((opn x).2.2 : Int)) := by
  have hok : Vm.Ok (x, 0) := ⟨hx, hl, Or.inl rfl⟩
  have hr := rtext_g k (by omega) 1048576 (x, 0) hok
  obtain ⟨ho, hle, _, _⟩ := Vm.rt_ok 1048576 (x, 0) hok
  unfold cksum_Open.f vint_From.f opn
  simp only [Option.bind_some]
  simp only at hr hle
  rw [show ((0 : Nat) : Int) = 0 from rfl] at hr
  rw [hr]
  unfold vint_Reader_Err.f
  simp only [Option.bind_some]
  generalize Vm.rt 1048576 (x, 0) = r at *
  by_cases h0 : r.2.2 = 0
  · rw [if_pos (by omega), if_neg (by simp [h0])]
    unfold vint_Reader_Left.f
    simp only [Option.bind_some, ba_size]
    by_cases h4 : r.2.1.length < 4
    · rw [if_pos (by omega), if_pos h4]; rfl
    · have ew : wrap64 ((x.length : Int) - (r.2.1.length : Int)) = ((x.length - r.2.1.length : Nat) : Int) := by unfold wrap64; omega
      rw [if_neg (by omega), if_neg h4, ew, if_pos (by omega), if_pos (by omega), Int.toNat_natCast, ba_extract, List.drop_zero]
      rw [sum_ba k _ (fun a ha => hx a (List.mem_of_mem_take ha)) (by rw [List.length_take]; omega) (by rw [List.length_take]; omega)]
      simp only [Option.bind_some]
      rw [tail_f]
      simp only [Option.bind_some]
      rw [if_pos (by decide), if_pos (by omega), ba_extract, ba_extract, List.take_length]
      have hb : ∀ a ∈ r.2.1.take 4, a < 256 := fun a ha => ho.1 a (List.mem_of_mem_take ha)
      by_cases hc : Crc.four (Crc.sum (x.take (x.length - r.2.1.length))) = r.2.1.take 4
      · rw [if_pos hc, if_pos (by rw [hc]; rfl)]
        rfl
      · rw [if_neg hc, if_neg]
        · rfl
        · rw [toList_iff]
          intro h
          exact hc ((ba_inj _ _ (four_byte _) hb).1 h)
  · rw [if_neg (by omega), if_pos h0]
    rfl
theorem awake2_f (k : Nat) (hk : 300 ≤ k) : splicelaw02_awake.f k = some true := at_rounds (fun k => splicelaw02_awake.mono k) hk (by decide +kernel)

end Go.Proofs.Ytlmecdlbnpnajaa.PB
