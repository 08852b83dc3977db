/- CksumBurst: a frame some of whose bits are turned is refused, within 32 that stand side by side, in its body and its sum. For every input. -/
import Derived.Test.YtlmecdlbnpnajaaPBx3
import Derived.Test.YtlmecdlbnpnajaaBQ1
import Derived.Test.YtlmecdlbnpnajaaBQ2
import Derived.Test.YtlmecdlbnpnajaaBQ3
import Derived.OpenShut
namespace Go.Proofs.Ytlmecdlbnpnajaa.Pure
open Go.RowKit Go.Proofs.Ytlmecdlbnpnajaa.PB Go.Proofs.YtlmecdlbnpnajaaW.PrintWords Go.Proofs.YtlmecdlbnpnajaaW.PrintLast Go.Proofs.YtlmecdlbnpnajaaW.PrintMore
set_option linter.unusedVariables false
set_option linter.unusedSimpArgs false


theorem xor8v (a b : BitVec 8) : Go.bits .xor .u8 ((a.toNat : Nat) : Int) ((b.toNat : Nat) : Int) = (((a ^^^ b).toNat : Nat) : Int) := by
  show IntKind.u8.wrap ((BitVec.ofInt 8 ((a.toNat : Nat) : Int) ^^^ BitVec.ofInt 8 ((b.toNat : Nat) : Int)).toNat : Int) = _
  rw [BitVec.ofInt_natCast, BitVec.ofInt_natCast, BitVec.ofNat_toNat, BitVec.ofNat_toNat, BitVec.setWidth_eq, BitVec.setWidth_eq, IntKind.wrap_u8]
  have := (a ^^^ b).isLt
  omega
theorem pow8 (r : Nat) (hr : r < 8) : (2 : Int) ^ r % 256 = ((2 ^ r : Nat) : Int) ∧ 2 ^ r < 256 := by
  have h : r = 0 ∨ r = 1 ∨ r = 2 ∨ r = 3 ∨ r = 4 ∨ r = 5 ∨ r = 6 ∨ r = 7 := by omega
  rcases h with rfl | rfl | rfl | rfl | rfl | rfl | rfl | rfl <;> exact ⟨rfl, by decide⟩
theorem xor8 (x r : Nat) (hx : x < 256) (hr : r < 8) : Go.bits .xor .u8 (x : Int) ((2 : Int) ^ r % 256) = ((x ^^^ 2 ^ r : Nat) : Int) ∧ x ^^^ 2 ^ r < 256 := by
  obtain ⟨h1, h2⟩ := pow8 r hr
  have e1 : ((x : Nat) : Int) = (((BitVec.ofNat 8 x).toNat : Nat) : Int) := by rw [BitVec.toNat_ofNat]; omega
  have e2 : ((2 ^ r : Nat) : Int) = (((BitVec.ofNat 8 (2 ^ r)).toNat : Nat) : Int) := by rw [BitVec.toNat_ofNat, Nat.mod_eq_of_lt (by omega)]
  have e3 : (BitVec.ofNat 8 x ^^^ BitVec.ofNat 8 (2 ^ r)).toNat = x ^^^ 2 ^ r := by
    rw [BitVec.toNat_xor, BitVec.toNat_ofNat, BitVec.toNat_ofNat, Nat.mod_eq_of_lt (by omega), Nat.mod_eq_of_lt (by omega)]
  refine ⟨?_, ?_⟩
  · rw [h1, e1, e2, xor8v, e3]
  · rw [← e3]; exact (BitVec.ofNat 8 x ^^^ BitVec.ofNat 8 (2 ^ r)).isLt
theorem bit_and (B q : Nat) (hB : B < 4294967296) : (Go.bits .and .u32 ((B : Int) / 2 ^ q) 1 == 1) = B.testBit q := by
  have h0 : (B : Int) / 2 ^ q = ((B / 2 ^ q : Nat) : Int) := by rw [Int.natCast_ediv, Int.natCast_pow]; rfl
  have hlt : B / 2 ^ q < 4294967296 := Nat.lt_of_le_of_lt (Nat.div_le_self _ _) hB
  have e1 : ((B / 2 ^ q : Nat) : Int) = (((BitVec.ofNat 32 (B / 2 ^ q)).toNat : Nat) : Int) := by rw [BitVec.toNat_ofNat, Nat.mod_eq_of_lt (by omega)]
  have e2 : (BitVec.ofNat 32 (B / 2 ^ q)).getLsbD 0 = B.testBit q := by
    rw [BitVec.getLsbD_ofNat, Nat.testBit_div_two_pow]; simp
  rw [h0, e1, show (1 : Int) = (((1#32).toNat : Nat) : Int) from rfl, and32, lsb_and, e2]
  cases B.testBit q <;> rfl
def flipN (HD FI M B : Nat) (l : List Nat) (q : Nat) : List Nat := if FI + q < M ∧ B.testBit q = true then l.set (HD + (FI + q) / 8) (l.getD (HD + (FI + q) / 8) 0 ^^^ 2 ^ ((FI + q) % 8)) else l
def flipsN (HD FI M B : Nat) (l : List Nat) : Nat → List Nat
  | 0 => l
  | q + 1 => flipN HD FI M B (flipsN HD FI M B l q) q
abbrev nI (n : Nat) : Int := (n : Int)
theorem getD_nI (l : List Nat) (i : Nat) : (l.map nI).getD i 0 = nI (l.getD i 0) := by
  rw [List.getD_eq_getElem?_getD, List.getD_eq_getElem?_getD, List.getElem?_map]
  cases l[i]? <;> rfl
theorem getD_lt (l : List Nat) (h : ∀ x ∈ l, x < 256) (i : Nat) : l.getD i 0 < 256 := by
  rw [List.getD_eq_getElem?_getD]
  cases e : l[i]? with
  | none => simp
  | some x => exact h x (List.mem_of_getElem? e)
theorem flips_cast (HD FI M B : Nat) (l : List Nat) (hl : ∀ x ∈ l, x < 256) (hB : B < 4294967296) : ∀ q, flipsI HD FI M (B : Int) (l.map nI) q = (flipsN HD FI M B l q).map nI ∧ (∀ x ∈ flipsN HD FI M B l q, x < 256) ∧ (flipsN HD FI M B l q).length = l.length := by
  intro q
  induction q with
  | zero => exact ⟨rfl, hl, rfl⟩
  | succ q ih =>
    obtain ⟨h1, h2, h3⟩ := ih
    rw [flipsI_step, bit_and B q hB]
    show _ = (flipN HD FI M B (flipsN HD FI M B l q) q).map nI ∧ (∀ x ∈ flipN HD FI M B (flipsN HD FI M B l q) q, x < 256) ∧ (flipN HD FI M B (flipsN HD FI M B l q) q).length = l.length
    unfold flipN
    by_cases hc : FI + q < M ∧ B.testBit q = true
    · obtain ⟨x1, x2⟩ := xor8 ((flipsN HD FI M B l q).getD (HD + (FI + q) / 8) 0) ((FI + q) % 8) (getD_lt _ h2 _) (by omega)
      rw [if_pos hc, if_pos hc, h1, getD_nI, x1]
      refine ⟨?_, ?_, ?_⟩
      · rw [List.map_set]
      · intro x hx
        rcases List.mem_or_eq_of_mem_set hx with hx | rfl
        · exact h2 x hx
        · exact x2
      · rw [List.length_set]; exact h3
    · rw [if_neg hc, if_neg hc]
      exact ⟨h1, h2, h3⟩
def turned (HD FI M B q i : Nat) : Bool := decide (8 * HD + FI ≤ i ∧ i < 8 * HD + FI + q ∧ i < 8 * HD + M) && B.testBit (i - (8 * HD + FI))
theorem flips_bits (HD FI M B : Nat) (l : List Nat) (hl : ∀ x ∈ l, x < 256) (hB : B < 4294967296) (hM : 8 * HD + M ≤ 8 * l.length) : ∀ q i, i < 8 * l.length → ((flipsN HD FI M B l q).getD (i / 8) 0).testBit (i % 8) = Bool.xor ((l.getD (i / 8) 0).testBit (i % 8)) (turned HD FI M B q i) := by
  intro q
  induction q with
  | zero =>
    intro i hi
    have : turned HD FI M B 0 i = false := by unfold turned; rw [decide_eq_false (by omega)]; rfl
    rw [this, Bool.xor_false]; rfl
  | succ q ih =>
    intro i hi
    have h := ih i hi
    show ((flipN HD FI M B (flipsN HD FI M B l q) q).getD (i / 8) 0).testBit (i % 8) = _
    unfold flipN
    have hlen := (flips_cast HD FI M B l hl hB q).2.2
    by_cases hi2 : i = 8 * HD + FI + q
    · have t0 : turned HD FI M B q i = false := by unfold turned; rw [decide_eq_false (by omega)]; rfl
      rw [t0, Bool.xor_false] at h
      by_cases hc : FI + q < M ∧ B.testBit q = true
      · have t1 : turned HD FI M B (q + 1) i = true := by unfold turned; rw [decide_eq_true (by omega), show i - (8 * HD + FI) = q by omega, hc.2]; rfl
        have p1 : HD + (FI + q) / 8 = i / 8 := by omega
        have p2 : (FI + q) % 8 = i % 8 := by omega
        rw [if_pos hc, t1, p1, p2, List.getD_eq_getElem?_getD, List.getElem?_set_self (by rw [hlen]; omega), Option.getD_some, Nat.testBit_xor, h, Nat.testBit_two_pow_self]
      · have t1 : turned HD FI M B (q + 1) i = false := by
          unfold turned
          by_cases h1 : FI + q < M
          · have : B.testBit q = false := Bool.eq_false_iff.mpr (fun e => hc ⟨h1, e⟩)
            rw [show i - (8 * HD + FI) = q by omega, this, Bool.and_false]
          · rw [decide_eq_false (by omega)]; rfl
        rw [if_neg hc, t1, Bool.xor_false, h]
    · have t1 : turned HD FI M B (q + 1) i = turned HD FI M B q i := by
        unfold turned
        congr 1
        exact decide_eq_decide.mpr (by omega)
      rw [t1, ← h]
      by_cases hc : FI + q < M ∧ B.testBit q = true
      · rw [if_pos hc]
        by_cases hp : HD + (FI + q) / 8 = i / 8
        · rw [hp, List.getD_eq_getElem?_getD, List.getElem?_set_self (by rw [hlen]; omega), Option.getD_some, Nat.testBit_xor, Nat.testBit_two_pow, decide_eq_false (by omega), Bool.xor_false]
        · rw [List.getD_eq_getElem?_getD, List.getElem?_set_ne hp, ← List.getD_eq_getElem?_getD]
      · rw [if_neg hc]
theorem ext_getD (a b : List Bool) (hl : a.length = b.length) (h : ∀ i, i < a.length → a.getD i false = b.getD i false) : a = b := by
  refine List.ext_getElem hl (fun i h1 h2 => ?_)
  have := h i h1
  rw [List.getD_eq_getElem?_getD, List.getD_eq_getElem?_getD, List.getElem?_eq_getElem h1, List.getElem?_eq_getElem h2] at this
  exact this
theorem rep_getD (n i : Nat) : (List.replicate n false).getD i false = false := by
  rw [List.getD_eq_getElem?_getD, List.getElem?_replicate]
  split <;> rfl
def win (FI M B : Nat) : List Bool := (List.range (min 32 (M - FI))).map B.testBit
theorem win_len (FI M B : Nat) : (win FI M B).length = min 32 (M - FI) := by unfold win; rw [List.length_map, List.length_range]
theorem win_get (FI M B j : Nat) (h : j < min 32 (M - FI)) : (win FI M B).getD j false = B.testBit j := by
  unfold win
  rw [List.getD_eq_getElem?_getD, List.getElem?_map, List.getElem?_range h]; rfl
theorem zip_getD (a b : List Bool) (i : Nat) (h1 : i < a.length) (h2 : i < b.length) : (List.zipWith Bool.xor a b).getD i false = Bool.xor (a.getD i false) (b.getD i false) := by
  rw [List.getD_eq_getElem?_getD, List.getD_eq_getElem?_getD, List.getD_eq_getElem?_getD, List.getElem?_zipWith, List.getElem?_eq_getElem h1, List.getElem?_eq_getElem h2]; rfl
theorem xl_win (HD FI M B : Nat) (l : List Nat) (hl : ∀ x ∈ l, x < 256) (hB : B < 4294967296) (hM : 8 * HD + M ≤ 8 * l.length) (hFM : FI < M) :
    Crc.xl (Crc.bitsOf l) (Crc.bitsOf (flipsN HD FI M B l 32)) = List.replicate (8 * HD + FI) false ++ win FI M B ++ List.replicate (8 * l.length - (8 * HD + FI) - (win FI M B).length) false := by
  have hlen := (flips_cast HD FI M B l hl hB 32).2.2
  have hw := win_len FI M B
  have ha : (Crc.xl (Crc.bitsOf l) (Crc.bitsOf (flipsN HD FI M B l 32))).length = 8 * l.length := by
    unfold Crc.xl; rw [List.length_zipWith, Crc.bitsOf_len, Crc.bitsOf_len, hlen]; omega
  refine ext_getD _ _ (by rw [ha]; simp only [List.length_append, List.length_replicate]; omega) (fun i hi => ?_)
  rw [ha] at hi
  have e1 : (Crc.xl (Crc.bitsOf l) (Crc.bitsOf (flipsN HD FI M B l 32))).getD i false = turned HD FI M B 32 i := by
    have h1 : i < (Crc.bitsOf l).length := by rw [Crc.bitsOf_len]; exact hi
    have h2 : i < (Crc.bitsOf (flipsN HD FI M B l 32)).length := by rw [Crc.bitsOf_len, hlen]; exact hi
    have g1 := Crc.bitsOf_get l i hi
    have g2 := Crc.bitsOf_get (flipsN HD FI M B l 32) i (by rw [hlen]; exact hi)
    rw [flips_bits HD FI M B l hl hB hM 32 i hi, ← g1] at g2
    unfold Crc.xl
    rw [zip_getD _ _ i h1 h2, g2]
    cases (Crc.bitsOf l).getD i false <;> cases turned HD FI M B 32 i <;> rfl
  rw [e1]
  unfold turned
  by_cases c1 : i < 8 * HD + FI
  · rw [Crc.getD_app_l _ _ _ _ (by rw [List.length_append, List.length_replicate]; omega), Crc.getD_app_l _ _ _ _ (by rw [List.length_replicate]; omega), rep_getD, decide_eq_false (by omega)]; rfl
  · by_cases c2 : i < 8 * HD + FI + min 32 (M - FI)
    · rw [Crc.getD_app_l _ _ _ _ (by rw [List.length_append, List.length_replicate]; omega), Crc.getD_app_r _ _ _ _ (by rw [List.length_replicate]; omega), List.length_replicate, win_get FI M B _ (by omega), decide_eq_true (by omega), Bool.true_and]
    · rw [Crc.getD_app_r _ _ _ _ (by rw [List.length_append, List.length_replicate]; omega), rep_getD, decide_eq_false (by omega)]; rfl
theorem flips_none (HD FI M B : Nat) (l : List Nat) (h : ∀ i, (win FI M B).getD i false = false) : ∀ q, q ≤ 32 → flipsN HD FI M B l q = l := by
  intro q
  induction q with
  | zero => intro _; rfl
  | succ q ih =>
    intro hq
    show flipN HD FI M B (flipsN HD FI M B l q) q = l
    rw [ih (by omega)]
    unfold flipN
    rw [if_neg (fun hc => ?_)]
    have := h q
    rw [win_get FI M B q (by omega), hc.2] at this
    exact absurd this (by decide)
theorem flips_head (HD FI M B : Nat) (l : List Nat) : ∀ q, (flipsN HD FI M B l q).take HD = l.take HD := by
  intro q
  induction q with
  | zero => rfl
  | succ q ih =>
    show (flipN HD FI M B (flipsN HD FI M B l q) q).take HD = _
    unfold flipN
    split
    · rw [List.take_set_of_le (by omega)]; exact ih
    · exact ih
/-- a frame that was turned so, and is another one, is refused for its sum -/
theorem opn_turned (x : List Nat) (hx : ∀ a ∈ x, a < 256) (hl : x.length ≤ 2000) (FI B : Nat) (hB : B < 4294967296) (hFI : FI < 8 * (x.length + 4)) (hne : flipsN (Vm.enc x.length).length FI (8 * (x.length + 4)) B (frm x) 32 ≠ frm x) :
    opn (flipsN (Vm.enc x.length).length FI (8 * (x.length + 4)) B (frm x) 32) = ([], [], 6) := by
  have hfl : (frm x).length = (Vm.enc x.length).length + (x.length + 4) := by unfold frm pre; simp only [List.length_append, four_len]; omega
  have hfb := frm_byte x hx
  obtain ⟨_, hgb, hgl⟩ := flips_cast (Vm.enc x.length).length FI (8 * (x.length + 4)) B (frm x) hfb hB 32
  have hgt := flips_head (Vm.enc x.length).length FI (8 * (x.length + 4)) B (frm x) 32
  have hxl := xl_win (Vm.enc x.length).length FI (8 * (x.length + 4)) B (frm x) hfb hB (by rw [hfl]; omega) hFI
  have hno : (∀ i, (win FI (8 * (x.length + 4)) B).getD i false = false) → flipsN (Vm.enc x.length).length FI (8 * (x.length + 4)) B (frm x) 32 = frm x := fun h => flips_none _ _ _ _ _ h 32 (Nat.le_refl _)
  generalize flipsN (Vm.enc x.length).length FI (8 * (x.length + 4)) B (frm x) 32 = g at *
  have htk : (frm x).take (Vm.enc x.length).length = Vm.enc x.length := by unfold frm pre; rw [List.append_assoc, List.take_left]
  rw [htk] at hgt
  have hg : g = Vm.enc x.length ++ g.drop (Vm.enc x.length).length := by have := List.take_append_drop (Vm.enc x.length).length g; rw [hgt] at this; exact this.symm
  generalize hy : g.drop (Vm.enc x.length).length = y at hg
  have hyl : y.length = x.length + 4 := by rw [← hy, List.length_drop, hgl, hfl]; omega
  have hr : Vm.rt 1048576 (g, 0) = (y.take x.length, y.drop x.length, 0) := by
    rw [hg]
    have := Vm.rt_enc (y.take x.length) 1048576 (by rw [List.length_take]; omega) (by rw [List.length_take]; omega) (y.drop x.length)
    rw [List.take_append_drop, List.length_take, Nat.min_eq_left (by omega)] at this
    exact this
  have hdl : (y.drop x.length).length = 4 := by rw [List.length_drop]; omega
  unfold opn
  rw [hr]
  simp only
  rw [if_neg (by simp), if_neg (by omega), hdl, if_neg (fun hc => ?_)]
  have hgd : g.drop (g.length - 4) = y.drop x.length := by
    rw [← hy, List.drop_drop]; congr 1; omega
  have e4 : (y.drop x.length).take 4 = y.drop x.length := List.take_of_length_le (by omega)
  rw [e4] at hc
  have hgs : g = g.take (g.length - 4) ++ Crc.four (Crc.sum (g.take (g.length - 4))) := by
    rw [hc, ← hgd, List.take_append_drop]
  have f1 := (Crc.check_iff (g.take (g.length - 4)) (Crc.sum (g.take (g.length - 4)))).1 rfl
  rw [← hgs] at f1
  have f2 := (Crc.check_iff (pre x) (Crc.sum (pre x))).1 rfl
  have hf : Crc.fbs (BitVec.allOnes 32) (Crc.bitsOf (frm x)) = Crc.fbs (BitVec.allOnes 32) (Crc.bitsOf g) := by
    have f3 : Crc.feed (BitVec.allOnes 32) (frm x) = Crc.feed (BitVec.allOnes 32) g := by rw [f1]; exact f2
    exact f3
  have hw := Crc.burst (BitVec.allOnes 32) (Crc.bitsOf (frm x)) (Crc.bitsOf g) (by rw [Crc.bitsOf_len, Crc.bitsOf_len, hgl]) _ _ _ (by rw [win_len]; omega) hxl hf
  exact hne (hno hw)
theorem whole_f (k : Nat) (x : List Nat) (hx : ∀ a ∈ x, a < 256) (hl : x.length ≤ 100000) (hk : 10 * x.length + 100 ≤ k) : cksum_Whole.f k (ba x) = some (if (opn x).2.2 = 0 then (if (opn x).2.1 = [] then (ba (opn x).1, 0) else (⟨#[]⟩, 2)) else (⟨#[]⟩, ((opn x).2.2 : Int))) := by
  unfold cksum_Whole.f
  rw [opn_f k x hx (by omega) hk, Option.bind_some]
  dsimp only
  by_cases h : (opn x).2.2 = 0
  · rw [if_pos (by omega), if_pos h, ba_toList]
    by_cases h2 : (opn x).2.1 = []
    · rw [if_pos (by rw [h2]; rfl), if_pos h2]
    · rw [if_neg (by simp [h2]), if_neg h2]
  · rw [if_neg (by omega), if_neg h]
theorem str_nI (l : List Nat) : strOfNums (l.map nI) = ba l := by
  unfold strOfNums ba
  rw [List.map_map]; rfl
theorem bytesOf_ba (l : List Nat) (h : ∀ x ∈ l, x < 256) : bytesOf (ba l) = l.map nI := by
  have := nb_ba l h
  unfold nb at this
  unfold bytesOf
  rw [← this, List.map_map]
  rw [this]
  rfl
theorem tm_range (a1 : Int) (M : Nat) (h0 : 0 < M) (hM : M ≤ 1000000) : ∃ F : Nat, (wrap64 (a1.tmod (M : Int) + (M : Int))).tmod (M : Int) = (F : Int) ∧ F < M := by
  have h1 : a1.tmod (M : Int) < (M : Int) := Int.tmod_lt_of_pos a1 (by omega)
  have h2 : -(M : Int) < a1.tmod (M : Int) := by
    by_cases h : 0 ≤ a1
    · have := Int.tmod_nonneg (M : Int) h; omega
    · have e := Int.neg_tmod (-a1) (M : Int)
      rw [Int.neg_neg] at e
      have := Int.tmod_lt_of_pos (-a1) (show (0 : Int) < (M : Int) by omega)
      omega
  have h3 : wrap64 (a1.tmod (M : Int) + (M : Int)) = a1.tmod (M : Int) + (M : Int) := by unfold wrap64; omega
  rw [h3]
  have h4 := Int.tmod_nonneg (M : Int) (show 0 ≤ a1.tmod (M : Int) + (M : Int) by omega)
  have h5 := Int.tmod_lt_of_pos (a1.tmod (M : Int) + (M : Int)) (show (0 : Int) < (M : Int) by omega)
  exact ⟨((a1.tmod (M : Int) + (M : Int)).tmod (M : Int)).toNat, by omega, by omega⟩
theorem CksumBurst : splicelaw02_CksumBurst.Pure := by
  intro s a1 a2 _ _ h2
  refine ⟨100000, ?_⟩
  unfold splicelaw02_CksumBurst.f
  by_cases hs : (s.size : Int) > 2000
  · rw [if_pos hs]; exact awake2_f _ (by omega)
  rw [if_neg hs, frame_f 100000 s (by omega) (by omega), Option.bind_some, awake2_f _ (by omega), Option.bind_some]
  dsimp only
  have hB : ∃ B : Nat, a2 = (B : Int) ∧ B < 4294967296 := by
    have e1 : IntKind.min .u32 = 0 := by decide
    have e2 : IntKind.max .u32 = 4294967295 := by decide
    have h := h2
    simp only [Lit.wf, e1, e2, Bool.and_eq_true, decide_eq_true_eq] at h
    exact ⟨a2.toNat, by omega, by omega⟩
  obtain ⟨B, rfl, hB⟩ := hB
  have hnl := nb_len s
  have hx := nb_lt s
  obtain ⟨FI, hf1, hf2⟩ := tm_range a1 (8 * (s.size + 4)) (by omega) (by omega)
  have hFI : burstFI a1 (8 * (s.size + 4)) = FI := by unfold burstFI; rw [hf1]; exact Int.toNat_natCast _
  have hfb := frm_byte (nb s) hx
  have hel := Vm.enc_len9 (nb s).length (by omega)
  have hep := Vm.enc_pos (nb s).length
  have hfl : (frm (nb s)).length = (Vm.enc (nb s).length).length + (s.size + 4) := by unfold frm pre; simp only [List.length_append, four_len]; omega
  obtain ⟨hc1, hc2, hc3⟩ := flips_cast (Vm.enc (nb s).length).length FI (8 * (s.size + 4)) B (frm (nb s)) hfb hB 32
  have hG : burstG s a1 (B : Int) (ba (frm (nb s))) = ba (flipsN (Vm.enc (nb s).length).length FI (8 * (s.size + 4)) B (frm (nb s)) 32) := by
    unfold burstG
    rw [hFI, ba_size, bytesOf_ba _ hfb, show (frm (nb s)).length - 4 - s.size = (Vm.enc (nb s).length).length by omega, hc1, str_nI]
  have ht := opn_turned (nb s) hx (by omega) FI B hB (by rw [hnl]; exact hf2)
  rw [hnl] at ht hc1 hc2 hc3 hG hfl hel hep
  rw [hG]
  generalize flipsN (Vm.enc s.size).length FI (8 * (s.size + 4)) B (frm (nb s)) 32 = g at *
  rw [whole_f 100000 g hc2 (by omega) (by omega), Option.bind_some, hFI, if_pos]
  refine ⟨rfl, rfl, by rw [ba_size]; omega, by rw [ba_size]; omega, hf1, hf2, ?_⟩
  by_cases hg : g = frm (nb s)
  · refine Or.inl ⟨by rw [hg], ?_⟩
    have ho := opn_frm (nb s) [] (by omega)
    rw [List.append_nil] at ho
    rw [hg, ho]
    exact ⟨rfl, ba_nb s⟩
  · refine Or.inr ⟨fun h => hg ((ba_inj _ _ hc2 hfb).1 h), ?_⟩
    rw [ht hg]
    exact ⟨rfl, rfl⟩

end Go.Proofs.Ytlmecdlbnpnajaa.Pure
