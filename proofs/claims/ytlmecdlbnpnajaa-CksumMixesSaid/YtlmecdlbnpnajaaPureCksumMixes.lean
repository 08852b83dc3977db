/- CksumMixes: of three texts of one length (up to 2,000 bytes, cut to the shortest), put together bit by bit, the sum is that of their sums put together so. For every input. -/
import Derived.Test.YtlmecdlbnpnajaaPAx5
import Derived.Test.YtlmecdlbnpnajaaAQ1
import Derived.Test.YtlmecdlbnpnajaaAQ2
import Derived.OpenShut
namespace Go.Proofs.Ytlmecdlbnpnajaa.Pure
open Go.RowKit Go.Proofs.Ytlmecdlbnpnajaa.PA Go.Proofs.YtlmecdlbnpnajaaW.PrintWords Go.Proofs.YtlmecdlbnpnajaaW.PrintLast Go.Proofs.YtlmecdlbnpnajaaW.PrintMore
set_option linter.unusedVariables false
set_option linter.unusedSimpArgs false


theorem xor8 : ∀ (a b : Nat), a < 256 → b < 256 → Go.bits .xor .u8 (a : Int) (b : Int) = ((a ^^^ b : Nat) : Int) := by
  intro a b ha hb
  have hx : a ^^^ b < 2 ^ 8 := Nat.xor_lt_two_pow (by omega) (by omega)
  have h1 : (BitVec.ofInt 8 (a : Int)).toNat = a := by
    rw [BitVec.ofInt_natCast, BitVec.toNat_ofNat]; exact Nat.mod_eq_of_lt (by omega)
  have h2 : (BitVec.ofInt 8 (b : Int)).toNat = b := by
    rw [BitVec.ofInt_natCast, BitVec.toNat_ofNat]; exact Nat.mod_eq_of_lt (by omega)
  show IntKind.u8.wrap ((BitVec.ofInt 8 (a : Int) ^^^ BitVec.ofInt 8 (b : Int)).toNat : Int) = _
  rw [BitVec.toNat_xor, h1, h2, IntKind.wrap_u8]
  omega
theorem bits_xor (a b : Nat) : Crc.byteBits (a ^^^ b) = Crc.xl (Crc.byteBits a) (Crc.byteBits b) := by
  unfold Crc.byteBits Crc.xl
  rw [List.zipWith_map, List.zipWith_self]
  apply List.map_congr_left
  intro i _
  rw [Nat.testBit_xor]
theorem bitsOf_xor : ∀ (x y : List Nat), x.length = y.length → Crc.bitsOf (List.zipWith (· ^^^ ·) x y) = Crc.xl (Crc.bitsOf x) (Crc.bitsOf y) := by
  intro x
  induction x with
  | nil => intro y h; cases y with | nil => rfl | cons => simp at h
  | cons a x ih =>
    intro y h
    cases y with
    | nil => simp at h
    | cons b y =>
      rw [List.zipWith_cons_cons, Crc.bitsOf_cons, Crc.bitsOf_cons, Crc.bitsOf_cons, bits_xor, ih y (by simpa using h)]
      unfold Crc.xl
      rw [List.zipWith_append (by rw [Crc.byteBits_len, Crc.byteBits_len])]
theorem feed_xor (x y : List Nat) (h : x.length = y.length) (c d : BitVec 32) : Crc.feed (c ^^^ d) (List.zipWith (· ^^^ ·) x y) = Crc.feed c x ^^^ Crc.feed d y := by
  have := Crc.feed_len_xor x y h c d
  rw [← bitsOf_xor x y h] at this
  exact this
def mix (x y z : List Nat) : List Nat := List.zipWith (· ^^^ ·) (List.zipWith (· ^^^ ·) x y) z
theorem sum_mix (x y z : List Nat) (h : x.length = y.length) (h2 : y.length = z.length) : Crc.sum (mix x y z) = (Crc.sum x ^^^ Crc.sum y) ^^^ Crc.sum z := by
  unfold Crc.sum mix
  have e1 : (BitVec.allOnes 32) = ((BitVec.allOnes 32) ^^^ (BitVec.allOnes 32)) ^^^ (BitVec.allOnes 32) := by decide
  conv => lhs; rw [e1]
  rw [feed_xor _ z (by rw [List.length_zipWith]; omega), feed_xor x y h]
  generalize Crc.feed (BitVec.allOnes 32) x = p
  generalize Crc.feed (BitVec.allOnes 32) y = q
  generalize Crc.feed (BitVec.allOnes 32) z = r
  apply BitVec.eq_of_getLsbD_eq
  intro i hi
  simp only [BitVec.getLsbD_not, BitVec.getLsbD_xor, hi, decide_true, Bool.true_and]
  cases p.getLsbD i <;> cases q.getLsbD i <;> cases r.getLsbD i <;> rfl
theorem mix_take (x y z : List Nat) (i : Nat) (hx : i < x.length) (hy : i < y.length) (hz : i < z.length) : mix (x.take (i + 1)) (y.take (i + 1)) (z.take (i + 1)) = mix (x.take i) (y.take i) (z.take i) ++ [(x.getD i 0 ^^^ y.getD i 0) ^^^ z.getD i 0] := by
  unfold mix
  rw [List.take_succ_eq_append_getElem hx, List.take_succ_eq_append_getElem hy, List.take_succ_eq_append_getElem hz]
  rw [List.zipWith_append (by rw [List.length_take, List.length_take]; omega), List.zipWith_append (by rw [List.length_zipWith, List.length_take, List.length_take, List.length_take]; omega)]
  simp [List.getD_eq_getElem?_getD, hx, hy, hz]
theorem mix_len (x y z : List Nat) (h : x.length = y.length) (h2 : y.length = z.length) : (mix x y z).length = x.length := by
  unfold mix; rw [List.length_zipWith, List.length_zipWith]; omega
theorem mix_byte : ∀ (x y z : List Nat), (∀ a ∈ x, a < 256) → (∀ a ∈ y, a < 256) → (∀ a ∈ z, a < 256) → ∀ a ∈ mix x y z, a < 256 := by
  have one : ∀ (x y : List Nat), (∀ a ∈ x, a < 256) → (∀ a ∈ y, a < 256) → ∀ a ∈ List.zipWith (· ^^^ ·) x y, a < 256 := by
    intro x
    induction x with
    | nil => intro y _ _ a ha; simp at ha
    | cons p x ih =>
      intro y hx hy a ha
      cases y with
      | nil => simp at ha
      | cons q y =>
        rw [List.zipWith_cons_cons] at ha
        rcases List.mem_cons.1 ha with rfl | ha
        · exact Nat.xor_lt_two_pow (n := 8) (hx p (by simp)) (hy q (by simp))
        · exact ih y (fun b hb => hx b (by simp [hb])) (fun b hb => hy b (by simp [hb])) a ha
  intro x y z hx hy hz
  exact one _ z (one x y hx hy) hz
theorem mixes_l0 (a b c : ByteArray) (n : Nat) (ha : n ≤ a.size) (hb : n ≤ b.size) (hc : n ≤ c.size) (hn : n ≤ 2000) : ∀ (d k i : Nat), i + d = n → d + 21000 ≤ k →
    splicelaw02_CksumMixes.l0 k a b c (n : Int) ((mix ((nb a).take i) ((nb b).take i) ((nb c).take i)).map (fun x : Nat => (x : Int))) (i : Int) = some true := by
  have la := nb_len a
  have lb := nb_len b
  have lc := nb_len c
  intro d
  induction d with
  | zero =>
    intro k i hi hk
    obtain ⟨j, rfl⟩ : ∃ j, k = j + 1 := ⟨k - 1, by omega⟩
    have : i = n := by omega
    subst this
    simp only [splicelaw02_CksumMixes.l0]
    have t1 : ((nb a).take i).length = i := by rw [List.length_take]; omega
    have t2 : ((nb b).take i).length = i := by rw [List.length_take]; omega
    have t3 : ((nb c).take i).length = i := by rw [List.length_take]; omega
    have m1 := mix_len ((nb a).take i) ((nb b).take i) ((nb c).take i) (by omega) (by omega)
    have hx := fun (s : ByteArray) (x : Nat) (h : x ∈ (nb s).take i) => nb_lt s x (List.mem_of_mem_take h)
    have ex : ∀ s : ByteArray, s.extract 0 i = ba ((nb s).take i) := by
      intro s
      apply nb_inj
      rw [nb_extract, nb_ba _ (hx s), List.drop_zero]
    rw [if_neg (by omega), awake2_f j (by omega)]
    simp only [Option.bind_some]
    rw [if_pos trivial, strOfNums_ba, sum_ba j _ (mix_byte _ _ _ (hx a) (hx b) (hx c)) (by omega) (by omega)]
    simp only [Option.bind_some, Int.toNat_natCast, ex]
    rw [if_pos (by omega), if_pos (by omega), sum_ba j _ (hx a) (by omega) (by omega)]
    simp only [Option.bind_some]
    rw [if_pos (by omega), sum_ba j _ (hx b) (by omega) (by omega)]
    simp only [Option.bind_some]
    rw [if_pos (by omega), sum_ba j _ (hx c) (by omega) (by omega)]
    simp only [Option.bind_some]
    rw [xor32, xor32, sum_mix _ _ _ (by omega) (by omega)]
    simp
  | succ d ih =>
    intro k i hi hk
    obtain ⟨j, rfl⟩ : ∃ j, k = j + 1 := ⟨k - 1, by omega⟩
    have m1 := mix_len ((nb a).take i) ((nb b).take i) ((nb c).take i) (by rw [List.length_take, List.length_take]; omega) (by rw [List.length_take, List.length_take]; omega)
    have m2 : ((nb a).take i).length = i := by rw [List.length_take]; omega
    simp only [splicelaw02_CksumMixes.l0]
    rw [if_pos (by omega), if_pos (by omega), if_pos (by omega), if_pos (by omega), if_pos (by omega), if_pos (by rw [List.length_map]; omega)]
    rw [bt_nb, bt_nb, bt_nb, xor8 _ _ (byte_lt a i) (byte_lt b i), xor8 _ _ (Nat.xor_lt_two_pow (n := 8) (byte_lt a i) (byte_lt b i)) (byte_lt c i), w1 i (by omega)]
    have := ih j (i + 1) (by omega) (by omega)
    rw [mix_take _ _ _ i (by omega) (by omega) (by omega), List.map_append] at this
    exact this
theorem CksumMixes : splicelaw02_CksumMixes.Pure := by
  intro a b c ha hb hc
  refine ⟨30000, ?_⟩
  unfold splicelaw02_CksumMixes.f
  have e : mn (mn (mn (a.size : Int) (b.size : Int)) (c.size : Int)) 2000 = ((min (min (min a.size b.size) c.size) 2000 : Nat) : Int) := by
    unfold mn
    (repeat' split) <;> omega
  rw [e]
  have := mixes_l0 a b c (min (min (min a.size b.size) c.size) 2000) (by omega) (by omega) (by omega) (by omega) (min (min (min a.size b.size) c.size) 2000) 30000 0 (by omega) (by omega)
  simpa [mix] using this

end Go.Proofs.Ytlmecdlbnpnajaa.Pure
