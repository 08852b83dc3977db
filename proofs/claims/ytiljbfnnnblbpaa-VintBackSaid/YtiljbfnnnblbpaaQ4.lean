import Derived.Test.YtiljbfnnnblbpaaQ1
import Derived.Test.YtiljbfnnnblbpaaPAx2
import Derived.Test.YtiljbfnnnblbpaaPAx3
namespace Go.Proofs.Ytiljbfnnnblbpaa.PA
open Go.RowKit Go.Proofs.YtiljbfnnnblbpaaW.PrintWords Go.Proofs.YtiljbfnnnblbpaaW.PrintLast Go.Proofs.YtiljbfnnnblbpaaW.PrintMore
set_option linter.unusedVariables false
set_option linter.unusedSimpArgs false

/-! reading a number -/
theorem bits_or_comm (k : IntKind) (a b : Int) : Go.bits .or k a b = Go.bits .or k b a := by
  simp only [Go.bits, BitVec.or_comm]
theorem or_join (x y : Int) (i : Nat) (hi : i ≤ 63) (hx0 : 0 ≤ x) (hx : x < 2 ^ i) (hy0 : 0 ≤ y) (hy : y % 2 ^ i = 0) (hy1 : y < 9223372036854775808) : Go.bits .or .i64 x y = x + y := by
  have h2 : (2 : Int) ^ i ≤ 2 ^ 63 := by
    have := Nat.pow_le_pow_right (show 0 < 2 by decide) hi
    exact_mod_cast this
  rw [bits_or_comm, bits_join .i64 63 (by decide) (fun n a b => by rw [IntKind.wrap_i64]; omega) i y x hy0 hy (by simpa using hy1) hx0 hx (by omega)]
  omega
theorem group (n i b : Nat) (hi : i ≤ 8) (hn : n < 128 ^ i) (hb : b < 128) : Go.bits .or .i64 (n : Int) (shl .i64 (b : Int) ((7 * i : Nat) : Int)) = ((n + b * 128 ^ i : Nat) : Int) := by
  have e1 : min ((7 * i : Nat) : Int).toNat IntKind.i64.bits = 7 * i := by
    have : IntKind.i64.bits = 64 := rfl
    rw [this]; simp; omega
  have e2 : (2 : Nat) ^ (7 * i) = 128 ^ i := by rw [Nat.pow_mul]
  have e3 : b * 128 ^ i + 128 ^ i ≤ 128 ^ (i + 1) := by
    rw [Nat.pow_succ]
    have : b + 1 ≤ 128 := by omega
    calc b * 128 ^ i + 128 ^ i = (b + 1) * 128 ^ i := by rw [Nat.add_mul, Nat.one_mul]
      _ ≤ 128 * 128 ^ i := Nat.mul_le_mul_right _ this
      _ = 128 ^ i * 128 := Nat.mul_comm _ _
  have e4 : (128 : Nat) ^ (i + 1) ≤ 128 ^ 9 := Nat.pow_le_pow_right (by decide) (by omega)
  have e6 : (128 : Nat) ^ 9 = 9223372036854775808 := by decide
  have e0 : 0 < (128 : Nat) ^ i := Nat.pow_pos (by decide)
  have e5 : shl .i64 (b : Int) ((7 * i : Nat) : Int) = ((b * 128 ^ i : Nat) : Int) := by
    unfold shl
    rw [e1, show ((b : Int) * 2 ^ (7 * i)) = ((b * 128 ^ i : Nat) : Int) by rw [← e2]; push_cast; rfl, IntKind.wrap_i64]
    omega
  rw [e5, or_join _ _ (7 * i) (by omega) (by omega) ?_ (by omega) ?_ (by omega)]
  · push_cast; rfl
  · have : ((2 : Int) ^ (7 * i)) = ((2 ^ (7 * i) : Nat) : Int) := by push_cast; rfl
    rw [this, e2]; omega
  · have : ((2 : Int) ^ (7 * i)) = ((2 ^ (7 * i) : Nat) : Int) := by push_cast; rfl
    rw [this, e2]
    have := Nat.mul_mod_left b (128 ^ i)
    omega
theorem byte_lt (s : ByteArray) (i : Nat) : (nb s).getD i 0 < 256 := by
  rw [List.getD_eq_getElem?_getD]
  cases h : (nb s)[i]? with
  | none => simp
  | some x => exact nb_lt s x (List.mem_of_getElem? h)
theorem and127_u8 : ∀ a : Fin 256, Go.bits .and .u8 ((a.val : Nat) : Int) 127 = ((a.val % 128 : Nat) : Int) := by decide +kernel
theorem wholeb_l0 (s : ByteArray) : ∀ (k i : Nat), i ≤ Vm.run (nb s) → i ≤ 9 → 11 - i ≤ k → s.size ≤ 140737488351232 →
    vint_whole.l0 k s (s.size : Int) (i : Int) = some (!(decide (Vm.run (nb s) = s.size) && decide (s.size ≤ 9))) := by
  intro k
  induction k with
  | zero => intro i _ h9 hk; omega
  | succ k ih =>
    intro i hi h9 hk hs
    have hl := nb_len s
    have hrl := Vm.run_le (nb s)
    simp only [vint_whole.l0]
    by_cases h : i < s.size
    · rw [if_pos (by omega)]
      by_cases e9 : i = 9
      · rw [if_pos (by omega)]
        congr 1
        have : ¬ s.size ≤ 9 := by omega
        simp [this]
      · rw [if_neg (by omega), if_pos (by omega), if_pos (by omega), bt_nb]
        obtain ⟨h1, h2⟩ := Vm.run_step (nb s) i hi (by omega)
        by_cases hb : (nb s).getD i 0 < 128
        · rw [if_pos (by omega)]
          have := h2 hb
          congr 1
          have : ¬ Vm.run (nb s) = s.size := by omega
          simp [this]
        · rw [if_neg (by omega)]
          have e : wrap64 ((i : Int) + 1) = ((i + 1 : Nat) : Int) := by unfold wrap64; omega
          rw [e]
          exact ih (i + 1) (h1 (by omega)) (by omega) (by omega) hs
    · rw [if_neg (by omega)]
      congr 1
      have h1 : Vm.run (nb s) = s.size := by omega
      have h2 : s.size ≤ 9 := by omega
      simp [h1, h2]
theorem wholeb_f (k : Nat) (hk : 11 ≤ k) (s : ByteArray) (hs : s.size ≤ 140737488351232) : vint_whole.f k s = some (!(decide (Vm.run (nb s) = s.size) && decide (s.size ≤ 9))) :=
  wholeb_l0 s k 0 (by omega) (by omega) (by omega) hs
theorem num_j2 (k : Nat) (hk : 12 ≤ k) (s : ByteArray) (hs : s.size ≤ 140737488351232) :
    vint_Reader_Num.j2 k s 0 = some (0, ba [], if Vm.run (nb s) = s.size ∧ s.size ≤ 9 then 5 else 3) := by
  obtain ⟨m, rfl⟩ : ∃ m, k = m + 1 := ⟨k - 1, by omega⟩
  simp only [vint_Reader_Num.j2]
  rw [wholeb_f m (by omega) s hs]
  simp only [Option.bind_some, vint_Reader_fail.f, if_true]
  by_cases h : Vm.run (nb s) = s.size ∧ s.size ≤ 9
  · simp [h, nil_ba]
  · have : (!(decide (Vm.run (nb s) = s.size) && decide (s.size ≤ 9))) = true := by
      by_cases h1 : Vm.run (nb s) = s.size <;> by_cases h2 : s.size ≤ 9 <;> simp [h1, h2]
      exact h ⟨h1, h2⟩
    rw [this]
    simp [h, nil_ba]
theorem j1_end (s : ByteArray) (k n i b : Nat) (hi : i ≤ 8) (his : i < s.size) (hs : s.size ≤ 140737488351232) (hn : n < 128 ^ i) (hb : b < 128) :
    vint_Reader_Num.j1 (k + 1) (n : Int) (i : Int) (b : Int) (s.size : Int) (i : Int) false s 0 = some (((n + b * 128 ^ i : Nat) : Int), s.extract (i + 1) s.size, 0) := by
  have hg := group n i b hi hn hb
  clear hn
  have e1 : wrap64 ((i : Int) + 1) = ((i + 1 : Nat) : Int) := by unfold wrap64; omega
  have e2 : wrap64 (7 * (i : Int)) = ((7 * i : Nat) : Int) := by unfold wrap64; omega
  have e3 : wrap64 (b : Int) = (b : Int) := by unfold wrap64; omega
  have q1 : (b : Int) < 128 := by omega
  have q2 : (0 : Int) ≤ ((i + 1 : Nat) : Int) := by omega
  have q3 : ((i + 1 : Nat) : Int) ≤ (s.size : Int) := by omega
  have q4 : (0 : Int) ≤ ((7 * i : Nat) : Int) := by omega
  simp only [vint_Reader_Num.j1]
  rw [if_neg (by decide), if_pos q1, e1, e2, e3, if_pos q2, if_pos q3, if_pos q4, hg]
  rfl
theorem j1_more (s : ByteArray) (k n i b : Nat) (hi : i ≤ 8) (hn : n < 128 ^ i) (hb : 128 ≤ b) (hb2 : b < 256) :
    vint_Reader_Num.j1 (k + 1) (n : Int) (i : Int) (b : Int) (s.size : Int) (i : Int) false s 0 = vint_Reader_Num.l0 k ((n + b % 128 * 128 ^ i : Nat) : Int) (s.size : Int) ((i + 1 : Nat) : Int) s 0 := by
  have hg := group n i (b % 128) hi hn (Nat.mod_lt _ (by decide))
  clear hn
  have e1 : wrap64 ((i : Int) + 1) = ((i + 1 : Nat) : Int) := by unfold wrap64; omega
  have e2 : wrap64 (7 * (i : Int)) = ((7 * i : Nat) : Int) := by unfold wrap64; omega
  have e3 := and127_u8 ⟨b, hb2⟩
  simp only at e3
  have e5 : wrap64 ((b % 128 : Nat) : Int) = ((b % 128 : Nat) : Int) := by unfold wrap64; omega
  have q1 : ¬ (b : Int) < 128 := by omega
  have q4 : (0 : Int) ≤ ((7 * i : Nat) : Int) := by omega
  simp only [vint_Reader_Num.j1]
  rw [if_neg (by decide), if_neg q1, e1, e2, e3, e5, if_pos q4, hg]
theorem j1_bad (s : ByteArray) (k : Nat) (n i b z j e : Int) : vint_Reader_Num.j1 (k + 1) n i b z j true s e = vint_Reader_Num.j2 k s e := by
  simp only [vint_Reader_Num.j1, if_true]
theorem readnum_l0 (s : ByteArray) (hs : s.size ≤ 140737488351232) : ∀ (d k i : Nat), 10 - i = d → 2 * d + 14 ≤ k → i ≤ Vm.run (nb s) → i ≤ 9 →
    vint_Reader_Num.l0 k (Vm.val ((nb s).take i) : Int) (s.size : Int) (i : Int) s 0 = some (((Vm.dec (nb s)).2.1 : Int), ba (Vm.dec (nb s)).2.2, ((Vm.dec (nb s)).1 : Int)) := by
  have hl := nb_len s
  have hrl := Vm.run_le (nb s)
  intro d
  induction d with
  | zero => intro k i h1 _ _ h2; omega
  | succ d ih =>
    intro k i hd hk hi h9
    obtain ⟨m, rfl⟩ : ∃ m, k = m + 2 := ⟨k - 2, by omega⟩
    simp only [vint_Reader_Num.l0]
    by_cases h : i < s.size
    · have p1 : (i : Int) < (s.size : Int) := by omega
      have p2 : (0 : Int) ≤ (i : Int) := by omega
      rw [if_pos p1, if_pos p2, if_pos p1, bt_nb]
      obtain ⟨h1, h2⟩ := Vm.run_step (nb s) i hi (by omega)
      have hb256 := byte_lt s i
      by_cases e9 : i = 9
      · have p3 : (i : Int) = 9 := by omega
        rw [if_pos p3]
        rw [j1_bad, num_j2 m (by omega) s hs, Vm.dec_form9 (nb s) (by omega) (by omega)]
        have p4 : ¬ (Vm.run (nb s) = s.size ∧ s.size ≤ 9) := by omega
        rw [if_neg p4]
        rfl
      · have p3 : ¬ (i : Int) = 9 := by omega
        rw [if_neg p3]
        by_cases hz : 0 < i ∧ (nb s).getD i 0 = 0
        · have p4 : (i : Int) > 0 := by omega
          have hr := h2 (by omega)
          have p5 : ¬ (Vm.run (nb s) = s.size ∧ s.size ≤ 9) := by omega
          have p6 : (((0 : Nat) : Int) == 0) = true := rfl
          rw [if_pos p4, hz.2, p6, j1_bad, num_j2 m (by omega) s hs, Vm.dec_zero (nb s) i hr (by omega) (by omega) hz.1 hz.2, if_neg p5]
          rfl
        · have ej : (if (i : Int) > 0 then vint_Reader_Num.j1 (m + 1) (Vm.val ((nb s).take i) : Int) (i : Int) (((nb s).getD i 0 : Nat) : Int) (s.size : Int) (i : Int) ((((nb s).getD i 0 : Nat) : Int) == 0) s 0 else vint_Reader_Num.j1 (m + 1) (Vm.val ((nb s).take i) : Int) (i : Int) (((nb s).getD i 0 : Nat) : Int) (s.size : Int) (i : Int) false s 0) = vint_Reader_Num.j1 (m + 1) (Vm.val ((nb s).take i) : Int) (i : Int) (((nb s).getD i 0 : Nat) : Int) (s.size : Int) (i : Int) false s 0 := by
            by_cases hp : (i : Int) > 0
            · rw [if_pos hp]
              have : ((((nb s).getD i 0 : Nat) : Int) == 0) = false := by
                rw [beq_eq_false_iff_ne]
                intro e
                exact hz ⟨by omega, by omega⟩
              rw [this]
            · rw [if_neg hp]
          rw [ej]
          by_cases hb : (nb s).getD i 0 < 128
          · rw [j1_end s m _ i _ (by omega) h hs (Vm.val_take_lt (nb s) i) hb, Vm.dec_good (nb s) i (h2 hb) (by omega) (by omega) hz]
            have e4 := Vm.val_snoc (nb s) i (by omega)
            rw [Nat.mod_eq_of_lt hb] at e4
            have e5 : s.extract (i + 1) s.size = ba ((nb s).drop (i + 1)) := by
              apply nb_inj
              rw [nb_extract, nb_ba _ (fun x hx => nb_lt s x (List.mem_of_mem_drop hx)), ← hl, List.take_length]
            rw [e5, ← e4]
            rfl
          · rw [j1_more s m _ i _ (by omega) (Vm.val_take_lt (nb s) i) (by omega) hb256, ← Vm.val_snoc (nb s) i (by omega)]
            exact ih m (i + 1) (by omega) (by omega) (h1 (by omega)) (by omega)
    · have p1 : ¬ (i : Int) < (s.size : Int) := by omega
      rw [if_neg p1, num_j2 _ (by omega) s hs, Vm.dec_short (nb s) (by omega) (by omega)]
      have p2 : Vm.run (nb s) = s.size ∧ s.size ≤ 9 := by omega
      rw [if_pos p2]
      rfl
/-- READER.NUM, where nothing was wrong -/
theorem readnum_f (k : Nat) (hk : 40 ≤ k) (s : ByteArray) (hs : s.size ≤ 140737488351232) : vint_Reader_Num.f k s 0 = some (((Vm.dec (nb s)).2.1 : Int), ba (Vm.dec (nb s)).2.2, ((Vm.dec (nb s)).1 : Int)) := by
  unfold vint_Reader_Num.f vint_Reader_Err.f
  simp only [Option.bind_some, if_true]
  exact readnum_l0 s hs 10 k 0 (by omega) (by omega) (by omega) (by omega)
/-- .. where something was wrong -/
theorem readnum_e (k : Nat) (s : ByteArray) (e : Int) (he : e ≠ 0) : vint_Reader_Num.f k s e = some (0, s, e) := by
  unfold vint_Reader_Num.f vint_Reader_Err.f
  simp only [Option.bind_some]
  rw [if_neg he]
theorem dec_lt (s : ByteArray) : (Vm.dec (nb s)).2.1 < 9223372036854775808 := by
  by_cases h : (Vm.dec (nb s)).1 = 0
  · exact (Vm.dec_once (nb s) (nb_lt s) _ _ (by rw [← h])).2
  · rw [(Vm.dec_err _ h).1]; show 0 < 9223372036854775808; omega
theorem dec_left_lt (s : ByteArray) : ∀ x ∈ (Vm.dec (nb s)).2.2, x < 256 := by
  intro x hx
  unfold Vm.dec at hx
  simp only at hx
  split at hx
  · simp at hx
  · split at hx
    · simp at hx
    · exact nb_lt s x (List.mem_of_mem_drop hx)

end Go.Proofs.Ytiljbfnnnblbpaa.PA
