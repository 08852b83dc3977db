import Derived.Test.YtiljbfnnnblbpaaPRx4
import Derived.Test.YtiljbfnnnblbpaaPRx5
import Derived.Test.YtiljbfnnnblbpaaRQ1
namespace Go.Proofs.Ytiljbfnnnblbpaa.PR
open Go.RowKit Go.Proofs.YtiljbfnnnblbpaaW.PrintWords Go.Proofs.YtiljbfnnnblbpaaW.PrintLast Go.Proofs.YtiljbfnnnblbpaaW.PrintMore
set_option linter.unusedVariables false
set_option linter.unusedSimpArgs false


/-! the document's readers -/
theorem drop_cons0 (l : List Nat) (i : Nat) (h : i < l.length) : l.drop i = l.getD i 0 :: l.drop (i + 1) := by
  rw [List.drop_eq_getElem_cons h]
  congr 1
  simp [List.getD_eq_getElem?_getD, h]
theorem val_cons (b : Nat) (l : List Nat) : Vm.val (b :: l) = b % 128 + 128 * Vm.val l := rfl
theorem ref_step (b q : Nat) (hb : b < 256) (hq : q < 72057594037927936) : wrap64 (wrap64 (128 * ((q : Nat) : Int)) + Int.tmod (wrap64 ((b : Nat) : Int)) 128) = ((b % 128 + 128 * q : Nat) : Int) := by
  have e2 : wrap64 ((b : Nat) : Int) = ((b : Nat) : Int) := by unfold wrap64; omega
  rw [e2, Int.tmod_eq_emod_of_nonneg (by omega)]
  unfold wrap64
  omega
theorem w64_pred (d : Nat) (h : d < 1000000000) : wrap64 ((d : Int) - 1) = (d : Int) - 1 := by unfold wrap64; omega
theorem refnumr_l1 (s : ByteArray) (hs : s.size ≤ 140737488351232) (n : Nat) (hn : n ≤ 8) (hns : n < s.size) : ∀ (d k : Nat) (v : Int), d ≤ n + 1 → d + 1 ≤ k → v = ((Vm.val (((nb s).drop d).take (n + 1 - d)) : Nat) : Int) →
    spliceref01_Reader_Num.l1 k (n : Int) v ((d : Int) - 1) s 0 = some (ba ((nb s).drop (n + 1)), 0, ((Vm.val ((nb s).take (n + 1)) : Nat) : Int)) := by
  intro d
  induction d with
  | zero =>
    intro k v hd hk hv
    obtain ⟨j, rfl⟩ : ∃ j, k = j + 1 := ⟨k - 1, by omega⟩
    simp only [spliceref01_Reader_Num.l1]
    rw [if_neg (by omega), w1 n (by omega), if_pos (by omega), if_pos (by omega), hv]
    have e5 : s.extract (n + 1) s.size = ba ((nb s).drop (n + 1)) := by
      apply nb_inj
      rw [nb_extract, nb_ba _ (fun x hx => nb_lt s x (List.mem_of_mem_drop hx)), ← nb_len s, List.take_length]
    rw [Int.toNat_natCast, e5]
    rfl
  | succ d ih =>
    intro k v hd hk hv
    obtain ⟨j, rfl⟩ : ∃ j, k = j + 1 := ⟨k - 1, by omega⟩
    have hb := byte_lt s d
    have hl := nb_len s
    have e0 : (((d + 1 : Nat) : Int) - 1) = (d : Int) := by omega
    have hvl : Vm.val (((nb s).drop (d + 1)).take (n + 1 - (d + 1))) < 128 ^ (n - d) := by
      refine Nat.lt_of_lt_of_le (Vm.val_lt _) (Nat.pow_le_pow_right (by decide) ?_)
      rw [List.length_take]; omega
    have hp : (128 : Nat) ^ (n - d) ≤ 128 ^ 8 := Nat.pow_le_pow_right (by decide) (by omega)
    have hp8 : (128 : Nat) ^ 8 = 72057594037927936 := by decide
    have hv2 : Vm.val (((nb s).drop (d + 1)).take (n + 1 - (d + 1))) < 72057594037927936 := by rw [← hp8]; exact Nat.lt_of_lt_of_le hvl hp
    clear hvl hp hp8
    have e1 : ((nb s).drop d).take (n + 1 - d) = (nb s).getD d 0 :: ((nb s).drop (d + 1)).take (n + 1 - (d + 1)) := by
      rw [drop_cons0 (nb s) d (by omega), show n + 1 - d = (n + 1 - (d + 1)) + 1 by omega, List.take_succ_cons]
    simp only [spliceref01_Reader_Num.l1]
    rw [e0, if_pos (by omega), if_pos (by omega), if_pos (by omega), bt_nb]
    rw [w64_pred d (by omega)]
    refine ih j _ (by omega) (by omega) ?_
    rw [hv, e1, val_cons]
    exact ref_step _ _ hb hv2
theorem refnumr_j1 (s : ByteArray) (hs : s.size ≤ 140737488351232) (k i : Nat) (hk : 30 ≤ k) (hi : i = min (Vm.run (nb s)) 9) :
    spliceref01_Reader_Num.j1 k (i : Int) s 0 = some (ba (Vm.dec (nb s)).2.2, ((Vm.dec (nb s)).1 : Int), ((Vm.dec (nb s)).2.1 : Int)) := by
  obtain ⟨j, rfl⟩ : ∃ j, k = j + 2 := ⟨k - 2, by omega⟩
  have hl := nb_len s
  have hr := Vm.run_le (nb s)
  have hd : Vm.dec (nb s) = (if i = s.size then (5, 0, []) else if i = 9 ∨ (0 < i ∧ (nb s).getD i 0 = 0) then (3, 0, []) else (0, Vm.val ((nb s).take (i + 1)), (nb s).drop (i + 1))) := by
    unfold Vm.dec
    simp only
    rw [← hi, hl]
  rw [hd]
  simp only [spliceref01_Reader_Num.j1]
  by_cases h1 : i = s.size
  · rw [if_pos h1, if_pos (show (i : Int) = (s.size : Int) by omega)]
    rfl
  · rw [if_neg h1, if_neg (show ¬ (i : Int) = (s.size : Int) by omega)]
    by_cases h9 : i = 9
    · rw [if_pos (show (i : Int) = 9 by omega), if_pos (show i = 9 ∨ _ from Or.inl h9)]
      simp only [spliceref01_Reader_Num.j2]
      rfl
    · rw [if_neg (show ¬ (i : Int) = 9 by omega)]
      have fin : spliceref01_Reader_Num.j2 (j + 1) (i : Int) false s 0 = some (ba ((nb s).drop (i + 1)), 0, ((Vm.val ((nb s).take (i + 1)) : Nat) : Int)) := by
        simp only [spliceref01_Reader_Num.j2]
        rw [if_neg (by decide)]
        have := refnumr_l1 s hs i (by omega) (by omega) (i + 1) j 0 (by omega) (by omega) (by rw [Nat.sub_self, List.take_zero]; rfl)
        rw [show (((i + 1 : Nat) : Int) - 1) = (i : Int) by omega] at this
        exact this
      by_cases hz : 0 < i ∧ (nb s).getD i 0 = 0
      · rw [if_pos (show i = 9 ∨ _ from Or.inr hz), if_pos (show (i : Int) > 0 by omega), if_pos (show (0 : Int) ≤ (i : Int) by omega), if_pos (show (i : Int) < (s.size : Int) by omega), bt_nb, hz.2]
        simp only [spliceref01_Reader_Num.j2]
        rfl
      · rw [if_neg (show ¬ (i = 9 ∨ (0 < i ∧ (nb s).getD i 0 = 0)) by rintro (h | h); exact h9 h; exact hz h)]
        by_cases hp : (i : Int) > 0
        · rw [if_pos hp, if_pos (show (0 : Int) ≤ (i : Int) by omega), if_pos (show (i : Int) < (s.size : Int) by omega), bt_nb]
          have : ((((nb s).getD i 0 : Nat) : Int) == 0) = false := by
            rw [beq_eq_false_iff_ne]
            intro e
            exact hz ⟨by omega, by omega⟩
          rw [this]
          exact fin
        · rw [if_neg hp]
          exact fin
theorem refnumr_l0 (s : ByteArray) (hs : s.size ≤ 140737488351232) : ∀ (d k i : Nat), d = 9 - i → i ≤ 9 → d + 40 ≤ k → i ≤ Vm.run (nb s) →
    spliceref01_Reader_Num.l0 k (i : Int) s 0 = some (ba (Vm.dec (nb s)).2.2, ((Vm.dec (nb s)).1 : Int), ((Vm.dec (nb s)).2.1 : Int)) := by
  have hl := nb_len s
  have hr := Vm.run_le (nb s)
  intro d
  induction d with
  | zero =>
    intro k i hd hi hk hir
    obtain ⟨j, rfl⟩ : ∃ j, k = j + 1 := ⟨k - 1, by omega⟩
    simp only [spliceref01_Reader_Num.l0]
    by_cases h : (i : Int) < (s.size : Int)
    · rw [if_pos h, if_neg (by omega)]
      exact refnumr_j1 s hs j i (by omega) (by omega)
    · rw [if_neg h]
      exact refnumr_j1 s hs j i (by omega) (by omega)
  | succ d ih =>
    intro k i hd hi hk hir
    obtain ⟨j, rfl⟩ : ∃ j, k = j + 1 := ⟨k - 1, by omega⟩
    simp only [spliceref01_Reader_Num.l0]
    by_cases h : i < s.size
    · rw [if_pos (by omega), if_pos (by omega), if_pos (by omega), bt_nb]
      obtain ⟨h1, h2⟩ := Vm.run_step (nb s) i hir (by omega)
      by_cases hb : 128 ≤ (nb s).getD i 0
      · rw [if_pos (by omega), w1 i (by omega)]
        exact ih j (i + 1) (by omega) (by omega) (by omega) (h1 hb)
      · rw [if_neg (by omega)]
        have := h2 (by omega)
        exact refnumr_j1 s hs j i (by omega) (by omega)
    · rw [if_neg (by omega)]
      exact refnumr_j1 s hs j i (by omega) (by omega)
theorem refrn_g (k : Nat) (hk : 60 ≤ k) (s : Vm.St) (h : Vm.Ok s) : spliceref01_Reader_Num.f k (ba s.1) (s.2 : Int) = some (ba (Vm.rn s).2.1, ((Vm.rn s).2.2 : Int), ((Vm.rn s).1 : Int)) := by
  obtain ⟨x, e⟩ := s
  unfold Vm.rn spliceref01_Reader_Num.f
  by_cases he : e = 0
  · subst he
    rw [if_pos (by omega), if_pos rfl]
    have := refnumr_l0 (ba x) (ok_size _ h) 9 k 0 (by omega) (by omega) (by omega) (by omega)
    rw [nb_ba _ h.1] at this
    exact this
  · rw [if_neg (by omega), if_neg he]
    rfl
theorem refrw_g (k : Nat) (hk : 60 ≤ k) (s : Vm.St) (h : Vm.Ok s) : spliceref01_Reader_Whole.f k (ba s.1) (s.2 : Int) = some (ba (Vm.rw s).2.1, ((Vm.rw s).2.2 : Int), (Vm.rw s).1) := by
  unfold spliceref01_Reader_Whole.f
  rw [refrn_g k hk s h]
  have h1 := Vm.rn_lt s h
  simp only [Option.bind_some]
  rw [Int.tmod_eq_emod_of_nonneg (by omega), Int.tdiv_eq_ediv_of_nonneg (by omega)]
  unfold Vm.rw Vm.unfold'
  by_cases hp : (Vm.rn s).1 % 2 = 1
  · rw [if_pos (by omega), if_pos hp]
    have : wrap64 (wrap64 (-(wrap64 (((Vm.rn s).1 : Int) / 2))) - 1) = -(((Vm.rn s).1 / 2 : Nat) : Int) - 1 := by unfold wrap64; omega
    rw [this]
  · rw [if_neg (by omega), if_neg hp]
    have : wrap64 (((Vm.rn s).1 : Int) / 2) = (((Vm.rn s).1 / 2 : Nat) : Int) := by unfold wrap64; omega
    rw [this]
theorem refrf_g (s : Vm.St) (h : Vm.Ok s) : spliceref01_Reader_Flag.f (ba s.1) (s.2 : Int) = some (ba (Vm.rf s).2.1, ((Vm.rf s).2.2 : Int), (Vm.rf s).1) := by
  obtain ⟨x, e⟩ := s
  unfold spliceref01_Reader_Flag.f Vm.rf
  by_cases he : e = 0
  · subst he
    rw [if_pos (by omega), if_pos rfl]
    cases x with
    | nil => rw [if_pos (by rw [ba_nil_iff])]; rfl
    | cons b x =>
      rw [if_neg (by rw [ba_nil_iff]; simp)]
      have e0 : bt (ba (b :: x)) 0 = (b : Int) := by
        have := bt_nb (ba (b :: x)) 0
        rw [nb_ba _ h.1] at this
        simpa using this
      rw [if_pos (by rw [ba_size]; simp only [List.length_cons]; omega), e0]
      simp only
      by_cases hb : b > 1
      · rw [if_pos (by omega), if_pos hb]
        rfl
      · rw [if_neg (by omega), if_neg hb, if_pos (by rw [ba_size]; simp only [List.length_cons]; omega), ba_extract, ba_size, List.take_length]
        have : ((b : Int) == 1) = decide (b = 1) := by
          rw [Bool.eq_iff_iff]; simp; omega
        rw [this]
        rfl
  · rw [if_neg (by omega), if_neg he]
theorem refrt_g (k : Nat) (hk : 60 ≤ k) (m : Int) (s : Vm.St) (h : Vm.Ok s) : spliceref01_Reader_Text.f k (ba s.1) (s.2 : Int) m = some (ba (Vm.rt m s).2.1, ((Vm.rt m s).2.2 : Int), ba (Vm.rt m s).1) := by
  unfold spliceref01_Reader_Text.f Vm.rt
  rw [refrn_g k hk s h]
  simp only [Option.bind_some]
  by_cases he : (Vm.rn s).2.2 = 0
  · rw [if_pos (by omega), if_pos he]
    by_cases h1 : ((Vm.rn s).1 : Int) > m
    · rw [if_pos h1, if_pos h1]; rfl
    · rw [if_neg h1, if_neg h1, ba_size]
      by_cases h2 : (Vm.rn s).1 > (Vm.rn s).2.1.length
      · rw [if_pos (by omega), if_pos h2]; rfl
      · rw [if_neg (by omega), if_neg h2, if_pos (by omega), if_pos (by omega), ba_extract, ba_extract]
        simp only [Int.toNat_natCast, List.take_length, List.drop_zero]
        rfl
  · rw [if_neg (by omega), if_neg he]
    rfl
theorem refrl_l0 : ∀ (n k i t : Nat) (acc : List Int) (s : Vm.St), Vm.Ok s → i + n = t → t ≤ 1000000000 → acc.length = i → n + 70 ≤ k →
    spliceref01_Reader_List.l0 k (t : Int) acc (i : Int) (ba s.1) (s.2 : Int) = some (ba (Vm.rls n acc s).2.1, ((Vm.rls n acc s).2.2 : Int), (Vm.rls n acc s).1) := by
  intro n
  induction n with
  | zero =>
    intro k i t acc s h e ht ha hk
    obtain ⟨m, rfl⟩ : ∃ m, k = m + 1 := ⟨k - 1, by omega⟩
    simp only [spliceref01_Reader_List.l0]
    rw [if_neg (by omega)]
    rfl
  | succ n ih =>
    intro k i t acc s h e ht ha hk
    obtain ⟨m, rfl⟩ : ∃ m, k = m + 1 := ⟨k - 1, by omega⟩
    simp only [spliceref01_Reader_List.l0]
    rw [if_pos (by omega), refrw_g m (by omega) s h]
    simp only [Option.bind_some, Vm.rls]
    by_cases he : (Vm.rw s).2.2 = 0
    · rw [if_pos (by omega), if_pos he, if_pos (by omega), w1 i (by omega)]
      exact ih m (i + 1) t _ _ (Vm.rw_ok s h).1 (by omega) ht (by rw [List.length_append]; simp; omega) (by omega)
    · rw [if_neg (by omega), if_neg he]
theorem refrl_g (k : Nat) (m : Int) (s : Vm.St) (h : Vm.Ok s) (hk : 80 ≤ k) (hk2 : (Vm.rn s).2.2 = 0 → ((Vm.rn s).1 : Int) ≤ m → (Vm.rn s).1 + 80 ≤ k ∧ (Vm.rn s).1 ≤ 1000000000) :
    spliceref01_Reader_List.f k (ba s.1) (s.2 : Int) m = some (ba (Vm.rl m s).2.1, ((Vm.rl m s).2.2 : Int), (Vm.rl m s).1) := by
  unfold spliceref01_Reader_List.f Vm.rl
  rw [refrn_g k (by omega) s h]
  simp only [Option.bind_some]
  by_cases he : (Vm.rn s).2.2 = 0
  · rw [if_pos (by omega), if_pos he]
    by_cases h1 : ((Vm.rn s).1 : Int) > m
    · rw [if_pos h1, if_pos h1]; rfl
    · rw [if_neg h1, if_neg h1]
      obtain ⟨h2, h3⟩ := hk2 he (by omega)
      exact refrl_l0 (Vm.rn s).1 k 0 (Vm.rn s).1 [] _ (Vm.rn_ok s h).1 (by omega) h3 rfl (by omega)
  · rw [if_neg (by omega), if_neg he]
theorem refend_g (s : Vm.St) : spliceref01_Reader_End.f (ba s.1) (s.2 : Int) = some (Vm.re s : Int) := by
  unfold spliceref01_Reader_End.f Vm.re
  by_cases he : s.2 = 0
  · rw [if_pos (by omega), if_pos he]
    by_cases hx : s.1 = []
    · rw [if_pos ((ba_nil_iff _).2 hx), if_pos hx, he]
    · rw [if_neg (fun h => hx ((ba_nil_iff _).1 h)), if_neg hx]; rfl
  · rw [if_neg (by omega), if_neg he]

end Go.Proofs.Ytiljbfnnnblbpaa.PR
