import Derived.Test.YtlmecdlbnpnajaaPBx1
import Derived.Test.YtlmecdlbnpnajaaPBx2

namespace Go.Proofs.Ytlmecdlbnpnajaa.PB
open Go.RowKit Go.Proofs.YtlmecdlbnpnajaaW.PrintWords Go.Proofs.YtlmecdlbnpnajaaW.PrintLast Go.Proofs.YtlmecdlbnpnajaaW.PrintMore
set_option linter.unusedVariables false
set_option linter.unusedSimpArgs false

namespace Vm
/-- a number's bytes -/
def enc (n : Nat) : List Nat := if n < 128 then [n] else (n % 128 + 128) :: enc (n / 128)
termination_by n
decreasing_by omega
theorem enc_lt {n : Nat} (h : n < 128) : enc n = [n] := by rw [enc]; simp [h]
theorem enc_ge {n : Nat} (h : ¬ n < 128) : enc n = (n % 128 + 128) :: enc (n / 128) := by rw [enc]; simp [h]
theorem enc_ne (n : Nat) : enc n ≠ [] := by
  by_cases h : n < 128
  · rw [enc_lt h]; simp
  · rw [enc_ge h]; simp
theorem enc_pos (n : Nat) : 1 ≤ (enc n).length := by
  have := enc_ne n
  cases h : enc n with
  | nil => exact absurd h this
  | cons => simp
theorem enc_byte (n : Nat) : ∀ x ∈ enc n, x < 256 := by
  induction n using Nat.strongRecOn with
  | _ n ih =>
    by_cases h : n < 128
    · rw [enc_lt h]; intro x hx; simp at hx; omega
    · rw [enc_ge h]; intro x hx
      rcases List.mem_cons.1 hx with rfl | hx
      · omega
      · exact ih _ (by omega) x hx
theorem enc_len_mono (n : Nat) : ∀ m, n ≤ m → (enc n).length ≤ (enc m).length := by
  induction n using Nat.strongRecOn with
  | _ n ih =>
    intro m hm
    by_cases h : n < 128
    · rw [enc_lt h]; exact enc_pos m
    · rw [enc_ge h, enc_ge (show ¬ m < 128 by omega)]
      simp only [List.length_cons]
      have := ih (n / 128) (by omega) (m / 128) (by omega)
      omega
theorem enc_len_le (k : Nat) : ∀ n, n < 128 ^ k → 1 ≤ k → (enc n).length ≤ k := by
  induction k with
  | zero => intro n _ h; omega
  | succ k ih =>
    intro n hn _
    by_cases h : n < 128
    · rw [enc_lt h]; simp
    · rw [enc_ge h]
      have hk : 1 ≤ k := by
        rcases k with _ | k
        · simp at hn; omega
        · omega
      have := ih (n / 128) (by rw [Nat.pow_succ] at hn; omega) hk
      simp only [List.length_cons]; omega
theorem enc_len9 (n : Nat) (h : n < 9223372036854775808) : (enc n).length ≤ 9 := enc_len_le 9 n (by omega) (by omega)
theorem enc_len2 (n : Nat) (h : n < 16384) : (enc n).length ≤ 2 := enc_len_le 2 n (by omega) (by omega)
theorem enc_len3 (n : Nat) (h : n < 2097152) : (enc n).length ≤ 3 := enc_len_le 3 n (by omega) (by omega)
/-- the value of groups -/
def val : List Nat → Nat
  | [] => 0
  | b :: l => b % 128 + 128 * val l
/-- how many bytes that go on stand in front -/
def run : List Nat → Nat
  | [] => 0
  | b :: l => if 128 ≤ b then run l + 1 else 0
theorem run_le (l : List Nat) : run l ≤ l.length := by
  induction l with
  | nil => simp [run]
  | cons b l ih => simp only [run]; split <;> simp <;> omega
/-- reading a number: an error (0: none), the number, what is left -/
def dec (l : List Nat) : Nat × Nat × List Nat :=
  let k := min (run l) 9
  if k = l.length then (5, 0, [])
  else if k = 9 ∨ (0 < k ∧ l.getD k 0 = 0) then (3, 0, [])
  else (0, val (l.take (k + 1)), l.drop (k + 1))
/-- of what was written: the groups but the last one go on, the last one ends and is not 0 unless alone -/
theorem enc_run (n : Nat) (r : List Nat) : run (enc n ++ r) + 1 = (enc n).length := by
  induction n using Nat.strongRecOn with
  | _ n ih =>
    by_cases h : n < 128
    · rw [enc_lt h]; simp [run]; omega
    · rw [enc_ge h]; simp only [List.cons_append, run, List.length_cons]
      rw [if_pos (by omega), ih _ (by omega)]
theorem enc_last (n : Nat) (r : List Nat) (h : 128 ≤ n) : (enc n ++ r).getD ((enc n).length - 1) 0 ≠ 0 := by
  induction n using Nat.strongRecOn with
  | _ n ih =>
    rw [enc_ge (show ¬ n < 128 by omega)]
    simp only [List.cons_append, List.length_cons, Nat.add_sub_cancel]
    have hp := enc_pos (n / 128)
    obtain ⟨m, hm⟩ : ∃ m, (enc (n / 128)).length = m + 1 := ⟨(enc (n / 128)).length - 1, by omega⟩
    rw [hm, List.getD_cons_succ]
    by_cases h2 : 128 ≤ n / 128
    · have := ih (n / 128) (by omega) h2
      rw [hm] at this
      simpa using this
    · rw [enc_lt (by omega)] at hm ⊢
      simp at hm
      subst hm
      simp; omega
theorem enc_val (n : Nat) : val (enc n) = n := by
  induction n using Nat.strongRecOn with
  | _ n ih =>
    by_cases h : n < 128
    · rw [enc_lt h]; simp [val]; omega
    · rw [enc_ge h]; simp only [val]; rw [ih _ (by omega)]; omega
/-- WHAT IS WRITTEN IS READ -/
theorem dec_enc (n : Nat) (h : n < 9223372036854775808) (r : List Nat) : dec (enc n ++ r) = (0, n, r) := by
  have h9 := enc_len9 n h
  have hr := enc_run n r
  have hp := enc_pos n
  unfold dec
  have hk : min (run (enc n ++ r)) 9 = (enc n).length - 1 := by omega
  simp only [hk]
  rw [if_neg (by rw [List.length_append]; omega), if_neg]
  · have e : (enc n).length - 1 + 1 = (enc n).length := by omega
    rw [e, List.take_left, List.drop_left, enc_val]
  · rintro (h1 | ⟨h1, h2⟩)
    · omega
    · have : 128 ≤ n := by
        apply Classical.byContradiction; intro hc
        rw [enc_lt (by omega)] at h1; simp at h1
      exact enc_last n r this h2
/-- the value of a run that ends well is written in that way alone -/
theorem enc_of_val : ∀ (l : List Nat) (k : Nat), k < l.length → (∀ x ∈ l, x < 256) → run l = k → (k = 0 ∨ l.getD k 0 ≠ 0) → enc (val (l.take (k + 1))) = l.take (k + 1) ∧ (0 < k → 128 ≤ val (l.take (k + 1))) := by
  intro l
  induction l with
  | nil => intro k h; simp at h
  | cons b l ih =>
    intro k hk hb hr h0
    have hb1 := hb b (by simp)
    by_cases hge : 128 ≤ b
    · simp only [run, if_pos hge] at hr
      obtain ⟨j, rfl⟩ : ∃ j, k = j + 1 := ⟨k - 1, by omega⟩
      have hj : j < l.length := by simpa using hk
      have hne : l.getD j 0 ≠ 0 := by
        rcases h0 with h0 | h0
        · omega
        · simpa using h0
      obtain ⟨e1, e2⟩ := ih j hj (fun x hx => hb x (by simp [hx])) (by omega) (Or.inr hne)
      have hv : 1 ≤ val (l.take (j + 1)) := by
        rcases Nat.eq_zero_or_pos j with h | h
        · subst h
          cases l with
          | nil => simp at hj
          | cons c l =>
            simp at hne
            have hc : c < 128 := by
              apply Classical.byContradiction; intro hcc
              simp only [run, if_pos (show 128 ≤ c by omega)] at hr; omega
            simp [val]; omega
        · have := e2 h; omega
      rw [List.take_succ_cons]
      simp only [val]
      refine ⟨?_, fun _ => by omega⟩
      rw [enc_ge (by omega)]
      have q1 : (b % 128 + 128 * val (l.take (j + 1))) % 128 + 128 = b := by omega
      have q2 : (b % 128 + 128 * val (l.take (j + 1))) / 128 = val (l.take (j + 1)) := by omega
      rw [q1, q2, e1]
    · simp only [run, if_neg hge] at hr
      subst hr
      rw [List.take_succ_cons]
      simp only [val, List.take_zero]
      refine ⟨?_, fun h => by omega⟩
      rw [enc_lt (by omega)]
      congr 1; omega
theorem val_lt : ∀ l : List Nat, val l < 128 ^ l.length := by
  intro l
  induction l with
  | nil => simp [val]
  | cons b l ih => simp only [val, List.length_cons, Nat.pow_succ]; omega
/-- IN ONE WAY ALONE -/
theorem dec_once (l : List Nat) (hb : ∀ x ∈ l, x < 256) (n : Nat) (r : List Nat) (h : dec l = (0, n, r)) : enc n ++ r = l ∧ n < 9223372036854775808 := by
  unfold dec at h
  have hrl := run_le l
  simp only at h
  split at h
  · simp at h
  · split at h
    · simp at h
    · rename_i h1 h2
      simp only [Prod.mk.injEq, true_and] at h
      obtain ⟨rfl, rfl⟩ := h
      have hk9 : min (run l) 9 ≠ 9 := fun e => h2 (Or.inl e)
      have hk : min (run l) 9 = run l := by omega
      rw [hk] at h1 h2 ⊢
      obtain ⟨e1, _⟩ := enc_of_val l (run l) (by omega) hb rfl (by
        rcases Nat.eq_zero_or_pos (run l) with h | h
        · exact Or.inl h
        · exact Or.inr (fun e => h2 (Or.inr ⟨h, e⟩)))
      rw [e1, List.take_append_drop]
      refine ⟨rfl, ?_⟩
      have := val_lt (l.take (run l + 1))
      have hl : (l.take (run l + 1)).length ≤ 9 := by rw [List.length_take]; omega
      have : val (l.take (run l + 1)) < 128 ^ 9 := Nat.lt_of_lt_of_le this (Nat.pow_le_pow_right (by decide) hl)
      omega
theorem enc_inj (n m : Nat) (h : enc n = enc m) : n = m := by rw [← enc_val n, ← enc_val m, h]
/-- what is cut off says that it ends -/
theorem dec_cut (n : Nat) (h : n < 9223372036854775808) (k : Nat) (hk : k < (enc n).length) : dec ((enc n).take k) = (5, 0, []) := by
  have h9 := enc_len9 n h
  have hall : ∀ (n k : Nat), k < (enc n).length → run ((enc n).take k) = k := by
    intro n
    induction n using Nat.strongRecOn with
    | _ n ih =>
      intro k hk
      rcases k with _ | k
      · simp [run]
      · by_cases h : n < 128
        · rw [enc_lt h] at hk; simp at hk
        · rw [enc_ge h] at hk ⊢
          rw [List.take_succ_cons]
          simp only [run]
          rw [if_pos (by omega), ih _ (by omega) k (by simpa using hk)]
  unfold dec
  have hl : ((enc n).take k).length = k := by rw [List.length_take]; omega
  simp only
  rw [hall n k hk, hl, if_pos (by omega)]
theorem dec_err (l : List Nat) (h : (dec l).1 ≠ 0) : dec l = ((dec l).1, 0, []) ∧ ((dec l).1 = 3 ∨ (dec l).1 = 5) := by
  unfold dec at h ⊢
  simp only at h ⊢
  split
  · simp
  · split
    · simp
    · rename_i h1 h2; rw [if_neg h1, if_neg h2] at h; simp at h
theorem dec_left (l : List Nat) (h : (dec l).1 = 0) : (dec l).2.2.length < l.length := by
  unfold dec at h ⊢
  simp only at h ⊢
  have := run_le l
  split
  · rename_i h1; rw [if_pos h1] at h; simp at h
  · split
    · rename_i h1 h2; rw [if_neg h1, if_pos h2] at h; simp at h
    · simp; omega
/-- whole numbers -/
def fold (z : Int) : Nat := if 0 ≤ z then (2 * z).toNat else (-2 * z - 1).toNat
def unfold' (n : Nat) : Int := if n % 2 = 1 then -(n / 2 : Nat) - 1 else (n / 2 : Nat)
theorem unfold_fold (z : Int) : unfold' (fold z) = z := by
  unfold unfold' fold
  split <;> split <;> omega
theorem fold_unfold (n : Nat) : fold (unfold' n) = n := by
  unfold unfold' fold
  split <;> split <;> omega
abbrev may (z : Int) : Prop := -4611686018427387904 ≤ z ∧ z ≤ 4611686018427387903
theorem fold_lt (z : Int) (h : may z) : fold z < 9223372036854775808 := by
  unfold fold may at *
  split <;> omega
theorem may_unfold (n : Nat) (h : n < 9223372036854775808) : may (unfold' n) := by
  unfold unfold' may
  split <;> omega
end Vm
namespace Vm
theorem run_step (l : List Nat) : ∀ i, i ≤ run l → i < l.length → (128 ≤ l.getD i 0 → i + 1 ≤ run l) ∧ (l.getD i 0 < 128 → run l = i) := by
  induction l with
  | nil => intro i _ h; simp at h
  | cons b l ih =>
    intro i hi hl
    cases i with
    | zero =>
      simp only [List.getD_cons_zero, run]
      constructor
      · intro h; rw [if_pos h]; omega
      · intro h; rw [if_neg (by omega)]
    | succ i =>
      simp only [List.getD_cons_succ]
      simp only [run] at hi ⊢
      split at hi
      · rename_i hb
        rw [if_pos hb]
        obtain ⟨h1, h2⟩ := ih i (by omega) (by simpa using hl)
        exact ⟨fun h => by have := h1 h; omega, fun h => by have := h2 h; omega⟩
      · omega
theorem val_snoc (l : List Nat) : ∀ i, i < l.length → val (l.take (i + 1)) = val (l.take i) + (l.getD i 0 % 128) * 128 ^ i := by
  induction l with
  | nil => intro i h; simp at h
  | cons b l ih =>
    intro i hl
    cases i with
    | zero => simp [val]
    | succ i =>
      rw [List.take_succ_cons, List.take_succ_cons]
      simp only [val, List.getD_cons_succ]
      rw [ih i (by simpa using hl), Nat.mul_add, ← Nat.add_assoc, Nat.pow_succ]
      congr 1
      rw [← Nat.mul_assoc, Nat.mul_comm 128, Nat.mul_assoc, Nat.mul_comm 128]
theorem val_take_lt (l : List Nat) (i : Nat) : val (l.take i) < 128 ^ i :=
  Nat.lt_of_lt_of_le (val_lt _) (Nat.pow_le_pow_right (by decide) (by rw [List.length_take]; omega))
end Vm
namespace Vm
theorem dec_form9 (l : List Nat) (h9 : 9 ≤ run l) (h : 9 < l.length) : dec l = (3, 0, []) := by
  unfold dec
  simp only
  rw [if_neg (by omega), if_pos (Or.inl (by omega))]
theorem dec_zero (l : List Nat) (i : Nat) (hr : run l = i) (h9 : i < 9) (h : i < l.length) (h0 : 0 < i) (hz : l.getD i 0 = 0) : dec l = (3, 0, []) := by
  have hm : min (run l) 9 = i := by omega
  unfold dec
  simp only [hm]
  rw [if_neg (by omega), if_pos (Or.inr ⟨h0, hz⟩)]
theorem dec_good (l : List Nat) (i : Nat) (hr : run l = i) (h9 : i < 9) (h : i < l.length) (hz : ¬ (0 < i ∧ l.getD i 0 = 0)) : dec l = (0, val (l.take (i + 1)), l.drop (i + 1)) := by
  have hm : min (run l) 9 = i := by omega
  unfold dec
  simp only [hm]
  rw [if_neg (by omega), if_neg (by rintro (h1 | h1); omega; exact hz h1)]
theorem dec_short (l : List Nat) (hr : run l = l.length) (h9 : l.length ≤ 9) : dec l = (5, 0, []) := by
  unfold dec
  simp only
  rw [if_pos (by omega)]
end Vm

namespace Vm
/-! readers: bytes that are left, and an error (0: none) -/
abbrev St := List Nat × Nat
def Ok (s : St) : Prop := (∀ x ∈ s.1, x < 256) ∧ s.1.length ≤ 140737488351232 ∧ (s.2 = 0 ∨ s.2 = 2 ∨ s.2 = 3 ∨ s.2 = 5)
def rn (s : St) : Nat × St := if s.2 = 0 then ((dec s.1).2.1, (dec s.1).2.2, (dec s.1).1) else (0, s)
def rw (s : St) : Int × St := (unfold' (rn s).1, (rn s).2)
def rf (s : St) : Bool × St := if s.2 = 0 then (match s.1 with | [] => (false, [], 5) | b :: x => if b > 1 then (false, [], 3) else (decide (b = 1), x, 0)) else (false, s)
def rt (m : Int) (s : St) : List Nat × St :=
  if (rn s).2.2 = 0 then
    if ((rn s).1 : Int) > m then ([], [], 2) else if (rn s).1 > (rn s).2.1.length then ([], [], 5) else ((rn s).2.1.take (rn s).1, (rn s).2.1.drop (rn s).1, 0)
  else ([], (rn s).2)
def rls : Nat → List Int → St → List Int × St
  | 0, acc, s => (acc, s)
  | n + 1, acc, s => if (rw s).2.2 = 0 then rls n (acc ++ [(rw s).1]) (rw s).2 else ([], (rw s).2)
def rl (m : Int) (s : St) : List Int × St :=
  if (rn s).2.2 = 0 then (if ((rn s).1 : Int) > m then ([], [], 2) else rls (rn s).1 [] (rn s).2) else ([], (rn s).2)
def re (s : St) : Nat := if s.2 = 0 then (if s.1 = [] then 0 else 2) else s.2
theorem dec_ok (l : List Nat) (h : ∀ x ∈ l, x < 256) : (∀ x ∈ (dec l).2.2, x < 256) ∧ (dec l).2.2.length ≤ l.length ∧ ((dec l).1 = 0 ∨ (dec l).1 = 3 ∨ (dec l).1 = 5) := by
  unfold dec
  simp only
  split
  · simp
  · split
    · simp
    · refine ⟨fun x hx => h x (List.mem_of_mem_drop hx), by simp, by simp⟩
theorem rn_ok (s : St) (h : Ok s) : Ok (rn s).2 ∧ (rn s).2.1.length ≤ s.1.length := by
  unfold rn
  split
  · have := dec_ok s.1 h.1
    refine ⟨⟨this.1, by have := h.2.1; show (dec s.1).2.2.length ≤ _; omega, ?_⟩, this.2.1⟩
    have h3 := this.2.2
    show (dec s.1).1 = 0 ∨ (dec s.1).1 = 2 ∨ (dec s.1).1 = 3 ∨ (dec s.1).1 = 5
    omega
  · exact ⟨h, Nat.le_refl _⟩
theorem rw_ok (s : St) (h : Ok s) : Ok (rw s).2 ∧ (rw s).2.1.length ≤ s.1.length := rn_ok s h
theorem nil_ok (e : Nat) (h : e = 0 ∨ e = 2 ∨ e = 3 ∨ e = 5) : Ok ([], e) := ⟨by simp, by simp, h⟩
theorem rf_ok (s : St) (h : Ok s) : Ok (rf s).2 ∧ (rf s).2.1.length ≤ s.1.length := by
  obtain ⟨x, e⟩ := s
  unfold rf
  simp only
  split
  · cases x with
    | nil => exact ⟨nil_ok 5 (by omega), by simp⟩
    | cons b x =>
      simp only
      split
      · exact ⟨nil_ok 3 (by omega), by simp⟩
      · refine ⟨⟨fun y hy => h.1 y (by simp [hy]), ?_, Or.inl rfl⟩, by simp⟩
        have := h.2.1
        simp only [List.length_cons] at this
        simp only
        omega
  · exact ⟨h, Nat.le_refl _⟩
theorem rt_ok (m : Int) (s : St) (h : Ok s) : Ok (rt m s).2 ∧ (rt m s).2.1.length ≤ s.1.length ∧ (rt m s).1.length ≤ s.1.length ∧ (∀ x ∈ (rt m s).1, x < 256) := by
  obtain ⟨h1, h2⟩ := rn_ok s h
  unfold rt
  split
  · split
    · exact ⟨nil_ok 2 (by omega), by simp⟩
    · split
      · exact ⟨nil_ok 5 (by omega), by simp⟩
      · refine ⟨⟨fun y hy => h1.1 y (List.mem_of_mem_drop hy), ?_, Or.inl rfl⟩, ?_, ?_, fun y hy => h1.1 y (List.mem_of_mem_take hy)⟩
        · have := h1.2.1; simp only [List.length_drop]; omega
        · simp only [List.length_drop]; omega
        · simp only [List.length_take]; omega
  · exact ⟨h1, h2, by simp⟩
theorem rls_ok : ∀ (n : Nat) (acc : List Int) (s : St), Ok s → Ok (rls n acc s).2 ∧ (rls n acc s).2.1.length ≤ s.1.length := by
  intro n
  induction n with
  | zero => intro acc s h; exact ⟨h, Nat.le_refl _⟩
  | succ n ih =>
    intro acc s h
    obtain ⟨h1, h2⟩ := rw_ok s h
    simp only [rls]
    split
    · obtain ⟨h3, h4⟩ := ih (acc ++ [(rw s).1]) _ h1
      exact ⟨h3, by omega⟩
    · exact ⟨h1, h2⟩
theorem rl_ok (m : Int) (s : St) (h : Ok s) : Ok (rl m s).2 ∧ (rl m s).2.1.length ≤ s.1.length := by
  obtain ⟨h1, h2⟩ := rn_ok s h
  unfold rl
  split
  · split
    · exact ⟨nil_ok 2 (by omega), by simp⟩
    · obtain ⟨h3, h4⟩ := rls_ok (rn s).1 [] _ h1
      exact ⟨h3, by omega⟩
  · exact ⟨h1, h2⟩
theorem rn_lt (s : St) (h : Ok s) : (rn s).1 < 9223372036854775808 := by
  unfold rn
  split
  · by_cases h0 : (dec s.1).1 = 0
    · exact (dec_once s.1 h.1 _ _ (by rw [← h0])).2
    · rw [(dec_err _ h0).1]; show 0 < 9223372036854775808; omega
  · show 0 < 9223372036854775808; omega
theorem rw_may (s : St) (h : Ok s) : may (rw s).1 := may_unfold _ (rn_lt s h)
/-! what is written is read -/
theorem rn_enc (n : Nat) (h : n < 9223372036854775808) (r : List Nat) : rn (enc n ++ r, 0) = (n, r, 0) := by
  unfold rn; rw [if_pos rfl]; simp only; rw [dec_enc n h r]
theorem rw_enc (z : Int) (h : may z) (r : List Nat) : rw (enc (fold z) ++ r, 0) = (z, r, 0) := by
  unfold rw; rw [rn_enc _ (fold_lt z h) r, unfold_fold]
theorem rf_one (b : Bool) (r : List Nat) : rf ((if b = true then 1 else 0) :: r, 0) = (b, r, 0) := by
  cases b <;> rfl
theorem rt_enc (s : List Nat) (m : Int) (hm : (s.length : Int) ≤ m) (h : s.length < 9223372036854775808) (r : List Nat) : rt m (enc s.length ++ (s ++ r), 0) = (s, r, 0) := by
  unfold rt
  rw [rn_enc _ h, if_pos rfl]
  simp only
  rw [if_neg (by omega), if_neg (by rw [List.length_append]; omega), List.take_left, List.drop_left]
def lencs (l : List Int) : List Nat := l.flatMap fun z => enc (fold z)
theorem rls_enc : ∀ (l acc : List Int) (r : List Nat), (∀ z ∈ l, may z) → rls l.length acc (lencs l ++ r, 0) = (acc ++ l, r, 0) := by
  intro l
  induction l with
  | nil => intro acc r _; simp [rls, lencs]
  | cons z l ih =>
    intro acc r h
    have e : lencs (z :: l) = enc (fold z) ++ lencs l := rfl
    rw [e, List.append_assoc]
    simp only [List.length_cons, rls]
    rw [rw_enc z (h z (by simp)), if_pos rfl]
    rw [ih (acc ++ [z]) r (fun y hy => h y (by simp [hy]))]
    simp
theorem rl_enc (l : List Int) (m : Int) (hm : (l.length : Int) ≤ m) (h : l.length < 9223372036854775808) (hz : ∀ z ∈ l, may z) (r : List Nat) : rl m (enc l.length ++ (lencs l ++ r), 0) = (l, r, 0) := by
  unfold rl
  rw [rn_enc _ h, if_pos rfl]
  simp only
  rw [if_neg (by omega), rls_enc l [] r hz]
  rfl
/-! in one way alone -/
theorem rn_once (s : List Nat) (h : ∀ x ∈ s, x < 256) (n : Nat) (r : List Nat) (e : rn (s, 0) = (n, r, 0)) : enc n ++ r = s ∧ n < 9223372036854775808 := by
  apply dec_once s h
  unfold rn at e
  rw [if_pos rfl] at e
  simp only [Prod.mk.injEq] at e
  obtain ⟨rfl, rfl, e⟩ := e
  rw [← e]
/-- where something was wrong, nothing is read -/
theorem bad (s : St) (h : s.2 ≠ 0) : rn s = (0, s) ∧ rw s = (0, s) ∧ rf s = (false, s) ∧ (∀ m, rt m s = ([], s)) ∧ (∀ m, rl m s = ([], s)) ∧ re s = s.2 := by
  have e : rn s = (0, s) := by unfold rn; rw [if_neg h]
  refine ⟨e, ?_, ?_, ?_, ?_, ?_⟩
  · unfold rw; rw [e]; simp [unfold']
  · unfold rf; rw [if_neg h]
  · intro m; unfold rt; rw [e, if_neg h]
  · intro m; unfold rl; rw [e, if_neg h]
  · unfold re; rw [if_neg h]
/-- an error leaves nothing -/
theorem rn_err (s : List Nat) (h : (rn (s, 0)).2.2 ≠ 0) : (rn (s, 0)).2.1 = [] := by
  unfold rn at h ⊢
  rw [if_pos rfl] at h ⊢
  simp only at h ⊢
  rw [(dec_err s h).1]
end Vm

/-- bytes out of numbers -/
def ba (l : List Nat) : ByteArray := ⟨(l.map UInt8.ofNat).toArray⟩
theorem ba_size (l : List Nat) : (ba l).size = l.length := by simp [ba, ByteArray.size]
theorem ba_append (l m : List Nat) : ba l ++ ba m = ba (l ++ m) := by
  apply ByteArray.ext; simp [ba, ByteArray.data_append]
theorem ba_toList (l : List Nat) : (ba l).toList = l.map UInt8.ofNat := by rw [ByteArray.toList_eq]; simp [ba]
theorem toList_iff (a b : ByteArray) : a.toList = b.toList ↔ a = b := by
  rw [ByteArray.toList_eq, ByteArray.toList_eq]
  constructor
  · intro h; apply ByteArray.ext; exact Array.toList_inj.1 h
  · rintro rfl; rfl
/-- the numbers of bytes -/
def nb (s : ByteArray) : List Nat := s.data.toList.map UInt8.toNat
theorem nb_lt (s : ByteArray) : ∀ x ∈ nb s, x < 256 := by
  intro x hx
  simp only [nb, List.mem_map] at hx
  obtain ⟨b, _, rfl⟩ := hx
  exact b.toNat_lt
theorem nb_len (s : ByteArray) : (nb s).length = s.size := by unfold nb; rw [List.length_map, Array.length_toList]; rfl
theorem ba_nb (s : ByteArray) : ba (nb s) = s := by
  apply ByteArray.ext
  simp only [ba, nb, List.map_map]
  rw [List.map_congr_left (g := id), List.map_id]
  intro x _
  simp
theorem nb_ba (l : List Nat) (h : ∀ x ∈ l, x < 256) : nb (ba l) = l := by
  simp only [nb, ba, List.map_map]
  rw [List.map_congr_left (g := id), List.map_id]
  intro x hx
  have := h x hx
  simp [Nat.mod_eq_of_lt this]
theorem nb_inj {a b : ByteArray} (h : nb a = nb b) : a = b := by rw [← ba_nb a, h, ba_nb]
theorem nb_append (a b : ByteArray) : nb (a ++ b) = nb a ++ nb b := by simp [nb, ByteArray.data_append]
theorem nb_extract (a : ByteArray) (i j : Nat) : nb (a.extract i j) = ((nb a).take j).drop i := by
  simp [nb, ByteArray.data_extract, List.map_take, List.map_drop, List.drop_take]
theorem bt_nb (s : ByteArray) (i : Nat) : bt s (i : Int) = (((nb s).getD i 0 : Nat) : Int) := by
  unfold bt nb
  simp only [Int.toNat_natCast]
  by_cases h : i < s.size
  · have h2 : i < s.data.toList.length := by simpa using h
    rw [dif_pos h]
    simp [List.getD_eq_getElem?_getD, List.getElem?_map, List.getElem?_eq_getElem h2]
    rfl
  · rw [dif_neg h]
    have h2 : s.data.toList.length ≤ i := by simpa using h
    simp [List.getD_eq_getElem?_getD, List.getElem?_eq_none h2]
theorem strOfNums_ba (l : List Nat) : strOfNums (l.map (fun x : Nat => (x : Int))) = ba l := by
  simp [strOfNums, ba, List.map_map, Function.comp_def]
theorem nil_ba : (⟨#[]⟩ : ByteArray) = ba [] := rfl
theorem and127 (x : Int) (h0 : 0 ≤ x) (h1 : x < 9223372036854775808) : Go.bits .and .i64 x 127 = x % 128 := by
  have := bits_mask .i64 63 (by decide) (fun n a b => by
    rw [IntKind.wrap_i64]; omega) 7 (by decide) x h0 (by simpa using h1)
  simpa using this
theorem or128 : ∀ a : Fin 128, Go.bits .or .u8 ((a.val : Nat) : Int) 128 = ((a.val + 128 : Nat) : Int) := by decide +kernel
theorem num_byte (n : Nat) (h : n < 9223372036854775808) : Go.bits .or .u8 ((Go.bits .and .i64 (n : Int) 127) % 256) 128 = ((n % 128 + 128 : Nat) : Int) := by
  rw [and127 _ (by omega) (by omega)]
  have e : ((n : Int) % 128) % 256 = ((n % 128 : Nat) : Int) := by omega
  rw [e]
  exact or128 ⟨n % 128, Nat.mod_lt _ (by decide)⟩
theorem num_l0 : ∀ (k n : Nat) (acc : List Nat), (Vm.enc n).length ≤ k → n < 9223372036854775808 → acc.length + (Vm.enc n).length ≤ 1000000 →
    vint_Num.l0 k (n : Int) (acc.map (fun x : Nat => (x : Int))) = some (ba (acc ++ Vm.enc n)) := by
  intro k
  induction k with
  | zero => intro n acc h; have := Vm.enc_pos n; omega
  | succ k ih =>
    intro n acc hk hn hl
    have hp := Vm.enc_pos n
    simp only [vint_Num.l0]
    by_cases h : n < 128
    · rw [if_neg (by omega), if_pos (by simp; omega), Vm.enc_lt h, ← strOfNums_ba]
      congr 2
      simp
      omega
    · rw [if_pos (by omega), if_pos (by simp; omega), num_byte n hn]
      have e1 : ((n : Int) / 128) = ((n / 128 : Nat) : Int) := by omega
      rw [Vm.enc_ge h] at hk hl ⊢
      simp only [List.length_cons] at hk hl
      have e2 : acc.map (fun x : Nat => (x : Int)) ++ [((n % 128 + 128 : Nat) : Int)] = (acc ++ [n % 128 + 128]).map (fun x : Nat => (x : Int)) := by simp
      rw [e1, e2, ih (n / 128) (acc ++ [n % 128 + 128]) (by omega) (by omega) (by simp; omega)]
      simp
/-- NUM: a number's bytes -/
theorem num_f (k : Nat) (hk : 9 ≤ k) (n : Int) (h0 : 0 ≤ n) (h1 : n < 9223372036854775808) : vint_Num.f k n = some (ba (Vm.enc n.toNat)) := by
  obtain ⟨m, rfl⟩ := Int.eq_ofNat_of_zero_le h0
  unfold vint_Num.f
  rw [if_neg (by omega)]
  have h9 := Vm.enc_len9 m (by omega)
  have := num_l0 k m [] (by omega) (by omega) (by simp; omega)
  simpa using this
theorem num_neg (k : Nat) (n : Int) (h0 : n < 0) : vint_Num.f k n = some (ba []) := by
  unfold vint_Num.f
  rw [if_pos h0]; rfl
/-! the reference's numbers, the same -/
theorem refnum_byte (n : Nat) (h : n < 9223372036854775808) : wrap64 (128 + (Int.tmod (n : Int) 128)) % 256 = ((n % 128 + 128 : Nat) : Int) := by
  rw [Int.tmod_eq_emod_of_nonneg (by omega)]
  unfold wrap64; omega
theorem text_f (k : Nat) (hk : 9 ≤ k) (s : ByteArray) (h : s.size ≤ 140737488351232) : vint_Text.f k s = some (ba (Vm.enc s.size) ++ s) := by
  unfold vint_Text.f
  rw [num_f k hk _ (by omega) (by omega)]
  have h9 := Vm.enc_len9 s.size (by omega)
  simp only [Option.bind_some, Int.toNat_natCast, ba_size]
  rw [if_pos (by omega)]

/-! lists -/
def lenc (l : List Int) : List Nat := l.flatMap fun z => Vm.enc (Vm.fold z)
def allMay (l : List Int) : Bool := l.all fun z => decide (Vm.may z)
/-- a list's bytes -/
def listB (l : List Int) : ByteArray := if allMay l = true then ba (Vm.enc l.length ++ lenc l) else ba []
theorem allMay_cons (z : Int) (l : List Int) : allMay (z :: l) = (decide (Vm.may z) && allMay l) := rfl
theorem lenc_cons (z : Int) (l : List Int) : lenc (z :: l) = Vm.enc (Vm.fold z) ++ lenc l := rfl
theorem rd_drop (l : List Int) (i : Nat) (h : i < l.length) : l.drop i = rd l (i : Int) :: l.drop (i + 1) := by
  rw [List.drop_eq_getElem_cons h]
  congr 1
  unfold rd
  simp [List.getD_eq_getElem?_getD, h]
/-! reading a number -/
theorem bits_or_comm (k : IntKind) (a b : Int) : Go.bits .or k a b = Go.bits .or k b a := by
  simp only [Go.bits, BitVec.or_comm]
theorem or_join (x y : Int) (i : Nat) (hi : i ≤ 63) (hx0 : 0 ≤ x) (hx : x < 2 ^ i) (hy0 : 0 ≤ y) (hy : y % 2 ^ i = 0) (hy1 : y < 9223372036854775808) : Go.bits .or .i64 x y = x + y := by
  have h2 : (2 : Int) ^ i ≤ 2 ^ 63 := by
    have := Nat.pow_le_pow_right (show 0 < 2 by decide) hi
    exact_mod_cast this
  rw [bits_or_comm, bits_join .i64 63 (by decide) (fun n a b => by rw [IntKind.wrap_i64]; omega) i y x hy0 hy (by simpa using hy1) hx0 hx (by omega)]
  omega
theorem group (n i b : Nat) (hi : i ≤ 8) (hn : n < 128 ^ i) (hb : b < 128) : Go.bits .or .i64 (n : Int) (shl .i64 (b : Int) ((7 * i : Nat) : Int)) = ((n + b * 128 ^ i : Nat) : Int) := by
  have e1 : min ((7 * i : Nat) : Int).toNat IntKind.i64.bits = 7 * i := by
    have : IntKind.i64.bits = 64 := rfl
    rw [this]; simp; omega
  have e2 : (2 : Nat) ^ (7 * i) = 128 ^ i := by rw [Nat.pow_mul]
  have e3 : b * 128 ^ i + 128 ^ i ≤ 128 ^ (i + 1) := by
    rw [Nat.pow_succ]
    have : b + 1 ≤ 128 := by omega
    calc b * 128 ^ i + 128 ^ i = (b + 1) * 128 ^ i := by rw [Nat.add_mul, Nat.one_mul]
      _ ≤ 128 * 128 ^ i := Nat.mul_le_mul_right _ this
      _ = 128 ^ i * 128 := Nat.mul_comm _ _
  have e4 : (128 : Nat) ^ (i + 1) ≤ 128 ^ 9 := Nat.pow_le_pow_right (by decide) (by omega)
  have e6 : (128 : Nat) ^ 9 = 9223372036854775808 := by decide
  have e0 : 0 < (128 : Nat) ^ i := Nat.pow_pos (by decide)
  have e5 : shl .i64 (b : Int) ((7 * i : Nat) : Int) = ((b * 128 ^ i : Nat) : Int) := by
    unfold shl
    rw [e1, show ((b : Int) * 2 ^ (7 * i)) = ((b * 128 ^ i : Nat) : Int) by rw [← e2]; push_cast; rfl, IntKind.wrap_i64]
    omega
  rw [e5, or_join _ _ (7 * i) (by omega) (by omega) ?_ (by omega) ?_ (by omega)]
  · push_cast; rfl
  · have : ((2 : Int) ^ (7 * i)) = ((2 ^ (7 * i) : Nat) : Int) := by push_cast; rfl
    rw [this, e2]; omega
  · have : ((2 : Int) ^ (7 * i)) = ((2 ^ (7 * i) : Nat) : Int) := by push_cast; rfl
    rw [this, e2]
    have := Nat.mul_mod_left b (128 ^ i)
    omega
theorem byte_lt (s : ByteArray) (i : Nat) : (nb s).getD i 0 < 256 := by
  rw [List.getD_eq_getElem?_getD]
  cases h : (nb s)[i]? with
  | none => simp
  | some x => exact nb_lt s x (List.mem_of_getElem? h)
theorem and127_u8 : ∀ a : Fin 256, Go.bits .and .u8 ((a.val : Nat) : Int) 127 = ((a.val % 128 : Nat) : Int) := by decide +kernel
theorem wholeb_l0 (s : ByteArray) : ∀ (k i : Nat), i ≤ Vm.run (nb s) → i ≤ 9 → 11 - i ≤ k → s.size ≤ 140737488351232 →
    vint_whole.l0 k s (s.size : Int) (i : Int) = some (!(decide (Vm.run (nb s) = s.size) && decide (s.size ≤ 9))) := by
  intro k
  induction k with
  | zero => intro i _ h9 hk; omega
  | succ k ih =>
    intro i hi h9 hk hs
    have hl := nb_len s
    have hrl := Vm.run_le (nb s)
    simp only [vint_whole.l0]
    by_cases h : i < s.size
    · rw [if_pos (by omega)]
      by_cases e9 : i = 9
      · rw [if_pos (by omega)]
        congr 1
        have : ¬ s.size ≤ 9 := by omega
        simp [this]
      · rw [if_neg (by omega), if_pos (by omega), if_pos (by omega), bt_nb]
        obtain ⟨h1, h2⟩ := Vm.run_step (nb s) i hi (by omega)
        by_cases hb : (nb s).getD i 0 < 128
        · rw [if_pos (by omega)]
          have := h2 hb
          congr 1
          have : ¬ Vm.run (nb s) = s.size := by omega
          simp [this]
        · rw [if_neg (by omega)]
          have e : wrap64 ((i : Int) + 1) = ((i + 1 : Nat) : Int) := by unfold wrap64; omega
          rw [e]
          exact ih (i + 1) (h1 (by omega)) (by omega) (by omega) hs
    · rw [if_neg (by omega)]
      congr 1
      have h1 : Vm.run (nb s) = s.size := by omega
      have h2 : s.size ≤ 9 := by omega
      simp [h1, h2]
theorem wholeb_f (k : Nat) (hk : 11 ≤ k) (s : ByteArray) (hs : s.size ≤ 140737488351232) : vint_whole.f k s = some (!(decide (Vm.run (nb s) = s.size) && decide (s.size ≤ 9))) :=
  wholeb_l0 s k 0 (by omega) (by omega) (by omega) hs
theorem num_j2 (k : Nat) (hk : 12 ≤ k) (s : ByteArray) (hs : s.size ≤ 140737488351232) :
    vint_Reader_Num.j2 k s 0 = some (0, ba [], if Vm.run (nb s) = s.size ∧ s.size ≤ 9 then 5 else 3) := by
  obtain ⟨m, rfl⟩ : ∃ m, k = m + 1 := ⟨k - 1, by omega⟩
  simp only [vint_Reader_Num.j2]
  rw [wholeb_f m (by omega) s hs]
  simp only [Option.bind_some, vint_Reader_fail.f, if_true]
  by_cases h : Vm.run (nb s) = s.size ∧ s.size ≤ 9
  · simp [h, nil_ba]
  · have : (!(decide (Vm.run (nb s) = s.size) && decide (s.size ≤ 9))) = true := by
      by_cases h1 : Vm.run (nb s) = s.size <;> by_cases h2 : s.size ≤ 9 <;> simp [h1, h2]
      exact h ⟨h1, h2⟩
    rw [this]
    simp [h, nil_ba]
theorem j1_end (s : ByteArray) (k n i b : Nat) (hi : i ≤ 8) (his : i < s.size) (hs : s.size ≤ 140737488351232) (hn : n < 128 ^ i) (hb : b < 128) :
    vint_Reader_Num.j1 (k + 1) (n : Int) (i : Int) (b : Int) (s.size : Int) (i : Int) false s 0 = some (((n + b * 128 ^ i : Nat) : Int), s.extract (i + 1) s.size, 0) := by
  have hg := group n i b hi hn hb
  clear hn
  have e1 : wrap64 ((i : Int) + 1) = ((i + 1 : Nat) : Int) := by unfold wrap64; omega
  have e2 : wrap64 (7 * (i : Int)) = ((7 * i : Nat) : Int) := by unfold wrap64; omega
  have e3 : wrap64 (b : Int) = (b : Int) := by unfold wrap64; omega
  have q1 : (b : Int) < 128 := by omega
  have q2 : (0 : Int) ≤ ((i + 1 : Nat) : Int) := by omega
  have q3 : ((i + 1 : Nat) : Int) ≤ (s.size : Int) := by omega
  have q4 : (0 : Int) ≤ ((7 * i : Nat) : Int) := by omega
  simp only [vint_Reader_Num.j1]
  rw [if_neg (by decide), if_pos q1, e1, e2, e3, if_pos q2, if_pos q3, if_pos q4, hg]
  rfl
theorem j1_more (s : ByteArray) (k n i b : Nat) (hi : i ≤ 8) (hn : n < 128 ^ i) (hb : 128 ≤ b) (hb2 : b < 256) :
    vint_Reader_Num.j1 (k + 1) (n : Int) (i : Int) (b : Int) (s.size : Int) (i : Int) false s 0 = vint_Reader_Num.l0 k ((n + b % 128 * 128 ^ i : Nat) : Int) (s.size : Int) ((i + 1 : Nat) : Int) s 0 := by
  have hg := group n i (b % 128) hi hn (Nat.mod_lt _ (by decide))
  clear hn
  have e1 : wrap64 ((i : Int) + 1) = ((i + 1 : Nat) : Int) := by unfold wrap64; omega
  have e2 : wrap64 (7 * (i : Int)) = ((7 * i : Nat) : Int) := by unfold wrap64; omega
  have e3 := and127_u8 ⟨b, hb2⟩
  simp only at e3
  have e5 : wrap64 ((b % 128 : Nat) : Int) = ((b % 128 : Nat) : Int) := by unfold wrap64; omega
  have q1 : ¬ (b : Int) < 128 := by omega
  have q4 : (0 : Int) ≤ ((7 * i : Nat) : Int) := by omega
  simp only [vint_Reader_Num.j1]
  rw [if_neg (by decide), if_neg q1, e1, e2, e3, e5, if_pos q4, hg]
theorem j1_bad (s : ByteArray) (k : Nat) (n i b z j e : Int) : vint_Reader_Num.j1 (k + 1) n i b z j true s e = vint_Reader_Num.j2 k s e := by
  simp only [vint_Reader_Num.j1, if_true]
theorem readnum_l0 (s : ByteArray) (hs : s.size ≤ 140737488351232) : ∀ (d k i : Nat), 10 - i = d → 2 * d + 14 ≤ k → i ≤ Vm.run (nb s) → i ≤ 9 →
    vint_Reader_Num.l0 k (Vm.val ((nb s).take i) : Int) (s.size : Int) (i : Int) s 0 = some (((Vm.dec (nb s)).2.1 : Int), ba (Vm.dec (nb s)).2.2, ((Vm.dec (nb s)).1 : Int)) := by
  have hl := nb_len s
  have hrl := Vm.run_le (nb s)
  intro d
  induction d with
  | zero => intro k i h1 _ _ h2; omega
  | succ d ih =>
    intro k i hd hk hi h9
    obtain ⟨m, rfl⟩ : ∃ m, k = m + 2 := ⟨k - 2, by omega⟩
    simp only [vint_Reader_Num.l0]
    by_cases h : i < s.size
    · have p1 : (i : Int) < (s.size : Int) := by omega
      have p2 : (0 : Int) ≤ (i : Int) := by omega
      rw [if_pos p1, if_pos p2, if_pos p1, bt_nb]
      obtain ⟨h1, h2⟩ := Vm.run_step (nb s) i hi (by omega)
      have hb256 := byte_lt s i
      by_cases e9 : i = 9
      · have p3 : (i : Int) = 9 := by omega
        rw [if_pos p3]
        rw [j1_bad, num_j2 m (by omega) s hs, Vm.dec_form9 (nb s) (by omega) (by omega)]
        have p4 : ¬ (Vm.run (nb s) = s.size ∧ s.size ≤ 9) := by omega
        rw [if_neg p4]
        rfl
      · have p3 : ¬ (i : Int) = 9 := by omega
        rw [if_neg p3]
        by_cases hz : 0 < i ∧ (nb s).getD i 0 = 0
        · have p4 : (i : Int) > 0 := by omega
          have hr := h2 (by omega)
          have p5 : ¬ (Vm.run (nb s) = s.size ∧ s.size ≤ 9) := by omega
          have p6 : (((0 : Nat) : Int) == 0) = true := rfl
          rw [if_pos p4, hz.2, p6, j1_bad, num_j2 m (by omega) s hs, Vm.dec_zero (nb s) i hr (by omega) (by omega) hz.1 hz.2, if_neg p5]
          rfl
        · have ej : (if (i : Int) > 0 then vint_Reader_Num.j1 (m + 1) (Vm.val ((nb s).take i) : Int) (i : Int) (((nb s).getD i 0 : Nat) : Int) (s.size : Int) (i : Int) ((((nb s).getD i 0 : Nat) : Int) == 0) s 0 else vint_Reader_Num.j1 (m + 1) (Vm.val ((nb s).take i) : Int) (i : Int) (((nb s).getD i 0 : Nat) : Int) (s.size : Int) (i : Int) false s 0) = vint_Reader_Num.j1 (m + 1) (Vm.val ((nb s).take i) : Int) (i : Int) (((nb s).getD i 0 : Nat) : Int) (s.size : Int) (i : Int) false s 0 := by
            by_cases hp : (i : Int) > 0
            · rw [if_pos hp]
              have : ((((nb s).getD i 0 : Nat) : Int) == 0) = false := by
                rw [beq_eq_false_iff_ne]
                intro e
                exact hz ⟨by omega, by omega⟩
              rw [this]
            · rw [if_neg hp]
          rw [ej]
          by_cases hb : (nb s).getD i 0 < 128
          · rw [j1_end s m _ i _ (by omega) h hs (Vm.val_take_lt (nb s) i) hb, Vm.dec_good (nb s) i (h2 hb) (by omega) (by omega) hz]
            have e4 := Vm.val_snoc (nb s) i (by omega)
            rw [Nat.mod_eq_of_lt hb] at e4
            have e5 : s.extract (i + 1) s.size = ba ((nb s).drop (i + 1)) := by
              apply nb_inj
              rw [nb_extract, nb_ba _ (fun x hx => nb_lt s x (List.mem_of_mem_drop hx)), ← hl, List.take_length]
            rw [e5, ← e4]
            rfl
          · rw [j1_more s m _ i _ (by omega) (Vm.val_take_lt (nb s) i) (by omega) hb256, ← Vm.val_snoc (nb s) i (by omega)]
            exact ih m (i + 1) (by omega) (by omega) (h1 (by omega)) (by omega)
    · have p1 : ¬ (i : Int) < (s.size : Int) := by omega
      rw [if_neg p1, num_j2 _ (by omega) s hs, Vm.dec_short (nb s) (by omega) (by omega)]
      have p2 : Vm.run (nb s) = s.size ∧ s.size ≤ 9 := by omega
      rw [if_pos p2]
      rfl
/-- READER.NUM, where nothing was wrong -/
theorem readnum_f (k : Nat) (hk : 40 ≤ k) (s : ByteArray) (hs : s.size ≤ 140737488351232) : vint_Reader_Num.f k s 0 = some (((Vm.dec (nb s)).2.1 : Int), ba (Vm.dec (nb s)).2.2, ((Vm.dec (nb s)).1 : Int)) := by
  unfold vint_Reader_Num.f vint_Reader_Err.f
  simp only [Option.bind_some, if_true]
  exact readnum_l0 s hs 10 k 0 (by omega) (by omega) (by omega) (by omega)
/-- .. where something was wrong -/
theorem readnum_e (k : Nat) (s : ByteArray) (e : Int) (he : e ≠ 0) : vint_Reader_Num.f k s e = some (0, s, e) := by
  unfold vint_Reader_Num.f vint_Reader_Err.f
  simp only [Option.bind_some]
  rw [if_neg he]
theorem dec_lt (s : ByteArray) : (Vm.dec (nb s)).2.1 < 9223372036854775808 := by
  by_cases h : (Vm.dec (nb s)).1 = 0
  · exact (Vm.dec_once (nb s) (nb_lt s) _ _ (by rw [← h])).2
  · rw [(Vm.dec_err _ h).1]; show 0 < 9223372036854775808; omega
theorem dec_left_lt (s : ByteArray) : ∀ x ∈ (Vm.dec (nb s)).2.2, x < 256 := by
  intro x hx
  unfold Vm.dec at hx
  simp only at hx
  split at hx
  · simp at hx
  · split at hx
    · simp at hx
    · exact nb_lt s x (List.mem_of_mem_drop hx)

/-- i++ -/
theorem w1 (i : Nat) (h : i < 9223372036854775807) : wrap64 ((i : Int) + 1) = ((i + 1 : Nat) : Int) := by unfold wrap64; omega
/-! readers over Vm's states -/
theorem and1 (x : Int) (h0 : 0 ≤ x) (h1 : x < 9223372036854775808) : Go.bits .and .i64 x 1 = x % 2 := by
  have := bits_mask .i64 63 (by decide) (fun n a b => by
    rw [IntKind.wrap_i64]; omega) 1 (by decide) x h0 (by simpa using h1)
  simpa using this
theorem ok_size (s : Vm.St) (h : Vm.Ok s) : (ba s.1).size ≤ 140737488351232 := by rw [ba_size]; exact h.2.1
theorem rnum_g (k : Nat) (hk : 40 ≤ k) (s : Vm.St) (h : Vm.Ok s) : vint_Reader_Num.f k (ba s.1) (s.2 : Int) = some (((Vm.rn s).1 : Int), ba (Vm.rn s).2.1, ((Vm.rn s).2.2 : Int)) := by
  obtain ⟨x, e⟩ := s
  unfold Vm.rn
  by_cases he : e = 0
  · subst he
    have := readnum_f k hk (ba x) (ok_size _ h)
    rw [nb_ba _ h.1] at this
    exact this
  · rw [if_neg he]
    exact readnum_e k (ba x) (e : Int) (by omega)
theorem ba_nil_iff (x : List Nat) : ((ba x).toList = ([] : List UInt8)) ↔ x = [] := by
  rw [ba_toList]
  cases x <;> simp
theorem ba_extract (x : List Nat) (i j : Nat) : (ba x).extract i j = ba ((x.take j).drop i) := by
  apply ByteArray.ext
  simp [ba, ByteArray.data_extract, List.map_take, List.map_drop, List.drop_take]
theorem rfail_g (x : List Nat) (m : Int) : vint_Reader_fail.f (ba x) 0 m = some (ba [], m) := rfl
theorem rtext_g (k : Nat) (hk : 40 ≤ k) (m : Int) (s : Vm.St) (h : Vm.Ok s) : vint_Reader_Text.f k (ba s.1) (s.2 : Int) m = some (ba (Vm.rt m s).1, ba (Vm.rt m s).2.1, ((Vm.rt m s).2.2 : Int)) := by
  unfold vint_Reader_Text.f vint_Reader_Err.f Vm.rt
  rw [rnum_g k hk s h]
  simp only [Option.bind_some]
  by_cases he : (Vm.rn s).2.2 = 0
  · rw [if_pos (by omega), if_pos he, he]
    by_cases h1 : ((Vm.rn s).1 : Int) > m
    · rw [if_pos h1, if_pos h1]; rfl
    · rw [if_neg h1, if_neg h1, ba_size]
      by_cases h2 : (Vm.rn s).1 > (Vm.rn s).2.1.length
      · rw [if_pos (by omega), if_pos h2]; rfl
      · rw [if_neg (by omega), if_neg h2, if_pos (by omega), if_pos (by omega), ba_extract, ba_extract]
        simp only [Int.toNat_natCast, List.take_length, List.drop_zero]
  · rw [if_neg (by omega), if_neg he]
    rfl
theorem rerr_g (s : Vm.St) : vint_Reader_Err.f (ba s.1) (s.2 : Int) = some ((s.2 : Int), ba s.1, (s.2 : Int)) := rfl
theorem rleft_g (s : Vm.St) : vint_Reader_Left.f (ba s.1) (s.2 : Int) = some (ba s.1, ba s.1, (s.2 : Int)) := rfl
theorem rfrom_g (b : ByteArray) : vint_From.f b = some (ba (nb b), ((0 : Nat) : Int)) := by rw [ba_nb]; rfl
theorem ok_from (b : ByteArray) (h : b.size ≤ 140737488351232) : Vm.Ok (nb b, 0) := ⟨nb_lt b, by rw [nb_len]; exact h, Or.inl rfl⟩

end Go.Proofs.Ytlmecdlbnpnajaa.PB
