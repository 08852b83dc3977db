import Derived.Test.YtiljbfnnnblbpaaPAx1
import Derived.Test.YtiljbfnnnblbpaaPAx2
namespace Go.Proofs.Ytiljbfnnnblbpaa.PA
open Go.RowKit Go.Proofs.YtiljbfnnnblbpaaW.PrintWords Go.Proofs.YtiljbfnnnblbpaaW.PrintLast Go.Proofs.YtiljbfnnnblbpaaW.PrintMore
set_option linter.unusedVariables false
set_option linter.unusedSimpArgs false

namespace Vm
/-- a number's bytes -/
def enc (n : Nat) : List Nat := if n < 128 then [n] else (n % 128 + 128) :: enc (n / 128)
termination_by n
decreasing_by omega
theorem enc_lt {n : Nat} (h : n < 128) : enc n = [n] := by rw [enc]; simp [h]
theorem enc_ge {n : Nat} (h : ¬ n < 128) : enc n = (n % 128 + 128) :: enc (n / 128) := by rw [enc]; simp [h]
theorem enc_ne (n : Nat) : enc n ≠ [] := by
  by_cases h : n < 128
  · rw [enc_lt h]; simp
  · rw [enc_ge h]; simp
theorem enc_pos (n : Nat) : 1 ≤ (enc n).length := by
  have := enc_ne n
  cases h : enc n with
  | nil => exact absurd h this
  | cons => simp
theorem enc_byte (n : Nat) : ∀ x ∈ enc n, x < 256 := by
  induction n using Nat.strongRecOn with
  | _ n ih =>
    by_cases h : n < 128
    · rw [enc_lt h]; intro x hx; simp at hx; omega
    · rw [enc_ge h]; intro x hx
      rcases List.mem_cons.1 hx with rfl | hx
      · omega
      · exact ih _ (by omega) x hx
theorem enc_len_mono (n : Nat) : ∀ m, n ≤ m → (enc n).length ≤ (enc m).length := by
  induction n using Nat.strongRecOn with
  | _ n ih =>
    intro m hm
    by_cases h : n < 128
    · rw [enc_lt h]; exact enc_pos m
    · rw [enc_ge h, enc_ge (show ¬ m < 128 by omega)]
      simp only [List.length_cons]
      have := ih (n / 128) (by omega) (m / 128) (by omega)
      omega
theorem enc_len_le (k : Nat) : ∀ n, n < 128 ^ k → 1 ≤ k → (enc n).length ≤ k := by
  induction k with
  | zero => intro n _ h; omega
  | succ k ih =>
    intro n hn _
    by_cases h : n < 128
    · rw [enc_lt h]; simp
    · rw [enc_ge h]
      have hk : 1 ≤ k := by
        rcases k with _ | k
        · simp at hn; omega
        · omega
      have := ih (n / 128) (by rw [Nat.pow_succ] at hn; omega) hk
      simp only [List.length_cons]; omega
theorem enc_len9 (n : Nat) (h : n < 9223372036854775808) : (enc n).length ≤ 9 := enc_len_le 9 n (by omega) (by omega)
theorem enc_len2 (n : Nat) (h : n < 16384) : (enc n).length ≤ 2 := enc_len_le 2 n (by omega) (by omega)
theorem enc_len3 (n : Nat) (h : n < 2097152) : (enc n).length ≤ 3 := enc_len_le 3 n (by omega) (by omega)
/-- the value of groups -/
def val : List Nat → Nat
  | [] => 0
  | b :: l => b % 128 + 128 * val l
/-- how many bytes that go on stand in front -/
def run : List Nat → Nat
  | [] => 0
  | b :: l => if 128 ≤ b then run l + 1 else 0
theorem run_le (l : List Nat) : run l ≤ l.length := by
  induction l with
  | nil => simp [run]
  | cons b l ih => simp only [run]; split <;> simp <;> omega
/-- reading a number: an error (0: none), the number, what is left -/
def dec (l : List Nat) : Nat × Nat × List Nat :=
  let k := min (run l) 9
  if k = l.length then (5, 0, [])
  else if k = 9 ∨ (0 < k ∧ l.getD k 0 = 0) then (3, 0, [])
  else (0, val (l.take (k + 1)), l.drop (k + 1))
/-- of what was written: the groups but the last one go on, the last one ends and is not 0 unless alone -/
theorem enc_run (n : Nat) (r : List Nat) : run (enc n ++ r) + 1 = (enc n).length := by
  induction n using Nat.strongRecOn with
  | _ n ih =>
    by_cases h : n < 128
    · rw [enc_lt h]; simp [run]; omega
    · rw [enc_ge h]; simp only [List.cons_append, run, List.length_cons]
      rw [if_pos (by omega), ih _ (by omega)]
theorem enc_last (n : Nat) (r : List Nat) (h : 128 ≤ n) : (enc n ++ r).getD ((enc n).length - 1) 0 ≠ 0 := by
  induction n using Nat.strongRecOn with
  | _ n ih =>
    rw [enc_ge (show ¬ n < 128 by omega)]
    simp only [List.cons_append, List.length_cons, Nat.add_sub_cancel]
    have hp := enc_pos (n / 128)
    obtain ⟨m, hm⟩ : ∃ m, (enc (n / 128)).length = m + 1 := ⟨(enc (n / 128)).length - 1, by omega⟩
    rw [hm, List.getD_cons_succ]
    by_cases h2 : 128 ≤ n / 128
    · have := ih (n / 128) (by omega) h2
      rw [hm] at this
      simpa using this
    · rw [enc_lt (by omega)] at hm ⊢
      simp at hm
      subst hm
      simp; omega
theorem enc_val (n : Nat) : val (enc n) = n := by
  induction n using Nat.strongRecOn with
  | _ n ih =>
    by_cases h : n < 128
    · rw [enc_lt h]; simp [val]; omega
    · rw [enc_ge h]; simp only [val]; rw [ih _ (by omega)]; omega
/-- WHAT IS WRITTEN IS READ -/
theorem dec_enc (n : Nat) (h : n < 9223372036854775808) (r : List Nat) : dec (enc n ++ r) = (0, n, r) := by
  have h9 := enc_len9 n h
  have hr := enc_run n r
  have hp := enc_pos n
  unfold dec
  have hk : min (run (enc n ++ r)) 9 = (enc n).length - 1 := by omega
  simp only [hk]
  rw [if_neg (by rw [List.length_append]; omega), if_neg]
  · have e : (enc n).length - 1 + 1 = (enc n).length := by omega
    rw [e, List.take_left, List.drop_left, enc_val]
  · rintro (h1 | ⟨h1, h2⟩)
    · omega
    · have : 128 ≤ n := by
        apply Classical.byContradiction; intro hc
        rw [enc_lt (by omega)] at h1; simp at h1
      exact enc_last n r this h2
/-- the value of a run that ends well is written in that way alone -/
theorem enc_of_val : ∀ (l : List Nat) (k : Nat), k < l.length → (∀ x ∈ l, x < 256) → run l = k → (k = 0 ∨ l.getD k 0 ≠ 0) → enc (val (l.take (k + 1))) = l.take (k + 1) ∧ (0 < k → 128 ≤ val (l.take (k + 1))) := by
  intro l
  induction l with
  | nil => intro k h; simp at h
  | cons b l ih =>
    intro k hk hb hr h0
    have hb1 := hb b (by simp)
    by_cases hge : 128 ≤ b
    · simp only [run, if_pos hge] at hr
      obtain ⟨j, rfl⟩ : ∃ j, k = j + 1 := ⟨k - 1, by omega⟩
      have hj : j < l.length := by simpa using hk
      have hne : l.getD j 0 ≠ 0 := by
        rcases h0 with h0 | h0
        · omega
        · simpa using h0
      obtain ⟨e1, e2⟩ := ih j hj (fun x hx => hb x (by simp [hx])) (by omega) (Or.inr hne)
      have hv : 1 ≤ val (l.take (j + 1)) := by
        rcases Nat.eq_zero_or_pos j with h | h
        · subst h
          cases l with
          | nil => simp at hj
          | cons c l =>
            simp at hne
            have hc : c < 128 := by
              apply Classical.byContradiction; intro hcc
              simp only [run, if_pos (show 128 ≤ c by omega)] at hr; omega
            simp [val]; omega
        · have := e2 h; omega
      rw [List.take_succ_cons]
      simp only [val]
      refine ⟨?_, fun _ => by omega⟩
      rw [enc_ge (by omega)]
      have q1 : (b % 128 + 128 * val (l.take (j + 1))) % 128 + 128 = b := by omega
      have q2 : (b % 128 + 128 * val (l.take (j + 1))) / 128 = val (l.take (j + 1)) := by omega
      rw [q1, q2, e1]
    · simp only [run, if_neg hge] at hr
      subst hr
      rw [List.take_succ_cons]
      simp only [val, List.take_zero]
      refine ⟨?_, fun h => by omega⟩
      rw [enc_lt (by omega)]
      congr 1; omega
theorem val_lt : ∀ l : List Nat, val l < 128 ^ l.length := by
  intro l
  induction l with
  | nil => simp [val]
  | cons b l ih => simp only [val, List.length_cons, Nat.pow_succ]; omega
/-- IN ONE WAY ALONE -/
theorem dec_once (l : List Nat) (hb : ∀ x ∈ l, x < 256) (n : Nat) (r : List Nat) (h : dec l = (0, n, r)) : enc n ++ r = l ∧ n < 9223372036854775808 := by
  unfold dec at h
  have hrl := run_le l
  simp only at h
  split at h
  · simp at h
  · split at h
    · simp at h
    · rename_i h1 h2
      simp only [Prod.mk.injEq, true_and] at h
      obtain ⟨rfl, rfl⟩ := h
      have hk9 : min (run l) 9 ≠ 9 := fun e => h2 (Or.inl e)
      have hk : min (run l) 9 = run l := by omega
      rw [hk] at h1 h2 ⊢
      obtain ⟨e1, _⟩ := enc_of_val l (run l) (by omega) hb rfl (by
        rcases Nat.eq_zero_or_pos (run l) with h | h
        · exact Or.inl h
        · exact Or.inr (fun e => h2 (Or.inr ⟨h, e⟩)))
      rw [e1, List.take_append_drop]
      refine ⟨rfl, ?_⟩
      have := val_lt (l.take (run l + 1))
      have hl : (l.take (run l + 1)).length ≤ 9 := by rw [List.length_take]; omega
      have : val (l.take (run l + 1)) < 128 ^ 9 := Nat.lt_of_lt_of_le this (Nat.pow_le_pow_right (by decide) hl)
      omega
theorem enc_inj (n m : Nat) (h : enc n = enc m) : n = m := by rw [← enc_val n, ← enc_val m, h]
/-- what is cut off says that it ends -/
theorem dec_cut (n : Nat) (h : n < 9223372036854775808) (k : Nat) (hk : k < (enc n).length) : dec ((enc n).take k) = (5, 0, []) := by
  have h9 := enc_len9 n h
  have hall : ∀ (n k : Nat), k < (enc n).length → run ((enc n).take k) = k := by
    intro n
    induction n using Nat.strongRecOn with
    | _ n ih =>
      intro k hk
      rcases k with _ | k
      · simp [run]
      · by_cases h : n < 128
        · rw [enc_lt h] at hk; simp at hk
        · rw [enc_ge h] at hk ⊢
          rw [List.take_succ_cons]
          simp only [run]
          rw [if_pos (by omega), ih _ (by omega) k (by simpa using hk)]
  unfold dec
  have hl : ((enc n).take k).length = k := by rw [List.length_take]; omega
  simp only
  rw [hall n k hk, hl, if_pos (by omega)]
theorem dec_err (l : List Nat) (h : (dec l).1 ≠ 0) : dec l = ((dec l).1, 0, []) ∧ ((dec l).1 = 3 ∨ (dec l).1 = 5) := by
  unfold dec at h ⊢
  simp only at h ⊢
  split
  · simp
  · split
    · simp
    · rename_i h1 h2; rw [if_neg h1, if_neg h2] at h; simp at h
theorem dec_left (l : List Nat) (h : (dec l).1 = 0) : (dec l).2.2.length < l.length := by
  unfold dec at h ⊢
  simp only at h ⊢
  have := run_le l
  split
  · rename_i h1; rw [if_pos h1] at h; simp at h
  · split
    · rename_i h1 h2; rw [if_neg h1, if_pos h2] at h; simp at h
    · simp; omega
/-- whole numbers -/
def fold (z : Int) : Nat := if 0 ≤ z then (2 * z).toNat else (-2 * z - 1).toNat
def unfold' (n : Nat) : Int := if n % 2 = 1 then -(n / 2 : Nat) - 1 else (n / 2 : Nat)
theorem unfold_fold (z : Int) : unfold' (fold z) = z := by
  unfold unfold' fold
  split <;> split <;> omega
theorem fold_unfold (n : Nat) : fold (unfold' n) = n := by
  unfold unfold' fold
  split <;> split <;> omega
abbrev may (z : Int) : Prop := -4611686018427387904 ≤ z ∧ z ≤ 4611686018427387903
theorem fold_lt (z : Int) (h : may z) : fold z < 9223372036854775808 := by
  unfold fold may at *
  split <;> omega
theorem may_unfold (n : Nat) (h : n < 9223372036854775808) : may (unfold' n) := by
  unfold unfold' may
  split <;> omega
end Vm
namespace Vm
theorem run_step (l : List Nat) : ∀ i, i ≤ run l → i < l.length → (128 ≤ l.getD i 0 → i + 1 ≤ run l) ∧ (l.getD i 0 < 128 → run l = i) := by
  induction l with
  | nil => intro i _ h; simp at h
  | cons b l ih =>
    intro i hi hl
    cases i with
    | zero =>
      simp only [List.getD_cons_zero, run]
      constructor
      · intro h; rw [if_pos h]; omega
      · intro h; rw [if_neg (by omega)]
    | succ i =>
      simp only [List.getD_cons_succ]
      simp only [run] at hi ⊢
      split at hi
      · rename_i hb
        rw [if_pos hb]
        obtain ⟨h1, h2⟩ := ih i (by omega) (by simpa using hl)
        exact ⟨fun h => by have := h1 h; omega, fun h => by have := h2 h; omega⟩
      · omega
theorem val_snoc (l : List Nat) : ∀ i, i < l.length → val (l.take (i + 1)) = val (l.take i) + (l.getD i 0 % 128) * 128 ^ i := by
  induction l with
  | nil => intro i h; simp at h
  | cons b l ih =>
    intro i hl
    cases i with
    | zero => simp [val]
    | succ i =>
      rw [List.take_succ_cons, List.take_succ_cons]
      simp only [val, List.getD_cons_succ]
      rw [ih i (by simpa using hl), Nat.mul_add, ← Nat.add_assoc, Nat.pow_succ]
      congr 1
      rw [← Nat.mul_assoc, Nat.mul_comm 128, Nat.mul_assoc, Nat.mul_comm 128]
theorem val_take_lt (l : List Nat) (i : Nat) : val (l.take i) < 128 ^ i :=
  Nat.lt_of_lt_of_le (val_lt _) (Nat.pow_le_pow_right (by decide) (by rw [List.length_take]; omega))
end Vm
namespace Vm
theorem dec_form9 (l : List Nat) (h9 : 9 ≤ run l) (h : 9 < l.length) : dec l = (3, 0, []) := by
  unfold dec
  simp only
  rw [if_neg (by omega), if_pos (Or.inl (by omega))]
theorem dec_zero (l : List Nat) (i : Nat) (hr : run l = i) (h9 : i < 9) (h : i < l.length) (h0 : 0 < i) (hz : l.getD i 0 = 0) : dec l = (3, 0, []) := by
  have hm : min (run l) 9 = i := by omega
  unfold dec
  simp only [hm]
  rw [if_neg (by omega), if_pos (Or.inr ⟨h0, hz⟩)]
theorem dec_good (l : List Nat) (i : Nat) (hr : run l = i) (h9 : i < 9) (h : i < l.length) (hz : ¬ (0 < i ∧ l.getD i 0 = 0)) : dec l = (0, val (l.take (i + 1)), l.drop (i + 1)) := by
  have hm : min (run l) 9 = i := by omega
  unfold dec
  simp only [hm]
  rw [if_neg (by omega), if_neg (by rintro (h1 | h1); omega; exact hz h1)]
theorem dec_short (l : List Nat) (hr : run l = l.length) (h9 : l.length ≤ 9) : dec l = (5, 0, []) := by
  unfold dec
  simp only
  rw [if_pos (by omega)]
end Vm

/-- bytes out of numbers -/
def ba (l : List Nat) : ByteArray := ⟨(l.map UInt8.ofNat).toArray⟩
theorem ba_size (l : List Nat) : (ba l).size = l.length := by simp [ba, ByteArray.size]
theorem ba_append (l m : List Nat) : ba l ++ ba m = ba (l ++ m) := by
  apply ByteArray.ext; simp [ba, ByteArray.data_append]
theorem ba_toList (l : List Nat) : (ba l).toList = l.map UInt8.ofNat := by rw [ByteArray.toList_eq]; simp [ba]
theorem toList_iff (a b : ByteArray) : a.toList = b.toList ↔ a = b := by
  rw [ByteArray.toList_eq, ByteArray.toList_eq]
  constructor
  · intro h; apply ByteArray.ext; exact Array.toList_inj.1 h
  · rintro rfl; rfl
/-- the numbers of bytes -/
def nb (s : ByteArray) : List Nat := s.data.toList.map UInt8.toNat
theorem nb_lt (s : ByteArray) : ∀ x ∈ nb s, x < 256 := by
  intro x hx
  simp only [nb, List.mem_map] at hx
  obtain ⟨b, _, rfl⟩ := hx
  exact b.toNat_lt
theorem nb_len (s : ByteArray) : (nb s).length = s.size := by unfold nb; rw [List.length_map, Array.length_toList]; rfl
theorem ba_nb (s : ByteArray) : ba (nb s) = s := by
  apply ByteArray.ext
  simp only [ba, nb, List.map_map]
  rw [List.map_congr_left (g := id), List.map_id]
  intro x _
  simp
theorem nb_ba (l : List Nat) (h : ∀ x ∈ l, x < 256) : nb (ba l) = l := by
  simp only [nb, ba, List.map_map]
  rw [List.map_congr_left (g := id), List.map_id]
  intro x hx
  have := h x hx
  simp [Nat.mod_eq_of_lt this]
theorem nb_inj {a b : ByteArray} (h : nb a = nb b) : a = b := by rw [← ba_nb a, h, ba_nb]
theorem nb_append (a b : ByteArray) : nb (a ++ b) = nb a ++ nb b := by simp [nb, ByteArray.data_append]
theorem nb_extract (a : ByteArray) (i j : Nat) : nb (a.extract i j) = ((nb a).take j).drop i := by
  simp [nb, ByteArray.data_extract, List.map_take, List.map_drop, List.drop_take]
theorem bt_nb (s : ByteArray) (i : Nat) : bt s (i : Int) = (((nb s).getD i 0 : Nat) : Int) := by
  unfold bt nb
  simp only [Int.toNat_natCast]
  by_cases h : i < s.size
  · have h2 : i < s.data.toList.length := by simpa using h
    rw [dif_pos h]
    simp [List.getD_eq_getElem?_getD, List.getElem?_map, List.getElem?_eq_getElem h2]
    rfl
  · rw [dif_neg h]
    have h2 : s.data.toList.length ≤ i := by simpa using h
    simp [List.getD_eq_getElem?_getD, List.getElem?_eq_none h2]
theorem strOfNums_ba (l : List Nat) : strOfNums (l.map (fun x : Nat => (x : Int))) = ba l := by
  simp [strOfNums, ba, List.map_map, Function.comp_def]
theorem nil_ba : (⟨#[]⟩ : ByteArray) = ba [] := rfl
theorem and127 (x : Int) (h0 : 0 ≤ x) (h1 : x < 9223372036854775808) : Go.bits .and .i64 x 127 = x % 128 := by
  have := bits_mask .i64 63 (by decide) (fun n a b => by
    rw [IntKind.wrap_i64]; omega) 7 (by decide) x h0 (by simpa using h1)
  simpa using this
theorem or128 : ∀ a : Fin 128, Go.bits .or .u8 ((a.val : Nat) : Int) 128 = ((a.val + 128 : Nat) : Int) := by decide +kernel
theorem num_byte (n : Nat) (h : n < 9223372036854775808) : Go.bits .or .u8 ((Go.bits .and .i64 (n : Int) 127) % 256) 128 = ((n % 128 + 128 : Nat) : Int) := by
  rw [and127 _ (by omega) (by omega)]
  have e : ((n : Int) % 128) % 256 = ((n % 128 : Nat) : Int) := by omega
  rw [e]
  exact or128 ⟨n % 128, Nat.mod_lt _ (by decide)⟩
theorem num_l0 : ∀ (k n : Nat) (acc : List Nat), (Vm.enc n).length ≤ k → n < 9223372036854775808 → acc.length + (Vm.enc n).length ≤ 1000000 →
    vint_Num.l0 k (n : Int) (acc.map (fun x : Nat => (x : Int))) = some (ba (acc ++ Vm.enc n)) := by
  intro k
  induction k with
  | zero => intro n acc h; have := Vm.enc_pos n; omega
  | succ k ih =>
    intro n acc hk hn hl
    have hp := Vm.enc_pos n
    simp only [vint_Num.l0]
    by_cases h : n < 128
    · rw [if_neg (by omega), if_pos (by simp; omega), Vm.enc_lt h, ← strOfNums_ba]
      congr 2
      simp
      omega
    · rw [if_pos (by omega), if_pos (by simp; omega), num_byte n hn]
      have e1 : ((n : Int) / 128) = ((n / 128 : Nat) : Int) := by omega
      rw [Vm.enc_ge h] at hk hl ⊢
      simp only [List.length_cons] at hk hl
      have e2 : acc.map (fun x : Nat => (x : Int)) ++ [((n % 128 + 128 : Nat) : Int)] = (acc ++ [n % 128 + 128]).map (fun x : Nat => (x : Int)) := by simp
      rw [e1, e2, ih (n / 128) (acc ++ [n % 128 + 128]) (by omega) (by omega) (by simp; omega)]
      simp
/-- NUM: a number's bytes -/
theorem num_f (k : Nat) (hk : 9 ≤ k) (n : Int) (h0 : 0 ≤ n) (h1 : n < 9223372036854775808) : vint_Num.f k n = some (ba (Vm.enc n.toNat)) := by
  obtain ⟨m, rfl⟩ := Int.eq_ofNat_of_zero_le h0
  unfold vint_Num.f
  rw [if_neg (by omega)]
  have h9 := Vm.enc_len9 m (by omega)
  have := num_l0 k m [] (by omega) (by omega) (by simp; omega)
  simpa using this
theorem num_neg (k : Nat) (n : Int) (h0 : n < 0) : vint_Num.f k n = some (ba []) := by
  unfold vint_Num.f
  rw [if_pos h0]; rfl
theorem may_f (z : Int) : vint_may.f z = some (decide (Vm.may z)) := by
  unfold vint_may.f Vm.may
  split
  · congr 1; rw [decide_eq_decide]; omega
  · congr 1; symm; rw [decide_eq_false_iff_not]; omega
/-- WHOLE: a whole number's bytes -/
theorem whole_f (k : Nat) (hk : 9 ≤ k) (z : Int) : vint_Whole.f k z = some (ba (if Vm.may z then Vm.enc (Vm.fold z) else [])) := by
  unfold vint_Whole.f
  rw [may_f]
  simp only [Option.bind_some, decide_eq_true_eq]
  by_cases h : Vm.may z
  · rw [if_pos h, if_pos h]
    have hl := Vm.fold_lt z h
    have h2 := h
    unfold Vm.may at h2
    by_cases hz : z < 0
    · rw [if_pos hz]
      have e : wrap64 (wrap64 (-2 * z) - 1) = ((Vm.fold z : Nat) : Int) := by unfold Vm.fold wrap64; rw [if_neg (by omega)]; omega
      rw [e, num_f k hk _ (by omega) (by omega)]
      simp
    · rw [if_neg hz]
      have e : wrap64 (2 * z) = ((Vm.fold z : Nat) : Int) := by unfold Vm.fold wrap64; rw [if_pos (by omega)]; omega
      rw [e, num_f k hk _ (by omega) (by omega)]
      simp
  · rw [if_neg h, if_neg h]; rfl
theorem awake_f (k : Nat) (hk : 20 ≤ k) : splicelaw01_awake.f k = some true := at_rounds (fun k => splicelaw01_awake.mono k) hk (by decide +kernel)

end Go.Proofs.Ytiljbfnnnblbpaa.PA
