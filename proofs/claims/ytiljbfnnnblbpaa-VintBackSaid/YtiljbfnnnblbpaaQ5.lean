import Derived.Test.YtiljbfnnnblbpaaQ4
import Derived.Test.YtiljbfnnnblbpaaQ3
import Derived.Test.YtiljbfnnnblbpaaPAx4
import Derived.Test.YtiljbfnnnblbpaaPAx5
import Derived.Test.YtiljbfnnnblbpaaPAx7
namespace Go.Proofs.Ytiljbfnnnblbpaa.PA
open Go.RowKit Go.Proofs.YtiljbfnnnblbpaaW.PrintWords Go.Proofs.YtiljbfnnnblbpaaW.PrintLast Go.Proofs.YtiljbfnnnblbpaaW.PrintMore
set_option linter.unusedVariables false
set_option linter.unusedSimpArgs false

namespace Vm
/-! readers: bytes that are left, and an error (0: none) -/
abbrev St := List Nat × Nat
def Ok (s : St) : Prop := (∀ x ∈ s.1, x < 256) ∧ s.1.length ≤ 140737488351232 ∧ (s.2 = 0 ∨ s.2 = 2 ∨ s.2 = 3 ∨ s.2 = 5)
def rn (s : St) : Nat × St := if s.2 = 0 then ((dec s.1).2.1, (dec s.1).2.2, (dec s.1).1) else (0, s)
def rw (s : St) : Int × St := (unfold' (rn s).1, (rn s).2)
def rf (s : St) : Bool × St := if s.2 = 0 then (match s.1 with | [] => (false, [], 5) | b :: x => if b > 1 then (false, [], 3) else (decide (b = 1), x, 0)) else (false, s)
def rt (m : Int) (s : St) : List Nat × St :=
  if (rn s).2.2 = 0 then
    if ((rn s).1 : Int) > m then ([], [], 2) else if (rn s).1 > (rn s).2.1.length then ([], [], 5) else ((rn s).2.1.take (rn s).1, (rn s).2.1.drop (rn s).1, 0)
  else ([], (rn s).2)
def rls : Nat → List Int → St → List Int × St
  | 0, acc, s => (acc, s)
  | n + 1, acc, s => if (rw s).2.2 = 0 then rls n (acc ++ [(rw s).1]) (rw s).2 else ([], (rw s).2)
def rl (m : Int) (s : St) : List Int × St :=
  if (rn s).2.2 = 0 then (if ((rn s).1 : Int) > m then ([], [], 2) else rls (rn s).1 [] (rn s).2) else ([], (rn s).2)
def re (s : St) : Nat := if s.2 = 0 then (if s.1 = [] then 0 else 2) else s.2
theorem dec_ok (l : List Nat) (h : ∀ x ∈ l, x < 256) : (∀ x ∈ (dec l).2.2, x < 256) ∧ (dec l).2.2.length ≤ l.length ∧ ((dec l).1 = 0 ∨ (dec l).1 = 3 ∨ (dec l).1 = 5) := by
  unfold dec
  simp only
  split
  · simp
  · split
    · simp
    · refine ⟨fun x hx => h x (List.mem_of_mem_drop hx), by simp, by simp⟩
theorem rn_ok (s : St) (h : Ok s) : Ok (rn s).2 ∧ (rn s).2.1.length ≤ s.1.length := by
  unfold rn
  split
  · have := dec_ok s.1 h.1
    refine ⟨⟨this.1, by have := h.2.1; show (dec s.1).2.2.length ≤ _; omega, ?_⟩, this.2.1⟩
    have h3 := this.2.2
    show (dec s.1).1 = 0 ∨ (dec s.1).1 = 2 ∨ (dec s.1).1 = 3 ∨ (dec s.1).1 = 5
    omega
  · exact ⟨h, Nat.le_refl _⟩
theorem rw_ok (s : St) (h : Ok s) : Ok (rw s).2 ∧ (rw s).2.1.length ≤ s.1.length := rn_ok s h
theorem nil_ok (e : Nat) (h : e = 0 ∨ e = 2 ∨ e = 3 ∨ e = 5) : Ok ([], e) := ⟨by simp, by simp, h⟩
theorem rf_ok (s : St) (h : Ok s) : Ok (rf s).2 ∧ (rf s).2.1.length ≤ s.1.length := by
  obtain ⟨x, e⟩ := s
  unfold rf
  simp only
  split
  · cases x with
    | nil => exact ⟨nil_ok 5 (by omega), by simp⟩
    | cons b x =>
      simp only
      split
      · exact ⟨nil_ok 3 (by omega), by simp⟩
      · refine ⟨⟨fun y hy => h.1 y (by simp [hy]), ?_, Or.inl rfl⟩, by simp⟩
        have := h.2.1
        simp only [List.length_cons] at this
        simp only
        omega
  · exact ⟨h, Nat.le_refl _⟩
theorem rt_ok (m : Int) (s : St) (h : Ok s) : Ok (rt m s).2 ∧ (rt m s).2.1.length ≤ s.1.length ∧ (rt m s).1.length ≤ s.1.length ∧ (∀ x ∈ (rt m s).1, x < 256) := by
  obtain ⟨h1, h2⟩ := rn_ok s h
  unfold rt
  split
  · split
    · exact ⟨nil_ok 2 (by omega), by simp⟩
    · split
      · exact ⟨nil_ok 5 (by omega), by simp⟩
      · refine ⟨⟨fun y hy => h1.1 y (List.mem_of_mem_drop hy), ?_, Or.inl rfl⟩, ?_, ?_, fun y hy => h1.1 y (List.mem_of_mem_take hy)⟩
        · have := h1.2.1; simp only [List.length_drop]; omega
        · simp only [List.length_drop]; omega
        · simp only [List.length_take]; omega
  · exact ⟨h1, h2, by simp⟩
theorem rls_ok : ∀ (n : Nat) (acc : List Int) (s : St), Ok s → Ok (rls n acc s).2 ∧ (rls n acc s).2.1.length ≤ s.1.length := by
  intro n
  induction n with
  | zero => intro acc s h; exact ⟨h, Nat.le_refl _⟩
  | succ n ih =>
    intro acc s h
    obtain ⟨h1, h2⟩ := rw_ok s h
    simp only [rls]
    split
    · obtain ⟨h3, h4⟩ := ih (acc ++ [(rw s).1]) _ h1
      exact ⟨h3, by omega⟩
    · exact ⟨h1, h2⟩
theorem rl_ok (m : Int) (s : St) (h : Ok s) : Ok (rl m s).2 ∧ (rl m s).2.1.length ≤ s.1.length := by
  obtain ⟨h1, h2⟩ := rn_ok s h
  unfold rl
  split
  · split
    · exact ⟨nil_ok 2 (by omega), by simp⟩
    · obtain ⟨h3, h4⟩ := rls_ok (rn s).1 [] _ h1
      exact ⟨h3, by omega⟩
  · exact ⟨h1, h2⟩
theorem rn_lt (s : St) (h : Ok s) : (rn s).1 < 9223372036854775808 := by
  unfold rn
  split
  · by_cases h0 : (dec s.1).1 = 0
    · exact (dec_once s.1 h.1 _ _ (by rw [← h0])).2
    · rw [(dec_err _ h0).1]; show 0 < 9223372036854775808; omega
  · show 0 < 9223372036854775808; omega
theorem rw_may (s : St) (h : Ok s) : may (rw s).1 := may_unfold _ (rn_lt s h)
/-! what is written is read -/
theorem rn_enc (n : Nat) (h : n < 9223372036854775808) (r : List Nat) : rn (enc n ++ r, 0) = (n, r, 0) := by
  unfold rn; rw [if_pos rfl]; simp only; rw [dec_enc n h r]
theorem rw_enc (z : Int) (h : may z) (r : List Nat) : rw (enc (fold z) ++ r, 0) = (z, r, 0) := by
  unfold rw; rw [rn_enc _ (fold_lt z h) r, unfold_fold]
theorem rf_one (b : Bool) (r : List Nat) : rf ((if b = true then 1 else 0) :: r, 0) = (b, r, 0) := by
  cases b <;> rfl
theorem rt_enc (s : List Nat) (m : Int) (hm : (s.length : Int) ≤ m) (h : s.length < 9223372036854775808) (r : List Nat) : rt m (enc s.length ++ (s ++ r), 0) = (s, r, 0) := by
  unfold rt
  rw [rn_enc _ h, if_pos rfl]
  simp only
  rw [if_neg (by omega), if_neg (by rw [List.length_append]; omega), List.take_left, List.drop_left]
def lencs (l : List Int) : List Nat := l.flatMap fun z => enc (fold z)
theorem rls_enc : ∀ (l acc : List Int) (r : List Nat), (∀ z ∈ l, may z) → rls l.length acc (lencs l ++ r, 0) = (acc ++ l, r, 0) := by
  intro l
  induction l with
  | nil => intro acc r _; simp [rls, lencs]
  | cons z l ih =>
    intro acc r h
    have e : lencs (z :: l) = enc (fold z) ++ lencs l := rfl
    rw [e, List.append_assoc]
    simp only [List.length_cons, rls]
    rw [rw_enc z (h z (by simp)), if_pos rfl]
    rw [ih (acc ++ [z]) r (fun y hy => h y (by simp [hy]))]
    simp
theorem rl_enc (l : List Int) (m : Int) (hm : (l.length : Int) ≤ m) (h : l.length < 9223372036854775808) (hz : ∀ z ∈ l, may z) (r : List Nat) : rl m (enc l.length ++ (lencs l ++ r), 0) = (l, r, 0) := by
  unfold rl
  rw [rn_enc _ h, if_pos rfl]
  simp only
  rw [if_neg (by omega), rls_enc l [] r hz]
  rfl
/-! in one way alone -/
theorem rn_once (s : List Nat) (h : ∀ x ∈ s, x < 256) (n : Nat) (r : List Nat) (e : rn (s, 0) = (n, r, 0)) : enc n ++ r = s ∧ n < 9223372036854775808 := by
  apply dec_once s h
  unfold rn at e
  rw [if_pos rfl] at e
  simp only [Prod.mk.injEq] at e
  obtain ⟨rfl, rfl, e⟩ := e
  rw [← e]
/-- where something was wrong, nothing is read -/
theorem bad (s : St) (h : s.2 ≠ 0) : rn s = (0, s) ∧ rw s = (0, s) ∧ rf s = (false, s) ∧ (∀ m, rt m s = ([], s)) ∧ (∀ m, rl m s = ([], s)) ∧ re s = s.2 := by
  have e : rn s = (0, s) := by unfold rn; rw [if_neg h]
  refine ⟨e, ?_, ?_, ?_, ?_, ?_⟩
  · unfold rw; rw [e]; simp [unfold']
  · unfold rf; rw [if_neg h]
  · intro m; unfold rt; rw [e, if_neg h]
  · intro m; unfold rl; rw [e, if_neg h]
  · unfold re; rw [if_neg h]
/-- an error leaves nothing -/
theorem rn_err (s : List Nat) (h : (rn (s, 0)).2.2 ≠ 0) : (rn (s, 0)).2.1 = [] := by
  unfold rn at h ⊢
  rw [if_pos rfl] at h ⊢
  simp only at h ⊢
  rw [(dec_err s h).1]
end Vm

/-- i++ -/
theorem w1 (i : Nat) (h : i < 9223372036854775807) : wrap64 ((i : Int) + 1) = ((i + 1 : Nat) : Int) := by unfold wrap64; omega
/-! readers over Vm's states -/
theorem and1 (x : Int) (h0 : 0 ≤ x) (h1 : x < 9223372036854775808) : Go.bits .and .i64 x 1 = x % 2 := by
  have := bits_mask .i64 63 (by decide) (fun n a b => by
    rw [IntKind.wrap_i64]; omega) 1 (by decide) x h0 (by simpa using h1)
  simpa using this
theorem ok_size (s : Vm.St) (h : Vm.Ok s) : (ba s.1).size ≤ 140737488351232 := by rw [ba_size]; exact h.2.1
theorem rnum_g (k : Nat) (hk : 40 ≤ k) (s : Vm.St) (h : Vm.Ok s) : vint_Reader_Num.f k (ba s.1) (s.2 : Int) = some (((Vm.rn s).1 : Int), ba (Vm.rn s).2.1, ((Vm.rn s).2.2 : Int)) := by
  obtain ⟨x, e⟩ := s
  unfold Vm.rn
  by_cases he : e = 0
  · subst he
    have := readnum_f k hk (ba x) (ok_size _ h)
    rw [nb_ba _ h.1] at this
    exact this
  · rw [if_neg he]
    exact readnum_e k (ba x) (e : Int) (by omega)
theorem rwhole_g (k : Nat) (hk : 40 ≤ k) (s : Vm.St) (h : Vm.Ok s) : vint_Reader_Whole.f k (ba s.1) (s.2 : Int) = some ((Vm.rw s).1, ba (Vm.rw s).2.1, ((Vm.rw s).2.2 : Int)) := by
  unfold vint_Reader_Whole.f
  rw [rnum_g k hk s h]
  have h1 := Vm.rn_lt s h
  simp only [Option.bind_some]
  rw [and1 _ (by omega) (by omega)]
  unfold Vm.rw Vm.unfold'
  by_cases hp : (Vm.rn s).1 % 2 = 1
  · rw [if_pos (by omega), if_pos hp]
    have : wrap64 (wrap64 (-(((Vm.rn s).1 : Int) / 2)) - 1) = -(((Vm.rn s).1 / 2 : Nat) : Int) - 1 := by unfold wrap64; omega
    rw [this]
  · rw [if_neg (by omega), if_neg hp]
    have : ((Vm.rn s).1 : Int) / 2 = (((Vm.rn s).1 / 2 : Nat) : Int) := by omega
    rw [this]
theorem ba_nil_iff (x : List Nat) : ((ba x).toList = ([] : List UInt8)) ↔ x = [] := by
  rw [ba_toList]
  cases x <;> simp
theorem ba_extract (x : List Nat) (i j : Nat) : (ba x).extract i j = ba ((x.take j).drop i) := by
  apply ByteArray.ext
  simp [ba, ByteArray.data_extract, List.map_take, List.map_drop, List.drop_take]
theorem rflag_g (s : Vm.St) (h : Vm.Ok s) : vint_Reader_Flag.f (ba s.1) (s.2 : Int) = some ((Vm.rf s).1, ba (Vm.rf s).2.1, ((Vm.rf s).2.2 : Int)) := by
  obtain ⟨x, e⟩ := s
  unfold vint_Reader_Flag.f vint_Reader_Err.f Vm.rf
  simp only [Option.bind_some]
  by_cases he : e = 0
  · subst he
    rw [if_pos (by omega), if_pos rfl]
    cases x with
    | nil => rw [if_pos (by rw [ba_nil_iff])]; rfl
    | cons b x =>
      rw [if_neg (by rw [ba_nil_iff]; simp)]
      have e0 : bt (ba (b :: x)) 0 = (b : Int) := by
        have := bt_nb (ba (b :: x)) 0
        rw [nb_ba _ h.1] at this
        simpa using this
      rw [if_pos (by rw [ba_size]; simp only [List.length_cons]; omega), e0]
      simp only
      by_cases hb : b > 1
      · rw [if_pos (by omega), if_pos hb]
        rfl
      · rw [if_neg (by omega), if_neg hb, if_pos (by rw [ba_size]; simp only [List.length_cons]; omega), ba_extract, ba_size, List.take_length]
        have : ((b : Int) == 1) = decide (b = 1) := by
          rw [Bool.eq_iff_iff]; simp; omega
        rw [this]
        rfl
  · rw [if_neg (by omega), if_neg he]
theorem rfail_g (x : List Nat) (m : Int) : vint_Reader_fail.f (ba x) 0 m = some (ba [], m) := rfl
theorem rtext_g (k : Nat) (hk : 40 ≤ k) (m : Int) (s : Vm.St) (h : Vm.Ok s) : vint_Reader_Text.f k (ba s.1) (s.2 : Int) m = some (ba (Vm.rt m s).1, ba (Vm.rt m s).2.1, ((Vm.rt m s).2.2 : Int)) := by
  unfold vint_Reader_Text.f vint_Reader_Err.f Vm.rt
  rw [rnum_g k hk s h]
  simp only [Option.bind_some]
  by_cases he : (Vm.rn s).2.2 = 0
  · rw [if_pos (by omega), if_pos he, he]
    by_cases h1 : ((Vm.rn s).1 : Int) > m
    · rw [if_pos h1, if_pos h1]; rfl
    · rw [if_neg h1, if_neg h1, ba_size]
      by_cases h2 : (Vm.rn s).1 > (Vm.rn s).2.1.length
      · rw [if_pos (by omega), if_pos h2]; rfl
      · rw [if_neg (by omega), if_neg h2, if_pos (by omega), if_pos (by omega), ba_extract, ba_extract]
        simp only [Int.toNat_natCast, List.take_length, List.drop_zero]
  · rw [if_neg (by omega), if_neg he]
    rfl
theorem rlist_l0 : ∀ (n k i t : Nat) (acc : List Int) (s : Vm.St), Vm.Ok s → i + n = t → t ≤ 1000000000 → acc.length = i → n + 50 ≤ k →
    vint_Reader_List.l0 k acc (t : Int) (i : Int) (ba s.1) (s.2 : Int) = some ((Vm.rls n acc s).1, ba (Vm.rls n acc s).2.1, ((Vm.rls n acc s).2.2 : Int)) := by
  intro n
  induction n with
  | zero =>
    intro k i t acc s h e ht ha hk
    obtain ⟨m, rfl⟩ : ∃ m, k = m + 1 := ⟨k - 1, by omega⟩
    simp only [vint_Reader_List.l0]
    rw [if_neg (by omega)]
    rfl
  | succ n ih =>
    intro k i t acc s h e ht ha hk
    obtain ⟨m, rfl⟩ : ∃ m, k = m + 1 := ⟨k - 1, by omega⟩
    simp only [vint_Reader_List.l0]
    rw [if_pos (by omega), rwhole_g m (by omega) s h]
    unfold vint_Reader_Err.f
    simp only [Option.bind_some, Vm.rls]
    by_cases he : (Vm.rw s).2.2 = 0
    · have e1 : wrap64 ((i : Int) + 1) = ((i + 1 : Nat) : Int) := by unfold wrap64; omega
      rw [if_pos (by omega), if_pos he, if_pos (by omega), e1]
      exact ih m (i + 1) t _ _ (Vm.rw_ok s h).1 (by omega) ht (by rw [List.length_append]; simp; omega) (by omega)
    · rw [if_neg (by omega), if_neg he]
theorem rlist_g (k : Nat) (m : Int) (s : Vm.St) (h : Vm.Ok s) (hk : 60 ≤ k) (hk2 : (Vm.rn s).2.2 = 0 → ((Vm.rn s).1 : Int) ≤ m → (Vm.rn s).1 + 60 ≤ k ∧ (Vm.rn s).1 ≤ 1000000000) :
    vint_Reader_List.f k (ba s.1) (s.2 : Int) m = some ((Vm.rl m s).1, ba (Vm.rl m s).2.1, ((Vm.rl m s).2.2 : Int)) := by
  unfold vint_Reader_List.f vint_Reader_Err.f Vm.rl
  rw [rnum_g k (by omega) s h]
  simp only [Option.bind_some]
  by_cases he : (Vm.rn s).2.2 = 0
  · rw [if_pos (by omega), if_pos he]
    by_cases h1 : ((Vm.rn s).1 : Int) > m
    · rw [if_pos h1, if_pos h1, he]; rfl
    · rw [if_neg h1, if_neg h1]
      obtain ⟨h2, h3⟩ := hk2 he (by omega)
      exact rlist_l0 (Vm.rn s).1 k 0 (Vm.rn s).1 [] _ (Vm.rn_ok s h).1 (by omega) h3 rfl (by omega)
  · rw [if_neg (by omega), if_neg he]
theorem rend_g (s : Vm.St) : vint_Reader_End.f (ba s.1) (s.2 : Int) = some ((Vm.re s : Int), ba s.1, (s.2 : Int)) := by
  unfold vint_Reader_End.f vint_Reader_Err.f Vm.re
  simp only [Option.bind_some]
  by_cases he : s.2 = 0
  · rw [if_pos (by omega), if_pos he]
    by_cases hx : s.1 = []
    · rw [if_pos ((ba_nil_iff _).2 hx), if_pos hx, he]
    · rw [if_neg (fun h => hx ((ba_nil_iff _).1 h)), if_neg hx]; rfl
  · rw [if_neg (by omega), if_neg he]
theorem rerr_g (s : Vm.St) : vint_Reader_Err.f (ba s.1) (s.2 : Int) = some ((s.2 : Int), ba s.1, (s.2 : Int)) := rfl
theorem rleft_g (s : Vm.St) : vint_Reader_Left.f (ba s.1) (s.2 : Int) = some (ba s.1, ba s.1, (s.2 : Int)) := rfl
theorem rfrom_g (b : ByteArray) : vint_From.f b = some (ba (nb b), ((0 : Nat) : Int)) := by rw [ba_nb]; rfl
theorem ok_from (b : ByteArray) (h : b.size ≤ 140737488351232) : Vm.Ok (nb b, 0) := ⟨nb_lt b, by rw [nb_len]; exact h, Or.inl rfl⟩

end Go.Proofs.Ytiljbfnnnblbpaa.PA
