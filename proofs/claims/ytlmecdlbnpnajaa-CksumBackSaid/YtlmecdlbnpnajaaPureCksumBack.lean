/- CksumBack: bodies laid one behind the other, each in its frame, are split into what they were; cut off anywhere, into those that are whole (the first 20 bodies of up to 1,000 bytes). For every input. -/
import Derived.Test.YtlmecdlbnpnajaaPAx3
import Derived.Test.YtlmecdlbnpnajaaPAx6
import Derived.Test.YtlmecdlbnpnajaaPAx7
import Derived.Test.YtlmecdlbnpnajaaAQ1
import Derived.Test.YtlmecdlbnpnajaaAQ2
import Derived.Test.YtlmecdlbnpnajaaAQ3
import Derived.OpenShut
namespace Go.Proofs.Ytlmecdlbnpnajaa.Pure
open Go.RowKit Go.Proofs.Ytlmecdlbnpnajaa.PA Go.Proofs.YtlmecdlbnpnajaaW.PrintWords Go.Proofs.YtlmecdlbnpnajaaW.PrintLast Go.Proofs.YtlmecdlbnpnajaaW.PrintMore
set_option linter.unusedVariables false
set_option linter.unusedSimpArgs false


def frms (l : List ByteArray) : List Nat := l.flatMap fun b => frm (nb b)
theorem frms_cons (b : ByteArray) (l : List ByteArray) : frms (b :: l) = frm (nb b) ++ frms l := rfl
theorem frms_append (l m : List ByteArray) : frms (l ++ m) = frms l ++ frms m := by simp [frms]
theorem frms_byte (l : List ByteArray) : ∀ x ∈ frms l, x < 256 := by
  intro x hx
  simp only [frms, List.mem_flatMap] at hx
  obtain ⟨b, _, hb⟩ := hx
  exact frm_byte _ (nb_lt b) x hb
theorem frms_len (l : List ByteArray) (h : ∀ b ∈ l, b.size ≤ 1000) : (frms l).length ≤ 1013 * l.length := by
  induction l with
  | nil => simp [frms]
  | cons b l ih =>
    have h1 := frm_len (nb b) (by rw [nb_len]; have := h b (by simp); omega)
    have h2 := ih (fun x hx => h x (by simp [hx]))
    have h3 := h b (by simp)
    have h4 := nb_len b
    rw [frms_cons, List.length_append, List.length_cons]
    omega
theorem split_l0 : ∀ (l : List ByteArray) (acc : List ByteArray) (tail : List Nat) (k : Nat), (∀ b ∈ l, b.size ≤ 1000) → (∀ x ∈ tail, x < 256) → (opn tail).2.2 ≠ 0 → l.length ≤ 20 → tail.length ≤ 100000 → acc.length + l.length ≤ 1000 → 10 * (frms l ++ tail).length + l.length + 200 ≤ k →
    cksum_Split.l0 k (ba (frms l ++ tail)) acc = some (acc ++ l, ba tail) := by
  intro l
  induction l with
  | nil =>
    intro acc tail k _ ht he _ htl ha hk
    obtain ⟨j, rfl⟩ : ∃ j, k = j + 1 := ⟨k - 1, by omega⟩
    simp only [frms, List.flatMap_nil, List.nil_append, List.length_nil] at hk ⊢
    simp only [cksum_Split.l0]
    rw [opn_f j tail ht (by omega) (by omega)]
    simp only [Option.bind_some]
    rw [if_neg (by omega), List.append_nil]
  | cons b l ih =>
    intro acc tail k hb ht he hl htl ha hk
    obtain ⟨j, rfl⟩ : ∃ j, k = j + 1 := ⟨k - 1, by omega⟩
    have hfl := frms_len (b :: l) hb
    have hb1 := hb b (by simp)
    have hnb := nb_len b
    have hf1 := frm_len (nb b) (by omega)
    rw [frms_cons] at hfl hk ⊢
    simp only [List.length_append, List.length_cons] at hfl hk hl ha
    simp only [cksum_Split.l0]
    have hbx : ∀ x ∈ frm (nb b) ++ (frms l ++ tail), x < 256 := by
      intro x hx
      rcases List.mem_append.1 hx with hx | hx
      · exact frm_byte _ (nb_lt b) x hx
      · rcases List.mem_append.1 hx with hx | hx
        · exact frms_byte l x hx
        · exact ht x hx
    rw [List.append_assoc, opn_f j _ hbx (by simp only [List.length_append]; omega) (by simp only [List.length_append]; omega), opn_frm (nb b) _ (by omega)]
    simp only [Option.bind_some, ba_nb]
    rw [if_pos (by rfl), if_pos (by omega)]
    have := ih (acc ++ [b]) tail j (fun x hx => hb x (by simp [hx])) ht he (by omega) htl (by rw [List.length_append, List.length_singleton]; omega) (by simp only [List.length_append]; omega)
    rw [this, List.append_assoc]
    rfl
theorem opn_nil : (opn []).2.2 ≠ 0 := by decide
theorem opn_cut (b : List Nat) (hb : b.length ≤ 1000) (hx : ∀ x ∈ b, x < 256) (m : Nat) (hm : m < (frm b).length) : (opn ((frm b).take m)).2.2 ≠ 0 := by
  intro h
  have hbt : ∀ x ∈ (frm b).take m, x < 256 := fun x hx2 => frm_byte b hx x (List.mem_of_mem_take hx2)
  obtain ⟨e, hl⟩ := opn_once _ hbt h
  generalize opn ((frm b).take m) = r at *
  have e2 : frm b = frm r.1 ++ (r.2.1 ++ (frm b).drop m) := by
    rw [← List.append_assoc, ← e, List.take_append_drop]
  have h1 := opn_frm b [] (by omega)
  rw [List.append_nil, e2, opn_frm r.1 _ hl] at h1
  simp only [Prod.mk.injEq, and_true] at h1
  have h3 := congrArg List.length h1.2
  simp only [List.length_append, List.length_drop, List.length_nil] at h3
  omega
theorem bsame_l0 (l : List ByteArray) (hl : l.length ≤ 1000000) : ∀ (d k i : Nat), i + d = l.length → d + 1 ≤ k → splicelaw02_same.l0 k l l (i : Int) = some true := by
  intro d
  induction d with
  | zero =>
    intro k i hi hk
    obtain ⟨j, rfl⟩ : ∃ j, k = j + 1 := ⟨k - 1, by omega⟩
    simp only [splicelaw02_same.l0]
    rw [if_neg (by omega)]
  | succ d ih =>
    intro k i hi hk
    obtain ⟨j, rfl⟩ : ∃ j, k = j + 1 := ⟨k - 1, by omega⟩
    simp only [splicelaw02_same.l0]
    rw [if_pos (by omega), if_pos (by omega), if_pos (by omega), if_pos (by trivial), w1 i (by omega)]
    exact ih j (i + 1) (by omega) (by omega)
theorem bsame_f (l : List ByteArray) (hl : l.length ≤ 1000000) (k : Nat) (hk : l.length + 1 ≤ k) : splicelaw02_same.f k l l = some true := by
  unfold splicelaw02_same.f
  rw [if_pos rfl]
  exact bsame_l0 l hl l.length k 0 (by omega) hk
def endsOf (l : List ByteArray) : List Int := (List.range l.length).map fun j => (((frms (l.take (j + 1))).length : Nat) : Int)
theorem endsOf_len (l : List ByteArray) : (endsOf l).length = l.length := by simp [endsOf]
theorem endsOf_snoc (l : List ByteArray) (b : ByteArray) : endsOf (l ++ [b]) = endsOf l ++ [((frms l).length : Int) + ((frm (nb b)).length : Int)] := by
  unfold endsOf
  rw [List.length_append, List.length_singleton, List.range_succ, List.map_append]
  congr 1
  · apply List.map_congr_left
    intro j hj
    rw [List.mem_range] at hj
    rw [List.take_append_of_le_length (by omega)]
  · simp only [List.map_cons, List.map_nil]
    rw [List.take_of_length_le (by simp), frms_append, List.length_append]
    have : frms [b] = frm (nb b) := by simp [frms]
    rw [this]
    push_cast
    rfl
theorem rd_ends (l : List ByteArray) (i : Nat) (h : i < l.length) : rd (endsOf l) (i : Int) = (((frms (l.take (i + 1))).length : Nat) : Int) := by
  unfold rd endsOf
  simp [List.getD_eq_getElem?_getD, h]
theorem back_l1 (l : List ByteArray) (hb : ∀ b ∈ l, b.size ≤ 1000) (hl : l.length ≤ 20) (a : Nat) (ha : a ≤ (frms l).length) : ∀ (d k i : Nat), i + d = l.length → 300000 + d ≤ k → (frms (l.take i)).length ≤ a →
    splicelaw02_CksumBack.l1 k (ba (frms l)) (endsOf l) l (a : Int) (i : Int) = some true := by
  have hfl := frms_len l hb
  intro d
  have fin : ∀ (k i : Nat), i ≤ l.length → 290000 ≤ k → (frms (l.take i)).length ≤ a → (i < l.length → a < (frms (l.take (i + 1))).length) →
      ((cksum_Split.f k ((ba (frms l)).extract 0 a)).bind fun bt => (splicelaw02_awake.f k).bind fun t => if t = true then (if (i : Int) ≤ (l.length : Int) then (splicelaw02_same.f k bt.1 (l.take i)).bind fun t2 => some t2 else none) else some false) = some true := by
    intro k i hi hk h1 h2
    have e1 : frms l = frms (l.take i) ++ frms (l.drop i) := by rw [← frms_append, List.take_append_drop]
    have e2 : (frms l).take a = frms (l.take i) ++ (frms (l.drop i)).take (a - (frms (l.take i)).length) := by
      rw [e1, List.take_append, List.take_of_length_le h1]
    rw [ba_extract, List.drop_zero, e2]
    have ht : (opn ((frms (l.drop i)).take (a - (frms (l.take i)).length))).2.2 ≠ 0 := by
      by_cases hlt : i < l.length
      · have h3 := h2 hlt
        have e3 : l.drop i = l[i] :: l.drop (i + 1) := List.drop_eq_getElem_cons hlt
        have e4 : frms (l.take (i + 1)) = frms (l.take i) ++ frm (nb l[i]) := by
          rw [List.take_succ_eq_append_getElem hlt, frms_append]
          congr 1
          simp [frms]
        rw [e4, List.length_append] at h3
        rw [e3, frms_cons, List.take_append_of_le_length (by omega)]
        have hs := hb l[i] (List.getElem_mem hlt)
        exact opn_cut _ (by rw [nb_len]; omega) (nb_lt _) _ (by omega)
      · rw [List.drop_of_length_le (by omega)]
        simp only [frms, List.flatMap_nil, List.take_nil]
        exact opn_nil
    unfold cksum_Split.f
    have hlt : (frms (l.take i)).length ≤ (frms l).length := by
      have := congrArg List.length e1
      rw [List.length_append] at this
      omega
    have hld : (frms (l.drop i)).length ≤ (frms l).length := by
      have := congrArg List.length e1
      rw [List.length_append] at this
      omega
    rw [split_l0 (l.take i) [] _ k (fun b hb2 => hb b (List.mem_of_mem_take hb2)) (fun x hx => frms_byte _ x (List.mem_of_mem_take hx)) ht (by rw [List.length_take]; omega) (by rw [List.length_take]; omega) (by rw [List.length_take]; simp; omega) (by simp only [List.length_append, List.length_take]; omega)]
    simp only [Option.bind_some, List.nil_append]
    rw [awake2_f k (by omega)]
    simp only [Option.bind_some]
    rw [if_pos (by trivial), if_pos (by omega), bsame_f _ (by rw [List.length_take]; omega) k (by rw [List.length_take]; omega)]
    rfl
  induction d with
  | zero =>
    intro k i hi hk h1
    obtain ⟨j, rfl⟩ : ∃ j, k = j + 1 := ⟨k - 1, by omega⟩
    simp only [splicelaw02_CksumBack.l1]
    rw [if_neg (by rw [endsOf_len]; omega), if_pos (by omega), if_pos (by rw [ba_size]; omega)]
    simp only [Int.toNat_natCast]
    have := fin j i (by omega) (by omega) h1 (by omega)
    have hp : (0 : Int) ≤ (i : Int) := by omega
    simp only [if_pos hp]
    exact this
  | succ d ih =>
    intro k i hi hk h1
    obtain ⟨j, rfl⟩ : ∃ j, k = j + 1 := ⟨k - 1, by omega⟩
    simp only [splicelaw02_CksumBack.l1]
    rw [if_pos (by rw [endsOf_len]; omega), if_pos (by omega), rd_ends l i (by omega)]
    by_cases h : (frms (l.take (i + 1))).length ≤ a
    · rw [if_pos (by omega), w1 i (by omega)]
      exact ih j (i + 1) (by omega) (by omega) h
    · rw [if_neg (by omega), if_pos (by omega), if_pos (by rw [ba_size]; omega)]
      simp only [Int.toNat_natCast]
      exact fin j i (by omega) (by omega) h1 (fun _ => by omega)
theorem at_bound (c : Int) (n : Nat) (hc1 : -9223372036854775808 ≤ c) (hc2 : c ≤ 9223372036854775807) (hn : n ≤ 100000) :
    ∃ a : Nat, a ≤ n ∧ Int.tmod (wrap64 ((wrap64 ((Int.tmod c (wrap64 ((n : Int) + 1))) + (n : Int))) + 1)) (wrap64 ((n : Int) + 1)) = (a : Int) := by
  have e : wrap64 ((n : Int) + 1) = (n : Int) + 1 := by unfold wrap64; omega
  rw [e]
  have hb : -((n : Int) + 1) < Int.tmod c ((n : Int) + 1) ∧ Int.tmod c ((n : Int) + 1) < (n : Int) + 1 := by
    by_cases h0 : 0 ≤ c
    · rw [Int.tmod_eq_emod_of_nonneg h0]
      have h1 := Int.emod_nonneg c (show (n : Int) + 1 ≠ 0 by omega)
      have h2 := Int.emod_lt_of_pos c (show (0 : Int) < (n : Int) + 1 by omega)
      omega
    · have h3 : Int.tmod c ((n : Int) + 1) = -(Int.tmod (-c) ((n : Int) + 1)) := by rw [Int.neg_tmod, Int.neg_neg]
      rw [h3, Int.tmod_eq_emod_of_nonneg (by omega)]
      have h1 := Int.emod_nonneg (-c) (show (n : Int) + 1 ≠ 0 by omega)
      have h2 := Int.emod_lt_of_pos (-c) (show (0 : Int) < (n : Int) + 1 by omega)
      omega
  generalize Int.tmod c ((n : Int) + 1) = t at hb
  have e2 : wrap64 (wrap64 (t + (n : Int)) + 1) = t + (n : Int) + 1 := by unfold wrap64; omega
  rw [e2, Int.tmod_eq_emod_of_nonneg (by omega)]
  have h1 := Int.emod_nonneg (t + (n : Int) + 1) (show (n : Int) + 1 ≠ 0 by omega)
  have h2 := Int.emod_lt_of_pos (t + (n : Int) + 1) (show (0 : Int) < (n : Int) + 1 by omega)
  refine ⟨((t + (n : Int) + 1) % ((n : Int) + 1)).toNat, by omega, by omega⟩
theorem wne (n : Nat) (h : n ≤ 100000) : ¬ wrap64 ((n : Int) + 1) = 0 := by unfold wrap64; omega
theorem back_j1 (x : List ByteArray) (c : Int) (hc1 : -9223372036854775808 ≤ c) (hc2 : c ≤ 9223372036854775807) (l : List ByteArray) (hb : ∀ b ∈ l, b.size ≤ 1000) (hl : l.length ≤ 20) (i : Int) (k : Nat) (hk : 400000 ≤ k) :
    splicelaw02_CksumBack.j1 k x c (ba (frms l)) (endsOf l) l i false = some true := by
  obtain ⟨j, rfl⟩ : ∃ j, k = j + 2 := ⟨k - 2, by omega⟩
  have hfl := frms_len l hb
  simp only [splicelaw02_CksumBack.j1]
  rw [if_neg (by decide)]
  unfold cksum_Split.f
  have hs := split_l0 l [] [] (j + 1) hb (by simp) opn_nil hl (by simp) (by simp; omega) (by simp only [List.append_nil]; omega)
  rw [List.append_nil] at hs
  rw [hs]
  simp only [Option.bind_some, List.nil_append]
  rw [bsame_f l (by omega) (j + 1) (by omega), Option.bind_some, if_pos rfl]
  have hz : ((ba []).toList != ([] : List UInt8)) = false := by rw [ba_toList]; rfl
  rw [hz]
  have hn : (frms l).length ≤ 100000 := by omega
  have hj : 300000 + l.length ≤ j := by omega
  clear hs hfl hk
  simp only [splicelaw02_CksumBack.j2]
  obtain ⟨a, ha, e⟩ := at_bound c (frms l).length hc1 hc2 hn
  have h3 := wne (frms l).length hn
  rw [if_neg (by decide), ba_size, if_neg h3, e]
  exact back_l1 l hb hl a ha l.length j 0 (Nat.zero_add _) hj (Nat.zero_le _)
theorem back_l0 (x : List ByteArray) (hxl : x.length ≤ 17592186044416) (c : Int) (hc1 : -9223372036854775808 ≤ c) (hc2 : c ≤ 9223372036854775807) : ∀ (d k i : Nat) (l : List ByteArray), i + d = x.length → 2 * d + 500000 ≤ k → (∀ b ∈ l, b.size ≤ 1000) → l.length ≤ 20 →
    splicelaw02_CksumBack.l0 k x c (ba (frms l)) (endsOf l) l (i : Int) = some true := by
  intro d
  induction d with
  | zero =>
    intro k i l hi hk hb hl
    obtain ⟨j, rfl⟩ : ∃ j, k = j + 1 := ⟨k - 1, by omega⟩
    simp only [splicelaw02_CksumBack.l0]
    rw [if_neg (by omega)]
    exact back_j1 x c hc1 hc2 l hb hl _ j (by omega)
  | succ d ih =>
    intro k i l hi hk hb hl
    obtain ⟨j, rfl⟩ : ∃ j, k = j + 2 := ⟨k - 2, by omega⟩
    simp only [splicelaw02_CksumBack.l0]
    rw [if_pos (by omega)]
    by_cases h20 : l.length < 20
    · have hfl := frms_len l hb
      rw [decide_eq_true (by omega)]
      simp only [splicelaw02_CksumBack.j1]
      rw [if_pos (by trivial), if_pos (by omega), if_pos (by omega)]
      by_cases hs : ((rdOf ByteArray.empty x (i : Int)).size : Int) > 1000
      · rw [if_pos hs, w1 i (by omega)]
        exact ih j (i + 1) l (by omega) (by omega) hb hl
      · rw [if_neg hs]
        generalize rdOf ByteArray.empty x (i : Int) = b at hs ⊢
        have hfb := frm_len (nb b) (by rw [nb_len]; omega)
        have hnb := nb_len b
        rw [frame_f j b (by omega) (by omega)]
        simp only [Option.bind_some, ba_size]
        have e1 : ba (frms l) ++ ba (frm (nb b)) = ba (frms (l ++ [b])) := by
          rw [ba_append, frms_append]
          congr 2
          simp [frms]
        rw [if_pos (by trivial), if_pos (by omega), if_pos (by omega), if_pos (by rw [endsOf_len]; omega), w1 i (by omega), e1, ← endsOf_snoc]
        refine ih j (i + 1) (l ++ [b]) (by omega) (by omega) ?_ (by rw [List.length_append, List.length_singleton]; omega)
        intro y hy
        rcases List.mem_append.1 hy with hy | hy
        · exact hb y hy
        · rw [List.mem_singleton] at hy; subst hy; omega
    · rw [decide_eq_false (by omega)]
      exact back_j1 x c hc1 hc2 l hb hl _ (j + 1) (by omega)
theorem CksumBack : splicelaw02_CksumBack.Pure := by
  intro x c ⟨h8, _, hw⟩ hc
  have hc := bounds_i64 hc
  refine ⟨2 * x.length + 500000, ?_⟩
  unfold splicelaw02_CksumBack.f
  have := back_l0 x (by omega) c hc.1 hc.2 x.length (2 * x.length + 500000) 0 [] (by omega) (by omega) (by simp) (by simp)
  simpa [frms, endsOf, ba] using this

end Go.Proofs.Ytlmecdlbnpnajaa.Pure
