import Derived.Test.YtbhlphadcphapaaPRx0
import Derived.Test.YtbhlphadcphapaaPRx11
import Derived.Test.YtbhlphadcphapaaPRx12
import Derived.Test.YtbhlphadcphapaaPRx13
import Derived.Test.YtbhlphadcphapaaPRx8
import Derived.Test.YtbhlphadcphapaaRQ1
namespace Go.Proofs.Ytbhlphadcphapaa.PR
open Go.RowKit Go.Proofs.YtbhlphadcphapaaW.PrintWords Go.Proofs.YtbhlphadcphapaaW.PrintLast Go.Proofs.YtbhlphadcphapaaW.PrintMore
set_option linter.unusedVariables false
set_option linter.unusedSimpArgs false


/-! ### chart.Text, chart.Read and the document's -/
abbrev Sh := S57
def tx (l : List Sh) : List Nat := l.flatMap fun x => Vm.enc x.f0.toNat ++ (Vm.enc x.f1.f1.toNat ++ Vm.enc x.f2.toNat)
theorem tx_cons (x : Sh) (l : List Sh) : tx (x :: l) = Vm.enc x.f0.toNat ++ (Vm.enc x.f1.f1.toNat ++ Vm.enc x.f2.toNat) ++ tx l := rfl
def txB (ep nx : Int) (l : List Sh) : List Nat := Vm.enc ep.toNat ++ Vm.enc nx.toNat ++ Vm.enc l.length ++ tx l
def chainP (nx : Int) : Int → List Sh → Prop
  | prev, [] => prev = 4096
  | prev, x :: r => elemB nx prev x = true ∧ chainP nx x.f1.f1 r
theorem chain_P (nx : Int) (l : List Sh) : ∀ (d i : Nat) (prev : Int), i + d = l.length → chain0 nx l d i prev = true → chainP nx prev (l.drop i) := by
  intro d
  induction d with
  | zero => intro i prev hi h; rw [List.drop_eq_nil_of_le (by omega)]; show prev = 4096; exact of_decide_eq_true h
  | succ d ih =>
    intro i prev hi h
    rw [drop_rd l i (by omega)]
    simp only [chain0, Bool.and_eq_true] at h
    exact ⟨h.1, ih (i + 1) _ (by omega) h.2⟩
theorem elem_facts (nx prev : Int) (x : Sh) (h : elemB nx prev x = true) : 1 ≤ x.f0 ∧ x.f0 < nx ∧ 0 ≤ x.f2 ∧ x.f2 < 5 ∧ 0 ≤ x.f1.f0 ∧ x.f1.f0 < x.f1.f1 ∧ x.f1.f1 ≤ 4096 ∧ x.f1.f0 = prev := by
  simp only [elemB, Bool.and_eq_true, Bool.not_eq_true', decide_eq_true_eq, decide_eq_false_iff_not] at h
  omega
theorem check_facts (ep nx : Int) (l : List Sh) (h : checkB ep nx l = true) : 1 ≤ ep ∧ ep ≤ 1073741824 ∧ 1 ≤ nx ∧ nx ≤ 65537 ∧ 1 ≤ l.length ∧ l.length ≤ 24 ∧ chainP nx 0 l := by
  simp only [checkB, headB, Bool.and_eq_true, Bool.not_eq_true', decide_eq_true_eq, decide_eq_false_iff_not] at h
  have hc := chain_P nx l l.length 0 0 (by omega) h.2.1
  rw [List.drop_zero] at hc
  refine ⟨by omega, by omega, by omega, by omega, by omega, by omega, hc⟩
theorem text_l0 (nx : Int) (hnx : nx ≤ 65537) (l : List Sh) (hl : l.length ≤ 24) : ∀ (d k i : Nat) (prev : Int) (acc : List Nat), i + d = l.length → chainP nx prev (l.drop i) → d + 20 ≤ k → acc.length ≤ 100 + 30 * i →
    chart_Text.l0 k l (ba acc) (i : Int) = some (ba (acc ++ tx (l.drop i))) := by
  intro d
  induction d with
  | zero =>
    intro k i prev acc hi hp hk ha
    obtain ⟨k, rfl⟩ : ∃ k', k = k' + 1 := ⟨k - 1, by omega⟩
    rw [chart_Text.l0, if_neg (by omega), List.drop_eq_nil_of_le (by omega)]
    simp [tx]
  | succ d ih =>
    intro k i prev acc hi hp hk ha
    obtain ⟨k, rfl⟩ : ∃ k', k = k' + 1 := ⟨k - 1, by omega⟩
    have hd := drop_rd l i (by omega)
    rw [hd] at hp ⊢
    rw [chart_Text.l0, if_pos (by omega), if_pos (by omega)]
    generalize rd_T57 l (i : Int) = x at hp ⊢
    obtain ⟨he, hp⟩ := hp
    obtain ⟨f1, f2, f3, f4, f5, f6, f7, f8⟩ := elem_facts nx prev _ he
    have n1 := Vm.enc_len9 x.f0.toNat (by omega)
    have n2 := Vm.enc_len9 x.f1.f1.toNat (by omega)
    have n3 := Vm.enc_len9 x.f2.toNat (by omega)
    rw [num_f k (by omega) _ (by omega) (by omega), Option.bind_some, num_f k (by omega) _ (by omega) (by omega), Option.bind_some, num_f k (by omega) _ (by omega) (by omega), Option.bind_some]
    rw [if_pos (by simp only [ba_size]; omega), if_pos (by rw [ba_size]; omega), w1c i (by omega), ba_append, ba_append, ba_append, ih k (i + 1) _ _ (by omega) hp (by omega) (by simp only [List.length_append]; omega), tx_cons]
    simp only [List.append_assoc]
theorem text_f8 (k : Nat) (hk : 100 ≤ k) (ep nx : Int) (l : List Sh) (hl : l.length ≤ 1000000) : chart_Text.f k ep nx l = some (ba (if checkB ep nx l = true then txB ep nx l else [])) := by
  unfold chart_Text.f
  rw [check_f k ep nx l hl (by omega), Option.bind_some]
  by_cases h : checkB ep nx l = true
  case neg => rw [if_neg h, if_neg h]; rfl
  rw [if_pos h, if_pos h]
  obtain ⟨h1, h2, h3, h4, h5, h6, h7⟩ := check_facts ep nx l h
  have n1 := Vm.enc_len9 ep.toNat (by omega)
  have n2 := Vm.enc_len9 nx.toNat (by omega)
  have n3 := Vm.enc_len9 l.length (by omega)
  rw [num_f k (by omega) _ (by omega) (by omega), Option.bind_some, num_f k (by omega) _ (by omega) (by omega), Option.bind_some, num_f k (by omega) _ (by omega) (by omega), Option.bind_some, Int.toNat_natCast]
  rw [if_pos (by simp only [ba_size]; omega), ba_append, ba_append]
  have ht := text_l0 nx h4 l h6 l.length k 0 0 (Vm.enc ep.toNat ++ Vm.enc nx.toNat ++ Vm.enc l.length) (by omega) (by rw [List.drop_zero]; exact h7) (by omega) (by simp only [List.length_append]; omega)
  rw [show ((0 : Nat) : Int) = 0 from rfl] at ht
  rw [ht]; rfl
theorem reftext_l0 (ep nx : Int) (hnx : nx ≤ 65537) (l : List Sh) (hl : l.length ≤ 24) : ∀ (d k i : Nat) (prev : Int) (acc : List Nat), i + d = l.length → chainP nx prev (l.drop i) → d + 20 ≤ k → acc.length ≤ 100 + 30 * i →
    spliceref08_Text.l0 k (ba acc) (i : Int) ep nx (l.map rf) = some (ba (acc ++ tx (l.drop i))) := by
  intro d
  induction d with
  | zero =>
    intro k i prev acc hi hp hk ha
    obtain ⟨k, rfl⟩ : ∃ k', k = k' + 1 := ⟨k - 1, by omega⟩
    rw [spliceref08_Text.l0, if_neg (by rw [List.length_map]; omega), List.drop_eq_nil_of_le (by omega)]
    simp [tx]
  | succ d ih =>
    intro k i prev acc hi hp hk ha
    obtain ⟨k, rfl⟩ : ∃ k', k = k' + 1 := ⟨k - 1, by omega⟩
    have hd := drop_rd l i (by omega)
    rw [hd] at hp ⊢
    rw [spliceref08_Text.l0, if_pos (by rw [List.length_map]; omega), if_pos (by omega), rd_map]
    generalize rd_T57 l (i : Int) = x at hp ⊢
    obtain ⟨he, hp⟩ := hp
    obtain ⟨f1, f2, f3, f4, f5, f6, f7, f8⟩ := elem_facts nx prev _ he
    have n1 := Vm.enc_len9 x.f0.toNat (by omega)
    have n2 := Vm.enc_len9 x.f1.f1.toNat (by omega)
    have n3 := Vm.enc_len9 x.f2.toNat (by omega)
    dsimp only [rf]
    rw [refnum_f k (by omega) _ (by omega) (by omega), Option.bind_some, if_pos (by simp only [ba_size]; omega), refnum_f k (by omega) _ (by omega) (by omega), Option.bind_some, if_pos (by simp only [ba_size, ba_append, List.length_append]; omega), refnum_f k (by omega) _ (by omega) (by omega), Option.bind_some, if_pos (by simp only [ba_size, ba_append, List.length_append]; omega)]
    rw [w1c i (by omega), ba_append, ba_append, ba_append, ih k (i + 1) _ _ (by omega) hp (by omega) (by simp only [List.length_append]; omega), tx_cons]
    simp only [List.append_assoc]
theorem reftext_f8 (k : Nat) (hk : 900 ≤ k) (ep nx : Int) (l : List Sh) (hl : l.length ≤ 1000000) : spliceref08_Text.f k ep nx (l.map rf) = some (ba (if checkB ep nx l = true then txB ep nx l else [])) := by
  unfold spliceref08_Text.f
  rw [refcheck_f k ep nx l hl (by omega), Option.bind_some]
  by_cases h : checkB ep nx l = true
  case neg => rw [if_neg h, if_neg h]; rfl
  rw [if_pos h, if_pos h]
  obtain ⟨h1, h2, h3, h4, h5, h6, h7⟩ := check_facts ep nx l h
  have n1 := Vm.enc_len9 ep.toNat (by omega)
  have n2 := Vm.enc_len9 nx.toNat (by omega)
  have n3 := Vm.enc_len9 l.length (by omega)
  rw [List.length_map, refnum_f k (by omega) _ (by omega) (by omega), Option.bind_some, refnum_f k (by omega) _ (by omega) (by omega), Option.bind_some, if_pos (by simp only [ba_size]; omega), refnum_f k (by omega) _ (by omega) (by omega), Option.bind_some, Int.toNat_natCast]
  rw [if_pos (by simp only [ba_size, ba_append, List.length_append]; omega), ba_append, ba_append]
  have ht := reftext_l0 ep nx h4 l h6 l.length k 0 0 (Vm.enc ep.toNat ++ Vm.enc nx.toNat ++ Vm.enc l.length) (by omega) (by rw [List.drop_zero]; exact h7) (by omega) (by simp only [List.length_append]; omega)
  rw [show ((0 : Nat) : Int) = 0 from rfl] at ht
  rw [ht]; rfl
/-! ### reading -/
def rows : Nat → Int → Vm.St → List Sh → List Sh × Vm.St
  | 0, _, s, l => (l, s)
  | d + 1, a, s, l => if s.2 = 0 then rows d ((Vm.rn (Vm.rn s).2).1 : Int) (Vm.rn (Vm.rn (Vm.rn s).2).2).2 (l ++ [⟨((Vm.rn s).1 : Int), ⟨a, ((Vm.rn (Vm.rn s).2).1 : Int)⟩, ((Vm.rn (Vm.rn (Vm.rn s).2).2).1 : Int)⟩]) else (l, s)
def fin8 (ep nx : Int) (x : List Sh × Vm.St) : Int × Int × List Sh × Int := if Vm.re x.2 = 0 then (if checkB ep nx x.1 = true then (ep, nx, x.1, 0) else (0, 0, [], 3)) else (0, 0, [], (Vm.re x.2 : Int))
def mp8 (y : Int × Int × List Sh × Int) : Int × Int × List S82 × Int := (y.1, y.2.1, y.2.2.1.map rf, y.2.2.2)
theorem rn_less (s : Vm.St) (h : (Vm.rn s).2.2 = 0) : s.2 = 0 ∧ (Vm.rn s).2.1.length < s.1.length := by
  by_cases h0 : s.2 = 0
  · refine ⟨h0, ?_⟩
    unfold Vm.rn at h ⊢
    rw [if_pos h0] at h ⊢
    exact Vm.dec_left s.1 h
  · unfold Vm.rn at h
    rw [if_neg h0] at h
    exact absurd h h0
theorem rows_bad (d : Nat) (a : Int) (s : Vm.St) (l : List Sh) (h : s.2 ≠ 0) : rows d a s l = (l, s) := by
  cases d with
  | zero => rfl
  | succ d => rw [rows, if_neg h]
theorem read_e0 (k : Nat) (hk : 60 ≤ k) (s : Vm.St) (ep nx : Int) (l : List Sh) (hl : l.length ≤ 1000000) : chart_Read.e0 k (ba s.1) (s.2 : Int) ep nx l = some (fin8 ep nx (l, s)) := by
  unfold chart_Read.e0 fin8
  rw [rend_g, Option.bind_some]
  dsimp only
  by_cases h : Vm.re s = 0
  · rw [if_pos (by omega), if_pos h, check_f k _ _ _ hl hk, Option.bind_some]
    split <;> rfl
  · rw [if_neg (by omega), if_neg h]
theorem read_l0 (ep nx : Int) (n : Nat) (hn : n < 9223372036854775808) : ∀ (m k i : Nat) (a : Int) (s : Vm.St) (l : List Sh), Vm.Ok s → (s.2 = 0 → s.1.length < m) → m + 100 ≤ k → l.length + m ≤ 900000 →
    chart_Read.l0 k (n : Int) (i : Int) a (ba s.1) (s.2 : Int) ep nx l = some (fin8 ep nx (rows (n - i) a s l)) := by
  intro m
  induction m with
  | zero =>
    intro k i a s l hs h0 hk hl
    obtain ⟨k, rfl⟩ : ∃ k', k = k' + 1 := ⟨k - 1, by omega⟩
    have h0 : s.2 ≠ 0 := fun h => by have := h0 h; omega
    rw [rows_bad _ _ _ _ h0, chart_Read.l0, read_e0 k (by omega) s ep nx l (by omega)]
    split
    · rw [if_neg (by omega)]
    · rfl
  | succ m ih =>
    intro k i a s l hs h0 hk hl
    obtain ⟨k, rfl⟩ : ∃ k', k = k' + 1 := ⟨k - 1, by omega⟩
    rw [chart_Read.l0, read_e0 k (by omega) s ep nx l (by omega)]
    by_cases hi : (i : Int) < (n : Int)
    case neg => rw [if_neg hi, show n - i = 0 by omega]; rfl
    rw [if_pos hi]
    by_cases he : s.2 = 0
    case neg => rw [if_neg (by omega), rows_bad _ _ _ _ he]
    have hok1 := (Vm.rn_ok s hs).1
    have hok2 := (Vm.rn_ok _ hok1).1
    have hok3 := (Vm.rn_ok _ hok2).1
    rw [if_pos (by omega), rnum_g k (by omega) s hs, Option.bind_some]
    dsimp only
    rw [rnum_g k (by omega) _ hok1, Option.bind_some]
    dsimp only
    rw [rnum_g k (by omega) _ hok2, Option.bind_some]
    dsimp only
    rw [if_pos (by omega), w1 i (by omega)]
    rw [ih k (i + 1) _ _ _ hok3 (fun h => by have a3 := rn_less _ h; have a2 := rn_less _ a3.1; have a1 := rn_less _ a2.1; have := h0 he; omega) (by omega) (by simp only [List.length_append, List.length_cons, List.length_nil]; omega)]
    rw [show n - i = (n - (i + 1)) + 1 by omega, rows, if_pos he]
theorem refread_end (k : Nat) (hk : 800 ≤ k) (n a i : Int) (s : Vm.St) (ep nx : Int) (l : List Sh) (hl : l.length ≤ 1000000) : spliceref08_Read.j1 (k + 1) n a i false ep nx (l.map rf) (ba s.1) (s.2 : Int) = some (mp8 (fin8 ep nx (l, s))) := by
  unfold fin8
  rw [spliceref08_Read.j1, if_neg (by simp), refend_g, Option.bind_some]
  by_cases h : Vm.re s = 0
  · rw [if_pos (by omega), if_pos h, refcheck_f k _ _ _ hl hk, Option.bind_some]
    dsimp only
    split <;> rfl
  · rw [if_neg (by omega), if_neg h]; rfl
theorem refread_l0 (ep nx : Int) (n : Nat) (hn : n < 9223372036854775808) : ∀ (m k i : Nat) (a : Int) (s : Vm.St) (l : List Sh), Vm.Ok s → (s.2 = 0 → s.1.length < m) → 2 * m + 900 ≤ k → l.length + m ≤ 900000 →
    spliceref08_Read.l0 k (n : Int) a (i : Int) ep nx (l.map rf) (ba s.1) (s.2 : Int) = some (mp8 (fin8 ep nx (rows (n - i) a s l))) := by
  intro m
  induction m with
  | zero =>
    intro k i a s l hs h0 hk hl
    obtain ⟨k, rfl⟩ : ∃ k', k = k' + 1 + 1 := ⟨k - 2, by omega⟩
    have h0 : s.2 ≠ 0 := fun h => by have := h0 h; omega
    have hf : (((s.2 : Nat) : Int) == 0) = false := by rw [beq_eq_false_iff_ne]; omega
    rw [rows_bad _ _ _ _ h0, spliceref08_Read.l0, hf, refread_end k (by omega) _ _ _ s ep nx l (by omega)]
    split <;> rfl
  | succ m ih =>
    intro k i a s l hs h0 hk hl
    obtain ⟨k, rfl⟩ : ∃ k', k = k' + 1 + 1 := ⟨k - 2, by omega⟩
    rw [spliceref08_Read.l0]
    by_cases hi : (i : Int) < (n : Int)
    case neg => rw [if_neg hi, show n - i = 0 by omega, refread_end k (by omega) _ _ _ s ep nx l (by omega)]; rfl
    rw [if_pos hi]
    by_cases he : s.2 = 0
    case neg =>
      have hf : (((s.2 : Nat) : Int) == 0) = false := by rw [beq_eq_false_iff_ne]; omega
      rw [hf, rows_bad _ _ _ _ he, refread_end k (by omega) _ _ _ s ep nx l (by omega)]
    have hok1 := (Vm.rn_ok s hs).1
    have hok2 := (Vm.rn_ok _ hok1).1
    have hok3 := (Vm.rn_ok _ hok2).1
    have hf : (((s.2 : Nat) : Int) == 0) = true := by rw [beq_iff_eq]; omega
    rw [hf, spliceref08_Read.j1, if_pos rfl, refrn_g k (by omega) s hs, Option.bind_some]
    dsimp only
    rw [refrn_g k (by omega) _ hok1, Option.bind_some]
    dsimp only
    rw [refrn_g k (by omega) _ hok2, Option.bind_some]
    dsimp only
    rw [if_pos (by rw [List.length_map]; omega), w1 i (by omega)]
    have h3 := ih k (i + 1) ((Vm.rn (Vm.rn s).2).1 : Int) (Vm.rn (Vm.rn (Vm.rn s).2).2).2 (l ++ [⟨((Vm.rn s).1 : Int), ⟨a, ((Vm.rn (Vm.rn s).2).1 : Int)⟩, ((Vm.rn (Vm.rn (Vm.rn s).2).2).1 : Int)⟩]) hok3 (fun h => by have a3 := rn_less _ h; have a2 := rn_less _ a3.1; have a1 := rn_less _ a2.1; have := h0 he; omega) (by omega) (by simp only [List.length_append, List.length_cons, List.length_nil]; omega)
    rw [List.map_append] at h3
    rw [show n - i = (n - (i + 1)) + 1 by omega, rows, if_pos he]
    exact h3
def readS (s : ByteArray) : Int × Int × List Sh × Int :=
  fin8 ((Vm.rn (nb s, 0)).1 : Int) ((Vm.rn (Vm.rn (nb s, 0)).2).1 : Int) (rows (Vm.rn (Vm.rn (Vm.rn (nb s, 0)).2).2).1 0 (Vm.rn (Vm.rn (Vm.rn (nb s, 0)).2).2).2 [])
theorem left_le (s : ByteArray) (h : s.size ≤ 140737488351232) : (Vm.rn (Vm.rn (Vm.rn (nb s, 0)).2).2).2.1.length ≤ s.size := by
  have ok0 := ok_from s h
  have a1 := Vm.rn_ok _ ok0
  have a2 := Vm.rn_ok _ a1.1
  have a3 := Vm.rn_ok _ a2.1
  have e : (nb s, 0).1.length = s.size := nb_len s
  omega
theorem read_f8 (k : Nat) (s : ByteArray) (hs : s.size ≤ 100000) (hk : s.size + 200 ≤ k) : chart_Read.f k s = some (readS s) := by
  have ok0 := ok_from s (by omega)
  have ok1 := (Vm.rn_ok _ ok0).1
  have ok2 := (Vm.rn_ok _ ok1).1
  have ok3 := (Vm.rn_ok _ ok2).1
  unfold chart_Read.f readS
  rw [rfrom_g, Option.bind_some]
  dsimp only
  have f1 := rnum_g k (by omega) (nb s, 0) ok0
  dsimp only at f1
  rw [f1, Option.bind_some]
  dsimp only
  rw [rnum_g k (by omega) _ ok1, Option.bind_some]
  dsimp only
  rw [rnum_g k (by omega) _ ok2, Option.bind_some]
  dsimp only
  have hl := left_le s (by omega)
  have h3 := read_l0 ((Vm.rn (nb s, 0)).1 : Int) ((Vm.rn (Vm.rn (nb s, 0)).2).1 : Int) (Vm.rn (Vm.rn (Vm.rn (nb s, 0)).2).2).1 (Vm.rn_lt _ ok2) (s.size + 1) k 0 0 (Vm.rn (Vm.rn (Vm.rn (nb s, 0)).2).2).2 [] ok3 (fun _ => by omega) (by omega) (by simp only [List.length_nil]; omega)
  rw [Nat.sub_zero] at h3
  exact h3
theorem refread_f8 (k : Nat) (s : ByteArray) (hs : s.size ≤ 100000) (hk : 2 * s.size + 1000 ≤ k) : spliceref08_Read.f k s = some (mp8 (readS s)) := by
  have ok0 := ok_from s (by omega)
  have ok1 := (Vm.rn_ok _ ok0).1
  have ok2 := (Vm.rn_ok _ ok1).1
  have ok3 := (Vm.rn_ok _ ok2).1
  unfold spliceref08_Read.f readS
  have f1 := refrn_g k (by omega) (nb s, 0) ok0
  dsimp only at f1
  rw [ba_nb, show ((0 : Nat) : Int) = 0 from rfl] at f1
  rw [f1, Option.bind_some]
  dsimp only
  rw [refrn_g k (by omega) _ ok1, Option.bind_some]
  dsimp only
  rw [refrn_g k (by omega) _ ok2, Option.bind_some]
  dsimp only
  have hl := left_le s (by omega)
  have h3 := refread_l0 ((Vm.rn (nb s, 0)).1 : Int) ((Vm.rn (Vm.rn (nb s, 0)).2).1 : Int) (Vm.rn (Vm.rn (Vm.rn (nb s, 0)).2).2).1 (Vm.rn_lt _ ok2) (s.size + 1) k 0 0 (Vm.rn (Vm.rn (Vm.rn (nb s, 0)).2).2).2 [] ok3 (fun _ => by omega) (by omega) (by simp only [List.length_nil]; omega)
  rw [Nat.sub_zero] at h3
  exact h3
theorem fin8_len (ep nx : Int) (x : List Sh × Vm.St) : (fin8 ep nx x).2.2.1.length ≤ 24 := by
  unfold fin8
  split
  · split
    · rename_i h
      exact (check_facts _ _ _ h).2.2.2.2.2.1
    · simp
  · simp

end Go.Proofs.Ytbhlphadcphapaa.PR
