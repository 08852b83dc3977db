/- ChartBack: a chart that is written is read as it was, and what is read of any bytes, written again, are the bytes that were read (up to 60 shards, 2,000 bytes). For every input. -/
import Derived.Test.YtbhlphadcphapaaPKx10
import Derived.Test.YtbhlphadcphapaaPKx6
import Derived.Test.YtbhlphadcphapaaPKx8
import Derived.Test.YtbhlphadcphapaaPKx9
import Derived.Test.YtbhlphadcphapaaKQ1
import Derived.Test.YtbhlphadcphapaaKQ2
import Derived.OpenShut
namespace Go.Proofs.Ytbhlphadcphapaa.Pure
open Go.RowKit Go.Proofs.Ytbhlphadcphapaa.PK Go.Proofs.YtbhlphadcphapaaW.PrintWords Go.Proofs.YtbhlphadcphapaaW.PrintLast Go.Proofs.YtbhlphadcphapaaW.PrintMore
set_option linter.unusedVariables false
set_option linter.unusedSimpArgs false


theorem rows_enc (nx : Int) (hnx : nx ≤ 65537) : ∀ (l acc : List Sh) (prev : Int) (r : List Nat), chainP nx prev l → rows l.length prev (tx l ++ r, 0) acc = (acc ++ l, (r, 0)) := by
  intro l
  induction l with
  | nil => intro acc prev r _; simp [rows, tx]
  | cons x l ih =>
    intro acc prev r hp
    obtain ⟨he, hp⟩ := hp
    obtain ⟨f1, f2, f3, f4, f5, f6, f7, f8⟩ := elem_facts nx prev _ he
    rw [List.length_cons, rows, if_pos rfl, tx_cons]
    simp only [List.append_assoc]
    rw [Vm.rn_enc _ (by omega)]
    dsimp only
    rw [Vm.rn_enc _ (by omega)]
    dsimp only
    rw [Vm.rn_enc _ (by omega)]
    dsimp only
    have e1 : ((x.f0.toNat : Nat) : Int) = x.f0 := by omega
    have e2 : ((x.f1.f1.toNat : Nat) : Int) = x.f1.f1 := by omega
    have e3 : ((x.f2.toNat : Nat) : Int) = x.f2 := by omega
    rw [e1, e2, e3, ih _ _ _ hp, ← f8, List.append_assoc]
    rfl
theorem read_text (ep nx : Int) (l : List Sh) (h : checkB ep nx l = true) : readS (ba (txB ep nx l)) = (ep, nx, l, 0) := by
  obtain ⟨h1, h2, h3, h4, h5, h6, h7⟩ := check_facts ep nx l h
  have hb : ∀ x ∈ txB ep nx l, x < 256 := by
    intro x hx
    unfold txB tx at hx
    simp only [List.mem_append, List.mem_flatMap] at hx
    rcases hx with ((hx | hx) | hx) | ⟨y, _, hx | hx | hx⟩ <;> exact Vm.enc_byte _ _ hx
  unfold readS
  rw [nb_ba _ hb]
  unfold txB
  simp only [List.append_assoc]
  rw [Vm.rn_enc _ (by omega)]
  dsimp only
  rw [Vm.rn_enc _ (by omega)]
  dsimp only
  rw [Vm.rn_enc _ (by omega)]
  dsimp only
  have hr := rows_enc nx h4 l [] 0 [] h7
  rw [List.append_nil, List.nil_append] at hr
  rw [hr]
  have e1 : ((ep.toNat : Nat) : Int) = ep := by omega
  have e2 : ((nx.toNat : Nat) : Int) = nx := by omega
  have hre : Vm.re ([], 0) = 0 := rfl
  unfold fin8
  rw [e1, e2, if_pos hre, if_pos h]
theorem once_rn8 (s : Vm.St) (h : Vm.Ok s) (he : (Vm.rn s).2.2 = 0) : Vm.enc (Vm.rn s).1 ++ (Vm.rn s).2.1 = s.1 := by
  have h0 := (rn_less s he).1
  obtain ⟨a, b⟩ := s
  obtain rfl : b = 0 := h0
  have hx : Vm.rn (a, 0) = ((Vm.rn (a, 0)).1, (Vm.rn (a, 0)).2.1, 0) := Prod.ext rfl (Prod.ext rfl he)
  exact (Vm.rn_once a h.1 _ _ hx).1
theorem rows_err (d : Nat) (a : Int) (s : Vm.St) (acc : List Sh) (h : (rows d a s acc).2.2 = 0) : s.2 = 0 := by
  by_cases h0 : s.2 = 0
  · exact h0
  · rw [rows_bad d a s acc h0] at h
    exact h
theorem rows_once : ∀ (d : Nat) (a : Int) (s : Vm.St) (acc : List Sh), Vm.Ok s → (rows d a s acc).2.2 = 0 → ∃ l, (rows d a s acc).1 = acc ++ l ∧ l.length = d ∧ tx l ++ (rows d a s acc).2.1 = s.1 := by
  intro d
  induction d with
  | zero => intro a s acc _ _; exact ⟨[], by simp [rows], rfl, rfl⟩
  | succ d ih =>
    intro a s acc hs he
    have h0 := rows_err _ _ _ _ he
    rw [rows, if_pos h0] at he ⊢
    have ok1 := (Vm.rn_ok _ hs).1
    have ok2 := (Vm.rn_ok _ ok1).1
    have ok3 := (Vm.rn_ok _ ok2).1
    have e3 := rows_err _ _ _ _ he
    have e2 := (rn_less _ e3).1
    have e1 := (rn_less _ e2).1
    obtain ⟨l, h1, h2, h3⟩ := ih _ _ _ ok3 he
    refine ⟨_ :: l, by rw [h1, List.append_assoc]; rfl, by rw [List.length_cons, h2], ?_⟩
    rw [tx_cons]
    dsimp only
    simp only [List.append_assoc]
    rw [h3, Int.toNat_natCast, Int.toNat_natCast, Int.toNat_natCast, once_rn8 _ ok2 e3, once_rn8 _ ok1 e2, once_rn8 _ hs e1]
theorem text_read (k : Nat) (hk : 100 ≤ k) (s : ByteArray) (hs : s.size ≤ 100000) (h : (readS s).2.2.2 = 0) : chart_Text.f k (readS s).1 (readS s).2.1 (readS s).2.2.1 = some s := by
  have ok0 := ok_from s (by omega)
  have ok1 := (Vm.rn_ok _ ok0).1
  have ok2 := (Vm.rn_ok _ ok1).1
  have ok3 := (Vm.rn_ok _ ok2).1
  have hlen : (readS s).2.2.1.length ≤ 24 := fin8_len _ _ _
  unfold readS at h hlen ⊢
  unfold fin8 at h hlen ⊢
  by_cases hre : Vm.re (rows (Vm.rn (Vm.rn (Vm.rn (nb s, 0)).2).2).1 0 (Vm.rn (Vm.rn (Vm.rn (nb s, 0)).2).2).2 []).2 = 0
  case neg => rw [if_neg hre] at h; exact absurd h (by dsimp only; omega)
  rw [if_pos hre] at h hlen ⊢
  have he : (rows (Vm.rn (Vm.rn (Vm.rn (nb s, 0)).2).2).1 0 (Vm.rn (Vm.rn (Vm.rn (nb s, 0)).2).2).2 []).2.2 = 0 := by
    unfold Vm.re at hre
    split at hre
    · assumption
    · exact hre
  have hnil : (rows (Vm.rn (Vm.rn (Vm.rn (nb s, 0)).2).2).1 0 (Vm.rn (Vm.rn (Vm.rn (nb s, 0)).2).2).2 []).2.1 = [] := by
    unfold Vm.re at hre
    rw [if_pos he] at hre
    split at hre
    · assumption
    · omega
  split at h
  case isFalse => exact absurd h (by dsimp only; omega)
  rename_i hc
  rw [if_pos hc] at hlen ⊢
  rw [text_f8 k hk _ _ _ (by omega), if_pos hc]
  have e3 := rows_err _ _ _ _ he
  have e2 := (rn_less _ e3).1
  have e1 := (rn_less _ e2).1
  obtain ⟨l, h1, h2, h3⟩ := rows_once _ _ _ _ ok3 he
  rw [hnil, List.append_nil] at h3
  rw [List.nil_append] at h1
  rw [h1]
  congr 1
  unfold txB
  rw [Int.toNat_natCast, Int.toNat_natCast, h2, h3]
  simp only [List.append_assoc]
  rw [once_rn8 _ ok2 e3, once_rn8 _ ok1 e2, once_rn8 _ ok0 e1]
  exact ba_nb s
theorem read_len (s : ByteArray) (h : (readS s).2.2.2 ≠ 0) : (readS s).2.2.1 = [] := by
  unfold readS at h ⊢
  unfold fin8 at h ⊢
  split at h
  · rename_i hre
    rw [if_pos hre]
    split at h
    · exact absurd rfl h
    · rename_i hc
      rw [if_neg hc]
  · rename_i hre
    rw [if_neg hre]
theorem tx_len (nx : Int) (hnx : nx ≤ 65537) : ∀ (l : List Sh) (prev : Int), chainP nx prev l → (tx l).length ≤ 30 * l.length := by
  intro l
  induction l with
  | nil => intro _ _; simp [tx]
  | cons x l ih =>
    intro prev hp
    obtain ⟨he, hp⟩ := hp
    obtain ⟨f1, f2, f3, f4, f5, f6, f7, f8⟩ := elem_facts nx prev _ he
    have n1 := Vm.enc_len9 x.f0.toNat (by omega)
    have n2 := Vm.enc_len9 x.f1.f1.toNat (by omega)
    have n3 := Vm.enc_len9 x.f2.toNat (by omega)
    have := ih _ hp
    rw [tx_cons]
    simp only [List.length_append, List.length_cons]
    omega
theorem ChartBack : splicelaw08_ChartBack.Pure := by
  intro x0 x1 hw hs
  refine ⟨6000, ?_⟩
  have haw : ∀ k ep nx l, 100 ≤ k → splicelaw08_ChartBack.j0 (k + 1) x1 true ep nx l = some true := by
    intro k ep nx l hk
    rw [splicelaw08_ChartBack.j0, if_pos rfl, awake8_f k (by omega)]; rfl
  unfold splicelaw08_ChartBack.f splicelaw08_few.f
  rw [Option.bind_some]
  by_cases h60 : (x0.f2.length : Int) ≤ 60
  case neg => rw [decide_eq_false h60, if_neg (by simp), haw 5999 _ _ _ (by omega)]
  rw [decide_eq_true h60, if_pos rfl]
  by_cases h2 : (x1.size : Int) > 2000
  · rw [decide_eq_true h2, haw 5999 _ _ _ (by omega)]
  have hend : ∀ k, 5000 ≤ k → ((chart_Read.f k x1).bind fun bt336 => ((splicelaw08_awake.f k).bind fun t343 => (if t343 = true then (if bt336.2.2.2 = 0 then ((chart_Text.f k bt336.1 bt336.2.1 bt336.2.2.1).bind fun t344 => (some (t344.toList == x1.toList))) else (if (bt336.2.2.1.length : Int) = 0 then (some true) else (some false))) else (some false)))) = some true := by
    intro k hk
    rw [read_f8 k x1 (by omega) (by omega), Option.bind_some, awake8_f k (by omega), Option.bind_some, if_pos rfl]
    by_cases he : (readS x1).2.2.2 = 0
    · rw [if_pos he, text_read k (by omega) x1 (by omega) he, Option.bind_some]
      simp
    · rw [if_neg he, read_len x1 he]
      rfl
  have hj1 : ∀ k, 5000 ≤ k → splicelaw08_ChartBack.j1 (k + 1) x1 false = some true := by
    intro k hk
    rw [splicelaw08_ChartBack.j1, if_neg (by simp)]
    exact hend k hk
  rw [decide_eq_false h2, splicelaw08_ChartBack.j0, if_neg (by simp), check_f 5999 _ _ _ (by omega) (by omega), Option.bind_some]
  by_cases hc : checkB x0.f0 x0.f1 x0.f2 = true
  case neg => rw [if_neg hc]; exact hend 5999 (by omega)
  obtain ⟨h1, h2', h3, h4, h5, h6, h7⟩ := check_facts _ _ _ hc
  have n1 := Vm.enc_len9 x0.f0.toNat (by omega)
  have n2 := Vm.enc_len9 x0.f1.toNat (by omega)
  have n3 := Vm.enc_len9 x0.f2.length (by omega)
  have hsz : (ba (txB x0.f0 x0.f1 x0.f2)).size ≤ 1000 := by
    have := tx_len _ h4 _ _ h7
    rw [ba_size]
    unfold txB
    simp only [List.length_append]
    omega
  rw [if_pos hc, text_f8 5999 (by omega) _ _ _ (by omega), Option.bind_some, if_pos hc, read_f8 5999 _ (by omega) (by omega), Option.bind_some, read_text _ _ _ hc]
  dsimp only
  rw [if_pos rfl, ref_f 5999 _ _ _ (by omega) (by omega), Option.bind_some, Option.bind_some]
  dsimp only
  rw [same_f 5999 _ _ _ (by rw [List.length_map]; omega) (by rw [List.length_map]; omega), Option.bind_some]
  exact hj1 5998 (by omega)

end Go.Proofs.Ytbhlphadcphapaa.Pure
