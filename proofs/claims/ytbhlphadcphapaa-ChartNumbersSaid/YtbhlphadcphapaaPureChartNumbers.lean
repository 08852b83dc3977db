/- ChartNumbers: numbers are never given again: a shard of one number has the same keys and node in each chart that has it, and once it is gone it does not come again (up to 40 changes). For every input. -/
import Derived.Test.YtbhlphadcphapaaPVx0
import Derived.Test.YtbhlphadcphapaaPVx6
import Derived.Test.YtbhlphadcphapaaVQ1
import Derived.Test.YtbhlphadcphapaaVQ2
import Derived.Test.YtbhlphadcphapaaVQ3
import Derived.OpenShut
namespace Go.Proofs.Ytbhlphadcphapaa.Pure
open Go.RowKit Go.Proofs.Ytbhlphadcphapaa.PV Go.Proofs.YtbhlphadcphapaaW.PrintWords Go.Proofs.YtbhlphadcphapaaW.PrintLast Go.Proofs.YtbhlphadcphapaaW.PrintMore
set_option linter.unusedVariables false
set_option linter.unusedSimpArgs false


structure NInv (p : List S24) (id : Int) (i : Nat) (seen gone : Bool) (was : S57) : Prop where
  a : seen = false → ∀ m : Nat, m < i → ∀ y ∈ (rd_T24 p (m : Int)).f2, y.f0 ≠ id
  b : seen = true → ∃ m : Nat, m < i ∧ was ∈ (rd_T24 p (m : Int)).f2 ∧ was.f0 = id
  c : gone = true → ∃ m m' : Nat, m < m' ∧ m' < i ∧ (∃ y ∈ (rd_T24 p (m : Int)).f2, y.f0 = id) ∧ ∀ y ∈ (rd_T24 p (m' : Int)).f2, y.f0 ≠ id
theorem wk_same {p : List S24} (hw : Wk p) (m i : Nat) (hmi : m ≤ i) (hi : i < p.length) (x y : S57) (hx : x ∈ (rd_T24 p (m : Int)).f2) (hy : y ∈ (rd_T24 p (i : Int)).f2) (e : y.f0 = x.f0) : y ∈ (rd_T24 p (m : Int)).f2 := by
  obtain ⟨d, rfl⟩ := Nat.exists_eq_add_of_le hmi
  have h1 := (check_ids _ _ _ (hw.chk m (by omega)) x hx).2
  exact (wk_back hw m d hi).2 y hy (by omega)
theorem numbers_l1 (p : List S24) (hw : Wk p) (hl : p.length ≤ 1000) (nx id : Int) (h1 : 1 ≤ id) (h2 : id < (rd_T24 p ((p.length - 1 : Nat) : Int)).f1) (F : Nat)
    (hnext : ∀ k, F ≤ k → splicelaw08_ChartNumbers.l0 k p nx (wrap64 (id + 1)) = some true) :
    ∀ (d k i : Nat) (seen gone : Bool) (was : S57), i + d = p.length → NInv p id i seen gone was → d + F + 100 ≤ k → splicelaw08_ChartNumbers.l1 k p nx id seen gone was (i : Int) = some true := by
  intro d
  induction d with
  | zero =>
    intro k i seen gone was hi hn hk
    obtain ⟨k, rfl⟩ : ∃ m, k = m + 1 := ⟨k - 1, by omega⟩
    simp only [splicelaw08_ChartNumbers.l1]
    rw [if_neg (by omega)]
    have hs : seen = true := by
      cases seen with
      | true => rfl
      | false =>
        have hne := hw.ne
        obtain ⟨m, hm, x, hx, e⟩ := wk_seen hw (p.length - 1) (by omega) id h1 h2
        exact absurd e (hn.a rfl m (by omega) x hx)
    rw [if_pos hs]
    exact hnext k (by omega)
  | succ d ih =>
    intro k i seen gone was hi hn hk
    obtain ⟨k, rfl⟩ : ∃ m, k = m + 1 := ⟨k - 1, by omega⟩
    have hck := hw.chk i (by omega)
    have hcl := check_len _ _ _ hck
    simp only [splicelaw08_ChartNumbers.l1]
    rw [if_pos (by omega), if_pos (by omega), find_f k _ _ _ (by omega) id (by omega), hck, if_pos rfl, Option.bind_some, w1c i (by omega)]
    rcases find_val _ _ _ hck id with ⟨hno, ha⟩ | ⟨y, hy, e, ha⟩
    · rw [ha]
      dsimp only
      rw [if_neg (by decide)]
      refine ih k (i + 1) _ _ _ (by omega) ⟨fun hs m hm => ?_, fun hs => ?_, fun hg => ?_⟩ (by omega)
      · by_cases em : m = i
        · subst em; exact hno
        · exact hn.a hs m (by omega)
      · obtain ⟨m, hm, hx⟩ := hn.b hs
        exact ⟨m, by omega, hx⟩
      · rw [Bool.or_eq_true] at hg
        rcases hg with hg | hg
        · obtain ⟨m, m', q1, q2, q3⟩ := hn.c hg
          exact ⟨m, m', q1, by omega, q3⟩
        · obtain ⟨m, hm, hx, hx2⟩ := hn.b hg
          exact ⟨m, i, hm, by omega, ⟨was, hx, hx2⟩, hno⟩
    · rw [ha]
      dsimp only
      rw [if_pos rfl]
      have hg : gone = false := by
        cases hgg : gone with
        | false => rfl
        | true =>
          obtain ⟨m, m', q1, q2, ⟨x, hx, ex⟩, q4⟩ := hn.c hgg
          have hx0 := check_ids _ _ _ (hw.chk m (by omega)) x hx
          have hb := wk_back hw m (m' - m) (by omega)
          rw [show m + (m' - m) = m' from by omega] at hb
          have hb2 := wk_back hw m' (i - m') (by omega)
          rw [show m' + (i - m') = i from by omega] at hb2
          exact absurd e (q4 y (hb2.2 y hy (by omega)))
      subst hg
      rw [if_neg (by decide)]
      cases seen with
      | true =>
        rw [if_pos rfl]
        obtain ⟨m, hm, hx, hx2⟩ := hn.b rfl
        have hy2 := wk_same hw m i (by omega) (by omega) was y hx hy (by omega)
        have heq := uniq_mem _ (good_of _ _ _ (hw.chk m (by omega))) y was hy2 hx (by omega)
        subst heq
        rw [if_pos ⟨rfl, rfl, rfl, rfl⟩]
        exact ih k (i + 1) _ _ _ (by omega) ⟨fun h => absurd h (by decide), fun _ => ⟨m, by omega, hx, hx2⟩, fun h => absurd h (by decide)⟩ (by omega)
      | false =>
        rw [if_neg (by decide)]
        exact ih k (i + 1) _ _ _ (by omega) ⟨fun h => absurd h (by decide), fun _ => ⟨i, by omega, hy, e⟩, fun h => absurd h (by decide)⟩ (by omega)
theorem numbers_l0 (p : List S24) (hw : Wk p) (hl : p.length ≤ 1000) : ∀ (D k : Nat) (id : Int), id + D = 100 → 1 ≤ id → D * 1200 + 200 ≤ k → splicelaw08_ChartNumbers.l0 k p (rd_T24 p ((p.length - 1 : Nat) : Int)).f1 id = some true := by
  intro D
  induction D with
  | zero =>
    intro k id hd _ hk
    obtain ⟨k, rfl⟩ : ∃ m, k = m + 1 := ⟨k - 1, by omega⟩
    simp only [splicelaw08_ChartNumbers.l0]
    by_cases h : id < (rd_T24 p ((p.length - 1 : Nat) : Int)).f1
    · rw [if_pos h, if_neg (by omega)]; exact awake8_f k (by omega)
    · rw [if_neg h]; exact awake8_f k (by omega)
  | succ D ih =>
    intro k id hd h1 hk
    obtain ⟨k, rfl⟩ : ∃ m, k = m + 1 := ⟨k - 1, by omega⟩
    simp only [splicelaw08_ChartNumbers.l0]
    by_cases h : id < (rd_T24 p ((p.length - 1 : Nat) : Int)).f1
    case neg => rw [if_neg h]; exact awake8_f k (by omega)
    rw [if_pos h, if_pos (by omega)]
    refine numbers_l1 p hw hl _ id h1 h (D * 1200 + 200) (fun k hk => ?_) p.length k 0 false false _ (Nat.zero_add _) ⟨fun _ m hm => absurd hm (Nat.not_lt_zero m), fun h => absurd h (by decide), fun h => absurd h (by decide)⟩ (by omega)
    have w : wrap64 (id + 1) = id + 1 := by unfold wrap64; omega
    rw [w]
    clear w
    exact ih k (id + 1) (by omega) (by omega) hk
theorem ChartNumbers : splicelaw08_ChartNumbers.Pure := by
  intro a0 a1 x _ _ hx
  obtain ⟨r, h1, h2, h3, h4⟩ := walk_f 200000 (by omega) a0 a1 x.f0 40 (by have := hx.1; omega) (by omega)
  refine ⟨200000, ?_⟩
  unfold splicelaw08_ChartNumbers.f
  have hne := h2.ne
  rw [h1, Option.bind_some, if_pos (by omega)]
  have e : (r.2.length : Int) - 1 = ((r.2.length - 1 : Nat) : Int) := by omega
  rw [e]
  exact numbers_l0 r.2 h2 (by omega) 99 200000 1 (by omega) (by omega) (by omega)

end Go.Proofs.Ytbhlphadcphapaa.Pure
