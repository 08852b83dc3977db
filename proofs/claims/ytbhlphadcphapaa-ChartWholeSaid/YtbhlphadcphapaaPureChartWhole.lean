/- ChartWhole: at each epoch each key has one owner, whatever was changed: each chart on the way may be, has its epoch, and one shard alone has the key (up to 40 changes; any key). For every input. -/
import Derived.Test.YtbhlphadcphapaaPVx0
import Derived.Test.YtbhlphadcphapaaPVx6
import Derived.Test.YtbhlphadcphapaaVQ1
import Derived.Test.YtbhlphadcphapaaVQ2
import Derived.OpenShut
namespace Go.Proofs.Ytbhlphadcphapaa.Pure
open Go.RowKit Go.Proofs.Ytbhlphadcphapaa.PV Go.Proofs.YtbhlphadcphapaaW.PrintWords Go.Proofs.YtbhlphadcphapaaW.PrintLast Go.Proofs.YtbhlphadcphapaaW.PrintMore
set_option linter.unusedVariables false
set_option linter.unusedSimpArgs false


theorem whole_l1 (past : List S24) (key : Int) (hk0 : 0 ≤ key) (hk1 : key < 4096) (D i : Nat) (c : S24) (hc : rd_T24 past (i : Int) = c) (hi : i < 1000000) (hep : c.f0 = (i : Int) + 1) (hck : checkB c.f0 c.f1 c.f2 = true)
    (hnext : ∀ k, D * 40 + 300 ≤ k → splicelaw08_ChartWhole.l0 k past key ((i + 1 : Nat) : Int) = some true) :
    ∀ (d k j : Nat) (n prev : Int), j + d = c.f2.length → chain0 c.f1 c.f2 d j prev = true → (n = 0 ∧ prev ≤ key ∨ n = 1 ∧ key < prev) → d + D * 40 + 301 ≤ k → splicelaw08_ChartWhole.l1 k past key (i : Int) n (j : Int) = some true := by
  have hcl := check_len _ _ _ hck
  intro d
  induction d with
  | zero =>
    intro k j n prev hj hch hn hk
    obtain ⟨k, rfl⟩ : ∃ m, k = m + 1 := ⟨k - 1, by omega⟩
    simp only [chain0, decide_eq_true_eq] at hch
    have hn1 : n = 1 := by omega
    simp only [splicelaw08_ChartWhole.l1, hc]
    rw [if_neg (by omega), check_f k _ _ _ (by omega) (by omega), hck, Option.bind_some, if_pos rfl, if_pos hn1, w1c i (by omega), if_pos (by omega)]
    exact hnext k (by omega)
  | succ d ih =>
    intro k j n prev hj hch hn hk
    obtain ⟨k, rfl⟩ : ∃ m, k = m + 1 := ⟨k - 1, by omega⟩
    simp only [chain0, Bool.and_eq_true] at hch
    obtain ⟨he, hch⟩ := hch
    simp only [elemB, Bool.and_eq_true, decide_eq_true_eq] at he
    have e1 := he.2
    have e2 := he.1.2.1.2
    have e3 := he.1.2.1.1
    clear he
    simp only [splicelaw08_ChartWhole.l1, hc]
    rw [if_pos (by omega), if_pos (by omega), w1c j (by omega)]
    by_cases h1 : (rd_T57 c.f2 (j : Int)).f1.f0 ≤ key
    · rw [if_pos h1]
      by_cases h2 : key < (rd_T57 c.f2 (j : Int)).f1.f1
      · rw [if_pos h2]
        have hn0 : n = 0 := by omega
        subst hn0
        exact ih k (j + 1) _ _ (by omega) hch (Or.inr ⟨by unfold wrap64; omega, h2⟩) (by omega)
      · rw [if_neg h2]
        exact ih k (j + 1) _ _ (by omega) hch (by omega) (by omega)
    · rw [if_neg h1]
      exact ih k (j + 1) _ _ (by omega) hch (by omega) (by omega)
theorem whole_l0 (past : List S24) (hw : Wk past) (hl : past.length ≤ 1000) (key : Int) (hk0 : 0 ≤ key) (hk1 : key < 4096) : ∀ (D k i : Nat), i + D = past.length → D * 40 + 300 ≤ k → splicelaw08_ChartWhole.l0 k past key (i : Int) = some true := by
  intro D
  induction D with
  | zero =>
    intro k i hi hk
    obtain ⟨k, rfl⟩ : ∃ m, k = m + 1 := ⟨k - 1, by omega⟩
    simp only [splicelaw08_ChartWhole.l0]
    rw [if_neg (by omega)]
    exact awake8_f k (by omega)
  | succ D ih =>
    intro k i hi hk
    obtain ⟨k, rfl⟩ : ∃ m, k = m + 1 := ⟨k - 1, by omega⟩
    simp only [splicelaw08_ChartWhole.l0]
    rw [if_pos (by omega), if_pos (by omega)]
    have hck := hw.chk i (by omega)
    have hcl := check_len _ _ _ hck
    have hch := hck
    simp only [checkB, Bool.and_eq_true] at hch
    exact whole_l1 past key hk0 hk1 D i _ rfl (by omega) (hw.ep i (by omega)) hck (fun k hk => ih k (i + 1) (by omega) hk) _ k 0 0 0 (Nat.zero_add _) hch.2.1 (Or.inl ⟨rfl, hk0⟩) (by omega)
theorem ChartWhole : splicelaw08_ChartWhole.Pure := by
  intro a0 a1 x _ _ hx
  obtain ⟨r, h1, h2, h3, h4⟩ := walk_f 3000 (by omega) a0 a1 x.f0 40 (by have := hx.1; omega) (by omega)
  refine ⟨3000, ?_⟩
  unfold splicelaw08_ChartWhole.f
  rw [h1, Option.bind_some]
  have hk := two_mod x.f1 4096 (by omega) (by omega)
  exact whole_l0 r.2 h2 (by omega) _ hk.1 hk.2 r.2.length 3000 0 (Nat.zero_add _) (by omega)

end Go.Proofs.Ytbhlphadcphapaa.Pure
