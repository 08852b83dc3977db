/- BalanceRuns: what is suggested, made again and again, is what Run makes, as many times as it may. For every input. -/
import Derived.Test.YteclhjhnbolkmaaPUx0
import Derived.Test.YteclhjhnbolkmaaPUx11
import Derived.Test.YteclhjhnbolkmaaPUx12
import Derived.Test.YteclhjhnbolkmaaPUx3
import Derived.Test.YteclhjhnbolkmaaPUx6
import Derived.Test.YteclhjhnbolkmaaUQ1
import Derived.Test.YteclhjhnbolkmaaUQ2
import Derived.Test.YteclhjhnbolkmaaUQ3
import Derived.Test.YteclhjhnbolkmaaUQ4
import Derived.OpenShut
namespace Go.Proofs.Yteclhjhnbolkmaa.Pure
open Go.RowKit Go.Proofs.Yteclhjhnbolkmaa.PU Go.Proofs.YteclhjhnbolkmaaW.PrintWords Go.Proofs.YteclhjhnbolkmaaW.PrintLast Go.Proofs.YteclhjhnbolkmaaW.PrintMore
set_option linter.unusedVariables false
set_option linter.unusedSimpArgs false


theorem apply_len (ep nx : Int) (L : List S67) (kd id at_ : Int) (h : (applyS ep nx L kd id at_).2.2.2.2.2 = 0) : (applyS ep nx L kd id at_).2.2.1.length ≤ 60 := by
  unfold applyS at h ⊢
  generalize chg nx kd at_ L (ixOf (fun x => decide (x.f0 = id)) L 0).toNat = c at h ⊢
  generalize ixOf (fun x => decide (x.f0 = id)) L 0 = ix at h ⊢
  split at h
  · split at h
    · split at h
      · exact absurd h (by decide)
      · split at h
        · split at h
          · rename_i g1 g2 g3 g4 g5
            rw [if_pos g1, if_pos g2, if_neg g3, if_pos g4, if_pos g5]
            unfold checkB headB at g5
            simp only [Bool.and_eq_true, Bool.not_eq_true', decide_eq_false_iff_not] at g5
            have := g5.1.2
            dsimp only
            omega
          · exact absurd h (by decide)
        · rename_i g1 g2 g3 g4
          exact absurd h g4
    · exact absurd h (by decide)
  · exact absurd h (by decide)
theorem rd_app (a b : List S54) (y : S54) : rd_T54 (a ++ [y] ++ b) (a.length : Int) = y := by
  unfold rd_T54
  rw [Int.toNat_natCast, List.getD_eq_getElem?_getD, List.append_assoc, List.getElem?_append_right (Nat.le_refl _), Nat.sub_self]; rfl
theorem runs_g (k : Nat) (hk : 1100 ≤ k) (l : List Pr70) (hl : l.length ≤ 60) (p0 p1 p2 n most : Int) (hm : most ≤ 30) : ∀ (q : Nat) (ep nx : Int) (L : List S67) (dn : List S54), L.length ≤ 60 → dn.length ≤ 30 → 32 ≤ q + dn.length →
    ∃ ra rb rL rd re, balance_Run.g k l p0 p1 p2 n most q ep nx L dn = some (ra, rb, rL, rd, re) ∧ (re = 0 → ∃ b, rd = dn ++ b) ∧ runsL k l p0 p1 p2 n most re ra rb rL rd q dn.length ep nx L = some true := by
  intro q
  induction q with
  | zero => intro ep nx L dn _ h1 h2; omega
  | succ q ih =>
    intro ep nx L dn hL hd hq
    obtain ⟨⟨kd, id, at_, sm, er⟩, hS, hS2⟩ := suggest_f k (by omega) ep nx L hL l hl p0 p1 p2 n
    dsimp only at hS2
    rw [balance_Run.g, hS, Option.bind_some]
    dsimp only
    by_cases he : er = 0
    · rw [if_pos he]
      by_cases hgo : sm = true ∧ (dn.length : Int) < most
      · rw [if_pos hgo, if_neg (by omega), apply_f k ep nx L (by omega) kd id at_ (by omega), Option.bind_some]
        obtain ⟨_, ha, _⟩ := hS2 he hgo.1
        have hal := apply_len ep nx L kd id at_ ha
        obtain ⟨ra, rb, rL, rd, re, h1, h2, h3⟩ := ih (applyS ep nx L kd id at_).1 (applyS ep nx L kd id at_).2.1 (applyS ep nx L kd id at_).2.2.1 (dn ++ [⟨kd, id, at_⟩]) hal (by rw [List.length_append, List.length_singleton]; omega) (by rw [List.length_append, List.length_singleton]; omega)
        refine ⟨ra, rb, rL, rd, re, h1, fun h => ?_, ?_⟩
        · obtain ⟨b, hb⟩ := h2 h
          exact ⟨⟨kd, id, at_⟩ :: b, by rw [hb, List.append_assoc]; rfl⟩
        · rw [runsL, hS, Option.bind_some]
          dsimp only
          have hc : dn.length ≤ 1000 ∧ (re ≠ 0 ∨ (dn.length < rd.length ∧ (rd_T54 rd (dn.length : Int)).f0 = kd ∧ (rd_T54 rd (dn.length : Int)).f1 = id ∧ (rd_T54 rd (dn.length : Int)).f2 = at_)) := by
            refine ⟨by omega, ?_⟩
            by_cases hre : re = 0
            · obtain ⟨b, hb⟩ := h2 hre
              refine Or.inr ⟨?_, ?_⟩
              · rw [hb]; simp only [List.length_append, List.length_singleton]; omega
              · rw [hb, rd_app]; exact ⟨rfl, rfl, rfl⟩
            · exact Or.inl hre
          rw [if_pos he, if_pos hgo, if_pos hc, apply_f k ep nx L (by omega) kd id at_ (by omega), Option.bind_some, if_pos ha]
          rw [List.length_append, List.length_singleton] at h3
          exact h3
      · rw [if_neg hgo]
        refine ⟨ep, nx, L, dn, 0, rfl, fun _ => ⟨[], by rw [List.append_nil]⟩, ?_⟩
        rw [runsL, hS, Option.bind_some]
        dsimp only
        rw [if_pos he, if_neg hgo, awake25_f k (by omega), Option.bind_some, ref_f k _ _ _ (by omega) (by omega), Option.bind_some, Option.bind_some]
        dsimp only
        rw [same_f k _ _ _ (by rw [List.length_map]; omega) (by rw [List.length_map]; omega), Option.bind_some, if_pos ⟨rfl, rfl, rfl, rfl⟩]
    · rw [if_neg he]
      refine ⟨0, 0, [], [], er, rfl, fun h => absurd h he, ?_⟩
      rw [runsL, hS, Option.bind_some]
      dsimp only
      rw [if_neg he, awake25_f k (by omega), Option.bind_some, if_pos ⟨rfl, rfl, rfl, rfl⟩]
theorem BalanceRuns : splicelaw25_BalanceRuns.Pure := by
  intro x0 x1 _ _
  refine ⟨1100, ?_⟩
  unfold splicelaw25_BalanceRuns.f
  split
  · rename_i hf
    unfold balance_Run.f
    rw [if_neg (by have := hf.1; omega)]
    obtain ⟨ra, rb, rL, rd, re, h1, _, h3⟩ := runs_g 1100 (by omega) x0.f1 (by have := hf.2.1; omega) x0.f2.f0 x0.f2.f1 x0.f2.f2 x0.f3 x1 hf.2.2 1100 x0.f0.f0 x0.f0.f1 x0.f0.f2 [] (by have := hf.1; omega) (by decide) (by decide)
    rw [h1, Option.bind_some]
    exact h3
  · exact awake25_f 1100 (by omega)

end Go.Proofs.Yteclhjhnbolkmaa.Pure
