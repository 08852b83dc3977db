/- BalanceRests: where nothing is suggested no shard's load is above High, but one whose load is one key's, or where there are too many shards; no two neighbours of one node can be merged; and two nodes differ by more than Slack only if no shard of the one is less than that. For every input. -/
import Derived.Test.YteclhjhnbolkmaaPRx0
import Derived.Test.YteclhjhnbolkmaaPRx10
import Derived.Test.YteclhjhnbolkmaaRQ1
import Derived.Test.YteclhjhnbolkmaaRQ2
import Derived.Test.YteclhjhnbolkmaaRQ3
import Derived.Test.YteclhjhnbolkmaaRQ4
import Derived.Test.YteclhjhnbolkmaaRQ5
import Derived.OpenShut
namespace Go.Proofs.Yteclhjhnbolkmaa.Pure
open Go.RowKit Go.Proofs.Yteclhjhnbolkmaa.PR Go.Proofs.YteclhjhnbolkmaaW.PrintWords Go.Proofs.YteclhjhnbolkmaaW.PrintLast Go.Proofs.YteclhjhnbolkmaaW.PrintMore
set_option linter.unusedVariables false
set_option linter.unusedSimpArgs false


theorem ftF_S (nd : List Int) : ∀ i, ftF nd i = ftS nd i := by
  intro i
  induction i with
  | zero => rfl
  | succ i ih => simp only [ftF, ftS, ih]
theorem wgh_count (l : List Pr70) (lo hi : Int) : ∀ n : Nat, n ≤ l.length → wgh l lo hi n = ((l.take n).countP (weighs lo hi) : Int) := by
  intro n
  induction n with
  | zero => intro _; simp [wgh]
  | succ n ih =>
    intro h
    rw [take_rdp l n (by omega), List.countP_append, List.countP_singleton]
    simp only [wgh]
    rw [ih (by omega)]
    unfold weighs
    by_cases c : lo ≤ (rd_T70 l (n : Int)).f0 ∧ (rd_T70 l (n : Int)).f0 < hi ∧ 0 < (rd_T70 l (n : Int)).f1
    · rw [if_pos c, decide_eq_true c, if_pos rfl]; omega
    · rw [if_neg c, decide_eq_false c, if_neg (by decide)]; omega
theorem rests_ok (ep nx : Int) (L : List S67) (hL : L.length ≤ 60) (l : List Pr70) (hl : l.length ≤ 60) (p0 p1 p2 n : Int) (h : (sugS ep nx L l p0 p1 p2 n).2.2.2.2 = 0) (h2 : (sugS ep nx L l p0 p1 p2 n).2.2.2.1 = false) :
    restsB l L (shardsS ep nx L l).1 (nodesS ep nx L l n).1 p0 p1 p2 n = true := by
  unfold sugS at h h2
  by_cases hm : (mayB ep nx L l n && polB p0 p1 p2) = true
  case neg => rw [if_neg hm] at h; exact absurd h (by decide)
  rw [if_pos hm] at h h2
  simp only [Bool.and_eq_true] at hm
  obtain ⟨hm, _⟩ := hm
  have hfs : ¬ (firstS l L (nod l L n) p0 p1 p2).2.2.2 = true := by
    intro c
    rw [if_pos c] at h h2
    split at h
    · rename_i g; rw [if_pos g] at h2; exact absurd h2 (by simp)
    · exact absurd h (by decide)
  have hm2 := hm
  simp only [mayB, Bool.and_eq_true, decide_eq_true_eq] at hm2
  obtain ⟨_, hc, hld, hn1, hn5⟩ := hm2
  have hb := bigp_of l hl hld
  have hcl := check_len ep nx L hc
  have e2 : (shardsS ep nx L l).1 = L.map (shS l) := by unfold shardsS; rw [if_pos (by rw [hc, hld]; rfl)]
  have e3 : (nodesS ep nx L l n).1 = nod l L n := by unfold nodesS nod; rw [if_pos hm]
  have e4 := nod_len l L n
  unfold firstS at hfs
  have hs : ¬ (splitS l L p0).2.2.2 = true := fun c => by rw [if_pos c] at hfs; exact hfs c
  rw [if_neg hs] at hfs
  have ht : ¬ (shiftS l L (nod l L n) p2).2.2.2 = true := fun c => by rw [if_pos c] at hfs; exact hfs c
  rw [if_neg ht] at hfs
  rw [e2, e3]
  have rdm : ∀ i : Nat, i < L.length → rd (L.map (shS l)) (i : Int) = shAt l L i := fun i hi => rd_sh l L i hi
  simp only [restsB, Bool.and_eq_true, decide_eq_true_eq, List.all_eq_true, List.mem_range, List.length_map]
  refine ⟨⟨trivial, by omega, hn1, by omega⟩, fun i hi => ?_, fun i hi => ?_⟩
  · unfold shOk
    rw [Bool.and_eq_true]
    refine ⟨?_, ?_⟩
    · rw [Bool.not_eq_true', Bool.and_eq_false_iff, Bool.and_eq_false_iff]
      by_cases c1 : p0 < rd (L.map (shS l)) (i : Int)
      case neg => exact Or.inl (Or.inl (decide_eq_false c1))
      by_cases c2 : 1 < wgh l (rd_T67 L (i : Int)).f1.f0 (rd_T67 L (i : Int)).f1.f1 l.length
      case neg => exact Or.inl (Or.inr (decide_eq_false c2))
      refine Or.inr (decide_eq_false ?_)
      rw [List.length_map]
      intro c3
      have hcan : (cutAt l L i).2 = true := by
        rw [wgh_count l _ _ l.length (Nat.le_refl _), List.take_length] at c2
        exact cutR_can l (fun x hx => (hb.val x hx).1) _ _ (show 2 ≤ l.countP (weighs (rd_T67 L (i : Int)).f1.f0 (rd_T67 L (i : Int)).f1.f1) by omega)
      unfold splitS at hs
      by_cases c4 : 24 ≤ L.length ∨ spB l L p0 < 0
      · have c5 : spB l L p0 < 0 := c4.resolve_left (by omega)
        have := (bestRf_none _ _ L.length 0 (-1) c5).2 i (by omega) (by omega)
        rw [rdm i hi] at c1
        rw [hcan, decide_eq_true c1] at this
        exact absurd this (by decide)
      · rw [if_neg c4] at hs; exact hs rfl
    · rw [Bool.not_eq_true', Bool.and_eq_false_iff, Bool.and_eq_false_iff]
      by_cases c1 : 0 < i
      case neg => exact Or.inl (Or.inl (decide_eq_false c1))
      obtain ⟨j, rfl⟩ : ∃ j, i = j + 1 := ⟨i - 1, by omega⟩
      rw [show ((j + 1 : Nat) : Int) - 1 = (j : Int) from by omega]
      by_cases c2 : (rd_T67 L (j : Int)).f2 = (rd_T67 L ((j + 1 : Nat) : Int)).f2
      case neg => exact Or.inl (Or.inr (decide_eq_false c2))
      refine Or.inr (decide_eq_false ?_)
      rw [rdm j (by omega), rdm (j + 1) hi]
      intro c3
      unfold mergeS at hfs
      by_cases c5 : mgB l L p1 < 0
      · have := (bestRf_none _ _ (L.length - 1) 0 (-1) c5).2 j (by omega) (by omega)
        have c6 : twoS l L j ≤ p1 := c3
        rw [decide_eq_true c2, decide_eq_true c6] at this
        exact absurd this (by decide)
      · rw [if_neg c5] at hfs; exact hfs rfl
  · have hfr := fr_ft (nod l L n) (by omega)
    have hto := to_ft (nod l L n) (by omega) (fun i hi => nod_b l hb L hL n i hi)
    rw [ftF_S, ← hfr, ← hto]
    unfold laOk
    rw [Bool.not_eq_true', Bool.and_eq_false_iff, Bool.and_eq_false_iff, Bool.and_eq_false_iff]
    have hd : wrap64 (rd (nod l L n) (frB (nod l L n)) - rd (nod l L n) (toB (nod l L n))) = dfB (nod l L n) := rfl
    rw [hd, rdm i hi, ← hfr]
    by_cases c1 : p2 < dfB (nod l L n)
    case neg => exact Or.inl (Or.inl (Or.inl (decide_eq_false c1)))
    unfold shiftS at ht
    by_cases c4 : dfB (nod l L n) ≤ p2 ∨ shB l L (nod l L n) < 0
    · have c5 : shB l L (nod l L n) < 0 := c4.resolve_left (by omega)
      have := (bestRf_none _ _ L.length 0 (-1) c5).2 i (by omega) (by omega)
      rw [Bool.and_eq_false_iff, Bool.and_eq_false_iff] at this
      rcases this with (h | h) | h
      · exact Or.inl (Or.inl (Or.inr h))
      · exact Or.inl (Or.inr h)
      · exact Or.inr h
    · rw [if_neg c4] at ht; exact absurd rfl ht
theorem BalanceRests : splicelaw25_BalanceRests.Pure := by
  intro x hx
  refine ⟨1100, ?_⟩
  unfold splicelaw25_BalanceRests.f
  by_cases hf : (x.f0.f2.length : Int) ≤ 60 ∧ (x.f1.length : Int) ≤ 60
  case neg => rw [if_neg hf]; exact awake25_f 1100 (by omega)
  rw [if_pos hf, suggest_x 1100 (by omega) x.f0.f0 x.f0.f1 x.f0.f2 (by omega) x.f1 (by omega) x.f2.f0 x.f2.f1 x.f2.f2 x.f3, Option.bind_some]
  by_cases hg : (sugS x.f0.f0 x.f0.f1 x.f0.f2 x.f1 x.f2.f0 x.f2.f1 x.f2.f2 x.f3).2.2.2.2 = 0 ∧ (sugS x.f0.f0 x.f0.f1 x.f0.f2 x.f1 x.f2.f0 x.f2.f1 x.f2.f2 x.f3).2.2.2.1 = false
  case neg => rw [if_neg hg]; exact awake25_f 1100 (by omega)
  rw [if_pos hg, shards_f 1100 _ _ _ (by omega) _ (by omega) (by omega), Option.bind_some, nodes_f 1100 _ _ _ (by omega) _ (by omega) _ (by omega), Option.bind_some, if_pos (rests_ok _ _ _ (by omega) _ (by omega) _ _ _ _ hg.1 hg.2)]
  exact awake25_f 1100 (by omega)

end Go.Proofs.Yteclhjhnbolkmaa.Pure
