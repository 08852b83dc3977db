/- BalanceLoads: the loads of any chart's shards and nodes, or the error, are the document's, and so is which policies may be (up to 60 shards, 60 pairs). For every input. -/
import Derived.Test.YteclhjhnbolkmaaPLx0
import Derived.Test.YteclhjhnbolkmaaPLx13
import Derived.Test.YteclhjhnbolkmaaPLx14
import Derived.Test.YteclhjhnbolkmaaPLx2
import Derived.Test.YteclhjhnbolkmaaPLx4
import Derived.Test.YteclhjhnbolkmaaLQ1
import Derived.Test.YteclhjhnbolkmaaLQ2
import Derived.OpenShut
namespace Go.Proofs.Yteclhjhnbolkmaa.Pure
open Go.RowKit Go.Proofs.Yteclhjhnbolkmaa.PL Go.Proofs.YteclhjhnbolkmaaW.PrintWords Go.Proofs.YteclhjhnbolkmaaW.PrintLast Go.Proofs.YteclhjhnbolkmaaW.PrintMore
set_option linter.unusedVariables false
set_option linter.unusedSimpArgs false


theorem nodesL_len (l : List Pr70) (L : List S67) (out : List Int) : (nodesL l L out).length = out.length := by simp [nodesL]
theorem loads_j2 (k : Nat) (hk : 200 ≤ k) (a b : Int) (L : List S67) (l : List Pr70) (p0 p1 p2 n : Int) : splicelaw25_BalanceLoads.j2 (k + 1) false a b L l p0 p1 p2 n = some true := by
  simp only [splicelaw25_BalanceLoads.j2]
  rw [if_neg (by decide), awake25_f k (by omega), Option.bind_some, if_pos rfl]
  have e : balance_Check.f p0 p1 p2 = spliceref25_Check.f p0 p1 p2 := rfl
  unfold splicelaw25_ref.f
  rw [e]
  have hs : ∃ t, spliceref25_Check.f p0 p1 p2 = some t := by unfold spliceref25_Check.f; repeat' split
                                                             all_goals exact ⟨_, rfl⟩
  obtain ⟨t, ht⟩ := hs
  simp only [ht, Option.bind_some, beq_self_eq_true]
theorem loads_j1 (k : Nat) (hk : 3000 ≤ k) (a b : Int) (L : List S67) (hL : L.length ≤ 60) (l : List Pr70) (hl : l.length ≤ 60) (p0 p1 p2 n : Int) : splicelaw25_BalanceLoads.j1 (k + 2) (l.map rp) (nodesS a b L l n).1 (nodesS a b L l n).2 false a b L l p0 p1 p2 n a b (L.map rf) = some true := by
  simp only [splicelaw25_BalanceLoads.j1]
  rw [if_neg (by decide), may_f (k + 1) a b L (by omega) l (by omega) n (by omega), Option.bind_some]
  unfold nodesS
  cases hm : mayB a b L l n with
  | false =>
    simp only [Bool.false_eq_true, if_false]
    rw [if_neg (by decide), if_pos trivial]
    exact loads_j2 k (by omega) _ _ _ _ _ _ _ _
  | true =>
    have hm2 := hm
    simp only [mayB, Bool.and_eq_true, decide_eq_true_eq] at hm2
    simp only [if_true]
    rw [if_neg (by decide), refnodes_f (k + 1) a b L (by omega) l (by omega) n hm2.2.2.2.1 hm2.2.2.2.2 (by omega), Option.bind_some, same1_f (k + 1) _ (by rw [nodesL_len, List.length_replicate]; omega) (by rw [nodesL_len, List.length_replicate]; omega), Option.bind_some, if_pos rfl]
    exact loads_j2 k (by omega) _ _ _ _ _ _ _ _
theorem BalanceLoads : splicelaw25_BalanceLoads.Pure := by
  intro x hx
  refine ⟨4000, ?_⟩
  have haw := awake25_f 4000 (by omega)
  unfold splicelaw25_BalanceLoads.f splicelaw25_few.f
  by_cases h60 : (x.f0.f2.length : Int) ≤ 60
  case neg => rw [if_neg h60, Option.bind_some, if_neg (by decide), haw]; rfl
  rw [if_pos h60, Option.bind_some]
  by_cases h61 : (x.f1.length : Int) ≤ 60
  case neg => rw [decide_eq_false h61, if_neg (by decide), haw]; rfl
  have hL : x.f0.f2.length ≤ 60 := by omega
  have hl : x.f1.length ≤ 60 := by omega
  rw [decide_eq_true h61, if_pos rfl, ref_f 4000 _ _ _ (by omega) (by omega), Option.bind_some, refsp_f 4000 _ (by omega) (by omega), Option.bind_some, shards_f 4000 _ _ _ (by omega) _ (by omega) (by omega), Option.bind_some, nodes_f 4000 _ _ _ (by omega) _ (by omega) _ (by omega), Option.bind_some, refcheck_f 4000 _ _ _ (by omega) (by omega), Option.bind_some, refloads_f 4000 _ (by omega) (by omega), Option.bind_some]
  have hj0 : ∀ g : Bool, g = (checkB x.f0.f0 x.f0.f1 x.f0.f2 && loadB x.f1) → splicelaw25_BalanceLoads.j0 4000 (x.f1.map rp) (shardsS x.f0.f0 x.f0.f1 x.f0.f2 x.f1).1 (shardsS x.f0.f0 x.f0.f1 x.f0.f2 x.f1).2 (nodesS x.f0.f0 x.f0.f1 x.f0.f2 x.f1 x.f3).1 (nodesS x.f0.f0 x.f0.f1 x.f0.f2 x.f1 x.f3).2 g x.f0.f0 x.f0.f1 x.f0.f2 x.f1 x.f2.f0 x.f2.f1 x.f2.f2 x.f3 x.f0.f0 x.f0.f1 (x.f0.f2.map rf) = some true := fun g hg => by
    subst hg
    simp only [splicelaw25_BalanceLoads.j0]
    unfold shardsS
    cases hg : (checkB x.f0.f0 x.f0.f1 x.f0.f2 && loadB x.f1) with
    | false =>
      simp only [Bool.false_eq_true, if_false]
      rw [if_neg (by decide), if_pos trivial]
      exact loads_j1 3997 (by omega) _ _ _ hL _ hl _ _ _ _
    | true =>
      simp only [if_true]
      rw [if_neg (by decide), refshards_f 3999 _ _ _ (by omega) _ (by omega) (by omega), Option.bind_some, same1_f 3999 _ (by rw [List.length_map]; omega) (by rw [List.length_map]; omega), Option.bind_some, if_pos rfl]
      exact loads_j1 3997 (by omega) _ _ _ hL _ hl _ _ _ _
  cases hc : checkB x.f0.f0 x.f0.f1 x.f0.f2 with
  | false => rw [if_neg (by decide)]; exact hj0 false (by rw [hc]; rfl)
  | true => rw [if_pos rfl]; exact hj0 _ (by rw [hc, Bool.true_and])

end Go.Proofs.Yteclhjhnbolkmaa.Pure
