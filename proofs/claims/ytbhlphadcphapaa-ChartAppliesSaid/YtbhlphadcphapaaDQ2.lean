import Derived.Test.YtbhlphadcphapaaPDx0
import Derived.Test.YtbhlphadcphapaaPDx10
import Derived.Test.YtbhlphadcphapaaPDx3
import Derived.Test.YtbhlphadcphapaaPDx5
import Derived.Test.YtbhlphadcphapaaDQ1
namespace Go.Proofs.Ytbhlphadcphapaa.PD
open Go.RowKit Go.Proofs.YtbhlphadcphapaaW.PrintWords Go.Proofs.YtbhlphadcphapaaW.PrintLast Go.Proofs.YtbhlphadcphapaaW.PrintMore
set_option linter.unusedVariables false
set_option linter.unusedSimpArgs false


/-! ### the document's Apply -/
theorem chg_old (nx kd at_ : Int) (l : List S57) (i : Nat) (h0 : (chg nx kd at_ l i).2.2 = 0) (hi : i < l.length) : ((l.drop i).take (chg nx kd at_ l i).1).length = (chg nx kd at_ l i).1 := by
  rw [List.length_take, List.length_drop]
  unfold chg at h0 ⊢
  dsimp only at h0 ⊢
  by_cases k1 : kd = 1
  · simp only [if_pos k1] at h0 ⊢
    split <;> dsimp only <;> omega
  · by_cases k2 : kd = 2
    · simp only [if_neg k1, if_pos k2] at h0 ⊢
      by_cases c : i + 1 = l.length
      · rw [if_pos c] at h0; exact absurd h0 (by decide)
      · rw [if_neg c]; dsimp only; omega
    · simp only [if_neg k1, if_neg k2] at h0 ⊢
      omega
theorem refm (k : Nat) (ep nx kd at_ : Int) (l : List S57) (i : Nat) (hi : i < l.length) :
    spliceref08_Apply.m k ep nx (l.map rf) kd at_ i (rf (rd_T57 l (i : Int))) = if (chg nx kd at_ l i).2.2 = 0 then spliceref08_Apply.t k ep nx (l.map rf) (((l.drop i).take (chg nx kd at_ l i).1).map rf) ((chg nx kd at_ l i).2.1.map rf) i else some (0, 0, [], [], [], (chg nx kd at_ l i).2.2) := by
  unfold spliceref08_Apply.m chg
  dsimp only
  by_cases k1 : kd = 1
  · simp only [if_pos k1]
    by_cases c : at_ ≤ (rd_T57 l (i : Int)).f1.f0 ∨ at_ ≥ (rd_T57 l (i : Int)).f1.f1
    · rw [if_pos c, if_pos c]; rfl
    · rw [if_neg c, if_neg c, if_pos rfl, drop_rd l i hi]; rfl
  · by_cases k2 : kd = 2
    · simp only [if_neg k1, if_pos k2]
      by_cases c : i + 1 = l.length
      · rw [if_pos (by rw [List.length_map]; exact c), if_pos c]; rfl
      · rw [if_neg (by rw [List.length_map]; exact c), if_neg c, if_pos rfl, rd_map, drop_rd l i hi, drop_rd l (i + 1) (by omega)]; rfl
    · simp only [if_neg k1, if_neg k2]
      rw [if_pos trivial, drop_rd l i hi]; rfl
theorem reft (ep nx : Int) (l : List S57) (old fresh : List S57) (i : Nat) (hl : l.length ≤ 60) (hf : fresh.length ≤ 2) (k : Nat) (hk : 800 ≤ k) :
    spliceref08_Apply.t k ep nx (l.map rf) (old.map rf) (fresh.map rf) i = if checkB (wrap64 (ep + 1)) (wrap64 (nx + (fresh.length : Int))) (l.take i ++ fresh ++ l.drop (i + old.length)) = true then some (wrap64 (ep + 1), wrap64 (nx + (fresh.length : Int)), (l.take i ++ fresh ++ l.drop (i + old.length)).map rf, old.map rf, fresh.map rf, 0) else some (0, 0, [], [], [], 2) := by
  unfold spliceref08_Apply.t
  rw [List.length_map, List.length_map, show (l.map rf).take i ++ fresh.map rf ++ (l.map rf).drop (i + old.length) = (l.take i ++ fresh ++ l.drop (i + old.length)).map rf by simp [List.map_take, List.map_drop]]
  rw [refcheck_f k _ _ _ (by simp only [List.length_append, List.length_take, List.length_drop]; omega) hk, Option.bind_some]
theorem refapply_f (k : Nat) (ep nx : Int) (l : List S57) (hl : l.length ≤ 60) (kd id at_ : Int) (hk : 1100 ≤ k) :
    spliceref08_Apply.f k ep nx (l.map rf) kd id at_ = some ((applyS ep nx l kd id at_).1, (applyS ep nx l kd id at_).2.1, (applyS ep nx l kd id at_).2.2.1.map rf, (applyS ep nx l kd id at_).2.2.2.1.map rf, (applyS ep nx l kd id at_).2.2.2.2.1.map rf, (applyS ep nx l kd id at_).2.2.2.2.2) := by
  unfold spliceref08_Apply.f applyS
  rw [if_neg (by rw [List.length_map]; omega), refcheck_f k ep nx l (by omega) (by omega), Option.bind_some]
  by_cases h1 : checkB ep nx l = true
  case neg => rw [if_pos (Or.inl (Bool.eq_false_iff.mpr h1)), if_neg h1]; rfl
  by_cases hb : kd < 1 ∨ 3 < kd ∨ (kd = 3 ∧ (at_ < 0 ∨ 4 < at_))
  · have hm : mayChange kd at_ = false := Bool.eq_false_iff.mpr (fun h => by simp [mayChange] at h; omega)
    rw [if_pos (Or.inr hb), if_pos h1, hm, if_neg (by decide)]; rfl
  · have hm : mayChange kd at_ = true := by simp [mayChange]; omega
    rw [if_neg (fun h => h.elim (fun e => by rw [h1] at e; exact absurd e (by decide)) hb), if_pos h1, hm, if_pos rfl, reffind_f k ep nx l (by omega) id (by omega), if_pos h1, Option.bind_some]
    have hr := ixOf_range (fun x : S57 => decide (x.f0 = id)) l 0
    generalize hix : ixOf (fun x => decide (x.f0 = id)) l 0 = ix at hr ⊢
    by_cases h4 : ix < 0
    · rw [if_pos h4, if_pos h4]; rfl
    rw [if_neg h4, if_neg h4]
    obtain ⟨i, rfl⟩ : ∃ i : Nat, ix = (i : Int) := ⟨ix.toNat, by omega⟩
    have hi : i < l.length := by omega
    rw [Int.toNat_natCast, if_neg (by rw [List.length_map]; omega), rd_map, refm k ep nx kd at_ l i hi]
    have ho := chg_old nx kd at_ l i
    have hc := chg_len nx kd at_ l i
    generalize chg nx kd at_ l i = c at ho hc ⊢
    by_cases h0 : c.2.2 = 0
    · rw [if_pos h0, if_pos h0, reft ep nx l _ _ i hl hc k (by omega), ho h0 hi]
      by_cases h6 : checkB (wrap64 (ep + 1)) (wrap64 (nx + (c.2.1.length : Int))) (l.take i ++ c.2.1 ++ l.drop (i + c.1)) = true
      · rw [if_pos h6, if_pos h6]
      · rw [if_neg h6, if_neg h6]; rfl
    · rw [if_neg h0, if_neg h0]; rfl
theorem applyS_len (ep nx : Int) (l : List S57) (kd id at_ : Int) : (applyS ep nx l kd id at_).2.2.1.length ≤ l.length + 2 ∧ (applyS ep nx l kd id at_).2.2.2.1.length ≤ l.length ∧ (applyS ep nx l kd id at_).2.2.2.2.1.length ≤ 2 := by
  unfold applyS
  have hc := chg_len nx kd at_ l (ixOf (fun x => decide (x.f0 = id)) l 0).toNat
  generalize chg nx kd at_ l (ixOf (fun x => decide (x.f0 = id)) l 0).toNat = c at hc ⊢
  generalize ixOf (fun x => decide (x.f0 = id)) l 0 = ix
  split
  · split
    · split
      · simp
      · split
        · split
          · simp only [List.length_append, List.length_take, List.length_drop]; omega
          · simp
        · simp
    · simp
  · simp

end Go.Proofs.Ytbhlphadcphapaa.PD
