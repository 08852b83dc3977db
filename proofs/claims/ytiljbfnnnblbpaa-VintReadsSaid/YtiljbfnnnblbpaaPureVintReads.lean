/- VintReads: what is read of any bytes, field by field, what is left, and the first error, are the document's (up to 20,000 bytes, the first 60 fields, lists of up to 300). For every input. -/
import Derived.Test.YtiljbfnnnblbpaaPRx0
import Derived.Test.YtiljbfnnnblbpaaPRx5
import Derived.Test.YtiljbfnnnblbpaaPRx6
import Derived.Test.YtiljbfnnnblbpaaPRx7
import Derived.Test.YtiljbfnnnblbpaaRQ1
import Derived.Test.YtiljbfnnnblbpaaRQ2
import Derived.OpenShut
namespace Go.Proofs.Ytiljbfnnnblbpaa.Pure
open Go.RowKit Go.Proofs.Ytiljbfnnnblbpaa.PR Go.Proofs.YtiljbfnnnblbpaaW.PrintWords Go.Proofs.YtiljbfnnnblbpaaW.PrintLast Go.Proofs.YtiljbfnnnblbpaaW.PrintMore
set_option linter.unusedVariables false
set_option linter.unusedSimpArgs false


theorem same_l0 (l : List Int) (hl : l.length ≤ 1000000000) : ∀ (d k i : Nat), i + d = l.length → d + 1 ≤ k → spliceref01_Same.l0 k l l (i : Int) = some true := by
  intro d
  induction d with
  | zero =>
    intro k i hi hk
    obtain ⟨j, rfl⟩ : ∃ j, k = j + 1 := ⟨k - 1, by omega⟩
    simp only [spliceref01_Same.l0]
    rw [if_neg (by omega)]
  | succ d ih =>
    intro k i hi hk
    obtain ⟨j, rfl⟩ : ∃ j, k = j + 1 := ⟨k - 1, by omega⟩
    simp only [spliceref01_Same.l0]
    rw [if_pos (by omega), if_pos (by omega), if_pos (by omega), if_pos trivial, w1 i (by omega)]
    exact ih j (i + 1) (by omega) (by omega)
theorem same_f (l : List Int) (hl : l.length ≤ 1000000000) (k : Nat) (hk : l.length + 1 ≤ k) : spliceref01_Same.f k l l = some true := by
  unfold spliceref01_Same.f
  rw [if_pos rfl]
  exact same_l0 l hl l.length k 0 (by omega) hk
theorem rls_len : ∀ (n : Nat) (acc : List Int) (s : Vm.St), (Vm.rls n acc s).1.length ≤ acc.length + n := by
  intro n
  induction n with
  | zero => intro acc s; simp [Vm.rls]
  | succ n ih =>
    intro acc s
    simp only [Vm.rls]
    split
    · have := ih (acc ++ [(Vm.rw s).1]) (Vm.rw s).2
      simp only [List.length_append, List.length_cons, List.length_nil] at this
      omega
    · simp
theorem rl_len (m : Int) (hm : m ≤ 300) (s : Vm.St) : (Vm.rl m s).1.length ≤ 300 := by
  unfold Vm.rl
  split
  · split
    · simp
    · have := rls_len (Vm.rn s).1 [] (Vm.rn s).2
      simp only [List.length_nil] at this
      omega
  · simp
theorem reads_end (k : Nat) (hk : 60 ≤ k) (x1 : List (S46)) (i : Int) (a b : ByteArray) (e f : Int) : splicelaw01_VintReads.j1 (k + 1) x1 i false a e b f = some true := by
  obtain ⟨k, rfl⟩ : ∃ k', k = k' + 1 := ⟨k - 1, by omega⟩
  have e1 : vint_Reader_Num_nil.f = some 0 := rfl
  have e2 : vint_Reader_Whole_nil.f = some 0 := by decide +kernel
  have e3 : vint_Reader_Flag_nil.f = some false := rfl
  have e4 : vint_Reader_Text_nil.f 9 = some (ba []) := rfl
  have e5 : vint_Reader_List_nil.f (k + 1) 9 = some [] := rfl
  have e6 : vint_Reader_Left_nil.f = some (ba []) := rfl
  have e7 : vint_Reader_Err_nil.f = some 5 := rfl
  have e8 : vint_Reader_End_nil.f = some 5 := rfl
  have et : (ba []).toList = ([] : List UInt8) := (ba_nil_iff []).2 rfl
  rw [splicelaw01_VintReads.j1, if_neg (by simp), awake_f _ (by omega), Option.bind_some, if_pos rfl, e1, Option.bind_some, if_pos rfl, e2, Option.bind_some, if_pos rfl, e3, Option.bind_some, if_neg (by simp), e4, Option.bind_some, if_pos et, e5, Option.bind_some, if_pos (by rfl), e6, Option.bind_some, if_pos et, e7, Option.bind_some, if_pos rfl, e8, Option.bind_some]
  rfl
theorem reads_j2 (k : Nat) (x1 : List (S46)) (i : Nat) (hi : i < 1000) (s : Vm.St) (c : Bool) (hc : c = true) :
    splicelaw01_VintReads.j2 (k + 1) x1 (i : Int) c (ba s.1) (s.2 : Int) (ba s.1) (s.2 : Int) = splicelaw01_VintReads.l0 k x1 ((i + 1 : Nat) : Int) (ba s.1) (s.2 : Int) (ba s.1) (s.2 : Int) := by
  rw [splicelaw01_VintReads.j2, if_pos hc, rleft_g, Option.bind_some, if_pos rfl, rerr_g, Option.bind_some, if_pos rfl, rend_g, Option.bind_some, refend_g, Option.bind_some, if_pos rfl, w1 i (by omega)]
theorem reads_l0 (x1 : List (S46)) : ∀ (d k i : Nat) (s : Vm.St), Vm.Ok s → d = 60 - i → i ≤ 60 → 3 * d + 500 ≤ k →
    splicelaw01_VintReads.l0 k x1 (i : Int) (ba s.1) (s.2 : Int) (ba s.1) (s.2 : Int) = some true := by
  intro d
  induction d with
  | zero =>
    intro k i s hs hd hi hk
    obtain ⟨k, rfl⟩ : ∃ k', k = k' + 1 + 1 := ⟨k - 2, by omega⟩
    rw [splicelaw01_VintReads.l0, decide_eq_false (by omega), reads_end k (by omega)]
    split <;> rfl
  | succ d ih =>
    intro k i s hs hd hi hk
    obtain ⟨k, rfl⟩ : ∃ k', k = k' + 1 + 1 + 1 := ⟨k - 3, by omega⟩
    rw [splicelaw01_VintReads.l0]
    by_cases hlt : (i : Int) < (x1.length : Int)
    case neg => rw [if_neg hlt, reads_end (k + 1) (by omega)]
    rw [if_pos hlt, decide_eq_true (show (i : Int) < 60 by omega), splicelaw01_VintReads.j1, if_pos rfl, if_pos (by omega), if_pos hlt]
    have hnext : ∀ s' : Vm.St, Vm.Ok s' → splicelaw01_VintReads.l0 k x1 ((i + 1 : Nat) : Int) (ba s'.1) (s'.2 : Int) (ba s'.1) (s'.2 : Int) = some true := fun s' h' => ih k (i + 1) s' h' (by omega) (by omega) (by omega)
    generalize rd_T46 x1 (i : Int) = q
    by_cases c0 : q.f0 = 0
    · rw [if_pos c0, refrn_g _ (by omega) s hs, Option.bind_some, rnum_g _ (by omega) s hs, Option.bind_some]
      rw [reads_j2 k x1 i (by omega) (Vm.rn s).2 _ (by simp)]
      exact hnext _ (Vm.rn_ok s hs).1
    rw [if_neg c0]
    by_cases c1 : q.f0 = 1
    · rw [if_pos c1, refrw_g _ (by omega) s hs, Option.bind_some, rwhole_g _ (by omega) s hs, Option.bind_some]
      rw [reads_j2 k x1 i (by omega) (Vm.rw s).2 _ (by simp)]
      exact hnext _ (Vm.rw_ok s hs).1
    rw [if_neg c1]
    by_cases c2 : q.f0 = 2
    · rw [if_pos c2, refrf_g s hs, Option.bind_some, rflag_g s hs, Option.bind_some]
      rw [reads_j2 k x1 i (by omega) (Vm.rf s).2 _ (by simp)]
      exact hnext _ (Vm.rf_ok s hs).1
    rw [if_neg c2]
    by_cases c3 : q.f0 = 3
    · rw [if_pos c3, refrt_g _ (by omega) _ s hs, Option.bind_some, rtext_g _ (by omega) _ s hs, Option.bind_some]
      rw [reads_j2 k x1 i (by omega) (Vm.rt q.f1 s).2 _ (by simp)]
      exact hnext _ (Vm.rt_ok q.f1 s hs).1
    rw [if_neg c3]
    by_cases c4 : q.f0 = 4
    · have hm : mn q.f1 300 ≤ 300 := by unfold mn; split <;> omega
      have hn : (Vm.rn s).2.2 = 0 → ((Vm.rn s).1 : Int) ≤ mn q.f1 300 → (Vm.rn s).1 ≤ 300 := fun _ h => by omega
      have hl := rl_len (mn q.f1 300) hm s
      rw [if_pos c4, refrl_g _ _ s hs (by omega) (fun h1 h2 => by have := hn h1 h2; omega), Option.bind_some, rlist_g _ _ s hs (by omega) (fun h1 h2 => by have := hn h1 h2; omega), Option.bind_some]
      rw [same_f (Vm.rl (mn q.f1 300) s).1 (by omega) _ (by omega), Option.bind_some]
      rw [reads_j2 k x1 i (by omega) (Vm.rl (mn q.f1 300) s).2 _ rfl]
      exact hnext _ (Vm.rl_ok (mn q.f1 300) s hs).1
    rw [if_neg c4, w1 i (by omega)]
    have h5 := ih (k + 1) (i + 1) s hs (by omega) (by omega) (by omega)
    exact h5
theorem VintReads : splicelaw01_VintReads.Pure := by
  intro s l hs _
  refine ⟨1000, ?_⟩
  unfold splicelaw01_VintReads.f
  by_cases h : (s.size : Int) > 20000
  · rw [if_pos h, awake_f _ (by omega)]; rfl
  · rw [if_neg h, rfrom_g]
    simp only [Option.bind_some]
    have h1 := reads_l0 l 60 1000 0 (nb s, 0) (ok_from s hs) rfl (by omega) (by omega)
    have e : ba (nb s, (0 : Nat)).1 = s := ba_nb s
    rw [e] at h1
    refine Eq.trans ?_ h1
    rw [show ba (nb s) = s from ba_nb s]
    rfl

end Go.Proofs.Ytiljbfnnnblbpaa.Pure
