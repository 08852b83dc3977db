-- written by a program of this session
import Derived.Test.YteclhjhnbolkmaaPRx0
import Derived.Test.YteclhjhnbolkmaaPRx2
import Derived.Test.YteclhjhnbolkmaaPRx4
import Derived.Test.YteclhjhnbolkmaaPRx6
namespace Go.Proofs.Yteclhjhnbolkmaa.PR
open Go.RowKit Go.Proofs.Yteclhjhnbolkmaa.Op Go.Proofs.YteclhjhnbolkmaaW.PrintWords Go.Proofs.YteclhjhnbolkmaaW.PrintLast Go.Proofs.YteclhjhnbolkmaaW.PrintMore
attribute [local go_sem] max2_int min2_int max_two min_two max_three min_three max_four min_four   -- for this text's walks alone
set_option linter.unusedVariables false
set_option linter.unusedSimpArgs false

/-! ### balance_split: function 56 (a closure: by hand) -/
def tsAt (ts : List (Int × Bool)) (j : Nat) : Int × Bool := ts.getD j (0, false)
def cutsF (k : Nat) (l : List (S70)) : List Shd → Option (List (Int × Bool))
  | [] => some []
  | x :: L => (balance_cut.f k l x.f1.f0 x.f1.f1).bind fun t => (cutsF k l L).bind fun ts => some (t :: ts)
theorem cutsF_mono (k : Nat) (l : List (S70)) : ∀ L, LeO (cutsF k l L) (cutsF (k + 1) l L)
  | [] => LeO.refl _
  | x :: L => LeO.bind (balance_cut.mono _ _ _ _) (fun _ => LeO.bind (cutsF_mono k l L) (fun _ => LeO.refl _))
theorem cutsF_get (k : Nat) (l : List (S70)) : ∀ (L : List Shd) (ts : List (Int × Bool)), cutsF k l L = some ts → ts.length = L.length ∧ ∀ i : Nat, i < L.length → balance_cut.f k l (rd_T67 L (i : Int)).f1.f0 (rd_T67 L (i : Int)).f1.f1 = some ((tsAt ts i).1, (tsAt ts i).2)
  | [], ts, h => by
    simp only [cutsF, Option.some.injEq] at h
    subst h
    exact ⟨rfl, fun i hi => absurd hi (Nat.not_lt_zero i)⟩
  | x :: L, ts, h => by
    simp only [cutsF] at h
    obtain ⟨t, ht, h2⟩ := Option.bind_eq_some_iff.1 h
    obtain ⟨ts', hts, h3⟩ := Option.bind_eq_some_iff.1 h2
    simp only [Option.some.injEq] at h3
    subst h3
    obtain ⟨h4, h5⟩ := cutsF_get k l L ts' hts
    refine ⟨by simp [h4], fun i hi => ?_⟩
    cases i with
    | zero => exact ht
    | succ i => exact h5 i (by simpa using hi)
def splM (ts : List (Int × Bool)) (sh : List Int) (high : Int) (i : Nat) (_ : Shd) : Int × Bool := (rd sh (i : Int), (tsAt ts i).2 && decide (high < rd sh (i : Int)))
def balance_split.f (k : Nat) (a0_0 a0_1 : Int) (l0_2 : List (S67)) (l1 : List (S70)) (l2 : List Int) (a3 : Int) : Option (Int × Int × Int × Bool) :=
  if (l0_2.length : Int) ≥ 24 then some (0, 0, 0, false)
  else if l0_2.length ≤ l2.length then
    (cutsF k l1 l0_2).bind fun ts =>
      if bestLS (splM ts l2 a3) l0_2 0 (-1) 0 < 0 then some (0, 0, 0, false)
      else if bestLS (splM ts l2 a3) l0_2 0 (-1) 0 < (l0_2.length : Int) then some (1, (rd_T67 l0_2 (bestLS (splM ts l2 a3) l0_2 0 (-1) 0)).f0, (tsAt ts (bestLS (splM ts l2 a3) l0_2 0 (-1) 0).toNat).1, true)
      else none
  else none
theorem balance_split.mono : ∀ a0 a1 a2 a3 a4 a5 k, LeO (balance_split.f k a0 a1 a2 a3 a4 a5) (balance_split.f (k + 1) a0 a1 a2 a3 a4 a5) := by
  intro a0 a1 a2 a3 a4 a5 k
  unfold balance_split.f
  repeat' first
      | (with_reducible exact LeO.refl _)
      | (with_reducible exact LeO.none _)
      | (with_reducible exact cutsF_mono _ _ _)
      | (with_reducible refine LeO.ite ?_ ?_)
      | (with_reducible refine LeO.bind ?_ (fun _ => ?_))
set_option maxHeartbeats 8000000 in
set_option maxRecDepth 100000 in
theorem split_pred (k : Nat) (L : List Shd) (A1 : Option Addr) (c1 : Nat) (l : List (S70)) (As : Option Addr) (cs : Nat) (sh : List Int) (high : Int) (ts : List (Int × Bool)) (w : World) (B5 B6 B7 : Nat)
    (h5 : w.cell? ⟨B5, 0, none⟩ = some (.slice A1 l.length c1)) (h6 : w.cell? ⟨B6, 0, none⟩ = some (.slice As sh.length cs)) (h7 : w.cell? ⟨B7, 0, none⟩ = some (.int .i64 high))
    (hC : Kd.C k70 w A1 l.length l) (hc1 : l.length ≤ c1) (hS : Kd.C (Kd.int .i64) w As sh.length sh) (hlen : L.length ≤ sh.length)
    (hts : ∀ i : Nat, i < L.length → balance_cut.f k l (rd_T67 L (i : Int)).f1.f0 (rd_T67 L (i : Int)).f1.f1 = some ((tsAt ts i).1, (tsAt ts i).2)) :
    BestBS 65 #[.pointer (some ⟨B5, 0, none⟩), .pointer (some ⟨B6, 0, none⟩), .pointer (some ⟨B7, 0, none⟩)] L (splM ts sh high) w := fun W i hb hi => by
  have g5 := (hb.cell (World.block_lt_of_cell? w _ h5)).trans h5
  have g6 := (hb.cell (World.block_lt_of_cell? w _ h6)).trans h6
  have g7 := (hb.cell (World.block_lt_of_cell? w _ h7)).trans h7
  have b5 : B5 < W.heap.size := Nat.lt_of_lt_of_le (World.block_lt_of_cell? w _ h5) hb.size
  have n5 : B5 ≠ W.heap.size := Nat.ne_of_lt b5
  have b6 : B6 < W.heap.size := Nat.lt_of_lt_of_le (World.block_lt_of_cell? w _ h6) hb.size
  have n6 : B6 ≠ W.heap.size := Nat.ne_of_lt b6
  have b7 : B7 < W.heap.size := Nat.lt_of_lt_of_le (World.block_lt_of_cell? w _ h7) hb.size
  have n7 : B7 ≠ W.heap.size := Nat.ne_of_lt b7
  have HC := Aside0.mk (Kd.C_below hC hb)
  have HS := Aside0.mk (Kd.C_below hS hb)
  have ht := hts i hi
  clear hts h5 h6 h7 hC hS
  obtain ⟨as_, e, hs⟩ := Kd.at_int HS.out (i : Int) (by omega) (by omega)
  subst e
  rw [Int.toNat_natCast] at hs
  have p1 : (i : Int) < (sh.length : Int) := by omega
  unfold splM
  generalize (tsAt ts i) = t at ht ⊢
  obtain ⟨at_, can⟩ := t
  dsimp only at ht ⊢
  generalize rd_T67 L (i : Int) = x at ht ⊢
  have HT := Aside0.mk ht
  have HCl := Aside0.mk hc1
  clear ht hc1
  show Calls Try.prog 65 #[.int .i64 (i : Int), .agg #[.int .i64 x.f0, .int .i64 x.f1.f0, .int .i64 x.f1.f1, .int .i64 x.f2], .pointer (some ⟨B5, 0, none⟩), .pointer (some ⟨B6, 0, none⟩), .pointer (some ⟨B7, 0, none⟩)] W _
  have hu57 := Try.underlying67
  have hu55 := Try.underlying65
  generalize rd sh (i : Int) = n at hs ⊢
  cases can with
  | false =>
    go_enter Try.func65, Try.ntmps65
    go_upto_region 2 with (with_reducible refine (balance_cut.calls k A1 c1 l x.f1.f0 x.f1.f1 _ _ _ (Kd.C_alloc HC.out _) HCl.out HT.out).mono ?_; rintro e w1 ⟨rfl, hb1⟩)
    have hb2 : Below W.heap.size W w1 := ((Below.refl _ _).alloc (Nat.le_refl _) _).trans (hb1.mono (by simp))
    replace g6 := (hb2.cell (World.block_lt_of_cell? W _ g6)).trans g6
    replace g7 := (hb2.cell (World.block_lt_of_cell? W _ g7)).trans g7
    replace hs := (hb2.cell (World.block_lt_of_cell? W _ hs)).trans hs
    have HB2 := Aside0.mk hb2
    clear hb1 hb2 g5 HC HT HS
    go_quiet (fail)
    go_wp2_with fail
    go_ret2
    exact ⟨by simp, pw_below_drewN HB2.out _⟩
  | true =>
    go_enter Try.func65, Try.ntmps65
    go_upto_region 2 with (with_reducible refine (balance_cut.calls k A1 c1 l x.f1.f0 x.f1.f1 _ _ _ (Kd.C_alloc HC.out _) HCl.out HT.out).mono ?_; rintro e w1 ⟨rfl, hb1⟩)
    have hb2 : Below W.heap.size W w1 := ((Below.refl _ _).alloc (Nat.le_refl _) _).trans (hb1.mono (by simp))
    replace g6 := (hb2.cell (World.block_lt_of_cell? W _ g6)).trans g6
    replace g7 := (hb2.cell (World.block_lt_of_cell? W _ g7)).trans g7
    replace hs := (hb2.cell (World.block_lt_of_cell? W _ hs)).trans hs
    have HB2 := Aside0.mk hb2
    clear hb1 hb2 g5 HC HT HS
    go_quiet (fail)
    go_wp2_with fail
    go_ret2
    exact ⟨by simp, pw_below_drewN HB2.out _⟩
def sp6.T : Bool × List (List Nat × List Nat) := (true, [([], []), ([], []), ([1], [1]), ([], []), ([2, 3], [2, 3]), ([4], [4]), ([5], [5]), ([0, 6], [0, 6]), ([7], [7]), ([8], [8]), ([8], [8]), ([9, 7, 0, 1, 2, 3, 4, 5, 6, 7, 8, 9], [9]), ([10, 11, 0, 1, 2, 3, 4, 5, 6, 7, 8, 9, 10, 11], [10])])
def sp6.B : List Nat := [0, 0, 2, 0, 14, 30, 62, 127, 255, 511, 511, 1023, 4095]
theorem sp6.tab : rtab .any (opsOf Try.f56 6) = sp6.T := by kernel_rfl
theorem sp6.bits : waitsOk sp6.T.2 sp6.B = true := by kernel_rfl
set_option maxHeartbeats 8000000 in
set_option maxRecDepth 100000 in
theorem balance_split.calls (k : Nat) (a0_0 : Int) (a0_1 : Int) (A0_2 : Option Addr) (c0_2 : Nat) (l0_2 : List (S67)) (A1 : Option Addr) (c1 : Nat) (l1 : List (S70)) (A2 : Option Addr) (c2 : Nat) (l2 : List Int) (a3 : Int) (r1 : Int) (r2 : Int) (r3 : Int) (r4 : Bool) (w : World) (hr0_2 : Kd.C k67 w A0_2 l0_2.length l0_2) (hc0_2 : l0_2.length ≤ c0_2) (hr1 : Kd.C k70 w A1 l1.length l1) (hc1 : l1.length ≤ c1) (hr2 : Kd.C (Kd.int .i64) w A2 l2.length l2) (hc2 : l2.length ≤ c2) (h : balance_split.f k a0_0 a0_1 l0_2 l1 l2 a3 = some (r1, r2, r3, r4)) :
    Calls Try.prog 56 #[.agg #[.int .i64 a0_0, .int .i64 a0_1, .slice A0_2 l0_2.length c0_2], .slice A1 l1.length c1, .slice A2 l2.length c2, .int .i64 a3] w fun e w' => e = .returned (.tuple #[.agg #[.int .i64 r1, .int .i64 r2, .int .i64 r3], .bool r4]) ∧ Below w.heap.size w w' := by
  have hu24 := Try.underlying24
  have hu57 := Try.underlying67
  have hu55 := Try.underlying65
  have hu54 := Try.underlying54
  have hmf : ∀ (fn : Fn) (first cap : Array Value) (w : World), (Instr.makeFunc fn first cap).run Try.prog w = .ok (.func fn first cap) w := fun _ _ _ _ => rfl
  have eg : ∀ args w, (callFunc 65 args).run Try.prog w = .ok (.enter 65 args) w := enters_of Try.func65 (by kernel_rfl) rfl
  have HR0 := Aside0.mk hr0_2
  have HC0 := Aside0.mk hc0_2
  have HR1 := Aside0.mk hr1
  have HC1 := Aside0.mk hc1
  have HR2 := Aside0.mk hr2
  have HC2 := Aside0.mk hc2
  have HH := Aside0.mk h
  clear hr0_2 hc0_2 hr1 hc1 hr2 hc2 h
  have HB : Aside0 (Bx w ((((((w.alloc (.cells #[.int .i64 a0_0, .int .i64 a0_1, .slice A0_2 l0_2.length c0_2] 24)).alloc (.cells #[.slice A1 l1.length c1] 25)).alloc (.cells #[.slice A2 l2.length c2] 38)).alloc (.cells #[.int .i64 a3] 3)).alloc (.cells #[.int .i64 0, .int .i64 0, .int .i64 0] 54))) [(w.heap.size, #[.int .i64 a0_0, .int .i64 a0_1, .slice A0_2 l0_2.length c0_2], 24), (w.heap.size + 1, #[.slice A1 l1.length c1], 25), (w.heap.size + 1 + 1, #[.slice A2 l2.length c2], 38), (w.heap.size + 1 + 1 + 1, #[.int .i64 a3], 3), (w.heap.size + 1 + 1 + 1 + 1, #[.int .i64 0, .int .i64 0, .int .i64 0], 54)]) := ⟨by
    have h := ((((((Bx.start w).push #[.int .i64 a0_0, .int .i64 a0_1, .slice A0_2 l0_2.length c0_2] 24).push #[.slice A1 l1.length c1] 25).push #[.slice A2 l2.length c2] 38).push #[.int .i64 a3] 3).push #[.int .i64 0, .int .i64 0, .int .i64 0] 54)
    simp only [alloc_size] at h
    exact h⟩
  have hcon : Aside0 (∀ (W : World) (ts : List (Int × Bool)), Bx w W [(w.heap.size, #[.int .i64 a0_0, .int .i64 a0_1, .slice A0_2 l0_2.length c0_2], 24), (w.heap.size + 1, #[.slice A1 l1.length c1], 25), (w.heap.size + 1 + 1, #[.slice A2 l2.length c2], 38), (w.heap.size + 1 + 1 + 1, #[.int .i64 a3], 3), (w.heap.size + 1 + 1 + 1 + 1, #[.int .i64 0, .int .i64 0, .int .i64 0], 54)] → l0_2.length ≤ l2.length → l0_2.length < 24 → cutsF k l1 l0_2 = some ts → Calls Try.prog 64 #[.slice A0_2 l0_2.length c0_2, .func (.func 65) #[] #[.pointer (some ⟨w.heap.size + 1, 0, none⟩), .pointer (some ⟨w.heap.size + 1 + 1, 0, none⟩), .pointer (some ⟨w.heap.size + 1 + 1 + 1, 0, none⟩)]] W fun e w' => e = .returned (.int .i64 (bestLS (splM ts l2 a3) l0_2 0 (-1) 0)) ∧ Below W.heap.size W w') := ⟨fun W ts HBW h1 h2 h3 =>
    bestS (splM ts l2 a3) 65 _ eg A0_2 c0_2 l0_2 W (split_pred k l0_2 A1 c1 l1 A2 c2 l2 a3 ts W _ _ _ (blk_cell (HBW.get 1 rfl) 0) (blk_cell (HBW.get 2 rfl) 0) (blk_cell (HBW.get 3 rfl) 0) (Kd.C_below HR1.out HBW.bel) HC1.out (Kd.C_below HR2.out HBW.bel) h1 (cutsF_get k l1 l0_2 ts h3).2) (Kd.C_below HR0.out HBW.bel) (by omega)⟩
  have H := HH.out
  clear HH
  unfold balance_split.f at H
  go_enter Try.func56, Try.ntmps56
  go_upto_region 1 with (fail)
  generalize (((((w.alloc (.cells #[.int .i64 a0_0, .int .i64 a0_1, .slice A0_2 l0_2.length c0_2] 24)).alloc (.cells #[.slice A1 l1.length c1] 25)).alloc (.cells #[.slice A2 l2.length c2] 38)).alloc (.cells #[.int .i64 a3] 3)).alloc (.cells #[.int .i64 0, .int .i64 0, .int .i64 0] 54)) = W1 at HB ⊢
  have fc0_0 : World.cell? _ ⟨w.heap.size, 0, none⟩ = some (.int .i64 a0_0) := blk_cell (HB.out.get 0 rfl) 0
  have fc0_1 : World.cell? _ ⟨w.heap.size, 1, none⟩ = some (.int .i64 a0_1) := blk_cell (HB.out.get 0 rfl) 1
  have fc0_2 : World.cell? _ ⟨w.heap.size, 2, none⟩ = some (.slice A0_2 l0_2.length c0_2) := blk_cell (HB.out.get 0 rfl) 2
  by_cases d1 : (l0_2.length : Int) ≥ 24
  · rw [if_pos d1] at H
    simp only [Option.some.injEq, Prod.mk.injEq] at H
    obtain ⟨rfl, rfl, rfl, rfl⟩ := H
    have q1 : decide ((24 : Int) ≤ (l0_2.length : Int)) = true := decide_eq_true d1
    have q2 : decide (24 ≤ l0_2.length) = true := decide_eq_true (by omega)
    clear d1
    have fc4_0 : World.cell? _ ⟨w.heap.size + 1 + 1 + 1 + 1, 0, none⟩ = some (.int .i64 0) := blk_cell (HB.out.get 4 rfl) 0
    have fz4_0 : World.frozen? _ ⟨w.heap.size + 1 + 1 + 1 + 1, 0, none⟩ = false := blk_frozen (HB.out.get 4 rfl) 0
    have fc4_1 : World.cell? _ ⟨w.heap.size + 1 + 1 + 1 + 1, 1, none⟩ = some (.int .i64 0) := blk_cell (HB.out.get 4 rfl) 1
    have fz4_1 : World.frozen? _ ⟨w.heap.size + 1 + 1 + 1 + 1, 1, none⟩ = false := blk_frozen (HB.out.get 4 rfl) 1
    have fc4_2 : World.cell? _ ⟨w.heap.size + 1 + 1 + 1 + 1, 2, none⟩ = some (.int .i64 0) := blk_cell (HB.out.get 4 rfl) 2
    have fz4_2 : World.frozen? _ ⟨w.heap.size + 1 + 1 + 1 + 1, 2, none⟩ = false := blk_frozen (HB.out.get 4 rfl) 2
    go_wp2_with fail
    clear fc4_0 fz4_0 fc4_1 fz4_1 fc4_2 fz4_2
    replace HB : Aside0 (Bx w ((((W1.setCell ⟨w.heap.size + 1 + 1 + 1 + 1, 0, none⟩ (.int .i64 0)).setCell ⟨w.heap.size + 1 + 1 + 1 + 1, 1, none⟩ (.int .i64 0)).setCell ⟨w.heap.size + 1 + 1 + 1 + 1, 2, none⟩ (.int .i64 0))) [(w.heap.size, #[.int .i64 a0_0, .int .i64 a0_1, .slice A0_2 l0_2.length c0_2], 24), (w.heap.size + 1, #[.slice A1 l1.length c1], 25), (w.heap.size + 1 + 1, #[.slice A2 l2.length c2], 38), (w.heap.size + 1 + 1 + 1, #[.int .i64 a3], 3), (w.heap.size + 1 + 1 + 1 + 1, #[.int .i64 0, .int .i64 0, .int .i64 0], 54)]) := ⟨(((HB.out.set 4 0 _ rfl).set 4 1 _ rfl).set 4 2 _ rfl)⟩
    generalize (((W1.setCell ⟨w.heap.size + 1 + 1 + 1 + 1, 0, none⟩ (.int .i64 0)).setCell ⟨w.heap.size + 1 + 1 + 1 + 1, 1, none⟩ (.int .i64 0)).setCell ⟨w.heap.size + 1 + 1 + 1 + 1, 2, none⟩ (.int .i64 0)) = W9 at HB ⊢
    refine bodyPost_ret (results_ct rfl _ _ (w.heap.size + 1 + 1 + 1 + 1) 54 #[.int .i64 0, .int .i64 0, .int .i64 0] (0, 0) _ rfl (HB.out.get 4 rfl) Try.underlying54 rfl (by kernel_rfl)) rfl ?_
    exact ⟨rfl, HB.out.bel⟩
  rw [if_neg d1] at H
  have q1 : decide ((24 : Int) ≤ (l0_2.length : Int)) = false := decide_eq_false d1
  have q2 : decide (24 ≤ l0_2.length) = false := decide_eq_false (by omega)
  by_cases d2 : l0_2.length ≤ l2.length
  case neg => rw [if_neg d2] at H; exact absurd H (by simp)
  rw [if_pos d2] at H
  obtain ⟨ts, hts, H2⟩ := Option.bind_eq_some_iff.1 H
  clear H
  have hbest := Aside0.mk (fun (W : World) (hw : Bx w W [(w.heap.size, #[.int .i64 a0_0, .int .i64 a0_1, .slice A0_2 l0_2.length c0_2], 24), (w.heap.size + 1, #[.slice A1 l1.length c1], 25), (w.heap.size + 1 + 1, #[.slice A2 l2.length c2], 38), (w.heap.size + 1 + 1 + 1, #[.int .i64 a3], 3), (w.heap.size + 1 + 1 + 1 + 1, #[.int .i64 0, .int .i64 0, .int .i64 0], 54)]) => hcon.out W ts hw d2 (by omega) hts)
  have hget := Aside0.mk (cutsF_get k l1 l0_2 ts hts).2
  clear hcon hts
  generalize bestLS (splM ts l2 a3) l0_2 0 (-1) 0 = i at hbest H2
  by_cases d3 : i < 0
  · rw [if_pos d3] at H2
    simp only [Option.some.injEq, Prod.mk.injEq] at H2
    obtain ⟨rfl, rfl, rfl, rfl⟩ := H2
    have q3 : decide (i < 0) = true := decide_eq_true d3
    clear d3
    go_upto_region 4 with (with_reducible refine (hbest.out _ HB.out).mono ?_; rintro e w2 ⟨rfl, hb⟩; replace HB := Aside0.mk (HB.out.below hb); clear hb fc0_0 fc0_1 fc0_2)
    have fc4_0 : World.cell? _ ⟨w.heap.size + 1 + 1 + 1 + 1, 0, none⟩ = some (.int .i64 0) := blk_cell (HB.out.get 4 rfl) 0
    have fz4_0 : World.frozen? _ ⟨w.heap.size + 1 + 1 + 1 + 1, 0, none⟩ = false := blk_frozen (HB.out.get 4 rfl) 0
    have fc4_1 : World.cell? _ ⟨w.heap.size + 1 + 1 + 1 + 1, 1, none⟩ = some (.int .i64 0) := blk_cell (HB.out.get 4 rfl) 1
    have fz4_1 : World.frozen? _ ⟨w.heap.size + 1 + 1 + 1 + 1, 1, none⟩ = false := blk_frozen (HB.out.get 4 rfl) 1
    have fc4_2 : World.cell? _ ⟨w.heap.size + 1 + 1 + 1 + 1, 2, none⟩ = some (.int .i64 0) := blk_cell (HB.out.get 4 rfl) 2
    have fz4_2 : World.frozen? _ ⟨w.heap.size + 1 + 1 + 1 + 1, 2, none⟩ = false := blk_frozen (HB.out.get 4 rfl) 2
    go_wp2_with fail
    clear fc4_0 fz4_0 fc4_1 fz4_1 fc4_2 fz4_2
    replace HB : Aside0 (Bx w ((((w2.setCell ⟨w.heap.size + 1 + 1 + 1 + 1, 0, none⟩ (.int .i64 0)).setCell ⟨w.heap.size + 1 + 1 + 1 + 1, 1, none⟩ (.int .i64 0)).setCell ⟨w.heap.size + 1 + 1 + 1 + 1, 2, none⟩ (.int .i64 0))) [(w.heap.size, #[.int .i64 a0_0, .int .i64 a0_1, .slice A0_2 l0_2.length c0_2], 24), (w.heap.size + 1, #[.slice A1 l1.length c1], 25), (w.heap.size + 1 + 1, #[.slice A2 l2.length c2], 38), (w.heap.size + 1 + 1 + 1, #[.int .i64 a3], 3), (w.heap.size + 1 + 1 + 1 + 1, #[.int .i64 0, .int .i64 0, .int .i64 0], 54)]) := ⟨(((HB.out.set 4 0 _ rfl).set 4 1 _ rfl).set 4 2 _ rfl)⟩
    generalize (((w2.setCell ⟨w.heap.size + 1 + 1 + 1 + 1, 0, none⟩ (.int .i64 0)).setCell ⟨w.heap.size + 1 + 1 + 1 + 1, 1, none⟩ (.int .i64 0)).setCell ⟨w.heap.size + 1 + 1 + 1 + 1, 2, none⟩ (.int .i64 0)) = W9 at HB ⊢
    refine bodyPost_ret (results_ct rfl _ _ (w.heap.size + 1 + 1 + 1 + 1) 54 #[.int .i64 0, .int .i64 0, .int .i64 0] (0, 0) _ rfl (HB.out.get 4 rfl) Try.underlying54 rfl (by kernel_rfl)) rfl ?_
    exact ⟨rfl, HB.out.bel⟩
  rw [if_neg d3] at H2
  by_cases d4 : i < (l0_2.length : Int)
  case neg => rw [if_neg d4] at H2; exact absurd H2 (by simp)
  rw [if_pos d4] at H2
  obtain ⟨j, rfl⟩ := Int.eq_ofNat_of_zero_le (by omega : 0 ≤ i)
  have hj : j < l0_2.length := by omega
  have q3 : decide ((j : Int) < 0) = false := decide_eq_false d3
  have hcut := hget.out j hj
  rw [Int.toNat_natCast] at H2
  simp only [Option.some.injEq, Prod.mk.injEq] at H2
  obtain ⟨rfl, rfl, rfl, rfl⟩ := H2
  have HCUT := Aside0.mk hcut
  clear hcut hget d3
  go_upto_region 6 with (with_reducible refine (hbest.out _ HB.out).mono ?_; rintro e w2 ⟨rfl, hb⟩; replace HB := Aside0.mk (HB.out.below hb); clear hb fc0_0 fc0_1 fc0_2)
  clear q1 q2 q3 hbest d1 d2
  obtain ⟨ad, e0, hx_0, hx_1, hx_2, hx_3⟩ := at_T67 (Kd.C_below HR0.out HB.out.bel) (j : Int) (by omega) d4
  subst e0
  simp only [Int.toNat_natCast] at hx_0 hx_1 hx_2 hx_3
  have p1 : (j : Int) < (l0_2.length : Int) := d4
  replace HB := Aside0.mk (HB.out.below (below_drew (Below.refl _ _)))
  refine start_ (n := 13) (S := fun w' => w'.cell? ⟨w.heap.size, 2, none⟩ = some (.slice (some ad) l0_2.length c0_2) ∧ w'.cell? ⟨w.heap.size + 1, 0, none⟩ = some (.slice A1 l1.length c1) ∧ w'.cell? ⟨(ad.add (j * 4)).block, (ad.add (j * 4)).off + 1, none⟩ = some (.int .i64 (rd_T67 l0_2 (j : Int)).f1.f0) ∧ w'.cell? ⟨(ad.add (j * 4)).block, (ad.add (j * 4)).off + 2, none⟩ = some (.int .i64 (rd_T67 l0_2 (j : Int)).f1.f1)) (ds := []) (bAg 13 0) (by kernel_rfl) rfl rfl ⟨blk_cell (HB.out.get 0 rfl) 2, blk_cell (HB.out.get 1 rfl) 0, ((below_drew (Below.refl w2.heap.size w2)).cell (World.block_lt_of_cell? w2 _ hx_1)).trans hx_1, ((below_drew (Below.refl w2.heap.size w2)).cell (World.block_lt_of_cell? w2 _ hx_2)).trans hx_2⟩ (fun hHeld => ?_); refine with_tabW sp6.tab sp6.bits (fun HT_ HW_ => ?_)
  refine take_ (i := 0) (N := some 26) (v := ?_) (a' := ?_) (bAg 13 1) rfl rfl (take_ofW HT_.out HW_.out (by kernel_rfl)) (fun _ _ _ h => h) (Or.inl ⟨by rfl, ?_⟩) hHeld ?_ ?_
  rotate_left
  · rintro w' ⟨s0, s1, s2, s3⟩
    go_simp
    with_reducible rfl
  rotate_left
  · simp only [Act.put, sg1, sg2, sg3, i64_w, i32_w]
    rfl
  refine pure_ (i := 1) (N := some 27) (v := ?_) (a' := ?_) (bAg 13 3) rfl rfl (any_of HT_.out (by kernel_rfl)) (fun _ _ _ h => h) (Or.inl ⟨by rfl, ?_⟩) ?_ ?_
  rotate_left
  · intro w'
    go_simp
    with_reducible rfl
  rotate_left
  · simp only [Act.put, sg1, sg2, sg3, i64_w, i32_w]
    rfl
  refine take_ (i := 2) (N := some 28) (v := ?_) (a' := ?_) (bAg 13 7) rfl rfl (take_ofW HT_.out HW_.out (by kernel_rfl)) (fun _ _ _ h => h) (Or.inl ⟨by rfl, ?_⟩) hHeld ?_ ?_
  rotate_left
  · rintro w' ⟨s0, s1, s2, s3⟩
    go_simp
    with_reducible rfl
  rotate_left
  · simp only [Act.put, sg1, sg2, sg3, i64_w, i32_w]
    rfl
  refine pure_ (i := 3) (N := some 29) (v := ?_) (a' := ?_) (bAg 13 15) rfl rfl (any_of HT_.out (by kernel_rfl)) (fun _ _ _ h => h) (Or.inl ⟨by rfl, ?_⟩) ?_ ?_
  rotate_left
  · intro w'
    go_simp
    with_reducible rfl
  rotate_left
  · simp only [Act.put, sg1, sg2, sg3, i64_w, i32_w]
    rfl
  refine pure_ (i := 4) (N := some 30) (v := ?_) (a' := ?_) (bAg 13 31) rfl rfl (any_of HT_.out (by kernel_rfl)) (fun _ _ _ h => h) (Or.inl ⟨by rfl, ?_⟩) ?_ ?_
  rotate_left
  · intro w'
    go_simp
    with_reducible rfl
  rotate_left
  · simp only [Act.put, sg1, sg2, sg3, i64_w, i32_w]
    rfl
  refine pure_ (i := 5) (N := some 31) (v := ?_) (a' := ?_) (bAg 13 63) rfl rfl (any_of HT_.out (by kernel_rfl)) (fun _ _ _ h => h) (Or.inl ⟨by rfl, ?_⟩) ?_ ?_
  rotate_left
  · intro w'
    go_simp
    with_reducible rfl
  rotate_left
  · simp only [Act.put, sg1, sg2, sg3, i64_w, i32_w]
    rfl
  refine take_ (i := 6) (N := some 32) (v := ?_) (a' := ?_) (bAg 13 127) rfl rfl (take_ofW HT_.out HW_.out (by kernel_rfl)) (fun _ _ _ h => h) (Or.inl ⟨by rfl, ?_⟩) hHeld ?_ ?_
  rotate_left
  · rintro w' ⟨s0, s1, s2, s3⟩
    go_simp
    with_reducible rfl
  rotate_left
  · simp only [Act.put, sg1, sg2, sg3, i64_w, i32_w]
    rfl
  refine one_ (i := 7) (N := some 33) (bAg 13 255) rfl rfl (one_of HT_.out (by kernel_rfl)) (by decide) (fun K hK => ?_)
  refine goes_ Try.func66 (by kernel_rfl) rfl #[.slice A1 l1.length c1, .agg #[.int .i64 (rd_T67 l0_2 (j : Int)).f1.f0, .int .i64 (rd_T67 l0_2 (j : Int)).f1.f1]] (by rfl) rfl rfl (by (try simp only [List.map_toArray, List.map_cons, List.map_nil]); first | done | rfl) ?_
  with_reducible refine (balance_cut.calls k A1 c1 l1 (rd_T67 l0_2 (j : Int)).f1.f0 (rd_T67 l0_2 (j : Int)).f1.f1 _ _ _ (Kd.C_below HR1.out HB.out.bel) HC1.out HCUT.out).mono ?_
  rintro e w6 ⟨rfl, hb⟩
  refine ⟨_, rfl, ?_⟩
  have hbz := Aside0.mk ((below_drew (Below.refl _ _)).trans hb)
  replace HB := Aside0.mk (HB.out.below hb)
  clear hb
  refine hK.out _ _ ⟨blk_cell (HB.out.get 0 rfl) 2, blk_cell (HB.out.get 1 rfl) 0, (hbz.out.cell (World.block_lt_of_cell? w2 _ hx_1)).trans hx_1, (hbz.out.cell (World.block_lt_of_cell? w2 _ hx_2)).trans hx_2⟩ (fun hHeld => ?_)
  clear hK K
  refine norm_ (a' := ?_) ?_ ?_
  rotate_left
  · show Act.put _ (some 33) _ = _
    simp only [Act.put, sg1, sg2, sg3, i64_w, i32_w]
    rfl
  refine pure_ (i := 8) (N := some 25) (v := ?_) (a' := ?_) (bAg 13 511) rfl rfl (any_of HT_.out (by kernel_rfl)) (fun _ _ _ h => h) (Or.inl ⟨by rfl, ?_⟩) ?_ ?_
  rotate_left
  · intro w'
    go_simp
    with_reducible rfl
  rotate_left
  · simp only [Act.put, sg1, sg2, sg3, i64_w, i32_w]
    rfl
  refine pure_ (i := 9) (N := some 34) (v := ?_) (a' := ?_) (bAg 13 1023) rfl rfl (any_of HT_.out (by kernel_rfl)) (fun _ _ _ h => h) (Or.inl ⟨by rfl, ?_⟩) ?_ ?_
  rotate_left
  · intro w'
    go_simp
    with_reducible rfl
  rotate_left
  · simp only [Act.put, sg1, sg2, sg3, i64_w, i32_w]
    rfl
  refine pure_ (i := 10) (N := some 35) (v := ?_) (a' := ?_) (bAg 13 2047) rfl rfl (any_of HT_.out (by kernel_rfl)) (fun _ _ _ h => h) (Or.inl ⟨by rfl, ?_⟩) ?_ ?_
  rotate_left
  · intro w'
    go_simp
    with_reducible rfl
  rotate_left
  · simp only [Act.put, sg1, sg2, sg3, i64_w, i32_w]
    rfl
  refine pure_ (i := 11) (N := some 11) (v := ?_) (a' := ?_) (bAg 13 4095) rfl rfl (any_of HT_.out (by kernel_rfl)) (fun _ _ _ h => h) (Or.inl ⟨by rfl, ?_⟩) ?_ ?_
  rotate_left
  · intro w'
    go_simp
    with_reducible rfl
  rotate_left
  · simp only [Act.put, sg1, sg2, sg3, i64_w, i32_w]
    rfl
  refine pure_ (i := 12) (N := some 12) (v := ?_) (a' := ?_) (bAg 13 8191) rfl rfl (any_of HT_.out (by kernel_rfl)) (fun _ _ _ h => h) (Or.inl ⟨by rfl, ?_⟩) ?_ ?_
  rotate_left
  · intro w'
    go_simp
    with_reducible rfl
  rotate_left
  · simp only [Act.put, sg1, sg2, sg3, i64_w, i32_w]
    rfl
  refine done_ (done_of HT_.out (by kernel_rfl)) ?_
  clear hHeld HT_ HW_
  replace hx_0 := (hbz.out.cell (World.block_lt_of_cell? w2 _ hx_0)).trans hx_0
  have fc0_0 : World.cell? _ ⟨w.heap.size, 0, none⟩ = some (.int .i64 a0_0) := blk_cell (HB.out.get 0 rfl) 0
  have fc0_1 : World.cell? _ ⟨w.heap.size, 1, none⟩ = some (.int .i64 a0_1) := blk_cell (HB.out.get 0 rfl) 1
  have fc0_2 : World.cell? _ ⟨w.heap.size, 2, none⟩ = some (.slice (some ad) l0_2.length c0_2) := blk_cell (HB.out.get 0 rfl) 2
  have fc4_0 : World.cell? _ ⟨w.heap.size + 1 + 1 + 1 + 1, 0, none⟩ = some (.int .i64 0) := blk_cell (HB.out.get 4 rfl) 0
  have fz4_0 : World.frozen? _ ⟨w.heap.size + 1 + 1 + 1 + 1, 0, none⟩ = false := blk_frozen (HB.out.get 4 rfl) 0
  have fc4_1 : World.cell? _ ⟨w.heap.size + 1 + 1 + 1 + 1, 1, none⟩ = some (.int .i64 0) := blk_cell (HB.out.get 4 rfl) 1
  have fz4_1 : World.frozen? _ ⟨w.heap.size + 1 + 1 + 1 + 1, 1, none⟩ = false := blk_frozen (HB.out.get 4 rfl) 1
  have fc4_2 : World.cell? _ ⟨w.heap.size + 1 + 1 + 1 + 1, 2, none⟩ = some (.int .i64 0) := blk_cell (HB.out.get 4 rfl) 2
  have fz4_2 : World.frozen? _ ⟨w.heap.size + 1 + 1 + 1 + 1, 2, none⟩ = false := blk_frozen (HB.out.get 4 rfl) 2
  go_wp2_with fail
  clear fc0_0 fc0_1 fc0_2 fc4_0 fz4_0 fc4_1 fz4_1 fc4_2 fz4_2
  replace HB : Aside0 (Bx w ((((w6.setCell ⟨w.heap.size + 1 + 1 + 1 + 1, 0, none⟩ (.int .i64 1)).setCell ⟨w.heap.size + 1 + 1 + 1 + 1, 1, none⟩ (.int .i64 (rd_T67 l0_2 (j : Int)).f0)).setCell ⟨w.heap.size + 1 + 1 + 1 + 1, 2, none⟩ (.int .i64 (tsAt ts j).1))) [(w.heap.size, #[.int .i64 a0_0, .int .i64 a0_1, .slice (some ad) l0_2.length c0_2], 24), (w.heap.size + 1, #[.slice A1 l1.length c1], 25), (w.heap.size + 1 + 1, #[.slice A2 l2.length c2], 38), (w.heap.size + 1 + 1 + 1, #[.int .i64 a3], 3), (w.heap.size + 1 + 1 + 1 + 1, #[.int .i64 1, .int .i64 (rd_T67 l0_2 (j : Int)).f0, .int .i64 (tsAt ts j).1], 54)]) := ⟨(((HB.out.set 4 0 _ rfl).set 4 1 _ rfl).set 4 2 _ rfl)⟩
  generalize (((w6.setCell ⟨w.heap.size + 1 + 1 + 1 + 1, 0, none⟩ (.int .i64 1)).setCell ⟨w.heap.size + 1 + 1 + 1 + 1, 1, none⟩ (.int .i64 (rd_T67 l0_2 (j : Int)).f0)).setCell ⟨w.heap.size + 1 + 1 + 1 + 1, 2, none⟩ (.int .i64 (tsAt ts j).1)) = W9 at HB ⊢
  refine bodyPost_ret (results_ct rfl _ _ (w.heap.size + 1 + 1 + 1 + 1) 54 #[.int .i64 1, .int .i64 (rd_T67 l0_2 (j : Int)).f0, .int .i64 (tsAt ts j).1] (0, 0) _ rfl (HB.out.get 4 rfl) Try.underlying54 rfl (by kernel_rfl)) rfl ?_
  exact ⟨rfl, HB.out.bel⟩

-- NOT PRINTED: function 67 (balance_best_int)

/-! ### balance_shift: function 57 (closures: by hand) -/
def topM (_ : Nat) (n : Int) : Int × Bool := (n, true)
def lowM (_ : Nat) (n : Int) : Int × Bool := (wrap64 (-n), true)
def shfM (sh : List Int) (fr d : Int) (i : Nat) (x : Shd) : Int × Bool := (rd sh (i : Int), decide (x.f2 = fr) && decide (0 < rd sh (i : Int)) && decide (rd sh (i : Int) < d))
def balance_shift.f (a0_0 a0_1 : Int) (l0_2 : List (S67)) (l1 l2 : List Int) (a3 : Int) : Option (Int × Int × Int × Bool) :=
  if l0_2.length ≤ 4611686018427387904 ∧ l2.length ≤ 4611686018427387904 ∧ l0_2.length ≤ l1.length ∧ 0 ≤ bestLI topM l2 0 (-1) 0 ∧ bestLI topM l2 0 (-1) 0 < (l2.length : Int) ∧ 0 ≤ bestLI lowM l2 0 (-1) 0 ∧ bestLI lowM l2 0 (-1) 0 < (l2.length : Int) then
    if wrap64 (rd l2 (bestLI topM l2 0 (-1) 0) - rd l2 (bestLI lowM l2 0 (-1) 0)) ≤ a3 then some (0, 0, 0, false)
    else if bestLS (shfM l1 (bestLI topM l2 0 (-1) 0) (wrap64 (rd l2 (bestLI topM l2 0 (-1) 0) - rd l2 (bestLI lowM l2 0 (-1) 0)))) l0_2 0 (-1) 0 < 0 then some (0, 0, 0, false)
    else if bestLS (shfM l1 (bestLI topM l2 0 (-1) 0) (wrap64 (rd l2 (bestLI topM l2 0 (-1) 0) - rd l2 (bestLI lowM l2 0 (-1) 0)))) l0_2 0 (-1) 0 < (l0_2.length : Int) then some (3, (rd_T67 l0_2 (bestLS (shfM l1 (bestLI topM l2 0 (-1) 0) (wrap64 (rd l2 (bestLI topM l2 0 (-1) 0) - rd l2 (bestLI lowM l2 0 (-1) 0)))) l0_2 0 (-1) 0)).f0, bestLI lowM l2 0 (-1) 0, true)
    else none
  else none
set_option maxHeartbeats 8000000 in
theorem top_pred (l : List Int) (w : World) : BestBI 68 #[] l topM w := fun W i hb hi => by
  show Calls Try.prog 68 #[.int .i64 (i : Int), .int .i64 (rd l (i : Int))] W _
  unfold topM
  generalize rd l (i : Int) = n
  go_enter Try.func68, Try.ntmps68
  go_wp2
  go_ret2
  exact ⟨rfl, Below.refl _ _⟩
set_option maxHeartbeats 8000000 in
theorem low_pred (l : List Int) (w : World) : BestBI 69 #[] l lowM w := fun W i hb hi => by
  show Calls Try.prog 69 #[.int .i64 (i : Int), .int .i64 (rd l (i : Int))] W _
  unfold lowM
  generalize rd l (i : Int) = n
  go_enter Try.func69, Try.ntmps69
  go_wp2
  go_ret2
  exact ⟨by simp [i64_w], Below.refl _ _⟩
set_option maxHeartbeats 8000000 in
set_option maxRecDepth 100000 in
theorem shift_pred (L : List Shd) (As : Option Addr) (cs : Nat) (sh : List Int) (fr d : Int) (w : World) (B5 B6 B7 : Nat)
    (h5 : w.cell? ⟨B5, 0, none⟩ = some (.slice As sh.length cs)) (h6 : w.cell? ⟨B6, 0, none⟩ = some (.int .i64 fr)) (h7 : w.cell? ⟨B7, 0, none⟩ = some (.int .i64 d))
    (hS : Kd.C (Kd.int .i64) w As sh.length sh) (hlen : L.length ≤ sh.length) :
    BestBS 70 #[.pointer (some ⟨B5, 0, none⟩), .pointer (some ⟨B6, 0, none⟩), .pointer (some ⟨B7, 0, none⟩)] L (shfM sh fr d) w := fun W i hb hi => by
  have g5 := (hb.cell (World.block_lt_of_cell? w _ h5)).trans h5
  have g6 := (hb.cell (World.block_lt_of_cell? w _ h6)).trans h6
  have g7 := (hb.cell (World.block_lt_of_cell? w _ h7)).trans h7
  have b5 : B5 < W.heap.size := Nat.lt_of_lt_of_le (World.block_lt_of_cell? w _ h5) hb.size
  have b6 : B6 < W.heap.size := Nat.lt_of_lt_of_le (World.block_lt_of_cell? w _ h6) hb.size
  have b7 : B7 < W.heap.size := Nat.lt_of_lt_of_le (World.block_lt_of_cell? w _ h7) hb.size
  obtain ⟨as_, e, hs⟩ := Kd.at_int (Kd.C_below hS hb) (i : Int) (by omega) (by omega)
  subst e
  rw [Int.toNat_natCast] at hs
  have p1 : (i : Int) < (sh.length : Int) := by omega
  clear h5 h6 h7 hS hlen
  unfold shfM
  generalize rd_T67 L (i : Int) = x
  generalize rd sh (i : Int) = n at hs ⊢
  show Calls Try.prog 70 #[.int .i64 (i : Int), .agg #[.int .i64 x.f0, .int .i64 x.f1.f0, .int .i64 x.f1.f1, .int .i64 x.f2], .pointer (some ⟨B5, 0, none⟩), .pointer (some ⟨B6, 0, none⟩), .pointer (some ⟨B7, 0, none⟩)] W _
  have hu57 := Try.underlying67
  have hu55 := Try.underlying65
  have HB : Aside0 (Bx W (W.alloc (.cells #[.int .i64 x.f0, .int .i64 x.f1.f0, .int .i64 x.f1.f1, .int .i64 x.f2] 67)) [(W.heap.size, #[.int .i64 x.f0, .int .i64 x.f1.f0, .int .i64 x.f1.f1, .int .i64 x.f2], 67)]) := ⟨(Bx.start W).push _ _⟩
  have hbl : Below W.heap.size W (W.alloc (.cells #[.int .i64 x.f0, .int .i64 x.f1.f0, .int .i64 x.f1.f1, .int .i64 x.f2] 67)) := HB.out.bel
  replace g5 := (hbl.cell (World.block_lt_of_cell? W _ g5)).trans g5
  replace g6 := (hbl.cell (World.block_lt_of_cell? W _ g6)).trans g6
  replace g7 := (hbl.cell (World.block_lt_of_cell? W _ g7)).trans g7
  replace hs := (hbl.cell (World.block_lt_of_cell? W _ hs)).trans hs
  clear hb hbl
  by_cases c1 : x.f2 = fr
  case neg =>
    have q1 : (x.f2 == fr) = false := beq_eq_false_iff_ne.mpr c1
    have q2 : decide (x.f2 = fr) = false := decide_eq_false c1
    go_enter Try.func70, Try.ntmps70
    go_upto_region 1 with (fail)
    generalize (W.alloc (.cells #[.int .i64 x.f0, .int .i64 x.f1.f0, .int .i64 x.f1.f1, .int .i64 x.f2] 67)) = W1 at HB g5 g6 g7 hs ⊢
    have f3 : W1.cell? ⟨W.heap.size, 3, none⟩ = some (.int .i64 x.f2) := blk_cell (HB.out.get 0 rfl) 3
    go_quiet (fail)
    go_wp2_with fail
    go_ret2
    exact ⟨by simp [c1], pw_below_drewN HB.out.bel _⟩
  subst c1
  by_cases c2 : 0 < n
  case neg =>
    have q1 : decide (0 < n) = false := decide_eq_false c2
    go_enter Try.func70, Try.ntmps70
    go_upto_region 1 with (fail)
    generalize (W.alloc (.cells #[.int .i64 x.f0, .int .i64 x.f1.f0, .int .i64 x.f1.f1, .int .i64 x.f2] 67)) = W1 at HB g5 g6 g7 hs ⊢
    have f3 : W1.cell? ⟨W.heap.size, 3, none⟩ = some (.int .i64 x.f2) := blk_cell (HB.out.get 0 rfl) 3
    clear c2
    go_quiet (fail)
    go_wp2_with fail
    go_ret2
    exact ⟨by simp [q1], pw_below_drewN HB.out.bel _⟩
  have q1 : decide (0 < n) = true := decide_eq_true c2
  go_enter Try.func70, Try.ntmps70
  go_upto_region 1 with (fail)
  generalize (W.alloc (.cells #[.int .i64 x.f0, .int .i64 x.f1.f0, .int .i64 x.f1.f1, .int .i64 x.f2] 67)) = W1 at HB g5 g6 g7 hs ⊢
  have f3 : W1.cell? ⟨W.heap.size, 3, none⟩ = some (.int .i64 x.f2) := blk_cell (HB.out.get 0 rfl) 3
  clear c2
  go_quiet (fail)
  go_wp2_with fail
  go_ret2
  exact ⟨by simp [q1], pw_below_drewN HB.out.bel _⟩
def sf3.T : Bool × List (List Nat × List Nat) := (true, [([], []), ([], []), ([0, 1], [0, 1]), ([2], [2]), ([], []), ([], []), ([4, 5], [4, 5]), ([6], [6]), ([3, 7], [3, 7]), ([], []), ([9, 8, 0, 1, 2, 3, 4, 5, 6, 7, 8, 9], [8, 9])])
def sf3.B : List Nat := [0, 0, 3, 7, 0, 0, 48, 112, 255, 0, 1023]
theorem sf3.tab : rtab .any (opsOf Try.f57 3) = sf3.T := by kernel_rfl
theorem sf3.bits : waitsOk sf3.T.2 sf3.B = true := by kernel_rfl
set_option maxHeartbeats 8000000 in
set_option maxRecDepth 100000 in
theorem balance_shift.calls (a0_0 : Int) (a0_1 : Int) (A0_2 : Option Addr) (c0_2 : Nat) (l0_2 : List (S67)) (A1 : Option Addr) (c1 : Nat) (l1 : List Int) (A2 : Option Addr) (c2 : Nat) (l2 : List Int) (a3 : Int) (r1 : Int) (r2 : Int) (r3 : Int) (r4 : Bool) (w : World) (hr0_2 : Kd.C k67 w A0_2 l0_2.length l0_2) (hc0_2 : l0_2.length ≤ c0_2) (hr1 : Kd.C (Kd.int .i64) w A1 l1.length l1) (hc1 : l1.length ≤ c1) (hr2 : Kd.C (Kd.int .i64) w A2 l2.length l2) (hc2 : l2.length ≤ c2) (h : balance_shift.f a0_0 a0_1 l0_2 l1 l2 a3 = some (r1, r2, r3, r4)) :
    Calls Try.prog 57 #[.agg #[.int .i64 a0_0, .int .i64 a0_1, .slice A0_2 l0_2.length c0_2], .slice A1 l1.length c1, .slice A2 l2.length c2, .int .i64 a3] w fun e w' => e = .returned (.tuple #[.agg #[.int .i64 r1, .int .i64 r2, .int .i64 r3], .bool r4]) ∧ Below w.heap.size w w' := by
  have hu24 := Try.underlying24
  have hu57 := Try.underlying67
  have hu55 := Try.underlying65
  have hu54 := Try.underlying54
  have hmf : ∀ (fn : Fn) (first cap : Array Value) (w : World), (Instr.makeFunc fn first cap).run Try.prog w = .ok (.func fn first cap) w := fun _ _ _ _ => rfl
  have eg1 : ∀ args w, (callFunc 68 args).run Try.prog w = .ok (.enter 68 args) w := enters_of Try.func68 (by kernel_rfl) rfl
  have eg2 : ∀ args w, (callFunc 69 args).run Try.prog w = .ok (.enter 69 args) w := enters_of Try.func69 (by kernel_rfl) rfl
  have eg3 : ∀ args w, (callFunc 70 args).run Try.prog w = .ok (.enter 70 args) w := enters_of Try.func70 (by kernel_rfl) rfl
  unfold balance_shift.f at h
  generalize hfr : bestLI topM l2 0 (-1) 0 = fr at h
  generalize hto : bestLI lowM l2 0 (-1) 0 = to_ at h
  by_cases c0 : l0_2.length ≤ 4611686018427387904 ∧ l2.length ≤ 4611686018427387904 ∧ l0_2.length ≤ l1.length ∧ 0 ≤ fr ∧ fr < (l2.length : Int) ∧ 0 ≤ to_ ∧ to_ < (l2.length : Int)
  case neg => rw [if_neg c0] at h; exact absurd h (by simp)
  rw [if_pos c0] at h
  obtain ⟨k0, k1, k2, k3, k4, k5, k6⟩ := c0
  generalize hd : wrap64 (rd l2 fr - rd l2 to_) = d at h
  have HR0 := Aside0.mk hr0_2
  have HC0 := Aside0.mk hc0_2
  have HR1 := Aside0.mk hr1
  have HR2 := Aside0.mk hr2
  have HH := Aside0.mk h
  have HD := Aside0.mk hd
  have htop : Aside0 (∀ W : World, Below w.heap.size w W → Calls Try.prog 67 #[.slice A2 l2.length c2, .func (.func 68) #[] #[]] W fun e w' => e = .returned (.int .i64 fr) ∧ Below W.heap.size W w') := ⟨fun W hb => by have := bestI topM 68 #[] eg1 A2 c2 l2 W (top_pred l2 W) (Kd.C_below HR2.out hb) k1; rw [hfr] at this; exact this⟩
  have hlow : Aside0 (∀ W : World, Below w.heap.size w W → Calls Try.prog 67 #[.slice A2 l2.length c2, .func (.func 69) #[] #[]] W fun e w' => e = .returned (.int .i64 to_) ∧ Below W.heap.size W w') := ⟨fun W hb => by have := bestI lowM 69 #[] eg2 A2 c2 l2 W (low_pred l2 W) (Kd.C_below HR2.out hb) k1; rw [hto] at this; exact this⟩
  clear hr0_2 hc0_2 hr1 hc1 hr2 hc2 h hfr hto hd eg1 eg2
  obtain ⟨f, rfl⟩ := Int.eq_ofNat_of_zero_le k3
  obtain ⟨t, rfl⟩ := Int.eq_ofNat_of_zero_le k5
  have HB : Aside0 (Bx w ((((w.alloc (.cells #[.int .i64 a0_0, .int .i64 a0_1, .slice A0_2 l0_2.length c0_2] 24)).alloc (.cells #[.slice A1 l1.length c1] 38)).alloc (.cells #[.int .i64 0, .int .i64 0, .int .i64 0] 54))) [(w.heap.size, #[.int .i64 a0_0, .int .i64 a0_1, .slice A0_2 l0_2.length c0_2], 24), (w.heap.size + 1, #[.slice A1 l1.length c1], 38), (w.heap.size + 1 + 1, #[.int .i64 0, .int .i64 0, .int .i64 0], 54)]) := ⟨by
    have h := ((((Bx.start w).push #[.int .i64 a0_0, .int .i64 a0_1, .slice A0_2 l0_2.length c0_2] 24).push #[.slice A1 l1.length c1] 38).push #[.int .i64 0, .int .i64 0, .int .i64 0] 54)
    simp only [alloc_size] at h
    exact h⟩
  go_enter Try.func57, Try.ntmps57
  go_upto_region 1 with (fail)
  generalize (((w.alloc (.cells #[.int .i64 a0_0, .int .i64 a0_1, .slice A0_2 l0_2.length c0_2] 24)).alloc (.cells #[.slice A1 l1.length c1] 38)).alloc (.cells #[.int .i64 0, .int .i64 0, .int .i64 0] 54)) = W1 at HB ⊢
  go_upto_region 2 with (with_reducible refine (htop.out _ HB.out.bel).mono ?_; rintro e w2 ⟨rfl, hb⟩; replace HB := Aside0.mk (HB.out.below hb); clear hb)
  replace HB : Aside0 (Bx w (w2.alloc (.cells #[.int .i64 (f : Int)] 3)) [(w.heap.size, #[.int .i64 a0_0, .int .i64 a0_1, .slice A0_2 l0_2.length c0_2], 24), (w.heap.size + 1, #[.slice A1 l1.length c1], 38), (w.heap.size + 1 + 1, #[.int .i64 0, .int .i64 0, .int .i64 0], 54), (w2.heap.size, #[.int .i64 (f : Int)], 3)]) := ⟨HB.out.push _ _⟩
  generalize w2.alloc (.cells #[.int .i64 (f : Int)] 3) = W3 at HB ⊢
  generalize w2.heap.size = gf at HB ⊢
  go_upto_region 3 with (with_reducible refine (hlow.out _ HB.out.bel).mono ?_; rintro e w4 ⟨rfl, hb⟩; replace HB := Aside0.mk (HB.out.below hb); clear hb)
  clear htop hlow
  replace HB := Aside0.mk (HB.out.below (below_drew (Below.refl _ _)))
  obtain ⟨an, e1, hf⟩ := Kd.at_int (Kd.C_below HR2.out HB.out.bel) (f : Int) (by omega) k4
  obtain ⟨an', e2, ht⟩ := Kd.at_int (Kd.C_below HR2.out HB.out.bel) (t : Int) (by omega) k6
  subst e1
  cases e2
  rw [Int.toNat_natCast] at hf ht
  refine start_ (n := 11) (S := fun w' => w'.cell? ⟨gf, 0, none⟩ = some (.int .i64 (f : Int)) ∧ w'.cell? (an.add f) = some (.int .i64 (rd l2 (f : Int))) ∧ w'.cell? (an.add t) = some (.int .i64 (rd l2 (t : Int)))) (ds := [10]) (bAg 11 0) (by kernel_rfl) rfl rfl ⟨blk_cell (HB.out.get 3 rfl) 0, hf, ht⟩ (fun hHeld => ?_); refine with_tabW sf3.tab sf3.bits (fun HT_ HW_ => ?_)
  generalize w4.drew = wd at HB hf ht hHeld ⊢
  refine pure_ (i := 0) (N := some 18) (v := ?_) (a' := ?_) (bAg 11 1) rfl rfl (any_of HT_.out (by kernel_rfl)) (fun _ _ _ h => h) (Or.inl ⟨by rfl, ?_⟩) ?_ ?_
  rotate_left
  · intro w'
    go_simp
    with_reducible rfl
  rotate_left
  · simp only [Act.put, sg1, sg2, sg3, i64_w, i32_w, HD.out]
    rfl
  refine take_ (i := 1) (N := some 19) (v := ?_) (a' := ?_) (bAg 11 3) rfl rfl (take_ofW HT_.out HW_.out (by kernel_rfl)) (fun _ _ _ h => h) (Or.inl ⟨by rfl, ?_⟩) hHeld ?_ ?_
  rotate_left
  · rintro w' ⟨s0, s1, s2⟩
    go_simp
    with_reducible rfl
  rotate_left
  · simp only [Act.put, sg1, sg2, sg3, i64_w, i32_w, HD.out]
    rfl
  refine pure_ (i := 2) (N := some 20) (v := ?_) (a' := ?_) (bAg 11 7) rfl rfl (any_of HT_.out (by kernel_rfl)) (fun _ _ _ h => h) (Or.inl ⟨by rfl, ?_⟩) ?_ ?_
  rotate_left
  · intro w'
    go_simp
    with_reducible rfl
  rotate_left
  · simp only [Act.put, sg1, sg2, sg3, i64_w, i32_w, HD.out]
    rfl
  refine take_ (i := 3) (N := some 21) (v := ?_) (a' := ?_) (bAg 11 15) rfl rfl (take_ofW HT_.out HW_.out (by kernel_rfl)) (fun _ _ _ h => h) (Or.inl ⟨by rfl, ?_⟩) hHeld ?_ ?_
  rotate_left
  · rintro w' ⟨s0, s1, s2⟩
    go_simp
    with_reducible rfl
  rotate_left
  · simp only [Act.put, sg1, sg2, sg3, i64_w, i32_w, HD.out]
    rfl
  refine pure_ (i := 4) (N := some 22) (v := ?_) (a' := ?_) (bAg 11 31) rfl rfl (any_of HT_.out (by kernel_rfl)) (fun _ _ _ h => h) (Or.inl ⟨by rfl, ?_⟩) ?_ ?_
  rotate_left
  · intro w'
    go_simp
    with_reducible rfl
  rotate_left
  · simp only [Act.put, sg1, sg2, sg3, i64_w, i32_w, HD.out]
    rfl
  refine pure_ (i := 5) (N := some 23) (v := ?_) (a' := ?_) (bAg 11 63) rfl rfl (any_of HT_.out (by kernel_rfl)) (fun _ _ _ h => h) (Or.inl ⟨by rfl, ?_⟩) ?_ ?_
  rotate_left
  · intro w'
    go_simp
    with_reducible rfl
  rotate_left
  · simp only [Act.put, sg1, sg2, sg3, i64_w, i32_w, HD.out]
    rfl
  refine pure_ (i := 6) (N := some 24) (v := ?_) (a' := ?_) (bAg 11 127) rfl rfl (any_of HT_.out (by kernel_rfl)) (fun _ _ _ h => h) (Or.inl ⟨by rfl, ?_⟩) ?_ ?_
  rotate_left
  · intro w'
    go_simp
    with_reducible rfl
  rotate_left
  · simp only [Act.put, sg1, sg2, sg3, i64_w, i32_w, HD.out]
    rfl
  refine take_ (i := 7) (N := some 25) (v := ?_) (a' := ?_) (bAg 11 255) rfl rfl (take_ofW HT_.out HW_.out (by kernel_rfl)) (fun _ _ _ h => h) (Or.inl ⟨by rfl, ?_⟩) hHeld ?_ ?_
  rotate_left
  · rintro w' ⟨s0, s1, s2⟩
    go_simp
    with_reducible rfl
  rotate_left
  · simp only [Act.put, sg1, sg2, sg3, i64_w, i32_w, HD.out]
    rfl
  refine pure_ (i := 8) (N := some 26) (v := ?_) (a' := ?_) (bAg 11 511) rfl rfl (any_of HT_.out (by kernel_rfl)) (fun _ _ _ h => h) (Or.inl ⟨by rfl, ?_⟩) ?_ ?_
  rotate_left
  · intro w'
    go_simp
    with_reducible rfl
  rotate_left
  · simp only [Act.put, sg1, sg2, sg3, i64_w, i32_w, HD.out]
    rfl
  refine one_ (i := 9) (N := some 12) (bAg 11 1023) rfl rfl (one_of HT_.out (by kernel_rfl)) (by decide) (fun K hK => ?_)
  refine box_step ?hg (N := 12) ?hd (cs := #[.int .i64 0]) (t := 3) ?hr ?_; (case hd => rfl); (case hg => rfl); (case hr => first | (go_simp; done) | (go_simp; rfl))
  intro gd hg w7 hbox hb
  have HB5 : Aside0 (Bx w w7 [(w.heap.size, #[.int .i64 a0_0, .int .i64 a0_1, .slice A0_2 l0_2.length c0_2], 24), (w.heap.size + 1, #[.slice A1 l1.length c1], 38), (w.heap.size + 1 + 1, #[.int .i64 0, .int .i64 0, .int .i64 0], 54), (gf, #[.int .i64 (f : Int)], 3), (gd, #[.int .i64 0], 3)]) := ⟨HB.out.pushed hg hbox hb⟩
  refine hK.out _ _ ⟨blk_cell (HB5.out.get 3 rfl) 0, (hb.cell (World.block_lt_of_cell? wd _ hHeld.2.1)).trans hHeld.2.1, (hb.cell (World.block_lt_of_cell? wd _ hHeld.2.2)).trans hHeld.2.2⟩ (fun hHeld => ?_)
  clear hK K
  replace HB := HB5
  clear HB5 hbox hb hg
  refine norm_ (a' := ?_) ?_ ?_
  rotate_left
  · show Act.put _ (some 12) _ = _
    simp only [Act.put, sg1, sg2, sg3, i64_w, i32_w]
    rfl
  refine last_ (i := 10) (N := none) (bAg 11 2047) rfl rfl (one_of HT_.out (by kernel_rfl)) (by decide) (fun K hK => ?_)
  have g0 : World.cell? _ ⟨gd, 0, none⟩ = some (.int .i64 0) := blk_cell (HB.out.get 4 rfl) 0
  have z0 : World.frozen? _ ⟨gd, 0, none⟩ = false := blk_frozen (HB.out.get 4 rfl) 0
  refine skip_ (w1 := ?_) (by rfl) rfl ?_ ?_
  rotate_left
  · go_simp
    rfl
  refine hK.out _ _ ?_
  clear hK K g0 z0
  refine done_ (done_of HT_.out (by kernel_rfl)) ?_
  clear hHeld HT_ HW_
  replace HB : Aside0 (Bx w ((w7.setCell ⟨gd, 0, none⟩ (.int .i64 d))) [(w.heap.size, #[.int .i64 a0_0, .int .i64 a0_1, .slice A0_2 l0_2.length c0_2], 24), (w.heap.size + 1, #[.slice A1 l1.length c1], 38), (w.heap.size + 1 + 1, #[.int .i64 0, .int .i64 0, .int .i64 0], 54), (gf, #[.int .i64 (f : Int)], 3), (gd, #[.int .i64 d], 3)]) := ⟨(HB.out.set 4 0 _ rfl)⟩
  generalize (w7.setCell ⟨gd, 0, none⟩ (.int .i64 d)) = W8 at HB ⊢
  clear hf ht k3 k4 k5 k6
  have H := HH.out
  clear HH HD
  have fc4_0 : World.cell? _ ⟨gd, 0, none⟩ = some (.int .i64 d) := blk_cell (HB.out.get 4 rfl) 0
  by_cases d1 : d ≤ a3
  · rw [if_pos d1] at H
    simp only [Option.some.injEq, Prod.mk.injEq] at H
    obtain ⟨rfl, rfl, rfl, rfl⟩ := H
    have q1 : decide (d ≤ a3) = true := decide_eq_true d1
    clear d1
    have fc2_0 : World.cell? _ ⟨w.heap.size + 1 + 1, 0, none⟩ = some (.int .i64 0) := blk_cell (HB.out.get 2 rfl) 0
    have fz2_0 : World.frozen? _ ⟨w.heap.size + 1 + 1, 0, none⟩ = false := blk_frozen (HB.out.get 2 rfl) 0
    have fc2_1 : World.cell? _ ⟨w.heap.size + 1 + 1, 1, none⟩ = some (.int .i64 0) := blk_cell (HB.out.get 2 rfl) 1
    have fz2_1 : World.frozen? _ ⟨w.heap.size + 1 + 1, 1, none⟩ = false := blk_frozen (HB.out.get 2 rfl) 1
    have fc2_2 : World.cell? _ ⟨w.heap.size + 1 + 1, 2, none⟩ = some (.int .i64 0) := blk_cell (HB.out.get 2 rfl) 2
    have fz2_2 : World.frozen? _ ⟨w.heap.size + 1 + 1, 2, none⟩ = false := blk_frozen (HB.out.get 2 rfl) 2
    go_wp2_with fail
    clear fc4_0 fc2_0 fz2_0 fc2_1 fz2_1 fc2_2 fz2_2
    replace HB : Aside0 (Bx w ((((W8.setCell ⟨w.heap.size + 1 + 1, 0, none⟩ (.int .i64 0)).setCell ⟨w.heap.size + 1 + 1, 1, none⟩ (.int .i64 0)).setCell ⟨w.heap.size + 1 + 1, 2, none⟩ (.int .i64 0))) [(w.heap.size, #[.int .i64 a0_0, .int .i64 a0_1, .slice A0_2 l0_2.length c0_2], 24), (w.heap.size + 1, #[.slice A1 l1.length c1], 38), (w.heap.size + 1 + 1, #[.int .i64 0, .int .i64 0, .int .i64 0], 54), (gf, #[.int .i64 (f : Int)], 3), (gd, #[.int .i64 d], 3)]) := ⟨(((HB.out.set 2 0 _ rfl).set 2 1 _ rfl).set 2 2 _ rfl)⟩
    generalize (((W8.setCell ⟨w.heap.size + 1 + 1, 0, none⟩ (.int .i64 0)).setCell ⟨w.heap.size + 1 + 1, 1, none⟩ (.int .i64 0)).setCell ⟨w.heap.size + 1 + 1, 2, none⟩ (.int .i64 0)) = W9 at HB ⊢
    refine bodyPost_ret (results_ct rfl _ _ (w.heap.size + 1 + 1) 54 #[.int .i64 0, .int .i64 0, .int .i64 0] (0, 0) _ rfl (HB.out.get 2 rfl) Try.underlying54 rfl (by kernel_rfl)) rfl ?_
    exact ⟨rfl, HB.out.bel⟩
  rw [if_neg d1] at H
  have q1 : decide (d ≤ a3) = false := decide_eq_false d1
  go_upto_region 6 with (fail)
  clear q1 d1 fc4_0
  have hbest := bestS (shfM l1 (f : Int) d) 70 _ eg3 A0_2 c0_2 l0_2 W8 (shift_pred l0_2 A1 c1 l1 (f : Int) d W8 _ _ _ (blk_cell (HB.out.get 1 rfl) 0) (blk_cell (HB.out.get 3 rfl) 0) (blk_cell (HB.out.get 4 rfl) 0) (Kd.C_below HR1.out HB.out.bel) k2) (Kd.C_below HR0.out HB.out.bel) k0
  generalize bestLS (shfM l1 (f : Int) d) l0_2 0 (-1) 0 = i at hbest H
  have HBEST := Aside0.mk hbest
  clear hbest eg3
  have fc0_0 : World.cell? _ ⟨w.heap.size, 0, none⟩ = some (.int .i64 a0_0) := blk_cell (HB.out.get 0 rfl) 0
  have fc0_1 : World.cell? _ ⟨w.heap.size, 1, none⟩ = some (.int .i64 a0_1) := blk_cell (HB.out.get 0 rfl) 1
  have fc0_2 : World.cell? _ ⟨w.heap.size, 2, none⟩ = some (.slice A0_2 l0_2.length c0_2) := blk_cell (HB.out.get 0 rfl) 2
  by_cases d3 : i < 0
  · rw [if_pos d3] at H
    simp only [Option.some.injEq, Prod.mk.injEq] at H
    obtain ⟨rfl, rfl, rfl, rfl⟩ := H
    have q3 : decide (i < 0) = true := decide_eq_true d3
    clear d3
    go_upto_region 7 with (with_reducible refine HBEST.out.mono ?_; rintro e w9 ⟨rfl, hb⟩; replace HB := Aside0.mk (HB.out.below hb); clear hb fc0_0 fc0_1 fc0_2)
    have fc2_0 : World.cell? _ ⟨w.heap.size + 1 + 1, 0, none⟩ = some (.int .i64 0) := blk_cell (HB.out.get 2 rfl) 0
    have fz2_0 : World.frozen? _ ⟨w.heap.size + 1 + 1, 0, none⟩ = false := blk_frozen (HB.out.get 2 rfl) 0
    have fc2_1 : World.cell? _ ⟨w.heap.size + 1 + 1, 1, none⟩ = some (.int .i64 0) := blk_cell (HB.out.get 2 rfl) 1
    have fz2_1 : World.frozen? _ ⟨w.heap.size + 1 + 1, 1, none⟩ = false := blk_frozen (HB.out.get 2 rfl) 1
    have fc2_2 : World.cell? _ ⟨w.heap.size + 1 + 1, 2, none⟩ = some (.int .i64 0) := blk_cell (HB.out.get 2 rfl) 2
    have fz2_2 : World.frozen? _ ⟨w.heap.size + 1 + 1, 2, none⟩ = false := blk_frozen (HB.out.get 2 rfl) 2
    go_wp2_with fail
    clear fc2_0 fz2_0 fc2_1 fz2_1 fc2_2 fz2_2
    replace HB : Aside0 (Bx w ((((w9.setCell ⟨w.heap.size + 1 + 1, 0, none⟩ (.int .i64 0)).setCell ⟨w.heap.size + 1 + 1, 1, none⟩ (.int .i64 0)).setCell ⟨w.heap.size + 1 + 1, 2, none⟩ (.int .i64 0))) [(w.heap.size, #[.int .i64 a0_0, .int .i64 a0_1, .slice A0_2 l0_2.length c0_2], 24), (w.heap.size + 1, #[.slice A1 l1.length c1], 38), (w.heap.size + 1 + 1, #[.int .i64 0, .int .i64 0, .int .i64 0], 54), (gf, #[.int .i64 (f : Int)], 3), (gd, #[.int .i64 d], 3)]) := ⟨(((HB.out.set 2 0 _ rfl).set 2 1 _ rfl).set 2 2 _ rfl)⟩
    generalize (((w9.setCell ⟨w.heap.size + 1 + 1, 0, none⟩ (.int .i64 0)).setCell ⟨w.heap.size + 1 + 1, 1, none⟩ (.int .i64 0)).setCell ⟨w.heap.size + 1 + 1, 2, none⟩ (.int .i64 0)) = W9 at HB ⊢
    refine bodyPost_ret (results_ct rfl _ _ (w.heap.size + 1 + 1) 54 #[.int .i64 0, .int .i64 0, .int .i64 0] (0, 0) _ rfl (HB.out.get 2 rfl) Try.underlying54 rfl (by kernel_rfl)) rfl ?_
    exact ⟨rfl, HB.out.bel⟩
  rw [if_neg d3] at H
  by_cases d4 : i < (l0_2.length : Int)
  case neg => rw [if_neg d4] at H; exact absurd H (by simp)
  rw [if_pos d4] at H
  simp only [Option.some.injEq, Prod.mk.injEq] at H
  obtain ⟨rfl, rfl, rfl, rfl⟩ := H
  obtain ⟨j, rfl⟩ := Int.eq_ofNat_of_zero_le (by omega : 0 ≤ i)
  have q3 : decide ((j : Int) < 0) = false := decide_eq_false d3
  clear d3
  go_upto_region 9 with (with_reducible refine HBEST.out.mono ?_; rintro e w9 ⟨rfl, hb⟩; replace HB := Aside0.mk (HB.out.below hb); clear hb fc0_0 fc0_1 fc0_2)
  clear q3
  obtain ⟨ad, e0, hx_0, hx_1, hx_2, hx_3⟩ := at_T67 (Kd.C_below HR0.out HB.out.bel) (j : Int) (by omega) d4
  subst e0
  simp only [Int.toNat_natCast] at hx_0 hx_1 hx_2 hx_3
  have p1 : (j : Int) < (l0_2.length : Int) := d4
  have fc0_0 : World.cell? _ ⟨w.heap.size, 0, none⟩ = some (.int .i64 a0_0) := blk_cell (HB.out.get 0 rfl) 0
  have fc0_1 : World.cell? _ ⟨w.heap.size, 1, none⟩ = some (.int .i64 a0_1) := blk_cell (HB.out.get 0 rfl) 1
  have fc0_2 : World.cell? _ ⟨w.heap.size, 2, none⟩ = some (.slice (some ad) l0_2.length c0_2) := blk_cell (HB.out.get 0 rfl) 2
  have fc2_0 : World.cell? _ ⟨w.heap.size + 1 + 1, 0, none⟩ = some (.int .i64 0) := blk_cell (HB.out.get 2 rfl) 0
  have fz2_0 : World.frozen? _ ⟨w.heap.size + 1 + 1, 0, none⟩ = false := blk_frozen (HB.out.get 2 rfl) 0
  have fc2_1 : World.cell? _ ⟨w.heap.size + 1 + 1, 1, none⟩ = some (.int .i64 0) := blk_cell (HB.out.get 2 rfl) 1
  have fz2_1 : World.frozen? _ ⟨w.heap.size + 1 + 1, 1, none⟩ = false := blk_frozen (HB.out.get 2 rfl) 1
  have fc2_2 : World.cell? _ ⟨w.heap.size + 1 + 1, 2, none⟩ = some (.int .i64 0) := blk_cell (HB.out.get 2 rfl) 2
  have fz2_2 : World.frozen? _ ⟨w.heap.size + 1 + 1, 2, none⟩ = false := blk_frozen (HB.out.get 2 rfl) 2
  go_wp2_with fail
  clear fc0_0 fc0_1 fc0_2 fc2_0 fz2_0 fc2_1 fz2_1 fc2_2 fz2_2
  replace HB : Aside0 (Bx w ((((w9.setCell ⟨w.heap.size + 1 + 1, 0, none⟩ (.int .i64 3)).setCell ⟨w.heap.size + 1 + 1, 1, none⟩ (.int .i64 (rd_T67 l0_2 (j : Int)).f0)).setCell ⟨w.heap.size + 1 + 1, 2, none⟩ (.int .i64 (t : Int)))) [(w.heap.size, #[.int .i64 a0_0, .int .i64 a0_1, .slice (some ad) l0_2.length c0_2], 24), (w.heap.size + 1, #[.slice A1 l1.length c1], 38), (w.heap.size + 1 + 1, #[.int .i64 3, .int .i64 (rd_T67 l0_2 (j : Int)).f0, .int .i64 (t : Int)], 54), (gf, #[.int .i64 (f : Int)], 3), (gd, #[.int .i64 d], 3)]) := ⟨(((HB.out.set 2 0 _ rfl).set 2 1 _ rfl).set 2 2 _ rfl)⟩
  generalize (((w9.setCell ⟨w.heap.size + 1 + 1, 0, none⟩ (.int .i64 3)).setCell ⟨w.heap.size + 1 + 1, 1, none⟩ (.int .i64 (rd_T67 l0_2 (j : Int)).f0)).setCell ⟨w.heap.size + 1 + 1, 2, none⟩ (.int .i64 (t : Int))) = W10 at HB ⊢
  refine bodyPost_ret (results_ct rfl _ _ (w.heap.size + 1 + 1) 54 #[.int .i64 3, .int .i64 (rd_T67 l0_2 (j : Int)).f0, .int .i64 (t : Int)] (0, 0) _ rfl (HB.out.get 2 rfl) Try.underlying54 rfl (by kernel_rfl)) rfl ?_
  exact ⟨rfl, HB.out.bel⟩

end Go.Proofs.Yteclhjhnbolkmaa.PR
