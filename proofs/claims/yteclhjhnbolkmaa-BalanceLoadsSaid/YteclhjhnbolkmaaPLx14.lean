-- written by a program of this session
import Derived.Test.YteclhjhnbolkmaaPLx0
import Derived.Test.YteclhjhnbolkmaaPLx2
import Derived.Test.YteclhjhnbolkmaaPLx3
import Derived.Test.YteclhjhnbolkmaaPLx4
import Derived.Test.YteclhjhnbolkmaaPLx9
import Derived.Test.YteclhjhnbolkmaaPLx10
import Derived.Test.YteclhjhnbolkmaaPLx11
import Derived.Test.YteclhjhnbolkmaaPLx12
import Derived.Test.YteclhjhnbolkmaaPLx13
namespace Go.Proofs.Yteclhjhnbolkmaa.PL
open Go.RowKit Go.Proofs.Yteclhjhnbolkmaa.Op Go.Proofs.YteclhjhnbolkmaaW.PrintWords Go.Proofs.YteclhjhnbolkmaaW.PrintLast Go.Proofs.YteclhjhnbolkmaaW.PrintMore
attribute [local go_sem] max2_int min2_int max_two min_two max_three min_three max_four min_four   -- for this text's walks alone
set_option linter.unusedVariables false
set_option linter.unusedSimpArgs false

/-! ### splicelaw25_BalanceLoads: function 3 -/
mutual
def splicelaw25_BalanceLoads.j0 : Nat → List (S79) → List Int → Int → List Int → Int → Bool → Int → Int → List (S67) → List (S70) → Int → Int → Int → Int → Int → Int → List (S86) → Option (Bool)
  | 0, _, _, _, _, _, _, _, _, _, _, _, _, _, _, _, _, _ => none
  | k + 1, x4, x5, x6, x7, x8, x9, x289000, x289001, x289002, x289003, x289004, x289005, x289006, x289007, x300000, x300001, x300002 => if ((x6 == 0) != x9) = true then (splicelaw25_BalanceLoads.j1 k x4 x7 x8 true x289000 x289001 x289002 x289003 x289004 x289005 x289006 x289007 x300000 x300001 x300002) else (if x9 = true then ((spliceref25_Shards.f k x300000 x300001 x300002 x4).bind fun t310 => ((spliceref01_Same.f k x5 t310).bind fun t313 => (if t313 = true then (splicelaw25_BalanceLoads.j1 k x4 x7 x8 false x289000 x289001 x289002 x289003 x289004 x289005 x289006 x289007 x300000 x300001 x300002) else (splicelaw25_BalanceLoads.j1 k x4 x7 x8 true x289000 x289001 x289002 x289003 x289004 x289005 x289006 x289007 x300000 x300001 x300002)))) else (if x6 = 1 then (splicelaw25_BalanceLoads.j1 k x4 x7 x8 ((x5.length : Int) != 0) x289000 x289001 x289002 x289003 x289004 x289005 x289006 x289007 x300000 x300001 x300002) else (splicelaw25_BalanceLoads.j1 k x4 x7 x8 true x289000 x289001 x289002 x289003 x289004 x289005 x289006 x289007 x300000 x300001 x300002)))
def splicelaw25_BalanceLoads.j1 : Nat → List (S79) → List Int → Int → Bool → Int → Int → List (S67) → List (S70) → Int → Int → Int → Int → Int → Int → List (S86) → Option (Bool)
  | 0, _, _, _, _, _, _, _, _, _, _, _, _, _, _, _ => none
  | k + 1, x4, x7, x8, x72, x289000, x289001, x289002, x289003, x289004, x289005, x289006, x289007, x300000, x300001, x300002 => if x72 = true then (some false) else ((spliceref25_May.f k x300000 x300001 x300002 x4 x289007).bind fun t314 => (if ((x8 == 0) != t314) = true then (splicelaw25_BalanceLoads.j2 k true x289000 x289001 x289002 x289003 x289004 x289005 x289006 x289007) else (if t314 = true then ((spliceref25_Nodes.f k x300000 x300001 x300002 x4 x289007).bind fun t315 => ((spliceref01_Same.f k x7 t315).bind fun t318 => (if t318 = true then (splicelaw25_BalanceLoads.j2 k false x289000 x289001 x289002 x289003 x289004 x289005 x289006 x289007) else (splicelaw25_BalanceLoads.j2 k true x289000 x289001 x289002 x289003 x289004 x289005 x289006 x289007)))) else (if x8 = 1 then (splicelaw25_BalanceLoads.j2 k ((x7.length : Int) != 0) x289000 x289001 x289002 x289003 x289004 x289005 x289006 x289007) else (splicelaw25_BalanceLoads.j2 k true x289000 x289001 x289002 x289003 x289004 x289005 x289006 x289007)))))
def splicelaw25_BalanceLoads.j2 : Nat → Bool → Int → Int → List (S67) → List (S70) → Int → Int → Int → Int → Option (Bool)
  | 0, _, _, _, _, _, _, _, _, _ => none
  | k + 1, x107, x289000, x289001, x289002, x289003, x289004, x289005, x289006, x289007 => if x107 = true then (some false) else ((splicelaw25_awake.f k).bind fun t319 => (if t319 = true then ((balance_Check.f x289004 x289005 x289006).bind fun t320 => ((splicelaw25_ref.f x289004 x289005 x289006).bind fun bt321 => ((spliceref25_Check.f bt321.1 bt321.2.1 bt321.2.2).bind fun t324 => (some (t320 == t324))))) else (some false)))
end
def splicelaw25_BalanceLoads.f (k : Nat) (a0_0 : Int) (a0_1 : Int) (l0_2 : List (S67)) (l0_3 : List (S70)) (a0_4 : Int) (a0_5 : Int) (a0_6 : Int) (a0_7 : Int) : Option (Bool) := (splicelaw25_few.f a0_0 a0_1 l0_2 l0_3 a0_4 a0_5 a0_6 a0_7).bind fun t289 => (if t289 = true then ((splicelaw08_Ref.f k a0_0 a0_1 l0_2).bind fun bt291 => ((splicelaw05_Refs.f k l0_3).bind fun t296 => ((balance_Shards.f k a0_0 a0_1 l0_2 l0_3).bind fun bt300 => ((balance_Nodes.f k a0_0 a0_1 l0_2 l0_3 a0_7).bind fun bt304 => ((spliceref08_Check.f k bt291.1 bt291.2.1 bt291.2.2).bind fun t308 => (if t308 = true then ((spliceref25_Loads.f k t296).bind fun t309 => (splicelaw25_BalanceLoads.j0 k t296 bt300.1 bt300.2 bt304.1 bt304.2 t309 a0_0 a0_1 l0_2 l0_3 a0_4 a0_5 a0_6 a0_7 bt291.1 bt291.2.1 bt291.2.2)) else (splicelaw25_BalanceLoads.j0 k t296 bt300.1 bt300.2 bt304.1 bt304.2 false a0_0 a0_1 l0_2 l0_3 a0_4 a0_5 a0_6 a0_7 bt291.1 bt291.2.1 bt291.2.2))))))) else ((splicelaw25_awake.f k).bind fun t290 => (some t290)))
theorem splicelaw25_BalanceLoads.mono_l : ∀ k, (∀ y0 y1 y2 y3 y4 y5 y6 y7 y8 y9 y10 y11 y12 y13 y14 y15 y16, LeO (splicelaw25_BalanceLoads.j0 k y0 y1 y2 y3 y4 y5 y6 y7 y8 y9 y10 y11 y12 y13 y14 y15 y16) (splicelaw25_BalanceLoads.j0 (k + 1) y0 y1 y2 y3 y4 y5 y6 y7 y8 y9 y10 y11 y12 y13 y14 y15 y16)) ∧ (∀ y0 y1 y2 y3 y4 y5 y6 y7 y8 y9 y10 y11 y12 y13 y14, LeO (splicelaw25_BalanceLoads.j1 k y0 y1 y2 y3 y4 y5 y6 y7 y8 y9 y10 y11 y12 y13 y14) (splicelaw25_BalanceLoads.j1 (k + 1) y0 y1 y2 y3 y4 y5 y6 y7 y8 y9 y10 y11 y12 y13 y14)) ∧ (∀ y0 y1 y2 y3 y4 y5 y6 y7 y8, LeO (splicelaw25_BalanceLoads.j2 k y0 y1 y2 y3 y4 y5 y6 y7 y8) (splicelaw25_BalanceLoads.j2 (k + 1) y0 y1 y2 y3 y4 y5 y6 y7 y8))
  | 0 => ⟨fun _ _ _ _ _ _ _ _ _ _ _ _ _ _ _ _ _ r h => by simp [splicelaw25_BalanceLoads.j0] at h, fun _ _ _ _ _ _ _ _ _ _ _ _ _ _ _ r h => by simp [splicelaw25_BalanceLoads.j1] at h, fun _ _ _ _ _ _ _ _ _ r h => by simp [splicelaw25_BalanceLoads.j2] at h⟩
  | k + 1 => by
    obtain ⟨ih0, ih1, ih2⟩ := splicelaw25_BalanceLoads.mono_l k
    refine ⟨?_, ?_, ?_⟩
    · intro y0 y1 y2 y3 y4 y5 y6 y7 y8 y9 y10 y11 y12 y13 y14 y15 y16
      unfold splicelaw25_BalanceLoads.j0
      repeat' first
      | (with_reducible exact ih0 _ _ _ _ _ _ _ _ _ _ _ _ _ _ _ _ _)
      | (with_reducible exact ih1 _ _ _ _ _ _ _ _ _ _ _ _ _ _ _)
      | (with_reducible exact ih2 _ _ _ _ _ _ _ _ _)
      | (with_reducible exact balance_Nodes.mono _ _ _ _ _ _)
      | (with_reducible exact balance_Shards.mono _ _ _ _ _)
      | (with_reducible exact splicelaw05_Refs.mono _ _)
      | (with_reducible exact splicelaw08_Ref.mono _ _ _ _)
      | (with_reducible exact splicelaw25_awake.mono _)
      | (with_reducible exact spliceref01_Same.mono _ _ _)
      | (with_reducible exact spliceref08_Check.mono _ _ _ _)
      | (with_reducible exact spliceref25_Loads.mono _ _)
      | (with_reducible exact spliceref25_May.mono _ _ _ _ _ _)
      | (with_reducible exact spliceref25_Nodes.mono _ _ _ _ _ _)
      | (with_reducible exact spliceref25_Shards.mono _ _ _ _ _)
      | (with_reducible exact LeO.refl _)
      | (with_reducible exact LeO.none _)
      | (with_reducible refine LeO.ite ?_ ?_)
      | (with_reducible refine LeO.bind ?_ (fun _ => ?_))
      | exact ih0 _ _ _ _ _ _ _ _ _ _ _ _ _ _ _ _ _
      | exact ih1 _ _ _ _ _ _ _ _ _ _ _ _ _ _ _
      | exact ih2 _ _ _ _ _ _ _ _ _
      | exact balance_Nodes.mono _ _ _ _ _ _
      | exact balance_Shards.mono _ _ _ _ _
      | exact splicelaw05_Refs.mono _ _
      | exact splicelaw08_Ref.mono _ _ _ _
      | exact splicelaw25_awake.mono _
      | exact spliceref01_Same.mono _ _ _
      | exact spliceref08_Check.mono _ _ _ _
      | exact spliceref25_Loads.mono _ _
      | exact spliceref25_May.mono _ _ _ _ _ _
      | exact spliceref25_Nodes.mono _ _ _ _ _ _
      | exact spliceref25_Shards.mono _ _ _ _ _
      | exact LeO.none _
      | refine LeO.ite ?_ ?_
      | refine LeO.bind ?_ (fun _ => ?_)
    · intro y0 y1 y2 y3 y4 y5 y6 y7 y8 y9 y10 y11 y12 y13 y14
      unfold splicelaw25_BalanceLoads.j1
      repeat' first
      | (with_reducible exact ih0 _ _ _ _ _ _ _ _ _ _ _ _ _ _ _ _ _)
      | (with_reducible exact ih1 _ _ _ _ _ _ _ _ _ _ _ _ _ _ _)
      | (with_reducible exact ih2 _ _ _ _ _ _ _ _ _)
      | (with_reducible exact balance_Nodes.mono _ _ _ _ _ _)
      | (with_reducible exact balance_Shards.mono _ _ _ _ _)
      | (with_reducible exact splicelaw05_Refs.mono _ _)
      | (with_reducible exact splicelaw08_Ref.mono _ _ _ _)
      | (with_reducible exact splicelaw25_awake.mono _)
      | (with_reducible exact spliceref01_Same.mono _ _ _)
      | (with_reducible exact spliceref08_Check.mono _ _ _ _)
      | (with_reducible exact spliceref25_Loads.mono _ _)
      | (with_reducible exact spliceref25_May.mono _ _ _ _ _ _)
      | (with_reducible exact spliceref25_Nodes.mono _ _ _ _ _ _)
      | (with_reducible exact spliceref25_Shards.mono _ _ _ _ _)
      | (with_reducible exact LeO.refl _)
      | (with_reducible exact LeO.none _)
      | (with_reducible refine LeO.ite ?_ ?_)
      | (with_reducible refine LeO.bind ?_ (fun _ => ?_))
      | exact ih0 _ _ _ _ _ _ _ _ _ _ _ _ _ _ _ _ _
      | exact ih1 _ _ _ _ _ _ _ _ _ _ _ _ _ _ _
      | exact ih2 _ _ _ _ _ _ _ _ _
      | exact balance_Nodes.mono _ _ _ _ _ _
      | exact balance_Shards.mono _ _ _ _ _
      | exact splicelaw05_Refs.mono _ _
      | exact splicelaw08_Ref.mono _ _ _ _
      | exact splicelaw25_awake.mono _
      | exact spliceref01_Same.mono _ _ _
      | exact spliceref08_Check.mono _ _ _ _
      | exact spliceref25_Loads.mono _ _
      | exact spliceref25_May.mono _ _ _ _ _ _
      | exact spliceref25_Nodes.mono _ _ _ _ _ _
      | exact spliceref25_Shards.mono _ _ _ _ _
      | exact LeO.none _
      | refine LeO.ite ?_ ?_
      | refine LeO.bind ?_ (fun _ => ?_)
    · intro y0 y1 y2 y3 y4 y5 y6 y7 y8
      unfold splicelaw25_BalanceLoads.j2
      repeat' first
      | (with_reducible exact ih0 _ _ _ _ _ _ _ _ _ _ _ _ _ _ _ _ _)
      | (with_reducible exact ih1 _ _ _ _ _ _ _ _ _ _ _ _ _ _ _)
      | (with_reducible exact ih2 _ _ _ _ _ _ _ _ _)
      | (with_reducible exact balance_Nodes.mono _ _ _ _ _ _)
      | (with_reducible exact balance_Shards.mono _ _ _ _ _)
      | (with_reducible exact splicelaw05_Refs.mono _ _)
      | (with_reducible exact splicelaw08_Ref.mono _ _ _ _)
      | (with_reducible exact splicelaw25_awake.mono _)
      | (with_reducible exact spliceref01_Same.mono _ _ _)
      | (with_reducible exact spliceref08_Check.mono _ _ _ _)
      | (with_reducible exact spliceref25_Loads.mono _ _)
      | (with_reducible exact spliceref25_May.mono _ _ _ _ _ _)
      | (with_reducible exact spliceref25_Nodes.mono _ _ _ _ _ _)
      | (with_reducible exact spliceref25_Shards.mono _ _ _ _ _)
      | (with_reducible exact LeO.refl _)
      | (with_reducible exact LeO.none _)
      | (with_reducible refine LeO.ite ?_ ?_)
      | (with_reducible refine LeO.bind ?_ (fun _ => ?_))
      | exact ih0 _ _ _ _ _ _ _ _ _ _ _ _ _ _ _ _ _
      | exact ih1 _ _ _ _ _ _ _ _ _ _ _ _ _ _ _
      | exact ih2 _ _ _ _ _ _ _ _ _
      | exact balance_Nodes.mono _ _ _ _ _ _
      | exact balance_Shards.mono _ _ _ _ _
      | exact splicelaw05_Refs.mono _ _
      | exact splicelaw08_Ref.mono _ _ _ _
      | exact splicelaw25_awake.mono _
      | exact spliceref01_Same.mono _ _ _
      | exact spliceref08_Check.mono _ _ _ _
      | exact spliceref25_Loads.mono _ _
      | exact spliceref25_May.mono _ _ _ _ _ _
      | exact spliceref25_Nodes.mono _ _ _ _ _ _
      | exact spliceref25_Shards.mono _ _ _ _ _
      | exact LeO.none _
      | refine LeO.ite ?_ ?_
      | refine LeO.bind ?_ (fun _ => ?_)
theorem splicelaw25_BalanceLoads.mono : ∀ a0 a1 a2 a3 a4 a5 a6 a7 k, LeO (splicelaw25_BalanceLoads.f k a0 a1 a2 a3 a4 a5 a6 a7) (splicelaw25_BalanceLoads.f (k + 1) a0 a1 a2 a3 a4 a5 a6 a7) := by
  intro a0 a1 a2 a3 a4 a5 a6 a7 k
  obtain ⟨ih0, ih1, ih2⟩ := splicelaw25_BalanceLoads.mono_l k
  unfold splicelaw25_BalanceLoads.f
  repeat' first
      | (with_reducible exact ih0 _ _ _ _ _ _ _ _ _ _ _ _ _ _ _ _ _)
      | (with_reducible exact ih1 _ _ _ _ _ _ _ _ _ _ _ _ _ _ _)
      | (with_reducible exact ih2 _ _ _ _ _ _ _ _ _)
      | (with_reducible exact balance_Nodes.mono _ _ _ _ _ _)
      | (with_reducible exact balance_Shards.mono _ _ _ _ _)
      | (with_reducible exact splicelaw05_Refs.mono _ _)
      | (with_reducible exact splicelaw08_Ref.mono _ _ _ _)
      | (with_reducible exact splicelaw25_awake.mono _)
      | (with_reducible exact spliceref01_Same.mono _ _ _)
      | (with_reducible exact spliceref08_Check.mono _ _ _ _)
      | (with_reducible exact spliceref25_Loads.mono _ _)
      | (with_reducible exact spliceref25_May.mono _ _ _ _ _ _)
      | (with_reducible exact spliceref25_Nodes.mono _ _ _ _ _ _)
      | (with_reducible exact spliceref25_Shards.mono _ _ _ _ _)
      | (with_reducible exact LeO.refl _)
      | (with_reducible exact LeO.none _)
      | (with_reducible refine LeO.ite ?_ ?_)
      | (with_reducible refine LeO.bind ?_ (fun _ => ?_))
      | exact ih0 _ _ _ _ _ _ _ _ _ _ _ _ _ _ _ _ _
      | exact ih1 _ _ _ _ _ _ _ _ _ _ _ _ _ _ _
      | exact ih2 _ _ _ _ _ _ _ _ _
      | exact balance_Nodes.mono _ _ _ _ _ _
      | exact balance_Shards.mono _ _ _ _ _
      | exact splicelaw05_Refs.mono _ _
      | exact splicelaw08_Ref.mono _ _ _ _
      | exact splicelaw25_awake.mono _
      | exact spliceref01_Same.mono _ _ _
      | exact spliceref08_Check.mono _ _ _ _
      | exact spliceref25_Loads.mono _ _
      | exact spliceref25_May.mono _ _ _ _ _ _
      | exact spliceref25_Nodes.mono _ _ _ _ _ _
      | exact spliceref25_Shards.mono _ _ _ _ _
      | exact LeO.none _
      | refine LeO.ite ?_ ?_
      | refine LeO.bind ?_ (fun _ => ?_)
def splicelaw25_BalanceLoads.T3 : Bool × List (List Nat × List Nat) := (true, [([], []), ([0], [0]), ([1], [1]), ([], []), ([3], [3]), ([4, 2], [4]), ([], []), ([6, 2, 5, 0, 1, 2, 6], [2, 6]), ([5, 7, 0, 1, 2, 3, 4, 5, 6, 7], [5])])
def splicelaw25_BalanceLoads.B3 : List Nat := [0, 1, 3, 0, 8, 31, 0, 127, 255]
theorem splicelaw25_BalanceLoads.tab3 : rtab .any (opsOf Try.f3 3) = splicelaw25_BalanceLoads.T3 := by kernel_rfl
theorem splicelaw25_BalanceLoads.bits3 : waitsOk splicelaw25_BalanceLoads.T3.2 splicelaw25_BalanceLoads.B3 = true := by kernel_rfl
def splicelaw25_BalanceLoads.T12 : Bool × List (List Nat × List Nat) := (true, [([], []), ([0, 0], [0]), ([1], [1]), ([2, 1], [1, 2]), ([3, 1, 1], [1, 3]), ([1], [1]), ([5, 1], [1, 5]), ([6, 4, 1], [1, 6]), ([7, 7, 1], [1, 7]), ([4, 8, 1], [1, 4, 8]), ([1, 9], [1, 9]), ([10, 8, 0, 1, 2, 3, 4, 5, 6, 7, 8, 9, 10], [10])])
def splicelaw25_BalanceLoads.B12 : List Nat := [0, 1, 3, 7, 15, 3, 35, 127, 255, 511, 1023, 2047]
theorem splicelaw25_BalanceLoads.tab12 : rtab .any (opsOf Try.f3 12) = splicelaw25_BalanceLoads.T12 := by kernel_rfl
theorem splicelaw25_BalanceLoads.bits12 : waitsOk splicelaw25_BalanceLoads.T12.2 splicelaw25_BalanceLoads.B12 = true := by kernel_rfl
set_option maxHeartbeats 8000000 in
set_option maxRecDepth 100000 in
theorem splicelaw25_BalanceLoads.calls (k : Nat) (a0_0 : Int) (a0_1 : Int) (A0_2 : Option Addr) (c0_2 : Nat) (l0_2 : List (S67)) (A0_3 : Option Addr) (c0_3 : Nat) (l0_3 : List (S70)) (a0_4 : Int) (a0_5 : Int) (a0_6 : Int) (a0_7 : Int) (r : Bool) (w : World) (hr0_2 : Kd.C k67 w A0_2 l0_2.length l0_2) (hc0_2 : l0_2.length ≤ c0_2) (hr0_3 : Kd.C k70 w A0_3 l0_3.length l0_3) (hc0_3 : l0_3.length ≤ c0_3) (h : splicelaw25_BalanceLoads.f k a0_0 a0_1 l0_2 l0_3 a0_4 a0_5 a0_6 a0_7 = some r) (hr_ : r = true) :
    Calls Try.prog 3 #[.agg #[.int .i64 a0_0, .int .i64 a0_1, .slice A0_2 l0_2.length c0_2, .slice A0_3 l0_3.length c0_3, .int .i64 a0_4, .int .i64 a0_5, .int .i64 a0_6, .int .i64 a0_7]] w fun e w' => e = .returned (.bool r) ∧ Below w.heap.size w w' := by
 have hu29 := Try.underlying29
 have hu24 := Try.underlying24
 have hu34 := Try.underlying34
 have hu27 := Try.underlying27
 have HR0_2 := Aside0.mk hr0_2
 have HC0_2 := Aside0.mk hc0_2
 clear hr0_2 hc0_2
 have HR0_3 := Aside0.mk hr0_3
 have HC0_3 := Aside0.mk hc0_3
 clear hr0_3 hc0_3
 have HB := Aside0.mk (Below.refl w.heap.size w)
 have H : ((splicelaw25_few.f a0_0 a0_1 l0_2 l0_3 a0_4 a0_5 a0_6 a0_7).bind fun t289 => (if t289 = true then ((splicelaw08_Ref.f k a0_0 a0_1 l0_2).bind fun bt291 => ((splicelaw05_Refs.f k l0_3).bind fun t296 => ((balance_Shards.f k a0_0 a0_1 l0_2 l0_3).bind fun bt300 => ((balance_Nodes.f k a0_0 a0_1 l0_2 l0_3 a0_7).bind fun bt304 => ((spliceref08_Check.f k bt291.1 bt291.2.1 bt291.2.2).bind fun t308 => (if t308 = true then ((spliceref25_Loads.f k t296).bind fun t309 => (splicelaw25_BalanceLoads.j0 k t296 bt300.1 bt300.2 bt304.1 bt304.2 t309 a0_0 a0_1 l0_2 l0_3 a0_4 a0_5 a0_6 a0_7 bt291.1 bt291.2.1 bt291.2.2)) else (splicelaw25_BalanceLoads.j0 k t296 bt300.1 bt300.2 bt304.1 bt304.2 false a0_0 a0_1 l0_2 l0_3 a0_4 a0_5 a0_6 a0_7 bt291.1 bt291.2.1 bt291.2.2))))))) else ((splicelaw25_awake.f k).bind fun t290 => (some t290)))) = some r := h
 clear h
 replace H := Option.bind_eq_some_iff.mp H
 obtain ⟨t289, A20, H⟩ := H
 replace H : (if t289 = true then ((splicelaw08_Ref.f k a0_0 a0_1 l0_2).bind fun bt291 => ((splicelaw05_Refs.f k l0_3).bind fun t296 => ((balance_Shards.f k a0_0 a0_1 l0_2 l0_3).bind fun bt300 => ((balance_Nodes.f k a0_0 a0_1 l0_2 l0_3 a0_7).bind fun bt304 => ((spliceref08_Check.f k bt291.1 bt291.2.1 bt291.2.2).bind fun t308 => (if t308 = true then ((spliceref25_Loads.f k t296).bind fun t309 => (splicelaw25_BalanceLoads.j0 k t296 bt300.1 bt300.2 bt304.1 bt304.2 t309 a0_0 a0_1 l0_2 l0_3 a0_4 a0_5 a0_6 a0_7 bt291.1 bt291.2.1 bt291.2.2)) else (splicelaw25_BalanceLoads.j0 k t296 bt300.1 bt300.2 bt304.1 bt304.2 false a0_0 a0_1 l0_2 l0_3 a0_4 a0_5 a0_6 a0_7 bt291.1 bt291.2.1 bt291.2.2))))))) else ((splicelaw25_awake.f k).bind fun t290 => (some t290))) = some r := H
 have A2 := Aside0.mk A20
 clear A20
 by_cases c3 : t289 = true
 rotate_left
 · replace c3 := Bool.eq_false_iff.mpr c3
   subst c3
   have H1 : ((splicelaw25_awake.f k).bind fun t290 => (some t290)) = some r := by rw [if_neg (show ¬ (false = true) by decide)] at H; exact H
   clear H
   have H := H1
   clear H1
   replace H := Option.bind_eq_some_iff.mp H
   obtain ⟨t290, A940, H⟩ := H
   replace H : (some t290) = some r := H
   have A94 := Aside0.mk A940
   clear A940
   obtain rfl := Option.some.inj H
   go_enter Try.func3, Try.ntmps3
   go_wp2_with (first | ((with_reducible refine gate_dst (N := 1) rfl ?_); (try (refine gate_guard (by rfl) ?_; dsimp only)); refine box_event ?hg (N := 1) ?hd (cs := #[.int .i64 a0_0, .int .i64 a0_1, .slice A0_2 l0_2.length c0_2, .slice A0_3 l0_3.length c0_3, .int .i64 a0_4, .int .i64 a0_5, .int .i64 a0_6, .int .i64 a0_7]) (t := 29) ?hr ?_; (case hd => rfl); (case hg => rfl); (case hr => first | (go_simp; done) | (go_simp; rfl)); intro gb288 hg w95 hbox hb; have n0_ := Aside0.mk (below_step (by repeat (first | (with_reducible first | exact HB.out | apply below_alloc | apply pw_below_drewN | apply below_drew1) | exact HB.out)) hb); have n1_ := Aside0.mk (hbox); have n2_ := Aside0.mk ((by rw [hg]; exact (below_size (by repeat (first | (with_reducible first | exact HB.out | apply below_alloc | apply pw_below_drewN | apply below_drew1) | exact HB.out))) : w.heap.size ≤ gb288)); have n3_ := Aside0.mk ((by rw [hg]; exact (below_size (by repeat (first | (with_reducible first | exact HB.out | apply below_alloc | apply pw_below_drewN | apply below_drew1) | exact HB.out))) : w.heap.size ≤ gb288)); clear HB; have HB := n0_; have BK288 := n1_; have GW288 := n2_; have GE288 := n3_; clear n0_ n1_ n2_ n3_; clear hb hbox hg; have hcz96_0 : w95.cell? ⟨gb288, 0, none⟩ = some (.int .i64 a0_0) := (blk_cell BK288.out 0).trans rfl; have hcz96_1 : w95.cell? ⟨gb288, 1, none⟩ = some (.int .i64 a0_1) := (blk_cell BK288.out 1).trans rfl; have hcz96_2 : w95.cell? ⟨gb288, 2, none⟩ = some (.slice A0_2 l0_2.length c0_2) := (blk_cell BK288.out 2).trans rfl; have hcz96_3 : w95.cell? ⟨gb288, 3, none⟩ = some (.slice A0_3 l0_3.length c0_3) := (blk_cell BK288.out 3).trans rfl; have hcz96_4 : w95.cell? ⟨gb288, 4, none⟩ = some (.int .i64 a0_4) := (blk_cell BK288.out 4).trans rfl; have hcz96_5 : w95.cell? ⟨gb288, 5, none⟩ = some (.int .i64 a0_5) := (blk_cell BK288.out 5).trans rfl; have hcz96_6 : w95.cell? ⟨gb288, 6, none⟩ = some (.int .i64 a0_6) := (blk_cell BK288.out 6).trans rfl; have hcz96_7 : w95.cell? ⟨gb288, 7, none⟩ = some (.int .i64 a0_7) := (blk_cell BK288.out 7).trans rfl; have hfz96_0 := blk_frozen BK288.out 0; have hfz96_1 := blk_frozen BK288.out 1; have hfz96_2 := blk_frozen BK288.out 2; have hfz96_3 := blk_frozen BK288.out 3; have hfz96_4 := blk_frozen BK288.out 4; have hfz96_5 := blk_frozen BK288.out 5; have hfz96_6 := blk_frozen BK288.out 6; have hfz96_7 := blk_frozen BK288.out 7) | ((with_reducible refine gate_callee (f := 8) rfl ?_); refine goesL_ (some 12) rfl rfl Try.func8 (by kernel_rfl) rfl #[.agg #[.int .i64 a0_0, .int .i64 a0_1, .slice A0_2 l0_2.length c0_2, .slice A0_3 l0_3.length c0_3, .int .i64 a0_4, .int .i64 a0_5, .int .i64 a0_6, .int .i64 a0_7]] rfl (by (try simp only [List.map_toArray, List.map_cons, List.map_nil]); first | done | rfl | (simp only [List.length_drop, List.length_take]; rfl)) ?_; (with_reducible refine (splicelaw25_few.calls a0_0 a0_1 _ _ l0_2 _ _ l0_3 a0_4 a0_5 a0_6 a0_7 false _ ?side1 ?side2 ?side3 ?side4 A2.out).mono ?_); (case side1 => repeat (first | exact (Kd.C_below HR0_2.out HB.out) | (with_reducible refine Kd.C_alloc ?_ _) | (with_reducible refine Kd.C_drewN ?_ _) | (with_reducible refine Kd.C_drew ?_))); (case side2 => exact HC0_2.out); (case side3 => repeat (first | exact (Kd.C_below HR0_3.out HB.out) | (with_reducible refine Kd.C_alloc ?_ _) | (with_reducible refine Kd.C_drewN ?_ _) | (with_reducible refine Kd.C_drew ?_))); (case side4 => exact HC0_3.out); rintro e w97 ⟨rfl, hb⟩; refine ⟨_, rfl, ?_⟩; have n0_ := Aside0.mk (blk_below (g := gb288) (o := .cells #[.int .i64 a0_0, .int .i64 a0_1, .slice A0_2 l0_2.length c0_2, .slice A0_3 l0_3.length c0_3, .int .i64 a0_4, .int .i64 a0_5, .int .i64 a0_6, .int .i64 a0_7] 29 (0, 0)) (by (with_reducible repeat (first | refine blk_drewN ?_ _ | refine blk_drew ?_ | refine blk_alloc ?_ _)); exact BK288.out) hb); have n1_ := Aside0.mk (below_step (by repeat (first | (with_reducible first | exact HB.out | apply below_alloc | apply pw_below_drewN | apply below_drew1 | refine below_set ?_ GE288.out) | exact HB.out)) hb); clear BK288; clear HB; have BK288 := n0_; have HB := n1_; clear n0_ n1_; (try clear hb); (try clear hb2); (try clear hk); (try clear hi)) | ((with_reducible refine gate_callee (f := 9) rfl ?_); refine goesL_ (some 14) rfl rfl Try.func9 (by kernel_rfl) rfl #[] rfl (by (try simp only [List.map_toArray, List.map_cons, List.map_nil]); first | done | rfl | (simp only [List.length_drop, List.length_take]; rfl)) ?_; (with_reducible refine (splicelaw25_awake.calls k  t290 _ A94.out (by first | rfl | exact hr_)).mono ?_); rintro e w98 ⟨rfl, hb⟩; refine ⟨_, rfl, ?_⟩; have n0_ := Aside0.mk (blk_below (g := gb288) (o := .cells #[.int .i64 a0_0, .int .i64 a0_1, .slice A0_2 l0_2.length c0_2, .slice A0_3 l0_3.length c0_3, .int .i64 a0_4, .int .i64 a0_5, .int .i64 a0_6, .int .i64 a0_7] 29 (0, 0)) (by (with_reducible repeat (first | refine blk_drewN ?_ _ | refine blk_drew ?_ | refine blk_alloc ?_ _)); exact BK288.out) hb); have n1_ := Aside0.mk (below_step (by repeat (first | (with_reducible first | exact HB.out | apply below_alloc | apply pw_below_drewN | apply below_drew1 | refine below_set ?_ GE288.out) | exact HB.out)) hb); clear BK288; clear HB; have BK288 := n0_; have HB := n1_; clear n0_ n1_; (try clear hb); (try clear hb2); (try clear hk); (try clear hi)))
   go_ret
   exact ⟨by first | rfl | (simp [errW_none, errW_some] <;> rfl) | (simp [*, errW_none, errW_some] <;> rfl), by repeat (first | (with_reducible first | exact HB.out | apply below_alloc | apply pw_below_drewN | apply below_drew1 | refine below_set ?_ GE288.out) | exact HB.out)⟩
 subst c3
 have H1 : ((splicelaw08_Ref.f k a0_0 a0_1 l0_2).bind fun bt291 => ((splicelaw05_Refs.f k l0_3).bind fun t296 => ((balance_Shards.f k a0_0 a0_1 l0_2 l0_3).bind fun bt300 => ((balance_Nodes.f k a0_0 a0_1 l0_2 l0_3 a0_7).bind fun bt304 => ((spliceref08_Check.f k bt291.1 bt291.2.1 bt291.2.2).bind fun t308 => (if t308 = true then ((spliceref25_Loads.f k t296).bind fun t309 => (splicelaw25_BalanceLoads.j0 k t296 bt300.1 bt300.2 bt304.1 bt304.2 t309 a0_0 a0_1 l0_2 l0_3 a0_4 a0_5 a0_6 a0_7 bt291.1 bt291.2.1 bt291.2.2)) else (splicelaw25_BalanceLoads.j0 k t296 bt300.1 bt300.2 bt304.1 bt304.2 false a0_0 a0_1 l0_2 l0_3 a0_4 a0_5 a0_6 a0_7 bt291.1 bt291.2.1 bt291.2.2))))))) = some r := by rw [if_pos rfl] at H; exact H
 clear H
 have H := H1
 clear H1
 replace H := Option.bind_eq_some_iff.mp H
 obtain ⟨⟨t291, t292, t293⟩, A40, H⟩ := H
 replace H : ((splicelaw05_Refs.f k l0_3).bind fun t296 => ((balance_Shards.f k a0_0 a0_1 l0_2 l0_3).bind fun bt300 => ((balance_Nodes.f k a0_0 a0_1 l0_2 l0_3 a0_7).bind fun bt304 => ((spliceref08_Check.f k t291 t292 t293).bind fun t308 => (if t308 = true then ((spliceref25_Loads.f k t296).bind fun t309 => (splicelaw25_BalanceLoads.j0 k t296 bt300.1 bt300.2 bt304.1 bt304.2 t309 a0_0 a0_1 l0_2 l0_3 a0_4 a0_5 a0_6 a0_7 t291 t292 t293)) else (splicelaw25_BalanceLoads.j0 k t296 bt300.1 bt300.2 bt304.1 bt304.2 false a0_0 a0_1 l0_2 l0_3 a0_4 a0_5 a0_6 a0_7 t291 t292 t293)))))) = some r := H
 have A4 := Aside0.mk A40
 clear A40
 replace H := Option.bind_eq_some_iff.mp H
 obtain ⟨t296, A50, H⟩ := H
 replace H : ((balance_Shards.f k a0_0 a0_1 l0_2 l0_3).bind fun bt300 => ((balance_Nodes.f k a0_0 a0_1 l0_2 l0_3 a0_7).bind fun bt304 => ((spliceref08_Check.f k t291 t292 t293).bind fun t308 => (if t308 = true then ((spliceref25_Loads.f k t296).bind fun t309 => (splicelaw25_BalanceLoads.j0 k t296 bt300.1 bt300.2 bt304.1 bt304.2 t309 a0_0 a0_1 l0_2 l0_3 a0_4 a0_5 a0_6 a0_7 t291 t292 t293)) else (splicelaw25_BalanceLoads.j0 k t296 bt300.1 bt300.2 bt304.1 bt304.2 false a0_0 a0_1 l0_2 l0_3 a0_4 a0_5 a0_6 a0_7 t291 t292 t293))))) = some r := H
 have A5 := Aside0.mk A50
 clear A50
 replace H := Option.bind_eq_some_iff.mp H
 obtain ⟨⟨t300, t303⟩, A60, H⟩ := H
 replace H : ((balance_Nodes.f k a0_0 a0_1 l0_2 l0_3 a0_7).bind fun bt304 => ((spliceref08_Check.f k t291 t292 t293).bind fun t308 => (if t308 = true then ((spliceref25_Loads.f k t296).bind fun t309 => (splicelaw25_BalanceLoads.j0 k t296 t300 t303 bt304.1 bt304.2 t309 a0_0 a0_1 l0_2 l0_3 a0_4 a0_5 a0_6 a0_7 t291 t292 t293)) else (splicelaw25_BalanceLoads.j0 k t296 t300 t303 bt304.1 bt304.2 false a0_0 a0_1 l0_2 l0_3 a0_4 a0_5 a0_6 a0_7 t291 t292 t293)))) = some r := H
 have A6 := Aside0.mk A60
 clear A60
 replace H := Option.bind_eq_some_iff.mp H
 obtain ⟨⟨t304, t307⟩, A70, H⟩ := H
 replace H : ((spliceref08_Check.f k t291 t292 t293).bind fun t308 => (if t308 = true then ((spliceref25_Loads.f k t296).bind fun t309 => (splicelaw25_BalanceLoads.j0 k t296 t300 t303 t304 t307 t309 a0_0 a0_1 l0_2 l0_3 a0_4 a0_5 a0_6 a0_7 t291 t292 t293)) else (splicelaw25_BalanceLoads.j0 k t296 t300 t303 t304 t307 false a0_0 a0_1 l0_2 l0_3 a0_4 a0_5 a0_6 a0_7 t291 t292 t293))) = some r := H
 have A7 := Aside0.mk A70
 clear A70
 have HC8 := Aside0.mk H
 clear H
 go_enter Try.func3, Try.ntmps3
 try go_wp2_with (first | ((with_reducible refine gate_dst (N := 1) rfl ?_); (try (refine gate_guard (by rfl) ?_; dsimp only)); refine box_event ?hg (N := 1) ?hd (cs := #[.int .i64 a0_0, .int .i64 a0_1, .slice A0_2 l0_2.length c0_2, .slice A0_3 l0_3.length c0_3, .int .i64 a0_4, .int .i64 a0_5, .int .i64 a0_6, .int .i64 a0_7]) (t := 29) ?hr ?_; (case hd => rfl); (case hg => rfl); (case hr => first | (go_simp; done) | (go_simp; rfl)); intro gb288 hg w9 hbox hb; have n0_ := Aside0.mk (below_step (by repeat (first | (with_reducible first | exact HB.out | apply below_alloc | apply pw_below_drewN | apply below_drew1) | exact HB.out)) hb); have n1_ := Aside0.mk (hbox); have n2_ := Aside0.mk ((by rw [hg]; exact (below_size (by repeat (first | (with_reducible first | exact HB.out | apply below_alloc | apply pw_below_drewN | apply below_drew1) | exact HB.out))) : w.heap.size ≤ gb288)); have n3_ := Aside0.mk ((by rw [hg]; exact (below_size (by repeat (first | (with_reducible first | exact HB.out | apply below_alloc | apply pw_below_drewN | apply below_drew1) | exact HB.out))) : w.heap.size ≤ gb288)); clear HB; have HB := n0_; have BK288 := n1_; have GW288 := n2_; have GE288 := n3_; clear n0_ n1_ n2_ n3_; clear hb hbox hg; have hcz10_0 : w9.cell? ⟨gb288, 0, none⟩ = some (.int .i64 a0_0) := (blk_cell BK288.out 0).trans rfl; have hcz10_1 : w9.cell? ⟨gb288, 1, none⟩ = some (.int .i64 a0_1) := (blk_cell BK288.out 1).trans rfl; have hcz10_2 : w9.cell? ⟨gb288, 2, none⟩ = some (.slice A0_2 l0_2.length c0_2) := (blk_cell BK288.out 2).trans rfl; have hcz10_3 : w9.cell? ⟨gb288, 3, none⟩ = some (.slice A0_3 l0_3.length c0_3) := (blk_cell BK288.out 3).trans rfl; have hcz10_4 : w9.cell? ⟨gb288, 4, none⟩ = some (.int .i64 a0_4) := (blk_cell BK288.out 4).trans rfl; have hcz10_5 : w9.cell? ⟨gb288, 5, none⟩ = some (.int .i64 a0_5) := (blk_cell BK288.out 5).trans rfl; have hcz10_6 : w9.cell? ⟨gb288, 6, none⟩ = some (.int .i64 a0_6) := (blk_cell BK288.out 6).trans rfl; have hcz10_7 : w9.cell? ⟨gb288, 7, none⟩ = some (.int .i64 a0_7) := (blk_cell BK288.out 7).trans rfl; have hfz10_0 := blk_frozen BK288.out 0; have hfz10_1 := blk_frozen BK288.out 1; have hfz10_2 := blk_frozen BK288.out 2; have hfz10_3 := blk_frozen BK288.out 3; have hfz10_4 := blk_frozen BK288.out 4; have hfz10_5 := blk_frozen BK288.out 5; have hfz10_6 := blk_frozen BK288.out 6; have hfz10_7 := blk_frozen BK288.out 7) | ((with_reducible refine gate_callee (f := 8) rfl ?_); refine goesL_ (some 12) rfl rfl Try.func8 (by kernel_rfl) rfl #[.agg #[.int .i64 a0_0, .int .i64 a0_1, .slice A0_2 l0_2.length c0_2, .slice A0_3 l0_3.length c0_3, .int .i64 a0_4, .int .i64 a0_5, .int .i64 a0_6, .int .i64 a0_7]] rfl (by (try simp only [List.map_toArray, List.map_cons, List.map_nil]); first | done | rfl | (simp only [List.length_drop, List.length_take]; rfl)) ?_; (with_reducible refine (splicelaw25_few.calls a0_0 a0_1 _ _ l0_2 _ _ l0_3 a0_4 a0_5 a0_6 a0_7 true _ ?side1 ?side2 ?side3 ?side4 A2.out).mono ?_); (case side1 => repeat (first | exact (Kd.C_below HR0_2.out HB.out) | (with_reducible refine Kd.C_alloc ?_ _) | (with_reducible refine Kd.C_drewN ?_ _) | (with_reducible refine Kd.C_drew ?_))); (case side2 => exact HC0_2.out); (case side3 => repeat (first | exact (Kd.C_below HR0_3.out HB.out) | (with_reducible refine Kd.C_alloc ?_ _) | (with_reducible refine Kd.C_drewN ?_ _) | (with_reducible refine Kd.C_drew ?_))); (case side4 => exact HC0_3.out); rintro e w11 ⟨rfl, hb⟩; refine ⟨_, rfl, ?_⟩; have n0_ := Aside0.mk (blk_below (g := gb288) (o := .cells #[.int .i64 a0_0, .int .i64 a0_1, .slice A0_2 l0_2.length c0_2, .slice A0_3 l0_3.length c0_3, .int .i64 a0_4, .int .i64 a0_5, .int .i64 a0_6, .int .i64 a0_7] 29 (0, 0)) (by (with_reducible repeat (first | refine blk_drewN ?_ _ | refine blk_drew ?_ | refine blk_alloc ?_ _)); exact BK288.out) hb); have n1_ := Aside0.mk (below_step (by repeat (first | (with_reducible first | exact HB.out | apply below_alloc | apply pw_below_drewN | apply below_drew1 | refine below_set ?_ GE288.out) | exact HB.out)) hb); clear BK288; clear HB; have BK288 := n0_; have HB := n1_; clear n0_ n1_; (try clear hb); (try clear hb2); (try clear hk); (try clear hi)))
 have n0_ := Aside0.mk (blk_drew BK288.out)
 have n1_ := Aside0.mk (below_drew1 HB.out)
 clear BK288; clear HB
 have BK288 := n0_
 have HB := n1_
 clear n0_ n1_
 refine start_ (n := 9) (S := fun w' => w'.cell? ⟨gb288, 0, none⟩ = some (.int .i64 a0_0) ∧ w'.cell? ⟨gb288, 1, none⟩ = some (.int .i64 a0_1) ∧ w'.cell? ⟨gb288, 2, none⟩ = some (.slice A0_2 l0_2.length c0_2) ∧ w'.cell? ⟨gb288, 3, none⟩ = some (.slice A0_3 l0_3.length c0_3) ∧ w'.cell? ⟨gb288, 4, none⟩ = some (.int .i64 a0_4) ∧ w'.cell? ⟨gb288, 5, none⟩ = some (.int .i64 a0_5) ∧ w'.cell? ⟨gb288, 6, none⟩ = some (.int .i64 a0_6) ∧ w'.cell? ⟨gb288, 7, none⟩ = some (.int .i64 a0_7)) (ds := []) #[false, false, false, false, false, false, false, false, false] (by kernel_rfl) rfl rfl ⟨(blk_cell BK288.out 0).trans rfl, (blk_cell BK288.out 1).trans rfl, (blk_cell BK288.out 2).trans rfl, (blk_cell BK288.out 3).trans rfl, (blk_cell BK288.out 4).trans rfl, (blk_cell BK288.out 5).trans rfl, (blk_cell BK288.out 6).trans rfl, (blk_cell BK288.out 7).trans rfl⟩ (fun hHeld => ?_); refine with_tabW splicelaw25_BalanceLoads.tab3 splicelaw25_BalanceLoads.bits3 (fun HT_ HW_ => ?_)
 generalize w11.drew = w12 at BK288 HB hHeld ⊢
 refine pure_ (i := 0) (N := some 15) (v := ?_) (a' := ?_) #[true, false, false, false, false, false, false, false, false] rfl rfl (any_of HT_.out (by kernel_rfl)) (fun _ _ _ h => h) (Or.inl ⟨by rfl, ?_⟩) ?_ ?_
 rotate_left
 · intro w'; go_simp; with_reducible rfl
 rotate_left
 · simp only [Act.put, List.setIfInBounds_toArray, List.set_cons_zero, List.set_cons_succ, i64_w, i32_w]; rfl
 refine pure_ (i := 3) (N := some 18) (v := ?_) (a' := ?_) #[true, false, false, true, false, false, false, false, false] rfl rfl (any_of HT_.out (by kernel_rfl)) (fun _ _ _ h => h) (Or.inl ⟨by rfl, ?_⟩) ?_ ?_
 rotate_left
 · intro w'; go_simp; with_reducible rfl
 rotate_left
 · simp only [Act.put, List.setIfInBounds_toArray, List.set_cons_zero, List.set_cons_succ, i64_w, i32_w]; rfl
 refine take_ (i := 1) (N := some 16) (v := ?_) (a' := ?_) #[true, true, false, true, false, false, false, false, false] rfl rfl (take_ofW HT_.out HW_.out (by kernel_rfl)) (fun _ _ _ h => h) (Or.inl ⟨by rfl, ?_⟩) hHeld ?_ ?_
 rotate_left
 · rintro w' ⟨s0, s1, s2, s3, s4, s5, s6, s7⟩
   go_simp; with_reducible rfl
 rotate_left
 · simp only [Act.put, List.setIfInBounds_toArray, List.set_cons_zero, List.set_cons_succ, i64_w, i32_w]; rfl
 refine take_ (i := 4) (N := some 19) (v := ?_) (a' := ?_) #[true, true, false, true, true, false, false, false, false] rfl rfl (take_ofW HT_.out HW_.out (by kernel_rfl)) (fun _ _ _ h => h) (Or.inl ⟨by rfl, ?_⟩) hHeld ?_ ?_
 rotate_left
 · rintro w' ⟨s0, s1, s2, s3, s4, s5, s6, s7⟩
   go_simp; with_reducible rfl
 rotate_left
 · simp only [Act.put, List.setIfInBounds_toArray, List.set_cons_zero, List.set_cons_succ, i64_w, i32_w]; rfl
 refine join_ (σ := Value × Value × Nat) 2 #[true, true, true, true, true, true, true, false, false] (fun s_ => [(17, .agg #[.int .i64 t291, .int .i64 t292, s_.1]), (20, s_.2.1), (3, .pointer (some ⟨s_.2.2, 0, none⟩))]) (fun s_ w' => (w'.cell? ⟨gb288, 0, none⟩ = some (.int .i64 a0_0) ∧ w'.cell? ⟨gb288, 1, none⟩ = some (.int .i64 a0_1) ∧ w'.cell? ⟨gb288, 2, none⟩ = some (.slice A0_2 l0_2.length c0_2) ∧ w'.cell? ⟨gb288, 3, none⟩ = some (.slice A0_3 l0_3.length c0_3) ∧ w'.cell? ⟨gb288, 4, none⟩ = some (.int .i64 a0_4) ∧ w'.cell? ⟨gb288, 5, none⟩ = some (.int .i64 a0_5) ∧ w'.cell? ⟨gb288, 6, none⟩ = some (.int .i64 a0_6) ∧ w'.cell? ⟨gb288, 7, none⟩ = some (.int .i64 a0_7)) ∧ (Kd.R k86 86 w' w.heap.size (fun _ => True) s_.1 t293) ∧ (Kd.R k79 79 w' w.heap.size (fun _ => True) s_.2.1 t296) ∧ (w'.heap[gb288]? = some (.cells #[.int .i64 a0_0, .int .i64 a0_1, .slice A0_2 l0_2.length c0_2, .slice A0_3 l0_3.length c0_3, .int .i64 a0_4, .int .i64 a0_5, .int .i64 a0_6, .int .i64 a0_7] 29 (0, 0))) ∧ (w'.heap[s_.2.2]? = some (.cells #[.int .i64 0, .int .i64 0, .slice none 0 0] 34 (0, 0))) ∧ (w.heap.size ≤ s_.2.2) ∧ (w.heap.size ≤ s_.2.2) ∧ (gb288 ≠ s_.2.2) ∧ (s_.2.2 ≠ gb288) ∧ (Below w.heap.size w w')) ?_ ?_
 rotate_left
 · intro hCont
   refine two_ (i := 2) (j := 6) (Ni := some 17) (Nj := some 3) #[true, true, true, true, true, false, false, false, false] #[true, true, false, true, true, false, true, false, false] rfl rfl rfl rfl (two_of HT_.out (by kernel_rfl)) (by decide) (by decide) (fun K hK => ?_) (fun K hK => ?_)
   · skip
     refine goes_ Try.func10 (by kernel_rfl) rfl #[.agg #[.int .i64 a0_0, .int .i64 a0_1, .slice A0_2 l0_2.length c0_2]] (by rfl) rfl rfl (by (try simp only [List.map_toArray, List.map_cons, List.map_nil]); first | done | rfl | (simp only [List.length_drop, List.length_take]; rfl)) ?_
     with_reducible refine (splicelaw08_Ref.calls k a0_0 a0_1 _ _ l0_2 t291 t292 t293 _ ?side1 ?side2 A4.out).mono ?_
     (case side1 => repeat (first | exact (Kd.C_below HR0_2.out HB.out) | (with_reducible refine Kd.C_alloc ?_ _) | (with_reducible refine Kd.C_drewN ?_ _) | (with_reducible refine Kd.C_drew ?_)))
     (case side2 => exact HC0_2.out)
     rintro e w13 ⟨v294, rfl, ho0, hb⟩
     refine ⟨_, rfl, ?_⟩
     have n0_ := Aside0.mk (Kd.R_lower ho0 (below_size (by repeat (first | (with_reducible first | exact HB.out | apply below_alloc | apply pw_below_drewN | apply below_drew1 | refine below_set ?_ GE288.out) | exact HB.out))))
     have n1_ := Aside0.mk (blk_below (g := gb288) (o := .cells #[.int .i64 a0_0, .int .i64 a0_1, .slice A0_2 l0_2.length c0_2, .slice A0_3 l0_3.length c0_3, .int .i64 a0_4, .int .i64 a0_5, .int .i64 a0_6, .int .i64 a0_7] 29 (0, 0)) (by (with_reducible repeat (first | refine blk_drewN ?_ _ | refine blk_drew ?_ | refine blk_alloc ?_ _)); exact BK288.out) hb)
     have n2_ := Aside0.mk (below_step (by repeat (first | (with_reducible first | exact HB.out | apply below_alloc | apply pw_below_drewN | apply below_drew1 | refine below_set ?_ GE288.out) | exact HB.out)) hb)
     clear BK288; clear HB
     have HO295 := n0_
     have BK288 := n1_
     have HB := n2_
     clear n0_ n1_ n2_
     (try clear hb)
     (try clear hb2)
     (try clear hk)
     (try clear hi)
     (try clear ho0)
     refine hK.out _ _ ⟨(blk_cell BK288.out 0).trans rfl, (blk_cell BK288.out 1).trans rfl, (blk_cell BK288.out 2).trans rfl, (blk_cell BK288.out 3).trans rfl, (blk_cell BK288.out 4).trans rfl, (blk_cell BK288.out 5).trans rfl, (blk_cell BK288.out 6).trans rfl, (blk_cell BK288.out 7).trans rfl⟩ (fun hHeld => ?_)
     clear hK K
     refine norm_ (a' := ?_) ?_ ?_
     rotate_left
     · show Act.put _ (some 17) _ = _
       simp only [Act.put, List.setIfInBounds_toArray, List.set_cons_zero, List.set_cons_succ, i64_w, i32_w]; rfl
     refine two_ (i := 5) (j := 6) (Ni := some 20) (Nj := some 3) #[true, true, true, true, true, true, false, false, false] #[true, true, true, true, true, false, true, false, false] rfl rfl rfl rfl (two_of HT_.out (by kernel_rfl)) (by decide) (by decide) (fun K hK => ?_) (fun K hK => ?_)
     · skip
       refine goes_ Try.func11 (by kernel_rfl) rfl #[.slice A0_3 l0_3.length c0_3] (by rfl) rfl rfl (by (try simp only [List.map_toArray, List.map_cons, List.map_nil]); first | done | rfl | (simp only [List.length_drop, List.length_take]; rfl)) ?_
       with_reducible refine (splicelaw05_Refs.calls k _ _ l0_3 t296 _ ?side1 ?side2 A5.out).mono ?_
       (case side1 => repeat (first | exact (Kd.C_below HR0_3.out HB.out) | (with_reducible refine Kd.C_alloc ?_ _) | (with_reducible refine Kd.C_drewN ?_ _) | (with_reducible refine Kd.C_drew ?_)))
       (case side2 => exact HC0_3.out)
       rintro e w14 ⟨v297, rfl, ho0, hb⟩
       refine ⟨_, rfl, ?_⟩
       have n0_ := Aside0.mk (Kd.R_below (by (with_reducible repeat (first | apply Kd.R_alloc | apply Kd.R_drewN | apply Kd.R_drew)); exact HO295.out) hb)
       have n1_ := Aside0.mk (Kd.R_lower ho0 (below_size (by repeat (first | (with_reducible first | exact HB.out | apply below_alloc | apply pw_below_drewN | apply below_drew1 | refine below_set ?_ GE288.out) | exact HB.out))))
       have n2_ := Aside0.mk (blk_below (g := gb288) (o := .cells #[.int .i64 a0_0, .int .i64 a0_1, .slice A0_2 l0_2.length c0_2, .slice A0_3 l0_3.length c0_3, .int .i64 a0_4, .int .i64 a0_5, .int .i64 a0_6, .int .i64 a0_7] 29 (0, 0)) (by (with_reducible repeat (first | refine blk_drewN ?_ _ | refine blk_drew ?_ | refine blk_alloc ?_ _)); exact BK288.out) hb)
       have n3_ := Aside0.mk (below_step (by repeat (first | (with_reducible first | exact HB.out | apply below_alloc | apply pw_below_drewN | apply below_drew1 | refine below_set ?_ GE288.out) | exact HB.out)) hb)
       clear HO295; clear BK288; clear HB
       have HO295 := n0_
       have HO298 := n1_
       have BK288 := n2_
       have HB := n3_
       clear n0_ n1_ n2_ n3_
       (try clear hb)
       (try clear hb2)
       (try clear hk)
       (try clear hi)
       (try clear ho0)
       refine hK.out _ _ ⟨(blk_cell BK288.out 0).trans rfl, (blk_cell BK288.out 1).trans rfl, (blk_cell BK288.out 2).trans rfl, (blk_cell BK288.out 3).trans rfl, (blk_cell BK288.out 4).trans rfl, (blk_cell BK288.out 5).trans rfl, (blk_cell BK288.out 6).trans rfl, (blk_cell BK288.out 7).trans rfl⟩ (fun hHeld => ?_)
       clear hK K
       refine norm_ (a' := ?_) ?_ ?_
       rotate_left
       · show Act.put _ (some 20) _ = _
         simp only [Act.put, List.setIfInBounds_toArray, List.set_cons_zero, List.set_cons_succ, i64_w, i32_w]; rfl
       refine one_ (i := 6) (N := some 3) #[true, true, true, true, true, true, true, false, false] rfl rfl (one_of HT_.out (by kernel_rfl)) (by decide) (fun K hK => ?_)
       refine box_step ?hg (N := 3) ?hd (cs := #[.int .i64 0, .int .i64 0, .slice none 0 0]) (t := 34) ?hr ?_; (case hd => rfl); (case hg => rfl); (case hr => first | (go_simp; done) | (go_simp; rfl))
       intro gb299 hg w15 hbox hb
       have n0_ := Aside0.mk (Kd.R_below (by (with_reducible repeat (first | apply Kd.R_alloc | apply Kd.R_drewN | apply Kd.R_drew)); exact HO295.out) hb)
       have n1_ := Aside0.mk (Kd.R_below (by (with_reducible repeat (first | apply Kd.R_alloc | apply Kd.R_drewN | apply Kd.R_drew)); exact HO298.out) hb)
       have n2_ := Aside0.mk (blk_below (g := gb288) (o := .cells #[.int .i64 a0_0, .int .i64 a0_1, .slice A0_2 l0_2.length c0_2, .slice A0_3 l0_3.length c0_3, .int .i64 a0_4, .int .i64 a0_5, .int .i64 a0_6, .int .i64 a0_7] 29 (0, 0)) (by (with_reducible repeat (first | refine blk_drewN ?_ _ | refine blk_drew ?_ | refine blk_alloc ?_ _)); exact BK288.out) hb)
       have n3_ := Aside0.mk (below_step (by repeat (first | (with_reducible first | exact HB.out | apply below_alloc | apply pw_below_drewN | apply below_drew1 | refine below_set ?_ GE288.out) | exact HB.out)) hb)
       have n4_ := Aside0.mk (hbox)
       have n5_ := Aside0.mk ((by rw [hg]; exact (below_size (by repeat (first | (with_reducible first | exact HB.out | apply below_alloc | apply pw_below_drewN | apply below_drew1 | refine below_set ?_ GE288.out) | exact HB.out))) : w.heap.size ≤ gb299))
       have n6_ := Aside0.mk ((by rw [hg]; exact (below_size (by repeat (first | (with_reducible first | exact HB.out | apply below_alloc | apply pw_below_drewN | apply below_drew1 | refine below_set ?_ GE288.out) | exact HB.out))) : w.heap.size ≤ gb299))
       have n7_ := Aside0.mk ((by rw [hg]; exact Nat.ne_of_lt (blk_lt (g := gb288) (o := .cells #[.int .i64 a0_0, .int .i64 a0_1, .slice A0_2 l0_2.length c0_2, .slice A0_3 l0_3.length c0_3, .int .i64 a0_4, .int .i64 a0_5, .int .i64 a0_6, .int .i64 a0_7] 29 (0, 0)) (by (with_reducible repeat (first | refine blk_drewN ?_ _ | refine blk_drew ?_ | refine blk_alloc ?_ _)); exact BK288.out)) : gb288 ≠ gb299))
       have n8_ := Aside0.mk ((by rw [hg]; exact Nat.ne_of_gt (blk_lt (g := gb288) (o := .cells #[.int .i64 a0_0, .int .i64 a0_1, .slice A0_2 l0_2.length c0_2, .slice A0_3 l0_3.length c0_3, .int .i64 a0_4, .int .i64 a0_5, .int .i64 a0_6, .int .i64 a0_7] 29 (0, 0)) (by (with_reducible repeat (first | refine blk_drewN ?_ _ | refine blk_drew ?_ | refine blk_alloc ?_ _)); exact BK288.out)) : gb299 ≠ gb288))
       clear HO295; clear HO298; clear BK288; clear HB
       have HO295 := n0_
       have HO298 := n1_
       have BK288 := n2_
       have HB := n3_
       have BK299 := n4_
       have GW299 := n5_
       have GE299 := n6_
       have NB288_299 := n7_
       have NB299_288 := n8_
       clear n0_ n1_ n2_ n3_ n4_ n5_ n6_ n7_ n8_; clear hb hbox hg
       refine hK.out _ _ ⟨(blk_cell BK288.out 0).trans rfl, (blk_cell BK288.out 1).trans rfl, (blk_cell BK288.out 2).trans rfl, (blk_cell BK288.out 3).trans rfl, (blk_cell BK288.out 4).trans rfl, (blk_cell BK288.out 5).trans rfl, (blk_cell BK288.out 6).trans rfl, (blk_cell BK288.out 7).trans rfl⟩ (fun hHeld => ?_)
       clear hK K
       refine norm_ (a' := ?_) ?_ ?_
       rotate_left
       · show Act.put _ (some 3) _ = _
         simp only [Act.put, List.setIfInBounds_toArray, List.set_cons_zero, List.set_cons_succ, i64_w, i32_w]; rfl
       exact norm_ (by simp only [putAll, Act.put, List.setIfInBounds_toArray, List.set_cons_zero, List.set_cons_succ]) (hCont (v294, v297, gb299) _ ⟨hHeld, (by (with_reducible repeat (first | apply Kd.R_alloc | apply Kd.R_drewN | apply Kd.R_drew)); exact HO295.out), (by (with_reducible repeat (first | apply Kd.R_alloc | apply Kd.R_drewN | apply Kd.R_drew)); exact HO298.out), (by (with_reducible repeat (first | refine blk_drewN ?_ _ | refine blk_drew ?_ | refine blk_alloc ?_ _)); exact BK288.out), (by (with_reducible repeat (first | refine blk_drewN ?_ _ | refine blk_drew ?_ | refine blk_alloc ?_ _)); exact BK299.out), GW299.out, GE299.out, NB288_299.out, NB299_288.out, (by repeat (first | (with_reducible first | exact HB.out | apply below_alloc | apply pw_below_drewN | apply below_drew1 | refine below_set ?_ GE288.out | refine below_set ?_ GE299.out) | exact HB.out))⟩)
     skip
     refine box_step ?hg (N := 3) ?hd (cs := #[.int .i64 0, .int .i64 0, .slice none 0 0]) (t := 34) ?hr ?_; (case hd => rfl); (case hg => rfl); (case hr => first | (go_simp; done) | (go_simp; rfl))
     intro gb299 hg w14 hbox hb
     have n0_ := Aside0.mk (Kd.R_below (by (with_reducible repeat (first | apply Kd.R_alloc | apply Kd.R_drewN | apply Kd.R_drew)); exact HO295.out) hb)
     have n1_ := Aside0.mk (blk_below (g := gb288) (o := .cells #[.int .i64 a0_0, .int .i64 a0_1, .slice A0_2 l0_2.length c0_2, .slice A0_3 l0_3.length c0_3, .int .i64 a0_4, .int .i64 a0_5, .int .i64 a0_6, .int .i64 a0_7] 29 (0, 0)) (by (with_reducible repeat (first | refine blk_drewN ?_ _ | refine blk_drew ?_ | refine blk_alloc ?_ _)); exact BK288.out) hb)
     have n2_ := Aside0.mk (below_step (by repeat (first | (with_reducible first | exact HB.out | apply below_alloc | apply pw_below_drewN | apply below_drew1 | refine below_set ?_ GE288.out) | exact HB.out)) hb)
     have n3_ := Aside0.mk (hbox)
     have n4_ := Aside0.mk ((by rw [hg]; exact (below_size (by repeat (first | (with_reducible first | exact HB.out | apply below_alloc | apply pw_below_drewN | apply below_drew1 | refine below_set ?_ GE288.out) | exact HB.out))) : w.heap.size ≤ gb299))
     have n5_ := Aside0.mk ((by rw [hg]; exact (below_size (by repeat (first | (with_reducible first | exact HB.out | apply below_alloc | apply pw_below_drewN | apply below_drew1 | refine below_set ?_ GE288.out) | exact HB.out))) : w.heap.size ≤ gb299))
     have n6_ := Aside0.mk ((by rw [hg]; exact Nat.ne_of_lt (blk_lt (g := gb288) (o := .cells #[.int .i64 a0_0, .int .i64 a0_1, .slice A0_2 l0_2.length c0_2, .slice A0_3 l0_3.length c0_3, .int .i64 a0_4, .int .i64 a0_5, .int .i64 a0_6, .int .i64 a0_7] 29 (0, 0)) (by (with_reducible repeat (first | refine blk_drewN ?_ _ | refine blk_drew ?_ | refine blk_alloc ?_ _)); exact BK288.out)) : gb288 ≠ gb299))
     have n7_ := Aside0.mk ((by rw [hg]; exact Nat.ne_of_gt (blk_lt (g := gb288) (o := .cells #[.int .i64 a0_0, .int .i64 a0_1, .slice A0_2 l0_2.length c0_2, .slice A0_3 l0_3.length c0_3, .int .i64 a0_4, .int .i64 a0_5, .int .i64 a0_6, .int .i64 a0_7] 29 (0, 0)) (by (with_reducible repeat (first | refine blk_drewN ?_ _ | refine blk_drew ?_ | refine blk_alloc ?_ _)); exact BK288.out)) : gb299 ≠ gb288))
     clear HO295; clear BK288; clear HB
     have HO295 := n0_
     have BK288 := n1_
     have HB := n2_
     have BK299 := n3_
     have GW299 := n4_
     have GE299 := n5_
     have NB288_299 := n6_
     have NB299_288 := n7_
     clear n0_ n1_ n2_ n3_ n4_ n5_ n6_ n7_; clear hb hbox hg
     refine hK.out _ _ ⟨(blk_cell BK288.out 0).trans rfl, (blk_cell BK288.out 1).trans rfl, (blk_cell BK288.out 2).trans rfl, (blk_cell BK288.out 3).trans rfl, (blk_cell BK288.out 4).trans rfl, (blk_cell BK288.out 5).trans rfl, (blk_cell BK288.out 6).trans rfl, (blk_cell BK288.out 7).trans rfl⟩ (fun hHeld => ?_)
     clear hK K
     refine norm_ (a' := ?_) ?_ ?_
     rotate_left
     · show Act.put _ (some 3) _ = _
       simp only [Act.put, List.setIfInBounds_toArray, List.set_cons_zero, List.set_cons_succ, i64_w, i32_w]; rfl
     refine one_ (i := 5) (N := some 20) #[true, true, true, true, true, true, true, false, false] rfl rfl (one_of HT_.out (by kernel_rfl)) (by decide) (fun K hK => ?_)
     refine goes_ Try.func11 (by kernel_rfl) rfl #[.slice A0_3 l0_3.length c0_3] (by rfl) rfl rfl (by (try simp only [List.map_toArray, List.map_cons, List.map_nil]); first | done | rfl | (simp only [List.length_drop, List.length_take]; rfl)) ?_
     with_reducible refine (splicelaw05_Refs.calls k _ _ l0_3 t296 _ ?side1 ?side2 A5.out).mono ?_
     (case side1 => repeat (first | exact (Kd.C_below HR0_3.out HB.out) | (with_reducible refine Kd.C_alloc ?_ _) | (with_reducible refine Kd.C_drewN ?_ _) | (with_reducible refine Kd.C_drew ?_)))
     (case side2 => exact HC0_3.out)
     rintro e w15 ⟨v297, rfl, ho0, hb⟩
     refine ⟨_, rfl, ?_⟩
     have n0_ := Aside0.mk (Kd.R_below (by (with_reducible repeat (first | apply Kd.R_alloc | apply Kd.R_drewN | apply Kd.R_drew)); exact HO295.out) hb)
     have n1_ := Aside0.mk (Kd.R_lower ho0 (below_size (by repeat (first | (with_reducible first | exact HB.out | apply below_alloc | apply pw_below_drewN | apply below_drew1 | refine below_set ?_ GE288.out | refine below_set ?_ GE299.out) | exact HB.out))))
     have n2_ := Aside0.mk (blk_below (g := gb288) (o := .cells #[.int .i64 a0_0, .int .i64 a0_1, .slice A0_2 l0_2.length c0_2, .slice A0_3 l0_3.length c0_3, .int .i64 a0_4, .int .i64 a0_5, .int .i64 a0_6, .int .i64 a0_7] 29 (0, 0)) (by (with_reducible repeat (first | refine blk_drewN ?_ _ | refine blk_drew ?_ | refine blk_alloc ?_ _)); exact BK288.out) hb)
     have n3_ := Aside0.mk (blk_below (g := gb299) (o := .cells #[.int .i64 0, .int .i64 0, .slice none 0 0] 34 (0, 0)) (by (with_reducible repeat (first | refine blk_drewN ?_ _ | refine blk_drew ?_ | refine blk_alloc ?_ _)); exact BK299.out) hb)
     have n4_ := Aside0.mk (below_step (by repeat (first | (with_reducible first | exact HB.out | apply below_alloc | apply pw_below_drewN | apply below_drew1 | refine below_set ?_ GE288.out | refine below_set ?_ GE299.out) | exact HB.out)) hb)
     clear HO295; clear BK288; clear BK299; clear HB
     have HO295 := n0_
     have HO298 := n1_
     have BK288 := n2_
     have BK299 := n3_
     have HB := n4_
     clear n0_ n1_ n2_ n3_ n4_
     (try clear hb)
     (try clear hb2)
     (try clear hk)
     (try clear hi)
     (try clear ho0)
     refine hK.out _ _ ⟨(blk_cell BK288.out 0).trans rfl, (blk_cell BK288.out 1).trans rfl, (blk_cell BK288.out 2).trans rfl, (blk_cell BK288.out 3).trans rfl, (blk_cell BK288.out 4).trans rfl, (blk_cell BK288.out 5).trans rfl, (blk_cell BK288.out 6).trans rfl, (blk_cell BK288.out 7).trans rfl⟩ (fun hHeld => ?_)
     clear hK K
     refine norm_ (a' := ?_) ?_ ?_
     rotate_left
     · show Act.put _ (some 20) _ = _
       simp only [Act.put, List.setIfInBounds_toArray, List.set_cons_zero, List.set_cons_succ, i64_w, i32_w]; rfl
     exact norm_ (by simp only [putAll, Act.put, List.setIfInBounds_toArray, List.set_cons_zero, List.set_cons_succ]) (hCont (v294, v297, gb299) _ ⟨hHeld, (by (with_reducible repeat (first | apply Kd.R_alloc | apply Kd.R_drewN | apply Kd.R_drew)); exact HO295.out), (by (with_reducible repeat (first | apply Kd.R_alloc | apply Kd.R_drewN | apply Kd.R_drew)); exact HO298.out), (by (with_reducible repeat (first | refine blk_drewN ?_ _ | refine blk_drew ?_ | refine blk_alloc ?_ _)); exact BK288.out), (by (with_reducible repeat (first | refine blk_drewN ?_ _ | refine blk_drew ?_ | refine blk_alloc ?_ _)); exact BK299.out), GW299.out, GE299.out, NB288_299.out, NB299_288.out, (by repeat (first | (with_reducible first | exact HB.out | apply below_alloc | apply pw_below_drewN | apply below_drew1 | refine below_set ?_ GE288.out | refine below_set ?_ GE299.out) | exact HB.out))⟩)
   skip
   refine box_step ?hg (N := 3) ?hd (cs := #[.int .i64 0, .int .i64 0, .slice none 0 0]) (t := 34) ?hr ?_; (case hd => rfl); (case hg => rfl); (case hr => first | (go_simp; done) | (go_simp; rfl))
   intro gb299 hg w13 hbox hb
   have n0_ := Aside0.mk (blk_below (g := gb288) (o := .cells #[.int .i64 a0_0, .int .i64 a0_1, .slice A0_2 l0_2.length c0_2, .slice A0_3 l0_3.length c0_3, .int .i64 a0_4, .int .i64 a0_5, .int .i64 a0_6, .int .i64 a0_7] 29 (0, 0)) (by (with_reducible repeat (first | refine blk_drewN ?_ _ | refine blk_drew ?_ | refine blk_alloc ?_ _)); exact BK288.out) hb)
   have n1_ := Aside0.mk (below_step (by repeat (first | (with_reducible first | exact HB.out | apply below_alloc | apply pw_below_drewN | apply below_drew1 | refine below_set ?_ GE288.out) | exact HB.out)) hb)
   have n2_ := Aside0.mk (hbox)
   have n3_ := Aside0.mk ((by rw [hg]; exact (below_size (by repeat (first | (with_reducible first | exact HB.out | apply below_alloc | apply pw_below_drewN | apply below_drew1 | refine below_set ?_ GE288.out) | exact HB.out))) : w.heap.size ≤ gb299))
   have n4_ := Aside0.mk ((by rw [hg]; exact (below_size (by repeat (first | (with_reducible first | exact HB.out | apply below_alloc | apply pw_below_drewN | apply below_drew1 | refine below_set ?_ GE288.out) | exact HB.out))) : w.heap.size ≤ gb299))
   have n5_ := Aside0.mk ((by rw [hg]; exact Nat.ne_of_lt (blk_lt (g := gb288) (o := .cells #[.int .i64 a0_0, .int .i64 a0_1, .slice A0_2 l0_2.length c0_2, .slice A0_3 l0_3.length c0_3, .int .i64 a0_4, .int .i64 a0_5, .int .i64 a0_6, .int .i64 a0_7] 29 (0, 0)) (by (with_reducible repeat (first | refine blk_drewN ?_ _ | refine blk_drew ?_ | refine blk_alloc ?_ _)); exact BK288.out)) : gb288 ≠ gb299))
   have n6_ := Aside0.mk ((by rw [hg]; exact Nat.ne_of_gt (blk_lt (g := gb288) (o := .cells #[.int .i64 a0_0, .int .i64 a0_1, .slice A0_2 l0_2.length c0_2, .slice A0_3 l0_3.length c0_3, .int .i64 a0_4, .int .i64 a0_5, .int .i64 a0_6, .int .i64 a0_7] 29 (0, 0)) (by (with_reducible repeat (first | refine blk_drewN ?_ _ | refine blk_drew ?_ | refine blk_alloc ?_ _)); exact BK288.out)) : gb299 ≠ gb288))
   clear BK288; clear HB
   have BK288 := n0_
   have HB := n1_
   have BK299 := n2_
   have GW299 := n3_
   have GE299 := n4_
   have NB288_299 := n5_
   have NB299_288 := n6_
   clear n0_ n1_ n2_ n3_ n4_ n5_ n6_; clear hb hbox hg
   refine hK.out _ _ ⟨(blk_cell BK288.out 0).trans rfl, (blk_cell BK288.out 1).trans rfl, (blk_cell BK288.out 2).trans rfl, (blk_cell BK288.out 3).trans rfl, (blk_cell BK288.out 4).trans rfl, (blk_cell BK288.out 5).trans rfl, (blk_cell BK288.out 6).trans rfl, (blk_cell BK288.out 7).trans rfl⟩ (fun hHeld => ?_)
   clear hK K
   refine norm_ (a' := ?_) ?_ ?_
   rotate_left
   · show Act.put _ (some 3) _ = _
     simp only [Act.put, List.setIfInBounds_toArray, List.set_cons_zero, List.set_cons_succ, i64_w, i32_w]; rfl
   refine one_ (i := 2) (N := some 17) #[true, true, true, true, true, false, true, false, false] rfl rfl (one_of HT_.out (by kernel_rfl)) (by decide) (fun K hK => ?_)
   refine goes_ Try.func10 (by kernel_rfl) rfl #[.agg #[.int .i64 a0_0, .int .i64 a0_1, .slice A0_2 l0_2.length c0_2]] (by rfl) rfl rfl (by (try simp only [List.map_toArray, List.map_cons, List.map_nil]); first | done | rfl | (simp only [List.length_drop, List.length_take]; rfl)) ?_
   with_reducible refine (splicelaw08_Ref.calls k a0_0 a0_1 _ _ l0_2 t291 t292 t293 _ ?side1 ?side2 A4.out).mono ?_
   (case side1 => repeat (first | exact (Kd.C_below HR0_2.out HB.out) | (with_reducible refine Kd.C_alloc ?_ _) | (with_reducible refine Kd.C_drewN ?_ _) | (with_reducible refine Kd.C_drew ?_)))
   (case side2 => exact HC0_2.out)
   rintro e w14 ⟨v294, rfl, ho0, hb⟩
   refine ⟨_, rfl, ?_⟩
   have n0_ := Aside0.mk (Kd.R_lower ho0 (below_size (by repeat (first | (with_reducible first | exact HB.out | apply below_alloc | apply pw_below_drewN | apply below_drew1 | refine below_set ?_ GE288.out | refine below_set ?_ GE299.out) | exact HB.out))))
   have n1_ := Aside0.mk (blk_below (g := gb288) (o := .cells #[.int .i64 a0_0, .int .i64 a0_1, .slice A0_2 l0_2.length c0_2, .slice A0_3 l0_3.length c0_3, .int .i64 a0_4, .int .i64 a0_5, .int .i64 a0_6, .int .i64 a0_7] 29 (0, 0)) (by (with_reducible repeat (first | refine blk_drewN ?_ _ | refine blk_drew ?_ | refine blk_alloc ?_ _)); exact BK288.out) hb)
   have n2_ := Aside0.mk (blk_below (g := gb299) (o := .cells #[.int .i64 0, .int .i64 0, .slice none 0 0] 34 (0, 0)) (by (with_reducible repeat (first | refine blk_drewN ?_ _ | refine blk_drew ?_ | refine blk_alloc ?_ _)); exact BK299.out) hb)
   have n3_ := Aside0.mk (below_step (by repeat (first | (with_reducible first | exact HB.out | apply below_alloc | apply pw_below_drewN | apply below_drew1 | refine below_set ?_ GE288.out | refine below_set ?_ GE299.out) | exact HB.out)) hb)
   clear BK288; clear BK299; clear HB
   have HO295 := n0_
   have BK288 := n1_
   have BK299 := n2_
   have HB := n3_
   clear n0_ n1_ n2_ n3_
   (try clear hb)
   (try clear hb2)
   (try clear hk)
   (try clear hi)
   (try clear ho0)
   refine hK.out _ _ ⟨(blk_cell BK288.out 0).trans rfl, (blk_cell BK288.out 1).trans rfl, (blk_cell BK288.out 2).trans rfl, (blk_cell BK288.out 3).trans rfl, (blk_cell BK288.out 4).trans rfl, (blk_cell BK288.out 5).trans rfl, (blk_cell BK288.out 6).trans rfl, (blk_cell BK288.out 7).trans rfl⟩ (fun hHeld => ?_)
   clear hK K
   refine norm_ (a' := ?_) ?_ ?_
   rotate_left
   · show Act.put _ (some 17) _ = _
     simp only [Act.put, List.setIfInBounds_toArray, List.set_cons_zero, List.set_cons_succ, i64_w, i32_w]; rfl
   refine one_ (i := 5) (N := some 20) #[true, true, true, true, true, true, true, false, false] rfl rfl (one_of HT_.out (by kernel_rfl)) (by decide) (fun K hK => ?_)
   refine goes_ Try.func11 (by kernel_rfl) rfl #[.slice A0_3 l0_3.length c0_3] (by rfl) rfl rfl (by (try simp only [List.map_toArray, List.map_cons, List.map_nil]); first | done | rfl | (simp only [List.length_drop, List.length_take]; rfl)) ?_
   with_reducible refine (splicelaw05_Refs.calls k _ _ l0_3 t296 _ ?side1 ?side2 A5.out).mono ?_
   (case side1 => repeat (first | exact (Kd.C_below HR0_3.out HB.out) | (with_reducible refine Kd.C_alloc ?_ _) | (with_reducible refine Kd.C_drewN ?_ _) | (with_reducible refine Kd.C_drew ?_)))
   (case side2 => exact HC0_3.out)
   rintro e w15 ⟨v297, rfl, ho0, hb⟩
   refine ⟨_, rfl, ?_⟩
   have n0_ := Aside0.mk (Kd.R_below (by (with_reducible repeat (first | apply Kd.R_alloc | apply Kd.R_drewN | apply Kd.R_drew)); exact HO295.out) hb)
   have n1_ := Aside0.mk (Kd.R_lower ho0 (below_size (by repeat (first | (with_reducible first | exact HB.out | apply below_alloc | apply pw_below_drewN | apply below_drew1 | refine below_set ?_ GE288.out | refine below_set ?_ GE299.out) | exact HB.out))))
   have n2_ := Aside0.mk (blk_below (g := gb288) (o := .cells #[.int .i64 a0_0, .int .i64 a0_1, .slice A0_2 l0_2.length c0_2, .slice A0_3 l0_3.length c0_3, .int .i64 a0_4, .int .i64 a0_5, .int .i64 a0_6, .int .i64 a0_7] 29 (0, 0)) (by (with_reducible repeat (first | refine blk_drewN ?_ _ | refine blk_drew ?_ | refine blk_alloc ?_ _)); exact BK288.out) hb)
   have n3_ := Aside0.mk (blk_below (g := gb299) (o := .cells #[.int .i64 0, .int .i64 0, .slice none 0 0] 34 (0, 0)) (by (with_reducible repeat (first | refine blk_drewN ?_ _ | refine blk_drew ?_ | refine blk_alloc ?_ _)); exact BK299.out) hb)
   have n4_ := Aside0.mk (below_step (by repeat (first | (with_reducible first | exact HB.out | apply below_alloc | apply pw_below_drewN | apply below_drew1 | refine below_set ?_ GE288.out | refine below_set ?_ GE299.out) | exact HB.out)) hb)
   clear HO295; clear BK288; clear BK299; clear HB
   have HO295 := n0_
   have HO298 := n1_
   have BK288 := n2_
   have BK299 := n3_
   have HB := n4_
   clear n0_ n1_ n2_ n3_ n4_
   (try clear hb)
   (try clear hb2)
   (try clear hk)
   (try clear hi)
   (try clear ho0)
   refine hK.out _ _ ⟨(blk_cell BK288.out 0).trans rfl, (blk_cell BK288.out 1).trans rfl, (blk_cell BK288.out 2).trans rfl, (blk_cell BK288.out 3).trans rfl, (blk_cell BK288.out 4).trans rfl, (blk_cell BK288.out 5).trans rfl, (blk_cell BK288.out 6).trans rfl, (blk_cell BK288.out 7).trans rfl⟩ (fun hHeld => ?_)
   clear hK K
   refine norm_ (a' := ?_) ?_ ?_
   rotate_left
   · show Act.put _ (some 20) _ = _
     simp only [Act.put, List.setIfInBounds_toArray, List.set_cons_zero, List.set_cons_succ, i64_w, i32_w]; rfl
   exact norm_ (by simp only [putAll, Act.put, List.setIfInBounds_toArray, List.set_cons_zero, List.set_cons_succ]) (hCont (v294, v297, gb299) _ ⟨hHeld, (by (with_reducible repeat (first | apply Kd.R_alloc | apply Kd.R_drewN | apply Kd.R_drew)); exact HO295.out), (by (with_reducible repeat (first | apply Kd.R_alloc | apply Kd.R_drewN | apply Kd.R_drew)); exact HO298.out), (by (with_reducible repeat (first | refine blk_drewN ?_ _ | refine blk_drew ?_ | refine blk_alloc ?_ _)); exact BK288.out), (by (with_reducible repeat (first | refine blk_drewN ?_ _ | refine blk_drew ?_ | refine blk_alloc ?_ _)); exact BK299.out), GW299.out, GE299.out, NB288_299.out, NB299_288.out, (by repeat (first | (with_reducible first | exact HB.out | apply below_alloc | apply pw_below_drewN | apply below_drew1 | refine below_set ?_ GE288.out | refine below_set ?_ GE299.out) | exact HB.out))⟩)
 rintro ⟨v294, v297, gb299⟩ w16 ⟨hS_, h0_, h1_, h2_, h3_, h4_, h5_, h6_, h7_, h8_⟩
 have n0_ : Aside0 (Kd.R k86 86 w16 w.heap.size (fun _ => True) v294 t293) := ⟨h0_⟩
 have n1_ : Aside0 (Kd.R k79 79 w16 w.heap.size (fun _ => True) v297 t296) := ⟨h1_⟩
 have n2_ : Aside0 (w16.heap[gb288]? = some (.cells #[.int .i64 a0_0, .int .i64 a0_1, .slice A0_2 l0_2.length c0_2, .slice A0_3 l0_3.length c0_3, .int .i64 a0_4, .int .i64 a0_5, .int .i64 a0_6, .int .i64 a0_7] 29 (0, 0))) := ⟨h2_⟩
 have n3_ : Aside0 (w16.heap[gb299]? = some (.cells #[.int .i64 0, .int .i64 0, .slice none 0 0] 34 (0, 0))) := ⟨h3_⟩
 have n4_ : Aside0 (w.heap.size ≤ gb299) := ⟨h4_⟩
 have n5_ : Aside0 (w.heap.size ≤ gb299) := ⟨h5_⟩
 have n6_ : Aside0 (gb288 ≠ gb299) := ⟨h6_⟩
 have n7_ : Aside0 (gb299 ≠ gb288) := ⟨h7_⟩
 have n8_ : Aside0 (Below w.heap.size w w16) := ⟨h8_⟩
 clear BK288; clear HB; clear h0_ h1_ h2_ h3_ h4_ h5_ h6_ h7_ h8_
 have HO295 := n0_
 have HO298 := n1_
 have BK288 := n2_
 have BK299 := n3_
 have GW299 := n4_
 have GE299 := n5_
 have NB288_299 := n6_
 have NB299_288 := n7_
 have HB := n8_
 clear n0_ n1_ n2_ n3_ n4_ n5_ n6_ n7_ n8_
 have hHeld : w16.cell? ⟨gb288, 0, none⟩ = some (.int .i64 a0_0) ∧ w16.cell? ⟨gb288, 1, none⟩ = some (.int .i64 a0_1) ∧ w16.cell? ⟨gb288, 2, none⟩ = some (.slice A0_2 l0_2.length c0_2) ∧ w16.cell? ⟨gb288, 3, none⟩ = some (.slice A0_3 l0_3.length c0_3) ∧ w16.cell? ⟨gb288, 4, none⟩ = some (.int .i64 a0_4) ∧ w16.cell? ⟨gb288, 5, none⟩ = some (.int .i64 a0_5) ∧ w16.cell? ⟨gb288, 6, none⟩ = some (.int .i64 a0_6) ∧ w16.cell? ⟨gb288, 7, none⟩ = some (.int .i64 a0_7) := hS_
 obtain ⟨Ao19, co19, eo19⟩ := Kd.R_slice HO295.out
 (first | subst eo19 | (injection eo19 with f1_ f2_ f3_; have f4_ := f1_.symm; have f5_ := f3_.symm; clear f1_ f2_ f3_; subst f4_; subst f5_))
 refine norm_ (a' := ?_) ?_ ?_
 rotate_left
 · simp only [putAll, Act.put, List.setIfInBounds_toArray, List.set_cons_zero, List.set_cons_succ]; rfl
 refine one_ (i := 7) (N := none) #[true, true, true, true, true, true, true, true, false] rfl rfl (one_of HT_.out (by kernel_rfl)) (by decide) (fun K hK => ?_)
 have hs17 : w16.cell? ⟨gb299, 0, none⟩ = some (.int .i64 0) := (blk_cell BK299.out 0).trans rfl
 have hfs17 := blk_frozen BK299.out 0
 have hns17_0 := NB288_299.out
 have hms17_0 := NB299_288.out
 have hs18 : w16.cell? ⟨gb299, 1, none⟩ = some (.int .i64 0) := (blk_cell BK299.out 1).trans rfl
 have hfs18 := blk_frozen BK299.out 1
 have hns18_0 := NB288_299.out
 have hms18_0 := NB299_288.out
 have hs20 : w16.cell? ⟨gb299, 2, none⟩ = some (.slice none 0 0) := (blk_cell BK299.out 2).trans rfl
 have hfs20 := blk_frozen BK299.out 2
 have hns20_0 := NB288_299.out
 have hms20_0 := NB299_288.out
 refine skip_ (w1 := ?_) (by rfl) rfl ?_ ?_
 rotate_left
 · go_simp; rfl
 refine hK.out _ _ ⟨((cell_far (p := ⟨gb299, _, none⟩) NB288_299.out _).trans (((cell_far (p := ⟨gb299, _, none⟩) NB288_299.out _).trans (((cell_far (p := ⟨gb299, _, none⟩) NB288_299.out _).trans (hHeld.1)))))), ((cell_far (p := ⟨gb299, _, none⟩) NB288_299.out _).trans (((cell_far (p := ⟨gb299, _, none⟩) NB288_299.out _).trans (((cell_far (p := ⟨gb299, _, none⟩) NB288_299.out _).trans (hHeld.2.1)))))), ((cell_far (p := ⟨gb299, _, none⟩) NB288_299.out _).trans (((cell_far (p := ⟨gb299, _, none⟩) NB288_299.out _).trans (((cell_far (p := ⟨gb299, _, none⟩) NB288_299.out _).trans (hHeld.2.2.1)))))), ((cell_far (p := ⟨gb299, _, none⟩) NB288_299.out _).trans (((cell_far (p := ⟨gb299, _, none⟩) NB288_299.out _).trans (((cell_far (p := ⟨gb299, _, none⟩) NB288_299.out _).trans (hHeld.2.2.2.1)))))), ((cell_far (p := ⟨gb299, _, none⟩) NB288_299.out _).trans (((cell_far (p := ⟨gb299, _, none⟩) NB288_299.out _).trans (((cell_far (p := ⟨gb299, _, none⟩) NB288_299.out _).trans (hHeld.2.2.2.2.1)))))), ((cell_far (p := ⟨gb299, _, none⟩) NB288_299.out _).trans (((cell_far (p := ⟨gb299, _, none⟩) NB288_299.out _).trans (((cell_far (p := ⟨gb299, _, none⟩) NB288_299.out _).trans (hHeld.2.2.2.2.2.1)))))), ((cell_far (p := ⟨gb299, _, none⟩) NB288_299.out _).trans (((cell_far (p := ⟨gb299, _, none⟩) NB288_299.out _).trans (((cell_far (p := ⟨gb299, _, none⟩) NB288_299.out _).trans (hHeld.2.2.2.2.2.2.1)))))), ((cell_far (p := ⟨gb299, _, none⟩) NB288_299.out _).trans (((cell_far (p := ⟨gb299, _, none⟩) NB288_299.out _).trans (((cell_far (p := ⟨gb299, _, none⟩) NB288_299.out _).trans (hHeld.2.2.2.2.2.2.2))))))⟩ (fun hHeld => ?_)
 clear hK K
 refine pure_ (i := 8) (N := some 4) (v := ?_) (a' := ?_) #[true, true, true, true, true, true, true, true, true] rfl rfl (any_of HT_.out (by kernel_rfl)) (fun _ _ _ h => h) (Or.inl ⟨by rfl, ?_⟩) ?_ ?_
 rotate_left
 · intro w'; go_simp; with_reducible rfl
 rotate_left
 · simp only [Act.put, List.setIfInBounds_toArray, List.set_cons_zero, List.set_cons_succ, i64_w, i32_w]; rfl
 refine done_ (done_of HT_.out (by kernel_rfl)) ?_
 have hnb21 := NB288_299.out
 have hnc21 := NB299_288.out
 have hcz22_0 : w16.cell? ⟨gb288, 0, none⟩ = some (.int .i64 a0_0) := (blk_cell BK288.out 0).trans rfl
 have hcz22_1 : w16.cell? ⟨gb288, 1, none⟩ = some (.int .i64 a0_1) := (blk_cell BK288.out 1).trans rfl
 have hcz22_2 : w16.cell? ⟨gb288, 2, none⟩ = some (.slice A0_2 l0_2.length c0_2) := (blk_cell BK288.out 2).trans rfl
 have hcz22_3 : w16.cell? ⟨gb288, 3, none⟩ = some (.slice A0_3 l0_3.length c0_3) := (blk_cell BK288.out 3).trans rfl
 have hcz22_4 : w16.cell? ⟨gb288, 4, none⟩ = some (.int .i64 a0_4) := (blk_cell BK288.out 4).trans rfl
 have hcz22_5 : w16.cell? ⟨gb288, 5, none⟩ = some (.int .i64 a0_5) := (blk_cell BK288.out 5).trans rfl
 have hcz22_6 : w16.cell? ⟨gb288, 6, none⟩ = some (.int .i64 a0_6) := (blk_cell BK288.out 6).trans rfl
 have hcz22_7 : w16.cell? ⟨gb288, 7, none⟩ = some (.int .i64 a0_7) := (blk_cell BK288.out 7).trans rfl
 have hfz22_0 := blk_frozen BK288.out 0
 have hfz22_1 := blk_frozen BK288.out 1
 have hfz22_2 := blk_frozen BK288.out 2
 have hfz22_3 := blk_frozen BK288.out 3
 have hfz22_4 := blk_frozen BK288.out 4
 have hfz22_5 := blk_frozen BK288.out 5
 have hfz22_6 := blk_frozen BK288.out 6
 have hfz22_7 := blk_frozen BK288.out 7
 go_upto_region 6 with (first | ((with_reducible refine gate_callee (f := 12) rfl ?_); refine goesL_ (some 26) rfl rfl Try.func12 (by kernel_rfl) rfl #[.agg #[.int .i64 a0_0, .int .i64 a0_1, .slice A0_2 l0_2.length c0_2], .slice A0_3 l0_3.length c0_3] rfl (by (try simp only [List.map_toArray, List.map_cons, List.map_nil]); first | done | rfl | (simp only [List.length_drop, List.length_take]; rfl)) ?_; (with_reducible refine (balance_Shards.calls k a0_0 a0_1 _ _ l0_2 _ _ l0_3 t300 t303 _ ?side1 ?side2 ?side3 ?side4 A6.out).mono ?_); (case side1 => exact Kd.C_below HR0_2.out (by repeat (first | (with_reducible first | exact HB.out | apply below_alloc | apply pw_below_drewN | apply below_drew1 | refine below_set ?_ GE288.out | refine below_set ?_ GE299.out) | exact HB.out))); (case side2 => exact HC0_2.out); (case side3 => exact Kd.C_below HR0_3.out (by repeat (first | (with_reducible first | exact HB.out | apply below_alloc | apply pw_below_drewN | apply below_drew1 | refine below_set ?_ GE288.out | refine below_set ?_ GE299.out) | exact HB.out))); (case side4 => exact HC0_3.out); rintro e w23 ⟨v301, rfl, ho0, hb⟩; refine ⟨_, rfl, ?_⟩; have n0_ := Aside0.mk (Kd.R_below (by (with_reducible repeat (first | apply Kd.R_alloc | apply Kd.R_drewN | apply Kd.R_drew)); exact (Kd.R_mono (Kd.R_far (p := ⟨gb299, 2, none⟩) (Kd.R_far (p := ⟨gb299, 1, none⟩) (Kd.R_far (p := ⟨gb299, 0, none⟩) (Kd.R_types HO295.out BK299.out (by decide)) (fun _ hk => hk.2) (.int .i64 t291)) (fun _ hk => hk.2) (.int .i64 t292)) (fun _ hk => hk.2) (.slice Ao19 t293.length co19)) (fun _ h_ => h_.1))) hb); have n1_ := Aside0.mk (Kd.R_below (by (with_reducible repeat (first | apply Kd.R_alloc | apply Kd.R_drewN | apply Kd.R_drew)); exact (Kd.R_mono (Kd.R_far (p := ⟨gb299, 2, none⟩) (Kd.R_far (p := ⟨gb299, 1, none⟩) (Kd.R_far (p := ⟨gb299, 0, none⟩) (Kd.R_types HO298.out BK299.out (by decide)) (fun _ hk => hk.2) (.int .i64 t291)) (fun _ hk => hk.2) (.int .i64 t292)) (fun _ hk => hk.2) (.slice Ao19 t293.length co19)) (fun _ h_ => h_.1))) hb); have n2_ := Aside0.mk (Kd.R_lower ho0 (below_size (by repeat (first | (with_reducible first | exact HB.out | apply below_alloc | apply pw_below_drewN | apply below_drew1 | refine below_set ?_ GE288.out | refine below_set ?_ GE299.out) | exact HB.out)))); have n3_ := Aside0.mk (blk_below (g := gb288) (o := .cells #[.int .i64 a0_0, .int .i64 a0_1, .slice A0_2 l0_2.length c0_2, .slice A0_3 l0_3.length c0_3, .int .i64 a0_4, .int .i64 a0_5, .int .i64 a0_6, .int .i64 a0_7] 29 (0, 0)) (by (with_reducible repeat (first | refine blk_drewN ?_ _ | refine blk_drew ?_ | refine blk_alloc ?_ _)); refine blk_far ?_ NB288_299.out _; (with_reducible repeat (first | refine blk_drewN ?_ _ | refine blk_drew ?_ | refine blk_alloc ?_ _)); refine blk_far ?_ NB288_299.out _; (with_reducible repeat (first | refine blk_drewN ?_ _ | refine blk_drew ?_ | refine blk_alloc ?_ _)); refine blk_far ?_ NB288_299.out _; (with_reducible repeat (first | refine blk_drewN ?_ _ | refine blk_drew ?_ | refine blk_alloc ?_ _)); exact BK288.out) hb); have n4_ := Aside0.mk (blk_below (g := gb299) (o := .cells #[.int .i64 t291, .int .i64 t292, .slice Ao19 t293.length co19] 34 (0, 0)) (by (with_reducible repeat (first | refine blk_drewN ?_ _ | refine blk_drew ?_ | refine blk_alloc ?_ _)); refine blk_put (cs := #[.int .i64 t291, .int .i64 t292, .slice none 0 0]) ?_ 2 _ rfl; (with_reducible repeat (first | refine blk_drewN ?_ _ | refine blk_drew ?_ | refine blk_alloc ?_ _)); refine blk_put (cs := #[.int .i64 t291, .int .i64 0, .slice none 0 0]) ?_ 1 _ rfl; (with_reducible repeat (first | refine blk_drewN ?_ _ | refine blk_drew ?_ | refine blk_alloc ?_ _)); refine blk_put (cs := #[.int .i64 0, .int .i64 0, .slice none 0 0]) ?_ 0 _ rfl; (with_reducible repeat (first | refine blk_drewN ?_ _ | refine blk_drew ?_ | refine blk_alloc ?_ _)); exact BK299.out) hb); have n5_ := Aside0.mk (below_step (by repeat (first | (with_reducible first | exact HB.out | apply below_alloc | apply pw_below_drewN | apply below_drew1 | refine below_set ?_ GE288.out | refine below_set ?_ GE299.out) | exact HB.out)) hb); clear HO295; clear HO298; clear BK288; clear BK299; clear HB; have HO295 := n0_; have HO298 := n1_; have HO302 := n2_; have BK288 := n3_; have BK299 := n4_; have HB := n5_; clear n0_ n1_ n2_ n3_ n4_ n5_; (try clear hb); (try clear hb2); (try clear hk); (try clear hi); (try clear ho0); have hcz24_0 : w23.cell? ⟨gb288, 0, none⟩ = some (.int .i64 a0_0) := (blk_cell BK288.out 0).trans rfl; have hcz24_1 : w23.cell? ⟨gb288, 1, none⟩ = some (.int .i64 a0_1) := (blk_cell BK288.out 1).trans rfl; have hcz24_2 : w23.cell? ⟨gb288, 2, none⟩ = some (.slice A0_2 l0_2.length c0_2) := (blk_cell BK288.out 2).trans rfl; have hcz24_3 : w23.cell? ⟨gb288, 3, none⟩ = some (.slice A0_3 l0_3.length c0_3) := (blk_cell BK288.out 3).trans rfl; have hcz24_4 : w23.cell? ⟨gb288, 4, none⟩ = some (.int .i64 a0_4) := (blk_cell BK288.out 4).trans rfl; have hcz24_5 : w23.cell? ⟨gb288, 5, none⟩ = some (.int .i64 a0_5) := (blk_cell BK288.out 5).trans rfl; have hcz24_6 : w23.cell? ⟨gb288, 6, none⟩ = some (.int .i64 a0_6) := (blk_cell BK288.out 6).trans rfl; have hcz24_7 : w23.cell? ⟨gb288, 7, none⟩ = some (.int .i64 a0_7) := (blk_cell BK288.out 7).trans rfl; have hfz24_0 := blk_frozen BK288.out 0; have hfz24_1 := blk_frozen BK288.out 1; have hfz24_2 := blk_frozen BK288.out 2; have hfz24_3 := blk_frozen BK288.out 3; have hfz24_4 := blk_frozen BK288.out 4; have hfz24_5 := blk_frozen BK288.out 5; have hfz24_6 := blk_frozen BK288.out 6; have hfz24_7 := blk_frozen BK288.out 7) | ((with_reducible refine gate_callee (f := 13) rfl ?_); refine goesL_ (some 36) rfl rfl Try.func13 (by kernel_rfl) rfl #[.agg #[.int .i64 a0_0, .int .i64 a0_1, .slice A0_2 l0_2.length c0_2], .slice A0_3 l0_3.length c0_3, .int .i64 a0_7] rfl (by (try simp only [List.map_toArray, List.map_cons, List.map_nil]); first | done | rfl | (simp only [List.length_drop, List.length_take]; rfl)) ?_; (with_reducible refine (balance_Nodes.calls k a0_0 a0_1 _ _ l0_2 _ _ l0_3 a0_7 t304 t307 _ ?side1 ?side2 ?side3 ?side4 A7.out).mono ?_); (case side1 => repeat (first | exact (Kd.C_below HR0_2.out HB.out) | (with_reducible refine Kd.C_alloc ?_ _) | (with_reducible refine Kd.C_drewN ?_ _) | (with_reducible refine Kd.C_drew ?_))); (case side2 => exact HC0_2.out); (case side3 => repeat (first | exact (Kd.C_below HR0_3.out HB.out) | (with_reducible refine Kd.C_alloc ?_ _) | (with_reducible refine Kd.C_drewN ?_ _) | (with_reducible refine Kd.C_drew ?_))); (case side4 => exact HC0_3.out); rintro e w25 ⟨v305, rfl, ho0, hb⟩; refine ⟨_, rfl, ?_⟩; have n0_ := Aside0.mk (Kd.R_below (by (with_reducible repeat (first | apply Kd.R_alloc | apply Kd.R_drewN | apply Kd.R_drew)); exact HO295.out) hb); have n1_ := Aside0.mk (Kd.R_below (by (with_reducible repeat (first | apply Kd.R_alloc | apply Kd.R_drewN | apply Kd.R_drew)); exact HO298.out) hb); have n2_ := Aside0.mk (Kd.R_elder' (by (with_reducible repeat (first | apply Kd.R_alloc | apply Kd.R_drewN | apply Kd.R_drew)); exact HO302.out) (Kd.R_base ho0) hb); have n3_ := Aside0.mk (Kd.R_lower (Kd.R_new' ho0 (Kd.R_lt (by (with_reducible repeat (first | apply Kd.R_alloc | apply Kd.R_drewN | apply Kd.R_drew)); exact HO302.out))) (below_size (by repeat (first | (with_reducible first | exact HB.out | apply below_alloc | apply pw_below_drewN | apply below_drew1 | refine below_set ?_ GE288.out | refine below_set ?_ GE299.out) | exact HB.out)))); have n4_ := Aside0.mk (blk_below (g := gb288) (o := .cells #[.int .i64 a0_0, .int .i64 a0_1, .slice A0_2 l0_2.length c0_2, .slice A0_3 l0_3.length c0_3, .int .i64 a0_4, .int .i64 a0_5, .int .i64 a0_6, .int .i64 a0_7] 29 (0, 0)) (by (with_reducible repeat (first | refine blk_drewN ?_ _ | refine blk_drew ?_ | refine blk_alloc ?_ _)); exact BK288.out) hb); have n5_ := Aside0.mk (blk_below (g := gb299) (o := .cells #[.int .i64 t291, .int .i64 t292, .slice Ao19 t293.length co19] 34 (0, 0)) (by (with_reducible repeat (first | refine blk_drewN ?_ _ | refine blk_drew ?_ | refine blk_alloc ?_ _)); exact BK299.out) hb); have n6_ := Aside0.mk (below_step (by repeat (first | (with_reducible first | exact HB.out | apply below_alloc | apply pw_below_drewN | apply below_drew1 | refine below_set ?_ GE288.out | refine below_set ?_ GE299.out) | exact HB.out)) hb); clear HO295; clear HO298; clear HO302; clear BK288; clear BK299; clear HB; have HO295 := n0_; have HO298 := n1_; have HO302 := n2_; have HO306 := n3_; have BK288 := n4_; have BK299 := n5_; have HB := n6_; clear n0_ n1_ n2_ n3_ n4_ n5_ n6_; (try clear hb); (try clear hb2); (try clear hk); (try clear hi); (try clear ho0)))
 (try simp only [Act.put, List.setIfInBounds_toArray, List.set_cons_zero, List.set_cons_succ])
 go_cut [9] (fun v9 wc => ∃ (kq : Nat) (x9_7 : Bool), v9 = .bool x9_7 ∧ Aside0 (splicelaw25_BalanceLoads.j0 kq t296 t300 t303 t304 t307 x9_7 a0_0 a0_1 l0_2 l0_3 a0_4 a0_5 a0_6 a0_7 t291 t292 t293 = some r) ∧ Aside0 (kq ≤ k) ∧ Aside0 (Kd.R k79 79 wc w.heap.size (fun _ => True) v297 t296) ∧ Aside0 (Kd.R (Kd.int .i64) 3 wc w.heap.size (fun k_ => some k_ ≠ (v305 : Value).ownBlock) v301 t300) ∧ Aside0 (Kd.R (Kd.int .i64) 3 wc w.heap.size (fun k_ => some k_ ≠ (v301 : Value).ownBlock) v305 t304) ∧ Aside0 (Kd.R k86 86 wc w.heap.size (fun _ => True) (.slice Ao19 t293.length co19) t293) ∧ Aside0 (wc.heap[gb288]? = some (.cells #[.int .i64 a0_0, .int .i64 a0_1, (.slice A0_2 l0_2.length c0_2), (.slice A0_3 l0_3.length c0_3), .int .i64 a0_4, .int .i64 a0_5, .int .i64 a0_6, .int .i64 a0_7] 29 (0, 0))) ∧ Aside0 (wc.heap[gb299]? = some (.cells #[.int .i64 t291, .int .i64 t292, (.slice Ao19 t293.length co19)] 34 (0, 0))) ∧ Aside0 (Below w.heap.size w wc))
 case first =>
   have H := HC8.out
   clear HC8
   replace H := Option.bind_eq_some_iff.mp H
   obtain ⟨t308, A260, H⟩ := H
   replace H : (if t308 = true then ((spliceref25_Loads.f k t296).bind fun t309 => (splicelaw25_BalanceLoads.j0 k t296 t300 t303 t304 t307 t309 a0_0 a0_1 l0_2 l0_3 a0_4 a0_5 a0_6 a0_7 t291 t292 t293)) else (splicelaw25_BalanceLoads.j0 k t296 t300 t303 t304 t307 false a0_0 a0_1 l0_2 l0_3 a0_4 a0_5 a0_6 a0_7 t291 t292 t293)) = some r := H
   have A26 := Aside0.mk A260
   clear A260
   by_cases c27 : t308 = true
   rotate_left
   · replace c27 := Bool.eq_false_iff.mpr c27
     subst c27
     have H1 : (splicelaw25_BalanceLoads.j0 k t296 t300 t303 t304 t307 false a0_0 a0_1 l0_2 l0_3 a0_4 a0_5 a0_6 a0_7 t291 t292 t293) = some r := by rw [if_neg (show ¬ (false = true) by decide)] at H; exact H
     clear H
     have H := H1
     clear H1
     have H' := Aside0.mk H
     clear H
     have hnb33 := NB299_288.out
     have hnc33 := NB288_299.out
     have hcz34_0 : w25.cell? ⟨gb299, 0, none⟩ = some (.int .i64 t291) := (blk_cell BK299.out 0).trans rfl
     have hcz34_1 : w25.cell? ⟨gb299, 1, none⟩ = some (.int .i64 t292) := (blk_cell BK299.out 1).trans rfl
     have hcz34_2 : w25.cell? ⟨gb299, 2, none⟩ = some (.slice Ao19 t293.length co19) := (blk_cell BK299.out 2).trans rfl
     have hfz34_0 := blk_frozen BK299.out 0
     have hfz34_1 := blk_frozen BK299.out 1
     have hfz34_2 := blk_frozen BK299.out 2
     go_wp2_with (first | ((with_reducible refine gate_callee (f := 14) rfl ?_); refine goesL_ (some 40) rfl rfl Try.func14 (by kernel_rfl) rfl #[.agg #[.int .i64 t291, .int .i64 t292, .slice Ao19 t293.length co19]] rfl (by (try simp only [List.map_toArray, List.map_cons, List.map_nil]); first | done | rfl | (simp only [List.length_drop, List.length_take]; rfl)) ?_; (with_reducible refine (spliceref08_Check.calls k t291 t292 _ _ t293 false _ ?side1 ?side2 A26.out).mono ?_); (case side1 => repeat (first | exact (Kd.R_reads' HO295.out).2.2 | (with_reducible refine Kd.C_alloc ?_ _) | (with_reducible refine Kd.C_drewN ?_ _) | (with_reducible refine Kd.C_drew ?_))); (case side2 => exact (Kd.R_reads' HO295.out).2.1); rintro e w35 ⟨rfl, hb⟩; refine ⟨_, rfl, ?_⟩; have n0_ := Aside0.mk (Kd.R_below (by (with_reducible repeat (first | apply Kd.R_alloc | apply Kd.R_drewN | apply Kd.R_drew)); exact HO295.out) hb); have n1_ := Aside0.mk (Kd.R_below (by (with_reducible repeat (first | apply Kd.R_alloc | apply Kd.R_drewN | apply Kd.R_drew)); exact HO298.out) hb); have n2_ := Aside0.mk (Kd.R_below (by (with_reducible repeat (first | apply Kd.R_alloc | apply Kd.R_drewN | apply Kd.R_drew)); exact HO302.out) hb); have n3_ := Aside0.mk (Kd.R_below (by (with_reducible repeat (first | apply Kd.R_alloc | apply Kd.R_drewN | apply Kd.R_drew)); exact HO306.out) hb); have n4_ := Aside0.mk (blk_below (g := gb288) (o := .cells #[.int .i64 a0_0, .int .i64 a0_1, .slice A0_2 l0_2.length c0_2, .slice A0_3 l0_3.length c0_3, .int .i64 a0_4, .int .i64 a0_5, .int .i64 a0_6, .int .i64 a0_7] 29 (0, 0)) (by (with_reducible repeat (first | refine blk_drewN ?_ _ | refine blk_drew ?_ | refine blk_alloc ?_ _)); exact BK288.out) hb); have n5_ := Aside0.mk (blk_below (g := gb299) (o := .cells #[.int .i64 t291, .int .i64 t292, .slice Ao19 t293.length co19] 34 (0, 0)) (by (with_reducible repeat (first | refine blk_drewN ?_ _ | refine blk_drew ?_ | refine blk_alloc ?_ _)); exact BK299.out) hb); have n6_ := Aside0.mk (below_step (by repeat (first | (with_reducible first | exact HB.out | apply below_alloc | apply pw_below_drewN | apply below_drew1 | refine below_set ?_ GE288.out | refine below_set ?_ GE299.out) | exact HB.out)) hb); clear HO295; clear HO298; clear HO302; clear HO306; clear BK288; clear BK299; clear HB; have HO295 := n0_; have HO298 := n1_; have HO302 := n2_; have HO306 := n3_; have BK288 := n4_; have BK299 := n5_; have HB := n6_; clear n0_ n1_ n2_ n3_ n4_ n5_ n6_; (try clear hb); (try clear hb2); (try clear hk); (try clear hi)))
     go_meet
     case rel => exact ⟨_, (false), (by first | rfl | (simp; done) | (simp [*]; done)), H', ⟨by first | omega | exact Nat.le_refl _⟩, ⟨by (with_reducible repeat (first | apply Kd.R_alloc | apply Kd.R_drewN | apply Kd.R_drew)); exact HO298.out⟩, ⟨by (with_reducible repeat (first | apply Kd.R_alloc | apply Kd.R_drewN | apply Kd.R_drew)); exact Kd.R_mono HO302.out (fun _ hk => hk.2)⟩, ⟨by (with_reducible repeat (first | apply Kd.R_alloc | apply Kd.R_drewN | apply Kd.R_drew)); exact Kd.R_mono HO306.out (fun _ hk => hk.2)⟩, ⟨by (with_reducible repeat (first | apply Kd.R_alloc | apply Kd.R_drewN | apply Kd.R_drew)); exact HO295.out⟩, ⟨by (with_reducible repeat (first | refine blk_drewN ?_ _ | refine blk_drew ?_ | refine blk_alloc ?_ _)); exact BK288.out⟩, ⟨by (with_reducible repeat (first | refine blk_drewN ?_ _ | refine blk_drew ?_ | refine blk_alloc ?_ _)); exact BK299.out⟩, ⟨by repeat (first | (with_reducible first | exact HB.out | apply below_alloc | apply pw_below_drewN | apply below_drew1 | refine below_set ?_ GE288.out | refine below_set ?_ GE299.out) | exact HB.out)⟩⟩
   subst c27
   have H1 : ((spliceref25_Loads.f k t296).bind fun t309 => (splicelaw25_BalanceLoads.j0 k t296 t300 t303 t304 t307 t309 a0_0 a0_1 l0_2 l0_3 a0_4 a0_5 a0_6 a0_7 t291 t292 t293)) = some r := by rw [if_pos rfl] at H; exact H
   clear H
   have H := H1
   clear H1
   replace H := Option.bind_eq_some_iff.mp H
   obtain ⟨t309, A280, H⟩ := H
   replace H : (splicelaw25_BalanceLoads.j0 k t296 t300 t303 t304 t307 t309 a0_0 a0_1 l0_2 l0_3 a0_4 a0_5 a0_6 a0_7 t291 t292 t293) = some r := H
   have A28 := Aside0.mk A280
   clear A280
   have H' := Aside0.mk H
   clear H
   have hnb29 := NB299_288.out
   have hnc29 := NB288_299.out
   have hcz30_0 : w25.cell? ⟨gb299, 0, none⟩ = some (.int .i64 t291) := (blk_cell BK299.out 0).trans rfl
   have hcz30_1 : w25.cell? ⟨gb299, 1, none⟩ = some (.int .i64 t292) := (blk_cell BK299.out 1).trans rfl
   have hcz30_2 : w25.cell? ⟨gb299, 2, none⟩ = some (.slice Ao19 t293.length co19) := (blk_cell BK299.out 2).trans rfl
   have hfz30_0 := blk_frozen BK299.out 0
   have hfz30_1 := blk_frozen BK299.out 1
   have hfz30_2 := blk_frozen BK299.out 2
   go_wp2_with (first | ((with_reducible refine gate_callee (f := 14) rfl ?_); refine goesL_ (some 40) rfl rfl Try.func14 (by kernel_rfl) rfl #[.agg #[.int .i64 t291, .int .i64 t292, .slice Ao19 t293.length co19]] rfl (by (try simp only [List.map_toArray, List.map_cons, List.map_nil]); first | done | rfl | (simp only [List.length_drop, List.length_take]; rfl)) ?_; (with_reducible refine (spliceref08_Check.calls k t291 t292 _ _ t293 true _ ?side1 ?side2 A26.out).mono ?_); (case side1 => repeat (first | exact (Kd.R_reads' HO295.out).2.2 | (with_reducible refine Kd.C_alloc ?_ _) | (with_reducible refine Kd.C_drewN ?_ _) | (with_reducible refine Kd.C_drew ?_))); (case side2 => exact (Kd.R_reads' HO295.out).2.1); rintro e w31 ⟨rfl, hb⟩; refine ⟨_, rfl, ?_⟩; have n0_ := Aside0.mk (Kd.R_below (by (with_reducible repeat (first | apply Kd.R_alloc | apply Kd.R_drewN | apply Kd.R_drew)); exact HO295.out) hb); have n1_ := Aside0.mk (Kd.R_below (by (with_reducible repeat (first | apply Kd.R_alloc | apply Kd.R_drewN | apply Kd.R_drew)); exact HO298.out) hb); have n2_ := Aside0.mk (Kd.R_below (by (with_reducible repeat (first | apply Kd.R_alloc | apply Kd.R_drewN | apply Kd.R_drew)); exact HO302.out) hb); have n3_ := Aside0.mk (Kd.R_below (by (with_reducible repeat (first | apply Kd.R_alloc | apply Kd.R_drewN | apply Kd.R_drew)); exact HO306.out) hb); have n4_ := Aside0.mk (blk_below (g := gb288) (o := .cells #[.int .i64 a0_0, .int .i64 a0_1, .slice A0_2 l0_2.length c0_2, .slice A0_3 l0_3.length c0_3, .int .i64 a0_4, .int .i64 a0_5, .int .i64 a0_6, .int .i64 a0_7] 29 (0, 0)) (by (with_reducible repeat (first | refine blk_drewN ?_ _ | refine blk_drew ?_ | refine blk_alloc ?_ _)); exact BK288.out) hb); have n5_ := Aside0.mk (blk_below (g := gb299) (o := .cells #[.int .i64 t291, .int .i64 t292, .slice Ao19 t293.length co19] 34 (0, 0)) (by (with_reducible repeat (first | refine blk_drewN ?_ _ | refine blk_drew ?_ | refine blk_alloc ?_ _)); exact BK299.out) hb); have n6_ := Aside0.mk (below_step (by repeat (first | (with_reducible first | exact HB.out | apply below_alloc | apply pw_below_drewN | apply below_drew1 | refine below_set ?_ GE288.out | refine below_set ?_ GE299.out) | exact HB.out)) hb); clear HO295; clear HO298; clear HO302; clear HO306; clear BK288; clear BK299; clear HB; have HO295 := n0_; have HO298 := n1_; have HO302 := n2_; have HO306 := n3_; have BK288 := n4_; have BK299 := n5_; have HB := n6_; clear n0_ n1_ n2_ n3_ n4_ n5_ n6_; (try clear hb); (try clear hb2); (try clear hk); (try clear hi); obtain ⟨Ao32, co32, eo32⟩ := Kd.R_slice HO298.out; subst eo32) | (go_at_call 15; (with_reducible refine (spliceref25_Loads.calls k _ _ t296 t309 _ ?side1 ?side2 A28.out).mono ?_); (case side1 => repeat (first | exact (Kd.R_reads' HO298.out).2.2 | (with_reducible refine Kd.C_alloc ?_ _) | (with_reducible refine Kd.C_drewN ?_ _) | (with_reducible refine Kd.C_drew ?_))); (case side2 => exact (Kd.R_reads' HO298.out).2.1); rintro e w' ⟨rfl, ⟨nd, rfl⟩⟩))
   go_meet
   case rel => exact ⟨_, (t309), (by first | rfl | (simp; done) | (simp [*]; done)), H', ⟨by first | omega | exact Nat.le_refl _⟩, ⟨by (with_reducible repeat (first | apply Kd.R_alloc | apply Kd.R_drewN | apply Kd.R_drew)); exact HO298.out⟩, ⟨by (with_reducible repeat (first | apply Kd.R_alloc | apply Kd.R_drewN | apply Kd.R_drew)); exact Kd.R_mono HO302.out (fun _ hk => hk.2)⟩, ⟨by (with_reducible repeat (first | apply Kd.R_alloc | apply Kd.R_drewN | apply Kd.R_drew)); exact Kd.R_mono HO306.out (fun _ hk => hk.2)⟩, ⟨by (with_reducible repeat (first | apply Kd.R_alloc | apply Kd.R_drewN | apply Kd.R_drew)); exact HO295.out⟩, ⟨by (with_reducible repeat (first | refine blk_drewN ?_ _ | refine blk_drew ?_ | refine blk_alloc ?_ _)); exact BK288.out⟩, ⟨by (with_reducible repeat (first | refine blk_drewN ?_ _ | refine blk_drew ?_ | refine blk_alloc ?_ _)); exact BK299.out⟩, ⟨by repeat (first | (with_reducible first | exact HB.out | apply below_alloc | apply pw_below_drewN | apply below_drew1 | refine below_set ?_ GE288.out | refine below_set ?_ GE299.out) | exact HB.out)⟩⟩
 clear HC8
 try clear c1
 try clear c2
 try clear p2
 try clear c3
 try clear c8
 try clear c10
 try clear c11
 try clear c12
 try clear c13
 try clear c14
 try clear c21
 try clear c27
 try clear c29
 try clear c33
 try clear hcz10_0
 try clear hcz10_1
 try clear hcz10_2
 try clear hcz10_3
 try clear hcz10_4
 try clear hcz10_5
 try clear hcz10_6
 try clear hcz10_7
 try clear hcz22_0
 try clear hcz22_1
 try clear hcz22_2
 try clear hcz22_3
 try clear hcz22_4
 try clear hcz22_5
 try clear hcz22_6
 try clear hcz22_7
 try clear hcz24_0
 try clear hcz24_1
 try clear hcz24_2
 try clear hcz24_3
 try clear hcz24_4
 try clear hcz24_5
 try clear hcz24_6
 try clear hcz24_7
 try clear hcz30_0
 try clear hcz30_1
 try clear hcz30_2
 try clear hcz34_0
 try clear hcz34_1
 try clear hcz34_2
 try clear hfz10_0
 try clear hfz10_1
 try clear hfz10_2
 try clear hfz10_3
 try clear hfz10_4
 try clear hfz10_5
 try clear hfz10_6
 try clear hfz10_7
 try clear hfz22_0
 try clear hfz22_1
 try clear hfz22_2
 try clear hfz22_3
 try clear hfz22_4
 try clear hfz22_5
 try clear hfz22_6
 try clear hfz22_7
 try clear hfz24_0
 try clear hfz24_1
 try clear hfz24_2
 try clear hfz24_3
 try clear hfz24_4
 try clear hfz24_5
 try clear hfz24_6
 try clear hfz24_7
 try clear hfz30_0
 try clear hfz30_1
 try clear hfz30_2
 try clear hfz34_0
 try clear hfz34_1
 try clear hfz34_2
 obtain ⟨kq, x9_7, rfl, HA, HJ7, HO_4, HO_5, HO_7, HO_300002, BK288, BK299, HB⟩ := hcut
 cases kq with
 | zero => exact absurd HA.out (by simp [splicelaw25_BalanceLoads.j0])
 | succ kj7 => ?_
 have H := HA.out
 clear HA; simp only [splicelaw25_BalanceLoads.j0] at H
 have HC36 := Aside0.mk H
 clear H
 go_upto_region 7 with (fail)
 go_cut [72] (fun v72 wc => ∃ (kq : Nat) (x72_35 : Bool), v72 = .bool x72_35 ∧ Aside0 (splicelaw25_BalanceLoads.j1 kq t296 t304 t307 x72_35 a0_0 a0_1 l0_2 l0_3 a0_4 a0_5 a0_6 a0_7 t291 t292 t293 = some r) ∧ Aside0 (kq ≤ kj7) ∧ Aside0 (Kd.R k79 79 wc w.heap.size (fun _ => True) v297 t296) ∧ Aside0 (Kd.R (Kd.int .i64) 3 wc w.heap.size (fun _ => True) v305 t304) ∧ Aside0 (Kd.R k86 86 wc w.heap.size (fun _ => True) (.slice Ao19 t293.length co19) t293) ∧ Aside0 (wc.heap[gb288]? = some (.cells #[.int .i64 a0_0, .int .i64 a0_1, (.slice A0_2 l0_2.length c0_2), (.slice A0_3 l0_3.length c0_3), .int .i64 a0_4, .int .i64 a0_5, .int .i64 a0_6, .int .i64 a0_7] 29 (0, 0))) ∧ Aside0 (wc.heap[gb299]? = some (.cells #[.int .i64 t291, .int .i64 t292, (.slice Ao19 t293.length co19)] 34 (0, 0))) ∧ Aside0 (Below w.heap.size w wc))
 case first =>
   have H := HC36.out
   clear HC36
   by_cases c37 : ((t303 == 0) != x9_7) = true
   · rw [if_pos c37] at H
     have c37b0 : ((t303 == 0) != x9_7) = true := c37
     (try (have c37b1 : decide ((t303 == 0) = x9_7) = false := by simpa using c37))
     (try (have c37b2 : ((t303 == 0) == x9_7) = false := by simpa using c37))
     (try (have c37b3 : ¬ ((t303 == 0) = x9_7) := by simpa using c37))
     clear c37
     (first | rw [c37b0] | (simp only [i64_w, i32_w]; rw [c37b0]) | skip)
     have H' := Aside0.mk H
     clear H
     go_wp2
     go_meet
     case rel => exact ⟨_, (true), (by first | rfl | (simp; done) | (simp [*]; done)), H', ⟨by have := HJ7.out; first | omega | exact Nat.le_refl _⟩, ⟨by (with_reducible repeat (first | apply Kd.R_alloc | apply Kd.R_drewN | apply Kd.R_drew)); exact HO_4.out⟩, ⟨by (with_reducible repeat (first | apply Kd.R_alloc | apply Kd.R_drewN | apply Kd.R_drew)); exact Kd.R_mono HO_7.out (fun _ hk => trivial)⟩, ⟨by (with_reducible repeat (first | apply Kd.R_alloc | apply Kd.R_drewN | apply Kd.R_drew)); exact HO_300002.out⟩, ⟨by (with_reducible repeat (first | refine blk_drewN ?_ _ | refine blk_drew ?_ | refine blk_alloc ?_ _)); exact BK288.out⟩, ⟨by (with_reducible repeat (first | refine blk_drewN ?_ _ | refine blk_drew ?_ | refine blk_alloc ?_ _)); exact BK299.out⟩, ⟨by repeat (first | (with_reducible first | exact HB.out | apply below_alloc | apply pw_below_drewN | apply below_drew1 | refine below_set ?_ GE288.out | refine below_set ?_ GE299.out) | exact HB.out)⟩⟩
   rw [if_neg c37] at H
   have c37b0 : ((t303 == 0) != x9_7) = false := by simpa using c37
   (try (have c37b1 : decide ((t303 == 0) = x9_7) = true := by simpa using c37))
   (try (have c37b2 : ((t303 == 0) == x9_7) = true := by simpa using c37))
   clear c37
   (first | rw [c37b0] | (simp only [i64_w, i32_w]; rw [c37b0]) | skip)
   by_cases c38 : x9_7 = true
   rotate_left
   · replace c38 := Bool.eq_false_iff.mpr c38
     subst c38
     have H1 : (if t303 = 1 then (splicelaw25_BalanceLoads.j1 kj7 t296 t304 t307 ((t300.length : Int) != 0) a0_0 a0_1 l0_2 l0_3 a0_4 a0_5 a0_6 a0_7 t291 t292 t293) else (splicelaw25_BalanceLoads.j1 kj7 t296 t304 t307 true a0_0 a0_1 l0_2 l0_3 a0_4 a0_5 a0_6 a0_7 t291 t292 t293)) = some r := by rw [if_neg (show ¬ (false = true) by decide)] at H; exact H
     clear H
     have H := H1
     clear H1
     by_cases c54 : t303 = 1
     rotate_left
     · rw [if_neg c54] at H
       have c54b0 : (t303 == 1) = false := beq_eq_false_iff_ne.mpr c54
       have c54b1 : (t303 != 1) = true := bne_iff_ne.mpr c54
       have H' := Aside0.mk H
       clear H
       go_wp2
       go_meet
       case rel => exact ⟨_, (true), (by first | rfl | (simp; done) | (simp [*]; done)), H', ⟨by have := HJ7.out; first | omega | exact Nat.le_refl _⟩, ⟨by (with_reducible repeat (first | apply Kd.R_alloc | apply Kd.R_drewN | apply Kd.R_drew)); exact HO_4.out⟩, ⟨by (with_reducible repeat (first | apply Kd.R_alloc | apply Kd.R_drewN | apply Kd.R_drew)); exact Kd.R_mono HO_7.out (fun _ hk => trivial)⟩, ⟨by (with_reducible repeat (first | apply Kd.R_alloc | apply Kd.R_drewN | apply Kd.R_drew)); exact HO_300002.out⟩, ⟨by (with_reducible repeat (first | refine blk_drewN ?_ _ | refine blk_drew ?_ | refine blk_alloc ?_ _)); exact BK288.out⟩, ⟨by (with_reducible repeat (first | refine blk_drewN ?_ _ | refine blk_drew ?_ | refine blk_alloc ?_ _)); exact BK299.out⟩, ⟨by repeat (first | (with_reducible first | exact HB.out | apply below_alloc | apply pw_below_drewN | apply below_drew1 | refine below_set ?_ GE288.out | refine below_set ?_ GE299.out) | exact HB.out)⟩⟩
     rw [if_pos c54] at H
     have c54b0 : (t303 == 1) = true := beq_iff_eq.mpr c54
     have c54b1 : (t303 != 1) = false := bne_eq_false_iff_eq.mpr c54
     clear c54
     have H' := Aside0.mk H
     clear H
     obtain ⟨Ao55, co55, eo55⟩ := Kd.R_slice HO_5.out
     subst eo55
     go_wp2
     go_meet
     case rel => exact ⟨_, (((t300.length : Int) != 0)), (by first | rfl | (simp; done) | (simp [*]; done)), H', ⟨by have := HJ7.out; first | omega | exact Nat.le_refl _⟩, ⟨by (with_reducible repeat (first | apply Kd.R_alloc | apply Kd.R_drewN | apply Kd.R_drew)); exact HO_4.out⟩, ⟨by (with_reducible repeat (first | apply Kd.R_alloc | apply Kd.R_drewN | apply Kd.R_drew)); exact Kd.R_mono HO_7.out (fun _ hk => trivial)⟩, ⟨by (with_reducible repeat (first | apply Kd.R_alloc | apply Kd.R_drewN | apply Kd.R_drew)); exact HO_300002.out⟩, ⟨by (with_reducible repeat (first | refine blk_drewN ?_ _ | refine blk_drew ?_ | refine blk_alloc ?_ _)); exact BK288.out⟩, ⟨by (with_reducible repeat (first | refine blk_drewN ?_ _ | refine blk_drew ?_ | refine blk_alloc ?_ _)); exact BK299.out⟩, ⟨by repeat (first | (with_reducible first | exact HB.out | apply below_alloc | apply pw_below_drewN | apply below_drew1 | refine below_set ?_ GE288.out | refine below_set ?_ GE299.out) | exact HB.out)⟩⟩
   subst c38
   have H1 : ((spliceref25_Shards.f kj7 t291 t292 t293 t296).bind fun t310 => ((spliceref01_Same.f kj7 t300 t310).bind fun t313 => (if t313 = true then (splicelaw25_BalanceLoads.j1 kj7 t296 t304 t307 false a0_0 a0_1 l0_2 l0_3 a0_4 a0_5 a0_6 a0_7 t291 t292 t293) else (splicelaw25_BalanceLoads.j1 kj7 t296 t304 t307 true a0_0 a0_1 l0_2 l0_3 a0_4 a0_5 a0_6 a0_7 t291 t292 t293)))) = some r := by rw [if_pos rfl] at H; exact H
   clear H
   have H := H1
   clear H1
   replace H := Option.bind_eq_some_iff.mp H
   obtain ⟨t310, A390, H⟩ := H
   replace H : ((spliceref01_Same.f kj7 t300 t310).bind fun t313 => (if t313 = true then (splicelaw25_BalanceLoads.j1 kj7 t296 t304 t307 false a0_0 a0_1 l0_2 l0_3 a0_4 a0_5 a0_6 a0_7 t291 t292 t293) else (splicelaw25_BalanceLoads.j1 kj7 t296 t304 t307 true a0_0 a0_1 l0_2 l0_3 a0_4 a0_5 a0_6 a0_7 t291 t292 t293))) = some r := H
   have A39 := Aside0.mk A390
   clear A390
   replace H := Option.bind_eq_some_iff.mp H
   obtain ⟨t313, A400, H⟩ := H
   replace H : (if t313 = true then (splicelaw25_BalanceLoads.j1 kj7 t296 t304 t307 false a0_0 a0_1 l0_2 l0_3 a0_4 a0_5 a0_6 a0_7 t291 t292 t293) else (splicelaw25_BalanceLoads.j1 kj7 t296 t304 t307 true a0_0 a0_1 l0_2 l0_3 a0_4 a0_5 a0_6 a0_7 t291 t292 t293)) = some r := H
   have A40 := Aside0.mk A400
   clear A400
   by_cases c41 : t313 = true
   · subst c41
     have H1 : (splicelaw25_BalanceLoads.j1 kj7 t296 t304 t307 false a0_0 a0_1 l0_2 l0_3 a0_4 a0_5 a0_6 a0_7 t291 t292 t293) = some r := by rw [if_pos rfl] at H; exact H
     clear H
     have H := H1
     clear H1
     have H' := Aside0.mk H
     clear H
     have hnb42 := NB299_288.out
     have hnc42 := NB288_299.out
     have hcz43_0 : wc.cell? ⟨gb299, 0, none⟩ = some (.int .i64 t291) := (blk_cell BK299.out 0).trans rfl
     have hcz43_1 : wc.cell? ⟨gb299, 1, none⟩ = some (.int .i64 t292) := (blk_cell BK299.out 1).trans rfl
     have hcz43_2 : wc.cell? ⟨gb299, 2, none⟩ = some (.slice Ao19 t293.length co19) := (blk_cell BK299.out 2).trans rfl
     have hfz43_0 := blk_frozen BK299.out 0
     have hfz43_1 := blk_frozen BK299.out 1
     have hfz43_2 := blk_frozen BK299.out 2
     obtain ⟨Ao44, co44, eo44⟩ := Kd.R_slice HO_4.out
     subst eo44
     go_wp2_with (first | (go_at_call 17; (with_reducible refine (spliceref25_Shards.calls kj7 t291 t292 _ _ t293 _ _ t296 t310 _ ?side1 ?side2 ?side3 ?side4 A39.out).mono ?_); (case side1 => repeat (first | exact (Kd.R_reads' HO_300002.out).2.2 | (with_reducible refine Kd.C_alloc ?_ _) | (with_reducible refine Kd.C_drewN ?_ _) | (with_reducible refine Kd.C_drew ?_))); (case side2 => exact (Kd.R_reads' HO_300002.out).2.1); (case side3 => repeat (first | exact (Kd.R_reads' HO_4.out).2.2 | (with_reducible refine Kd.C_alloc ?_ _) | (with_reducible refine Kd.C_drewN ?_ _) | (with_reducible refine Kd.C_drew ?_))); (case side4 => exact (Kd.R_reads' HO_4.out).2.1); rintro e w45 ⟨v311, rfl, ho0, hb⟩; have n0_ := Aside0.mk (Kd.R_below (by (with_reducible repeat (first | apply Kd.R_alloc | apply Kd.R_drewN | apply Kd.R_drew)); exact HO_4.out) hb); have n1_ := Aside0.mk (Kd.R_elder' (by (with_reducible repeat (first | apply Kd.R_alloc | apply Kd.R_drewN | apply Kd.R_drew)); exact HO_5.out) (Kd.R_base ho0) hb); have n2_ := Aside0.mk (Kd.R_elder' (by (with_reducible repeat (first | apply Kd.R_alloc | apply Kd.R_drewN | apply Kd.R_drew)); exact HO_7.out) (Kd.R_base ho0) hb); have n3_ := Aside0.mk (Kd.R_below (by (with_reducible repeat (first | apply Kd.R_alloc | apply Kd.R_drewN | apply Kd.R_drew)); exact HO_300002.out) hb); have n4_ := Aside0.mk (Kd.R_lower (Kd.R_new' (Kd.R_new' ho0 (Kd.R_lt (by (with_reducible repeat (first | apply Kd.R_alloc | apply Kd.R_drewN | apply Kd.R_drew)); exact HO_5.out))) (Kd.R_lt (by (with_reducible repeat (first | apply Kd.R_alloc | apply Kd.R_drewN | apply Kd.R_drew)); exact HO_7.out))) (below_size (by repeat (first | (with_reducible first | exact HB.out | apply below_alloc | apply pw_below_drewN | apply below_drew1 | refine below_set ?_ GE288.out | refine below_set ?_ GE299.out) | exact HB.out)))); have n5_ := Aside0.mk (blk_below (g := gb288) (o := .cells #[.int .i64 a0_0, .int .i64 a0_1, .slice A0_2 l0_2.length c0_2, .slice A0_3 l0_3.length c0_3, .int .i64 a0_4, .int .i64 a0_5, .int .i64 a0_6, .int .i64 a0_7] 29 (0, 0)) (by (with_reducible repeat (first | refine blk_drewN ?_ _ | refine blk_drew ?_ | refine blk_alloc ?_ _)); exact BK288.out) hb); have n6_ := Aside0.mk (blk_below (g := gb299) (o := .cells #[.int .i64 t291, .int .i64 t292, .slice Ao19 t293.length co19] 34 (0, 0)) (by (with_reducible repeat (first | refine blk_drewN ?_ _ | refine blk_drew ?_ | refine blk_alloc ?_ _)); exact BK299.out) hb); have n7_ := Aside0.mk (below_step (by repeat (first | (with_reducible first | exact HB.out | apply below_alloc | apply pw_below_drewN | apply below_drew1 | refine below_set ?_ GE288.out | refine below_set ?_ GE299.out) | exact HB.out)) hb); clear HO_4; clear HO_5; clear HO_7; clear HO_300002; clear BK288; clear BK299; clear HB; have HO_4 := n0_; have HO_5 := n1_; have HO_7 := n2_; have HO_300002 := n3_; have HO312 := n4_; have BK288 := n5_; have BK299 := n6_; have HB := n7_; clear n0_ n1_ n2_ n3_ n4_ n5_ n6_ n7_; (try clear hb); (try clear hb2); (try clear hk); (try clear hi); (try clear ho0); obtain ⟨Ao46, co46, eo46⟩ := Kd.R_slice HO_5.out; subst eo46; obtain ⟨Ao47, co47, eo47⟩ := Kd.R_slice HO312.out; subst eo47) | (go_at_call 16; (with_reducible refine (spliceref01_Same.calls kj7 _ _ t300 _ _ t310 true _ ?side1 ?side2 ?side3 ?side4 A40.out).mono ?_); (case side1 => repeat (first | exact (Kd.R_reads' HO_5.out).2.2 | (with_reducible refine Kd.C_alloc ?_ _) | (with_reducible refine Kd.C_drewN ?_ _) | (with_reducible refine Kd.C_drew ?_))); (case side2 => exact (Kd.R_reads' HO_5.out).2.1); (case side3 => repeat (first | exact (Kd.R_reads' HO312.out).2.2 | (with_reducible refine Kd.C_alloc ?_ _) | (with_reducible refine Kd.C_drewN ?_ _) | (with_reducible refine Kd.C_drew ?_))); (case side4 => exact (Kd.R_reads' HO312.out).2.1); rintro e w' ⟨rfl, ⟨nd, rfl⟩⟩))
     go_meet
     case rel => exact ⟨_, (false), (by first | rfl | (simp; done) | (simp [*]; done)), H', ⟨by have := HJ7.out; first | omega | exact Nat.le_refl _⟩, ⟨by (with_reducible repeat (first | apply Kd.R_alloc | apply Kd.R_drewN | apply Kd.R_drew)); exact HO_4.out⟩, ⟨by (with_reducible repeat (first | apply Kd.R_alloc | apply Kd.R_drewN | apply Kd.R_drew)); exact Kd.R_mono HO_7.out (fun _ hk => trivial)⟩, ⟨by (with_reducible repeat (first | apply Kd.R_alloc | apply Kd.R_drewN | apply Kd.R_drew)); exact HO_300002.out⟩, ⟨by (with_reducible repeat (first | refine blk_drewN ?_ _ | refine blk_drew ?_ | refine blk_alloc ?_ _)); exact BK288.out⟩, ⟨by (with_reducible repeat (first | refine blk_drewN ?_ _ | refine blk_drew ?_ | refine blk_alloc ?_ _)); exact BK299.out⟩, ⟨by repeat (first | (with_reducible first | exact HB.out | apply below_alloc | apply pw_below_drewN | apply below_drew1 | refine below_set ?_ GE288.out | refine below_set ?_ GE299.out) | exact HB.out)⟩⟩
   replace c41 := Bool.eq_false_iff.mpr c41
   subst c41
   have H1 : (splicelaw25_BalanceLoads.j1 kj7 t296 t304 t307 true a0_0 a0_1 l0_2 l0_3 a0_4 a0_5 a0_6 a0_7 t291 t292 t293) = some r := by rw [if_neg (show ¬ (false = true) by decide)] at H; exact H
   clear H
   have H := H1
   clear H1
   have H' := Aside0.mk H
   clear H
   have hnb48 := NB299_288.out
   have hnc48 := NB288_299.out
   have hcz49_0 : wc.cell? ⟨gb299, 0, none⟩ = some (.int .i64 t291) := (blk_cell BK299.out 0).trans rfl
   have hcz49_1 : wc.cell? ⟨gb299, 1, none⟩ = some (.int .i64 t292) := (blk_cell BK299.out 1).trans rfl
   have hcz49_2 : wc.cell? ⟨gb299, 2, none⟩ = some (.slice Ao19 t293.length co19) := (blk_cell BK299.out 2).trans rfl
   have hfz49_0 := blk_frozen BK299.out 0
   have hfz49_1 := blk_frozen BK299.out 1
   have hfz49_2 := blk_frozen BK299.out 2
   obtain ⟨Ao50, co50, eo50⟩ := Kd.R_slice HO_4.out
   subst eo50
   go_wp2_with (first | (go_at_call 17; (with_reducible refine (spliceref25_Shards.calls kj7 t291 t292 _ _ t293 _ _ t296 t310 _ ?side1 ?side2 ?side3 ?side4 A39.out).mono ?_); (case side1 => repeat (first | exact (Kd.R_reads' HO_300002.out).2.2 | (with_reducible refine Kd.C_alloc ?_ _) | (with_reducible refine Kd.C_drewN ?_ _) | (with_reducible refine Kd.C_drew ?_))); (case side2 => exact (Kd.R_reads' HO_300002.out).2.1); (case side3 => repeat (first | exact (Kd.R_reads' HO_4.out).2.2 | (with_reducible refine Kd.C_alloc ?_ _) | (with_reducible refine Kd.C_drewN ?_ _) | (with_reducible refine Kd.C_drew ?_))); (case side4 => exact (Kd.R_reads' HO_4.out).2.1); rintro e w51 ⟨v311, rfl, ho0, hb⟩; have n0_ := Aside0.mk (Kd.R_below (by (with_reducible repeat (first | apply Kd.R_alloc | apply Kd.R_drewN | apply Kd.R_drew)); exact HO_4.out) hb); have n1_ := Aside0.mk (Kd.R_elder' (by (with_reducible repeat (first | apply Kd.R_alloc | apply Kd.R_drewN | apply Kd.R_drew)); exact HO_5.out) (Kd.R_base ho0) hb); have n2_ := Aside0.mk (Kd.R_elder' (by (with_reducible repeat (first | apply Kd.R_alloc | apply Kd.R_drewN | apply Kd.R_drew)); exact HO_7.out) (Kd.R_base ho0) hb); have n3_ := Aside0.mk (Kd.R_below (by (with_reducible repeat (first | apply Kd.R_alloc | apply Kd.R_drewN | apply Kd.R_drew)); exact HO_300002.out) hb); have n4_ := Aside0.mk (Kd.R_lower (Kd.R_new' (Kd.R_new' ho0 (Kd.R_lt (by (with_reducible repeat (first | apply Kd.R_alloc | apply Kd.R_drewN | apply Kd.R_drew)); exact HO_5.out))) (Kd.R_lt (by (with_reducible repeat (first | apply Kd.R_alloc | apply Kd.R_drewN | apply Kd.R_drew)); exact HO_7.out))) (below_size (by repeat (first | (with_reducible first | exact HB.out | apply below_alloc | apply pw_below_drewN | apply below_drew1 | refine below_set ?_ GE288.out | refine below_set ?_ GE299.out) | exact HB.out)))); have n5_ := Aside0.mk (blk_below (g := gb288) (o := .cells #[.int .i64 a0_0, .int .i64 a0_1, .slice A0_2 l0_2.length c0_2, .slice A0_3 l0_3.length c0_3, .int .i64 a0_4, .int .i64 a0_5, .int .i64 a0_6, .int .i64 a0_7] 29 (0, 0)) (by (with_reducible repeat (first | refine blk_drewN ?_ _ | refine blk_drew ?_ | refine blk_alloc ?_ _)); exact BK288.out) hb); have n6_ := Aside0.mk (blk_below (g := gb299) (o := .cells #[.int .i64 t291, .int .i64 t292, .slice Ao19 t293.length co19] 34 (0, 0)) (by (with_reducible repeat (first | refine blk_drewN ?_ _ | refine blk_drew ?_ | refine blk_alloc ?_ _)); exact BK299.out) hb); have n7_ := Aside0.mk (below_step (by repeat (first | (with_reducible first | exact HB.out | apply below_alloc | apply pw_below_drewN | apply below_drew1 | refine below_set ?_ GE288.out | refine below_set ?_ GE299.out) | exact HB.out)) hb); clear HO_4; clear HO_5; clear HO_7; clear HO_300002; clear BK288; clear BK299; clear HB; have HO_4 := n0_; have HO_5 := n1_; have HO_7 := n2_; have HO_300002 := n3_; have HO312 := n4_; have BK288 := n5_; have BK299 := n6_; have HB := n7_; clear n0_ n1_ n2_ n3_ n4_ n5_ n6_ n7_; (try clear hb); (try clear hb2); (try clear hk); (try clear hi); (try clear ho0); obtain ⟨Ao52, co52, eo52⟩ := Kd.R_slice HO_5.out; subst eo52; obtain ⟨Ao53, co53, eo53⟩ := Kd.R_slice HO312.out; subst eo53) | (go_at_call 16; (with_reducible refine (spliceref01_Same.calls kj7 _ _ t300 _ _ t310 false _ ?side1 ?side2 ?side3 ?side4 A40.out).mono ?_); (case side1 => repeat (first | exact (Kd.R_reads' HO_5.out).2.2 | (with_reducible refine Kd.C_alloc ?_ _) | (with_reducible refine Kd.C_drewN ?_ _) | (with_reducible refine Kd.C_drew ?_))); (case side2 => exact (Kd.R_reads' HO_5.out).2.1); (case side3 => repeat (first | exact (Kd.R_reads' HO312.out).2.2 | (with_reducible refine Kd.C_alloc ?_ _) | (with_reducible refine Kd.C_drewN ?_ _) | (with_reducible refine Kd.C_drew ?_))); (case side4 => exact (Kd.R_reads' HO312.out).2.1); rintro e w' ⟨rfl, ⟨nd, rfl⟩⟩))
   go_meet
   case rel => exact ⟨_, (true), (by first | rfl | (simp; done) | (simp [*]; done)), H', ⟨by have := HJ7.out; first | omega | exact Nat.le_refl _⟩, ⟨by (with_reducible repeat (first | apply Kd.R_alloc | apply Kd.R_drewN | apply Kd.R_drew)); exact HO_4.out⟩, ⟨by (with_reducible repeat (first | apply Kd.R_alloc | apply Kd.R_drewN | apply Kd.R_drew)); exact Kd.R_mono HO_7.out (fun _ hk => trivial)⟩, ⟨by (with_reducible repeat (first | apply Kd.R_alloc | apply Kd.R_drewN | apply Kd.R_drew)); exact HO_300002.out⟩, ⟨by (with_reducible repeat (first | refine blk_drewN ?_ _ | refine blk_drew ?_ | refine blk_alloc ?_ _)); exact BK288.out⟩, ⟨by (with_reducible repeat (first | refine blk_drewN ?_ _ | refine blk_drew ?_ | refine blk_alloc ?_ _)); exact BK299.out⟩, ⟨by repeat (first | (with_reducible first | exact HB.out | apply below_alloc | apply pw_below_drewN | apply below_drew1 | refine below_set ?_ GE288.out | refine below_set ?_ GE299.out) | exact HB.out)⟩⟩
 clear HC36
 try clear c1
 try clear c2
 try clear p2
 try clear c3
 try clear c4
 try clear c5
 try clear c8
 try clear c10
 try clear c11
 try clear c12
 try clear c13
 try clear c14
 try clear c21
 try clear c27
 try clear c29
 try clear c33
 try clear c37
 try clear c37b0
 try clear c37b1
 try clear c37b2
 try clear c38
 try clear c41
 try clear c42
 try clear c48
 try clear c54
 try clear c54b0
 try clear c54b1
 try clear hcz10_0
 try clear hcz10_1
 try clear hcz10_2
 try clear hcz10_3
 try clear hcz10_4
 try clear hcz10_5
 try clear hcz10_6
 try clear hcz10_7
 try clear hcz22_0
 try clear hcz22_1
 try clear hcz22_2
 try clear hcz22_3
 try clear hcz22_4
 try clear hcz22_5
 try clear hcz22_6
 try clear hcz22_7
 try clear hcz24_0
 try clear hcz24_1
 try clear hcz24_2
 try clear hcz24_3
 try clear hcz24_4
 try clear hcz24_5
 try clear hcz24_6
 try clear hcz24_7
 try clear hcz30_0
 try clear hcz30_1
 try clear hcz30_2
 try clear hcz34_0
 try clear hcz34_1
 try clear hcz34_2
 try clear hcz43_0
 try clear hcz43_1
 try clear hcz43_2
 try clear hcz49_0
 try clear hcz49_1
 try clear hcz49_2
 try clear hfz10_0
 try clear hfz10_1
 try clear hfz10_2
 try clear hfz10_3
 try clear hfz10_4
 try clear hfz10_5
 try clear hfz10_6
 try clear hfz10_7
 try clear hfz22_0
 try clear hfz22_1
 try clear hfz22_2
 try clear hfz22_3
 try clear hfz22_4
 try clear hfz22_5
 try clear hfz22_6
 try clear hfz22_7
 try clear hfz24_0
 try clear hfz24_1
 try clear hfz24_2
 try clear hfz24_3
 try clear hfz24_4
 try clear hfz24_5
 try clear hfz24_6
 try clear hfz24_7
 try clear hfz30_0
 try clear hfz30_1
 try clear hfz30_2
 try clear hfz34_0
 try clear hfz34_1
 try clear hfz34_2
 try clear hfz43_0
 try clear hfz43_1
 try clear hfz43_2
 try clear hfz49_0
 try clear hfz49_1
 try clear hfz49_2
 try clear p2
 obtain ⟨kq, x72_35, rfl, HA, HJ35, HO_4, HO_7, HO_300002, BK288, BK299, HB⟩ := hcut
 cases kq with
 | zero => exact absurd HA.out (by simp [splicelaw25_BalanceLoads.j1])
 | succ kj35 => ?_
 have H := HA.out
 clear HA; simp only [splicelaw25_BalanceLoads.j1] at H
 by_cases c56 : x72_35 = true
 · subst c56
   have H1 : (some false) = some r := by rw [if_pos rfl] at H; exact H
   clear H
   have H := H1
   clear H1
   exact absurd ((Option.some.inj H).trans hr_) (by simp)
 replace c56 := Bool.eq_false_iff.mpr c56
 subst c56
 have H1 : ((spliceref25_May.f kj35 t291 t292 t293 t296 a0_7).bind fun t314 => (if ((t307 == 0) != t314) = true then (splicelaw25_BalanceLoads.j2 kj35 true a0_0 a0_1 l0_2 l0_3 a0_4 a0_5 a0_6 a0_7) else (if t314 = true then ((spliceref25_Nodes.f kj35 t291 t292 t293 t296 a0_7).bind fun t315 => ((spliceref01_Same.f kj35 t304 t315).bind fun t318 => (if t318 = true then (splicelaw25_BalanceLoads.j2 kj35 false a0_0 a0_1 l0_2 l0_3 a0_4 a0_5 a0_6 a0_7) else (splicelaw25_BalanceLoads.j2 kj35 true a0_0 a0_1 l0_2 l0_3 a0_4 a0_5 a0_6 a0_7)))) else (if t307 = 1 then (splicelaw25_BalanceLoads.j2 kj35 ((t304.length : Int) != 0) a0_0 a0_1 l0_2 l0_3 a0_4 a0_5 a0_6 a0_7) else (splicelaw25_BalanceLoads.j2 kj35 true a0_0 a0_1 l0_2 l0_3 a0_4 a0_5 a0_6 a0_7))))) = some r := by rw [if_neg (show ¬ (false = true) by decide)] at H; exact H
 clear H
 have H := H1
 clear H1
 replace H := Option.bind_eq_some_iff.mp H
 obtain ⟨t314, A570, H⟩ := H
 replace H : (if ((t307 == 0) != t314) = true then (splicelaw25_BalanceLoads.j2 kj35 true a0_0 a0_1 l0_2 l0_3 a0_4 a0_5 a0_6 a0_7) else (if t314 = true then ((spliceref25_Nodes.f kj35 t291 t292 t293 t296 a0_7).bind fun t315 => ((spliceref01_Same.f kj35 t304 t315).bind fun t318 => (if t318 = true then (splicelaw25_BalanceLoads.j2 kj35 false a0_0 a0_1 l0_2 l0_3 a0_4 a0_5 a0_6 a0_7) else (splicelaw25_BalanceLoads.j2 kj35 true a0_0 a0_1 l0_2 l0_3 a0_4 a0_5 a0_6 a0_7)))) else (if t307 = 1 then (splicelaw25_BalanceLoads.j2 kj35 ((t304.length : Int) != 0) a0_0 a0_1 l0_2 l0_3 a0_4 a0_5 a0_6 a0_7) else (splicelaw25_BalanceLoads.j2 kj35 true a0_0 a0_1 l0_2 l0_3 a0_4 a0_5 a0_6 a0_7)))) = some r := H
 have A57 := Aside0.mk A570
 clear A570
 have HC58 := Aside0.mk H
 clear H
 have hnb59 := NB299_288.out
 have hnc59 := NB288_299.out
 have hcz60_0 : wc.cell? ⟨gb299, 0, none⟩ = some (.int .i64 t291) := (blk_cell BK299.out 0).trans rfl
 have hcz60_1 : wc.cell? ⟨gb299, 1, none⟩ = some (.int .i64 t292) := (blk_cell BK299.out 1).trans rfl
 have hcz60_2 : wc.cell? ⟨gb299, 2, none⟩ = some (.slice Ao19 t293.length co19) := (blk_cell BK299.out 2).trans rfl
 have hfz60_0 := blk_frozen BK299.out 0
 have hfz60_1 := blk_frozen BK299.out 1
 have hfz60_2 := blk_frozen BK299.out 2
 have hcz61_0 : wc.cell? ⟨gb288, 0, none⟩ = some (.int .i64 a0_0) := (blk_cell BK288.out 0).trans rfl
 have hcz61_1 : wc.cell? ⟨gb288, 1, none⟩ = some (.int .i64 a0_1) := (blk_cell BK288.out 1).trans rfl
 have hcz61_2 : wc.cell? ⟨gb288, 2, none⟩ = some (.slice A0_2 l0_2.length c0_2) := (blk_cell BK288.out 2).trans rfl
 have hcz61_3 : wc.cell? ⟨gb288, 3, none⟩ = some (.slice A0_3 l0_3.length c0_3) := (blk_cell BK288.out 3).trans rfl
 have hcz61_4 : wc.cell? ⟨gb288, 4, none⟩ = some (.int .i64 a0_4) := (blk_cell BK288.out 4).trans rfl
 have hcz61_5 : wc.cell? ⟨gb288, 5, none⟩ = some (.int .i64 a0_5) := (blk_cell BK288.out 5).trans rfl
 have hcz61_6 : wc.cell? ⟨gb288, 6, none⟩ = some (.int .i64 a0_6) := (blk_cell BK288.out 6).trans rfl
 have hcz61_7 : wc.cell? ⟨gb288, 7, none⟩ = some (.int .i64 a0_7) := (blk_cell BK288.out 7).trans rfl
 have hfz61_0 := blk_frozen BK288.out 0
 have hfz61_1 := blk_frozen BK288.out 1
 have hfz61_2 := blk_frozen BK288.out 2
 have hfz61_3 := blk_frozen BK288.out 3
 have hfz61_4 := blk_frozen BK288.out 4
 have hfz61_5 := blk_frozen BK288.out 5
 have hfz61_6 := blk_frozen BK288.out 6
 have hfz61_7 := blk_frozen BK288.out 7
 obtain ⟨Ao62, co62, eo62⟩ := Kd.R_slice HO_4.out
 subst eo62
 go_upto_region 10 with (first | ((with_reducible refine gate_callee (f := 18) rfl ?_); refine goesL_ (some 77) rfl rfl Try.func18 (by kernel_rfl) rfl #[.agg #[.int .i64 t291, .int .i64 t292, .slice Ao19 t293.length co19], .slice Ao62 t296.length co62, .int .i64 a0_7] rfl (by (try simp only [List.map_toArray, List.map_cons, List.map_nil]); first | done | rfl | (simp only [List.length_drop, List.length_take]; rfl)) ?_; (with_reducible refine (spliceref25_May.calls kj35 t291 t292 _ _ t293 _ _ t296 a0_7 t314 _ ?side1 ?side2 ?side3 ?side4 A57.out).mono ?_); (case side1 => repeat (first | exact (Kd.R_reads' HO_300002.out).2.2 | (with_reducible refine Kd.C_alloc ?_ _) | (with_reducible refine Kd.C_drewN ?_ _) | (with_reducible refine Kd.C_drew ?_))); (case side2 => exact (Kd.R_reads' HO_300002.out).2.1); (case side3 => repeat (first | exact (Kd.R_reads' HO_4.out).2.2 | (with_reducible refine Kd.C_alloc ?_ _) | (with_reducible refine Kd.C_drewN ?_ _) | (with_reducible refine Kd.C_drew ?_))); (case side4 => exact (Kd.R_reads' HO_4.out).2.1); rintro e w63 ⟨rfl, hb⟩; refine ⟨_, rfl, ?_⟩; have n0_ := Aside0.mk (Kd.R_below (by (with_reducible repeat (first | apply Kd.R_alloc | apply Kd.R_drewN | apply Kd.R_drew)); exact HO_4.out) hb); have n1_ := Aside0.mk (Kd.R_below (by (with_reducible repeat (first | apply Kd.R_alloc | apply Kd.R_drewN | apply Kd.R_drew)); exact HO_7.out) hb); have n2_ := Aside0.mk (Kd.R_below (by (with_reducible repeat (first | apply Kd.R_alloc | apply Kd.R_drewN | apply Kd.R_drew)); exact HO_300002.out) hb); have n3_ := Aside0.mk (blk_below (g := gb288) (o := .cells #[.int .i64 a0_0, .int .i64 a0_1, .slice A0_2 l0_2.length c0_2, .slice A0_3 l0_3.length c0_3, .int .i64 a0_4, .int .i64 a0_5, .int .i64 a0_6, .int .i64 a0_7] 29 (0, 0)) (by (with_reducible repeat (first | refine blk_drewN ?_ _ | refine blk_drew ?_ | refine blk_alloc ?_ _)); exact BK288.out) hb); have n4_ := Aside0.mk (blk_below (g := gb299) (o := .cells #[.int .i64 t291, .int .i64 t292, .slice Ao19 t293.length co19] 34 (0, 0)) (by (with_reducible repeat (first | refine blk_drewN ?_ _ | refine blk_drew ?_ | refine blk_alloc ?_ _)); exact BK299.out) hb); have n5_ := Aside0.mk (below_step (by repeat (first | (with_reducible first | exact HB.out | apply below_alloc | apply pw_below_drewN | apply below_drew1 | refine below_set ?_ GE288.out | refine below_set ?_ GE299.out) | exact HB.out)) hb); clear HO_4; clear HO_7; clear HO_300002; clear BK288; clear BK299; clear HB; have HO_4 := n0_; have HO_7 := n1_; have HO_300002 := n2_; have BK288 := n3_; have BK299 := n4_; have HB := n5_; clear n0_ n1_ n2_ n3_ n4_ n5_; (try clear hb); (try clear hb2); (try clear hk); (try clear hi)))
 (try simp only [Act.put, List.setIfInBounds_toArray, List.set_cons_zero, List.set_cons_succ])
 go_cut [107] (fun v107 wc => ∃ (kq : Nat) (x107_57 : Bool), v107 = .bool x107_57 ∧ Aside0 (splicelaw25_BalanceLoads.j2 kq x107_57 a0_0 a0_1 l0_2 l0_3 a0_4 a0_5 a0_6 a0_7 = some r) ∧ Aside0 (kq ≤ kj35) ∧ Aside0 (Kd.R k86 86 wc w.heap.size (fun _ => True) (.slice Ao19 t293.length co19) t293) ∧ Aside0 (wc.heap[gb288]? = some (.cells #[.int .i64 a0_0, .int .i64 a0_1, (.slice A0_2 l0_2.length c0_2), (.slice A0_3 l0_3.length c0_3), .int .i64 a0_4, .int .i64 a0_5, .int .i64 a0_6, .int .i64 a0_7] 29 (0, 0))) ∧ Aside0 (wc.heap[gb299]? = some (.cells #[.int .i64 t291, .int .i64 t292, (.slice Ao19 t293.length co19)] 34 (0, 0))) ∧ Aside0 (Below w.heap.size w wc))
 case first =>
   have H := HC58.out
   clear HC58
   by_cases c64 : ((t307 == 0) != t314) = true
   · rw [if_pos c64] at H
     have c64b0 : ((t307 == 0) != t314) = true := c64
     (try (have c64b1 : decide ((t307 == 0) = t314) = false := by simpa using c64))
     (try (have c64b2 : ((t307 == 0) == t314) = false := by simpa using c64))
     (try (have c64b3 : ¬ ((t307 == 0) = t314) := by simpa using c64))
     clear c64
     (first | rw [c64b0] | (simp only [i64_w, i32_w]; rw [c64b0]) | skip)
     have H' := Aside0.mk H
     clear H
     go_wp2
     go_meet
     case rel => exact ⟨_, (true), (by first | rfl | (simp; done) | (simp [*]; done)), H', ⟨by have := HJ7.out; have := HJ35.out; first | omega | exact Nat.le_refl _⟩, ⟨by (with_reducible repeat (first | apply Kd.R_alloc | apply Kd.R_drewN | apply Kd.R_drew)); exact HO_300002.out⟩, ⟨by (with_reducible repeat (first | refine blk_drewN ?_ _ | refine blk_drew ?_ | refine blk_alloc ?_ _)); exact BK288.out⟩, ⟨by (with_reducible repeat (first | refine blk_drewN ?_ _ | refine blk_drew ?_ | refine blk_alloc ?_ _)); exact BK299.out⟩, ⟨by repeat (first | (with_reducible first | exact HB.out | apply below_alloc | apply pw_below_drewN | apply below_drew1 | refine below_set ?_ GE288.out | refine below_set ?_ GE299.out) | exact HB.out)⟩⟩
   rw [if_neg c64] at H
   have c64b0 : ((t307 == 0) != t314) = false := by simpa using c64
   (try (have c64b1 : decide ((t307 == 0) = t314) = true := by simpa using c64))
   (try (have c64b2 : ((t307 == 0) == t314) = true := by simpa using c64))
   clear c64
   (first | rw [c64b0] | (simp only [i64_w, i32_w]; rw [c64b0]) | skip)
   by_cases c65 : t314 = true
   rotate_left
   · replace c65 := Bool.eq_false_iff.mpr c65
     subst c65
     have H1 : (if t307 = 1 then (splicelaw25_BalanceLoads.j2 kj35 ((t304.length : Int) != 0) a0_0 a0_1 l0_2 l0_3 a0_4 a0_5 a0_6 a0_7) else (splicelaw25_BalanceLoads.j2 kj35 true a0_0 a0_1 l0_2 l0_3 a0_4 a0_5 a0_6 a0_7)) = some r := by rw [if_neg (show ¬ (false = true) by decide)] at H; exact H
     clear H
     have H := H1
     clear H1
     by_cases c81 : t307 = 1
     rotate_left
     · rw [if_neg c81] at H
       have c81b0 : (t307 == 1) = false := beq_eq_false_iff_ne.mpr c81
       have c81b1 : (t307 != 1) = true := bne_iff_ne.mpr c81
       have H' := Aside0.mk H
       clear H
       go_wp2
       go_meet
       case rel => exact ⟨_, (true), (by first | rfl | (simp; done) | (simp [*]; done)), H', ⟨by have := HJ7.out; have := HJ35.out; first | omega | exact Nat.le_refl _⟩, ⟨by (with_reducible repeat (first | apply Kd.R_alloc | apply Kd.R_drewN | apply Kd.R_drew)); exact HO_300002.out⟩, ⟨by (with_reducible repeat (first | refine blk_drewN ?_ _ | refine blk_drew ?_ | refine blk_alloc ?_ _)); exact BK288.out⟩, ⟨by (with_reducible repeat (first | refine blk_drewN ?_ _ | refine blk_drew ?_ | refine blk_alloc ?_ _)); exact BK299.out⟩, ⟨by repeat (first | (with_reducible first | exact HB.out | apply below_alloc | apply pw_below_drewN | apply below_drew1 | refine below_set ?_ GE288.out | refine below_set ?_ GE299.out) | exact HB.out)⟩⟩
     rw [if_pos c81] at H
     have c81b0 : (t307 == 1) = true := beq_iff_eq.mpr c81
     have c81b1 : (t307 != 1) = false := bne_eq_false_iff_eq.mpr c81
     clear c81
     have H' := Aside0.mk H
     clear H
     obtain ⟨Ao82, co82, eo82⟩ := Kd.R_slice HO_7.out
     subst eo82
     go_wp2
     go_meet
     case rel => exact ⟨_, (((t304.length : Int) != 0)), (by first | rfl | (simp; done) | (simp [*]; done)), H', ⟨by have := HJ7.out; have := HJ35.out; first | omega | exact Nat.le_refl _⟩, ⟨by (with_reducible repeat (first | apply Kd.R_alloc | apply Kd.R_drewN | apply Kd.R_drew)); exact HO_300002.out⟩, ⟨by (with_reducible repeat (first | refine blk_drewN ?_ _ | refine blk_drew ?_ | refine blk_alloc ?_ _)); exact BK288.out⟩, ⟨by (with_reducible repeat (first | refine blk_drewN ?_ _ | refine blk_drew ?_ | refine blk_alloc ?_ _)); exact BK299.out⟩, ⟨by repeat (first | (with_reducible first | exact HB.out | apply below_alloc | apply pw_below_drewN | apply below_drew1 | refine below_set ?_ GE288.out | refine below_set ?_ GE299.out) | exact HB.out)⟩⟩
   subst c65
   have H1 : ((spliceref25_Nodes.f kj35 t291 t292 t293 t296 a0_7).bind fun t315 => ((spliceref01_Same.f kj35 t304 t315).bind fun t318 => (if t318 = true then (splicelaw25_BalanceLoads.j2 kj35 false a0_0 a0_1 l0_2 l0_3 a0_4 a0_5 a0_6 a0_7) else (splicelaw25_BalanceLoads.j2 kj35 true a0_0 a0_1 l0_2 l0_3 a0_4 a0_5 a0_6 a0_7)))) = some r := by rw [if_pos rfl] at H; exact H
   clear H
   have H := H1
   clear H1
   replace H := Option.bind_eq_some_iff.mp H
   obtain ⟨t315, A660, H⟩ := H
   replace H : ((spliceref01_Same.f kj35 t304 t315).bind fun t318 => (if t318 = true then (splicelaw25_BalanceLoads.j2 kj35 false a0_0 a0_1 l0_2 l0_3 a0_4 a0_5 a0_6 a0_7) else (splicelaw25_BalanceLoads.j2 kj35 true a0_0 a0_1 l0_2 l0_3 a0_4 a0_5 a0_6 a0_7))) = some r := H
   have A66 := Aside0.mk A660
   clear A660
   replace H := Option.bind_eq_some_iff.mp H
   obtain ⟨t318, A670, H⟩ := H
   replace H : (if t318 = true then (splicelaw25_BalanceLoads.j2 kj35 false a0_0 a0_1 l0_2 l0_3 a0_4 a0_5 a0_6 a0_7) else (splicelaw25_BalanceLoads.j2 kj35 true a0_0 a0_1 l0_2 l0_3 a0_4 a0_5 a0_6 a0_7)) = some r := H
   have A67 := Aside0.mk A670
   clear A670
   by_cases c68 : t318 = true
   · subst c68
     have H1 : (splicelaw25_BalanceLoads.j2 kj35 false a0_0 a0_1 l0_2 l0_3 a0_4 a0_5 a0_6 a0_7) = some r := by rw [if_pos rfl] at H; exact H
     clear H
     have H := H1
     clear H1
     have H' := Aside0.mk H
     clear H
     have hnb69 := NB299_288.out
     have hnc69 := NB288_299.out
     have hcz70_0 : w63.cell? ⟨gb299, 0, none⟩ = some (.int .i64 t291) := (blk_cell BK299.out 0).trans rfl
     have hcz70_1 : w63.cell? ⟨gb299, 1, none⟩ = some (.int .i64 t292) := (blk_cell BK299.out 1).trans rfl
     have hcz70_2 : w63.cell? ⟨gb299, 2, none⟩ = some (.slice Ao19 t293.length co19) := (blk_cell BK299.out 2).trans rfl
     have hfz70_0 := blk_frozen BK299.out 0
     have hfz70_1 := blk_frozen BK299.out 1
     have hfz70_2 := blk_frozen BK299.out 2
     have hcz71_0 : w63.cell? ⟨gb288, 0, none⟩ = some (.int .i64 a0_0) := (blk_cell BK288.out 0).trans rfl
     have hcz71_1 : w63.cell? ⟨gb288, 1, none⟩ = some (.int .i64 a0_1) := (blk_cell BK288.out 1).trans rfl
     have hcz71_2 : w63.cell? ⟨gb288, 2, none⟩ = some (.slice A0_2 l0_2.length c0_2) := (blk_cell BK288.out 2).trans rfl
     have hcz71_3 : w63.cell? ⟨gb288, 3, none⟩ = some (.slice A0_3 l0_3.length c0_3) := (blk_cell BK288.out 3).trans rfl
     have hcz71_4 : w63.cell? ⟨gb288, 4, none⟩ = some (.int .i64 a0_4) := (blk_cell BK288.out 4).trans rfl
     have hcz71_5 : w63.cell? ⟨gb288, 5, none⟩ = some (.int .i64 a0_5) := (blk_cell BK288.out 5).trans rfl
     have hcz71_6 : w63.cell? ⟨gb288, 6, none⟩ = some (.int .i64 a0_6) := (blk_cell BK288.out 6).trans rfl
     have hcz71_7 : w63.cell? ⟨gb288, 7, none⟩ = some (.int .i64 a0_7) := (blk_cell BK288.out 7).trans rfl
     have hfz71_0 := blk_frozen BK288.out 0
     have hfz71_1 := blk_frozen BK288.out 1
     have hfz71_2 := blk_frozen BK288.out 2
     have hfz71_3 := blk_frozen BK288.out 3
     have hfz71_4 := blk_frozen BK288.out 4
     have hfz71_5 := blk_frozen BK288.out 5
     have hfz71_6 := blk_frozen BK288.out 6
     have hfz71_7 := blk_frozen BK288.out 7
     go_wp2_with (first | (go_at_call 19; (with_reducible refine (spliceref25_Nodes.calls kj35 t291 t292 _ _ t293 _ _ t296 a0_7 t315 _ ?side1 ?side2 ?side3 ?side4 A66.out).mono ?_); (case side1 => repeat (first | exact (Kd.R_reads' HO_300002.out).2.2 | (with_reducible refine Kd.C_alloc ?_ _) | (with_reducible refine Kd.C_drewN ?_ _) | (with_reducible refine Kd.C_drew ?_))); (case side2 => exact (Kd.R_reads' HO_300002.out).2.1); (case side3 => repeat (first | exact (Kd.R_reads' HO_4.out).2.2 | (with_reducible refine Kd.C_alloc ?_ _) | (with_reducible refine Kd.C_drewN ?_ _) | (with_reducible refine Kd.C_drew ?_))); (case side4 => exact (Kd.R_reads' HO_4.out).2.1); rintro e w72 ⟨v316, rfl, ho0, hb⟩; have n0_ := Aside0.mk (Kd.R_below (by (with_reducible repeat (first | apply Kd.R_alloc | apply Kd.R_drewN | apply Kd.R_drew)); exact HO_4.out) hb); have n1_ := Aside0.mk (Kd.R_elder' (by (with_reducible repeat (first | apply Kd.R_alloc | apply Kd.R_drewN | apply Kd.R_drew)); exact HO_7.out) (Kd.R_base ho0) hb); have n2_ := Aside0.mk (Kd.R_below (by (with_reducible repeat (first | apply Kd.R_alloc | apply Kd.R_drewN | apply Kd.R_drew)); exact HO_300002.out) hb); have n3_ := Aside0.mk (Kd.R_lower (Kd.R_new' ho0 (Kd.R_lt (by (with_reducible repeat (first | apply Kd.R_alloc | apply Kd.R_drewN | apply Kd.R_drew)); exact HO_7.out))) (below_size (by repeat (first | (with_reducible first | exact HB.out | apply below_alloc | apply pw_below_drewN | apply below_drew1 | refine below_set ?_ GE288.out | refine below_set ?_ GE299.out) | exact HB.out)))); have n4_ := Aside0.mk (blk_below (g := gb288) (o := .cells #[.int .i64 a0_0, .int .i64 a0_1, .slice A0_2 l0_2.length c0_2, .slice A0_3 l0_3.length c0_3, .int .i64 a0_4, .int .i64 a0_5, .int .i64 a0_6, .int .i64 a0_7] 29 (0, 0)) (by (with_reducible repeat (first | refine blk_drewN ?_ _ | refine blk_drew ?_ | refine blk_alloc ?_ _)); exact BK288.out) hb); have n5_ := Aside0.mk (blk_below (g := gb299) (o := .cells #[.int .i64 t291, .int .i64 t292, .slice Ao19 t293.length co19] 34 (0, 0)) (by (with_reducible repeat (first | refine blk_drewN ?_ _ | refine blk_drew ?_ | refine blk_alloc ?_ _)); exact BK299.out) hb); have n6_ := Aside0.mk (below_step (by repeat (first | (with_reducible first | exact HB.out | apply below_alloc | apply pw_below_drewN | apply below_drew1 | refine below_set ?_ GE288.out | refine below_set ?_ GE299.out) | exact HB.out)) hb); clear HO_4; clear HO_7; clear HO_300002; clear BK288; clear BK299; clear HB; have HO_4 := n0_; have HO_7 := n1_; have HO_300002 := n2_; have HO317 := n3_; have BK288 := n4_; have BK299 := n5_; have HB := n6_; clear n0_ n1_ n2_ n3_ n4_ n5_ n6_; (try clear hb); (try clear hb2); (try clear hk); (try clear hi); (try clear ho0); obtain ⟨Ao73, co73, eo73⟩ := Kd.R_slice HO_7.out; subst eo73; obtain ⟨Ao74, co74, eo74⟩ := Kd.R_slice HO317.out; subst eo74) | (go_at_call 16; (with_reducible refine (spliceref01_Same.calls kj35 _ _ t304 _ _ t315 true _ ?side1 ?side2 ?side3 ?side4 A67.out).mono ?_); (case side1 => repeat (first | exact (Kd.R_reads' HO_7.out).2.2 | (with_reducible refine Kd.C_alloc ?_ _) | (with_reducible refine Kd.C_drewN ?_ _) | (with_reducible refine Kd.C_drew ?_))); (case side2 => exact (Kd.R_reads' HO_7.out).2.1); (case side3 => repeat (first | exact (Kd.R_reads' HO317.out).2.2 | (with_reducible refine Kd.C_alloc ?_ _) | (with_reducible refine Kd.C_drewN ?_ _) | (with_reducible refine Kd.C_drew ?_))); (case side4 => exact (Kd.R_reads' HO317.out).2.1); rintro e w' ⟨rfl, ⟨nd, rfl⟩⟩))
     go_meet
     case rel => exact ⟨_, (false), (by first | rfl | (simp; done) | (simp [*]; done)), H', ⟨by have := HJ7.out; have := HJ35.out; first | omega | exact Nat.le_refl _⟩, ⟨by (with_reducible repeat (first | apply Kd.R_alloc | apply Kd.R_drewN | apply Kd.R_drew)); exact HO_300002.out⟩, ⟨by (with_reducible repeat (first | refine blk_drewN ?_ _ | refine blk_drew ?_ | refine blk_alloc ?_ _)); exact BK288.out⟩, ⟨by (with_reducible repeat (first | refine blk_drewN ?_ _ | refine blk_drew ?_ | refine blk_alloc ?_ _)); exact BK299.out⟩, ⟨by repeat (first | (with_reducible first | exact HB.out | apply below_alloc | apply pw_below_drewN | apply below_drew1 | refine below_set ?_ GE288.out | refine below_set ?_ GE299.out) | exact HB.out)⟩⟩
   replace c68 := Bool.eq_false_iff.mpr c68
   subst c68
   have H1 : (splicelaw25_BalanceLoads.j2 kj35 true a0_0 a0_1 l0_2 l0_3 a0_4 a0_5 a0_6 a0_7) = some r := by rw [if_neg (show ¬ (false = true) by decide)] at H; exact H
   clear H
   have H := H1
   clear H1
   have H' := Aside0.mk H
   clear H
   have hnb75 := NB299_288.out
   have hnc75 := NB288_299.out
   have hcz76_0 : w63.cell? ⟨gb299, 0, none⟩ = some (.int .i64 t291) := (blk_cell BK299.out 0).trans rfl
   have hcz76_1 : w63.cell? ⟨gb299, 1, none⟩ = some (.int .i64 t292) := (blk_cell BK299.out 1).trans rfl
   have hcz76_2 : w63.cell? ⟨gb299, 2, none⟩ = some (.slice Ao19 t293.length co19) := (blk_cell BK299.out 2).trans rfl
   have hfz76_0 := blk_frozen BK299.out 0
   have hfz76_1 := blk_frozen BK299.out 1
   have hfz76_2 := blk_frozen BK299.out 2
   have hcz77_0 : w63.cell? ⟨gb288, 0, none⟩ = some (.int .i64 a0_0) := (blk_cell BK288.out 0).trans rfl
   have hcz77_1 : w63.cell? ⟨gb288, 1, none⟩ = some (.int .i64 a0_1) := (blk_cell BK288.out 1).trans rfl
   have hcz77_2 : w63.cell? ⟨gb288, 2, none⟩ = some (.slice A0_2 l0_2.length c0_2) := (blk_cell BK288.out 2).trans rfl
   have hcz77_3 : w63.cell? ⟨gb288, 3, none⟩ = some (.slice A0_3 l0_3.length c0_3) := (blk_cell BK288.out 3).trans rfl
   have hcz77_4 : w63.cell? ⟨gb288, 4, none⟩ = some (.int .i64 a0_4) := (blk_cell BK288.out 4).trans rfl
   have hcz77_5 : w63.cell? ⟨gb288, 5, none⟩ = some (.int .i64 a0_5) := (blk_cell BK288.out 5).trans rfl
   have hcz77_6 : w63.cell? ⟨gb288, 6, none⟩ = some (.int .i64 a0_6) := (blk_cell BK288.out 6).trans rfl
   have hcz77_7 : w63.cell? ⟨gb288, 7, none⟩ = some (.int .i64 a0_7) := (blk_cell BK288.out 7).trans rfl
   have hfz77_0 := blk_frozen BK288.out 0
   have hfz77_1 := blk_frozen BK288.out 1
   have hfz77_2 := blk_frozen BK288.out 2
   have hfz77_3 := blk_frozen BK288.out 3
   have hfz77_4 := blk_frozen BK288.out 4
   have hfz77_5 := blk_frozen BK288.out 5
   have hfz77_6 := blk_frozen BK288.out 6
   have hfz77_7 := blk_frozen BK288.out 7
   go_wp2_with (first | (go_at_call 19; (with_reducible refine (spliceref25_Nodes.calls kj35 t291 t292 _ _ t293 _ _ t296 a0_7 t315 _ ?side1 ?side2 ?side3 ?side4 A66.out).mono ?_); (case side1 => repeat (first | exact (Kd.R_reads' HO_300002.out).2.2 | (with_reducible refine Kd.C_alloc ?_ _) | (with_reducible refine Kd.C_drewN ?_ _) | (with_reducible refine Kd.C_drew ?_))); (case side2 => exact (Kd.R_reads' HO_300002.out).2.1); (case side3 => repeat (first | exact (Kd.R_reads' HO_4.out).2.2 | (with_reducible refine Kd.C_alloc ?_ _) | (with_reducible refine Kd.C_drewN ?_ _) | (with_reducible refine Kd.C_drew ?_))); (case side4 => exact (Kd.R_reads' HO_4.out).2.1); rintro e w78 ⟨v316, rfl, ho0, hb⟩; have n0_ := Aside0.mk (Kd.R_below (by (with_reducible repeat (first | apply Kd.R_alloc | apply Kd.R_drewN | apply Kd.R_drew)); exact HO_4.out) hb); have n1_ := Aside0.mk (Kd.R_elder' (by (with_reducible repeat (first | apply Kd.R_alloc | apply Kd.R_drewN | apply Kd.R_drew)); exact HO_7.out) (Kd.R_base ho0) hb); have n2_ := Aside0.mk (Kd.R_below (by (with_reducible repeat (first | apply Kd.R_alloc | apply Kd.R_drewN | apply Kd.R_drew)); exact HO_300002.out) hb); have n3_ := Aside0.mk (Kd.R_lower (Kd.R_new' ho0 (Kd.R_lt (by (with_reducible repeat (first | apply Kd.R_alloc | apply Kd.R_drewN | apply Kd.R_drew)); exact HO_7.out))) (below_size (by repeat (first | (with_reducible first | exact HB.out | apply below_alloc | apply pw_below_drewN | apply below_drew1 | refine below_set ?_ GE288.out | refine below_set ?_ GE299.out) | exact HB.out)))); have n4_ := Aside0.mk (blk_below (g := gb288) (o := .cells #[.int .i64 a0_0, .int .i64 a0_1, .slice A0_2 l0_2.length c0_2, .slice A0_3 l0_3.length c0_3, .int .i64 a0_4, .int .i64 a0_5, .int .i64 a0_6, .int .i64 a0_7] 29 (0, 0)) (by (with_reducible repeat (first | refine blk_drewN ?_ _ | refine blk_drew ?_ | refine blk_alloc ?_ _)); exact BK288.out) hb); have n5_ := Aside0.mk (blk_below (g := gb299) (o := .cells #[.int .i64 t291, .int .i64 t292, .slice Ao19 t293.length co19] 34 (0, 0)) (by (with_reducible repeat (first | refine blk_drewN ?_ _ | refine blk_drew ?_ | refine blk_alloc ?_ _)); exact BK299.out) hb); have n6_ := Aside0.mk (below_step (by repeat (first | (with_reducible first | exact HB.out | apply below_alloc | apply pw_below_drewN | apply below_drew1 | refine below_set ?_ GE288.out | refine below_set ?_ GE299.out) | exact HB.out)) hb); clear HO_4; clear HO_7; clear HO_300002; clear BK288; clear BK299; clear HB; have HO_4 := n0_; have HO_7 := n1_; have HO_300002 := n2_; have HO317 := n3_; have BK288 := n4_; have BK299 := n5_; have HB := n6_; clear n0_ n1_ n2_ n3_ n4_ n5_ n6_; (try clear hb); (try clear hb2); (try clear hk); (try clear hi); (try clear ho0); obtain ⟨Ao79, co79, eo79⟩ := Kd.R_slice HO_7.out; subst eo79; obtain ⟨Ao80, co80, eo80⟩ := Kd.R_slice HO317.out; subst eo80) | (go_at_call 16; (with_reducible refine (spliceref01_Same.calls kj35 _ _ t304 _ _ t315 false _ ?side1 ?side2 ?side3 ?side4 A67.out).mono ?_); (case side1 => repeat (first | exact (Kd.R_reads' HO_7.out).2.2 | (with_reducible refine Kd.C_alloc ?_ _) | (with_reducible refine Kd.C_drewN ?_ _) | (with_reducible refine Kd.C_drew ?_))); (case side2 => exact (Kd.R_reads' HO_7.out).2.1); (case side3 => repeat (first | exact (Kd.R_reads' HO317.out).2.2 | (with_reducible refine Kd.C_alloc ?_ _) | (with_reducible refine Kd.C_drewN ?_ _) | (with_reducible refine Kd.C_drew ?_))); (case side4 => exact (Kd.R_reads' HO317.out).2.1); rintro e w' ⟨rfl, ⟨nd, rfl⟩⟩))
   go_meet
   case rel => exact ⟨_, (true), (by first | rfl | (simp; done) | (simp [*]; done)), H', ⟨by have := HJ7.out; have := HJ35.out; first | omega | exact Nat.le_refl _⟩, ⟨by (with_reducible repeat (first | apply Kd.R_alloc | apply Kd.R_drewN | apply Kd.R_drew)); exact HO_300002.out⟩, ⟨by (with_reducible repeat (first | refine blk_drewN ?_ _ | refine blk_drew ?_ | refine blk_alloc ?_ _)); exact BK288.out⟩, ⟨by (with_reducible repeat (first | refine blk_drewN ?_ _ | refine blk_drew ?_ | refine blk_alloc ?_ _)); exact BK299.out⟩, ⟨by repeat (first | (with_reducible first | exact HB.out | apply below_alloc | apply pw_below_drewN | apply below_drew1 | refine below_set ?_ GE288.out | refine below_set ?_ GE299.out) | exact HB.out)⟩⟩
 clear HC58
 try clear c1
 try clear c2
 try clear p2
 try clear c3
 try clear c4
 try clear c5
 try clear c6
 try clear c7
 try clear c8
 try clear c10
 try clear c11
 try clear c12
 try clear c13
 try clear c14
 try clear c18
 try clear c21
 try clear c27
 try clear c29
 try clear c33
 try clear c37
 try clear c37b0
 try clear c37b1
 try clear c37b2
 try clear c38
 try clear c41
 try clear c42
 try clear c48
 try clear c54
 try clear c54b0
 try clear c54b1
 try clear c56
 try clear c59
 try clear c64
 try clear c64b0
 try clear c64b1
 try clear c64b2
 try clear c65
 try clear c68
 try clear c69
 try clear c75
 try clear c81
 try clear c81b0
 try clear c81b1
 try clear hcz10_0
 try clear hcz10_1
 try clear hcz10_2
 try clear hcz10_3
 try clear hcz10_4
 try clear hcz10_5
 try clear hcz10_6
 try clear hcz10_7
 try clear hcz22_0
 try clear hcz22_1
 try clear hcz22_2
 try clear hcz22_3
 try clear hcz22_4
 try clear hcz22_5
 try clear hcz22_6
 try clear hcz22_7
 try clear hcz24_0
 try clear hcz24_1
 try clear hcz24_2
 try clear hcz24_3
 try clear hcz24_4
 try clear hcz24_5
 try clear hcz24_6
 try clear hcz24_7
 try clear hcz30_0
 try clear hcz30_1
 try clear hcz30_2
 try clear hcz34_0
 try clear hcz34_1
 try clear hcz34_2
 try clear hcz43_0
 try clear hcz43_1
 try clear hcz43_2
 try clear hcz49_0
 try clear hcz49_1
 try clear hcz49_2
 try clear hcz60_0
 try clear hcz60_1
 try clear hcz60_2
 try clear hcz61_0
 try clear hcz61_1
 try clear hcz61_2
 try clear hcz61_3
 try clear hcz61_4
 try clear hcz61_5
 try clear hcz61_6
 try clear hcz61_7
 try clear hcz70_0
 try clear hcz70_1
 try clear hcz70_2
 try clear hcz71_0
 try clear hcz71_1
 try clear hcz71_2
 try clear hcz71_3
 try clear hcz71_4
 try clear hcz71_5
 try clear hcz71_6
 try clear hcz71_7
 try clear hcz76_0
 try clear hcz76_1
 try clear hcz76_2
 try clear hcz77_0
 try clear hcz77_1
 try clear hcz77_2
 try clear hcz77_3
 try clear hcz77_4
 try clear hcz77_5
 try clear hcz77_6
 try clear hcz77_7
 try clear hfz10_0
 try clear hfz10_1
 try clear hfz10_2
 try clear hfz10_3
 try clear hfz10_4
 try clear hfz10_5
 try clear hfz10_6
 try clear hfz10_7
 try clear hfz22_0
 try clear hfz22_1
 try clear hfz22_2
 try clear hfz22_3
 try clear hfz22_4
 try clear hfz22_5
 try clear hfz22_6
 try clear hfz22_7
 try clear hfz24_0
 try clear hfz24_1
 try clear hfz24_2
 try clear hfz24_3
 try clear hfz24_4
 try clear hfz24_5
 try clear hfz24_6
 try clear hfz24_7
 try clear hfz30_0
 try clear hfz30_1
 try clear hfz30_2
 try clear hfz34_0
 try clear hfz34_1
 try clear hfz34_2
 try clear hfz43_0
 try clear hfz43_1
 try clear hfz43_2
 try clear hfz49_0
 try clear hfz49_1
 try clear hfz49_2
 try clear hfz60_0
 try clear hfz60_1
 try clear hfz60_2
 try clear hfz61_0
 try clear hfz61_1
 try clear hfz61_2
 try clear hfz61_3
 try clear hfz61_4
 try clear hfz61_5
 try clear hfz61_6
 try clear hfz61_7
 try clear hfz70_0
 try clear hfz70_1
 try clear hfz70_2
 try clear hfz71_0
 try clear hfz71_1
 try clear hfz71_2
 try clear hfz71_3
 try clear hfz71_4
 try clear hfz71_5
 try clear hfz71_6
 try clear hfz71_7
 try clear hfz76_0
 try clear hfz76_1
 try clear hfz76_2
 try clear hfz77_0
 try clear hfz77_1
 try clear hfz77_2
 try clear hfz77_3
 try clear hfz77_4
 try clear hfz77_5
 try clear hfz77_6
 try clear hfz77_7
 try clear p2
 obtain ⟨kq, x107_57, rfl, HA, HJ57, HO_300002, BK288, BK299, HB⟩ := hcut
 cases kq with
 | zero => exact absurd HA.out (by simp [splicelaw25_BalanceLoads.j2])
 | succ kj57 => ?_
 have H := HA.out
 clear HA; simp only [splicelaw25_BalanceLoads.j2] at H
 by_cases c83 : x107_57 = true
 · subst c83
   have H1 : (some false) = some r := by rw [if_pos rfl] at H; exact H
   clear H
   have H := H1
   clear H1
   exact absurd ((Option.some.inj H).trans hr_) (by simp)
 replace c83 := Bool.eq_false_iff.mpr c83
 subst c83
 have H1 : ((splicelaw25_awake.f kj57).bind fun t319 => (if t319 = true then ((balance_Check.f a0_4 a0_5 a0_6).bind fun t320 => ((splicelaw25_ref.f a0_4 a0_5 a0_6).bind fun bt321 => ((spliceref25_Check.f bt321.1 bt321.2.1 bt321.2.2).bind fun t324 => (some (t320 == t324))))) else (some false))) = some r := by rw [if_neg (show ¬ (false = true) by decide)] at H; exact H
 clear H
 have H := H1
 clear H1
 replace H := Option.bind_eq_some_iff.mp H
 obtain ⟨t319, A840, H⟩ := H
 replace H : (if t319 = true then ((balance_Check.f a0_4 a0_5 a0_6).bind fun t320 => ((splicelaw25_ref.f a0_4 a0_5 a0_6).bind fun bt321 => ((spliceref25_Check.f bt321.1 bt321.2.1 bt321.2.2).bind fun t324 => (some (t320 == t324))))) else (some false)) = some r := H
 have A84 := Aside0.mk A840
 clear A840
 by_cases c85 : t319 = true
 rotate_left
 · replace c85 := Bool.eq_false_iff.mpr c85
   subst c85
   have H1 : (some false) = some r := by rw [if_neg (show ¬ (false = true) by decide)] at H; exact H
   clear H
   have H := H1
   clear H1
   exact absurd ((Option.some.inj H).trans hr_) (by simp)
 subst c85
 have H1 : ((balance_Check.f a0_4 a0_5 a0_6).bind fun t320 => ((splicelaw25_ref.f a0_4 a0_5 a0_6).bind fun bt321 => ((spliceref25_Check.f bt321.1 bt321.2.1 bt321.2.2).bind fun t324 => (some (t320 == t324))))) = some r := by rw [if_pos rfl] at H; exact H
 clear H
 have H := H1
 clear H1
 replace H := Option.bind_eq_some_iff.mp H
 obtain ⟨t320, A860, H⟩ := H
 replace H : ((splicelaw25_ref.f a0_4 a0_5 a0_6).bind fun bt321 => ((spliceref25_Check.f bt321.1 bt321.2.1 bt321.2.2).bind fun t324 => (some (t320 == t324)))) = some r := H
 have A86 := Aside0.mk A860
 clear A860
 replace H := Option.bind_eq_some_iff.mp H
 obtain ⟨⟨t321, t322, t323⟩, A870, H⟩ := H
 replace H : ((spliceref25_Check.f t321 t322 t323).bind fun t324 => (some (t320 == t324))) = some r := H
 have A87 := Aside0.mk A870
 clear A870
 replace H := Option.bind_eq_some_iff.mp H
 obtain ⟨t324, A880, H⟩ := H
 replace H : (some (t320 == t324)) = some r := H
 have A88 := Aside0.mk A880
 clear A880
 obtain rfl := Option.some.inj H
 try go_wp2
 have n0_ := Aside0.mk (Kd.R_drew HO_300002.out)
 have n1_ := Aside0.mk (blk_drew BK288.out)
 have n2_ := Aside0.mk (blk_drew BK299.out)
 have n3_ := Aside0.mk (below_drew1 HB.out)
 clear HO_300002; clear BK288; clear BK299; clear HB
 have HO_300002 := n0_
 have BK288 := n1_
 have BK299 := n2_
 have HB := n3_
 clear n0_ n1_ n2_ n3_
 refine start_ (n := 12) (S := fun w' => w'.cell? ⟨gb288, 0, none⟩ = some (.int .i64 a0_0) ∧ w'.cell? ⟨gb288, 1, none⟩ = some (.int .i64 a0_1) ∧ w'.cell? ⟨gb288, 2, none⟩ = some (.slice A0_2 l0_2.length c0_2) ∧ w'.cell? ⟨gb288, 3, none⟩ = some (.slice A0_3 l0_3.length c0_3) ∧ w'.cell? ⟨gb288, 4, none⟩ = some (.int .i64 a0_4) ∧ w'.cell? ⟨gb288, 5, none⟩ = some (.int .i64 a0_5) ∧ w'.cell? ⟨gb288, 6, none⟩ = some (.int .i64 a0_6) ∧ w'.cell? ⟨gb288, 7, none⟩ = some (.int .i64 a0_7)) (ds := []) #[false, false, false, false, false, false, false, false, false, false, false, false] (by kernel_rfl) rfl rfl ⟨(blk_cell BK288.out 0).trans rfl, (blk_cell BK288.out 1).trans rfl, (blk_cell BK288.out 2).trans rfl, (blk_cell BK288.out 3).trans rfl, (blk_cell BK288.out 4).trans rfl, (blk_cell BK288.out 5).trans rfl, (blk_cell BK288.out 6).trans rfl, (blk_cell BK288.out 7).trans rfl⟩ (fun hHeld => ?_); refine with_tabW splicelaw25_BalanceLoads.tab12 splicelaw25_BalanceLoads.bits12 (fun HT_ HW_ => ?_)
 generalize wc.drew = w89 at HO_300002 BK288 BK299 HB hHeld ⊢
 refine one_ (i := 0) (N := some 108) #[true, false, false, false, false, false, false, false, false, false, false, false] rfl rfl (one_of HT_.out (by kernel_rfl)) (by decide) (fun K hK => ?_)
 refine goes_ Try.func9 (by kernel_rfl) rfl #[] (by rfl) rfl rfl (by (try simp only [List.map_toArray, List.map_cons, List.map_nil]); first | done | rfl | (simp only [List.length_drop, List.length_take]; rfl)) ?_
 with_reducible refine (splicelaw25_awake.calls kj57  true _ A84.out (by first | rfl | exact hr_)).mono ?_
 rintro e w90 ⟨rfl, hb⟩
 refine ⟨_, rfl, ?_⟩
 have n0_ := Aside0.mk (Kd.R_below (by (with_reducible repeat (first | apply Kd.R_alloc | apply Kd.R_drewN | apply Kd.R_drew)); exact HO_300002.out) hb)
 have n1_ := Aside0.mk (blk_below (g := gb288) (o := .cells #[.int .i64 a0_0, .int .i64 a0_1, .slice A0_2 l0_2.length c0_2, .slice A0_3 l0_3.length c0_3, .int .i64 a0_4, .int .i64 a0_5, .int .i64 a0_6, .int .i64 a0_7] 29 (0, 0)) (by (with_reducible repeat (first | refine blk_drewN ?_ _ | refine blk_drew ?_ | refine blk_alloc ?_ _)); exact BK288.out) hb)
 have n2_ := Aside0.mk (blk_below (g := gb299) (o := .cells #[.int .i64 t291, .int .i64 t292, .slice Ao19 t293.length co19] 34 (0, 0)) (by (with_reducible repeat (first | refine blk_drewN ?_ _ | refine blk_drew ?_ | refine blk_alloc ?_ _)); exact BK299.out) hb)
 have n3_ := Aside0.mk (below_step (by repeat (first | (with_reducible first | exact HB.out | apply below_alloc | apply pw_below_drewN | apply below_drew1 | refine below_set ?_ GE288.out | refine below_set ?_ GE299.out) | exact HB.out)) hb)
 clear HO_300002; clear BK288; clear BK299; clear HB
 have HO_300002 := n0_
 have BK288 := n1_
 have BK299 := n2_
 have HB := n3_
 clear n0_ n1_ n2_ n3_
 (try clear hb)
 (try clear hb2)
 (try clear hk)
 (try clear hi)
 refine hK.out _ _ ⟨(blk_cell BK288.out 0).trans rfl, (blk_cell BK288.out 1).trans rfl, (blk_cell BK288.out 2).trans rfl, (blk_cell BK288.out 3).trans rfl, (blk_cell BK288.out 4).trans rfl, (blk_cell BK288.out 5).trans rfl, (blk_cell BK288.out 6).trans rfl, (blk_cell BK288.out 7).trans rfl⟩ (fun hHeld => ?_)
 clear hK K
 refine norm_ (a' := ?_) ?_ ?_
 rotate_left
 · show Act.put _ (some 108) _ = _
   simp only [Act.put, List.setIfInBounds_toArray, List.set_cons_zero, List.set_cons_succ, i64_w, i32_w]; rfl
 refine pure_ (i := 1) (N := some 109) (v := ?_) (a' := ?_) #[true, true, false, false, false, false, false, false, false, false, false, false] rfl rfl (any_of HT_.out (by kernel_rfl)) (fun _ _ _ h => h) (Or.inl ⟨by rfl, ?_⟩) ?_ ?_
 rotate_left
 · intro w'; go_simp; with_reducible rfl
 rotate_left
 · simp only [Act.put, List.setIfInBounds_toArray, List.set_cons_zero, List.set_cons_succ, i64_w, i32_w]; rfl
 refine pure_ (i := 2) (N := some 110) (v := ?_) (a' := ?_) #[true, true, true, false, false, false, false, false, false, false, false, false] rfl rfl (any_of HT_.out (by kernel_rfl)) (fun _ _ _ h => h) (Or.inl ⟨by rfl, ?_⟩) ?_ ?_
 rotate_left
 · intro w'; go_simp; with_reducible rfl
 rotate_left
 · simp only [Act.put, List.setIfInBounds_toArray, List.set_cons_zero, List.set_cons_succ, i64_w, i32_w]; rfl
 refine pure_ (i := 5) (N := some 113) (v := ?_) (a' := ?_) #[true, true, true, false, false, true, false, false, false, false, false, false] rfl rfl (any_of HT_.out (by kernel_rfl)) (fun _ _ _ h => h) (Or.inl ⟨by rfl, ?_⟩) ?_ ?_
 rotate_left
 · intro w'; go_simp; with_reducible rfl
 rotate_left
 · simp only [Act.put, List.setIfInBounds_toArray, List.set_cons_zero, List.set_cons_succ, i64_w, i32_w]; rfl
 refine take_ (i := 3) (N := some 111) (v := ?_) (a' := ?_) #[true, true, true, true, false, true, false, false, false, false, false, false] rfl rfl (take_ofW HT_.out HW_.out (by kernel_rfl)) (fun _ _ _ h => h) (Or.inl ⟨by rfl, ?_⟩) hHeld ?_ ?_
 rotate_left
 · rintro w' ⟨s0, s1, s2, s3, s4, s5, s6, s7⟩
   go_simp; with_reducible rfl
 rotate_left
 · simp only [Act.put, List.setIfInBounds_toArray, List.set_cons_zero, List.set_cons_succ, i64_w, i32_w]; rfl
 refine take_ (i := 6) (N := some 114) (v := ?_) (a' := ?_) #[true, true, true, true, false, true, true, false, false, false, false, false] rfl rfl (take_ofW HT_.out HW_.out (by kernel_rfl)) (fun _ _ _ h => h) (Or.inl ⟨by rfl, ?_⟩) hHeld ?_ ?_
 rotate_left
 · rintro w' ⟨s0, s1, s2, s3, s4, s5, s6, s7⟩
   go_simp; with_reducible rfl
 rotate_left
 · simp only [Act.put, List.setIfInBounds_toArray, List.set_cons_zero, List.set_cons_succ, i64_w, i32_w]; rfl
 refine one_ (i := 4) (N := some 112) #[true, true, true, true, true, true, true, false, false, false, false, false] rfl rfl (one_of HT_.out (by kernel_rfl)) (by decide) (fun K hK => ?_)
 refine goes_ Try.func20 (by kernel_rfl) rfl #[.agg #[.int .i64 a0_4, .int .i64 a0_5, .int .i64 a0_6]] (by rfl) rfl rfl (by (try simp only [List.map_toArray, List.map_cons, List.map_nil]); first | done | rfl | (simp only [List.length_drop, List.length_take]; rfl)) ?_
 with_reducible refine (balance_Check.calls a0_4 a0_5 a0_6 t320 _ A86.out).mono ?_
 rintro e w91 ⟨rfl, hb⟩
 refine ⟨_, rfl, ?_⟩
 have n0_ := Aside0.mk (Kd.R_below (by (with_reducible repeat (first | apply Kd.R_alloc | apply Kd.R_drewN | apply Kd.R_drew)); exact HO_300002.out) hb)
 have n1_ := Aside0.mk (blk_below (g := gb288) (o := .cells #[.int .i64 a0_0, .int .i64 a0_1, .slice A0_2 l0_2.length c0_2, .slice A0_3 l0_3.length c0_3, .int .i64 a0_4, .int .i64 a0_5, .int .i64 a0_6, .int .i64 a0_7] 29 (0, 0)) (by (with_reducible repeat (first | refine blk_drewN ?_ _ | refine blk_drew ?_ | refine blk_alloc ?_ _)); exact BK288.out) hb)
 have n2_ := Aside0.mk (blk_below (g := gb299) (o := .cells #[.int .i64 t291, .int .i64 t292, .slice Ao19 t293.length co19] 34 (0, 0)) (by (with_reducible repeat (first | refine blk_drewN ?_ _ | refine blk_drew ?_ | refine blk_alloc ?_ _)); exact BK299.out) hb)
 have n3_ := Aside0.mk (below_step (by repeat (first | (with_reducible first | exact HB.out | apply below_alloc | apply pw_below_drewN | apply below_drew1 | refine below_set ?_ GE288.out | refine below_set ?_ GE299.out) | exact HB.out)) hb)
 clear HO_300002; clear BK288; clear BK299; clear HB
 have HO_300002 := n0_
 have BK288 := n1_
 have BK299 := n2_
 have HB := n3_
 clear n0_ n1_ n2_ n3_
 (try clear hb)
 (try clear hb2)
 (try clear hk)
 (try clear hi)
 refine hK.out _ _ ⟨(blk_cell BK288.out 0).trans rfl, (blk_cell BK288.out 1).trans rfl, (blk_cell BK288.out 2).trans rfl, (blk_cell BK288.out 3).trans rfl, (blk_cell BK288.out 4).trans rfl, (blk_cell BK288.out 5).trans rfl, (blk_cell BK288.out 6).trans rfl, (blk_cell BK288.out 7).trans rfl⟩ (fun hHeld => ?_)
 clear hK K
 refine norm_ (a' := ?_) ?_ ?_
 rotate_left
 · show Act.put _ (some 112) _ = _
   simp only [Act.put, List.setIfInBounds_toArray, List.set_cons_zero, List.set_cons_succ, i64_w, i32_w]; rfl
 refine one_ (i := 7) (N := some 115) #[true, true, true, true, true, true, true, true, false, false, false, false] rfl rfl (one_of HT_.out (by kernel_rfl)) (by decide) (fun K hK => ?_)
 refine goes_ Try.func22 (by kernel_rfl) rfl #[.agg #[.int .i64 a0_4, .int .i64 a0_5, .int .i64 a0_6]] (by rfl) rfl rfl (by (try simp only [List.map_toArray, List.map_cons, List.map_nil]); first | done | rfl | (simp only [List.length_drop, List.length_take]; rfl)) ?_
 with_reducible refine (splicelaw25_ref.calls a0_4 a0_5 a0_6 t321 t322 t323 _ A87.out).mono ?_
 rintro e w92 ⟨rfl, hb⟩
 refine ⟨_, rfl, ?_⟩
 have n0_ := Aside0.mk (Kd.R_below (by (with_reducible repeat (first | apply Kd.R_alloc | apply Kd.R_drewN | apply Kd.R_drew)); exact HO_300002.out) hb)
 have n1_ := Aside0.mk (blk_below (g := gb288) (o := .cells #[.int .i64 a0_0, .int .i64 a0_1, .slice A0_2 l0_2.length c0_2, .slice A0_3 l0_3.length c0_3, .int .i64 a0_4, .int .i64 a0_5, .int .i64 a0_6, .int .i64 a0_7] 29 (0, 0)) (by (with_reducible repeat (first | refine blk_drewN ?_ _ | refine blk_drew ?_ | refine blk_alloc ?_ _)); exact BK288.out) hb)
 have n2_ := Aside0.mk (blk_below (g := gb299) (o := .cells #[.int .i64 t291, .int .i64 t292, .slice Ao19 t293.length co19] 34 (0, 0)) (by (with_reducible repeat (first | refine blk_drewN ?_ _ | refine blk_drew ?_ | refine blk_alloc ?_ _)); exact BK299.out) hb)
 have n3_ := Aside0.mk (below_step (by repeat (first | (with_reducible first | exact HB.out | apply below_alloc | apply pw_below_drewN | apply below_drew1 | refine below_set ?_ GE288.out | refine below_set ?_ GE299.out) | exact HB.out)) hb)
 clear HO_300002; clear BK288; clear BK299; clear HB
 have HO_300002 := n0_
 have BK288 := n1_
 have BK299 := n2_
 have HB := n3_
 clear n0_ n1_ n2_ n3_
 (try clear hb)
 (try clear hb2)
 (try clear hk)
 (try clear hi)
 refine hK.out _ _ ⟨(blk_cell BK288.out 0).trans rfl, (blk_cell BK288.out 1).trans rfl, (blk_cell BK288.out 2).trans rfl, (blk_cell BK288.out 3).trans rfl, (blk_cell BK288.out 4).trans rfl, (blk_cell BK288.out 5).trans rfl, (blk_cell BK288.out 6).trans rfl, (blk_cell BK288.out 7).trans rfl⟩ (fun hHeld => ?_)
 clear hK K
 refine norm_ (a' := ?_) ?_ ?_
 rotate_left
 · show Act.put _ (some 115) _ = _
   simp only [Act.put, List.setIfInBounds_toArray, List.set_cons_zero, List.set_cons_succ, i64_w, i32_w]; rfl
 refine one_ (i := 8) (N := some 116) #[true, true, true, true, true, true, true, true, true, false, false, false] rfl rfl (one_of HT_.out (by kernel_rfl)) (by decide) (fun K hK => ?_)
 refine goes_ Try.func21 (by kernel_rfl) rfl #[.agg #[.int .i64 t321, .int .i64 t322, .int .i64 t323]] (by rfl) rfl rfl (by (try simp only [List.map_toArray, List.map_cons, List.map_nil]); first | done | rfl | (simp only [List.length_drop, List.length_take]; rfl)) ?_
 with_reducible refine (spliceref25_Check.calls t321 t322 t323 t324 _ A88.out).mono ?_
 rintro e w93 ⟨rfl, hb⟩
 refine ⟨_, rfl, ?_⟩
 have n0_ := Aside0.mk (Kd.R_below (by (with_reducible repeat (first | apply Kd.R_alloc | apply Kd.R_drewN | apply Kd.R_drew)); exact HO_300002.out) hb)
 have n1_ := Aside0.mk (blk_below (g := gb288) (o := .cells #[.int .i64 a0_0, .int .i64 a0_1, .slice A0_2 l0_2.length c0_2, .slice A0_3 l0_3.length c0_3, .int .i64 a0_4, .int .i64 a0_5, .int .i64 a0_6, .int .i64 a0_7] 29 (0, 0)) (by (with_reducible repeat (first | refine blk_drewN ?_ _ | refine blk_drew ?_ | refine blk_alloc ?_ _)); exact BK288.out) hb)
 have n2_ := Aside0.mk (blk_below (g := gb299) (o := .cells #[.int .i64 t291, .int .i64 t292, .slice Ao19 t293.length co19] 34 (0, 0)) (by (with_reducible repeat (first | refine blk_drewN ?_ _ | refine blk_drew ?_ | refine blk_alloc ?_ _)); exact BK299.out) hb)
 have n3_ := Aside0.mk (below_step (by repeat (first | (with_reducible first | exact HB.out | apply below_alloc | apply pw_below_drewN | apply below_drew1 | refine below_set ?_ GE288.out | refine below_set ?_ GE299.out) | exact HB.out)) hb)
 clear HO_300002; clear BK288; clear BK299; clear HB
 have HO_300002 := n0_
 have BK288 := n1_
 have BK299 := n2_
 have HB := n3_
 clear n0_ n1_ n2_ n3_
 (try clear hb)
 (try clear hb2)
 (try clear hk)
 (try clear hi)
 refine hK.out _ _ ⟨(blk_cell BK288.out 0).trans rfl, (blk_cell BK288.out 1).trans rfl, (blk_cell BK288.out 2).trans rfl, (blk_cell BK288.out 3).trans rfl, (blk_cell BK288.out 4).trans rfl, (blk_cell BK288.out 5).trans rfl, (blk_cell BK288.out 6).trans rfl, (blk_cell BK288.out 7).trans rfl⟩ (fun hHeld => ?_)
 clear hK K
 refine norm_ (a' := ?_) ?_ ?_
 rotate_left
 · show Act.put _ (some 116) _ = _
   simp only [Act.put, List.setIfInBounds_toArray, List.set_cons_zero, List.set_cons_succ, i64_w, i32_w]; rfl
 refine pure_ (i := 9) (N := some 117) (v := ?_) (a' := ?_) #[true, true, true, true, true, true, true, true, true, true, false, false] rfl rfl (any_of HT_.out (by kernel_rfl)) (fun _ _ _ h => h) (Or.inl ⟨by rfl, ?_⟩) ?_ ?_
 rotate_left
 · intro w'; go_simp; with_reducible rfl
 rotate_left
 · simp only [Act.put, List.setIfInBounds_toArray, List.set_cons_zero, List.set_cons_succ, i64_w, i32_w]; rfl
 refine pure_ (i := 10) (N := some 118) (v := ?_) (a' := ?_) #[true, true, true, true, true, true, true, true, true, true, true, false] rfl rfl (any_of HT_.out (by kernel_rfl)) (fun _ _ _ h => h) (Or.inl ⟨by rfl, ?_⟩) ?_ ?_
 rotate_left
 · intro w'; go_simp; with_reducible rfl
 rotate_left
 · simp only [Act.put, List.setIfInBounds_toArray, List.set_cons_zero, List.set_cons_succ, i64_w, i32_w]; rfl
 refine pure_ (i := 11) (N := some 2) (v := ?_) (a' := ?_) #[true, true, true, true, true, true, true, true, true, true, true, true] rfl rfl (any_of HT_.out (by kernel_rfl)) (fun _ _ _ h => h) (Or.inl ⟨by rfl, ?_⟩) ?_ ?_
 rotate_left
 · intro w'; go_simp; with_reducible rfl
 rotate_left
 · simp only [Act.put, List.setIfInBounds_toArray, List.set_cons_zero, List.set_cons_succ, i64_w, i32_w]; rfl
 refine done_ (done_of HT_.out (by kernel_rfl)) ?_
 try go_wp2
 go_ret
 exact ⟨by first | rfl | (simp [errW_none, errW_some] <;> rfl) | (simp [*, errW_none, errW_some] <;> rfl), by repeat (first | (with_reducible first | exact HB.out | apply below_alloc | apply pw_below_drewN | apply below_drew1 | refine below_set ?_ GE288.out | refine below_set ?_ GE299.out) | exact HB.out)⟩
/-- THE ONE PURE STATEMENT of splicelaw25_BalanceLoads: yours. -/
def splicelaw25_BalanceLoads.Pure : Prop := ∀ (x0 : S29), wf29 x0 → ∃ k, splicelaw25_BalanceLoads.f k x0.f0.f0 x0.f0.f1 x0.f0.f2 x0.f1 x0.f2.f0 x0.f2.f1 x0.f2.f2 x0.f3 = some true

end Go.Proofs.Yteclhjhnbolkmaa.PL
