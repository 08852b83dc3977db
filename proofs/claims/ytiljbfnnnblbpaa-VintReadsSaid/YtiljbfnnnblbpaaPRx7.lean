-- written by a program of this session
import Derived.Test.YtiljbfnnnblbpaaPRx0
import Derived.Test.YtiljbfnnnblbpaaPRx1
import Derived.Test.YtiljbfnnnblbpaaPRx2
import Derived.Test.YtiljbfnnnblbpaaPRx3
import Derived.Test.YtiljbfnnnblbpaaPRx4
import Derived.Test.YtiljbfnnnblbpaaPRx5
import Derived.Test.YtiljbfnnnblbpaaPRx6
namespace Go.Proofs.Ytiljbfnnnblbpaa.PR
open Go.RowKit Go.Proofs.Ytiljbfnnnblbpaa.Op Go.Proofs.YtiljbfnnnblbpaaW.PrintWords Go.Proofs.YtiljbfnnnblbpaaW.PrintLast Go.Proofs.YtiljbfnnnblbpaaW.PrintMore
attribute [local go_sem] max2_int min2_int max_two min_two max_three min_three max_four min_four   -- for this text's walks alone
set_option linter.unusedVariables false
set_option linter.unusedSimpArgs false

/-! ### splicelaw01_VintReads: function 10 -/
mutual
def splicelaw01_VintReads.l0 : Nat → List (S46) → Int → ByteArray → Int → ByteArray → Int → Option (Bool)
  | 0, _, _, _, _, _, _ => none
  | k + 1, x1, x7, x237000, x237001, x238000, x238001 => if x7 < (x1.length : Int) then (splicelaw01_VintReads.j1 k x1 x7 (decide (x7 < 60)) x237000 x237001 x238000 x238001) else (splicelaw01_VintReads.j1 k x1 x7 false x237000 x237001 x238000 x238001)
def splicelaw01_VintReads.j1 : Nat → List (S46) → Int → Bool → ByteArray → Int → ByteArray → Int → Option (Bool)
  | 0, _, _, _, _, _, _, _ => none
  | k + 1, x1, x7, x35, x237000, x237001, x238000, x238001 => if x35 = true then (if 0 ≤ x7 then (if x7 < (x1.length : Int) then (if ((rd_T46 x1 x7).f0) = 0 then ((spliceref01_Reader_Num.f k x238000 x238001).bind fun bt239 => ((vint_Reader_Num.f k x237000 x237001).bind fun bt243 => (splicelaw01_VintReads.j2 k x1 x7 (bt243.1 == bt239.2.2) bt243.2.1 bt243.2.2 bt239.1 bt239.2.1))) else (if ((rd_T46 x1 x7).f0) = 1 then ((spliceref01_Reader_Whole.f k x238000 x238001).bind fun bt246 => ((vint_Reader_Whole.f k x237000 x237001).bind fun bt250 => (splicelaw01_VintReads.j2 k x1 x7 (bt250.1 == bt246.2.2) bt250.2.1 bt250.2.2 bt246.1 bt246.2.1))) else (if ((rd_T46 x1 x7).f0) = 2 then ((spliceref01_Reader_Flag.f x238000 x238001).bind fun bt253 => ((vint_Reader_Flag.f x237000 x237001).bind fun bt257 => (splicelaw01_VintReads.j2 k x1 x7 (bt257.1 == bt253.2.2) bt257.2.1 bt257.2.2 bt253.1 bt253.2.1))) else (if ((rd_T46 x1 x7).f0) = 3 then ((spliceref01_Reader_Text.f k x238000 x238001 ((rd_T46 x1 x7).f1)).bind fun bt261 => ((vint_Reader_Text.f k x237000 x237001 ((rd_T46 x1 x7).f1)).bind fun bt266 => (splicelaw01_VintReads.j2 k x1 x7 (bt266.1.toList == bt261.2.2.toList) bt266.2.1 bt266.2.2 bt261.1 bt261.2.1))) else (if ((rd_T46 x1 x7).f0) = 4 then ((spliceref01_Reader_List.f k x238000 x238001 (mn ((rd_T46 x1 x7).f1) 300)).bind fun bt270 => ((vint_Reader_List.f k x237000 x237001 (mn ((rd_T46 x1 x7).f1) 300)).bind fun bt277 => ((spliceref01_Same.f k bt277.1 bt270.2.2).bind fun t282 => (splicelaw01_VintReads.j2 k x1 x7 t282 bt277.2.1 bt277.2.2 bt270.1 bt270.2.1)))) else (splicelaw01_VintReads.l0 k x1 (wrap64 (x7 + 1)) x237000 x237001 x238000 x238001)))))) else (none)) else (none)) else ((splicelaw01_awake.f k).bind fun t293 => (if t293 = true then ((vint_Reader_Num_nil.f).bind fun t294 => (if t294 = 0 then ((vint_Reader_Whole_nil.f).bind fun t295 => (if t295 = 0 then ((vint_Reader_Flag_nil.f).bind fun t296 => (if t296 = true then (some false) else ((vint_Reader_Text_nil.f 9).bind fun t297 => (if t297.toList = ([] : List UInt8) then ((vint_Reader_List_nil.f k 9).bind fun t298 => (if (t298.length : Int) = 0 then ((vint_Reader_Left_nil.f).bind fun t301 => (if t301.toList = ([] : List UInt8) then ((vint_Reader_Err_nil.f).bind fun t302 => (if t302 = 5 then ((vint_Reader_End_nil.f).bind fun t303 => (some (t303 == 5))) else (some false))) else (some false))) else (some false))) else (some false))))) else (some false))) else (some false))) else (some false)))
def splicelaw01_VintReads.j2 : Nat → List (S46) → Int → Bool → ByteArray → Int → ByteArray → Int → Option (Bool)
  | 0, _, _, _, _, _, _, _ => none
  | k + 1, x1, x7, x8, x237000, x237001, x238000, x238001 => if x8 = true then ((vint_Reader_Left.f x237000 x237001).bind fun bt283 => (if bt283.1.toList = x238000.toList then ((vint_Reader_Err.f bt283.2.1 bt283.2.2).bind fun bt286 => (if bt286.1 = x238001 then ((vint_Reader_End.f bt286.2.1 bt286.2.2).bind fun bt289 => ((spliceref01_Reader_End.f x238000 x238001).bind fun t292 => (if bt289.1 = t292 then (splicelaw01_VintReads.l0 k x1 (wrap64 (x7 + 1)) bt289.2.1 bt289.2.2 x238000 x238001) else (some false)))) else (some false))) else (some false))) else (some false)
end
def splicelaw01_VintReads.f (k : Nat) (a0 : ByteArray) (l1 : List (S46)) : Option (Bool) := if (a0.size : Int) > 20000 then ((splicelaw01_awake.f k).bind fun t233 => (some t233)) else ((vint_From.f a0).bind fun bt234 => (splicelaw01_VintReads.l0 k l1 0 bt234.1 bt234.2 a0 0))
theorem splicelaw01_VintReads.mono_l : ∀ k, (∀ y0 y1 y2 y3 y4 y5, LeO (splicelaw01_VintReads.l0 k y0 y1 y2 y3 y4 y5) (splicelaw01_VintReads.l0 (k + 1) y0 y1 y2 y3 y4 y5)) ∧ (∀ y0 y1 y2 y3 y4 y5 y6, LeO (splicelaw01_VintReads.j1 k y0 y1 y2 y3 y4 y5 y6) (splicelaw01_VintReads.j1 (k + 1) y0 y1 y2 y3 y4 y5 y6)) ∧ (∀ y0 y1 y2 y3 y4 y5 y6, LeO (splicelaw01_VintReads.j2 k y0 y1 y2 y3 y4 y5 y6) (splicelaw01_VintReads.j2 (k + 1) y0 y1 y2 y3 y4 y5 y6))
  | 0 => ⟨fun _ _ _ _ _ _ r h => by simp [splicelaw01_VintReads.l0] at h, fun _ _ _ _ _ _ _ r h => by simp [splicelaw01_VintReads.j1] at h, fun _ _ _ _ _ _ _ r h => by simp [splicelaw01_VintReads.j2] at h⟩
  | k + 1 => by
    obtain ⟨ih0, ih1, ih2⟩ := splicelaw01_VintReads.mono_l k
    refine ⟨?_, ?_, ?_⟩
    · intro y0 y1 y2 y3 y4 y5
      unfold splicelaw01_VintReads.l0
      repeat' first
      | (with_reducible exact ih0 _ _ _ _ _ _)
      | (with_reducible exact ih1 _ _ _ _ _ _ _)
      | (with_reducible exact ih2 _ _ _ _ _ _ _)
      | (with_reducible exact splicelaw01_awake.mono _)
      | (with_reducible exact spliceref01_Reader_List.mono _ _ _ _)
      | (with_reducible exact spliceref01_Reader_Num.mono _ _ _)
      | (with_reducible exact spliceref01_Reader_Text.mono _ _ _ _)
      | (with_reducible exact spliceref01_Reader_Whole.mono _ _ _)
      | (with_reducible exact spliceref01_Same.mono _ _ _)
      | (with_reducible exact vint_Reader_List.mono _ _ _ _)
      | (with_reducible exact vint_Reader_List_nil.mono _ _)
      | (with_reducible exact vint_Reader_Num.mono _ _ _)
      | (with_reducible exact vint_Reader_Text.mono _ _ _ _)
      | (with_reducible exact vint_Reader_Whole.mono _ _ _)
      | (with_reducible exact LeO.refl _)
      | (with_reducible exact LeO.none _)
      | (with_reducible refine LeO.ite ?_ ?_)
      | (with_reducible refine LeO.bind ?_ (fun _ => ?_))
      | exact ih0 _ _ _ _ _ _
      | exact ih1 _ _ _ _ _ _ _
      | exact ih2 _ _ _ _ _ _ _
      | exact splicelaw01_awake.mono _
      | exact spliceref01_Reader_List.mono _ _ _ _
      | exact spliceref01_Reader_Num.mono _ _ _
      | exact spliceref01_Reader_Text.mono _ _ _ _
      | exact spliceref01_Reader_Whole.mono _ _ _
      | exact spliceref01_Same.mono _ _ _
      | exact vint_Reader_List.mono _ _ _ _
      | exact vint_Reader_List_nil.mono _ _
      | exact vint_Reader_Num.mono _ _ _
      | exact vint_Reader_Text.mono _ _ _ _
      | exact vint_Reader_Whole.mono _ _ _
      | exact LeO.none _
      | refine LeO.ite ?_ ?_
      | refine LeO.bind ?_ (fun _ => ?_)
    · intro y0 y1 y2 y3 y4 y5 y6
      unfold splicelaw01_VintReads.j1
      repeat' first
      | (with_reducible exact ih0 _ _ _ _ _ _)
      | (with_reducible exact ih1 _ _ _ _ _ _ _)
      | (with_reducible exact ih2 _ _ _ _ _ _ _)
      | (with_reducible exact splicelaw01_awake.mono _)
      | (with_reducible exact spliceref01_Reader_List.mono _ _ _ _)
      | (with_reducible exact spliceref01_Reader_Num.mono _ _ _)
      | (with_reducible exact spliceref01_Reader_Text.mono _ _ _ _)
      | (with_reducible exact spliceref01_Reader_Whole.mono _ _ _)
      | (with_reducible exact spliceref01_Same.mono _ _ _)
      | (with_reducible exact vint_Reader_List.mono _ _ _ _)
      | (with_reducible exact vint_Reader_List_nil.mono _ _)
      | (with_reducible exact vint_Reader_Num.mono _ _ _)
      | (with_reducible exact vint_Reader_Text.mono _ _ _ _)
      | (with_reducible exact vint_Reader_Whole.mono _ _ _)
      | (with_reducible exact LeO.refl _)
      | (with_reducible exact LeO.none _)
      | (with_reducible refine LeO.ite ?_ ?_)
      | (with_reducible refine LeO.bind ?_ (fun _ => ?_))
      | exact ih0 _ _ _ _ _ _
      | exact ih1 _ _ _ _ _ _ _
      | exact ih2 _ _ _ _ _ _ _
      | exact splicelaw01_awake.mono _
      | exact spliceref01_Reader_List.mono _ _ _ _
      | exact spliceref01_Reader_Num.mono _ _ _
      | exact spliceref01_Reader_Text.mono _ _ _ _
      | exact spliceref01_Reader_Whole.mono _ _ _
      | exact spliceref01_Same.mono _ _ _
      | exact vint_Reader_List.mono _ _ _ _
      | exact vint_Reader_List_nil.mono _ _
      | exact vint_Reader_Num.mono _ _ _
      | exact vint_Reader_Text.mono _ _ _ _
      | exact vint_Reader_Whole.mono _ _ _
      | exact LeO.none _
      | refine LeO.ite ?_ ?_
      | refine LeO.bind ?_ (fun _ => ?_)
    · intro y0 y1 y2 y3 y4 y5 y6
      unfold splicelaw01_VintReads.j2
      repeat' first
      | (with_reducible exact ih0 _ _ _ _ _ _)
      | (with_reducible exact ih1 _ _ _ _ _ _ _)
      | (with_reducible exact ih2 _ _ _ _ _ _ _)
      | (with_reducible exact splicelaw01_awake.mono _)
      | (with_reducible exact spliceref01_Reader_List.mono _ _ _ _)
      | (with_reducible exact spliceref01_Reader_Num.mono _ _ _)
      | (with_reducible exact spliceref01_Reader_Text.mono _ _ _ _)
      | (with_reducible exact spliceref01_Reader_Whole.mono _ _ _)
      | (with_reducible exact spliceref01_Same.mono _ _ _)
      | (with_reducible exact vint_Reader_List.mono _ _ _ _)
      | (with_reducible exact vint_Reader_List_nil.mono _ _)
      | (with_reducible exact vint_Reader_Num.mono _ _ _)
      | (with_reducible exact vint_Reader_Text.mono _ _ _ _)
      | (with_reducible exact vint_Reader_Whole.mono _ _ _)
      | (with_reducible exact LeO.refl _)
      | (with_reducible exact LeO.none _)
      | (with_reducible refine LeO.ite ?_ ?_)
      | (with_reducible refine LeO.bind ?_ (fun _ => ?_))
      | exact ih0 _ _ _ _ _ _
      | exact ih1 _ _ _ _ _ _ _
      | exact ih2 _ _ _ _ _ _ _
      | exact splicelaw01_awake.mono _
      | exact spliceref01_Reader_List.mono _ _ _ _
      | exact spliceref01_Reader_Num.mono _ _ _
      | exact spliceref01_Reader_Text.mono _ _ _ _
      | exact spliceref01_Reader_Whole.mono _ _ _
      | exact spliceref01_Same.mono _ _ _
      | exact vint_Reader_List.mono _ _ _ _
      | exact vint_Reader_List_nil.mono _ _
      | exact vint_Reader_Num.mono _ _ _
      | exact vint_Reader_Text.mono _ _ _ _
      | exact vint_Reader_Whole.mono _ _ _
      | exact LeO.none _
      | refine LeO.ite ?_ ?_
      | refine LeO.bind ?_ (fun _ => ?_)
theorem splicelaw01_VintReads.mono : ∀ a0 a1 k, LeO (splicelaw01_VintReads.f k a0 a1) (splicelaw01_VintReads.f (k + 1) a0 a1) := by
  intro a0 a1 k
  obtain ⟨ih0, ih1, ih2⟩ := splicelaw01_VintReads.mono_l k
  unfold splicelaw01_VintReads.f
  repeat' first
      | (with_reducible exact ih0 _ _ _ _ _ _)
      | (with_reducible exact ih1 _ _ _ _ _ _ _)
      | (with_reducible exact ih2 _ _ _ _ _ _ _)
      | (with_reducible exact splicelaw01_awake.mono _)
      | (with_reducible exact spliceref01_Reader_List.mono _ _ _ _)
      | (with_reducible exact spliceref01_Reader_Num.mono _ _ _)
      | (with_reducible exact spliceref01_Reader_Text.mono _ _ _ _)
      | (with_reducible exact spliceref01_Reader_Whole.mono _ _ _)
      | (with_reducible exact spliceref01_Same.mono _ _ _)
      | (with_reducible exact vint_Reader_List.mono _ _ _ _)
      | (with_reducible exact vint_Reader_List_nil.mono _ _)
      | (with_reducible exact vint_Reader_Num.mono _ _ _)
      | (with_reducible exact vint_Reader_Text.mono _ _ _ _)
      | (with_reducible exact vint_Reader_Whole.mono _ _ _)
      | (with_reducible exact LeO.refl _)
      | (with_reducible exact LeO.none _)
      | (with_reducible refine LeO.ite ?_ ?_)
      | (with_reducible refine LeO.bind ?_ (fun _ => ?_))
      | exact ih0 _ _ _ _ _ _
      | exact ih1 _ _ _ _ _ _ _
      | exact ih2 _ _ _ _ _ _ _
      | exact splicelaw01_awake.mono _
      | exact spliceref01_Reader_List.mono _ _ _ _
      | exact spliceref01_Reader_Num.mono _ _ _
      | exact spliceref01_Reader_Text.mono _ _ _ _
      | exact spliceref01_Reader_Whole.mono _ _ _
      | exact spliceref01_Same.mono _ _ _
      | exact vint_Reader_List.mono _ _ _ _
      | exact vint_Reader_List_nil.mono _ _
      | exact vint_Reader_Num.mono _ _ _
      | exact vint_Reader_Text.mono _ _ _ _
      | exact vint_Reader_Whole.mono _ _ _
      | exact LeO.none _
      | refine LeO.ite ?_ ?_
      | refine LeO.bind ?_ (fun _ => ?_)
def splicelaw01_VintReads.T20 : Bool × List (List Nat × List Nat) := (true, [([], []), ([], []), ([], []), ([1, 2], [1, 2]), ([3], [3]), ([4], [4]), ([0, 5], [0, 5]), ([6], [6]), ([7], [7]), ([7], [7]), ([], []), ([10, 8, 6, 0, 1, 2, 3, 4, 5, 6, 7, 8, 10], [8, 10]), ([9, 11, 0, 1, 2, 3, 4, 5, 6, 7, 8, 9, 10, 11], [9])])
def splicelaw01_VintReads.B20 : List Nat := [0, 0, 0, 6, 14, 30, 63, 127, 255, 255, 0, 1535, 4095]
theorem splicelaw01_VintReads.tab20 : rtab .any (opsOf Try.f10 20) = splicelaw01_VintReads.T20 := by kernel_rfl
theorem splicelaw01_VintReads.bits20 : waitsOk splicelaw01_VintReads.T20.2 splicelaw01_VintReads.B20 = true := by kernel_rfl
def splicelaw01_VintReads.T21 : Bool × List (List Nat × List Nat) := (true, [([], []), ([], []), ([], []), ([], []), ([2, 3], [2, 3]), ([4], [4]), ([5], [5]), ([1, 6], [1, 6]), ([], []), ([7, 8], [7, 8]), ([0, 7, 0], [0]), ([9, 10, 0, 1, 2, 3, 4, 5, 6, 7, 8, 9, 10], [9])])
def splicelaw01_VintReads.B21 : List Nat := [0, 0, 0, 0, 12, 28, 60, 126, 0, 510, 255, 2047]
theorem splicelaw01_VintReads.tab21 : rtab .any (opsOf Try.f10 21) = splicelaw01_VintReads.T21 := by kernel_rfl
theorem splicelaw01_VintReads.bits21 : waitsOk splicelaw01_VintReads.T21.2 splicelaw01_VintReads.B21 = true := by kernel_rfl
def splicelaw01_VintReads.T23 : Bool × List (List Nat × List Nat) := (true, [([], []), ([], []), ([], []), ([1, 2], [1, 2]), ([3], [3]), ([4], [4]), ([5], [5]), ([0, 6], [0, 6]), ([7], [7]), ([8], [8]), ([8], [8]), ([], []), ([11, 9, 7, 0, 1, 2, 3, 4, 5, 6, 7, 8, 9, 11], [9, 11]), ([10, 12, 0, 1, 2, 3, 4, 5, 6, 7, 8, 9, 10, 11, 12], [10])])
def splicelaw01_VintReads.B23 : List Nat := [0, 0, 0, 6, 14, 30, 62, 127, 255, 511, 511, 0, 3071, 8191]
theorem splicelaw01_VintReads.tab23 : rtab .any (opsOf Try.f10 23) = splicelaw01_VintReads.T23 := by kernel_rfl
theorem splicelaw01_VintReads.bits23 : waitsOk splicelaw01_VintReads.T23.2 splicelaw01_VintReads.B23 = true := by kernel_rfl
def splicelaw01_VintReads.T24 : Bool × List (List Nat × List Nat) := (true, [([], []), ([], []), ([], []), ([], []), ([2, 3], [2, 3]), ([4], [4]), ([5], [5]), ([6], [6]), ([1, 7], [1, 7]), ([], []), ([8, 9, 8], [8, 9]), ([0, 10, 0], [0]), ([10, 11, 0, 1, 2, 3, 4, 5, 6, 7, 8, 9, 10, 11], [10])])
def splicelaw01_VintReads.B24 : List Nat := [0, 0, 0, 0, 12, 28, 60, 124, 254, 0, 1022, 2047, 4095]
theorem splicelaw01_VintReads.tab24 : rtab .any (opsOf Try.f10 24) = splicelaw01_VintReads.T24 := by kernel_rfl
theorem splicelaw01_VintReads.bits24 : waitsOk splicelaw01_VintReads.T24.2 splicelaw01_VintReads.B24 = true := by kernel_rfl
def splicelaw01_VintReads.T25 : Bool × List (List Nat × List Nat) := (true, [([], []), ([0], [0]), ([1], [1]), ([2], [2]), ([3, 2, 2], [2, 3]), ([2], [2]), ([5, 2], [2, 5]), ([4, 6, 2], [2, 4, 6]), ([2, 7], [2, 7]), ([8, 4], [8]), ([9], [9]), ([10, 9, 9], [9, 10]), ([9], [9]), ([12, 9], [9, 12]), ([11, 13, 9], [9, 11, 13]), ([9, 14], [9, 14]), ([15, 11], [15]), ([16], [16]), ([17, 16, 16], [16, 17]), ([16], [16]), ([19, 18, 16], [16, 19]), ([18, 20, 16], [16, 18, 20]), ([16, 21], [16, 21])])
def splicelaw01_VintReads.B25 : List Nat := [0, 1, 3, 7, 15, 7, 39, 127, 255, 511, 1023, 2047, 1023, 5119, 16383, 32767, 65535, 131071, 262143, 131071, 1048575, 2097151, 4194303]
theorem splicelaw01_VintReads.tab25 : rtab .any (opsOf Try.f10 25) = splicelaw01_VintReads.T25 := by kernel_rfl
theorem splicelaw01_VintReads.bits25 : waitsOk splicelaw01_VintReads.T25.2 splicelaw01_VintReads.B25 = true := by kernel_rfl
set_option maxHeartbeats 8000000 in
set_option maxRecDepth 100000 in
theorem splicelaw01_VintReads.calls (k : Nat) (a0 : ByteArray) (A1 : Option Addr) (c1 : Nat) (l1 : List (S46)) (r : Bool) (w : World) (hr1 : Kd.C k46 w A1 l1.length l1) (hc1 : l1.length ≤ c1) (h : splicelaw01_VintReads.f k a0 l1 = some r) (hr_ : r = true) :
    Calls Try.prog 10 #[.string a0, .slice A1 l1.length c1] w fun e w' => e = .returned (.bool r) ∧ Below w.heap.size w w' := by
 have hu44 := Try.underlying44
 have HR1 := Aside0.mk hr1
 have HC1 := Aside0.mk hc1
 clear hr1 hc1
 have HB := Aside0.mk (Below.refl w.heap.size w)
 have H : (if (a0.size : Int) > 20000 then ((splicelaw01_awake.f k).bind fun t233 => (some t233)) else ((vint_From.f a0).bind fun bt234 => (splicelaw01_VintReads.l0 k l1 0 bt234.1 bt234.2 a0 0))) = some r := h
 clear h
 by_cases c3 : (a0.size : Int) > 20000
 · rw [if_pos c3] at H
   have c3b0 : decide (20000 < (a0.size : Int)) = true := decide_eq_true c3
   have c3b1 : decide (20000 < a0.size) = true := decide_eq_true (by omega)
   clear c3
   replace H := Option.bind_eq_some_iff.mp H
   obtain ⟨t233, A40, H⟩ := H
   replace H : (some t233) = some r := H
   have A4 := Aside0.mk A40
   clear A40
   obtain rfl := Option.some.inj H
   go_enter Try.func10, Try.ntmps10
   go_wp2_with (first | ((with_reducible refine gate_callee (f := 13) rfl ?_); refine goesL_ (some 23) rfl rfl Try.func13 (by kernel_rfl) rfl #[] rfl (by (try simp only [List.map_toArray, List.map_cons, List.map_nil]); first | done | rfl | (simp only [List.length_drop, List.length_take]; rfl)) ?_; (with_reducible refine (splicelaw01_awake.calls k  t233 _ A4.out (by first | rfl | exact hr_)).mono ?_); rintro e w5 ⟨rfl, hb⟩; refine ⟨_, rfl, ?_⟩; have n0_ := Aside0.mk (below_step (by repeat (first | (with_reducible first | exact HB.out | apply below_alloc | apply pw_below_drewN | apply below_drew1) | exact HB.out)) hb); clear HB; have HB := n0_; clear n0_; (try clear hb); (try clear hb2); (try clear hk); (try clear hi)))
   go_ret
   exact ⟨by first | rfl | (simp [errW_none, errW_some] <;> rfl) | (simp [*, errW_none, errW_some] <;> rfl), by repeat (first | (with_reducible first | exact HB.out | apply below_alloc | apply pw_below_drewN | apply below_drew1) | exact HB.out)⟩
 rw [if_neg c3] at H
 have c3b0 : decide (20000 < (a0.size : Int)) = false := decide_eq_false c3
 have c3b1 : decide (20000 < a0.size) = false := decide_eq_false (by omega)
 clear c3
 replace H := Option.bind_eq_some_iff.mp H
 obtain ⟨⟨t234, t235⟩, A60, H⟩ := H
 replace H : (splicelaw01_VintReads.l0 k l1 0 t234 t235 a0 0) = some r := H
 have A6 := Aside0.mk A60
 clear A60
 have H' := Aside0.mk H
 clear H
 go_enter Try.func10, Try.ntmps10
 go_wp2_with (first | ((with_reducible refine gate_callee (f := 25) rfl ?_); refine goesL_ (some 25) rfl rfl Try.func25 (by kernel_rfl) rfl #[.string a0] rfl (by (try simp only [List.map_toArray, List.map_cons, List.map_nil]); first | done | rfl | (simp only [List.length_drop, List.length_take]; rfl)) ?_; (with_reducible refine (vint_From.calls a0 t234 t235 w _ ?side1 A6.out).mono ?_); (case side1 => repeat (first | (with_reducible first | exact HB.out | apply below_alloc | apply pw_below_drewN | apply below_drew1) | exact HB.out)); rintro e w7 ⟨g236, rfl, hi, hb, hb2⟩; refine ⟨_, rfl, ?_⟩; have n0_ := Aside0.mk (hb); have n1_ := Aside0.mk (hi); clear HB; have HB := n0_; have HI236 := n1_; clear n0_ n1_; (try clear hb); (try clear hb2); (try clear hk); (try clear hi)) | ((with_reducible refine gate_dst (N := 6) rfl ?_); (try (refine gate_guard (by rfl) ?_; dsimp only)); refine box_event ?hg (N := 6) ?hd (cs := #[.string (⟨#[]⟩ : ByteArray), .int .i64 0]) (t := 44) ?hr ?_; (case hd => rfl); (case hg => rfl); (case hr => first | (go_simp; done) | (go_simp; rfl)); intro gb237 hg w8 hbox hb; have n0_ := Aside0.mk (IsS68.below (by repeat (first | (with_reducible first | exact HI236.out | apply IsS68.alloc | apply IsS68.drewN | apply IsS68.drew | apply IsS68.set_0 | apply IsS68.set_1) | exact HI236.out)) hb); have n1_ := Aside0.mk (below_step (by repeat (first | (with_reducible first | exact HB.out | apply below_alloc | apply pw_below_drewN | apply below_drew1 | refine below_set ?_ (IsS68.ge HI236.out)) | exact HB.out)) hb); have n2_ := Aside0.mk (hbox); have n3_ := Aside0.mk ((by rw [hg]; exact (below_size (by repeat (first | (with_reducible first | exact HB.out | apply below_alloc | apply pw_below_drewN | apply below_drew1 | refine below_set ?_ (IsS68.ge HI236.out)) | exact HB.out))) : w.heap.size ≤ gb237)); have n4_ := Aside0.mk ((by rw [hg]; exact (below_size (by repeat (first | (with_reducible first | exact HB.out | apply below_alloc | apply pw_below_drewN | apply below_drew1 | refine below_set ?_ (IsS68.ge HI236.out)) | exact HB.out))) : w.heap.size ≤ gb237)); have n5_ := Aside0.mk ((by rw [hg]; exact Nat.ne_of_lt (IsS68.lt (show IsS68 w _ g236 t234 t235 from by repeat (first | (with_reducible first | exact HI236.out | apply IsS68.alloc | apply IsS68.drewN | apply IsS68.drew | apply IsS68.set_0 | apply IsS68.set_1) | exact HI236.out))) : g236 ≠ gb237)); have n6_ := Aside0.mk ((by rw [hg]; exact Nat.ne_of_gt (IsS68.lt (show IsS68 w _ g236 t234 t235 from by repeat (first | (with_reducible first | exact HI236.out | apply IsS68.alloc | apply IsS68.drewN | apply IsS68.drew | apply IsS68.set_0 | apply IsS68.set_1) | exact HI236.out))) : gb237 ≠ g236)); clear HI236; clear HB; have HI236 := n0_; have HB := n1_; have BK237 := n2_; have GW237 := n3_; have GE237 := n4_; have NB236_237 := n5_; have NB237_236 := n6_; clear n0_ n1_ n2_ n3_ n4_ n5_ n6_; clear hb hbox hg; have hnb9 := NB237_236.out; have hnc9 := NB236_237.out; have hcz10_0 : w8.cell? ⟨gb237, 0, none⟩ = some (.string (⟨#[]⟩ : ByteArray)) := (blk_cell BK237.out 0).trans rfl; have hcz10_1 : w8.cell? ⟨gb237, 1, none⟩ = some (.int .i64 0) := (blk_cell BK237.out 1).trans rfl; have hfz10_0 := blk_frozen BK237.out 0; have hfz10_1 := blk_frozen BK237.out 1))
 go_loopg [7] k (fun kq v7 w' => ∃ (x7_1 : Int) (x237000_1 : ByteArray) (x237001_1 : Int) (x238000_1 : ByteArray) (x238001_1 : Int), v7 = .int .i64 x7_1 ∧ Aside0 (splicelaw01_VintReads.l0 kq l1 x7_1 x237000_1 x237001_1 x238000_1 x238001_1 = some r) ∧ Aside0 (kq ≤ k) ∧ Aside0 (w'.heap[gb237]? = some (.cells #[.string x238000_1, .int .i64 x238001_1] 44 (0, 0))) ∧ Aside0 (IsS68 w w' g236 x237000_1 x237001_1) ∧ Aside0 (Below w.heap.size w w'))
 case atStart => exact ⟨(0), (t234), (t235), (a0), (0), (by first | rfl | (simp; done) | (simp [*]; done)), H', ⟨Nat.le_refl _⟩, ⟨by (with_reducible repeat (first | refine blk_drewN ?_ _ | refine blk_drew ?_ | refine blk_alloc ?_ _)); refine blk_put (cs := #[.string a0, .int .i64 0]) ?_ 1 _ rfl; (with_reducible repeat (first | refine blk_drewN ?_ _ | refine blk_drew ?_ | refine blk_alloc ?_ _)); refine blk_put (cs := #[.string (⟨#[]⟩ : ByteArray), .int .i64 0]) ?_ 0 _ rfl; (with_reducible repeat (first | refine blk_drewN ?_ _ | refine blk_drew ?_ | refine blk_alloc ?_ _)); exact BK237.out⟩, ⟨by repeat (first | (with_reducible first | exact HI236.out | apply IsS68.alloc | apply IsS68.drewN | apply IsS68.drew | apply IsS68.set_0 | apply IsS68.set_1 | refine IsS68.far ?_ NB236_237.out _) | exact HI236.out)⟩, ⟨by repeat (first | (with_reducible first | exact HB.out | apply below_alloc | apply pw_below_drewN | apply below_drew1 | refine below_set ?_ (IsS68.ge HI236.out) | refine below_set ?_ GE237.out) | exact HB.out)⟩⟩
 clear H'
 try clear c1
 try clear c2
 try clear p2
 try clear c3
 try clear c3b0
 try clear c3b1
 try clear c9
 try clear c10
 try clear hcz10_0
 try clear hcz10_1
 try clear hfz10_0
 try clear hfz10_1
 obtain ⟨x7_1, x237000_1, x237001_1, x238000_1, x238001_1, rfl, HA, HK1, BK237, HI236, HB⟩ := hrel
 cases gk with
 | zero => exact absurd HA.out (by simp [splicelaw01_VintReads.l0])
 | succ k1 => ?_
 have H := HA.out
 clear HA; simp only [splicelaw01_VintReads.l0] at H
 have HC11 := Aside0.mk H
 clear H
 go_upto_region 6 with (fail)
 go_cut [35] (fun v35 wc => ∃ (kq : Nat) (x35_10 : Bool), v35 = .bool x35_10 ∧ Aside0 (splicelaw01_VintReads.j1 kq l1 x7_1 x35_10 x237000_1 x237001_1 x238000_1 x238001_1 = some r) ∧ Aside0 (kq ≤ k1) ∧ Aside0 (wc.heap[gb237]? = some (.cells #[.string x238000_1, .int .i64 x238001_1] 44 (0, 0))) ∧ Aside0 (IsS68 w wc g236 x237000_1 x237001_1) ∧ Aside0 (Below w.heap.size w wc))
 case first =>
   have H := HC11.out
   clear HC11
   by_cases c12 : x7_1 < (l1.length : Int)
   rotate_left
   · rw [if_neg c12] at H
     have c12b0 : decide (x7_1 < (l1.length : Int)) = false := decide_eq_false c12
     clear c12
     (first | rw [c12b0] | (simp only [i64_w, i32_w]; rw [c12b0]) | skip)
     have H' := Aside0.mk H
     clear H
     go_wp2
     go_meet
     case rel => exact ⟨_, (false), (by first | rfl | (simp; done) | (simp [*]; done)), H', ⟨by have := HK1.out; first | omega | exact Nat.le_refl _⟩, ⟨by (with_reducible repeat (first | refine blk_drewN ?_ _ | refine blk_drew ?_ | refine blk_alloc ?_ _)); exact BK237.out⟩, ⟨by repeat (first | (with_reducible first | exact HI236.out | apply IsS68.alloc | apply IsS68.drewN | apply IsS68.drew | apply IsS68.set_0 | apply IsS68.set_1 | refine IsS68.far ?_ NB236_237.out _) | exact HI236.out)⟩, ⟨by repeat (first | (with_reducible first | exact HB.out | apply below_alloc | apply pw_below_drewN | apply below_drew1 | refine below_set ?_ (IsS68.ge HI236.out) | refine below_set ?_ GE237.out) | exact HB.out)⟩⟩
   rw [if_pos c12] at H
   have c12b0 : decide (x7_1 < (l1.length : Int)) = true := decide_eq_true c12
   clear c12
   (first | rw [c12b0] | (simp only [i64_w, i32_w]; rw [c12b0]) | skip)
   have H' := Aside0.mk H
   clear H
   go_wp2
   go_meet
   case rel => exact ⟨_, (decide (x7_1 < 60)), (by first | rfl | (simp; done) | (simp [*]; done)), H', ⟨by have := HK1.out; first | omega | exact Nat.le_refl _⟩, ⟨by (with_reducible repeat (first | refine blk_drewN ?_ _ | refine blk_drew ?_ | refine blk_alloc ?_ _)); exact BK237.out⟩, ⟨by repeat (first | (with_reducible first | exact HI236.out | apply IsS68.alloc | apply IsS68.drewN | apply IsS68.drew | apply IsS68.set_0 | apply IsS68.set_1 | refine IsS68.far ?_ NB236_237.out _) | exact HI236.out)⟩, ⟨by repeat (first | (with_reducible first | exact HB.out | apply below_alloc | apply pw_below_drewN | apply below_drew1 | refine below_set ?_ (IsS68.ge HI236.out) | refine below_set ?_ GE237.out) | exact HB.out)⟩⟩
 clear HC11
 try clear c1
 try clear c2
 try clear p2
 try clear c3
 try clear c3b0
 try clear c3b1
 try clear c9
 try clear c10
 try clear c12
 try clear c12b0
 try clear hcz10_0
 try clear hcz10_1
 try clear hfz10_0
 try clear hfz10_1
 try clear p2
 obtain ⟨kq, x35_10, rfl, HA, HJ10, BK237, HI236, HB⟩ := hcut
 cases kq with
 | zero => exact absurd HA.out (by simp [splicelaw01_VintReads.j1])
 | succ kj10 => ?_
 have H := HA.out
 clear HA; simp only [splicelaw01_VintReads.j1] at H
 by_cases c13 : x35_10 = true
 rotate_left
 · replace c13 := Bool.eq_false_iff.mpr c13
   subst c13
   have H1 : ((splicelaw01_awake.f kj10).bind fun t293 => (if t293 = true then ((vint_Reader_Num_nil.f).bind fun t294 => (if t294 = 0 then ((vint_Reader_Whole_nil.f).bind fun t295 => (if t295 = 0 then ((vint_Reader_Flag_nil.f).bind fun t296 => (if t296 = true then (some false) else ((vint_Reader_Text_nil.f 9).bind fun t297 => (if t297.toList = ([] : List UInt8) then ((vint_Reader_List_nil.f kj10 9).bind fun t298 => (if (t298.length : Int) = 0 then ((vint_Reader_Left_nil.f).bind fun t301 => (if t301.toList = ([] : List UInt8) then ((vint_Reader_Err_nil.f).bind fun t302 => (if t302 = 5 then ((vint_Reader_End_nil.f).bind fun t303 => (some (t303 == 5))) else (some false))) else (some false))) else (some false))) else (some false))))) else (some false))) else (some false))) else (some false))) = some r := by rw [if_neg (show ¬ (false = true) by decide)] at H; exact H
   clear H
   have H := H1
   clear H1
   replace H := Option.bind_eq_some_iff.mp H
   obtain ⟨t293, A1070, H⟩ := H
   replace H : (if t293 = true then ((vint_Reader_Num_nil.f).bind fun t294 => (if t294 = 0 then ((vint_Reader_Whole_nil.f).bind fun t295 => (if t295 = 0 then ((vint_Reader_Flag_nil.f).bind fun t296 => (if t296 = true then (some false) else ((vint_Reader_Text_nil.f 9).bind fun t297 => (if t297.toList = ([] : List UInt8) then ((vint_Reader_List_nil.f kj10 9).bind fun t298 => (if (t298.length : Int) = 0 then ((vint_Reader_Left_nil.f).bind fun t301 => (if t301.toList = ([] : List UInt8) then ((vint_Reader_Err_nil.f).bind fun t302 => (if t302 = 5 then ((vint_Reader_End_nil.f).bind fun t303 => (some (t303 == 5))) else (some false))) else (some false))) else (some false))) else (some false))))) else (some false))) else (some false))) else (some false)) = some r := H
   have A107 := Aside0.mk A1070
   clear A1070
   by_cases c108 : t293 = true
   rotate_left
   · replace c108 := Bool.eq_false_iff.mpr c108
     subst c108
     have H1 : (some false) = some r := by rw [if_neg (show ¬ (false = true) by decide)] at H; exact H
     clear H
     have H := H1
     clear H1
     exact absurd ((Option.some.inj H).trans hr_) (by simp)
   subst c108
   have H1 : ((vint_Reader_Num_nil.f).bind fun t294 => (if t294 = 0 then ((vint_Reader_Whole_nil.f).bind fun t295 => (if t295 = 0 then ((vint_Reader_Flag_nil.f).bind fun t296 => (if t296 = true then (some false) else ((vint_Reader_Text_nil.f 9).bind fun t297 => (if t297.toList = ([] : List UInt8) then ((vint_Reader_List_nil.f kj10 9).bind fun t298 => (if (t298.length : Int) = 0 then ((vint_Reader_Left_nil.f).bind fun t301 => (if t301.toList = ([] : List UInt8) then ((vint_Reader_Err_nil.f).bind fun t302 => (if t302 = 5 then ((vint_Reader_End_nil.f).bind fun t303 => (some (t303 == 5))) else (some false))) else (some false))) else (some false))) else (some false))))) else (some false))) else (some false))) = some r := by rw [if_pos rfl] at H; exact H
   clear H
   have H := H1
   clear H1
   replace H := Option.bind_eq_some_iff.mp H
   obtain ⟨t294, A1090, H⟩ := H
   replace H : (if t294 = 0 then ((vint_Reader_Whole_nil.f).bind fun t295 => (if t295 = 0 then ((vint_Reader_Flag_nil.f).bind fun t296 => (if t296 = true then (some false) else ((vint_Reader_Text_nil.f 9).bind fun t297 => (if t297.toList = ([] : List UInt8) then ((vint_Reader_List_nil.f kj10 9).bind fun t298 => (if (t298.length : Int) = 0 then ((vint_Reader_Left_nil.f).bind fun t301 => (if t301.toList = ([] : List UInt8) then ((vint_Reader_Err_nil.f).bind fun t302 => (if t302 = 5 then ((vint_Reader_End_nil.f).bind fun t303 => (some (t303 == 5))) else (some false))) else (some false))) else (some false))) else (some false))))) else (some false))) else (some false)) = some r := H
   have A109 := Aside0.mk A1090
   clear A1090
   by_cases c110 : t294 = 0
   rotate_left
   · rw [if_neg c110] at H
     have c110b0 : (t294 == 0) = false := beq_eq_false_iff_ne.mpr c110
     have c110b1 : (t294 != 0) = true := bne_iff_ne.mpr c110
     exact absurd ((Option.some.inj H).trans hr_) (by simp)
   rw [if_pos c110] at H
   have c110b0 : (t294 == 0) = true := beq_iff_eq.mpr c110
   have c110b1 : (t294 != 0) = false := bne_eq_false_iff_eq.mpr c110
   clear c110
   replace H := Option.bind_eq_some_iff.mp H
   obtain ⟨t295, A1110, H⟩ := H
   replace H : (if t295 = 0 then ((vint_Reader_Flag_nil.f).bind fun t296 => (if t296 = true then (some false) else ((vint_Reader_Text_nil.f 9).bind fun t297 => (if t297.toList = ([] : List UInt8) then ((vint_Reader_List_nil.f kj10 9).bind fun t298 => (if (t298.length : Int) = 0 then ((vint_Reader_Left_nil.f).bind fun t301 => (if t301.toList = ([] : List UInt8) then ((vint_Reader_Err_nil.f).bind fun t302 => (if t302 = 5 then ((vint_Reader_End_nil.f).bind fun t303 => (some (t303 == 5))) else (some false))) else (some false))) else (some false))) else (some false))))) else (some false)) = some r := H
   have A111 := Aside0.mk A1110
   clear A1110
   by_cases c112 : t295 = 0
   rotate_left
   · rw [if_neg c112] at H
     have c112b0 : (t295 == 0) = false := beq_eq_false_iff_ne.mpr c112
     have c112b1 : (t295 != 0) = true := bne_iff_ne.mpr c112
     exact absurd ((Option.some.inj H).trans hr_) (by simp)
   rw [if_pos c112] at H
   have c112b0 : (t295 == 0) = true := beq_iff_eq.mpr c112
   have c112b1 : (t295 != 0) = false := bne_eq_false_iff_eq.mpr c112
   clear c112
   replace H := Option.bind_eq_some_iff.mp H
   obtain ⟨t296, A1130, H⟩ := H
   replace H : (if t296 = true then (some false) else ((vint_Reader_Text_nil.f 9).bind fun t297 => (if t297.toList = ([] : List UInt8) then ((vint_Reader_List_nil.f kj10 9).bind fun t298 => (if (t298.length : Int) = 0 then ((vint_Reader_Left_nil.f).bind fun t301 => (if t301.toList = ([] : List UInt8) then ((vint_Reader_Err_nil.f).bind fun t302 => (if t302 = 5 then ((vint_Reader_End_nil.f).bind fun t303 => (some (t303 == 5))) else (some false))) else (some false))) else (some false))) else (some false)))) = some r := H
   have A113 := Aside0.mk A1130
   clear A1130
   by_cases c114 : t296 = true
   · subst c114
     have H1 : (some false) = some r := by rw [if_pos rfl] at H; exact H
     clear H
     have H := H1
     clear H1
     exact absurd ((Option.some.inj H).trans hr_) (by simp)
   replace c114 := Bool.eq_false_iff.mpr c114
   subst c114
   have H1 : ((vint_Reader_Text_nil.f 9).bind fun t297 => (if t297.toList = ([] : List UInt8) then ((vint_Reader_List_nil.f kj10 9).bind fun t298 => (if (t298.length : Int) = 0 then ((vint_Reader_Left_nil.f).bind fun t301 => (if t301.toList = ([] : List UInt8) then ((vint_Reader_Err_nil.f).bind fun t302 => (if t302 = 5 then ((vint_Reader_End_nil.f).bind fun t303 => (some (t303 == 5))) else (some false))) else (some false))) else (some false))) else (some false))) = some r := by rw [if_neg (show ¬ (false = true) by decide)] at H; exact H
   clear H
   have H := H1
   clear H1
   replace H := Option.bind_eq_some_iff.mp H
   obtain ⟨t297, A1150, H⟩ := H
   replace H : (if t297.toList = ([] : List UInt8) then ((vint_Reader_List_nil.f kj10 9).bind fun t298 => (if (t298.length : Int) = 0 then ((vint_Reader_Left_nil.f).bind fun t301 => (if t301.toList = ([] : List UInt8) then ((vint_Reader_Err_nil.f).bind fun t302 => (if t302 = 5 then ((vint_Reader_End_nil.f).bind fun t303 => (some (t303 == 5))) else (some false))) else (some false))) else (some false))) else (some false)) = some r := H
   have A115 := Aside0.mk A1150
   clear A1150
   by_cases c116 : t297.toList = ([] : List UInt8)
   rotate_left
   · rw [if_neg c116] at H
     have c116b0 : (t297.toList == ([] : List UInt8)) = false := beq_eq_false_iff_ne.mpr c116
     have c116b1 : (t297.toList != ([] : List UInt8)) = true := bne_iff_ne.mpr c116
     exact absurd ((Option.some.inj H).trans hr_) (by simp)
   rw [if_pos c116] at H
   have c116b0 : (t297.toList == ([] : List UInt8)) = true := beq_iff_eq.mpr c116
   have c116b1 : (t297.toList != ([] : List UInt8)) = false := bne_eq_false_iff_eq.mpr c116
   clear c116
   replace H := Option.bind_eq_some_iff.mp H
   obtain ⟨t298, A1170, H⟩ := H
   replace H : (if (t298.length : Int) = 0 then ((vint_Reader_Left_nil.f).bind fun t301 => (if t301.toList = ([] : List UInt8) then ((vint_Reader_Err_nil.f).bind fun t302 => (if t302 = 5 then ((vint_Reader_End_nil.f).bind fun t303 => (some (t303 == 5))) else (some false))) else (some false))) else (some false)) = some r := H
   have A117 := Aside0.mk A1170
   clear A1170
   by_cases c118 : (t298.length : Int) = 0
   rotate_left
   · rw [if_neg c118] at H
     have c118b0 : ((t298.length : Int) == 0) = false := beq_eq_false_iff_ne.mpr c118
     have c118b1 : ((t298.length : Int) != 0) = true := bne_iff_ne.mpr c118
     have c118b2 : ¬ (t298 = []) := fun h_ => c118 (by rw [h_]; rfl)
     exact absurd ((Option.some.inj H).trans hr_) (by simp)
   rw [if_pos c118] at H
   have c118b0 : ((t298.length : Int) == 0) = true := beq_iff_eq.mpr c118
   have c118b1 : ((t298.length : Int) != 0) = false := bne_eq_false_iff_eq.mpr c118
   clear c118
   replace H := Option.bind_eq_some_iff.mp H
   obtain ⟨t301, A1190, H⟩ := H
   replace H : (if t301.toList = ([] : List UInt8) then ((vint_Reader_Err_nil.f).bind fun t302 => (if t302 = 5 then ((vint_Reader_End_nil.f).bind fun t303 => (some (t303 == 5))) else (some false))) else (some false)) = some r := H
   have A119 := Aside0.mk A1190
   clear A1190
   by_cases c120 : t301.toList = ([] : List UInt8)
   rotate_left
   · rw [if_neg c120] at H
     have c120b0 : (t301.toList == ([] : List UInt8)) = false := beq_eq_false_iff_ne.mpr c120
     have c120b1 : (t301.toList != ([] : List UInt8)) = true := bne_iff_ne.mpr c120
     exact absurd ((Option.some.inj H).trans hr_) (by simp)
   rw [if_pos c120] at H
   have c120b0 : (t301.toList == ([] : List UInt8)) = true := beq_iff_eq.mpr c120
   have c120b1 : (t301.toList != ([] : List UInt8)) = false := bne_eq_false_iff_eq.mpr c120
   clear c120
   replace H := Option.bind_eq_some_iff.mp H
   obtain ⟨t302, A1210, H⟩ := H
   replace H : (if t302 = 5 then ((vint_Reader_End_nil.f).bind fun t303 => (some (t303 == 5))) else (some false)) = some r := H
   have A121 := Aside0.mk A1210
   clear A1210
   by_cases c122 : t302 = 5
   rotate_left
   · rw [if_neg c122] at H
     have c122b0 : (t302 == 5) = false := beq_eq_false_iff_ne.mpr c122
     have c122b1 : (t302 != 5) = true := bne_iff_ne.mpr c122
     exact absurd ((Option.some.inj H).trans hr_) (by simp)
   rw [if_pos c122] at H
   have c122b0 : (t302 == 5) = true := beq_iff_eq.mpr c122
   have c122b1 : (t302 != 5) = false := bne_eq_false_iff_eq.mpr c122
   clear c122
   replace H := Option.bind_eq_some_iff.mp H
   obtain ⟨t303, A1230, H⟩ := H
   replace H : (some (t303 == 5)) = some r := H
   have A123 := Aside0.mk A1230
   clear A1230
   obtain rfl := Option.some.inj H
   go_wp2_with (first | ((with_reducible refine gate_callee (f := 13) rfl ?_); refine goesL_ (some 148) rfl rfl Try.func13 (by kernel_rfl) rfl #[] rfl (by (try simp only [List.map_toArray, List.map_cons, List.map_nil]); first | done | rfl | (simp only [List.length_drop, List.length_take]; rfl)) ?_; (with_reducible refine (splicelaw01_awake.calls kj10  true _ A107.out (by first | rfl | exact hr_)).mono ?_); rintro e w124 ⟨rfl, hb⟩; refine ⟨_, rfl, ?_⟩; have n0_ := Aside0.mk (blk_below (g := gb237) (o := .cells #[.string x238000_1, .int .i64 x238001_1] 44 (0, 0)) (by (with_reducible repeat (first | refine blk_drewN ?_ _ | refine blk_drew ?_ | refine blk_alloc ?_ _)); exact BK237.out) hb); have n1_ := Aside0.mk (IsS68.below (by repeat (first | (with_reducible first | exact HI236.out | apply IsS68.alloc | apply IsS68.drewN | apply IsS68.drew | apply IsS68.set_0 | apply IsS68.set_1 | refine IsS68.far ?_ NB236_237.out _) | exact HI236.out)) hb); have n2_ := Aside0.mk (below_step (by repeat (first | (with_reducible first | exact HB.out | apply below_alloc | apply pw_below_drewN | apply below_drew1 | refine below_set ?_ (IsS68.ge HI236.out) | refine below_set ?_ GE237.out) | exact HB.out)) hb); clear BK237; clear HI236; clear HB; have BK237 := n0_; have HI236 := n1_; have HB := n2_; clear n0_ n1_ n2_; (try clear hb); (try clear hb2); (try clear hk); (try clear hi)) | (go_at_call 26; (with_reducible refine (vint_Reader_Num_nil.calls  t294 _ A109.out).mono ?_); rintro e w' ⟨rfl, ⟨nd, rfl⟩⟩) | (go_at_call 28; (with_reducible refine (vint_Reader_Whole_nil.calls  t295 _ A111.out).mono ?_); rintro e w' ⟨rfl, ⟨nd, rfl⟩⟩) | (go_at_call 36; (with_reducible refine (vint_Reader_Flag_nil.calls  false _ A113.out).mono ?_); rintro e w' ⟨rfl, ⟨nd, rfl⟩⟩) | (go_at_call 29; (with_reducible refine (vint_Reader_Text_nil.calls  9 t297 _ A115.out).mono ?_); rintro e w' ⟨rfl, ⟨nd, rfl⟩⟩) | (go_at_call 31; (with_reducible refine (vint_Reader_List_nil.calls kj10  9 t298 _ A117.out).mono ?_); rintro e w125 ⟨v299, rfl, ho0, hb⟩; have n0_ := Aside0.mk (Kd.R_lower ho0 (below_size (by repeat (first | (with_reducible first | exact HB.out | apply below_alloc | apply pw_below_drewN | apply below_drew1 | refine below_set ?_ (IsS68.ge HI236.out) | refine below_set ?_ GE237.out) | exact HB.out)))); have n1_ := Aside0.mk (blk_below (g := gb237) (o := .cells #[.string x238000_1, .int .i64 x238001_1] 44 (0, 0)) (by (with_reducible repeat (first | refine blk_drewN ?_ _ | refine blk_drew ?_ | refine blk_alloc ?_ _)); exact BK237.out) hb); have n2_ := Aside0.mk (IsS68.below (by repeat (first | (with_reducible first | exact HI236.out | apply IsS68.alloc | apply IsS68.drewN | apply IsS68.drew | apply IsS68.set_0 | apply IsS68.set_1 | refine IsS68.far ?_ NB236_237.out _) | exact HI236.out)) hb); have n3_ := Aside0.mk (below_step (by repeat (first | (with_reducible first | exact HB.out | apply below_alloc | apply pw_below_drewN | apply below_drew1 | refine below_set ?_ (IsS68.ge HI236.out) | refine below_set ?_ GE237.out) | exact HB.out)) hb); clear BK237; clear HI236; clear HB; have HO300 := n0_; have BK237 := n1_; have HI236 := n2_; have HB := n3_; clear n0_ n1_ n2_ n3_; (try clear hb); (try clear hb2); (try clear hk); (try clear hi); (try clear ho0); obtain ⟨Ao126, co126, eo126⟩ := Kd.R_slice HO300.out; subst eo126) | (go_at_call 32; (with_reducible refine (vint_Reader_Left_nil.calls  t301 _ A119.out).mono ?_); rintro e w' ⟨rfl, ⟨nd, rfl⟩⟩) | (go_at_call 30; (with_reducible refine (vint_Reader_Err_nil.calls  t302 _ A121.out).mono ?_); rintro e w' ⟨rfl, ⟨nd, rfl⟩⟩) | (go_at_call 27; (with_reducible refine (vint_Reader_End_nil.calls  t303 _ A123.out).mono ?_); rintro e w' ⟨rfl, ⟨nd, rfl⟩⟩))
   go_ret
   exact ⟨by first | rfl | (simp [errW_none, errW_some] <;> rfl) | (simp [*, errW_none, errW_some] <;> rfl), by repeat (first | (with_reducible first | exact HB.out | apply below_alloc | apply pw_below_drewN | apply below_drew1 | refine below_set ?_ (IsS68.ge HI236.out) | refine below_set ?_ GE237.out) | exact HB.out)⟩
 subst c13
 have H1 : (if 0 ≤ x7_1 then (if x7_1 < (l1.length : Int) then (if ((rd_T46 l1 x7_1).f0) = 0 then ((spliceref01_Reader_Num.f kj10 x238000_1 x238001_1).bind fun bt239 => ((vint_Reader_Num.f kj10 x237000_1 x237001_1).bind fun bt243 => (splicelaw01_VintReads.j2 kj10 l1 x7_1 (bt243.1 == bt239.2.2) bt243.2.1 bt243.2.2 bt239.1 bt239.2.1))) else (if ((rd_T46 l1 x7_1).f0) = 1 then ((spliceref01_Reader_Whole.f kj10 x238000_1 x238001_1).bind fun bt246 => ((vint_Reader_Whole.f kj10 x237000_1 x237001_1).bind fun bt250 => (splicelaw01_VintReads.j2 kj10 l1 x7_1 (bt250.1 == bt246.2.2) bt250.2.1 bt250.2.2 bt246.1 bt246.2.1))) else (if ((rd_T46 l1 x7_1).f0) = 2 then ((spliceref01_Reader_Flag.f x238000_1 x238001_1).bind fun bt253 => ((vint_Reader_Flag.f x237000_1 x237001_1).bind fun bt257 => (splicelaw01_VintReads.j2 kj10 l1 x7_1 (bt257.1 == bt253.2.2) bt257.2.1 bt257.2.2 bt253.1 bt253.2.1))) else (if ((rd_T46 l1 x7_1).f0) = 3 then ((spliceref01_Reader_Text.f kj10 x238000_1 x238001_1 ((rd_T46 l1 x7_1).f1)).bind fun bt261 => ((vint_Reader_Text.f kj10 x237000_1 x237001_1 ((rd_T46 l1 x7_1).f1)).bind fun bt266 => (splicelaw01_VintReads.j2 kj10 l1 x7_1 (bt266.1.toList == bt261.2.2.toList) bt266.2.1 bt266.2.2 bt261.1 bt261.2.1))) else (if ((rd_T46 l1 x7_1).f0) = 4 then ((spliceref01_Reader_List.f kj10 x238000_1 x238001_1 (mn ((rd_T46 l1 x7_1).f1) 300)).bind fun bt270 => ((vint_Reader_List.f kj10 x237000_1 x237001_1 (mn ((rd_T46 l1 x7_1).f1) 300)).bind fun bt277 => ((spliceref01_Same.f kj10 bt277.1 bt270.2.2).bind fun t282 => (splicelaw01_VintReads.j2 kj10 l1 x7_1 t282 bt277.2.1 bt277.2.2 bt270.1 bt270.2.1)))) else (splicelaw01_VintReads.l0 kj10 l1 (wrap64 (x7_1 + 1)) x237000_1 x237001_1 x238000_1 x238001_1)))))) else (none)) else (none)) = some r := by rw [if_pos rfl] at H; exact H
 clear H
 have H := H1
 clear H1
 by_cases c14 : 0 ≤ x7_1
 rotate_left
 · rw [if_neg c14] at H; exact absurd H (by simp)
 rw [if_pos c14] at H
 have c14b0 : decide (0 ≤ x7_1) = true := decide_eq_true c14
 clear c14
 by_cases c15 : x7_1 < (l1.length : Int)
 rotate_left
 · rw [if_neg c15] at H; exact absurd H (by simp)
 rw [if_pos c15] at H
 have c15b0 : decide (x7_1 < (l1.length : Int)) = true := decide_eq_true c15
 clear c15
 have HC16 := Aside0.mk H
 clear H
 have p238 : 0 ≤ (x7_1 : Int) := of_decide_eq_true (by first | (with_reducible assumption) | assumption)
 have q238 : x7_1 < (l1.length : Int) := of_decide_eq_true (by first | (with_reducible assumption) | assumption)
 obtain ⟨ad238, e238, hx238_0, hx238_1⟩ := at_T46 HR1.out x7_1 p238 q238
 cases e238
 replace hx238_0 := (HB.out.cell (World.block_lt_of_cell? w _ hx238_0)).trans hx238_0
 replace hx238_1 := (HB.out.cell (World.block_lt_of_cell? w _ hx238_1)).trans hx238_1
 replace p238 := eq_true p238
 replace q238 := eq_true q238
 go_upto_block 2 with (fail)
 go_cut [8] (fun v8 wc => ∃ (kq : Nat) (x8_15 : Bool) (x237000_15 : ByteArray) (x237001_15 : Int) (x238000_15 : ByteArray) (x238001_15 : Int), v8 = .bool x8_15 ∧ Aside0 (splicelaw01_VintReads.j2 kq l1 x7_1 x8_15 x237000_15 x237001_15 x238000_15 x238001_15 = some r) ∧ Aside0 (kq ≤ kj10) ∧ Aside0 (wc.heap[gb237]? = some (.cells #[.string x238000_15, .int .i64 x238001_15] 44 (0, 0))) ∧ Aside0 (IsS68 w wc g236 x237000_15 x237001_15) ∧ Aside0 (Below w.heap.size w wc))
 case first =>
   have H := HC16.out
   clear HC16
   by_cases c17 : ((rd_T46 l1 x7_1).f0) = 0
   · rw [if_pos c17] at H
     have c17b0 : (((rd_T46 l1 x7_1).f0) == 0) = true := beq_iff_eq.mpr c17
     have c17b1 : (((rd_T46 l1 x7_1).f0) != 0) = false := bne_eq_false_iff_eq.mpr c17
     clear c17
     (first | rw [c17b0] | (simp only [i64_w, i32_w]; rw [c17b0]) | skip)
     replace H := Option.bind_eq_some_iff.mp H
     obtain ⟨⟨t239, t240, t241⟩, A180, H⟩ := H
     replace H : ((vint_Reader_Num.f kj10 x237000_1 x237001_1).bind fun bt243 => (splicelaw01_VintReads.j2 kj10 l1 x7_1 (bt243.1 == t241) bt243.2.1 bt243.2.2 t239 t240)) = some r := H
     have A18 := Aside0.mk A180
     clear A180
     replace H := Option.bind_eq_some_iff.mp H
     obtain ⟨⟨t243, t244, t245⟩, A190, H⟩ := H
     replace H : (splicelaw01_VintReads.j2 kj10 l1 x7_1 (t243 == t241) t244 t245 t239 t240) = some r := H
     have A19 := Aside0.mk A190
     clear A190
     have H' := Aside0.mk H
     clear H
     have hnb20 := NB237_236.out
     have hnc20 := NB236_237.out
     have hcz21_0 : wc.cell? ⟨gb237, 0, none⟩ = some (.string x238000_1) := (blk_cell BK237.out 0).trans rfl
     have hcz21_1 : wc.cell? ⟨gb237, 1, none⟩ = some (.int .i64 x238001_1) := (blk_cell BK237.out 1).trans rfl
     have hfz21_0 := blk_frozen BK237.out 0
     have hfz21_1 := blk_frozen BK237.out 1
     try go_wp2_with (first | ((with_reducible refine gate_callee (f := 33) rfl ?_); refine goesL_ (some 47) rfl rfl Try.func33 (by kernel_rfl) rfl #[.agg #[.string x238000_1, .int .i64 x238001_1]] rfl (by (try simp only [List.map_toArray, List.map_cons, List.map_nil]); first | done | rfl | (simp only [List.length_drop, List.length_take]; rfl)) ?_; (with_reducible refine (spliceref01_Reader_Num.calls kj10 x238000_1 x238001_1 t239 t240 t241 _ A18.out).mono ?_); rintro e w22 ⟨rfl, hb⟩; refine ⟨_, rfl, ?_⟩; have n0_ := Aside0.mk (blk_below (g := gb237) (o := .cells #[.string x238000_1, .int .i64 x238001_1] 44 (0, 0)) (by (with_reducible repeat (first | refine blk_drewN ?_ _ | refine blk_drew ?_ | refine blk_alloc ?_ _)); exact BK237.out) hb); have n1_ := Aside0.mk (IsS68.below (by repeat (first | (with_reducible first | exact HI236.out | apply IsS68.alloc | apply IsS68.drewN | apply IsS68.drew | apply IsS68.set_0 | apply IsS68.set_1 | refine IsS68.far ?_ NB236_237.out _) | exact HI236.out)) hb); have n2_ := Aside0.mk (below_step (by repeat (first | (with_reducible first | exact HB.out | apply below_alloc | apply pw_below_drewN | apply below_drew1 | refine below_set ?_ (IsS68.ge HI236.out) | refine below_set ?_ GE237.out) | exact HB.out)) hb); clear BK237; clear HI236; clear HB; have BK237 := n0_; have HI236 := n1_; have HB := n2_; clear n0_ n1_ n2_; (try clear hb); (try clear hb2); (try clear hk); (try clear hi)) | ((with_reducible refine gate_dst (N := 9) rfl ?_); (try (refine gate_guard (by rfl) ?_; dsimp only)); refine box_event ?hg (N := 9) ?hd (cs := #[.string (⟨#[]⟩ : ByteArray), .int .i64 0]) (t := 44) ?hr ?_; (case hd => rfl); (case hg => rfl); (case hr => first | (go_simp; done) | (go_simp; rfl)); intro gb242 hg w23 hbox hb; have n0_ := Aside0.mk (blk_below (g := gb237) (o := .cells #[.string x238000_1, .int .i64 x238001_1] 44 (0, 0)) (by (with_reducible repeat (first | refine blk_drewN ?_ _ | refine blk_drew ?_ | refine blk_alloc ?_ _)); exact BK237.out) hb); have n1_ := Aside0.mk (IsS68.below (by repeat (first | (with_reducible first | exact HI236.out | apply IsS68.alloc | apply IsS68.drewN | apply IsS68.drew | apply IsS68.set_0 | apply IsS68.set_1 | refine IsS68.far ?_ NB236_237.out _) | exact HI236.out)) hb); have n2_ := Aside0.mk (below_step (by repeat (first | (with_reducible first | exact HB.out | apply below_alloc | apply pw_below_drewN | apply below_drew1 | refine below_set ?_ (IsS68.ge HI236.out) | refine below_set ?_ GE237.out) | exact HB.out)) hb); have n3_ := Aside0.mk (hbox); have n4_ := Aside0.mk ((by rw [hg]; exact (below_size (by repeat (first | (with_reducible first | exact HB.out | apply below_alloc | apply pw_below_drewN | apply below_drew1 | refine below_set ?_ (IsS68.ge HI236.out) | refine below_set ?_ GE237.out) | exact HB.out))) : w.heap.size ≤ gb242)); have n5_ := Aside0.mk ((by rw [hg]; exact (below_size (by repeat (first | (with_reducible first | exact HB.out | apply below_alloc | apply pw_below_drewN | apply below_drew1 | refine below_set ?_ (IsS68.ge HI236.out) | refine below_set ?_ GE237.out) | exact HB.out))) : w.heap.size ≤ gb242)); have n6_ := Aside0.mk ((by rw [hg]; exact Nat.ne_of_lt (blk_lt (g := gb237) (o := .cells #[.string x238000_1, .int .i64 x238001_1] 44 (0, 0)) (by (with_reducible repeat (first | refine blk_drewN ?_ _ | refine blk_drew ?_ | refine blk_alloc ?_ _)); exact BK237.out)) : gb237 ≠ gb242)); have n7_ := Aside0.mk ((by rw [hg]; exact Nat.ne_of_gt (blk_lt (g := gb237) (o := .cells #[.string x238000_1, .int .i64 x238001_1] 44 (0, 0)) (by (with_reducible repeat (first | refine blk_drewN ?_ _ | refine blk_drew ?_ | refine blk_alloc ?_ _)); exact BK237.out)) : gb242 ≠ gb237)); have n8_ := Aside0.mk ((by rw [hg]; exact Nat.ne_of_lt (IsS68.lt (show IsS68 w _ g236 x237000_1 x237001_1 from by repeat (first | (with_reducible first | exact HI236.out | apply IsS68.alloc | apply IsS68.drewN | apply IsS68.drew | apply IsS68.set_0 | apply IsS68.set_1 | refine IsS68.far ?_ NB236_237.out _) | exact HI236.out))) : g236 ≠ gb242)); have n9_ := Aside0.mk ((by rw [hg]; exact Nat.ne_of_gt (IsS68.lt (show IsS68 w _ g236 x237000_1 x237001_1 from by repeat (first | (with_reducible first | exact HI236.out | apply IsS68.alloc | apply IsS68.drewN | apply IsS68.drew | apply IsS68.set_0 | apply IsS68.set_1 | refine IsS68.far ?_ NB236_237.out _) | exact HI236.out))) : gb242 ≠ g236)); clear BK237; clear HI236; clear HB; have BK237 := n0_; have HI236 := n1_; have HB := n2_; have BK242 := n3_; have GW242 := n4_; have GE242 := n5_; have NB237_242 := n6_; have NB242_237 := n7_; have NB236_242 := n8_; have NB242_236 := n9_; clear n0_ n1_ n2_ n3_ n4_ n5_ n6_ n7_ n8_ n9_; clear hb hbox hg; have hnb24 := NB242_237.out; have hnc24 := NB237_242.out; have hnb25 := NB242_236.out; have hnc25 := NB236_242.out; have hcz26_0 : w23.cell? ⟨gb242, 0, none⟩ = some (.string (⟨#[]⟩ : ByteArray)) := (blk_cell BK242.out 0).trans rfl; have hcz26_1 : w23.cell? ⟨gb242, 1, none⟩ = some (.int .i64 0) := (blk_cell BK242.out 1).trans rfl; have hfz26_0 := blk_frozen BK242.out 0; have hfz26_1 := blk_frozen BK242.out 1))
     have n0_ : Aside0 (((w23.setCell ⟨gb242, 0, none⟩ (.string t239)).setCell ⟨gb242, 1, none⟩ (.int .i64 t240)).heap[gb237]? = some (.cells #[.string x238000_1, .int .i64 x238001_1] 44 (0, 0))) := ⟨by (with_reducible repeat (first | refine blk_drewN ?_ _ | refine blk_drew ?_ | refine blk_alloc ?_ _)); refine blk_far ?_ NB237_242.out _; (with_reducible repeat (first | refine blk_drewN ?_ _ | refine blk_drew ?_ | refine blk_alloc ?_ _)); refine blk_far ?_ NB237_242.out _; (with_reducible repeat (first | refine blk_drewN ?_ _ | refine blk_drew ?_ | refine blk_alloc ?_ _)); exact BK237.out⟩
     have n1_ : Aside0 (((w23.setCell ⟨gb242, 0, none⟩ (.string t239)).setCell ⟨gb242, 1, none⟩ (.int .i64 t240)).heap[gb242]? = some (.cells #[.string t239, .int .i64 t240] 44 (0, 0))) := ⟨by (with_reducible repeat (first | refine blk_drewN ?_ _ | refine blk_drew ?_ | refine blk_alloc ?_ _)); refine blk_put (cs := #[.string t239, .int .i64 0]) ?_ 1 _ rfl; (with_reducible repeat (first | refine blk_drewN ?_ _ | refine blk_drew ?_ | refine blk_alloc ?_ _)); refine blk_put (cs := #[.string (⟨#[]⟩ : ByteArray), .int .i64 0]) ?_ 0 _ rfl; (with_reducible repeat (first | refine blk_drewN ?_ _ | refine blk_drew ?_ | refine blk_alloc ?_ _)); exact BK242.out⟩
     have n2_ : Aside0 (IsS68 w ((w23.setCell ⟨gb242, 0, none⟩ (.string t239)).setCell ⟨gb242, 1, none⟩ (.int .i64 t240)) g236 x237000_1 x237001_1) := ⟨by repeat (first | (with_reducible first | exact HI236.out | apply IsS68.alloc | apply IsS68.drewN | apply IsS68.drew | apply IsS68.set_0 | apply IsS68.set_1 | refine IsS68.far ?_ NB236_237.out _ | refine IsS68.far ?_ NB236_242.out _) | exact HI236.out)⟩
     have n3_ : Aside0 (Below w.heap.size w ((w23.setCell ⟨gb242, 0, none⟩ (.string t239)).setCell ⟨gb242, 1, none⟩ (.int .i64 t240))) := ⟨by repeat (first | (with_reducible first | exact HB.out | apply below_alloc | apply pw_below_drewN | apply below_drew1 | refine below_set ?_ (IsS68.ge HI236.out) | refine below_set ?_ GE237.out | refine below_set ?_ GE242.out) | exact HB.out)⟩
     (try clear BK237)
     (try clear BK242)
     (try clear HI236)
     (try clear HB)
     generalize ((w23.setCell ⟨gb242, 0, none⟩ (.string t239)).setCell ⟨gb242, 1, none⟩ (.int .i64 t240)) = w27 at n0_ n1_ n2_ n3_ ⊢
     have BK237 := n0_
     have BK242 := n1_
     have HI236 := n2_
     have HB := n3_
     clear n0_ n1_ n2_ n3_
     have n0_ := Aside0.mk (blk_drew BK237.out)
     have n1_ := Aside0.mk (blk_drew BK242.out)
     have n2_ := Aside0.mk (IsS68.drew HI236.out)
     have n3_ := Aside0.mk (below_drew1 HB.out)
     clear BK237; clear BK242; clear HI236; clear HB
     have BK237 := n0_
     have BK242 := n1_
     have HI236 := n2_
     have HB := n3_
     clear n0_ n1_ n2_ n3_
     refine start_ (n := 7) (S := fun w' => w'.cell? ⟨gb242, 0, none⟩ = some (.string t239) ∧ w'.cell? ⟨gb242, 1, none⟩ = some (.int .i64 t240)) (ds := []) #[false, false, false, false, false, false, false] (by kernel_rfl) rfl rfl ⟨(blk_cell BK242.out 0).trans rfl, (blk_cell BK242.out 1).trans rfl⟩ (fun hHeld => ?_)
     generalize w27.drew = w28 at BK237 BK242 HI236 HB hHeld ⊢
     refine pure_ (i := 1) (N := some 51) (v := ?_) (a' := ?_) #[false, true, false, false, false, false, false] rfl rfl (by kernel_rfl) (fun _ _ _ h => h) (Or.inl ⟨by rfl, ?_⟩) ?_ ?_
     rotate_left
     · intro w'; go_simp; with_reducible rfl
     rotate_left
     · simp only [Act.put, List.setIfInBounds_toArray, List.set_cons_zero, List.set_cons_succ, i64_w, i32_w]; rfl
     refine pure_ (i := 3) (N := some 53) (v := ?_) (a' := ?_) #[false, true, false, true, false, false, false] rfl rfl (by kernel_rfl) (fun _ _ _ h => h) (Or.inl ⟨by rfl, ?_⟩) ?_ ?_
     rotate_left
     · intro w'; go_simp; with_reducible rfl
     rotate_left
     · simp only [Act.put, List.setIfInBounds_toArray, List.set_cons_zero, List.set_cons_succ, i64_w, i32_w]; rfl
     refine take_ (i := 0) (N := some 50) (v := ?_) (a' := ?_) #[true, true, false, true, false, false, false] rfl rfl (by kernel_rfl) (fun _ _ _ h => h) (Or.inl ⟨by rfl, ?_⟩) hHeld ?_ ?_
     rotate_left
     · rintro w' ⟨s0, s1⟩
       go_simp; with_reducible rfl
     rotate_left
     · simp only [Act.put, List.setIfInBounds_toArray, List.set_cons_zero, List.set_cons_succ, i64_w, i32_w]; rfl
     refine one_ (i := 2) (N := some 52) #[true, true, true, true, false, false, false] rfl rfl (by kernel_rfl) (by decide) (fun K hK => ?_)
     refine goes_ Try.func26 (by kernel_rfl) rfl #[.pointer (some ⟨g236, 0, none⟩)] (by rfl) rfl rfl (by (try simp only [List.map_toArray, List.map_cons, List.map_nil]); first | done | rfl | (simp only [List.length_drop, List.length_take]; rfl)) ?_
     with_reducible refine (vint_Reader_Num.calls kj10 g236 x237000_1 x237001_1 t243 t244 t245 w _ ?side1 ?side2 A19.out).mono ?_
     (case side1 => repeat (first | (with_reducible first | exact HI236.out | apply IsS68.alloc | apply IsS68.drewN | apply IsS68.drew | apply IsS68.set_0 | apply IsS68.set_1 | refine IsS68.far ?_ NB236_237.out _ | refine IsS68.far ?_ NB236_242.out _) | exact HI236.out))
     (case side2 => repeat (first | (with_reducible first | exact HB.out | apply below_alloc | apply pw_below_drewN | apply below_drew1 | refine below_set ?_ (IsS68.ge HI236.out) | refine below_set ?_ GE237.out | refine below_set ?_ GE242.out) | exact HB.out))
     rintro e w29 ⟨rfl, hi, hb, hk⟩
     refine ⟨_, rfl, ?_⟩
     have n0_ := Aside0.mk (KeepBut.blk hk (g' := gb237) (o := .cells #[.string x238000_1, .int .i64 x238001_1] 44 (0, 0)) (by (with_reducible repeat (first | refine blk_drewN ?_ _ | refine blk_drew ?_ | refine blk_alloc ?_ _)); exact BK237.out) NB237_236.out (by simp))
     have n1_ := Aside0.mk (KeepBut.blk hk (g' := gb242) (o := .cells #[.string t239, .int .i64 t240] 44 (0, 0)) (by (with_reducible repeat (first | refine blk_drewN ?_ _ | refine blk_drew ?_ | refine blk_alloc ?_ _)); exact BK242.out) NB242_236.out (by simp))
     have n2_ := Aside0.mk (hb)
     have n3_ := Aside0.mk (hi)
     clear BK237; clear BK242; clear HB; clear HI236
     have BK237 := n0_
     have BK242 := n1_
     have HB := n2_
     have HI236 := n3_
     clear n0_ n1_ n2_ n3_
     (try clear hb)
     (try clear hb2)
     (try clear hk)
     (try clear hi)
     refine hK.out _ _ ⟨(blk_cell BK242.out 0).trans rfl, (blk_cell BK242.out 1).trans rfl⟩ (fun hHeld => ?_)
     clear hK K
     refine norm_ (a' := ?_) ?_ ?_
     rotate_left
     · show Act.put _ (some 52) _ = _
       simp only [Act.put, List.setIfInBounds_toArray, List.set_cons_zero, List.set_cons_succ, i64_w, i32_w]; rfl
     refine pure_ (i := 4) (N := some 54) (v := ?_) (a' := ?_) #[true, true, true, true, true, false, false] rfl rfl (by kernel_rfl) (fun _ _ _ h => h) (Or.inl ⟨by rfl, ?_⟩) ?_ ?_
     rotate_left
     · intro w'; go_simp; with_reducible rfl
     rotate_left
     · simp only [Act.put, List.setIfInBounds_toArray, List.set_cons_zero, List.set_cons_succ, i64_w, i32_w]; rfl
     refine one_ (i := 5) (N := none) #[true, true, true, true, true, true, false] rfl rfl (by kernel_rfl) (by decide) (fun K hK => ?_)
     have hs30 : w29.cell? ⟨gb237, 0, none⟩ = some (.string x238000_1) := (blk_cell BK237.out 0).trans rfl
     have hfs30 := blk_frozen BK237.out 0
     have hns30_1 := NB242_237.out
     have hms30_1 := NB237_242.out
     have hs31 : w29.cell? ⟨gb237, 1, none⟩ = some (.int .i64 x238001_1) := (blk_cell BK237.out 1).trans rfl
     have hfs31 := blk_frozen BK237.out 1
     have hns31_1 := NB242_237.out
     have hms31_1 := NB237_242.out
     refine skip_ (w1 := ?_) (by rfl) rfl ?_ ?_
     rotate_left
     · go_simp; rfl
     refine hK.out _ _ ⟨((cell_far (p := ⟨gb237, _, none⟩) NB242_237.out _).trans (((cell_far (p := ⟨gb237, _, none⟩) NB242_237.out _).trans (hHeld.1)))), ((cell_far (p := ⟨gb237, _, none⟩) NB242_237.out _).trans (((cell_far (p := ⟨gb237, _, none⟩) NB242_237.out _).trans (hHeld.2))))⟩ (fun hHeld => ?_)
     clear hK K
     refine pure_ (i := 6) (N := some 8) (v := ?_) (a' := ?_) #[true, true, true, true, true, true, true] rfl rfl (by kernel_rfl) (fun _ _ _ h => h) (Or.inl ⟨by rfl, ?_⟩) ?_ ?_
     rotate_left
     · intro w'; go_simp; with_reducible rfl
     rotate_left
     · simp only [Act.put, List.setIfInBounds_toArray, List.set_cons_zero, List.set_cons_succ, i64_w, i32_w]; rfl
     refine done_ (by kernel_rfl) ?_
     try go_wp2
     go_meet
     case rel => exact ⟨_, ((t243 == t241)), (t244), (t245), (t239), (t240), (by first | rfl | (simp; done) | (simp [*]; done)), H', ⟨by have := HK1.out; have := HJ10.out; first | omega | exact Nat.le_refl _⟩, ⟨by (with_reducible repeat (first | refine blk_drewN ?_ _ | refine blk_drew ?_ | refine blk_alloc ?_ _)); refine blk_put (cs := #[.string t239, .int .i64 x238001_1]) ?_ 1 _ rfl; (with_reducible repeat (first | refine blk_drewN ?_ _ | refine blk_drew ?_ | refine blk_alloc ?_ _)); refine blk_put (cs := #[.string x238000_1, .int .i64 x238001_1]) ?_ 0 _ rfl; (with_reducible repeat (first | refine blk_drewN ?_ _ | refine blk_drew ?_ | refine blk_alloc ?_ _)); exact BK237.out⟩, ⟨by repeat (first | (with_reducible first | exact HI236.out | apply IsS68.alloc | apply IsS68.drewN | apply IsS68.drew | apply IsS68.set_0 | apply IsS68.set_1 | refine IsS68.far ?_ NB236_237.out _ | refine IsS68.far ?_ NB236_242.out _) | exact HI236.out)⟩, ⟨by repeat (first | (with_reducible first | exact HB.out | apply below_alloc | apply pw_below_drewN | apply below_drew1 | refine below_set ?_ (IsS68.ge HI236.out) | refine below_set ?_ GE237.out | refine below_set ?_ GE242.out) | exact HB.out)⟩⟩
   rw [if_neg c17] at H
   have c17b0 : (((rd_T46 l1 x7_1).f0) == 0) = false := beq_eq_false_iff_ne.mpr c17
   have c17b1 : (((rd_T46 l1 x7_1).f0) != 0) = true := bne_iff_ne.mpr c17
   (first | rw [c17b0] | (simp only [i64_w, i32_w]; rw [c17b0]) | skip)
   by_cases c32 : ((rd_T46 l1 x7_1).f0) = 1
   · rw [if_pos c32] at H
     have c32b0 : (((rd_T46 l1 x7_1).f0) == 1) = true := beq_iff_eq.mpr c32
     have c32b1 : (((rd_T46 l1 x7_1).f0) != 1) = false := bne_eq_false_iff_eq.mpr c32
     clear c32
     replace H := Option.bind_eq_some_iff.mp H
     obtain ⟨⟨t246, t247, t248⟩, A330, H⟩ := H
     replace H : ((vint_Reader_Whole.f kj10 x237000_1 x237001_1).bind fun bt250 => (splicelaw01_VintReads.j2 kj10 l1 x7_1 (bt250.1 == t248) bt250.2.1 bt250.2.2 t246 t247)) = some r := H
     have A33 := Aside0.mk A330
     clear A330
     replace H := Option.bind_eq_some_iff.mp H
     obtain ⟨⟨t250, t251, t252⟩, A340, H⟩ := H
     replace H : (splicelaw01_VintReads.j2 kj10 l1 x7_1 (t250 == t248) t251 t252 t246 t247) = some r := H
     have A34 := Aside0.mk A340
     clear A340
     have H' := Aside0.mk H
     clear H
     have hnb35 := NB237_236.out
     have hnc35 := NB236_237.out
     have hcz36_0 : wc.cell? ⟨gb237, 0, none⟩ = some (.string x238000_1) := (blk_cell BK237.out 0).trans rfl
     have hcz36_1 : wc.cell? ⟨gb237, 1, none⟩ = some (.int .i64 x238001_1) := (blk_cell BK237.out 1).trans rfl
     have hfz36_0 := blk_frozen BK237.out 0
     have hfz36_1 := blk_frozen BK237.out 1
     try go_wp2_with (first | ((with_reducible refine gate_callee (f := 34) rfl ?_); refine goesL_ (some 59) rfl rfl Try.func34 (by kernel_rfl) rfl #[.agg #[.string x238000_1, .int .i64 x238001_1]] rfl (by (try simp only [List.map_toArray, List.map_cons, List.map_nil]); first | done | rfl | (simp only [List.length_drop, List.length_take]; rfl)) ?_; (with_reducible refine (spliceref01_Reader_Whole.calls kj10 x238000_1 x238001_1 t246 t247 t248 _ A33.out).mono ?_); rintro e w37 ⟨rfl, hb⟩; refine ⟨_, rfl, ?_⟩; have n0_ := Aside0.mk (blk_below (g := gb237) (o := .cells #[.string x238000_1, .int .i64 x238001_1] 44 (0, 0)) (by (with_reducible repeat (first | refine blk_drewN ?_ _ | refine blk_drew ?_ | refine blk_alloc ?_ _)); exact BK237.out) hb); have n1_ := Aside0.mk (IsS68.below (by repeat (first | (with_reducible first | exact HI236.out | apply IsS68.alloc | apply IsS68.drewN | apply IsS68.drew | apply IsS68.set_0 | apply IsS68.set_1 | refine IsS68.far ?_ NB236_237.out _) | exact HI236.out)) hb); have n2_ := Aside0.mk (below_step (by repeat (first | (with_reducible first | exact HB.out | apply below_alloc | apply pw_below_drewN | apply below_drew1 | refine below_set ?_ (IsS68.ge HI236.out) | refine below_set ?_ GE237.out) | exact HB.out)) hb); clear BK237; clear HI236; clear HB; have BK237 := n0_; have HI236 := n1_; have HB := n2_; clear n0_ n1_ n2_; (try clear hb); (try clear hb2); (try clear hk); (try clear hi)) | ((with_reducible refine gate_dst (N := 11) rfl ?_); (try (refine gate_guard (by rfl) ?_; dsimp only)); refine box_event ?hg (N := 11) ?hd (cs := #[.string (⟨#[]⟩ : ByteArray), .int .i64 0]) (t := 44) ?hr ?_; (case hd => rfl); (case hg => rfl); (case hr => first | (go_simp; done) | (go_simp; rfl)); intro gb249 hg w38 hbox hb; have n0_ := Aside0.mk (blk_below (g := gb237) (o := .cells #[.string x238000_1, .int .i64 x238001_1] 44 (0, 0)) (by (with_reducible repeat (first | refine blk_drewN ?_ _ | refine blk_drew ?_ | refine blk_alloc ?_ _)); exact BK237.out) hb); have n1_ := Aside0.mk (IsS68.below (by repeat (first | (with_reducible first | exact HI236.out | apply IsS68.alloc | apply IsS68.drewN | apply IsS68.drew | apply IsS68.set_0 | apply IsS68.set_1 | refine IsS68.far ?_ NB236_237.out _) | exact HI236.out)) hb); have n2_ := Aside0.mk (below_step (by repeat (first | (with_reducible first | exact HB.out | apply below_alloc | apply pw_below_drewN | apply below_drew1 | refine below_set ?_ (IsS68.ge HI236.out) | refine below_set ?_ GE237.out) | exact HB.out)) hb); have n3_ := Aside0.mk (hbox); have n4_ := Aside0.mk ((by rw [hg]; exact (below_size (by repeat (first | (with_reducible first | exact HB.out | apply below_alloc | apply pw_below_drewN | apply below_drew1 | refine below_set ?_ (IsS68.ge HI236.out) | refine below_set ?_ GE237.out) | exact HB.out))) : w.heap.size ≤ gb249)); have n5_ := Aside0.mk ((by rw [hg]; exact (below_size (by repeat (first | (with_reducible first | exact HB.out | apply below_alloc | apply pw_below_drewN | apply below_drew1 | refine below_set ?_ (IsS68.ge HI236.out) | refine below_set ?_ GE237.out) | exact HB.out))) : w.heap.size ≤ gb249)); have n6_ := Aside0.mk ((by rw [hg]; exact Nat.ne_of_lt (blk_lt (g := gb237) (o := .cells #[.string x238000_1, .int .i64 x238001_1] 44 (0, 0)) (by (with_reducible repeat (first | refine blk_drewN ?_ _ | refine blk_drew ?_ | refine blk_alloc ?_ _)); exact BK237.out)) : gb237 ≠ gb249)); have n7_ := Aside0.mk ((by rw [hg]; exact Nat.ne_of_gt (blk_lt (g := gb237) (o := .cells #[.string x238000_1, .int .i64 x238001_1] 44 (0, 0)) (by (with_reducible repeat (first | refine blk_drewN ?_ _ | refine blk_drew ?_ | refine blk_alloc ?_ _)); exact BK237.out)) : gb249 ≠ gb237)); have n8_ := Aside0.mk ((by rw [hg]; exact Nat.ne_of_lt (IsS68.lt (show IsS68 w _ g236 x237000_1 x237001_1 from by repeat (first | (with_reducible first | exact HI236.out | apply IsS68.alloc | apply IsS68.drewN | apply IsS68.drew | apply IsS68.set_0 | apply IsS68.set_1 | refine IsS68.far ?_ NB236_237.out _) | exact HI236.out))) : g236 ≠ gb249)); have n9_ := Aside0.mk ((by rw [hg]; exact Nat.ne_of_gt (IsS68.lt (show IsS68 w _ g236 x237000_1 x237001_1 from by repeat (first | (with_reducible first | exact HI236.out | apply IsS68.alloc | apply IsS68.drewN | apply IsS68.drew | apply IsS68.set_0 | apply IsS68.set_1 | refine IsS68.far ?_ NB236_237.out _) | exact HI236.out))) : gb249 ≠ g236)); clear BK237; clear HI236; clear HB; have BK237 := n0_; have HI236 := n1_; have HB := n2_; have BK249 := n3_; have GW249 := n4_; have GE249 := n5_; have NB237_249 := n6_; have NB249_237 := n7_; have NB236_249 := n8_; have NB249_236 := n9_; clear n0_ n1_ n2_ n3_ n4_ n5_ n6_ n7_ n8_ n9_; clear hb hbox hg; have hnb39 := NB249_237.out; have hnc39 := NB237_249.out; have hnb40 := NB249_236.out; have hnc40 := NB236_249.out; have hcz41_0 : w38.cell? ⟨gb249, 0, none⟩ = some (.string (⟨#[]⟩ : ByteArray)) := (blk_cell BK249.out 0).trans rfl; have hcz41_1 : w38.cell? ⟨gb249, 1, none⟩ = some (.int .i64 0) := (blk_cell BK249.out 1).trans rfl; have hfz41_0 := blk_frozen BK249.out 0; have hfz41_1 := blk_frozen BK249.out 1))
     have n0_ : Aside0 (((w38.setCell ⟨gb249, 0, none⟩ (.string t246)).setCell ⟨gb249, 1, none⟩ (.int .i64 t247)).heap[gb237]? = some (.cells #[.string x238000_1, .int .i64 x238001_1] 44 (0, 0))) := ⟨by (with_reducible repeat (first | refine blk_drewN ?_ _ | refine blk_drew ?_ | refine blk_alloc ?_ _)); refine blk_far ?_ NB237_249.out _; (with_reducible repeat (first | refine blk_drewN ?_ _ | refine blk_drew ?_ | refine blk_alloc ?_ _)); refine blk_far ?_ NB237_249.out _; (with_reducible repeat (first | refine blk_drewN ?_ _ | refine blk_drew ?_ | refine blk_alloc ?_ _)); exact BK237.out⟩
     have n1_ : Aside0 (((w38.setCell ⟨gb249, 0, none⟩ (.string t246)).setCell ⟨gb249, 1, none⟩ (.int .i64 t247)).heap[gb249]? = some (.cells #[.string t246, .int .i64 t247] 44 (0, 0))) := ⟨by (with_reducible repeat (first | refine blk_drewN ?_ _ | refine blk_drew ?_ | refine blk_alloc ?_ _)); refine blk_put (cs := #[.string t246, .int .i64 0]) ?_ 1 _ rfl; (with_reducible repeat (first | refine blk_drewN ?_ _ | refine blk_drew ?_ | refine blk_alloc ?_ _)); refine blk_put (cs := #[.string (⟨#[]⟩ : ByteArray), .int .i64 0]) ?_ 0 _ rfl; (with_reducible repeat (first | refine blk_drewN ?_ _ | refine blk_drew ?_ | refine blk_alloc ?_ _)); exact BK249.out⟩
     have n2_ : Aside0 (IsS68 w ((w38.setCell ⟨gb249, 0, none⟩ (.string t246)).setCell ⟨gb249, 1, none⟩ (.int .i64 t247)) g236 x237000_1 x237001_1) := ⟨by repeat (first | (with_reducible first | exact HI236.out | apply IsS68.alloc | apply IsS68.drewN | apply IsS68.drew | apply IsS68.set_0 | apply IsS68.set_1 | refine IsS68.far ?_ NB236_237.out _ | refine IsS68.far ?_ NB236_249.out _) | exact HI236.out)⟩
     have n3_ : Aside0 (Below w.heap.size w ((w38.setCell ⟨gb249, 0, none⟩ (.string t246)).setCell ⟨gb249, 1, none⟩ (.int .i64 t247))) := ⟨by repeat (first | (with_reducible first | exact HB.out | apply below_alloc | apply pw_below_drewN | apply below_drew1 | refine below_set ?_ (IsS68.ge HI236.out) | refine below_set ?_ GE237.out | refine below_set ?_ GE249.out) | exact HB.out)⟩
     (try clear BK237)
     (try clear BK249)
     (try clear HI236)
     (try clear HB)
     generalize ((w38.setCell ⟨gb249, 0, none⟩ (.string t246)).setCell ⟨gb249, 1, none⟩ (.int .i64 t247)) = w42 at n0_ n1_ n2_ n3_ ⊢
     have BK237 := n0_
     have BK249 := n1_
     have HI236 := n2_
     have HB := n3_
     clear n0_ n1_ n2_ n3_
     have n0_ := Aside0.mk (blk_drew BK237.out)
     have n1_ := Aside0.mk (blk_drew BK249.out)
     have n2_ := Aside0.mk (IsS68.drew HI236.out)
     have n3_ := Aside0.mk (below_drew1 HB.out)
     clear BK237; clear BK249; clear HI236; clear HB
     have BK237 := n0_
     have BK249 := n1_
     have HI236 := n2_
     have HB := n3_
     clear n0_ n1_ n2_ n3_
     refine start_ (n := 7) (S := fun w' => w'.cell? ⟨gb249, 0, none⟩ = some (.string t246) ∧ w'.cell? ⟨gb249, 1, none⟩ = some (.int .i64 t247)) (ds := []) #[false, false, false, false, false, false, false] (by kernel_rfl) rfl rfl ⟨(blk_cell BK249.out 0).trans rfl, (blk_cell BK249.out 1).trans rfl⟩ (fun hHeld => ?_)
     generalize w42.drew = w43 at BK237 BK249 HI236 HB hHeld ⊢
     refine pure_ (i := 1) (N := some 63) (v := ?_) (a' := ?_) #[false, true, false, false, false, false, false] rfl rfl (by kernel_rfl) (fun _ _ _ h => h) (Or.inl ⟨by rfl, ?_⟩) ?_ ?_
     rotate_left
     · intro w'; go_simp; with_reducible rfl
     rotate_left
     · simp only [Act.put, List.setIfInBounds_toArray, List.set_cons_zero, List.set_cons_succ, i64_w, i32_w]; rfl
     refine pure_ (i := 3) (N := some 65) (v := ?_) (a' := ?_) #[false, true, false, true, false, false, false] rfl rfl (by kernel_rfl) (fun _ _ _ h => h) (Or.inl ⟨by rfl, ?_⟩) ?_ ?_
     rotate_left
     · intro w'; go_simp; with_reducible rfl
     rotate_left
     · simp only [Act.put, List.setIfInBounds_toArray, List.set_cons_zero, List.set_cons_succ, i64_w, i32_w]; rfl
     refine take_ (i := 0) (N := some 62) (v := ?_) (a' := ?_) #[true, true, false, true, false, false, false] rfl rfl (by kernel_rfl) (fun _ _ _ h => h) (Or.inl ⟨by rfl, ?_⟩) hHeld ?_ ?_
     rotate_left
     · rintro w' ⟨s0, s1⟩
       go_simp; with_reducible rfl
     rotate_left
     · simp only [Act.put, List.setIfInBounds_toArray, List.set_cons_zero, List.set_cons_succ, i64_w, i32_w]; rfl
     refine one_ (i := 2) (N := some 64) #[true, true, true, true, false, false, false] rfl rfl (by kernel_rfl) (by decide) (fun K hK => ?_)
     refine goes_ Try.func28 (by kernel_rfl) rfl #[.pointer (some ⟨g236, 0, none⟩)] (by rfl) rfl rfl (by (try simp only [List.map_toArray, List.map_cons, List.map_nil]); first | done | rfl | (simp only [List.length_drop, List.length_take]; rfl)) ?_
     with_reducible refine (vint_Reader_Whole.calls kj10 g236 x237000_1 x237001_1 t250 t251 t252 w _ ?side1 ?side2 A34.out).mono ?_
     (case side1 => repeat (first | (with_reducible first | exact HI236.out | apply IsS68.alloc | apply IsS68.drewN | apply IsS68.drew | apply IsS68.set_0 | apply IsS68.set_1 | refine IsS68.far ?_ NB236_237.out _ | refine IsS68.far ?_ NB236_249.out _) | exact HI236.out))
     (case side2 => repeat (first | (with_reducible first | exact HB.out | apply below_alloc | apply pw_below_drewN | apply below_drew1 | refine below_set ?_ (IsS68.ge HI236.out) | refine below_set ?_ GE237.out | refine below_set ?_ GE249.out) | exact HB.out))
     rintro e w44 ⟨rfl, hi, hb, hk⟩
     refine ⟨_, rfl, ?_⟩
     have n0_ := Aside0.mk (KeepBut.blk hk (g' := gb237) (o := .cells #[.string x238000_1, .int .i64 x238001_1] 44 (0, 0)) (by (with_reducible repeat (first | refine blk_drewN ?_ _ | refine blk_drew ?_ | refine blk_alloc ?_ _)); exact BK237.out) NB237_236.out (by simp))
     have n1_ := Aside0.mk (KeepBut.blk hk (g' := gb249) (o := .cells #[.string t246, .int .i64 t247] 44 (0, 0)) (by (with_reducible repeat (first | refine blk_drewN ?_ _ | refine blk_drew ?_ | refine blk_alloc ?_ _)); exact BK249.out) NB249_236.out (by simp))
     have n2_ := Aside0.mk (hb)
     have n3_ := Aside0.mk (hi)
     clear BK237; clear BK249; clear HB; clear HI236
     have BK237 := n0_
     have BK249 := n1_
     have HB := n2_
     have HI236 := n3_
     clear n0_ n1_ n2_ n3_
     (try clear hb)
     (try clear hb2)
     (try clear hk)
     (try clear hi)
     refine hK.out _ _ ⟨(blk_cell BK249.out 0).trans rfl, (blk_cell BK249.out 1).trans rfl⟩ (fun hHeld => ?_)
     clear hK K
     refine norm_ (a' := ?_) ?_ ?_
     rotate_left
     · show Act.put _ (some 64) _ = _
       simp only [Act.put, List.setIfInBounds_toArray, List.set_cons_zero, List.set_cons_succ, i64_w, i32_w]; rfl
     refine pure_ (i := 4) (N := some 66) (v := ?_) (a' := ?_) #[true, true, true, true, true, false, false] rfl rfl (by kernel_rfl) (fun _ _ _ h => h) (Or.inl ⟨by rfl, ?_⟩) ?_ ?_
     rotate_left
     · intro w'; go_simp; with_reducible rfl
     rotate_left
     · simp only [Act.put, List.setIfInBounds_toArray, List.set_cons_zero, List.set_cons_succ, i64_w, i32_w]; rfl
     refine one_ (i := 5) (N := none) #[true, true, true, true, true, true, false] rfl rfl (by kernel_rfl) (by decide) (fun K hK => ?_)
     have hs45 : w44.cell? ⟨gb237, 0, none⟩ = some (.string x238000_1) := (blk_cell BK237.out 0).trans rfl
     have hfs45 := blk_frozen BK237.out 0
     have hns45_1 := NB249_237.out
     have hms45_1 := NB237_249.out
     have hs46 : w44.cell? ⟨gb237, 1, none⟩ = some (.int .i64 x238001_1) := (blk_cell BK237.out 1).trans rfl
     have hfs46 := blk_frozen BK237.out 1
     have hns46_1 := NB249_237.out
     have hms46_1 := NB237_249.out
     refine skip_ (w1 := ?_) (by rfl) rfl ?_ ?_
     rotate_left
     · go_simp; rfl
     refine hK.out _ _ ⟨((cell_far (p := ⟨gb237, _, none⟩) NB249_237.out _).trans (((cell_far (p := ⟨gb237, _, none⟩) NB249_237.out _).trans (hHeld.1)))), ((cell_far (p := ⟨gb237, _, none⟩) NB249_237.out _).trans (((cell_far (p := ⟨gb237, _, none⟩) NB249_237.out _).trans (hHeld.2))))⟩ (fun hHeld => ?_)
     clear hK K
     refine pure_ (i := 6) (N := some 8) (v := ?_) (a' := ?_) #[true, true, true, true, true, true, true] rfl rfl (by kernel_rfl) (fun _ _ _ h => h) (Or.inl ⟨by rfl, ?_⟩) ?_ ?_
     rotate_left
     · intro w'; go_simp; with_reducible rfl
     rotate_left
     · simp only [Act.put, List.setIfInBounds_toArray, List.set_cons_zero, List.set_cons_succ, i64_w, i32_w]; rfl
     refine done_ (by kernel_rfl) ?_
     try go_wp2
     go_meet
     case rel => exact ⟨_, ((t250 == t248)), (t251), (t252), (t246), (t247), (by first | rfl | (simp; done) | (simp [*]; done)), H', ⟨by have := HK1.out; have := HJ10.out; first | omega | exact Nat.le_refl _⟩, ⟨by (with_reducible repeat (first | refine blk_drewN ?_ _ | refine blk_drew ?_ | refine blk_alloc ?_ _)); refine blk_put (cs := #[.string t246, .int .i64 x238001_1]) ?_ 1 _ rfl; (with_reducible repeat (first | refine blk_drewN ?_ _ | refine blk_drew ?_ | refine blk_alloc ?_ _)); refine blk_put (cs := #[.string x238000_1, .int .i64 x238001_1]) ?_ 0 _ rfl; (with_reducible repeat (first | refine blk_drewN ?_ _ | refine blk_drew ?_ | refine blk_alloc ?_ _)); exact BK237.out⟩, ⟨by repeat (first | (with_reducible first | exact HI236.out | apply IsS68.alloc | apply IsS68.drewN | apply IsS68.drew | apply IsS68.set_0 | apply IsS68.set_1 | refine IsS68.far ?_ NB236_237.out _ | refine IsS68.far ?_ NB236_249.out _) | exact HI236.out)⟩, ⟨by repeat (first | (with_reducible first | exact HB.out | apply below_alloc | apply pw_below_drewN | apply below_drew1 | refine below_set ?_ (IsS68.ge HI236.out) | refine below_set ?_ GE237.out | refine below_set ?_ GE249.out) | exact HB.out)⟩⟩
   rw [if_neg c32] at H
   have c32b0 : (((rd_T46 l1 x7_1).f0) == 1) = false := beq_eq_false_iff_ne.mpr c32
   have c32b1 : (((rd_T46 l1 x7_1).f0) != 1) = true := bne_iff_ne.mpr c32
   by_cases c47 : ((rd_T46 l1 x7_1).f0) = 2
   · rw [if_pos c47] at H
     have c47b0 : (((rd_T46 l1 x7_1).f0) == 2) = true := beq_iff_eq.mpr c47
     have c47b1 : (((rd_T46 l1 x7_1).f0) != 2) = false := bne_eq_false_iff_eq.mpr c47
     clear c47
     replace H := Option.bind_eq_some_iff.mp H
     obtain ⟨⟨t253, t254, t255⟩, A480, H⟩ := H
     replace H : ((vint_Reader_Flag.f x237000_1 x237001_1).bind fun bt257 => (splicelaw01_VintReads.j2 kj10 l1 x7_1 (bt257.1 == t255) bt257.2.1 bt257.2.2 t253 t254)) = some r := H
     have A48 := Aside0.mk A480
     clear A480
     replace H := Option.bind_eq_some_iff.mp H
     obtain ⟨⟨t257, t258, t259⟩, A490, H⟩ := H
     replace H : (splicelaw01_VintReads.j2 kj10 l1 x7_1 (t257 == t255) t258 t259 t253 t254) = some r := H
     have A49 := Aside0.mk A490
     clear A490
     have H' := Aside0.mk H
     clear H
     have hnb50 := NB237_236.out
     have hnc50 := NB236_237.out
     have hcz51_0 : wc.cell? ⟨gb237, 0, none⟩ = some (.string x238000_1) := (blk_cell BK237.out 0).trans rfl
     have hcz51_1 : wc.cell? ⟨gb237, 1, none⟩ = some (.int .i64 x238001_1) := (blk_cell BK237.out 1).trans rfl
     have hfz51_0 := blk_frozen BK237.out 0
     have hfz51_1 := blk_frozen BK237.out 1
     try go_wp2_with (first | ((with_reducible refine gate_callee (f := 35) rfl ?_); refine goesL_ (some 71) rfl rfl Try.func35 (by kernel_rfl) rfl #[.agg #[.string x238000_1, .int .i64 x238001_1]] rfl (by (try simp only [List.map_toArray, List.map_cons, List.map_nil]); first | done | rfl | (simp only [List.length_drop, List.length_take]; rfl)) ?_; (with_reducible refine (spliceref01_Reader_Flag.calls x238000_1 x238001_1 t253 t254 t255 _ A48.out).mono ?_); rintro e w52 ⟨rfl, hb⟩; refine ⟨_, rfl, ?_⟩; have n0_ := Aside0.mk (blk_below (g := gb237) (o := .cells #[.string x238000_1, .int .i64 x238001_1] 44 (0, 0)) (by (with_reducible repeat (first | refine blk_drewN ?_ _ | refine blk_drew ?_ | refine blk_alloc ?_ _)); exact BK237.out) hb); have n1_ := Aside0.mk (IsS68.below (by repeat (first | (with_reducible first | exact HI236.out | apply IsS68.alloc | apply IsS68.drewN | apply IsS68.drew | apply IsS68.set_0 | apply IsS68.set_1 | refine IsS68.far ?_ NB236_237.out _) | exact HI236.out)) hb); have n2_ := Aside0.mk (below_step (by repeat (first | (with_reducible first | exact HB.out | apply below_alloc | apply pw_below_drewN | apply below_drew1 | refine below_set ?_ (IsS68.ge HI236.out) | refine below_set ?_ GE237.out) | exact HB.out)) hb); clear BK237; clear HI236; clear HB; have BK237 := n0_; have HI236 := n1_; have HB := n2_; clear n0_ n1_ n2_; (try clear hb); (try clear hb2); (try clear hk); (try clear hi)) | ((with_reducible refine gate_dst (N := 13) rfl ?_); (try (refine gate_guard (by rfl) ?_; dsimp only)); refine box_event ?hg (N := 13) ?hd (cs := #[.string (⟨#[]⟩ : ByteArray), .int .i64 0]) (t := 44) ?hr ?_; (case hd => rfl); (case hg => rfl); (case hr => first | (go_simp; done) | (go_simp; rfl)); intro gb256 hg w53 hbox hb; have n0_ := Aside0.mk (blk_below (g := gb237) (o := .cells #[.string x238000_1, .int .i64 x238001_1] 44 (0, 0)) (by (with_reducible repeat (first | refine blk_drewN ?_ _ | refine blk_drew ?_ | refine blk_alloc ?_ _)); exact BK237.out) hb); have n1_ := Aside0.mk (IsS68.below (by repeat (first | (with_reducible first | exact HI236.out | apply IsS68.alloc | apply IsS68.drewN | apply IsS68.drew | apply IsS68.set_0 | apply IsS68.set_1 | refine IsS68.far ?_ NB236_237.out _) | exact HI236.out)) hb); have n2_ := Aside0.mk (below_step (by repeat (first | (with_reducible first | exact HB.out | apply below_alloc | apply pw_below_drewN | apply below_drew1 | refine below_set ?_ (IsS68.ge HI236.out) | refine below_set ?_ GE237.out) | exact HB.out)) hb); have n3_ := Aside0.mk (hbox); have n4_ := Aside0.mk ((by rw [hg]; exact (below_size (by repeat (first | (with_reducible first | exact HB.out | apply below_alloc | apply pw_below_drewN | apply below_drew1 | refine below_set ?_ (IsS68.ge HI236.out) | refine below_set ?_ GE237.out) | exact HB.out))) : w.heap.size ≤ gb256)); have n5_ := Aside0.mk ((by rw [hg]; exact (below_size (by repeat (first | (with_reducible first | exact HB.out | apply below_alloc | apply pw_below_drewN | apply below_drew1 | refine below_set ?_ (IsS68.ge HI236.out) | refine below_set ?_ GE237.out) | exact HB.out))) : w.heap.size ≤ gb256)); have n6_ := Aside0.mk ((by rw [hg]; exact Nat.ne_of_lt (blk_lt (g := gb237) (o := .cells #[.string x238000_1, .int .i64 x238001_1] 44 (0, 0)) (by (with_reducible repeat (first | refine blk_drewN ?_ _ | refine blk_drew ?_ | refine blk_alloc ?_ _)); exact BK237.out)) : gb237 ≠ gb256)); have n7_ := Aside0.mk ((by rw [hg]; exact Nat.ne_of_gt (blk_lt (g := gb237) (o := .cells #[.string x238000_1, .int .i64 x238001_1] 44 (0, 0)) (by (with_reducible repeat (first | refine blk_drewN ?_ _ | refine blk_drew ?_ | refine blk_alloc ?_ _)); exact BK237.out)) : gb256 ≠ gb237)); have n8_ := Aside0.mk ((by rw [hg]; exact Nat.ne_of_lt (IsS68.lt (show IsS68 w _ g236 x237000_1 x237001_1 from by repeat (first | (with_reducible first | exact HI236.out | apply IsS68.alloc | apply IsS68.drewN | apply IsS68.drew | apply IsS68.set_0 | apply IsS68.set_1 | refine IsS68.far ?_ NB236_237.out _) | exact HI236.out))) : g236 ≠ gb256)); have n9_ := Aside0.mk ((by rw [hg]; exact Nat.ne_of_gt (IsS68.lt (show IsS68 w _ g236 x237000_1 x237001_1 from by repeat (first | (with_reducible first | exact HI236.out | apply IsS68.alloc | apply IsS68.drewN | apply IsS68.drew | apply IsS68.set_0 | apply IsS68.set_1 | refine IsS68.far ?_ NB236_237.out _) | exact HI236.out))) : gb256 ≠ g236)); clear BK237; clear HI236; clear HB; have BK237 := n0_; have HI236 := n1_; have HB := n2_; have BK256 := n3_; have GW256 := n4_; have GE256 := n5_; have NB237_256 := n6_; have NB256_237 := n7_; have NB236_256 := n8_; have NB256_236 := n9_; clear n0_ n1_ n2_ n3_ n4_ n5_ n6_ n7_ n8_ n9_; clear hb hbox hg; have hnb54 := NB256_237.out; have hnc54 := NB237_256.out; have hnb55 := NB256_236.out; have hnc55 := NB236_256.out; have hcz56_0 : w53.cell? ⟨gb256, 0, none⟩ = some (.string (⟨#[]⟩ : ByteArray)) := (blk_cell BK256.out 0).trans rfl; have hcz56_1 : w53.cell? ⟨gb256, 1, none⟩ = some (.int .i64 0) := (blk_cell BK256.out 1).trans rfl; have hfz56_0 := blk_frozen BK256.out 0; have hfz56_1 := blk_frozen BK256.out 1))
     have n0_ : Aside0 (((w53.setCell ⟨gb256, 0, none⟩ (.string t253)).setCell ⟨gb256, 1, none⟩ (.int .i64 t254)).heap[gb237]? = some (.cells #[.string x238000_1, .int .i64 x238001_1] 44 (0, 0))) := ⟨by (with_reducible repeat (first | refine blk_drewN ?_ _ | refine blk_drew ?_ | refine blk_alloc ?_ _)); refine blk_far ?_ NB237_256.out _; (with_reducible repeat (first | refine blk_drewN ?_ _ | refine blk_drew ?_ | refine blk_alloc ?_ _)); refine blk_far ?_ NB237_256.out _; (with_reducible repeat (first | refine blk_drewN ?_ _ | refine blk_drew ?_ | refine blk_alloc ?_ _)); exact BK237.out⟩
     have n1_ : Aside0 (((w53.setCell ⟨gb256, 0, none⟩ (.string t253)).setCell ⟨gb256, 1, none⟩ (.int .i64 t254)).heap[gb256]? = some (.cells #[.string t253, .int .i64 t254] 44 (0, 0))) := ⟨by (with_reducible repeat (first | refine blk_drewN ?_ _ | refine blk_drew ?_ | refine blk_alloc ?_ _)); refine blk_put (cs := #[.string t253, .int .i64 0]) ?_ 1 _ rfl; (with_reducible repeat (first | refine blk_drewN ?_ _ | refine blk_drew ?_ | refine blk_alloc ?_ _)); refine blk_put (cs := #[.string (⟨#[]⟩ : ByteArray), .int .i64 0]) ?_ 0 _ rfl; (with_reducible repeat (first | refine blk_drewN ?_ _ | refine blk_drew ?_ | refine blk_alloc ?_ _)); exact BK256.out⟩
     have n2_ : Aside0 (IsS68 w ((w53.setCell ⟨gb256, 0, none⟩ (.string t253)).setCell ⟨gb256, 1, none⟩ (.int .i64 t254)) g236 x237000_1 x237001_1) := ⟨by repeat (first | (with_reducible first | exact HI236.out | apply IsS68.alloc | apply IsS68.drewN | apply IsS68.drew | apply IsS68.set_0 | apply IsS68.set_1 | refine IsS68.far ?_ NB236_237.out _ | refine IsS68.far ?_ NB236_256.out _) | exact HI236.out)⟩
     have n3_ : Aside0 (Below w.heap.size w ((w53.setCell ⟨gb256, 0, none⟩ (.string t253)).setCell ⟨gb256, 1, none⟩ (.int .i64 t254))) := ⟨by repeat (first | (with_reducible first | exact HB.out | apply below_alloc | apply pw_below_drewN | apply below_drew1 | refine below_set ?_ (IsS68.ge HI236.out) | refine below_set ?_ GE237.out | refine below_set ?_ GE256.out) | exact HB.out)⟩
     (try clear BK237)
     (try clear BK256)
     (try clear HI236)
     (try clear HB)
     generalize ((w53.setCell ⟨gb256, 0, none⟩ (.string t253)).setCell ⟨gb256, 1, none⟩ (.int .i64 t254)) = w57 at n0_ n1_ n2_ n3_ ⊢
     have BK237 := n0_
     have BK256 := n1_
     have HI236 := n2_
     have HB := n3_
     clear n0_ n1_ n2_ n3_
     have n0_ := Aside0.mk (blk_drew BK237.out)
     have n1_ := Aside0.mk (blk_drew BK256.out)
     have n2_ := Aside0.mk (IsS68.drew HI236.out)
     have n3_ := Aside0.mk (below_drew1 HB.out)
     clear BK237; clear BK256; clear HI236; clear HB
     have BK237 := n0_
     have BK256 := n1_
     have HI236 := n2_
     have HB := n3_
     clear n0_ n1_ n2_ n3_
     refine start_ (n := 7) (S := fun w' => w'.cell? ⟨gb256, 0, none⟩ = some (.string t253) ∧ w'.cell? ⟨gb256, 1, none⟩ = some (.int .i64 t254)) (ds := []) #[false, false, false, false, false, false, false] (by kernel_rfl) rfl rfl ⟨(blk_cell BK256.out 0).trans rfl, (blk_cell BK256.out 1).trans rfl⟩ (fun hHeld => ?_)
     generalize w57.drew = w58 at BK237 BK256 HI236 HB hHeld ⊢
     refine pure_ (i := 1) (N := some 75) (v := ?_) (a' := ?_) #[false, true, false, false, false, false, false] rfl rfl (by kernel_rfl) (fun _ _ _ h => h) (Or.inl ⟨by rfl, ?_⟩) ?_ ?_
     rotate_left
     · intro w'; go_simp; with_reducible rfl
     rotate_left
     · simp only [Act.put, List.setIfInBounds_toArray, List.set_cons_zero, List.set_cons_succ, i64_w, i32_w]; rfl
     refine pure_ (i := 3) (N := some 77) (v := ?_) (a' := ?_) #[false, true, false, true, false, false, false] rfl rfl (by kernel_rfl) (fun _ _ _ h => h) (Or.inl ⟨by rfl, ?_⟩) ?_ ?_
     rotate_left
     · intro w'; go_simp; with_reducible rfl
     rotate_left
     · simp only [Act.put, List.setIfInBounds_toArray, List.set_cons_zero, List.set_cons_succ, i64_w, i32_w]; rfl
     refine take_ (i := 0) (N := some 74) (v := ?_) (a' := ?_) #[true, true, false, true, false, false, false] rfl rfl (by kernel_rfl) (fun _ _ _ h => h) (Or.inl ⟨by rfl, ?_⟩) hHeld ?_ ?_
     rotate_left
     · rintro w' ⟨s0, s1⟩
       go_simp; with_reducible rfl
     rotate_left
     · simp only [Act.put, List.setIfInBounds_toArray, List.set_cons_zero, List.set_cons_succ, i64_w, i32_w]; rfl
     refine one_ (i := 2) (N := some 76) #[true, true, true, true, false, false, false] rfl rfl (by kernel_rfl) (by decide) (fun K hK => ?_)
     refine goes_ Try.func36 (by kernel_rfl) rfl #[.pointer (some ⟨g236, 0, none⟩)] (by rfl) rfl rfl (by (try simp only [List.map_toArray, List.map_cons, List.map_nil]); first | done | rfl | (simp only [List.length_drop, List.length_take]; rfl)) ?_
     with_reducible refine (vint_Reader_Flag.calls g236 x237000_1 x237001_1 t257 t258 t259 w _ ?side1 ?side2 A49.out).mono ?_
     (case side1 => repeat (first | (with_reducible first | exact HI236.out | apply IsS68.alloc | apply IsS68.drewN | apply IsS68.drew | apply IsS68.set_0 | apply IsS68.set_1 | refine IsS68.far ?_ NB236_237.out _ | refine IsS68.far ?_ NB236_256.out _) | exact HI236.out))
     (case side2 => repeat (first | (with_reducible first | exact HB.out | apply below_alloc | apply pw_below_drewN | apply below_drew1 | refine below_set ?_ (IsS68.ge HI236.out) | refine below_set ?_ GE237.out | refine below_set ?_ GE256.out) | exact HB.out))
     rintro e w59 ⟨rfl, hi, hb, hk⟩
     refine ⟨_, rfl, ?_⟩
     have n0_ := Aside0.mk (KeepBut.blk hk (g' := gb237) (o := .cells #[.string x238000_1, .int .i64 x238001_1] 44 (0, 0)) (by (with_reducible repeat (first | refine blk_drewN ?_ _ | refine blk_drew ?_ | refine blk_alloc ?_ _)); exact BK237.out) NB237_236.out (by simp))
     have n1_ := Aside0.mk (KeepBut.blk hk (g' := gb256) (o := .cells #[.string t253, .int .i64 t254] 44 (0, 0)) (by (with_reducible repeat (first | refine blk_drewN ?_ _ | refine blk_drew ?_ | refine blk_alloc ?_ _)); exact BK256.out) NB256_236.out (by simp))
     have n2_ := Aside0.mk (hb)
     have n3_ := Aside0.mk (hi)
     clear BK237; clear BK256; clear HB; clear HI236
     have BK237 := n0_
     have BK256 := n1_
     have HB := n2_
     have HI236 := n3_
     clear n0_ n1_ n2_ n3_
     (try clear hb)
     (try clear hb2)
     (try clear hk)
     (try clear hi)
     refine hK.out _ _ ⟨(blk_cell BK256.out 0).trans rfl, (blk_cell BK256.out 1).trans rfl⟩ (fun hHeld => ?_)
     clear hK K
     refine norm_ (a' := ?_) ?_ ?_
     rotate_left
     · show Act.put _ (some 76) _ = _
       simp only [Act.put, List.setIfInBounds_toArray, List.set_cons_zero, List.set_cons_succ, i64_w, i32_w]; rfl
     refine pure_ (i := 4) (N := some 78) (v := ?_) (a' := ?_) #[true, true, true, true, true, false, false] rfl rfl (by kernel_rfl) (fun _ _ _ h => h) (Or.inl ⟨by rfl, ?_⟩) ?_ ?_
     rotate_left
     · intro w'; go_simp; with_reducible rfl
     rotate_left
     · simp only [Act.put, List.setIfInBounds_toArray, List.set_cons_zero, List.set_cons_succ, i64_w, i32_w]; rfl
     refine one_ (i := 5) (N := none) #[true, true, true, true, true, true, false] rfl rfl (by kernel_rfl) (by decide) (fun K hK => ?_)
     have hs60 : w59.cell? ⟨gb237, 0, none⟩ = some (.string x238000_1) := (blk_cell BK237.out 0).trans rfl
     have hfs60 := blk_frozen BK237.out 0
     have hns60_1 := NB256_237.out
     have hms60_1 := NB237_256.out
     have hs61 : w59.cell? ⟨gb237, 1, none⟩ = some (.int .i64 x238001_1) := (blk_cell BK237.out 1).trans rfl
     have hfs61 := blk_frozen BK237.out 1
     have hns61_1 := NB256_237.out
     have hms61_1 := NB237_256.out
     refine skip_ (w1 := ?_) (by rfl) rfl ?_ ?_
     rotate_left
     · go_simp; rfl
     refine hK.out _ _ ⟨((cell_far (p := ⟨gb237, _, none⟩) NB256_237.out _).trans (((cell_far (p := ⟨gb237, _, none⟩) NB256_237.out _).trans (hHeld.1)))), ((cell_far (p := ⟨gb237, _, none⟩) NB256_237.out _).trans (((cell_far (p := ⟨gb237, _, none⟩) NB256_237.out _).trans (hHeld.2))))⟩ (fun hHeld => ?_)
     clear hK K
     refine pure_ (i := 6) (N := some 8) (v := ?_) (a' := ?_) #[true, true, true, true, true, true, true] rfl rfl (by kernel_rfl) (fun _ _ _ h => h) (Or.inl ⟨by rfl, ?_⟩) ?_ ?_
     rotate_left
     · intro w'; go_simp; with_reducible rfl
     rotate_left
     · simp only [Act.put, List.setIfInBounds_toArray, List.set_cons_zero, List.set_cons_succ, i64_w, i32_w]; rfl
     refine done_ (by kernel_rfl) ?_
     try go_wp2
     go_meet
     case rel => exact ⟨_, ((t257 == t255)), (t258), (t259), (t253), (t254), (by first | rfl | (simp; done) | (simp [*]; done)), H', ⟨by have := HK1.out; have := HJ10.out; first | omega | exact Nat.le_refl _⟩, ⟨by (with_reducible repeat (first | refine blk_drewN ?_ _ | refine blk_drew ?_ | refine blk_alloc ?_ _)); refine blk_put (cs := #[.string t253, .int .i64 x238001_1]) ?_ 1 _ rfl; (with_reducible repeat (first | refine blk_drewN ?_ _ | refine blk_drew ?_ | refine blk_alloc ?_ _)); refine blk_put (cs := #[.string x238000_1, .int .i64 x238001_1]) ?_ 0 _ rfl; (with_reducible repeat (first | refine blk_drewN ?_ _ | refine blk_drew ?_ | refine blk_alloc ?_ _)); exact BK237.out⟩, ⟨by repeat (first | (with_reducible first | exact HI236.out | apply IsS68.alloc | apply IsS68.drewN | apply IsS68.drew | apply IsS68.set_0 | apply IsS68.set_1 | refine IsS68.far ?_ NB236_237.out _ | refine IsS68.far ?_ NB236_256.out _) | exact HI236.out)⟩, ⟨by repeat (first | (with_reducible first | exact HB.out | apply below_alloc | apply pw_below_drewN | apply below_drew1 | refine below_set ?_ (IsS68.ge HI236.out) | refine below_set ?_ GE237.out | refine below_set ?_ GE256.out) | exact HB.out)⟩⟩
   rw [if_neg c47] at H
   have c47b0 : (((rd_T46 l1 x7_1).f0) == 2) = false := beq_eq_false_iff_ne.mpr c47
   have c47b1 : (((rd_T46 l1 x7_1).f0) != 2) = true := bne_iff_ne.mpr c47
   by_cases c62 : ((rd_T46 l1 x7_1).f0) = 3
   · rw [if_pos c62] at H
     have c62b0 : (((rd_T46 l1 x7_1).f0) == 3) = true := beq_iff_eq.mpr c62
     have c62b1 : (((rd_T46 l1 x7_1).f0) != 3) = false := bne_eq_false_iff_eq.mpr c62
     clear c62
     replace H := Option.bind_eq_some_iff.mp H
     obtain ⟨⟨t261, t262, t263⟩, A630, H⟩ := H
     replace H : ((vint_Reader_Text.f kj10 x237000_1 x237001_1 ((rd_T46 l1 x7_1).f1)).bind fun bt266 => (splicelaw01_VintReads.j2 kj10 l1 x7_1 (bt266.1.toList == t263.toList) bt266.2.1 bt266.2.2 t261 t262)) = some r := H
     have A63 := Aside0.mk A630
     clear A630
     replace H := Option.bind_eq_some_iff.mp H
     obtain ⟨⟨t266, t267, t268⟩, A640, H⟩ := H
     replace H : (splicelaw01_VintReads.j2 kj10 l1 x7_1 (t266.toList == t263.toList) t267 t268 t261 t262) = some r := H
     have A64 := Aside0.mk A640
     clear A640
     have H' := Aside0.mk H
     clear H
     try go_wp2
     have n0_ := Aside0.mk (blk_drew BK237.out)
     have n1_ := Aside0.mk (IsS68.drew HI236.out)
     have n2_ := Aside0.mk (below_drew1 HB.out)
     clear BK237; clear HI236; clear HB
     have BK237 := n0_
     have HI236 := n1_
     have HB := n2_
     clear n0_ n1_ n2_
     have p260 : 0 ≤ (x7_1 : Int) := of_decide_eq_true (by first | (with_reducible assumption) | assumption)
     have q260 : x7_1 < (l1.length : Int) := of_decide_eq_true (by first | (with_reducible assumption) | assumption)
     obtain ⟨ad260, e260, hx260_0, hx260_1⟩ := at_T46 HR1.out x7_1 p260 q260
     have hw260_1 := hx260_1
     have hw260_0 := hx260_0
     obtain rfl : ad238 = ad260 := (by injection e260)
     replace hx260_0 := (HB.out.cell (World.block_lt_of_cell? w _ hx260_0)).trans hx260_0
     replace hx260_1 := (HB.out.cell (World.block_lt_of_cell? w _ hx260_1)).trans hx260_1
     replace p260 := eq_true p260
     replace q260 := eq_true q260
     refine start_ (n := 13) (S := fun w' => w'.cell? ⟨gb237, 0, none⟩ = some (.string x238000_1) ∧ w'.cell? ⟨gb237, 1, none⟩ = some (.int .i64 x238001_1) ∧ w'.cell? (ad238.add ((x7_1).toNat * 2)) = some (.int .i64 ((rd_T46 l1 x7_1).f0)) ∧ w'.cell? ⟨(ad238.add ((x7_1).toNat * 2)).block, (ad238.add ((x7_1).toNat * 2)).off + 1, none⟩ = some (.int .i64 ((rd_T46 l1 x7_1).f1))) (ds := []) #[false, false, false, false, false, false, false, false, false, false, false, false, false] (by kernel_rfl) rfl rfl ⟨(blk_cell BK237.out 0).trans rfl, (blk_cell BK237.out 1).trans rfl, ((HB.out.cell (World.block_lt_of_cell? w _ hw260_0)).trans hw260_0), ((HB.out.cell (World.block_lt_of_cell? w _ hw260_1)).trans hw260_1)⟩ (fun hHeld => ?_); refine with_tabW splicelaw01_VintReads.tab20 splicelaw01_VintReads.bits20 (fun HT_ HW_ => ?_)
     generalize wc.drew = w65 at BK237 HI236 HB hx260_0 hx260_1 hHeld ⊢
     refine pure_ (i := 1) (N := some 83) (v := ?_) (a' := ?_) #[false, true, false, false, false, false, false, false, false, false, false, false, false] rfl rfl (any_of HT_.out (by kernel_rfl)) (fun _ _ _ h => h) (Or.inl ⟨by rfl, ?_⟩) ?_ ?_
     rotate_left
     · intro w'; go_simp; with_reducible rfl
     rotate_left
     · simp only [Act.put, List.setIfInBounds_toArray, List.set_cons_zero, List.set_cons_succ, i64_w, i32_w]; rfl
     refine pure_ (i := 2) (N := some 84) (v := ?_) (a' := ?_) #[false, true, true, false, false, false, false, false, false, false, false, false, false] rfl rfl (any_of HT_.out (by kernel_rfl)) (fun _ _ _ h => h) (Or.inl ⟨by rfl, ?_⟩) ?_ ?_
     rotate_left
     · intro w'; go_simp; with_reducible rfl
     rotate_left
     · simp only [Act.put, List.setIfInBounds_toArray, List.set_cons_zero, List.set_cons_succ, i64_w, i32_w]; rfl
     refine pure_ (i := 3) (N := some 85) (v := ?_) (a' := ?_) #[false, true, true, true, false, false, false, false, false, false, false, false, false] rfl rfl (any_of HT_.out (by kernel_rfl)) (fun _ _ _ h => h) (Or.inl ⟨by rfl, ?_⟩) ?_ ?_
     rotate_left
     · intro w'; go_simp; with_reducible rfl
     rotate_left
     · simp only [Act.put, List.setIfInBounds_toArray, List.set_cons_zero, List.set_cons_succ, i64_w, i32_w]; rfl
     refine pure_ (i := 4) (N := some 86) (v := ?_) (a' := ?_) #[false, true, true, true, true, false, false, false, false, false, false, false, false] rfl rfl (any_of HT_.out (by kernel_rfl)) (fun _ _ _ h => h) (Or.inl ⟨by rfl, ?_⟩) ?_ ?_
     rotate_left
     · intro w'; go_simp; with_reducible rfl
     rotate_left
     · simp only [Act.put, List.setIfInBounds_toArray, List.set_cons_zero, List.set_cons_succ, i64_w, i32_w]; rfl
     refine take_ (i := 0) (N := some 82) (v := ?_) (a' := ?_) #[true, true, true, true, true, false, false, false, false, false, false, false, false] rfl rfl (take_ofW HT_.out HW_.out (by kernel_rfl)) (fun _ _ _ h => h) (Or.inl ⟨by rfl, ?_⟩) hHeld ?_ ?_
     rotate_left
     · rintro w' ⟨s0, s1, s2, s3⟩
       go_simp; with_reducible rfl
     rotate_left
     · simp only [Act.put, List.setIfInBounds_toArray, List.set_cons_zero, List.set_cons_succ, i64_w, i32_w]; rfl
     refine take_ (i := 5) (N := some 87) (v := ?_) (a' := ?_) #[true, true, true, true, true, true, false, false, false, false, false, false, false] rfl rfl (take_ofW HT_.out HW_.out (by kernel_rfl)) (fun _ _ _ h => h) (Or.inl ⟨by rfl, ?_⟩) hHeld ?_ ?_
     rotate_left
     · rintro w' ⟨s0, s1, s2, s3⟩
       go_simp; with_reducible rfl
     rotate_left
     · simp only [Act.put, List.setIfInBounds_toArray, List.set_cons_zero, List.set_cons_succ, i64_w, i32_w]; rfl
     refine join_ (σ := Nat) 2 #[true, true, true, true, true, true, true, true, true, true, true, false, false] (fun s_ => [(88, .tuple #[.agg #[.string t261, .int .i64 t262], .string t263]), (15, .pointer (some ⟨s_, 0, none⟩)), (81, .tuple #[.agg #[.string t261, .int .i64 t262], .string t263]), (89, .agg #[.string t261, .int .i64 t262]), (90, .string t263)]) (fun s_ w' => (w'.cell? ⟨gb237, 0, none⟩ = some (.string x238000_1) ∧ w'.cell? ⟨gb237, 1, none⟩ = some (.int .i64 x238001_1) ∧ w'.cell? (ad238.add ((x7_1).toNat * 2)) = some (.int .i64 ((rd_T46 l1 x7_1).f0)) ∧ w'.cell? ⟨(ad238.add ((x7_1).toNat * 2)).block, (ad238.add ((x7_1).toNat * 2)).off + 1, none⟩ = some (.int .i64 ((rd_T46 l1 x7_1).f1))) ∧ (w'.heap[gb237]? = some (.cells #[.string x238000_1, .int .i64 x238001_1] 44 (0, 0))) ∧ (w'.heap[s_]? = some (.cells #[.string (⟨#[]⟩ : ByteArray), .int .i64 0] 44 (0, 0))) ∧ (w.heap.size ≤ s_) ∧ (w.heap.size ≤ s_) ∧ (g236 ≠ s_) ∧ (s_ ≠ g236) ∧ (gb237 ≠ s_) ∧ (s_ ≠ gb237) ∧ (IsS68 w w' g236 x237000_1 x237001_1) ∧ (Below w.heap.size w w')) ?_ ?_
     rotate_left
     · intro hCont
       refine two_ (i := 6) (j := 10) (Ni := some 88) (Nj := some 15) #[true, true, true, true, true, true, true, false, false, false, false, false, false] #[true, true, true, true, true, true, false, false, false, false, true, false, false] rfl rfl rfl rfl (two_of HT_.out (by kernel_rfl)) (by decide) (by decide) (fun K hK => ?_) (fun K hK => ?_)
       · skip
         refine goes_ Try.func37 (by kernel_rfl) rfl #[.agg #[.string x238000_1, .int .i64 x238001_1], .int .i64 ((rd_T46 l1 x7_1).f1)] (by rfl) rfl rfl (by (try simp only [List.map_toArray, List.map_cons, List.map_nil]); first | done | rfl | (simp only [List.length_drop, List.length_take]; rfl)) ?_
         with_reducible refine (spliceref01_Reader_Text.calls kj10 x238000_1 x238001_1 ((rd_T46 l1 x7_1).f1) t261 t262 t263 _ A63.out).mono ?_
         rintro e w66 ⟨rfl, hb⟩
         refine ⟨_, rfl, ?_⟩
         have n0_ := Aside0.mk (blk_below (g := gb237) (o := .cells #[.string x238000_1, .int .i64 x238001_1] 44 (0, 0)) (by (with_reducible repeat (first | refine blk_drewN ?_ _ | refine blk_drew ?_ | refine blk_alloc ?_ _)); exact BK237.out) hb)
         have n1_ := Aside0.mk (IsS68.below (by repeat (first | (with_reducible first | exact HI236.out | apply IsS68.alloc | apply IsS68.drewN | apply IsS68.drew | apply IsS68.set_0 | apply IsS68.set_1 | refine IsS68.far ?_ NB236_237.out _) | exact HI236.out)) hb)
         have n2_ := Aside0.mk (below_step (by repeat (first | (with_reducible first | exact HB.out | apply below_alloc | apply pw_below_drewN | apply below_drew1 | refine below_set ?_ (IsS68.ge HI236.out) | refine below_set ?_ GE237.out) | exact HB.out)) hb)
         clear BK237; clear HI236; clear HB
         have BK237 := n0_
         have HI236 := n1_
         have HB := n2_
         clear n0_ n1_ n2_
         (try clear hb)
         (try clear hb2)
         (try clear hk)
         (try clear hi)
         refine hK.out _ _ ⟨(blk_cell BK237.out 0).trans rfl, (blk_cell BK237.out 1).trans rfl, ((HB.out.cell (World.block_lt_of_cell? w _ hw260_0)).trans hw260_0), ((HB.out.cell (World.block_lt_of_cell? w _ hw260_1)).trans hw260_1)⟩ (fun hHeld => ?_)
         clear hK K
         refine norm_ (a' := ?_) ?_ ?_
         rotate_left
         · show Act.put _ (some 88) _ = _
           simp only [Act.put, List.setIfInBounds_toArray, List.set_cons_zero, List.set_cons_succ, i64_w, i32_w]; rfl
         refine pure_ (i := 7) (N := some 81) (v := ?_) (a' := ?_) #[true, true, true, true, true, true, true, true, false, false, false, false, false] rfl rfl (any_of HT_.out (by kernel_rfl)) (fun _ _ _ h => h) (Or.inl ⟨by rfl, ?_⟩) ?_ ?_
         rotate_left
         · intro w'; go_simp; with_reducible rfl
         rotate_left
         · simp only [Act.put, List.setIfInBounds_toArray, List.set_cons_zero, List.set_cons_succ, i64_w, i32_w]; rfl
         refine pure_ (i := 8) (N := some 89) (v := ?_) (a' := ?_) #[true, true, true, true, true, true, true, true, true, false, false, false, false] rfl rfl (any_of HT_.out (by kernel_rfl)) (fun _ _ _ h => h) (Or.inl ⟨by rfl, ?_⟩) ?_ ?_
         rotate_left
         · intro w'; go_simp; with_reducible rfl
         rotate_left
         · simp only [Act.put, List.setIfInBounds_toArray, List.set_cons_zero, List.set_cons_succ, i64_w, i32_w]; rfl
         refine pure_ (i := 9) (N := some 90) (v := ?_) (a' := ?_) #[true, true, true, true, true, true, true, true, true, true, false, false, false] rfl rfl (any_of HT_.out (by kernel_rfl)) (fun _ _ _ h => h) (Or.inl ⟨by rfl, ?_⟩) ?_ ?_
         rotate_left
         · intro w'; go_simp; with_reducible rfl
         rotate_left
         · simp only [Act.put, List.setIfInBounds_toArray, List.set_cons_zero, List.set_cons_succ, i64_w, i32_w]; rfl
         refine one_ (i := 10) (N := some 15) #[true, true, true, true, true, true, true, true, true, true, true, false, false] rfl rfl (one_of HT_.out (by kernel_rfl)) (by decide) (fun K hK => ?_)
         refine box_step ?hg (N := 15) ?hd (cs := #[.string (⟨#[]⟩ : ByteArray), .int .i64 0]) (t := 44) ?hr ?_; (case hd => rfl); (case hg => rfl); (case hr => first | (go_simp; done) | (go_simp; rfl))
         intro gb264 hg w67 hbox hb
         have n0_ := Aside0.mk (blk_below (g := gb237) (o := .cells #[.string x238000_1, .int .i64 x238001_1] 44 (0, 0)) (by (with_reducible repeat (first | refine blk_drewN ?_ _ | refine blk_drew ?_ | refine blk_alloc ?_ _)); exact BK237.out) hb)
         have n1_ := Aside0.mk (IsS68.below (by repeat (first | (with_reducible first | exact HI236.out | apply IsS68.alloc | apply IsS68.drewN | apply IsS68.drew | apply IsS68.set_0 | apply IsS68.set_1 | refine IsS68.far ?_ NB236_237.out _) | exact HI236.out)) hb)
         have n2_ := Aside0.mk (below_step (by repeat (first | (with_reducible first | exact HB.out | apply below_alloc | apply pw_below_drewN | apply below_drew1 | refine below_set ?_ (IsS68.ge HI236.out) | refine below_set ?_ GE237.out) | exact HB.out)) hb)
         have n3_ := Aside0.mk (hbox)
         have n4_ := Aside0.mk ((by rw [hg]; exact (below_size (by repeat (first | (with_reducible first | exact HB.out | apply below_alloc | apply pw_below_drewN | apply below_drew1 | refine below_set ?_ (IsS68.ge HI236.out) | refine below_set ?_ GE237.out) | exact HB.out))) : w.heap.size ≤ gb264))
         have n5_ := Aside0.mk ((by rw [hg]; exact (below_size (by repeat (first | (with_reducible first | exact HB.out | apply below_alloc | apply pw_below_drewN | apply below_drew1 | refine below_set ?_ (IsS68.ge HI236.out) | refine below_set ?_ GE237.out) | exact HB.out))) : w.heap.size ≤ gb264))
         have n6_ := Aside0.mk ((by rw [hg]; exact Nat.ne_of_lt (blk_lt (g := gb237) (o := .cells #[.string x238000_1, .int .i64 x238001_1] 44 (0, 0)) (by (with_reducible repeat (first | refine blk_drewN ?_ _ | refine blk_drew ?_ | refine blk_alloc ?_ _)); exact BK237.out)) : gb237 ≠ gb264))
         have n7_ := Aside0.mk ((by rw [hg]; exact Nat.ne_of_gt (blk_lt (g := gb237) (o := .cells #[.string x238000_1, .int .i64 x238001_1] 44 (0, 0)) (by (with_reducible repeat (first | refine blk_drewN ?_ _ | refine blk_drew ?_ | refine blk_alloc ?_ _)); exact BK237.out)) : gb264 ≠ gb237))
         have n8_ := Aside0.mk ((by rw [hg]; exact Nat.ne_of_lt (IsS68.lt (show IsS68 w _ g236 x237000_1 x237001_1 from by repeat (first | (with_reducible first | exact HI236.out | apply IsS68.alloc | apply IsS68.drewN | apply IsS68.drew | apply IsS68.set_0 | apply IsS68.set_1 | refine IsS68.far ?_ NB236_237.out _) | exact HI236.out))) : g236 ≠ gb264))
         have n9_ := Aside0.mk ((by rw [hg]; exact Nat.ne_of_gt (IsS68.lt (show IsS68 w _ g236 x237000_1 x237001_1 from by repeat (first | (with_reducible first | exact HI236.out | apply IsS68.alloc | apply IsS68.drewN | apply IsS68.drew | apply IsS68.set_0 | apply IsS68.set_1 | refine IsS68.far ?_ NB236_237.out _) | exact HI236.out))) : gb264 ≠ g236))
         clear BK237; clear HI236; clear HB
         have BK237 := n0_
         have HI236 := n1_
         have HB := n2_
         have BK264 := n3_
         have GW264 := n4_
         have GE264 := n5_
         have NB237_264 := n6_
         have NB264_237 := n7_
         have NB236_264 := n8_
         have NB264_236 := n9_
         clear n0_ n1_ n2_ n3_ n4_ n5_ n6_ n7_ n8_ n9_; clear hb hbox hg
         refine hK.out _ _ ⟨(blk_cell BK237.out 0).trans rfl, (blk_cell BK237.out 1).trans rfl, ((HB.out.cell (World.block_lt_of_cell? w _ hw260_0)).trans hw260_0), ((HB.out.cell (World.block_lt_of_cell? w _ hw260_1)).trans hw260_1)⟩ (fun hHeld => ?_)
         clear hK K
         refine norm_ (a' := ?_) ?_ ?_
         rotate_left
         · show Act.put _ (some 15) _ = _
           simp only [Act.put, List.setIfInBounds_toArray, List.set_cons_zero, List.set_cons_succ, i64_w, i32_w]; rfl
         exact norm_ (by simp only [putAll, Act.put, List.setIfInBounds_toArray, List.set_cons_zero, List.set_cons_succ]) (hCont (gb264) _ ⟨hHeld, (by (with_reducible repeat (first | refine blk_drewN ?_ _ | refine blk_drew ?_ | refine blk_alloc ?_ _)); exact BK237.out), (by (with_reducible repeat (first | refine blk_drewN ?_ _ | refine blk_drew ?_ | refine blk_alloc ?_ _)); exact BK264.out), GW264.out, GE264.out, NB236_264.out, NB264_236.out, NB237_264.out, NB264_237.out, (by repeat (first | (with_reducible first | exact HI236.out | apply IsS68.alloc | apply IsS68.drewN | apply IsS68.drew | apply IsS68.set_0 | apply IsS68.set_1 | refine IsS68.far ?_ NB236_237.out _ | refine IsS68.far ?_ NB236_264.out _) | exact HI236.out)), (by repeat (first | (with_reducible first | exact HB.out | apply below_alloc | apply pw_below_drewN | apply below_drew1 | refine below_set ?_ (IsS68.ge HI236.out) | refine below_set ?_ GE237.out | refine below_set ?_ GE264.out) | exact HB.out))⟩)
       skip
       refine box_step ?hg (N := 15) ?hd (cs := #[.string (⟨#[]⟩ : ByteArray), .int .i64 0]) (t := 44) ?hr ?_; (case hd => rfl); (case hg => rfl); (case hr => first | (go_simp; done) | (go_simp; rfl))
       intro gb264 hg w66 hbox hb
       have n0_ := Aside0.mk (blk_below (g := gb237) (o := .cells #[.string x238000_1, .int .i64 x238001_1] 44 (0, 0)) (by (with_reducible repeat (first | refine blk_drewN ?_ _ | refine blk_drew ?_ | refine blk_alloc ?_ _)); exact BK237.out) hb)
       have n1_ := Aside0.mk (IsS68.below (by repeat (first | (with_reducible first | exact HI236.out | apply IsS68.alloc | apply IsS68.drewN | apply IsS68.drew | apply IsS68.set_0 | apply IsS68.set_1 | refine IsS68.far ?_ NB236_237.out _) | exact HI236.out)) hb)
       have n2_ := Aside0.mk (below_step (by repeat (first | (with_reducible first | exact HB.out | apply below_alloc | apply pw_below_drewN | apply below_drew1 | refine below_set ?_ (IsS68.ge HI236.out) | refine below_set ?_ GE237.out) | exact HB.out)) hb)
       have n3_ := Aside0.mk (hbox)
       have n4_ := Aside0.mk ((by rw [hg]; exact (below_size (by repeat (first | (with_reducible first | exact HB.out | apply below_alloc | apply pw_below_drewN | apply below_drew1 | refine below_set ?_ (IsS68.ge HI236.out) | refine below_set ?_ GE237.out) | exact HB.out))) : w.heap.size ≤ gb264))
       have n5_ := Aside0.mk ((by rw [hg]; exact (below_size (by repeat (first | (with_reducible first | exact HB.out | apply below_alloc | apply pw_below_drewN | apply below_drew1 | refine below_set ?_ (IsS68.ge HI236.out) | refine below_set ?_ GE237.out) | exact HB.out))) : w.heap.size ≤ gb264))
       have n6_ := Aside0.mk ((by rw [hg]; exact Nat.ne_of_lt (blk_lt (g := gb237) (o := .cells #[.string x238000_1, .int .i64 x238001_1] 44 (0, 0)) (by (with_reducible repeat (first | refine blk_drewN ?_ _ | refine blk_drew ?_ | refine blk_alloc ?_ _)); exact BK237.out)) : gb237 ≠ gb264))
       have n7_ := Aside0.mk ((by rw [hg]; exact Nat.ne_of_gt (blk_lt (g := gb237) (o := .cells #[.string x238000_1, .int .i64 x238001_1] 44 (0, 0)) (by (with_reducible repeat (first | refine blk_drewN ?_ _ | refine blk_drew ?_ | refine blk_alloc ?_ _)); exact BK237.out)) : gb264 ≠ gb237))
       have n8_ := Aside0.mk ((by rw [hg]; exact Nat.ne_of_lt (IsS68.lt (show IsS68 w _ g236 x237000_1 x237001_1 from by repeat (first | (with_reducible first | exact HI236.out | apply IsS68.alloc | apply IsS68.drewN | apply IsS68.drew | apply IsS68.set_0 | apply IsS68.set_1 | refine IsS68.far ?_ NB236_237.out _) | exact HI236.out))) : g236 ≠ gb264))
       have n9_ := Aside0.mk ((by rw [hg]; exact Nat.ne_of_gt (IsS68.lt (show IsS68 w _ g236 x237000_1 x237001_1 from by repeat (first | (with_reducible first | exact HI236.out | apply IsS68.alloc | apply IsS68.drewN | apply IsS68.drew | apply IsS68.set_0 | apply IsS68.set_1 | refine IsS68.far ?_ NB236_237.out _) | exact HI236.out))) : gb264 ≠ g236))
       clear BK237; clear HI236; clear HB
       have BK237 := n0_
       have HI236 := n1_
       have HB := n2_
       have BK264 := n3_
       have GW264 := n4_
       have GE264 := n5_
       have NB237_264 := n6_
       have NB264_237 := n7_
       have NB236_264 := n8_
       have NB264_236 := n9_
       clear n0_ n1_ n2_ n3_ n4_ n5_ n6_ n7_ n8_ n9_; clear hb hbox hg
       refine hK.out _ _ ⟨(blk_cell BK237.out 0).trans rfl, (blk_cell BK237.out 1).trans rfl, ((HB.out.cell (World.block_lt_of_cell? w _ hw260_0)).trans hw260_0), ((HB.out.cell (World.block_lt_of_cell? w _ hw260_1)).trans hw260_1)⟩ (fun hHeld => ?_)
       clear hK K
       refine norm_ (a' := ?_) ?_ ?_
       rotate_left
       · show Act.put _ (some 15) _ = _
         simp only [Act.put, List.setIfInBounds_toArray, List.set_cons_zero, List.set_cons_succ, i64_w, i32_w]; rfl
       refine one_ (i := 6) (N := some 88) #[true, true, true, true, true, true, true, false, false, false, true, false, false] rfl rfl (one_of HT_.out (by kernel_rfl)) (by decide) (fun K hK => ?_)
       refine goes_ Try.func37 (by kernel_rfl) rfl #[.agg #[.string x238000_1, .int .i64 x238001_1], .int .i64 ((rd_T46 l1 x7_1).f1)] (by rfl) rfl rfl (by (try simp only [List.map_toArray, List.map_cons, List.map_nil]); first | done | rfl | (simp only [List.length_drop, List.length_take]; rfl)) ?_
       with_reducible refine (spliceref01_Reader_Text.calls kj10 x238000_1 x238001_1 ((rd_T46 l1 x7_1).f1) t261 t262 t263 _ A63.out).mono ?_
       rintro e w67 ⟨rfl, hb⟩
       refine ⟨_, rfl, ?_⟩
       have n0_ := Aside0.mk (blk_below (g := gb237) (o := .cells #[.string x238000_1, .int .i64 x238001_1] 44 (0, 0)) (by (with_reducible repeat (first | refine blk_drewN ?_ _ | refine blk_drew ?_ | refine blk_alloc ?_ _)); exact BK237.out) hb)
       have n1_ := Aside0.mk (IsS68.below (by repeat (first | (with_reducible first | exact HI236.out | apply IsS68.alloc | apply IsS68.drewN | apply IsS68.drew | apply IsS68.set_0 | apply IsS68.set_1 | refine IsS68.far ?_ NB236_237.out _ | refine IsS68.far ?_ NB236_264.out _) | exact HI236.out)) hb)
       have n2_ := Aside0.mk (blk_below (g := gb264) (o := .cells #[.string (⟨#[]⟩ : ByteArray), .int .i64 0] 44 (0, 0)) (by (with_reducible repeat (first | refine blk_drewN ?_ _ | refine blk_drew ?_ | refine blk_alloc ?_ _)); exact BK264.out) hb)
       have n3_ := Aside0.mk (below_step (by repeat (first | (with_reducible first | exact HB.out | apply below_alloc | apply pw_below_drewN | apply below_drew1 | refine below_set ?_ (IsS68.ge HI236.out) | refine below_set ?_ GE237.out | refine below_set ?_ GE264.out) | exact HB.out)) hb)
       clear BK237; clear HI236; clear BK264; clear HB
       have BK237 := n0_
       have HI236 := n1_
       have BK264 := n2_
       have HB := n3_
       clear n0_ n1_ n2_ n3_
       (try clear hb)
       (try clear hb2)
       (try clear hk)
       (try clear hi)
       refine hK.out _ _ ⟨(blk_cell BK237.out 0).trans rfl, (blk_cell BK237.out 1).trans rfl, ((HB.out.cell (World.block_lt_of_cell? w _ hw260_0)).trans hw260_0), ((HB.out.cell (World.block_lt_of_cell? w _ hw260_1)).trans hw260_1)⟩ (fun hHeld => ?_)
       clear hK K
       refine norm_ (a' := ?_) ?_ ?_
       rotate_left
       · show Act.put _ (some 88) _ = _
         simp only [Act.put, List.setIfInBounds_toArray, List.set_cons_zero, List.set_cons_succ, i64_w, i32_w]; rfl
       refine pure_ (i := 7) (N := some 81) (v := ?_) (a' := ?_) #[true, true, true, true, true, true, true, true, false, false, true, false, false] rfl rfl (any_of HT_.out (by kernel_rfl)) (fun _ _ _ h => h) (Or.inl ⟨by rfl, ?_⟩) ?_ ?_
       rotate_left
       · intro w'; go_simp; with_reducible rfl
       rotate_left
       · simp only [Act.put, List.setIfInBounds_toArray, List.set_cons_zero, List.set_cons_succ, i64_w, i32_w]; rfl
       refine pure_ (i := 8) (N := some 89) (v := ?_) (a' := ?_) #[true, true, true, true, true, true, true, true, true, false, true, false, false] rfl rfl (any_of HT_.out (by kernel_rfl)) (fun _ _ _ h => h) (Or.inl ⟨by rfl, ?_⟩) ?_ ?_
       rotate_left
       · intro w'; go_simp; with_reducible rfl
       rotate_left
       · simp only [Act.put, List.setIfInBounds_toArray, List.set_cons_zero, List.set_cons_succ, i64_w, i32_w]; rfl
       refine pure_ (i := 9) (N := some 90) (v := ?_) (a' := ?_) #[true, true, true, true, true, true, true, true, true, true, true, false, false] rfl rfl (any_of HT_.out (by kernel_rfl)) (fun _ _ _ h => h) (Or.inl ⟨by rfl, ?_⟩) ?_ ?_
       rotate_left
       · intro w'; go_simp; with_reducible rfl
       rotate_left
       · simp only [Act.put, List.setIfInBounds_toArray, List.set_cons_zero, List.set_cons_succ, i64_w, i32_w]; rfl
       exact norm_ (by simp only [putAll, Act.put, List.setIfInBounds_toArray, List.set_cons_zero, List.set_cons_succ]) (hCont (gb264) _ ⟨hHeld, (by (with_reducible repeat (first | refine blk_drewN ?_ _ | refine blk_drew ?_ | refine blk_alloc ?_ _)); exact BK237.out), (by (with_reducible repeat (first | refine blk_drewN ?_ _ | refine blk_drew ?_ | refine blk_alloc ?_ _)); exact BK264.out), GW264.out, GE264.out, NB236_264.out, NB264_236.out, NB237_264.out, NB264_237.out, (by repeat (first | (with_reducible first | exact HI236.out | apply IsS68.alloc | apply IsS68.drewN | apply IsS68.drew | apply IsS68.set_0 | apply IsS68.set_1 | refine IsS68.far ?_ NB236_237.out _ | refine IsS68.far ?_ NB236_264.out _) | exact HI236.out)), (by repeat (first | (with_reducible first | exact HB.out | apply below_alloc | apply pw_below_drewN | apply below_drew1 | refine below_set ?_ (IsS68.ge HI236.out) | refine below_set ?_ GE237.out | refine below_set ?_ GE264.out) | exact HB.out))⟩)
     rintro gb264 w68 ⟨hS_, h0_, h1_, h2_, h3_, h4_, h5_, h6_, h7_, h8_, h9_⟩
     have n0_ : Aside0 (w68.heap[gb237]? = some (.cells #[.string x238000_1, .int .i64 x238001_1] 44 (0, 0))) := ⟨h0_⟩
     have n1_ : Aside0 (w68.heap[gb264]? = some (.cells #[.string (⟨#[]⟩ : ByteArray), .int .i64 0] 44 (0, 0))) := ⟨h1_⟩
     have n2_ : Aside0 (w.heap.size ≤ gb264) := ⟨h2_⟩
     have n3_ : Aside0 (w.heap.size ≤ gb264) := ⟨h3_⟩
     have n4_ : Aside0 (g236 ≠ gb264) := ⟨h4_⟩
     have n5_ : Aside0 (gb264 ≠ g236) := ⟨h5_⟩
     have n6_ : Aside0 (gb237 ≠ gb264) := ⟨h6_⟩
     have n7_ : Aside0 (gb264 ≠ gb237) := ⟨h7_⟩
     have n8_ : Aside0 (IsS68 w w68 g236 x237000_1 x237001_1) := ⟨h8_⟩
     have n9_ : Aside0 (Below w.heap.size w w68) := ⟨h9_⟩
     clear BK237; clear HI236; clear HB; clear h0_ h1_ h2_ h3_ h4_ h5_ h6_ h7_ h8_ h9_
     have BK237 := n0_
     have BK264 := n1_
     have GW264 := n2_
     have GE264 := n3_
     have NB236_264 := n4_
     have NB264_236 := n5_
     have NB237_264 := n6_
     have NB264_237 := n7_
     have HI236 := n8_
     have HB := n9_
     clear n0_ n1_ n2_ n3_ n4_ n5_ n6_ n7_ n8_ n9_
     have hHeld : w68.cell? ⟨gb237, 0, none⟩ = some (.string x238000_1) ∧ w68.cell? ⟨gb237, 1, none⟩ = some (.int .i64 x238001_1) ∧ w68.cell? (ad238.add ((x7_1).toNat * 2)) = some (.int .i64 ((rd_T46 l1 x7_1).f0)) ∧ w68.cell? ⟨(ad238.add ((x7_1).toNat * 2)).block, (ad238.add ((x7_1).toNat * 2)).off + 1, none⟩ = some (.int .i64 ((rd_T46 l1 x7_1).f1)) := hS_
     refine norm_ (a' := ?_) ?_ ?_
     rotate_left
     · simp only [putAll, Act.put, List.setIfInBounds_toArray, List.set_cons_zero, List.set_cons_succ]; rfl
     refine one_ (i := 11) (N := none) #[true, true, true, true, true, true, true, true, true, true, true, true, false] rfl rfl (one_of HT_.out (by kernel_rfl)) (by decide) (fun K hK => ?_)
     have hs69 : w68.cell? ⟨gb264, 0, none⟩ = some (.string (⟨#[]⟩ : ByteArray)) := (blk_cell BK264.out 0).trans rfl
     have hfs69 := blk_frozen BK264.out 0
     have hns69_0 := NB237_264.out
     have hms69_0 := NB264_237.out
     have hs70 : w68.cell? ⟨gb264, 1, none⟩ = some (.int .i64 0) := (blk_cell BK264.out 1).trans rfl
     have hfs70 := blk_frozen BK264.out 1
     have hns70_0 := NB237_264.out
     have hms70_0 := NB264_237.out
     refine skip_ (w1 := ?_) (by rfl) rfl ?_ ?_
     rotate_left
     · go_simp; rfl
     refine hK.out _ _ ⟨((cell_far (p := ⟨gb264, _, none⟩) NB237_264.out _).trans (((cell_far (p := ⟨gb264, _, none⟩) NB237_264.out _).trans (hHeld.1)))), ((cell_far (p := ⟨gb264, _, none⟩) NB237_264.out _).trans (((cell_far (p := ⟨gb264, _, none⟩) NB237_264.out _).trans (hHeld.2.1)))), ((cell_far (p := ⟨gb264, _, none⟩) (by first | exact Nat.ne_of_lt (Nat.lt_of_lt_of_le (by have := World.block_lt_of_cell? _ _ hw260_0; first | rwa [add_block] at this | exact this) GW264.out) | (rw [add_block]; exact Nat.ne_of_lt (Nat.lt_of_lt_of_le (by have := World.block_lt_of_cell? _ _ hw260_0; first | rwa [add_block] at this | exact this) GW264.out)) | (show (Addr.add _ _).block ≠ _; rw [add_block]; exact Nat.ne_of_lt (Nat.lt_of_lt_of_le (by have := World.block_lt_of_cell? _ _ hw260_0; first | rwa [add_block] at this | exact this) GW264.out)) | (dsimp only; exact Nat.ne_of_lt (Nat.lt_of_lt_of_le (by have := World.block_lt_of_cell? _ _ hw260_0; first | rwa [add_block] at this | exact this) GW264.out))) _).trans (((cell_far (p := ⟨gb264, _, none⟩) (by first | exact Nat.ne_of_lt (Nat.lt_of_lt_of_le (by have := World.block_lt_of_cell? _ _ hw260_0; first | rwa [add_block] at this | exact this) GW264.out) | (rw [add_block]; exact Nat.ne_of_lt (Nat.lt_of_lt_of_le (by have := World.block_lt_of_cell? _ _ hw260_0; first | rwa [add_block] at this | exact this) GW264.out)) | (show (Addr.add _ _).block ≠ _; rw [add_block]; exact Nat.ne_of_lt (Nat.lt_of_lt_of_le (by have := World.block_lt_of_cell? _ _ hw260_0; first | rwa [add_block] at this | exact this) GW264.out)) | (dsimp only; exact Nat.ne_of_lt (Nat.lt_of_lt_of_le (by have := World.block_lt_of_cell? _ _ hw260_0; first | rwa [add_block] at this | exact this) GW264.out))) _).trans (hHeld.2.2.1)))), ((cell_far (p := ⟨gb264, _, none⟩) (by first | exact Nat.ne_of_lt (Nat.lt_of_lt_of_le (by have := World.block_lt_of_cell? _ _ hw260_1; first | rwa [add_block] at this | exact this) GW264.out) | (rw [add_block]; exact Nat.ne_of_lt (Nat.lt_of_lt_of_le (by have := World.block_lt_of_cell? _ _ hw260_1; first | rwa [add_block] at this | exact this) GW264.out)) | (show (Addr.add _ _).block ≠ _; rw [add_block]; exact Nat.ne_of_lt (Nat.lt_of_lt_of_le (by have := World.block_lt_of_cell? _ _ hw260_1; first | rwa [add_block] at this | exact this) GW264.out)) | (dsimp only; exact Nat.ne_of_lt (Nat.lt_of_lt_of_le (by have := World.block_lt_of_cell? _ _ hw260_1; first | rwa [add_block] at this | exact this) GW264.out))) _).trans (((cell_far (p := ⟨gb264, _, none⟩) (by first | exact Nat.ne_of_lt (Nat.lt_of_lt_of_le (by have := World.block_lt_of_cell? _ _ hw260_1; first | rwa [add_block] at this | exact this) GW264.out) | (rw [add_block]; exact Nat.ne_of_lt (Nat.lt_of_lt_of_le (by have := World.block_lt_of_cell? _ _ hw260_1; first | rwa [add_block] at this | exact this) GW264.out)) | (show (Addr.add _ _).block ≠ _; rw [add_block]; exact Nat.ne_of_lt (Nat.lt_of_lt_of_le (by have := World.block_lt_of_cell? _ _ hw260_1; first | rwa [add_block] at this | exact this) GW264.out)) | (dsimp only; exact Nat.ne_of_lt (Nat.lt_of_lt_of_le (by have := World.block_lt_of_cell? _ _ hw260_1; first | rwa [add_block] at this | exact this) GW264.out))) _).trans (hHeld.2.2.2))))⟩ (fun hHeld => ?_)
     clear hK K
     refine pure_ (i := 12) (N := some 16) (v := ?_) (a' := ?_) #[true, true, true, true, true, true, true, true, true, true, true, true, true] rfl rfl (any_of HT_.out (by kernel_rfl)) (fun _ _ _ h => h) (Or.inl ⟨by rfl, ?_⟩) ?_ ?_
     rotate_left
     · intro w'; go_simp; with_reducible rfl
     rotate_left
     · simp only [Act.put, List.setIfInBounds_toArray, List.set_cons_zero, List.set_cons_succ, i64_w, i32_w]; rfl
     refine done_ (done_of HT_.out (by kernel_rfl)) ?_
     try go_wp2
     have n0_ : Aside0 (((w68.setCell ⟨gb264, 0, none⟩ (.string t261)).setCell ⟨gb264, 1, none⟩ (.int .i64 t262)).heap[gb237]? = some (.cells #[.string x238000_1, .int .i64 x238001_1] 44 (0, 0))) := ⟨by (with_reducible repeat (first | refine blk_drewN ?_ _ | refine blk_drew ?_ | refine blk_alloc ?_ _)); refine blk_far ?_ NB237_264.out _; (with_reducible repeat (first | refine blk_drewN ?_ _ | refine blk_drew ?_ | refine blk_alloc ?_ _)); refine blk_far ?_ NB237_264.out _; (with_reducible repeat (first | refine blk_drewN ?_ _ | refine blk_drew ?_ | refine blk_alloc ?_ _)); exact BK237.out⟩
     have n1_ : Aside0 (((w68.setCell ⟨gb264, 0, none⟩ (.string t261)).setCell ⟨gb264, 1, none⟩ (.int .i64 t262)).heap[gb264]? = some (.cells #[.string t261, .int .i64 t262] 44 (0, 0))) := ⟨by (with_reducible repeat (first | refine blk_drewN ?_ _ | refine blk_drew ?_ | refine blk_alloc ?_ _)); refine blk_put (cs := #[.string t261, .int .i64 0]) ?_ 1 _ rfl; (with_reducible repeat (first | refine blk_drewN ?_ _ | refine blk_drew ?_ | refine blk_alloc ?_ _)); refine blk_put (cs := #[.string (⟨#[]⟩ : ByteArray), .int .i64 0]) ?_ 0 _ rfl; (with_reducible repeat (first | refine blk_drewN ?_ _ | refine blk_drew ?_ | refine blk_alloc ?_ _)); exact BK264.out⟩
     have n2_ : Aside0 (IsS68 w ((w68.setCell ⟨gb264, 0, none⟩ (.string t261)).setCell ⟨gb264, 1, none⟩ (.int .i64 t262)) g236 x237000_1 x237001_1) := ⟨by repeat (first | (with_reducible first | exact HI236.out | apply IsS68.alloc | apply IsS68.drewN | apply IsS68.drew | apply IsS68.set_0 | apply IsS68.set_1 | refine IsS68.far ?_ NB236_237.out _ | refine IsS68.far ?_ NB236_264.out _) | exact HI236.out)⟩
     have n3_ : Aside0 (Below w.heap.size w ((w68.setCell ⟨gb264, 0, none⟩ (.string t261)).setCell ⟨gb264, 1, none⟩ (.int .i64 t262))) := ⟨by repeat (first | (with_reducible first | exact HB.out | apply below_alloc | apply pw_below_drewN | apply below_drew1 | refine below_set ?_ (IsS68.ge HI236.out) | refine below_set ?_ GE237.out | refine below_set ?_ GE264.out) | exact HB.out)⟩
     (try clear BK237)
     (try clear BK264)
     (try clear HI236)
     (try clear HB)
     generalize ((w68.setCell ⟨gb264, 0, none⟩ (.string t261)).setCell ⟨gb264, 1, none⟩ (.int .i64 t262)) = w71 at n0_ n1_ n2_ n3_ ⊢
     have BK237 := n0_
     have BK264 := n1_
     have HI236 := n2_
     have HB := n3_
     clear n0_ n1_ n2_ n3_
     have n0_ := Aside0.mk (blk_drew BK237.out)
     have n1_ := Aside0.mk (blk_drew BK264.out)
     have n2_ := Aside0.mk (IsS68.drew HI236.out)
     have n3_ := Aside0.mk (below_drew1 HB.out)
     clear BK237; clear BK264; clear HI236; clear HB
     have BK237 := n0_
     have BK264 := n1_
     have HI236 := n2_
     have HB := n3_
     clear n0_ n1_ n2_ n3_
     have p265 : 0 ≤ (x7_1 : Int) := of_decide_eq_true (by first | (with_reducible assumption) | assumption)
     have q265 : x7_1 < (l1.length : Int) := of_decide_eq_true (by first | (with_reducible assumption) | assumption)
     obtain ⟨ad265, e265, hx265_0, hx265_1⟩ := at_T46 HR1.out x7_1 p265 q265
     have hw265_1 := hx265_1
     have hw265_0 := hx265_0
     obtain rfl : ad238 = ad265 := (by injection e265)
     replace hx265_0 := (HB.out.cell (World.block_lt_of_cell? w _ hx265_0)).trans hx265_0
     replace hx265_1 := (HB.out.cell (World.block_lt_of_cell? w _ hx265_1)).trans hx265_1
     replace p265 := eq_true p265
     replace q265 := eq_true q265
     refine start_ (n := 12) (S := fun w' => w'.cell? ⟨gb264, 0, none⟩ = some (.string t261) ∧ w'.cell? ⟨gb264, 1, none⟩ = some (.int .i64 t262) ∧ w'.cell? (ad238.add ((x7_1).toNat * 2)) = some (.int .i64 ((rd_T46 l1 x7_1).f0)) ∧ w'.cell? ⟨(ad238.add ((x7_1).toNat * 2)).block, (ad238.add ((x7_1).toNat * 2)).off + 1, none⟩ = some (.int .i64 ((rd_T46 l1 x7_1).f1))) (ds := []) #[false, false, false, false, false, false, false, false, false, false, false, false] (by kernel_rfl) rfl rfl ⟨(blk_cell BK264.out 0).trans rfl, (blk_cell BK264.out 1).trans rfl, ((HB.out.cell (World.block_lt_of_cell? w _ hw265_0)).trans hw265_0), ((HB.out.cell (World.block_lt_of_cell? w _ hw265_1)).trans hw265_1)⟩ (fun hHeld => ?_); refine with_tabW splicelaw01_VintReads.tab21 splicelaw01_VintReads.bits21 (fun HT_ HW_ => ?_)
     generalize w71.drew = w72 at BK237 BK264 HI236 HB hx265_0 hx265_1 hHeld ⊢
     refine pure_ (i := 1) (N := some 92) (v := ?_) (a' := ?_) #[false, true, false, false, false, false, false, false, false, false, false, false] rfl rfl (any_of HT_.out (by kernel_rfl)) (fun _ _ _ h => h) (Or.inl ⟨by rfl, ?_⟩) ?_ ?_
     rotate_left
     · intro w'; go_simp; with_reducible rfl
     rotate_left
     · simp only [Act.put, List.setIfInBounds_toArray, List.set_cons_zero, List.set_cons_succ, i64_w, i32_w]; rfl
     refine pure_ (i := 2) (N := some 93) (v := ?_) (a' := ?_) #[false, true, true, false, false, false, false, false, false, false, false, false] rfl rfl (any_of HT_.out (by kernel_rfl)) (fun _ _ _ h => h) (Or.inl ⟨by rfl, ?_⟩) ?_ ?_
     rotate_left
     · intro w'; go_simp; with_reducible rfl
     rotate_left
     · simp only [Act.put, List.setIfInBounds_toArray, List.set_cons_zero, List.set_cons_succ, i64_w, i32_w]; rfl
     refine pure_ (i := 3) (N := some 94) (v := ?_) (a' := ?_) #[false, true, true, true, false, false, false, false, false, false, false, false] rfl rfl (any_of HT_.out (by kernel_rfl)) (fun _ _ _ h => h) (Or.inl ⟨by rfl, ?_⟩) ?_ ?_
     rotate_left
     · intro w'; go_simp; with_reducible rfl
     rotate_left
     · simp only [Act.put, List.setIfInBounds_toArray, List.set_cons_zero, List.set_cons_succ, i64_w, i32_w]; rfl
     refine pure_ (i := 4) (N := some 95) (v := ?_) (a' := ?_) #[false, true, true, true, true, false, false, false, false, false, false, false] rfl rfl (any_of HT_.out (by kernel_rfl)) (fun _ _ _ h => h) (Or.inl ⟨by rfl, ?_⟩) ?_ ?_
     rotate_left
     · intro w'; go_simp; with_reducible rfl
     rotate_left
     · simp only [Act.put, List.setIfInBounds_toArray, List.set_cons_zero, List.set_cons_succ, i64_w, i32_w]; rfl
     refine pure_ (i := 5) (N := some 96) (v := ?_) (a' := ?_) #[false, true, true, true, true, true, false, false, false, false, false, false] rfl rfl (any_of HT_.out (by kernel_rfl)) (fun _ _ _ h => h) (Or.inl ⟨by rfl, ?_⟩) ?_ ?_
     rotate_left
     · intro w'; go_simp; with_reducible rfl
     rotate_left
     · simp only [Act.put, List.setIfInBounds_toArray, List.set_cons_zero, List.set_cons_succ, i64_w, i32_w]; rfl
     refine pure_ (i := 8) (N := some 99) (v := ?_) (a' := ?_) #[false, true, true, true, true, true, false, false, true, false, false, false] rfl rfl (any_of HT_.out (by kernel_rfl)) (fun _ _ _ h => h) (Or.inl ⟨by rfl, ?_⟩) ?_ ?_
     rotate_left
     · intro w'; go_simp; with_reducible rfl
     rotate_left
     · simp only [Act.put, List.setIfInBounds_toArray, List.set_cons_zero, List.set_cons_succ, i64_w, i32_w]; rfl
     refine take_ (i := 0) (N := some 91) (v := ?_) (a' := ?_) #[true, true, true, true, true, true, false, false, true, false, false, false] rfl rfl (take_ofW HT_.out HW_.out (by kernel_rfl)) (fun _ _ _ h => h) (Or.inl ⟨by rfl, ?_⟩) hHeld ?_ ?_
     rotate_left
     · rintro w' ⟨s0, s1, s2, s3⟩
       go_simp; with_reducible rfl
     rotate_left
     · simp only [Act.put, List.setIfInBounds_toArray, List.set_cons_zero, List.set_cons_succ, i64_w, i32_w]; rfl
     refine take_ (i := 6) (N := some 97) (v := ?_) (a' := ?_) #[true, true, true, true, true, true, true, false, true, false, false, false] rfl rfl (take_ofW HT_.out HW_.out (by kernel_rfl)) (fun _ _ _ h => h) (Or.inl ⟨by rfl, ?_⟩) hHeld ?_ ?_
     rotate_left
     · rintro w' ⟨s0, s1, s2, s3⟩
       go_simp; with_reducible rfl
     rotate_left
     · simp only [Act.put, List.setIfInBounds_toArray, List.set_cons_zero, List.set_cons_succ, i64_w, i32_w]; rfl
     refine one_ (i := 7) (N := some 98) #[true, true, true, true, true, true, true, true, true, false, false, false] rfl rfl (one_of HT_.out (by kernel_rfl)) (by decide) (fun K hK => ?_)
     refine goes_ Try.func29 (by kernel_rfl) rfl #[.pointer (some ⟨g236, 0, none⟩), .int .i64 ((rd_T46 l1 x7_1).f1)] (by rfl) rfl rfl (by (try simp only [List.map_toArray, List.map_cons, List.map_nil]); first | done | rfl | (simp only [List.length_drop, List.length_take]; rfl)) ?_
     with_reducible refine (vint_Reader_Text.calls kj10 g236 x237000_1 x237001_1 ((rd_T46 l1 x7_1).f1) t266 t267 t268 w _ ?side1 ?side2 A64.out).mono ?_
     (case side1 => repeat (first | (with_reducible first | exact HI236.out | apply IsS68.alloc | apply IsS68.drewN | apply IsS68.drew | apply IsS68.set_0 | apply IsS68.set_1 | refine IsS68.far ?_ NB236_237.out _ | refine IsS68.far ?_ NB236_264.out _) | exact HI236.out))
     (case side2 => repeat (first | (with_reducible first | exact HB.out | apply below_alloc | apply pw_below_drewN | apply below_drew1 | refine below_set ?_ (IsS68.ge HI236.out) | refine below_set ?_ GE237.out | refine below_set ?_ GE264.out) | exact HB.out))
     rintro e w73 ⟨rfl, hi, hb, hk⟩
     refine ⟨_, rfl, ?_⟩
     have n0_ := Aside0.mk (KeepBut.blk hk (g' := gb237) (o := .cells #[.string x238000_1, .int .i64 x238001_1] 44 (0, 0)) (by (with_reducible repeat (first | refine blk_drewN ?_ _ | refine blk_drew ?_ | refine blk_alloc ?_ _)); exact BK237.out) NB237_236.out (by simp))
     have n1_ := Aside0.mk (KeepBut.blk hk (g' := gb264) (o := .cells #[.string t261, .int .i64 t262] 44 (0, 0)) (by (with_reducible repeat (first | refine blk_drewN ?_ _ | refine blk_drew ?_ | refine blk_alloc ?_ _)); exact BK264.out) NB264_236.out (by simp))
     have n2_ := Aside0.mk (hb)
     have n3_ := Aside0.mk (hi)
     clear BK237; clear BK264; clear HB; clear HI236
     have BK237 := n0_
     have BK264 := n1_
     have HB := n2_
     have HI236 := n3_
     clear n0_ n1_ n2_ n3_
     (try clear hb)
     (try clear hb2)
     (try clear hk)
     (try clear hi)
     refine hK.out _ _ ⟨(blk_cell BK264.out 0).trans rfl, (blk_cell BK264.out 1).trans rfl, ((HB.out.cell (World.block_lt_of_cell? w _ hw265_0)).trans hw265_0), ((HB.out.cell (World.block_lt_of_cell? w _ hw265_1)).trans hw265_1)⟩ (fun hHeld => ?_)
     clear hK K
     refine norm_ (a' := ?_) ?_ ?_
     rotate_left
     · show Act.put _ (some 98) _ = _
       simp only [Act.put, List.setIfInBounds_toArray, List.set_cons_zero, List.set_cons_succ, i64_w, i32_w]; rfl
     refine pure_ (i := 9) (N := some 100) (v := ?_) (a' := ?_) #[true, true, true, true, true, true, true, true, true, true, false, false] rfl rfl (any_of HT_.out (by kernel_rfl)) (fun _ _ _ h => h) (Or.inl ⟨by rfl, ?_⟩) ?_ ?_
     rotate_left
     · intro w'; go_simp; with_reducible rfl
     rotate_left
     · simp only [Act.put, List.setIfInBounds_toArray, List.set_cons_zero, List.set_cons_succ, i64_w, i32_w]; rfl
     refine one_ (i := 10) (N := none) #[true, true, true, true, true, true, true, true, true, true, true, false] rfl rfl (one_of HT_.out (by kernel_rfl)) (by decide) (fun K hK => ?_)
     have hs74 : w73.cell? ⟨gb237, 0, none⟩ = some (.string x238000_1) := (blk_cell BK237.out 0).trans rfl
     have hfs74 := blk_frozen BK237.out 0
     have hns74_1 := NB264_237.out
     have hms74_1 := NB237_264.out
     have hs75 : w73.cell? ⟨gb237, 1, none⟩ = some (.int .i64 x238001_1) := (blk_cell BK237.out 1).trans rfl
     have hfs75 := blk_frozen BK237.out 1
     have hns75_1 := NB264_237.out
     have hms75_1 := NB237_264.out
     refine skip_ (w1 := ?_) (by rfl) rfl ?_ ?_
     rotate_left
     · go_simp; rfl
     refine hK.out _ _ ⟨((cell_far (p := ⟨gb237, _, none⟩) NB264_237.out _).trans (((cell_far (p := ⟨gb237, _, none⟩) NB264_237.out _).trans (hHeld.1)))), ((cell_far (p := ⟨gb237, _, none⟩) NB264_237.out _).trans (((cell_far (p := ⟨gb237, _, none⟩) NB264_237.out _).trans (hHeld.2.1)))), ((cell_far (p := ⟨gb237, _, none⟩) (by first | exact Nat.ne_of_lt (Nat.lt_of_lt_of_le (by have := World.block_lt_of_cell? _ _ hw265_0; first | rwa [add_block] at this | exact this) GW237.out) | (rw [add_block]; exact Nat.ne_of_lt (Nat.lt_of_lt_of_le (by have := World.block_lt_of_cell? _ _ hw265_0; first | rwa [add_block] at this | exact this) GW237.out)) | (show (Addr.add _ _).block ≠ _; rw [add_block]; exact Nat.ne_of_lt (Nat.lt_of_lt_of_le (by have := World.block_lt_of_cell? _ _ hw265_0; first | rwa [add_block] at this | exact this) GW237.out)) | (dsimp only; exact Nat.ne_of_lt (Nat.lt_of_lt_of_le (by have := World.block_lt_of_cell? _ _ hw265_0; first | rwa [add_block] at this | exact this) GW237.out))) _).trans (((cell_far (p := ⟨gb237, _, none⟩) (by first | exact Nat.ne_of_lt (Nat.lt_of_lt_of_le (by have := World.block_lt_of_cell? _ _ hw265_0; first | rwa [add_block] at this | exact this) GW237.out) | (rw [add_block]; exact Nat.ne_of_lt (Nat.lt_of_lt_of_le (by have := World.block_lt_of_cell? _ _ hw265_0; first | rwa [add_block] at this | exact this) GW237.out)) | (show (Addr.add _ _).block ≠ _; rw [add_block]; exact Nat.ne_of_lt (Nat.lt_of_lt_of_le (by have := World.block_lt_of_cell? _ _ hw265_0; first | rwa [add_block] at this | exact this) GW237.out)) | (dsimp only; exact Nat.ne_of_lt (Nat.lt_of_lt_of_le (by have := World.block_lt_of_cell? _ _ hw265_0; first | rwa [add_block] at this | exact this) GW237.out))) _).trans (hHeld.2.2.1)))), ((cell_far (p := ⟨gb237, _, none⟩) (by first | exact Nat.ne_of_lt (Nat.lt_of_lt_of_le (by have := World.block_lt_of_cell? _ _ hw265_1; first | rwa [add_block] at this | exact this) GW237.out) | (rw [add_block]; exact Nat.ne_of_lt (Nat.lt_of_lt_of_le (by have := World.block_lt_of_cell? _ _ hw265_1; first | rwa [add_block] at this | exact this) GW237.out)) | (show (Addr.add _ _).block ≠ _; rw [add_block]; exact Nat.ne_of_lt (Nat.lt_of_lt_of_le (by have := World.block_lt_of_cell? _ _ hw265_1; first | rwa [add_block] at this | exact this) GW237.out)) | (dsimp only; exact Nat.ne_of_lt (Nat.lt_of_lt_of_le (by have := World.block_lt_of_cell? _ _ hw265_1; first | rwa [add_block] at this | exact this) GW237.out))) _).trans (((cell_far (p := ⟨gb237, _, none⟩) (by first | exact Nat.ne_of_lt (Nat.lt_of_lt_of_le (by have := World.block_lt_of_cell? _ _ hw265_1; first | rwa [add_block] at this | exact this) GW237.out) | (rw [add_block]; exact Nat.ne_of_lt (Nat.lt_of_lt_of_le (by have := World.block_lt_of_cell? _ _ hw265_1; first | rwa [add_block] at this | exact this) GW237.out)) | (show (Addr.add _ _).block ≠ _; rw [add_block]; exact Nat.ne_of_lt (Nat.lt_of_lt_of_le (by have := World.block_lt_of_cell? _ _ hw265_1; first | rwa [add_block] at this | exact this) GW237.out)) | (dsimp only; exact Nat.ne_of_lt (Nat.lt_of_lt_of_le (by have := World.block_lt_of_cell? _ _ hw265_1; first | rwa [add_block] at this | exact this) GW237.out))) _).trans (hHeld.2.2.2))))⟩ (fun hHeld => ?_)
     clear hK K
     refine pure_ (i := 11) (N := some 8) (v := ?_) (a' := ?_) #[true, true, true, true, true, true, true, true, true, true, true, true] rfl rfl (any_of HT_.out (by kernel_rfl)) (fun _ _ _ h => h) (Or.inl ⟨by rfl, ?_⟩) ?_ ?_
     rotate_left
     · intro w'; go_simp; with_reducible rfl
     rotate_left
     · simp only [Act.put, List.setIfInBounds_toArray, List.set_cons_zero, List.set_cons_succ, i64_w, i32_w]; rfl
     refine done_ (done_of HT_.out (by kernel_rfl)) ?_
     try go_wp2
     go_meet
     case rel => exact ⟨_, ((t266.toList == t263.toList)), (t267), (t268), (t261), (t262), (by first | rfl | (simp; done) | (simp [*]; done)), H', ⟨by have := HK1.out; have := HJ10.out; first | omega | exact Nat.le_refl _⟩, ⟨by (with_reducible repeat (first | refine blk_drewN ?_ _ | refine blk_drew ?_ | refine blk_alloc ?_ _)); refine blk_put (cs := #[.string t261, .int .i64 x238001_1]) ?_ 1 _ rfl; (with_reducible repeat (first | refine blk_drewN ?_ _ | refine blk_drew ?_ | refine blk_alloc ?_ _)); refine blk_put (cs := #[.string x238000_1, .int .i64 x238001_1]) ?_ 0 _ rfl; (with_reducible repeat (first | refine blk_drewN ?_ _ | refine blk_drew ?_ | refine blk_alloc ?_ _)); exact BK237.out⟩, ⟨by repeat (first | (with_reducible first | exact HI236.out | apply IsS68.alloc | apply IsS68.drewN | apply IsS68.drew | apply IsS68.set_0 | apply IsS68.set_1 | refine IsS68.far ?_ NB236_237.out _ | refine IsS68.far ?_ NB236_264.out _) | exact HI236.out)⟩, ⟨by repeat (first | (with_reducible first | exact HB.out | apply below_alloc | apply pw_below_drewN | apply below_drew1 | refine below_set ?_ (IsS68.ge HI236.out) | refine below_set ?_ GE237.out | refine below_set ?_ GE264.out) | exact HB.out)⟩⟩
   rw [if_neg c62] at H
   have c62b0 : (((rd_T46 l1 x7_1).f0) == 3) = false := beq_eq_false_iff_ne.mpr c62
   have c62b1 : (((rd_T46 l1 x7_1).f0) != 3) = true := bne_iff_ne.mpr c62
   by_cases c76 : ((rd_T46 l1 x7_1).f0) = 4
   rotate_left
   · rw [if_neg c76] at H
     have c76b0 : (((rd_T46 l1 x7_1).f0) == 4) = false := beq_eq_false_iff_ne.mpr c76
     have c76b1 : (((rd_T46 l1 x7_1).f0) != 4) = true := bne_iff_ne.mpr c76
     have H' := Aside0.mk H
     clear H
     go_wp2
     go_roundg kj10
     case measure => have := HK1.out; have := HJ10.out; omega
     case rel => exact ⟨(wrap64 (x7_1 + 1)), (x237000_1), (x237001_1), (x238000_1), (x238001_1), (by first | rfl | (simp; done) | (simp [*]; done)), H', ⟨by have := HK1.out; have := HJ10.out; omega⟩, ⟨by (with_reducible repeat (first | refine blk_drewN ?_ _ | refine blk_drew ?_ | refine blk_alloc ?_ _)); exact BK237.out⟩, ⟨by repeat (first | (with_reducible first | exact HI236.out | apply IsS68.alloc | apply IsS68.drewN | apply IsS68.drew | apply IsS68.set_0 | apply IsS68.set_1 | refine IsS68.far ?_ NB236_237.out _) | exact HI236.out)⟩, ⟨by repeat (first | (with_reducible first | exact HB.out | apply below_alloc | apply pw_below_drewN | apply below_drew1 | refine below_set ?_ (IsS68.ge HI236.out) | refine below_set ?_ GE237.out) | exact HB.out)⟩⟩
   rw [if_pos c76] at H
   have c76b0 : (((rd_T46 l1 x7_1).f0) == 4) = true := beq_iff_eq.mpr c76
   have c76b1 : (((rd_T46 l1 x7_1).f0) != 4) = false := bne_eq_false_iff_eq.mpr c76
   clear c76
   obtain ⟨ji77, hji77⟩ : ∃ j_ : Int, (mn ((rd_T46 l1 x7_1).f1) 300) = j_ := ⟨_, rfl⟩
   replace H : ((spliceref01_Reader_List.f kj10 x238000_1 x238001_1 (ji77)).bind fun bt270 => ((vint_Reader_List.f kj10 x237000_1 x237001_1 (ji77)).bind fun bt277 => ((spliceref01_Same.f kj10 bt277.1 bt270.2.2).bind fun t282 => (splicelaw01_VintReads.j2 kj10 l1 x7_1 t282 bt277.2.1 bt277.2.2 bt270.1 bt270.2.1)))) = some r := by first | (rw [hji77] at H; exact H) | (simp only [hji77] at H ⊢; exact H)
   have hji77_ : (if 300 < ((rd_T46 l1 x7_1).f1) then 300 else ((rd_T46 l1 x7_1).f1)) = ji77 := hji77
   replace H := Option.bind_eq_some_iff.mp H
   obtain ⟨⟨t270, t271, t272⟩, A780, H⟩ := H
   replace H : ((vint_Reader_List.f kj10 x237000_1 x237001_1 (ji77)).bind fun bt277 => ((spliceref01_Same.f kj10 bt277.1 t272).bind fun t282 => (splicelaw01_VintReads.j2 kj10 l1 x7_1 t282 bt277.2.1 bt277.2.2 t270 t271))) = some r := H
   have A78 := Aside0.mk A780
   clear A780
   replace H := Option.bind_eq_some_iff.mp H
   obtain ⟨⟨t277, t280, t281⟩, A790, H⟩ := H
   replace H : ((spliceref01_Same.f kj10 t277 t272).bind fun t282 => (splicelaw01_VintReads.j2 kj10 l1 x7_1 t282 t280 t281 t270 t271)) = some r := H
   have A79 := Aside0.mk A790
   clear A790
   replace H := Option.bind_eq_some_iff.mp H
   obtain ⟨t282, A800, H⟩ := H
   replace H : (splicelaw01_VintReads.j2 kj10 l1 x7_1 t282 t280 t281 t270 t271) = some r := H
   have A80 := Aside0.mk A800
   clear A800
   have H' := Aside0.mk H
   clear H
   try go_wp2
   have n0_ := Aside0.mk (blk_drew BK237.out)
   have n1_ := Aside0.mk (IsS68.drew HI236.out)
   have n2_ := Aside0.mk (below_drew1 HB.out)
   clear BK237; clear HI236; clear HB
   have BK237 := n0_
   have HI236 := n1_
   have HB := n2_
   clear n0_ n1_ n2_
   have p269 : 0 ≤ (x7_1 : Int) := of_decide_eq_true (by first | (with_reducible assumption) | assumption)
   have q269 : x7_1 < (l1.length : Int) := of_decide_eq_true (by first | (with_reducible assumption) | assumption)
   obtain ⟨ad269, e269, hx269_0, hx269_1⟩ := at_T46 HR1.out x7_1 p269 q269
   have hw269_1 := hx269_1
   have hw269_0 := hx269_0
   obtain rfl : ad238 = ad269 := (by injection e269)
   replace hx269_0 := (HB.out.cell (World.block_lt_of_cell? w _ hx269_0)).trans hx269_0
   replace hx269_1 := (HB.out.cell (World.block_lt_of_cell? w _ hx269_1)).trans hx269_1
   replace p269 := eq_true p269
   replace q269 := eq_true q269
   refine start_ (n := 14) (S := fun w' => w'.cell? ⟨gb237, 0, none⟩ = some (.string x238000_1) ∧ w'.cell? ⟨gb237, 1, none⟩ = some (.int .i64 x238001_1) ∧ w'.cell? (ad238.add ((x7_1).toNat * 2)) = some (.int .i64 ((rd_T46 l1 x7_1).f0)) ∧ w'.cell? ⟨(ad238.add ((x7_1).toNat * 2)).block, (ad238.add ((x7_1).toNat * 2)).off + 1, none⟩ = some (.int .i64 ((rd_T46 l1 x7_1).f1))) (ds := []) #[false, false, false, false, false, false, false, false, false, false, false, false, false, false] (by kernel_rfl) rfl rfl ⟨(blk_cell BK237.out 0).trans rfl, (blk_cell BK237.out 1).trans rfl, ((HB.out.cell (World.block_lt_of_cell? w _ hw269_0)).trans hw269_0), ((HB.out.cell (World.block_lt_of_cell? w _ hw269_1)).trans hw269_1)⟩ (fun hHeld => ?_); refine with_tabW splicelaw01_VintReads.tab23 splicelaw01_VintReads.bits23 (fun HT_ HW_ => ?_)
   generalize wc.drew = w81 at BK237 HI236 HB hx269_0 hx269_1 hHeld ⊢
   refine pure_ (i := 1) (N := some 105) (v := ?_) (a' := ?_) #[false, true, false, false, false, false, false, false, false, false, false, false, false, false] rfl rfl (any_of HT_.out (by kernel_rfl)) (fun _ _ _ h => h) (Or.inl ⟨by rfl, ?_⟩) ?_ ?_
   rotate_left
   · intro w'; go_simp; with_reducible rfl
   rotate_left
   · simp only [Act.put, List.setIfInBounds_toArray, List.set_cons_zero, List.set_cons_succ, i64_w, i32_w]; rfl
   refine pure_ (i := 2) (N := some 106) (v := ?_) (a' := ?_) #[false, true, true, false, false, false, false, false, false, false, false, false, false, false] rfl rfl (any_of HT_.out (by kernel_rfl)) (fun _ _ _ h => h) (Or.inl ⟨by rfl, ?_⟩) ?_ ?_
   rotate_left
   · intro w'; go_simp; with_reducible rfl
   rotate_left
   · simp only [Act.put, List.setIfInBounds_toArray, List.set_cons_zero, List.set_cons_succ, i64_w, i32_w]; rfl
   refine pure_ (i := 3) (N := some 107) (v := ?_) (a' := ?_) #[false, true, true, true, false, false, false, false, false, false, false, false, false, false] rfl rfl (any_of HT_.out (by kernel_rfl)) (fun _ _ _ h => h) (Or.inl ⟨by rfl, ?_⟩) ?_ ?_
   rotate_left
   · intro w'; go_simp; with_reducible rfl
   rotate_left
   · simp only [Act.put, List.setIfInBounds_toArray, List.set_cons_zero, List.set_cons_succ, i64_w, i32_w]; rfl
   refine pure_ (i := 4) (N := some 108) (v := ?_) (a' := ?_) #[false, true, true, true, true, false, false, false, false, false, false, false, false, false] rfl rfl (any_of HT_.out (by kernel_rfl)) (fun _ _ _ h => h) (Or.inl ⟨by rfl, ?_⟩) ?_ ?_
   rotate_left
   · intro w'; go_simp; with_reducible rfl
   rotate_left
   · simp only [Act.put, List.setIfInBounds_toArray, List.set_cons_zero, List.set_cons_succ, i64_w, i32_w]; rfl
   refine take_ (i := 0) (N := some 104) (v := ?_) (a' := ?_) #[true, true, true, true, true, false, false, false, false, false, false, false, false, false] rfl rfl (take_ofW HT_.out HW_.out (by kernel_rfl)) (fun _ _ _ h => h) (Or.inl ⟨by rfl, ?_⟩) hHeld ?_ ?_
   rotate_left
   · rintro w' ⟨s0, s1, s2, s3⟩
     go_simp; with_reducible rfl
   rotate_left
   · simp only [Act.put, List.setIfInBounds_toArray, List.set_cons_zero, List.set_cons_succ, i64_w, i32_w]; rfl
   refine take_ (i := 5) (N := some 109) (v := ?_) (a' := ?_) #[true, true, true, true, true, true, false, false, false, false, false, false, false, false] rfl rfl (take_ofW HT_.out HW_.out (by kernel_rfl)) (fun _ _ _ h => h) (Or.inl ⟨by rfl, ?_⟩) hHeld ?_ ?_
   rotate_left
   · rintro w' ⟨s0, s1, s2, s3⟩
     go_simp; with_reducible rfl
   rotate_left
   · simp only [Act.put, List.setIfInBounds_toArray, List.set_cons_zero, List.set_cons_succ, i64_w, i32_w]; rfl
   refine pure_ (i := 6) (N := some 110) (v := ?_) (a' := ?_) #[true, true, true, true, true, true, true, false, false, false, false, false, false, false] rfl rfl (any_of HT_.out (by kernel_rfl)) (fun _ _ _ h => h) (Or.inl ⟨by rfl, ?_⟩) ?_ ?_
   rotate_left
   · intro w'; go_simp; with_reducible rfl
   rotate_left
   · simp only [Act.put, List.setIfInBounds_toArray, List.set_cons_zero, List.set_cons_succ, i64_w, i32_w]; rfl
   refine join_ (σ := Value × Nat) 2 #[true, true, true, true, true, true, true, true, true, true, true, true, false, false] (fun s_ => [(111, .tuple #[.agg #[.string t270, .int .i64 t271], s_.1]), (17, .pointer (some ⟨s_.2, 0, none⟩)), (103, .tuple #[.agg #[.string t270, .int .i64 t271], s_.1]), (112, .agg #[.string t270, .int .i64 t271]), (113, s_.1)]) (fun s_ w' => (w'.cell? ⟨gb237, 0, none⟩ = some (.string x238000_1) ∧ w'.cell? ⟨gb237, 1, none⟩ = some (.int .i64 x238001_1) ∧ w'.cell? (ad238.add ((x7_1).toNat * 2)) = some (.int .i64 ((rd_T46 l1 x7_1).f0)) ∧ w'.cell? ⟨(ad238.add ((x7_1).toNat * 2)).block, (ad238.add ((x7_1).toNat * 2)).off + 1, none⟩ = some (.int .i64 ((rd_T46 l1 x7_1).f1))) ∧ (Kd.R (Kd.int .i64) 3 w' w.heap.size (fun _ => True) s_.1 t272) ∧ (w'.heap[gb237]? = some (.cells #[.string x238000_1, .int .i64 x238001_1] 44 (0, 0))) ∧ (w'.heap[s_.2]? = some (.cells #[.string (⟨#[]⟩ : ByteArray), .int .i64 0] 44 (0, 0))) ∧ (w.heap.size ≤ s_.2) ∧ (w.heap.size ≤ s_.2) ∧ (g236 ≠ s_.2) ∧ (s_.2 ≠ g236) ∧ (gb237 ≠ s_.2) ∧ (s_.2 ≠ gb237) ∧ (IsS68 w w' g236 x237000_1 x237001_1) ∧ (Below w.heap.size w w')) ?_ ?_
   rotate_left
   · intro hCont
     refine two_ (i := 7) (j := 11) (Ni := some 111) (Nj := some 17) #[true, true, true, true, true, true, true, true, false, false, false, false, false, false] #[true, true, true, true, true, true, true, false, false, false, false, true, false, false] rfl rfl rfl rfl (two_of HT_.out (by kernel_rfl)) (by decide) (by decide) (fun K hK => ?_) (fun K hK => ?_)
     · skip
       refine goes_ Try.func38 (by kernel_rfl) rfl #[.agg #[.string x238000_1, .int .i64 x238001_1], .int .i64 ji77] (by rfl) rfl rfl (by (try simp only [List.map_toArray, List.map_cons, List.map_nil]); first | done | (simp only [hji77]; rfl) | rfl | (simp only [List.length_drop, List.length_take]; rfl)) ?_
       with_reducible refine (spliceref01_Reader_List.calls kj10 x238000_1 x238001_1 ji77 t270 t271 t272 _ A78.out).mono ?_
       rintro e w82 ⟨v273, rfl, ho0, hb⟩
       refine ⟨_, rfl, ?_⟩
       have n0_ := Aside0.mk (Kd.R_lower ho0 (below_size (by repeat (first | (with_reducible first | exact HB.out | apply below_alloc | apply pw_below_drewN | apply below_drew1 | refine below_set ?_ (IsS68.ge HI236.out) | refine below_set ?_ GE237.out) | exact HB.out))))
       have n1_ := Aside0.mk (blk_below (g := gb237) (o := .cells #[.string x238000_1, .int .i64 x238001_1] 44 (0, 0)) (by (with_reducible repeat (first | refine blk_drewN ?_ _ | refine blk_drew ?_ | refine blk_alloc ?_ _)); exact BK237.out) hb)
       have n2_ := Aside0.mk (IsS68.below (by repeat (first | (with_reducible first | exact HI236.out | apply IsS68.alloc | apply IsS68.drewN | apply IsS68.drew | apply IsS68.set_0 | apply IsS68.set_1 | refine IsS68.far ?_ NB236_237.out _) | exact HI236.out)) hb)
       have n3_ := Aside0.mk (below_step (by repeat (first | (with_reducible first | exact HB.out | apply below_alloc | apply pw_below_drewN | apply below_drew1 | refine below_set ?_ (IsS68.ge HI236.out) | refine below_set ?_ GE237.out) | exact HB.out)) hb)
       clear BK237; clear HI236; clear HB
       have HO274 := n0_
       have BK237 := n1_
       have HI236 := n2_
       have HB := n3_
       clear n0_ n1_ n2_ n3_
       (try clear hb)
       (try clear hb2)
       (try clear hk)
       (try clear hi)
       (try clear ho0)
       refine hK.out _ _ ⟨(blk_cell BK237.out 0).trans rfl, (blk_cell BK237.out 1).trans rfl, ((HB.out.cell (World.block_lt_of_cell? w _ hw269_0)).trans hw269_0), ((HB.out.cell (World.block_lt_of_cell? w _ hw269_1)).trans hw269_1)⟩ (fun hHeld => ?_)
       clear hK K
       refine norm_ (a' := ?_) ?_ ?_
       rotate_left
       · show Act.put _ (some 111) _ = _
         simp only [Act.put, List.setIfInBounds_toArray, List.set_cons_zero, List.set_cons_succ, i64_w, i32_w]; rfl
       refine pure_ (i := 8) (N := some 103) (v := ?_) (a' := ?_) #[true, true, true, true, true, true, true, true, true, false, false, false, false, false] rfl rfl (any_of HT_.out (by kernel_rfl)) (fun _ _ _ h => h) (Or.inl ⟨by rfl, ?_⟩) ?_ ?_
       rotate_left
       · intro w'; go_simp; with_reducible rfl
       rotate_left
       · simp only [Act.put, List.setIfInBounds_toArray, List.set_cons_zero, List.set_cons_succ, i64_w, i32_w]; rfl
       refine pure_ (i := 9) (N := some 112) (v := ?_) (a' := ?_) #[true, true, true, true, true, true, true, true, true, true, false, false, false, false] rfl rfl (any_of HT_.out (by kernel_rfl)) (fun _ _ _ h => h) (Or.inl ⟨by rfl, ?_⟩) ?_ ?_
       rotate_left
       · intro w'; go_simp; with_reducible rfl
       rotate_left
       · simp only [Act.put, List.setIfInBounds_toArray, List.set_cons_zero, List.set_cons_succ, i64_w, i32_w]; rfl
       refine pure_ (i := 10) (N := some 113) (v := ?_) (a' := ?_) #[true, true, true, true, true, true, true, true, true, true, true, false, false, false] rfl rfl (any_of HT_.out (by kernel_rfl)) (fun _ _ _ h => h) (Or.inl ⟨by rfl, ?_⟩) ?_ ?_
       rotate_left
       · intro w'; go_simp; with_reducible rfl
       rotate_left
       · simp only [Act.put, List.setIfInBounds_toArray, List.set_cons_zero, List.set_cons_succ, i64_w, i32_w]; rfl
       refine one_ (i := 11) (N := some 17) #[true, true, true, true, true, true, true, true, true, true, true, true, false, false] rfl rfl (one_of HT_.out (by kernel_rfl)) (by decide) (fun K hK => ?_)
       refine box_step ?hg (N := 17) ?hd (cs := #[.string (⟨#[]⟩ : ByteArray), .int .i64 0]) (t := 44) ?hr ?_; (case hd => rfl); (case hg => rfl); (case hr => first | (go_simp; done) | (go_simp; rfl))
       intro gb275 hg w83 hbox hb
       have n0_ := Aside0.mk (Kd.R_below (by (with_reducible repeat (first | apply Kd.R_alloc | apply Kd.R_drewN | apply Kd.R_drew)); exact HO274.out) hb)
       have n1_ := Aside0.mk (blk_below (g := gb237) (o := .cells #[.string x238000_1, .int .i64 x238001_1] 44 (0, 0)) (by (with_reducible repeat (first | refine blk_drewN ?_ _ | refine blk_drew ?_ | refine blk_alloc ?_ _)); exact BK237.out) hb)
       have n2_ := Aside0.mk (IsS68.below (by repeat (first | (with_reducible first | exact HI236.out | apply IsS68.alloc | apply IsS68.drewN | apply IsS68.drew | apply IsS68.set_0 | apply IsS68.set_1 | refine IsS68.far ?_ NB236_237.out _) | exact HI236.out)) hb)
       have n3_ := Aside0.mk (below_step (by repeat (first | (with_reducible first | exact HB.out | apply below_alloc | apply pw_below_drewN | apply below_drew1 | refine below_set ?_ (IsS68.ge HI236.out) | refine below_set ?_ GE237.out) | exact HB.out)) hb)
       have n4_ := Aside0.mk (hbox)
       have n5_ := Aside0.mk ((by rw [hg]; exact (below_size (by repeat (first | (with_reducible first | exact HB.out | apply below_alloc | apply pw_below_drewN | apply below_drew1 | refine below_set ?_ (IsS68.ge HI236.out) | refine below_set ?_ GE237.out) | exact HB.out))) : w.heap.size ≤ gb275))
       have n6_ := Aside0.mk ((by rw [hg]; exact (below_size (by repeat (first | (with_reducible first | exact HB.out | apply below_alloc | apply pw_below_drewN | apply below_drew1 | refine below_set ?_ (IsS68.ge HI236.out) | refine below_set ?_ GE237.out) | exact HB.out))) : w.heap.size ≤ gb275))
       have n7_ := Aside0.mk ((by rw [hg]; exact Nat.ne_of_lt (blk_lt (g := gb237) (o := .cells #[.string x238000_1, .int .i64 x238001_1] 44 (0, 0)) (by (with_reducible repeat (first | refine blk_drewN ?_ _ | refine blk_drew ?_ | refine blk_alloc ?_ _)); exact BK237.out)) : gb237 ≠ gb275))
       have n8_ := Aside0.mk ((by rw [hg]; exact Nat.ne_of_gt (blk_lt (g := gb237) (o := .cells #[.string x238000_1, .int .i64 x238001_1] 44 (0, 0)) (by (with_reducible repeat (first | refine blk_drewN ?_ _ | refine blk_drew ?_ | refine blk_alloc ?_ _)); exact BK237.out)) : gb275 ≠ gb237))
       have n9_ := Aside0.mk ((by rw [hg]; exact Nat.ne_of_lt (IsS68.lt (show IsS68 w _ g236 x237000_1 x237001_1 from by repeat (first | (with_reducible first | exact HI236.out | apply IsS68.alloc | apply IsS68.drewN | apply IsS68.drew | apply IsS68.set_0 | apply IsS68.set_1 | refine IsS68.far ?_ NB236_237.out _) | exact HI236.out))) : g236 ≠ gb275))
       have n10_ := Aside0.mk ((by rw [hg]; exact Nat.ne_of_gt (IsS68.lt (show IsS68 w _ g236 x237000_1 x237001_1 from by repeat (first | (with_reducible first | exact HI236.out | apply IsS68.alloc | apply IsS68.drewN | apply IsS68.drew | apply IsS68.set_0 | apply IsS68.set_1 | refine IsS68.far ?_ NB236_237.out _) | exact HI236.out))) : gb275 ≠ g236))
       clear HO274; clear BK237; clear HI236; clear HB
       have HO274 := n0_
       have BK237 := n1_
       have HI236 := n2_
       have HB := n3_
       have BK275 := n4_
       have GW275 := n5_
       have GE275 := n6_
       have NB237_275 := n7_
       have NB275_237 := n8_
       have NB236_275 := n9_
       have NB275_236 := n10_
       clear n0_ n1_ n2_ n3_ n4_ n5_ n6_ n7_ n8_ n9_ n10_; clear hb hbox hg
       refine hK.out _ _ ⟨(blk_cell BK237.out 0).trans rfl, (blk_cell BK237.out 1).trans rfl, ((HB.out.cell (World.block_lt_of_cell? w _ hw269_0)).trans hw269_0), ((HB.out.cell (World.block_lt_of_cell? w _ hw269_1)).trans hw269_1)⟩ (fun hHeld => ?_)
       clear hK K
       refine norm_ (a' := ?_) ?_ ?_
       rotate_left
       · show Act.put _ (some 17) _ = _
         simp only [Act.put, List.setIfInBounds_toArray, List.set_cons_zero, List.set_cons_succ, i64_w, i32_w]; rfl
       exact norm_ (by simp only [putAll, Act.put, List.setIfInBounds_toArray, List.set_cons_zero, List.set_cons_succ]) (hCont (v273, gb275) _ ⟨hHeld, (by (with_reducible repeat (first | apply Kd.R_alloc | apply Kd.R_drewN | apply Kd.R_drew)); exact HO274.out), (by (with_reducible repeat (first | refine blk_drewN ?_ _ | refine blk_drew ?_ | refine blk_alloc ?_ _)); exact BK237.out), (by (with_reducible repeat (first | refine blk_drewN ?_ _ | refine blk_drew ?_ | refine blk_alloc ?_ _)); exact BK275.out), GW275.out, GE275.out, NB236_275.out, NB275_236.out, NB237_275.out, NB275_237.out, (by repeat (first | (with_reducible first | exact HI236.out | apply IsS68.alloc | apply IsS68.drewN | apply IsS68.drew | apply IsS68.set_0 | apply IsS68.set_1 | refine IsS68.far ?_ NB236_237.out _ | refine IsS68.far ?_ NB236_275.out _) | exact HI236.out)), (by repeat (first | (with_reducible first | exact HB.out | apply below_alloc | apply pw_below_drewN | apply below_drew1 | refine below_set ?_ (IsS68.ge HI236.out) | refine below_set ?_ GE237.out | refine below_set ?_ GE275.out) | exact HB.out))⟩)
     skip
     refine box_step ?hg (N := 17) ?hd (cs := #[.string (⟨#[]⟩ : ByteArray), .int .i64 0]) (t := 44) ?hr ?_; (case hd => rfl); (case hg => rfl); (case hr => first | (go_simp; done) | (go_simp; rfl))
     intro gb275 hg w82 hbox hb
     have n0_ := Aside0.mk (blk_below (g := gb237) (o := .cells #[.string x238000_1, .int .i64 x238001_1] 44 (0, 0)) (by (with_reducible repeat (first | refine blk_drewN ?_ _ | refine blk_drew ?_ | refine blk_alloc ?_ _)); exact BK237.out) hb)
     have n1_ := Aside0.mk (IsS68.below (by repeat (first | (with_reducible first | exact HI236.out | apply IsS68.alloc | apply IsS68.drewN | apply IsS68.drew | apply IsS68.set_0 | apply IsS68.set_1 | refine IsS68.far ?_ NB236_237.out _) | exact HI236.out)) hb)
     have n2_ := Aside0.mk (below_step (by repeat (first | (with_reducible first | exact HB.out | apply below_alloc | apply pw_below_drewN | apply below_drew1 | refine below_set ?_ (IsS68.ge HI236.out) | refine below_set ?_ GE237.out) | exact HB.out)) hb)
     have n3_ := Aside0.mk (hbox)
     have n4_ := Aside0.mk ((by rw [hg]; exact (below_size (by repeat (first | (with_reducible first | exact HB.out | apply below_alloc | apply pw_below_drewN | apply below_drew1 | refine below_set ?_ (IsS68.ge HI236.out) | refine below_set ?_ GE237.out) | exact HB.out))) : w.heap.size ≤ gb275))
     have n5_ := Aside0.mk ((by rw [hg]; exact (below_size (by repeat (first | (with_reducible first | exact HB.out | apply below_alloc | apply pw_below_drewN | apply below_drew1 | refine below_set ?_ (IsS68.ge HI236.out) | refine below_set ?_ GE237.out) | exact HB.out))) : w.heap.size ≤ gb275))
     have n6_ := Aside0.mk ((by rw [hg]; exact Nat.ne_of_lt (blk_lt (g := gb237) (o := .cells #[.string x238000_1, .int .i64 x238001_1] 44 (0, 0)) (by (with_reducible repeat (first | refine blk_drewN ?_ _ | refine blk_drew ?_ | refine blk_alloc ?_ _)); exact BK237.out)) : gb237 ≠ gb275))
     have n7_ := Aside0.mk ((by rw [hg]; exact Nat.ne_of_gt (blk_lt (g := gb237) (o := .cells #[.string x238000_1, .int .i64 x238001_1] 44 (0, 0)) (by (with_reducible repeat (first | refine blk_drewN ?_ _ | refine blk_drew ?_ | refine blk_alloc ?_ _)); exact BK237.out)) : gb275 ≠ gb237))
     have n8_ := Aside0.mk ((by rw [hg]; exact Nat.ne_of_lt (IsS68.lt (show IsS68 w _ g236 x237000_1 x237001_1 from by repeat (first | (with_reducible first | exact HI236.out | apply IsS68.alloc | apply IsS68.drewN | apply IsS68.drew | apply IsS68.set_0 | apply IsS68.set_1 | refine IsS68.far ?_ NB236_237.out _) | exact HI236.out))) : g236 ≠ gb275))
     have n9_ := Aside0.mk ((by rw [hg]; exact Nat.ne_of_gt (IsS68.lt (show IsS68 w _ g236 x237000_1 x237001_1 from by repeat (first | (with_reducible first | exact HI236.out | apply IsS68.alloc | apply IsS68.drewN | apply IsS68.drew | apply IsS68.set_0 | apply IsS68.set_1 | refine IsS68.far ?_ NB236_237.out _) | exact HI236.out))) : gb275 ≠ g236))
     clear BK237; clear HI236; clear HB
     have BK237 := n0_
     have HI236 := n1_
     have HB := n2_
     have BK275 := n3_
     have GW275 := n4_
     have GE275 := n5_
     have NB237_275 := n6_
     have NB275_237 := n7_
     have NB236_275 := n8_
     have NB275_236 := n9_
     clear n0_ n1_ n2_ n3_ n4_ n5_ n6_ n7_ n8_ n9_; clear hb hbox hg
     refine hK.out _ _ ⟨(blk_cell BK237.out 0).trans rfl, (blk_cell BK237.out 1).trans rfl, ((HB.out.cell (World.block_lt_of_cell? w _ hw269_0)).trans hw269_0), ((HB.out.cell (World.block_lt_of_cell? w _ hw269_1)).trans hw269_1)⟩ (fun hHeld => ?_)
     clear hK K
     refine norm_ (a' := ?_) ?_ ?_
     rotate_left
     · show Act.put _ (some 17) _ = _
       simp only [Act.put, List.setIfInBounds_toArray, List.set_cons_zero, List.set_cons_succ, i64_w, i32_w]; rfl
     refine one_ (i := 7) (N := some 111) #[true, true, true, true, true, true, true, true, false, false, false, true, false, false] rfl rfl (one_of HT_.out (by kernel_rfl)) (by decide) (fun K hK => ?_)
     refine goes_ Try.func38 (by kernel_rfl) rfl #[.agg #[.string x238000_1, .int .i64 x238001_1], .int .i64 ji77] (by rfl) rfl rfl (by (try simp only [List.map_toArray, List.map_cons, List.map_nil]); first | done | (simp only [hji77]; rfl) | rfl | (simp only [List.length_drop, List.length_take]; rfl)) ?_
     with_reducible refine (spliceref01_Reader_List.calls kj10 x238000_1 x238001_1 ji77 t270 t271 t272 _ A78.out).mono ?_
     rintro e w83 ⟨v273, rfl, ho0, hb⟩
     refine ⟨_, rfl, ?_⟩
     have n0_ := Aside0.mk (Kd.R_lower ho0 (below_size (by repeat (first | (with_reducible first | exact HB.out | apply below_alloc | apply pw_below_drewN | apply below_drew1 | refine below_set ?_ (IsS68.ge HI236.out) | refine below_set ?_ GE237.out | refine below_set ?_ GE275.out) | exact HB.out))))
     have n1_ := Aside0.mk (blk_below (g := gb237) (o := .cells #[.string x238000_1, .int .i64 x238001_1] 44 (0, 0)) (by (with_reducible repeat (first | refine blk_drewN ?_ _ | refine blk_drew ?_ | refine blk_alloc ?_ _)); exact BK237.out) hb)
     have n2_ := Aside0.mk (IsS68.below (by repeat (first | (with_reducible first | exact HI236.out | apply IsS68.alloc | apply IsS68.drewN | apply IsS68.drew | apply IsS68.set_0 | apply IsS68.set_1 | refine IsS68.far ?_ NB236_237.out _ | refine IsS68.far ?_ NB236_275.out _) | exact HI236.out)) hb)
     have n3_ := Aside0.mk (blk_below (g := gb275) (o := .cells #[.string (⟨#[]⟩ : ByteArray), .int .i64 0] 44 (0, 0)) (by (with_reducible repeat (first | refine blk_drewN ?_ _ | refine blk_drew ?_ | refine blk_alloc ?_ _)); exact BK275.out) hb)
     have n4_ := Aside0.mk (below_step (by repeat (first | (with_reducible first | exact HB.out | apply below_alloc | apply pw_below_drewN | apply below_drew1 | refine below_set ?_ (IsS68.ge HI236.out) | refine below_set ?_ GE237.out | refine below_set ?_ GE275.out) | exact HB.out)) hb)
     clear BK237; clear HI236; clear BK275; clear HB
     have HO274 := n0_
     have BK237 := n1_
     have HI236 := n2_
     have BK275 := n3_
     have HB := n4_
     clear n0_ n1_ n2_ n3_ n4_
     (try clear hb)
     (try clear hb2)
     (try clear hk)
     (try clear hi)
     (try clear ho0)
     refine hK.out _ _ ⟨(blk_cell BK237.out 0).trans rfl, (blk_cell BK237.out 1).trans rfl, ((HB.out.cell (World.block_lt_of_cell? w _ hw269_0)).trans hw269_0), ((HB.out.cell (World.block_lt_of_cell? w _ hw269_1)).trans hw269_1)⟩ (fun hHeld => ?_)
     clear hK K
     refine norm_ (a' := ?_) ?_ ?_
     rotate_left
     · show Act.put _ (some 111) _ = _
       simp only [Act.put, List.setIfInBounds_toArray, List.set_cons_zero, List.set_cons_succ, i64_w, i32_w]; rfl
     refine pure_ (i := 8) (N := some 103) (v := ?_) (a' := ?_) #[true, true, true, true, true, true, true, true, true, false, false, true, false, false] rfl rfl (any_of HT_.out (by kernel_rfl)) (fun _ _ _ h => h) (Or.inl ⟨by rfl, ?_⟩) ?_ ?_
     rotate_left
     · intro w'; go_simp; with_reducible rfl
     rotate_left
     · simp only [Act.put, List.setIfInBounds_toArray, List.set_cons_zero, List.set_cons_succ, i64_w, i32_w]; rfl
     refine pure_ (i := 9) (N := some 112) (v := ?_) (a' := ?_) #[true, true, true, true, true, true, true, true, true, true, false, true, false, false] rfl rfl (any_of HT_.out (by kernel_rfl)) (fun _ _ _ h => h) (Or.inl ⟨by rfl, ?_⟩) ?_ ?_
     rotate_left
     · intro w'; go_simp; with_reducible rfl
     rotate_left
     · simp only [Act.put, List.setIfInBounds_toArray, List.set_cons_zero, List.set_cons_succ, i64_w, i32_w]; rfl
     refine pure_ (i := 10) (N := some 113) (v := ?_) (a' := ?_) #[true, true, true, true, true, true, true, true, true, true, true, true, false, false] rfl rfl (any_of HT_.out (by kernel_rfl)) (fun _ _ _ h => h) (Or.inl ⟨by rfl, ?_⟩) ?_ ?_
     rotate_left
     · intro w'; go_simp; with_reducible rfl
     rotate_left
     · simp only [Act.put, List.setIfInBounds_toArray, List.set_cons_zero, List.set_cons_succ, i64_w, i32_w]; rfl
     exact norm_ (by simp only [putAll, Act.put, List.setIfInBounds_toArray, List.set_cons_zero, List.set_cons_succ]) (hCont (v273, gb275) _ ⟨hHeld, (by (with_reducible repeat (first | apply Kd.R_alloc | apply Kd.R_drewN | apply Kd.R_drew)); exact HO274.out), (by (with_reducible repeat (first | refine blk_drewN ?_ _ | refine blk_drew ?_ | refine blk_alloc ?_ _)); exact BK237.out), (by (with_reducible repeat (first | refine blk_drewN ?_ _ | refine blk_drew ?_ | refine blk_alloc ?_ _)); exact BK275.out), GW275.out, GE275.out, NB236_275.out, NB275_236.out, NB237_275.out, NB275_237.out, (by repeat (first | (with_reducible first | exact HI236.out | apply IsS68.alloc | apply IsS68.drewN | apply IsS68.drew | apply IsS68.set_0 | apply IsS68.set_1 | refine IsS68.far ?_ NB236_237.out _ | refine IsS68.far ?_ NB236_275.out _) | exact HI236.out)), (by repeat (first | (with_reducible first | exact HB.out | apply below_alloc | apply pw_below_drewN | apply below_drew1 | refine below_set ?_ (IsS68.ge HI236.out) | refine below_set ?_ GE237.out | refine below_set ?_ GE275.out) | exact HB.out))⟩)
   rintro ⟨v273, gb275⟩ w84 ⟨hS_, h0_, h1_, h2_, h3_, h4_, h5_, h6_, h7_, h8_, h9_, h10_⟩
   have n0_ : Aside0 (Kd.R (Kd.int .i64) 3 w84 w.heap.size (fun _ => True) v273 t272) := ⟨h0_⟩
   have n1_ : Aside0 (w84.heap[gb237]? = some (.cells #[.string x238000_1, .int .i64 x238001_1] 44 (0, 0))) := ⟨h1_⟩
   have n2_ : Aside0 (w84.heap[gb275]? = some (.cells #[.string (⟨#[]⟩ : ByteArray), .int .i64 0] 44 (0, 0))) := ⟨h2_⟩
   have n3_ : Aside0 (w.heap.size ≤ gb275) := ⟨h3_⟩
   have n4_ : Aside0 (w.heap.size ≤ gb275) := ⟨h4_⟩
   have n5_ : Aside0 (g236 ≠ gb275) := ⟨h5_⟩
   have n6_ : Aside0 (gb275 ≠ g236) := ⟨h6_⟩
   have n7_ : Aside0 (gb237 ≠ gb275) := ⟨h7_⟩
   have n8_ : Aside0 (gb275 ≠ gb237) := ⟨h8_⟩
   have n9_ : Aside0 (IsS68 w w84 g236 x237000_1 x237001_1) := ⟨h9_⟩
   have n10_ : Aside0 (Below w.heap.size w w84) := ⟨h10_⟩
   clear BK237; clear HI236; clear HB; clear h0_ h1_ h2_ h3_ h4_ h5_ h6_ h7_ h8_ h9_ h10_
   have HO274 := n0_
   have BK237 := n1_
   have BK275 := n2_
   have GW275 := n3_
   have GE275 := n4_
   have NB236_275 := n5_
   have NB275_236 := n6_
   have NB237_275 := n7_
   have NB275_237 := n8_
   have HI236 := n9_
   have HB := n10_
   clear n0_ n1_ n2_ n3_ n4_ n5_ n6_ n7_ n8_ n9_ n10_
   have hHeld : w84.cell? ⟨gb237, 0, none⟩ = some (.string x238000_1) ∧ w84.cell? ⟨gb237, 1, none⟩ = some (.int .i64 x238001_1) ∧ w84.cell? (ad238.add ((x7_1).toNat * 2)) = some (.int .i64 ((rd_T46 l1 x7_1).f0)) ∧ w84.cell? ⟨(ad238.add ((x7_1).toNat * 2)).block, (ad238.add ((x7_1).toNat * 2)).off + 1, none⟩ = some (.int .i64 ((rd_T46 l1 x7_1).f1)) := hS_
   refine norm_ (a' := ?_) ?_ ?_
   rotate_left
   · simp only [putAll, Act.put, List.setIfInBounds_toArray, List.set_cons_zero, List.set_cons_succ]; rfl
   refine one_ (i := 12) (N := none) #[true, true, true, true, true, true, true, true, true, true, true, true, true, false] rfl rfl (one_of HT_.out (by kernel_rfl)) (by decide) (fun K hK => ?_)
   have hs85 : w84.cell? ⟨gb275, 0, none⟩ = some (.string (⟨#[]⟩ : ByteArray)) := (blk_cell BK275.out 0).trans rfl
   have hfs85 := blk_frozen BK275.out 0
   have hns85_0 := NB237_275.out
   have hms85_0 := NB275_237.out
   have hs86 : w84.cell? ⟨gb275, 1, none⟩ = some (.int .i64 0) := (blk_cell BK275.out 1).trans rfl
   have hfs86 := blk_frozen BK275.out 1
   have hns86_0 := NB237_275.out
   have hms86_0 := NB275_237.out
   refine skip_ (w1 := ?_) (by rfl) rfl ?_ ?_
   rotate_left
   · go_simp; rfl
   refine hK.out _ _ ⟨((cell_far (p := ⟨gb275, _, none⟩) NB237_275.out _).trans (((cell_far (p := ⟨gb275, _, none⟩) NB237_275.out _).trans (hHeld.1)))), ((cell_far (p := ⟨gb275, _, none⟩) NB237_275.out _).trans (((cell_far (p := ⟨gb275, _, none⟩) NB237_275.out _).trans (hHeld.2.1)))), ((cell_far (p := ⟨gb275, _, none⟩) (by first | exact Nat.ne_of_lt (Nat.lt_of_lt_of_le (by have := World.block_lt_of_cell? _ _ hw269_0; first | rwa [add_block] at this | exact this) GW275.out) | (rw [add_block]; exact Nat.ne_of_lt (Nat.lt_of_lt_of_le (by have := World.block_lt_of_cell? _ _ hw269_0; first | rwa [add_block] at this | exact this) GW275.out)) | (show (Addr.add _ _).block ≠ _; rw [add_block]; exact Nat.ne_of_lt (Nat.lt_of_lt_of_le (by have := World.block_lt_of_cell? _ _ hw269_0; first | rwa [add_block] at this | exact this) GW275.out)) | (dsimp only; exact Nat.ne_of_lt (Nat.lt_of_lt_of_le (by have := World.block_lt_of_cell? _ _ hw269_0; first | rwa [add_block] at this | exact this) GW275.out))) _).trans (((cell_far (p := ⟨gb275, _, none⟩) (by first | exact Nat.ne_of_lt (Nat.lt_of_lt_of_le (by have := World.block_lt_of_cell? _ _ hw269_0; first | rwa [add_block] at this | exact this) GW275.out) | (rw [add_block]; exact Nat.ne_of_lt (Nat.lt_of_lt_of_le (by have := World.block_lt_of_cell? _ _ hw269_0; first | rwa [add_block] at this | exact this) GW275.out)) | (show (Addr.add _ _).block ≠ _; rw [add_block]; exact Nat.ne_of_lt (Nat.lt_of_lt_of_le (by have := World.block_lt_of_cell? _ _ hw269_0; first | rwa [add_block] at this | exact this) GW275.out)) | (dsimp only; exact Nat.ne_of_lt (Nat.lt_of_lt_of_le (by have := World.block_lt_of_cell? _ _ hw269_0; first | rwa [add_block] at this | exact this) GW275.out))) _).trans (hHeld.2.2.1)))), ((cell_far (p := ⟨gb275, _, none⟩) (by first | exact Nat.ne_of_lt (Nat.lt_of_lt_of_le (by have := World.block_lt_of_cell? _ _ hw269_1; first | rwa [add_block] at this | exact this) GW275.out) | (rw [add_block]; exact Nat.ne_of_lt (Nat.lt_of_lt_of_le (by have := World.block_lt_of_cell? _ _ hw269_1; first | rwa [add_block] at this | exact this) GW275.out)) | (show (Addr.add _ _).block ≠ _; rw [add_block]; exact Nat.ne_of_lt (Nat.lt_of_lt_of_le (by have := World.block_lt_of_cell? _ _ hw269_1; first | rwa [add_block] at this | exact this) GW275.out)) | (dsimp only; exact Nat.ne_of_lt (Nat.lt_of_lt_of_le (by have := World.block_lt_of_cell? _ _ hw269_1; first | rwa [add_block] at this | exact this) GW275.out))) _).trans (((cell_far (p := ⟨gb275, _, none⟩) (by first | exact Nat.ne_of_lt (Nat.lt_of_lt_of_le (by have := World.block_lt_of_cell? _ _ hw269_1; first | rwa [add_block] at this | exact this) GW275.out) | (rw [add_block]; exact Nat.ne_of_lt (Nat.lt_of_lt_of_le (by have := World.block_lt_of_cell? _ _ hw269_1; first | rwa [add_block] at this | exact this) GW275.out)) | (show (Addr.add _ _).block ≠ _; rw [add_block]; exact Nat.ne_of_lt (Nat.lt_of_lt_of_le (by have := World.block_lt_of_cell? _ _ hw269_1; first | rwa [add_block] at this | exact this) GW275.out)) | (dsimp only; exact Nat.ne_of_lt (Nat.lt_of_lt_of_le (by have := World.block_lt_of_cell? _ _ hw269_1; first | rwa [add_block] at this | exact this) GW275.out))) _).trans (hHeld.2.2.2))))⟩ (fun hHeld => ?_)
   clear hK K
   refine pure_ (i := 13) (N := some 18) (v := ?_) (a' := ?_) #[true, true, true, true, true, true, true, true, true, true, true, true, true, true] rfl rfl (any_of HT_.out (by kernel_rfl)) (fun _ _ _ h => h) (Or.inl ⟨by rfl, ?_⟩) ?_ ?_
   rotate_left
   · intro w'; go_simp; with_reducible rfl
   rotate_left
   · simp only [Act.put, List.setIfInBounds_toArray, List.set_cons_zero, List.set_cons_succ, i64_w, i32_w]; rfl
   refine done_ (done_of HT_.out (by kernel_rfl)) ?_
   try go_wp2
   have n0_ : Aside0 (Kd.R (Kd.int .i64) 3 ((w84.setCell ⟨gb275, 0, none⟩ (.string t270)).setCell ⟨gb275, 1, none⟩ (.int .i64 t271)) w.heap.size (fun _ => True) v273 t272) := ⟨by (with_reducible repeat (first | apply Kd.R_alloc | apply Kd.R_drewN | apply Kd.R_drew)); exact Kd.R_mono (Kd.R_far (p := ⟨gb275, 1, none⟩) (Kd.R_far (p := ⟨gb275, 0, none⟩) (Kd.R_types HO274.out BK275.out (by decide)) (fun _ hk => hk.2) (.string t270)) (fun _ hk => hk.2) (.int .i64 t271)) (fun _ hk => trivial)⟩
   have n1_ : Aside0 (((w84.setCell ⟨gb275, 0, none⟩ (.string t270)).setCell ⟨gb275, 1, none⟩ (.int .i64 t271)).heap[gb237]? = some (.cells #[.string x238000_1, .int .i64 x238001_1] 44 (0, 0))) := ⟨by (with_reducible repeat (first | refine blk_drewN ?_ _ | refine blk_drew ?_ | refine blk_alloc ?_ _)); refine blk_far ?_ NB237_275.out _; (with_reducible repeat (first | refine blk_drewN ?_ _ | refine blk_drew ?_ | refine blk_alloc ?_ _)); refine blk_far ?_ NB237_275.out _; (with_reducible repeat (first | refine blk_drewN ?_ _ | refine blk_drew ?_ | refine blk_alloc ?_ _)); exact BK237.out⟩
   have n2_ : Aside0 (((w84.setCell ⟨gb275, 0, none⟩ (.string t270)).setCell ⟨gb275, 1, none⟩ (.int .i64 t271)).heap[gb275]? = some (.cells #[.string t270, .int .i64 t271] 44 (0, 0))) := ⟨by (with_reducible repeat (first | refine blk_drewN ?_ _ | refine blk_drew ?_ | refine blk_alloc ?_ _)); refine blk_put (cs := #[.string t270, .int .i64 0]) ?_ 1 _ rfl; (with_reducible repeat (first | refine blk_drewN ?_ _ | refine blk_drew ?_ | refine blk_alloc ?_ _)); refine blk_put (cs := #[.string (⟨#[]⟩ : ByteArray), .int .i64 0]) ?_ 0 _ rfl; (with_reducible repeat (first | refine blk_drewN ?_ _ | refine blk_drew ?_ | refine blk_alloc ?_ _)); exact BK275.out⟩
   have n3_ : Aside0 (IsS68 w ((w84.setCell ⟨gb275, 0, none⟩ (.string t270)).setCell ⟨gb275, 1, none⟩ (.int .i64 t271)) g236 x237000_1 x237001_1) := ⟨by repeat (first | (with_reducible first | exact HI236.out | apply IsS68.alloc | apply IsS68.drewN | apply IsS68.drew | apply IsS68.set_0 | apply IsS68.set_1 | refine IsS68.far ?_ NB236_237.out _ | refine IsS68.far ?_ NB236_275.out _) | exact HI236.out)⟩
   have n4_ : Aside0 (Below w.heap.size w ((w84.setCell ⟨gb275, 0, none⟩ (.string t270)).setCell ⟨gb275, 1, none⟩ (.int .i64 t271))) := ⟨by repeat (first | (with_reducible first | exact HB.out | apply below_alloc | apply pw_below_drewN | apply below_drew1 | refine below_set ?_ (IsS68.ge HI236.out) | refine below_set ?_ GE237.out | refine below_set ?_ GE275.out) | exact HB.out)⟩
   (try clear HO274)
   (try clear BK237)
   (try clear BK275)
   (try clear HI236)
   (try clear HB)
   generalize ((w84.setCell ⟨gb275, 0, none⟩ (.string t270)).setCell ⟨gb275, 1, none⟩ (.int .i64 t271)) = w87 at n0_ n1_ n2_ n3_ n4_ ⊢
   have HO274 := n0_
   have BK237 := n1_
   have BK275 := n2_
   have HI236 := n3_
   have HB := n4_
   clear n0_ n1_ n2_ n3_ n4_
   have n0_ := Aside0.mk (Kd.R_drew HO274.out)
   have n1_ := Aside0.mk (blk_drew BK237.out)
   have n2_ := Aside0.mk (blk_drew BK275.out)
   have n3_ := Aside0.mk (IsS68.drew HI236.out)
   have n4_ := Aside0.mk (below_drew1 HB.out)
   clear HO274; clear BK237; clear BK275; clear HI236; clear HB
   have HO274 := n0_
   have BK237 := n1_
   have BK275 := n2_
   have HI236 := n3_
   have HB := n4_
   clear n0_ n1_ n2_ n3_ n4_
   have p276 : 0 ≤ (x7_1 : Int) := of_decide_eq_true (by first | (with_reducible assumption) | assumption)
   have q276 : x7_1 < (l1.length : Int) := of_decide_eq_true (by first | (with_reducible assumption) | assumption)
   obtain ⟨ad276, e276, hx276_0, hx276_1⟩ := at_T46 HR1.out x7_1 p276 q276
   have hw276_1 := hx276_1
   have hw276_0 := hx276_0
   obtain rfl : ad238 = ad276 := (by injection e276)
   replace hx276_0 := (HB.out.cell (World.block_lt_of_cell? w _ hx276_0)).trans hx276_0
   replace hx276_1 := (HB.out.cell (World.block_lt_of_cell? w _ hx276_1)).trans hx276_1
   replace p276 := eq_true p276
   replace q276 := eq_true q276
   refine start_ (n := 13) (S := fun w' => w'.cell? ⟨gb275, 0, none⟩ = some (.string t270) ∧ w'.cell? ⟨gb275, 1, none⟩ = some (.int .i64 t271) ∧ w'.cell? (ad238.add ((x7_1).toNat * 2)) = some (.int .i64 ((rd_T46 l1 x7_1).f0)) ∧ w'.cell? ⟨(ad238.add ((x7_1).toNat * 2)).block, (ad238.add ((x7_1).toNat * 2)).off + 1, none⟩ = some (.int .i64 ((rd_T46 l1 x7_1).f1))) (ds := []) #[false, false, false, false, false, false, false, false, false, false, false, false, false] (by kernel_rfl) rfl rfl ⟨(blk_cell BK275.out 0).trans rfl, (blk_cell BK275.out 1).trans rfl, ((HB.out.cell (World.block_lt_of_cell? w _ hw276_0)).trans hw276_0), ((HB.out.cell (World.block_lt_of_cell? w _ hw276_1)).trans hw276_1)⟩ (fun hHeld => ?_); refine with_tabW splicelaw01_VintReads.tab24 splicelaw01_VintReads.bits24 (fun HT_ HW_ => ?_)
   generalize w87.drew = w88 at HO274 BK237 BK275 HI236 HB hx276_0 hx276_1 hHeld ⊢
   refine pure_ (i := 1) (N := some 115) (v := ?_) (a' := ?_) #[false, true, false, false, false, false, false, false, false, false, false, false, false] rfl rfl (any_of HT_.out (by kernel_rfl)) (fun _ _ _ h => h) (Or.inl ⟨by rfl, ?_⟩) ?_ ?_
   rotate_left
   · intro w'; go_simp; with_reducible rfl
   rotate_left
   · simp only [Act.put, List.setIfInBounds_toArray, List.set_cons_zero, List.set_cons_succ, i64_w, i32_w]; rfl
   refine pure_ (i := 2) (N := some 116) (v := ?_) (a' := ?_) #[false, true, true, false, false, false, false, false, false, false, false, false, false] rfl rfl (any_of HT_.out (by kernel_rfl)) (fun _ _ _ h => h) (Or.inl ⟨by rfl, ?_⟩) ?_ ?_
   rotate_left
   · intro w'; go_simp; with_reducible rfl
   rotate_left
   · simp only [Act.put, List.setIfInBounds_toArray, List.set_cons_zero, List.set_cons_succ, i64_w, i32_w]; rfl
   refine pure_ (i := 3) (N := some 117) (v := ?_) (a' := ?_) #[false, true, true, true, false, false, false, false, false, false, false, false, false] rfl rfl (any_of HT_.out (by kernel_rfl)) (fun _ _ _ h => h) (Or.inl ⟨by rfl, ?_⟩) ?_ ?_
   rotate_left
   · intro w'; go_simp; with_reducible rfl
   rotate_left
   · simp only [Act.put, List.setIfInBounds_toArray, List.set_cons_zero, List.set_cons_succ, i64_w, i32_w]; rfl
   refine pure_ (i := 4) (N := some 118) (v := ?_) (a' := ?_) #[false, true, true, true, true, false, false, false, false, false, false, false, false] rfl rfl (any_of HT_.out (by kernel_rfl)) (fun _ _ _ h => h) (Or.inl ⟨by rfl, ?_⟩) ?_ ?_
   rotate_left
   · intro w'; go_simp; with_reducible rfl
   rotate_left
   · simp only [Act.put, List.setIfInBounds_toArray, List.set_cons_zero, List.set_cons_succ, i64_w, i32_w]; rfl
   refine pure_ (i := 5) (N := some 119) (v := ?_) (a' := ?_) #[false, true, true, true, true, true, false, false, false, false, false, false, false] rfl rfl (any_of HT_.out (by kernel_rfl)) (fun _ _ _ h => h) (Or.inl ⟨by rfl, ?_⟩) ?_ ?_
   rotate_left
   · intro w'; go_simp; with_reducible rfl
   rotate_left
   · simp only [Act.put, List.setIfInBounds_toArray, List.set_cons_zero, List.set_cons_succ, i64_w, i32_w]; rfl
   refine pure_ (i := 9) (N := some 123) (v := ?_) (a' := ?_) #[false, true, true, true, true, true, false, false, false, true, false, false, false] rfl rfl (any_of HT_.out (by kernel_rfl)) (fun _ _ _ h => h) (Or.inl ⟨by rfl, ?_⟩) ?_ ?_
   rotate_left
   · intro w'; go_simp; with_reducible rfl
   rotate_left
   · simp only [Act.put, List.setIfInBounds_toArray, List.set_cons_zero, List.set_cons_succ, i64_w, i32_w]; rfl
   refine take_ (i := 0) (N := some 114) (v := ?_) (a' := ?_) #[true, true, true, true, true, true, false, false, false, true, false, false, false] rfl rfl (take_ofW HT_.out HW_.out (by kernel_rfl)) (fun _ _ _ h => h) (Or.inl ⟨by rfl, ?_⟩) hHeld ?_ ?_
   rotate_left
   · rintro w' ⟨s0, s1, s2, s3⟩
     go_simp; with_reducible rfl
   rotate_left
   · simp only [Act.put, List.setIfInBounds_toArray, List.set_cons_zero, List.set_cons_succ, i64_w, i32_w]; rfl
   refine take_ (i := 6) (N := some 120) (v := ?_) (a' := ?_) #[true, true, true, true, true, true, true, false, false, true, false, false, false] rfl rfl (take_ofW HT_.out HW_.out (by kernel_rfl)) (fun _ _ _ h => h) (Or.inl ⟨by rfl, ?_⟩) hHeld ?_ ?_
   rotate_left
   · rintro w' ⟨s0, s1, s2, s3⟩
     go_simp; with_reducible rfl
   rotate_left
   · simp only [Act.put, List.setIfInBounds_toArray, List.set_cons_zero, List.set_cons_succ, i64_w, i32_w]; rfl
   refine pure_ (i := 7) (N := some 121) (v := ?_) (a' := ?_) #[true, true, true, true, true, true, true, true, false, true, false, false, false] rfl rfl (any_of HT_.out (by kernel_rfl)) (fun _ _ _ h => h) (Or.inl ⟨by rfl, ?_⟩) ?_ ?_
   rotate_left
   · intro w'; go_simp; with_reducible rfl
   rotate_left
   · simp only [Act.put, List.setIfInBounds_toArray, List.set_cons_zero, List.set_cons_succ, i64_w, i32_w]; rfl
   refine one_ (i := 8) (N := some 122) #[true, true, true, true, true, true, true, true, true, true, false, false, false] rfl rfl (one_of HT_.out (by kernel_rfl)) (by decide) (fun K hK => ?_)
   refine goes_ Try.func31 (by kernel_rfl) rfl #[.pointer (some ⟨g236, 0, none⟩), .int .i64 ji77] (by rfl) rfl rfl (by (try simp only [List.map_toArray, List.map_cons, List.map_nil]); first | done | (simp only [hji77]; rfl) | rfl | (simp only [List.length_drop, List.length_take]; rfl)) ?_
   with_reducible refine (vint_Reader_List.calls kj10 g236 x237000_1 x237001_1 ji77 t277 t280 t281 w _ ?side1 ?side2 A79.out).mono ?_
   (case side1 => repeat (first | (with_reducible first | exact HI236.out | apply IsS68.alloc | apply IsS68.drewN | apply IsS68.drew | apply IsS68.set_0 | apply IsS68.set_1 | refine IsS68.far ?_ NB236_237.out _ | refine IsS68.far ?_ NB236_275.out _) | exact HI236.out))
   (case side2 => repeat (first | (with_reducible first | exact HB.out | apply below_alloc | apply pw_below_drewN | apply below_drew1 | refine below_set ?_ (IsS68.ge HI236.out) | refine below_set ?_ GE237.out | refine below_set ?_ GE275.out) | exact HB.out))
   rintro e w89 ⟨v278, rfl, ho0, hi, hb, hk⟩
   refine ⟨_, rfl, ?_⟩
   have n0_ := Aside0.mk (KeepBut.blk hk (g' := gb237) (o := .cells #[.string x238000_1, .int .i64 x238001_1] 44 (0, 0)) (by (with_reducible repeat (first | refine blk_drewN ?_ _ | refine blk_drew ?_ | refine blk_alloc ?_ _)); exact BK237.out) NB237_236.out (by simp))
   have n1_ := Aside0.mk (Kd.R_mono (Kd.R_told (Kd.R_oldK (IsS68.apart (show IsS68 w _ g236 x237000_1 x237001_1 from by repeat (first | (with_reducible first | exact HI236.out | apply IsS68.alloc | apply IsS68.drewN | apply IsS68.drew | apply IsS68.set_0 | apply IsS68.set_1 | refine IsS68.far ?_ NB236_237.out _ | refine IsS68.far ?_ NB236_275.out _) | exact HI236.out)) (by (with_reducible repeat (first | apply Kd.R_alloc | apply Kd.R_drewN | apply Kd.R_drew)); exact HO274.out) (by decide)) hk) (Kd.R_base ho0)) (fun _ h_ => h_.1))
   have n2_ := Aside0.mk (KeepBut.blk hk (g' := gb275) (o := .cells #[.string t270, .int .i64 t271] 44 (0, 0)) (by (with_reducible repeat (first | refine blk_drewN ?_ _ | refine blk_drew ?_ | refine blk_alloc ?_ _)); exact BK275.out) NB275_236.out (by simp))
   have n3_ := Aside0.mk (Kd.R_lower (Kd.R_new' ho0 (Kd.R_lt (by (with_reducible repeat (first | apply Kd.R_alloc | apply Kd.R_drewN | apply Kd.R_drew)); exact HO274.out))) (below_size (by repeat (first | (with_reducible first | exact HB.out | apply below_alloc | apply pw_below_drewN | apply below_drew1 | refine below_set ?_ (IsS68.ge HI236.out) | refine below_set ?_ GE237.out | refine below_set ?_ GE275.out) | exact HB.out))))
   have n4_ := Aside0.mk (hb)
   have n5_ := Aside0.mk (hi)
   clear BK237; clear HO274; clear BK275; clear HB; clear HI236
   have BK237 := n0_
   have HO274 := n1_
   have BK275 := n2_
   have HO279 := n3_
   have HB := n4_
   have HI236 := n5_
   clear n0_ n1_ n2_ n3_ n4_ n5_
   (try clear hb)
   (try clear hb2)
   (try clear hk)
   (try clear hi)
   (try clear ho0)
   obtain ⟨Ao90, co90, eo90⟩ := Kd.R_slice HO279.out
   (first | subst eo90 | (injection eo90 with f1_ f2_ f3_; have f4_ := f1_.symm; have f5_ := f3_.symm; clear f1_ f2_ f3_; subst f4_; subst f5_))
   obtain ⟨Ao91, co91, eo91⟩ := Kd.R_slice HO274.out
   (first | subst eo91 | (injection eo91 with f1_ f2_ f3_; have f4_ := f1_.symm; have f5_ := f3_.symm; clear f1_ f2_ f3_; subst f4_; subst f5_))
   refine hK.out _ _ ⟨(blk_cell BK275.out 0).trans rfl, (blk_cell BK275.out 1).trans rfl, ((HB.out.cell (World.block_lt_of_cell? w _ hw276_0)).trans hw276_0), ((HB.out.cell (World.block_lt_of_cell? w _ hw276_1)).trans hw276_1)⟩ (fun hHeld => ?_)
   clear hK K
   refine norm_ (a' := ?_) ?_ ?_
   rotate_left
   · show Act.put _ (some 122) _ = _
     simp only [Act.put, List.setIfInBounds_toArray, List.set_cons_zero, List.set_cons_succ, i64_w, i32_w]; rfl
   refine one_ (i := 10) (N := some 124) #[true, true, true, true, true, true, true, true, true, true, true, false, false] rfl rfl (one_of HT_.out (by kernel_rfl)) (by decide) (fun K hK => ?_)
   refine goes_ Try.func39 (by kernel_rfl) rfl #[.slice Ao90 t277.length co90, .slice Ao91 t272.length co91] (by rfl) rfl rfl (by (try simp only [List.map_toArray, List.map_cons, List.map_nil]); first | done | rfl | (simp only [List.length_drop, List.length_take]; rfl)) ?_
   with_reducible refine (spliceref01_Same.calls kj10 _ _ t277 _ _ t272 t282 _ ?side1 ?side2 ?side3 ?side4 A80.out).mono ?_
   (case side1 => repeat (first | exact (Kd.R_reads' HO279.out).2.2 | (with_reducible refine Kd.C_alloc ?_ _) | (with_reducible refine Kd.C_drewN ?_ _) | (with_reducible refine Kd.C_drew ?_)))
   (case side2 => exact (Kd.R_reads' HO279.out).2.1)
   (case side3 => repeat (first | exact (Kd.R_reads' HO274.out).2.2 | (with_reducible refine Kd.C_alloc ?_ _) | (with_reducible refine Kd.C_drewN ?_ _) | (with_reducible refine Kd.C_drew ?_)))
   (case side4 => exact (Kd.R_reads' HO274.out).2.1)
   rintro e w' ⟨rfl, ⟨nd, rfl⟩⟩
   refine ⟨_, rfl, ?_⟩
   refine hK.out _ _ ⟨(blk_cell BK275.out 0).trans rfl, (blk_cell BK275.out 1).trans rfl, ((HB.out.cell (World.block_lt_of_cell? w _ hw276_0)).trans hw276_0), ((HB.out.cell (World.block_lt_of_cell? w _ hw276_1)).trans hw276_1)⟩ (fun hHeld => ?_)
   clear hK K
   refine norm_ (a' := ?_) ?_ ?_
   rotate_left
   · show Act.put _ (some 124) _ = _
     simp only [Act.put, List.setIfInBounds_toArray, List.set_cons_zero, List.set_cons_succ, i64_w, i32_w]; rfl
   refine one_ (i := 11) (N := none) #[true, true, true, true, true, true, true, true, true, true, true, true, false] rfl rfl (one_of HT_.out (by kernel_rfl)) (by decide) (fun K hK => ?_)
   have hs92 : w89.cell? ⟨gb237, 0, none⟩ = some (.string x238000_1) := (blk_cell BK237.out 0).trans rfl
   have hfs92 := blk_frozen BK237.out 0
   have hns92_1 := NB275_237.out
   have hms92_1 := NB237_275.out
   have hs93 : w89.cell? ⟨gb237, 1, none⟩ = some (.int .i64 x238001_1) := (blk_cell BK237.out 1).trans rfl
   have hfs93 := blk_frozen BK237.out 1
   have hns93_1 := NB275_237.out
   have hms93_1 := NB237_275.out
   refine skip_ (w1 := ?_) (by rfl) rfl ?_ ?_
   rotate_left
   · go_simp; rfl
   refine hK.out _ _ ⟨((cell_far (p := ⟨gb237, _, none⟩) NB275_237.out _).trans (((cell_far (p := ⟨gb237, _, none⟩) NB275_237.out _).trans (hHeld.1)))), ((cell_far (p := ⟨gb237, _, none⟩) NB275_237.out _).trans (((cell_far (p := ⟨gb237, _, none⟩) NB275_237.out _).trans (hHeld.2.1)))), ((cell_far (p := ⟨gb237, _, none⟩) (by first | exact Nat.ne_of_lt (Nat.lt_of_lt_of_le (by have := World.block_lt_of_cell? _ _ hw276_0; first | rwa [add_block] at this | exact this) GW237.out) | (rw [add_block]; exact Nat.ne_of_lt (Nat.lt_of_lt_of_le (by have := World.block_lt_of_cell? _ _ hw276_0; first | rwa [add_block] at this | exact this) GW237.out)) | (show (Addr.add _ _).block ≠ _; rw [add_block]; exact Nat.ne_of_lt (Nat.lt_of_lt_of_le (by have := World.block_lt_of_cell? _ _ hw276_0; first | rwa [add_block] at this | exact this) GW237.out)) | (dsimp only; exact Nat.ne_of_lt (Nat.lt_of_lt_of_le (by have := World.block_lt_of_cell? _ _ hw276_0; first | rwa [add_block] at this | exact this) GW237.out))) _).trans (((cell_far (p := ⟨gb237, _, none⟩) (by first | exact Nat.ne_of_lt (Nat.lt_of_lt_of_le (by have := World.block_lt_of_cell? _ _ hw276_0; first | rwa [add_block] at this | exact this) GW237.out) | (rw [add_block]; exact Nat.ne_of_lt (Nat.lt_of_lt_of_le (by have := World.block_lt_of_cell? _ _ hw276_0; first | rwa [add_block] at this | exact this) GW237.out)) | (show (Addr.add _ _).block ≠ _; rw [add_block]; exact Nat.ne_of_lt (Nat.lt_of_lt_of_le (by have := World.block_lt_of_cell? _ _ hw276_0; first | rwa [add_block] at this | exact this) GW237.out)) | (dsimp only; exact Nat.ne_of_lt (Nat.lt_of_lt_of_le (by have := World.block_lt_of_cell? _ _ hw276_0; first | rwa [add_block] at this | exact this) GW237.out))) _).trans (hHeld.2.2.1)))), ((cell_far (p := ⟨gb237, _, none⟩) (by first | exact Nat.ne_of_lt (Nat.lt_of_lt_of_le (by have := World.block_lt_of_cell? _ _ hw276_1; first | rwa [add_block] at this | exact this) GW237.out) | (rw [add_block]; exact Nat.ne_of_lt (Nat.lt_of_lt_of_le (by have := World.block_lt_of_cell? _ _ hw276_1; first | rwa [add_block] at this | exact this) GW237.out)) | (show (Addr.add _ _).block ≠ _; rw [add_block]; exact Nat.ne_of_lt (Nat.lt_of_lt_of_le (by have := World.block_lt_of_cell? _ _ hw276_1; first | rwa [add_block] at this | exact this) GW237.out)) | (dsimp only; exact Nat.ne_of_lt (Nat.lt_of_lt_of_le (by have := World.block_lt_of_cell? _ _ hw276_1; first | rwa [add_block] at this | exact this) GW237.out))) _).trans (((cell_far (p := ⟨gb237, _, none⟩) (by first | exact Nat.ne_of_lt (Nat.lt_of_lt_of_le (by have := World.block_lt_of_cell? _ _ hw276_1; first | rwa [add_block] at this | exact this) GW237.out) | (rw [add_block]; exact Nat.ne_of_lt (Nat.lt_of_lt_of_le (by have := World.block_lt_of_cell? _ _ hw276_1; first | rwa [add_block] at this | exact this) GW237.out)) | (show (Addr.add _ _).block ≠ _; rw [add_block]; exact Nat.ne_of_lt (Nat.lt_of_lt_of_le (by have := World.block_lt_of_cell? _ _ hw276_1; first | rwa [add_block] at this | exact this) GW237.out)) | (dsimp only; exact Nat.ne_of_lt (Nat.lt_of_lt_of_le (by have := World.block_lt_of_cell? _ _ hw276_1; first | rwa [add_block] at this | exact this) GW237.out))) _).trans (hHeld.2.2.2))))⟩ (fun hHeld => ?_)
   clear hK K
   refine pure_ (i := 12) (N := some 8) (v := ?_) (a' := ?_) #[true, true, true, true, true, true, true, true, true, true, true, true, true] rfl rfl (any_of HT_.out (by kernel_rfl)) (fun _ _ _ h => h) (Or.inl ⟨by rfl, ?_⟩) ?_ ?_
   rotate_left
   · intro w'; go_simp; with_reducible rfl
   rotate_left
   · simp only [Act.put, List.setIfInBounds_toArray, List.set_cons_zero, List.set_cons_succ, i64_w, i32_w]; rfl
   refine done_ (done_of HT_.out (by kernel_rfl)) ?_
   try go_wp2
   go_meet
   case rel => exact ⟨_, (t282), (t280), (t281), (t270), (t271), (by first | rfl | (simp; done) | (simp [*]; done)), H', ⟨by have := HK1.out; have := HJ10.out; first | omega | exact Nat.le_refl _⟩, ⟨by (with_reducible repeat (first | refine blk_drewN ?_ _ | refine blk_drew ?_ | refine blk_alloc ?_ _)); refine blk_put (cs := #[.string t270, .int .i64 x238001_1]) ?_ 1 _ rfl; (with_reducible repeat (first | refine blk_drewN ?_ _ | refine blk_drew ?_ | refine blk_alloc ?_ _)); refine blk_put (cs := #[.string x238000_1, .int .i64 x238001_1]) ?_ 0 _ rfl; (with_reducible repeat (first | refine blk_drewN ?_ _ | refine blk_drew ?_ | refine blk_alloc ?_ _)); exact BK237.out⟩, ⟨by repeat (first | (with_reducible first | exact HI236.out | apply IsS68.alloc | apply IsS68.drewN | apply IsS68.drew | apply IsS68.set_0 | apply IsS68.set_1 | refine IsS68.far ?_ NB236_237.out _ | refine IsS68.far ?_ NB236_275.out _) | exact HI236.out)⟩, ⟨by repeat (first | (with_reducible first | exact HB.out | apply below_alloc | apply pw_below_drewN | apply below_drew1 | refine below_set ?_ (IsS68.ge HI236.out) | refine below_set ?_ GE237.out | refine below_set ?_ GE275.out) | exact HB.out)⟩⟩
 clear HC16
 try clear p2
 try clear q2
 try clear hx2
 try clear c3
 try clear c6
 try clear p6
 try clear c7
 try clear p26
 try clear q26
 try clear hx26
 try clear p27
 try clear q27
 try clear hx27
 try clear c31
 try clear c38
 try clear c39
 try clear c62
 try clear c62b0
 try clear c62b1
 try clear p64
 try clear c76
 try clear c76b0
 try clear c76b1
 try clear hx269_0
 try clear hx269_1
 try clear hx276_0
 try clear hx276_1
 try clear p269
 try clear p276
 try clear q269
 try clear q276
 obtain ⟨kq, x8_15, x237000_15, x237001_15, x238000_15, x238001_15, rfl, HA, HJ15, BK237, HI236, HB⟩ := hcut
 cases kq with
 | zero => exact absurd HA.out (by simp [splicelaw01_VintReads.j2])
 | succ kj15 => ?_
 have H := HA.out
 clear HA; simp only [splicelaw01_VintReads.j2] at H
 by_cases c94 : x8_15 = true
 rotate_left
 · replace c94 := Bool.eq_false_iff.mpr c94
   subst c94
   have H1 : (some false) = some r := by rw [if_neg (show ¬ (false = true) by decide)] at H; exact H
   clear H
   have H := H1
   clear H1
   exact absurd ((Option.some.inj H).trans hr_) (by simp)
 subst c94
 have H1 : ((vint_Reader_Left.f x237000_15 x237001_15).bind fun bt283 => (if bt283.1.toList = x238000_15.toList then ((vint_Reader_Err.f bt283.2.1 bt283.2.2).bind fun bt286 => (if bt286.1 = x238001_15 then ((vint_Reader_End.f bt286.2.1 bt286.2.2).bind fun bt289 => ((spliceref01_Reader_End.f x238000_15 x238001_15).bind fun t292 => (if bt289.1 = t292 then (splicelaw01_VintReads.l0 kj15 l1 (wrap64 (x7_1 + 1)) bt289.2.1 bt289.2.2 x238000_15 x238001_15) else (some false)))) else (some false))) else (some false))) = some r := by rw [if_pos rfl] at H; exact H
 clear H
 have H := H1
 clear H1
 replace H := Option.bind_eq_some_iff.mp H
 obtain ⟨⟨t283, t284, t285⟩, A950, H⟩ := H
 replace H : (if t283.toList = x238000_15.toList then ((vint_Reader_Err.f t284 t285).bind fun bt286 => (if bt286.1 = x238001_15 then ((vint_Reader_End.f bt286.2.1 bt286.2.2).bind fun bt289 => ((spliceref01_Reader_End.f x238000_15 x238001_15).bind fun t292 => (if bt289.1 = t292 then (splicelaw01_VintReads.l0 kj15 l1 (wrap64 (x7_1 + 1)) bt289.2.1 bt289.2.2 x238000_15 x238001_15) else (some false)))) else (some false))) else (some false)) = some r := H
 have A95 := Aside0.mk A950
 clear A950
 by_cases c96 : t283.toList = x238000_15.toList
 rotate_left
 · rw [if_neg c96] at H
   have c96b0 : (t283.toList == x238000_15.toList) = false := beq_eq_false_iff_ne.mpr c96
   have c96b1 : (t283.toList != x238000_15.toList) = true := bne_iff_ne.mpr c96
   exact absurd ((Option.some.inj H).trans hr_) (by simp)
 rw [if_pos c96] at H
 have c96b0 : (t283.toList == x238000_15.toList) = true := beq_iff_eq.mpr c96
 have c96b1 : (t283.toList != x238000_15.toList) = false := bne_eq_false_iff_eq.mpr c96
 clear c96
 replace H := Option.bind_eq_some_iff.mp H
 obtain ⟨⟨t286, t287, t288⟩, A970, H⟩ := H
 replace H : (if t286 = x238001_15 then ((vint_Reader_End.f t287 t288).bind fun bt289 => ((spliceref01_Reader_End.f x238000_15 x238001_15).bind fun t292 => (if bt289.1 = t292 then (splicelaw01_VintReads.l0 kj15 l1 (wrap64 (x7_1 + 1)) bt289.2.1 bt289.2.2 x238000_15 x238001_15) else (some false)))) else (some false)) = some r := H
 have A97 := Aside0.mk A970
 clear A970
 by_cases c98 : t286 = x238001_15
 rotate_left
 · rw [if_neg c98] at H
   have c98b0 : (t286 == x238001_15) = false := beq_eq_false_iff_ne.mpr c98
   have c98b1 : (t286 != x238001_15) = true := bne_iff_ne.mpr c98
   exact absurd ((Option.some.inj H).trans hr_) (by simp)
 rw [if_pos c98] at H
 have c98b0 : (t286 == x238001_15) = true := beq_iff_eq.mpr c98
 have c98b1 : (t286 != x238001_15) = false := bne_eq_false_iff_eq.mpr c98
 clear c98
 replace H := Option.bind_eq_some_iff.mp H
 obtain ⟨⟨t289, t290, t291⟩, A990, H⟩ := H
 replace H : ((spliceref01_Reader_End.f x238000_15 x238001_15).bind fun t292 => (if t289 = t292 then (splicelaw01_VintReads.l0 kj15 l1 (wrap64 (x7_1 + 1)) t290 t291 x238000_15 x238001_15) else (some false))) = some r := H
 have A99 := Aside0.mk A990
 clear A990
 replace H := Option.bind_eq_some_iff.mp H
 obtain ⟨t292, A1000, H⟩ := H
 replace H : (if t289 = t292 then (splicelaw01_VintReads.l0 kj15 l1 (wrap64 (x7_1 + 1)) t290 t291 x238000_15 x238001_15) else (some false)) = some r := H
 have A100 := Aside0.mk A1000
 clear A1000
 by_cases c101 : t289 = t292
 rotate_left
 · rw [if_neg c101] at H
   have c101b0 : (t289 == t292) = false := beq_eq_false_iff_ne.mpr c101
   have c101b1 : (t289 != t292) = true := bne_iff_ne.mpr c101
   exact absurd ((Option.some.inj H).trans hr_) (by simp)
 rw [if_pos c101] at H
 have c101b0 : (t289 == t292) = true := beq_iff_eq.mpr c101
 have c101b1 : (t289 != t292) = false := bne_eq_false_iff_eq.mpr c101
 clear c101
 have H' := Aside0.mk H
 clear H
 try go_wp2
 have n0_ := Aside0.mk (blk_drew BK237.out)
 have n1_ := Aside0.mk (IsS68.drew HI236.out)
 have n2_ := Aside0.mk (below_drew1 HB.out)
 clear BK237; clear HI236; clear HB
 have BK237 := n0_
 have HI236 := n1_
 have HB := n2_
 clear n0_ n1_ n2_
 refine start_ (n := 23) (S := fun w' => w'.cell? ⟨gb237, 0, none⟩ = some (.string x238000_15) ∧ w'.cell? ⟨gb237, 1, none⟩ = some (.int .i64 x238001_15)) (ds := []) #[false, false, false, false, false, false, false, false, false, false, false, false, false, false, false, false, false, false, false, false, false, false, false] (by kernel_rfl) rfl rfl ⟨(blk_cell BK237.out 0).trans rfl, (blk_cell BK237.out 1).trans rfl⟩ (fun hHeld => ?_); refine with_tabW splicelaw01_VintReads.tab25 splicelaw01_VintReads.bits25 (fun HT_ HW_ => ?_)
 generalize wc.drew = w102 at BK237 HI236 HB hHeld ⊢
 refine pure_ (i := 0) (N := some 125) (v := ?_) (a' := ?_) #[true, false, false, false, false, false, false, false, false, false, false, false, false, false, false, false, false, false, false, false, false, false, false] rfl rfl (any_of HT_.out (by kernel_rfl)) (fun _ _ _ h => h) (Or.inl ⟨by rfl, ?_⟩) ?_ ?_
 rotate_left
 · intro w'; go_simp; with_reducible rfl
 rotate_left
 · simp only [Act.put, List.setIfInBounds_toArray, List.set_cons_zero, List.set_cons_succ, i64_w, i32_w]; rfl
 refine pure_ (i := 1) (N := some 126) (v := ?_) (a' := ?_) #[true, true, false, false, false, false, false, false, false, false, false, false, false, false, false, false, false, false, false, false, false, false, false] rfl rfl (any_of HT_.out (by kernel_rfl)) (fun _ _ _ h => h) (Or.inl ⟨by rfl, ?_⟩) ?_ ?_
 rotate_left
 · intro w'; go_simp; with_reducible rfl
 rotate_left
 · simp only [Act.put, List.setIfInBounds_toArray, List.set_cons_zero, List.set_cons_succ, i64_w, i32_w]; rfl
 refine pure_ (i := 2) (N := some 127) (v := ?_) (a' := ?_) #[true, true, true, false, false, false, false, false, false, false, false, false, false, false, false, false, false, false, false, false, false, false, false] rfl rfl (any_of HT_.out (by kernel_rfl)) (fun _ _ _ h => h) (Or.inl ⟨by rfl, ?_⟩) ?_ ?_
 rotate_left
 · intro w'; go_simp; with_reducible rfl
 rotate_left
 · simp only [Act.put, List.setIfInBounds_toArray, List.set_cons_zero, List.set_cons_succ, i64_w, i32_w]; rfl
 refine pure_ (i := 3) (N := some 128) (v := ?_) (a' := ?_) #[true, true, true, true, false, false, false, false, false, false, false, false, false, false, false, false, false, false, false, false, false, false, false] rfl rfl (any_of HT_.out (by kernel_rfl)) (fun _ _ _ h => h) (Or.inl ⟨by rfl, ?_⟩) ?_ ?_
 rotate_left
 · intro w'; go_simp; with_reducible rfl
 rotate_left
 · simp only [Act.put, List.setIfInBounds_toArray, List.set_cons_zero, List.set_cons_succ, i64_w, i32_w]; rfl
 refine pure_ (i := 5) (N := some 130) (v := ?_) (a' := ?_) #[true, true, true, true, false, true, false, false, false, false, false, false, false, false, false, false, false, false, false, false, false, false, false] rfl rfl (any_of HT_.out (by kernel_rfl)) (fun _ _ _ h => h) (Or.inl ⟨by rfl, ?_⟩) ?_ ?_
 rotate_left
 · intro w'; go_simp; with_reducible rfl
 rotate_left
 · simp only [Act.put, List.setIfInBounds_toArray, List.set_cons_zero, List.set_cons_succ, i64_w, i32_w]; rfl
 refine take_ (i := 6) (N := some 131) (v := ?_) (a' := ?_) #[true, true, true, true, false, true, true, false, false, false, false, false, false, false, false, false, false, false, false, false, false, false, false] rfl rfl (take_ofW HT_.out HW_.out (by kernel_rfl)) (fun _ _ _ h => h) (Or.inl ⟨by rfl, ?_⟩) hHeld ?_ ?_
 rotate_left
 · rintro w' ⟨s0, s1⟩
   go_simp; with_reducible rfl
 rotate_left
 · simp only [Act.put, List.setIfInBounds_toArray, List.set_cons_zero, List.set_cons_succ, i64_w, i32_w]; rfl
 refine one_ (i := 4) (N := some 129) #[true, true, true, true, true, true, true, false, false, false, false, false, false, false, false, false, false, false, false, false, false, false, false] rfl rfl (one_of HT_.out (by kernel_rfl)) (by decide) (fun K hK => ?_)
 refine goes_ Try.func32 (by kernel_rfl) rfl #[.pointer (some ⟨g236, 0, none⟩)] (by rfl) rfl rfl (by (try simp only [List.map_toArray, List.map_cons, List.map_nil]); first | done | rfl | (simp only [List.length_drop, List.length_take]; rfl)) ?_
 with_reducible refine (vint_Reader_Left.calls g236 x237000_15 x237001_15 t283 t284 t285 w _ ?side1 ?side2 A95.out).mono ?_
 (case side1 => repeat (first | (with_reducible first | exact HI236.out | apply IsS68.alloc | apply IsS68.drewN | apply IsS68.drew | apply IsS68.set_0 | apply IsS68.set_1 | refine IsS68.far ?_ NB236_237.out _) | exact HI236.out))
 (case side2 => repeat (first | (with_reducible first | exact HB.out | apply below_alloc | apply pw_below_drewN | apply below_drew1 | refine below_set ?_ (IsS68.ge HI236.out) | refine below_set ?_ GE237.out) | exact HB.out))
 rintro e w103 ⟨rfl, hi, hb, hk⟩
 refine ⟨_, rfl, ?_⟩
 have n0_ := Aside0.mk (KeepBut.blk hk (g' := gb237) (o := .cells #[.string x238000_15, .int .i64 x238001_15] 44 (0, 0)) (by (with_reducible repeat (first | refine blk_drewN ?_ _ | refine blk_drew ?_ | refine blk_alloc ?_ _)); exact BK237.out) NB237_236.out (by simp))
 have n1_ := Aside0.mk (hb)
 have n2_ := Aside0.mk (hi)
 clear BK237; clear HB; clear HI236
 have BK237 := n0_
 have HB := n1_
 have HI236 := n2_
 clear n0_ n1_ n2_
 (try clear hb)
 (try clear hb2)
 (try clear hk)
 (try clear hi)
 refine hK.out _ _ ⟨(blk_cell BK237.out 0).trans rfl, (blk_cell BK237.out 1).trans rfl⟩ (fun hHeld => ?_)
 clear hK K
 refine norm_ (a' := ?_) ?_ ?_
 rotate_left
 · show Act.put _ (some 129) _ = _
   simp only [Act.put, List.setIfInBounds_toArray, List.set_cons_zero, List.set_cons_succ, i64_w, i32_w]; rfl
 refine pure_ (i := 7) (N := some 132) (v := ?_) (a' := ?_) #[true, true, true, true, true, true, true, true, false, false, false, false, false, false, false, false, false, false, false, false, false, false, false] rfl rfl (any_of HT_.out (by kernel_rfl)) (fun _ _ _ h => h) (Or.inl ⟨by rfl, ?_⟩) ?_ ?_
 rotate_left
 · intro w'; go_simp; with_reducible rfl
 rotate_left
 · simp only [Act.put, List.setIfInBounds_toArray, List.set_cons_zero, List.set_cons_succ, i64_w, i32_w]; rfl
 refine pure_ (i := 8) (N := some 133) (v := ?_) (a' := ?_) #[true, true, true, true, true, true, true, true, true, false, false, false, false, false, false, false, false, false, false, false, false, false, false] rfl rfl (any_of HT_.out (by kernel_rfl)) (fun _ _ _ h => h) (Or.inl ⟨by rfl, ?_⟩) ?_ ?_
 rotate_left
 · intro w'; go_simp; with_reducible rfl
 rotate_left
 · simp only [Act.put, List.setIfInBounds_toArray, List.set_cons_zero, List.set_cons_succ, i64_w, i32_w]; rfl
 refine pure_ (i := 9) (N := some 134) (v := ?_) (a' := ?_) #[true, true, true, true, true, true, true, true, true, true, false, false, false, false, false, false, false, false, false, false, false, false, false] rfl rfl (any_of HT_.out (by kernel_rfl)) (fun _ _ _ h => h) (Or.inl ⟨by rfl, ?_⟩) ?_ ?_
 rotate_left
 · intro w'; go_simp; with_reducible rfl
 rotate_left
 · simp only [Act.put, List.setIfInBounds_toArray, List.set_cons_zero, List.set_cons_succ, i64_w, i32_w]; rfl
 refine pure_ (i := 10) (N := some 135) (v := ?_) (a' := ?_) #[true, true, true, true, true, true, true, true, true, true, true, false, false, false, false, false, false, false, false, false, false, false, false] rfl rfl (any_of HT_.out (by kernel_rfl)) (fun _ _ _ h => h) (Or.inl ⟨by rfl, ?_⟩) ?_ ?_
 rotate_left
 · intro w'; go_simp; with_reducible rfl
 rotate_left
 · simp only [Act.put, List.setIfInBounds_toArray, List.set_cons_zero, List.set_cons_succ, i64_w, i32_w]; rfl
 refine pure_ (i := 12) (N := some 137) (v := ?_) (a' := ?_) #[true, true, true, true, true, true, true, true, true, true, true, false, true, false, false, false, false, false, false, false, false, false, false] rfl rfl (any_of HT_.out (by kernel_rfl)) (fun _ _ _ h => h) (Or.inl ⟨by rfl, ?_⟩) ?_ ?_
 rotate_left
 · intro w'; go_simp; with_reducible rfl
 rotate_left
 · simp only [Act.put, List.setIfInBounds_toArray, List.set_cons_zero, List.set_cons_succ, i64_w, i32_w]; rfl
 refine take_ (i := 13) (N := some 138) (v := ?_) (a' := ?_) #[true, true, true, true, true, true, true, true, true, true, true, false, true, true, false, false, false, false, false, false, false, false, false] rfl rfl (take_ofW HT_.out HW_.out (by kernel_rfl)) (fun _ _ _ h => h) (Or.inl ⟨by rfl, ?_⟩) hHeld ?_ ?_
 rotate_left
 · rintro w' ⟨s0, s1⟩
   go_simp; with_reducible rfl
 rotate_left
 · simp only [Act.put, List.setIfInBounds_toArray, List.set_cons_zero, List.set_cons_succ, i64_w, i32_w]; rfl
 refine one_ (i := 11) (N := some 136) #[true, true, true, true, true, true, true, true, true, true, true, true, true, true, false, false, false, false, false, false, false, false, false] rfl rfl (one_of HT_.out (by kernel_rfl)) (by decide) (fun K hK => ?_)
 refine goes_ Try.func30 (by kernel_rfl) rfl #[.pointer (some ⟨g236, 0, none⟩)] (by rfl) rfl rfl (by (try simp only [List.map_toArray, List.map_cons, List.map_nil]); first | done | rfl | (simp only [List.length_drop, List.length_take]; rfl)) ?_
 with_reducible refine (vint_Reader_Err.calls g236 t284 t285 t286 t287 t288 w _ ?side1 ?side2 A97.out).mono ?_
 (case side1 => repeat (first | (with_reducible first | exact HI236.out | apply IsS68.alloc | apply IsS68.drewN | apply IsS68.drew | apply IsS68.set_0 | apply IsS68.set_1 | refine IsS68.far ?_ NB236_237.out _) | exact HI236.out))
 (case side2 => repeat (first | (with_reducible first | exact HB.out | apply below_alloc | apply pw_below_drewN | apply below_drew1 | refine below_set ?_ (IsS68.ge HI236.out) | refine below_set ?_ GE237.out) | exact HB.out))
 rintro e w104 ⟨rfl, hi, hb, hk⟩
 refine ⟨_, rfl, ?_⟩
 have n0_ := Aside0.mk (KeepBut.blk hk (g' := gb237) (o := .cells #[.string x238000_15, .int .i64 x238001_15] 44 (0, 0)) (by (with_reducible repeat (first | refine blk_drewN ?_ _ | refine blk_drew ?_ | refine blk_alloc ?_ _)); exact BK237.out) NB237_236.out (by simp))
 have n1_ := Aside0.mk (hb)
 have n2_ := Aside0.mk (hi)
 clear BK237; clear HB; clear HI236
 have BK237 := n0_
 have HB := n1_
 have HI236 := n2_
 clear n0_ n1_ n2_
 (try clear hb)
 (try clear hb2)
 (try clear hk)
 (try clear hi)
 refine hK.out _ _ ⟨(blk_cell BK237.out 0).trans rfl, (blk_cell BK237.out 1).trans rfl⟩ (fun hHeld => ?_)
 clear hK K
 refine norm_ (a' := ?_) ?_ ?_
 rotate_left
 · show Act.put _ (some 136) _ = _
   simp only [Act.put, List.setIfInBounds_toArray, List.set_cons_zero, List.set_cons_succ, i64_w, i32_w]; rfl
 refine pure_ (i := 14) (N := some 139) (v := ?_) (a' := ?_) #[true, true, true, true, true, true, true, true, true, true, true, true, true, true, true, false, false, false, false, false, false, false, false] rfl rfl (any_of HT_.out (by kernel_rfl)) (fun _ _ _ h => h) (Or.inl ⟨by rfl, ?_⟩) ?_ ?_
 rotate_left
 · intro w'; go_simp; with_reducible rfl
 rotate_left
 · simp only [Act.put, List.setIfInBounds_toArray, List.set_cons_zero, List.set_cons_succ, i64_w, i32_w]; rfl
 refine pure_ (i := 15) (N := some 140) (v := ?_) (a' := ?_) #[true, true, true, true, true, true, true, true, true, true, true, true, true, true, true, true, false, false, false, false, false, false, false] rfl rfl (any_of HT_.out (by kernel_rfl)) (fun _ _ _ h => h) (Or.inl ⟨by rfl, ?_⟩) ?_ ?_
 rotate_left
 · intro w'; go_simp; with_reducible rfl
 rotate_left
 · simp only [Act.put, List.setIfInBounds_toArray, List.set_cons_zero, List.set_cons_succ, i64_w, i32_w]; rfl
 refine pure_ (i := 16) (N := some 141) (v := ?_) (a' := ?_) #[true, true, true, true, true, true, true, true, true, true, true, true, true, true, true, true, true, false, false, false, false, false, false] rfl rfl (any_of HT_.out (by kernel_rfl)) (fun _ _ _ h => h) (Or.inl ⟨by rfl, ?_⟩) ?_ ?_
 rotate_left
 · intro w'; go_simp; with_reducible rfl
 rotate_left
 · simp only [Act.put, List.setIfInBounds_toArray, List.set_cons_zero, List.set_cons_succ, i64_w, i32_w]; rfl
 refine pure_ (i := 17) (N := some 142) (v := ?_) (a' := ?_) #[true, true, true, true, true, true, true, true, true, true, true, true, true, true, true, true, true, true, false, false, false, false, false] rfl rfl (any_of HT_.out (by kernel_rfl)) (fun _ _ _ h => h) (Or.inl ⟨by rfl, ?_⟩) ?_ ?_
 rotate_left
 · intro w'; go_simp; with_reducible rfl
 rotate_left
 · simp only [Act.put, List.setIfInBounds_toArray, List.set_cons_zero, List.set_cons_succ, i64_w, i32_w]; rfl
 refine take_ (i := 19) (N := some 144) (v := ?_) (a' := ?_) #[true, true, true, true, true, true, true, true, true, true, true, true, true, true, true, true, true, true, false, true, false, false, false] rfl rfl (take_ofW HT_.out HW_.out (by kernel_rfl)) (fun _ _ _ h => h) (Or.inl ⟨by rfl, ?_⟩) hHeld ?_ ?_
 rotate_left
 · rintro w' ⟨s0, s1⟩
   go_simp; with_reducible rfl
 rotate_left
 · simp only [Act.put, List.setIfInBounds_toArray, List.set_cons_zero, List.set_cons_succ, i64_w, i32_w]; rfl
 refine one_ (i := 18) (N := some 143) #[true, true, true, true, true, true, true, true, true, true, true, true, true, true, true, true, true, true, true, true, false, false, false] rfl rfl (one_of HT_.out (by kernel_rfl)) (by decide) (fun K hK => ?_)
 refine goes_ Try.func27 (by kernel_rfl) rfl #[.pointer (some ⟨g236, 0, none⟩)] (by rfl) rfl rfl (by (try simp only [List.map_toArray, List.map_cons, List.map_nil]); first | done | rfl | (simp only [List.length_drop, List.length_take]; rfl)) ?_
 with_reducible refine (vint_Reader_End.calls g236 t287 t288 t289 t290 t291 w _ ?side1 ?side2 A99.out).mono ?_
 (case side1 => repeat (first | (with_reducible first | exact HI236.out | apply IsS68.alloc | apply IsS68.drewN | apply IsS68.drew | apply IsS68.set_0 | apply IsS68.set_1 | refine IsS68.far ?_ NB236_237.out _) | exact HI236.out))
 (case side2 => repeat (first | (with_reducible first | exact HB.out | apply below_alloc | apply pw_below_drewN | apply below_drew1 | refine below_set ?_ (IsS68.ge HI236.out) | refine below_set ?_ GE237.out) | exact HB.out))
 rintro e w105 ⟨rfl, hi, hb, hk⟩
 refine ⟨_, rfl, ?_⟩
 have n0_ := Aside0.mk (KeepBut.blk hk (g' := gb237) (o := .cells #[.string x238000_15, .int .i64 x238001_15] 44 (0, 0)) (by (with_reducible repeat (first | refine blk_drewN ?_ _ | refine blk_drew ?_ | refine blk_alloc ?_ _)); exact BK237.out) NB237_236.out (by simp))
 have n1_ := Aside0.mk (hb)
 have n2_ := Aside0.mk (hi)
 clear BK237; clear HB; clear HI236
 have BK237 := n0_
 have HB := n1_
 have HI236 := n2_
 clear n0_ n1_ n2_
 (try clear hb)
 (try clear hb2)
 (try clear hk)
 (try clear hi)
 refine hK.out _ _ ⟨(blk_cell BK237.out 0).trans rfl, (blk_cell BK237.out 1).trans rfl⟩ (fun hHeld => ?_)
 clear hK K
 refine norm_ (a' := ?_) ?_ ?_
 rotate_left
 · show Act.put _ (some 143) _ = _
   simp only [Act.put, List.setIfInBounds_toArray, List.set_cons_zero, List.set_cons_succ, i64_w, i32_w]; rfl
 refine one_ (i := 20) (N := some 145) #[true, true, true, true, true, true, true, true, true, true, true, true, true, true, true, true, true, true, true, true, true, false, false] rfl rfl (one_of HT_.out (by kernel_rfl)) (by decide) (fun K hK => ?_)
 refine goes_ Try.func40 (by kernel_rfl) rfl #[.agg #[.string x238000_15, .int .i64 x238001_15]] (by rfl) rfl rfl (by (try simp only [List.map_toArray, List.map_cons, List.map_nil]); first | done | rfl | (simp only [List.length_drop, List.length_take]; rfl)) ?_
 with_reducible refine (spliceref01_Reader_End.calls x238000_15 x238001_15 t292 _ A100.out).mono ?_
 rintro e w106 ⟨rfl, hb⟩
 refine ⟨_, rfl, ?_⟩
 have n0_ := Aside0.mk (blk_below (g := gb237) (o := .cells #[.string x238000_15, .int .i64 x238001_15] 44 (0, 0)) (by (with_reducible repeat (first | refine blk_drewN ?_ _ | refine blk_drew ?_ | refine blk_alloc ?_ _)); exact BK237.out) hb)
 have n1_ := Aside0.mk (IsS68.below (by repeat (first | (with_reducible first | exact HI236.out | apply IsS68.alloc | apply IsS68.drewN | apply IsS68.drew | apply IsS68.set_0 | apply IsS68.set_1 | refine IsS68.far ?_ NB236_237.out _) | exact HI236.out)) hb)
 have n2_ := Aside0.mk (below_step (by repeat (first | (with_reducible first | exact HB.out | apply below_alloc | apply pw_below_drewN | apply below_drew1 | refine below_set ?_ (IsS68.ge HI236.out) | refine below_set ?_ GE237.out) | exact HB.out)) hb)
 clear BK237; clear HI236; clear HB
 have BK237 := n0_
 have HI236 := n1_
 have HB := n2_
 clear n0_ n1_ n2_
 (try clear hb)
 (try clear hb2)
 (try clear hk)
 (try clear hi)
 refine hK.out _ _ ⟨(blk_cell BK237.out 0).trans rfl, (blk_cell BK237.out 1).trans rfl⟩ (fun hHeld => ?_)
 clear hK K
 refine norm_ (a' := ?_) ?_ ?_
 rotate_left
 · show Act.put _ (some 145) _ = _
   simp only [Act.put, List.setIfInBounds_toArray, List.set_cons_zero, List.set_cons_succ, i64_w, i32_w]; rfl
 refine pure_ (i := 21) (N := some 146) (v := ?_) (a' := ?_) #[true, true, true, true, true, true, true, true, true, true, true, true, true, true, true, true, true, true, true, true, true, true, false] rfl rfl (any_of HT_.out (by kernel_rfl)) (fun _ _ _ h => h) (Or.inl ⟨by rfl, ?_⟩) ?_ ?_
 rotate_left
 · intro w'; go_simp; with_reducible rfl
 rotate_left
 · simp only [Act.put, List.setIfInBounds_toArray, List.set_cons_zero, List.set_cons_succ, i64_w, i32_w]; rfl
 refine pure_ (i := 22) (N := some 147) (v := ?_) (a' := ?_) #[true, true, true, true, true, true, true, true, true, true, true, true, true, true, true, true, true, true, true, true, true, true, true] rfl rfl (any_of HT_.out (by kernel_rfl)) (fun _ _ _ h => h) (Or.inl ⟨by rfl, ?_⟩) ?_ ?_
 rotate_left
 · intro w'; go_simp; with_reducible rfl
 rotate_left
 · simp only [Act.put, List.setIfInBounds_toArray, List.set_cons_zero, List.set_cons_succ, i64_w, i32_w]; rfl
 refine done_ (done_of HT_.out (by kernel_rfl)) ?_
 try go_wp2
 go_roundg kj15
 case measure => have := HK1.out; have := HJ10.out; have := HJ15.out; omega
 case rel => exact ⟨(wrap64 (x7_1 + 1)), (t290), (t291), (x238000_15), (x238001_15), (by first | rfl | (simp; done) | (simp [*]; done)), H', ⟨by have := HK1.out; have := HJ10.out; have := HJ15.out; omega⟩, ⟨by (with_reducible repeat (first | refine blk_drewN ?_ _ | refine blk_drew ?_ | refine blk_alloc ?_ _)); exact BK237.out⟩, ⟨by repeat (first | (with_reducible first | exact HI236.out | apply IsS68.alloc | apply IsS68.drewN | apply IsS68.drew | apply IsS68.set_0 | apply IsS68.set_1 | refine IsS68.far ?_ NB236_237.out _) | exact HI236.out)⟩, ⟨by repeat (first | (with_reducible first | exact HB.out | apply below_alloc | apply pw_below_drewN | apply below_drew1 | refine below_set ?_ (IsS68.ge HI236.out) | refine below_set ?_ GE237.out) | exact HB.out)⟩⟩
/-- THE ONE PURE STATEMENT of splicelaw01_VintReads: yours. -/
def splicelaw01_VintReads.Pure : Prop := ∀ (x0 : ByteArray) (x1 : List (S46)), x0.size ≤ 140737488351232 → (x1.length * 16 ≤ 140737488351232 ∧ x1.length ≤ maxLen ∧ ∀ y0 ∈ x1, wf46 y0) → ∃ k, splicelaw01_VintReads.f k x0 x1 = some true

end Go.Proofs.Ytiljbfnnnblbpaa.PR
