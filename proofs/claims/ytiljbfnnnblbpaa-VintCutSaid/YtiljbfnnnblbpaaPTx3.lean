-- written by a program of this session
import Derived.Test.YtiljbfnnnblbpaaPTx0
import Derived.Test.YtiljbfnnnblbpaaPTx1
import Derived.Test.YtiljbfnnnblbpaaPTx2
namespace Go.Proofs.Ytiljbfnnnblbpaa.PT
open Go.RowKit Go.Proofs.Ytiljbfnnnblbpaa.Op Go.Proofs.YtiljbfnnnblbpaaW.PrintWords Go.Proofs.YtiljbfnnnblbpaaW.PrintLast Go.Proofs.YtiljbfnnnblbpaaW.PrintMore
attribute [local go_sem] max2_int min2_int max_two min_two max_three min_three max_four min_four   -- for this text's walks alone
set_option linter.unusedVariables false
set_option linter.unusedSimpArgs false

/-! ### splicelaw01_VintCut: function 8 (three readers at once: by hand) -/
def cut1 (s : ByteArray) : ByteArray := s.extract 0 (s.size - 1)
def cutOk (k : Nat) (a0 a1 : Int) (a2 : ByteArray) : Bool :=
  match vint_Num.f k a0, vint_Whole.f k a1, vint_Text.f k a2 with
  | some a, some b, some c => decide (a.size ≤ 1000000) && decide (b.size ≤ 1000000) && decide (c.size ≤ 1000000) && decide (a.size ≠ 0) && decide (b.size ≠ 0) && decide (c.size ≠ 0) &&
    (match vint_Reader_Num.f k (cut1 a) 0, vint_Reader_Whole.f k (cut1 b) 0, vint_Reader_Text.f k (cut1 c) 0 2000 with
     | some x, some y, some z => decide (x.2.2 = 5) && decide (y.2.2 = 5) && decide (z.2.2 = 5)
     | _, _, _ => false)
  | _, _, _ => false
def splicelaw01_VintCut.f (k : Nat) (a0 : Int) (a1 : Int) (a2 : ByteArray) : Option (Bool) :=
  if a0 < 0 then splicelaw01_awake.f k else (spliceref01_May.f a1).bind fun m => if m = true then (if (a2.size : Int) > 2000 then splicelaw01_awake.f k else if cutOk k a0 a1 a2 = true then splicelaw01_awake.f k else none) else splicelaw01_awake.f k
structure Rd3 (w W : World) (ga gb gc : Nat) (sa sb sc : ByteArray) (ea eb ec : Int) : Prop where
  a : IsS68 w W ga sa ea
  b : IsS68 w W gb sb eb
  c : IsS68 w W gc sc ec
  ab : ga ≠ gb
  ac : ga ≠ gc
  bc : gb ≠ gc
  bel : Below w.heap.size w W
theorem Rd3.mk3 {w wa wb wc : World} {ga gb gc : Nat} {sa sb sc : ByteArray} (hIa : IsS68 w wa ga sa 0) (hba : Below w.heap.size w wa) (hIb : IsS68 wa wb gb sb 0) (hbb : Below wa.heap.size wa wb) (hIc : IsS68 wb wc gc sc 0) (hbc : Below wb.heap.size wb wc) : Rd3 w wc ga gb gc sa sb sc 0 0 0 := by
  have a1 := hIa.lt
  have b1 := hIb.lt
  have b2 := hIb.ge
  have c2 := hIc.ge
  have s1 := hba.size
  have s2 := hbb.size
  exact ⟨(hIa.below hbb).below hbc, (hIb.below hbc).up s1, hIc.up (Nat.le_trans s1 s2), by omega, by omega, by omega, (hba.trans (hbb.mono s1)).trans (hbc.mono (Nat.le_trans s1 s2))⟩
section
variable {w W W' : World} {ga gb gc : Nat} {sa sb sc t : ByteArray} {ea eb ec e : Int}
theorem Rd3.below (h : Rd3 w W ga gb gc sa sb sc ea eb ec) (hb : Below W.heap.size W W') : Rd3 w W' ga gb gc sa sb sc ea eb ec :=
  ⟨h.a.below hb, h.b.below hb, h.c.below hb, h.ab, h.ac, h.bc, h.bel.trans (hb.mono h.bel.size)⟩
theorem Rd3.seta (h : Rd3 w W ga gb gc sa sb sc ea eb ec) (hI : IsS68 w W' ga t e) (hb : Below w.heap.size w W') (hk : KeepBut W W' ga none) : Rd3 w W' ga gb gc t sb sc e eb ec :=
  ⟨hI, h.b.keep hk h.ab.symm, h.c.keep hk h.ac.symm, h.ab, h.ac, h.bc, hb⟩
theorem Rd3.setb (h : Rd3 w W ga gb gc sa sb sc ea eb ec) (hI : IsS68 w W' gb t e) (hb : Below w.heap.size w W') (hk : KeepBut W W' gb none) : Rd3 w W' ga gb gc sa t sc ea e ec :=
  ⟨h.a.keep hk h.ab, hI, h.c.keep hk h.bc.symm, h.ab, h.ac, h.bc, hb⟩
theorem Rd3.setc (h : Rd3 w W ga gb gc sa sb sc ea eb ec) (hI : IsS68 w W' gc t e) (hb : Below w.heap.size w W') (hk : KeepBut W W' gc none) : Rd3 w W' ga gb gc sa sb t ea eb e :=
  ⟨h.a.keep hk h.ac, h.b.keep hk h.bc, hI, h.ab, h.ac, h.bc, hb⟩
end
theorem cut_facts (a : ByteArray) (h0 : a.size ≠ 0) (h1 : a.size ≤ 1000000) : wrap64 ((a.size : Int) - 1) = ((a.size - 1 : Nat) : Int) ∧ IntKind.i64.wrap ((a.size : Int) - 1) = ((a.size - 1 : Nat) : Int) ∧ ((a.size - 1 : Nat) : Int) ≤ (a.size : Int) ∧ (0 : Int) ≤ ((a.size - 1 : Nat) : Int) ∧ a.size - 1 ≤ a.size := by
  have e : wrap64 ((a.size : Int) - 1) = ((a.size - 1 : Nat) : Int) := by unfold wrap64; omega
  exact ⟨e, (i64_w _).trans e, by omega, by omega, by omega⟩
theorem nonempty_facts (a : ByteArray) (h0 : a.size ≠ 0) : (a = (⟨#[]⟩ : ByteArray)) = False ∧ decide (a = (⟨#[]⟩ : ByteArray)) = false ∧ (a.toList = []) = False ∧ a.toList.isEmpty = false := by
  have h : a ≠ (⟨#[]⟩ : ByteArray) := fun e => h0 (by rw [e]; rfl)
  have hl : a.toList ≠ [] := by
    intro e
    apply h
    apply ByteArray.ext
    rw [ByteArray.toList_eq] at e
    exact Array.toList_eq_nil_iff.mp e
  exact ⟨eq_false h, decide_eq_false h, eq_false hl, by rw [Bool.eq_false_iff]; intro e; exact hl (List.isEmpty_iff.mp e)⟩
def vcut6.T : Bool × List (List Nat × List Nat) := (true, [([], []), ([], []), ([1], [1]), ([2], [2]), ([0, 3], [0, 3]), ([4], [4]), ([], []), ([], []), ([7], [7]), ([8], [8]), ([6, 9], [6, 9]), ([10, 5], [10]), ([], []), ([], []), ([13], [13]), ([14], [14]), ([12, 15], [12, 15]), ([16, 11], [16]), ([5, 17, 0, 1, 2, 3, 4, 5], [5]), ([11, 18, 0, 1, 2, 3, 4, 5, 6, 7, 8, 9, 10, 11, 18], [11]), ([17, 19, 0, 1, 2, 3, 4, 5, 6, 7, 8, 9, 10, 11, 12, 13, 14, 15, 16, 17, 18, 19], [17])])
def vcut6.B : List Nat := [0, 0, 2, 6, 15, 31, 0, 0, 128, 384, 960, 1984, 0, 0, 8192, 24576, 61440, 126976, 63, 4032, 258048]
theorem vcut6.tab : rtab .any (opsOf Try.f8 6) = vcut6.T := by kernel_rfl
theorem vcut6.bits : waitsOk vcut6.T.2 vcut6.B = true := by kernel_rfl
set_option maxHeartbeats 8000000 in
set_option maxRecDepth 100000 in
theorem splicelaw01_VintCut.walk (k : Nat) (n z : Int) (s : ByteArray) (w : World) (hn : ¬ n < 0) (hm : spliceref01_May.f z = some true) (hs : ¬ (s.size : Int) > 2000) (a b c : ByteArray) (ha : vint_Num.f k n = some a) (hb : vint_Whole.f k z = some b) (hc : vint_Text.f k s = some c) (a0 : a.size ≠ 0) (b0 : b.size ≠ 0) (c0 : c.size ≠ 0) (a9 : a.size ≤ 1000000) (b9 : b.size ≤ 1000000) (c9 : c.size ≤ 1000000)
    (x : Int) (sx : ByteArray) (hx : vint_Reader_Num.f k (cut1 a) 0 = some (x, sx, 5)) (y : Int) (sy : ByteArray) (hy : vint_Reader_Whole.f k (cut1 b) 0 = some (y, sy, 5)) (t : ByteArray) (st : ByteArray) (ht : vint_Reader_Text.f k (cut1 c) 0 2000 = some (t, st, 5)) (haw : splicelaw01_awake.f k = some true) :
    Calls Try.prog 8 #[.int .i64 n, .int .i64 z, .string s] w fun e w' => e = .returned (.bool true) ∧ Below w.heap.size w w' := by
  have q0 : decide (n < 0) = false := decide_eq_false hn
  have q1 : decide ((s.size : Int) > 2000) = false := decide_eq_false hs
  have q2 : decide ((2000 : Int) < (s.size : Int)) = false := decide_eq_false hs
  obtain ⟨fa1, fa2, fa3, fa4, fa5⟩ := cut_facts a a0 a9
  obtain ⟨fb1, fb2, fb3, fb4, fb5⟩ := cut_facts b b0 b9
  obtain ⟨fc1, fc2, fc3, fc4, fc5⟩ := cut_facts c c0 c9
  obtain ⟨na1, na2, na4, na5⟩ := nonempty_facts a a0
  obtain ⟨nb1, nb2, nb4, nb5⟩ := nonempty_facts b b0
  obtain ⟨nc1, nc2, nc4, nc5⟩ := nonempty_facts c c0
  have HM := Aside0.mk hm
  have HA := Aside0.mk ha
  have HB := Aside0.mk hb
  have HC := Aside0.mk hc
  have HX := Aside0.mk hx
  have HY := Aside0.mk hy
  have HT := Aside0.mk ht
  have HW := Aside0.mk haw
  have EA := Aside0.mk (show vint_Reader_Err.f sx 5 = some (5, sx, 5) from rfl)
  have EB := Aside0.mk (show vint_Reader_Err.f sy 5 = some (5, sy, 5) from rfl)
  have EC := Aside0.mk (show vint_Reader_Err.f st 5 = some (5, st, 5) from rfl)
  clear hn hm hs ha hb hc hx hy ht haw a0 b0 c0 a9 b9 c9
  have HBel := Aside0.mk (Below.refl w.heap.size w)
  go_enter Try.func8, Try.ntmps8
  go_wp2_with (first
    | (go_at_call 19; with_reducible refine (spliceref01_May.calls z true _ HM.out).mono ?_; rintro e w1 ⟨rfl, hd⟩; replace HBel := Aside0.mk (HBel.out.trans (Drawn0.below hd)); clear hd)
    | (go_at_call 18; with_reducible refine (vint_Num.calls k n a _ HA.out).mono ?_; rintro e w2 ⟨rfl, hd⟩; replace HBel := Aside0.mk (HBel.out.trans (hd.mono HBel.out.size)); clear hd)
    | (go_at_call 20; with_reducible refine (vint_Whole.calls k z b _ HB.out).mono ?_; rintro e w3 ⟨rfl, hd⟩; replace HBel := Aside0.mk (HBel.out.trans (hd.mono HBel.out.size)); clear hd)
    | (go_at_call 14; with_reducible refine (vint_Text.calls k s c _ HC.out).mono ?_; rintro e w4 ⟨rfl, hd⟩; replace HBel := Aside0.mk (HBel.out.trans (hd.mono HBel.out.size)); clear hd))
  refine start_ (n := 21) (S := fun _ => True) (ds := []) #[false, false, false, false, false, false, false, false, false, false, false, false, false, false, false, false, false, false, false, false, false] (by kernel_rfl) rfl rfl trivial (fun hHeld => ?_); refine with_tabW vcut6.tab vcut6.bits (fun HT_ HW_ => ?_)
  refine pure_ (i := 0) (N := some 42) (v := ?_) (a' := ?_) #[true, false, false, false, false, false, false, false, false, false, false, false, false, false, false, false, false, false, false, false, false] rfl rfl (any_of HT_.out (by kernel_rfl)) (fun _ _ _ h => h) (Or.inl ⟨by rfl, ?_⟩) ?_ ?_
  rotate_left
  · intro w'
    go_simp
    with_reducible rfl
  rotate_left
  · simp only [Act.put, List.setIfInBounds_toArray, List.set_cons_zero, List.set_cons_succ, i64_w, i32_w]
    rfl
  refine pure_ (i := 1) (N := some 43) (v := ?_) (a' := ?_) #[true, true, false, false, false, false, false, false, false, false, false, false, false, false, false, false, false, false, false, false, false] rfl rfl (any_of HT_.out (by kernel_rfl)) (fun _ _ _ h => h) (Or.inl ⟨by rfl, ?_⟩) ?_ ?_
  rotate_left
  · intro w'
    go_simp
    with_reducible rfl
  rotate_left
  · simp only [Act.put, List.setIfInBounds_toArray, List.set_cons_zero, List.set_cons_succ, i64_w, i32_w]
    rfl
  refine pure_ (i := 2) (N := some 44) (v := ?_) (a' := ?_) #[true, true, true, false, false, false, false, false, false, false, false, false, false, false, false, false, false, false, false, false, false] rfl rfl (any_of HT_.out (by kernel_rfl)) (fun _ _ _ h => h) (Or.inl ⟨by rfl, ?_⟩) ?_ ?_
  rotate_left
  · intro w'
    go_simp
    with_reducible rfl
  rotate_left
  · simp only [Act.put, List.setIfInBounds_toArray, List.set_cons_zero, List.set_cons_succ, i64_w, i32_w]
    rfl
  refine pure_ (i := 3) (N := some 45) (v := ?_) (a' := ?_) #[true, true, true, true, false, false, false, false, false, false, false, false, false, false, false, false, false, false, false, false, false] rfl rfl (any_of HT_.out (by kernel_rfl)) (fun _ _ _ h => h) (Or.inl ⟨by rfl, ?_⟩) ?_ ?_
  rotate_left
  · intro w'
    go_simp
    with_reducible rfl
  rotate_left
  · simp only [Act.put, List.setIfInBounds_toArray, List.set_cons_zero, List.set_cons_succ, i64_w, i32_w]
    rfl
  refine pure_ (i := 4) (N := some 46) (v := ?_) (a' := ?_) #[true, true, true, true, true, false, false, false, false, false, false, false, false, false, false, false, false, false, false, false, false] rfl rfl (any_of HT_.out (by kernel_rfl)) (fun _ _ _ h => h) (Or.inl ⟨by rfl, ?_⟩) ?_ ?_
  rotate_left
  · intro w'
    go_simp
    with_reducible rfl
  rotate_left
  · simp only [Act.put, List.setIfInBounds_toArray, List.set_cons_zero, List.set_cons_succ, i64_w, i32_w]
    rfl
  refine pure_ (i := 6) (N := some 48) (v := ?_) (a' := ?_) #[true, true, true, true, true, false, true, false, false, false, false, false, false, false, false, false, false, false, false, false, false] rfl rfl (any_of HT_.out (by kernel_rfl)) (fun _ _ _ h => h) (Or.inl ⟨by rfl, ?_⟩) ?_ ?_
  rotate_left
  · intro w'
    go_simp
    with_reducible rfl
  rotate_left
  · simp only [Act.put, List.setIfInBounds_toArray, List.set_cons_zero, List.set_cons_succ, i64_w, i32_w]
    rfl
  refine pure_ (i := 7) (N := some 49) (v := ?_) (a' := ?_) #[true, true, true, true, true, false, true, true, false, false, false, false, false, false, false, false, false, false, false, false, false] rfl rfl (any_of HT_.out (by kernel_rfl)) (fun _ _ _ h => h) (Or.inl ⟨by rfl, ?_⟩) ?_ ?_
  rotate_left
  · intro w'
    go_simp
    with_reducible rfl
  rotate_left
  · simp only [Act.put, List.setIfInBounds_toArray, List.set_cons_zero, List.set_cons_succ, i64_w, i32_w]
    rfl
  refine pure_ (i := 8) (N := some 50) (v := ?_) (a' := ?_) #[true, true, true, true, true, false, true, true, true, false, false, false, false, false, false, false, false, false, false, false, false] rfl rfl (any_of HT_.out (by kernel_rfl)) (fun _ _ _ h => h) (Or.inl ⟨by rfl, ?_⟩) ?_ ?_
  rotate_left
  · intro w'
    go_simp
    with_reducible rfl
  rotate_left
  · simp only [Act.put, List.setIfInBounds_toArray, List.set_cons_zero, List.set_cons_succ, i64_w, i32_w]
    rfl
  refine pure_ (i := 9) (N := some 51) (v := ?_) (a' := ?_) #[true, true, true, true, true, false, true, true, true, true, false, false, false, false, false, false, false, false, false, false, false] rfl rfl (any_of HT_.out (by kernel_rfl)) (fun _ _ _ h => h) (Or.inl ⟨by rfl, ?_⟩) ?_ ?_
  rotate_left
  · intro w'
    go_simp
    with_reducible rfl
  rotate_left
  · simp only [Act.put, List.setIfInBounds_toArray, List.set_cons_zero, List.set_cons_succ, i64_w, i32_w]
    rfl
  refine pure_ (i := 10) (N := some 52) (v := ?_) (a' := ?_) #[true, true, true, true, true, false, true, true, true, true, true, false, false, false, false, false, false, false, false, false, false] rfl rfl (any_of HT_.out (by kernel_rfl)) (fun _ _ _ h => h) (Or.inl ⟨by rfl, ?_⟩) ?_ ?_
  rotate_left
  · intro w'
    go_simp
    with_reducible rfl
  rotate_left
  · simp only [Act.put, List.setIfInBounds_toArray, List.set_cons_zero, List.set_cons_succ, i64_w, i32_w]
    rfl
  refine pure_ (i := 12) (N := some 54) (v := ?_) (a' := ?_) #[true, true, true, true, true, false, true, true, true, true, true, false, true, false, false, false, false, false, false, false, false] rfl rfl (any_of HT_.out (by kernel_rfl)) (fun _ _ _ h => h) (Or.inl ⟨by rfl, ?_⟩) ?_ ?_
  rotate_left
  · intro w'
    go_simp
    with_reducible rfl
  rotate_left
  · simp only [Act.put, List.setIfInBounds_toArray, List.set_cons_zero, List.set_cons_succ, i64_w, i32_w]
    rfl
  refine pure_ (i := 13) (N := some 55) (v := ?_) (a' := ?_) #[true, true, true, true, true, false, true, true, true, true, true, false, true, true, false, false, false, false, false, false, false] rfl rfl (any_of HT_.out (by kernel_rfl)) (fun _ _ _ h => h) (Or.inl ⟨by rfl, ?_⟩) ?_ ?_
  rotate_left
  · intro w'
    go_simp
    with_reducible rfl
  rotate_left
  · simp only [Act.put, List.setIfInBounds_toArray, List.set_cons_zero, List.set_cons_succ, i64_w, i32_w]
    rfl
  refine pure_ (i := 14) (N := some 56) (v := ?_) (a' := ?_) #[true, true, true, true, true, false, true, true, true, true, true, false, true, true, true, false, false, false, false, false, false] rfl rfl (any_of HT_.out (by kernel_rfl)) (fun _ _ _ h => h) (Or.inl ⟨by rfl, ?_⟩) ?_ ?_
  rotate_left
  · intro w'
    go_simp
    with_reducible rfl
  rotate_left
  · simp only [Act.put, List.setIfInBounds_toArray, List.set_cons_zero, List.set_cons_succ, i64_w, i32_w]
    rfl
  refine pure_ (i := 15) (N := some 57) (v := ?_) (a' := ?_) #[true, true, true, true, true, false, true, true, true, true, true, false, true, true, true, true, false, false, false, false, false] rfl rfl (any_of HT_.out (by kernel_rfl)) (fun _ _ _ h => h) (Or.inl ⟨by rfl, ?_⟩) ?_ ?_
  rotate_left
  · intro w'
    go_simp
    with_reducible rfl
  rotate_left
  · simp only [Act.put, List.setIfInBounds_toArray, List.set_cons_zero, List.set_cons_succ, i64_w, i32_w]
    rfl
  refine pure_ (i := 16) (N := some 58) (v := ?_) (a' := ?_) #[true, true, true, true, true, false, true, true, true, true, true, false, true, true, true, true, true, false, false, false, false] rfl rfl (any_of HT_.out (by kernel_rfl)) (fun _ _ _ h => h) (Or.inl ⟨by rfl, ?_⟩) ?_ ?_
  rotate_left
  · intro w'
    go_simp
    with_reducible rfl
  rotate_left
  · simp only [Act.put, List.setIfInBounds_toArray, List.set_cons_zero, List.set_cons_succ, i64_w, i32_w]
    rfl
  refine one_ (i := 5) (N := some 47) #[true, true, true, true, true, true, true, true, true, true, true, false, true, true, true, true, true, false, false, false, false] rfl rfl (one_of HT_.out (by kernel_rfl)) (by decide) (fun K hK => ?_)
  refine goes_ Try.func25 (by kernel_rfl) rfl #[.string (cut1 a)] (by rfl) rfl rfl (by simp only [List.map_toArray, List.map_cons, List.map_nil]; rfl) ?_
  refine (vint_From.calls (cut1 a) (cut1 a) 0 _ _ (Below.refl _ _) rfl).mono ?_
  rintro e wa ⟨ga, rfl, hI, hb, hb2⟩
  refine ⟨_, rfl, ?_⟩
  have HA1 := Aside0.mk (And.intro hI hb)
  clear hI hb hb2
  refine hK.out _ _ trivial (fun hHeld => ?_)
  clear hK K
  refine norm_ (a' := ?_) ?_ ?_
  rotate_left
  · show Act.put _ (some 47) _ = _
    simp only [Act.put, List.setIfInBounds_toArray, List.set_cons_zero, List.set_cons_succ, i64_w, i32_w]
    rfl
  refine one_ (i := 11) (N := some 53) #[true, true, true, true, true, true, true, true, true, true, true, true, true, true, true, true, true, false, false, false, false] rfl rfl (one_of HT_.out (by kernel_rfl)) (by decide) (fun K hK => ?_)
  refine goes_ Try.func25 (by kernel_rfl) rfl #[.string (cut1 b)] (by rfl) rfl rfl (by simp only [List.map_toArray, List.map_cons, List.map_nil]; rfl) ?_
  refine (vint_From.calls (cut1 b) (cut1 b) 0 _ _ (Below.refl _ _) rfl).mono ?_
  rintro e wb ⟨gb, rfl, hI, hb, hb2⟩
  refine ⟨_, rfl, ?_⟩
  have HB1 := Aside0.mk (And.intro hI hb)
  clear hI hb hb2
  refine hK.out _ _ trivial (fun hHeld => ?_)
  clear hK K
  refine norm_ (a' := ?_) ?_ ?_
  rotate_left
  · show Act.put _ (some 53) _ = _
    simp only [Act.put, List.setIfInBounds_toArray, List.set_cons_zero, List.set_cons_succ, i64_w, i32_w]
    rfl
  refine one_ (i := 17) (N := some 59) #[true, true, true, true, true, true, true, true, true, true, true, true, true, true, true, true, true, true, false, false, false] rfl rfl (one_of HT_.out (by kernel_rfl)) (by decide) (fun K hK => ?_)
  refine goes_ Try.func25 (by kernel_rfl) rfl #[.string (cut1 c)] (by rfl) rfl rfl (by simp only [List.map_toArray, List.map_cons, List.map_nil]; rfl) ?_
  refine (vint_From.calls (cut1 c) (cut1 c) 0 _ _ (Below.refl _ _) rfl).mono ?_
  rintro e wc ⟨gc, rfl, hI, hb, hb2⟩
  refine ⟨_, rfl, ?_⟩
  have HC1 := Aside0.mk (And.intro hI hb)
  clear hI hb hb2
  refine hK.out _ _ trivial (fun hHeld => ?_)
  clear hK K
  refine norm_ (a' := ?_) ?_ ?_
  rotate_left
  · show Act.put _ (some 59) _ = _
    simp only [Act.put, List.setIfInBounds_toArray, List.set_cons_zero, List.set_cons_succ, i64_w, i32_w]
    rfl
  refine pure_ (i := 18) (N := some 10) (v := ?_) (a' := ?_) #[true, true, true, true, true, true, true, true, true, true, true, true, true, true, true, true, true, true, true, false, false] rfl rfl (any_of HT_.out (by kernel_rfl)) (fun _ _ _ h => h) (Or.inl ⟨by rfl, ?_⟩) ?_ ?_
  rotate_left
  · intro w'
    go_simp
    with_reducible rfl
  rotate_left
  · simp only [Act.put, List.setIfInBounds_toArray, List.set_cons_zero, List.set_cons_succ, i64_w, i32_w]
    rfl
  refine pure_ (i := 19) (N := some 11) (v := ?_) (a' := ?_) #[true, true, true, true, true, true, true, true, true, true, true, true, true, true, true, true, true, true, true, true, false] rfl rfl (any_of HT_.out (by kernel_rfl)) (fun _ _ _ h => h) (Or.inl ⟨by rfl, ?_⟩) ?_ ?_
  rotate_left
  · intro w'
    go_simp
    with_reducible rfl
  rotate_left
  · simp only [Act.put, List.setIfInBounds_toArray, List.set_cons_zero, List.set_cons_succ, i64_w, i32_w]
    rfl
  refine pure_ (i := 20) (N := some 12) (v := ?_) (a' := ?_) #[true, true, true, true, true, true, true, true, true, true, true, true, true, true, true, true, true, true, true, true, true] rfl rfl (any_of HT_.out (by kernel_rfl)) (fun _ _ _ h => h) (Or.inl ⟨by rfl, ?_⟩) ?_ ?_
  rotate_left
  · intro w'
    go_simp
    with_reducible rfl
  rotate_left
  · simp only [Act.put, List.setIfInBounds_toArray, List.set_cons_zero, List.set_cons_succ, i64_w, i32_w]
    rfl
  refine done_ (done_of HT_.out (by kernel_rfl)) ?_
  have HBd := Aside0.mk (below_drew1 HBel.out)
  have HR := Aside0.mk (Rd3.mk3 HA1.out.1 HA1.out.2 HB1.out.1 HB1.out.2 HC1.out.1 HC1.out.2)
  clear HA1 HB1 HC1 HBel
  go_wp2_with (first
    | (go_at_call 26; with_reducible refine (vint_Reader_Num.calls k ga _ _ _ _ _ _ _ HR.out.a HR.out.bel HX.out).mono ?_; rintro e w5 ⟨rfl, hI, hb, hk⟩; replace HR := Aside0.mk (HR.out.seta hI hb hk); clear hI hb hk)
    | (go_at_call 28; with_reducible refine (vint_Reader_Whole.calls k gb _ _ _ _ _ _ _ HR.out.b HR.out.bel HY.out).mono ?_; rintro e w6 ⟨rfl, hI, hb, hk⟩; replace HR := Aside0.mk (HR.out.setb hI hb hk); clear hI hb hk)
    | (go_at_call 29; with_reducible refine (vint_Reader_Text.calls k gc _ _ _ _ _ _ _ _ HR.out.c HR.out.bel HT.out).mono ?_; rintro e w7 ⟨rfl, hI, hb, hk⟩; replace HR := Aside0.mk (HR.out.setc hI hb hk); clear hI hb hk)
    | (go_at_call 13; with_reducible refine (splicelaw01_awake.calls k true _ HW.out rfl).mono ?_; rintro e w8 ⟨rfl, hb⟩; replace HR := Aside0.mk (HR.out.below hb); clear hb)
    | (go_at_call 30; with_reducible refine (vint_Reader_Err.calls ga _ _ _ _ _ _ _ HR.out.a HR.out.bel EA.out).mono ?_; rintro e w9 ⟨rfl, hI, hb, hk⟩; replace HR := Aside0.mk (HR.out.seta hI hb hk); clear hI hb hk)
    | (go_at_call 30; with_reducible refine (vint_Reader_Err.calls gb _ _ _ _ _ _ _ HR.out.b HR.out.bel EB.out).mono ?_; rintro e w9 ⟨rfl, hI, hb, hk⟩; replace HR := Aside0.mk (HR.out.setb hI hb hk); clear hI hb hk)
    | (go_at_call 30; with_reducible refine (vint_Reader_Err.calls gc _ _ _ _ _ _ _ HR.out.c HR.out.bel EC.out).mono ?_; rintro e w9 ⟨rfl, hI, hb, hk⟩; replace HR := Aside0.mk (HR.out.setc hI hb hk); clear hI hb hk))
  go_ret
  exact ⟨rfl, HBd.out.trans (HR.out.bel.mono HBd.out.size)⟩
set_option maxHeartbeats 8000000 in
set_option maxRecDepth 100000 in
theorem splicelaw01_VintCut.calls (k : Nat) (a0 : Int) (a1 : Int) (a2 : ByteArray) (r : Bool) (w : World) (h : splicelaw01_VintCut.f k a0 a1 a2 = some r) (hr_ : r = true) :
    Calls Try.prog 8 #[.int .i64 a0, .int .i64 a1, .string a2] w fun e w' => e = .returned (.bool r) ∧ Below w.heap.size w w' := by
  subst hr_
  unfold splicelaw01_VintCut.f at h
  by_cases hn : a0 < 0
  · rw [if_pos hn] at h
    have q0 : decide (a0 < 0) = true := decide_eq_true hn
    have HW := Aside0.mk h
    clear h hn
    go_enter Try.func8, Try.ntmps8
    go_wp2_with (go_at_call 13; with_reducible refine (splicelaw01_awake.calls k true _ HW.out rfl).mono ?_; rintro e w9 ⟨rfl, hb⟩)
    go_ret
    exact ⟨rfl, hb⟩
  rw [if_neg hn] at h
  obtain ⟨m, hm, h⟩ := Option.bind_eq_some_iff.1 h
  cases m
  · rw [if_neg (by simp)] at h
    have q0 : decide (a0 < 0) = false := decide_eq_false hn
    have HW := Aside0.mk h
    have HM := Aside0.mk hm
    have HBel := Aside0.mk (Below.refl w.heap.size w)
    clear h hn hm
    go_enter Try.func8, Try.ntmps8
    go_wp2_with (first
      | (go_at_call 19; with_reducible refine (spliceref01_May.calls a1 false _ HM.out).mono ?_; rintro e w1 ⟨rfl, hd⟩; replace HBel := Aside0.mk (HBel.out.trans (Drawn0.below hd)); clear hd)
      | (go_at_call 13; with_reducible refine (splicelaw01_awake.calls k true _ HW.out rfl).mono ?_; rintro e w9 ⟨rfl, hb⟩))
    go_ret
    exact ⟨rfl, HBel.out.trans (hb.mono HBel.out.size)⟩
  rw [if_pos rfl] at h
  by_cases hs : (a2.size : Int) > 2000
  · rw [if_pos hs] at h
    have q0 : decide (a0 < 0) = false := decide_eq_false hn
    have q1 : decide ((a2.size : Int) > 2000) = true := decide_eq_true hs
    have q2 : decide ((2000 : Int) < (a2.size : Int)) = true := decide_eq_true hs
    have HW := Aside0.mk h
    have HM := Aside0.mk hm
    have HBel := Aside0.mk (Below.refl w.heap.size w)
    clear h hn hm hs
    go_enter Try.func8, Try.ntmps8
    go_wp2_with (first
      | (go_at_call 19; with_reducible refine (spliceref01_May.calls a1 true _ HM.out).mono ?_; rintro e w1 ⟨rfl, hd⟩; replace HBel := Aside0.mk (HBel.out.trans (Drawn0.below hd)); clear hd)
      | (go_at_call 13; with_reducible refine (splicelaw01_awake.calls k true _ HW.out rfl).mono ?_; rintro e w9 ⟨rfl, hb⟩))
    go_ret
    exact ⟨rfl, HBel.out.trans (hb.mono HBel.out.size)⟩
  rw [if_neg hs] at h
  split at h
  case isFalse => exact absurd h (by simp)
  rename_i hB
  unfold cutOk at hB
  split at hB
  · rename_i a b c ha hb hc
    simp only [Bool.and_eq_true, decide_eq_true_eq] at hB
    obtain ⟨⟨⟨⟨⟨⟨a9, b9⟩, c9⟩, az⟩, bz⟩, cz⟩, hB⟩ := hB
    split at hB
    · rename_i x y z hx hy hz
      obtain ⟨x, sx, ex⟩ := x
      obtain ⟨y, sy, ey⟩ := y
      obtain ⟨z, sz, ez⟩ := z
      simp only [Bool.and_eq_true, decide_eq_true_eq] at hB
      obtain ⟨⟨rfl, rfl⟩, rfl⟩ := hB
      exact splicelaw01_VintCut.walk k a0 a1 a2 w hn hm hs a b c ha hb hc az bz cz a9 b9 c9 x sx hx y sy hy z sz hz h
    · simp at hB
  · simp at hB

/-! ### splicelaw01_VintCut: function 8 -/
/-- THE ONE PURE STATEMENT of splicelaw01_VintCut: yours. -/
def splicelaw01_VintCut.Pure : Prop := ∀ (x0 : Int) (x1 : Int) (x2 : ByteArray), (Lit.int .i64 x0).wf = true → (Lit.int .i64 x1).wf = true → x2.size ≤ 140737488351232 → ∃ k, splicelaw01_VintCut.f k x0 x1 x2 = some true

end Go.Proofs.Ytiljbfnnnblbpaa.PT
