-- written by a program of this session
import Derived.Test.YtppoahccmcnenaaPPx0
import Derived.Test.YtppoahccmcnenaaPPx2
import Derived.Test.YtppoahccmcnenaaPPx6
import Derived.Test.YtppoahccmcnenaaPPx7
import Derived.Test.YtppoahccmcnenaaPPx8
import Derived.Test.YtppoahccmcnenaaPPx9
import Derived.Test.YtppoahccmcnenaaPPx10
namespace Go.Proofs.Ytppoahccmcnenaa.PP
open Go.RowKit Go.Proofs.Ytppoahccmcnenaa.Op Go.Proofs.YtppoahccmcnenaaW.PrintWords Go.Proofs.YtppoahccmcnenaaW.PrintLast Go.Proofs.YtppoahccmcnenaaW.PrintMore
attribute [local go_sem] max2_int min2_int max_two min_two max_three min_three max_four min_four   -- for this text's walks alone
set_option linter.unusedVariables false
set_option linter.unusedSimpArgs false

def does12.T : Bool × List (List Nat × List Nat) := (true, [([], []), ([], []), ([], []), ([2], [2]), ([1, 3], [1, 3]), ([], []), ([4, 5], [4, 5]), ([0, 4, 0], [0]), ([6, 7, 0, 1, 2, 3, 4, 5, 6, 7], [6])])
def does12.B : List Nat := [0, 0, 0, 4, 14, 0, 62, 31, 255]
theorem does12.tab : rtab .any (opsOf Try.f19 12) = does12.T := by kernel_rfl
theorem does12.bits : waitsOk does12.T.2 does12.B = true := by kernel_rfl
def does19.T : Bool × List (List Nat × List Nat) := (true, [([], []), ([], []), ([], []), ([2], [2]), ([], []), ([4], [4]), ([], []), ([6], [6]), ([1, 3, 5, 7], [1, 3, 5, 7]), ([], []), ([8, 9], [8, 9]), ([0, 8, 0], [0]), ([10, 11, 0, 1, 2, 3, 4, 5, 6, 7, 8, 9, 10, 11], [10])])
def does19.B : List Nat := [0, 0, 0, 4, 0, 16, 0, 64, 254, 0, 1022, 511, 4095]
theorem does19.tab : rtab .any (opsOf Try.f19 19) = does19.T := by kernel_rfl
theorem does19.bits : waitsOk does19.T.2 does19.B = true := by kernel_rfl
def does9.T : Bool × List (List Nat × List Nat) := (true, [([], []), ([], []), ([], []), ([1, 2], [1, 2]), ([3], [3]), ([4], [4]), ([4], [4]), ([5, 6, 4], [4, 5, 6]), ([4, 7], [4, 7]), ([0, 4, 0], [0]), ([8, 9, 0, 1, 2, 3, 4, 5, 6, 7, 8, 9], [8])])
def does9.B : List Nat := [0, 0, 0, 6, 14, 30, 30, 126, 254, 31, 1023]
theorem does9.tab : rtab .any (opsOf Try.f19 9) = does9.T := by kernel_rfl
theorem does9.bits : waitsOk does9.T.2 does9.B = true := by kernel_rfl
def does23.T : Bool × List (List Nat × List Nat) := (true, [([], []), ([], []), ([], []), ([2], [2]), ([1, 3], [1, 3]), ([4], [4]), ([5], [5]), ([6, 5], [5, 6]), ([7, 5, 5], [5, 7]), ([8], [8]), ([8], [8]), ([9, 10, 8], [8, 9, 10]), ([8, 11, 5], [5, 8, 11]), ([12, 8, 5], [5, 12]), ([13], [13]), ([14, 13], [13, 14]), ([15, 13, 13], [13, 15]), ([16], [16]), ([16], [16]), ([18, 16], [16, 18]), ([16], [16]), ([19, 20, 16], [16, 19, 20]), ([21, 16], [16, 21]), ([17, 22, 16], [16, 17, 22]), ([16, 23, 13], [13, 16, 23]), ([13, 24, 5], [5, 13, 24]), ([5, 25], [5, 25]), ([0, 16, 0], [0]), ([26, 27, 0, 1, 2, 3, 4, 5, 6, 7, 8, 9, 10, 11, 12, 13, 14, 15, 16, 17, 18, 19, 20, 21, 22, 23, 24, 25, 26, 27], [26])])
def does23.B : List Nat := [0, 0, 0, 4, 14, 30, 62, 126, 254, 510, 510, 2046, 4094, 8190, 16382, 32766, 65534, 131070, 131070, 393214, 131070, 1966078, 4063230, 8388606, 16777214, 33554430, 67108862, 131071, 268435455]
theorem does23.tab : rtab .any (opsOf Try.f19 23) = does23.T := by kernel_rfl
theorem does23.bits : waitsOk does23.T.2 does23.B = true := by kernel_rfl
/-! ### `does`: one act, by the bag and by the document's bag -/
theorem addF_cuts (s : Bg) (m : Ml) : (addF s m).1.cuts = s.cuts := by unfold addF; split <;> rfl
theorem sendB_cuts (s : Bg) (f t : Int) (x : ByteArray) : (sendB s f t x).1.cuts = s.cuts := by
  unfold sendB; split
  · split
    · exact addF_cuts s _
    · rfl
  · rfl
theorem twiceB_cuts (s : Bg) (id : Int) : (twiceB s id).1.cuts = s.cuts := by
  unfold twiceB; cases findM s.l id with
  | none => rfl
  | some m => exact addF_cuts s _
theorem takeB_cuts (s : Bg) (id : Int) : (takeB s id).1.cuts = s.cuts := by
  unfold takeB; cases findM s.l id with
  | none => rfl
  | some m => dsimp only; split <;> rfl
theorem loseB_cuts (s : Bg) (id : Int) : (loseB s id).1.cuts = s.cuts := by
  unfold loseB; cases findM s.l id with
  | none => rfl
  | some m => rfl
theorem setB_cuts (s : Bg) (x y : Int) (on : Bool) : (setB s x y on).1.cuts.length ≤ s.cuts.length + 1 := by
  have hf : ∀ q : Int × Int, (s.cuts.filter (fun p => p != q)).length ≤ s.cuts.length := fun q => List.length_filter_le _ _
  unfold setB
  split
  · dsimp only
    split
    · unfold putC; rw [List.length_append]; have := hf (ofP x y); simp only [List.length_singleton]; omega
    · unfold delC; have := hf (ofP x y); omega
  · dsimp only; omega
theorem eqMailR (d : Nat) (w : World) (a b : Ml) : (Op.equalIn (d + 2) 74 (.agg #[.int .i64 a.id, .int .i64 a.fr, .int .i64 a.too, .string a.t]) (.agg #[.int .i64 b.id, .int .i64 b.fr, .int .i64 b.too, .string b.t])).run Try.prog w = .ok (eqMl a b) w := by
  refine eqA_of Try.underlying74 (by kernel_rfl) ?_
  refine eqf_cons (by rfl) (by go_simp; rfl) (by go_simp; rfl) (by go_simp) ?_
  refine eqf_cons (by rfl) (by go_simp; rfl) (by go_simp; rfl) (by go_simp) ?_
  refine eqf_cons (by rfl) (by go_simp; rfl) (by go_simp; rfl) (by go_simp) ?_
  exact eqf_last (by rfl) (by go_simp; rfl) (by go_simp; rfl) (by go_simp)
set_option maxRecDepth 100000 in
set_option maxHeartbeats 16000000 in
theorem does_walk {w W : World} {g mb cb n : Nat} {s : Bg} {v0 v2 : Value} {l : BxL} (h : DoW w W g mb cb n s s v0 v2 l) (hn : n < 1000000) (hc : s.cuts.length ≤ 1000000) (xk xa xb : Int) (xs : ByteArray) (xo : Bool) (hid : (Lit.int .i64 xa).wf = true) :
    Calls Try.prog 19 #[.pointer (some ⟨g, 0, none⟩), .agg #[v0, .int .i64 s.last, v2], .agg #[.int .i64 xk, .int .i64 xa, .int .i64 xb, .string xs, .bool xo]] W fun e W' => ∃ (s' : Bg) (v0' v2' : Value), e = .returned (.tuple #[.agg #[v0', .int .i64 s'.last, v2'], .bool true]) ∧ DoW w W' g mb cb (n + 2) s' s' v0' v2' l ∧ s'.cuts.length ≤ s.cuts.length + 1 := by
  obtain ⟨A0, c0, A2, c2, rfl, rfl⟩ := h.sl
  have HD := Aside0.mk h
  have HN := Aside0.mk hn
  have HCu := Aside0.mk hc
  have HId := Aside0.mk hid
  clear h hn hc hid
  go_enter Try.func19, Try.ntmps19
  go_upto_region 1 with (fail)
  replace HD := Aside0.mk (((HD.out.cons #[.slice A0 (lsR s).length c0, .int .i64 s.last, .slice A2 (csR s).length c2] 51 (by decide)).cons #[.int .i64 xk, .int .i64 xa, .int .i64 xb, .string xs, .bool xo] 29 (by decide)).cons #[.slice none 0 0, .int .i64 0, .slice none 0 0] 51 (by decide))
  simp only [alloc_size] at HD
  generalize ((W.alloc (.cells #[.slice A0 (lsR s).length c0, .int .i64 s.last, .slice A2 (csR s).length c2] 51)).alloc (.cells #[.int .i64 xk, .int .i64 xa, .int .i64 xb, .string xs, .bool xo] 29)).alloc (.cells #[.slice none 0 0, .int .i64 0, .slice none 0 0] 51) = w3 at HD ⊢
  generalize W.heap.size + 1 + 1 = b6 at HD ⊢
  generalize W.heap.size + 1 = b5 at HD ⊢
  generalize W.heap.size = b4 at HD ⊢
  have HL := Aside0.mk (show s.l.length ≤ 400 ∧ 0 ≤ s.last ∧ s.last ≤ 1000000 from ⟨HD.out.hs.len, HD.out.hs.lst.1, by have := HD.out.hs.lst.2; have := HN.out; omega⟩)
  have y0 : w3.cell? ⟨b4, 0, none⟩ = some (.slice A0 (lsR s).length c0) := HD.out.at_ 2 0 rfl rfl
  have y1 : w3.cell? ⟨b4, 1, none⟩ = some (.int .i64 s.last) := HD.out.at_ 2 1 rfl rfl
  have y2 : w3.cell? ⟨b4, 2, none⟩ = some (.slice A2 (csR s).length c2) := HD.out.at_ 2 2 rfl rfl
  have x0 : w3.cell? ⟨b5, 0, none⟩ = some (.int .i64 xk) := HD.out.at_ 1 0 rfl rfl
  have x1 : w3.cell? ⟨b5, 1, none⟩ = some (.int .i64 xa) := HD.out.at_ 1 1 rfl rfl
  have x2 : w3.cell? ⟨b5, 2, none⟩ = some (.int .i64 xb) := HD.out.at_ 1 2 rfl rfl
  have x3 : w3.cell? ⟨b5, 3, none⟩ = some (.string xs) := HD.out.at_ 1 3 rfl rfl
  have x4 : w3.cell? ⟨b5, 4, none⟩ = some (.bool xo) := HD.out.at_ 1 4 rfl rfl
  by_cases k0 : xk = 0
  · subst k0
    rcases hr : sendB s xa xb xs with ⟨s1, i1, q1⟩
    have HS := Aside0.mk (HD.out.send HL.out.1 HL.out.2 xa xb xs)
    rw [hr] at HS
    go_upto_region 4 with (go_at_call 30; refine HS.out.mono ?_; rintro e w4 ⟨v0', v2', rfl, hd⟩; obtain ⟨A0', c0', A2', c2', rfl, rfl⟩ := hd.sl; replace HD := Aside0.mk hd; clear hd)
    clear HS x0 x1 x2 x3 x4 y0 y1 y2
    replace HD := Aside0.mk (HD.out.cons #[.slice A0' (lsR s1).length c0', .int .i64 s1.last, .slice A2' (csR s1).length c2'] 51 (by decide))
    generalize w4.alloc (.cells #[.slice A0' (lsR s1).length c0', .int .i64 s1.last, .slice A2' (csR s1).length c2'] 51) = w5 at HD ⊢
    generalize w4.heap.size = b8 at HD ⊢
    have x0 : w5.cell? ⟨b5, 0, none⟩ = some (.int .i64 0) := HD.out.at_ 2 0 rfl rfl
    have x1 : w5.cell? ⟨b5, 1, none⟩ = some (.int .i64 xa) := HD.out.at_ 2 1 rfl rfl
    have x2 : w5.cell? ⟨b5, 2, none⟩ = some (.int .i64 xb) := HD.out.at_ 2 2 rfl rfl
    have x3 : w5.cell? ⟨b5, 3, none⟩ = some (.string xs) := HD.out.at_ 2 3 rfl rfl
    have x4 : w5.cell? ⟨b5, 4, none⟩ = some (.bool xo) := HD.out.at_ 2 4 rfl rfl
    have HC := Aside0.mk (bag_send' HD.out.hs HN.out xa xb xs hr)
    go_upto_region 5 with (go_at_call 11; refine HC.out.mono ?_; rintro e w6 ⟨rfl, hs, hb⟩; replace HD := Aside0.mk (HD.out.bag hs hb); clear hs hb)
    clear HC x0 x1 x2 x3 x4
    have z0 : w6.cell? ⟨b8, 0, none⟩ = some (.slice A0' (lsR s1).length c0') := HD.out.at_ 0 0 rfl rfl
    have z1 : w6.cell? ⟨b8, 1, none⟩ = some (.int .i64 s1.last) := HD.out.at_ 0 1 rfl rfl
    have z2 : w6.cell? ⟨b8, 2, none⟩ = some (.slice A2' (csR s1).length c2') := HD.out.at_ 0 2 rfl rfl
    have t6a : w6.cell? ⟨b6, 0, none⟩ = some (.slice none 0 0) := HD.out.at_ 1 0 rfl rfl
    have t6b : w6.cell? ⟨b6, 1, none⟩ = some (.int .i64 0) := HD.out.at_ 1 1 rfl rfl
    have t6c : w6.cell? ⟨b6, 2, none⟩ = some (.slice none 0 0) := HD.out.at_ 1 2 rfl rfl
    have f0 : w6.frozen? ⟨b6, 0, none⟩ = false := blk_frozen (HD.out.bx.get 1 rfl) 0
    have f1 : w6.frozen? ⟨b6, 1, none⟩ = false := blk_frozen (HD.out.bx.get 1 rfl) 1
    have f2 : w6.frozen? ⟨b6, 2, none⟩ = false := blk_frozen (HD.out.bx.get 1 rfl) 2
    go_wp2
    replace HD := Aside0.mk (HD.out.st3 1 rfl (.slice A0' (lsR s1).length c0') (.int .i64 s1.last) (.slice A2' (csR s1).length c2'))
    simp only [List.set_cons_succ, List.set_cons_zero] at HD
    refine bodyPost_ret (results_ct rfl _ _ b6 51 #[.slice A0' (lsR s1).length c0', .int .i64 s1.last, .slice A2' (csR s1).length c2'] (0, 0) _ rfl (HD.out.bx.get 1 rfl) Try.underlying51 rfl (by kernel_rfl)) rfl ?_
    exact ⟨s1, _, _, rfl, HD.out.drop.drop.drop.drop, by have := sendB_cuts s xa xb xs; rw [hr] at this; dsimp only at this; rw [this]; omega⟩
  have n0 : (xk == 0) = false := beq_eq_false_iff_ne.mpr k0
  have n0' : decide (xk = 0) = false := decide_eq_false k0
  clear k0
  by_cases k1 : xk = 1
  · subst k1
    rcases hr : takeB s xa with ⟨s1, m1, q1⟩
    have HS := Aside0.mk (HD.out.take HL.out.1 HCu.out xa)
    rw [hr] at HS
    go_upto_region 8 with (go_at_call 31; refine HS.out.mono ?_; rintro e w4 ⟨v0', v2', rfl, hd⟩; obtain ⟨A0', c0', A2', c2', rfl, rfl⟩ := hd.sl; replace HD := Aside0.mk hd; clear hd)
    clear HS x0 x1 x2 x3 x4 y0 y1 y2
    have HM := Aside0.mk (blk_new (w4.alloc (.cells #[.slice A0' (lsR s1).length c0', .int .i64 s1.last, .slice A2' (csR s1).length c2'] 51)) (.cells #[.int .i64 m1.id, .int .i64 m1.fr, .int .i64 m1.too, .string m1.t] 74))
    have HG := Aside0.mk (show w4.heap.size + 1 ≠ g ∧ w4.heap.size + 1 ≠ mb ∧ w4.heap.size + 1 ≠ cb from ⟨by have := HD.out.hs.lts; omega, by have := HD.out.hs.lts; omega, by have := HD.out.hs.lts; omega⟩)
    replace HD := Aside0.mk ((HD.out.cons #[.slice A0' (lsR s1).length c0', .int .i64 s1.last, .slice A2' (csR s1).length c2'] 51 (by decide)).below (below_alloc (Below.refl _ _) (.cells #[.int .i64 m1.id, .int .i64 m1.fr, .int .i64 m1.too, .string m1.t] 74)))
    simp only [alloc_size] at HM
    generalize (w4.alloc (.cells #[.slice A0' (lsR s1).length c0', .int .i64 s1.last, .slice A2' (csR s1).length c2'] 51)).alloc (.cells #[.int .i64 m1.id, .int .i64 m1.fr, .int .i64 m1.too, .string m1.t] 74) = w5 at HD HM ⊢
    generalize w4.heap.size + 1 = b14 at HM HG ⊢
    generalize w4.heap.size = b8 at HD ⊢
    have x0 : w5.cell? ⟨b5, 0, none⟩ = some (.int .i64 1) := HD.out.at_ 2 0 rfl rfl
    have x1 : w5.cell? ⟨b5, 1, none⟩ = some (.int .i64 xa) := HD.out.at_ 2 1 rfl rfl
    have x2 : w5.cell? ⟨b5, 2, none⟩ = some (.int .i64 xb) := HD.out.at_ 2 2 rfl rfl
    have x3 : w5.cell? ⟨b5, 3, none⟩ = some (.string xs) := HD.out.at_ 2 3 rfl rfl
    have x4 : w5.cell? ⟨b5, 4, none⟩ = some (.bool xo) := HD.out.at_ 2 4 rfl rfl
    have HC := Aside0.mk (bag_take' HD.out.hs xa HId.out hr)
    go_upto_region 9 with (go_at_call 12; refine HC.out.mono ?_; rintro e w6 ⟨rfl, hs, hb⟩; replace HD := Aside0.mk (HD.out.bag hs hb); replace HM := Aside0.mk ((hb.2 b14 (blk_lt HM.out) HG.out.1 HG.out.2.1 HG.out.2.2).trans HM.out); clear hs hb)
    clear HC x0 x1 x2 x3 x4
    replace HD := Aside0.mk (HD.out.cons #[.int .i64 m1.id, .int .i64 m1.fr, .int .i64 m1.too, .string m1.t] 34 (by decide))
    replace HM := Aside0.mk (blk_below HM.out (below_alloc (Below.refl _ _) (.cells #[.int .i64 m1.id, .int .i64 m1.fr, .int .i64 m1.too, .string m1.t] 34)))
    generalize w6.alloc (.cells #[.int .i64 m1.id, .int .i64 m1.fr, .int .i64 m1.too, .string m1.t] 34) = w7 at HD HM ⊢
    generalize w6.heap.size = b16 at HD ⊢
    have he : ∀ w, (Op.equalIn 10000 74 (.agg #[.int .i64 m1.id, .int .i64 m1.fr, .int .i64 m1.too, .string m1.t]) (.agg #[.int .i64 m1.id, .int .i64 m1.fr, .int .i64 m1.too, .string m1.t])).run Try.prog w = .ok true w := fun w => (eqMailR 9998 w m1 m1).trans (by rw [eqMl_self])
    replace HD := Aside0.mk (HD.out.below (below_drew (Below.refl _ _)))
    replace HM := Aside0.mk (blk_below HM.out (below_drew (Below.refl _ _)))
    refine start_ (n := 11) (S := fun w' => w'.cell? ⟨b8, 0, none⟩ = some (.slice A0' (lsR s1).length c0') ∧ w'.cell? ⟨b8, 1, none⟩ = some (.int .i64 s1.last) ∧ w'.cell? ⟨b8, 2, none⟩ = some (.slice A2' (csR s1).length c2') ∧ w'.cell? ⟨b16, 0, none⟩ = some (.int .i64 m1.id) ∧ w'.cell? ⟨b16, 1, none⟩ = some (.int .i64 m1.fr) ∧ w'.cell? ⟨b16, 2, none⟩ = some (.int .i64 m1.too) ∧ w'.cell? ⟨b16, 3, none⟩ = some (.string m1.t) ∧ w'.cell? ⟨b14, 0, none⟩ = some (.int .i64 m1.id) ∧ w'.cell? ⟨b14, 1, none⟩ = some (.int .i64 m1.fr) ∧ w'.cell? ⟨b14, 2, none⟩ = some (.int .i64 m1.too) ∧ w'.cell? ⟨b14, 3, none⟩ = some (.string m1.t)) (ds := [9]) #[false, false, false, false, false, false, false, false, false, false, false] (by kernel_rfl) rfl rfl ⟨HD.out.at_ 1 0 rfl rfl, HD.out.at_ 1 1 rfl rfl, HD.out.at_ 1 2 rfl rfl, HD.out.at_ 0 0 rfl rfl, HD.out.at_ 0 1 rfl rfl, HD.out.at_ 0 2 rfl rfl, HD.out.at_ 0 3 rfl rfl, (blk_cell HM.out 0).trans rfl, (blk_cell HM.out 1).trans rfl, (blk_cell HM.out 2).trans rfl, (blk_cell HM.out 3).trans rfl⟩ (fun hHeld => ?_); refine with_tabW does9.tab does9.bits (fun HT_ HW_ => ?_)
    generalize w7.drew = wd at HD HM hHeld ⊢
    refine take_ (i := 0) (N := some 83) (v := ?_) (a' := ?_) #[true, false, false, false, false, false, false, false, false, false, false] rfl rfl (take_ofW HT_.out HW_.out (by kernel_rfl)) (fun _ _ _ h => h) (Or.inl ⟨by rfl, ?_⟩) hHeld ?_ ?_
    rotate_left
    · rintro w' ⟨s0, s1, s2, s3, s4, s5, s6, s7, s8, s9, s10⟩
      go_simp
      with_reducible rfl
    rotate_left
    · simp only [Act.put, List.setIfInBounds_toArray, List.set_cons_zero, List.set_cons_succ, i64_w, i32_w]
      rfl
    refine take_ (i := 1) (N := some 84) (v := ?_) (a' := ?_) #[true, true, false, false, false, false, false, false, false, false, false] rfl rfl (take_ofW HT_.out HW_.out (by kernel_rfl)) (fun _ _ _ h => h) (Or.inl ⟨by rfl, ?_⟩) hHeld ?_ ?_
    rotate_left
    · rintro w' ⟨s0, s1, s2, s3, s4, s5, s6, s7, s8, s9, s10⟩
      go_simp
      with_reducible rfl
    rotate_left
    · simp only [Act.put, List.setIfInBounds_toArray, List.set_cons_zero, List.set_cons_succ, i64_w, i32_w]
      rfl
    refine take_ (i := 2) (N := some 85) (v := ?_) (a' := ?_) #[true, true, true, false, false, false, false, false, false, false, false] rfl rfl (take_ofW HT_.out HW_.out (by kernel_rfl)) (fun _ _ _ h => h) (Or.inl ⟨by rfl, ?_⟩) hHeld ?_ ?_
    rotate_left
    · rintro w' ⟨s0, s1, s2, s3, s4, s5, s6, s7, s8, s9, s10⟩
      go_simp
      with_reducible rfl
    rotate_left
    · simp only [Act.put, List.setIfInBounds_toArray, List.set_cons_zero, List.set_cons_succ, i64_w, i32_w]
      rfl
    refine pure_ (i := 3) (N := some 86) (v := ?_) (a' := ?_) #[true, true, true, true, false, false, false, false, false, false, false] rfl rfl (any_of HT_.out (by kernel_rfl)) (fun _ _ _ h => h) (Or.inl ⟨by rfl, ?_⟩) ?_ ?_
    rotate_left
    · intro w'
      go_simp
      with_reducible rfl
    rotate_left
    · simp only [Act.put, List.setIfInBounds_toArray, List.set_cons_zero, List.set_cons_succ, i64_w, i32_w]
      rfl
    refine pure_ (i := 4) (N := some 87) (v := ?_) (a' := ?_) #[true, true, true, true, true, false, false, false, false, false, false] rfl rfl (any_of HT_.out (by kernel_rfl)) (fun _ _ _ h => h) (Or.inl ⟨by rfl, ?_⟩) ?_ ?_
    rotate_left
    · intro w'
      go_simp
      with_reducible rfl
    rotate_left
    · simp only [Act.put, List.setIfInBounds_toArray, List.set_cons_zero, List.set_cons_succ, i64_w, i32_w]
      rfl
    refine pure_ (i := 5) (N := some 88) (v := ?_) (a' := ?_) #[true, true, true, true, true, true, false, false, false, false, false] rfl rfl (any_of HT_.out (by kernel_rfl)) (fun _ _ _ h => h) (Or.inl ⟨by rfl, ?_⟩) ?_ ?_
    rotate_left
    · intro w'
      go_simp
      with_reducible rfl
    rotate_left
    · simp only [Act.put, List.setIfInBounds_toArray, List.set_cons_zero, List.set_cons_succ, i64_w, i32_w]
      rfl
    refine pure_ (i := 6) (N := some 89) (v := ?_) (a' := ?_) #[true, true, true, true, true, true, true, false, false, false, false] rfl rfl (any_of HT_.out (by kernel_rfl)) (fun _ _ _ h => h) (Or.inl ⟨by rfl, ?_⟩) ?_ ?_
    rotate_left
    · intro w'
      go_simp
      with_reducible rfl
    rotate_left
    · simp only [Act.put, List.setIfInBounds_toArray, List.set_cons_zero, List.set_cons_succ, i64_w, i32_w]
      rfl
    refine pure_ (i := 7) (N := some 90) (v := ?_) (a' := ?_) #[true, true, true, true, true, true, true, true, false, false, false] rfl rfl (any_of HT_.out (by kernel_rfl)) (fun _ _ _ h => h) (Or.inl ⟨by rfl, ?_⟩) ?_ ?_
    rotate_left
    · intro w'
      go_simp
      with_reducible rfl
    rotate_left
    · simp only [Act.put, List.setIfInBounds_toArray, List.set_cons_zero, List.set_cons_succ, i64_w, i32_w]
      rfl
    refine pure_ (i := 8) (N := some 91) (v := ?_) (a' := ?_) #[true, true, true, true, true, true, true, true, true, false, false] rfl rfl (any_of HT_.out (by kernel_rfl)) (fun _ _ _ h => h) (Or.inl ⟨by rfl, ?_⟩) ?_ ?_
    rotate_left
    · intro w'
      go_simp
      with_reducible rfl
    rotate_left
    · simp only [Act.put, List.setIfInBounds_toArray, List.set_cons_zero, List.set_cons_succ, i64_w, i32_w]
      rfl
    refine last_ (i := 9) (N := none) #[true, true, true, true, true, true, true, true, true, true, false] rfl rfl (one_of HT_.out (by kernel_rfl)) (by decide) (fun K hK => ?_)
    have t6a : World.cell? _ ⟨b6, 0, none⟩ = some (.slice none 0 0) := HD.out.at_ 2 0 rfl rfl
    have t6b : World.cell? _ ⟨b6, 1, none⟩ = some (.int .i64 0) := HD.out.at_ 2 1 rfl rfl
    have t6c : World.cell? _ ⟨b6, 2, none⟩ = some (.slice none 0 0) := HD.out.at_ 2 2 rfl rfl
    have f0 : World.frozen? _ ⟨b6, 0, none⟩ = false := blk_frozen (HD.out.bx.get 2 rfl) 0
    have f1 : World.frozen? _ ⟨b6, 1, none⟩ = false := blk_frozen (HD.out.bx.get 2 rfl) 1
    have f2 : World.frozen? _ ⟨b6, 2, none⟩ = false := blk_frozen (HD.out.bx.get 2 rfl) 2
    refine skip_ (w1 := ?_) (by rfl) rfl ?_ ?_
    rotate_left
    · go_simp
      rfl
    refine hK.out _ _ ?_
    clear hK K t6a t6b t6c f0 f1 f2
    refine pure_ (i := 10) (N := some 7) (v := ?_) (a' := ?_) #[true, true, true, true, true, true, true, true, true, true, true] rfl rfl (any_of HT_.out (by kernel_rfl)) (fun _ _ _ h => h) (Or.inl ⟨by rfl, ?_⟩) ?_ ?_
    rotate_left
    · intro w'
      go_simp
      with_reducible rfl
    rotate_left
    · simp only [Act.put, List.setIfInBounds_toArray, List.set_cons_zero, List.set_cons_succ, i64_w, i32_w]
      rfl
    refine done_ (done_of HT_.out (by kernel_rfl)) ?_
    clear HT_ HW_ hHeld HM
    try go_wp2
    replace HD := Aside0.mk (HD.out.st3 2 rfl (.slice A0' (lsR s1).length c0') (.int .i64 s1.last) (.slice A2' (csR s1).length c2'))
    simp only [List.set_cons_succ, List.set_cons_zero] at HD
    refine bodyPost_ret (results_ct rfl _ _ b6 51 #[.slice A0' (lsR s1).length c0', .int .i64 s1.last, .slice A2' (csR s1).length c2'] (0, 0) _ rfl (HD.out.bx.get 2 rfl) Try.underlying51 rfl (by kernel_rfl)) rfl ?_
    exact ⟨s1, _, _, rfl, (HD.out.more (by omega)).drop.drop.drop.drop.drop, by have := takeB_cuts s xa; rw [hr] at this; dsimp only at this; rw [this]; omega⟩
  have n1 : (xk == 1) = false := beq_eq_false_iff_ne.mpr k1
  have n1' : decide (xk = 1) = false := decide_eq_false k1
  clear k1
  by_cases k2 : xk = 2
  · subst k2
    rcases hr : loseB s xa with ⟨s1, q1⟩
    have HS := Aside0.mk (HD.out.lose HL.out.1 xa)
    rw [hr] at HS
    go_upto_region 12 with (go_at_call 32; refine HS.out.mono ?_; rintro e w4 ⟨v0', v2', rfl, hd⟩; obtain ⟨A0', c0', A2', c2', rfl, rfl⟩ := hd.sl; replace HD := Aside0.mk hd; clear hd)
    clear HS x0 x1 x2 x3 x4 y0 y1 y2
    replace HD := Aside0.mk (HD.out.cons #[.slice A0' (lsR s1).length c0', .int .i64 s1.last, .slice A2' (csR s1).length c2'] 51 (by decide))
    generalize w4.alloc (.cells #[.slice A0' (lsR s1).length c0', .int .i64 s1.last, .slice A2' (csR s1).length c2'] 51) = w5 at HD ⊢
    generalize w4.heap.size = b8 at HD ⊢
    have x0 : w5.cell? ⟨b5, 0, none⟩ = some (.int .i64 2) := HD.out.at_ 2 0 rfl rfl
    have x1 : w5.cell? ⟨b5, 1, none⟩ = some (.int .i64 xa) := HD.out.at_ 2 1 rfl rfl
    have x2 : w5.cell? ⟨b5, 2, none⟩ = some (.int .i64 xb) := HD.out.at_ 2 2 rfl rfl
    have x3 : w5.cell? ⟨b5, 3, none⟩ = some (.string xs) := HD.out.at_ 2 3 rfl rfl
    have x4 : w5.cell? ⟨b5, 4, none⟩ = some (.bool xo) := HD.out.at_ 2 4 rfl rfl
    clear x0 x1 x2 x3 x4
    replace HD := Aside0.mk (HD.out.below (below_drew (Below.refl _ _)))
    refine start_ (n := 9) (S := fun w' => w'.cell? ⟨b8, 0, none⟩ = some (.slice A0' (lsR s1).length c0') ∧ w'.cell? ⟨b8, 1, none⟩ = some (.int .i64 s1.last) ∧ w'.cell? ⟨b8, 2, none⟩ = some (.slice A2' (csR s1).length c2') ∧ w'.cell? ⟨b5, 1, none⟩ = some (.int .i64 xa)) (ds := [7]) #[false, false, false, false, false, false, false, false, false] (by kernel_rfl) rfl rfl ⟨HD.out.at_ 0 0 rfl rfl, HD.out.at_ 0 1 rfl rfl, HD.out.at_ 0 2 rfl rfl, HD.out.at_ 2 1 rfl rfl⟩ (fun hHeld => ?_); refine with_tabW does12.tab does12.bits (fun HT_ HW_ => ?_)
    generalize w5.drew = wd at HD hHeld ⊢
    refine take_ (i := 0) (N := some 101) (v := ?_) (a' := ?_) #[true, false, false, false, false, false, false, false, false] rfl rfl (take_ofW HT_.out HW_.out (by kernel_rfl)) (fun _ _ _ h => h) (Or.inl ⟨by rfl, ?_⟩) hHeld ?_ ?_
    rotate_left
    · rintro w' ⟨s0, s1, s2, s3⟩
      go_simp
      with_reducible rfl
    rotate_left
    · simp only [Act.put, List.setIfInBounds_toArray, List.set_cons_zero, List.set_cons_succ, i64_w, i32_w]
      rfl
    refine pure_ (i := 1) (N := some 102) (v := ?_) (a' := ?_) #[true, true, false, false, false, false, false, false, false] rfl rfl (any_of HT_.out (by kernel_rfl)) (fun _ _ _ h => h) (Or.inl ⟨by rfl, ?_⟩) ?_ ?_
    rotate_left
    · intro w'
      go_simp
      with_reducible rfl
    rotate_left
    · simp only [Act.put, List.setIfInBounds_toArray, List.set_cons_zero, List.set_cons_succ, i64_w, i32_w]
      rfl
    refine pure_ (i := 2) (N := some 103) (v := ?_) (a' := ?_) #[true, true, true, false, false, false, false, false, false] rfl rfl (any_of HT_.out (by kernel_rfl)) (fun _ _ _ h => h) (Or.inl ⟨by rfl, ?_⟩) ?_ ?_
    rotate_left
    · intro w'
      go_simp
      with_reducible rfl
    rotate_left
    · simp only [Act.put, List.setIfInBounds_toArray, List.set_cons_zero, List.set_cons_succ, i64_w, i32_w]
      rfl
    refine take_ (i := 3) (N := some 104) (v := ?_) (a' := ?_) #[true, true, true, true, false, false, false, false, false] rfl rfl (take_ofW HT_.out HW_.out (by kernel_rfl)) (fun _ _ _ h => h) (Or.inl ⟨by rfl, ?_⟩) hHeld ?_ ?_
    rotate_left
    · rintro w' ⟨s0, s1, s2, s3⟩
      go_simp
      with_reducible rfl
    rotate_left
    · simp only [Act.put, List.setIfInBounds_toArray, List.set_cons_zero, List.set_cons_succ, i64_w, i32_w]
      rfl
    refine pure_ (i := 5) (N := some 106) (v := ?_) (a' := ?_) #[true, true, true, true, false, true, false, false, false] rfl rfl (any_of HT_.out (by kernel_rfl)) (fun _ _ _ h => h) (Or.inl ⟨by rfl, ?_⟩) ?_ ?_
    rotate_left
    · intro w'
      go_simp
      with_reducible rfl
    rotate_left
    · simp only [Act.put, List.setIfInBounds_toArray, List.set_cons_zero, List.set_cons_succ, i64_w, i32_w]
      rfl
    refine one_ (i := 4) (N := some 105) #[true, true, true, true, true, true, false, false, false] rfl rfl (one_of HT_.out (by kernel_rfl)) (by decide) (fun K hK => ?_)
    refine goes_ Try.func13 (by kernel_rfl) rfl #[.pointer (some ⟨g, 0, none⟩), .int .i64 xa] (by rfl) rfl rfl (by (try simp only [List.map_toArray, List.map_cons, List.map_nil]); first | done | rfl) ?_
    refine (bag_lose' HD.out.hs xa HId.out hr).mono ?_
    rintro e w6 ⟨rfl, hs, hb⟩
    refine ⟨_, rfl, ?_⟩
    replace HD := Aside0.mk (HD.out.bag hs hb)
    clear hs hb
    refine hK.out _ _ ⟨HD.out.at_ 0 0 rfl rfl, HD.out.at_ 0 1 rfl rfl, HD.out.at_ 0 2 rfl rfl, HD.out.at_ 2 1 rfl rfl⟩ (fun hHeld => ?_)
    clear hK K
    refine norm_ (a' := ?_) ?_ ?_
    rotate_left
    · show Act.put _ (some 105) _ = _
      simp only [Act.put, List.setIfInBounds_toArray, List.set_cons_zero, List.set_cons_succ, i64_w, i32_w]
      rfl
    refine pure_ (i := 6) (N := some 107) (v := ?_) (a' := ?_) #[true, true, true, true, true, true, true, false, false] rfl rfl (any_of HT_.out (by kernel_rfl)) (fun _ _ _ h => h) (Or.inl ⟨by rfl, ?_⟩) ?_ ?_
    rotate_left
    · intro w'
      go_simp
      with_reducible rfl
    rotate_left
    · simp only [Act.put, List.setIfInBounds_toArray, List.set_cons_zero, List.set_cons_succ, i64_w, i32_w]
      rfl
    refine last_ (i := 7) (N := none) #[true, true, true, true, true, true, true, true, false] rfl rfl (one_of HT_.out (by kernel_rfl)) (by decide) (fun K hK => ?_)
    have t6a : World.cell? _ ⟨b6, 0, none⟩ = some (.slice none 0 0) := HD.out.at_ 1 0 rfl rfl
    have t6b : World.cell? _ ⟨b6, 1, none⟩ = some (.int .i64 0) := HD.out.at_ 1 1 rfl rfl
    have t6c : World.cell? _ ⟨b6, 2, none⟩ = some (.slice none 0 0) := HD.out.at_ 1 2 rfl rfl
    have f0 : World.frozen? _ ⟨b6, 0, none⟩ = false := blk_frozen (HD.out.bx.get 1 rfl) 0
    have f1 : World.frozen? _ ⟨b6, 1, none⟩ = false := blk_frozen (HD.out.bx.get 1 rfl) 1
    have f2 : World.frozen? _ ⟨b6, 2, none⟩ = false := blk_frozen (HD.out.bx.get 1 rfl) 2
    refine skip_ (w1 := ?_) (by rfl) rfl ?_ ?_
    rotate_left
    · go_simp
      rfl
    refine hK.out _ _ ?_
    clear hK K t6a t6b t6c f0 f1 f2
    refine pure_ (i := 8) (N := some 7) (v := ?_) (a' := ?_) #[true, true, true, true, true, true, true, true, true] rfl rfl (any_of HT_.out (by kernel_rfl)) (fun _ _ _ h => h) (Or.inl ⟨by rfl, ?_⟩) ?_ ?_
    rotate_left
    · intro w'
      go_simp
      with_reducible rfl
    rotate_left
    · simp only [Act.put, List.setIfInBounds_toArray, List.set_cons_zero, List.set_cons_succ, i64_w, i32_w]
      rfl
    refine done_ (done_of HT_.out (by kernel_rfl)) ?_
    clear HT_ HW_ hHeld
    try go_wp2
    replace HD := Aside0.mk (HD.out.st3 1 rfl (.slice A0' (lsR s1).length c0') (.int .i64 s1.last) (.slice A2' (csR s1).length c2'))
    simp only [List.set_cons_succ, List.set_cons_zero] at HD
    refine bodyPost_ret (results_ct rfl _ _ b6 51 #[.slice A0' (lsR s1).length c0', .int .i64 s1.last, .slice A2' (csR s1).length c2'] (0, 0) _ rfl (HD.out.bx.get 1 rfl) Try.underlying51 rfl (by kernel_rfl)) rfl ?_
    exact ⟨s1, _, _, rfl, (HD.out.more (by omega)).drop.drop.drop.drop, by have := loseB_cuts s xa; rw [hr] at this; dsimp only at this; rw [this]; omega⟩
  have n2 : (xk == 2) = false := beq_eq_false_iff_ne.mpr k2
  have n2' : decide (xk = 2) = false := decide_eq_false k2
  clear k2
  by_cases k3 : xk = 3
  · subst k3
    rcases hr : twiceB s xa with ⟨s1, i1, q1⟩
    have HS := Aside0.mk (HD.out.twice HL.out.1 HL.out.2 xa)
    rw [hr] at HS
    go_upto_region 15 with (go_at_call 33; refine HS.out.mono ?_; rintro e w4 ⟨v0', v2', rfl, hd⟩; obtain ⟨A0', c0', A2', c2', rfl, rfl⟩ := hd.sl; replace HD := Aside0.mk hd; clear hd)
    clear HS x0 x1 x2 x3 x4 y0 y1 y2
    replace HD := Aside0.mk (HD.out.cons #[.slice A0' (lsR s1).length c0', .int .i64 s1.last, .slice A2' (csR s1).length c2'] 51 (by decide))
    generalize w4.alloc (.cells #[.slice A0' (lsR s1).length c0', .int .i64 s1.last, .slice A2' (csR s1).length c2'] 51) = w5 at HD ⊢
    generalize w4.heap.size = b8 at HD ⊢
    have x0 : w5.cell? ⟨b5, 0, none⟩ = some (.int .i64 3) := HD.out.at_ 2 0 rfl rfl
    have x1 : w5.cell? ⟨b5, 1, none⟩ = some (.int .i64 xa) := HD.out.at_ 2 1 rfl rfl
    have x2 : w5.cell? ⟨b5, 2, none⟩ = some (.int .i64 xb) := HD.out.at_ 2 2 rfl rfl
    have x3 : w5.cell? ⟨b5, 3, none⟩ = some (.string xs) := HD.out.at_ 2 3 rfl rfl
    have x4 : w5.cell? ⟨b5, 4, none⟩ = some (.bool xo) := HD.out.at_ 2 4 rfl rfl
    have HC := Aside0.mk (bag_twice' HD.out.hs HN.out xa HId.out hr)
    go_upto_region 16 with (go_at_call 14; refine HC.out.mono ?_; rintro e w6 ⟨rfl, hs, hb⟩; replace HD := Aside0.mk (HD.out.bag hs hb); clear hs hb)
    clear HC x0 x1 x2 x3 x4
    have z0 : w6.cell? ⟨b8, 0, none⟩ = some (.slice A0' (lsR s1).length c0') := HD.out.at_ 0 0 rfl rfl
    have z1 : w6.cell? ⟨b8, 1, none⟩ = some (.int .i64 s1.last) := HD.out.at_ 0 1 rfl rfl
    have z2 : w6.cell? ⟨b8, 2, none⟩ = some (.slice A2' (csR s1).length c2') := HD.out.at_ 0 2 rfl rfl
    have t6a : w6.cell? ⟨b6, 0, none⟩ = some (.slice none 0 0) := HD.out.at_ 1 0 rfl rfl
    have t6b : w6.cell? ⟨b6, 1, none⟩ = some (.int .i64 0) := HD.out.at_ 1 1 rfl rfl
    have t6c : w6.cell? ⟨b6, 2, none⟩ = some (.slice none 0 0) := HD.out.at_ 1 2 rfl rfl
    have f0 : w6.frozen? ⟨b6, 0, none⟩ = false := blk_frozen (HD.out.bx.get 1 rfl) 0
    have f1 : w6.frozen? ⟨b6, 1, none⟩ = false := blk_frozen (HD.out.bx.get 1 rfl) 1
    have f2 : w6.frozen? ⟨b6, 2, none⟩ = false := blk_frozen (HD.out.bx.get 1 rfl) 2
    go_wp2
    replace HD := Aside0.mk (HD.out.st3 1 rfl (.slice A0' (lsR s1).length c0') (.int .i64 s1.last) (.slice A2' (csR s1).length c2'))
    simp only [List.set_cons_succ, List.set_cons_zero] at HD
    refine bodyPost_ret (results_ct rfl _ _ b6 51 #[.slice A0' (lsR s1).length c0', .int .i64 s1.last, .slice A2' (csR s1).length c2'] (0, 0) _ rfl (HD.out.bx.get 1 rfl) Try.underlying51 rfl (by kernel_rfl)) rfl ?_
    exact ⟨s1, _, _, rfl, HD.out.drop.drop.drop.drop, by have := twiceB_cuts s xa; rw [hr] at this; dsimp only at this; rw [this]; omega⟩
  have n3 : (xk == 3) = false := beq_eq_false_iff_ne.mpr k3
  have n3' : decide (xk = 3) = false := decide_eq_false k3
  clear k3
  by_cases k4 : xk = 4
  · subst k4
    rcases hr : setB s xa xb xo with ⟨s1, q1⟩
    have HS := Aside0.mk (HD.out.sets HCu.out xa xb xo)
    rw [hr] at HS
    go_upto_region 19 with (go_at_call 34; refine HS.out.mono ?_; rintro e w4 ⟨v0', v2', rfl, hd⟩; obtain ⟨A0', c0', A2', c2', rfl, rfl⟩ := hd.sl; replace HD := Aside0.mk hd; clear hd)
    clear HS x0 x1 x2 x3 x4 y0 y1 y2
    replace HD := Aside0.mk (HD.out.cons #[.slice A0' (lsR s1).length c0', .int .i64 s1.last, .slice A2' (csR s1).length c2'] 51 (by decide))
    generalize w4.alloc (.cells #[.slice A0' (lsR s1).length c0', .int .i64 s1.last, .slice A2' (csR s1).length c2'] 51) = w5 at HD ⊢
    generalize w4.heap.size = b8 at HD ⊢
    have x0 : w5.cell? ⟨b5, 0, none⟩ = some (.int .i64 4) := HD.out.at_ 2 0 rfl rfl
    have x1 : w5.cell? ⟨b5, 1, none⟩ = some (.int .i64 xa) := HD.out.at_ 2 1 rfl rfl
    have x2 : w5.cell? ⟨b5, 2, none⟩ = some (.int .i64 xb) := HD.out.at_ 2 2 rfl rfl
    have x3 : w5.cell? ⟨b5, 3, none⟩ = some (.string xs) := HD.out.at_ 2 3 rfl rfl
    have x4 : w5.cell? ⟨b5, 4, none⟩ = some (.bool xo) := HD.out.at_ 2 4 rfl rfl
    clear x0 x1 x2 x3 x4
    replace HD := Aside0.mk (HD.out.below (below_drew (Below.refl _ _)))
    refine start_ (n := 13) (S := fun w' => w'.cell? ⟨b8, 0, none⟩ = some (.slice A0' (lsR s1).length c0') ∧ w'.cell? ⟨b8, 1, none⟩ = some (.int .i64 s1.last) ∧ w'.cell? ⟨b8, 2, none⟩ = some (.slice A2' (csR s1).length c2') ∧ w'.cell? ⟨b5, 1, none⟩ = some (.int .i64 xa) ∧ w'.cell? ⟨b5, 2, none⟩ = some (.int .i64 xb) ∧ w'.cell? ⟨b5, 4, none⟩ = some (.bool xo)) (ds := [11]) #[false, false, false, false, false, false, false, false, false, false, false, false, false] (by kernel_rfl) rfl rfl ⟨HD.out.at_ 0 0 rfl rfl, HD.out.at_ 0 1 rfl rfl, HD.out.at_ 0 2 rfl rfl, HD.out.at_ 2 1 rfl rfl, HD.out.at_ 2 2 rfl rfl, HD.out.at_ 2 4 rfl rfl⟩ (fun hHeld => ?_); refine with_tabW does19.tab does19.bits (fun HT_ HW_ => ?_)
    generalize w5.drew = wd at HD hHeld ⊢
    refine take_ (i := 0) (N := some 147) (v := ?_) (a' := ?_) #[true, false, false, false, false, false, false, false, false, false, false, false, false] rfl rfl (take_ofW HT_.out HW_.out (by kernel_rfl)) (fun _ _ _ h => h) (Or.inl ⟨by rfl, ?_⟩) hHeld ?_ ?_
    rotate_left
    · rintro w' ⟨s0, s1, s2, s3, s4, s5⟩
      go_simp
      with_reducible rfl
    rotate_left
    · simp only [Act.put, List.setIfInBounds_toArray, List.set_cons_zero, List.set_cons_succ, i64_w, i32_w]
      rfl
    refine pure_ (i := 1) (N := some 148) (v := ?_) (a' := ?_) #[true, true, false, false, false, false, false, false, false, false, false, false, false] rfl rfl (any_of HT_.out (by kernel_rfl)) (fun _ _ _ h => h) (Or.inl ⟨by rfl, ?_⟩) ?_ ?_
    rotate_left
    · intro w'
      go_simp
      with_reducible rfl
    rotate_left
    · simp only [Act.put, List.setIfInBounds_toArray, List.set_cons_zero, List.set_cons_succ, i64_w, i32_w]
      rfl
    refine pure_ (i := 2) (N := some 149) (v := ?_) (a' := ?_) #[true, true, true, false, false, false, false, false, false, false, false, false, false] rfl rfl (any_of HT_.out (by kernel_rfl)) (fun _ _ _ h => h) (Or.inl ⟨by rfl, ?_⟩) ?_ ?_
    rotate_left
    · intro w'
      go_simp
      with_reducible rfl
    rotate_left
    · simp only [Act.put, List.setIfInBounds_toArray, List.set_cons_zero, List.set_cons_succ, i64_w, i32_w]
      rfl
    refine take_ (i := 3) (N := some 150) (v := ?_) (a' := ?_) #[true, true, true, true, false, false, false, false, false, false, false, false, false] rfl rfl (take_ofW HT_.out HW_.out (by kernel_rfl)) (fun _ _ _ h => h) (Or.inl ⟨by rfl, ?_⟩) hHeld ?_ ?_
    rotate_left
    · rintro w' ⟨s0, s1, s2, s3, s4, s5⟩
      go_simp
      with_reducible rfl
    rotate_left
    · simp only [Act.put, List.setIfInBounds_toArray, List.set_cons_zero, List.set_cons_succ, i64_w, i32_w]
      rfl
    refine pure_ (i := 4) (N := some 151) (v := ?_) (a' := ?_) #[true, true, true, true, true, false, false, false, false, false, false, false, false] rfl rfl (any_of HT_.out (by kernel_rfl)) (fun _ _ _ h => h) (Or.inl ⟨by rfl, ?_⟩) ?_ ?_
    rotate_left
    · intro w'
      go_simp
      with_reducible rfl
    rotate_left
    · simp only [Act.put, List.setIfInBounds_toArray, List.set_cons_zero, List.set_cons_succ, i64_w, i32_w]
      rfl
    refine take_ (i := 5) (N := some 152) (v := ?_) (a' := ?_) #[true, true, true, true, true, true, false, false, false, false, false, false, false] rfl rfl (take_ofW HT_.out HW_.out (by kernel_rfl)) (fun _ _ _ h => h) (Or.inl ⟨by rfl, ?_⟩) hHeld ?_ ?_
    rotate_left
    · rintro w' ⟨s0, s1, s2, s3, s4, s5⟩
      go_simp
      with_reducible rfl
    rotate_left
    · simp only [Act.put, List.setIfInBounds_toArray, List.set_cons_zero, List.set_cons_succ, i64_w, i32_w]
      rfl
    refine pure_ (i := 6) (N := some 153) (v := ?_) (a' := ?_) #[true, true, true, true, true, true, true, false, false, false, false, false, false] rfl rfl (any_of HT_.out (by kernel_rfl)) (fun _ _ _ h => h) (Or.inl ⟨by rfl, ?_⟩) ?_ ?_
    rotate_left
    · intro w'
      go_simp
      with_reducible rfl
    rotate_left
    · simp only [Act.put, List.setIfInBounds_toArray, List.set_cons_zero, List.set_cons_succ, i64_w, i32_w]
      rfl
    refine take_ (i := 7) (N := some 154) (v := ?_) (a' := ?_) #[true, true, true, true, true, true, true, true, false, false, false, false, false] rfl rfl (take_ofW HT_.out HW_.out (by kernel_rfl)) (fun _ _ _ h => h) (Or.inl ⟨by rfl, ?_⟩) hHeld ?_ ?_
    rotate_left
    · rintro w' ⟨s0, s1, s2, s3, s4, s5⟩
      go_simp
      with_reducible rfl
    rotate_left
    · simp only [Act.put, List.setIfInBounds_toArray, List.set_cons_zero, List.set_cons_succ, i64_w, i32_w]
      rfl
    refine pure_ (i := 9) (N := some 156) (v := ?_) (a' := ?_) #[true, true, true, true, true, true, true, true, false, true, false, false, false] rfl rfl (any_of HT_.out (by kernel_rfl)) (fun _ _ _ h => h) (Or.inl ⟨by rfl, ?_⟩) ?_ ?_
    rotate_left
    · intro w'
      go_simp
      with_reducible rfl
    rotate_left
    · simp only [Act.put, List.setIfInBounds_toArray, List.set_cons_zero, List.set_cons_succ, i64_w, i32_w]
      rfl
    refine one_ (i := 8) (N := some 155) #[true, true, true, true, true, true, true, true, true, true, false, false, false] rfl rfl (one_of HT_.out (by kernel_rfl)) (by decide) (fun K hK => ?_)
    refine goes_ Try.func16 (by kernel_rfl) rfl #[.pointer (some ⟨g, 0, none⟩), .int .i64 xa, .int .i64 xb, .bool xo] (by rfl) rfl rfl (by (try simp only [List.map_toArray, List.map_cons, List.map_nil]); first | done | rfl) ?_
    refine (bag_apart' HD.out.hs HN.out xa xb xo hr).mono ?_
    rintro e w6 ⟨rfl, hs, hb⟩
    refine ⟨_, rfl, ?_⟩
    replace HD := Aside0.mk (HD.out.bag hs hb)
    clear hs hb
    refine hK.out _ _ ⟨HD.out.at_ 0 0 rfl rfl, HD.out.at_ 0 1 rfl rfl, HD.out.at_ 0 2 rfl rfl, HD.out.at_ 2 1 rfl rfl, HD.out.at_ 2 2 rfl rfl, HD.out.at_ 2 4 rfl rfl⟩ (fun hHeld => ?_)
    clear hK K
    refine norm_ (a' := ?_) ?_ ?_
    rotate_left
    · show Act.put _ (some 155) _ = _
      simp only [Act.put, List.setIfInBounds_toArray, List.set_cons_zero, List.set_cons_succ, i64_w, i32_w]
      rfl
    refine pure_ (i := 10) (N := some 157) (v := ?_) (a' := ?_) #[true, true, true, true, true, true, true, true, true, true, true, false, false] rfl rfl (any_of HT_.out (by kernel_rfl)) (fun _ _ _ h => h) (Or.inl ⟨by rfl, ?_⟩) ?_ ?_
    rotate_left
    · intro w'
      go_simp
      with_reducible rfl
    rotate_left
    · simp only [Act.put, List.setIfInBounds_toArray, List.set_cons_zero, List.set_cons_succ, i64_w, i32_w]
      rfl
    refine last_ (i := 11) (N := none) #[true, true, true, true, true, true, true, true, true, true, true, true, false] rfl rfl (one_of HT_.out (by kernel_rfl)) (by decide) (fun K hK => ?_)
    have t6a : World.cell? _ ⟨b6, 0, none⟩ = some (.slice none 0 0) := HD.out.at_ 1 0 rfl rfl
    have t6b : World.cell? _ ⟨b6, 1, none⟩ = some (.int .i64 0) := HD.out.at_ 1 1 rfl rfl
    have t6c : World.cell? _ ⟨b6, 2, none⟩ = some (.slice none 0 0) := HD.out.at_ 1 2 rfl rfl
    have f0 : World.frozen? _ ⟨b6, 0, none⟩ = false := blk_frozen (HD.out.bx.get 1 rfl) 0
    have f1 : World.frozen? _ ⟨b6, 1, none⟩ = false := blk_frozen (HD.out.bx.get 1 rfl) 1
    have f2 : World.frozen? _ ⟨b6, 2, none⟩ = false := blk_frozen (HD.out.bx.get 1 rfl) 2
    refine skip_ (w1 := ?_) (by rfl) rfl ?_ ?_
    rotate_left
    · go_simp
      rfl
    refine hK.out _ _ ?_
    clear hK K t6a t6b t6c f0 f1 f2
    refine pure_ (i := 12) (N := some 7) (v := ?_) (a' := ?_) #[true, true, true, true, true, true, true, true, true, true, true, true, true] rfl rfl (any_of HT_.out (by kernel_rfl)) (fun _ _ _ h => h) (Or.inl ⟨by rfl, ?_⟩) ?_ ?_
    rotate_left
    · intro w'
      go_simp
      with_reducible rfl
    rotate_left
    · simp only [Act.put, List.setIfInBounds_toArray, List.set_cons_zero, List.set_cons_succ, i64_w, i32_w]
      rfl
    refine done_ (done_of HT_.out (by kernel_rfl)) ?_
    clear HT_ HW_ hHeld
    try go_wp2
    replace HD := Aside0.mk (HD.out.st3 1 rfl (.slice A0' (lsR s1).length c0') (.int .i64 s1.last) (.slice A2' (csR s1).length c2'))
    simp only [List.set_cons_succ, List.set_cons_zero] at HD
    refine bodyPost_ret (results_ct rfl _ _ b6 51 #[.slice A0' (lsR s1).length c0', .int .i64 s1.last, .slice A2' (csR s1).length c2'] (0, 0) _ rfl (HD.out.bx.get 1 rfl) Try.underlying51 rfl (by kernel_rfl)) rfl ?_
    exact ⟨s1, _, _, rfl, (HD.out.more (by omega)).drop.drop.drop.drop, by have := setB_cuts s xa xb xo; rw [hr] at this; exact this⟩
  have n4 : (xk == 4) = false := beq_eq_false_iff_ne.mpr k4
  have n4' : decide (xk = 4) = false := decide_eq_false k4
  clear k4
  by_cases k5 : xk = 5
  · subst k5
    have hF := spliceref10_Bag_Find.calls 402 A0 c0 (lsR s) s.last A2 c2 (csR s) xa _ w3 (Kd.R_reads' HD.out.r0).2.2 (Kd.R_reads' HD.out.r0).2.1 (Kd.R_reads' HD.out.r2).2.2 (Kd.R_reads' HD.out.r2).2.1 (find_f s HL.out.1 xa 402 (by omega))
    cases hf : findM s.l xa with
    | none =>
      rw [fiR_none s.l xa 0 hf] at hF
      have HF := Aside0.mk hF
      clear hF
      go_upto_region 22 with (go_at_call 35; refine HF.out.mono ?_; rintro e w4 ⟨rfl, hb⟩; replace HD := Aside0.mk (HD.out.below hb); clear hb)
      clear HF x0 x1 x2 x3 x4 y0 y1 y2
      have x0 : w4.cell? ⟨b5, 0, none⟩ = some (.int .i64 5) := HD.out.at_ 1 0 rfl rfl
      have x1 : w4.cell? ⟨b5, 1, none⟩ = some (.int .i64 xa) := HD.out.at_ 1 1 rfl rfl
      have x2 : w4.cell? ⟨b5, 2, none⟩ = some (.int .i64 xb) := HD.out.at_ 1 2 rfl rfl
      have x3 : w4.cell? ⟨b5, 3, none⟩ = some (.string xs) := HD.out.at_ 1 3 rfl rfl
      have x4 : w4.cell? ⟨b5, 4, none⟩ = some (.bool xo) := HD.out.at_ 1 4 rfl rfl
      have hC := bag_find' HD.out.hs xa HId.out (m := ⟨0, 0, 0, ⟨#[]⟩⟩) (by unfold findB; rw [hf]; rfl)
      (try dsimp only at hC)
      have HC := Aside0.mk hC
      clear hC
      go_upto_region 23 with (go_at_call 21; refine HC.out.mono ?_; rintro e w5 ⟨rfl, hb⟩; replace HD := Aside0.mk (HD.out.below hb); clear hb)
      clear HC x0 x1 x2 x3 x4
      replace HD := Aside0.mk (HD.out.cons #[.int .i64 0, .int .i64 0, .int .i64 0, .string ⟨#[]⟩] 34 (by decide))
      generalize w5.alloc (.cells #[.int .i64 0, .int .i64 0, .int .i64 0, .string ⟨#[]⟩] 34) = w6 at HD ⊢
      generalize w5.heap.size = b28 at HD ⊢
      replace HD := Aside0.mk (HD.out.below (below_drew (Below.refl _ _)))
      have he : ∀ w, (Op.equalIn 10000 34 (.agg #[.int .i64 0, .int .i64 0, .int .i64 0, .string ⟨#[]⟩]) (.agg #[.int .i64 0, .int .i64 0, .int .i64 0, .string ⟨#[]⟩])).run Try.prog w = .ok true w := fun w => (eqMail 9998 w noMail noMail).trans (by rw [eqMl_self])
      refine start_ (n := 29) (S := fun w' => w'.cell? ⟨b4, 0, none⟩ = some (.slice A0 (lsR s).length c0) ∧ w'.cell? ⟨b4, 1, none⟩ = some (.int .i64 s.last) ∧ w'.cell? ⟨b4, 2, none⟩ = some (.slice A2 (csR s).length c2) ∧ w'.cell? ⟨b28, 0, none⟩ = some (.int .i64 0) ∧ w'.cell? ⟨b28, 1, none⟩ = some (.int .i64 0) ∧ w'.cell? ⟨b28, 2, none⟩ = some (.int .i64 0) ∧ w'.cell? ⟨b28, 3, none⟩ = some (.string ⟨#[]⟩)) (ds := [27]) #[false, false, false, false, false, false, false, false, false, false, false, false, false, false, false, false, false, false, false, false, false, false, false, false, false, false, false, false, false] (by kernel_rfl) rfl rfl ⟨HD.out.at_ 3 0 rfl rfl, HD.out.at_ 3 1 rfl rfl, HD.out.at_ 3 2 rfl rfl, HD.out.at_ 0 0 rfl rfl, HD.out.at_ 0 1 rfl rfl, HD.out.at_ 0 2 rfl rfl, HD.out.at_ 0 3 rfl rfl⟩ (fun hHeld => ?_); refine with_tabW does23.tab does23.bits (fun HT_ HW_ => ?_)
      generalize w6.drew = wd at HD hHeld ⊢
      refine take_ (i := 0) (N := some 171) (v := ?_) (a' := ?_) #[true, false, false, false, false, false, false, false, false, false, false, false, false, false, false, false, false, false, false, false, false, false, false, false, false, false, false, false, false] rfl rfl (take_ofW HT_.out HW_.out (by kernel_rfl)) (fun _ _ _ h => h) (Or.inl ⟨by rfl, ?_⟩) hHeld ?_ ?_
      rotate_left
      · rintro w' ⟨s0, s1, s2, s3, s4, s5, s6⟩
        go_simp
        with_reducible rfl
      rotate_left
      · simp only [Act.put, List.setIfInBounds_toArray, List.set_cons_zero, List.set_cons_succ, i64_w, i32_w]
        rfl
      refine pure_ (i := 1) (N := some 172) (v := ?_) (a' := ?_) #[true, true, false, false, false, false, false, false, false, false, false, false, false, false, false, false, false, false, false, false, false, false, false, false, false, false, false, false, false] rfl rfl (any_of HT_.out (by kernel_rfl)) (fun _ _ _ h => h) (Or.inl ⟨by rfl, ?_⟩) ?_ ?_
      rotate_left
      · intro w'
        go_simp
        with_reducible rfl
      rotate_left
      · simp only [Act.put, List.setIfInBounds_toArray, List.set_cons_zero, List.set_cons_succ, i64_w, i32_w]
        rfl
      refine pure_ (i := 2) (N := some 173) (v := ?_) (a' := ?_) #[true, true, true, false, false, false, false, false, false, false, false, false, false, false, false, false, false, false, false, false, false, false, false, false, false, false, false, false, false] rfl rfl (any_of HT_.out (by kernel_rfl)) (fun _ _ _ h => h) (Or.inl ⟨by rfl, ?_⟩) ?_ ?_
      rotate_left
      · intro w'
        go_simp
        with_reducible rfl
      rotate_left
      · simp only [Act.put, List.setIfInBounds_toArray, List.set_cons_zero, List.set_cons_succ, i64_w, i32_w]
        rfl
      refine pure_ (i := 3) (N := some 174) (v := ?_) (a' := ?_) #[true, true, true, true, false, false, false, false, false, false, false, false, false, false, false, false, false, false, false, false, false, false, false, false, false, false, false, false, false] rfl rfl (any_of HT_.out (by kernel_rfl)) (fun _ _ _ h => h) (Or.inl ⟨by rfl, ?_⟩) ?_ ?_
      rotate_left
      · intro w'
        go_simp
        with_reducible rfl
      rotate_left
      · simp only [Act.put, List.setIfInBounds_toArray, List.set_cons_zero, List.set_cons_succ, i64_w, i32_w]
        rfl
      refine pure_ (i := 4) (N := some 175) (v := ?_) (a' := ?_) #[true, true, true, true, true, false, false, false, false, false, false, false, false, false, false, false, false, false, false, false, false, false, false, false, false, false, false, false, false] rfl rfl (any_of HT_.out (by kernel_rfl)) (fun _ _ _ h => h) (Or.inl ⟨by rfl, ?_⟩) ?_ ?_
      rotate_left
      · intro w'
        go_simp
        with_reducible rfl
      rotate_left
      · simp only [Act.put, List.setIfInBounds_toArray, List.set_cons_zero, List.set_cons_succ, i64_w, i32_w]
        rfl
      refine pure_ (i := 5) (N := some 176) (v := ?_) (a' := ?_) #[true, true, true, true, true, true, false, false, false, false, false, false, false, false, false, false, false, false, false, false, false, false, false, false, false, false, false, false, false] rfl rfl (any_of HT_.out (by kernel_rfl)) (fun _ _ _ h => h) (Or.inl ⟨by rfl, ?_⟩) ?_ ?_
      rotate_left
      · intro w'
        go_simp
        with_reducible rfl
      rotate_left
      · simp only [Act.put, List.setIfInBounds_toArray, List.set_cons_zero, List.set_cons_succ, i64_w, i32_w]
        rfl
      refine pure_ (i := 6) (N := some 177) (v := ?_) (a' := ?_) #[true, true, true, true, true, true, true, false, false, false, false, false, false, false, false, false, false, false, false, false, false, false, false, false, false, false, false, false, false] rfl rfl (any_of HT_.out (by kernel_rfl)) (fun _ _ _ h => h) (Or.inl ⟨by rfl, ?_⟩) ?_ ?_
      rotate_left
      · intro w'
        go_simp
        with_reducible rfl
      rotate_left
      · simp only [Act.put, List.setIfInBounds_toArray, List.set_cons_zero, List.set_cons_succ, i64_w, i32_w]
        rfl
      refine pure_ (i := 7) (N := some 178) (v := ?_) (a' := ?_) #[true, true, true, true, true, true, true, true, false, false, false, false, false, false, false, false, false, false, false, false, false, false, false, false, false, false, false, false, false] rfl rfl (any_of HT_.out (by kernel_rfl)) (fun _ _ _ h => h) (Or.inl ⟨by rfl, ?_⟩) ?_ ?_
      rotate_left
      · intro w'
        go_simp
        with_reducible rfl
      rotate_left
      · simp only [Act.put, List.setIfInBounds_toArray, List.set_cons_zero, List.set_cons_succ, i64_w, i32_w]
        rfl
      refine pure_ (i := 8) (N := some 179) (v := ?_) (a' := ?_) #[true, true, true, true, true, true, true, true, true, false, false, false, false, false, false, false, false, false, false, false, false, false, false, false, false, false, false, false, false] rfl rfl (any_of HT_.out (by kernel_rfl)) (fun _ _ _ h => h) (Or.inl ⟨by rfl, ?_⟩) ?_ ?_
      rotate_left
      · intro w'
        go_simp
        with_reducible rfl
      rotate_left
      · simp only [Act.put, List.setIfInBounds_toArray, List.set_cons_zero, List.set_cons_succ, i64_w, i32_w]
        rfl
      refine take_ (i := 9) (N := some 180) (v := ?_) (a' := ?_) #[true, true, true, true, true, true, true, true, true, true, false, false, false, false, false, false, false, false, false, false, false, false, false, false, false, false, false, false, false] rfl rfl (take_ofW HT_.out HW_.out (by kernel_rfl)) (fun _ _ _ h => h) (Or.inl ⟨by rfl, ?_⟩) hHeld ?_ ?_
      rotate_left
      · rintro w' ⟨s0, s1, s2, s3, s4, s5, s6⟩
        go_simp
        with_reducible rfl
      rotate_left
      · simp only [Act.put, List.setIfInBounds_toArray, List.set_cons_zero, List.set_cons_succ, i64_w, i32_w]
        rfl
      refine pure_ (i := 10) (N := some 181) (v := ?_) (a' := ?_) #[true, true, true, true, true, true, true, true, true, true, true, false, false, false, false, false, false, false, false, false, false, false, false, false, false, false, false, false, false] rfl rfl (any_of HT_.out (by kernel_rfl)) (fun _ _ _ h => h) (Or.inl ⟨by rfl, ?_⟩) ?_ ?_
      rotate_left
      · intro w'
        go_simp
        with_reducible rfl
      rotate_left
      · simp only [Act.put, List.setIfInBounds_toArray, List.set_cons_zero, List.set_cons_succ, i64_w, i32_w]
        rfl
      refine pure_ (i := 11) (N := some 182) (v := ?_) (a' := ?_) #[true, true, true, true, true, true, true, true, true, true, true, true, false, false, false, false, false, false, false, false, false, false, false, false, false, false, false, false, false] rfl rfl (any_of HT_.out (by kernel_rfl)) (fun _ _ _ h => h) (Or.inl ⟨by rfl, ?_⟩) ?_ ?_
      rotate_left
      · intro w'
        go_simp
        with_reducible rfl
      rotate_left
      · simp only [Act.put, List.setIfInBounds_toArray, List.set_cons_zero, List.set_cons_succ, i64_w, i32_w]
        rfl
      refine pure_ (i := 12) (N := some 183) (v := ?_) (a' := ?_) #[true, true, true, true, true, true, true, true, true, true, true, true, true, false, false, false, false, false, false, false, false, false, false, false, false, false, false, false, false] rfl rfl (any_of HT_.out (by kernel_rfl)) (fun _ _ _ h => h) (Or.inl ⟨by rfl, ?_⟩) ?_ ?_
      rotate_left
      · intro w'
        go_simp
        with_reducible rfl
      rotate_left
      · simp only [Act.put, List.setIfInBounds_toArray, List.set_cons_zero, List.set_cons_succ, i64_w, i32_w]
        rfl
      refine pure_ (i := 13) (N := some 184) (v := ?_) (a' := ?_) #[true, true, true, true, true, true, true, true, true, true, true, true, true, true, false, false, false, false, false, false, false, false, false, false, false, false, false, false, false] rfl rfl (any_of HT_.out (by kernel_rfl)) (fun _ _ _ h => h) (Or.inl ⟨by rfl, ?_⟩) ?_ ?_
      rotate_left
      · intro w'
        go_simp
        with_reducible rfl
      rotate_left
      · simp only [Act.put, List.setIfInBounds_toArray, List.set_cons_zero, List.set_cons_succ, i64_w, i32_w]
        rfl
      refine pure_ (i := 14) (N := some 185) (v := undef) (a' := ?_) #[true, true, true, true, true, true, true, true, true, true, true, true, true, true, true, false, false, false, false, false, false, false, false, false, false, false, false, false, false] rfl rfl (any_of HT_.out (by kernel_rfl)) (fun _ _ _ h => h) (Or.inr ⟨by rfl, rfl⟩) ?_ ?_
      rotate_left
      · simp only [Act.put, List.setIfInBounds_toArray, List.set_cons_zero, List.set_cons_succ, i64_w, i32_w]
        rfl
      refine pure_ (i := 15) (N := some 186) (v := undef) (a' := ?_) #[true, true, true, true, true, true, true, true, true, true, true, true, true, true, true, true, false, false, false, false, false, false, false, false, false, false, false, false, false] rfl rfl (any_of HT_.out (by kernel_rfl)) (fun _ _ _ h => h) (Or.inr ⟨by rfl, rfl⟩) ?_ ?_
      rotate_left
      · simp only [Act.put, List.setIfInBounds_toArray, List.set_cons_zero, List.set_cons_succ, i64_w, i32_w]
        rfl
      refine pure_ (i := 16) (N := some 187) (v := undef) (a' := ?_) #[true, true, true, true, true, true, true, true, true, true, true, true, true, true, true, true, true, false, false, false, false, false, false, false, false, false, false, false, false] rfl rfl (any_of HT_.out (by kernel_rfl)) (fun _ _ _ h => h) (Or.inr ⟨by rfl, rfl⟩) ?_ ?_
      rotate_left
      · simp only [Act.put, List.setIfInBounds_toArray, List.set_cons_zero, List.set_cons_succ, i64_w, i32_w]
        rfl
      refine pure_ (i := 17) (N := some 188) (v := undef) (a' := ?_) #[true, true, true, true, true, true, true, true, true, true, true, true, true, true, true, true, true, true, false, false, false, false, false, false, false, false, false, false, false] rfl rfl (any_of HT_.out (by kernel_rfl)) (fun _ _ _ h => h) (Or.inr ⟨by rfl, rfl⟩) ?_ ?_
      rotate_left
      · simp only [Act.put, List.setIfInBounds_toArray, List.set_cons_zero, List.set_cons_succ, i64_w, i32_w]
        rfl
      refine pure_ (i := 18) (N := some 189) (v := undef) (a' := ?_) #[true, true, true, true, true, true, true, true, true, true, true, true, true, true, true, true, true, true, true, false, false, false, false, false, false, false, false, false, false] rfl rfl (any_of HT_.out (by kernel_rfl)) (fun _ _ _ h => h) (Or.inr ⟨by rfl, rfl⟩) ?_ ?_
      rotate_left
      · simp only [Act.put, List.setIfInBounds_toArray, List.set_cons_zero, List.set_cons_succ, i64_w, i32_w]
        rfl
      refine pure_ (i := 19) (N := some 190) (v := undef) (a' := ?_) #[true, true, true, true, true, true, true, true, true, true, true, true, true, true, true, true, true, true, true, true, false, false, false, false, false, false, false, false, false] rfl rfl (any_of HT_.out (by kernel_rfl)) (fun _ _ _ h => h) (Or.inr ⟨by rfl, rfl⟩) ?_ ?_
      rotate_left
      · simp only [Act.put, List.setIfInBounds_toArray, List.set_cons_zero, List.set_cons_succ, i64_w, i32_w]
        rfl
      refine pure_ (i := 20) (N := some 191) (v := undef) (a' := ?_) #[true, true, true, true, true, true, true, true, true, true, true, true, true, true, true, true, true, true, true, true, true, false, false, false, false, false, false, false, false] rfl rfl (any_of HT_.out (by kernel_rfl)) (fun _ _ _ h => h) (Or.inr ⟨by rfl, rfl⟩) ?_ ?_
      rotate_left
      · simp only [Act.put, List.setIfInBounds_toArray, List.set_cons_zero, List.set_cons_succ, i64_w, i32_w]
        rfl
      refine pure_ (i := 21) (N := some 192) (v := undef) (a' := ?_) #[true, true, true, true, true, true, true, true, true, true, true, true, true, true, true, true, true, true, true, true, true, true, false, false, false, false, false, false, false] rfl rfl (any_of HT_.out (by kernel_rfl)) (fun _ _ _ h => h) (Or.inr ⟨by rfl, rfl⟩) ?_ ?_
      rotate_left
      · simp only [Act.put, List.setIfInBounds_toArray, List.set_cons_zero, List.set_cons_succ, i64_w, i32_w]
        rfl
      refine pure_ (i := 22) (N := some 193) (v := undef) (a' := ?_) #[true, true, true, true, true, true, true, true, true, true, true, true, true, true, true, true, true, true, true, true, true, true, true, false, false, false, false, false, false] rfl rfl (any_of HT_.out (by kernel_rfl)) (fun _ _ _ h => h) (Or.inr ⟨by rfl, rfl⟩) ?_ ?_
      rotate_left
      · simp only [Act.put, List.setIfInBounds_toArray, List.set_cons_zero, List.set_cons_succ, i64_w, i32_w]
        rfl
      refine pure_ (i := 23) (N := some 194) (v := undef) (a' := ?_) #[true, true, true, true, true, true, true, true, true, true, true, true, true, true, true, true, true, true, true, true, true, true, true, true, false, false, false, false, false] rfl rfl (any_of HT_.out (by kernel_rfl)) (fun _ _ _ h => h) (Or.inr ⟨by rfl, rfl⟩) ?_ ?_
      rotate_left
      · simp only [Act.put, List.setIfInBounds_toArray, List.set_cons_zero, List.set_cons_succ, i64_w, i32_w]
        rfl
      refine pure_ (i := 24) (N := some 195) (v := undef) (a' := ?_) #[true, true, true, true, true, true, true, true, true, true, true, true, true, true, true, true, true, true, true, true, true, true, true, true, true, false, false, false, false] rfl rfl (any_of HT_.out (by kernel_rfl)) (fun _ _ _ h => h) (Or.inr ⟨by rfl, rfl⟩) ?_ ?_
      rotate_left
      · simp only [Act.put, List.setIfInBounds_toArray, List.set_cons_zero, List.set_cons_succ, i64_w, i32_w]
        rfl
      refine pure_ (i := 25) (N := some 196) (v := ?_) (a' := ?_) #[true, true, true, true, true, true, true, true, true, true, true, true, true, true, true, true, true, true, true, true, true, true, true, true, true, true, false, false, false] rfl rfl (any_of HT_.out (by kernel_rfl)) (fun _ _ _ h => h) (Or.inl ⟨by rfl, ?_⟩) ?_ ?_
      rotate_left
      · intro w'
        go_simp
        with_reducible rfl
      rotate_left
      · simp only [Act.put, List.setIfInBounds_toArray, List.set_cons_zero, List.set_cons_succ, i64_w, i32_w]
        rfl
      refine pure_ (i := 26) (N := some 197) (v := ?_) (a' := ?_) #[true, true, true, true, true, true, true, true, true, true, true, true, true, true, true, true, true, true, true, true, true, true, true, true, true, true, true, false, false] rfl rfl (any_of HT_.out (by kernel_rfl)) (fun _ _ _ h => h) (Or.inl ⟨by rfl, ?_⟩) ?_ ?_
      rotate_left
      · intro w'
        go_simp
        with_reducible rfl
      rotate_left
      · simp only [Act.put, List.setIfInBounds_toArray, List.set_cons_zero, List.set_cons_succ, i64_w, i32_w]
        rfl
      refine last_ (i := 27) (N := none) #[true, true, true, true, true, true, true, true, true, true, true, true, true, true, true, true, true, true, true, true, true, true, true, true, true, true, true, true, false] rfl rfl (one_of HT_.out (by kernel_rfl)) (by decide) (fun K hK => ?_)
      have t6a : World.cell? _ ⟨b6, 0, none⟩ = some (.slice none 0 0) := HD.out.at_ 1 0 rfl rfl
      have t6b : World.cell? _ ⟨b6, 1, none⟩ = some (.int .i64 0) := HD.out.at_ 1 1 rfl rfl
      have t6c : World.cell? _ ⟨b6, 2, none⟩ = some (.slice none 0 0) := HD.out.at_ 1 2 rfl rfl
      have f0 : World.frozen? _ ⟨b6, 0, none⟩ = false := blk_frozen (HD.out.bx.get 1 rfl) 0
      have f1 : World.frozen? _ ⟨b6, 1, none⟩ = false := blk_frozen (HD.out.bx.get 1 rfl) 1
      have f2 : World.frozen? _ ⟨b6, 2, none⟩ = false := blk_frozen (HD.out.bx.get 1 rfl) 2
      refine skip_ (w1 := ?_) (by rfl) rfl ?_ ?_
      rotate_left
      · go_simp
        rfl
      refine hK.out _ _ ?_
      clear hK K t6a t6b t6c f0 f1 f2
      refine pure_ (i := 28) (N := some 7) (v := ?_) (a' := ?_) #[true, true, true, true, true, true, true, true, true, true, true, true, true, true, true, true, true, true, true, true, true, true, true, true, true, true, true, true, true] rfl rfl (any_of HT_.out (by kernel_rfl)) (fun _ _ _ h => h) (Or.inl ⟨by rfl, ?_⟩) ?_ ?_
      rotate_left
      · intro w'
        go_simp
        with_reducible rfl
      rotate_left
      · simp only [Act.put, List.setIfInBounds_toArray, List.set_cons_zero, List.set_cons_succ, i64_w, i32_w]
        rfl
      refine done_ (done_of HT_.out (by kernel_rfl)) ?_
      clear HT_ HW_ hHeld
      try go_wp2
      replace HD := Aside0.mk (HD.out.st3 1 rfl (.slice A0 (lsR s).length c0) (.int .i64 s.last) (.slice A2 (csR s).length c2))
      simp only [List.set_cons_succ, List.set_cons_zero] at HD
      refine bodyPost_ret (results_ct rfl _ _ b6 51 #[.slice A0 (lsR s).length c0, .int .i64 s.last, .slice A2 (csR s).length c2] (0, 0) _ rfl (HD.out.bx.get 1 rfl) Try.underlying51 rfl (by kernel_rfl)) rfl ?_
      exact ⟨s, _, _, rfl, (HD.out.more (by omega)).drop.drop.drop.drop, by omega⟩
    | some m =>
      obtain ⟨j, e1, e2⟩ := fiR_some s.l xa m 0 hf
      rw [Nat.zero_add] at e1
      rw [e1] at hF
      have HF := Aside0.mk hF
      clear hF e1
      have hj : j < s.l.length := (List.getElem?_eq_some_iff.1 e2).1
      have hjl : (j : Int) < ((lsR s).length : Int) := by unfold lsR; rw [List.length_map]; omega
      have hjn : j < (lsR s).length := by omega
      go_upto_region 22 with (go_at_call 35; refine HF.out.mono ?_; rintro e w4 ⟨rfl, hb⟩; replace HD := Aside0.mk (HD.out.below hb); clear hb)
      clear HF x0 x1 x2 x3 x4 y0 y1 y2
      have x0 : w4.cell? ⟨b5, 0, none⟩ = some (.int .i64 5) := HD.out.at_ 1 0 rfl rfl
      have x1 : w4.cell? ⟨b5, 1, none⟩ = some (.int .i64 xa) := HD.out.at_ 1 1 rfl rfl
      have x2 : w4.cell? ⟨b5, 2, none⟩ = some (.int .i64 xb) := HD.out.at_ 1 2 rfl rfl
      have x3 : w4.cell? ⟨b5, 3, none⟩ = some (.string xs) := HD.out.at_ 1 3 rfl rfl
      have x4 : w4.cell? ⟨b5, 4, none⟩ = some (.bool xo) := HD.out.at_ 1 4 rfl rfl
      have hC := bag_find' HD.out.hs xa HId.out (m := m) (by unfold findB; rw [hf])
      (try dsimp only at hC)
      have HC := Aside0.mk hC
      clear hC
      go_upto_region 23 with (go_at_call 21; refine HC.out.mono ?_; rintro e w5 ⟨rfl, hb⟩; replace HD := Aside0.mk (HD.out.below hb); clear hb)
      clear HC x0 x1 x2 x3 x4
      replace HD := Aside0.mk (HD.out.cons #[.int .i64 m.id, .int .i64 m.fr, .int .i64 m.too, .string m.t] 34 (by decide))
      generalize w5.alloc (.cells #[.int .i64 m.id, .int .i64 m.fr, .int .i64 m.too, .string m.t] 34) = w6 at HD ⊢
      generalize w5.heap.size = b28 at HD ⊢
      replace HD := Aside0.mk (HD.out.below (below_drew (Below.refl _ _)))
      obtain ⟨ad, e0, h0, h1, h2, h3⟩ := at_T74 (Kd.R_reads' HD.out.r0).2.2 (j : Int) (by omega) hjl
      have e3 := rd74 s.l j m e2
      rw [show rd_T74 (lsR s) (j : Int) = m74 m from e3, Int.toNat_natCast] at h0 h1 h2 h3
      dsimp only [m74] at h0 h1 h2 h3
      subst e0
      have HE := Aside0.mk (show rd_T74 (lsR s) (j : Int) = m74 m from e3)
      clear e3 e2 hf
      have u1 : decide ((j : Int) ≥ 0) = true := decide_eq_true (by omega)
      have u2 : decide ((j : Int) < 0) = false := decide_eq_false (by omega)
      have u3 : 0 ≤ (j : Int) := by omega
      have u4 : ¬ (j : Int) < 0 := by omega
      have he : ∀ w, (Op.equalIn 10000 74 (.agg #[.int .i64 m.id, .int .i64 m.fr, .int .i64 m.too, .string m.t]) (.agg #[.int .i64 m.id, .int .i64 m.fr, .int .i64 m.too, .string m.t])).run Try.prog w = .ok true w := fun w => (eqMailR 9998 w m m).trans (by rw [eqMl_self])
      refine start_ (n := 29) (S := fun w' => w'.cell? ⟨b4, 0, none⟩ = some (.slice (some ad) (lsR s).length c0) ∧ w'.cell? ⟨b4, 1, none⟩ = some (.int .i64 s.last) ∧ w'.cell? ⟨b4, 2, none⟩ = some (.slice A2 (csR s).length c2) ∧ w'.cell? ⟨b28, 0, none⟩ = some (.int .i64 m.id) ∧ w'.cell? ⟨b28, 1, none⟩ = some (.int .i64 m.fr) ∧ w'.cell? ⟨b28, 2, none⟩ = some (.int .i64 m.too) ∧ w'.cell? ⟨b28, 3, none⟩ = some (.string m.t) ∧ w'.cell? (ad.add (j * 4)) = some (.int .i64 m.id) ∧ w'.cell? ⟨(ad.add (j * 4)).block, (ad.add (j * 4)).off + 1, none⟩ = some (.int .i64 m.fr) ∧ w'.cell? ⟨(ad.add (j * 4)).block, (ad.add (j * 4)).off + 2, none⟩ = some (.int .i64 m.too) ∧ w'.cell? ⟨(ad.add (j * 4)).block, (ad.add (j * 4)).off + 3, none⟩ = some (.string m.t)) (ds := []) #[false, false, false, false, false, false, false, false, false, false, false, false, false, false, false, false, false, false, false, false, false, false, false, false, false, false, false, false, false] (by kernel_rfl) rfl rfl ⟨HD.out.at_ 3 0 rfl rfl, HD.out.at_ 3 1 rfl rfl, HD.out.at_ 3 2 rfl rfl, HD.out.at_ 0 0 rfl rfl, HD.out.at_ 0 1 rfl rfl, HD.out.at_ 0 2 rfl rfl, HD.out.at_ 0 3 rfl rfl, h0, h1, h2, h3⟩ (fun hHeld => ?_); refine with_tabW does23.tab does23.bits (fun HT_ HW_ => ?_)
      generalize w6.drew = wd at HD h0 h1 h2 h3 hHeld ⊢
      refine take_ (i := 0) (N := some 171) (v := ?_) (a' := ?_) #[true, false, false, false, false, false, false, false, false, false, false, false, false, false, false, false, false, false, false, false, false, false, false, false, false, false, false, false, false] rfl rfl (take_ofW HT_.out HW_.out (by kernel_rfl)) (fun _ _ _ h => h) (Or.inl ⟨by rfl, ?_⟩) hHeld ?_ ?_
      rotate_left
      · rintro w' ⟨s0, s1, s2, s3, s4, s5, s6, s7, s8, s9, s10⟩
        go_simp
        with_reducible rfl
      rotate_left
      · simp only [Act.put, List.setIfInBounds_toArray, List.set_cons_zero, List.set_cons_succ, i64_w, i32_w]
        rfl
      refine pure_ (i := 1) (N := some 172) (v := ?_) (a' := ?_) #[true, true, false, false, false, false, false, false, false, false, false, false, false, false, false, false, false, false, false, false, false, false, false, false, false, false, false, false, false] rfl rfl (any_of HT_.out (by kernel_rfl)) (fun _ _ _ h => h) (Or.inl ⟨by rfl, ?_⟩) ?_ ?_
      rotate_left
      · intro w'
        go_simp
        with_reducible rfl
      rotate_left
      · simp only [Act.put, List.setIfInBounds_toArray, List.set_cons_zero, List.set_cons_succ, i64_w, i32_w]
        rfl
      refine pure_ (i := 2) (N := some 173) (v := ?_) (a' := ?_) #[true, true, true, false, false, false, false, false, false, false, false, false, false, false, false, false, false, false, false, false, false, false, false, false, false, false, false, false, false] rfl rfl (any_of HT_.out (by kernel_rfl)) (fun _ _ _ h => h) (Or.inl ⟨by rfl, ?_⟩) ?_ ?_
      rotate_left
      · intro w'
        go_simp
        with_reducible rfl
      rotate_left
      · simp only [Act.put, List.setIfInBounds_toArray, List.set_cons_zero, List.set_cons_succ, i64_w, i32_w]
        rfl
      refine pure_ (i := 3) (N := some 174) (v := ?_) (a' := ?_) #[true, true, true, true, false, false, false, false, false, false, false, false, false, false, false, false, false, false, false, false, false, false, false, false, false, false, false, false, false] rfl rfl (any_of HT_.out (by kernel_rfl)) (fun _ _ _ h => h) (Or.inl ⟨by rfl, ?_⟩) ?_ ?_
      rotate_left
      · intro w'
        go_simp
        with_reducible rfl
      rotate_left
      · simp only [Act.put, List.setIfInBounds_toArray, List.set_cons_zero, List.set_cons_succ, i64_w, i32_w]
        rfl
      refine pure_ (i := 4) (N := some 175) (v := ?_) (a' := ?_) #[true, true, true, true, true, false, false, false, false, false, false, false, false, false, false, false, false, false, false, false, false, false, false, false, false, false, false, false, false] rfl rfl (any_of HT_.out (by kernel_rfl)) (fun _ _ _ h => h) (Or.inl ⟨by rfl, ?_⟩) ?_ ?_
      rotate_left
      · intro w'
        go_simp
        with_reducible rfl
      rotate_left
      · simp only [Act.put, List.setIfInBounds_toArray, List.set_cons_zero, List.set_cons_succ, i64_w, i32_w]
        rfl
      refine pure_ (i := 5) (N := some 176) (v := ?_) (a' := ?_) #[true, true, true, true, true, true, false, false, false, false, false, false, false, false, false, false, false, false, false, false, false, false, false, false, false, false, false, false, false] rfl rfl (any_of HT_.out (by kernel_rfl)) (fun _ _ _ h => h) (Or.inl ⟨by rfl, ?_⟩) ?_ ?_
      rotate_left
      · intro w'
        go_simp
        with_reducible rfl
      rotate_left
      · simp only [Act.put, List.setIfInBounds_toArray, List.set_cons_zero, List.set_cons_succ, i64_w, i32_w]
        rfl
      refine pure_ (i := 6) (N := some 177) (v := ?_) (a' := ?_) #[true, true, true, true, true, true, true, false, false, false, false, false, false, false, false, false, false, false, false, false, false, false, false, false, false, false, false, false, false] rfl rfl (any_of HT_.out (by kernel_rfl)) (fun _ _ _ h => h) (Or.inl ⟨by rfl, ?_⟩) ?_ ?_
      rotate_left
      · intro w'
        go_simp
        with_reducible rfl
      rotate_left
      · simp only [Act.put, List.setIfInBounds_toArray, List.set_cons_zero, List.set_cons_succ, i64_w, i32_w]
        rfl
      refine pure_ (i := 7) (N := some 178) (v := ?_) (a' := ?_) #[true, true, true, true, true, true, true, true, false, false, false, false, false, false, false, false, false, false, false, false, false, false, false, false, false, false, false, false, false] rfl rfl (any_of HT_.out (by kernel_rfl)) (fun _ _ _ h => h) (Or.inl ⟨by rfl, ?_⟩) ?_ ?_
      rotate_left
      · intro w'
        go_simp
        with_reducible rfl
      rotate_left
      · simp only [Act.put, List.setIfInBounds_toArray, List.set_cons_zero, List.set_cons_succ, i64_w, i32_w]
        rfl
      refine pure_ (i := 8) (N := some 179) (v := ?_) (a' := ?_) #[true, true, true, true, true, true, true, true, true, false, false, false, false, false, false, false, false, false, false, false, false, false, false, false, false, false, false, false, false] rfl rfl (any_of HT_.out (by kernel_rfl)) (fun _ _ _ h => h) (Or.inl ⟨by rfl, ?_⟩) ?_ ?_
      rotate_left
      · intro w'
        go_simp
        with_reducible rfl
      rotate_left
      · simp only [Act.put, List.setIfInBounds_toArray, List.set_cons_zero, List.set_cons_succ, i64_w, i32_w]
        rfl
      refine pure_ (i := 9) (N := some 180) (v := undef) (a' := ?_) #[true, true, true, true, true, true, true, true, true, true, false, false, false, false, false, false, false, false, false, false, false, false, false, false, false, false, false, false, false] rfl rfl (any_of HT_.out (by kernel_rfl)) (fun _ _ _ h => h) (Or.inr ⟨by rfl, rfl⟩) ?_ ?_
      rotate_left
      · simp only [Act.put, List.setIfInBounds_toArray, List.set_cons_zero, List.set_cons_succ, i64_w, i32_w]
        rfl
      refine pure_ (i := 10) (N := some 181) (v := undef) (a' := ?_) #[true, true, true, true, true, true, true, true, true, true, true, false, false, false, false, false, false, false, false, false, false, false, false, false, false, false, false, false, false] rfl rfl (any_of HT_.out (by kernel_rfl)) (fun _ _ _ h => h) (Or.inr ⟨by rfl, rfl⟩) ?_ ?_
      rotate_left
      · simp only [Act.put, List.setIfInBounds_toArray, List.set_cons_zero, List.set_cons_succ, i64_w, i32_w]
        rfl
      refine pure_ (i := 11) (N := some 182) (v := undef) (a' := ?_) #[true, true, true, true, true, true, true, true, true, true, true, true, false, false, false, false, false, false, false, false, false, false, false, false, false, false, false, false, false] rfl rfl (any_of HT_.out (by kernel_rfl)) (fun _ _ _ h => h) (Or.inr ⟨by rfl, rfl⟩) ?_ ?_
      rotate_left
      · simp only [Act.put, List.setIfInBounds_toArray, List.set_cons_zero, List.set_cons_succ, i64_w, i32_w]
        rfl
      refine pure_ (i := 12) (N := some 183) (v := ?_) (a' := ?_) #[true, true, true, true, true, true, true, true, true, true, true, true, true, false, false, false, false, false, false, false, false, false, false, false, false, false, false, false, false] rfl rfl (any_of HT_.out (by kernel_rfl)) (fun _ _ _ h => h) (Or.inl ⟨by rfl, ?_⟩) ?_ ?_
      rotate_left
      · intro w'
        go_simp
        with_reducible rfl
      rotate_left
      · simp only [Act.put, List.setIfInBounds_toArray, List.set_cons_zero, List.set_cons_succ, i64_w, i32_w]
        rfl
      refine pure_ (i := 13) (N := some 184) (v := ?_) (a' := ?_) #[true, true, true, true, true, true, true, true, true, true, true, true, true, true, false, false, false, false, false, false, false, false, false, false, false, false, false, false, false] rfl rfl (any_of HT_.out (by kernel_rfl)) (fun _ _ _ h => h) (Or.inl ⟨by rfl, ?_⟩) ?_ ?_
      rotate_left
      · intro w'
        go_simp
        with_reducible rfl
      rotate_left
      · simp only [Act.put, List.setIfInBounds_toArray, List.set_cons_zero, List.set_cons_succ, i64_w, i32_w]
        rfl
      refine pure_ (i := 14) (N := some 185) (v := ?_) (a' := ?_) #[true, true, true, true, true, true, true, true, true, true, true, true, true, true, true, false, false, false, false, false, false, false, false, false, false, false, false, false, false] rfl rfl (any_of HT_.out (by kernel_rfl)) (fun _ _ _ h => h) (Or.inl ⟨by rfl, ?_⟩) ?_ ?_
      rotate_left
      · intro w'
        go_simp
        with_reducible rfl
      rotate_left
      · simp only [Act.put, List.setIfInBounds_toArray, List.set_cons_zero, List.set_cons_succ, i64_w, i32_w]
        rfl
      refine pure_ (i := 15) (N := some 186) (v := ?_) (a' := ?_) #[true, true, true, true, true, true, true, true, true, true, true, true, true, true, true, true, false, false, false, false, false, false, false, false, false, false, false, false, false] rfl rfl (any_of HT_.out (by kernel_rfl)) (fun _ _ _ h => h) (Or.inl ⟨by rfl, ?_⟩) ?_ ?_
      rotate_left
      · intro w'
        go_simp
        with_reducible rfl
      rotate_left
      · simp only [Act.put, List.setIfInBounds_toArray, List.set_cons_zero, List.set_cons_succ, i64_w, i32_w]
        rfl
      refine pure_ (i := 16) (N := some 187) (v := ?_) (a' := ?_) #[true, true, true, true, true, true, true, true, true, true, true, true, true, true, true, true, true, false, false, false, false, false, false, false, false, false, false, false, false] rfl rfl (any_of HT_.out (by kernel_rfl)) (fun _ _ _ h => h) (Or.inl ⟨by rfl, ?_⟩) ?_ ?_
      rotate_left
      · intro w'
        go_simp
        with_reducible rfl
      rotate_left
      · simp only [Act.put, List.setIfInBounds_toArray, List.set_cons_zero, List.set_cons_succ, i64_w, i32_w]
        rfl
      refine take_ (i := 17) (N := some 188) (v := ?_) (a' := ?_) #[true, true, true, true, true, true, true, true, true, true, true, true, true, true, true, true, true, true, false, false, false, false, false, false, false, false, false, false, false] rfl rfl (take_ofW HT_.out HW_.out (by kernel_rfl)) (fun _ _ _ h => h) (Or.inl ⟨by rfl, ?_⟩) hHeld ?_ ?_
      rotate_left
      · rintro w' ⟨s0, s1, s2, s3, s4, s5, s6, s7, s8, s9, s10⟩
        go_simp
        with_reducible rfl
      rotate_left
      · simp only [Act.put, List.setIfInBounds_toArray, List.set_cons_zero, List.set_cons_succ, i64_w, i32_w]
        rfl
      refine pure_ (i := 18) (N := some 189) (v := ?_) (a' := ?_) #[true, true, true, true, true, true, true, true, true, true, true, true, true, true, true, true, true, true, true, false, false, false, false, false, false, false, false, false, false] rfl rfl (any_of HT_.out (by kernel_rfl)) (fun _ _ _ h => h) (Or.inl ⟨by rfl, ?_⟩) ?_ ?_
      rotate_left
      · intro w'
        go_simp
        with_reducible rfl
      rotate_left
      · simp only [Act.put, List.setIfInBounds_toArray, List.set_cons_zero, List.set_cons_succ, i64_w, i32_w]
        rfl
      refine take_ (i := 19) (N := some 190) (v := ?_) (a' := ?_) #[true, true, true, true, true, true, true, true, true, true, true, true, true, true, true, true, true, true, true, true, false, false, false, false, false, false, false, false, false] rfl rfl (take_ofW HT_.out HW_.out (by kernel_rfl)) (fun _ _ _ h => h) (Or.inl ⟨by rfl, ?_⟩) hHeld ?_ ?_
      rotate_left
      · rintro w' ⟨s0, s1, s2, s3, s4, s5, s6, s7, s8, s9, s10⟩
        go_simp
        with_reducible rfl
      rotate_left
      · simp only [Act.put, List.setIfInBounds_toArray, List.set_cons_zero, List.set_cons_succ, i64_w, i32_w]
        rfl
      refine pure_ (i := 20) (N := some 191) (v := ?_) (a' := ?_) #[true, true, true, true, true, true, true, true, true, true, true, true, true, true, true, true, true, true, true, true, true, false, false, false, false, false, false, false, false] rfl rfl (any_of HT_.out (by kernel_rfl)) (fun _ _ _ h => h) (Or.inl ⟨by rfl, ?_⟩) ?_ ?_
      rotate_left
      · intro w'
        go_simp
        with_reducible rfl
      rotate_left
      · simp only [Act.put, List.setIfInBounds_toArray, List.set_cons_zero, List.set_cons_succ, i64_w, i32_w]
        rfl
      refine pure_ (i := 21) (N := some 192) (v := ?_) (a' := ?_) #[true, true, true, true, true, true, true, true, true, true, true, true, true, true, true, true, true, true, true, true, true, true, false, false, false, false, false, false, false] rfl rfl (any_of HT_.out (by kernel_rfl)) (fun _ _ _ h => h) (Or.inl ⟨by rfl, ?_⟩) ?_ ?_
      rotate_left
      · intro w'
        go_simp
        with_reducible rfl
      rotate_left
      · simp only [Act.put, List.setIfInBounds_toArray, List.set_cons_zero, List.set_cons_succ, i64_w, i32_w]
        rfl
      refine take_ (i := 22) (N := some 193) (v := ?_) (a' := ?_) #[true, true, true, true, true, true, true, true, true, true, true, true, true, true, true, true, true, true, true, true, true, true, true, false, false, false, false, false, false] rfl rfl (take_ofW HT_.out HW_.out (by kernel_rfl)) (fun _ _ _ h => h) (Or.inl ⟨by rfl, ?_⟩) hHeld ?_ ?_
      rotate_left
      · rintro w' ⟨s0, s1, s2, s3, s4, s5, s6, s7, s8, s9, s10⟩
        go_simp
        with_reducible rfl
      rotate_left
      · simp only [Act.put, List.setIfInBounds_toArray, List.set_cons_zero, List.set_cons_succ, i64_w, i32_w]
        rfl
      refine pure_ (i := 23) (N := some 194) (v := ?_) (a' := ?_) #[true, true, true, true, true, true, true, true, true, true, true, true, true, true, true, true, true, true, true, true, true, true, true, true, false, false, false, false, false] rfl rfl (any_of HT_.out (by kernel_rfl)) (fun _ _ _ h => h) (Or.inl ⟨by rfl, ?_⟩) ?_ ?_
      rotate_left
      · intro w'
        go_simp
        with_reducible rfl
      rotate_left
      · simp only [Act.put, List.setIfInBounds_toArray, List.set_cons_zero, List.set_cons_succ, i64_w, i32_w]
        rfl
      refine pure_ (i := 24) (N := some 195) (v := ?_) (a' := ?_) #[true, true, true, true, true, true, true, true, true, true, true, true, true, true, true, true, true, true, true, true, true, true, true, true, true, false, false, false, false] rfl rfl (any_of HT_.out (by kernel_rfl)) (fun _ _ _ h => h) (Or.inl ⟨by rfl, ?_⟩) ?_ ?_
      rotate_left
      · intro w'
        go_simp
        with_reducible rfl
      rotate_left
      · simp only [Act.put, List.setIfInBounds_toArray, List.set_cons_zero, List.set_cons_succ, i64_w, i32_w]
        rfl
      refine pure_ (i := 25) (N := some 196) (v := ?_) (a' := ?_) #[true, true, true, true, true, true, true, true, true, true, true, true, true, true, true, true, true, true, true, true, true, true, true, true, true, true, false, false, false] rfl rfl (any_of HT_.out (by kernel_rfl)) (fun _ _ _ h => h) (Or.inl ⟨by rfl, ?_⟩) ?_ ?_
      rotate_left
      · intro w'
        go_simp
        with_reducible rfl
      rotate_left
      · simp only [Act.put, List.setIfInBounds_toArray, List.set_cons_zero, List.set_cons_succ, i64_w, i32_w]
        rfl
      refine pure_ (i := 26) (N := some 197) (v := ?_) (a' := ?_) #[true, true, true, true, true, true, true, true, true, true, true, true, true, true, true, true, true, true, true, true, true, true, true, true, true, true, true, false, false] rfl rfl (any_of HT_.out (by kernel_rfl)) (fun _ _ _ h => h) (Or.inl ⟨by rfl, ?_⟩) ?_ ?_
      rotate_left
      · intro w'
        go_simp
        with_reducible rfl
      rotate_left
      · simp only [Act.put, List.setIfInBounds_toArray, List.set_cons_zero, List.set_cons_succ, i64_w, i32_w]
        rfl
      refine one_ (i := 27) (N := none) #[true, true, true, true, true, true, true, true, true, true, true, true, true, true, true, true, true, true, true, true, true, true, true, true, true, true, true, true, false] rfl rfl (one_of HT_.out (by kernel_rfl)) (by decide) (fun K hK => ?_)
      have t6a : World.cell? _ ⟨b6, 0, none⟩ = some (.slice none 0 0) := HD.out.at_ 1 0 rfl rfl
      have t6b : World.cell? _ ⟨b6, 1, none⟩ = some (.int .i64 0) := HD.out.at_ 1 1 rfl rfl
      have t6c : World.cell? _ ⟨b6, 2, none⟩ = some (.slice none 0 0) := HD.out.at_ 1 2 rfl rfl
      have f0 : World.frozen? _ ⟨b6, 0, none⟩ = false := blk_frozen (HD.out.bx.get 1 rfl) 0
      have f1 : World.frozen? _ ⟨b6, 1, none⟩ = false := blk_frozen (HD.out.bx.get 1 rfl) 1
      have f2 : World.frozen? _ ⟨b6, 2, none⟩ = false := blk_frozen (HD.out.bx.get 1 rfl) 2
      refine skip_ (w1 := ?_) (by rfl) rfl ?_ ?_
      rotate_left
      · go_simp
        rfl
      have HD2 := HD.out.st3 1 rfl (.slice (some ad) (lsR s).length c0) (.int .i64 s.last) (.slice A2 (csR s).length c2)
      simp only [List.set_cons_succ, List.set_cons_zero] at HD2
      obtain ⟨ad2, e9, g0, g1, g2, g3⟩ := at_T74 (Kd.R_reads' HD2.r0).2.2 (j : Int) (by omega) hjl
      cases e9
      rw [HE.out, Int.toNat_natCast] at g0 g1 g2 g3
      dsimp only [m74] at g0 g1 g2 g3
      refine hK.out _ _ ⟨HD2.at_ 3 0 rfl rfl, HD2.at_ 3 1 rfl rfl, HD2.at_ 3 2 rfl rfl, HD2.at_ 0 0 rfl rfl, HD2.at_ 0 1 rfl rfl, HD2.at_ 0 2 rfl rfl, HD2.at_ 0 3 rfl rfl, g0, g1, g2, g3⟩ (fun hHeld => ?_)
      replace HD := Aside0.mk HD2
      clear hK K t6a t6b t6c f0 f1 f2 g0 g1 g2 g3 HD2
      refine pure_ (i := 28) (N := some 7) (v := ?_) (a' := ?_) #[true, true, true, true, true, true, true, true, true, true, true, true, true, true, true, true, true, true, true, true, true, true, true, true, true, true, true, true, true] rfl rfl (any_of HT_.out (by kernel_rfl)) (fun _ _ _ h => h) (Or.inl ⟨by rfl, ?_⟩) ?_ ?_
      rotate_left
      · intro w'
        go_simp
        with_reducible rfl
      rotate_left
      · simp only [Act.put, List.setIfInBounds_toArray, List.set_cons_zero, List.set_cons_succ, i64_w, i32_w]
        rfl
      refine done_ (done_of HT_.out (by kernel_rfl)) ?_
      clear HT_ HW_ hHeld
      try go_wp2
      refine bodyPost_ret (results_ct rfl _ _ b6 51 #[.slice (some ad) (lsR s).length c0, .int .i64 s.last, .slice A2 (csR s).length c2] (0, 0) _ rfl (HD.out.bx.get 1 rfl) Try.underlying51 rfl (by kernel_rfl)) rfl ?_
      exact ⟨s, _, _, rfl, (HD.out.more (by omega)).drop.drop.drop.drop, by omega⟩
  have n5 : (xk == 5) = false := beq_eq_false_iff_ne.mpr k5
  have n5' : decide (xk = 5) = false := decide_eq_false k5
  clear k5
  go_upto_region 24 with (fail)
  have t6a : w3.cell? ⟨b6, 0, none⟩ = some (.slice none 0 0) := HD.out.at_ 0 0 rfl rfl
  have t6b : w3.cell? ⟨b6, 1, none⟩ = some (.int .i64 0) := HD.out.at_ 0 1 rfl rfl
  have t6c : w3.cell? ⟨b6, 2, none⟩ = some (.slice none 0 0) := HD.out.at_ 0 2 rfl rfl
  have f0 : w3.frozen? ⟨b6, 0, none⟩ = false := blk_frozen (HD.out.bx.get 0 rfl) 0
  have f1 : w3.frozen? ⟨b6, 1, none⟩ = false := blk_frozen (HD.out.bx.get 0 rfl) 1
  have f2 : w3.frozen? ⟨b6, 2, none⟩ = false := blk_frozen (HD.out.bx.get 0 rfl) 2
  go_wp2
  replace HD := Aside0.mk (HD.out.st3 0 rfl (.slice A0 (lsR s).length c0) (.int .i64 s.last) (.slice A2 (csR s).length c2))
  simp only [List.set_cons_succ, List.set_cons_zero] at HD
  refine bodyPost_ret (results_ct rfl _ _ b6 51 #[.slice A0 (lsR s).length c0, .int .i64 s.last, .slice A2 (csR s).length c2] (0, 0) _ rfl (HD.out.bx.get 0 rfl) Try.underlying51 rfl (by kernel_rfl)) rfl ?_
  exact ⟨s, _, _, rfl, (HD.out.more (Nat.le_add_right n 2)).drop.drop.drop, by omega⟩

end Go.Proofs.Ytppoahccmcnenaa.PP
