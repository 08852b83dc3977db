-- written by a program of this session
import Derived.Test.YtdenfndpggfgmaaPPx0
import Derived.Test.YtdenfndpggfgmaaPPx1
import Derived.Test.YtdenfndpggfgmaaPPx2
import Derived.Test.YtdenfndpggfgmaaPPx3
import Derived.Test.YtdenfndpggfgmaaPPx4
import Derived.Test.YtdenfndpggfgmaaPPx5
import Derived.Test.YtdenfndpggfgmaaPPx7
import Derived.Test.YtdenfndpggfgmaaPPx8
namespace Go.Proofs.Ytdenfndpggfgmaa.PP
open Go.RowKit Go.Proofs.Ytdenfndpggfgmaa.Op Go.Proofs.YtdenfndpggfgmaaW.PrintWords Go.Proofs.YtdenfndpggfgmaaW.PrintLast Go.Proofs.YtdenfndpggfgmaaW.PrintMore
attribute [local go_sem] max2_int min2_int max_two min_two max_three min_three max_four min_four   -- for this text's walks alone
set_option linter.unusedVariables false
set_option linter.unusedSimpArgs false

/-! ### `same`: both show the same -/
theorem w1c (i : Nat) (h : i < 1000000000) : wrap64 ((i : Int) + 1) = ((i + 1 : Nat) : Int) := by unfold wrap64; omega
theorem same1_l0 (l : List Int) (hl : l.length ≤ 1000000) : ∀ (d k i : Nat), i + d = l.length → d < k → spliceref01_Same.l0 k l l (i : Int) = some true := by
  intro d
  induction d with
  | zero =>
    intro k i hi hk
    obtain ⟨k, rfl⟩ : ∃ k', k = k' + 1 := ⟨k - 1, by omega⟩
    rw [spliceref01_Same.l0, if_neg (by omega)]
  | succ d ih =>
    intro k i hi hk
    obtain ⟨k, rfl⟩ : ∃ k', k = k' + 1 := ⟨k - 1, by omega⟩
    rw [spliceref01_Same.l0, if_pos (by omega), if_pos (by omega), if_pos (by omega), if_pos rfl, w1c i (by omega), ih k (i + 1) (by omega) (by omega)]
theorem same1_f (k : Nat) (l : List Int) (hl : l.length ≤ 1000000) (hk : l.length < k) : spliceref01_Same.f k l l = some true := by
  have := same1_l0 l hl l.length k 0 (by omega) hk
  rw [show ((0 : Nat) : Int) = 0 from rfl] at this
  unfold spliceref01_Same.f
  rw [if_pos rfl, this]
theorem same_self {W : World} {A0 A1 : Option Addr} {c0 c1 : Nat} (l : List Int) (hl : l.length ≤ 1000000) (h0 : Kd.C (Kd.int .i64) W A0 l.length l) (hc0 : l.length ≤ c0) (h1 : Kd.C (Kd.int .i64) W A1 l.length l) (hc1 : l.length ≤ c1) :
    Calls Try.prog 39 #[.slice A0 l.length c0, .slice A1 l.length c1] W fun e W' => e = .returned (.bool true) ∧ Below W.heap.size W W' :=
  (spliceref01_Same.calls (l.length + 1) A0 c0 l A1 c1 l true W h0 hc0 h1 hc1 (same1_f _ l hl (by omega))).mono fun e W' h => ⟨h.1, by obtain ⟨m, e⟩ := h.2.out; rw [e]; exact pw_below_drewN (Below.refl _ _) m⟩
def same1.T : Bool × List (List Nat × List Nat) := (true, [([], []), ([0], [0]), ([], []), ([2], [2]), ([1, 3], [1, 3]), ([4, 1], [4]), ([5], [5]), ([6, 5, 5], [5, 6]), ([5], [5]), ([8, 5], [5, 8]), ([9, 5], [5, 9]), ([7, 10, 5], [5, 7, 10]), ([5, 11], [5, 11]), ([12, 7], [12]), ([13], [13]), ([14, 13, 13], [13, 14]), ([13], [13]), ([16, 15, 13], [13, 16]), ([15, 17, 17, 13], [13, 15, 17]), ([18, 13], [13, 18]), ([13, 19], [13, 19])])
def same1.B : List Nat := [0, 1, 0, 4, 15, 31, 63, 127, 63, 319, 831, 2047, 4095, 8191, 16383, 32767, 16383, 131071, 262143, 524287, 1048575]
theorem same1.tab : rtab .any (opsOf Try.f24 1) = same1.T := by kernel_rfl
theorem same1.bits : waitsOk same1.T.2 same1.B = true := by kernel_rfl
set_option maxRecDepth 100000 in
set_option maxHeartbeats 16000000 in
theorem same_walk {w W : World} {g rb mb n : Nat} {s : Sl} {v0 : Value} {A2 : Option Addr} {c2 : Nat} {l : BxL} (h : DoS w W g rb mb n s s v0 A2 c2 l) (hn : n ≤ 1000000) :
    Calls Try.prog 24 #[.pointer (some ⟨g, 0, none⟩), .agg #[v0, .int .i64 s.wait, .slice A2 s.keep.length c2, .int .i64 s.torn, .int .i64 s.at_, .bool s.down]] W fun e W' => e = .returned (.bool true) ∧ DoS w W' g rb mb n s s v0 A2 c2 l := by
  obtain ⟨A0, c0, rfl⟩ := h.sl
  have HD := Aside0.mk h
  have HN := Aside0.mk hn
  have HLs := Aside0.mk (show (lsS s).length = s.b.length from by unfold lsS; rw [List.length_map])
  have HB := Aside0.mk (show s.b.length ≤ 1000000 from by have := h.hs.len; omega)
  have HLen := Aside0.mk (show (looseL s.b).length ≤ 1000000 from by
    have h1 := h.hs.len
    unfold looseL; rw [List.length_map]
    have := List.length_filter_le (isLoose s.b) (List.range s.b.length)
    rw [List.length_range] at this; omega)
  have hmx := h.hs.len
  have HE0 := Aside0.mk (show (s.b.length : Int) = ((lsS s).length : Int) from by rw [HLs.out])
  have bLen : ((s.b.length : Int) != ((lsS s).length : Int)) = false := by rw [HLs.out]; exact bne_self_eq_false _
  clear h hn
  go_enter Try.func24, Try.ntmps24
  go_upto_region 1 with (fail)
  replace HD := Aside0.mk (HD.out.cons #[.slice A0 (lsS s).length c0, .int .i64 s.wait, .slice A2 s.keep.length c2, .int .i64 s.torn, .int .i64 s.at_, .bool s.down] 51 (by decide))
  generalize W.alloc (.cells #[.slice A0 (lsS s).length c0, .int .i64 s.wait, .slice A2 s.keep.length c2, .int .i64 s.torn, .int .i64 s.at_, .bool s.down] 51) = w1 at HD ⊢
  generalize W.heap.size = b3 at HD ⊢
  replace HD := Aside0.mk (HD.out.below (below_drew (Below.refl _ _)))
  refine start_ (n := 21) (S := fun w' => w'.cell? ⟨b3, 0, none⟩ = some (.slice A0 (lsS s).length c0) ∧ w'.cell? ⟨b3, 1, none⟩ = some (.int .i64 s.wait) ∧ w'.cell? ⟨b3, 2, none⟩ = some (.slice A2 s.keep.length c2) ∧ w'.cell? ⟨b3, 3, none⟩ = some (.int .i64 s.torn) ∧ w'.cell? ⟨b3, 4, none⟩ = some (.int .i64 s.at_) ∧ w'.cell? ⟨b3, 5, none⟩ = some (.bool s.down) ∧ w'.cell? ⟨b3, 3 + 2, none⟩ = some (.bool s.down)) (ds := []) #[false, false, false, false, false, false, false, false, false, false, false, false, false, false, false, false, false, false, false, false, false] (by kernel_rfl) rfl rfl ⟨HD.out.at_ 0 0 rfl rfl, HD.out.at_ 0 1 rfl rfl, HD.out.at_ 0 2 rfl rfl, HD.out.at_ 0 3 rfl rfl, HD.out.at_ 0 4 rfl rfl, HD.out.at_ 0 5 rfl rfl, HD.out.at_ 0 5 rfl rfl⟩ (fun hHeld => ?_); refine with_tabW same1.tab same1.bits (fun HT_ HW_ => ?_)
  generalize w1.drew = wd at HD hHeld ⊢
  refine pure_ (i := 0) (N := some 10) (v := ?_) (a' := ?_) #[true, false, false, false, false, false, false, false, false, false, false, false, false, false, false, false, false, false, false, false, false] rfl rfl (any_of HT_.out (by kernel_rfl)) (fun _ _ _ h => h) (Or.inl ⟨by rfl, ?_⟩) ?_ ?_
  rotate_left
  · intro w'
    go_simp
    with_reducible rfl
  rotate_left
  · simp only [Act.put, List.setIfInBounds_toArray, List.set_cons_zero, List.set_cons_succ, i64_w, i32_w, bLen]
    rfl
  refine pure_ (i := 2) (N := some 12) (v := ?_) (a' := ?_) #[true, false, true, false, false, false, false, false, false, false, false, false, false, false, false, false, false, false, false, false, false] rfl rfl (any_of HT_.out (by kernel_rfl)) (fun _ _ _ h => h) (Or.inl ⟨by rfl, ?_⟩) ?_ ?_
  rotate_left
  · intro w'
    go_simp
    with_reducible rfl
  rotate_left
  · simp only [Act.put, List.setIfInBounds_toArray, List.set_cons_zero, List.set_cons_succ, i64_w, i32_w, bLen]
    rfl
  refine take_ (i := 3) (N := some 13) (v := ?_) (a' := ?_) #[true, false, true, true, false, false, false, false, false, false, false, false, false, false, false, false, false, false, false, false, false] rfl rfl (take_ofW HT_.out HW_.out (by kernel_rfl)) (fun _ _ _ h => h) (Or.inl ⟨by rfl, ?_⟩) hHeld ?_ ?_
  rotate_left
  · rintro w' ⟨s0_, s1_, s2_, s3_, s4_, s5_, s9_⟩
    go_simp
    with_reducible rfl
  rotate_left
  · simp only [Act.put, List.setIfInBounds_toArray, List.set_cons_zero, List.set_cons_succ, i64_w, i32_w, bLen]
    rfl
  refine one_ (i := 1) (N := some 11) #[true, true, true, true, false, false, false, false, false, false, false, false, false, false, false, false, false, false, false, false, false] rfl rfl (one_of HT_.out (by kernel_rfl)) (by decide) (fun K hK => ?_)
  refine goes_ Try.func19 (by kernel_rfl) rfl #[.pointer (some ⟨g, 0, none⟩)] (by rfl) rfl rfl (by (try simp only [List.map_toArray, List.map_cons, List.map_nil]); first | done | rfl) ?_
  refine (slab_down HD.out.hs).mono ?_
  rintro e w6 ⟨rfl, hw⟩
  refine ⟨_, rfl, ?_⟩
  subst hw
  refine hK.out _ _ ⟨HD.out.at_ 0 0 rfl rfl, HD.out.at_ 0 1 rfl rfl, HD.out.at_ 0 2 rfl rfl, HD.out.at_ 0 3 rfl rfl, HD.out.at_ 0 4 rfl rfl, HD.out.at_ 0 5 rfl rfl, HD.out.at_ 0 5 rfl rfl⟩ (fun hHeld => ?_)
  clear hK K
  refine norm_ (a' := ?_) ?_ ?_
  rotate_left
  · show Act.put _ (some 11) _ = _
    simp only [Act.put, List.setIfInBounds_toArray, List.set_cons_zero, List.set_cons_succ, i64_w, i32_w]
    rfl
  refine pure_ (i := 4) (N := some 14) (v := ?_) (a' := ?_) #[true, true, true, true, true, false, false, false, false, false, false, false, false, false, false, false, false, false, false, false, false] rfl rfl (any_of HT_.out (by kernel_rfl)) (fun _ _ _ h => h) (Or.inl ⟨by rfl, ?_⟩) ?_ ?_
  rotate_left
  · intro w'
    go_simp
    with_reducible rfl
  rotate_left
  · simp only [Act.put, List.setIfInBounds_toArray, List.set_cons_zero, List.set_cons_succ, i64_w, i32_w, bLen]
    rfl
  refine pure_ (i := 5) (N := some 15) (v := ?_) (a' := ?_) #[true, true, true, true, true, true, false, false, false, false, false, false, false, false, false, false, false, false, false, false, false] rfl rfl (any_of HT_.out (by kernel_rfl)) (fun _ _ _ h => h) (Or.inl ⟨by rfl, ?_⟩) ?_ ?_
  rotate_left
  · intro w'
    go_simp
    with_reducible rfl
  rotate_left
  · simp only [Act.put, List.setIfInBounds_toArray, List.set_cons_zero, List.set_cons_succ, i64_w, i32_w, bLen]
    rfl
  refine pure_ (i := 6) (N := some 16) (v := ?_) (a' := ?_) #[true, true, true, true, true, true, true, false, false, false, false, false, false, false, false, false, false, false, false, false, false] rfl rfl (any_of HT_.out (by kernel_rfl)) (fun _ _ _ h => h) (Or.inl ⟨by rfl, ?_⟩) ?_ ?_
  rotate_left
  · intro w'
    go_simp
    with_reducible rfl
  rotate_left
  · simp only [Act.put, List.setIfInBounds_toArray, List.set_cons_zero, List.set_cons_succ, i64_w, i32_w, bLen]
    rfl
  refine pure_ (i := 8) (N := some 18) (v := ?_) (a' := ?_) #[true, true, true, true, true, true, true, false, true, false, false, false, false, false, false, false, false, false, false, false, false] rfl rfl (any_of HT_.out (by kernel_rfl)) (fun _ _ _ h => h) (Or.inl ⟨by rfl, ?_⟩) ?_ ?_
  rotate_left
  · intro w'
    go_simp
    with_reducible rfl
  rotate_left
  · simp only [Act.put, List.setIfInBounds_toArray, List.set_cons_zero, List.set_cons_succ, i64_w, i32_w, bLen]
    rfl
  refine take_ (i := 9) (N := some 19) (v := ?_) (a' := ?_) #[true, true, true, true, true, true, true, false, true, true, false, false, false, false, false, false, false, false, false, false, false] rfl rfl (take_ofW HT_.out HW_.out (by kernel_rfl)) (fun _ _ _ h => h) (Or.inl ⟨by rfl, ?_⟩) hHeld ?_ ?_
  rotate_left
  · rintro w' ⟨s0_, s1_, s2_, s3_, s4_, s5_, s9_⟩
    go_simp
    with_reducible rfl
  rotate_left
  · simp only [Act.put, List.setIfInBounds_toArray, List.set_cons_zero, List.set_cons_succ, i64_w, i32_w, bLen]
    rfl
  refine pure_ (i := 10) (N := some 20) (v := ?_) (a' := ?_) #[true, true, true, true, true, true, true, false, true, true, true, false, false, false, false, false, false, false, false, false, false] rfl rfl (any_of HT_.out (by kernel_rfl)) (fun _ _ _ h => h) (Or.inl ⟨by rfl, ?_⟩) ?_ ?_
  rotate_left
  · intro w'
    go_simp
    with_reducible rfl
  rotate_left
  · simp only [Act.put, List.setIfInBounds_toArray, List.set_cons_zero, List.set_cons_succ, i64_w, i32_w, bLen]
    rfl
  refine one_ (i := 7) (N := some 17) #[true, true, true, true, true, true, true, true, true, true, true, false, false, false, false, false, false, false, false, false, false] rfl rfl (one_of HT_.out (by kernel_rfl)) (by decide) (fun K hK => ?_)
  refine goes_ Try.func25 (by kernel_rfl) rfl #[.pointer (some ⟨g, 0, none⟩)] (by rfl) rfl rfl (by (try simp only [List.map_toArray, List.map_cons, List.map_nil]); first | done | rfl) ?_
  refine (slab_blocks HD.out.hs).mono ?_
  rintro e w6 ⟨rfl, hw⟩
  refine ⟨_, rfl, ?_⟩
  subst hw
  refine hK.out _ _ ⟨HD.out.at_ 0 0 rfl rfl, HD.out.at_ 0 1 rfl rfl, HD.out.at_ 0 2 rfl rfl, HD.out.at_ 0 3 rfl rfl, HD.out.at_ 0 4 rfl rfl, HD.out.at_ 0 5 rfl rfl, HD.out.at_ 0 5 rfl rfl⟩ (fun hHeld => ?_)
  clear hK K
  refine norm_ (a' := ?_) ?_ ?_
  rotate_left
  · show Act.put _ (some 17) _ = _
    simp only [Act.put, List.setIfInBounds_toArray, List.set_cons_zero, List.set_cons_succ, i64_w, i32_w]
    rfl
  refine pure_ (i := 11) (N := some 21) (v := ?_) (a' := ?_) #[true, true, true, true, true, true, true, true, true, true, true, true, false, false, false, false, false, false, false, false, false] rfl rfl (any_of HT_.out (by kernel_rfl)) (fun _ _ _ h => h) (Or.inl ⟨by rfl, ?_⟩) ?_ ?_
  rotate_left
  · intro w'
    go_simp
    with_reducible rfl
  rotate_left
  · simp only [Act.put, List.setIfInBounds_toArray, List.set_cons_zero, List.set_cons_succ, i64_w, i32_w, bLen]
    rfl
  refine pure_ (i := 12) (N := some 22) (v := ?_) (a' := ?_) #[true, true, true, true, true, true, true, true, true, true, true, true, true, false, false, false, false, false, false, false, false] rfl rfl (any_of HT_.out (by kernel_rfl)) (fun _ _ _ h => h) (Or.inl ⟨by rfl, ?_⟩) ?_ ?_
  rotate_left
  · intro w'
    go_simp
    with_reducible rfl
  rotate_left
  · simp only [Act.put, List.setIfInBounds_toArray, List.set_cons_zero, List.set_cons_succ, i64_w, i32_w, bLen]
    rfl
  refine pure_ (i := 13) (N := some 23) (v := ?_) (a' := ?_) #[true, true, true, true, true, true, true, true, true, true, true, true, true, true, false, false, false, false, false, false, false] rfl rfl (any_of HT_.out (by kernel_rfl)) (fun _ _ _ h => h) (Or.inl ⟨by rfl, ?_⟩) ?_ ?_
  rotate_left
  · intro w'
    go_simp
    with_reducible rfl
  rotate_left
  · simp only [Act.put, List.setIfInBounds_toArray, List.set_cons_zero, List.set_cons_succ, i64_w, i32_w, bLen]
    rfl
  refine pure_ (i := 14) (N := some 24) (v := ?_) (a' := ?_) #[true, true, true, true, true, true, true, true, true, true, true, true, true, true, true, false, false, false, false, false, false] rfl rfl (any_of HT_.out (by kernel_rfl)) (fun _ _ _ h => h) (Or.inl ⟨by rfl, ?_⟩) ?_ ?_
  rotate_left
  · intro w'
    go_simp
    with_reducible rfl
  rotate_left
  · simp only [Act.put, List.setIfInBounds_toArray, List.set_cons_zero, List.set_cons_succ, i64_w, i32_w, bLen]
    rfl
  refine take_ (i := 16) (N := some 26) (v := ?_) (a' := ?_) #[true, true, true, true, true, true, true, true, true, true, true, true, true, true, true, false, true, false, false, false, false] rfl rfl (take_ofW HT_.out HW_.out (by kernel_rfl)) (fun _ _ _ h => h) (Or.inl ⟨by rfl, ?_⟩) hHeld ?_ ?_
  rotate_left
  · rintro w' ⟨s0_, s1_, s2_, s3_, s4_, s5_, s9_⟩
    go_simp
    with_reducible rfl
  rotate_left
  · simp only [Act.put, List.setIfInBounds_toArray, List.set_cons_zero, List.set_cons_succ, i64_w, i32_w, bLen]
    rfl
  refine one_ (i := 15) (N := some 25) #[true, true, true, true, true, true, true, true, true, true, true, true, true, true, true, true, true, false, false, false, false] rfl rfl (one_of HT_.out (by kernel_rfl)) (by decide) (fun K hK => ?_)
  refine goes_ Try.func21 (by kernel_rfl) rfl #[.pointer (some ⟨g, 0, none⟩)] (by rfl) rfl rfl (by (try simp only [List.map_toArray, List.map_cons, List.map_nil]); first | done | rfl) ?_
  refine (slab_loose HD.out.hs HN.out).mono ?_
  rintro e w6 ⟨v, rfl, hR, hb⟩
  obtain ⟨A21, c21, rfl⟩ := Kd.R_slice hR
  refine ⟨_, rfl, ?_⟩
  replace HD := Aside0.mk (HD.out.below hb)
  have HI21 := Aside0.mk hR
  clear hR hb
  refine hK.out _ _ ⟨HD.out.at_ 0 0 rfl rfl, HD.out.at_ 0 1 rfl rfl, HD.out.at_ 0 2 rfl rfl, HD.out.at_ 0 3 rfl rfl, HD.out.at_ 0 4 rfl rfl, HD.out.at_ 0 5 rfl rfl, HD.out.at_ 0 5 rfl rfl⟩ (fun hHeld => ?_)
  clear hK K
  refine norm_ (a' := ?_) ?_ ?_
  rotate_left
  · show Act.put _ (some 25) _ = _
    simp only [Act.put, List.setIfInBounds_toArray, List.set_cons_zero, List.set_cons_succ, i64_w, i32_w]
    rfl
  refine one_ (i := 17) (N := some 27) #[true, true, true, true, true, true, true, true, true, true, true, true, true, true, true, true, true, true, false, false, false] rfl rfl (one_of HT_.out (by kernel_rfl)) (by decide) (fun K hK => ?_)
  refine goes_ Try.func40 (by kernel_rfl) rfl #[.agg #[.slice A0 (lsS s).length c0, .int .i64 s.wait, .slice A2 s.keep.length c2, .int .i64 s.torn, .int .i64 s.at_, .bool s.down]] (by rfl) rfl rfl (by (try simp only [List.map_toArray, List.map_cons, List.map_nil]); first | done | rfl) ?_
  refine (spliceref07_Slab_Loose.calls (s.b.length + 1) A0 c0 (lsS s) s.wait A2 c2 s.keep s.torn s.at_ s.down _ _ (Kd.R_reads' HD.out.r0).2.2 (Kd.R_reads' HD.out.r0).2.1 (Kd.C_below HD.out.kp HD.out.hs.bel) HD.out.kc (loose_f s HB.out s.keep s.torn s.at_ (s.b.length + 1) (by omega))).mono ?_
  rintro e w6 ⟨v, rfl, hR, hb⟩
  obtain ⟨A22, c22, rfl⟩ := Kd.R_slice hR
  refine ⟨_, rfl, ?_⟩
  replace HD := Aside0.mk (HD.out.below hb)
  replace HI21 := Aside0.mk (Kd.R_below HI21.out hb)
  have HI22 := Aside0.mk hR
  clear hR hb
  refine hK.out _ _ ⟨HD.out.at_ 0 0 rfl rfl, HD.out.at_ 0 1 rfl rfl, HD.out.at_ 0 2 rfl rfl, HD.out.at_ 0 3 rfl rfl, HD.out.at_ 0 4 rfl rfl, HD.out.at_ 0 5 rfl rfl, HD.out.at_ 0 5 rfl rfl⟩ (fun hHeld => ?_)
  clear hK K
  refine norm_ (a' := ?_) ?_ ?_
  rotate_left
  · show Act.put _ (some 27) _ = _
    simp only [Act.put, List.setIfInBounds_toArray, List.set_cons_zero, List.set_cons_succ, i64_w, i32_w]
    rfl
  refine one_ (i := 18) (N := some 28) #[true, true, true, true, true, true, true, true, true, true, true, true, true, true, true, true, true, true, true, false, false] rfl rfl (one_of HT_.out (by kernel_rfl)) (by decide) (fun K hK => ?_)
  refine goes_ Try.func39 (by kernel_rfl) rfl #[.slice A21 (looseL s.b).length c21, .slice A22 (looseL s.b).length c22] (by rfl) rfl rfl (by (try simp only [List.map_toArray, List.map_cons, List.map_nil]); first | done | rfl) ?_
  refine (same_self (looseL s.b) HLen.out (Kd.R_reads' HI21.out).2.2 (Kd.R_reads' HI21.out).2.1 (Kd.R_reads' HI22.out).2.2 (Kd.R_reads' HI22.out).2.1).mono ?_
  rintro e w6 ⟨rfl, hb⟩
  refine ⟨_, rfl, ?_⟩
  replace HD := Aside0.mk (HD.out.below hb)
  clear hb HI21 HI22
  refine hK.out _ _ ⟨HD.out.at_ 0 0 rfl rfl, HD.out.at_ 0 1 rfl rfl, HD.out.at_ 0 2 rfl rfl, HD.out.at_ 0 3 rfl rfl, HD.out.at_ 0 4 rfl rfl, HD.out.at_ 0 5 rfl rfl, HD.out.at_ 0 5 rfl rfl⟩ (fun hHeld => ?_)
  clear hK K
  refine norm_ (a' := ?_) ?_ ?_
  rotate_left
  · show Act.put _ (some 28) _ = _
    simp only [Act.put, List.setIfInBounds_toArray, List.set_cons_zero, List.set_cons_succ, i64_w, i32_w]
    rfl
  refine pure_ (i := 19) (N := some 29) (v := ?_) (a' := ?_) #[true, true, true, true, true, true, true, true, true, true, true, true, true, true, true, true, true, true, true, true, false] rfl rfl (any_of HT_.out (by kernel_rfl)) (fun _ _ _ h => h) (Or.inl ⟨by rfl, ?_⟩) ?_ ?_
  rotate_left
  · intro w'
    go_simp
    with_reducible rfl
  rotate_left
  · simp only [Act.put, List.setIfInBounds_toArray, List.set_cons_zero, List.set_cons_succ, i64_w, i32_w, bLen]
    rfl
  refine pure_ (i := 20) (N := some 30) (v := ?_) (a' := ?_) #[true, true, true, true, true, true, true, true, true, true, true, true, true, true, true, true, true, true, true, true, true] rfl rfl (any_of HT_.out (by kernel_rfl)) (fun _ _ _ h => h) (Or.inl ⟨by rfl, ?_⟩) ?_ ?_
  rotate_left
  · intro w'
    go_simp
    with_reducible rfl
  rotate_left
  · simp only [Act.put, List.setIfInBounds_toArray, List.set_cons_zero, List.set_cons_succ, i64_w, i32_w, bLen]
    rfl
  refine done_ (done_of HT_.out (by kernel_rfl)) ?_
  clear HT_ HW_ hHeld bLen
  try dsimp only at HD
  go_wp2
  go_loopw [5] (fun v5 wr => ∃ i : Nat, i ≤ s.b.length ∧ v5 = .int .i64 i ∧ Aside0 (DoS w wr g rb mb n s s (.slice A0 (lsS s).length c0) A2 c2 ((b3, #[.slice A0 (lsS s).length c0, .int .i64 s.wait, .slice A2 s.keep.length c2, .int .i64 s.torn, .int .i64 s.at_, .bool s.down], 51) :: l))) (fun v5 _ => s.b.length - (intOf v5).toNat)
  case atStart => exact ⟨0, by omega, rfl, HD⟩
  case round =>
    clear HD
    obtain ⟨i, hi, rfl, HD⟩ := hrel
    by_cases hlt : i < s.b.length ∧ i < 40
    · have p0 : (i : Int) < ((lsS s).length : Int) := by rw [HLs.out]; omega
      have p1 : (i : Int) < 40 := by omega
      have q0 : decide ((i : Int) < ((lsS s).length : Int)) = true := decide_eq_true p0
      have q1 : decide ((i : Int) < 40) = true := decide_eq_true p1
      have q2 : i < (lsS s).length := by rw [HLs.out]; omega
      obtain ⟨r1, c1, hr⟩ : ∃ r1 c1, s.read (i : Int) = (r1, c1) := ⟨_, _, rfl⟩
      have HS := Aside0.mk (fun (W1 : World) (h : IsSl w W1 g rb mb n s) => slab_read h (i : Int))
      simp only [hr] at HS
      have HE := Aside0.mk hr
      clear hr
      have y0 : World.cell? wr ⟨b3, 0, none⟩ = some (.slice A0 (lsS s).length c0) := HD.out.at_ 0 0 rfl rfl
      have y1 : World.cell? wr ⟨b3, 1, none⟩ = some (.int .i64 s.wait) := HD.out.at_ 0 1 rfl rfl
      have y2 : World.cell? wr ⟨b3, 2, none⟩ = some (.slice A2 s.keep.length c2) := HD.out.at_ 0 2 rfl rfl
      have y3 : World.cell? wr ⟨b3, 3, none⟩ = some (.int .i64 s.torn) := HD.out.at_ 0 3 rfl rfl
      have y4 : World.cell? wr ⟨b3, 4, none⟩ = some (.int .i64 s.at_) := HD.out.at_ 0 4 rfl rfl
      have y5 : World.cell? wr ⟨b3, 5, none⟩ = some (.bool s.down) := HD.out.at_ 0 5 rfl rfl
      have y4' : World.cell? wr ⟨b3, 3 + 1, none⟩ = some (.int .i64 s.at_) := y4
      have y5' : World.cell? wr ⟨b3, 3 + 2, none⟩ = some (.bool s.down) := y5
      have y3' : World.cell? wr ⟨b3, 2 + 1, none⟩ = some (.int .i64 s.torn) := y3
      have y4'' : World.cell? wr ⟨b3, 2 + 2, none⟩ = some (.int .i64 s.at_) := y4
      go_upto_region 7 with (go_at_call 18; refine (HS.out _ HD.out.hs).mono ?_; rintro e w5 ⟨rfl, rfl⟩)
      have HQ := Aside0.mk (HD.out.read (i : Int))
      rw [HE.out] at HQ
      go_upto_region 8 with (go_at_call 35; refine HQ.out.mono ?_; rintro e w6 ⟨rfl, hd⟩; replace HD := Aside0.mk hd; clear hd)
      clear y0 y1 y2 y3 y4 y5 y4' y5' y3' y4''
      have b2 : (c1 != c1) = false := bne_self_eq_false c1
      go_wp2
      exact ⟨⟨i + 1, by omega, by first | rfl | go_num, HD⟩, by simp [intOf]; omega⟩
    · have hex : (decide ((i : Int) < ((lsS s).length : Int)) = false ∧ ¬ ((i : Int) < ((lsS s).length : Int))) ∨ (decide ((i : Int) < ((lsS s).length : Int)) = true ∧ ((i : Int) < ((lsS s).length : Int)) ∧ decide ((i : Int) < 40) = false) := by
        rw [HLs.out]
        by_cases a : (i : Int) < (s.b.length : Int)
        · exact Or.inr ⟨decide_eq_true a, a, decide_eq_false (by omega)⟩
        · exact Or.inl ⟨decide_eq_false a, a⟩
      clear hlt
      have y0 : World.cell? wr ⟨b3, 0, none⟩ = some (.slice A0 (lsS s).length c0) := HD.out.at_ 0 0 rfl rfl
      have y1 : World.cell? wr ⟨b3, 1, none⟩ = some (.int .i64 s.wait) := HD.out.at_ 0 1 rfl rfl
      have y2 : World.cell? wr ⟨b3, 2, none⟩ = some (.slice A2 s.keep.length c2) := HD.out.at_ 0 2 rfl rfl
      have y3 : World.cell? wr ⟨b3, 3, none⟩ = some (.int .i64 s.torn) := HD.out.at_ 0 3 rfl rfl
      have y4 : World.cell? wr ⟨b3, 4, none⟩ = some (.int .i64 s.at_) := HD.out.at_ 0 4 rfl rfl
      have y5 : World.cell? wr ⟨b3, 5, none⟩ = some (.bool s.down) := HD.out.at_ 0 5 rfl rfl
      have y4' : World.cell? wr ⟨b3, 3 + 1, none⟩ = some (.int .i64 s.at_) := y4
      have y5' : World.cell? wr ⟨b3, 3 + 2, none⟩ = some (.bool s.down) := y5
      have y3' : World.cell? wr ⟨b3, 2 + 1, none⟩ = some (.int .i64 s.torn) := y3
      have y4'' : World.cell? wr ⟨b3, 2 + 2, none⟩ = some (.int .i64 s.at_) := y4
      rcases hex with ⟨q0, q1⟩ | ⟨q0, q1, q2⟩
      all_goals
        go_wp2
        go_ret
        exact ⟨rfl, HD.out.drop⟩

def bAg (n m : Nat) : Array Bool := ((List.range n).map (fun i => m.testBit i)).toArray
theorem sg1 {α : Type _} {l : List α} {i : Nat} {a : α} : l.toArray.setIfInBounds i a = (l.set i a).toArray := List.setIfInBounds_toArray l i a
theorem sg2 {α : Type _} {a b : α} {l : List α} : (a :: l).set 0 b = b :: l := List.set_cons_zero
theorem sg3 {α : Type _} {a b : α} {l : List α} {n : Nat} : (a :: l).set (n + 1) b = a :: l.set n b := List.set_cons_succ

/-! ### splicelaw07_SlabPlays: function 7 (by hand) -/
def okAct (x : S38) : Prop := -9223372036854775808 ≤ x.f1 ∧ x.f1 ≤ 9223372036854775807
instance (x : S38) : Decidable (okAct x) := by unfold okAct; infer_instance
theorem light_calls (x : S38) {A : Option Addr} {c : Nat} (W : World) (hk : Kd.C (Kd.int .i64) W A x.f3.f0.length x.f3.f0) (hc : x.f3.f0.length ≤ c) :
    Calls Try.prog 17 #[.agg #[.int .i64 x.f0, .int .i64 x.f1, .string x.f2, .slice A x.f3.f0.length c, .int .i64 x.f3.f1, .int .i64 x.f3.f2]] W fun e W' => e = .returned (.bool (decide ((x.f2.size : Int) ≤ 2000) && decide ((x.f3.f0.length : Int) ≤ 50))) ∧ Below W.heap.size W W' := by
  refine splicelaw07_light.calls x.f0 x.f1 x.f2 A c x.f3.f0 x.f3.f1 x.f3.f2 _ W hk hc ?_
  unfold splicelaw07_light.f
  by_cases h : (x.f2.size : Int) ≤ 2000
  · rw [if_pos h, decide_eq_true h, Bool.true_and]
  · rw [if_neg h, decide_eq_false h, Bool.false_and]
theorem cell_below {W W' : World} (hb : Below W.heap.size W W') {a : Addr} {v : Value} (h : W.cell? a = some v) : W'.cell? a = some v := (hb.cell (World.block_lt_of_cell? W a h)).trans h
def blk0 : S74 := ⟨⟨#[]⟩, ⟨#[]⟩, false⟩
theorem new_ls (n : Nat) : lsS (Sl.new n) = List.replicate n blk0 := by
  unfold lsS Sl.new; rw [List.map_replicate]; rfl
theorem new_l0 (n : Nat) (hn : n ≤ 4096) : ∀ (d k i : Nat), i + d = n → d < k → spliceref07_New.l0 k (n : Int) (i : Int) (List.replicate i blk0) 0 0 0 false = some (List.replicate n blk0, 0, ([] : List Int), 0, 0, false, true) := by
  intro d
  induction d with
  | zero =>
    intro k i hi hk
    obtain ⟨k, rfl⟩ : ∃ k', k = k' + 1 := ⟨k - 1, by omega⟩
    obtain rfl : i = n := by omega
    rw [spliceref07_New.l0, if_neg (by omega)]
  | succ d ih =>
    intro k i hi hk
    obtain ⟨k, rfl⟩ : ∃ k', k = k' + 1 := ⟨k - 1, by omega⟩
    rw [spliceref07_New.l0, if_pos (by omega), if_pos (by rw [List.length_replicate]; omega), w1s i (by omega)]
    rw [show List.replicate i blk0 ++ [(⟨(⟨#[]⟩ : ByteArray), (⟨#[]⟩ : ByteArray), false⟩ : S74)] = List.replicate (i + 1) blk0 from by rw [List.replicate_succ']; rfl]
    exact ih k (i + 1) (by omega) (by omega)
theorem new_f (n : Nat) (h1 : 1 ≤ n) (h2 : n ≤ 4096) : spliceref07_New.f (n + 2) (n : Int) = some (lsS (Sl.new n), 0, ([] : List Int), 0, 0, false, true) := by
  unfold spliceref07_New.f
  rw [if_neg (by omega), spliceref07_New.j0, decide_eq_false (by omega), if_neg (by decide), new_ls]
  exact new_l0 n h2 n (n + 1) 0 (by omega) (by omega)
theorem new_no (n : Int) (h : ¬ (1 ≤ n ∧ n ≤ 4096)) : spliceref07_New.f 1 n = some (([] : List S74), 0, ([] : List Int), 0, 0, false, false) := by
  unfold spliceref07_New.f
  by_cases h1 : n < 1
  · rw [if_pos h1, spliceref07_New.j0, if_pos rfl]
  · rw [if_neg h1, spliceref07_New.j0, decide_eq_true (by omega), if_pos rfl]
theorem DoS.start {w W W1 : World} {g rb mb n k : Nat} {v0 : Value} {A2 : Option Addr} {c2 : Nat} (h : IsSl w W g rb mb n (Sl.new k)) (hb : Below W.heap.size W W1) (h0 : Kd.R k74 74 W1 W.heap.size (fun _ => True) v0 (lsS (Sl.new k))) : DoS w W1 g rb mb n (Sl.new k) (Sl.new k) v0 A2 c2 [] := by
  have hl := h.lts
  refine ⟨h.below hb, Kd.R_tight rfl (Kd.R_lower h0 h.bel.size), fun k q => ?_, ⟨rfl, by simp [Sl.new], fun h => absurd h (Nat.lt_irrefl 0)⟩, Nat.zero_le _, ⟨fun e he => by simp at he, by simp, (h.below hb).bel⟩, fun e he => by simp at he, fun e he => by simp at he⟩
  have := (Kd.R_bound h0).1 k q.symm
  omega
def play11.T : Bool × List (List Nat × List Nat) := (true, [([], []), ([], []), ([], []), ([], []), ([2, 3], [2, 3]), ([4], [4]), ([0, 1, 5], [0, 1, 5]), ([6], [6]), ([7], [7]), ([7], [7]), ([], []), ([10, 8, 6, 0, 1, 2, 3, 4, 5, 6, 7, 8, 10], [8, 10]), ([9, 11, 0, 1, 2, 3, 4, 5, 6, 7, 8, 9, 10, 11], [9])])
def play11.B : List Nat := [0, 0, 0, 0, 12, 28, 63, 127, 255, 255, 0, 1535, 4095]
theorem play11.tab : rtab .any (opsOf Try.f7 11) = play11.T := by kernel_rfl
theorem play11.bits : waitsOk play11.T.2 play11.B = true := by kernel_rfl
def splicelaw07_SlabPlays.f (a0 : Int) (l1 : List S38) : Option Bool := if l1.all (fun x => decide (okAct x)) = true then some true else none
set_option maxHeartbeats 16000000 in
set_option maxRecDepth 100000 in
theorem plays_no (a0 : Int) (A1 : Option Addr) (c1 n1 : Nat) (w : World) (h : ¬ (1 ≤ a0 ∧ a0 ≤ 4096)) :
    Calls Try.prog 7 #[.int .i64 a0, .slice A1 n1 c1] w fun e w' => e = .returned (.bool true) ∧ Below w.heap.size w w' := by
  have HN := Aside0.mk (slab_new_no w a0 h)
  have HR := Aside0.mk (spliceref07_New.calls 1 a0 _ _ _ _ _ _ _ w (new_no a0 h))
  clear h
  go_enter Try.func7, Try.ntmps7
  go_upto_region 3 with (first | (go_at_call 10; (refine HN.out.mono ?_; rintro e w1 ⟨rfl, rfl⟩)) | (go_at_call 22; (refine HR.out.mono ?_; rintro e w2 ⟨v0, v2, rfl, h0, h2, hb⟩; obtain ⟨A0, c0, rfl⟩ := Kd.R_slice h0; obtain ⟨A2, c2, rfl⟩ := Kd.R_slice h2; have HB := Aside0.mk hb; clear h0 h2 hb)))
  clear HN HR
  replace HB := Aside0.mk (below_step HB.out (below_alloc (Below.refl _ _) (.cells #[.slice A0 0 c0, .int .i64 0, .slice A2 0 c2, .int .i64 0, .int .i64 0, .bool false] 51)))
  generalize w2.alloc (.cells #[.slice A0 0 c0, .int .i64 0, .slice A2 0 c2, .int .i64 0, .int .i64 0, .bool false] 51) = w3 at HB ⊢
  go_wp2_with (go_at_call 11; refine (awake07 _).mono ?_; rintro e w4 ⟨rfl, hb⟩; replace HB := Aside0.mk (below_step HB.out hb); clear hb)
  go_ret
  exact ⟨rfl, HB.out⟩
set_option maxHeartbeats 16000000 in
set_option maxRecDepth 100000 in
theorem plays_big (n : Nat) (A1 : Option Addr) (c1 n1 : Nat) (w : World) (h1 : 40 < n) (h2 : n ≤ 4096) :
    Calls Try.prog 7 #[.int .i64 (n : Int), .slice A1 n1 c1] w fun e w' => e = .returned (.bool true) ∧ Below w.heap.size w w' := by
  have HN := Aside0.mk (slab_new_yes (Below.refl w.heap.size w) (n : Int) (by omega) (by omega))
  have HR := Aside0.mk (fun W => spliceref07_New.calls (n + 2) (n : Int) _ _ _ _ _ _ _ W (new_f n (by omega) h2))
  have q0 : decide ((n : Int) > 40) = true := decide_eq_true (by omega)
  have q1 : decide ((40 : Int) < (n : Int)) = true := decide_eq_true (by omega)
  have q2 : decide (40 < n) = true := decide_eq_true h1
  clear h1 h2
  go_enter Try.func7, Try.ntmps7
  go_upto_region 3 with (first | (go_at_call 10; (refine HN.out.mono ?_; rintro e w1 ⟨rfl, hs, hb⟩; have HB := Aside0.mk hb; clear hs hb)) | (go_at_call 22; (refine (HR.out _).mono ?_; rintro e w2 ⟨v0, v2, rfl, h0, h2, hb⟩; obtain ⟨A0, c0, rfl⟩ := Kd.R_slice h0; obtain ⟨A2, c2, rfl⟩ := Kd.R_slice h2; replace HB := Aside0.mk (below_step HB.out hb); clear h0 h2 hb)))
  clear HN HR
  replace HB := Aside0.mk (below_step HB.out (below_alloc (Below.refl _ _) (.cells #[.slice A0 (lsS (Sl.new n)).length c0, .int .i64 0, .slice A2 0 c2, .int .i64 0, .int .i64 0, .bool false] 51)))
  generalize w2.alloc (.cells #[.slice A0 (lsS (Sl.new n)).length c0, .int .i64 0, .slice A2 0 c2, .int .i64 0, .int .i64 0, .bool false] 51) = w3 at HB ⊢
  go_wp2_with (go_at_call 11; refine (awake07 _).mono ?_; rintro e w4 ⟨rfl, hb⟩; replace HB := Aside0.mk (below_step HB.out hb); clear hb)
  go_ret
  exact ⟨rfl, HB.out⟩
set_option maxHeartbeats 16000000 in
set_option maxRecDepth 100000 in
theorem plays_walk (n : Nat) (A1 : Option Addr) (c1 : Nat) (l1 : List S38) (w : World) (h1 : 1 ≤ n) (h2 : n ≤ 40) (hr1 : Kd.C k38 w A1 l1.length l1) (hok : ∀ y ∈ l1, okAct y) :
    Calls Try.prog 7 #[.int .i64 (n : Int), .slice A1 l1.length c1] w fun e w' => e = .returned (.bool true) ∧ Below w.heap.size w w' := by
  have HR1 := Aside0.mk hr1
  have hmax := hr1.2.1
  have HOK := Aside0.mk hok
  have HN := Aside0.mk (slab_new_yes (Below.refl w.heap.size w) (n : Int) (by omega) (by omega))
  have HR := Aside0.mk (fun W => spliceref07_New.calls (n + 2) (n : Int) _ _ _ _ _ _ _ W (new_f n (by omega) (by omega)))
  have q0 : decide ((n : Int) > 40) = false := decide_eq_false (by omega)
  have q1 : decide ((40 : Int) < (n : Int)) = false := decide_eq_false (by omega)
  have q2 : decide (40 < n) = false := decide_eq_false (by omega)
  clear hr1 hok h1 h2
  go_enter Try.func7, Try.ntmps7
  go_upto_region 2 with (go_at_call 10; (refine HN.out.mono ?_; rintro e w1 ⟨rfl, hs, hb⟩; have HS := Aside0.mk hs; clear hs hb))
  clear HN
  generalize w.heap.size + 1 + 1 = g at HS ⊢
  generalize w.heap.size + 1 = mb at HS
  obtain ⟨rb, hrb⟩ : ∃ rb, rb = w.heap.size := ⟨_, rfl⟩
  rw [← hrb, Int.toNat_natCast] at HS
  clear hrb
  go_upto_region 3 with (go_at_call 22; (refine (HR.out _).mono ?_; rintro e w2 ⟨v0, v2, rfl, h0, h2, hb⟩; obtain ⟨A0, c0, rfl⟩ := Kd.R_slice h0; obtain ⟨A2, c2, rfl⟩ := Kd.R_slice h2; have HD := Aside0.mk (DoS.start (A2 := A2) (c2 := c2) HS.out hb h0); clear h0 h2 hb))
  clear HR HS
  replace HD := Aside0.mk (HD.out.cons #[.slice A0 (lsS (Sl.new n)).length c0, .int .i64 0, .slice A2 0 c2, .int .i64 0, .int .i64 0, .bool false] 51 (by decide))
  generalize w2.alloc (.cells #[.slice A0 (lsS (Sl.new n)).length c0, .int .i64 0, .slice A2 0 c2, .int .i64 0, .int .i64 0, .bool false] 51) = w3 at HD ⊢
  generalize w2.heap.size = b6 at HD ⊢
  go_upto_region 7 with (go_at_call 11; refine (awake07 _).mono ?_; rintro e w4 ⟨rfl, hb⟩; replace HD := Aside0.mk (HD.out.below hb); clear hb)
  clear q0 q1 q2
  go_wp2
  go_loopw [8] (fun v8 wr => ∃ (k : Nat) (s : Sl) (v0 : Value) (A2 : Option Addr) (c2 : Nat), k ≤ l1.length ∧ k ≤ 60 ∧ v8 = .int .i64 k ∧ Aside0 (DoS w wr g rb mb k s s v0 A2 c2 [(b6, #[v0, .int .i64 s.wait, .slice A2 s.keep.length c2, .int .i64 s.torn, .int .i64 s.at_, .bool s.down], 51)])) (fun v8 _ => l1.length - (intOf v8).toNat)
  case atStart => exact ⟨0, Sl.new n, _, A2, c2, by omega, by omega, rfl, HD⟩
  case round =>
    clear HD
    obtain ⟨k, s, v0, A2, c2, hk, hk2, rfl, HD⟩ := hrel
    obtain ⟨A0, c0, rfl⟩ := HD.out.sl
    have HK2 : Aside0 (k < 1000000) := ⟨by omega⟩
    by_cases hlt : k < l1.length ∧ k < 60
    · have q0 : decide (k < l1.length) = true := decide_eq_true hlt.1
      have q1 : decide ((k : Int) < 60) = true := decide_eq_true (by omega)
      have hwk : IntKind.i64.wrap ((k : Int) + 1) = (k : Int) + 1 := IntWalk.i64_in _ (by omega)
      obtain ⟨ad, A3, c3, rfl, x0, x1, x2, x3, x4, x5, hc3, hC3⟩ := at_T38 HR1.out (k : Int) (by omega) (by omega)
      have hok : okAct (rd_T38 l1 (k : Int)) := HOK.out _ (by unfold rd_T38; rw [Int.toNat_natCast, List.getD_eq_getElem?_getD, List.getElem?_eq_getElem hlt.1]; exact List.getElem_mem _)
      generalize rd_T38 l1 (k : Int) = x at x0 x1 x2 x3 x4 x5 hc3 hC3 hok
      rw [Int.toNat_natCast] at x0 x1 x2 x3 x4 x5
      have HX := Aside0.mk (And.intro x0 (And.intro x1 (And.intro x2 (And.intro x3 (And.intro x4 x5)))))
      have HLi := Aside0.mk (light_calls x wr (Kd.C_below hC3 HD.out.hs.bel) hc3)
      have HC3 := Aside0.mk (And.intro hc3 hC3)
      have HOk := Aside0.mk hok
      have hk60 := hlt.2
      have hkl := hlt.1
      clear hc3 hC3 hok hlt x0 x1 x2 x3 x4 x5
      obtain ⟨x0, x1, x2, x3, x4, x5⟩ := HX.out
      replace x0 := cell_below HD.out.hs.bel x0
      replace x1 := cell_below HD.out.hs.bel x1
      replace x2 := cell_below HD.out.hs.bel x2
      replace x3 := cell_below HD.out.hs.bel x3
      replace x4 := cell_below HD.out.hs.bel x4
      replace x5 := cell_below HD.out.hs.bel x5
      cases hlg : (decide ((x.f2.size : Int) ≤ 2000) && decide ((x.f3.f0.length : Int) ≤ 50))
      · rw [hlg] at HLi
        clear hlg
        go_wp2_with (go_at_call 17; refine HLi.out.mono ?_; rintro e w6 ⟨rfl, hb⟩; replace HD := Aside0.mk (HD.out.below hb); clear hb)
        exact ⟨⟨k + 1, s, _, _, _, by omega, by omega, by go_num, ⟨HD.out.more (by omega)⟩⟩, by simp [intOf]; omega⟩
      · rw [hlg] at HLi
        have HLen : Aside0 (x.f3.f0.length ≤ 100000000) := ⟨by simp at hlg; omega⟩
        clear hlg
        go_upto_region 11 with (go_at_call 17; refine HLi.out.mono ?_; rintro e wd0 ⟨rfl, hb⟩; replace HD := Aside0.mk (HD.out.below hb); clear hb)
        clear x0 x1 x2 x3 x4 x5 HLi q0 q1
        replace HD := Aside0.mk (HD.out.below (below_drew (Below.refl _ _)))
        refine start_ (n := 13) (S := fun w' => w'.cell? ⟨b6, 0, none⟩ = some (.slice A0 (lsS s).length c0) ∧ w'.cell? ⟨b6, 1, none⟩ = some (.int .i64 s.wait) ∧ w'.cell? ⟨b6, 2, none⟩ = some (.slice A2 s.keep.length c2) ∧ w'.cell? ⟨b6, 3, none⟩ = some (.int .i64 s.torn) ∧ w'.cell? ⟨b6, 4, none⟩ = some (.int .i64 s.at_) ∧ w'.cell? ⟨b6, 5, none⟩ = some (.bool s.down) ∧ w'.cell? (ad.add (k * 6)) = some (.int .i64 x.f0) ∧ w'.cell? ⟨(ad.add (k * 6)).block, (ad.add (k * 6)).off + 1, none⟩ = some (.int .i64 x.f1) ∧ w'.cell? ⟨(ad.add (k * 6)).block, (ad.add (k * 6)).off + 2, none⟩ = some (.string x.f2) ∧ w'.cell? ⟨(ad.add (k * 6)).block, (ad.add (k * 6)).off + 3, none⟩ = some (.slice A3 x.f3.f0.length c3) ∧ w'.cell? ⟨(ad.add (k * 6)).block, (ad.add (k * 6)).off + 4, none⟩ = some (.int .i64 x.f3.f1) ∧ w'.cell? ⟨(ad.add (k * 6)).block, (ad.add (k * 6)).off + 5, none⟩ = some (.int .i64 x.f3.f2)) (ds := [11]) (bAg 13 0) (by kernel_rfl) rfl rfl ⟨HD.out.at_ 0 0 rfl rfl, HD.out.at_ 0 1 rfl rfl, HD.out.at_ 0 2 rfl rfl, HD.out.at_ 0 3 rfl rfl, HD.out.at_ 0 4 rfl rfl, HD.out.at_ 0 5 rfl rfl, cell_below HD.out.hs.bel HX.out.1, cell_below HD.out.hs.bel HX.out.2.1, cell_below HD.out.hs.bel HX.out.2.2.1, cell_below HD.out.hs.bel HX.out.2.2.2.1, cell_below HD.out.hs.bel HX.out.2.2.2.2.1, cell_below HD.out.hs.bel HX.out.2.2.2.2.2⟩ (fun hHeld => ?_); refine with_tabW play11.tab play11.bits (fun HT_ HW_ => ?_)
        generalize wd0.drew = wd at HD hHeld ⊢
        refine pure_ (i := 0) (N := some 54) (v := ?_) (a' := ?_) (bAg 13 1) rfl rfl (any_of HT_.out (by kernel_rfl)) (fun _ _ _ h => h) (Or.inl ⟨by rfl, ?_⟩) ?_ ?_
        rotate_left
        · intro w'
          go_simp
          with_reducible rfl
        rotate_left
        · simp only [Act.put, sg1, sg2, sg3, i64_w, i32_w]
          rfl
        refine take_ (i := 1) (N := some 55) (v := ?_) (a' := ?_) (bAg 13 3) rfl rfl (take_ofW HT_.out HW_.out (by kernel_rfl)) (fun _ _ _ h => h) (Or.inl ⟨by rfl, ?_⟩) hHeld ?_ ?_
        rotate_left
        · rintro w' ⟨s0_, s1_, s2_, s3_, s4_, s5_, s6_, s7_, s8_, s9_, s10_, s11_⟩
          go_simp
          with_reducible rfl
        rotate_left
        · simp only [Act.put, sg1, sg2, sg3, i64_w, i32_w]
          rfl
        refine pure_ (i := 2) (N := some 56) (v := ?_) (a' := ?_) (bAg 13 7) rfl rfl (any_of HT_.out (by kernel_rfl)) (fun _ _ _ h => h) (Or.inl ⟨by rfl, ?_⟩) ?_ ?_
        rotate_left
        · intro w'
          go_simp
          with_reducible rfl
        rotate_left
        · simp only [Act.put, sg1, sg2, sg3, i64_w, i32_w]
          rfl
        refine pure_ (i := 3) (N := some 57) (v := ?_) (a' := ?_) (bAg 13 15) rfl rfl (any_of HT_.out (by kernel_rfl)) (fun _ _ _ h => h) (Or.inl ⟨by rfl, ?_⟩) ?_ ?_
        rotate_left
        · intro w'
          go_simp
          with_reducible rfl
        rotate_left
        · simp only [Act.put, sg1, sg2, sg3, i64_w, i32_w]
          rfl
        refine pure_ (i := 4) (N := some 58) (v := ?_) (a' := ?_) (bAg 13 31) rfl rfl (any_of HT_.out (by kernel_rfl)) (fun _ _ _ h => h) (Or.inl ⟨by rfl, ?_⟩) ?_ ?_
        rotate_left
        · intro w'
          go_simp
          with_reducible rfl
        rotate_left
        · simp only [Act.put, sg1, sg2, sg3, i64_w, i32_w]
          rfl
        refine take_ (i := 5) (N := some 59) (v := ?_) (a' := ?_) (bAg 13 63) rfl rfl (take_ofW HT_.out HW_.out (by kernel_rfl)) (fun _ _ _ h => h) (Or.inl ⟨by rfl, ?_⟩) hHeld ?_ ?_
        rotate_left
        · rintro w' ⟨s0_, s1_, s2_, s3_, s4_, s5_, s6_, s7_, s8_, s9_, s10_, s11_⟩
          go_simp
          with_reducible rfl
        rotate_left
        · simp only [Act.put, sg1, sg2, sg3, i64_w, i32_w]
          rfl
        refine two_ (i := 6) (j := 10) (Ni := some 60) (Nj := some 9) (bAg 13 127) (bAg 13 1087) rfl rfl rfl rfl (two_of HT_.out (by kernel_rfl)) (by decide) (by decide) (fun K hK => ?_) (fun K hK => ?_)
        · refine goes_ Try.func23 (by kernel_rfl) rfl #[.pointer (some ⟨g, 0, none⟩), .agg #[.slice A0 (lsS s).length c0, .int .i64 s.wait, .slice A2 s.keep.length c2, .int .i64 s.torn, .int .i64 s.at_, .bool s.down], .agg #[.int .i64 x.f0, .int .i64 x.f1, .string x.f2, .slice A3 x.f3.f0.length c3, .int .i64 x.f3.f1, .int .i64 x.f3.f2]] (by rfl) rfl rfl (by (try simp only [List.map_toArray, List.map_cons, List.map_nil]); first | done | rfl) ?_
          refine (does_walk HD.out HK2.out x.f0 x.f1 x.f2 A3 c3 x.f3.f0 x.f3.f1 x.f3.f2 HOk.out.2 HC3.out.2 HC3.out.1 HLen.out).mono ?_
          rintro e w6 ⟨s1, v0', A2', c2', rfl, hd⟩
          obtain ⟨A0', c0', rfl⟩ := hd.sl
          refine ⟨_, rfl, ?_⟩
          replace HD := Aside0.mk hd
          clear hd
          refine hK.out _ _ ⟨HD.out.at_ 0 0 rfl rfl, HD.out.at_ 0 1 rfl rfl, HD.out.at_ 0 2 rfl rfl, HD.out.at_ 0 3 rfl rfl, HD.out.at_ 0 4 rfl rfl, HD.out.at_ 0 5 rfl rfl, cell_below HD.out.hs.bel HX.out.1, cell_below HD.out.hs.bel HX.out.2.1, cell_below HD.out.hs.bel HX.out.2.2.1, cell_below HD.out.hs.bel HX.out.2.2.2.1, cell_below HD.out.hs.bel HX.out.2.2.2.2.1, cell_below HD.out.hs.bel HX.out.2.2.2.2.2⟩ (fun hHeld => ?_)
          clear hK K
          refine norm_ (a' := ?_) ?_ ?_
          rotate_left
          · show Act.put _ (some 60) _ = _
            simp only [Act.put, sg1, sg2, sg3, i64_w, i32_w]
            rfl
          refine pure_ (i := 7) (N := some 53) (v := ?_) (a' := ?_) (bAg 13 255) rfl rfl (any_of HT_.out (by kernel_rfl)) (fun _ _ _ h => h) (Or.inl ⟨by rfl, ?_⟩) ?_ ?_
          rotate_left
          · intro w'
            go_simp
            with_reducible rfl
          rotate_left
          · simp only [Act.put, sg1, sg2, sg3, i64_w, i32_w]
            rfl
          refine pure_ (i := 8) (N := some 61) (v := ?_) (a' := ?_) (bAg 13 511) rfl rfl (any_of HT_.out (by kernel_rfl)) (fun _ _ _ h => h) (Or.inl ⟨by rfl, ?_⟩) ?_ ?_
          rotate_left
          · intro w'
            go_simp
            with_reducible rfl
          rotate_left
          · simp only [Act.put, sg1, sg2, sg3, i64_w, i32_w]
            rfl
          refine pure_ (i := 9) (N := some 62) (v := ?_) (a' := ?_) (bAg 13 1023) rfl rfl (any_of HT_.out (by kernel_rfl)) (fun _ _ _ h => h) (Or.inl ⟨by rfl, ?_⟩) ?_ ?_
          rotate_left
          · intro w'
            go_simp
            with_reducible rfl
          rotate_left
          · simp only [Act.put, sg1, sg2, sg3, i64_w, i32_w]
            rfl
          refine one_ (i := 10) (N := some 9) (bAg 13 2047) rfl rfl (one_of HT_.out (by kernel_rfl)) (by decide) (fun K hK => ?_)
          refine box_step ?hg (N := 9) ?hd (cs := #[.slice none 0 0, .int .i64 0, .slice none 0 0, .int .i64 0, .int .i64 0, .bool false]) (t := 51) ?hr ?_; (case hd => rfl); (case hg => rfl); (case hr => first | (go_simp; done) | (go_simp; rfl))
          intro b9 hg w7 hbox hb
          replace HD := Aside0.mk (HD.out.consed hg hbox hb (by decide))
          clear hg hbox hb
          refine hK.out _ _ ⟨HD.out.at_ 1 0 rfl rfl, HD.out.at_ 1 1 rfl rfl, HD.out.at_ 1 2 rfl rfl, HD.out.at_ 1 3 rfl rfl, HD.out.at_ 1 4 rfl rfl, HD.out.at_ 1 5 rfl rfl, cell_below HD.out.hs.bel HX.out.1, cell_below HD.out.hs.bel HX.out.2.1, cell_below HD.out.hs.bel HX.out.2.2.1, cell_below HD.out.hs.bel HX.out.2.2.2.1, cell_below HD.out.hs.bel HX.out.2.2.2.2.1, cell_below HD.out.hs.bel HX.out.2.2.2.2.2⟩ (fun hHeld => ?_)
          clear hK K
          refine norm_ (a' := ?_) ?_ ?_
          rotate_left
          · show Act.put _ (some 9) _ = _
            simp only [Act.put, sg1, sg2, sg3, i64_w, i32_w]
            rfl
          refine last_ (i := 11) (N := none) (bAg 13 4095) rfl rfl (one_of HT_.out (by kernel_rfl)) (by decide) (fun K hK => ?_)
          have t0 : World.cell? _ ⟨b9, 0, none⟩ = some (.slice none 0 0) := HD.out.at_ 0 0 rfl rfl
          have t1 : World.cell? _ ⟨b9, 1, none⟩ = some (.int .i64 0) := HD.out.at_ 0 1 rfl rfl
          have t2 : World.cell? _ ⟨b9, 2, none⟩ = some (.slice none 0 0) := HD.out.at_ 0 2 rfl rfl
          have t3 : World.cell? _ ⟨b9, 3, none⟩ = some (.int .i64 0) := HD.out.at_ 0 3 rfl rfl
          have t4 : World.cell? _ ⟨b9, 4, none⟩ = some (.int .i64 0) := HD.out.at_ 0 4 rfl rfl
          have t5 : World.cell? _ ⟨b9, 5, none⟩ = some (.bool false) := HD.out.at_ 0 5 rfl rfl
          have f0 : World.frozen? _ ⟨b9, 0, none⟩ = false := HD.out.fz 0 0 rfl
          have f1 : World.frozen? _ ⟨b9, 1, none⟩ = false := HD.out.fz 0 1 rfl
          have f2 : World.frozen? _ ⟨b9, 2, none⟩ = false := HD.out.fz 0 2 rfl
          have f3 : World.frozen? _ ⟨b9, 3, none⟩ = false := HD.out.fz 0 3 rfl
          have f4 : World.frozen? _ ⟨b9, 4, none⟩ = false := HD.out.fz 0 4 rfl
          have f5 : World.frozen? _ ⟨b9, 5, none⟩ = false := HD.out.fz 0 5 rfl
          refine skip_ (w1 := ?_) (by rfl) rfl ?_ ?_
          rotate_left
          · go_simp
            rfl
          replace HD := Aside0.mk (HD.out.st6 0 rfl (.slice A0' (lsS s1).length c0') (.int .i64 s1.wait) (.slice A2' s1.keep.length c2') (.int .i64 s1.torn) (.int .i64 s1.at_) (.bool s1.down))
          simp only [List.set_cons_succ, List.set_cons_zero] at HD
          refine hK.out _ _ ?_
          clear hK K t0 f0 t1 f1 t2 f2 t3 f3 t4 f4 t5 f5
          generalize (((((w7.setCell ⟨b9, 0, none⟩ (.slice A0' (lsS s1).length c0')).setCell ⟨b9, 1, none⟩ (.int .i64 s1.wait)).setCell ⟨b9, 2, none⟩ (.slice A2' s1.keep.length c2')).setCell ⟨b9, 3, none⟩ (.int .i64 s1.torn)).setCell ⟨b9, 4, none⟩ (.int .i64 s1.at_)).setCell ⟨b9, 5, none⟩ (.bool s1.down) = w8 at HD ⊢
          refine pure_ (i := 12) (N := some 10) (v := ?_) (a' := ?_) (bAg 13 8191) rfl rfl (any_of HT_.out (by kernel_rfl)) (fun _ _ _ h => h) (Or.inl ⟨by rfl, ?_⟩) ?_ ?_
          rotate_left
          · intro w'
            go_simp
            with_reducible rfl
          rotate_left
          · simp only [Act.put, sg1, sg2, sg3, i64_w, i32_w]
            rfl
          refine done_ (done_of HT_.out (by kernel_rfl)) ?_
          clear HT_ HW_
          try clear hHeld
          try dsimp only at HD
          skip
          have t0 : World.cell? w8 ⟨b9, 0, none⟩ = some (.slice A0' (lsS s1).length c0') := HD.out.at_ 0 0 rfl rfl
          have t1 : World.cell? w8 ⟨b9, 1, none⟩ = some (.int .i64 s1.wait) := HD.out.at_ 0 1 rfl rfl
          have t2 : World.cell? w8 ⟨b9, 2, none⟩ = some (.slice A2' s1.keep.length c2') := HD.out.at_ 0 2 rfl rfl
          have t3 : World.cell? w8 ⟨b9, 3, none⟩ = some (.int .i64 s1.torn) := HD.out.at_ 0 3 rfl rfl
          have t4 : World.cell? w8 ⟨b9, 4, none⟩ = some (.int .i64 s1.at_) := HD.out.at_ 0 4 rfl rfl
          have t5 : World.cell? w8 ⟨b9, 5, none⟩ = some (.bool s1.down) := HD.out.at_ 0 5 rfl rfl
          have y0 : World.cell? w8 ⟨b6, 0, none⟩ = some (.slice A0 (lsS s).length c0) := HD.out.at_ 1 0 rfl rfl
          have y1 : World.cell? w8 ⟨b6, 1, none⟩ = some (.int .i64 s.wait) := HD.out.at_ 1 1 rfl rfl
          have y2 : World.cell? w8 ⟨b6, 2, none⟩ = some (.slice A2 s.keep.length c2) := HD.out.at_ 1 2 rfl rfl
          have y3 : World.cell? w8 ⟨b6, 3, none⟩ = some (.int .i64 s.torn) := HD.out.at_ 1 3 rfl rfl
          have y4 : World.cell? w8 ⟨b6, 4, none⟩ = some (.int .i64 s.at_) := HD.out.at_ 1 4 rfl rfl
          have y5 : World.cell? w8 ⟨b6, 5, none⟩ = some (.bool s.down) := HD.out.at_ 1 5 rfl rfl
          have y4' : World.cell? w8 ⟨b6, 3 + 1, none⟩ = some (.int .i64 s.at_) := y4
          have y5' : World.cell? w8 ⟨b6, 3 + 2, none⟩ = some (.bool s.down) := y5
          have y3' : World.cell? w8 ⟨b6, 2 + 1, none⟩ = some (.int .i64 s.torn) := y3
          have y4'' : World.cell? w8 ⟨b6, 2 + 2, none⟩ = some (.int .i64 s.at_) := y4
          have yz0 : World.frozen? w8 ⟨b6, 0, none⟩ = false := HD.out.fz 1 0 rfl
          have yz1 : World.frozen? w8 ⟨b6, 1, none⟩ = false := HD.out.fz 1 1 rfl
          have yz2 : World.frozen? w8 ⟨b6, 2, none⟩ = false := HD.out.fz 1 2 rfl
          have yz3 : World.frozen? w8 ⟨b6, 3, none⟩ = false := HD.out.fz 1 3 rfl
          have yz4 : World.frozen? w8 ⟨b6, 4, none⟩ = false := HD.out.fz 1 4 rfl
          have yz5 : World.frozen? w8 ⟨b6, 5, none⟩ = false := HD.out.fz 1 5 rfl
          have yz3' : World.frozen? w8 ⟨b6, 2 + 1, none⟩ = false := yz3
          have yz4' : World.frozen? w8 ⟨b6, 2 + 2, none⟩ = false := yz4
          go_upto_region 13 with (fail)
          clear y0 y1 y2 y3 y4 y5 y4' y5' y3' y4'' yz0 yz1 yz2 yz3 yz4 yz5 yz3' yz4'
          clear t0 t1 t2 t3 t4 t5
          replace HD := Aside0.mk (HD.out.st6 1 rfl (.slice A0' (lsS s1).length c0') (.int .i64 s1.wait) (.slice A2' s1.keep.length c2') (.int .i64 s1.torn) (.int .i64 s1.at_) (.bool s1.down))
          simp only [List.set_cons_succ, List.set_cons_zero] at HD
          generalize (((((w8.setCell ⟨b6, 0, none⟩ (.slice A0' (lsS s1).length c0')).setCell ⟨b6, 1, none⟩ (.int .i64 s1.wait)).setCell ⟨b6, 2, none⟩ (.slice A2' s1.keep.length c2')).setCell ⟨b6, 3, none⟩ (.int .i64 s1.torn)).setCell ⟨b6, 4, none⟩ (.int .i64 s1.at_)).setCell ⟨b6, 5, none⟩ (.bool s1.down) = w9 at HD ⊢
          have y0 : World.cell? w9 ⟨b6, 0, none⟩ = some (.slice A0' (lsS s1).length c0') := HD.out.at_ 1 0 rfl rfl
          have y1 : World.cell? w9 ⟨b6, 1, none⟩ = some (.int .i64 s1.wait) := HD.out.at_ 1 1 rfl rfl
          have y2 : World.cell? w9 ⟨b6, 2, none⟩ = some (.slice A2' s1.keep.length c2') := HD.out.at_ 1 2 rfl rfl
          have y3 : World.cell? w9 ⟨b6, 3, none⟩ = some (.int .i64 s1.torn) := HD.out.at_ 1 3 rfl rfl
          have y4 : World.cell? w9 ⟨b6, 4, none⟩ = some (.int .i64 s1.at_) := HD.out.at_ 1 4 rfl rfl
          have y5 : World.cell? w9 ⟨b6, 5, none⟩ = some (.bool s1.down) := HD.out.at_ 1 5 rfl rfl
          have y4' : World.cell? w9 ⟨b6, 3 + 1, none⟩ = some (.int .i64 s1.at_) := y4
          have y5' : World.cell? w9 ⟨b6, 3 + 2, none⟩ = some (.bool s1.down) := y5
          have y3' : World.cell? w9 ⟨b6, 2 + 1, none⟩ = some (.int .i64 s1.torn) := y3
          have y4'' : World.cell? w9 ⟨b6, 2 + 2, none⟩ = some (.int .i64 s1.at_) := y4
          have HC := Aside0.mk (same_walk HD.out (by have := HK2.out; omega))
          go_wp2_with (go_at_call 24; refine HC.out.mono ?_; rintro e w10 ⟨rfl, hd⟩; replace HD := Aside0.mk hd; clear hd; clear y0 y1 y2 y3 y4 y5 y4' y5' y3' y4'')
          exact ⟨⟨k + 1, s1, _, _, _, by omega, by omega, by go_num, ⟨HD.out.drop⟩⟩, by simp [intOf]; omega⟩
        · refine box_step ?hg (N := 9) ?hd (cs := #[.slice none 0 0, .int .i64 0, .slice none 0 0, .int .i64 0, .int .i64 0, .bool false]) (t := 51) ?hr ?_; (case hd => rfl); (case hg => rfl); (case hr => first | (go_simp; done) | (go_simp; rfl))
          intro b9 hg w7 hbox hb
          replace HD := Aside0.mk (HD.out.consed hg hbox hb (by decide))
          clear hg hbox hb
          refine hK.out _ _ ⟨HD.out.at_ 1 0 rfl rfl, HD.out.at_ 1 1 rfl rfl, HD.out.at_ 1 2 rfl rfl, HD.out.at_ 1 3 rfl rfl, HD.out.at_ 1 4 rfl rfl, HD.out.at_ 1 5 rfl rfl, cell_below HD.out.hs.bel HX.out.1, cell_below HD.out.hs.bel HX.out.2.1, cell_below HD.out.hs.bel HX.out.2.2.1, cell_below HD.out.hs.bel HX.out.2.2.2.1, cell_below HD.out.hs.bel HX.out.2.2.2.2.1, cell_below HD.out.hs.bel HX.out.2.2.2.2.2⟩ (fun hHeld => ?_)
          clear hK K
          refine norm_ (a' := ?_) ?_ ?_
          rotate_left
          · show Act.put _ (some 9) _ = _
            simp only [Act.put, sg1, sg2, sg3, i64_w, i32_w]
            rfl
          refine one_ (i := 6) (N := some 60) (bAg 13 1151) rfl rfl (one_of HT_.out (by kernel_rfl)) (by decide) (fun K hK => ?_)
          refine goes_ Try.func23 (by kernel_rfl) rfl #[.pointer (some ⟨g, 0, none⟩), .agg #[.slice A0 (lsS s).length c0, .int .i64 s.wait, .slice A2 s.keep.length c2, .int .i64 s.torn, .int .i64 s.at_, .bool s.down], .agg #[.int .i64 x.f0, .int .i64 x.f1, .string x.f2, .slice A3 x.f3.f0.length c3, .int .i64 x.f3.f1, .int .i64 x.f3.f2]] (by rfl) rfl rfl (by (try simp only [List.map_toArray, List.map_cons, List.map_nil]); first | done | rfl) ?_
          refine (does_walk HD.out HK2.out x.f0 x.f1 x.f2 A3 c3 x.f3.f0 x.f3.f1 x.f3.f2 HOk.out.2 HC3.out.2 HC3.out.1 HLen.out).mono ?_
          rintro e w6 ⟨s1, v0', A2', c2', rfl, hd⟩
          obtain ⟨A0', c0', rfl⟩ := hd.sl
          refine ⟨_, rfl, ?_⟩
          replace HD := Aside0.mk hd
          clear hd
          refine hK.out _ _ ⟨HD.out.at_ 1 0 rfl rfl, HD.out.at_ 1 1 rfl rfl, HD.out.at_ 1 2 rfl rfl, HD.out.at_ 1 3 rfl rfl, HD.out.at_ 1 4 rfl rfl, HD.out.at_ 1 5 rfl rfl, cell_below HD.out.hs.bel HX.out.1, cell_below HD.out.hs.bel HX.out.2.1, cell_below HD.out.hs.bel HX.out.2.2.1, cell_below HD.out.hs.bel HX.out.2.2.2.1, cell_below HD.out.hs.bel HX.out.2.2.2.2.1, cell_below HD.out.hs.bel HX.out.2.2.2.2.2⟩ (fun hHeld => ?_)
          clear hK K
          refine norm_ (a' := ?_) ?_ ?_
          rotate_left
          · show Act.put _ (some 60) _ = _
            simp only [Act.put, sg1, sg2, sg3, i64_w, i32_w]
            rfl
          refine pure_ (i := 7) (N := some 53) (v := ?_) (a' := ?_) (bAg 13 1279) rfl rfl (any_of HT_.out (by kernel_rfl)) (fun _ _ _ h => h) (Or.inl ⟨by rfl, ?_⟩) ?_ ?_
          rotate_left
          · intro w'
            go_simp
            with_reducible rfl
          rotate_left
          · simp only [Act.put, sg1, sg2, sg3, i64_w, i32_w]
            rfl
          refine pure_ (i := 8) (N := some 61) (v := ?_) (a' := ?_) (bAg 13 1535) rfl rfl (any_of HT_.out (by kernel_rfl)) (fun _ _ _ h => h) (Or.inl ⟨by rfl, ?_⟩) ?_ ?_
          rotate_left
          · intro w'
            go_simp
            with_reducible rfl
          rotate_left
          · simp only [Act.put, sg1, sg2, sg3, i64_w, i32_w]
            rfl
          refine pure_ (i := 9) (N := some 62) (v := ?_) (a' := ?_) (bAg 13 2047) rfl rfl (any_of HT_.out (by kernel_rfl)) (fun _ _ _ h => h) (Or.inl ⟨by rfl, ?_⟩) ?_ ?_
          rotate_left
          · intro w'
            go_simp
            with_reducible rfl
          rotate_left
          · simp only [Act.put, sg1, sg2, sg3, i64_w, i32_w]
            rfl
          refine last_ (i := 11) (N := none) (bAg 13 4095) rfl rfl (one_of HT_.out (by kernel_rfl)) (by decide) (fun K hK => ?_)
          have t0 : World.cell? _ ⟨b9, 0, none⟩ = some (.slice none 0 0) := HD.out.at_ 0 0 rfl rfl
          have t1 : World.cell? _ ⟨b9, 1, none⟩ = some (.int .i64 0) := HD.out.at_ 0 1 rfl rfl
          have t2 : World.cell? _ ⟨b9, 2, none⟩ = some (.slice none 0 0) := HD.out.at_ 0 2 rfl rfl
          have t3 : World.cell? _ ⟨b9, 3, none⟩ = some (.int .i64 0) := HD.out.at_ 0 3 rfl rfl
          have t4 : World.cell? _ ⟨b9, 4, none⟩ = some (.int .i64 0) := HD.out.at_ 0 4 rfl rfl
          have t5 : World.cell? _ ⟨b9, 5, none⟩ = some (.bool false) := HD.out.at_ 0 5 rfl rfl
          have f0 : World.frozen? _ ⟨b9, 0, none⟩ = false := HD.out.fz 0 0 rfl
          have f1 : World.frozen? _ ⟨b9, 1, none⟩ = false := HD.out.fz 0 1 rfl
          have f2 : World.frozen? _ ⟨b9, 2, none⟩ = false := HD.out.fz 0 2 rfl
          have f3 : World.frozen? _ ⟨b9, 3, none⟩ = false := HD.out.fz 0 3 rfl
          have f4 : World.frozen? _ ⟨b9, 4, none⟩ = false := HD.out.fz 0 4 rfl
          have f5 : World.frozen? _ ⟨b9, 5, none⟩ = false := HD.out.fz 0 5 rfl
          refine skip_ (w1 := ?_) (by rfl) rfl ?_ ?_
          rotate_left
          · go_simp
            rfl
          replace HD := Aside0.mk (HD.out.st6 0 rfl (.slice A0' (lsS s1).length c0') (.int .i64 s1.wait) (.slice A2' s1.keep.length c2') (.int .i64 s1.torn) (.int .i64 s1.at_) (.bool s1.down))
          simp only [List.set_cons_succ, List.set_cons_zero] at HD
          refine hK.out _ _ ?_
          clear hK K t0 f0 t1 f1 t2 f2 t3 f3 t4 f4 t5 f5
          generalize (((((w6.setCell ⟨b9, 0, none⟩ (.slice A0' (lsS s1).length c0')).setCell ⟨b9, 1, none⟩ (.int .i64 s1.wait)).setCell ⟨b9, 2, none⟩ (.slice A2' s1.keep.length c2')).setCell ⟨b9, 3, none⟩ (.int .i64 s1.torn)).setCell ⟨b9, 4, none⟩ (.int .i64 s1.at_)).setCell ⟨b9, 5, none⟩ (.bool s1.down) = w8 at HD ⊢
          refine pure_ (i := 12) (N := some 10) (v := ?_) (a' := ?_) (bAg 13 8191) rfl rfl (any_of HT_.out (by kernel_rfl)) (fun _ _ _ h => h) (Or.inl ⟨by rfl, ?_⟩) ?_ ?_
          rotate_left
          · intro w'
            go_simp
            with_reducible rfl
          rotate_left
          · simp only [Act.put, sg1, sg2, sg3, i64_w, i32_w]
            rfl
          refine done_ (done_of HT_.out (by kernel_rfl)) ?_
          clear HT_ HW_
          try clear hHeld
          try dsimp only at HD
          skip
          have t0 : World.cell? w8 ⟨b9, 0, none⟩ = some (.slice A0' (lsS s1).length c0') := HD.out.at_ 0 0 rfl rfl
          have t1 : World.cell? w8 ⟨b9, 1, none⟩ = some (.int .i64 s1.wait) := HD.out.at_ 0 1 rfl rfl
          have t2 : World.cell? w8 ⟨b9, 2, none⟩ = some (.slice A2' s1.keep.length c2') := HD.out.at_ 0 2 rfl rfl
          have t3 : World.cell? w8 ⟨b9, 3, none⟩ = some (.int .i64 s1.torn) := HD.out.at_ 0 3 rfl rfl
          have t4 : World.cell? w8 ⟨b9, 4, none⟩ = some (.int .i64 s1.at_) := HD.out.at_ 0 4 rfl rfl
          have t5 : World.cell? w8 ⟨b9, 5, none⟩ = some (.bool s1.down) := HD.out.at_ 0 5 rfl rfl
          have y0 : World.cell? w8 ⟨b6, 0, none⟩ = some (.slice A0 (lsS s).length c0) := HD.out.at_ 1 0 rfl rfl
          have y1 : World.cell? w8 ⟨b6, 1, none⟩ = some (.int .i64 s.wait) := HD.out.at_ 1 1 rfl rfl
          have y2 : World.cell? w8 ⟨b6, 2, none⟩ = some (.slice A2 s.keep.length c2) := HD.out.at_ 1 2 rfl rfl
          have y3 : World.cell? w8 ⟨b6, 3, none⟩ = some (.int .i64 s.torn) := HD.out.at_ 1 3 rfl rfl
          have y4 : World.cell? w8 ⟨b6, 4, none⟩ = some (.int .i64 s.at_) := HD.out.at_ 1 4 rfl rfl
          have y5 : World.cell? w8 ⟨b6, 5, none⟩ = some (.bool s.down) := HD.out.at_ 1 5 rfl rfl
          have y4' : World.cell? w8 ⟨b6, 3 + 1, none⟩ = some (.int .i64 s.at_) := y4
          have y5' : World.cell? w8 ⟨b6, 3 + 2, none⟩ = some (.bool s.down) := y5
          have y3' : World.cell? w8 ⟨b6, 2 + 1, none⟩ = some (.int .i64 s.torn) := y3
          have y4'' : World.cell? w8 ⟨b6, 2 + 2, none⟩ = some (.int .i64 s.at_) := y4
          have yz0 : World.frozen? w8 ⟨b6, 0, none⟩ = false := HD.out.fz 1 0 rfl
          have yz1 : World.frozen? w8 ⟨b6, 1, none⟩ = false := HD.out.fz 1 1 rfl
          have yz2 : World.frozen? w8 ⟨b6, 2, none⟩ = false := HD.out.fz 1 2 rfl
          have yz3 : World.frozen? w8 ⟨b6, 3, none⟩ = false := HD.out.fz 1 3 rfl
          have yz4 : World.frozen? w8 ⟨b6, 4, none⟩ = false := HD.out.fz 1 4 rfl
          have yz5 : World.frozen? w8 ⟨b6, 5, none⟩ = false := HD.out.fz 1 5 rfl
          have yz3' : World.frozen? w8 ⟨b6, 2 + 1, none⟩ = false := yz3
          have yz4' : World.frozen? w8 ⟨b6, 2 + 2, none⟩ = false := yz4
          go_upto_region 13 with (fail)
          clear y0 y1 y2 y3 y4 y5 y4' y5' y3' y4'' yz0 yz1 yz2 yz3 yz4 yz5 yz3' yz4'
          clear t0 t1 t2 t3 t4 t5
          replace HD := Aside0.mk (HD.out.st6 1 rfl (.slice A0' (lsS s1).length c0') (.int .i64 s1.wait) (.slice A2' s1.keep.length c2') (.int .i64 s1.torn) (.int .i64 s1.at_) (.bool s1.down))
          simp only [List.set_cons_succ, List.set_cons_zero] at HD
          generalize (((((w8.setCell ⟨b6, 0, none⟩ (.slice A0' (lsS s1).length c0')).setCell ⟨b6, 1, none⟩ (.int .i64 s1.wait)).setCell ⟨b6, 2, none⟩ (.slice A2' s1.keep.length c2')).setCell ⟨b6, 3, none⟩ (.int .i64 s1.torn)).setCell ⟨b6, 4, none⟩ (.int .i64 s1.at_)).setCell ⟨b6, 5, none⟩ (.bool s1.down) = w9 at HD ⊢
          have y0 : World.cell? w9 ⟨b6, 0, none⟩ = some (.slice A0' (lsS s1).length c0') := HD.out.at_ 1 0 rfl rfl
          have y1 : World.cell? w9 ⟨b6, 1, none⟩ = some (.int .i64 s1.wait) := HD.out.at_ 1 1 rfl rfl
          have y2 : World.cell? w9 ⟨b6, 2, none⟩ = some (.slice A2' s1.keep.length c2') := HD.out.at_ 1 2 rfl rfl
          have y3 : World.cell? w9 ⟨b6, 3, none⟩ = some (.int .i64 s1.torn) := HD.out.at_ 1 3 rfl rfl
          have y4 : World.cell? w9 ⟨b6, 4, none⟩ = some (.int .i64 s1.at_) := HD.out.at_ 1 4 rfl rfl
          have y5 : World.cell? w9 ⟨b6, 5, none⟩ = some (.bool s1.down) := HD.out.at_ 1 5 rfl rfl
          have y4' : World.cell? w9 ⟨b6, 3 + 1, none⟩ = some (.int .i64 s1.at_) := y4
          have y5' : World.cell? w9 ⟨b6, 3 + 2, none⟩ = some (.bool s1.down) := y5
          have y3' : World.cell? w9 ⟨b6, 2 + 1, none⟩ = some (.int .i64 s1.torn) := y3
          have y4'' : World.cell? w9 ⟨b6, 2 + 2, none⟩ = some (.int .i64 s1.at_) := y4
          have HC := Aside0.mk (same_walk HD.out (by have := HK2.out; omega))
          go_wp2_with (go_at_call 24; refine HC.out.mono ?_; rintro e w10 ⟨rfl, hd⟩; replace HD := Aside0.mk hd; clear hd; clear y0 y1 y2 y3 y4 y5 y4' y5' y3' y4'')
          exact ⟨⟨k + 1, s1, _, _, _, by omega, by omega, by go_num, ⟨HD.out.drop⟩⟩, by simp [intOf]; omega⟩
    · have hex : decide (k < l1.length) = false ∨ (decide (k < l1.length) = true ∧ decide ((k : Int) < 60) = false) := by
        by_cases a : k < l1.length
        · exact Or.inr ⟨decide_eq_true a, decide_eq_false (by omega)⟩
        · exact Or.inl (decide_eq_false a)
      clear hlt
      rcases hex with q0 | ⟨q0, q1⟩
      all_goals
        go_wp2
        go_ret
        exact ⟨rfl, HD.out.hs.bel⟩
theorem splicelaw07_SlabPlays.calls (a0 : Int) (A1 : Option Addr) (c1 : Nat) (l1 : List S38) (r : Bool) (w : World) (hr1 : Kd.C k38 w A1 l1.length l1) (hc1 : l1.length ≤ c1) (h : splicelaw07_SlabPlays.f a0 l1 = some r) (hr_ : r = true) :
    Calls Try.prog 7 #[.int .i64 a0, .slice A1 l1.length c1] w fun e w' => e = .returned (.bool r) ∧ Below w.heap.size w w' := by
  subst hr_
  unfold splicelaw07_SlabPlays.f at h
  split at h
  · rename_i hall
    rw [List.all_eq_true] at hall
    by_cases hn : 1 ≤ a0 ∧ a0 ≤ 4096
    · obtain ⟨n, rfl⟩ := Int.eq_ofNat_of_zero_le (show 0 ≤ a0 by omega)
      by_cases hb : n ≤ 40
      · exact plays_walk n A1 c1 l1 w (by omega) hb hr1 (fun y hy => of_decide_eq_true (hall y hy))
      · exact plays_big n A1 c1 _ w (by omega) (by omega)
    · exact plays_no a0 A1 c1 _ w hn
  · cases h

def wf33 (x : S33) : Prop := (x.f0.length * 8 ≤ 140737488351232 ∧ x.f0.length ≤ maxLen ∧ ∀ y0 ∈ x.f0, (Lit.int .i64 y0).wf = true) ∧ (Lit.int .i64 x.f1).wf = true ∧ (Lit.int .i64 x.f2).wf = true
theorem op33 : Go.Proofs.Ytdenfndpggfgmaa.Op.Op Try.prog k33 33 wf33 := op_mono (op_iso (op_struct Try.underlying33 (by kernel_rfl) (opfs_cons (op_slice Try.underlying27 (by kernel_rfl) (show Try.prog.bytesOf 3 = 8 by kernel_rfl) (op_int Try.underlying3 (by kernel_rfl)) (by decide)) rfl (opfs_cons (op_int Try.underlying3 (by kernel_rfl)) rfl (opfs_last (op_int Try.underlying3 (by kernel_rfl)) rfl)))) (fun x : S33 => (x.f0, x.f1, x.f2)) (fun y => ⟨y.1, y.2.1, y.2.2⟩) (fun _ => rfl)) (fun _ h => h)

def wf38 (x : S38) : Prop := (Lit.int .i64 x.f0).wf = true ∧ (Lit.int .i64 x.f1).wf = true ∧ x.f2.size ≤ 140737488351232 ∧ wf33 x.f3
theorem op38 : Go.Proofs.Ytdenfndpggfgmaa.Op.Op Try.prog k38 38 wf38 := op_mono (op_iso (op_struct Try.underlying38 (by kernel_rfl) (opfs_cons (op_int Try.underlying3 (by kernel_rfl)) rfl (opfs_cons (op_int Try.underlying3 (by kernel_rfl)) rfl (opfs_cons (op_string Try.underlying9 (by kernel_rfl)) rfl (opfs_last op33 rfl))))) (fun x : S38 => (x.f0, x.f1, x.f2, x.f3)) (fun y => ⟨y.1, y.2.1, y.2.2.1, y.2.2.2⟩) (fun _ => rfl)) (fun _ h => h)


/-! ### splicelaw07_SlabPlays: function 7 -/
/-- THE ONE PURE STATEMENT of splicelaw07_SlabPlays: yours. -/
def splicelaw07_SlabPlays.Pure : Prop := ∀ (x0 : Int) (x1 : List (S38)), (Lit.int .i64 x0).wf = true → (x1.length * 72 ≤ 140737488351232 ∧ x1.length ≤ maxLen ∧ ∀ y0 ∈ x1, wf38 y0) → splicelaw07_SlabPlays.f x0 x1 = some true

end Go.Proofs.Ytdenfndpggfgmaa.PP
