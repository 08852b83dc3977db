-- written by a program of this session
import Derived.Test.YtdenfndpggfgmaaPPx0
import Derived.Test.YtdenfndpggfgmaaPPx2
import Derived.Test.YtdenfndpggfgmaaPPx3
import Derived.Test.YtdenfndpggfgmaaPPx4
import Derived.Test.YtdenfndpggfgmaaPPx5
import Derived.Test.YtdenfndpggfgmaaPPx7
namespace Go.Proofs.Ytdenfndpggfgmaa.PP
open Go.RowKit Go.Proofs.Ytdenfndpggfgmaa.Op Go.Proofs.YtdenfndpggfgmaaW.PrintWords Go.Proofs.YtdenfndpggfgmaaW.PrintLast Go.Proofs.YtdenfndpggfgmaaW.PrintMore
attribute [local go_sem] max2_int min2_int max_two min_two max_three min_three max_four min_four   -- for this text's walks alone
set_option linter.unusedVariables false
set_option linter.unusedSimpArgs false

def does4.T : Bool × List (List Nat × List Nat) := (true, [([], []), ([], []), ([], []), ([2], [2]), ([], []), ([4], [4]), ([1, 3, 5], [1, 3, 5]), ([], []), ([6, 7], [6, 7]), ([0, 6, 0], [0]), ([8, 9, 0, 1, 2, 3, 4, 5, 6, 7, 8, 9], [8])])
def does4.B : List Nat := [0, 0, 0, 4, 0, 16, 62, 0, 254, 127, 1023]
theorem does4.tab : rtab .any (opsOf Try.f23 4) = does4.T := by kernel_rfl
theorem does4.bits : waitsOk does4.T.2 does4.B = true := by kernel_rfl
def does11.T : Bool × List (List Nat × List Nat) := (true, [([], []), ([], []), ([1], [1]), ([], []), ([2, 3], [2, 3]), ([0, 2, 0], [0]), ([4, 5, 0, 1, 2, 3, 4, 5], [4])])
def does11.B : List Nat := [0, 0, 2, 0, 14, 7, 63]
theorem does11.tab : rtab .any (opsOf Try.f23 11) = does11.T := by kernel_rfl
theorem does11.bits : waitsOk does11.T.2 does11.B = true := by kernel_rfl
def does18.T : Bool × List (List Nat × List Nat) := (true, [([], []), ([], []), ([1], [1]), ([2], [2]), ([0, 3, 3], [0, 3]), ([4, 4, 0, 1, 2, 3, 4], [4]), ([5, 0, 1, 2, 3, 4, 5], [])])
def does18.B : List Nat := [0, 0, 2, 6, 15, 31, 63]
theorem does18.tab : rtab .any (opsOf Try.f23 18) = does18.T := by kernel_rfl
theorem does18.bits : waitsOk does18.T.2 does18.B = true := by kernel_rfl
/-! ### `does`: one act, by the slab and by the document's slab -/
theorem DoS.trip {w W : World} {g rb mb n : Nat} {s : Sl} {v0 : Value} {A2 Ak : Option Addr} {c2 ck : Nat} {l : BxL} {mx xt xat : Int} {kl : List Int} {kb : Nat} (h : DoS w W g rb mb n { s with wait := mx, keep := kl, torn := xt, at_ := xat, kb := kb } s v0 A2 c2 l) (hk : Kd.C (Kd.int .i64) w Ak kl.length kl) (hc : kl.length ≤ ck) :
    DoS w W g rb mb n { s with wait := mx, keep := kl, torn := xt, at_ := xat, kb := kb } { s with wait := mx, keep := kl, torn := xt, at_ := xat, kb := kb } v0 Ak ck l := ⟨h.hs, h.r0, h.o0, hk, hc, h.bx, h.off, h.ty⟩
set_option maxRecDepth 100000 in
set_option maxHeartbeats 16000000 in
theorem does_walk {w W : World} {g rb mb n : Nat} {s : Sl} {v0 : Value} {A2 : Option Addr} {c2 : Nat} {l : BxL} (h : DoS w W g rb mb n s s v0 A2 c2 l) (hn : n < 1000000) (xk xa : Int) (xs : ByteArray) (Ak : Option Addr) (ck : Nat) (kl : List Int) (xt xat : Int) (hxa : xa ≤ 9223372036854775807) (hk : Kd.C (Kd.int .i64) w Ak kl.length kl) (hkc : kl.length ≤ ck) (hkl : kl.length ≤ 100000000) :
    Calls Try.prog 23 #[.pointer (some ⟨g, 0, none⟩), .agg #[v0, .int .i64 s.wait, .slice A2 s.keep.length c2, .int .i64 s.torn, .int .i64 s.at_, .bool s.down], .agg #[.int .i64 xk, .int .i64 xa, .string xs, .slice Ak kl.length ck, .int .i64 xt, .int .i64 xat]] W fun e W' => ∃ (s' : Sl) (v0' : Value) (A2' : Option Addr) (c2' : Nat), e = .returned (.tuple #[.agg #[v0', .int .i64 s'.wait, .slice A2' s'.keep.length c2', .int .i64 s'.torn, .int .i64 s'.at_, .bool s'.down], .bool true]) ∧ DoS w W' g rb mb (n + 1) s' s' v0' A2' c2' l := by
  obtain ⟨A0, c0, rfl⟩ := h.sl
  have HD := Aside0.mk h
  have HN := Aside0.mk hn
  have HXa := Aside0.mk hxa
  have HK := Aside0.mk (And.intro hk (And.intro hkc hkl))
  clear h hn hk hkc hkl hxa
  go_enter Try.func23, Try.ntmps23
  go_upto_region 1 with (fail)
  replace HD := Aside0.mk (((HD.out.cons #[.slice A0 (lsS s).length c0, .int .i64 s.wait, .slice A2 s.keep.length c2, .int .i64 s.torn, .int .i64 s.at_, .bool s.down] 51 (by decide)).cons #[.int .i64 xk, .int .i64 xa, .string xs, .slice Ak kl.length ck, .int .i64 xt, .int .i64 xat] 38 (by decide)).cons #[.slice none 0 0, .int .i64 0, .slice none 0 0, .int .i64 0, .int .i64 0, .bool false] 51 (by decide))
  simp only [alloc_size] at HD
  generalize ((W.alloc (.cells #[.slice A0 (lsS s).length c0, .int .i64 s.wait, .slice A2 s.keep.length c2, .int .i64 s.torn, .int .i64 s.at_, .bool s.down] 51)).alloc (.cells #[.int .i64 xk, .int .i64 xa, .string xs, .slice Ak kl.length ck, .int .i64 xt, .int .i64 xat] 38)).alloc (.cells #[.slice none 0 0, .int .i64 0, .slice none 0 0, .int .i64 0, .int .i64 0, .bool false] 51) = w3 at HD ⊢
  generalize W.heap.size + 1 + 1 = b6 at HD ⊢
  generalize W.heap.size + 1 = b5 at HD ⊢
  generalize W.heap.size = b4 at HD ⊢
  have y0 : World.cell? w3 ⟨b4, 0, none⟩ = some (.slice A0 (lsS s).length c0) := HD.out.at_ 2 0 rfl rfl
  have y1 : World.cell? w3 ⟨b4, 1, none⟩ = some (.int .i64 s.wait) := HD.out.at_ 2 1 rfl rfl
  have y2 : World.cell? w3 ⟨b4, 2, none⟩ = some (.slice A2 s.keep.length c2) := HD.out.at_ 2 2 rfl rfl
  have y3 : World.cell? w3 ⟨b4, 3, none⟩ = some (.int .i64 s.torn) := HD.out.at_ 2 3 rfl rfl
  have y4 : World.cell? w3 ⟨b4, 4, none⟩ = some (.int .i64 s.at_) := HD.out.at_ 2 4 rfl rfl
  have y5 : World.cell? w3 ⟨b4, 5, none⟩ = some (.bool s.down) := HD.out.at_ 2 5 rfl rfl
  have y4' : World.cell? w3 ⟨b4, 3 + 1, none⟩ = some (.int .i64 s.at_) := y4
  have y5' : World.cell? w3 ⟨b4, 3 + 2, none⟩ = some (.bool s.down) := y5
  have y3' : World.cell? w3 ⟨b4, 2 + 1, none⟩ = some (.int .i64 s.torn) := y3
  have y4'' : World.cell? w3 ⟨b4, 2 + 2, none⟩ = some (.int .i64 s.at_) := y4
  have x0 : World.cell? w3 ⟨b5, 0, none⟩ = some (.int .i64 xk) := HD.out.at_ 1 0 rfl rfl
  have x1 : World.cell? w3 ⟨b5, 1, none⟩ = some (.int .i64 xa) := HD.out.at_ 1 1 rfl rfl
  have x2 : World.cell? w3 ⟨b5, 2, none⟩ = some (.string xs) := HD.out.at_ 1 2 rfl rfl
  have x3 : World.cell? w3 ⟨b5, 3, none⟩ = some (.slice Ak kl.length ck) := HD.out.at_ 1 3 rfl rfl
  have x4 : World.cell? w3 ⟨b5, 4, none⟩ = some (.int .i64 xt) := HD.out.at_ 1 4 rfl rfl
  have x5 : World.cell? w3 ⟨b5, 5, none⟩ = some (.int .i64 xat) := HD.out.at_ 1 5 rfl rfl
  have x4' : World.cell? w3 ⟨b5, 3 + 1, none⟩ = some (.int .i64 xt) := x4
  have x5' : World.cell? w3 ⟨b5, 3 + 2, none⟩ = some (.int .i64 xat) := x5
  have x3' : World.cell? w3 ⟨b5, 2 + 1, none⟩ = some (.slice Ak kl.length ck) := x3
  have x4'' : World.cell? w3 ⟨b5, 2 + 2, none⟩ = some (.int .i64 xt) := x4
  by_cases k0 : xk = 0
  · subst k0
    obtain ⟨s1, q1, hr⟩ : ∃ s1 q1, s.write xa xs = (s1, q1) := ⟨_, _, rfl⟩
    have HS := Aside0.mk (HD.out.write xa xs)
    rw [hr] at HS
    go_upto_region 4 with (go_at_call 34; refine HS.out.mono ?_; rintro e w4 ⟨v0', rfl, hd⟩; obtain ⟨A0', c0', rfl⟩ := hd.sl; replace HD := Aside0.mk hd; clear hd)
    clear HS
    clear x0 x1 x2 x3 x4 x5 x4' x5' x3' x4''
    clear y0 y1 y2 y3 y4 y5 y4' y5' y3' y4''
    replace HD := Aside0.mk (HD.out.cons #[.slice A0' (lsS s1).length c0', .int .i64 s1.wait, .slice A2 s1.keep.length c2, .int .i64 s1.torn, .int .i64 s1.at_, .bool s1.down] 51 (by decide))
    generalize w4.alloc (.cells #[.slice A0' (lsS s1).length c0', .int .i64 s1.wait, .slice A2 s1.keep.length c2, .int .i64 s1.torn, .int .i64 s1.at_, .bool s1.down] 51) = w5 at HD ⊢
    generalize w4.heap.size = b8 at HD ⊢
    have HR := Aside0.mk hr
    clear hr
    have HC := Aside0.mk True.intro
    replace HD := Aside0.mk (HD.out.below (below_drew (Below.refl _ _)))
    refine start_ (n := 11) (S := fun w' => w'.cell? ⟨b8, 0, none⟩ = some (.slice A0' (lsS s1).length c0') ∧ w'.cell? ⟨b8, 1, none⟩ = some (.int .i64 s1.wait) ∧ w'.cell? ⟨b8, 2, none⟩ = some (.slice A2 s1.keep.length c2) ∧ w'.cell? ⟨b8, 3, none⟩ = some (.int .i64 s1.torn) ∧ w'.cell? ⟨b8, 4, none⟩ = some (.int .i64 s1.at_) ∧ w'.cell? ⟨b8, 5, none⟩ = some (.bool s1.down) ∧ w'.cell? ⟨b5, 1, none⟩ = some (.int .i64 xa) ∧ w'.cell? ⟨b5, 2, none⟩ = some (.string xs)) (ds := [9]) #[false, false, false, false, false, false, false, false, false, false, false] (by kernel_rfl) rfl rfl ⟨HD.out.at_ 0 0 rfl rfl, HD.out.at_ 0 1 rfl rfl, HD.out.at_ 0 2 rfl rfl, HD.out.at_ 0 3 rfl rfl, HD.out.at_ 0 4 rfl rfl, HD.out.at_ 0 5 rfl rfl, HD.out.at_ 2 1 rfl rfl, HD.out.at_ 2 2 rfl rfl⟩ (fun hHeld => ?_); refine with_tabW does4.tab does4.bits (fun HT_ HW_ => ?_)
    generalize w5.drew = wd at HD hHeld ⊢
    refine take_ (i := 0) (N := some 29) (v := ?_) (a' := ?_) #[true, false, false, false, false, false, false, false, false, false, false] rfl rfl (take_ofW HT_.out HW_.out (by kernel_rfl)) (fun _ _ _ h => h) (Or.inl ⟨by rfl, ?_⟩) hHeld ?_ ?_
    rotate_left
    · rintro w' ⟨s0_, s1_, s2_, s3_, s4_, s5_, s6_, s7_⟩
      go_simp
      with_reducible rfl
    rotate_left
    · simp only [Act.put, List.setIfInBounds_toArray, List.set_cons_zero, List.set_cons_succ, i64_w, i32_w]
      rfl
    refine pure_ (i := 1) (N := some 30) (v := ?_) (a' := ?_) #[true, true, false, false, false, false, false, false, false, false, false] rfl rfl (any_of HT_.out (by kernel_rfl)) (fun _ _ _ h => h) (Or.inl ⟨by rfl, ?_⟩) ?_ ?_
    rotate_left
    · intro w'
      go_simp
      with_reducible rfl
    rotate_left
    · simp only [Act.put, List.setIfInBounds_toArray, List.set_cons_zero, List.set_cons_succ, i64_w, i32_w]
      rfl
    refine pure_ (i := 2) (N := some 31) (v := ?_) (a' := ?_) #[true, true, true, false, false, false, false, false, false, false, false] rfl rfl (any_of HT_.out (by kernel_rfl)) (fun _ _ _ h => h) (Or.inl ⟨by rfl, ?_⟩) ?_ ?_
    rotate_left
    · intro w'
      go_simp
      with_reducible rfl
    rotate_left
    · simp only [Act.put, List.setIfInBounds_toArray, List.set_cons_zero, List.set_cons_succ, i64_w, i32_w]
      rfl
    refine take_ (i := 3) (N := some 32) (v := ?_) (a' := ?_) #[true, true, true, true, false, false, false, false, false, false, false] rfl rfl (take_ofW HT_.out HW_.out (by kernel_rfl)) (fun _ _ _ h => h) (Or.inl ⟨by rfl, ?_⟩) hHeld ?_ ?_
    rotate_left
    · rintro w' ⟨s0_, s1_, s2_, s3_, s4_, s5_, s6_, s7_⟩
      go_simp
      with_reducible rfl
    rotate_left
    · simp only [Act.put, List.setIfInBounds_toArray, List.set_cons_zero, List.set_cons_succ, i64_w, i32_w]
      rfl
    refine pure_ (i := 4) (N := some 33) (v := ?_) (a' := ?_) #[true, true, true, true, true, false, false, false, false, false, false] rfl rfl (any_of HT_.out (by kernel_rfl)) (fun _ _ _ h => h) (Or.inl ⟨by rfl, ?_⟩) ?_ ?_
    rotate_left
    · intro w'
      go_simp
      with_reducible rfl
    rotate_left
    · simp only [Act.put, List.setIfInBounds_toArray, List.set_cons_zero, List.set_cons_succ, i64_w, i32_w]
      rfl
    refine take_ (i := 5) (N := some 34) (v := ?_) (a' := ?_) #[true, true, true, true, true, true, false, false, false, false, false] rfl rfl (take_ofW HT_.out HW_.out (by kernel_rfl)) (fun _ _ _ h => h) (Or.inl ⟨by rfl, ?_⟩) hHeld ?_ ?_
    rotate_left
    · rintro w' ⟨s0_, s1_, s2_, s3_, s4_, s5_, s6_, s7_⟩
      go_simp
      with_reducible rfl
    rotate_left
    · simp only [Act.put, List.setIfInBounds_toArray, List.set_cons_zero, List.set_cons_succ, i64_w, i32_w]
      rfl
    refine pure_ (i := 7) (N := some 36) (v := ?_) (a' := ?_) #[true, true, true, true, true, true, false, true, false, false, false] rfl rfl (any_of HT_.out (by kernel_rfl)) (fun _ _ _ h => h) (Or.inl ⟨by rfl, ?_⟩) ?_ ?_
    rotate_left
    · intro w'
      go_simp
      with_reducible rfl
    rotate_left
    · simp only [Act.put, List.setIfInBounds_toArray, List.set_cons_zero, List.set_cons_succ, i64_w, i32_w]
      rfl
    refine one_ (i := 6) (N := some 35) #[true, true, true, true, true, true, true, true, false, false, false] rfl rfl (one_of HT_.out (by kernel_rfl)) (by decide) (fun K hK => ?_)
    replace HC := Aside0.mk (slab_write HD.out.hs HN.out xa xs)
    rw [HR.out] at HC
    refine goes_ Try.func12 (by kernel_rfl) rfl #[.pointer (some ⟨g, 0, none⟩), .int .i64 xa, .string xs] (by rfl) rfl rfl (by (try simp only [List.map_toArray, List.map_cons, List.map_nil]); first | done | rfl) ?_
    refine (HC.out).mono ?_
    rintro e w6 ⟨rfl, hs, hb⟩
    refine ⟨_, rfl, ?_⟩
    replace HD := Aside0.mk (HD.out.slab hs hb)
    clear hs hb
    refine hK.out _ _ ⟨HD.out.at_ 0 0 rfl rfl, HD.out.at_ 0 1 rfl rfl, HD.out.at_ 0 2 rfl rfl, HD.out.at_ 0 3 rfl rfl, HD.out.at_ 0 4 rfl rfl, HD.out.at_ 0 5 rfl rfl, HD.out.at_ 2 1 rfl rfl, HD.out.at_ 2 2 rfl rfl⟩ (fun hHeld => ?_)
    clear hK K
    refine norm_ (a' := ?_) ?_ ?_
    rotate_left
    · show Act.put _ (some 35) _ = _
      simp only [Act.put, List.setIfInBounds_toArray, List.set_cons_zero, List.set_cons_succ, i64_w, i32_w]
      rfl
    refine pure_ (i := 8) (N := some 37) (v := ?_) (a' := ?_) #[true, true, true, true, true, true, true, true, true, false, false] rfl rfl (any_of HT_.out (by kernel_rfl)) (fun _ _ _ h => h) (Or.inl ⟨by rfl, ?_⟩) ?_ ?_
    rotate_left
    · intro w'
      go_simp
      with_reducible rfl
    rotate_left
    · simp only [Act.put, List.setIfInBounds_toArray, List.set_cons_zero, List.set_cons_succ, i64_w, i32_w]
      rfl
    refine last_ (i := 9) (N := none) #[true, true, true, true, true, true, true, true, true, true, false] rfl rfl (one_of HT_.out (by kernel_rfl)) (by decide) (fun K hK => ?_)
    have t0 : World.cell? _ ⟨b6, 0, none⟩ = some (.slice none 0 0) := HD.out.at_ 1 0 rfl rfl
    have t1 : World.cell? _ ⟨b6, 1, none⟩ = some (.int .i64 0) := HD.out.at_ 1 1 rfl rfl
    have t2 : World.cell? _ ⟨b6, 2, none⟩ = some (.slice none 0 0) := HD.out.at_ 1 2 rfl rfl
    have t3 : World.cell? _ ⟨b6, 3, none⟩ = some (.int .i64 0) := HD.out.at_ 1 3 rfl rfl
    have t4 : World.cell? _ ⟨b6, 4, none⟩ = some (.int .i64 0) := HD.out.at_ 1 4 rfl rfl
    have t5 : World.cell? _ ⟨b6, 5, none⟩ = some (.bool false) := HD.out.at_ 1 5 rfl rfl
    have tz0 : World.frozen? _ ⟨b6, 0, none⟩ = false := HD.out.fz 1 0 rfl
    have tz1 : World.frozen? _ ⟨b6, 1, none⟩ = false := HD.out.fz 1 1 rfl
    have tz2 : World.frozen? _ ⟨b6, 2, none⟩ = false := HD.out.fz 1 2 rfl
    have tz3 : World.frozen? _ ⟨b6, 3, none⟩ = false := HD.out.fz 1 3 rfl
    have tz4 : World.frozen? _ ⟨b6, 4, none⟩ = false := HD.out.fz 1 4 rfl
    have tz5 : World.frozen? _ ⟨b6, 5, none⟩ = false := HD.out.fz 1 5 rfl
    refine skip_ (w1 := ?_) (by rfl) rfl ?_ ?_
    rotate_left
    · go_simp
      rfl
    refine hK.out _ _ ?_
    clear hK K t0 tz0 t1 tz1 t2 tz2 t3 tz3 t4 tz4 t5 tz5
    refine pure_ (i := 10) (N := some 7) (v := ?_) (a' := ?_) #[true, true, true, true, true, true, true, true, true, true, true] rfl rfl (any_of HT_.out (by kernel_rfl)) (fun _ _ _ h => h) (Or.inl ⟨by rfl, ?_⟩) ?_ ?_
    rotate_left
    · intro w'
      go_simp
      with_reducible rfl
    rotate_left
    · simp only [Act.put, List.setIfInBounds_toArray, List.set_cons_zero, List.set_cons_succ, i64_w, i32_w]
      rfl
    refine done_ (done_of HT_.out (by kernel_rfl)) ?_
    clear HT_ HW_ hHeld
    try go_wp2
    replace HD := Aside0.mk (HD.out.st6 1 rfl (.slice A0' (lsS s1).length c0') (.int .i64 s1.wait) (.slice A2 s1.keep.length c2) (.int .i64 s1.torn) (.int .i64 s1.at_) (.bool s1.down))
    simp only [List.set_cons_succ, List.set_cons_zero] at HD
    generalize (((((w6.setCell ⟨b6, 0, none⟩ (.slice A0' (lsS s1).length c0')).setCell ⟨b6, 1, none⟩ (.int .i64 s1.wait)).setCell ⟨b6, 2, none⟩ (.slice A2 s1.keep.length c2)).setCell ⟨b6, 3, none⟩ (.int .i64 s1.torn)).setCell ⟨b6, 4, none⟩ (.int .i64 s1.at_)).setCell ⟨b6, 5, none⟩ (.bool s1.down) = w9 at HD ⊢
    refine bodyPost_ret (results_ct rfl _ _ b6 51 #[.slice A0' (lsS s1).length c0', .int .i64 s1.wait, .slice A2 s1.keep.length c2, .int .i64 s1.torn, .int .i64 s1.at_, .bool s1.down] (0, 0) _ rfl (HD.out.bx.get 1 rfl) Try.underlying51 rfl (by kernel_rfl)) rfl ?_
    exact ⟨s1, _, _, _, rfl, HD.out.drop.drop.drop.drop⟩
  have n0 : (xk == 0) = false := beq_eq_false_iff_ne.mpr k0
  have n0' : decide (xk = 0) = false := decide_eq_false k0
  clear k0
  by_cases k1 : xk = 1
  · subst k1
    obtain ⟨r1, q1, hr⟩ : ∃ r1 q1, s.read xa = (r1, q1) := ⟨_, _, rfl⟩
    have HS := Aside0.mk (HD.out.read xa)
    rw [hr] at HS
    go_upto_region 7 with (go_at_call 35; refine HS.out.mono ?_; rintro e w4 ⟨rfl, hd⟩; replace HD := Aside0.mk hd; clear hd)
    clear HS
    clear x0 x1 x2 x3 x4 x5 x4' x5' x3' x4''
    clear y0 y1 y2 y3 y4 y5 y4' y5' y3' y4''
    have x0 : World.cell? w4 ⟨b5, 0, none⟩ = some (.int .i64 1) := HD.out.at_ 1 0 rfl rfl
    have x1 : World.cell? w4 ⟨b5, 1, none⟩ = some (.int .i64 xa) := HD.out.at_ 1 1 rfl rfl
    have x2 : World.cell? w4 ⟨b5, 2, none⟩ = some (.string xs) := HD.out.at_ 1 2 rfl rfl
    have x3 : World.cell? w4 ⟨b5, 3, none⟩ = some (.slice Ak kl.length ck) := HD.out.at_ 1 3 rfl rfl
    have x4 : World.cell? w4 ⟨b5, 4, none⟩ = some (.int .i64 xt) := HD.out.at_ 1 4 rfl rfl
    have x5 : World.cell? w4 ⟨b5, 5, none⟩ = some (.int .i64 xat) := HD.out.at_ 1 5 rfl rfl
    have x4' : World.cell? w4 ⟨b5, 3 + 1, none⟩ = some (.int .i64 xt) := x4
    have x5' : World.cell? w4 ⟨b5, 3 + 2, none⟩ = some (.int .i64 xat) := x5
    have x3' : World.cell? w4 ⟨b5, 2 + 1, none⟩ = some (.slice Ak kl.length ck) := x3
    have x4'' : World.cell? w4 ⟨b5, 2 + 2, none⟩ = some (.int .i64 xt) := x4
    have HC := Aside0.mk (slab_read HD.out.hs xa)
    rw [hr] at HC
    go_upto_region 8 with (go_at_call 18; refine HC.out.mono ?_; rintro e w5 ⟨rfl, rfl⟩)
    clear x0 x1 x2 x3 x4 x5 x4' x5' x3' x4''
    have y0 : World.cell? w4 ⟨b4, 0, none⟩ = some (.slice A0 (lsS s).length c0) := HD.out.at_ 2 0 rfl rfl
    have y1 : World.cell? w4 ⟨b4, 1, none⟩ = some (.int .i64 s.wait) := HD.out.at_ 2 1 rfl rfl
    have y2 : World.cell? w4 ⟨b4, 2, none⟩ = some (.slice A2 s.keep.length c2) := HD.out.at_ 2 2 rfl rfl
    have y3 : World.cell? w4 ⟨b4, 3, none⟩ = some (.int .i64 s.torn) := HD.out.at_ 2 3 rfl rfl
    have y4 : World.cell? w4 ⟨b4, 4, none⟩ = some (.int .i64 s.at_) := HD.out.at_ 2 4 rfl rfl
    have y5 : World.cell? w4 ⟨b4, 5, none⟩ = some (.bool s.down) := HD.out.at_ 2 5 rfl rfl
    have y4' : World.cell? w4 ⟨b4, 3 + 1, none⟩ = some (.int .i64 s.at_) := y4
    have y5' : World.cell? w4 ⟨b4, 3 + 2, none⟩ = some (.bool s.down) := y5
    have y3' : World.cell? w4 ⟨b4, 2 + 1, none⟩ = some (.int .i64 s.torn) := y3
    have y4'' : World.cell? w4 ⟨b4, 2 + 2, none⟩ = some (.int .i64 s.at_) := y4
    have t0 : World.cell? w4 ⟨b6, 0, none⟩ = some (.slice none 0 0) := HD.out.at_ 0 0 rfl rfl
    have t1 : World.cell? w4 ⟨b6, 1, none⟩ = some (.int .i64 0) := HD.out.at_ 0 1 rfl rfl
    have t2 : World.cell? w4 ⟨b6, 2, none⟩ = some (.slice none 0 0) := HD.out.at_ 0 2 rfl rfl
    have t3 : World.cell? w4 ⟨b6, 3, none⟩ = some (.int .i64 0) := HD.out.at_ 0 3 rfl rfl
    have t4 : World.cell? w4 ⟨b6, 4, none⟩ = some (.int .i64 0) := HD.out.at_ 0 4 rfl rfl
    have t5 : World.cell? w4 ⟨b6, 5, none⟩ = some (.bool false) := HD.out.at_ 0 5 rfl rfl
    have t4' : World.cell? w4 ⟨b6, 3 + 1, none⟩ = some (.int .i64 0) := t4
    have t5' : World.cell? w4 ⟨b6, 3 + 2, none⟩ = some (.bool false) := t5
    have t3' : World.cell? w4 ⟨b6, 2 + 1, none⟩ = some (.int .i64 0) := t3
    have t4'' : World.cell? w4 ⟨b6, 2 + 2, none⟩ = some (.int .i64 0) := t4
    have tz0 : World.frozen? w4 ⟨b6, 0, none⟩ = false := HD.out.fz 0 0 rfl
    have tz1 : World.frozen? w4 ⟨b6, 1, none⟩ = false := HD.out.fz 0 1 rfl
    have tz2 : World.frozen? w4 ⟨b6, 2, none⟩ = false := HD.out.fz 0 2 rfl
    have tz3 : World.frozen? w4 ⟨b6, 3, none⟩ = false := HD.out.fz 0 3 rfl
    have tz4 : World.frozen? w4 ⟨b6, 4, none⟩ = false := HD.out.fz 0 4 rfl
    have tz5 : World.frozen? w4 ⟨b6, 5, none⟩ = false := HD.out.fz 0 5 rfl
    have tz3' : World.frozen? w4 ⟨b6, 2 + 1, none⟩ = false := tz3
    have tz4' : World.frozen? w4 ⟨b6, 2 + 2, none⟩ = false := tz4
    go_wp2
    replace HD := Aside0.mk (HD.out.st6 0 rfl (.slice A0 (lsS s).length c0) (.int .i64 s.wait) (.slice A2 s.keep.length c2) (.int .i64 s.torn) (.int .i64 s.at_) (.bool s.down))
    simp only [List.set_cons_succ, List.set_cons_zero] at HD
    generalize (((((w4.setCell ⟨b6, 0, none⟩ (.slice A0 (lsS s).length c0)).setCell ⟨b6, 1, none⟩ (.int .i64 s.wait)).setCell ⟨b6, 2, none⟩ (.slice A2 s.keep.length c2)).setCell ⟨b6, 3, none⟩ (.int .i64 s.torn)).setCell ⟨b6, 4, none⟩ (.int .i64 s.at_)).setCell ⟨b6, 5, none⟩ (.bool s.down) = w9 at HD ⊢
    refine bodyPost_ret (results_ct rfl _ _ b6 51 #[.slice A0 (lsS s).length c0, .int .i64 s.wait, .slice A2 s.keep.length c2, .int .i64 s.torn, .int .i64 s.at_, .bool s.down] (0, 0) _ rfl (HD.out.bx.get 0 rfl) Try.underlying51 rfl (by kernel_rfl)) rfl ?_
    exact ⟨s, _, _, _, rfl, (HD.out.more (by omega)).drop.drop.drop⟩
  have n1 : (xk == 1) = false := beq_eq_false_iff_ne.mpr k1
  have n1' : decide (xk = 1) = false := decide_eq_false k1
  clear k1
  by_cases k2 : xk = 2
  · subst k2
    obtain ⟨s1, q1, hr⟩ : ∃ s1 q1, s.flush = (s1, q1) := ⟨_, _, rfl⟩
    have HS := Aside0.mk (HD.out.flush)
    rw [hr] at HS
    go_upto_region 11 with (go_at_call 36; refine HS.out.mono ?_; rintro e w4 ⟨v0', rfl, hd⟩; obtain ⟨A0', c0', rfl⟩ := hd.sl; replace HD := Aside0.mk hd; clear hd)
    clear HS
    clear x0 x1 x2 x3 x4 x5 x4' x5' x3' x4''
    clear y0 y1 y2 y3 y4 y5 y4' y5' y3' y4''
    replace HD := Aside0.mk (HD.out.cons #[.slice A0' (lsS s1).length c0', .int .i64 s1.wait, .slice A2 s1.keep.length c2, .int .i64 s1.torn, .int .i64 s1.at_, .bool s1.down] 51 (by decide))
    generalize w4.alloc (.cells #[.slice A0' (lsS s1).length c0', .int .i64 s1.wait, .slice A2 s1.keep.length c2, .int .i64 s1.torn, .int .i64 s1.at_, .bool s1.down] 51) = w5 at HD ⊢
    generalize w4.heap.size = b8 at HD ⊢
    have HR := Aside0.mk hr
    clear hr
    have HC := Aside0.mk True.intro
    replace HD := Aside0.mk (HD.out.below (below_drew (Below.refl _ _)))
    refine start_ (n := 7) (S := fun w' => w'.cell? ⟨b8, 0, none⟩ = some (.slice A0' (lsS s1).length c0') ∧ w'.cell? ⟨b8, 1, none⟩ = some (.int .i64 s1.wait) ∧ w'.cell? ⟨b8, 2, none⟩ = some (.slice A2 s1.keep.length c2) ∧ w'.cell? ⟨b8, 3, none⟩ = some (.int .i64 s1.torn) ∧ w'.cell? ⟨b8, 4, none⟩ = some (.int .i64 s1.at_) ∧ w'.cell? ⟨b8, 5, none⟩ = some (.bool s1.down)) (ds := [5]) #[false, false, false, false, false, false, false] (by kernel_rfl) rfl rfl ⟨HD.out.at_ 0 0 rfl rfl, HD.out.at_ 0 1 rfl rfl, HD.out.at_ 0 2 rfl rfl, HD.out.at_ 0 3 rfl rfl, HD.out.at_ 0 4 rfl rfl, HD.out.at_ 0 5 rfl rfl⟩ (fun hHeld => ?_); refine with_tabW does11.tab does11.bits (fun HT_ HW_ => ?_)
    generalize w5.drew = wd at HD hHeld ⊢
    refine take_ (i := 0) (N := some 70) (v := ?_) (a' := ?_) #[true, false, false, false, false, false, false] rfl rfl (take_ofW HT_.out HW_.out (by kernel_rfl)) (fun _ _ _ h => h) (Or.inl ⟨by rfl, ?_⟩) hHeld ?_ ?_
    rotate_left
    · rintro w' ⟨s0_, s1_, s2_, s3_, s4_, s5_⟩
      go_simp
      with_reducible rfl
    rotate_left
    · simp only [Act.put, List.setIfInBounds_toArray, List.set_cons_zero, List.set_cons_succ, i64_w, i32_w]
      rfl
    refine pure_ (i := 1) (N := some 71) (v := ?_) (a' := ?_) #[true, true, false, false, false, false, false] rfl rfl (any_of HT_.out (by kernel_rfl)) (fun _ _ _ h => h) (Or.inl ⟨by rfl, ?_⟩) ?_ ?_
    rotate_left
    · intro w'
      go_simp
      with_reducible rfl
    rotate_left
    · simp only [Act.put, List.setIfInBounds_toArray, List.set_cons_zero, List.set_cons_succ, i64_w, i32_w]
      rfl
    refine pure_ (i := 3) (N := some 73) (v := ?_) (a' := ?_) #[true, true, false, true, false, false, false] rfl rfl (any_of HT_.out (by kernel_rfl)) (fun _ _ _ h => h) (Or.inl ⟨by rfl, ?_⟩) ?_ ?_
    rotate_left
    · intro w'
      go_simp
      with_reducible rfl
    rotate_left
    · simp only [Act.put, List.setIfInBounds_toArray, List.set_cons_zero, List.set_cons_succ, i64_w, i32_w]
      rfl
    refine one_ (i := 2) (N := some 72) #[true, true, true, true, false, false, false] rfl rfl (one_of HT_.out (by kernel_rfl)) (by decide) (fun K hK => ?_)
    replace HC := Aside0.mk (slab_flush HD.out.hs)
    rw [HR.out] at HC
    refine goes_ Try.func16 (by kernel_rfl) rfl #[.pointer (some ⟨g, 0, none⟩)] (by rfl) rfl rfl (by (try simp only [List.map_toArray, List.map_cons, List.map_nil]); first | done | rfl) ?_
    refine (HC.out).mono ?_
    rintro e w6 ⟨rfl, hs, hb⟩
    refine ⟨_, rfl, ?_⟩
    replace HD := Aside0.mk (HD.out.slab hs hb)
    clear hs hb
    refine hK.out _ _ ⟨HD.out.at_ 0 0 rfl rfl, HD.out.at_ 0 1 rfl rfl, HD.out.at_ 0 2 rfl rfl, HD.out.at_ 0 3 rfl rfl, HD.out.at_ 0 4 rfl rfl, HD.out.at_ 0 5 rfl rfl⟩ (fun hHeld => ?_)
    clear hK K
    refine norm_ (a' := ?_) ?_ ?_
    rotate_left
    · show Act.put _ (some 72) _ = _
      simp only [Act.put, List.setIfInBounds_toArray, List.set_cons_zero, List.set_cons_succ, i64_w, i32_w]
      rfl
    refine pure_ (i := 4) (N := some 74) (v := ?_) (a' := ?_) #[true, true, true, true, true, false, false] rfl rfl (any_of HT_.out (by kernel_rfl)) (fun _ _ _ h => h) (Or.inl ⟨by rfl, ?_⟩) ?_ ?_
    rotate_left
    · intro w'
      go_simp
      with_reducible rfl
    rotate_left
    · simp only [Act.put, List.setIfInBounds_toArray, List.set_cons_zero, List.set_cons_succ, i64_w, i32_w]
      rfl
    refine last_ (i := 5) (N := none) #[true, true, true, true, true, true, false] rfl rfl (one_of HT_.out (by kernel_rfl)) (by decide) (fun K hK => ?_)
    have t0 : World.cell? _ ⟨b6, 0, none⟩ = some (.slice none 0 0) := HD.out.at_ 1 0 rfl rfl
    have t1 : World.cell? _ ⟨b6, 1, none⟩ = some (.int .i64 0) := HD.out.at_ 1 1 rfl rfl
    have t2 : World.cell? _ ⟨b6, 2, none⟩ = some (.slice none 0 0) := HD.out.at_ 1 2 rfl rfl
    have t3 : World.cell? _ ⟨b6, 3, none⟩ = some (.int .i64 0) := HD.out.at_ 1 3 rfl rfl
    have t4 : World.cell? _ ⟨b6, 4, none⟩ = some (.int .i64 0) := HD.out.at_ 1 4 rfl rfl
    have t5 : World.cell? _ ⟨b6, 5, none⟩ = some (.bool false) := HD.out.at_ 1 5 rfl rfl
    have tz0 : World.frozen? _ ⟨b6, 0, none⟩ = false := HD.out.fz 1 0 rfl
    have tz1 : World.frozen? _ ⟨b6, 1, none⟩ = false := HD.out.fz 1 1 rfl
    have tz2 : World.frozen? _ ⟨b6, 2, none⟩ = false := HD.out.fz 1 2 rfl
    have tz3 : World.frozen? _ ⟨b6, 3, none⟩ = false := HD.out.fz 1 3 rfl
    have tz4 : World.frozen? _ ⟨b6, 4, none⟩ = false := HD.out.fz 1 4 rfl
    have tz5 : World.frozen? _ ⟨b6, 5, none⟩ = false := HD.out.fz 1 5 rfl
    refine skip_ (w1 := ?_) (by rfl) rfl ?_ ?_
    rotate_left
    · go_simp
      rfl
    refine hK.out _ _ ?_
    clear hK K t0 tz0 t1 tz1 t2 tz2 t3 tz3 t4 tz4 t5 tz5
    refine pure_ (i := 6) (N := some 7) (v := ?_) (a' := ?_) #[true, true, true, true, true, true, true] rfl rfl (any_of HT_.out (by kernel_rfl)) (fun _ _ _ h => h) (Or.inl ⟨by rfl, ?_⟩) ?_ ?_
    rotate_left
    · intro w'
      go_simp
      with_reducible rfl
    rotate_left
    · simp only [Act.put, List.setIfInBounds_toArray, List.set_cons_zero, List.set_cons_succ, i64_w, i32_w]
      rfl
    refine done_ (done_of HT_.out (by kernel_rfl)) ?_
    clear HT_ HW_ hHeld
    try go_wp2
    replace HD := Aside0.mk (HD.out.st6 1 rfl (.slice A0' (lsS s1).length c0') (.int .i64 s1.wait) (.slice A2 s1.keep.length c2) (.int .i64 s1.torn) (.int .i64 s1.at_) (.bool s1.down))
    simp only [List.set_cons_succ, List.set_cons_zero] at HD
    generalize (((((w6.setCell ⟨b6, 0, none⟩ (.slice A0' (lsS s1).length c0')).setCell ⟨b6, 1, none⟩ (.int .i64 s1.wait)).setCell ⟨b6, 2, none⟩ (.slice A2 s1.keep.length c2)).setCell ⟨b6, 3, none⟩ (.int .i64 s1.torn)).setCell ⟨b6, 4, none⟩ (.int .i64 s1.at_)).setCell ⟨b6, 5, none⟩ (.bool s1.down) = w9 at HD ⊢
    refine bodyPost_ret (results_ct rfl _ _ b6 51 #[.slice A0' (lsS s1).length c0', .int .i64 s1.wait, .slice A2 s1.keep.length c2, .int .i64 s1.torn, .int .i64 s1.at_, .bool s1.down] (0, 0) _ rfl (HD.out.bx.get 1 rfl) Try.underlying51 rfl (by kernel_rfl)) rfl ?_
    exact ⟨s1, _, _, _, rfl, (HD.out.more (by omega)).drop.drop.drop.drop⟩
  have n2 : (xk == 2) = false := beq_eq_false_iff_ne.mpr k2
  have n2' : decide (xk = 2) = false := decide_eq_false k2
  clear k2
  by_cases k3 : xk = 3
  · subst k3
    have HT := Aside0.mk (slab_trip HD.out.hs Ak ck kl xa xt xat (Kd.C_below HK.out.1 HD.out.hs.bel) HK.out.2.2 HXa.out)
    go_upto_region 14 with (go_at_call 20; refine HT.out.mono ?_; rintro e w4 ⟨rfl, ⟨kb, hkb, hs⟩, hb⟩; replace HD := Aside0.mk (HD.out.slab hs hb); clear hs hb hkb)
    clear HT
    clear x0 x1 x2 x3 x4 x5 x4' x5' x3' x4''
    clear y0 y1 y2 y3 y4 y5 y4' y5' y3' y4''
    have x0 : World.cell? w4 ⟨b5, 0, none⟩ = some (.int .i64 3) := HD.out.at_ 1 0 rfl rfl
    have x1 : World.cell? w4 ⟨b5, 1, none⟩ = some (.int .i64 xa) := HD.out.at_ 1 1 rfl rfl
    have x2 : World.cell? w4 ⟨b5, 2, none⟩ = some (.string xs) := HD.out.at_ 1 2 rfl rfl
    have x3 : World.cell? w4 ⟨b5, 3, none⟩ = some (.slice Ak kl.length ck) := HD.out.at_ 1 3 rfl rfl
    have x4 : World.cell? w4 ⟨b5, 4, none⟩ = some (.int .i64 xt) := HD.out.at_ 1 4 rfl rfl
    have x5 : World.cell? w4 ⟨b5, 5, none⟩ = some (.int .i64 xat) := HD.out.at_ 1 5 rfl rfl
    have x4' : World.cell? w4 ⟨b5, 3 + 1, none⟩ = some (.int .i64 xt) := x4
    have x5' : World.cell? w4 ⟨b5, 3 + 2, none⟩ = some (.int .i64 xat) := x5
    have x3' : World.cell? w4 ⟨b5, 2 + 1, none⟩ = some (.slice Ak kl.length ck) := x3
    have x4'' : World.cell? w4 ⟨b5, 2 + 2, none⟩ = some (.int .i64 xt) := x4
    have y0 : World.cell? w4 ⟨b4, 0, none⟩ = some (.slice A0 (lsS s).length c0) := HD.out.at_ 2 0 rfl rfl
    have y1 : World.cell? w4 ⟨b4, 1, none⟩ = some (.int .i64 s.wait) := HD.out.at_ 2 1 rfl rfl
    have y2 : World.cell? w4 ⟨b4, 2, none⟩ = some (.slice A2 s.keep.length c2) := HD.out.at_ 2 2 rfl rfl
    have y3 : World.cell? w4 ⟨b4, 3, none⟩ = some (.int .i64 s.torn) := HD.out.at_ 2 3 rfl rfl
    have y4 : World.cell? w4 ⟨b4, 4, none⟩ = some (.int .i64 s.at_) := HD.out.at_ 2 4 rfl rfl
    have y5 : World.cell? w4 ⟨b4, 5, none⟩ = some (.bool s.down) := HD.out.at_ 2 5 rfl rfl
    have y4' : World.cell? w4 ⟨b4, 3 + 1, none⟩ = some (.int .i64 s.at_) := y4
    have y5' : World.cell? w4 ⟨b4, 3 + 2, none⟩ = some (.bool s.down) := y5
    have y3' : World.cell? w4 ⟨b4, 2 + 1, none⟩ = some (.int .i64 s.torn) := y3
    have y4'' : World.cell? w4 ⟨b4, 2 + 2, none⟩ = some (.int .i64 s.at_) := y4
    have yz0 : World.frozen? w4 ⟨b4, 0, none⟩ = false := HD.out.fz 2 0 rfl
    have yz1 : World.frozen? w4 ⟨b4, 1, none⟩ = false := HD.out.fz 2 1 rfl
    have yz2 : World.frozen? w4 ⟨b4, 2, none⟩ = false := HD.out.fz 2 2 rfl
    have yz3 : World.frozen? w4 ⟨b4, 3, none⟩ = false := HD.out.fz 2 3 rfl
    have yz4 : World.frozen? w4 ⟨b4, 4, none⟩ = false := HD.out.fz 2 4 rfl
    have yz5 : World.frozen? w4 ⟨b4, 5, none⟩ = false := HD.out.fz 2 5 rfl
    have yz3' : World.frozen? w4 ⟨b4, 2 + 1, none⟩ = false := yz3
    have yz4' : World.frozen? w4 ⟨b4, 2 + 2, none⟩ = false := yz4
    generalize hmx : max xa 0 = mx at HD
    have e1 : max xa 0 = mx := hmx
    have e2 : (if xa < 0 then (0 : Int) else xa) = mx := by split <;> omega
    have e3 : max 0 xa = mx := by omega
    go_upto_region 15 with (fail)
    clear x0 x1 x2 x3 x4 x5 x4' x5' x3' x4''
    clear y0 y1 y2 y3 y4 y5 y4' y5' y3' y4'' yz0 yz1 yz2 yz3 yz4 yz5 yz3' yz4'
    replace HD := Aside0.mk (HD.out.set 2 1 (.int .i64 mx) rfl)
    simp only [List.set_cons_succ, List.set_cons_zero] at HD
    generalize w4.setCell ⟨b4, 1, none⟩ (.int .i64 mx) = w5 at HD ⊢
    have x0 : World.cell? w5 ⟨b5, 0, none⟩ = some (.int .i64 3) := HD.out.at_ 1 0 rfl rfl
    have x1 : World.cell? w5 ⟨b5, 1, none⟩ = some (.int .i64 xa) := HD.out.at_ 1 1 rfl rfl
    have x2 : World.cell? w5 ⟨b5, 2, none⟩ = some (.string xs) := HD.out.at_ 1 2 rfl rfl
    have x3 : World.cell? w5 ⟨b5, 3, none⟩ = some (.slice Ak kl.length ck) := HD.out.at_ 1 3 rfl rfl
    have x4 : World.cell? w5 ⟨b5, 4, none⟩ = some (.int .i64 xt) := HD.out.at_ 1 4 rfl rfl
    have x5 : World.cell? w5 ⟨b5, 5, none⟩ = some (.int .i64 xat) := HD.out.at_ 1 5 rfl rfl
    have x4' : World.cell? w5 ⟨b5, 3 + 1, none⟩ = some (.int .i64 xt) := x4
    have x5' : World.cell? w5 ⟨b5, 3 + 2, none⟩ = some (.int .i64 xat) := x5
    have x3' : World.cell? w5 ⟨b5, 2 + 1, none⟩ = some (.slice Ak kl.length ck) := x3
    have x4'' : World.cell? w5 ⟨b5, 2 + 2, none⟩ = some (.int .i64 xt) := x4
    go_upto_region 23 with (go_at_call 37; refine (ref_loss _ _ _ _ _ _).mono ?_; rintro e w6 ⟨rfl, hb⟩; replace HD := Aside0.mk (HD.out.below hb); clear hb; clear x0 x1 x2 x3 x4 x5 x4' x5' x3' x4''; have y0 : World.cell? w6 ⟨b4, 0, none⟩ = some (.slice A0 (lsS s).length c0) := HD.out.at_ 2 0 rfl rfl; have y1 : World.cell? w6 ⟨b4, 1, none⟩ = some (.int .i64 mx) := HD.out.at_ 2 1 rfl rfl; have y2 : World.cell? w6 ⟨b4, 2, none⟩ = some (.slice A2 s.keep.length c2) := HD.out.at_ 2 2 rfl rfl; have y3 : World.cell? w6 ⟨b4, 3, none⟩ = some (.int .i64 s.torn) := HD.out.at_ 2 3 rfl rfl; have y4 : World.cell? w6 ⟨b4, 4, none⟩ = some (.int .i64 s.at_) := HD.out.at_ 2 4 rfl rfl; have y5 : World.cell? w6 ⟨b4, 5, none⟩ = some (.bool s.down) := HD.out.at_ 2 5 rfl rfl; have y4' : World.cell? w6 ⟨b4, 3 + 1, none⟩ = some (.int .i64 s.at_) := y4; have y5' : World.cell? w6 ⟨b4, 3 + 2, none⟩ = some (.bool s.down) := y5; have y3' : World.cell? w6 ⟨b4, 2 + 1, none⟩ = some (.int .i64 s.torn) := y3; have y4'' : World.cell? w6 ⟨b4, 2 + 2, none⟩ = some (.int .i64 s.at_) := y4; have yz0 : World.frozen? w6 ⟨b4, 0, none⟩ = false := HD.out.fz 2 0 rfl; have yz1 : World.frozen? w6 ⟨b4, 1, none⟩ = false := HD.out.fz 2 1 rfl; have yz2 : World.frozen? w6 ⟨b4, 2, none⟩ = false := HD.out.fz 2 2 rfl; have yz3 : World.frozen? w6 ⟨b4, 3, none⟩ = false := HD.out.fz 2 3 rfl; have yz4 : World.frozen? w6 ⟨b4, 4, none⟩ = false := HD.out.fz 2 4 rfl; have yz5 : World.frozen? w6 ⟨b4, 5, none⟩ = false := HD.out.fz 2 5 rfl; have yz3' : World.frozen? w6 ⟨b4, 2 + 1, none⟩ = false := yz3; have yz4' : World.frozen? w6 ⟨b4, 2 + 2, none⟩ = false := yz4)
    clear y0 y1 y2 y3 y4 y5 y4' y5' y3' y4'' yz0 yz1 yz2 yz3 yz4 yz5 yz3' yz4'
    replace HD := Aside0.mk (((HD.out.set 2 2 (.slice Ak kl.length ck) rfl).set 2 3 (.int .i64 xt) rfl).set 2 4 (.int .i64 xat) rfl)
    simp only [List.set_cons_succ, List.set_cons_zero] at HD
    generalize ((w6.setCell ⟨b4, 2, none⟩ (.slice Ak kl.length ck)).setCell ⟨b4, 3, none⟩ (.int .i64 xt)).setCell ⟨b4, 4, none⟩ (.int .i64 xat) = w8 at HD ⊢
    replace HD := Aside0.mk (HD.out.trip HK.out.1 HK.out.2.1)
    clear e1 e2 e3 hmx
    have y0 : World.cell? w8 ⟨b4, 0, none⟩ = some (.slice A0 (lsS s).length c0) := HD.out.at_ 2 0 rfl rfl
    have y1 : World.cell? w8 ⟨b4, 1, none⟩ = some (.int .i64 mx) := HD.out.at_ 2 1 rfl rfl
    have y2 : World.cell? w8 ⟨b4, 2, none⟩ = some (.slice Ak kl.length ck) := HD.out.at_ 2 2 rfl rfl
    have y3 : World.cell? w8 ⟨b4, 3, none⟩ = some (.int .i64 xt) := HD.out.at_ 2 3 rfl rfl
    have y4 : World.cell? w8 ⟨b4, 4, none⟩ = some (.int .i64 xat) := HD.out.at_ 2 4 rfl rfl
    have y5 : World.cell? w8 ⟨b4, 5, none⟩ = some (.bool s.down) := HD.out.at_ 2 5 rfl rfl
    have y4' : World.cell? w8 ⟨b4, 3 + 1, none⟩ = some (.int .i64 xat) := y4
    have y5' : World.cell? w8 ⟨b4, 3 + 2, none⟩ = some (.bool s.down) := y5
    have y3' : World.cell? w8 ⟨b4, 2 + 1, none⟩ = some (.int .i64 xt) := y3
    have y4'' : World.cell? w8 ⟨b4, 2 + 2, none⟩ = some (.int .i64 xat) := y4
    have t0 : World.cell? w8 ⟨b6, 0, none⟩ = some (.slice none 0 0) := HD.out.at_ 0 0 rfl rfl
    have t1 : World.cell? w8 ⟨b6, 1, none⟩ = some (.int .i64 0) := HD.out.at_ 0 1 rfl rfl
    have t2 : World.cell? w8 ⟨b6, 2, none⟩ = some (.slice none 0 0) := HD.out.at_ 0 2 rfl rfl
    have t3 : World.cell? w8 ⟨b6, 3, none⟩ = some (.int .i64 0) := HD.out.at_ 0 3 rfl rfl
    have t4 : World.cell? w8 ⟨b6, 4, none⟩ = some (.int .i64 0) := HD.out.at_ 0 4 rfl rfl
    have t5 : World.cell? w8 ⟨b6, 5, none⟩ = some (.bool false) := HD.out.at_ 0 5 rfl rfl
    have t4' : World.cell? w8 ⟨b6, 3 + 1, none⟩ = some (.int .i64 0) := t4
    have t5' : World.cell? w8 ⟨b6, 3 + 2, none⟩ = some (.bool false) := t5
    have t3' : World.cell? w8 ⟨b6, 2 + 1, none⟩ = some (.int .i64 0) := t3
    have t4'' : World.cell? w8 ⟨b6, 2 + 2, none⟩ = some (.int .i64 0) := t4
    have tz0 : World.frozen? w8 ⟨b6, 0, none⟩ = false := HD.out.fz 0 0 rfl
    have tz1 : World.frozen? w8 ⟨b6, 1, none⟩ = false := HD.out.fz 0 1 rfl
    have tz2 : World.frozen? w8 ⟨b6, 2, none⟩ = false := HD.out.fz 0 2 rfl
    have tz3 : World.frozen? w8 ⟨b6, 3, none⟩ = false := HD.out.fz 0 3 rfl
    have tz4 : World.frozen? w8 ⟨b6, 4, none⟩ = false := HD.out.fz 0 4 rfl
    have tz5 : World.frozen? w8 ⟨b6, 5, none⟩ = false := HD.out.fz 0 5 rfl
    have tz3' : World.frozen? w8 ⟨b6, 2 + 1, none⟩ = false := tz3
    have tz4' : World.frozen? w8 ⟨b6, 2 + 2, none⟩ = false := tz4
    go_wp2
    replace HD := Aside0.mk (HD.out.st6 0 rfl (.slice A0 (lsS s).length c0) (.int .i64 mx) (.slice Ak kl.length ck) (.int .i64 xt) (.int .i64 xat) (.bool s.down))
    simp only [List.set_cons_succ, List.set_cons_zero] at HD
    generalize (((((w8.setCell ⟨b6, 0, none⟩ (.slice A0 (lsS s).length c0)).setCell ⟨b6, 1, none⟩ (.int .i64 mx)).setCell ⟨b6, 2, none⟩ (.slice Ak kl.length ck)).setCell ⟨b6, 3, none⟩ (.int .i64 xt)).setCell ⟨b6, 4, none⟩ (.int .i64 xat)).setCell ⟨b6, 5, none⟩ (.bool s.down) = w9 at HD ⊢
    refine bodyPost_ret (results_ct rfl _ _ b6 51 #[.slice A0 (lsS s).length c0, .int .i64 mx, .slice Ak kl.length ck, .int .i64 xt, .int .i64 xat, .bool s.down] (0, 0) _ rfl (HD.out.bx.get 0 rfl) Try.underlying51 rfl (by kernel_rfl)) rfl ?_
    exact ⟨_, _, _, _, rfl, (HD.out.more (by omega)).drop.drop.drop⟩
  have n3 : (xk == 3) = false := beq_eq_false_iff_ne.mpr k3
  have n3' : decide (xk = 3) = false := decide_eq_false k3
  clear k3
  by_cases k4 : xk = 4
  · subst k4
    have HF := Aside0.mk (slab_fail HD.out.hs Ak ck kl xt xat (kept_arg HD.out.hs HK.out.1) HK.out.2.1 HK.out.2.2)
    have HSm := Aside0.mk (And.intro HD.out.hs.len HD.out.hs.small)
    go_upto_region 18 with (go_at_call 14; refine HF.out.mono ?_; rintro e w4 ⟨rfl, hs, hb⟩; replace HD := Aside0.mk (HD.out.slab hs hb); clear hs hb)
    clear HF
    clear x0 x1 x2 x3 x4 x5 x4' x5' x3' x4''
    clear y0 y1 y2 y3 y4 y5 y4' y5' y3' y4''
    replace HD := Aside0.mk (HD.out.below (below_drew (Below.refl _ _)))
    refine start_ (n := 7) (S := fun w' => w'.cell? ⟨b4, 0, none⟩ = some (.slice A0 (lsS s).length c0) ∧ w'.cell? ⟨b4, 1, none⟩ = some (.int .i64 s.wait) ∧ w'.cell? ⟨b4, 2, none⟩ = some (.slice A2 s.keep.length c2) ∧ w'.cell? ⟨b4, 3, none⟩ = some (.int .i64 s.torn) ∧ w'.cell? ⟨b4, 4, none⟩ = some (.int .i64 s.at_) ∧ w'.cell? ⟨b4, 5, none⟩ = some (.bool s.down) ∧ w'.cell? ⟨b5, 3, none⟩ = some (.slice Ak kl.length ck) ∧ w'.cell? ⟨b5, 4, none⟩ = some (.int .i64 xt) ∧ w'.cell? ⟨b5, 3 + 1, none⟩ = some (.int .i64 xt) ∧ w'.cell? ⟨b5, 5, none⟩ = some (.int .i64 xat) ∧ w'.cell? ⟨b5, 3 + 2, none⟩ = some (.int .i64 xat)) (ds := [5]) #[false, false, false, false, false, false, false] (by kernel_rfl) rfl rfl ⟨HD.out.at_ 2 0 rfl rfl, HD.out.at_ 2 1 rfl rfl, HD.out.at_ 2 2 rfl rfl, HD.out.at_ 2 3 rfl rfl, HD.out.at_ 2 4 rfl rfl, HD.out.at_ 2 5 rfl rfl, HD.out.at_ 1 3 rfl rfl, HD.out.at_ 1 4 rfl rfl, HD.out.at_ 1 4 rfl rfl, HD.out.at_ 1 5 rfl rfl, HD.out.at_ 1 5 rfl rfl⟩ (fun hHeld => ?_); refine with_tabW does18.tab does18.bits (fun HT_ HW_ => ?_)
    generalize w4.drew = wd at HD hHeld ⊢
    refine take_ (i := 0) (N := some 97) (v := ?_) (a' := ?_) #[true, false, false, false, false, false, false] rfl rfl (take_ofW HT_.out HW_.out (by kernel_rfl)) (fun _ _ _ h => h) (Or.inl ⟨by rfl, ?_⟩) hHeld ?_ ?_
    rotate_left
    · rintro w' ⟨s0_, s1_, s2_, s3_, s4_, s5_, s6_, s7_, s8_, s9_, s10_⟩
      go_simp
      with_reducible rfl
    rotate_left
    · simp only [Act.put, List.setIfInBounds_toArray, List.set_cons_zero, List.set_cons_succ, i64_w, i32_w]
      rfl
    refine pure_ (i := 1) (N := some 98) (v := ?_) (a' := ?_) #[true, true, false, false, false, false, false] rfl rfl (any_of HT_.out (by kernel_rfl)) (fun _ _ _ h => h) (Or.inl ⟨by rfl, ?_⟩) ?_ ?_
    rotate_left
    · intro w'
      go_simp
      with_reducible rfl
    rotate_left
    · simp only [Act.put, List.setIfInBounds_toArray, List.set_cons_zero, List.set_cons_succ, i64_w, i32_w]
      rfl
    refine take_ (i := 2) (N := some 99) (v := ?_) (a' := ?_) #[true, true, true, false, false, false, false] rfl rfl (take_ofW HT_.out HW_.out (by kernel_rfl)) (fun _ _ _ h => h) (Or.inl ⟨by rfl, ?_⟩) hHeld ?_ ?_
    rotate_left
    · rintro w' ⟨s0_, s1_, s2_, s3_, s4_, s5_, s6_, s7_, s8_, s9_, s10_⟩
      go_simp
      with_reducible rfl
    rotate_left
    · simp only [Act.put, List.setIfInBounds_toArray, List.set_cons_zero, List.set_cons_succ, i64_w, i32_w]
      rfl
    refine one_ (i := 3) (N := some 100) #[true, true, true, true, false, false, false] rfl rfl (one_of HT_.out (by kernel_rfl)) (by decide) (fun K hK => ?_)
    refine goes_ Try.func37 (by kernel_rfl) rfl #[.agg #[.slice Ak kl.length ck, .int .i64 xt, .int .i64 xat]] (by rfl) rfl rfl (by (try simp only [List.map_toArray, List.map_cons, List.map_nil]); first | done | rfl) ?_
    refine (ref_loss _ _ _ _ _ _).mono ?_
    rintro e w6 ⟨rfl, hb⟩
    refine ⟨_, rfl, ?_⟩
    replace HD := Aside0.mk (HD.out.below hb)
    clear hb
    refine hK.out _ _ ⟨HD.out.at_ 2 0 rfl rfl, HD.out.at_ 2 1 rfl rfl, HD.out.at_ 2 2 rfl rfl, HD.out.at_ 2 3 rfl rfl, HD.out.at_ 2 4 rfl rfl, HD.out.at_ 2 5 rfl rfl, HD.out.at_ 1 3 rfl rfl, HD.out.at_ 1 4 rfl rfl, HD.out.at_ 1 4 rfl rfl, HD.out.at_ 1 5 rfl rfl, HD.out.at_ 1 5 rfl rfl⟩ (fun hHeld => ?_)
    clear hK K
    refine norm_ (a' := ?_) ?_ ?_
    rotate_left
    · show Act.put _ (some 100) _ = _
      simp only [Act.put, List.setIfInBounds_toArray, List.set_cons_zero, List.set_cons_succ, i64_w, i32_w]
      rfl
    refine one_ (i := 4) (N := some 101) #[true, true, true, true, true, false, false] rfl rfl (one_of HT_.out (by kernel_rfl)) (by decide) (fun K hK => ?_)
    refine goes_ Try.func38 (by kernel_rfl) rfl #[.agg #[.slice A0 (lsS s).length c0, .int .i64 s.wait, .slice A2 s.keep.length c2, .int .i64 s.torn, .int .i64 s.at_, .bool s.down], .agg #[.slice Ak kl.length ck, .int .i64 xt, .int .i64 xat]] (by rfl) rfl rfl (by (try simp only [List.map_toArray, List.map_cons, List.map_nil]); first | done | rfl) ?_
    refine (HD.out.fail HSm.out HK.out.1 HK.out.2.1 HK.out.2.2).mono ?_
    rintro e w6 ⟨v0', rfl, hd⟩
    obtain ⟨A0', c0', rfl⟩ := hd.sl
    refine ⟨_, rfl, ?_⟩
    replace HD := Aside0.mk hd
    clear hd
    refine hK.out _ _ ⟨HD.out.at_ 2 0 rfl rfl, HD.out.at_ 2 1 rfl rfl, HD.out.at_ 2 2 rfl rfl, HD.out.at_ 2 3 rfl rfl, HD.out.at_ 2 4 rfl rfl, HD.out.at_ 2 5 rfl rfl, HD.out.at_ 1 3 rfl rfl, HD.out.at_ 1 4 rfl rfl, HD.out.at_ 1 4 rfl rfl, HD.out.at_ 1 5 rfl rfl, HD.out.at_ 1 5 rfl rfl⟩ (fun hHeld => ?_)
    clear hK K
    refine norm_ (a' := ?_) ?_ ?_
    rotate_left
    · show Act.put _ (some 101) _ = _
      simp only [Act.put, List.setIfInBounds_toArray, List.set_cons_zero, List.set_cons_succ, i64_w, i32_w]
      rfl
    refine last_ (i := 5) (N := none) #[true, true, true, true, true, true, false] rfl rfl (one_of HT_.out (by kernel_rfl)) (by decide) (fun K hK => ?_)
    have t0 : World.cell? _ ⟨b6, 0, none⟩ = some (.slice none 0 0) := HD.out.at_ 0 0 rfl rfl
    have t1 : World.cell? _ ⟨b6, 1, none⟩ = some (.int .i64 0) := HD.out.at_ 0 1 rfl rfl
    have t2 : World.cell? _ ⟨b6, 2, none⟩ = some (.slice none 0 0) := HD.out.at_ 0 2 rfl rfl
    have t3 : World.cell? _ ⟨b6, 3, none⟩ = some (.int .i64 0) := HD.out.at_ 0 3 rfl rfl
    have t4 : World.cell? _ ⟨b6, 4, none⟩ = some (.int .i64 0) := HD.out.at_ 0 4 rfl rfl
    have t5 : World.cell? _ ⟨b6, 5, none⟩ = some (.bool false) := HD.out.at_ 0 5 rfl rfl
    have tz0 : World.frozen? _ ⟨b6, 0, none⟩ = false := HD.out.fz 0 0 rfl
    have tz1 : World.frozen? _ ⟨b6, 1, none⟩ = false := HD.out.fz 0 1 rfl
    have tz2 : World.frozen? _ ⟨b6, 2, none⟩ = false := HD.out.fz 0 2 rfl
    have tz3 : World.frozen? _ ⟨b6, 3, none⟩ = false := HD.out.fz 0 3 rfl
    have tz4 : World.frozen? _ ⟨b6, 4, none⟩ = false := HD.out.fz 0 4 rfl
    have tz5 : World.frozen? _ ⟨b6, 5, none⟩ = false := HD.out.fz 0 5 rfl
    refine skip_ (w1 := ?_) (by rfl) rfl ?_ ?_
    rotate_left
    · go_simp
      rfl
    refine hK.out _ _ ?_
    clear hK K t0 tz0 t1 tz1 t2 tz2 t3 tz3 t4 tz4 t5 tz5
    refine pure_ (i := 6) (N := some 7) (v := ?_) (a' := ?_) #[true, true, true, true, true, true, true] rfl rfl (any_of HT_.out (by kernel_rfl)) (fun _ _ _ h => h) (Or.inl ⟨by rfl, ?_⟩) ?_ ?_
    rotate_left
    · intro w'
      go_simp
      with_reducible rfl
    rotate_left
    · simp only [Act.put, List.setIfInBounds_toArray, List.set_cons_zero, List.set_cons_succ, i64_w, i32_w]
      rfl
    refine done_ (done_of HT_.out (by kernel_rfl)) ?_
    clear HT_ HW_ hHeld
    try go_wp2
    replace HD := Aside0.mk (HD.out.st6 0 rfl (.slice A0' (lsS (s.fail kl xt xat)).length c0') (.int .i64 (s.fail kl xt xat).wait) (.slice A2 (s.fail kl xt xat).keep.length c2) (.int .i64 (s.fail kl xt xat).torn) (.int .i64 (s.fail kl xt xat).at_) (.bool (s.fail kl xt xat).down))
    simp only [List.set_cons_succ, List.set_cons_zero] at HD
    generalize (((((w6.setCell ⟨b6, 0, none⟩ (.slice A0' (lsS (s.fail kl xt xat)).length c0')).setCell ⟨b6, 1, none⟩ (.int .i64 (s.fail kl xt xat).wait)).setCell ⟨b6, 2, none⟩ (.slice A2 (s.fail kl xt xat).keep.length c2)).setCell ⟨b6, 3, none⟩ (.int .i64 (s.fail kl xt xat).torn)).setCell ⟨b6, 4, none⟩ (.int .i64 (s.fail kl xt xat).at_)).setCell ⟨b6, 5, none⟩ (.bool (s.fail kl xt xat).down) = w9 at HD ⊢
    refine bodyPost_ret (results_ct rfl _ _ b6 51 #[.slice A0' (lsS (s.fail kl xt xat)).length c0', .int .i64 (s.fail kl xt xat).wait, .slice A2 (s.fail kl xt xat).keep.length c2, .int .i64 (s.fail kl xt xat).torn, .int .i64 (s.fail kl xt xat).at_, .bool (s.fail kl xt xat).down] (0, 0) _ rfl (HD.out.bx.get 0 rfl) Try.underlying51 rfl (by kernel_rfl)) rfl ?_
    exact ⟨_, _, _, _, rfl, (HD.out.more (by omega)).drop.drop.drop⟩
  have n4 : (xk == 4) = false := beq_eq_false_iff_ne.mpr k4
  have n4' : decide (xk = 4) = false := decide_eq_false k4
  clear k4
  by_cases k5 : xk = 5
  · subst k5
    have HWk := Aside0.mk (slab_wake HD.out.hs)
    go_upto_region 21 with (go_at_call 15; refine HWk.out.mono ?_; rintro e w4 ⟨rfl, hs, hb⟩; replace HD := Aside0.mk (HD.out.slab hs hb); clear hs hb)
    clear HWk
    clear x0 x1 x2 x3 x4 x5 x4' x5' x3' x4''
    clear y0 y1 y2 y3 y4 y5 y4' y5' y3' y4''
    have y0 : World.cell? w4 ⟨b4, 0, none⟩ = some (.slice A0 (lsS s).length c0) := HD.out.at_ 2 0 rfl rfl
    have y1 : World.cell? w4 ⟨b4, 1, none⟩ = some (.int .i64 s.wait) := HD.out.at_ 2 1 rfl rfl
    have y2 : World.cell? w4 ⟨b4, 2, none⟩ = some (.slice A2 s.keep.length c2) := HD.out.at_ 2 2 rfl rfl
    have y3 : World.cell? w4 ⟨b4, 3, none⟩ = some (.int .i64 s.torn) := HD.out.at_ 2 3 rfl rfl
    have y4 : World.cell? w4 ⟨b4, 4, none⟩ = some (.int .i64 s.at_) := HD.out.at_ 2 4 rfl rfl
    have y5 : World.cell? w4 ⟨b4, 5, none⟩ = some (.bool s.down) := HD.out.at_ 2 5 rfl rfl
    have y4' : World.cell? w4 ⟨b4, 3 + 1, none⟩ = some (.int .i64 s.at_) := y4
    have y5' : World.cell? w4 ⟨b4, 3 + 2, none⟩ = some (.bool s.down) := y5
    have y3' : World.cell? w4 ⟨b4, 2 + 1, none⟩ = some (.int .i64 s.torn) := y3
    have y4'' : World.cell? w4 ⟨b4, 2 + 2, none⟩ = some (.int .i64 s.at_) := y4
    have yz0 : World.frozen? w4 ⟨b4, 0, none⟩ = false := HD.out.fz 2 0 rfl
    have yz1 : World.frozen? w4 ⟨b4, 1, none⟩ = false := HD.out.fz 2 1 rfl
    have yz2 : World.frozen? w4 ⟨b4, 2, none⟩ = false := HD.out.fz 2 2 rfl
    have yz3 : World.frozen? w4 ⟨b4, 3, none⟩ = false := HD.out.fz 2 3 rfl
    have yz4 : World.frozen? w4 ⟨b4, 4, none⟩ = false := HD.out.fz 2 4 rfl
    have yz5 : World.frozen? w4 ⟨b4, 5, none⟩ = false := HD.out.fz 2 5 rfl
    have yz3' : World.frozen? w4 ⟨b4, 2 + 1, none⟩ = false := yz3
    have yz4' : World.frozen? w4 ⟨b4, 2 + 2, none⟩ = false := yz4
    have yz5' : World.frozen? w4 ⟨b4, 3 + 2, none⟩ = false := yz5
    go_upto_region 22 with (fail)
    clear yz5'
    clear y0 y1 y2 y3 y4 y5 y4' y5' y3' y4'' yz0 yz1 yz2 yz3 yz4 yz5 yz3' yz4'
    replace HD := Aside0.mk (HD.out.set 2 5 (.bool false) rfl)
    simp only [List.set_cons_succ, List.set_cons_zero] at HD
    generalize w4.setCell ⟨b4, 5, none⟩ (.bool false) = w5 at HD ⊢
    have y0 : World.cell? w5 ⟨b4, 0, none⟩ = some (.slice A0 (lsS s).length c0) := HD.out.at_ 2 0 rfl rfl
    have y1 : World.cell? w5 ⟨b4, 1, none⟩ = some (.int .i64 s.wait) := HD.out.at_ 2 1 rfl rfl
    have y2 : World.cell? w5 ⟨b4, 2, none⟩ = some (.slice A2 s.keep.length c2) := HD.out.at_ 2 2 rfl rfl
    have y3 : World.cell? w5 ⟨b4, 3, none⟩ = some (.int .i64 s.torn) := HD.out.at_ 2 3 rfl rfl
    have y4 : World.cell? w5 ⟨b4, 4, none⟩ = some (.int .i64 s.at_) := HD.out.at_ 2 4 rfl rfl
    have y5 : World.cell? w5 ⟨b4, 5, none⟩ = some (.bool false) := HD.out.at_ 2 5 rfl rfl
    have y4' : World.cell? w5 ⟨b4, 3 + 1, none⟩ = some (.int .i64 s.at_) := y4
    have y5' : World.cell? w5 ⟨b4, 3 + 2, none⟩ = some (.bool false) := y5
    have y3' : World.cell? w5 ⟨b4, 2 + 1, none⟩ = some (.int .i64 s.torn) := y3
    have y4'' : World.cell? w5 ⟨b4, 2 + 2, none⟩ = some (.int .i64 s.at_) := y4
    have yz0 : World.frozen? w5 ⟨b4, 0, none⟩ = false := HD.out.fz 2 0 rfl
    have yz1 : World.frozen? w5 ⟨b4, 1, none⟩ = false := HD.out.fz 2 1 rfl
    have yz2 : World.frozen? w5 ⟨b4, 2, none⟩ = false := HD.out.fz 2 2 rfl
    have yz3 : World.frozen? w5 ⟨b4, 3, none⟩ = false := HD.out.fz 2 3 rfl
    have yz4 : World.frozen? w5 ⟨b4, 4, none⟩ = false := HD.out.fz 2 4 rfl
    have yz5 : World.frozen? w5 ⟨b4, 5, none⟩ = false := HD.out.fz 2 5 rfl
    have yz3' : World.frozen? w5 ⟨b4, 2 + 1, none⟩ = false := yz3
    have yz4' : World.frozen? w5 ⟨b4, 2 + 2, none⟩ = false := yz4
    go_upto_region 23 with (fail)
    clear y0 y1 y2 y3 y4 y5 y4' y5' y3' y4'' yz0 yz1 yz2 yz3 yz4 yz5 yz3' yz4'
    replace HD := Aside0.mk (HD.out.set 2 1 (.int .i64 0) rfl)
    simp only [List.set_cons_succ, List.set_cons_zero] at HD
    generalize w5.setCell ⟨b4, 1, none⟩ (.int .i64 0) = w8 at HD ⊢
    replace HD := Aside0.mk (HD.out.ref' (sr' := { s with down := false, wait := 0 }) rfl rfl (Below.refl _ _))
    have y0 : World.cell? w8 ⟨b4, 0, none⟩ = some (.slice A0 (lsS s).length c0) := HD.out.at_ 2 0 rfl rfl
    have y1 : World.cell? w8 ⟨b4, 1, none⟩ = some (.int .i64 0) := HD.out.at_ 2 1 rfl rfl
    have y2 : World.cell? w8 ⟨b4, 2, none⟩ = some (.slice A2 s.keep.length c2) := HD.out.at_ 2 2 rfl rfl
    have y3 : World.cell? w8 ⟨b4, 3, none⟩ = some (.int .i64 s.torn) := HD.out.at_ 2 3 rfl rfl
    have y4 : World.cell? w8 ⟨b4, 4, none⟩ = some (.int .i64 s.at_) := HD.out.at_ 2 4 rfl rfl
    have y5 : World.cell? w8 ⟨b4, 5, none⟩ = some (.bool false) := HD.out.at_ 2 5 rfl rfl
    have y4' : World.cell? w8 ⟨b4, 3 + 1, none⟩ = some (.int .i64 s.at_) := y4
    have y5' : World.cell? w8 ⟨b4, 3 + 2, none⟩ = some (.bool false) := y5
    have y3' : World.cell? w8 ⟨b4, 2 + 1, none⟩ = some (.int .i64 s.torn) := y3
    have y4'' : World.cell? w8 ⟨b4, 2 + 2, none⟩ = some (.int .i64 s.at_) := y4
    have t0 : World.cell? w8 ⟨b6, 0, none⟩ = some (.slice none 0 0) := HD.out.at_ 0 0 rfl rfl
    have t1 : World.cell? w8 ⟨b6, 1, none⟩ = some (.int .i64 0) := HD.out.at_ 0 1 rfl rfl
    have t2 : World.cell? w8 ⟨b6, 2, none⟩ = some (.slice none 0 0) := HD.out.at_ 0 2 rfl rfl
    have t3 : World.cell? w8 ⟨b6, 3, none⟩ = some (.int .i64 0) := HD.out.at_ 0 3 rfl rfl
    have t4 : World.cell? w8 ⟨b6, 4, none⟩ = some (.int .i64 0) := HD.out.at_ 0 4 rfl rfl
    have t5 : World.cell? w8 ⟨b6, 5, none⟩ = some (.bool false) := HD.out.at_ 0 5 rfl rfl
    have t4' : World.cell? w8 ⟨b6, 3 + 1, none⟩ = some (.int .i64 0) := t4
    have t5' : World.cell? w8 ⟨b6, 3 + 2, none⟩ = some (.bool false) := t5
    have t3' : World.cell? w8 ⟨b6, 2 + 1, none⟩ = some (.int .i64 0) := t3
    have t4'' : World.cell? w8 ⟨b6, 2 + 2, none⟩ = some (.int .i64 0) := t4
    have tz0 : World.frozen? w8 ⟨b6, 0, none⟩ = false := HD.out.fz 0 0 rfl
    have tz1 : World.frozen? w8 ⟨b6, 1, none⟩ = false := HD.out.fz 0 1 rfl
    have tz2 : World.frozen? w8 ⟨b6, 2, none⟩ = false := HD.out.fz 0 2 rfl
    have tz3 : World.frozen? w8 ⟨b6, 3, none⟩ = false := HD.out.fz 0 3 rfl
    have tz4 : World.frozen? w8 ⟨b6, 4, none⟩ = false := HD.out.fz 0 4 rfl
    have tz5 : World.frozen? w8 ⟨b6, 5, none⟩ = false := HD.out.fz 0 5 rfl
    have tz3' : World.frozen? w8 ⟨b6, 2 + 1, none⟩ = false := tz3
    have tz4' : World.frozen? w8 ⟨b6, 2 + 2, none⟩ = false := tz4
    go_wp2
    replace HD := Aside0.mk (HD.out.st6 0 rfl (.slice A0 (lsS s).length c0) (.int .i64 0) (.slice A2 s.keep.length c2) (.int .i64 s.torn) (.int .i64 s.at_) (.bool false))
    simp only [List.set_cons_succ, List.set_cons_zero] at HD
    generalize (((((w8.setCell ⟨b6, 0, none⟩ (.slice A0 (lsS s).length c0)).setCell ⟨b6, 1, none⟩ (.int .i64 0)).setCell ⟨b6, 2, none⟩ (.slice A2 s.keep.length c2)).setCell ⟨b6, 3, none⟩ (.int .i64 s.torn)).setCell ⟨b6, 4, none⟩ (.int .i64 s.at_)).setCell ⟨b6, 5, none⟩ (.bool false) = w9 at HD ⊢
    refine bodyPost_ret (results_ct rfl _ _ b6 51 #[.slice A0 (lsS s).length c0, .int .i64 0, .slice A2 s.keep.length c2, .int .i64 s.torn, .int .i64 s.at_, .bool false] (0, 0) _ rfl (HD.out.bx.get 0 rfl) Try.underlying51 rfl (by kernel_rfl)) rfl ?_
    exact ⟨_, _, _, _, rfl, (HD.out.more (by omega)).drop.drop.drop⟩
  have n5 : (xk == 5) = false := beq_eq_false_iff_ne.mpr k5
  have n5' : decide (xk = 5) = false := decide_eq_false k5
  clear k5
  go_upto_region 23 with (fail)
  clear x0 x1 x2 x3 x4 x5 x4' x5' x3' x4''
  clear y0 y1 y2 y3 y4 y5 y4' y5' y3' y4''
  have y0 : World.cell? w3 ⟨b4, 0, none⟩ = some (.slice A0 (lsS s).length c0) := HD.out.at_ 2 0 rfl rfl
  have y1 : World.cell? w3 ⟨b4, 1, none⟩ = some (.int .i64 s.wait) := HD.out.at_ 2 1 rfl rfl
  have y2 : World.cell? w3 ⟨b4, 2, none⟩ = some (.slice A2 s.keep.length c2) := HD.out.at_ 2 2 rfl rfl
  have y3 : World.cell? w3 ⟨b4, 3, none⟩ = some (.int .i64 s.torn) := HD.out.at_ 2 3 rfl rfl
  have y4 : World.cell? w3 ⟨b4, 4, none⟩ = some (.int .i64 s.at_) := HD.out.at_ 2 4 rfl rfl
  have y5 : World.cell? w3 ⟨b4, 5, none⟩ = some (.bool s.down) := HD.out.at_ 2 5 rfl rfl
  have y4' : World.cell? w3 ⟨b4, 3 + 1, none⟩ = some (.int .i64 s.at_) := y4
  have y5' : World.cell? w3 ⟨b4, 3 + 2, none⟩ = some (.bool s.down) := y5
  have y3' : World.cell? w3 ⟨b4, 2 + 1, none⟩ = some (.int .i64 s.torn) := y3
  have y4'' : World.cell? w3 ⟨b4, 2 + 2, none⟩ = some (.int .i64 s.at_) := y4
  have t0 : World.cell? w3 ⟨b6, 0, none⟩ = some (.slice none 0 0) := HD.out.at_ 0 0 rfl rfl
  have t1 : World.cell? w3 ⟨b6, 1, none⟩ = some (.int .i64 0) := HD.out.at_ 0 1 rfl rfl
  have t2 : World.cell? w3 ⟨b6, 2, none⟩ = some (.slice none 0 0) := HD.out.at_ 0 2 rfl rfl
  have t3 : World.cell? w3 ⟨b6, 3, none⟩ = some (.int .i64 0) := HD.out.at_ 0 3 rfl rfl
  have t4 : World.cell? w3 ⟨b6, 4, none⟩ = some (.int .i64 0) := HD.out.at_ 0 4 rfl rfl
  have t5 : World.cell? w3 ⟨b6, 5, none⟩ = some (.bool false) := HD.out.at_ 0 5 rfl rfl
  have t4' : World.cell? w3 ⟨b6, 3 + 1, none⟩ = some (.int .i64 0) := t4
  have t5' : World.cell? w3 ⟨b6, 3 + 2, none⟩ = some (.bool false) := t5
  have t3' : World.cell? w3 ⟨b6, 2 + 1, none⟩ = some (.int .i64 0) := t3
  have t4'' : World.cell? w3 ⟨b6, 2 + 2, none⟩ = some (.int .i64 0) := t4
  have tz0 : World.frozen? w3 ⟨b6, 0, none⟩ = false := HD.out.fz 0 0 rfl
  have tz1 : World.frozen? w3 ⟨b6, 1, none⟩ = false := HD.out.fz 0 1 rfl
  have tz2 : World.frozen? w3 ⟨b6, 2, none⟩ = false := HD.out.fz 0 2 rfl
  have tz3 : World.frozen? w3 ⟨b6, 3, none⟩ = false := HD.out.fz 0 3 rfl
  have tz4 : World.frozen? w3 ⟨b6, 4, none⟩ = false := HD.out.fz 0 4 rfl
  have tz5 : World.frozen? w3 ⟨b6, 5, none⟩ = false := HD.out.fz 0 5 rfl
  have tz3' : World.frozen? w3 ⟨b6, 2 + 1, none⟩ = false := tz3
  have tz4' : World.frozen? w3 ⟨b6, 2 + 2, none⟩ = false := tz4
  go_wp2
  replace HD := Aside0.mk (HD.out.st6 0 rfl (.slice A0 (lsS s).length c0) (.int .i64 s.wait) (.slice A2 s.keep.length c2) (.int .i64 s.torn) (.int .i64 s.at_) (.bool s.down))
  simp only [List.set_cons_succ, List.set_cons_zero] at HD
  generalize (((((w3.setCell ⟨b6, 0, none⟩ (.slice A0 (lsS s).length c0)).setCell ⟨b6, 1, none⟩ (.int .i64 s.wait)).setCell ⟨b6, 2, none⟩ (.slice A2 s.keep.length c2)).setCell ⟨b6, 3, none⟩ (.int .i64 s.torn)).setCell ⟨b6, 4, none⟩ (.int .i64 s.at_)).setCell ⟨b6, 5, none⟩ (.bool s.down) = w9 at HD ⊢
  refine bodyPost_ret (results_ct rfl _ _ b6 51 #[.slice A0 (lsS s).length c0, .int .i64 s.wait, .slice A2 s.keep.length c2, .int .i64 s.torn, .int .i64 s.at_, .bool s.down] (0, 0) _ rfl (HD.out.bx.get 0 rfl) Try.underlying51 rfl (by kernel_rfl)) rfl ?_
  exact ⟨s, _, _, _, rfl, (HD.out.more (by omega)).drop.drop.drop⟩

end Go.Proofs.Ytdenfndpggfgmaa.PP
