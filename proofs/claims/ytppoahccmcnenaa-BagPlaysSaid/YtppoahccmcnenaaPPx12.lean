-- written by a program of this session
import Derived.Test.YtppoahccmcnenaaPPx0
import Derived.Test.YtppoahccmcnenaaPPx6
import Derived.Test.YtppoahccmcnenaaPPx7
import Derived.Test.YtppoahccmcnenaaPPx8
import Derived.Test.YtppoahccmcnenaaPPx9
import Derived.Test.YtppoahccmcnenaaPPx10
import Derived.Test.YtppoahccmcnenaaPPx11
namespace Go.Proofs.Ytppoahccmcnenaa.PP
open Go.RowKit Go.Proofs.Ytppoahccmcnenaa.Op Go.Proofs.YtppoahccmcnenaaW.PrintWords Go.Proofs.YtppoahccmcnenaaW.PrintLast Go.Proofs.YtppoahccmcnenaaW.PrintMore
attribute [local go_sem] max2_int min2_int max_two min_two max_three min_three max_four min_four   -- for this text's walks alone
set_option linter.unusedVariables false
set_option linter.unusedSimpArgs false

/-! ### `same`: the two bags show the same -/
def same1.T : Bool × List (List Nat × List Nat) := (true, [([], []), ([0], [0]), ([], []), ([2, 1], [2]), ([1, 3, 3], [1, 3]), ([4, 4], [4]), ([5], [5]), ([6, 5, 5], [5, 6]), ([5], [5]), ([8, 7, 5], [5, 8]), ([7, 9, 9, 5], [5, 7, 9]), ([5, 10], [5, 10]), ([11, 10, 0, 1, 2, 3, 4, 5, 6, 7, 8, 9, 10, 11], [11])])
def same1.B : List Nat := [0, 1, 0, 7, 15, 31, 63, 127, 63, 511, 1023, 2047, 4095]
theorem same1.tab : rtab .any (opsOf Try.f20 1) = same1.T := by kernel_rfl
theorem same1.bits : waitsOk same1.T.2 same1.B = true := by kernel_rfl
set_option maxRecDepth 100000 in
set_option maxHeartbeats 16000000 in
theorem same_walk {w W : World} {g mb cb n : Nat} {s : Bg} {v0 v2 : Value} {l : BxL} (h : DoW w W g mb cb n s s v0 v2 l) (hn : n ≤ 1000000) (hc : s.cuts.length ≤ 1000000) :
    Calls Try.prog 20 #[.pointer (some ⟨g, 0, none⟩), .agg #[v0, .int .i64 s.last, v2]] W fun e W' => e = .returned (.bool true) ∧ DoW w W' g mb cb n s s v0 v2 l := by
  obtain ⟨A0, c0, A2, c2, rfl, rfl⟩ := h.sl
  have HD := Aside0.mk h
  have HN := Aside0.mk hn
  have HCu := Aside0.mk hc
  have HLen := Aside0.mk (show (idsL s.l).length ≤ 1000000 ∧ (readyL s).length ≤ 1000000 from by
    have h1 := h.hs.len
    have h2 : (idsL s.l).length ≤ 400 := by unfold idsL; rw [List.length_map]; exact h1
    exact ⟨by omega, by unfold readyL keepI; have := List.length_filter_le (fun x => !apM s x) (idsL s.l); omega⟩)
  clear h hn hc
  go_enter Try.func20, Try.ntmps20
  go_upto_region 1 with (fail)
  replace HD := Aside0.mk (HD.out.cons #[.slice A0 (lsR s).length c0, .int .i64 s.last, .slice A2 (csR s).length c2] 51 (by decide))
  generalize W.alloc (.cells #[.slice A0 (lsR s).length c0, .int .i64 s.last, .slice A2 (csR s).length c2] 51) = w1 at HD ⊢
  generalize W.heap.size = b3 at HD ⊢
  replace HD := Aside0.mk (HD.out.below (below_drew (Below.refl _ _)))
  refine start_ (n := 13) (S := fun w' => w'.cell? ⟨b3, 0, none⟩ = some (.slice A0 (lsR s).length c0) ∧ w'.cell? ⟨b3, 1, none⟩ = some (.int .i64 s.last) ∧ w'.cell? ⟨b3, 2, none⟩ = some (.slice A2 (csR s).length c2)) (ds := []) #[false, false, false, false, false, false, false, false, false, false, false, false, false] (by kernel_rfl) rfl rfl ⟨HD.out.at_ 0 0 rfl rfl, HD.out.at_ 0 1 rfl rfl, HD.out.at_ 0 2 rfl rfl⟩ (fun hHeld => ?_); refine with_tabW same1.tab same1.bits (fun HT_ HW_ => ?_)
  generalize w1.drew = wd at HD hHeld ⊢
  refine pure_ (i := 0) (N := some 5) (v := ?_) (a' := ?_) #[true, false, false, false, false, false, false, false, false, false, false, false, false] rfl rfl (any_of HT_.out (by kernel_rfl)) (fun _ _ _ h => h) (Or.inl ⟨by rfl, ?_⟩) ?_ ?_
  rotate_left
  · intro w'
    go_simp
    with_reducible rfl
  rotate_left
  · simp only [Act.put, List.setIfInBounds_toArray, List.set_cons_zero, List.set_cons_succ, i64_w, i32_w]
    rfl
  refine take_ (i := 2) (N := some 7) (v := ?_) (a' := ?_) #[true, false, true, false, false, false, false, false, false, false, false, false, false] rfl rfl (take_ofW HT_.out HW_.out (by kernel_rfl)) (fun _ _ _ h => h) (Or.inl ⟨by rfl, ?_⟩) hHeld ?_ ?_
  rotate_left
  · rintro w' ⟨s0, s1, s2⟩
    go_simp
    with_reducible rfl
  rotate_left
  · simp only [Act.put, List.setIfInBounds_toArray, List.set_cons_zero, List.set_cons_succ, i64_w, i32_w]
    rfl
  refine one_ (i := 1) (N := some 6) #[true, true, true, false, false, false, false, false, false, false, false, false, false] rfl rfl (one_of HT_.out (by kernel_rfl)) (by decide) (fun K hK => ?_)
  refine goes_ Try.func15 (by kernel_rfl) rfl #[.pointer (some ⟨g, 0, none⟩)] (by rfl) rfl rfl (by (try simp only [List.map_toArray, List.map_cons, List.map_nil]); first | done | rfl) ?_
  refine (bag_ids HD.out.hs HN.out).mono ?_
  rintro e w6 ⟨v, rfl, hR, hb⟩
  obtain ⟨A11, c11, rfl⟩ := Kd.R_slice hR
  refine ⟨_, rfl, ?_⟩
  replace HD := Aside0.mk (HD.out.below hb)
  have HI11 := Aside0.mk hR
  clear hR hb
  refine hK.out _ _ ⟨HD.out.at_ 0 0 rfl rfl, HD.out.at_ 0 1 rfl rfl, HD.out.at_ 0 2 rfl rfl⟩ (fun hHeld => ?_)
  clear hK K
  refine norm_ (a' := ?_) ?_ ?_
  rotate_left
  · show Act.put _ (some 6) _ = _
    simp only [Act.put, List.setIfInBounds_toArray, List.set_cons_zero, List.set_cons_succ, i64_w, i32_w]
    rfl
  refine one_ (i := 3) (N := some 8) #[true, true, true, true, false, false, false, false, false, false, false, false, false] rfl rfl (one_of HT_.out (by kernel_rfl)) (by decide) (fun K hK => ?_)
  refine goes_ Try.func36 (by kernel_rfl) rfl #[.agg #[.slice A0 (lsR s).length c0, .int .i64 s.last, .slice A2 (csR s).length c2], .bool false] (by rfl) rfl rfl (by (try simp only [List.map_toArray, List.map_cons, List.map_nil]); first | done | rfl) ?_
  refine (spliceref10_Bag_IDs.calls 402 A0 c0 (lsR s) s.last A2 c2 (csR s) false _ _ (Kd.R_reads' HD.out.r0).2.2 (Kd.R_reads' HD.out.r0).2.1 (Kd.R_reads' HD.out.r2).2.2 (Kd.R_reads' HD.out.r2).2.1 (ids_f s HD.out.hs.len 402 (by omega))).mono ?_
  rintro e w6 ⟨v, rfl, hR, hb⟩
  obtain ⟨A12, c12, rfl⟩ := Kd.R_slice hR
  refine ⟨_, rfl, ?_⟩
  replace HD := Aside0.mk (HD.out.below hb)
  replace HI11 := Aside0.mk (Kd.R_below HI11.out hb)
  have HI12 := Aside0.mk hR
  clear hR hb
  refine hK.out _ _ ⟨HD.out.at_ 0 0 rfl rfl, HD.out.at_ 0 1 rfl rfl, HD.out.at_ 0 2 rfl rfl⟩ (fun hHeld => ?_)
  clear hK K
  refine norm_ (a' := ?_) ?_ ?_
  rotate_left
  · show Act.put _ (some 8) _ = _
    simp only [Act.put, List.setIfInBounds_toArray, List.set_cons_zero, List.set_cons_succ, i64_w, i32_w]
    rfl
  refine one_ (i := 4) (N := some 9) #[true, true, true, true, true, false, false, false, false, false, false, false, false] rfl rfl (one_of HT_.out (by kernel_rfl)) (by decide) (fun K hK => ?_)
  refine goes_ Try.func17 (by kernel_rfl) rfl #[.slice A11 (idsL s.l).length c11, .slice A12 (idsL s.l).length c12] (by rfl) rfl rfl (by (try simp only [List.map_toArray, List.map_cons, List.map_nil]); first | done | rfl) ?_
  refine (same_self (idsL s.l) HLen.out.1 (Kd.R_reads' HI11.out).2.2 (Kd.R_reads' HI11.out).2.1 (Kd.R_reads' HI12.out).2.2 (Kd.R_reads' HI12.out).2.1).mono ?_
  rintro e w6 ⟨rfl, hb⟩
  refine ⟨_, rfl, ?_⟩
  replace HD := Aside0.mk (HD.out.below hb)
  clear hb HI11 HI12
  refine hK.out _ _ ⟨HD.out.at_ 0 0 rfl rfl, HD.out.at_ 0 1 rfl rfl, HD.out.at_ 0 2 rfl rfl⟩ (fun hHeld => ?_)
  clear hK K
  refine norm_ (a' := ?_) ?_ ?_
  rotate_left
  · show Act.put _ (some 9) _ = _
    simp only [Act.put, List.setIfInBounds_toArray, List.set_cons_zero, List.set_cons_succ, i64_w, i32_w]
    rfl
  refine pure_ (i := 5) (N := some 10) (v := ?_) (a' := ?_) #[true, true, true, true, true, true, false, false, false, false, false, false, false] rfl rfl (any_of HT_.out (by kernel_rfl)) (fun _ _ _ h => h) (Or.inl ⟨by rfl, ?_⟩) ?_ ?_
  rotate_left
  · intro w'
    go_simp
    with_reducible rfl
  rotate_left
  · simp only [Act.put, List.setIfInBounds_toArray, List.set_cons_zero, List.set_cons_succ, i64_w, i32_w]
    rfl
  refine pure_ (i := 6) (N := some 11) (v := ?_) (a' := ?_) #[true, true, true, true, true, true, true, false, false, false, false, false, false] rfl rfl (any_of HT_.out (by kernel_rfl)) (fun _ _ _ h => h) (Or.inl ⟨by rfl, ?_⟩) ?_ ?_
  rotate_left
  · intro w'
    go_simp
    with_reducible rfl
  rotate_left
  · simp only [Act.put, List.setIfInBounds_toArray, List.set_cons_zero, List.set_cons_succ, i64_w, i32_w]
    rfl
  refine take_ (i := 8) (N := some 13) (v := ?_) (a' := ?_) #[true, true, true, true, true, true, true, false, true, false, false, false, false] rfl rfl (take_ofW HT_.out HW_.out (by kernel_rfl)) (fun _ _ _ h => h) (Or.inl ⟨by rfl, ?_⟩) hHeld ?_ ?_
  rotate_left
  · rintro w' ⟨s0, s1, s2⟩
    go_simp
    with_reducible rfl
  rotate_left
  · simp only [Act.put, List.setIfInBounds_toArray, List.set_cons_zero, List.set_cons_succ, i64_w, i32_w]
    rfl
  refine one_ (i := 7) (N := some 12) #[true, true, true, true, true, true, true, true, true, false, false, false, false] rfl rfl (one_of HT_.out (by kernel_rfl)) (by decide) (fun K hK => ?_)
  refine goes_ Try.func18 (by kernel_rfl) rfl #[.pointer (some ⟨g, 0, none⟩)] (by rfl) rfl rfl (by (try simp only [List.map_toArray, List.map_cons, List.map_nil]); first | done | rfl) ?_
  refine (bag_ready HD.out.hs HN.out).mono ?_
  rintro e w6 ⟨v, rfl, hR, hb⟩
  obtain ⟨A13, c13, rfl⟩ := Kd.R_slice hR
  refine ⟨_, rfl, ?_⟩
  replace HD := Aside0.mk (HD.out.below hb)
  have HI13 := Aside0.mk hR
  clear hR hb
  refine hK.out _ _ ⟨HD.out.at_ 0 0 rfl rfl, HD.out.at_ 0 1 rfl rfl, HD.out.at_ 0 2 rfl rfl⟩ (fun hHeld => ?_)
  clear hK K
  refine norm_ (a' := ?_) ?_ ?_
  rotate_left
  · show Act.put _ (some 12) _ = _
    simp only [Act.put, List.setIfInBounds_toArray, List.set_cons_zero, List.set_cons_succ, i64_w, i32_w]
    rfl
  refine one_ (i := 9) (N := some 14) #[true, true, true, true, true, true, true, true, true, true, false, false, false] rfl rfl (one_of HT_.out (by kernel_rfl)) (by decide) (fun K hK => ?_)
  refine goes_ Try.func36 (by kernel_rfl) rfl #[.agg #[.slice A0 (lsR s).length c0, .int .i64 s.last, .slice A2 (csR s).length c2], .bool true] (by rfl) rfl rfl (by (try simp only [List.map_toArray, List.map_cons, List.map_nil]); first | done | rfl) ?_
  refine (spliceref10_Bag_IDs.calls (402 + s.cuts.length) A0 c0 (lsR s) s.last A2 c2 (csR s) true _ _ (Kd.R_reads' HD.out.r0).2.2 (Kd.R_reads' HD.out.r0).2.1 (Kd.R_reads' HD.out.r2).2.2 (Kd.R_reads' HD.out.r2).2.1 (ready_f s HD.out.hs.len HD.out.hs.asc HCu.out (402 + s.cuts.length) (by omega))).mono ?_
  rintro e w6 ⟨v, rfl, hR, hb⟩
  obtain ⟨A14, c14, rfl⟩ := Kd.R_slice hR
  refine ⟨_, rfl, ?_⟩
  replace HD := Aside0.mk (HD.out.below hb)
  replace HI13 := Aside0.mk (Kd.R_below HI13.out hb)
  have HI14 := Aside0.mk hR
  clear hR hb
  refine hK.out _ _ ⟨HD.out.at_ 0 0 rfl rfl, HD.out.at_ 0 1 rfl rfl, HD.out.at_ 0 2 rfl rfl⟩ (fun hHeld => ?_)
  clear hK K
  refine norm_ (a' := ?_) ?_ ?_
  rotate_left
  · show Act.put _ (some 14) _ = _
    simp only [Act.put, List.setIfInBounds_toArray, List.set_cons_zero, List.set_cons_succ, i64_w, i32_w]
    rfl
  refine one_ (i := 10) (N := some 15) #[true, true, true, true, true, true, true, true, true, true, true, false, false] rfl rfl (one_of HT_.out (by kernel_rfl)) (by decide) (fun K hK => ?_)
  refine goes_ Try.func17 (by kernel_rfl) rfl #[.slice A13 (readyL s).length c13, .slice A14 (readyL s).length c14] (by rfl) rfl rfl (by (try simp only [List.map_toArray, List.map_cons, List.map_nil]); first | done | rfl) ?_
  refine (same_self (readyL s) HLen.out.2 (Kd.R_reads' HI13.out).2.2 (Kd.R_reads' HI13.out).2.1 (Kd.R_reads' HI14.out).2.2 (Kd.R_reads' HI14.out).2.1).mono ?_
  rintro e w6 ⟨rfl, hb⟩
  refine ⟨_, rfl, ?_⟩
  replace HD := Aside0.mk (HD.out.below hb)
  clear hb HI13 HI14
  refine hK.out _ _ ⟨HD.out.at_ 0 0 rfl rfl, HD.out.at_ 0 1 rfl rfl, HD.out.at_ 0 2 rfl rfl⟩ (fun hHeld => ?_)
  clear hK K
  refine norm_ (a' := ?_) ?_ ?_
  rotate_left
  · show Act.put _ (some 15) _ = _
    simp only [Act.put, List.setIfInBounds_toArray, List.set_cons_zero, List.set_cons_succ, i64_w, i32_w]
    rfl
  refine pure_ (i := 11) (N := some 16) (v := ?_) (a' := ?_) #[true, true, true, true, true, true, true, true, true, true, true, true, false] rfl rfl (any_of HT_.out (by kernel_rfl)) (fun _ _ _ h => h) (Or.inl ⟨by rfl, ?_⟩) ?_ ?_
  rotate_left
  · intro w'
    go_simp
    with_reducible rfl
  rotate_left
  · simp only [Act.put, List.setIfInBounds_toArray, List.set_cons_zero, List.set_cons_succ, i64_w, i32_w]
    rfl
  refine pure_ (i := 12) (N := some 4) (v := ?_) (a' := ?_) #[true, true, true, true, true, true, true, true, true, true, true, true, true] rfl rfl (any_of HT_.out (by kernel_rfl)) (fun _ _ _ h => h) (Or.inl ⟨by rfl, ?_⟩) ?_ ?_
  rotate_left
  · intro w'
    go_simp
    with_reducible rfl
  rotate_left
  · simp only [Act.put, List.setIfInBounds_toArray, List.set_cons_zero, List.set_cons_succ, i64_w, i32_w]
    rfl
  refine done_ (done_of HT_.out (by kernel_rfl)) ?_
  clear HT_ HW_ hHeld
  go_wp2
  go_ret
  exact ⟨rfl, HD.out.drop⟩

def bAg (n m : Nat) : Array Bool := ((List.range n).map (fun i => m.testBit i)).toArray
theorem sg1 {α : Type _} {l : List α} {i : Nat} {a : α} : l.toArray.setIfInBounds i a = (l.set i a).toArray := List.setIfInBounds_toArray l i a
theorem sg2 {α : Type _} {a b : α} {l : List α} : (a :: l).set 0 b = b :: l := List.set_cons_zero
theorem sg3 {α : Type _} {a b : α} {l : List α} {n : Nat} : (a :: l).set (n + 1) b = a :: l.set n b := List.set_cons_succ

/-! ### splicelaw10_BagPlays: function 7 (by hand) -/
theorem act29 {w W : World} {A : Option Addr} {n : Nat} {l : List S29} (hr : Kd.C k29 w A n l) (hb : Below w.heap.size w W) (k : Nat) (hk : k < n) : ∃ ad x, A = some ad ∧ x = rd_T29 l (k : Int) ∧
    W.cell? (ad.add (k * 5)) = some (.int .i64 x.f0) ∧ W.cell? ⟨(ad.add (k * 5)).block, (ad.add (k * 5)).off + 1, none⟩ = some (.int .i64 x.f1) ∧ W.cell? ⟨(ad.add (k * 5)).block, (ad.add (k * 5)).off + 2, none⟩ = some (.int .i64 x.f2) ∧ W.cell? ⟨(ad.add (k * 5)).block, (ad.add (k * 5)).off + 3, none⟩ = some (.string x.f3) ∧ W.cell? ⟨(ad.add (k * 5)).block, (ad.add (k * 5)).off + 4, none⟩ = some (.bool x.f4) := by
  obtain ⟨ad, e, x0, x1, x2, x3, x4⟩ := at_T29 hr (k : Int) (by omega) (by omega)
  rw [Int.toNat_natCast] at x0 x1 x2 x3 x4
  exact ⟨ad, _, e, rfl, cell_below hb x0, cell_below hb x1, cell_below hb x2, cell_below hb x3, cell_below hb x4⟩
def okA (x : S29) : Prop := -9223372036854775808 ≤ x.f1 ∧ x.f1 ≤ 9223372036854775807
instance (x : S29) : Decidable (okA x) := by unfold okA; infer_instance
theorem rd_mem {l : List S29} {k : Nat} (hk : k < l.length) (h : ∀ y ∈ l, okA y) : okA (rd_T29 l (k : Int)) := by
  unfold rd_T29
  rw [Int.toNat_natCast, List.getD_eq_getElem?_getD, List.getElem?_eq_getElem hk]
  exact h _ (List.getElem_mem hk)
theorem DoW.consed {w W W' : World} {g mb cb n : Nat} {s sr : Bg} {v0 v2 : Value} {l : BxL} (h : DoW w W g mb cb n s sr v0 v2 l) {b : Nat} {cs : Array Value} {t : TypeId} (hg : b = W.heap.size) (hx : W'.heap[b]? = some (.cells cs t (0, 0))) (hb : Below W.heap.size W W') (ht : t ≠ 74 ∧ t ≠ 89) : DoW w W' g mb cb n s sr v0 v2 ((b, cs, t) :: l) := by
  have p := h.below hb
  have q := h.bx.pushed hg hx hb
  have hl := h.hs.lts
  have hm : ∀ e, e ∈ (b, cs, t) :: l → e ∈ l ++ [(b, cs, t)] := fun e he => by
    rcases List.mem_cons.1 he with rfl | he
    · exact List.mem_append.2 (Or.inr (List.mem_singleton.2 rfl))
    · exact List.mem_append.2 (Or.inl he)
  refine ⟨p.hs, p.r0, p.r2, p.o0, p.o2, ⟨fun e he => q.at_ e (hm e he), ((List.perm_append_comm (l₁ := l) (l₂ := [(b, cs, t)])).map (fun e => e.1)).nodup_iff.1 q.nd, q.bel⟩, fun e he => ?_, fun e he => ?_⟩
  · rcases List.mem_cons.1 he with rfl | he
    · subst hg; exact ⟨by show W.heap.size ≠ g; omega, by show W.heap.size ≠ mb; omega, by show W.heap.size ≠ cb; omega⟩
    · exact h.off e he
  · rcases List.mem_cons.1 he with rfl | he
    · exact ht
    · exact h.ty e he
theorem DoW.start {w W : World} {g mb cb n : Nat} (h : IsBg w W g mb cb n newB) : DoW w W g mb cb n newB newB (.slice none 0 0) (.slice none 0 0) [] :=
  ⟨h, Kd.R_nil _ _ _ _ _, Kd.R_nil _ _ _ _ _, fun k hk => by simp [Value.ownBlock] at hk, fun k hk => by simp [Value.ownBlock] at hk, ⟨fun e he => by simp at he, by simp, h.bel⟩, fun e he => by simp at he, fun e he => by simp at he⟩
def play9.T : Bool × List (List Nat × List Nat) := (true, [([], []), ([], []), ([], []), ([], []), ([2, 3], [2, 3]), ([4], [4]), ([0, 1, 5], [0, 1, 5]), ([6], [6]), ([7], [7]), ([7], [7]), ([], []), ([10, 8, 6, 0, 1, 2, 3, 4, 5, 6, 7, 8, 10], [8, 10]), ([9, 11, 0, 1, 2, 3, 4, 5, 6, 7, 8, 9, 10, 11], [9])])
def play9.B : List Nat := [0, 0, 0, 0, 12, 28, 63, 127, 255, 255, 0, 1535, 4095]
theorem play9.tab : rtab .any (opsOf Try.f7 9) = play9.T := by kernel_rfl
theorem play9.bits : waitsOk play9.T.2 play9.B = true := by kernel_rfl
def splicelaw10_BagPlays.f (l0 : List S29) : Option Bool := if l0.all (fun x => decide (okA x)) = true then some true else none
set_option maxHeartbeats 16000000 in
set_option maxRecDepth 100000 in
theorem plays_walk (A0 : Option Addr) (c0 : Nat) (l0 : List S29) (w : World) (hr0 : Kd.C k29 w A0 l0.length l0) (hok : ∀ y ∈ l0, okA y) :
    Calls Try.prog 7 #[.slice A0 l0.length c0] w fun e w' => e = .returned (.bool true) ∧ Below w.heap.size w w' := by
  have HR0 := Aside0.mk hr0
  have hmax := hr0.2.1
  have HOK := Aside0.mk hok
  clear hr0 hok
  have HN := Aside0.mk (bag_new (Below.refl w.heap.size w))
  go_enter Try.func7, Try.ntmps7
  go_upto_region 2 with (go_at_call 9; refine HN.out.mono ?_; rintro e w1 ⟨rfl, hs, hb⟩; have HS := Aside0.mk hs; clear hs hb)
  clear HN
  generalize w.heap.size + 1 + 1 = g at HS ⊢
  generalize w.heap.size + 1 = cb at HS
  generalize hrb : w.heap.size = mb at HS
  clear hrb
  go_upto_region 3 with (fail)
  have HD := Aside0.mk ((DoW.start HS.out).cons #[.slice none 0 0, .int .i64 0, .slice none 0 0] 51 (by decide))
  clear HS
  generalize w1.alloc (.cells #[.slice none 0 0, .int .i64 0, .slice none 0 0] 51) = w2 at HD ⊢
  generalize w1.heap.size = b4 at HD ⊢
  go_upto_region 5 with (go_at_call 10; refine (awake10 _).mono ?_; rintro e w3 ⟨rfl, hb⟩; replace HD := Aside0.mk (HD.out.below hb); clear hb)
  go_wp2
  go_loopw [5] (fun v5 wr => ∃ (k : Nat) (s : Bg) (v0 v2 : Value), k ≤ l0.length ∧ k ≤ 120 ∧ v5 = .int .i64 k ∧ Aside0 (DoW w wr g mb cb (2 * k) s s v0 v2 [(b4, #[v0, .int .i64 s.last, v2], 51)]) ∧ Aside0 (s.cuts.length ≤ k)) (fun v5 _ => l0.length - (intOf v5).toNat)
  case atStart => exact ⟨0, newB, _, _, by omega, by omega, rfl, HD, ⟨Nat.le_refl 0⟩⟩
  case round =>
    clear HD
    obtain ⟨k, s, v0, v2, hk, hk2, rfl, HD, HCu⟩ := hrel
    obtain ⟨A0, c0, A2, c2, rfl, rfl⟩ := HD.out.sl
    have HK2 : Aside0 (2 * k < 1000000 ∧ s.cuts.length ≤ 1000000 - 10) := ⟨by omega, by have := HCu.out; omega⟩
    by_cases hlt : k < l0.length ∧ k < 120
    · have q0 : decide (k < l0.length) = true := decide_eq_true hlt.1
      have q1 : decide ((k : Int) < 120) = true := decide_eq_true (by omega)
      have hwk : IntKind.i64.wrap ((k : Int) + 1) = (k : Int) + 1 := IntWalk.i64_in _ (by omega)
      obtain ⟨ad, x, rfl, hxe, X0, X1, X2, X3, X4⟩ := act29 HR0.out (Below.refl w.heap.size w) k hlt.1
      have hxo : okA x := by rw [hxe]; exact rd_mem hlt.1 HOK.out
      obtain ⟨xk, xa, xb, xs, xo⟩ := x
      have hwf : (Lit.int .i64 xa).wf = true := wf_of hxo
      have HWf := Aside0.mk hwf
      dsimp only at X0 X1 X2 X3 X4
      have HX := Aside0.mk (And.intro X0 (And.intro X1 (And.intro X2 (And.intro X3 X4))))
      have hkl := hlt.1
      have hk120 := hlt.2
      clear hlt hxe hxo hwf X0 X1 X2 X3 X4
      have x3 := cell_below HD.out.hs.bel HX.out.2.2.2.1
      have hsz : (decide ((xs.size : Int) > 300) = true ∧ decide ((xs.size : Int) ≤ 65536) = true) ∨ (decide ((xs.size : Int) > 300) = false ∨ (decide ((xs.size : Int) > 300) = true ∧ decide ((xs.size : Int) ≤ 65536) = false)) := by
        by_cases p1 : (xs.size : Int) > 300
        · by_cases p2 : (xs.size : Int) ≤ 65536
          · exact Or.inl ⟨decide_eq_true p1, decide_eq_true p2⟩
          · exact Or.inr (Or.inr ⟨decide_eq_true p1, decide_eq_false p2⟩)
        · exact Or.inr (Or.inl (decide_eq_false p1))
      rcases hsz with ⟨q2, q3⟩ | q2 | ⟨q2, q3⟩
      · go_wp2
        exact ⟨⟨k + 1, s, _, _, by omega, by omega, by go_num, ⟨HD.out.more (by omega)⟩, ⟨by have := HCu.out; omega⟩⟩, by simp [intOf]; omega⟩
      all_goals
       go_upto_region 9 with (fail)
       clear x3 q2 q0 q1
       replace HD := Aside0.mk (HD.out.below (below_drew (Below.refl _ _)))
       refine start_ (n := 13) (S := fun w' => w'.cell? ⟨b4, 0, none⟩ = some (.slice A0 (lsR s).length c0) ∧ w'.cell? ⟨b4, 1, none⟩ = some (.int .i64 s.last) ∧ w'.cell? ⟨b4, 2, none⟩ = some (.slice A2 (csR s).length c2) ∧ w'.cell? (ad.add (k * 5)) = some (.int .i64 xk) ∧ w'.cell? ⟨(ad.add (k * 5)).block, (ad.add (k * 5)).off + 1, none⟩ = some (.int .i64 xa) ∧ w'.cell? ⟨(ad.add (k * 5)).block, (ad.add (k * 5)).off + 2, none⟩ = some (.int .i64 xb) ∧ w'.cell? ⟨(ad.add (k * 5)).block, (ad.add (k * 5)).off + 3, none⟩ = some (.string xs) ∧ w'.cell? ⟨(ad.add (k * 5)).block, (ad.add (k * 5)).off + 4, none⟩ = some (.bool xo)) (ds := []) (bAg 13 0) (by kernel_rfl) rfl rfl ⟨HD.out.at_ 0 0 rfl rfl, HD.out.at_ 0 1 rfl rfl, HD.out.at_ 0 2 rfl rfl, cell_below HD.out.hs.bel HX.out.1, cell_below HD.out.hs.bel HX.out.2.1, cell_below HD.out.hs.bel HX.out.2.2.1, cell_below HD.out.hs.bel HX.out.2.2.2.1, cell_below HD.out.hs.bel HX.out.2.2.2.2⟩ (fun hHeld => ?_); refine with_tabW play9.tab play9.bits (fun HT_ HW_ => ?_)
       generalize wr.drew = wd at HD hHeld ⊢
       refine pure_ (i := 0) (N := some 42) (v := ?_) (a' := ?_) (bAg 13 1) rfl rfl (any_of HT_.out (by kernel_rfl)) (fun _ _ _ h => h) (Or.inl ⟨by rfl, ?_⟩) ?_ ?_
       rotate_left
       · intro w'
         go_simp
         with_reducible rfl
       rotate_left
       · simp only [Act.put, sg1, sg2, sg3, i64_w, i32_w]
         rfl
       refine take_ (i := 1) (N := some 43) (v := ?_) (a' := ?_) (bAg 13 3) rfl rfl (take_ofW HT_.out HW_.out (by kernel_rfl)) (fun _ _ _ h => h) (Or.inl ⟨by rfl, ?_⟩) hHeld ?_ ?_
       rotate_left
       · rintro w' ⟨s0, s1, s2, s3, s4, s5, s6, s7⟩
         go_simp
         with_reducible rfl
       rotate_left
       · simp only [Act.put, sg1, sg2, sg3, i64_w, i32_w]
         rfl
       refine pure_ (i := 2) (N := some 44) (v := ?_) (a' := ?_) (bAg 13 7) rfl rfl (any_of HT_.out (by kernel_rfl)) (fun _ _ _ h => h) (Or.inl ⟨by rfl, ?_⟩) ?_ ?_
       rotate_left
       · intro w'
         go_simp
         with_reducible rfl
       rotate_left
       · simp only [Act.put, sg1, sg2, sg3, i64_w, i32_w]
         rfl
       refine pure_ (i := 3) (N := some 45) (v := ?_) (a' := ?_) (bAg 13 15) rfl rfl (any_of HT_.out (by kernel_rfl)) (fun _ _ _ h => h) (Or.inl ⟨by rfl, ?_⟩) ?_ ?_
       rotate_left
       · intro w'
         go_simp
         with_reducible rfl
       rotate_left
       · simp only [Act.put, sg1, sg2, sg3, i64_w, i32_w]
         rfl
       refine pure_ (i := 4) (N := some 46) (v := ?_) (a' := ?_) (bAg 13 31) rfl rfl (any_of HT_.out (by kernel_rfl)) (fun _ _ _ h => h) (Or.inl ⟨by rfl, ?_⟩) ?_ ?_
       rotate_left
       · intro w'
         go_simp
         with_reducible rfl
       rotate_left
       · simp only [Act.put, sg1, sg2, sg3, i64_w, i32_w]
         rfl
       refine take_ (i := 5) (N := some 47) (v := ?_) (a' := ?_) (bAg 13 63) rfl rfl (take_ofW HT_.out HW_.out (by kernel_rfl)) (fun _ _ _ h => h) (Or.inl ⟨by rfl, ?_⟩) hHeld ?_ ?_
       rotate_left
       · rintro w' ⟨s0, s1, s2, s3, s4, s5, s6, s7⟩
         go_simp
         with_reducible rfl
       rotate_left
       · simp only [Act.put, sg1, sg2, sg3, i64_w, i32_w]
         rfl
       refine two_ (i := 6) (j := 10) (Ni := some 48) (Nj := some 6) (bAg 13 127) (bAg 13 1087) rfl rfl rfl rfl (two_of HT_.out (by kernel_rfl)) (by decide) (by decide) (fun K hK => ?_) (fun K hK => ?_)
       · refine goes_ Try.func19 (by kernel_rfl) rfl #[.pointer (some ⟨g, 0, none⟩), .agg #[.slice A0 (lsR s).length c0, .int .i64 s.last, .slice A2 (csR s).length c2], .agg #[.int .i64 xk, .int .i64 xa, .int .i64 xb, .string xs, .bool xo]] (by rfl) rfl rfl (by (try simp only [List.map_toArray, List.map_cons, List.map_nil]); first | done | rfl) ?_
         refine (does_walk HD.out HK2.out.1 (Nat.le_trans HK2.out.2 (by decide)) xk xa xb xs xo HWf.out).mono ?_
         rintro e w6 ⟨s1, v0', v2', rfl, hd, hcu⟩
         obtain ⟨A0', c0', A2', c2', rfl, rfl⟩ := hd.sl
         refine ⟨_, rfl, ?_⟩
         replace HD := Aside0.mk hd
         have HC1 := Aside0.mk hcu
         clear hd hcu
         refine hK.out _ _ ⟨HD.out.at_ 0 0 rfl rfl, HD.out.at_ 0 1 rfl rfl, HD.out.at_ 0 2 rfl rfl, cell_below HD.out.hs.bel HX.out.1, cell_below HD.out.hs.bel HX.out.2.1, cell_below HD.out.hs.bel HX.out.2.2.1, cell_below HD.out.hs.bel HX.out.2.2.2.1, cell_below HD.out.hs.bel HX.out.2.2.2.2⟩ (fun hHeld => ?_)
         clear hK K
         refine norm_ (a' := ?_) ?_ ?_
         rotate_left
         · show Act.put _ (some 48) _ = _
           simp only [Act.put, sg1, sg2, sg3, i64_w, i32_w]
           rfl
         refine pure_ (i := 7) (N := some 41) (v := ?_) (a' := ?_) (bAg 13 255) rfl rfl (any_of HT_.out (by kernel_rfl)) (fun _ _ _ h => h) (Or.inl ⟨by rfl, ?_⟩) ?_ ?_
         rotate_left
         · intro w'
           go_simp
           with_reducible rfl
         rotate_left
         · simp only [Act.put, sg1, sg2, sg3, i64_w, i32_w]
           rfl
         refine pure_ (i := 8) (N := some 49) (v := ?_) (a' := ?_) (bAg 13 511) rfl rfl (any_of HT_.out (by kernel_rfl)) (fun _ _ _ h => h) (Or.inl ⟨by rfl, ?_⟩) ?_ ?_
         rotate_left
         · intro w'
           go_simp
           with_reducible rfl
         rotate_left
         · simp only [Act.put, sg1, sg2, sg3, i64_w, i32_w]
           rfl
         refine pure_ (i := 9) (N := some 50) (v := ?_) (a' := ?_) (bAg 13 1023) rfl rfl (any_of HT_.out (by kernel_rfl)) (fun _ _ _ h => h) (Or.inl ⟨by rfl, ?_⟩) ?_ ?_
         rotate_left
         · intro w'
           go_simp
           with_reducible rfl
         rotate_left
         · simp only [Act.put, sg1, sg2, sg3, i64_w, i32_w]
           rfl
         refine one_ (i := 10) (N := some 6) (bAg 13 2047) rfl rfl (one_of HT_.out (by kernel_rfl)) (by decide) (fun K hK => ?_)
         refine box_step ?hg (N := 6) ?hd (cs := #[.slice none 0 0, .int .i64 0, .slice none 0 0]) (t := 51) ?hr ?_; (case hd => rfl); (case hg => rfl); (case hr => first | (go_simp; done) | (go_simp; rfl))
         intro b6 hg w7 hbox hb
         replace HD := Aside0.mk (HD.out.consed hg hbox hb (by decide))
         clear hg hbox hb
         refine hK.out _ _ ⟨HD.out.at_ 1 0 rfl rfl, HD.out.at_ 1 1 rfl rfl, HD.out.at_ 1 2 rfl rfl, cell_below HD.out.hs.bel HX.out.1, cell_below HD.out.hs.bel HX.out.2.1, cell_below HD.out.hs.bel HX.out.2.2.1, cell_below HD.out.hs.bel HX.out.2.2.2.1, cell_below HD.out.hs.bel HX.out.2.2.2.2⟩ (fun hHeld => ?_)
         clear hK K
         refine norm_ (a' := ?_) ?_ ?_
         rotate_left
         · show Act.put _ (some 6) _ = _
           simp only [Act.put, sg1, sg2, sg3, i64_w, i32_w]
           rfl
         refine one_ (i := 11) (N := none) (bAg 13 4095) rfl rfl (one_of HT_.out (by kernel_rfl)) (by decide) (fun K hK => ?_)
         have t0 : World.cell? _ ⟨b6, 0, none⟩ = some (.slice none 0 0) := HD.out.at_ 0 0 rfl rfl
         have t1 : World.cell? _ ⟨b6, 1, none⟩ = some (.int .i64 0) := HD.out.at_ 0 1 rfl rfl
         have t2 : World.cell? _ ⟨b6, 2, none⟩ = some (.slice none 0 0) := HD.out.at_ 0 2 rfl rfl
         have f0 : World.frozen? _ ⟨b6, 0, none⟩ = false := blk_frozen (HD.out.bx.get 0 rfl) 0
         have f1 : World.frozen? _ ⟨b6, 1, none⟩ = false := blk_frozen (HD.out.bx.get 0 rfl) 1
         have f2 : World.frozen? _ ⟨b6, 2, none⟩ = false := blk_frozen (HD.out.bx.get 0 rfl) 2
         refine skip_ (w1 := ?_) (by rfl) rfl ?_ ?_
         rotate_left
         · go_simp
           rfl
         replace HD := Aside0.mk (HD.out.st3 0 rfl (.slice A0' (lsR s1).length c0') (.int .i64 s1.last) (.slice A2' (csR s1).length c2'))
         simp only [List.set_cons_succ, List.set_cons_zero] at HD
         refine hK.out _ _ ⟨HD.out.at_ 1 0 rfl rfl, HD.out.at_ 1 1 rfl rfl, HD.out.at_ 1 2 rfl rfl, cell_below HD.out.hs.bel HX.out.1, cell_below HD.out.hs.bel HX.out.2.1, cell_below HD.out.hs.bel HX.out.2.2.1, cell_below HD.out.hs.bel HX.out.2.2.2.1, cell_below HD.out.hs.bel HX.out.2.2.2.2⟩ (fun hHeld => ?_)
         clear hK K t0 t1 t2 f0 f1 f2
         refine pure_ (i := 12) (N := some 7) (v := ?_) (a' := ?_) (bAg 13 8191) rfl rfl (any_of HT_.out (by kernel_rfl)) (fun _ _ _ h => h) (Or.inl ⟨by rfl, ?_⟩) ?_ ?_
         rotate_left
         · intro w'
           go_simp
           with_reducible rfl
         rotate_left
         · simp only [Act.put, sg1, sg2, sg3, i64_w, i32_w]
           rfl
         refine done_ (done_of HT_.out (by kernel_rfl)) ?_
         clear HT_ HW_ hHeld
         try dsimp only at HD
         have t0 : World.cell? _ ⟨b6, 0, none⟩ = some (.slice A0' (lsR s1).length c0') := HD.out.at_ 0 0 rfl rfl
         have t1 : World.cell? _ ⟨b6, 1, none⟩ = some (.int .i64 s1.last) := HD.out.at_ 0 1 rfl rfl
         have t2 : World.cell? _ ⟨b6, 2, none⟩ = some (.slice A2' (csR s1).length c2') := HD.out.at_ 0 2 rfl rfl
         have y0 : World.cell? _ ⟨b4, 0, none⟩ = some (.slice A0 (lsR s).length c0) := HD.out.at_ 1 0 rfl rfl
         have y1 : World.cell? _ ⟨b4, 1, none⟩ = some (.int .i64 s.last) := HD.out.at_ 1 1 rfl rfl
         have y2 : World.cell? _ ⟨b4, 2, none⟩ = some (.slice A2 (csR s).length c2) := HD.out.at_ 1 2 rfl rfl
         have f0 : World.frozen? _ ⟨b4, 0, none⟩ = false := blk_frozen (HD.out.bx.get 1 rfl) 0
         have f1 : World.frozen? _ ⟨b4, 1, none⟩ = false := blk_frozen (HD.out.bx.get 1 rfl) 1
         have f2 : World.frozen? _ ⟨b4, 2, none⟩ = false := blk_frozen (HD.out.bx.get 1 rfl) 2
         go_upto_region 11 with (fail)
         clear t0 t1 t2 y0 y1 y2 f0 f1 f2
         replace HD := Aside0.mk (HD.out.st3 1 rfl (.slice A0' (lsR s1).length c0') (.int .i64 s1.last) (.slice A2' (csR s1).length c2'))
         simp only [List.set_cons_succ, List.set_cons_zero] at HD
         have y0 := HD.out.at_ 1 0 (v := .slice A0' (lsR s1).length c0') rfl rfl
         have y1 := HD.out.at_ 1 1 (v := .int .i64 s1.last) rfl rfl
         have y2 := HD.out.at_ 1 2 (v := .slice A2' (csR s1).length c2') rfl rfl
         have HC := Aside0.mk (same_walk HD.out (by omega) (by have := HC1.out; have := HK2.out.2; omega))
         go_wp2_with (go_at_call 20; refine HC.out.mono ?_; rintro e w10 ⟨rfl, hd⟩; replace HD := Aside0.mk hd; clear hd y0 y1 y2)
         exact ⟨⟨k + 1, s1, _, _, by omega, by omega, by go_num, ⟨HD.out.drop.more (by omega)⟩, ⟨by have := HC1.out; have := HCu.out; omega⟩⟩, by simp [intOf]; omega⟩
       · refine box_step ?hg (N := 6) ?hd (cs := #[.slice none 0 0, .int .i64 0, .slice none 0 0]) (t := 51) ?hr ?_; (case hd => rfl); (case hg => rfl); (case hr => first | (go_simp; done) | (go_simp; rfl))
         intro b6 hg w7 hbox hb
         replace HD := Aside0.mk (HD.out.consed hg hbox hb (by decide))
         clear hg hbox hb
         refine hK.out _ _ ⟨HD.out.at_ 1 0 rfl rfl, HD.out.at_ 1 1 rfl rfl, HD.out.at_ 1 2 rfl rfl, cell_below HD.out.hs.bel HX.out.1, cell_below HD.out.hs.bel HX.out.2.1, cell_below HD.out.hs.bel HX.out.2.2.1, cell_below HD.out.hs.bel HX.out.2.2.2.1, cell_below HD.out.hs.bel HX.out.2.2.2.2⟩ (fun hHeld => ?_)
         clear hK K
         refine norm_ (a' := ?_) ?_ ?_
         rotate_left
         · show Act.put _ (some 6) _ = _
           simp only [Act.put, sg1, sg2, sg3, i64_w, i32_w]
           rfl
         refine one_ (i := 6) (N := some 48) (bAg 13 1151) rfl rfl (one_of HT_.out (by kernel_rfl)) (by decide) (fun K hK => ?_)
         refine goes_ Try.func19 (by kernel_rfl) rfl #[.pointer (some ⟨g, 0, none⟩), .agg #[.slice A0 (lsR s).length c0, .int .i64 s.last, .slice A2 (csR s).length c2], .agg #[.int .i64 xk, .int .i64 xa, .int .i64 xb, .string xs, .bool xo]] (by rfl) rfl rfl (by (try simp only [List.map_toArray, List.map_cons, List.map_nil]); first | done | rfl) ?_
         refine (does_walk HD.out HK2.out.1 (Nat.le_trans HK2.out.2 (by decide)) xk xa xb xs xo HWf.out).mono ?_
         rintro e w6 ⟨s1, v0', v2', rfl, hd, hcu⟩
         obtain ⟨A0', c0', A2', c2', rfl, rfl⟩ := hd.sl
         refine ⟨_, rfl, ?_⟩
         replace HD := Aside0.mk hd
         have HC1 := Aside0.mk hcu
         clear hd hcu
         refine hK.out _ _ ⟨HD.out.at_ 1 0 rfl rfl, HD.out.at_ 1 1 rfl rfl, HD.out.at_ 1 2 rfl rfl, cell_below HD.out.hs.bel HX.out.1, cell_below HD.out.hs.bel HX.out.2.1, cell_below HD.out.hs.bel HX.out.2.2.1, cell_below HD.out.hs.bel HX.out.2.2.2.1, cell_below HD.out.hs.bel HX.out.2.2.2.2⟩ (fun hHeld => ?_)
         clear hK K
         refine norm_ (a' := ?_) ?_ ?_
         rotate_left
         · show Act.put _ (some 48) _ = _
           simp only [Act.put, sg1, sg2, sg3, i64_w, i32_w]
           rfl
         refine pure_ (i := 7) (N := some 41) (v := ?_) (a' := ?_) (bAg 13 1279) rfl rfl (any_of HT_.out (by kernel_rfl)) (fun _ _ _ h => h) (Or.inl ⟨by rfl, ?_⟩) ?_ ?_
         rotate_left
         · intro w'
           go_simp
           with_reducible rfl
         rotate_left
         · simp only [Act.put, sg1, sg2, sg3, i64_w, i32_w]
           rfl
         refine pure_ (i := 8) (N := some 49) (v := ?_) (a' := ?_) (bAg 13 1535) rfl rfl (any_of HT_.out (by kernel_rfl)) (fun _ _ _ h => h) (Or.inl ⟨by rfl, ?_⟩) ?_ ?_
         rotate_left
         · intro w'
           go_simp
           with_reducible rfl
         rotate_left
         · simp only [Act.put, sg1, sg2, sg3, i64_w, i32_w]
           rfl
         refine pure_ (i := 9) (N := some 50) (v := ?_) (a' := ?_) (bAg 13 2047) rfl rfl (any_of HT_.out (by kernel_rfl)) (fun _ _ _ h => h) (Or.inl ⟨by rfl, ?_⟩) ?_ ?_
         rotate_left
         · intro w'
           go_simp
           with_reducible rfl
         rotate_left
         · simp only [Act.put, sg1, sg2, sg3, i64_w, i32_w]
           rfl
         refine one_ (i := 11) (N := none) (bAg 13 4095) rfl rfl (one_of HT_.out (by kernel_rfl)) (by decide) (fun K hK => ?_)
         have t0 : World.cell? _ ⟨b6, 0, none⟩ = some (.slice none 0 0) := HD.out.at_ 0 0 rfl rfl
         have t1 : World.cell? _ ⟨b6, 1, none⟩ = some (.int .i64 0) := HD.out.at_ 0 1 rfl rfl
         have t2 : World.cell? _ ⟨b6, 2, none⟩ = some (.slice none 0 0) := HD.out.at_ 0 2 rfl rfl
         have f0 : World.frozen? _ ⟨b6, 0, none⟩ = false := blk_frozen (HD.out.bx.get 0 rfl) 0
         have f1 : World.frozen? _ ⟨b6, 1, none⟩ = false := blk_frozen (HD.out.bx.get 0 rfl) 1
         have f2 : World.frozen? _ ⟨b6, 2, none⟩ = false := blk_frozen (HD.out.bx.get 0 rfl) 2
         refine skip_ (w1 := ?_) (by rfl) rfl ?_ ?_
         rotate_left
         · go_simp
           rfl
         replace HD := Aside0.mk (HD.out.st3 0 rfl (.slice A0' (lsR s1).length c0') (.int .i64 s1.last) (.slice A2' (csR s1).length c2'))
         simp only [List.set_cons_succ, List.set_cons_zero] at HD
         refine hK.out _ _ ⟨HD.out.at_ 1 0 rfl rfl, HD.out.at_ 1 1 rfl rfl, HD.out.at_ 1 2 rfl rfl, cell_below HD.out.hs.bel HX.out.1, cell_below HD.out.hs.bel HX.out.2.1, cell_below HD.out.hs.bel HX.out.2.2.1, cell_below HD.out.hs.bel HX.out.2.2.2.1, cell_below HD.out.hs.bel HX.out.2.2.2.2⟩ (fun hHeld => ?_)
         clear hK K t0 t1 t2 f0 f1 f2
         refine pure_ (i := 12) (N := some 7) (v := ?_) (a' := ?_) (bAg 13 8191) rfl rfl (any_of HT_.out (by kernel_rfl)) (fun _ _ _ h => h) (Or.inl ⟨by rfl, ?_⟩) ?_ ?_
         rotate_left
         · intro w'
           go_simp
           with_reducible rfl
         rotate_left
         · simp only [Act.put, sg1, sg2, sg3, i64_w, i32_w]
           rfl
         refine done_ (done_of HT_.out (by kernel_rfl)) ?_
         clear HT_ HW_ hHeld
         try dsimp only at HD
         have t0 : World.cell? _ ⟨b6, 0, none⟩ = some (.slice A0' (lsR s1).length c0') := HD.out.at_ 0 0 rfl rfl
         have t1 : World.cell? _ ⟨b6, 1, none⟩ = some (.int .i64 s1.last) := HD.out.at_ 0 1 rfl rfl
         have t2 : World.cell? _ ⟨b6, 2, none⟩ = some (.slice A2' (csR s1).length c2') := HD.out.at_ 0 2 rfl rfl
         have y0 : World.cell? _ ⟨b4, 0, none⟩ = some (.slice A0 (lsR s).length c0) := HD.out.at_ 1 0 rfl rfl
         have y1 : World.cell? _ ⟨b4, 1, none⟩ = some (.int .i64 s.last) := HD.out.at_ 1 1 rfl rfl
         have y2 : World.cell? _ ⟨b4, 2, none⟩ = some (.slice A2 (csR s).length c2) := HD.out.at_ 1 2 rfl rfl
         have f0 : World.frozen? _ ⟨b4, 0, none⟩ = false := blk_frozen (HD.out.bx.get 1 rfl) 0
         have f1 : World.frozen? _ ⟨b4, 1, none⟩ = false := blk_frozen (HD.out.bx.get 1 rfl) 1
         have f2 : World.frozen? _ ⟨b4, 2, none⟩ = false := blk_frozen (HD.out.bx.get 1 rfl) 2
         go_upto_region 11 with (fail)
         clear t0 t1 t2 y0 y1 y2 f0 f1 f2
         replace HD := Aside0.mk (HD.out.st3 1 rfl (.slice A0' (lsR s1).length c0') (.int .i64 s1.last) (.slice A2' (csR s1).length c2'))
         simp only [List.set_cons_succ, List.set_cons_zero] at HD
         have y0 := HD.out.at_ 1 0 (v := .slice A0' (lsR s1).length c0') rfl rfl
         have y1 := HD.out.at_ 1 1 (v := .int .i64 s1.last) rfl rfl
         have y2 := HD.out.at_ 1 2 (v := .slice A2' (csR s1).length c2') rfl rfl
         have HC := Aside0.mk (same_walk HD.out (by omega) (by have := HC1.out; have := HK2.out.2; omega))
         go_wp2_with (go_at_call 20; refine HC.out.mono ?_; rintro e w10 ⟨rfl, hd⟩; replace HD := Aside0.mk hd; clear hd y0 y1 y2)
         exact ⟨⟨k + 1, s1, _, _, by omega, by omega, by go_num, ⟨HD.out.drop.more (by omega)⟩, ⟨by have := HC1.out; have := HCu.out; omega⟩⟩, by simp [intOf]; omega⟩
    · have hex : decide (k < l0.length) = false ∨ (decide (k < l0.length) = true ∧ decide ((k : Int) < 120) = false) := by
        by_cases a : k < l0.length
        · exact Or.inr ⟨decide_eq_true a, decide_eq_false (by omega)⟩
        · exact Or.inl (decide_eq_false a)
      clear hlt
      rcases hex with q0 | ⟨q0, q1⟩
      all_goals
        go_wp2
        go_ret
        exact ⟨rfl, HD.out.hs.bel⟩
theorem splicelaw10_BagPlays.calls (A0 : Option Addr) (c0 : Nat) (l0 : List S29) (r : Bool) (w : World) (hr0 : Kd.C k29 w A0 l0.length l0) (hc0 : l0.length ≤ c0) (h : splicelaw10_BagPlays.f l0 = some r) (hr_ : r = true) :
    Calls Try.prog 7 #[.slice A0 l0.length c0] w fun e w' => e = .returned (.bool r) ∧ Below w.heap.size w w' := by
  subst hr_
  unfold splicelaw10_BagPlays.f at h
  split at h
  · rename_i hall
    rw [List.all_eq_true] at hall
    exact plays_walk A0 c0 l0 w hr0 (fun y hy => of_decide_eq_true (hall y hy))
  · cases h

def wf29 (x : S29) : Prop := (Lit.int .i64 x.f0).wf = true ∧ (Lit.int .i64 x.f1).wf = true ∧ (Lit.int .i64 x.f2).wf = true ∧ x.f3.size ≤ 140737488351232 ∧ True
theorem op29 : Go.Proofs.Ytppoahccmcnenaa.Op.Op Try.prog k29 29 wf29 := op_mono (op_iso (op_struct Try.underlying29 (by kernel_rfl) (opfs_cons (op_int Try.underlying3 (by kernel_rfl)) rfl (opfs_cons (op_int Try.underlying3 (by kernel_rfl)) rfl (opfs_cons (op_int Try.underlying3 (by kernel_rfl)) rfl (opfs_cons (op_string Try.underlying9 (by kernel_rfl)) rfl (opfs_last (op_bool Try.underlying4 (by kernel_rfl)) rfl)))))) (fun x : S29 => (x.f0, x.f1, x.f2, x.f3, x.f4)) (fun y => ⟨y.1, y.2.1, y.2.2.1, y.2.2.2.1, y.2.2.2.2⟩) (fun _ => rfl)) (fun _ h => h)


/-! ### splicelaw10_BagPlays: function 7 -/
/-- THE ONE PURE STATEMENT of splicelaw10_BagPlays: yours. -/
def splicelaw10_BagPlays.Pure : Prop := ∀ (x0 : List (S29)), (x0.length * 48 ≤ 140737488351232 ∧ x0.length ≤ maxLen ∧ ∀ y0 ∈ x0, wf29 y0) → splicelaw10_BagPlays.f x0 = some true

end Go.Proofs.Ytppoahccmcnenaa.PP
