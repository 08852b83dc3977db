-- written by a program of this session
import Derived.Test.YtppoahccmcnenaaPPx0
import Derived.Test.YtppoahccmcnenaaPPx6
import Derived.Test.YtppoahccmcnenaaPPx7
namespace Go.Proofs.Ytppoahccmcnenaa.PP
open Go.RowKit Go.Proofs.Ytppoahccmcnenaa.Op Go.Proofs.YtppoahccmcnenaaW.PrintWords Go.Proofs.YtppoahccmcnenaaW.PrintLast Go.Proofs.YtppoahccmcnenaaW.PrintMore
attribute [local go_sem] max2_int min2_int max_two min_two max_three min_three max_four min_four   -- for this text's walks alone
set_option linter.unusedVariables false
set_option linter.unusedSimpArgs false

/-! ### the bag: Take, Apart -/
set_option maxHeartbeats 4000000 in
set_option maxRecDepth 100000 in
theorem bag_take_none {w W : World} {g mb cb n : Nat} {s : Bg} (h : IsBg w W g mb cb n s) (id : Int) (hid : (Lit.int .i64 id).wf = true) (hf : findM s.l id = none) :
    Calls Try.prog 12 #[.pointer (some ⟨g, 0, none⟩), .int .i64 id] W fun e W' => e = .returned (.tuple #[mailV noMail, .int .i64 4]) ∧ IsBg w W' g mb cb n s ∧ BgKept W W' g mb cb := by
  have hb0 := below_alloc (Below.refl W.heap.size W) (.cells #[.int .i64 0, .int .i64 0, .int .i64 0, .string ⟨#[]⟩] 34)
  have HS := Aside0.mk h
  have HGz : Aside0 (W.heap.size ≠ g ∧ W.heap.size ≠ mb ∧ W.heap.size ≠ cb ∧ w.heap.size ≤ W.heap.size) := ⟨by have := h.lts; have := h.bel.size; omega⟩
  have HG := Aside0.mk (fun W' (hb : Below W.heap.size W W') => bag_get0 (h.below hb) id hid hf)
  clear h hid hf
  go_enter Try.func12, Try.ntmps12
  go_upto_region 1 with (fail)
  replace HG := Aside0.mk (HG.out (W.alloc (.cells #[.int .i64 0, .int .i64 0, .int .i64 0, .string ⟨#[]⟩] 34)) hb0)
  have HB := Aside0.mk ((Bx.start W).push #[.int .i64 0, .int .i64 0, .int .i64 0, .string ⟨#[]⟩] 34)
  replace HS := Aside0.mk (HS.out.below hb0)
  clear hb0
  generalize W.alloc (.cells #[.int .i64 0, .int .i64 0, .int .i64 0, .string ⟨#[]⟩] 34) = W1 at HB HG HS ⊢
  generalize W.heap.size = gz at HB HGz ⊢
  go_upto_region 2 with (go_at_call 24; refine HG.out.mono ?_; rintro e w1 ⟨rfl, hb⟩; replace HB := Aside0.mk (HB.out.below hb); replace HS := Aside0.mk (HS.out.below hb); clear hb)
  have HG6 := Aside0.mk (Nat.ne_of_lt HS.out.lts.2.1)
  replace HS := Aside0.mk (HS.out.below (below_alloc (Below.refl _ _) (.cells #[.int .i64 0, .int .i64 0, .int .i64 0, .string ⟨#[]⟩] 34)))
  replace HB := Aside0.mk (HB.out.push #[.int .i64 0, .int .i64 0, .int .i64 0, .string ⟨#[]⟩] 34)
  clear HG
  generalize w1.alloc (.cells #[.int .i64 0, .int .i64 0, .int .i64 0, .string ⟨#[]⟩] 34) = W2 at HB HS ⊢
  generalize w1.heap.size = g6 at HB HG6 ⊢
  have x0 : World.cell? _ ⟨gz, 0, none⟩ = some (.int .i64 0) := (blk_cell (HB.out.get 0 rfl) 0).trans rfl
  have xz0 : World.frozen? _ ⟨gz, 0, none⟩ = false := blk_frozen (HB.out.get 0 rfl) 0
  have x1 : World.cell? _ ⟨gz, 1, none⟩ = some (.int .i64 0) := (blk_cell (HB.out.get 0 rfl) 1).trans rfl
  have xz1 : World.frozen? _ ⟨gz, 1, none⟩ = false := blk_frozen (HB.out.get 0 rfl) 1
  have x2 : World.cell? _ ⟨gz, 2, none⟩ = some (.int .i64 0) := (blk_cell (HB.out.get 0 rfl) 2).trans rfl
  have xz2 : World.frozen? _ ⟨gz, 2, none⟩ = false := blk_frozen (HB.out.get 0 rfl) 2
  have x3 : World.cell? _ ⟨gz, 3, none⟩ = some (.string ⟨#[]⟩) := (blk_cell (HB.out.get 0 rfl) 3).trans rfl
  have xz3 : World.frozen? _ ⟨gz, 3, none⟩ = false := blk_frozen (HB.out.get 0 rfl) 3
  go_wp2
  have HSf := Aside0.mk ((((HS.out.setFar HGz.out.2.2.2 ⟨HGz.out.1, HGz.out.2.1, HGz.out.2.2.1⟩ 0 (.int .i64 0)).setFar HGz.out.2.2.2 ⟨HGz.out.1, HGz.out.2.1, HGz.out.2.2.1⟩ 1 (.int .i64 0)).setFar HGz.out.2.2.2 ⟨HGz.out.1, HGz.out.2.1, HGz.out.2.2.1⟩ 2 (.int .i64 0)).setFar HGz.out.2.2.2 ⟨HGz.out.1, HGz.out.2.1, HGz.out.2.2.1⟩ 3 (.string ⟨#[]⟩))
  replace HB : Aside0 (Bx W ((((W2.setCell ⟨gz, 0, none⟩ (.int .i64 0)).setCell ⟨gz, 1, none⟩ (.int .i64 0)).setCell ⟨gz, 2, none⟩ (.int .i64 0)).setCell ⟨gz, 3, none⟩ (.string ⟨#[]⟩)) [(gz, #[.int .i64 0, .int .i64 0, .int .i64 0, .string ⟨#[]⟩], 34), (g6, #[.int .i64 0, .int .i64 0, .int .i64 0, .string ⟨#[]⟩], 34)]) := ⟨((((HB.out.set 0 0 (.int .i64 0) rfl).set 0 1 (.int .i64 0) rfl).set 0 2 (.int .i64 0) rfl).set 0 3 (.string ⟨#[]⟩) rfl)⟩
  clear HS
  generalize ((((W2.setCell ⟨gz, 0, none⟩ (.int .i64 0)).setCell ⟨gz, 1, none⟩ (.int .i64 0)).setCell ⟨gz, 2, none⟩ (.int .i64 0)).setCell ⟨gz, 3, none⟩ (.string ⟨#[]⟩)) = W9 at HB HSf ⊢
  refine bodyPost_ret (results_ct rfl _ _ gz 34 #[.int .i64 0, .int .i64 0, .int .i64 0, .string ⟨#[]⟩] (0, 0) _ rfl (HB.out.get 0 rfl) Try.underlying34 rfl (by kernel_rfl)) rfl ?_
  exact ⟨rfl, HSf.out, BgKept.below HB.out.bel⟩
set_option maxHeartbeats 4000000 in
set_option maxRecDepth 100000 in
theorem bag_take_cut {w W : World} {g mb cb n : Nat} {s : Bg} (h : IsBg w W g mb cb n s) (id : Int) (hid : (Lit.int .i64 id).wf = true) (m : Ml) (hf : findM s.l id = some m) (hc : s.cuts.contains (ofP m.fr m.too) = true) :
    Calls Try.prog 12 #[.pointer (some ⟨g, 0, none⟩), .int .i64 id] W fun e W' => e = .returned (.tuple #[mailV noMail, .int .i64 50]) ∧ IsBg w W' g mb cb n s ∧ BgKept W W' g mb cb := by
  have hb0 := below_alloc (Below.refl W.heap.size W) (.cells #[.int .i64 0, .int .i64 0, .int .i64 0, .string ⟨#[]⟩] 34)
  have HS := Aside0.mk h
  have HGz : Aside0 (W.heap.size ≠ g ∧ W.heap.size ≠ mb ∧ W.heap.size ≠ cb ∧ w.heap.size ≤ W.heap.size) := ⟨by have := h.lts; have := h.bel.size; omega⟩
  have HM : Aside0 (Adr m.fr ∧ Adr m.too ∧ m.t.size ≤ 65536) := ⟨(h.ids m (findM_some hf).1).2.2⟩
  have HC := Aside0.mk hc
  have HBel := Aside0.mk h.bel
  have HKy := Aside0.mk (Maps.keyOf_int_mk (P := Try.prog) (k := 3) (q := .i64) Try.underlying3 hid)
  have HG := Aside0.mk (fun W' (hb : Below W.heap.size W W') => bag_get' (h.below hb) id hid m 0 (by rw [hf]; rfl) (by rw [hf]; rfl))
  clear h hid hf hc
  go_enter Try.func12, Try.ntmps12
  go_upto_region 1 with (fail)
  replace HG := Aside0.mk (HG.out (W.alloc (.cells #[.int .i64 0, .int .i64 0, .int .i64 0, .string ⟨#[]⟩] 34)) hb0)
  have HB := Aside0.mk ((Bx.start W).push #[.int .i64 0, .int .i64 0, .int .i64 0, .string ⟨#[]⟩] 34)
  replace HS := Aside0.mk (HS.out.below hb0)
  clear hb0
  generalize W.alloc (.cells #[.int .i64 0, .int .i64 0, .int .i64 0, .string ⟨#[]⟩] 34) = W1 at HB HG HS ⊢
  generalize W.heap.size = gz at HB HGz ⊢
  go_upto_region 2 with (go_at_call 24; refine HG.out.mono ?_; rintro e w1 ⟨rfl, hb⟩; replace HB := Aside0.mk (HB.out.below hb); replace HS := Aside0.mk (HS.out.below hb); clear hb)
  have HG6 := Aside0.mk (Nat.ne_of_lt HS.out.lts.2.1)
  replace HS := Aside0.mk (HS.out.below (below_alloc (Below.refl _ _) (.cells #[.int .i64 m.id, .int .i64 m.fr, .int .i64 m.too, .string m.t] 34)))
  replace HB := Aside0.mk (HB.out.push #[.int .i64 m.id, .int .i64 m.fr, .int .i64 m.too, .string m.t] 34)
  clear HG
  generalize w1.alloc (.cells #[.int .i64 m.id, .int .i64 m.fr, .int .i64 m.too, .string m.t] 34) = W2 at HB HS ⊢
  generalize w1.heap.size = g6 at HB HG6 ⊢
  go_upto_region 4 with (fail)
  replace HS := Aside0.mk (HS.out.below (below_drew1 (Below.refl _ _)))
  replace HB := Aside0.mk (HB.out.below (below_drew1 (Below.refl _ _)))
  obtain ⟨c0, c1, c2, f1⟩ := HS.out.cells
  have y1 : World.cell? _ ⟨g6, 1, none⟩ = some (.int .i64 m.fr) := (blk_cell (HB.out.get 1 rfl) 1).trans rfl
  have y2 : World.cell? _ ⟨g6, 2, none⟩ = some (.int .i64 m.too) := (blk_cell (HB.out.get 1 rfl) 2).trans rfl
  refine start_ (n := 11) (S := fun w' => w'.cell? ⟨g, 2, none⟩ = some (.map (some cb)) ∧ w'.cell? ⟨g6, 1, none⟩ = some (.int .i64 m.fr) ∧ w'.cell? ⟨g6, 2, none⟩ = some (.int .i64 m.too)) (ds := []) #[false, false, false, false, false, false, false, false, false, false, false] (by kernel_rfl) rfl rfl ⟨c2, y1, y2⟩ (fun hHeld => ?_); refine with_tabW bagTake4.tab bagTake4.bits (fun HT_ HW_ => ?_)
  refine pure_ (i := 0) (N := some 20) (v := ?_) (a' := ?_) #[true, false, false, false, false, false, false, false, false, false, false] rfl rfl (any_of HT_.out (by kernel_rfl)) (fun _ _ _ h => h) (Or.inl ⟨by rfl, ?_⟩) ?_ ?_
  rotate_left
  · intro w'
    go_simp
    with_reducible rfl
  rotate_left
  · simp only [Act.put, List.setIfInBounds_toArray, List.set_cons_zero, List.set_cons_succ, i64_w, i32_w]
    rfl
  refine pure_ (i := 1) (N := some 21) (v := ?_) (a' := ?_) #[true, true, false, false, false, false, false, false, false, false, false] rfl rfl (any_of HT_.out (by kernel_rfl)) (fun _ _ _ h => h) (Or.inl ⟨by rfl, ?_⟩) ?_ ?_
  rotate_left
  · intro w'
    go_simp
    with_reducible rfl
  rotate_left
  · simp only [Act.put, List.setIfInBounds_toArray, List.set_cons_zero, List.set_cons_succ, i64_w, i32_w]
    rfl
  refine pure_ (i := 2) (N := some 22) (v := ?_) (a' := ?_) #[true, true, true, false, false, false, false, false, false, false, false] rfl rfl (any_of HT_.out (by kernel_rfl)) (fun _ _ _ h => h) (Or.inl ⟨by rfl, ?_⟩) ?_ ?_
  rotate_left
  · intro w'
    go_simp
    with_reducible rfl
  rotate_left
  · simp only [Act.put, List.setIfInBounds_toArray, List.set_cons_zero, List.set_cons_succ, i64_w, i32_w]
    rfl
  refine take_ (i := 3) (N := some 23) (v := ?_) (a' := ?_) #[true, true, true, true, false, false, false, false, false, false, false] rfl rfl (take_ofW HT_.out HW_.out (by kernel_rfl)) (fun _ _ _ h => h) (Or.inl ⟨by rfl, ?_⟩) hHeld ?_ ?_
  rotate_left
  · rintro w' ⟨s0, s1, s2⟩
    go_simp
    with_reducible rfl
  rotate_left
  · simp only [Act.put, List.setIfInBounds_toArray, List.set_cons_zero, List.set_cons_succ, i64_w, i32_w]
    rfl
  refine pure_ (i := 4) (N := some 24) (v := ?_) (a' := ?_) #[true, true, true, true, true, false, false, false, false, false, false] rfl rfl (any_of HT_.out (by kernel_rfl)) (fun _ _ _ h => h) (Or.inl ⟨by rfl, ?_⟩) ?_ ?_
  rotate_left
  · intro w'
    go_simp
    with_reducible rfl
  rotate_left
  · simp only [Act.put, List.setIfInBounds_toArray, List.set_cons_zero, List.set_cons_succ, i64_w, i32_w]
    rfl
  refine take_ (i := 5) (N := some 25) (v := ?_) (a' := ?_) #[true, true, true, true, true, true, false, false, false, false, false] rfl rfl (take_ofW HT_.out HW_.out (by kernel_rfl)) (fun _ _ _ h => h) (Or.inl ⟨by rfl, ?_⟩) hHeld ?_ ?_
  rotate_left
  · rintro w' ⟨s0, s1, s2⟩
    go_simp
    with_reducible rfl
  rotate_left
  · simp only [Act.put, List.setIfInBounds_toArray, List.set_cons_zero, List.set_cons_succ, i64_w, i32_w]
    rfl
  refine pure_ (i := 6) (N := some 26) (v := ?_) (a' := ?_) #[true, true, true, true, true, true, true, false, false, false, false] rfl rfl (any_of HT_.out (by kernel_rfl)) (fun _ _ _ h => h) (Or.inl ⟨by rfl, ?_⟩) ?_ ?_
  rotate_left
  · intro w'
    go_simp
    with_reducible rfl
  rotate_left
  · simp only [Act.put, List.setIfInBounds_toArray, List.set_cons_zero, List.set_cons_succ, i64_w, i32_w]
    rfl
  refine take_ (i := 7) (N := some 27) (v := ?_) (a' := ?_) #[true, true, true, true, true, true, true, true, false, false, false] rfl rfl (take_ofW HT_.out HW_.out (by kernel_rfl)) (fun _ _ _ h => h) (Or.inl ⟨by rfl, ?_⟩) hHeld ?_ ?_
  rotate_left
  · rintro w' ⟨s0, s1, s2⟩
    go_simp
    with_reducible rfl
  rotate_left
  · simp only [Act.put, List.setIfInBounds_toArray, List.set_cons_zero, List.set_cons_succ, i64_w, i32_w]
    rfl
  refine one_ (i := 8) (N := some 28) #[true, true, true, true, true, true, true, true, true, false, false] rfl rfl (one_of HT_.out (by kernel_rfl)) (by decide) (fun K hK => ?_)
  refine goes_ Try.func25 (by kernel_rfl) rfl #[.int .i64 m.fr, .int .i64 m.too] (by rfl) rfl rfl (by (try simp only [List.map_toArray, List.map_cons, List.map_nil]); first | done | rfl) ?_
  with_reducible refine (bag_of m.fr m.too _).mono ?_
  rintro e w6 ⟨rfl, hb⟩
  refine ⟨_, rfl, ?_⟩
  replace HS := Aside0.mk (HS.out.below hb)
  replace HB := Aside0.mk (HB.out.below hb)
  refine hK.out _ _ ⟨cell_below hb (hHeld.1), cell_below hb (hHeld.2.1), cell_below hb (hHeld.2.2)⟩ (fun hHeld => ?_)
  clear hK K hb
  refine norm_ (a' := ?_) ?_ ?_
  rotate_left
  · show Act.put _ (some 28) _ = _
    simp only [Act.put, List.setIfInBounds_toArray, List.set_cons_zero, List.set_cons_succ, i64_w, i32_w]
    rfl
  refine one_ (i := 9) (N := some 29) #[true, true, true, true, true, true, true, true, true, true, false] rfl rfl (one_of HT_.out (by kernel_rfl)) (by decide) (fun K hK => ?_)
  have hcut := HS.out.cutAt HM.out.1 HM.out.2.1
  rw [HC.out] at hcut
  refine look_ _ _ _ _ (by rfl) rfl rfl _ _ _ rfl rfl hcut ?_
  refine hK.out _ _ hHeld (fun hHeld => ?_)
  clear hK K hcut
  refine norm_ (a' := ?_) ?_ ?_
  rotate_left
  · show Act.put _ (some 29) _ = _
    simp only [Act.put, List.setIfInBounds_toArray, List.set_cons_zero, List.set_cons_succ, i64_w, i32_w]
    rfl
  refine pure_ (i := 10) (N := some 19) (v := ?_) (a' := ?_) #[true, true, true, true, true, true, true, true, true, true, true] rfl rfl (any_of HT_.out (by kernel_rfl)) (fun _ _ _ h => h) (Or.inl ⟨by rfl, ?_⟩) ?_ ?_
  rotate_left
  · intro w'
    go_simp
    with_reducible rfl
  rotate_left
  · simp only [Act.put, List.setIfInBounds_toArray, List.set_cons_zero, List.set_cons_succ, i64_w, i32_w]
    rfl
  refine done_ (done_of HT_.out (by kernel_rfl)) ?_
  clear HT_ HW_ hHeld
  clear c0 c1 c2 f1 y1 y2
  generalize hw6 : w6 = W6 at HB HS ⊢
  clear hw6
  have x0 : World.cell? _ ⟨gz, 0, none⟩ = some (.int .i64 0) := (blk_cell (HB.out.get 0 rfl) 0).trans rfl
  have xz0 : World.frozen? _ ⟨gz, 0, none⟩ = false := blk_frozen (HB.out.get 0 rfl) 0
  have x1 : World.cell? _ ⟨gz, 1, none⟩ = some (.int .i64 0) := (blk_cell (HB.out.get 0 rfl) 1).trans rfl
  have xz1 : World.frozen? _ ⟨gz, 1, none⟩ = false := blk_frozen (HB.out.get 0 rfl) 1
  have x2 : World.cell? _ ⟨gz, 2, none⟩ = some (.int .i64 0) := (blk_cell (HB.out.get 0 rfl) 2).trans rfl
  have xz2 : World.frozen? _ ⟨gz, 2, none⟩ = false := blk_frozen (HB.out.get 0 rfl) 2
  have x3 : World.cell? _ ⟨gz, 3, none⟩ = some (.string ⟨#[]⟩) := (blk_cell (HB.out.get 0 rfl) 3).trans rfl
  have xz3 : World.frozen? _ ⟨gz, 3, none⟩ = false := blk_frozen (HB.out.get 0 rfl) 3
  go_wp2
  have HSf := Aside0.mk ((((HS.out.setFar HGz.out.2.2.2 ⟨HGz.out.1, HGz.out.2.1, HGz.out.2.2.1⟩ 0 (.int .i64 0)).setFar HGz.out.2.2.2 ⟨HGz.out.1, HGz.out.2.1, HGz.out.2.2.1⟩ 1 (.int .i64 0)).setFar HGz.out.2.2.2 ⟨HGz.out.1, HGz.out.2.1, HGz.out.2.2.1⟩ 2 (.int .i64 0)).setFar HGz.out.2.2.2 ⟨HGz.out.1, HGz.out.2.1, HGz.out.2.2.1⟩ 3 (.string ⟨#[]⟩))
  replace HB : Aside0 (Bx W ((((W6.setCell ⟨gz, 0, none⟩ (.int .i64 0)).setCell ⟨gz, 1, none⟩ (.int .i64 0)).setCell ⟨gz, 2, none⟩ (.int .i64 0)).setCell ⟨gz, 3, none⟩ (.string ⟨#[]⟩)) [(gz, #[.int .i64 0, .int .i64 0, .int .i64 0, .string ⟨#[]⟩], 34), (g6, #[.int .i64 m.id, .int .i64 m.fr, .int .i64 m.too, .string m.t], 34)]) := ⟨((((HB.out.set 0 0 (.int .i64 0) rfl).set 0 1 (.int .i64 0) rfl).set 0 2 (.int .i64 0) rfl).set 0 3 (.string ⟨#[]⟩) rfl)⟩
  clear HS
  generalize ((((W6.setCell ⟨gz, 0, none⟩ (.int .i64 0)).setCell ⟨gz, 1, none⟩ (.int .i64 0)).setCell ⟨gz, 2, none⟩ (.int .i64 0)).setCell ⟨gz, 3, none⟩ (.string ⟨#[]⟩)) = W9 at HB HSf ⊢
  refine bodyPost_ret (results_ct rfl _ _ gz 34 #[.int .i64 0, .int .i64 0, .int .i64 0, .string ⟨#[]⟩] (0, 0) _ rfl (HB.out.get 0 rfl) Try.underlying34 rfl (by kernel_rfl)) rfl ?_
  exact ⟨rfl, HSf.out, BgKept.below HB.out.bel⟩
set_option maxHeartbeats 4000000 in
set_option maxRecDepth 100000 in
theorem bag_take_yes {w W : World} {g mb cb n : Nat} {s : Bg} (h : IsBg w W g mb cb n s) (id : Int) (hid : (Lit.int .i64 id).wf = true) (m : Ml) (hf : findM s.l id = some m) (hc : s.cuts.contains (ofP m.fr m.too) = false) :
    Calls Try.prog 12 #[.pointer (some ⟨g, 0, none⟩), .int .i64 id] W fun e W' => e = .returned (.tuple #[mailV m, .int .i64 0]) ∧ IsBg w W' g mb cb n { s with l := dropM s.l id } ∧ BgKept W W' g mb cb := by
  have hb0 := below_alloc (Below.refl W.heap.size W) (.cells #[.int .i64 0, .int .i64 0, .int .i64 0, .string ⟨#[]⟩] 34)
  have HS := Aside0.mk h
  have HGz : Aside0 (W.heap.size ≠ g ∧ W.heap.size ≠ mb ∧ W.heap.size ≠ cb ∧ w.heap.size ≤ W.heap.size) := ⟨by have := h.lts; have := h.bel.size; omega⟩
  have HM : Aside0 (Adr m.fr ∧ Adr m.too ∧ m.t.size ≤ 65536) := ⟨(h.ids m (findM_some hf).1).2.2⟩
  have HC := Aside0.mk hc
  have HBel := Aside0.mk h.bel
  have HKy := Aside0.mk (Maps.keyOf_int_mk (P := Try.prog) (k := 3) (q := .i64) Try.underlying3 hid)
  have HG := Aside0.mk (fun W' (hb : Below W.heap.size W W') => bag_get' (h.below hb) id hid m 0 (by rw [hf]; rfl) (by rw [hf]; rfl))
  clear h hid hf hc
  go_enter Try.func12, Try.ntmps12
  go_upto_region 1 with (fail)
  replace HG := Aside0.mk (HG.out (W.alloc (.cells #[.int .i64 0, .int .i64 0, .int .i64 0, .string ⟨#[]⟩] 34)) hb0)
  have HB := Aside0.mk ((Bx.start W).push #[.int .i64 0, .int .i64 0, .int .i64 0, .string ⟨#[]⟩] 34)
  replace HS := Aside0.mk (HS.out.below hb0)
  clear hb0
  generalize W.alloc (.cells #[.int .i64 0, .int .i64 0, .int .i64 0, .string ⟨#[]⟩] 34) = W1 at HB HG HS ⊢
  generalize W.heap.size = gz at HB HGz ⊢
  go_upto_region 2 with (go_at_call 24; refine HG.out.mono ?_; rintro e w1 ⟨rfl, hb⟩; replace HB := Aside0.mk (HB.out.below hb); replace HS := Aside0.mk (HS.out.below hb); clear hb)
  have HG6 := Aside0.mk (Nat.ne_of_lt HS.out.lts.2.1)
  replace HS := Aside0.mk (HS.out.below (below_alloc (Below.refl _ _) (.cells #[.int .i64 m.id, .int .i64 m.fr, .int .i64 m.too, .string m.t] 34)))
  replace HB := Aside0.mk (HB.out.push #[.int .i64 m.id, .int .i64 m.fr, .int .i64 m.too, .string m.t] 34)
  clear HG
  generalize w1.alloc (.cells #[.int .i64 m.id, .int .i64 m.fr, .int .i64 m.too, .string m.t] 34) = W2 at HB HS ⊢
  generalize w1.heap.size = g6 at HB HG6 ⊢
  go_upto_region 4 with (fail)
  replace HS := Aside0.mk (HS.out.below (below_drew1 (Below.refl _ _)))
  replace HB := Aside0.mk (HB.out.below (below_drew1 (Below.refl _ _)))
  obtain ⟨c0, c1, c2, f1⟩ := HS.out.cells
  have y1 : World.cell? _ ⟨g6, 1, none⟩ = some (.int .i64 m.fr) := (blk_cell (HB.out.get 1 rfl) 1).trans rfl
  have y2 : World.cell? _ ⟨g6, 2, none⟩ = some (.int .i64 m.too) := (blk_cell (HB.out.get 1 rfl) 2).trans rfl
  refine start_ (n := 11) (S := fun w' => w'.cell? ⟨g, 2, none⟩ = some (.map (some cb)) ∧ w'.cell? ⟨g6, 1, none⟩ = some (.int .i64 m.fr) ∧ w'.cell? ⟨g6, 2, none⟩ = some (.int .i64 m.too)) (ds := []) #[false, false, false, false, false, false, false, false, false, false, false] (by kernel_rfl) rfl rfl ⟨c2, y1, y2⟩ (fun hHeld => ?_); refine with_tabW bagTake4.tab bagTake4.bits (fun HT_ HW_ => ?_)
  refine pure_ (i := 0) (N := some 20) (v := ?_) (a' := ?_) #[true, false, false, false, false, false, false, false, false, false, false] rfl rfl (any_of HT_.out (by kernel_rfl)) (fun _ _ _ h => h) (Or.inl ⟨by rfl, ?_⟩) ?_ ?_
  rotate_left
  · intro w'
    go_simp
    with_reducible rfl
  rotate_left
  · simp only [Act.put, List.setIfInBounds_toArray, List.set_cons_zero, List.set_cons_succ, i64_w, i32_w]
    rfl
  refine pure_ (i := 1) (N := some 21) (v := ?_) (a' := ?_) #[true, true, false, false, false, false, false, false, false, false, false] rfl rfl (any_of HT_.out (by kernel_rfl)) (fun _ _ _ h => h) (Or.inl ⟨by rfl, ?_⟩) ?_ ?_
  rotate_left
  · intro w'
    go_simp
    with_reducible rfl
  rotate_left
  · simp only [Act.put, List.setIfInBounds_toArray, List.set_cons_zero, List.set_cons_succ, i64_w, i32_w]
    rfl
  refine pure_ (i := 2) (N := some 22) (v := ?_) (a' := ?_) #[true, true, true, false, false, false, false, false, false, false, false] rfl rfl (any_of HT_.out (by kernel_rfl)) (fun _ _ _ h => h) (Or.inl ⟨by rfl, ?_⟩) ?_ ?_
  rotate_left
  · intro w'
    go_simp
    with_reducible rfl
  rotate_left
  · simp only [Act.put, List.setIfInBounds_toArray, List.set_cons_zero, List.set_cons_succ, i64_w, i32_w]
    rfl
  refine take_ (i := 3) (N := some 23) (v := ?_) (a' := ?_) #[true, true, true, true, false, false, false, false, false, false, false] rfl rfl (take_ofW HT_.out HW_.out (by kernel_rfl)) (fun _ _ _ h => h) (Or.inl ⟨by rfl, ?_⟩) hHeld ?_ ?_
  rotate_left
  · rintro w' ⟨s0, s1, s2⟩
    go_simp
    with_reducible rfl
  rotate_left
  · simp only [Act.put, List.setIfInBounds_toArray, List.set_cons_zero, List.set_cons_succ, i64_w, i32_w]
    rfl
  refine pure_ (i := 4) (N := some 24) (v := ?_) (a' := ?_) #[true, true, true, true, true, false, false, false, false, false, false] rfl rfl (any_of HT_.out (by kernel_rfl)) (fun _ _ _ h => h) (Or.inl ⟨by rfl, ?_⟩) ?_ ?_
  rotate_left
  · intro w'
    go_simp
    with_reducible rfl
  rotate_left
  · simp only [Act.put, List.setIfInBounds_toArray, List.set_cons_zero, List.set_cons_succ, i64_w, i32_w]
    rfl
  refine take_ (i := 5) (N := some 25) (v := ?_) (a' := ?_) #[true, true, true, true, true, true, false, false, false, false, false] rfl rfl (take_ofW HT_.out HW_.out (by kernel_rfl)) (fun _ _ _ h => h) (Or.inl ⟨by rfl, ?_⟩) hHeld ?_ ?_
  rotate_left
  · rintro w' ⟨s0, s1, s2⟩
    go_simp
    with_reducible rfl
  rotate_left
  · simp only [Act.put, List.setIfInBounds_toArray, List.set_cons_zero, List.set_cons_succ, i64_w, i32_w]
    rfl
  refine pure_ (i := 6) (N := some 26) (v := ?_) (a' := ?_) #[true, true, true, true, true, true, true, false, false, false, false] rfl rfl (any_of HT_.out (by kernel_rfl)) (fun _ _ _ h => h) (Or.inl ⟨by rfl, ?_⟩) ?_ ?_
  rotate_left
  · intro w'
    go_simp
    with_reducible rfl
  rotate_left
  · simp only [Act.put, List.setIfInBounds_toArray, List.set_cons_zero, List.set_cons_succ, i64_w, i32_w]
    rfl
  refine take_ (i := 7) (N := some 27) (v := ?_) (a' := ?_) #[true, true, true, true, true, true, true, true, false, false, false] rfl rfl (take_ofW HT_.out HW_.out (by kernel_rfl)) (fun _ _ _ h => h) (Or.inl ⟨by rfl, ?_⟩) hHeld ?_ ?_
  rotate_left
  · rintro w' ⟨s0, s1, s2⟩
    go_simp
    with_reducible rfl
  rotate_left
  · simp only [Act.put, List.setIfInBounds_toArray, List.set_cons_zero, List.set_cons_succ, i64_w, i32_w]
    rfl
  refine one_ (i := 8) (N := some 28) #[true, true, true, true, true, true, true, true, true, false, false] rfl rfl (one_of HT_.out (by kernel_rfl)) (by decide) (fun K hK => ?_)
  refine goes_ Try.func25 (by kernel_rfl) rfl #[.int .i64 m.fr, .int .i64 m.too] (by rfl) rfl rfl (by (try simp only [List.map_toArray, List.map_cons, List.map_nil]); first | done | rfl) ?_
  with_reducible refine (bag_of m.fr m.too _).mono ?_
  rintro e w6 ⟨rfl, hb⟩
  refine ⟨_, rfl, ?_⟩
  replace HS := Aside0.mk (HS.out.below hb)
  replace HB := Aside0.mk (HB.out.below hb)
  refine hK.out _ _ ⟨cell_below hb (hHeld.1), cell_below hb (hHeld.2.1), cell_below hb (hHeld.2.2)⟩ (fun hHeld => ?_)
  clear hK K hb
  refine norm_ (a' := ?_) ?_ ?_
  rotate_left
  · show Act.put _ (some 28) _ = _
    simp only [Act.put, List.setIfInBounds_toArray, List.set_cons_zero, List.set_cons_succ, i64_w, i32_w]
    rfl
  refine one_ (i := 9) (N := some 29) #[true, true, true, true, true, true, true, true, true, true, false] rfl rfl (one_of HT_.out (by kernel_rfl)) (by decide) (fun K hK => ?_)
  have hcut := HS.out.cutAt HM.out.1 HM.out.2.1
  rw [HC.out] at hcut
  refine look_ _ _ _ _ (by rfl) rfl rfl _ _ _ rfl rfl hcut ?_
  refine hK.out _ _ hHeld (fun hHeld => ?_)
  clear hK K hcut
  refine norm_ (a' := ?_) ?_ ?_
  rotate_left
  · show Act.put _ (some 29) _ = _
    simp only [Act.put, List.setIfInBounds_toArray, List.set_cons_zero, List.set_cons_succ, i64_w, i32_w]
    rfl
  refine pure_ (i := 10) (N := some 19) (v := ?_) (a' := ?_) #[true, true, true, true, true, true, true, true, true, true, true] rfl rfl (any_of HT_.out (by kernel_rfl)) (fun _ _ _ h => h) (Or.inl ⟨by rfl, ?_⟩) ?_ ?_
  rotate_left
  · intro w'
    go_simp
    with_reducible rfl
  rotate_left
  · simp only [Act.put, List.setIfInBounds_toArray, List.set_cons_zero, List.set_cons_succ, i64_w, i32_w]
    rfl
  refine done_ (done_of HT_.out (by kernel_rfl)) ?_
  clear HT_ HW_ hHeld
  clear c0 c1 c2 f1 y1 y2
  generalize hw6 : w6 = W6 at HB HS ⊢
  clear hw6
  obtain ⟨c0, c1, c2, f1⟩ := HS.out.cells
  obtain ⟨D, hown, hA⟩ := HS.out.map
  have HO := Aside0.mk hown
  have HA := Aside0.mk hA
  clear hown hA
  have HBn := Aside0.mk (HB.out.lt _ (List.mem_of_getElem? (i := 0) rfl))
  have HBm := Aside0.mk (HB.out.lt _ (List.mem_of_getElem? (i := 1) rfl))
  go_upto_region 7 with (at_delete; have hown := HO.out; refine wpList_delete_own _ rfl _ _ 58 3 rfl 34 (Maps.int_keyed Try.underlying3) Try.underlying58 _ mb n D rfl hown _ (.int .i64 id) rfl HKy.out ?_; intro w3 hown1 hturn1; obtain ⟨hs, hk⟩ := HS.out.delL hown HA.out id hown1 hturn1.grown; replace HS := Aside0.mk hs; have HK3 := Aside0.mk hk; have HT3 := Aside0.mk hturn1.grown; clear hown hown1 hturn1 hs hk c0 c1 c2 f1)
  have HKw := Aside0.mk ((BgKept.below (g := g) (rb := mb) (mb := cb) HB.out.bel).trans HK3.out)
  have HGe := Aside0.mk (HB.out.ge 0 rfl)
  replace HB := Aside0.mk ((HB.out.rebase HBel.out).grownAt HT3.out HS.out.m1 (by
    intro e he
    simp only [List.nil_append, List.cons_append, List.mem_cons, List.not_mem_nil, or_false] at he
    rcases he with rfl | rfl
    · exact HGz.out.2.1
    · exact fun q => HG6.out q.symm))
  clear HK3 HT3 HBn HBm HA HO
  have x0 : World.cell? _ ⟨gz, 0, none⟩ = some (.int .i64 0) := (blk_cell (HB.out.get 0 rfl) 0).trans rfl
  have xz0 : World.frozen? _ ⟨gz, 0, none⟩ = false := blk_frozen (HB.out.get 0 rfl) 0
  have x1 : World.cell? _ ⟨gz, 1, none⟩ = some (.int .i64 0) := (blk_cell (HB.out.get 0 rfl) 1).trans rfl
  have xz1 : World.frozen? _ ⟨gz, 1, none⟩ = false := blk_frozen (HB.out.get 0 rfl) 1
  have x2 : World.cell? _ ⟨gz, 2, none⟩ = some (.int .i64 0) := (blk_cell (HB.out.get 0 rfl) 2).trans rfl
  have xz2 : World.frozen? _ ⟨gz, 2, none⟩ = false := blk_frozen (HB.out.get 0 rfl) 2
  have x3 : World.cell? _ ⟨gz, 3, none⟩ = some (.string ⟨#[]⟩) := (blk_cell (HB.out.get 0 rfl) 3).trans rfl
  have xz3 : World.frozen? _ ⟨gz, 3, none⟩ = false := blk_frozen (HB.out.get 0 rfl) 3
  have y0 : World.cell? _ ⟨g6, 0, none⟩ = some (.int .i64 m.id) := (blk_cell (HB.out.get 1 rfl) 0).trans rfl
  have y1 : World.cell? _ ⟨g6, 1, none⟩ = some (.int .i64 m.fr) := (blk_cell (HB.out.get 1 rfl) 1).trans rfl
  have y2 : World.cell? _ ⟨g6, 2, none⟩ = some (.int .i64 m.too) := (blk_cell (HB.out.get 1 rfl) 2).trans rfl
  have y3 : World.cell? _ ⟨g6, 3, none⟩ = some (.string m.t) := (blk_cell (HB.out.get 1 rfl) 3).trans rfl
  go_wp2
  have HSf := Aside0.mk ((((HS.out.setFar HGz.out.2.2.2 ⟨HGz.out.1, HGz.out.2.1, HGz.out.2.2.1⟩ 0 (.int .i64 m.id)).setFar HGz.out.2.2.2 ⟨HGz.out.1, HGz.out.2.1, HGz.out.2.2.1⟩ 1 (.int .i64 m.fr)).setFar HGz.out.2.2.2 ⟨HGz.out.1, HGz.out.2.1, HGz.out.2.2.1⟩ 2 (.int .i64 m.too)).setFar HGz.out.2.2.2 ⟨HGz.out.1, HGz.out.2.1, HGz.out.2.2.1⟩ 3 (.string m.t))
  replace HB : Aside0 (Bx w ((((w3.setCell ⟨gz, 0, none⟩ (.int .i64 m.id)).setCell ⟨gz, 1, none⟩ (.int .i64 m.fr)).setCell ⟨gz, 2, none⟩ (.int .i64 m.too)).setCell ⟨gz, 3, none⟩ (.string m.t)) [(gz, #[.int .i64 m.id, .int .i64 m.fr, .int .i64 m.too, .string m.t], 34), (g6, #[.int .i64 m.id, .int .i64 m.fr, .int .i64 m.too, .string m.t], 34)]) := ⟨((((HB.out.set 0 0 (.int .i64 m.id) rfl).set 0 1 (.int .i64 m.fr) rfl).set 0 2 (.int .i64 m.too) rfl).set 0 3 (.string m.t) rfl)⟩
  have HKf := Aside0.mk ((((HKw.out.setNew HGe.out 0 (.int .i64 m.id)).setNew HGe.out 1 (.int .i64 m.fr)).setNew HGe.out 2 (.int .i64 m.too)).setNew HGe.out 3 (.string m.t))
  clear HS HKw
  generalize ((((w3.setCell ⟨gz, 0, none⟩ (.int .i64 m.id)).setCell ⟨gz, 1, none⟩ (.int .i64 m.fr)).setCell ⟨gz, 2, none⟩ (.int .i64 m.too)).setCell ⟨gz, 3, none⟩ (.string m.t)) = W9 at HB HSf HKf ⊢
  refine bodyPost_ret (results_ct rfl _ _ gz 34 #[.int .i64 m.id, .int .i64 m.fr, .int .i64 m.too, .string m.t] (0, 0) _ rfl (HB.out.get 0 rfl) Try.underlying34 rfl (by kernel_rfl)) rfl ?_
  exact ⟨rfl, HSf.out, HKf.out⟩

/-! ### the bag: Apart, New -/
def setB (s : Bg) (x y : Int) (on : Bool) : Bg × Int := if (adr x && (adr y && !(x == y))) = true then ({ s with cuts := if on = true then putC s.cuts (ofP x y) else delC s.cuts (ofP x y) }, 0) else (s, 1)
theorem bag_apart_nil (x y : Int) (on : Bool) (W : World) :
    Calls Try.prog 16 #[.pointer none, .int .i64 x, .int .i64 y, .bool on] W fun e W' => e = .returned (.int .i64 1) ∧ W = W' := by
  go_enter Try.func16, Try.ntmps16
  go_wp2
  go_ret
  exact ⟨rfl, rfl⟩
set_option maxHeartbeats 4000000 in
set_option maxRecDepth 100000 in
theorem bag_apart_no (x y : Int) (on : Bool) (g : Nat) (W : World) (hno : (adr x && (adr y && !(x == y))) = false) :
    Calls Try.prog 16 #[.pointer (some ⟨g, 0, none⟩), .int .i64 x, .int .i64 y, .bool on] W fun e W' => e = .returned (.int .i64 1) ∧ W = W' := by
  have HX := Aside0.mk (fun W => bag_address x W)
  have HY := Aside0.mk (fun W => bag_address y W)
  cases hx : adr x
  · rw [hx] at HX
    clear hno hx
    go_enter Try.func16, Try.ntmps16
    go_wp2_with (go_at_call 22; refine (HX.out _).mono ?_; rintro e w1 ⟨rfl, rfl⟩)
    go_ret
    exact ⟨rfl, rfl⟩
  · rw [hx] at HX
    cases hy : adr y
    · rw [hy] at HY
      clear hno hx hy
      go_enter Try.func16, Try.ntmps16
      go_wp2_with (go_at_call 22; first | (with_reducible refine (HX.out _).mono ?_; rintro e w1 ⟨rfl, rfl⟩) | (with_reducible refine (HY.out _).mono ?_; rintro e w1 ⟨rfl, rfl⟩))
      go_ret
      exact ⟨rfl, rfl⟩
    · rw [hy] at HY
      have e : x = y := by rw [hx, hy] at hno; simpa using hno
      subst e
      clear hno hx hy
      go_enter Try.func16, Try.ntmps16
      go_wp2_with (go_at_call 22; first | (with_reducible refine (HX.out _).mono ?_; rintro e w1 ⟨rfl, rfl⟩) | (with_reducible refine (HY.out _).mono ?_; rintro e w1 ⟨rfl, rfl⟩))
      go_ret
      exact ⟨rfl, rfl⟩
set_option maxHeartbeats 4000000 in
set_option maxRecDepth 100000 in
theorem bag_apart_on {w W : World} {g mb cb n : Nat} {s : Bg} (h : IsBg w W g mb cb n s) (hn : n < 1000000) (x y : Int) (hx : adr x = true) (hy : adr y = true) (hne : x ≠ y) :
    Calls Try.prog 16 #[.pointer (some ⟨g, 0, none⟩), .int .i64 x, .int .i64 y, .bool true] W fun e W' => e = .returned (.int .i64 0) ∧ IsBg w W' g mb cb (n + 1) { s with cuts := putC s.cuts (ofP x y) } ∧ BgKept W W' g mb cb := by
  have HX := Aside0.mk (fun W => bag_address x W)
  have HY := Aside0.mk (fun W => bag_address y W)
  obtain ⟨kl, hkl⟩ := of_key ((adr_iff x).1 hx) ((adr_iff y).1 hy)
  have HK := Aside0.mk hkl
  have HN := Aside0.mk hn
  rw [hx] at HX
  rw [hy] at HY
  have HS := Aside0.mk (h.below (below_drew1 (Below.refl _ _)))
  have q0 : (x == y) = false := beq_eq_false_iff_ne.mpr hne
  have q1 : decide (x = y) = false := decide_eq_false hne
  have HKp := Aside0.mk (BgKept.below (g := g) (rb := mb) (mb := cb) (below_drew1 (Below.refl W.heap.size W)))
  clear h hx hy hne hkl hn
  go_enter Try.func16, Try.ntmps16
  go_upto_region 4 with (go_at_call 22; first | (with_reducible refine (HX.out _).mono ?_; rintro e w1 ⟨rfl, rfl⟩) | (with_reducible refine (HY.out _).mono ?_; rintro e w1 ⟨rfl, rfl⟩))
  obtain ⟨c0, c1, c2, f1⟩ := HS.out.cells
  refine start_ (n := 8) (S := fun w' => w'.cell? ⟨g, 2, none⟩ = some (.map (some cb))) (ds := []) #[false, false, false, false, false, false, false, false] (by kernel_rfl) rfl rfl c2 (fun hHeld => ?_); refine with_tabW bagApart4.tab bagApart4.bits (fun HT_ HW_ => ?_)
  refine pure_ (i := 0) (N := some 27) (v := ?_) (a' := ?_) #[true, false, false, false, false, false, false, false] rfl rfl (any_of HT_.out (by kernel_rfl)) (fun _ _ _ h => h) (Or.inl ⟨by rfl, ?_⟩) ?_ ?_
  rotate_left
  · intro w'
    go_simp
    with_reducible rfl
  rotate_left
  · simp only [Act.put, List.setIfInBounds_toArray, List.set_cons_zero, List.set_cons_succ, i64_w, i32_w]
    rfl
  refine pure_ (i := 1) (N := some 28) (v := ?_) (a' := ?_) #[true, true, false, false, false, false, false, false] rfl rfl (any_of HT_.out (by kernel_rfl)) (fun _ _ _ h => h) (Or.inl ⟨by rfl, ?_⟩) ?_ ?_
  rotate_left
  · intro w'
    go_simp
    with_reducible rfl
  rotate_left
  · simp only [Act.put, List.setIfInBounds_toArray, List.set_cons_zero, List.set_cons_succ, i64_w, i32_w]
    rfl
  refine pure_ (i := 2) (N := some 29) (v := ?_) (a' := ?_) #[true, true, true, false, false, false, false, false] rfl rfl (any_of HT_.out (by kernel_rfl)) (fun _ _ _ h => h) (Or.inl ⟨by rfl, ?_⟩) ?_ ?_
  rotate_left
  · intro w'
    go_simp
    with_reducible rfl
  rotate_left
  · simp only [Act.put, List.setIfInBounds_toArray, List.set_cons_zero, List.set_cons_succ, i64_w, i32_w]
    rfl
  refine take_ (i := 3) (N := some 30) (v := ?_) (a' := ?_) #[true, true, true, true, false, false, false, false] rfl rfl (take_ofW HT_.out HW_.out (by kernel_rfl)) (fun _ _ _ h => h) (Or.inl ⟨by rfl, ?_⟩) hHeld ?_ ?_
  rotate_left
  · rintro w' s0
    go_simp
    with_reducible rfl
  rotate_left
  · simp only [Act.put, List.setIfInBounds_toArray, List.set_cons_zero, List.set_cons_succ, i64_w, i32_w]
    rfl
  refine pure_ (i := 4) (N := some 31) (v := ?_) (a' := ?_) #[true, true, true, true, true, false, false, false] rfl rfl (any_of HT_.out (by kernel_rfl)) (fun _ _ _ h => h) (Or.inl ⟨by rfl, ?_⟩) ?_ ?_
  rotate_left
  · intro w'
    go_simp
    with_reducible rfl
  rotate_left
  · simp only [Act.put, List.setIfInBounds_toArray, List.set_cons_zero, List.set_cons_succ, i64_w, i32_w]
    rfl
  refine pure_ (i := 5) (N := some 32) (v := ?_) (a' := ?_) #[true, true, true, true, true, true, false, false] rfl rfl (any_of HT_.out (by kernel_rfl)) (fun _ _ _ h => h) (Or.inl ⟨by rfl, ?_⟩) ?_ ?_
  rotate_left
  · intro w'
    go_simp
    with_reducible rfl
  rotate_left
  · simp only [Act.put, List.setIfInBounds_toArray, List.set_cons_zero, List.set_cons_succ, i64_w, i32_w]
    rfl
  refine one_ (i := 6) (N := some 33) #[true, true, true, true, true, true, true, false] rfl rfl (one_of HT_.out (by kernel_rfl)) (by decide) (fun K hK => ?_)
  refine goes_ Try.func25 (by kernel_rfl) rfl #[.int .i64 x, .int .i64 y] (by rfl) rfl rfl (by (try simp only [List.map_toArray, List.map_cons, List.map_nil]); first | done | rfl) ?_
  with_reducible refine (bag_of x y _).mono ?_
  rintro e w6 ⟨rfl, hb⟩
  refine ⟨_, rfl, ?_⟩
  replace HS := Aside0.mk (HS.out.below hb)
  replace HKp := Aside0.mk (HKp.out.trans (BgKept.below hb))
  refine hK.out _ _ (cell_below hb hHeld) (fun hHeld => ?_)
  clear hK K hb
  refine norm_ (a' := ?_) ?_ ?_
  rotate_left
  · show Act.put _ (some 33) _ = _
    simp only [Act.put, List.setIfInBounds_toArray, List.set_cons_zero, List.set_cons_succ, i64_w, i32_w]
    rfl
  refine one_ (i := 7) (N := none) #[true, true, true, true, true, true, true, true] rfl rfl (one_of HT_.out (by kernel_rfl)) (by decide) (fun K hK => ?_)
  obtain ⟨E, hown, hE⟩ := HS.out.cut
  obtain ⟨w7, hrun, h1, ht⟩ := hown.store pairKeyed Try.underlying59 (by have := HN.out; unfold maxLen; omega) HK.out (plainElem_bool (H := Unit) Try.underlying4 true)
  refine upd_ _ _ _ _ (by rfl) rfl rfl _ _ _ rfl rfl rfl hrun ?_
  obtain ⟨hs, hk⟩ := HS.out.putE hown hE HK.out h1 ht.grown
  replace HKp := Aside0.mk (HKp.out.trans hk)
  replace HS := Aside0.mk hs
  refine hK.out _ _ HS.out.cells.2.2.1 (fun hHeld => ?_)
  clear hK K hs hk hown hE hrun h1 ht
  refine done_ (done_of HT_.out (by kernel_rfl)) ?_
  clear HT_ HW_ hHeld
  go_wp2
  go_ret
  exact ⟨rfl, HS.out, HKp.out⟩
set_option maxHeartbeats 4000000 in
set_option maxRecDepth 100000 in
theorem bag_apart_off {w W : World} {g mb cb n : Nat} {s : Bg} (h : IsBg w W g mb cb n s) (x y : Int) (hx : adr x = true) (hy : adr y = true) (hne : x ≠ y) :
    Calls Try.prog 16 #[.pointer (some ⟨g, 0, none⟩), .int .i64 x, .int .i64 y, .bool false] W fun e W' => e = .returned (.int .i64 0) ∧ IsBg w W' g mb cb (n + 1) { s with cuts := delC s.cuts (ofP x y) } ∧ BgKept W W' g mb cb := by
  have HX := Aside0.mk (fun W => bag_address x W)
  have HY := Aside0.mk (fun W => bag_address y W)
  obtain ⟨kl, hkl⟩ := of_key ((adr_iff x).1 hx) ((adr_iff y).1 hy)
  have HK := Aside0.mk hkl
  rw [hx] at HX
  rw [hy] at HY
  have HS := Aside0.mk (h.below (below_drew1 (Below.refl _ _)))
  have q0 : (x == y) = false := beq_eq_false_iff_ne.mpr hne
  have q1 : decide (x = y) = false := decide_eq_false hne
  have HKp := Aside0.mk (BgKept.below (g := g) (rb := mb) (mb := cb) (below_drew1 (Below.refl W.heap.size W)))
  clear h hx hy hne hkl
  go_enter Try.func16, Try.ntmps16
  go_upto_region 5 with (go_at_call 22; first | (with_reducible refine (HX.out _).mono ?_; rintro e w1 ⟨rfl, rfl⟩) | (with_reducible refine (HY.out _).mono ?_; rintro e w1 ⟨rfl, rfl⟩))
  obtain ⟨c0, c1, c2, f1⟩ := HS.out.cells
  refine start_ (n := 8) (S := fun w' => w'.cell? ⟨g, 2, none⟩ = some (.map (some cb))) (ds := []) #[false, false, false, false, false, false, false, false] (by kernel_rfl) rfl rfl c2 (fun hHeld => ?_); refine with_tabW bagApart5.tab bagApart5.bits (fun HT_ HW_ => ?_)
  refine pure_ (i := 0) (N := some 34) (v := ?_) (a' := ?_) #[true, false, false, false, false, false, false, false] rfl rfl (any_of HT_.out (by kernel_rfl)) (fun _ _ _ h => h) (Or.inl ⟨by rfl, ?_⟩) ?_ ?_
  rotate_left
  · intro w'
    go_simp
    with_reducible rfl
  rotate_left
  · simp only [Act.put, List.setIfInBounds_toArray, List.set_cons_zero, List.set_cons_succ, i64_w, i32_w]
    rfl
  refine pure_ (i := 1) (N := some 35) (v := ?_) (a' := ?_) #[true, true, false, false, false, false, false, false] rfl rfl (any_of HT_.out (by kernel_rfl)) (fun _ _ _ h => h) (Or.inl ⟨by rfl, ?_⟩) ?_ ?_
  rotate_left
  · intro w'
    go_simp
    with_reducible rfl
  rotate_left
  · simp only [Act.put, List.setIfInBounds_toArray, List.set_cons_zero, List.set_cons_succ, i64_w, i32_w]
    rfl
  refine pure_ (i := 2) (N := some 36) (v := ?_) (a' := ?_) #[true, true, true, false, false, false, false, false] rfl rfl (any_of HT_.out (by kernel_rfl)) (fun _ _ _ h => h) (Or.inl ⟨by rfl, ?_⟩) ?_ ?_
  rotate_left
  · intro w'
    go_simp
    with_reducible rfl
  rotate_left
  · simp only [Act.put, List.setIfInBounds_toArray, List.set_cons_zero, List.set_cons_succ, i64_w, i32_w]
    rfl
  refine take_ (i := 3) (N := some 37) (v := ?_) (a' := ?_) #[true, true, true, true, false, false, false, false] rfl rfl (take_ofW HT_.out HW_.out (by kernel_rfl)) (fun _ _ _ h => h) (Or.inl ⟨by rfl, ?_⟩) hHeld ?_ ?_
  rotate_left
  · rintro w' s0
    go_simp
    with_reducible rfl
  rotate_left
  · simp only [Act.put, List.setIfInBounds_toArray, List.set_cons_zero, List.set_cons_succ, i64_w, i32_w]
    rfl
  refine pure_ (i := 4) (N := some 38) (v := ?_) (a' := ?_) #[true, true, true, true, true, false, false, false] rfl rfl (any_of HT_.out (by kernel_rfl)) (fun _ _ _ h => h) (Or.inl ⟨by rfl, ?_⟩) ?_ ?_
  rotate_left
  · intro w'
    go_simp
    with_reducible rfl
  rotate_left
  · simp only [Act.put, List.setIfInBounds_toArray, List.set_cons_zero, List.set_cons_succ, i64_w, i32_w]
    rfl
  refine pure_ (i := 5) (N := some 39) (v := ?_) (a' := ?_) #[true, true, true, true, true, true, false, false] rfl rfl (any_of HT_.out (by kernel_rfl)) (fun _ _ _ h => h) (Or.inl ⟨by rfl, ?_⟩) ?_ ?_
  rotate_left
  · intro w'
    go_simp
    with_reducible rfl
  rotate_left
  · simp only [Act.put, List.setIfInBounds_toArray, List.set_cons_zero, List.set_cons_succ, i64_w, i32_w]
    rfl
  refine one_ (i := 6) (N := some 40) #[true, true, true, true, true, true, true, false] rfl rfl (one_of HT_.out (by kernel_rfl)) (by decide) (fun K hK => ?_)
  refine goes_ Try.func25 (by kernel_rfl) rfl #[.int .i64 x, .int .i64 y] (by rfl) rfl rfl (by (try simp only [List.map_toArray, List.map_cons, List.map_nil]); first | done | rfl) ?_
  with_reducible refine (bag_of x y _).mono ?_
  rintro e w6 ⟨rfl, hb⟩
  refine ⟨_, rfl, ?_⟩
  replace HS := Aside0.mk (HS.out.below hb)
  replace HKp := Aside0.mk (HKp.out.trans (BgKept.below hb))
  refine hK.out _ _ (cell_below hb hHeld) (fun hHeld => ?_)
  clear hK K hb
  refine norm_ (a' := ?_) ?_ ?_
  rotate_left
  · show Act.put _ (some 40) _ = _
    simp only [Act.put, List.setIfInBounds_toArray, List.set_cons_zero, List.set_cons_succ, i64_w, i32_w]
    rfl
  refine one_ (i := 7) (N := none) #[true, true, true, true, true, true, true, true] rfl rfl (one_of HT_.out (by kernel_rfl)) (by decide) (fun K hK => ?_)
  obtain ⟨E, hown, hE⟩ := HS.out.cut
  obtain ⟨w7, hrun, h1, ht⟩ := hown.drop pairKeyed Try.underlying59 HK.out 0
  refine del_ _ _ _ _ (by rfl) rfl rfl _ _ rfl rfl hrun ?_
  obtain ⟨hs, hk⟩ := HS.out.delE hE HK.out h1 ht.grown
  replace HKp := Aside0.mk (HKp.out.trans hk)
  replace HS := Aside0.mk (hs.more (Nat.le_succ n))
  refine hK.out _ _ HS.out.cells.2.2.1 (fun hHeld => ?_)
  clear hK K hs hk hown hE hrun h1 ht
  refine done_ (done_of HT_.out (by kernel_rfl)) ?_
  clear HT_ HW_ hHeld
  go_wp2
  go_ret
  exact ⟨rfl, HS.out, HKp.out⟩
theorem bag_apart {w W : World} {g mb cb n : Nat} {s : Bg} (h : IsBg w W g mb cb n s) (hn : n < 1000000) (x y : Int) (on : Bool) :
    Calls Try.prog 16 #[.pointer (some ⟨g, 0, none⟩), .int .i64 x, .int .i64 y, .bool on] W fun e W' => e = .returned (.int .i64 (setB s x y on).2) ∧ IsBg w W' g mb cb (n + 1) (setB s x y on).1 ∧ BgKept W W' g mb cb := by
  unfold setB
  cases hh : (adr x && (adr y && !(x == y)))
  · rw [if_neg (by decide)]
    refine (bag_apart_no x y on g W hh).mono ?_
    rintro e W' ⟨rfl, rfl⟩
    exact ⟨rfl, h.more (by omega), BgKept.refl _ _ _ _⟩
  · rw [if_pos rfl]
    simp only [Bool.and_eq_true, Bool.not_eq_true', beq_eq_false_iff_ne] at hh
    cases on
    · exact bag_apart_off h x y hh.1 hh.2.1 hh.2.2
    · exact bag_apart_on h hn x y hh.1 hh.2.1 hh.2.2
def newB : Bg := ⟨[], 0, []⟩
theorem newB_as : BgAs (.map [] : DW) newB.l := ⟨fun _ => rfl, fun _ _ h => by simp [newB, findM] at h, fun _ h => by simp [Maps.has] at h, rfl⟩
theorem newB_cut : CutAs (.map [] : DW) newB.cuts := ⟨fun _ _ _ _ => ⟨rfl, fun h => by simp [newB] at h⟩⟩
set_option maxRecDepth 100000 in
theorem bag_new {w W : World} (hb : Below w.heap.size w W) :
    Calls Try.prog 9 #[] W fun e W' => e = .returned (.pointer (some ⟨W.heap.size + 1 + 1, 0, none⟩)) ∧ IsBg w W' (W.heap.size + 1 + 1) W.heap.size (W.heap.size + 1) 0 newB ∧ Below W.heap.size W W' := by
  have hmm := @run_makeMap Try.prog
  have HI : Aside0 (IsBg w (((W.alloc (.map #[] 0)).alloc (.map #[] 0)).alloc (.cells #[.map (some W.heap.size), .int .i64 0, .map (some (W.heap.size + 1))] 61)) (W.heap.size + 1 + 1) W.heap.size (W.heap.size + 1) 0 newB ∧ Below W.heap.size W (((W.alloc (.map #[] 0)).alloc (.map #[] 0)).alloc (.cells #[.map (some W.heap.size), .int .i64 0, .map (some (W.heap.size + 1))] 61))) := ⟨by
    have s1 : (W.alloc (.map #[] 0)).heap.size = W.heap.size + 1 := alloc_size _ _
    have s2 : ((W.alloc (.map #[] 0)).alloc (.map #[] 0)).heap.size = W.heap.size + 1 + 1 := by rw [alloc_size, s1]
    have hz := hb.size
    have hbw : Below W.heap.size W (((W.alloc (.map #[] 0)).alloc (.map #[] 0)).alloc (.cells #[.map (some W.heap.size), .int .i64 0, .map (some (W.heap.size + 1))] 61)) := below_alloc (below_alloc (below_alloc (Below.refl _ _) _) _) _
    have m1 := World.ownsMap_made (H := Unit) W Try.prog 3 mailE
    have m2 := World.ownsMap_made (H := Unit) (W.alloc (.map #[] 0)) Try.prog 65 (plainElem Try.prog 4)
    rw [s1] at m2
    refine ⟨⟨?_, ⟨_, (m1.alloc _).alloc _, newB_as⟩, ⟨_, m2.alloc _, newB_cut⟩, by simp [newB], by simp [newB], by simp [newB], by simp [newB], by omega, by omega, by omega, by omega, by omega, by omega, hb.trans (hbw.mono hz)⟩, hbw⟩
    have := blk_new ((W.alloc (.map #[] 0)).alloc (.map #[] 0)) (.cells #[.map (some W.heap.size), .int .i64 0, .map (some (W.heap.size + 1))] 61)
    rw [s2] at this
    exact this⟩
  clear hb
  go_enter Try.func9, Try.ntmps9
  go_wp2
  go_ret
  exact ⟨rfl, HI.out⟩

section
open Go.Maps Go.Sort Go.Shelf
/-! ### the bag: IDs -/
def idsL (l : List Ml) : List Int := l.map (fun m => m.id)
theorem mem_idsL (l : List Ml) (x : Int) : x ∈ idsL l ↔ (findM l x).isSome = true := by
  unfold idsL findM
  rw [List.find?_isSome, List.mem_map]
  constructor
  · rintro ⟨m, hm, rfl⟩; exact ⟨m, hm, by simp⟩
  · rintro ⟨m, hm, h⟩; exact ⟨m, hm, by simpa using h⟩
theorem idsL_lt {l : List Ml} (h : l.Pairwise (fun a b => a.id < b.id)) : (idsL l).Pairwise (· < ·) := by
  unfold idsL; rw [List.pairwise_map]; exact h
theorem idsL_perm {D : DW} {l : List Ml} (h : BgAs D l) (ha : l.Pairwise (fun a b => a.id < b.id)) {es : List (Lit × DW)} (e : D = .map es) (hp : es.Pairwise (fun p q => p.1 ≠ q.1)) (hk : ∀ p ∈ es, WideAt.IsKeyLit p.1) : (idsL l).Perm (intKeys D) := by
  subst e
  refine perm_intKeys hp (fun p hp2 => ?_) ((idsL_lt ha).imp (fun h => by omega)) (fun x => by rw [mem_idsL, h.has])
  have hh : Maps.has (.map es : DW) p.1 = true := by
    rw [Maps.has_eq, List.any_eq_true]
    exact ⟨p, hp2, WideAt.sameKey_self (hk p hp2)⟩
  obtain ⟨i, e⟩ := h.in_ _ hh
  exact ⟨_, e⟩
theorem asc_sort {l ss : List Int} (hl : l.Pairwise (· < ·)) (h : ss.Perm l) : ss.mergeSort (fun x y => decide (x ≤ y)) = l := by
  have tr : ∀ a b c : Int, decide (a ≤ b) = true → decide (b ≤ c) = true → decide (a ≤ c) = true := fun a b c h1 h2 => by simp only [decide_eq_true_eq] at *; omega
  have tot : ∀ a b : Int, (decide (a ≤ b) || decide (b ≤ a)) = true := fun a b => by simp only [Bool.or_eq_true, decide_eq_true_eq]; omega
  refine List.Perm.eq_of_pairwise (le := fun a b => decide (a ≤ b) = true) (fun a b _ _ h1 h2 => ?_) (List.pairwise_mergeSort tr tot ss) (hl.imp (fun h => decide_eq_true (by omega))) ((List.mergeSort_perm ss _).trans h)
  simp only [decide_eq_true_eq] at h1 h2
  omega
theorem reps_ints (l : List Int) : Reps (fun (x : Int) cs => cs = [Value.int .i64 x]) 1 l (l.map (Value.int .i64)) := by
  refine ⟨by simp, fun j p hp => ?_⟩
  rw [Nat.mul_one]
  obtain ⟨hj, hx⟩ := List.getElem?_eq_some_iff.1 hp
  rw [List.drop_eq_getElem_cons (by simpa using hj)]
  simp [hx]
theorem R_ints {W : World} {base : Nat} {v : Value} {l : List Int} {m : Nat} (hm : m = l.length) (h : W.ownsRow base 3 1 v m (l.map encZ)) : Kd.R (Kd.int .i64) 3 W base (fun _ => True) v l := by
  subst hm
  exact ⟨fun _ _ => trivial, l.map encZ, h, reps_ints l⟩
theorem Try.sortsA (m : Nat) : AnyZI.SortsIn Try.prog Go.Proofs.Try.sortedA_ren Fence.wide m :=
  ⟨fun blk off cap ss W hH hblk hsz => callsIn_wide.2 (AnyM.slices_Sort_int Go.Proofs.Try.sortA blk off cap ss W hH hblk hsz),
   fun p cap W => callsIn_wide.2 (AnyM.slices_Sort_int_none Go.Proofs.Try.sortA p cap W)⟩
theorem bag_ids_nil (W : World) :
    Calls Try.prog 15 #[.pointer none] W fun e W' => e = .returned (.slice none 0 0) ∧ W = W' := by
  go_enter Try.func15, Try.ntmps15
  go_wp2
  go_ret
  exact ⟨rfl, rfl⟩
set_option maxHeartbeats 1000000 in
theorem bag_idsW {w W : World} {g mb cb n : Nat} {s : Bg} (h : IsBg w W g mb cb n s) (hn : n ≤ 1000000) :
    Calls Try.prog 15 #[.pointer (some ⟨g, 0, none⟩)] W fun e W' => ∃ v, e = .returned v ∧ W'.ownsRow W.heap.size 3 1 v (idsL s.l).length ((idsL s.l).map encZ) ∧ Below W.heap.size W W' := by
  obtain ⟨D, hown, hA⟩ := h.map
  obtain ⟨c0, c1, _, _⟩ := h.cells
  obtain ⟨es, eD, hp, hk⟩ := hown.entries (Maps.int_keyed Try.underlying3)
  have hperm := idsL_perm hA h.asc eD hp hk
  have hasc := idsL_lt h.asc
  have hsz := hown.size_le
  refine (callsIn_wide (n := 6)).1 ?_
  have hbl := hown.lt
  have hseq : SeqGives Fence.wide 2 Try.prog 39 #[.pointer (some ⟨W.heap.size, 0, none⟩)] encZ (fun ss => ss.Perm (intKeys D)) (Maps.size D) (W.alloc (.cells #[.map (some mb)] 58)) :=
    AnyZI.keys_gives (ρ := Go.Proofs.Try.keysA_ren) { Go.Proofs.Try.keysA with } Fence.wide _ trivial rfl (by omega) W.heap.size mb n D _ (by simp) (by simp) (by
      obtain ⟨es, clock, hb, Ft, hs, hD⟩ := hown
      exact ⟨es, clock, (Below.heap_alloc _ _ mb hbl).trans hb, Ft, hs, hD⟩)
  have cK : ∀ mb W, CallsIn Fence.wide 5 Try.prog 27 #[.map mb] W fun e w' => e = .returned (.func (.func 39) #[] #[.pointer (some ⟨W.heap.size, 0, none⟩)]) ∧ w' = W.alloc (.cells #[.map mb] 58) := fun mb W => AnyZI.keys_in Go.Proofs.Try.keysA Fence.wide 5 trivial rfl mb W
  have cS := AnyZI.sorted_in Go.Proofs.Try.sortedA Fence.wide 5 trivial trivial trivial trivial rfl (by omega) (Try.sortsA _) (enters_of Try.func38 (by kernel_rfl) rfl) 39 #[.pointer (some ⟨W.heap.size, 0, none⟩)] trivial (enters_of Try.func39 (by kernel_rfl) rfl) _ _ (by unfold maxLen; omega) (by omega) _ hseq
  change CallsIn _ _ Try.prog 26 _ _ _ at cS
  have hfK : Fence.wide.fn 27 := trivial
  have hfS : Fence.wide.fn 26 := trivial
  refine callsIn_of_wp Try.func15 rfl trivial ?_ rfl
  have HP := Aside0.mk hperm
  have HAs := Aside0.mk hasc
  clear hperm hp hk eD hA hown hsz hseq h hasc
  simp only [Try.ntmps15, List.size_toArray, List.length_cons, List.length_nil, Nat.reduceAdd, Nat.reduceSub, Array.replicate_succ, Array.replicate_zero, List.push_toArray, List.append_toArray, List.nil_append, List.cons_append]
  gi_wp2_with (first
    | (gi_at_call 27; refine (cK _ _).mono ?_; rintro e w' ⟨rfl, rfl⟩)
    | (gi_at_call 26; refine cS.mono ?_; rintro e w' ⟨v, ss, rfl, hS, hrow, hnil, hb⟩))
  go_ret
  have hp2 := hS.trans HP.out.symm
  have hrow2 := ownsRow_base_a (base' := W.heap.size) hrow (by simp)
  rw [show (ss.mergeSort leI) = idsL s.l from asc_sort HAs.out hp2] at hrow2
  rw [hp2.length_eq] at hrow2
  exact ⟨v, rfl, hrow2, ((Below.refl _ W).alloc (Nat.le_refl _) _).trans (hb.mono (by simp))⟩
theorem bag_ids {w W : World} {g mb cb n : Nat} {s : Bg} (h : IsBg w W g mb cb n s) (hn : n ≤ 1000000) :
    Calls Try.prog 15 #[.pointer (some ⟨g, 0, none⟩)] W fun e W' => ∃ v, e = .returned v ∧ Kd.R (Kd.int .i64) 3 W' W.heap.size (fun _ => True) v (idsL s.l) ∧ Below W.heap.size W W' := by
  refine (bag_idsW h hn).mono ?_
  rintro e W' ⟨v, rfl, hr, hb⟩
  exact ⟨v, rfl, R_ints rfl hr, hb⟩
end

/-! ### the bag: all of it, as a law's walk wants it -/
section
variable {w W : World} {g mb cb n : Nat} {s s' : Bg} {i q : Int} {m : Ml} {b : Bool}
theorem bag_take (h : IsBg w W g mb cb n s) (id : Int) (hid : (Lit.int .i64 id).wf = true) :
    Calls Try.prog 12 #[.pointer (some ⟨g, 0, none⟩), .int .i64 id] W fun e W' => e = .returned (.tuple #[mailV (takeB s id).2.1, .int .i64 (takeB s id).2.2]) ∧ IsBg w W' g mb cb n (takeB s id).1 ∧ BgKept W W' g mb cb := by
  unfold takeB
  cases hf : findM s.l id with
  | none => exact bag_take_none h id hid hf
  | some m =>
    dsimp only
    cases hc : s.cuts.contains (ofP m.fr m.too)
    · rw [if_neg (by decide)]; exact bag_take_yes h id hid m hf hc
    · rw [if_pos rfl]; exact bag_take_cut h id hid m hf hc
theorem bag_send' (h : IsBg w W g mb cb n s) (hn : n < 1000000) (f t : Int) (x : ByteArray) (e : sendB s f t x = (s', i, q)) :
    Calls Try.prog 11 #[.pointer (some ⟨g, 0, none⟩), .int .i64 f, .int .i64 t, .string x] W fun e W' => e = .returned (.tuple #[.int .i64 i, .int .i64 q]) ∧ IsBg w W' g mb cb (n + 2) s' ∧ BgKept W W' g mb cb := by
  have := bag_send h hn f t x; rw [e] at this; exact this
theorem bag_twice' (h : IsBg w W g mb cb n s) (hn : n < 1000000) (id : Int) (hid : (Lit.int .i64 id).wf = true) (e : twiceB s id = (s', i, q)) :
    Calls Try.prog 14 #[.pointer (some ⟨g, 0, none⟩), .int .i64 id] W fun e W' => e = .returned (.tuple #[.int .i64 i, .int .i64 q]) ∧ IsBg w W' g mb cb (n + 2) s' ∧ BgKept W W' g mb cb := by
  have := bag_twice h hn id hid; rw [e] at this; exact this
theorem bag_lose' (h : IsBg w W g mb cb n s) (id : Int) (hid : (Lit.int .i64 id).wf = true) (e : loseB s id = (s', q)) :
    Calls Try.prog 13 #[.pointer (some ⟨g, 0, none⟩), .int .i64 id] W fun e W' => e = .returned (.int .i64 q) ∧ IsBg w W' g mb cb n s' ∧ BgKept W W' g mb cb := by
  have := bag_lose h id hid; rw [e] at this; exact this
theorem bag_take' (h : IsBg w W g mb cb n s) (id : Int) (hid : (Lit.int .i64 id).wf = true) (e : takeB s id = (s', m, q)) :
    Calls Try.prog 12 #[.pointer (some ⟨g, 0, none⟩), .int .i64 id] W fun e W' => e = .returned (.tuple #[.agg #[.int .i64 m.id, .int .i64 m.fr, .int .i64 m.too, .string m.t], .int .i64 q]) ∧ IsBg w W' g mb cb n s' ∧ BgKept W W' g mb cb := by
  have := bag_take h id hid; rw [e] at this; exact this
theorem bag_apart' (h : IsBg w W g mb cb n s) (hn : n < 1000000) (x y : Int) (on : Bool) (e : setB s x y on = (s', q)) :
    Calls Try.prog 16 #[.pointer (some ⟨g, 0, none⟩), .int .i64 x, .int .i64 y, .bool on] W fun e W' => e = .returned (.int .i64 q) ∧ IsBg w W' g mb cb (n + 1) s' ∧ BgKept W W' g mb cb := by
  have := bag_apart h hn x y on; rw [e] at this; exact this
theorem bag_find' (h : IsBg w W g mb cb n s) (id : Int) (hid : (Lit.int .i64 id).wf = true) (e : findB s id = (m, b)) :
    Calls Try.prog 21 #[.pointer (some ⟨g, 0, none⟩), .int .i64 id] W fun e W' => e = .returned (.tuple #[.agg #[.int .i64 m.id, .int .i64 m.fr, .int .i64 m.too, .string m.t], .bool b]) ∧ Below W.heap.size W W' := by
  have := bag_find h id hid; rw [e] at this; exact this
end
/-! ### splicelaw10_awake: function 10 (by hand) -/
set_option maxRecDepth 100000 in
set_option maxHeartbeats 4000000 in
theorem awake10 (W : World) : Calls Try.prog 10 #[] W fun e W' => e = .returned (.bool true) ∧ Below W.heap.size W W' := by
  have HN := Aside0.mk (bag_new (Below.refl W.heap.size W))
  go_enter Try.func10, Try.ntmps10
  go_upto_region 2 with (go_at_call 9; refine HN.out.mono ?_; rintro e w1 ⟨rfl, hs, hb⟩; have HS := Aside0.mk hs; clear hs hb)
  clear HN
  generalize W.heap.size + 1 + 1 = g at HS ⊢
  generalize W.heap.size + 1 = cb at HS
  generalize hrb : W.heap.size = mb at HS
  clear hrb
  have HC := Aside0.mk (bag_send' HS.out (by omega) 1 2 ⟨#[97]⟩ (s' := ⟨[⟨1, 1, 2, ⟨#[97]⟩⟩], 1, []⟩) (i := 1) (q := 0) rfl)
  go_upto_region 3 with (go_at_call 11; refine HC.out.mono ?_; rintro e w2 ⟨rfl, hs, hb⟩; replace HS := Aside0.mk hs; clear hs hb)
  clear HC
  have HC := Aside0.mk (bag_twice' HS.out (by omega) 1 (by decide) (s' := ⟨[⟨1, 1, 2, ⟨#[97]⟩⟩, ⟨2, 1, 2, ⟨#[97]⟩⟩], 2, []⟩) (i := 2) (q := 0) rfl)
  go_upto_region 4 with (go_at_call 14; refine HC.out.mono ?_; rintro e w3 ⟨rfl, hs, hb⟩; replace HS := Aside0.mk hs; clear hs hb)
  clear HC
  have HC := Aside0.mk (bag_apart' HS.out (by omega) 2 1 true (s' := ⟨[⟨1, 1, 2, ⟨#[97]⟩⟩, ⟨2, 1, 2, ⟨#[97]⟩⟩], 2, [(1, 2)]⟩) (q := 0) rfl)
  go_upto_region 5 with (go_at_call 16; refine HC.out.mono ?_; rintro e w4 ⟨rfl, hs, hb⟩; replace HS := Aside0.mk hs; clear hs hb)
  clear HC
  have HC := Aside0.mk (bag_take' HS.out 1 (by decide) (s' := ⟨[⟨1, 1, 2, ⟨#[97]⟩⟩, ⟨2, 1, 2, ⟨#[97]⟩⟩], 2, [(1, 2)]⟩) (m := ⟨0, 0, 0, ⟨#[]⟩⟩) (q := 50) rfl)
  go_upto_region 6 with (go_at_call 12; refine HC.out.mono ?_; rintro e w5 ⟨rfl, hs, hb⟩; replace HS := Aside0.mk hs; clear hs hb)
  clear HC
  replace HS := Aside0.mk (HS.out.below (below_alloc (Below.refl _ _) (.cells #[.int .i64 0, .int .i64 0, .int .i64 0, .string ⟨#[]⟩] 34)))
  generalize w5.alloc (.cells #[.int .i64 0, .int .i64 0, .int .i64 0, .string ⟨#[]⟩] 34) = w6 at HS ⊢
  have HC := Aside0.mk (bag_apart' HS.out (by omega) 1 2 false (s' := ⟨[⟨1, 1, 2, ⟨#[97]⟩⟩, ⟨2, 1, 2, ⟨#[97]⟩⟩], 2, []⟩) (q := 0) rfl)
  go_upto_region 7 with (go_at_call 16; refine HC.out.mono ?_; rintro e w7 ⟨rfl, hs, hb⟩; replace HS := Aside0.mk hs; clear hs hb)
  clear HC
  have HC := Aside0.mk (bag_take' HS.out 1 (by decide) (s' := ⟨[⟨2, 1, 2, ⟨#[97]⟩⟩], 2, []⟩) (m := ⟨1, 1, 2, ⟨#[97]⟩⟩) (q := 0) rfl)
  go_upto_region 8 with (go_at_call 12; refine HC.out.mono ?_; rintro e w8 ⟨rfl, hs, hb⟩; replace HS := Aside0.mk hs; clear hs hb)
  clear HC
  have HG8 : Aside0 (w8.heap.size ≠ g ∧ w8.heap.size ≠ mb ∧ w8.heap.size ≠ cb) := ⟨by have := HS.out.lts; omega⟩
  have HX := Aside0.mk (blk_new w8 (.cells #[.int .i64 1, .int .i64 1, .int .i64 2, .string ⟨#[97]⟩] 34))
  replace HS := Aside0.mk (HS.out.below (below_alloc (Below.refl _ _) (.cells #[.int .i64 1, .int .i64 1, .int .i64 2, .string ⟨#[97]⟩] 34)))
  generalize w8.alloc (.cells #[.int .i64 1, .int .i64 1, .int .i64 2, .string ⟨#[97]⟩] 34) = w9 at HS HX ⊢
  generalize w8.heap.size = g8 at HX HG8 ⊢
  have HC := Aside0.mk (bag_take' HS.out 1 (by decide) (s' := ⟨[⟨2, 1, 2, ⟨#[97]⟩⟩], 2, []⟩) (m := ⟨0, 0, 0, ⟨#[]⟩⟩) (q := 4) rfl)
  go_upto_region 9 with (go_at_call 12; refine HC.out.mono ?_; rintro e w10 ⟨rfl, hs, hb⟩; replace HS := Aside0.mk hs; have HKt := Aside0.mk hb; clear hs hb)
  clear HC
  replace HX := Aside0.mk (blk_below ((HKt.out.2 g8 (blk_lt HX.out) HG8.out.1 HG8.out.2.1 HG8.out.2.2).trans HX.out) (below_alloc (Below.refl _ _) (.cells #[.int .i64 0, .int .i64 0, .int .i64 0, .string ⟨#[]⟩] 34)))
  replace HS := Aside0.mk (HS.out.below (below_alloc (Below.refl _ _) (.cells #[.int .i64 0, .int .i64 0, .int .i64 0, .string ⟨#[]⟩] 34)))
  generalize w10.alloc (.cells #[.int .i64 0, .int .i64 0, .int .i64 0, .string ⟨#[]⟩] 34) = w11 at HS HX ⊢
  have x3 : w11.cell? ⟨g8, 3, none⟩ = some (.string ⟨#[97]⟩) := (blk_cell HX.out 3).trans rfl
  go_wp2
  go_ret
  exact ⟨rfl, HS.out.bel⟩

/-! ### slices.IndexFunc, slices.DeleteFunc at ints, with a predicate that may lay blocks of its own: by hand -/
/-- a block that holds ints -/
structure IntB (W : World) (blk cap : Nat) (l : List Int) (cur : Array Value) : Prop where
  at_ : W.heap[blk]? = some (.cells cur 3 (0, 0))
  size : cur.size = cap
  len : l.length ≤ cap
  cap1 : cap ≤ maxLen
  val : ∀ (k : Nat) (x : Int), l[k]? = some x → cur[k]? = some (.int .i64 x)
structure PredI (g : Nat) (lb : Array Value) (p : Int → Bool) (I : World → Prop) (blk : Nat) (l : List Int) : Prop where
  call : ∀ (W : World) (x : Int), x ∈ l → I W → Calls Try.prog g (#[.int .i64 x] ++ lb) W fun e w' => e = .returned (.bool (p x)) ∧ Below W.heap.size W w'
  below : ∀ (W W' : World), I W → Below W.heap.size W W' → I W'
  set : ∀ (W : World) (k : Nat) (v : Value), I W → I (W.setCell ⟨blk, k, none⟩ v)
def ixI (p : Int → Bool) : List Int → Nat → Int
  | [], _ => -1
  | x :: l, i => if p x = true then (i : Int) else ixI p l (i + 1)
theorem ixI_spec (p : Int → Bool) : ∀ (l : List Int) (i : Nat), (ixI p l i = -1 ∧ l.filter (fun x => !p x) = l) ∨ ∃ k : Nat, ∃ x, ixI p l i = ((i + k : Nat) : Int) ∧ l[k]? = some x ∧ p x = true ∧ (l.take k).filter (fun x => !p x) = l.take k := by
  intro l
  induction l with
  | nil => intro i; exact Or.inl ⟨rfl, rfl⟩
  | cons x l ih =>
    intro i
    simp only [ixI]
    by_cases h : p x = true
    · rw [if_pos h]
      exact Or.inr ⟨0, x, by simp, rfl, h, rfl⟩
    · rw [if_neg h]
      have h' : (!p x) = true := by simpa using h
      rcases ih (i + 1) with ⟨h1, h2⟩ | ⟨k, y, h1, h2, h3, h4⟩
      · exact Or.inl ⟨h1, by rw [List.filter_cons, if_pos h', h2]⟩
      · exact Or.inr ⟨k + 1, y, by rw [h1]; congr 1; omega, h2, h3, by rw [List.take_succ_cons, List.filter_cons, if_pos h', h4]⟩
theorem IntB.below {W W' : World} {blk cap : Nat} {l : List Int} {cur : Array Value} (h : IntB W blk cap l cur) (hb : Below W.heap.size W W') : IntB W' blk cap l cur := { h with at_ := blk_below h.at_ hb }
theorem IntB.read {W : World} {blk cap : Nat} {l : List Int} {cur : Array Value} (h : IntB W blk cap l cur) (k : Nat) (x : Int) (hx : l[k]? = some x) : W.cell? ⟨blk, k, none⟩ = some (.int .i64 x) := (blk_cell h.at_ k).trans (h.val k x hx)
set_option maxHeartbeats 4000000 in
set_option maxRecDepth 100000 in
theorem ixfuncI (p : Int → Bool) (g : Nat) (lb : Array Value) (eg : ∀ args w, (callFunc g args).run Try.prog w = .ok (.enter g args) w) (I : World → Prop) (blk cap : Nat) (l : List Int) (cur : Array Value) (w : World)
    (hp : PredI g lb p I blk l) (hI : I w) (hl : IntB w blk cap l cur) (hbig : l.length ≤ 1000000) :
    Calls Try.prog 40 #[.slice (some ⟨blk, 0, none⟩) l.length cap, .func (.func g) #[] lb] w fun e w' => e = .returned (.int .i64 (ixI p l 0)) ∧ I w' ∧ Below w.heap.size w w' := by
  have HL := Aside0.mk hl
  have HI0 := Aside0.mk hI
  have HP := Aside0.mk hp
  clear hl hI hp
  go_enter Try.func40, Try.ntmps40
  go_wp2
  go_loopg [5, 8] l.length (fun gg _ s8 wr => ∃ kk : Nat, kk ≤ l.length ∧ l.length - kk ≤ gg ∧ s8 = .int .i64 kk ∧ Aside0 (Below w.heap.size w wr) ∧ Aside0 (I wr) ∧ Aside0 (ixI p l 0 = ixI p (l.drop kk) kk))
  case atStart => exact ⟨0, Nat.zero_le _, by omega, rfl, ⟨Below.refl _ w⟩, HI0, ⟨by rw [List.drop_zero]⟩⟩
  case round =>
    obtain ⟨kk, hkk, hg, rfl, HB, HI, HX⟩ := hrel
    by_cases hlt : kk < l.length
    · have hltz : (kk : Int) < (l.length : Int) := by omega
      obtain ⟨x, hx⟩ : ∃ x, l[kk]? = some x := ⟨_, List.getElem?_eq_getElem hlt⟩
      have y0 : wr.cell? ⟨blk, kk, none⟩ = some (.int .i64 x) := (HB.out.cell (World.block_lt_of_cell? w _ (HL.out.read kk x hx))).trans (HL.out.read kk x hx)
      have hd := HX.out
      have hdr : l.drop kk = x :: l.drop (kk + 1) := by
        rw [List.drop_eq_getElem_cons hlt]
        congr 1
        exact (List.getElem?_eq_some_iff.1 hx).2
      rw [hdr] at hd
      have hcall := HP.out.call wr x (List.mem_of_getElem? hx) HI.out
      have hd2 := Aside0.mk hd
      clear hd hdr hx
      cases hq : p x with
      | true =>
        rw [hq] at hcall
        have HC := Aside0.mk hcall
        have HQ := Aside0.mk hq
        clear hcall hq
        go_wp2_with (go_at_fn g; refine HC.out.mono ?_; rintro e w' ⟨rfl, hb'⟩; have HB' := Aside0.mk hb'; clear hb')
        go_ret
        refine ⟨?_, HP.out.below _ _ HI.out HB'.out, HB.out.trans (HB'.out.mono HB.out.size)⟩
        rw [hd2.out]
        simp [ixI, HQ.out]
      | false =>
        rw [hq] at hcall
        have HC := Aside0.mk hcall
        have HQ := Aside0.mk hq
        clear hcall hq
        go_wp2_with (go_at_fn g; refine HC.out.mono ?_; rintro e w' ⟨rfl, hb'⟩; have HB' := Aside0.mk hb'; clear hb')
        go_roundg (l.length - (kk + 1))
        case measure => omega
        case rel => exact ⟨kk + 1, by omega, by omega, by go_num, ⟨HB.out.trans (HB'.out.mono HB.out.size)⟩, ⟨HP.out.below _ _ HI.out HB'.out⟩, ⟨by rw [hd2.out]; simp [ixI, HQ.out]⟩⟩
    · have hltz : ¬ (kk : Int) < (l.length : Int) := by omega
      obtain rfl : kk = l.length := by omega
      go_wp2
      go_ret
      refine ⟨?_, HI.out, HB.out⟩
      rw [HX.out, List.drop_length]
      rfl

end Go.Proofs.Ytppoahccmcnenaa.PP
