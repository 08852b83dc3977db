-- written by a program of this session
import Derived.Test.YtppoahccmcnenaaPAx0
import Derived.Test.YtppoahccmcnenaaPAx1
import Derived.Test.YtppoahccmcnenaaPAx2
namespace Go.Proofs.Ytppoahccmcnenaa.PA
open Go.RowKit Go.Proofs.Ytppoahccmcnenaa.Op Go.Proofs.YtppoahccmcnenaaW.PrintWords Go.Proofs.YtppoahccmcnenaaW.PrintLast Go.Proofs.YtppoahccmcnenaaW.PrintMore
attribute [local go_sem] max2_int min2_int max_two min_two max_three min_three max_four min_four   -- for this text's walks alone
set_option linter.unusedVariables false
set_option linter.unusedSimpArgs false

/-! ### the bag: Apart, New -/
def setB (s : Bg) (x y : Int) (on : Bool) : Bg × Int := if (adr x && (adr y && !(x == y))) = true then ({ s with cuts := if on = true then putC s.cuts (ofP x y) else delC s.cuts (ofP x y) }, 0) else (s, 1)
theorem bag_apart_nil (x y : Int) (on : Bool) (W : World) :
    Calls Try.prog 16 #[.pointer none, .int .i64 x, .int .i64 y, .bool on] W fun e W' => e = .returned (.int .i64 1) ∧ W = W' := by
  go_enter Try.func16, Try.ntmps16
  go_wp2
  go_ret
  exact ⟨rfl, rfl⟩
set_option maxHeartbeats 4000000 in
set_option maxRecDepth 100000 in
theorem bag_apart_no (x y : Int) (on : Bool) (g : Nat) (W : World) (hno : (adr x && (adr y && !(x == y))) = false) :
    Calls Try.prog 16 #[.pointer (some ⟨g, 0, none⟩), .int .i64 x, .int .i64 y, .bool on] W fun e W' => e = .returned (.int .i64 1) ∧ W = W' := by
  have HX := Aside0.mk (fun W => bag_address x W)
  have HY := Aside0.mk (fun W => bag_address y W)
  cases hx : adr x
  · rw [hx] at HX
    clear hno hx
    go_enter Try.func16, Try.ntmps16
    go_wp2_with (go_at_call 22; refine (HX.out _).mono ?_; rintro e w1 ⟨rfl, rfl⟩)
    go_ret
    exact ⟨rfl, rfl⟩
  · rw [hx] at HX
    cases hy : adr y
    · rw [hy] at HY
      clear hno hx hy
      go_enter Try.func16, Try.ntmps16
      go_wp2_with (go_at_call 22; first | (with_reducible refine (HX.out _).mono ?_; rintro e w1 ⟨rfl, rfl⟩) | (with_reducible refine (HY.out _).mono ?_; rintro e w1 ⟨rfl, rfl⟩))
      go_ret
      exact ⟨rfl, rfl⟩
    · rw [hy] at HY
      have e : x = y := by rw [hx, hy] at hno; simpa using hno
      subst e
      clear hno hx hy
      go_enter Try.func16, Try.ntmps16
      go_wp2_with (go_at_call 22; first | (with_reducible refine (HX.out _).mono ?_; rintro e w1 ⟨rfl, rfl⟩) | (with_reducible refine (HY.out _).mono ?_; rintro e w1 ⟨rfl, rfl⟩))
      go_ret
      exact ⟨rfl, rfl⟩
set_option maxHeartbeats 4000000 in
set_option maxRecDepth 100000 in
theorem bag_apart_on {w W : World} {g mb cb n : Nat} {s : Bg} (h : IsBg w W g mb cb n s) (hn : n < 1000000) (x y : Int) (hx : adr x = true) (hy : adr y = true) (hne : x ≠ y) :
    Calls Try.prog 16 #[.pointer (some ⟨g, 0, none⟩), .int .i64 x, .int .i64 y, .bool true] W fun e W' => e = .returned (.int .i64 0) ∧ IsBg w W' g mb cb (n + 1) { s with cuts := putC s.cuts (ofP x y) } ∧ BgKept W W' g mb cb := by
  have HX := Aside0.mk (fun W => bag_address x W)
  have HY := Aside0.mk (fun W => bag_address y W)
  obtain ⟨kl, hkl⟩ := of_key ((adr_iff x).1 hx) ((adr_iff y).1 hy)
  have HK := Aside0.mk hkl
  have HN := Aside0.mk hn
  rw [hx] at HX
  rw [hy] at HY
  have HS := Aside0.mk (h.below (below_drew1 (Below.refl _ _)))
  have q0 : (x == y) = false := beq_eq_false_iff_ne.mpr hne
  have q1 : decide (x = y) = false := decide_eq_false hne
  have HKp := Aside0.mk (BgKept.below (g := g) (rb := mb) (mb := cb) (below_drew1 (Below.refl W.heap.size W)))
  clear h hx hy hne hkl hn
  go_enter Try.func16, Try.ntmps16
  go_upto_region 4 with (go_at_call 22; first | (with_reducible refine (HX.out _).mono ?_; rintro e w1 ⟨rfl, rfl⟩) | (with_reducible refine (HY.out _).mono ?_; rintro e w1 ⟨rfl, rfl⟩))
  obtain ⟨c0, c1, c2, f1⟩ := HS.out.cells
  refine start_ (n := 8) (S := fun w' => w'.cell? ⟨g, 2, none⟩ = some (.map (some cb))) (ds := []) #[false, false, false, false, false, false, false, false] (by kernel_rfl) rfl rfl c2 (fun hHeld => ?_); refine with_tabW bagApart4.tab bagApart4.bits (fun HT_ HW_ => ?_)
  refine pure_ (i := 0) (N := some 27) (v := ?_) (a' := ?_) #[true, false, false, false, false, false, false, false] rfl rfl (any_of HT_.out (by kernel_rfl)) (fun _ _ _ h => h) (Or.inl ⟨by rfl, ?_⟩) ?_ ?_
  rotate_left
  · intro w'
    go_simp
    with_reducible rfl
  rotate_left
  · simp only [Act.put, List.setIfInBounds_toArray, List.set_cons_zero, List.set_cons_succ, i64_w, i32_w]
    rfl
  refine pure_ (i := 1) (N := some 28) (v := ?_) (a' := ?_) #[true, true, false, false, false, false, false, false] rfl rfl (any_of HT_.out (by kernel_rfl)) (fun _ _ _ h => h) (Or.inl ⟨by rfl, ?_⟩) ?_ ?_
  rotate_left
  · intro w'
    go_simp
    with_reducible rfl
  rotate_left
  · simp only [Act.put, List.setIfInBounds_toArray, List.set_cons_zero, List.set_cons_succ, i64_w, i32_w]
    rfl
  refine pure_ (i := 2) (N := some 29) (v := ?_) (a' := ?_) #[true, true, true, false, false, false, false, false] rfl rfl (any_of HT_.out (by kernel_rfl)) (fun _ _ _ h => h) (Or.inl ⟨by rfl, ?_⟩) ?_ ?_
  rotate_left
  · intro w'
    go_simp
    with_reducible rfl
  rotate_left
  · simp only [Act.put, List.setIfInBounds_toArray, List.set_cons_zero, List.set_cons_succ, i64_w, i32_w]
    rfl
  refine take_ (i := 3) (N := some 30) (v := ?_) (a' := ?_) #[true, true, true, true, false, false, false, false] rfl rfl (take_ofW HT_.out HW_.out (by kernel_rfl)) (fun _ _ _ h => h) (Or.inl ⟨by rfl, ?_⟩) hHeld ?_ ?_
  rotate_left
  · rintro w' s0
    go_simp
    with_reducible rfl
  rotate_left
  · simp only [Act.put, List.setIfInBounds_toArray, List.set_cons_zero, List.set_cons_succ, i64_w, i32_w]
    rfl
  refine pure_ (i := 4) (N := some 31) (v := ?_) (a' := ?_) #[true, true, true, true, true, false, false, false] rfl rfl (any_of HT_.out (by kernel_rfl)) (fun _ _ _ h => h) (Or.inl ⟨by rfl, ?_⟩) ?_ ?_
  rotate_left
  · intro w'
    go_simp
    with_reducible rfl
  rotate_left
  · simp only [Act.put, List.setIfInBounds_toArray, List.set_cons_zero, List.set_cons_succ, i64_w, i32_w]
    rfl
  refine pure_ (i := 5) (N := some 32) (v := ?_) (a' := ?_) #[true, true, true, true, true, true, false, false] rfl rfl (any_of HT_.out (by kernel_rfl)) (fun _ _ _ h => h) (Or.inl ⟨by rfl, ?_⟩) ?_ ?_
  rotate_left
  · intro w'
    go_simp
    with_reducible rfl
  rotate_left
  · simp only [Act.put, List.setIfInBounds_toArray, List.set_cons_zero, List.set_cons_succ, i64_w, i32_w]
    rfl
  refine one_ (i := 6) (N := some 33) #[true, true, true, true, true, true, true, false] rfl rfl (one_of HT_.out (by kernel_rfl)) (by decide) (fun K hK => ?_)
  refine goes_ Try.func25 (by kernel_rfl) rfl #[.int .i64 x, .int .i64 y] (by rfl) rfl rfl (by (try simp only [List.map_toArray, List.map_cons, List.map_nil]); first | done | rfl) ?_
  with_reducible refine (bag_of x y _).mono ?_
  rintro e w6 ⟨rfl, hb⟩
  refine ⟨_, rfl, ?_⟩
  replace HS := Aside0.mk (HS.out.below hb)
  replace HKp := Aside0.mk (HKp.out.trans (BgKept.below hb))
  refine hK.out _ _ (cell_below hb hHeld) (fun hHeld => ?_)
  clear hK K hb
  refine norm_ (a' := ?_) ?_ ?_
  rotate_left
  · show Act.put _ (some 33) _ = _
    simp only [Act.put, List.setIfInBounds_toArray, List.set_cons_zero, List.set_cons_succ, i64_w, i32_w]
    rfl
  refine one_ (i := 7) (N := none) #[true, true, true, true, true, true, true, true] rfl rfl (one_of HT_.out (by kernel_rfl)) (by decide) (fun K hK => ?_)
  obtain ⟨E, hown, hE⟩ := HS.out.cut
  obtain ⟨w7, hrun, h1, ht⟩ := hown.store pairKeyed Try.underlying59 (by have := HN.out; unfold maxLen; omega) HK.out (plainElem_bool (H := Unit) Try.underlying4 true)
  refine upd_ _ _ _ _ (by rfl) rfl rfl _ _ _ rfl rfl rfl hrun ?_
  obtain ⟨hs, hk⟩ := HS.out.putE hown hE HK.out h1 ht.grown
  replace HKp := Aside0.mk (HKp.out.trans hk)
  replace HS := Aside0.mk hs
  refine hK.out _ _ HS.out.cells.2.2.1 (fun hHeld => ?_)
  clear hK K hs hk hown hE hrun h1 ht
  refine done_ (done_of HT_.out (by kernel_rfl)) ?_
  clear HT_ HW_ hHeld
  go_wp2
  go_ret
  exact ⟨rfl, HS.out, HKp.out⟩
set_option maxHeartbeats 4000000 in
set_option maxRecDepth 100000 in
theorem bag_apart_off {w W : World} {g mb cb n : Nat} {s : Bg} (h : IsBg w W g mb cb n s) (x y : Int) (hx : adr x = true) (hy : adr y = true) (hne : x ≠ y) :
    Calls Try.prog 16 #[.pointer (some ⟨g, 0, none⟩), .int .i64 x, .int .i64 y, .bool false] W fun e W' => e = .returned (.int .i64 0) ∧ IsBg w W' g mb cb (n + 1) { s with cuts := delC s.cuts (ofP x y) } ∧ BgKept W W' g mb cb := by
  have HX := Aside0.mk (fun W => bag_address x W)
  have HY := Aside0.mk (fun W => bag_address y W)
  obtain ⟨kl, hkl⟩ := of_key ((adr_iff x).1 hx) ((adr_iff y).1 hy)
  have HK := Aside0.mk hkl
  rw [hx] at HX
  rw [hy] at HY
  have HS := Aside0.mk (h.below (below_drew1 (Below.refl _ _)))
  have q0 : (x == y) = false := beq_eq_false_iff_ne.mpr hne
  have q1 : decide (x = y) = false := decide_eq_false hne
  have HKp := Aside0.mk (BgKept.below (g := g) (rb := mb) (mb := cb) (below_drew1 (Below.refl W.heap.size W)))
  clear h hx hy hne hkl
  go_enter Try.func16, Try.ntmps16
  go_upto_region 5 with (go_at_call 22; first | (with_reducible refine (HX.out _).mono ?_; rintro e w1 ⟨rfl, rfl⟩) | (with_reducible refine (HY.out _).mono ?_; rintro e w1 ⟨rfl, rfl⟩))
  obtain ⟨c0, c1, c2, f1⟩ := HS.out.cells
  refine start_ (n := 8) (S := fun w' => w'.cell? ⟨g, 2, none⟩ = some (.map (some cb))) (ds := []) #[false, false, false, false, false, false, false, false] (by kernel_rfl) rfl rfl c2 (fun hHeld => ?_); refine with_tabW bagApart5.tab bagApart5.bits (fun HT_ HW_ => ?_)
  refine pure_ (i := 0) (N := some 34) (v := ?_) (a' := ?_) #[true, false, false, false, false, false, false, false] rfl rfl (any_of HT_.out (by kernel_rfl)) (fun _ _ _ h => h) (Or.inl ⟨by rfl, ?_⟩) ?_ ?_
  rotate_left
  · intro w'
    go_simp
    with_reducible rfl
  rotate_left
  · simp only [Act.put, List.setIfInBounds_toArray, List.set_cons_zero, List.set_cons_succ, i64_w, i32_w]
    rfl
  refine pure_ (i := 1) (N := some 35) (v := ?_) (a' := ?_) #[true, true, false, false, false, false, false, false] rfl rfl (any_of HT_.out (by kernel_rfl)) (fun _ _ _ h => h) (Or.inl ⟨by rfl, ?_⟩) ?_ ?_
  rotate_left
  · intro w'
    go_simp
    with_reducible rfl
  rotate_left
  · simp only [Act.put, List.setIfInBounds_toArray, List.set_cons_zero, List.set_cons_succ, i64_w, i32_w]
    rfl
  refine pure_ (i := 2) (N := some 36) (v := ?_) (a' := ?_) #[true, true, true, false, false, false, false, false] rfl rfl (any_of HT_.out (by kernel_rfl)) (fun _ _ _ h => h) (Or.inl ⟨by rfl, ?_⟩) ?_ ?_
  rotate_left
  · intro w'
    go_simp
    with_reducible rfl
  rotate_left
  · simp only [Act.put, List.setIfInBounds_toArray, List.set_cons_zero, List.set_cons_succ, i64_w, i32_w]
    rfl
  refine take_ (i := 3) (N := some 37) (v := ?_) (a' := ?_) #[true, true, true, true, false, false, false, false] rfl rfl (take_ofW HT_.out HW_.out (by kernel_rfl)) (fun _ _ _ h => h) (Or.inl ⟨by rfl, ?_⟩) hHeld ?_ ?_
  rotate_left
  · rintro w' s0
    go_simp
    with_reducible rfl
  rotate_left
  · simp only [Act.put, List.setIfInBounds_toArray, List.set_cons_zero, List.set_cons_succ, i64_w, i32_w]
    rfl
  refine pure_ (i := 4) (N := some 38) (v := ?_) (a' := ?_) #[true, true, true, true, true, false, false, false] rfl rfl (any_of HT_.out (by kernel_rfl)) (fun _ _ _ h => h) (Or.inl ⟨by rfl, ?_⟩) ?_ ?_
  rotate_left
  · intro w'
    go_simp
    with_reducible rfl
  rotate_left
  · simp only [Act.put, List.setIfInBounds_toArray, List.set_cons_zero, List.set_cons_succ, i64_w, i32_w]
    rfl
  refine pure_ (i := 5) (N := some 39) (v := ?_) (a' := ?_) #[true, true, true, true, true, true, false, false] rfl rfl (any_of HT_.out (by kernel_rfl)) (fun _ _ _ h => h) (Or.inl ⟨by rfl, ?_⟩) ?_ ?_
  rotate_left
  · intro w'
    go_simp
    with_reducible rfl
  rotate_left
  · simp only [Act.put, List.setIfInBounds_toArray, List.set_cons_zero, List.set_cons_succ, i64_w, i32_w]
    rfl
  refine one_ (i := 6) (N := some 40) #[true, true, true, true, true, true, true, false] rfl rfl (one_of HT_.out (by kernel_rfl)) (by decide) (fun K hK => ?_)
  refine goes_ Try.func25 (by kernel_rfl) rfl #[.int .i64 x, .int .i64 y] (by rfl) rfl rfl (by (try simp only [List.map_toArray, List.map_cons, List.map_nil]); first | done | rfl) ?_
  with_reducible refine (bag_of x y _).mono ?_
  rintro e w6 ⟨rfl, hb⟩
  refine ⟨_, rfl, ?_⟩
  replace HS := Aside0.mk (HS.out.below hb)
  replace HKp := Aside0.mk (HKp.out.trans (BgKept.below hb))
  refine hK.out _ _ (cell_below hb hHeld) (fun hHeld => ?_)
  clear hK K hb
  refine norm_ (a' := ?_) ?_ ?_
  rotate_left
  · show Act.put _ (some 40) _ = _
    simp only [Act.put, List.setIfInBounds_toArray, List.set_cons_zero, List.set_cons_succ, i64_w, i32_w]
    rfl
  refine one_ (i := 7) (N := none) #[true, true, true, true, true, true, true, true] rfl rfl (one_of HT_.out (by kernel_rfl)) (by decide) (fun K hK => ?_)
  obtain ⟨E, hown, hE⟩ := HS.out.cut
  obtain ⟨w7, hrun, h1, ht⟩ := hown.drop pairKeyed Try.underlying59 HK.out 0
  refine del_ _ _ _ _ (by rfl) rfl rfl _ _ rfl rfl hrun ?_
  obtain ⟨hs, hk⟩ := HS.out.delE hE HK.out h1 ht.grown
  replace HKp := Aside0.mk (HKp.out.trans hk)
  replace HS := Aside0.mk (hs.more (Nat.le_succ n))
  refine hK.out _ _ HS.out.cells.2.2.1 (fun hHeld => ?_)
  clear hK K hs hk hown hE hrun h1 ht
  refine done_ (done_of HT_.out (by kernel_rfl)) ?_
  clear HT_ HW_ hHeld
  go_wp2
  go_ret
  exact ⟨rfl, HS.out, HKp.out⟩
theorem bag_apart {w W : World} {g mb cb n : Nat} {s : Bg} (h : IsBg w W g mb cb n s) (hn : n < 1000000) (x y : Int) (on : Bool) :
    Calls Try.prog 16 #[.pointer (some ⟨g, 0, none⟩), .int .i64 x, .int .i64 y, .bool on] W fun e W' => e = .returned (.int .i64 (setB s x y on).2) ∧ IsBg w W' g mb cb (n + 1) (setB s x y on).1 ∧ BgKept W W' g mb cb := by
  unfold setB
  cases hh : (adr x && (adr y && !(x == y)))
  · rw [if_neg (by decide)]
    refine (bag_apart_no x y on g W hh).mono ?_
    rintro e W' ⟨rfl, rfl⟩
    exact ⟨rfl, h.more (by omega), BgKept.refl _ _ _ _⟩
  · rw [if_pos rfl]
    simp only [Bool.and_eq_true, Bool.not_eq_true', beq_eq_false_iff_ne] at hh
    cases on
    · exact bag_apart_off h x y hh.1 hh.2.1 hh.2.2
    · exact bag_apart_on h hn x y hh.1 hh.2.1 hh.2.2
def newB : Bg := ⟨[], 0, []⟩
theorem newB_as : BgAs (.map [] : DW) newB.l := ⟨fun _ => rfl, fun _ _ h => by simp [newB, findM] at h, fun _ h => by simp [Maps.has] at h, rfl⟩
theorem newB_cut : CutAs (.map [] : DW) newB.cuts := ⟨fun _ _ _ _ => ⟨rfl, fun h => by simp [newB] at h⟩⟩
set_option maxRecDepth 100000 in
theorem bag_new {w W : World} (hb : Below w.heap.size w W) :
    Calls Try.prog 9 #[] W fun e W' => e = .returned (.pointer (some ⟨W.heap.size + 1 + 1, 0, none⟩)) ∧ IsBg w W' (W.heap.size + 1 + 1) W.heap.size (W.heap.size + 1) 0 newB ∧ Below W.heap.size W W' := by
  have hmm := @run_makeMap Try.prog
  have HI : Aside0 (IsBg w (((W.alloc (.map #[] 0)).alloc (.map #[] 0)).alloc (.cells #[.map (some W.heap.size), .int .i64 0, .map (some (W.heap.size + 1))] 61)) (W.heap.size + 1 + 1) W.heap.size (W.heap.size + 1) 0 newB ∧ Below W.heap.size W (((W.alloc (.map #[] 0)).alloc (.map #[] 0)).alloc (.cells #[.map (some W.heap.size), .int .i64 0, .map (some (W.heap.size + 1))] 61))) := ⟨by
    have s1 : (W.alloc (.map #[] 0)).heap.size = W.heap.size + 1 := alloc_size _ _
    have s2 : ((W.alloc (.map #[] 0)).alloc (.map #[] 0)).heap.size = W.heap.size + 1 + 1 := by rw [alloc_size, s1]
    have hz := hb.size
    have hbw : Below W.heap.size W (((W.alloc (.map #[] 0)).alloc (.map #[] 0)).alloc (.cells #[.map (some W.heap.size), .int .i64 0, .map (some (W.heap.size + 1))] 61)) := below_alloc (below_alloc (below_alloc (Below.refl _ _) _) _) _
    have m1 := World.ownsMap_made (H := Unit) W Try.prog 3 mailE
    have m2 := World.ownsMap_made (H := Unit) (W.alloc (.map #[] 0)) Try.prog 65 (plainElem Try.prog 4)
    rw [s1] at m2
    refine ⟨⟨?_, ⟨_, (m1.alloc _).alloc _, newB_as⟩, ⟨_, m2.alloc _, newB_cut⟩, by simp [newB], by simp [newB], by simp [newB], by simp [newB], by omega, by omega, by omega, by omega, by omega, by omega, hb.trans (hbw.mono hz)⟩, hbw⟩
    have := blk_new ((W.alloc (.map #[] 0)).alloc (.map #[] 0)) (.cells #[.map (some W.heap.size), .int .i64 0, .map (some (W.heap.size + 1))] 61)
    rw [s2] at this
    exact this⟩
  clear hb
  go_enter Try.func9, Try.ntmps9
  go_wp2
  go_ret
  exact ⟨rfl, HI.out⟩

section
open Go.Maps Go.Sort Go.Shelf
/-! ### the bag: IDs -/
def idsL (l : List Ml) : List Int := l.map (fun m => m.id)
theorem mem_idsL (l : List Ml) (x : Int) : x ∈ idsL l ↔ (findM l x).isSome = true := by
  unfold idsL findM
  rw [List.find?_isSome, List.mem_map]
  constructor
  · rintro ⟨m, hm, rfl⟩; exact ⟨m, hm, by simp⟩
  · rintro ⟨m, hm, h⟩; exact ⟨m, hm, by simpa using h⟩
theorem idsL_lt {l : List Ml} (h : l.Pairwise (fun a b => a.id < b.id)) : (idsL l).Pairwise (· < ·) := by
  unfold idsL; rw [List.pairwise_map]; exact h
theorem idsL_perm {D : DW} {l : List Ml} (h : BgAs D l) (ha : l.Pairwise (fun a b => a.id < b.id)) {es : List (Lit × DW)} (e : D = .map es) (hp : es.Pairwise (fun p q => p.1 ≠ q.1)) (hk : ∀ p ∈ es, WideAt.IsKeyLit p.1) : (idsL l).Perm (intKeys D) := by
  subst e
  refine perm_intKeys hp (fun p hp2 => ?_) ((idsL_lt ha).imp (fun h => by omega)) (fun x => by rw [mem_idsL, h.has])
  have hh : Maps.has (.map es : DW) p.1 = true := by
    rw [Maps.has_eq, List.any_eq_true]
    exact ⟨p, hp2, WideAt.sameKey_self (hk p hp2)⟩
  obtain ⟨i, e⟩ := h.in_ _ hh
  exact ⟨_, e⟩
theorem asc_sort {l ss : List Int} (hl : l.Pairwise (· < ·)) (h : ss.Perm l) : ss.mergeSort (fun x y => decide (x ≤ y)) = l := by
  have tr : ∀ a b c : Int, decide (a ≤ b) = true → decide (b ≤ c) = true → decide (a ≤ c) = true := fun a b c h1 h2 => by simp only [decide_eq_true_eq] at *; omega
  have tot : ∀ a b : Int, (decide (a ≤ b) || decide (b ≤ a)) = true := fun a b => by simp only [Bool.or_eq_true, decide_eq_true_eq]; omega
  refine List.Perm.eq_of_pairwise (le := fun a b => decide (a ≤ b) = true) (fun a b _ _ h1 h2 => ?_) (List.pairwise_mergeSort tr tot ss) (hl.imp (fun h => decide_eq_true (by omega))) ((List.mergeSort_perm ss _).trans h)
  simp only [decide_eq_true_eq] at h1 h2
  omega
theorem reps_ints (l : List Int) : Reps (fun (x : Int) cs => cs = [Value.int .i64 x]) 1 l (l.map (Value.int .i64)) := by
  refine ⟨by simp, fun j p hp => ?_⟩
  rw [Nat.mul_one]
  obtain ⟨hj, hx⟩ := List.getElem?_eq_some_iff.1 hp
  rw [List.drop_eq_getElem_cons (by simpa using hj)]
  simp [hx]
theorem R_ints {W : World} {base : Nat} {v : Value} {l : List Int} {m : Nat} (hm : m = l.length) (h : W.ownsRow base 3 1 v m (l.map encZ)) : Kd.R (Kd.int .i64) 3 W base (fun _ => True) v l := by
  subst hm
  exact ⟨fun _ _ => trivial, l.map encZ, h, reps_ints l⟩
theorem Try.sortsA (m : Nat) : AnyZI.SortsIn Try.prog Go.Proofs.Try.sortedA_ren Fence.wide m :=
  ⟨fun blk off cap ss W hH hblk hsz => callsIn_wide.2 (AnyM.slices_Sort_int Go.Proofs.Try.sortA blk off cap ss W hH hblk hsz),
   fun p cap W => callsIn_wide.2 (AnyM.slices_Sort_int_none Go.Proofs.Try.sortA p cap W)⟩
theorem bag_ids_nil (W : World) :
    Calls Try.prog 15 #[.pointer none] W fun e W' => e = .returned (.slice none 0 0) ∧ W = W' := by
  go_enter Try.func15, Try.ntmps15
  go_wp2
  go_ret
  exact ⟨rfl, rfl⟩
set_option maxHeartbeats 1000000 in
theorem bag_idsW {w W : World} {g mb cb n : Nat} {s : Bg} (h : IsBg w W g mb cb n s) (hn : n ≤ 1000000) :
    Calls Try.prog 15 #[.pointer (some ⟨g, 0, none⟩)] W fun e W' => ∃ v, e = .returned v ∧ W'.ownsRow W.heap.size 3 1 v (idsL s.l).length ((idsL s.l).map encZ) ∧ Below W.heap.size W W' := by
  obtain ⟨D, hown, hA⟩ := h.map
  obtain ⟨c0, c1, _, _⟩ := h.cells
  obtain ⟨es, eD, hp, hk⟩ := hown.entries (Maps.int_keyed Try.underlying3)
  have hperm := idsL_perm hA h.asc eD hp hk
  have hasc := idsL_lt h.asc
  have hsz := hown.size_le
  refine (callsIn_wide (n := 6)).1 ?_
  have hbl := hown.lt
  have hseq : SeqGives Fence.wide 2 Try.prog 39 #[.pointer (some ⟨W.heap.size, 0, none⟩)] encZ (fun ss => ss.Perm (intKeys D)) (Maps.size D) (W.alloc (.cells #[.map (some mb)] 58)) :=
    AnyZI.keys_gives (ρ := Go.Proofs.Try.keysA_ren) { Go.Proofs.Try.keysA with } Fence.wide _ trivial rfl (by omega) W.heap.size mb n D _ (by simp) (by simp) (by
      obtain ⟨es, clock, hb, Ft, hs, hD⟩ := hown
      exact ⟨es, clock, (Below.heap_alloc _ _ mb hbl).trans hb, Ft, hs, hD⟩)
  have cK : ∀ mb W, CallsIn Fence.wide 5 Try.prog 27 #[.map mb] W fun e w' => e = .returned (.func (.func 39) #[] #[.pointer (some ⟨W.heap.size, 0, none⟩)]) ∧ w' = W.alloc (.cells #[.map mb] 58) := fun mb W => AnyZI.keys_in Go.Proofs.Try.keysA Fence.wide 5 trivial rfl mb W
  have cS := AnyZI.sorted_in Go.Proofs.Try.sortedA Fence.wide 5 trivial trivial trivial trivial rfl (by omega) (Try.sortsA _) (enters_of Try.func38 (by kernel_rfl) rfl) 39 #[.pointer (some ⟨W.heap.size, 0, none⟩)] trivial (enters_of Try.func39 (by kernel_rfl) rfl) _ _ (by unfold maxLen; omega) (by omega) _ hseq
  change CallsIn _ _ Try.prog 26 _ _ _ at cS
  have hfK : Fence.wide.fn 27 := trivial
  have hfS : Fence.wide.fn 26 := trivial
  refine callsIn_of_wp Try.func15 rfl trivial ?_ rfl
  have HP := Aside0.mk hperm
  have HAs := Aside0.mk hasc
  clear hperm hp hk eD hA hown hsz hseq h hasc
  simp only [Try.ntmps15, List.size_toArray, List.length_cons, List.length_nil, Nat.reduceAdd, Nat.reduceSub, Array.replicate_succ, Array.replicate_zero, List.push_toArray, List.append_toArray, List.nil_append, List.cons_append]
  gi_wp2_with (first
    | (gi_at_call 27; refine (cK _ _).mono ?_; rintro e w' ⟨rfl, rfl⟩)
    | (gi_at_call 26; refine cS.mono ?_; rintro e w' ⟨v, ss, rfl, hS, hrow, hnil, hb⟩))
  go_ret
  have hp2 := hS.trans HP.out.symm
  have hrow2 := ownsRow_base_a (base' := W.heap.size) hrow (by simp)
  rw [show (ss.mergeSort leI) = idsL s.l from asc_sort HAs.out hp2] at hrow2
  rw [hp2.length_eq] at hrow2
  exact ⟨v, rfl, hrow2, ((Below.refl _ W).alloc (Nat.le_refl _) _).trans (hb.mono (by simp))⟩
theorem bag_ids {w W : World} {g mb cb n : Nat} {s : Bg} (h : IsBg w W g mb cb n s) (hn : n ≤ 1000000) :
    Calls Try.prog 15 #[.pointer (some ⟨g, 0, none⟩)] W fun e W' => ∃ v, e = .returned v ∧ Kd.R (Kd.int .i64) 3 W' W.heap.size (fun _ => True) v (idsL s.l) ∧ Below W.heap.size W W' := by
  refine (bag_idsW h hn).mono ?_
  rintro e W' ⟨v, rfl, hr, hb⟩
  exact ⟨v, rfl, R_ints rfl hr, hb⟩
end

/-! ### the bag: all of it, as a law's walk wants it -/
section
variable {w W : World} {g mb cb n : Nat} {s s' : Bg} {i q : Int} {m : Ml} {b : Bool}
theorem bag_take (h : IsBg w W g mb cb n s) (id : Int) (hid : (Lit.int .i64 id).wf = true) :
    Calls Try.prog 12 #[.pointer (some ⟨g, 0, none⟩), .int .i64 id] W fun e W' => e = .returned (.tuple #[mailV (takeB s id).2.1, .int .i64 (takeB s id).2.2]) ∧ IsBg w W' g mb cb n (takeB s id).1 ∧ BgKept W W' g mb cb := by
  unfold takeB
  cases hf : findM s.l id with
  | none => exact bag_take_none h id hid hf
  | some m =>
    dsimp only
    cases hc : s.cuts.contains (ofP m.fr m.too)
    · rw [if_neg (by decide)]; exact bag_take_yes h id hid m hf hc
    · rw [if_pos rfl]; exact bag_take_cut h id hid m hf hc
theorem bag_send' (h : IsBg w W g mb cb n s) (hn : n < 1000000) (f t : Int) (x : ByteArray) (e : sendB s f t x = (s', i, q)) :
    Calls Try.prog 11 #[.pointer (some ⟨g, 0, none⟩), .int .i64 f, .int .i64 t, .string x] W fun e W' => e = .returned (.tuple #[.int .i64 i, .int .i64 q]) ∧ IsBg w W' g mb cb (n + 2) s' ∧ BgKept W W' g mb cb := by
  have := bag_send h hn f t x; rw [e] at this; exact this
theorem bag_twice' (h : IsBg w W g mb cb n s) (hn : n < 1000000) (id : Int) (hid : (Lit.int .i64 id).wf = true) (e : twiceB s id = (s', i, q)) :
    Calls Try.prog 14 #[.pointer (some ⟨g, 0, none⟩), .int .i64 id] W fun e W' => e = .returned (.tuple #[.int .i64 i, .int .i64 q]) ∧ IsBg w W' g mb cb (n + 2) s' ∧ BgKept W W' g mb cb := by
  have := bag_twice h hn id hid; rw [e] at this; exact this
theorem bag_lose' (h : IsBg w W g mb cb n s) (id : Int) (hid : (Lit.int .i64 id).wf = true) (e : loseB s id = (s', q)) :
    Calls Try.prog 13 #[.pointer (some ⟨g, 0, none⟩), .int .i64 id] W fun e W' => e = .returned (.int .i64 q) ∧ IsBg w W' g mb cb n s' ∧ BgKept W W' g mb cb := by
  have := bag_lose h id hid; rw [e] at this; exact this
theorem bag_take' (h : IsBg w W g mb cb n s) (id : Int) (hid : (Lit.int .i64 id).wf = true) (e : takeB s id = (s', m, q)) :
    Calls Try.prog 12 #[.pointer (some ⟨g, 0, none⟩), .int .i64 id] W fun e W' => e = .returned (.tuple #[.agg #[.int .i64 m.id, .int .i64 m.fr, .int .i64 m.too, .string m.t], .int .i64 q]) ∧ IsBg w W' g mb cb n s' ∧ BgKept W W' g mb cb := by
  have := bag_take h id hid; rw [e] at this; exact this
theorem bag_apart' (h : IsBg w W g mb cb n s) (hn : n < 1000000) (x y : Int) (on : Bool) (e : setB s x y on = (s', q)) :
    Calls Try.prog 16 #[.pointer (some ⟨g, 0, none⟩), .int .i64 x, .int .i64 y, .bool on] W fun e W' => e = .returned (.int .i64 q) ∧ IsBg w W' g mb cb (n + 1) s' ∧ BgKept W W' g mb cb := by
  have := bag_apart h hn x y on; rw [e] at this; exact this
theorem bag_find' (h : IsBg w W g mb cb n s) (id : Int) (hid : (Lit.int .i64 id).wf = true) (e : findB s id = (m, b)) :
    Calls Try.prog 21 #[.pointer (some ⟨g, 0, none⟩), .int .i64 id] W fun e W' => e = .returned (.tuple #[.agg #[.int .i64 m.id, .int .i64 m.fr, .int .i64 m.too, .string m.t], .bool b]) ∧ Below W.heap.size W W' := by
  have := bag_find h id hid; rw [e] at this; exact this
end
/-! ### splicelaw10_awake: function 10 (by hand) -/
set_option maxRecDepth 100000 in
set_option maxHeartbeats 4000000 in
theorem awake10 (W : World) : Calls Try.prog 10 #[] W fun e W' => e = .returned (.bool true) ∧ Below W.heap.size W W' := by
  have HN := Aside0.mk (bag_new (Below.refl W.heap.size W))
  go_enter Try.func10, Try.ntmps10
  go_upto_region 2 with (go_at_call 9; refine HN.out.mono ?_; rintro e w1 ⟨rfl, hs, hb⟩; have HS := Aside0.mk hs; clear hs hb)
  clear HN
  generalize W.heap.size + 1 + 1 = g at HS ⊢
  generalize W.heap.size + 1 = cb at HS
  generalize hrb : W.heap.size = mb at HS
  clear hrb
  have HC := Aside0.mk (bag_send' HS.out (by omega) 1 2 ⟨#[97]⟩ (s' := ⟨[⟨1, 1, 2, ⟨#[97]⟩⟩], 1, []⟩) (i := 1) (q := 0) rfl)
  go_upto_region 3 with (go_at_call 11; refine HC.out.mono ?_; rintro e w2 ⟨rfl, hs, hb⟩; replace HS := Aside0.mk hs; clear hs hb)
  clear HC
  have HC := Aside0.mk (bag_twice' HS.out (by omega) 1 (by decide) (s' := ⟨[⟨1, 1, 2, ⟨#[97]⟩⟩, ⟨2, 1, 2, ⟨#[97]⟩⟩], 2, []⟩) (i := 2) (q := 0) rfl)
  go_upto_region 4 with (go_at_call 14; refine HC.out.mono ?_; rintro e w3 ⟨rfl, hs, hb⟩; replace HS := Aside0.mk hs; clear hs hb)
  clear HC
  have HC := Aside0.mk (bag_apart' HS.out (by omega) 2 1 true (s' := ⟨[⟨1, 1, 2, ⟨#[97]⟩⟩, ⟨2, 1, 2, ⟨#[97]⟩⟩], 2, [(1, 2)]⟩) (q := 0) rfl)
  go_upto_region 5 with (go_at_call 16; refine HC.out.mono ?_; rintro e w4 ⟨rfl, hs, hb⟩; replace HS := Aside0.mk hs; clear hs hb)
  clear HC
  have HC := Aside0.mk (bag_take' HS.out 1 (by decide) (s' := ⟨[⟨1, 1, 2, ⟨#[97]⟩⟩, ⟨2, 1, 2, ⟨#[97]⟩⟩], 2, [(1, 2)]⟩) (m := ⟨0, 0, 0, ⟨#[]⟩⟩) (q := 50) rfl)
  go_upto_region 6 with (go_at_call 12; refine HC.out.mono ?_; rintro e w5 ⟨rfl, hs, hb⟩; replace HS := Aside0.mk hs; clear hs hb)
  clear HC
  replace HS := Aside0.mk (HS.out.below (below_alloc (Below.refl _ _) (.cells #[.int .i64 0, .int .i64 0, .int .i64 0, .string ⟨#[]⟩] 34)))
  generalize w5.alloc (.cells #[.int .i64 0, .int .i64 0, .int .i64 0, .string ⟨#[]⟩] 34) = w6 at HS ⊢
  have HC := Aside0.mk (bag_apart' HS.out (by omega) 1 2 false (s' := ⟨[⟨1, 1, 2, ⟨#[97]⟩⟩, ⟨2, 1, 2, ⟨#[97]⟩⟩], 2, []⟩) (q := 0) rfl)
  go_upto_region 7 with (go_at_call 16; refine HC.out.mono ?_; rintro e w7 ⟨rfl, hs, hb⟩; replace HS := Aside0.mk hs; clear hs hb)
  clear HC
  have HC := Aside0.mk (bag_take' HS.out 1 (by decide) (s' := ⟨[⟨2, 1, 2, ⟨#[97]⟩⟩], 2, []⟩) (m := ⟨1, 1, 2, ⟨#[97]⟩⟩) (q := 0) rfl)
  go_upto_region 8 with (go_at_call 12; refine HC.out.mono ?_; rintro e w8 ⟨rfl, hs, hb⟩; replace HS := Aside0.mk hs; clear hs hb)
  clear HC
  have HG8 : Aside0 (w8.heap.size ≠ g ∧ w8.heap.size ≠ mb ∧ w8.heap.size ≠ cb) := ⟨by have := HS.out.lts; omega⟩
  have HX := Aside0.mk (blk_new w8 (.cells #[.int .i64 1, .int .i64 1, .int .i64 2, .string ⟨#[97]⟩] 34))
  replace HS := Aside0.mk (HS.out.below (below_alloc (Below.refl _ _) (.cells #[.int .i64 1, .int .i64 1, .int .i64 2, .string ⟨#[97]⟩] 34)))
  generalize w8.alloc (.cells #[.int .i64 1, .int .i64 1, .int .i64 2, .string ⟨#[97]⟩] 34) = w9 at HS HX ⊢
  generalize w8.heap.size = g8 at HX HG8 ⊢
  have HC := Aside0.mk (bag_take' HS.out 1 (by decide) (s' := ⟨[⟨2, 1, 2, ⟨#[97]⟩⟩], 2, []⟩) (m := ⟨0, 0, 0, ⟨#[]⟩⟩) (q := 4) rfl)
  go_upto_region 9 with (go_at_call 12; refine HC.out.mono ?_; rintro e w10 ⟨rfl, hs, hb⟩; replace HS := Aside0.mk hs; have HKt := Aside0.mk hb; clear hs hb)
  clear HC
  replace HX := Aside0.mk (blk_below ((HKt.out.2 g8 (blk_lt HX.out) HG8.out.1 HG8.out.2.1 HG8.out.2.2).trans HX.out) (below_alloc (Below.refl _ _) (.cells #[.int .i64 0, .int .i64 0, .int .i64 0, .string ⟨#[]⟩] 34)))
  replace HS := Aside0.mk (HS.out.below (below_alloc (Below.refl _ _) (.cells #[.int .i64 0, .int .i64 0, .int .i64 0, .string ⟨#[]⟩] 34)))
  generalize w10.alloc (.cells #[.int .i64 0, .int .i64 0, .int .i64 0, .string ⟨#[]⟩] 34) = w11 at HS HX ⊢
  have x3 : w11.cell? ⟨g8, 3, none⟩ = some (.string ⟨#[97]⟩) := (blk_cell HX.out 3).trans rfl
  go_wp2
  go_ret
  exact ⟨rfl, HS.out.bel⟩

/-! ### slices.IndexFunc, slices.DeleteFunc at ints, with a predicate that may lay blocks of its own: by hand -/
/-- a block that holds ints -/
structure IntB (W : World) (blk cap : Nat) (l : List Int) (cur : Array Value) : Prop where
  at_ : W.heap[blk]? = some (.cells cur 3 (0, 0))
  size : cur.size = cap
  len : l.length ≤ cap
  cap1 : cap ≤ maxLen
  val : ∀ (k : Nat) (x : Int), l[k]? = some x → cur[k]? = some (.int .i64 x)
structure PredI (g : Nat) (lb : Array Value) (p : Int → Bool) (I : World → Prop) (blk : Nat) (l : List Int) : Prop where
  call : ∀ (W : World) (x : Int), x ∈ l → I W → Calls Try.prog g (#[.int .i64 x] ++ lb) W fun e w' => e = .returned (.bool (p x)) ∧ Below W.heap.size W w'
  below : ∀ (W W' : World), I W → Below W.heap.size W W' → I W'
  set : ∀ (W : World) (k : Nat) (v : Value), I W → I (W.setCell ⟨blk, k, none⟩ v)
def ixI (p : Int → Bool) : List Int → Nat → Int
  | [], _ => -1
  | x :: l, i => if p x = true then (i : Int) else ixI p l (i + 1)
theorem ixI_spec (p : Int → Bool) : ∀ (l : List Int) (i : Nat), (ixI p l i = -1 ∧ l.filter (fun x => !p x) = l) ∨ ∃ k : Nat, ∃ x, ixI p l i = ((i + k : Nat) : Int) ∧ l[k]? = some x ∧ p x = true ∧ (l.take k).filter (fun x => !p x) = l.take k := by
  intro l
  induction l with
  | nil => intro i; exact Or.inl ⟨rfl, rfl⟩
  | cons x l ih =>
    intro i
    simp only [ixI]
    by_cases h : p x = true
    · rw [if_pos h]
      exact Or.inr ⟨0, x, by simp, rfl, h, rfl⟩
    · rw [if_neg h]
      have h' : (!p x) = true := by simpa using h
      rcases ih (i + 1) with ⟨h1, h2⟩ | ⟨k, y, h1, h2, h3, h4⟩
      · exact Or.inl ⟨h1, by rw [List.filter_cons, if_pos h', h2]⟩
      · exact Or.inr ⟨k + 1, y, by rw [h1]; congr 1; omega, h2, h3, by rw [List.take_succ_cons, List.filter_cons, if_pos h', h4]⟩
theorem IntB.below {W W' : World} {blk cap : Nat} {l : List Int} {cur : Array Value} (h : IntB W blk cap l cur) (hb : Below W.heap.size W W') : IntB W' blk cap l cur := { h with at_ := blk_below h.at_ hb }
theorem IntB.read {W : World} {blk cap : Nat} {l : List Int} {cur : Array Value} (h : IntB W blk cap l cur) (k : Nat) (x : Int) (hx : l[k]? = some x) : W.cell? ⟨blk, k, none⟩ = some (.int .i64 x) := (blk_cell h.at_ k).trans (h.val k x hx)
set_option maxHeartbeats 4000000 in
set_option maxRecDepth 100000 in
theorem ixfuncI (p : Int → Bool) (g : Nat) (lb : Array Value) (eg : ∀ args w, (callFunc g args).run Try.prog w = .ok (.enter g args) w) (I : World → Prop) (blk cap : Nat) (l : List Int) (cur : Array Value) (w : World)
    (hp : PredI g lb p I blk l) (hI : I w) (hl : IntB w blk cap l cur) (hbig : l.length ≤ 1000000) :
    Calls Try.prog 40 #[.slice (some ⟨blk, 0, none⟩) l.length cap, .func (.func g) #[] lb] w fun e w' => e = .returned (.int .i64 (ixI p l 0)) ∧ I w' ∧ Below w.heap.size w w' := by
  have HL := Aside0.mk hl
  have HI0 := Aside0.mk hI
  have HP := Aside0.mk hp
  clear hl hI hp
  go_enter Try.func40, Try.ntmps40
  go_wp2
  go_loopg [5, 8] l.length (fun gg _ s8 wr => ∃ kk : Nat, kk ≤ l.length ∧ l.length - kk ≤ gg ∧ s8 = .int .i64 kk ∧ Aside0 (Below w.heap.size w wr) ∧ Aside0 (I wr) ∧ Aside0 (ixI p l 0 = ixI p (l.drop kk) kk))
  case atStart => exact ⟨0, Nat.zero_le _, by omega, rfl, ⟨Below.refl _ w⟩, HI0, ⟨by rw [List.drop_zero]⟩⟩
  case round =>
    obtain ⟨kk, hkk, hg, rfl, HB, HI, HX⟩ := hrel
    by_cases hlt : kk < l.length
    · have hltz : (kk : Int) < (l.length : Int) := by omega
      obtain ⟨x, hx⟩ : ∃ x, l[kk]? = some x := ⟨_, List.getElem?_eq_getElem hlt⟩
      have y0 : wr.cell? ⟨blk, kk, none⟩ = some (.int .i64 x) := (HB.out.cell (World.block_lt_of_cell? w _ (HL.out.read kk x hx))).trans (HL.out.read kk x hx)
      have hd := HX.out
      have hdr : l.drop kk = x :: l.drop (kk + 1) := by
        rw [List.drop_eq_getElem_cons hlt]
        congr 1
        exact (List.getElem?_eq_some_iff.1 hx).2
      rw [hdr] at hd
      have hcall := HP.out.call wr x (List.mem_of_getElem? hx) HI.out
      have hd2 := Aside0.mk hd
      clear hd hdr hx
      cases hq : p x with
      | true =>
        rw [hq] at hcall
        have HC := Aside0.mk hcall
        have HQ := Aside0.mk hq
        clear hcall hq
        go_wp2_with (go_at_fn g; refine HC.out.mono ?_; rintro e w' ⟨rfl, hb'⟩; have HB' := Aside0.mk hb'; clear hb')
        go_ret
        refine ⟨?_, HP.out.below _ _ HI.out HB'.out, HB.out.trans (HB'.out.mono HB.out.size)⟩
        rw [hd2.out]
        simp [ixI, HQ.out]
      | false =>
        rw [hq] at hcall
        have HC := Aside0.mk hcall
        have HQ := Aside0.mk hq
        clear hcall hq
        go_wp2_with (go_at_fn g; refine HC.out.mono ?_; rintro e w' ⟨rfl, hb'⟩; have HB' := Aside0.mk hb'; clear hb')
        go_roundg (l.length - (kk + 1))
        case measure => omega
        case rel => exact ⟨kk + 1, by omega, by omega, by go_num, ⟨HB.out.trans (HB'.out.mono HB.out.size)⟩, ⟨HP.out.below _ _ HI.out HB'.out⟩, ⟨by rw [hd2.out]; simp [ixI, HQ.out]⟩⟩
    · have hltz : ¬ (kk : Int) < (l.length : Int) := by omega
      obtain rfl : kk = l.length := by omega
      go_wp2
      go_ret
      refine ⟨?_, HI.out, HB.out⟩
      rw [HX.out, List.drop_length]
      rfl

def keepI (p : Int → Bool) (l : List Int) : List Int := l.filter (fun x => !p x)
theorem zero_i64 (w : World) : (zeroValue 3).run Try.prog w = .ok (.int .i64 0) w := by kernel_rfl
structure DfR (W wr : World) (blk cap : Nat) (p : Int → Bool) (l : List Int) (I : World → Prop) (i j : Nat) (cur : Array Value) : Prop where
  at_ : wr.heap[blk]? = some (.cells cur 3 (0, 0))
  size : cur.size = cap
  pre : ∀ (k : Nat) (x : Int), (keepI p (l.take j))[k]? = some x → cur[k]? = some (.int .i64 x)
  cnt : (keepI p (l.take j)).length = i
  post : ∀ (k : Nat) (x : Int), j ≤ k → l[k]? = some x → cur[k]? = some (.int .i64 x)
  gr : W.grownBy wr (some blk)
  inv : I wr
theorem keepI_take (p : Int → Bool) (l : List Int) (j : Nat) (x : Int) (hx : l[j]? = some x) : keepI p (l.take (j + 1)) = keepI p (l.take j) ++ (if p x = true then [] else [x]) := by
  unfold keepI
  have e : l.take (j + 1) = l.take j ++ [x] := by
    obtain ⟨hj, he⟩ := List.getElem?_eq_some_iff.1 hx
    rw [List.take_succ_eq_append_getElem hj, he]
  rw [e, List.filter_append]
  congr 1
  cases h : p x <;> simp [h]
theorem grown_below_at {W wr w' : World} {blk : Nat} (h : W.grownBy wr (some blk)) (hb : Below wr.heap.size wr w') : W.grownBy w' (some blk) :=
  ⟨hb.os.trans h.os, hb.tape.trans h.tape, hb.output.trans h.output, Nat.le_trans h.size hb.size, fun k hk hn => (hb.block k (Nat.lt_of_lt_of_le hk h.size)).trans (h.block k hk hn)⟩
theorem grown_set_at {W wr : World} {blk : Nat} (h : W.grownBy wr (some blk)) (k : Nat) (v : Value) : W.grownBy (wr.setCell ⟨blk, k, none⟩ v) (some blk) :=
  ⟨h.os, h.tape, h.output, by simpa using h.size, fun j hj hn => (Below.heap_setCell wr ⟨blk, k, none⟩ v j (fun e => hn (by rw [e]))).trans (h.block j hj hn)⟩
theorem DfR.below {W wr w' : World} {blk cap : Nat} {p : Int → Bool} {l : List Int} {I : World → Prop} {i j : Nat} {cur : Array Value} (h : DfR W wr blk cap p l I i j cur) (hI : I w') (hb : Below wr.heap.size wr w') : DfR W w' blk cap p l I i j cur :=
  { h with at_ := blk_below h.at_ hb, gr := grown_below_at h.gr hb, inv := hI }
theorem DfR.skip {W wr : World} {blk cap : Nat} {p : Int → Bool} {l : List Int} {I : World → Prop} {i j : Nat} {cur : Array Value} (h : DfR W wr blk cap p l I i j cur) {x : Int} (hx : l[j]? = some x) (hp : p x = true) : DfR W wr blk cap p l I i (j + 1) cur := by
  have e := keepI_take p l j x hx
  rw [if_pos hp, List.append_nil] at e
  exact { h with pre := by rw [e]; exact h.pre, cnt := by rw [e]; exact h.cnt, post := fun k y hk hy => h.post k y (by omega) hy }
theorem DfR.put {W wr : World} {blk cap : Nat} {p : Int → Bool} {l : List Int} {I : World → Prop} {i j : Nat} {cur : Array Value} (h : DfR W wr blk cap p l I i j cur) (hI : ∀ (W : World) (k : Nat) (v : Value), I W → I (W.setCell ⟨blk, k, none⟩ v)) {x : Int} (hx : l[j]? = some x) (hp : p x = false) (hij : i ≤ j) (hc : i < cap) :
    DfR W (wr.setCell ⟨blk, i, none⟩ (.int .i64 x)) blk cap p l I (i + 1) (j + 1) (cur.setIfInBounds i (.int .i64 x)) := by
  have e := keepI_take p l j x hx
  rw [if_neg (by rw [hp]; decide)] at e
  have hs := h.size
  have hcnt := h.cnt
  refine ⟨blk_put h.at_ i _ rfl, by simp [h.size], fun k y hk => ?_, by rw [e, List.length_append, h.cnt]; rfl, fun k y hk hy => ?_, grown_set_at h.gr i _, hI _ _ _ h.inv⟩
  · rw [e, List.getElem?_append] at hk
    by_cases hki : k < (keepI p (l.take j)).length
    · rw [if_pos hki] at hk
      rw [Array.getElem?_setIfInBounds_ne (by omega)]
      exact h.pre k y hk
    · rw [if_neg hki, hcnt] at hk
      have hk0 : k = i := by
        obtain ⟨h1, _⟩ := List.getElem?_eq_some_iff.1 hk
        simp at h1
        omega
      subst hk0
      rw [Nat.sub_self] at hk
      have hxy : x = y := by simpa using hk
      subst hxy
      rw [Array.getElem?_setIfInBounds_self_of_lt (by omega)]
  · rw [Array.getElem?_setIfInBounds_ne (by omega)]
    exact h.post k y (by omega) hy
set_option maxHeartbeats 4000000 in
set_option maxRecDepth 100000 in
theorem delfuncI (p : Int → Bool) (g : Nat) (lb : Array Value) (eg : ∀ args w, (callFunc g args).run Try.prog w = .ok (.enter g args) w) (I : World → Prop) (blk cap : Nat) (l : List Int) (cur : Array Value) (w : World)
    (hp : PredI g lb p I blk l) (hI : I w) (hl : IntB w blk cap l cur) (hbig : l.length ≤ 1000000) :
    Calls Try.prog 28 #[.slice (some ⟨blk, 0, none⟩) l.length cap, .func (.func g) #[] lb] w fun e w' => e = .returned (.slice (some ⟨blk, 0, none⟩) (keepI p l).length cap) ∧ w.grownBy w' (some blk) ∧ ∃ cur', IntB w' blk cap (keepI p l) cur' := by
  have HC0 := Aside0.mk (ixfuncI p g lb eg I blk cap l cur w hp hI hl hbig)
  have HL := Aside0.mk hl
  have HP := Aside0.mk hp
  rcases ixI_spec p l 0 with ⟨hix, hk⟩ | ⟨i0, x0, hix, hx0, hpx0, hk⟩
  · rw [hix] at HC0
    rw [show keepI p l = l from hk]
    clear hl hI hp hix hk
    go_enter Try.func28, Try.ntmps28
    go_wp2_with (go_at_call 40; refine HC0.out.mono ?_; rintro e w1 ⟨rfl, hi, hb⟩; have HB := Aside0.mk hb; clear hi hb)
    go_ret
    exact ⟨rfl, grown_below_at ⟨rfl, rfl, rfl, Nat.le_refl _, fun _ _ _ => rfl⟩ HB.out, cur, HL.out.below HB.out⟩
  · rw [hix, Nat.zero_add] at HC0
    have hi0 := (List.getElem?_eq_some_iff.1 hx0).1
    have t1 : ((i0 : Int) == -1) = false := beq_eq_false_iff_ne.mpr (by omega)
    have t2 : decide ((i0 : Int) = -1) = false := decide_eq_false (by omega)
    have hwk0 : IntKind.i64.wrap ((i0 : Int) + 1) = (i0 : Int) + 1 := IntWalk.i64_in _ (by omega)
    have HK := Aside0.mk hk
    have HX0 := Aside0.mk (And.intro hx0 hpx0)
    clear hl hI hp hix hk hx0 hpx0
    go_enter Try.func28, Try.ntmps28
    go_upto_region 4 with (go_at_call 40; refine HC0.out.mono ?_; rintro e w1 ⟨rfl, hi, hb⟩; have HB := Aside0.mk hb; have HI1 := Aside0.mk hi; clear hi hb)
    have HD : Aside0 (DfR w w1 blk cap p l I i0 (i0 + 1) cur) := ⟨by
      have h0 : DfR w w1 blk cap p l I i0 i0 cur := ⟨blk_below HL.out.at_ HB.out, HL.out.size, fun k x hx => HL.out.val k x (by
          rw [show keepI p (l.take i0) = l.take i0 from HK.out] at hx
          rw [List.getElem?_take] at hx
          split at hx
          · exact hx
          · cases hx), by rw [show keepI p (l.take i0) = l.take i0 from HK.out, List.length_take]; omega, fun k x _ hx => HL.out.val k x hx, grown_below_at ⟨rfl, rfl, rfl, Nat.le_refl _, fun _ _ _ => rfl⟩ HB.out, HI1.out⟩
      exact h0.skip HX0.out.1 HX0.out.2⟩
    clear HC0 HK HX0 HB HI1
    go_wp2
    go_loopg [5, 6, 7] (l.length - (i0 + 1)) (fun gg s5 s6 s7 wr => ∃ (i j : Nat) (cur : Array Value), i < j ∧ j ≤ l.length ∧ l.length - j ≤ gg ∧ s5 = .int .i64 i ∧ s6 = .int .i64 j ∧ Aside0 (DfR w wr blk cap p l I i j cur))
    case atStart => exact ⟨i0, i0 + 1, cur, by omega, by omega, by omega, rfl, by go_num, HD⟩
    case round =>
      clear HD
      obtain ⟨i, j, cur, hij, hj, hg, rfl, rfl, HD⟩ := hrel
      by_cases hlt : j < l.length
      · have hltz : (j : Int) < (l.length : Int) := by omega
        obtain ⟨x, hx⟩ : ∃ x, l[j]? = some x := ⟨_, List.getElem?_eq_getElem hlt⟩
        have y0 : wr.cell? ⟨blk, j, none⟩ = some (.int .i64 x) := (blk_cell HD.out.at_ j).trans (HD.out.post j x (Nat.le_refl _) hx)
        have hcall := HP.out.call wr x (List.mem_of_getElem? hx) HD.out.inv
        have HX := Aside0.mk hx
        have hwk : IntKind.i64.wrap ((j : Int) + 1) = (j : Int) + 1 := IntWalk.i64_in _ (by omega)
        have hwi : IntKind.i64.wrap ((i : Int) + 1) = (i : Int) + 1 := IntWalk.i64_in _ (by omega)
        clear hx
        cases hq : p x with
        | true =>
          rw [hq] at hcall
          have HC := Aside0.mk hcall
          have HQ := Aside0.mk hq
          clear hcall hq
          go_wp2_with (go_at_fn g; refine HC.out.mono ?_; rintro e w' ⟨rfl, hb'⟩; have HB' := Aside0.mk hb'; clear hb')
          go_roundg (l.length - (j + 1))
          case measure => omega
          case rel => exact ⟨i, j + 1, cur, by omega, by omega, by omega, rfl, by go_num, ⟨(HD.out.below (HP.out.below _ _ HD.out.inv HB'.out) HB'.out).skip HX.out HQ.out⟩⟩
        | false =>
          rw [hq] at hcall
          have HC := Aside0.mk hcall
          have HQ := Aside0.mk hq
          clear hcall hq
          go_upto_region 9 with (go_at_fn g; refine HC.out.mono ?_; rintro e w' ⟨rfl, hb'⟩; have HB' := Aside0.mk hb'; clear hb')
          replace HD := Aside0.mk (HD.out.below (HP.out.below _ _ HD.out.inv HB'.out) HB'.out)
          clear y0
          have hcs := HD.out.size
          have hlc := HL.out.len
          obtain ⟨u, hu⟩ : ∃ u, cur[i]? = some u := ⟨_, Array.getElem?_eq_getElem (by omega)⟩
          have y1 : w'.cell? ⟨blk, i, none⟩ = some u := (blk_cell HD.out.at_ i).trans hu
          have y2 : w'.frozen? ⟨blk, i, none⟩ = false := blk_frozen HD.out.at_ i
          have hic : i < cap := by omega
          have hin : (i : Int) < (l.length : Int) := by omega
          clear hu hcs
          go_wp2
          go_roundg (l.length - (j + 1))
          case measure => omega
          case rel => exact ⟨i + 1, j + 1, _, by omega, by omega, by omega, by go_num, by go_num, ⟨HD.out.put HP.out.set HX.out HQ.out (by omega) hic⟩⟩
      · have hltz : ¬ (j : Int) < (l.length : Int) := by omega
        obtain rfl : j = l.length := by omega
        have hcs := HD.out.size
        have hlc := HL.out.len
        have hcl : ∀ ty, (Builtin.clear_ #[27] ty #[.slice (some ⟨blk, i, none⟩) (l.length - i) (cap - i)]).run Try.prog wr = .ok (.tuple #[]) (wr.setCells blk i (List.replicate (l.length - i) (.int .i64 0))) :=
          fun ty => Lib.run_clear_slice wr _ _ ty _ Try.underlying27 zero_i64 rfl rfl blk i _ _ (by omega) (fun t ht => by
            rw [blk_cell HD.out.at_ (i + t), Array.getElem?_eq_getElem (by omega)]; rfl) (fun t ht => blk_frozen HD.out.at_ (i + t))
        have hci : ¬ cap = i := by omega
        have hci2 : ¬ i = cap := by omega
        have hil : i ≤ l.length := by omega
        have hic : i ≤ cap := by omega
        have hil2 : (i : Int) ≤ (l.length : Int) := by omega
        have hic2 : (i : Int) ≤ (cap : Int) := by omega
        have hlc2 : (l.length : Int) ≤ (cap : Int) := by omega
        go_wp2
        go_ret
        have hcnt := HD.out.cnt
        rw [List.take_length] at hcnt
        obtain ⟨cur2, h1, h2, h3⟩ := setCells_row (List.replicate (l.length - i) (.int .i64 0)) i wr cur HD.out.at_ (by rw [List.length_replicate]; omega)
        obtain ⟨m1, m2, m3, m4⟩ := setCells_same blk (List.replicate (l.length - i) (.int .i64 0)) i wr
        refine ⟨by rw [hcnt]; rfl, ⟨m1.trans HD.out.gr.os, m2.trans HD.out.gr.tape, m3.trans HD.out.gr.output, by rw [m4]; exact HD.out.gr.size, fun k hk hn => (setCells_far _ _ k (fun e => hn (by rw [e]))).trans (HD.out.gr.block k hk hn)⟩, cur2, h1, h2.trans hcs, by rw [hcnt]; omega, HL.out.cap1, fun k x hk => ?_⟩
        have hki : k < i := by
          have := (List.getElem?_eq_some_iff.1 hk).1
          omega
        have hp2 := HD.out.pre k x (by rw [List.take_length]; exact hk)
        rw [← Array.getElem?_toList, h3, List.append_assoc, List.getElem?_append_left (by rw [List.length_take, Array.length_toList]; omega), List.getElem?_take, if_pos hki, Array.getElem?_toList]
        exact hp2

end Go.Proofs.Ytppoahccmcnenaa.PA
