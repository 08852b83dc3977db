-- written by a program of this session
import Derived.Test.YtdenfndpggfgmaaPPx0
import Derived.Test.YtdenfndpggfgmaaPPx1
import Derived.Test.YtdenfndpggfgmaaPPx2
namespace Go.Proofs.Ytdenfndpggfgmaa.PP
open Go.RowKit Go.Proofs.Ytdenfndpggfgmaa.Op Go.Proofs.YtdenfndpggfgmaaW.PrintWords Go.Proofs.YtdenfndpggfgmaaW.PrintLast Go.Proofs.YtdenfndpggfgmaaW.PrintMore
attribute [local go_sem] max2_int min2_int max_two min_two max_three min_three max_four min_four   -- for this text's walks alone
set_option linter.unusedVariables false
set_option linter.unusedSimpArgs false

/-! ### the slab: its state, read off the memory -/
structure Sl where
  b : List (ByteArray × Option ByteArray)
  wait : Int
  keep : List Int
  torn : Int
  at_ : Int
  down : Bool
  kb : Nat   -- ghost: the row of keep lies below
abbrev DW := DataW Unit
structure SlAs (D : DW) (b : List (ByteArray × Option ByteArray)) : Prop where
  none_ : ∀ (i : Nat) (x : ByteArray), b[i]? = some (x, none) → Maps.has D (.int .i64 (i : Int)) = false
  some_ : ∀ (i : Nat) (x t : ByteArray), b[i]? = some (x, some t) → Maps.has D (.int .i64 (i : Int)) = true ∧ ∀ zd, D.atKey (.int .i64 (i : Int)) zd = .lit (.string t.data.toList)
  in_ : ∀ kl, Maps.has D kl = true → ∃ i : Nat, i < b.length ∧ kl = .int .i64 (i : Int)
def strs (b : List (ByteArray × Option ByteArray)) : Array Value := (b.map (fun x => Value.string x.1)).toArray
structure IsSl (w W : World) (g rb mb n : Nat) (s : Sl) : Prop where
  own : ∃ vk, W.heap[g]? = some (.cells #[.slice (some ⟨rb, 0, none⟩) s.b.length s.b.length, .map (some mb), .int .i64 s.wait, vk, .int .i64 s.torn, .int .i64 s.at_, .bool s.down] 62 (0, 0)) ∧ Kd.R (Kd.int .i64) 3 W w.heap.size (fun k => Off [g, rb, mb] k ∧ k < s.kb) vk s.keep
  row : W.heap[rb]? = some (.cells (strs s.b) 9 (0, 0))
  map : ∃ D : DW, W.ownsMap Try.prog 3 (plainElem Try.prog 9) mb n D ∧ SlAs D s.b
  len : s.b.length ≤ 4096
  small : ∀ x ∈ s.b, x.1.size ≤ 256 ∧ ∀ t, x.2 = some t → t.size ≤ 256
  wt : 0 ≤ s.wait ∧ s.wait ≤ 9223372036854775807
  kl : s.keep.length ≤ 100000000
  g1 : w.heap.size ≤ g
  r1 : w.heap.size ≤ rb
  m1 : w.heap.size ≤ mb
  gr : g ≠ rb
  gm : g ≠ mb
  rm : rb ≠ mb
  bel : Below w.heap.size w W
/-- nothing but the slab's blocks has turned -/
def SlKept (W W' : World) (g rb mb : Nat) : Prop := W.heap.size ≤ W'.heap.size ∧ ∀ i, i < W.heap.size → i ≠ g → i ≠ rb → i ≠ mb → W'.heap[i]? = W.heap[i]?
theorem SlKept.refl (W : World) (g rb mb : Nat) : SlKept W W g rb mb := ⟨Nat.le_refl _, fun _ _ _ _ _ => rfl⟩
theorem SlKept.trans {W W' W'' : World} {g rb mb : Nat} (h : SlKept W W' g rb mb) (k : SlKept W' W'' g rb mb) : SlKept W W'' g rb mb :=
  ⟨Nat.le_trans h.1 k.1, fun i hi h1 h2 h3 => (k.2 i (Nat.lt_of_lt_of_le hi h.1) h1 h2 h3).trans (h.2 i hi h1 h2 h3)⟩
theorem SlKept.below {W W' : World} {g rb mb : Nat} (h : Below W.heap.size W W') : SlKept W W' g rb mb := ⟨h.size, fun i hi _ _ _ => h.block i hi⟩
theorem SlKept.set {W : World} {g rb mb a j : Nat} (ha : a = g ∨ a = rb ∨ a = mb) (v : Value) : SlKept W (W.setCell ⟨a, j, none⟩ v) g rb mb :=
  ⟨by simp, fun i _ h1 h2 h3 => Below.heap_setCell W ⟨a, j, none⟩ v i (by rcases ha with rfl | rfl | rfl <;> assumption)⟩
theorem IsSl.below {w W W' : World} {g rb mb n : Nat} {s : Sl} (h : IsSl w W g rb mb n s) (hb : Below W.heap.size W W') : IsSl w W' g rb mb n s := by
  obtain ⟨vk, h1, h2⟩ := h.own
  obtain ⟨D, h3, h4⟩ := h.map
  exact ⟨⟨vk, blk_below h1 hb, Kd.R_below h2 hb⟩, blk_below h.row hb, ⟨D, World.ownsMap.kept (row := none) h3 ⟨hb.os, hb.tape, hb.output, hb.size, fun i hi _ => hb.block i hi⟩ (by simp), h4⟩, h.len, h.small, h.wt, h.kl, h.g1, h.r1, h.m1, h.gr, h.gm, h.rm, h.bel.trans (hb.mono h.bel.size)⟩
theorem IsSl.cells {w W : World} {g rb mb n : Nat} {s : Sl} (h : IsSl w W g rb mb n s) : W.cell? ⟨g, 0, none⟩ = some (.slice (some ⟨rb, 0, none⟩) s.b.length s.b.length) ∧ W.cell? ⟨g, 1, none⟩ = some (.map (some mb)) ∧ W.cell? ⟨g, 2, none⟩ = some (.int .i64 s.wait) ∧ W.cell? ⟨g, 6, none⟩ = some (.bool s.down) := by
  obtain ⟨vk, h1, _⟩ := h.own
  exact ⟨(blk_cell h1 0).trans rfl, (blk_cell h1 1).trans rfl, (blk_cell h1 2).trans rfl, (blk_cell h1 6).trans rfl⟩
theorem IsSl.frz {w W : World} {g rb mb n : Nat} {s : Sl} (h : IsSl w W g rb mb n s) (j : Nat) : W.frozen? ⟨g, j, none⟩ = false := by
  obtain ⟨vk, h1, _⟩ := h.own
  exact blk_frozen h1 j
def rdy (s : Sl) (may : Bool) : Int := if s.down = true then 9 else if may = true then 0 else 1
theorem slab_ready {w W : World} {g rb mb n : Nat} {s : Sl} (h : IsSl w W g rb mb n s) (may : Bool) :
    Calls Try.prog 26 #[.pointer (some ⟨g, 0, none⟩), .bool may] W fun e W' => e = .returned (.int .i64 (rdy s may)) ∧ W = W' := by
  obtain ⟨_, _, _, c6⟩ := h.cells
  unfold rdy
  cases hd : s.down <;> rw [hd] at c6 <;> clear hd <;> cases may
  all_goals
    go_enter Try.func26, Try.ntmps26
    go_wp2
    go_ret
    exact ⟨rfl, rfl⟩
theorem slab_ready_nil (W : World) (may : Bool) :
    Calls Try.prog 26 #[.pointer none, .bool may] W fun e W' => e = .returned (.int .i64 1) ∧ W = W' := by
  go_enter Try.func26, Try.ntmps26
  go_wp2
  go_ret
  exact ⟨rfl, rfl⟩
theorem slab_blocks {w W : World} {g rb mb n : Nat} {s : Sl} (h : IsSl w W g rb mb n s) :
    Calls Try.prog 25 #[.pointer (some ⟨g, 0, none⟩)] W fun e W' => e = .returned (.int .i64 (s.b.length : Int)) ∧ W = W' := by
  obtain ⟨c0, _, _, _⟩ := h.cells
  go_enter Try.func25, Try.ntmps25
  go_wp2
  go_ret
  exact ⟨rfl, rfl⟩
theorem slab_blocks_nil (W : World) :
    Calls Try.prog 25 #[.pointer none] W fun e W' => e = .returned (.int .i64 0) ∧ W = W' := by
  go_enter Try.func25, Try.ntmps25
  go_wp2
  go_ret
  exact ⟨rfl, rfl⟩
def hasB (s : Sl) (i : Int) : Bool := decide (0 ≤ i) && decide (i < (s.b.length : Int))
theorem slab_block {w W : World} {g rb mb n : Nat} {s : Sl} (h : IsSl w W g rb mb n s) (i : Int) :
    Calls Try.prog 27 #[.pointer (some ⟨g, 0, none⟩), .int .i64 i] W fun e W' => e = .returned (.bool (hasB s i)) ∧ W = W' := by
  have HS := Aside0.mk h
  clear h
  unfold hasB
  by_cases h0 : 0 ≤ i
  · have q0 : decide (i ≥ 0) = true := decide_eq_true h0
    have q1 : decide (0 ≤ i) = true := decide_eq_true h0
    clear h0
    go_enter Try.func27, Try.ntmps27
    go_wp2_with (go_at_call 25; with_reducible refine (slab_blocks HS.out).mono ?_; rintro e w1 ⟨rfl, rfl⟩)
    go_ret
    exact ⟨by rw [q1]; rfl, rfl⟩
  · have q0 : decide (i ≥ 0) = false := decide_eq_false h0
    have q1 : decide (0 ≤ i) = false := decide_eq_false h0
    clear h0
    go_enter Try.func27, Try.ntmps27
    go_wp2
    go_ret
    exact ⟨by rw [q1]; rfl, rfl⟩
theorem slab_block_nil (W : World) (i : Int) :
    Calls Try.prog 27 #[.pointer none, .int .i64 i] W fun e W' => (∃ b : Bool, e = .returned (.bool b)) ∧ W = W' := by
  by_cases h0 : 0 ≤ i
  · have q0 : decide (i ≥ 0) = true := decide_eq_true h0
    have q1 : decide (0 ≤ i) = true := decide_eq_true h0
    clear h0
    go_enter Try.func27, Try.ntmps27
    go_wp2_with (go_at_call 25; with_reducible refine (slab_blocks_nil _).mono ?_; rintro e w1 ⟨rfl, rfl⟩)
    go_ret
    exact ⟨⟨_, rfl⟩, rfl⟩
  · have q0 : decide (i ≥ 0) = false := decide_eq_false h0
    have q1 : decide (0 ≤ i) = false := decide_eq_false h0
    clear h0
    go_enter Try.func27, Try.ntmps27
    go_wp2
    go_ret
    exact ⟨⟨_, rfl⟩, rfl⟩
theorem slab_down {w W : World} {g rb mb n : Nat} {s : Sl} (h : IsSl w W g rb mb n s) :
    Calls Try.prog 19 #[.pointer (some ⟨g, 0, none⟩)] W fun e W' => e = .returned (.bool s.down) ∧ W = W' := by
  obtain ⟨_, _, _, c6⟩ := h.cells
  go_enter Try.func19, Try.ntmps19
  go_wp2
  go_ret
  exact ⟨rfl, rfl⟩
theorem slab_down_nil (W : World) :
    Calls Try.prog 19 #[.pointer none] W fun e W' => e = .returned (.bool true) ∧ W = W' := by
  go_enter Try.func19, Try.ntmps19
  go_wp2
  go_ret
  exact ⟨rfl, rfl⟩
theorem IsSl.setWait {w W : World} {g rb mb n : Nat} {s : Sl} (h : IsSl w W g rb mb n s) (v : Int) (hv : 0 ≤ v ∧ v ≤ 9223372036854775807) : IsSl w (W.setCell ⟨g, 2, none⟩ (.int .i64 v)) g rb mb n { s with wait := v } := by
  obtain ⟨vk, h1, h2⟩ := h.own
  obtain ⟨D, h3, h4⟩ := h.map
  exact ⟨⟨vk, blk_put h1 2 _ rfl, Kd.R_far (p := ⟨g, 2, none⟩) h2 (fun k hk => hk.1 g (by simp)) _⟩, blk_far (p := ⟨g, 2, none⟩) h.row h.gr.symm _, ⟨D, h3.setCell (a := ⟨g, 2, none⟩) h.gm.symm _, h4⟩, h.len, h.small, hv, h.kl, h.g1, h.r1, h.m1, h.gr, h.gm, h.rm, below_set h.bel h.g1⟩
theorem IsSl.setDown {w W : World} {g rb mb n : Nat} {s : Sl} (h : IsSl w W g rb mb n s) (v : Bool) : IsSl w (W.setCell ⟨g, 6, none⟩ (.bool v)) g rb mb n { s with down := v } := by
  obtain ⟨vk, h1, h2⟩ := h.own
  obtain ⟨D, h3, h4⟩ := h.map
  exact ⟨⟨vk, blk_put h1 6 _ rfl, Kd.R_far (p := ⟨g, 6, none⟩) h2 (fun k hk => hk.1 g (by simp)) _⟩, blk_far (p := ⟨g, 6, none⟩) h.row h.gr.symm _, ⟨D, h3.setCell (a := ⟨g, 6, none⟩) h.gm.symm _, h4⟩, h.len, h.small, h.wt, h.kl, h.g1, h.r1, h.m1, h.gr, h.gm, h.rm, below_set h.bel h.g1⟩
def Sl.tick (s : Sl) : Sl × Bool := if 0 < s.wait then ({ s with wait := s.wait - 1 }, s.wait - 1 == 0) else (s, false)
theorem slab_trips {w W : World} {g rb mb n : Nat} {s : Sl} (h : IsSl w W g rb mb n s) :
    Calls Try.prog 28 #[.pointer (some ⟨g, 0, none⟩)] W fun e W' => e = .returned (.bool s.tick.2) ∧ IsSl w W' g rb mb n s.tick.1 ∧ SlKept W W' g rb mb := by
  obtain ⟨_, _, c2, _⟩ := h.cells
  have f2 := h.frz 2
  unfold Sl.tick
  have hw := h.wt
  by_cases hp : 0 < s.wait
  · have e1 := h.setWait (s.wait - 1) (by omega)
    have q0 : decide (s.wait > 0) = true := decide_eq_true hp
    have q1 : decide (0 < s.wait) = true := decide_eq_true hp
    rw [if_pos hp]
    have HS := Aside0.mk e1
    clear h e1
    go_enter Try.func28, Try.ntmps28
    go_wp2
    go_ret
    exact ⟨rfl, HS.out, SlKept.set (Or.inl rfl) _⟩
  · have q0 : decide (s.wait > 0) = false := decide_eq_false hp
    have q1 : decide (0 < s.wait) = false := decide_eq_false hp
    rw [if_neg hp]
    have HS := Aside0.mk h
    clear h hw
    go_enter Try.func28, Try.ntmps28
    go_wp2
    go_ret
    exact ⟨rfl, HS.out, SlKept.refl _ _ _ _⟩
theorem slab_wake {w W : World} {g rb mb n : Nat} {s : Sl} (h : IsSl w W g rb mb n s) :
    Calls Try.prog 15 #[.pointer (some ⟨g, 0, none⟩)] W fun e W' => e = .returned (.tuple #[]) ∧ IsSl w W' g rb mb n { s with down := false, wait := 0 } ∧ SlKept W W' g rb mb := by
  obtain ⟨_, _, c2, c6⟩ := h.cells
  have f2 := h.frz 2
  have f6 := h.frz 6
  have HS := Aside0.mk ((h.setDown false).setWait 0 (by omega))
  clear h
  go_enter Try.func15, Try.ntmps15
  go_wp2
  refine bodyPost_end (results_none rfl _ _ _) rfl ?_
  exact ⟨rfl, HS.out, (SlKept.set (Or.inl rfl) _).trans (SlKept.set (Or.inl rfl) _)⟩
theorem slab_wake_nil (W : World) :
    Calls Try.prog 15 #[.pointer none] W fun e W' => e = .returned (.tuple #[]) ∧ W = W' := by
  go_enter Try.func15, Try.ntmps15
  go_wp2
  refine bodyPost_end (results_none rfl _ _ _) rfl ?_
  exact ⟨rfl, rfl⟩
/-! ### the loop over what is loose -/
theorem key64 (i : Int) (h0 : 0 ≤ i) (h1 : i < 9223372036854775808) : keyOf Try.prog 3 (.int .i64 i) = some (.int .i64 i) := Maps.keyOf_int_mk Try.underlying3 (by
  have e1 : IntKind.min .i64 = -9223372036854775808 := by decide
  have e2 : IntKind.max .i64 = 9223372036854775807 := by decide
  simp only [Lit.wf, e1, e2, Bool.and_eq_true, decide_eq_true_eq]; omega)
theorem key_self (i : Int) : (Lit.int .i64 i).sameKey (.int .i64 i) = true := WideAt.sameKey_self (by simp [WideAt.IsKeyLit])
theorem key_ne {i j : Int} (h : i ≠ j) : (Lit.int .i64 i).sameKey (.int .i64 j) = false := Maps.sameKey_ne (fun e => h (by injection e))
def finB (F : Nat → ByteArray → ByteArray → ByteArray) (left : Lit → Bool) (i : Nat) (x : ByteArray × Option ByteArray) : ByteArray :=
  match x.2 with
  | none => x.1
  | some t => if left (.int .i64 (i : Int)) = true then x.1 else F i x.1 t
def rowL (F : Nat → ByteArray → ByteArray → ByteArray) (b : List (ByteArray × Option ByteArray)) (left : Lit → Bool) : List ByteArray := b.mapIdx (finB F left)
def vals (l : List ByteArray) : Array Value := (l.map Value.string).toArray
theorem vals_set (l : List ByteArray) (i : Nat) (t : ByteArray) : (vals l).setIfInBounds i (.string t) = vals (l.set i t) := by
  unfold vals; rw [List.setIfInBounds_toArray, List.map_set]
theorem vals_get (l : List ByteArray) (i : Nat) (t : ByteArray) (h : l[i]? = some t) : (vals l)[i]? = some (.string t) := by
  unfold vals; simp [h]
theorem strs_vals (b : List (ByteArray × Option ByteArray)) : strs b = vals (b.map (fun x => x.1)) := by unfold strs vals; rw [List.map_map]; rfl
theorem rowL_start (F) (b) (D : DW) (h : SlAs D b) : rowL F b (Maps.has D) = b.map (fun x => x.1) := by
  unfold rowL
  refine List.ext_getElem? (fun i => ?_)
  rw [List.getElem?_mapIdx, List.getElem?_map]
  cases hb : b[i]? with
  | none => rfl
  | some x =>
    obtain ⟨x, o⟩ := x
    cases o with
    | none => rfl
    | some t => simp only [Option.map_some, finB]; rw [if_pos (h.some_ i x t hb).1]
theorem rowL_step (F) (b) (left : Lit → Bool) (i : Nat) (x t : ByteArray) (h : b[i]? = some (x, some t)) : (rowL F b left).set i (F i x t) = rowL F b (fun z => left z && !z.sameKey (.int .i64 (i : Int))) := by
  unfold rowL
  refine List.ext_getElem? (fun j => ?_)
  rw [List.getElem?_set, List.getElem?_mapIdx, List.getElem?_mapIdx, List.length_mapIdx]
  obtain ⟨hi, hx⟩ := List.getElem?_eq_some_iff.1 h
  by_cases e : i = j
  · subst e
    rw [if_pos rfl, if_pos hi, h, Option.map_some]
    simp only [finB]
    rw [key_self]; simp
  · rw [if_neg e]
    cases hb : b[j]? with
    | none => rfl
    | some y =>
      obtain ⟨y, o⟩ := y
      cases o with
      | none => rfl
      | some u => simp only [Option.map_some, finB]; rw [key_ne (by omega : (j : Int) ≠ (i : Int))]; simp
theorem rowL_at (F) (b) (left : Lit → Bool) (i : Nat) (x t : ByteArray) (h : b[i]? = some (x, some t)) (hl : left (.int .i64 (i : Int)) = true) : (rowL F b left)[i]? = some x := by
  unfold rowL; rw [List.getElem?_mapIdx, h]; simp [finB, hl]
theorem rowL_len (F) (b) (left : Lit → Bool) : (rowL F b left).length = b.length := List.length_mapIdx
theorem set_same {l : List ByteArray} {i : Nat} {x : ByteArray} (h : l[i]? = some x) : l.set i x = l := by
  refine List.ext_getElem? (fun j => ?_)
  rw [List.getElem?_set]
  obtain ⟨hi, hx⟩ := List.getElem?_eq_some_iff.1 h
  by_cases e : i = j
  · subst e; rw [if_pos rfl, if_pos hi, h]
  · rw [if_neg e]
/-- all is settled: what F makes of it is sure, nothing is loose -/
def settle (F : Nat → ByteArray → ByteArray → ByteArray) (b : List (ByteArray × Option ByteArray)) : List (ByteArray × Option ByteArray) := b.mapIdx (fun i x => (finB F (fun _ => false) i x, none))
theorem settle_row (F) (b) : strs (settle F b) = vals (rowL F b (fun _ => false)) := by
  rw [strs_vals]; unfold settle rowL; congr 1
  refine List.ext_getElem? (fun j => ?_)
  rw [List.getElem?_map, List.getElem?_mapIdx, List.getElem?_mapIdx]
  cases b[j]? <;> rfl
theorem settle_len (F) (b) : (settle F b).length = b.length := by unfold settle; exact List.length_mapIdx
theorem settle_as (F) (b) : SlAs (.map [] : DW) (settle F b) :=
  ⟨fun _ _ _ => rfl, fun i x t h => by
    unfold settle at h
    rw [List.getElem?_mapIdx] at h
    cases hb : b[i]? with
    | none => rw [hb] at h; simp at h
    | some y => rw [hb] at h; simp at h, fun kl h => by simp [Maps.has] at h⟩
theorem settle_small (F) (b : List (ByteArray × Option ByteArray)) (h : ∀ x ∈ b, x.1.size ≤ 256 ∧ ∀ t, x.2 = some t → t.size ≤ 256) (hF : ∀ i x t, x.size ≤ 256 → t.size ≤ 256 → (F i x t).size ≤ 256) : ∀ x ∈ settle F b, x.1.size ≤ 256 ∧ ∀ t, x.2 = some t → t.size ≤ 256 := by
  intro x hx
  unfold settle at hx
  obtain ⟨i, hi, rfl⟩ := List.mem_mapIdx.1 hx
  refine ⟨?_, fun t h => by simp at h⟩
  have hm := h b[i] (List.getElem_mem _)
  simp only [finB]
  cases e : b[i].2 with
  | none => exact hm.1
  | some t => exact hF _ _ _ hm.1 (hm.2 t e)
/-- clear(m) -/
theorem run_clear_map {W : World} {mb n : Nat} {D : DW} {R : Value → Option (DataW Unit × List MemPlace)} {kt et mt : TypeId} (h : W.ownsMap Try.prog kt R mb n D) (hm : Try.prog.underlying mt = some (.map kt et)) (ty : TypeId) :
    ∃ W', (Builtin.clear_ #[mt] ty #[.map (some mb)]).run Try.prog W = .ok (.tuple #[]) W' ∧ W'.ownsMap Try.prog kt R mb n (.map []) ∧ W.mapTurned W' mb := by
  obtain ⟨es, clock, hb, F, hs, hD⟩ := h
  refine ⟨_, by simp [Builtin.clear_, run_underlying hm, MapKept.run_getObj_map hb, MapKept.run_setObj_map _ hb, Result.andThen]; rfl, ?_, ?_⟩
  · exact ⟨#[], clock, ChangeMaps.heap_setBlock_same hb _, ⟨by simp, MapKept.stamped_empty clock, by simp⟩, Nat.zero_le _, rfl⟩
  · exact ⟨es, clock, #[], clock, hb, rfl⟩
theorem w64c (i : Nat) (h : i < 1000000000) : wrap64 ((i : Int) + 1) = ((i + 1 : Nat) : Int) := by unfold wrap64; omega
theorem rd_at (l : List Int) (i : Nat) (h : i < l.length) : rd l (i : Int) = l[i] := by
  unfold rd; rw [Int.toNat_natCast, List.getD_eq_getElem?_getD, List.getElem?_eq_getElem h]; rfl
theorem index_l0 (l : List Int) (x : Int) (hl : l.length ≤ 100000000) : ∀ (d k i : Nat), i + d = l.length → d < k → ∃ r, slices_Index_int_int.l0 k l x (l.length : Int) (i : Int) = some r ∧ decide (r ≥ 0) = (l.drop i).contains x := by
  intro d
  induction d with
  | zero =>
    intro k i hi hk
    obtain ⟨k, rfl⟩ : ∃ m, k = m + 1 := ⟨k - 1, by omega⟩
    simp only [slices_Index_int_int.l0]
    rw [if_neg (by omega), List.drop_eq_nil_of_le (by omega)]
    exact ⟨_, rfl, rfl⟩
  | succ d ih =>
    intro k i hi hk
    obtain ⟨k, rfl⟩ : ∃ m, k = m + 1 := ⟨k - 1, by omega⟩
    simp only [slices_Index_int_int.l0]
    rw [if_pos (by omega), if_pos (by omega), if_pos (by omega), w64c i (by omega), rd_at l i (by omega), List.drop_eq_getElem_cons (by omega : i < l.length), List.contains_cons]
    by_cases e : x = l[i]
    · rw [if_pos e]; exact ⟨_, rfl, by rw [beq_iff_eq.mpr e]; simp⟩
    · rw [if_neg e]
      obtain ⟨r, e1, e2⟩ := ih k (i + 1) (by omega) (by omega)
      exact ⟨r, e1, by rw [e2, beq_eq_false_iff_ne.mpr e, Bool.false_or]⟩
theorem contains_calls (W : World) (A : Option Addr) (kc : Nat) (ks : List Int) (i : Int) (hl : ks.length ≤ 100000000) (hk : Kd.C (Kd.int .i64) W A ks.length ks) (hc : ks.length ≤ kc) :
    Calls Try.prog 29 #[.slice A ks.length kc, .int .i64 i] W fun e W' => e = .returned (.bool (ks.contains i)) ∧ ∃ m, W' = W.drewN m := by
  have hf : slices_Contains_int_int.f (ks.length + 1) ks i = some (ks.contains i) := by
    unfold slices_Contains_int_int.f slices_Index_int_int.f
    obtain ⟨r, e1, e2⟩ := index_l0 ks i hl ks.length (ks.length + 1) 0 (by omega) (by omega)
    have e1' : slices_Index_int_int.l0 (ks.length + 1) ks i (ks.length : Int) 0 = some r := e1
    rw [e1', Option.bind_some, e2, List.drop_zero]
  exact (slices_Contains_int_int.calls _ A kc ks i _ W hk hc hf).mono fun e W' h => ⟨h.1, h.2.out⟩
def tornS (t : ByteArray) (a : Int) : ByteArray := t.extract 0 (min (max a 0) (t.size : Int)).toNat
theorem tornS_size (t : ByteArray) (a : Int) : (tornS t a).size ≤ t.size := by unfold tornS; rw [ByteArray.size_extract]; omega
theorem slab_torn (t : ByteArray) (a : Int) (W : World) :
    Calls Try.prog 30 #[.string t, .int .i64 a] W fun e W' => e = .returned (.string (tornS t a)) ∧ W' = W := by
  obtain ⟨m1, hm1⟩ : ∃ m : Int, m = max a 0 := ⟨_, rfl⟩
  obtain ⟨m2, hm2⟩ : ∃ m : Int, m = min m1 (t.size : Int) := ⟨_, rfl⟩
  have e0 : tornS t a = t.extract 0 m2.toNat := by unfold tornS; rw [← hm1, ← hm2]
  have a1 : 0 ≤ m2 := by omega
  have a2 : m2 ≤ (t.size : Int) := by omega
  have e1 : max a 0 = m1 := hm1.symm
  have e2 : min m1 (t.size : Int) = m2 := hm2.symm
  have e3 : (if a < 0 then (0 : Int) else a) = m1 := by split <;> omega
  have e4 : (if (t.size : Int) < m1 then (t.size : Int) else m1) = m2 := by split <;> omega
  rw [e0]
  clear hm1 hm2 e0
  go_enter Try.func30, Try.ntmps30
  go_wp2
  go_ret
  exact ⟨rfl, rfl⟩
theorem IsSl.lts {w W : World} {g rb mb n : Nat} {s : Sl} (h : IsSl w W g rb mb n s) : g < W.heap.size ∧ rb < W.heap.size ∧ mb < W.heap.size := by
  obtain ⟨vk, h1, _⟩ := h.own
  obtain ⟨D, h2, _⟩ := h.map
  exact ⟨blk_lt h1, blk_lt h.row, h2.lt⟩
structure Rg (w W0 wr : World) (g rb mb n r : Nat) (s : Sl) (D : DW) (F : Nat → ByteArray → ByteArray → ByteArray) (lr left : Lit → Bool) (cnt : Nat) : Prop where
  rg : wr.ranges Try.prog 3 (plainElem Try.prog 9) mb r n D left cnt
  gg : wr.heap[g]? = W0.heap[g]?
  row : wr.heap[rb]? = some (.cells (vals (rowL F s.b lr)) 9 (0, 0))
  kept : SlKept W0 wr g rb mb
  bel : Below w.heap.size w wr
theorem grown_set (w : World) (b i : Nat) (v : Value) : w.grownBy (w.setCell ⟨b, i, none⟩ v) (some b) := by
  refine ⟨rfl, rfl, rfl, Nat.le_of_eq (by simp), fun j hj hne => ?_⟩
  exact Below.heap_setCell w ⟨b, i, none⟩ v j (fun e => hne (by rw [e]))
section
variable {w W0 wr : World} {g rb mb n r : Nat} {s : Sl} {D : DW} {F : Nat → ByteArray → ByteArray → ByteArray} {lr left : Lit → Bool} {cnt : Nat}
theorem Rg.drewN (h : Rg w W0 wr g rb mb n r s D F lr left cnt) (m : Nat) : Rg w W0 (wr.drewN m) g rb mb n r s D F lr left cnt :=
  ⟨h.rg, h.gg, h.row, h.kept, pw_below_drewN h.bel m⟩
theorem Rg.next (h : Rg w W0 wr g rb mb n r s D F lr left cnt) (hs : IsSl w W0 g rb mb n s) (hr : W0.heap.size ≤ r) {w1 : World} {left' : Lit → Bool} {cnt' : Nat} (hrg : w1.ranges Try.prog 3 (plainElem Try.prog 9) mb r n D left' cnt') (hg : wr.grownBy w1 (some r)) (hz : w1.heap.size = wr.heap.size) : Rg w W0 w1 g rb mb n r s D F lr left' cnt' := by
  have hl := hs.lts
  have hlr := blk_lt h.row
  have hk : ∀ i, i < W0.heap.size → w1.heap[i]? = wr.heap[i]? := fun i hi => hg.block i (by have := h.kept.1; omega) (by intro e; injection e; omega)
  exact ⟨hrg, (hk g hl.1).trans h.gg, (hk rb hl.2.1).trans h.row, ⟨by rw [hz]; exact h.kept.1, fun i hi h1 h2 h3 => (hk i hi).trans (h.kept.2 i hi h1 h2 h3)⟩,
    ⟨hg.os.trans h.bel.os, hg.tape.trans h.bel.tape, hg.output.trans h.bel.output, by rw [hz]; exact h.bel.size, fun i hi => (hk i (by have := hs.bel.size; omega)).trans (h.bel.block i hi)⟩⟩
theorem Rg.store (h : Rg w W0 wr g rb mb n r s D F lr left cnt) (hs : IsSl w W0 g rb mb n s) (hr : W0.heap.size ≤ r) (i : Nat) (t : ByteArray) {lr' : Lit → Bool} (e : (rowL F s.b lr).set i t = rowL F s.b lr') : Rg w W0 (wr.setCell ⟨rb, i, none⟩ (.string t)) g rb mb n r s D F lr' left cnt := by
  have hl := hs.lts
  exact ⟨h.rg.kept (grown_set wr rb i _) (by intro e; injection e with e; exact hs.rm e.symm) (by intro e; injection e; omega), (Below.heap_setCell wr ⟨rb, i, none⟩ _ g hs.gr).trans h.gg, blk_put h.row i _ (by rw [vals_set, e]), h.kept.trans (SlKept.set (Or.inr (Or.inl rfl)) _), below_set h.bel hs.r1⟩
theorem Rg.same (h : Rg w W0 wr g rb mb n r s D F lr left cnt) {lr' : Lit → Bool} (e : rowL F s.b lr = rowL F s.b lr') : Rg w W0 wr g rb mb n r s D F lr' left cnt := ⟨h.rg, h.gg, e ▸ h.row, h.kept, h.bel⟩
theorem Rg.cells (h : Rg w W0 wr g rb mb n r s D F lr left cnt) (hs : IsSl w W0 g rb mb n s) : wr.cell? ⟨g, 0, none⟩ = some (.slice (some ⟨rb, 0, none⟩) s.b.length s.b.length) ∧ wr.cell? ⟨g, 1, none⟩ = some (.map (some mb)) ∧ wr.cell? ⟨g, 6, none⟩ = some (.bool s.down) ∧ wr.frozen? ⟨g, 6, none⟩ = false := by
  obtain ⟨vk, h1, _⟩ := hs.own
  have h2 := h.gg.trans h1
  exact ⟨(blk_cell h2 0).trans rfl, (blk_cell h2 1).trans rfl, (blk_cell h2 6).trans rfl, blk_frozen h2 6⟩
theorem Rg.box (h : Rg w W0 wr g rb mb n r s D F lr left cnt) {g0 : Nat} {cs : Array Value} {t : TypeId} (hx : W0.heap[g0]? = some (.cells cs t (0, 0))) (hg : g0 ≠ g ∧ g0 ≠ rb ∧ g0 ≠ mb) : wr.heap[g0]? = some (.cells cs t (0, 0)) :=
  (h.kept.2 g0 (blk_lt hx) hg.1 hg.2.1 hg.2.2).trans hx
theorem Rg.rowAt (h : Rg w W0 wr g rb mb n r s D F lr left cnt) (i : Nat) (x t : ByteArray) (hb : s.b[i]? = some (x, some t)) (hl : lr (.int .i64 (i : Int)) = true) : wr.cell? ⟨rb, i, none⟩ = some (.string x) ∧ wr.frozen? ⟨rb, i, none⟩ = false :=
  ⟨(blk_cell h.row i).trans (vals_get _ i x (rowL_at F s.b lr i x t hb hl)), blk_frozen h.row i⟩
theorem Rg.start (hs : IsSl w W0 g rb mb n s) (hA : SlAs D s.b) {w0 : World} (hrg : w0.ranges Try.prog 3 (plainElem Try.prog 9) mb r n D (Maps.has D) (Maps.size D)) (hg : W0.grownBy w0 none) : Rg w W0 w0 g rb mb n r s D F (Maps.has D) (Maps.has D) (Maps.size D) := by
  have hl := hs.lts
  have hk : ∀ i, i < W0.heap.size → w0.heap[i]? = W0.heap[i]? := fun i hi => hg.block i hi (by intro e; cases e)
  exact ⟨hrg, hk g hl.1, by rw [hk rb hl.2.1, rowL_start F s.b D hA, ← strs_vals]; exact hs.row, ⟨hg.size, fun i hi _ _ _ => hk i hi⟩,
    ⟨hg.os.trans hs.bel.os, hg.tape.trans hs.bel.tape, hg.output.trans hs.bel.output, Nat.le_trans hs.bel.size hg.size, fun i hi => (hk i (by have := hs.bel.size; omega)).trans (hs.bel.block i hi)⟩⟩
/-- nothing is left, and the map is cleared -/
theorem Rg.done (h : Rg w W0 wr g rb mb n r s D F lr left cnt) (hs : IsSl w W0 g rb mb n s) (hl : ∀ kl, lr kl = false) (hF : ∀ i x t, x.size ≤ 256 → t.size ≤ 256 → (F i x t).size ≤ 256) {w2 : World} (hm : w2.ownsMap Try.prog 3 (plainElem Try.prog 9) mb n (.map [] : DW)) (ht : wr.mapTurned w2 mb) :
    IsSl w w2 g rb mb n { s with b := settle F s.b } ∧ SlKept W0 w2 g rb mb := by
  have hl0 : lr = fun _ => false := funext hl
  obtain ⟨vk, h1, h2⟩ := hs.own
  have hgr := ht.grown
  have hkb : SlKept wr w2 g rb mb := ⟨hgr.size, fun i hi _ _ h3 => hgr.block i hi (by intro e; injection e with e; exact h3 e)⟩
  have hk := h.kept.trans hkb
  have hg := hs.lts
  refine ⟨⟨⟨vk, ?_, ?_⟩, ?_, ⟨_, hm, settle_as F s.b⟩, by rw [settle_len]; exact hs.len, settle_small F s.b hs.small hF, hs.wt, hs.kl, hs.g1, hs.r1, hs.m1, hs.gr, hs.gm, hs.rm, ?_⟩, hk⟩
  · rw [hgr.block g (blk_lt (h.gg.trans h1)) (by intro e; injection e with e; exact hs.gm e), h.gg, h1]; simp only [settle_len]
  · exact Kd.R_step h2 (fun i hi hlt => hk.2 i hlt (hi.1 g (by simp)) (hi.1 rb (by simp)) (hi.1 mb (by simp)))
  · rw [hgr.block rb (blk_lt h.row) (by intro e; injection e with e; exact hs.rm e), h.row, settle_row, hl0]
  · exact ⟨hgr.os.trans h.bel.os, hgr.tape.trans h.bel.tape, hgr.output.trans h.bel.output, Nat.le_trans h.bel.size hgr.size, fun i hi => (hgr.block i (Nat.lt_of_lt_of_le hi h.bel.size) (by intro e; injection e with e; have := hs.m1; omega)).trans (h.bel.block i hi)⟩
end
def failF (kl : List Int) (tr at_ : Int) (i : Nat) (x t : ByteArray) : ByteArray := if kl.contains (i : Int) = true then t else if (i : Int) = tr then tornS t at_ else x
theorem failF_small {kl : List Int} {tr at_ : Int} : ∀ (i : Nat) (x t : ByteArray), x.size ≤ 256 → t.size ≤ 256 → (failF kl tr at_ i x t).size ≤ 256 := by
  intro i x t h1 h2
  unfold failF
  split
  · exact h2
  · split
    · exact Nat.le_trans (tornS_size t at_) h2
    · exact h1
def Sl.fail (s : Sl) (kl : List Int) (tr at_ : Int) : Sl := if s.down = true then s else { s with b := settle (failF kl tr at_) s.b, down := true }
structure RgF (w W0 wr : World) (g rb mb n g0 : Nat) (s : Sl) (D : DW) (A : Option Addr) (kc : Nat) (ks : List Int) (tr at_ : Int) (lr left : Lit → Bool) (cnt : Nat) : Prop where
  rg : Rg w W0 wr g rb mb n W0.heap.size s D (failF ks tr at_) lr left cnt
  hs : IsSl w W0 g rb mb n s
  bx : W0.heap[g0]? = some (.cells #[.slice A ks.length kc, .int .i64 tr, .int .i64 at_] 33 (0, 0))
  bg : g0 ≠ g ∧ g0 ≠ rb ∧ g0 ≠ mb
theorem RgF.facts {w W0 wr : World} {g rb mb n : Nat} {s : Sl} {D : DW} {lr left : Lit → Bool} {cnt : Nat} {g0 : Nat} {A : Option Addr} {kc : Nat} {ks : List Int} {tr at_ : Int} (h : RgF w W0 wr g rb mb n g0 s D A kc ks tr at_ lr left cnt) :
    wr.cell? ⟨g0, 0, none⟩ = some (.slice A ks.length kc) ∧ wr.cell? ⟨g0, 1, none⟩ = some (.int .i64 tr) ∧ wr.cell? ⟨g0, 2, none⟩ = some (.int .i64 at_) ∧ wr.cell? ⟨g, 0, none⟩ = some (.slice (some ⟨rb, 0, none⟩) s.b.length s.b.length) ∧ wr.cell? ⟨g, 1, none⟩ = some (.map (some mb)) ∧ wr.frozen? ⟨g, 6, none⟩ = false ∧ wr.cell? ⟨g, 6, none⟩ = some (.bool s.down) := by
  have hb := h.rg.box h.bx h.bg
  obtain ⟨a, b, c, d⟩ := h.rg.cells h.hs
  exact ⟨(blk_cell hb 0).trans rfl, (blk_cell hb 1).trans rfl, (blk_cell hb 2).trans rfl, a, b, d, c⟩
theorem RgF.drewN {w W0 wr : World} {g rb mb n : Nat} {s : Sl} {D : DW} {lr left : Lit → Bool} {cnt : Nat} {g0 : Nat} {A : Option Addr} {kc : Nat} {ks : List Int} {tr at_ : Int} (h : RgF w W0 wr g rb mb n g0 s D A kc ks tr at_ lr left cnt) {w2 : World} (hw : ∃ m, w2 = wr.drewN m) : RgF w W0 w2 g rb mb n g0 s D A kc ks tr at_ lr left cnt := by
  obtain ⟨m, rfl⟩ := hw
  exact ⟨h.rg.drewN m, h.hs, h.bx, h.bg⟩
theorem rangeLeft_drewN (w : World) (m b r : Nat) : (w.drewN m).rangeLeft b r = w.rangeLeft b r := rfl
/-- the measure: a store into the row leaves it -/
theorem Rg.left {w W0 wr : World} {g rb mb n r : Nat} {s : Sl} {D : DW} {F : Nat → ByteArray → ByteArray → ByteArray} {lr left : Lit → Bool} {cnt : Nat} (h : Rg w W0 wr g rb mb n r s D F lr left cnt) : wr.rangeLeft mb r = cnt := h.rg.left_eq
theorem plain_str {P : Program} {e : TypeId} (he : P.underlying e = some .string) {v : Value} {y : DataW Unit × List MemPlace} (h : plainElem P e v = some y) : ∃ t, v = .string t ∧ y.1 = .lit (.string t.data.toList) := by
  unfold plainElem at h
  rw [he] at h
  cases v <;> simp at h
  exact ⟨_, rfl, by rw [← h.2]⟩
theorem str_inj {a b : ByteArray} (h : (DataW.lit (.string a.data.toList) : DW) = .lit (.string b.data.toList)) : a = b := by
  have h2 : a.data.toList = b.data.toList := by injection h with h; injection h
  have h3 : a.data = b.data := Array.toList_inj.1 h2
  cases a; cases b; simpa using h3
/-- what an entry that comes is -/
theorem SlAs.entry {D : DW} {b : List (ByteArray × Option ByteArray)} (h : SlAs D b) {x : Int} {c : ByteArray} {y : DataW Unit × List MemPlace} (hh : Maps.has D (.int .i64 x) = true) (hv : plainElem Try.prog 9 (.string c) = some y) (hat : ∀ zd, D.atKey (.int .i64 x) zd = y.1) : ∃ (i : Nat) (o : ByteArray), x = (i : Int) ∧ i < b.length ∧ b[i]? = some (o, some c) := by
  obtain ⟨i, hi, e⟩ := h.in_ _ hh
  have ex : x = (i : Int) := by injection e
  subst ex
  obtain ⟨t, et, ey⟩ := plain_str Try.underlying9 hv
  have et' : c = t := by injection et
  subst et'
  cases hb : b[i]'hi with
  | mk o v =>
    have hb2 : b[i]? = some (o, v) := by rw [List.getElem?_eq_getElem hi, hb]
    cases v with
    | none => rw [h.none_ i o hb2] at hh; exact absurd hh (by decide)
    | some u =>
      have e2 := (h.some_ i o u hb2).2 (.lit (.bool true))
      rw [hat, ey] at e2
      exact ⟨i, o, rfl, hi, by rw [hb2, str_inj e2]⟩
set_option maxRecDepth 100000 in
theorem slab_fail_down {w W : World} {g rb mb n : Nat} {s : Sl} (h : IsSl w W g rb mb n s) (A : Option Addr) (kc : Nat) (ks : List Int) (tr at_ : Int)
    (hk : ∀ W', SlKept W W' g rb mb → Kd.C (Kd.int .i64) W' A ks.length ks) (hc : ks.length ≤ kc) (hn1 : ks.length ≤ 100000000) (hd : s.down = true) :
    Calls Try.prog 14 #[.pointer (some ⟨g, 0, none⟩), .agg #[.slice A ks.length kc, .int .i64 tr, .int .i64 at_]] W fun e W' => e = .returned (.tuple #[]) ∧ IsSl w W' g rb mb n s ∧ SlKept W W' g rb mb := by
  have HS := Aside0.mk h
  have HK := Aside0.mk hk
  have HC := Aside0.mk hc
  have HN1 := Aside0.mk hn1
  have HD := Aside0.mk hd
  clear h hk hc hd hn1
  go_enter Try.func14, Try.ntmps14
  go_upto_region 1 with (fail)
  have hb0 : Below W.heap.size W (W.alloc (.cells #[.slice A ks.length kc, .int .i64 tr, .int .i64 at_] 33)) := below_alloc (Below.refl _ _) _
  have HB0 := Aside0.mk (SlKept.below (g := g) (rb := rb) (mb := mb) hb0)
  have HX := Aside0.mk (blk_new W (.cells #[.slice A ks.length kc, .int .i64 tr, .int .i64 at_] 33))
  have HG : Aside0 (W.heap.size ≠ g ∧ W.heap.size ≠ rb ∧ W.heap.size ≠ mb) := ⟨by have := HS.out.lts; omega⟩
  replace HS := Aside0.mk (HS.out.below hb0)
  have HK2 : Aside0 (∀ W', SlKept (W.alloc (.cells #[.slice A ks.length kc, .int .i64 tr, .int .i64 at_] 33)) W' g rb mb → Kd.C (Kd.int .i64) W' A ks.length ks) := ⟨fun W' h => HK.out W' (HB0.out.trans h)⟩
  clear hb0 HK
  generalize W.alloc (.cells #[.slice A ks.length kc, .int .i64 tr, .int .i64 at_] 33) = W0 at HS HK2 HB0 HX ⊢
  generalize W.heap.size = g0 at HX HG ⊢
  obtain ⟨c0, c1, c2, c6⟩ := HS.out.cells
  rw [HD.out] at c6
  go_wp2
  refine bodyPost_ret (results_none rfl _ _ _) rfl ?_
  exact ⟨rfl, HS.out, HB0.out⟩
set_option maxRecDepth 100000 in
theorem slab_fail_up {w W : World} {g rb mb n : Nat} {s : Sl} (h : IsSl w W g rb mb n s) (A : Option Addr) (kc : Nat) (ks : List Int) (tr at_ : Int)
    (hk : ∀ W', SlKept W W' g rb mb → Kd.C (Kd.int .i64) W' A ks.length ks) (hc : ks.length ≤ kc) (hn1 : ks.length ≤ 100000000) (hd : s.down = false) :
    Calls Try.prog 14 #[.pointer (some ⟨g, 0, none⟩), .agg #[.slice A ks.length kc, .int .i64 tr, .int .i64 at_]] W fun e W' => e = .returned (.tuple #[]) ∧ IsSl w W' g rb mb n { s with b := settle (failF ks tr at_) s.b, down := true } ∧ SlKept W W' g rb mb := by
  have HS := Aside0.mk h
  have HK := Aside0.mk hk
  have HC := Aside0.mk hc
  have HN1 := Aside0.mk hn1
  have HD := Aside0.mk hd
  clear h hk hc hd hn1
  go_enter Try.func14, Try.ntmps14
  go_upto_region 1 with (fail)
  have hb0 : Below W.heap.size W (W.alloc (.cells #[.slice A ks.length kc, .int .i64 tr, .int .i64 at_] 33)) := below_alloc (Below.refl _ _) _
  have HB0 := Aside0.mk (SlKept.below (g := g) (rb := rb) (mb := mb) hb0)
  have HX := Aside0.mk (blk_new W (.cells #[.slice A ks.length kc, .int .i64 tr, .int .i64 at_] 33))
  have HG : Aside0 (W.heap.size ≠ g ∧ W.heap.size ≠ rb ∧ W.heap.size ≠ mb) := ⟨by have := HS.out.lts; omega⟩
  replace HS := Aside0.mk (HS.out.below hb0)
  have HK2 : Aside0 (∀ W', SlKept (W.alloc (.cells #[.slice A ks.length kc, .int .i64 tr, .int .i64 at_] 33)) W' g rb mb → Kd.C (Kd.int .i64) W' A ks.length ks) := ⟨fun W' h => HK.out W' (HB0.out.trans h)⟩
  clear hb0 HK
  generalize W.alloc (.cells #[.slice A ks.length kc, .int .i64 tr, .int .i64 at_] 33) = W0 at HS HK2 HB0 HX ⊢
  generalize W.heap.size = g0 at HX HG ⊢
  obtain ⟨c0, c1, c2, c6⟩ := HS.out.cells
  rw [HD.out] at c6
  obtain ⟨D, hown, hAs⟩ := HS.out.map
  have HAs := Aside0.mk hAs
  have HO := Aside0.mk hown
  clear hAs hown
  go_wp2_with (first | (at_range; have hown := HO.out; refine wpList_range_own _ rfl _ 60 rfl 3 9 (Maps.int_keyed Try.underlying3) Try.underlying60 _ mb n D rfl hown ?_; intro w0 hrg0 hg0 hs0; clear hown) | go_in)
  go_frame
  have HR0 := Aside0.mk (Rg.start (F := failF ks tr at_) HS.out HAs.out hrg0 hg0)
  have HRr : Aside0 (W0.heap.size ≤ W0.heap.size) := ⟨Nat.le_refl _⟩
  generalize hr_ : W0.heap.size = r at HR0 hrg0 ⊢
  rw [hr_] at HRr
  subst hr_
  clear hrg0 hg0 hs0 c0 c1 c2 c6
  go_loopw [4, 5] (fun v4 v5 wr => ∃ left cnt, Aside0 (Rg w W0 wr g rb mb n W0.heap.size s D (failF ks tr at_) left left cnt) ∧ Aside0 (∀ kl, left kl = true → Maps.has D kl = true)) (fun _ _ wr => wr.rangeLeft mb W0.heap.size)
  case atStart => exact ⟨_, _, HR0, ⟨fun _ h => h⟩⟩
  case round =>
    obtain ⟨left, cnt, HR, HSub⟩ := hrel
    have hrg := HR.out.rg
    go_upto_if 20 with (at_next; refine wpList_next_ranges _ rfl _ rfl 3 (Maps.int_keyed Try.underlying3) (plainElem Try.prog 9) (Value.int .i64) Value.string (fun key kl h => by obtain ⟨x, rfl, _⟩ := Maps.keyOf_int_inv Try.underlying3 h; exact ⟨x, rfl⟩) (fun v y h => by obtain ⟨t, rfl, _⟩ := plain_str Try.underlying9 h; exact ⟨t, rfl⟩) mb W0.heap.size n D left cnt rfl hrg ?_ ?_; intro hz0 hl0; rotate_left; intro x c kl y w1 cnt1 hkey hlx hv hat hrg1 hlt hgr hsz hen; have HN := Aside0.mk (And.intro hkey (And.intro hlx (And.intro hv (And.intro hat (And.intro hrg1 (And.intro hlt (And.intro hgr hsz))))))); clear hkey hlx hv hat hrg1 hlt hgr hsz hrg)
    rotate_left
    · have HR1 := Aside0.mk (RgF.mk (g0 := g0) (A := A) (kc := kc) (ks := ks) (tr := tr) (at_ := at_) HR.out HS.out HX.out HG.out)
      obtain ⟨x0, x1, x2, c0, c1, z6, c6⟩ := HR1.out.facts
      obtain ⟨w2, hrun, hm2, ht2⟩ := run_clear_map hrg.owns Try.underlying60 0
      obtain ⟨e1, e2⟩ := HR.out.done HS.out hl0 failF_small hm2 ht2
      have HE := Aside0.mk (e1.setDown true)
      have HE2 := Aside0.mk e2
      have z6' := e1.frz 6
      have c6' := e1.cells.2.2.2
      clear e1 e2 hm2 ht2 hl0 hz0 hrg
      go_wp2
      refine bodyPost_end (results_none rfl _ _ _) rfl ?_
      exact ⟨rfl, HE.out, (HB0.out.trans HE2.out).trans (SlKept.set (Or.inl rfl) _)⟩
    · skip
      obtain ⟨hkey, hlx, hv, hat, hrg1, hlt, hgr, hsz⟩ := HN.out
      have hrg := HR.out.rg
      clear HN
      obtain ⟨x', ex, rfl, _⟩ := Maps.keyOf_int_inv Try.underlying3 hkey
      cases ex
      obtain ⟨i, o, rfl, hi, hb⟩ := HAs.out.entry (HSub.out _ hlx) hv hat
      have HR1 := Aside0.mk (RgF.mk (g0 := g0) (A := A) (kc := kc) (ks := ks) (tr := tr) (at_ := at_) (HR.out.next HS.out HRr.out hrg1 hgr hsz) HS.out HX.out HG.out)
      have HM := Aside0.mk hlt
      have HBi := Aside0.mk (And.intro hi hb)
      have HL := Aside0.mk hlx
      have HCt := Aside0.mk (contains_calls w1 A kc ks (i : Int) HN1.out (HK2.out w1 HR1.out.rg.kept) HC.out)
      obtain ⟨x0, x1, x2, c0, c1, c6, z6⟩ := HR1.out.facts
      clear hi hb hlx hgr hsz hrg hrg1 hlt hat hv hkey
      by_cases hq : ks.contains (i : Int) = true
      · rw [hq] at HCt
        have HQ := Aside0.mk hq
        clear hq
        go_upto_region 6 with (go_at_call 29; refine HCt.out.mono ?_; rintro e w2 ⟨rfl, hd⟩; have HD2 := Aside0.mk hd; clear hd)
        replace HR1 := Aside0.mk (HR1.out.drewN HD2.out)
        clear x0 x1 x2 c0 c1 c6 z6 HD2
        obtain ⟨x0, x1, x2, c0, c1, c6, z6⟩ := HR1.out.facts
        obtain ⟨r0, r1⟩ := HR1.out.rg.rowAt i o c HBi.out.2 HL.out
        have hi := HBi.out.1
        go_wp2
        have h2 := HR1.out.rg.store HS.out HRr.out i c (lr' := fun z => left z && !z.sameKey (.int .i64 (i : Int))) (by
          rw [← rowL_step (failF ks tr at_) s.b left i o c HBi.out.2]; congr 1; unfold failF; rw [if_pos HQ.out])
        exact ⟨⟨_, _, ⟨h2⟩, ⟨fun kl h => HSub.out kl (by simp at h; exact h.1)⟩⟩, by rw [h2.left, HR.out.left]; exact HM.out⟩
      · replace hq := Bool.eq_false_iff.mpr hq
        rw [hq] at HCt
        have HQ := Aside0.mk hq
        clear hq
        by_cases ht : (i : Int) = tr
        · have q0 : ((i : Int) == tr) = true := beq_iff_eq.mpr ht
          have q1 : decide ((i : Int) = tr) = true := decide_eq_true ht
          have HT := Aside0.mk ht
          clear ht
          go_upto_region 8 with (go_at_call 29; refine HCt.out.mono ?_; rintro e w2 ⟨rfl, hd⟩; replace HR1 := Aside0.mk (HR1.out.drewN hd); clear x0 x1 x2 c0 c1 c6 z6 hd; obtain ⟨x0, x1, x2, c0, c1, c6, z6⟩ := HR1.out.facts; obtain ⟨r0, r1⟩ := HR1.out.rg.rowAt i o c HBi.out.2 HL.out; have hi := HBi.out.1)
          refine wp_region_still_tail 10 (by kernel_rfl) (by kernel_rfl) ?_
          simp only [List.take_succ_cons, List.take_zero, List.drop_succ_cons, List.drop_zero]
          repeat (first | still_call (slab_torn c at_ _) | still_step)
          refine wpStill_nil ?_
          change wpList _ _ _ _ _ w2.drew
          replace HR1 := Aside0.mk (HR1.out.drewN (w2 := w2.drew) ⟨1, rfl⟩)
          clear x0 x1 x2 c0 c1 c6 z6 r0 r1
          generalize w2.drew = w3 at HR1 ⊢
          obtain ⟨r0, r1⟩ := HR1.out.rg.rowAt i o c HBi.out.2 HL.out
          go_wp2
          have h2 := HR1.out.rg.store HS.out HRr.out i (tornS c at_) (lr' := fun z => left z && !z.sameKey (.int .i64 (i : Int))) (by
            rw [← rowL_step (failF ks tr at_) s.b left i o c HBi.out.2]; congr 1; unfold failF; rw [if_neg (by rw [HQ.out]; decide), if_pos HT.out])
          exact ⟨⟨_, _, ⟨h2⟩, ⟨fun kl h => HSub.out kl (by simp at h; exact h.1)⟩⟩, by rw [h2.left, HR.out.left]; exact HM.out⟩
        · have q0 : ((i : Int) == tr) = false := beq_eq_false_iff_ne.mpr ht
          have q1 : decide ((i : Int) = tr) = false := decide_eq_false ht
          have HT := Aside0.mk ht
          clear ht
          go_wp2_with (go_at_call 29; refine HCt.out.mono ?_; rintro e w2 ⟨rfl, hd⟩; replace HR1 := Aside0.mk (HR1.out.drewN hd); clear x0 x1 x2 c0 c1 c6 z6 hd; obtain ⟨x0, x1, x2, c0, c1, c6, z6⟩ := HR1.out.facts; obtain ⟨r0, r1⟩ := HR1.out.rg.rowAt i o c HBi.out.2 HL.out; have hi := HBi.out.1)
          have h2 := HR1.out.rg.same (lr' := fun z => left z && !z.sameKey (.int .i64 (i : Int))) (by
            rw [← rowL_step (failF ks tr at_) s.b left i o c HBi.out.2]; unfold failF; rw [if_neg (by rw [HQ.out]; decide), if_neg HT.out]; exact (set_same (rowL_at _ s.b left i o c HBi.out.2 HL.out)).symm)
          exact ⟨⟨_, _, ⟨h2⟩, ⟨fun kl h => HSub.out kl (by simp at h; exact h.1)⟩⟩, by rw [h2.left, HR.out.left]; exact HM.out⟩
theorem slab_fail {w W : World} {g rb mb n : Nat} {s : Sl} (h : IsSl w W g rb mb n s) (A : Option Addr) (kc : Nat) (ks : List Int) (tr at_ : Int)
    (hk : ∀ W', SlKept W W' g rb mb → Kd.C (Kd.int .i64) W' A ks.length ks) (hc : ks.length ≤ kc) (hn1 : ks.length ≤ 100000000) :
    Calls Try.prog 14 #[.pointer (some ⟨g, 0, none⟩), .agg #[.slice A ks.length kc, .int .i64 tr, .int .i64 at_]] W fun e W' => e = .returned (.tuple #[]) ∧ IsSl w W' g rb mb n (s.fail ks tr at_) ∧ SlKept W W' g rb mb := by
  unfold Sl.fail
  by_cases hd : s.down = true
  · rw [if_pos hd]; exact slab_fail_down h A kc ks tr at_ hk hc hn1 hd
  · rw [if_neg hd]; exact slab_fail_up h A kc ks tr at_ hk hc hn1 (Bool.eq_false_iff.mpr hd)
theorem slab_fail_nil (W : World) (v : Value) (hv : ∃ a b c, v = .agg #[a, b, c]) :
    Calls Try.prog 14 #[.pointer none, v] W fun e W' => e = .returned (.tuple #[]) ∧ Below W.heap.size W W' := by
  obtain ⟨a, b, c, rfl⟩ := hv
  go_enter Try.func14, Try.ntmps14
  go_wp2
  refine bodyPost_ret (results_none rfl _ _ _) rfl ?_
  exact ⟨rfl, below_alloc (Below.refl _ _) _⟩

end Go.Proofs.Ytdenfndpggfgmaa.PP
