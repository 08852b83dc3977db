-- written by a program of this session
import Derived.Test.YtdenfndpggfgmaaPPx0
import Derived.Test.YtdenfndpggfgmaaPPx2
import Derived.Test.YtdenfndpggfgmaaPPx3
import Derived.Test.YtdenfndpggfgmaaPPx4
import Derived.Test.YtdenfndpggfgmaaPPx5
namespace Go.Proofs.Ytdenfndpggfgmaa.PP
open Go.RowKit Go.Proofs.Ytdenfndpggfgmaa.Op Go.Proofs.YtdenfndpggfgmaaW.PrintWords Go.Proofs.YtdenfndpggfgmaaW.PrintLast Go.Proofs.YtdenfndpggfgmaaW.PrintMore
attribute [local go_sem] max2_int min2_int max_two min_two max_three min_three max_four min_four   -- for this text's walks alone
set_option linter.unusedVariables false
set_option linter.unusedSimpArgs false

/-! ### the document's Flush and Write -/
theorem tickR_tick (s : Sl) : tickR s.wait = (s.tick.1.wait, s.tick.2) := by
  unfold tickR Sl.tick
  by_cases h : s.wait < 1
  · rw [if_pos h, if_neg (by omega)]
  · rw [if_neg h, if_pos (by omega)]
set_option maxRecDepth 100000 in
set_option maxHeartbeats 16000000 in
theorem ref_flush_down (W : World) (A0 A2 : Option Addr) (n0 c0 n2 c2 : Nat) (wt tr a : Int) :
    Calls Try.prog 36 #[.agg #[.slice A0 n0 c0, .int .i64 wt, .slice A2 n2 c2, .int .i64 tr, .int .i64 a, .bool true]] W fun e W' => e = .returned (.tuple #[.agg #[.slice A0 n0 c0, .int .i64 wt, .slice A2 n2 c2, .int .i64 tr, .int .i64 a, .bool true], .int .i64 9]) ∧ Below W.heap.size W W' := by
  have HB := Aside0.mk (((Bx.start W).push #[.slice A0 n0 c0, .int .i64 wt, .slice A2 n2 c2, .int .i64 tr, .int .i64 a, .bool true] 51).push #[.slice none 0 0, .int .i64 0, .slice none 0 0, .int .i64 0, .int .i64 0, .bool false] 51)
  go_enter Try.func36, Try.ntmps36
  go_upto_region 1 with (fail)
  simp only [alloc_size, List.nil_append, List.cons_append] at HB
  generalize (W.alloc (.cells #[.slice A0 n0 c0, .int .i64 wt, .slice A2 n2 c2, .int .i64 tr, .int .i64 a, .bool true] 51)).alloc (.cells #[.slice none 0 0, .int .i64 0, .slice none 0 0, .int .i64 0, .int .i64 0, .bool false] 51) = w2 at HB ⊢
  generalize W.heap.size + 1 = b2 at HB ⊢
  generalize hb1 : W.heap.size = b1 at HB ⊢
  have y0 : w2.cell? ⟨b1, 0, none⟩ = some (.slice A0 n0 c0) := (blk_cell (HB.out.get 0 rfl) 0).trans rfl
  have y1 : w2.cell? ⟨b1, 1, none⟩ = some (.int .i64 wt) := (blk_cell (HB.out.get 0 rfl) 1).trans rfl
  have y2 : w2.cell? ⟨b1, 2, none⟩ = some (.slice A2 n2 c2) := (blk_cell (HB.out.get 0 rfl) 2).trans rfl
  have y3 : w2.cell? ⟨b1, 3, none⟩ = some (.int .i64 tr) := (blk_cell (HB.out.get 0 rfl) 3).trans rfl
  have y4 : w2.cell? ⟨b1, 4, none⟩ = some (.int .i64 a) := (blk_cell (HB.out.get 0 rfl) 4).trans rfl
  have y5 : w2.cell? ⟨b1, 5, none⟩ = some (.bool true) := (blk_cell (HB.out.get 0 rfl) 5).trans rfl
  have y5' : w2.cell? ⟨b1, 3 + 2, none⟩ = some (.bool true) := y5
  have t0 : w2.cell? ⟨b2, 0, none⟩ = some (.slice none 0 0) := (blk_cell (HB.out.get 1 rfl) 0).trans rfl
  have t1 : w2.cell? ⟨b2, 1, none⟩ = some (.int .i64 0) := (blk_cell (HB.out.get 1 rfl) 1).trans rfl
  have t2 : w2.cell? ⟨b2, 2, none⟩ = some (.slice none 0 0) := (blk_cell (HB.out.get 1 rfl) 2).trans rfl
  have t3 : w2.cell? ⟨b2, 3, none⟩ = some (.int .i64 0) := (blk_cell (HB.out.get 1 rfl) 3).trans rfl
  have t4 : w2.cell? ⟨b2, 4, none⟩ = some (.int .i64 0) := (blk_cell (HB.out.get 1 rfl) 4).trans rfl
  have t5 : w2.cell? ⟨b2, 5, none⟩ = some (.bool false) := (blk_cell (HB.out.get 1 rfl) 5).trans rfl
  have t5' : w2.cell? ⟨b2, 3 + 2, none⟩ = some (.bool false) := t5
  have tz0 : w2.frozen? ⟨b2, 0, none⟩ = false := blk_frozen (HB.out.get 1 rfl) 0
  have tz1 : w2.frozen? ⟨b2, 1, none⟩ = false := blk_frozen (HB.out.get 1 rfl) 1
  have tz2 : w2.frozen? ⟨b2, 2, none⟩ = false := blk_frozen (HB.out.get 1 rfl) 2
  have tz3 : w2.frozen? ⟨b2, 3, none⟩ = false := blk_frozen (HB.out.get 1 rfl) 3
  have tz4 : w2.frozen? ⟨b2, 4, none⟩ = false := blk_frozen (HB.out.get 1 rfl) 4
  have tz5 : w2.frozen? ⟨b2, 5, none⟩ = false := blk_frozen (HB.out.get 1 rfl) 5
  go_wp2
  replace HB : Aside0 (Bx W ((((((w2.setCell ⟨b2, 0, none⟩ (.slice A0 n0 c0)).setCell ⟨b2, 1, none⟩ (.int .i64 wt)).setCell ⟨b2, 2, none⟩ (.slice A2 n2 c2)).setCell ⟨b2, 3, none⟩ (.int .i64 tr)).setCell ⟨b2, 4, none⟩ (.int .i64 a)).setCell ⟨b2, 5, none⟩ (.bool true)) [(b1, #[.slice A0 n0 c0, .int .i64 wt, .slice A2 n2 c2, .int .i64 tr, .int .i64 a, .bool true], 51), (b2, #[.slice A0 n0 c0, .int .i64 wt, .slice A2 n2 c2, .int .i64 tr, .int .i64 a, .bool true], 51)]) := ⟨((((((HB.out.set 1 0 (.slice A0 n0 c0) rfl).set 1 1 (.int .i64 wt) rfl).set 1 2 (.slice A2 n2 c2) rfl).set 1 3 (.int .i64 tr) rfl).set 1 4 (.int .i64 a) rfl).set 1 5 (.bool true) rfl)⟩
  generalize ((((((w2.setCell ⟨b2, 0, none⟩ (.slice A0 n0 c0)).setCell ⟨b2, 1, none⟩ (.int .i64 wt)).setCell ⟨b2, 2, none⟩ (.slice A2 n2 c2)).setCell ⟨b2, 3, none⟩ (.int .i64 tr)).setCell ⟨b2, 4, none⟩ (.int .i64 a)).setCell ⟨b2, 5, none⟩ (.bool true)) = w9 at HB ⊢
  refine bodyPost_ret (results_ct rfl _ _ b2 51 #[.slice A0 n0 c0, .int .i64 wt, .slice A2 n2 c2, .int .i64 tr, .int .i64 a, .bool true] (0, 0) _ rfl (HB.out.get 1 rfl) Try.underlying51 rfl (by kernel_rfl)) rfl ?_
  first | exact ⟨rfl, HB.out.bel⟩ | exact ⟨rfl, hb1 ▸ HB.out.bel⟩
set_option maxRecDepth 100000 in
set_option maxHeartbeats 16000000 in
theorem ref_write_down (W : World) (A0 A2 : Option Addr) (n0 c0 n2 c2 : Nat) (wt tr a : Int) (i : Int) (t : ByteArray) :
    Calls Try.prog 34 #[.agg #[.slice A0 n0 c0, .int .i64 wt, .slice A2 n2 c2, .int .i64 tr, .int .i64 a, .bool true], .int .i64 i, .string t] W fun e W' => e = .returned (.tuple #[.agg #[.slice A0 n0 c0, .int .i64 wt, .slice A2 n2 c2, .int .i64 tr, .int .i64 a, .bool true], .int .i64 9]) ∧ Below W.heap.size W W' := by
  have HB := Aside0.mk (((Bx.start W).push #[.slice A0 n0 c0, .int .i64 wt, .slice A2 n2 c2, .int .i64 tr, .int .i64 a, .bool true] 51).push #[.slice none 0 0, .int .i64 0, .slice none 0 0, .int .i64 0, .int .i64 0, .bool false] 51)
  go_enter Try.func34, Try.ntmps34
  go_upto_region 1 with (fail)
  simp only [alloc_size, List.nil_append, List.cons_append] at HB
  generalize (W.alloc (.cells #[.slice A0 n0 c0, .int .i64 wt, .slice A2 n2 c2, .int .i64 tr, .int .i64 a, .bool true] 51)).alloc (.cells #[.slice none 0 0, .int .i64 0, .slice none 0 0, .int .i64 0, .int .i64 0, .bool false] 51) = w2 at HB ⊢
  generalize W.heap.size + 1 = b2 at HB ⊢
  generalize hb1 : W.heap.size = b1 at HB ⊢
  have y0 : w2.cell? ⟨b1, 0, none⟩ = some (.slice A0 n0 c0) := (blk_cell (HB.out.get 0 rfl) 0).trans rfl
  have y1 : w2.cell? ⟨b1, 1, none⟩ = some (.int .i64 wt) := (blk_cell (HB.out.get 0 rfl) 1).trans rfl
  have y2 : w2.cell? ⟨b1, 2, none⟩ = some (.slice A2 n2 c2) := (blk_cell (HB.out.get 0 rfl) 2).trans rfl
  have y3 : w2.cell? ⟨b1, 3, none⟩ = some (.int .i64 tr) := (blk_cell (HB.out.get 0 rfl) 3).trans rfl
  have y4 : w2.cell? ⟨b1, 4, none⟩ = some (.int .i64 a) := (blk_cell (HB.out.get 0 rfl) 4).trans rfl
  have y5 : w2.cell? ⟨b1, 5, none⟩ = some (.bool true) := (blk_cell (HB.out.get 0 rfl) 5).trans rfl
  have y5' : w2.cell? ⟨b1, 3 + 2, none⟩ = some (.bool true) := y5
  have t0 : w2.cell? ⟨b2, 0, none⟩ = some (.slice none 0 0) := (blk_cell (HB.out.get 1 rfl) 0).trans rfl
  have t1 : w2.cell? ⟨b2, 1, none⟩ = some (.int .i64 0) := (blk_cell (HB.out.get 1 rfl) 1).trans rfl
  have t2 : w2.cell? ⟨b2, 2, none⟩ = some (.slice none 0 0) := (blk_cell (HB.out.get 1 rfl) 2).trans rfl
  have t3 : w2.cell? ⟨b2, 3, none⟩ = some (.int .i64 0) := (blk_cell (HB.out.get 1 rfl) 3).trans rfl
  have t4 : w2.cell? ⟨b2, 4, none⟩ = some (.int .i64 0) := (blk_cell (HB.out.get 1 rfl) 4).trans rfl
  have t5 : w2.cell? ⟨b2, 5, none⟩ = some (.bool false) := (blk_cell (HB.out.get 1 rfl) 5).trans rfl
  have t5' : w2.cell? ⟨b2, 3 + 2, none⟩ = some (.bool false) := t5
  have tz0 : w2.frozen? ⟨b2, 0, none⟩ = false := blk_frozen (HB.out.get 1 rfl) 0
  have tz1 : w2.frozen? ⟨b2, 1, none⟩ = false := blk_frozen (HB.out.get 1 rfl) 1
  have tz2 : w2.frozen? ⟨b2, 2, none⟩ = false := blk_frozen (HB.out.get 1 rfl) 2
  have tz3 : w2.frozen? ⟨b2, 3, none⟩ = false := blk_frozen (HB.out.get 1 rfl) 3
  have tz4 : w2.frozen? ⟨b2, 4, none⟩ = false := blk_frozen (HB.out.get 1 rfl) 4
  have tz5 : w2.frozen? ⟨b2, 5, none⟩ = false := blk_frozen (HB.out.get 1 rfl) 5
  go_wp2
  replace HB : Aside0 (Bx W ((((((w2.setCell ⟨b2, 0, none⟩ (.slice A0 n0 c0)).setCell ⟨b2, 1, none⟩ (.int .i64 wt)).setCell ⟨b2, 2, none⟩ (.slice A2 n2 c2)).setCell ⟨b2, 3, none⟩ (.int .i64 tr)).setCell ⟨b2, 4, none⟩ (.int .i64 a)).setCell ⟨b2, 5, none⟩ (.bool true)) [(b1, #[.slice A0 n0 c0, .int .i64 wt, .slice A2 n2 c2, .int .i64 tr, .int .i64 a, .bool true], 51), (b2, #[.slice A0 n0 c0, .int .i64 wt, .slice A2 n2 c2, .int .i64 tr, .int .i64 a, .bool true], 51)]) := ⟨((((((HB.out.set 1 0 (.slice A0 n0 c0) rfl).set 1 1 (.int .i64 wt) rfl).set 1 2 (.slice A2 n2 c2) rfl).set 1 3 (.int .i64 tr) rfl).set 1 4 (.int .i64 a) rfl).set 1 5 (.bool true) rfl)⟩
  generalize ((((((w2.setCell ⟨b2, 0, none⟩ (.slice A0 n0 c0)).setCell ⟨b2, 1, none⟩ (.int .i64 wt)).setCell ⟨b2, 2, none⟩ (.slice A2 n2 c2)).setCell ⟨b2, 3, none⟩ (.int .i64 tr)).setCell ⟨b2, 4, none⟩ (.int .i64 a)).setCell ⟨b2, 5, none⟩ (.bool true)) = w9 at HB ⊢
  refine bodyPost_ret (results_ct rfl _ _ b2 51 #[.slice A0 n0 c0, .int .i64 wt, .slice A2 n2 c2, .int .i64 tr, .int .i64 a, .bool true] (0, 0) _ rfl (HB.out.get 1 rfl) Try.underlying51 rfl (by kernel_rfl)) rfl ?_
  first | exact ⟨rfl, HB.out.bel⟩ | exact ⟨rfl, hb1 ▸ HB.out.bel⟩
set_option maxRecDepth 100000 in
set_option maxHeartbeats 16000000 in
theorem ref_write_lt (W : World) (A0 A2 : Option Addr) (n0 c0 n2 c2 : Nat) (wt tr a : Int) (i : Int) (t : ByteArray) (h1 : i < 0) :
    Calls Try.prog 34 #[.agg #[.slice A0 n0 c0, .int .i64 wt, .slice A2 n2 c2, .int .i64 tr, .int .i64 a, .bool false], .int .i64 i, .string t] W fun e W' => e = .returned (.tuple #[.agg #[.slice A0 n0 c0, .int .i64 wt, .slice A2 n2 c2, .int .i64 tr, .int .i64 a, .bool false], .int .i64 1]) ∧ Below W.heap.size W W' := by
  have HB := Aside0.mk (((Bx.start W).push #[.slice A0 n0 c0, .int .i64 wt, .slice A2 n2 c2, .int .i64 tr, .int .i64 a, .bool false] 51).push #[.slice none 0 0, .int .i64 0, .slice none 0 0, .int .i64 0, .int .i64 0, .bool false] 51)
  go_enter Try.func34, Try.ntmps34
  go_upto_region 1 with (fail)
  simp only [alloc_size, List.nil_append, List.cons_append] at HB
  generalize (W.alloc (.cells #[.slice A0 n0 c0, .int .i64 wt, .slice A2 n2 c2, .int .i64 tr, .int .i64 a, .bool false] 51)).alloc (.cells #[.slice none 0 0, .int .i64 0, .slice none 0 0, .int .i64 0, .int .i64 0, .bool false] 51) = w2 at HB ⊢
  generalize W.heap.size + 1 = b2 at HB ⊢
  generalize hb1 : W.heap.size = b1 at HB ⊢
  have y0 : w2.cell? ⟨b1, 0, none⟩ = some (.slice A0 n0 c0) := (blk_cell (HB.out.get 0 rfl) 0).trans rfl
  have y1 : w2.cell? ⟨b1, 1, none⟩ = some (.int .i64 wt) := (blk_cell (HB.out.get 0 rfl) 1).trans rfl
  have y2 : w2.cell? ⟨b1, 2, none⟩ = some (.slice A2 n2 c2) := (blk_cell (HB.out.get 0 rfl) 2).trans rfl
  have y3 : w2.cell? ⟨b1, 3, none⟩ = some (.int .i64 tr) := (blk_cell (HB.out.get 0 rfl) 3).trans rfl
  have y4 : w2.cell? ⟨b1, 4, none⟩ = some (.int .i64 a) := (blk_cell (HB.out.get 0 rfl) 4).trans rfl
  have y5 : w2.cell? ⟨b1, 5, none⟩ = some (.bool false) := (blk_cell (HB.out.get 0 rfl) 5).trans rfl
  have y5' : w2.cell? ⟨b1, 3 + 2, none⟩ = some (.bool false) := y5
  have t0 : w2.cell? ⟨b2, 0, none⟩ = some (.slice none 0 0) := (blk_cell (HB.out.get 1 rfl) 0).trans rfl
  have t1 : w2.cell? ⟨b2, 1, none⟩ = some (.int .i64 0) := (blk_cell (HB.out.get 1 rfl) 1).trans rfl
  have t2 : w2.cell? ⟨b2, 2, none⟩ = some (.slice none 0 0) := (blk_cell (HB.out.get 1 rfl) 2).trans rfl
  have t3 : w2.cell? ⟨b2, 3, none⟩ = some (.int .i64 0) := (blk_cell (HB.out.get 1 rfl) 3).trans rfl
  have t4 : w2.cell? ⟨b2, 4, none⟩ = some (.int .i64 0) := (blk_cell (HB.out.get 1 rfl) 4).trans rfl
  have t5 : w2.cell? ⟨b2, 5, none⟩ = some (.bool false) := (blk_cell (HB.out.get 1 rfl) 5).trans rfl
  have t5' : w2.cell? ⟨b2, 3 + 2, none⟩ = some (.bool false) := t5
  have tz0 : w2.frozen? ⟨b2, 0, none⟩ = false := blk_frozen (HB.out.get 1 rfl) 0
  have tz1 : w2.frozen? ⟨b2, 1, none⟩ = false := blk_frozen (HB.out.get 1 rfl) 1
  have tz2 : w2.frozen? ⟨b2, 2, none⟩ = false := blk_frozen (HB.out.get 1 rfl) 2
  have tz3 : w2.frozen? ⟨b2, 3, none⟩ = false := blk_frozen (HB.out.get 1 rfl) 3
  have tz4 : w2.frozen? ⟨b2, 4, none⟩ = false := blk_frozen (HB.out.get 1 rfl) 4
  have tz5 : w2.frozen? ⟨b2, 5, none⟩ = false := blk_frozen (HB.out.get 1 rfl) 5
  have q1 : decide (i < 0) = true := decide_eq_true h1
  go_wp2
  replace HB : Aside0 (Bx W ((((((w2.setCell ⟨b2, 0, none⟩ (.slice A0 n0 c0)).setCell ⟨b2, 1, none⟩ (.int .i64 wt)).setCell ⟨b2, 2, none⟩ (.slice A2 n2 c2)).setCell ⟨b2, 3, none⟩ (.int .i64 tr)).setCell ⟨b2, 4, none⟩ (.int .i64 a)).setCell ⟨b2, 5, none⟩ (.bool false)) [(b1, #[.slice A0 n0 c0, .int .i64 wt, .slice A2 n2 c2, .int .i64 tr, .int .i64 a, .bool false], 51), (b2, #[.slice A0 n0 c0, .int .i64 wt, .slice A2 n2 c2, .int .i64 tr, .int .i64 a, .bool false], 51)]) := ⟨((((((HB.out.set 1 0 (.slice A0 n0 c0) rfl).set 1 1 (.int .i64 wt) rfl).set 1 2 (.slice A2 n2 c2) rfl).set 1 3 (.int .i64 tr) rfl).set 1 4 (.int .i64 a) rfl).set 1 5 (.bool false) rfl)⟩
  generalize ((((((w2.setCell ⟨b2, 0, none⟩ (.slice A0 n0 c0)).setCell ⟨b2, 1, none⟩ (.int .i64 wt)).setCell ⟨b2, 2, none⟩ (.slice A2 n2 c2)).setCell ⟨b2, 3, none⟩ (.int .i64 tr)).setCell ⟨b2, 4, none⟩ (.int .i64 a)).setCell ⟨b2, 5, none⟩ (.bool false)) = w9 at HB ⊢
  refine bodyPost_ret (results_ct rfl _ _ b2 51 #[.slice A0 n0 c0, .int .i64 wt, .slice A2 n2 c2, .int .i64 tr, .int .i64 a, .bool false] (0, 0) _ rfl (HB.out.get 1 rfl) Try.underlying51 rfl (by kernel_rfl)) rfl ?_
  first | exact ⟨rfl, HB.out.bel⟩ | exact ⟨rfl, hb1 ▸ HB.out.bel⟩
set_option maxRecDepth 100000 in
set_option maxHeartbeats 16000000 in
theorem ref_write_ge (W : World) (A0 A2 : Option Addr) (n0 c0 n2 c2 : Nat) (wt tr a : Int) (j : Nat) (t : ByteArray) (h1 : (n0 : Int) ≤ (j : Int)) :
    Calls Try.prog 34 #[.agg #[.slice A0 n0 c0, .int .i64 wt, .slice A2 n2 c2, .int .i64 tr, .int .i64 a, .bool false], .int .i64 (j : Int), .string t] W fun e W' => e = .returned (.tuple #[.agg #[.slice A0 n0 c0, .int .i64 wt, .slice A2 n2 c2, .int .i64 tr, .int .i64 a, .bool false], .int .i64 1]) ∧ Below W.heap.size W W' := by
  have HB := Aside0.mk (((Bx.start W).push #[.slice A0 n0 c0, .int .i64 wt, .slice A2 n2 c2, .int .i64 tr, .int .i64 a, .bool false] 51).push #[.slice none 0 0, .int .i64 0, .slice none 0 0, .int .i64 0, .int .i64 0, .bool false] 51)
  go_enter Try.func34, Try.ntmps34
  go_upto_region 1 with (fail)
  simp only [alloc_size, List.nil_append, List.cons_append] at HB
  generalize (W.alloc (.cells #[.slice A0 n0 c0, .int .i64 wt, .slice A2 n2 c2, .int .i64 tr, .int .i64 a, .bool false] 51)).alloc (.cells #[.slice none 0 0, .int .i64 0, .slice none 0 0, .int .i64 0, .int .i64 0, .bool false] 51) = w2 at HB ⊢
  generalize W.heap.size + 1 = b2 at HB ⊢
  generalize hb1 : W.heap.size = b1 at HB ⊢
  have y0 : w2.cell? ⟨b1, 0, none⟩ = some (.slice A0 n0 c0) := (blk_cell (HB.out.get 0 rfl) 0).trans rfl
  have y1 : w2.cell? ⟨b1, 1, none⟩ = some (.int .i64 wt) := (blk_cell (HB.out.get 0 rfl) 1).trans rfl
  have y2 : w2.cell? ⟨b1, 2, none⟩ = some (.slice A2 n2 c2) := (blk_cell (HB.out.get 0 rfl) 2).trans rfl
  have y3 : w2.cell? ⟨b1, 3, none⟩ = some (.int .i64 tr) := (blk_cell (HB.out.get 0 rfl) 3).trans rfl
  have y4 : w2.cell? ⟨b1, 4, none⟩ = some (.int .i64 a) := (blk_cell (HB.out.get 0 rfl) 4).trans rfl
  have y5 : w2.cell? ⟨b1, 5, none⟩ = some (.bool false) := (blk_cell (HB.out.get 0 rfl) 5).trans rfl
  have y5' : w2.cell? ⟨b1, 3 + 2, none⟩ = some (.bool false) := y5
  have t0 : w2.cell? ⟨b2, 0, none⟩ = some (.slice none 0 0) := (blk_cell (HB.out.get 1 rfl) 0).trans rfl
  have t1 : w2.cell? ⟨b2, 1, none⟩ = some (.int .i64 0) := (blk_cell (HB.out.get 1 rfl) 1).trans rfl
  have t2 : w2.cell? ⟨b2, 2, none⟩ = some (.slice none 0 0) := (blk_cell (HB.out.get 1 rfl) 2).trans rfl
  have t3 : w2.cell? ⟨b2, 3, none⟩ = some (.int .i64 0) := (blk_cell (HB.out.get 1 rfl) 3).trans rfl
  have t4 : w2.cell? ⟨b2, 4, none⟩ = some (.int .i64 0) := (blk_cell (HB.out.get 1 rfl) 4).trans rfl
  have t5 : w2.cell? ⟨b2, 5, none⟩ = some (.bool false) := (blk_cell (HB.out.get 1 rfl) 5).trans rfl
  have t5' : w2.cell? ⟨b2, 3 + 2, none⟩ = some (.bool false) := t5
  have tz0 : w2.frozen? ⟨b2, 0, none⟩ = false := blk_frozen (HB.out.get 1 rfl) 0
  have tz1 : w2.frozen? ⟨b2, 1, none⟩ = false := blk_frozen (HB.out.get 1 rfl) 1
  have tz2 : w2.frozen? ⟨b2, 2, none⟩ = false := blk_frozen (HB.out.get 1 rfl) 2
  have tz3 : w2.frozen? ⟨b2, 3, none⟩ = false := blk_frozen (HB.out.get 1 rfl) 3
  have tz4 : w2.frozen? ⟨b2, 4, none⟩ = false := blk_frozen (HB.out.get 1 rfl) 4
  have tz5 : w2.frozen? ⟨b2, 5, none⟩ = false := blk_frozen (HB.out.get 1 rfl) 5
  have q0 : decide ((j : Int) < 0) = false := decide_eq_false (by omega)
  have q2 : decide ((n0 : Int) ≤ (j : Int)) = true := decide_eq_true h1
  have q3 : decide ((j : Int) ≥ (n0 : Int)) = true := decide_eq_true h1
  have q4 : n0 ≤ j := by omega
  go_wp2
  replace HB : Aside0 (Bx W ((((((w2.setCell ⟨b2, 0, none⟩ (.slice A0 n0 c0)).setCell ⟨b2, 1, none⟩ (.int .i64 wt)).setCell ⟨b2, 2, none⟩ (.slice A2 n2 c2)).setCell ⟨b2, 3, none⟩ (.int .i64 tr)).setCell ⟨b2, 4, none⟩ (.int .i64 a)).setCell ⟨b2, 5, none⟩ (.bool false)) [(b1, #[.slice A0 n0 c0, .int .i64 wt, .slice A2 n2 c2, .int .i64 tr, .int .i64 a, .bool false], 51), (b2, #[.slice A0 n0 c0, .int .i64 wt, .slice A2 n2 c2, .int .i64 tr, .int .i64 a, .bool false], 51)]) := ⟨((((((HB.out.set 1 0 (.slice A0 n0 c0) rfl).set 1 1 (.int .i64 wt) rfl).set 1 2 (.slice A2 n2 c2) rfl).set 1 3 (.int .i64 tr) rfl).set 1 4 (.int .i64 a) rfl).set 1 5 (.bool false) rfl)⟩
  generalize ((((((w2.setCell ⟨b2, 0, none⟩ (.slice A0 n0 c0)).setCell ⟨b2, 1, none⟩ (.int .i64 wt)).setCell ⟨b2, 2, none⟩ (.slice A2 n2 c2)).setCell ⟨b2, 3, none⟩ (.int .i64 tr)).setCell ⟨b2, 4, none⟩ (.int .i64 a)).setCell ⟨b2, 5, none⟩ (.bool false)) = w9 at HB ⊢
  refine bodyPost_ret (results_ct rfl _ _ b2 51 #[.slice A0 n0 c0, .int .i64 wt, .slice A2 n2 c2, .int .i64 tr, .int .i64 a, .bool false] (0, 0) _ rfl (HB.out.get 1 rfl) Try.underlying51 rfl (by kernel_rfl)) rfl ?_
  first | exact ⟨rfl, HB.out.bel⟩ | exact ⟨rfl, hb1 ▸ HB.out.bel⟩
set_option maxRecDepth 100000 in
set_option maxHeartbeats 16000000 in
theorem ref_write_long (W : World) (A0 A2 : Option Addr) (n0 c0 n2 c2 : Nat) (wt tr a : Int) (j : Nat) (t : ByteArray) (h1 : ¬ (n0 : Int) ≤ (j : Int)) (h2 : 256 < (t.size : Int)) :
    Calls Try.prog 34 #[.agg #[.slice A0 n0 c0, .int .i64 wt, .slice A2 n2 c2, .int .i64 tr, .int .i64 a, .bool false], .int .i64 (j : Int), .string t] W fun e W' => e = .returned (.tuple #[.agg #[.slice A0 n0 c0, .int .i64 wt, .slice A2 n2 c2, .int .i64 tr, .int .i64 a, .bool false], .int .i64 1]) ∧ Below W.heap.size W W' := by
  have HB := Aside0.mk (((Bx.start W).push #[.slice A0 n0 c0, .int .i64 wt, .slice A2 n2 c2, .int .i64 tr, .int .i64 a, .bool false] 51).push #[.slice none 0 0, .int .i64 0, .slice none 0 0, .int .i64 0, .int .i64 0, .bool false] 51)
  go_enter Try.func34, Try.ntmps34
  go_upto_region 1 with (fail)
  simp only [alloc_size, List.nil_append, List.cons_append] at HB
  generalize (W.alloc (.cells #[.slice A0 n0 c0, .int .i64 wt, .slice A2 n2 c2, .int .i64 tr, .int .i64 a, .bool false] 51)).alloc (.cells #[.slice none 0 0, .int .i64 0, .slice none 0 0, .int .i64 0, .int .i64 0, .bool false] 51) = w2 at HB ⊢
  generalize W.heap.size + 1 = b2 at HB ⊢
  generalize hb1 : W.heap.size = b1 at HB ⊢
  have y0 : w2.cell? ⟨b1, 0, none⟩ = some (.slice A0 n0 c0) := (blk_cell (HB.out.get 0 rfl) 0).trans rfl
  have y1 : w2.cell? ⟨b1, 1, none⟩ = some (.int .i64 wt) := (blk_cell (HB.out.get 0 rfl) 1).trans rfl
  have y2 : w2.cell? ⟨b1, 2, none⟩ = some (.slice A2 n2 c2) := (blk_cell (HB.out.get 0 rfl) 2).trans rfl
  have y3 : w2.cell? ⟨b1, 3, none⟩ = some (.int .i64 tr) := (blk_cell (HB.out.get 0 rfl) 3).trans rfl
  have y4 : w2.cell? ⟨b1, 4, none⟩ = some (.int .i64 a) := (blk_cell (HB.out.get 0 rfl) 4).trans rfl
  have y5 : w2.cell? ⟨b1, 5, none⟩ = some (.bool false) := (blk_cell (HB.out.get 0 rfl) 5).trans rfl
  have y5' : w2.cell? ⟨b1, 3 + 2, none⟩ = some (.bool false) := y5
  have t0 : w2.cell? ⟨b2, 0, none⟩ = some (.slice none 0 0) := (blk_cell (HB.out.get 1 rfl) 0).trans rfl
  have t1 : w2.cell? ⟨b2, 1, none⟩ = some (.int .i64 0) := (blk_cell (HB.out.get 1 rfl) 1).trans rfl
  have t2 : w2.cell? ⟨b2, 2, none⟩ = some (.slice none 0 0) := (blk_cell (HB.out.get 1 rfl) 2).trans rfl
  have t3 : w2.cell? ⟨b2, 3, none⟩ = some (.int .i64 0) := (blk_cell (HB.out.get 1 rfl) 3).trans rfl
  have t4 : w2.cell? ⟨b2, 4, none⟩ = some (.int .i64 0) := (blk_cell (HB.out.get 1 rfl) 4).trans rfl
  have t5 : w2.cell? ⟨b2, 5, none⟩ = some (.bool false) := (blk_cell (HB.out.get 1 rfl) 5).trans rfl
  have t5' : w2.cell? ⟨b2, 3 + 2, none⟩ = some (.bool false) := t5
  have tz0 : w2.frozen? ⟨b2, 0, none⟩ = false := blk_frozen (HB.out.get 1 rfl) 0
  have tz1 : w2.frozen? ⟨b2, 1, none⟩ = false := blk_frozen (HB.out.get 1 rfl) 1
  have tz2 : w2.frozen? ⟨b2, 2, none⟩ = false := blk_frozen (HB.out.get 1 rfl) 2
  have tz3 : w2.frozen? ⟨b2, 3, none⟩ = false := blk_frozen (HB.out.get 1 rfl) 3
  have tz4 : w2.frozen? ⟨b2, 4, none⟩ = false := blk_frozen (HB.out.get 1 rfl) 4
  have tz5 : w2.frozen? ⟨b2, 5, none⟩ = false := blk_frozen (HB.out.get 1 rfl) 5
  have q0 : decide ((j : Int) < 0) = false := decide_eq_false (by omega)
  have q2 : decide ((n0 : Int) ≤ (j : Int)) = false := decide_eq_false h1
  have q3 : decide ((j : Int) ≥ (n0 : Int)) = false := decide_eq_false h1
  have q4 : ¬ n0 ≤ j := by omega
  have q5 : decide ((t.size : Int) > 256) = true := decide_eq_true h2
  have q6 : decide (256 < (t.size : Int)) = true := decide_eq_true h2
  go_wp2
  replace HB : Aside0 (Bx W ((((((w2.setCell ⟨b2, 0, none⟩ (.slice A0 n0 c0)).setCell ⟨b2, 1, none⟩ (.int .i64 wt)).setCell ⟨b2, 2, none⟩ (.slice A2 n2 c2)).setCell ⟨b2, 3, none⟩ (.int .i64 tr)).setCell ⟨b2, 4, none⟩ (.int .i64 a)).setCell ⟨b2, 5, none⟩ (.bool false)) [(b1, #[.slice A0 n0 c0, .int .i64 wt, .slice A2 n2 c2, .int .i64 tr, .int .i64 a, .bool false], 51), (b2, #[.slice A0 n0 c0, .int .i64 wt, .slice A2 n2 c2, .int .i64 tr, .int .i64 a, .bool false], 51)]) := ⟨((((((HB.out.set 1 0 (.slice A0 n0 c0) rfl).set 1 1 (.int .i64 wt) rfl).set 1 2 (.slice A2 n2 c2) rfl).set 1 3 (.int .i64 tr) rfl).set 1 4 (.int .i64 a) rfl).set 1 5 (.bool false) rfl)⟩
  generalize ((((((w2.setCell ⟨b2, 0, none⟩ (.slice A0 n0 c0)).setCell ⟨b2, 1, none⟩ (.int .i64 wt)).setCell ⟨b2, 2, none⟩ (.slice A2 n2 c2)).setCell ⟨b2, 3, none⟩ (.int .i64 tr)).setCell ⟨b2, 4, none⟩ (.int .i64 a)).setCell ⟨b2, 5, none⟩ (.bool false)) = w9 at HB ⊢
  refine bodyPost_ret (results_ct rfl _ _ b2 51 #[.slice A0 n0 c0, .int .i64 wt, .slice A2 n2 c2, .int .i64 tr, .int .i64 a, .bool false] (0, 0) _ rfl (HB.out.get 1 rfl) Try.underlying51 rfl (by kernel_rfl)) rfl ?_
  first | exact ⟨rfl, HB.out.bel⟩ | exact ⟨rfl, hb1 ▸ HB.out.bel⟩
set_option maxRecDepth 100000 in
set_option maxHeartbeats 16000000 in
theorem ref_flush_trip (W : World) (s : Sl) (A0 A2 : Option Addr) (c0 c2 : Nat) (wt wt' tr a : Int) (l2 : List Int) (hr : Kd.C k74 W A0 (lsS s).length (lsS s)) (hb : s.b.length ≤ 4096) (hsm : ∀ x ∈ s.b, x.1.size ≤ 256 ∧ ∀ t, x.2 = some t → t.size ≤ 256) (h2 : Kd.C (Kd.int .i64) W A2 l2.length l2) (hc2 : l2.length ≤ c2) (hl2 : l2.length ≤ 100000000) (hw : wt ≤ 9223372036854775807) (ht : tickR wt = (wt', true)) :
    Calls Try.prog 36 #[.agg #[.slice A0 (lsS s).length c0, .int .i64 wt, .slice A2 l2.length c2, .int .i64 tr, .int .i64 a, .bool false]] W fun e W' => ∃ v : Value, e = .returned (.tuple #[.agg #[v, .int .i64 wt', .slice A2 l2.length c2, .int .i64 tr, .int .i64 a, .bool true], .int .i64 9]) ∧ Kd.R k74 74 W' W.heap.size (fun _ => True) v ((settle (failF l2 tr a) s.b).map bk74) ∧ Below W.heap.size W W' := by
  have HR := Aside0.mk hr
  have H2 := Aside0.mk (And.intro h2 (And.intro hc2 hl2))
  have HLen := Aside0.mk (show (lsS s).length = s.b.length from by unfold lsS; rw [List.length_map])
  have HT := Aside0.mk (fun (W1 : World) (A : Option Addr) (n c : Nat) => ref_trips W1 A A2 n c l2.length c2 wt tr a false hw)
  simp only [ht] at HT
  clear hr h2 hc2 hl2 ht
  obtain ⟨lst, hlst⟩ : ∃ lst, lst = (settle (failF l2 tr a) s.b).map bk74 := ⟨_, rfl⟩
  rw [← hlst]
  have HLst := Aside0.mk hlst
  clear hlst
  have HB := Aside0.mk (((Bx.start W).push #[.slice A0 (lsS s).length c0, .int .i64 wt, .slice A2 l2.length c2, .int .i64 tr, .int .i64 a, .bool false] 51).push #[.slice none 0 0, .int .i64 0, .slice none 0 0, .int .i64 0, .int .i64 0, .bool false] 51)
  go_enter Try.func36, Try.ntmps36
  go_upto_region 1 with (fail)
  simp only [alloc_size, List.nil_append, List.cons_append] at HB
  generalize (W.alloc (.cells #[.slice A0 (lsS s).length c0, .int .i64 wt, .slice A2 l2.length c2, .int .i64 tr, .int .i64 a, .bool false] 51)).alloc (.cells #[.slice none 0 0, .int .i64 0, .slice none 0 0, .int .i64 0, .int .i64 0, .bool false] 51) = w2 at HB ⊢
  generalize W.heap.size + 1 = b2 at HB ⊢
  generalize hb1 : W.heap.size = b1 at HB ⊢
  have y0 : w2.cell? ⟨b1, 0, none⟩ = some (.slice A0 (lsS s).length c0) := (blk_cell (HB.out.get 0 rfl) 0).trans rfl
  have y1 : w2.cell? ⟨b1, 1, none⟩ = some (.int .i64 wt) := (blk_cell (HB.out.get 0 rfl) 1).trans rfl
  have y2 : w2.cell? ⟨b1, 2, none⟩ = some (.slice A2 l2.length c2) := (blk_cell (HB.out.get 0 rfl) 2).trans rfl
  have y3 : w2.cell? ⟨b1, 3, none⟩ = some (.int .i64 tr) := (blk_cell (HB.out.get 0 rfl) 3).trans rfl
  have y4 : w2.cell? ⟨b1, 4, none⟩ = some (.int .i64 a) := (blk_cell (HB.out.get 0 rfl) 4).trans rfl
  have y5 : w2.cell? ⟨b1, 5, none⟩ = some (.bool false) := (blk_cell (HB.out.get 0 rfl) 5).trans rfl
  have y5' : w2.cell? ⟨b1, 3 + 2, none⟩ = some (.bool false) := y5
  go_upto_region 4 with (go_at_call 45; refine (HT.out _ _ _ _).mono ?_; rintro e w4 ⟨rfl, hb⟩; replace HB := Aside0.mk (HB.out.below hb); clear hb)
  clear y0 y1 y2 y3 y4 y5 y5'
  replace HB := Aside0.mk (HB.out.push #[.slice A0 (lsS s).length c0, .int .i64 wt', .slice A2 l2.length c2, .int .i64 tr, .int .i64 a, .bool false] 51)
  simp only [List.nil_append, List.cons_append] at HB
  generalize w4.alloc (.cells #[.slice A0 (lsS s).length c0, .int .i64 wt', .slice A2 l2.length c2, .int .i64 tr, .int .i64 a, .bool false] 51) = w4x at HB ⊢
  generalize w4.heap.size = b4 at HB ⊢
  have y0 : w4x.cell? ⟨b4, 0, none⟩ = some (.slice A0 (lsS s).length c0) := (blk_cell (HB.out.get 2 rfl) 0).trans rfl
  have y1 : w4x.cell? ⟨b4, 1, none⟩ = some (.int .i64 wt') := (blk_cell (HB.out.get 2 rfl) 1).trans rfl
  have y2 : w4x.cell? ⟨b4, 2, none⟩ = some (.slice A2 l2.length c2) := (blk_cell (HB.out.get 2 rfl) 2).trans rfl
  have y3 : w4x.cell? ⟨b4, 3, none⟩ = some (.int .i64 tr) := (blk_cell (HB.out.get 2 rfl) 3).trans rfl
  have y4 : w4x.cell? ⟨b4, 4, none⟩ = some (.int .i64 a) := (blk_cell (HB.out.get 2 rfl) 4).trans rfl
  have y5 : w4x.cell? ⟨b4, 5, none⟩ = some (.bool false) := (blk_cell (HB.out.get 2 rfl) 5).trans rfl
  have y5' : w4x.cell? ⟨b4, 3 + 2, none⟩ = some (.bool false) := y5
  have t0 : w4x.cell? ⟨b2, 0, none⟩ = some (.slice none 0 0) := (blk_cell (HB.out.get 1 rfl) 0).trans rfl
  have t1 : w4x.cell? ⟨b2, 1, none⟩ = some (.int .i64 0) := (blk_cell (HB.out.get 1 rfl) 1).trans rfl
  have t2 : w4x.cell? ⟨b2, 2, none⟩ = some (.slice none 0 0) := (blk_cell (HB.out.get 1 rfl) 2).trans rfl
  have t3 : w4x.cell? ⟨b2, 3, none⟩ = some (.int .i64 0) := (blk_cell (HB.out.get 1 rfl) 3).trans rfl
  have t4 : w4x.cell? ⟨b2, 4, none⟩ = some (.int .i64 0) := (blk_cell (HB.out.get 1 rfl) 4).trans rfl
  have t5 : w4x.cell? ⟨b2, 5, none⟩ = some (.bool false) := (blk_cell (HB.out.get 1 rfl) 5).trans rfl
  have t5' : w4x.cell? ⟨b2, 3 + 2, none⟩ = some (.bool false) := t5
  have tz0 : w4x.frozen? ⟨b2, 0, none⟩ = false := blk_frozen (HB.out.get 1 rfl) 0
  have tz1 : w4x.frozen? ⟨b2, 1, none⟩ = false := blk_frozen (HB.out.get 1 rfl) 1
  have tz2 : w4x.frozen? ⟨b2, 2, none⟩ = false := blk_frozen (HB.out.get 1 rfl) 2
  have tz3 : w4x.frozen? ⟨b2, 3, none⟩ = false := blk_frozen (HB.out.get 1 rfl) 3
  have tz4 : w4x.frozen? ⟨b2, 4, none⟩ = false := blk_frozen (HB.out.get 1 rfl) 4
  have tz5 : w4x.frozen? ⟨b2, 5, none⟩ = false := blk_frozen (HB.out.get 1 rfl) 5
  go_wp2_with (go_at_call 38; refine (ref_fail_up _ s _ _ _ _ _ _ _ _ _ _ _ _ _ (Kd.C_below HR.out HB.out.bel) hb hsm (Kd.C_below H2.out.1 HB.out.bel) H2.out.2.1 H2.out.2.2).mono ?_; rintro e w7 ⟨v, rfl, ho, hb⟩; rw [← HLst.out] at ho; obtain ⟨A9, c9, rfl⟩ := Kd.R_slice ho; replace ho := R_newB (ns := [b1, b2, b4]) HB.out rfl ho; replace HB := Aside0.mk (HB.out.below hb); have HO := Aside0.mk ho; clear hb ho; clear y0; clear y1; clear y2; clear y3; clear y4; clear y5; clear y5'; clear t5'; clear t0 tz0; clear t1 tz1; clear t2 tz2; clear t3 tz3; clear t4 tz4; clear t5 tz5; have t0 : w7.cell? ⟨b2, 0, none⟩ = some (.slice none 0 0) := (blk_cell (HB.out.get 1 rfl) 0).trans rfl; have t1 : w7.cell? ⟨b2, 1, none⟩ = some (.int .i64 0) := (blk_cell (HB.out.get 1 rfl) 1).trans rfl; have t2 : w7.cell? ⟨b2, 2, none⟩ = some (.slice none 0 0) := (blk_cell (HB.out.get 1 rfl) 2).trans rfl; have t3 : w7.cell? ⟨b2, 3, none⟩ = some (.int .i64 0) := (blk_cell (HB.out.get 1 rfl) 3).trans rfl; have t4 : w7.cell? ⟨b2, 4, none⟩ = some (.int .i64 0) := (blk_cell (HB.out.get 1 rfl) 4).trans rfl; have t5 : w7.cell? ⟨b2, 5, none⟩ = some (.bool false) := (blk_cell (HB.out.get 1 rfl) 5).trans rfl; have tz0 : w7.frozen? ⟨b2, 0, none⟩ = false := blk_frozen (HB.out.get 1 rfl) 0; have tz1 : w7.frozen? ⟨b2, 1, none⟩ = false := blk_frozen (HB.out.get 1 rfl) 1; have tz2 : w7.frozen? ⟨b2, 2, none⟩ = false := blk_frozen (HB.out.get 1 rfl) 2; have tz3 : w7.frozen? ⟨b2, 3, none⟩ = false := blk_frozen (HB.out.get 1 rfl) 3; have tz4 : w7.frozen? ⟨b2, 4, none⟩ = false := blk_frozen (HB.out.get 1 rfl) 4; have tz5 : w7.frozen? ⟨b2, 5, none⟩ = false := blk_frozen (HB.out.get 1 rfl) 5)
  replace HB : Aside0 (Bx W ((((((w7.setCell ⟨b2, 0, none⟩ (.slice A9 lst.length c9)).setCell ⟨b2, 1, none⟩ (.int .i64 wt')).setCell ⟨b2, 2, none⟩ (.slice A2 l2.length c2)).setCell ⟨b2, 3, none⟩ (.int .i64 tr)).setCell ⟨b2, 4, none⟩ (.int .i64 a)).setCell ⟨b2, 5, none⟩ (.bool true)) [(b1, #[.slice A0 (lsS s).length c0, .int .i64 wt, .slice A2 l2.length c2, .int .i64 tr, .int .i64 a, .bool false], 51), (b2, #[.slice A9 lst.length c9, .int .i64 wt', .slice A2 l2.length c2, .int .i64 tr, .int .i64 a, .bool true], 51), (b4, #[.slice A0 (lsS s).length c0, .int .i64 wt', .slice A2 l2.length c2, .int .i64 tr, .int .i64 a, .bool false], 51)]) := ⟨((((((HB.out.set 1 0 (.slice A9 lst.length c9) rfl).set 1 1 (.int .i64 wt') rfl).set 1 2 (.slice A2 l2.length c2) rfl).set 1 3 (.int .i64 tr) rfl).set 1 4 (.int .i64 a) rfl).set 1 5 (.bool true) rfl)⟩
  replace HO := Aside0.mk (R_setB (R_setB (R_setB (R_setB (R_setB (R_setB HO.out (g := b2) (by simp) 0 (.slice A9 lst.length c9)) (g := b2) (by simp) 1 (.int .i64 wt')) (g := b2) (by simp) 2 (.slice A2 l2.length c2)) (g := b2) (by simp) 3 (.int .i64 tr)) (g := b2) (by simp) 4 (.int .i64 a)) (g := b2) (by simp) 5 (.bool true))
  generalize ((((((w7.setCell ⟨b2, 0, none⟩ (.slice A9 lst.length c9)).setCell ⟨b2, 1, none⟩ (.int .i64 wt')).setCell ⟨b2, 2, none⟩ (.slice A2 l2.length c2)).setCell ⟨b2, 3, none⟩ (.int .i64 tr)).setCell ⟨b2, 4, none⟩ (.int .i64 a)).setCell ⟨b2, 5, none⟩ (.bool true)) = w8 at HB HO ⊢
  refine bodyPost_ret (results_ct rfl _ _ b2 51 #[.slice A9 lst.length c9, .int .i64 wt', .slice A2 l2.length c2, .int .i64 tr, .int .i64 a, .bool true] (0, 0) _ rfl (HB.out.get 1 rfl) Try.underlying51 rfl (by kernel_rfl)) rfl ?_
  subst hb1
  exact ⟨_, rfl, Kd.R_mono HO.out (fun _ _ => trivial), HB.out.bel⟩
set_option maxRecDepth 100000 in
set_option maxHeartbeats 16000000 in
theorem ref_flush_ok (W : World) (s : Sl) (A0 A2 : Option Addr) (c0 c2 : Nat) (wt wt' tr a : Int) (l2 : List Int) (hr : Kd.C k74 W A0 (lsS s).length (lsS s)) (hb : s.b.length ≤ 4096) (hsm : ∀ x ∈ s.b, x.1.size ≤ 256 ∧ ∀ t, x.2 = some t → t.size ≤ 256) (h2 : Kd.C (Kd.int .i64) W A2 l2.length l2) (hc2 : l2.length ≤ c2) (hl2 : l2.length ≤ 100000000) (hw : wt ≤ 9223372036854775807) (ht : tickR wt = (wt', false)) :
    Calls Try.prog 36 #[.agg #[.slice A0 (lsS s).length c0, .int .i64 wt, .slice A2 l2.length c2, .int .i64 tr, .int .i64 a, .bool false]] W fun e W' => ∃ v : Value, e = .returned (.tuple #[.agg #[v, .int .i64 wt', .slice A2 l2.length c2, .int .i64 tr, .int .i64 a, .bool false], .int .i64 0]) ∧ Kd.R k74 74 W' W.heap.size (fun _ => True) v ((settle newF s.b).map bk74) ∧ Below W.heap.size W W' := by
  have HR := Aside0.mk hr
  have H2 := Aside0.mk (And.intro h2 (And.intro hc2 hl2))
  have HLen := Aside0.mk (show (lsS s).length = s.b.length from by unfold lsS; rw [List.length_map])
  have HT := Aside0.mk (fun (W1 : World) (A : Option Addr) (n c : Nat) => ref_trips W1 A A2 n c l2.length c2 wt tr a false hw)
  simp only [ht] at HT
  clear hr h2 hc2 hl2 ht
  have HB := Aside0.mk (((Bx.start W).push #[.slice A0 (lsS s).length c0, .int .i64 wt, .slice A2 l2.length c2, .int .i64 tr, .int .i64 a, .bool false] 51).push #[.slice none 0 0, .int .i64 0, .slice none 0 0, .int .i64 0, .int .i64 0, .bool false] 51)
  go_enter Try.func36, Try.ntmps36
  go_upto_region 1 with (fail)
  simp only [alloc_size, List.nil_append, List.cons_append] at HB
  generalize (W.alloc (.cells #[.slice A0 (lsS s).length c0, .int .i64 wt, .slice A2 l2.length c2, .int .i64 tr, .int .i64 a, .bool false] 51)).alloc (.cells #[.slice none 0 0, .int .i64 0, .slice none 0 0, .int .i64 0, .int .i64 0, .bool false] 51) = w2 at HB ⊢
  generalize W.heap.size + 1 = b2 at HB ⊢
  generalize hb1 : W.heap.size = b1 at HB ⊢
  have y0 : w2.cell? ⟨b1, 0, none⟩ = some (.slice A0 (lsS s).length c0) := (blk_cell (HB.out.get 0 rfl) 0).trans rfl
  have y1 : w2.cell? ⟨b1, 1, none⟩ = some (.int .i64 wt) := (blk_cell (HB.out.get 0 rfl) 1).trans rfl
  have y2 : w2.cell? ⟨b1, 2, none⟩ = some (.slice A2 l2.length c2) := (blk_cell (HB.out.get 0 rfl) 2).trans rfl
  have y3 : w2.cell? ⟨b1, 3, none⟩ = some (.int .i64 tr) := (blk_cell (HB.out.get 0 rfl) 3).trans rfl
  have y4 : w2.cell? ⟨b1, 4, none⟩ = some (.int .i64 a) := (blk_cell (HB.out.get 0 rfl) 4).trans rfl
  have y5 : w2.cell? ⟨b1, 5, none⟩ = some (.bool false) := (blk_cell (HB.out.get 0 rfl) 5).trans rfl
  have y5' : w2.cell? ⟨b1, 3 + 2, none⟩ = some (.bool false) := y5
  go_upto_region 4 with (go_at_call 45; refine (HT.out _ _ _ _).mono ?_; rintro e w4 ⟨rfl, hb⟩; replace HB := Aside0.mk (HB.out.below hb); clear hb)
  clear y0 y1 y2 y3 y4 y5 y5'
  replace HB := Aside0.mk (HB.out.push #[.slice A0 (lsS s).length c0, .int .i64 wt', .slice A2 l2.length c2, .int .i64 tr, .int .i64 a, .bool false] 51)
  simp only [List.nil_append, List.cons_append] at HB
  generalize w4.alloc (.cells #[.slice A0 (lsS s).length c0, .int .i64 wt', .slice A2 l2.length c2, .int .i64 tr, .int .i64 a, .bool false] 51) = w4x at HB ⊢
  generalize w4.heap.size = b4 at HB ⊢
  go_wp2
  go_loopw [6, 7] (fun v6 v7 wr => ∃ i : Nat, i ≤ s.b.length ∧ v7 = .int .i64 i ∧ Aside0 (Bx W wr [(b1, #[.slice A0 (lsS s).length c0, .int .i64 wt, .slice A2 l2.length c2, .int .i64 tr, .int .i64 a, .bool false], 51), (b2, #[.slice none 0 0, .int .i64 0, .slice none 0 0, .int .i64 0, .int .i64 0, .bool false], 51), (b4, #[.slice A0 (lsS s).length c0, .int .i64 wt', .slice A2 l2.length c2, .int .i64 tr, .int .i64 a, .bool false], 51)]) ∧ Aside0 (Kd.R k74 74 wr W.heap.size (Off [b1, b2, b4]) v6 (((settle newF s.b).take i).map bk74))) (fun v6 v7 _ => s.b.length - (intOf v7).toNat)
  case atStart => exact ⟨0, by omega, rfl, HB, ⟨Kd.R_nil _ _ _ _ _⟩⟩
  case round =>
    clear HB
    obtain ⟨i, hi, rfl, HB, HO⟩ := hrel
    generalize hl : ((settle newF s.b).take i).map bk74 = lst at HO
    have HL := Aside0.mk hl
    have hll := Aside0.mk (show lst.length + 1 ≤ 1000000 from by rw [← hl]; simp; omega)
    clear hl
    obtain ⟨A5, c5, rfl⟩ := Kd.R_slice HO.out
    have y0 : wr.cell? ⟨b4, 0, none⟩ = some (.slice A0 (lsS s).length c0) := (blk_cell (HB.out.get 2 rfl) 0).trans rfl
    by_cases hlt : i < s.b.length
    · have q0 : decide ((i : Int) < ((lsS s).length : Int)) = true := decide_eq_true (by rw [HLen.out]; omega)
      have p1 : (i : Int) < ((lsS s).length : Int) := by rw [HLen.out]; omega
      obtain ⟨x, hx⟩ : ∃ x, s.b[i]? = some x := ⟨_, List.getElem?_eq_getElem hlt⟩
      obtain ⟨ad, e0, h0, h1, h2⟩ := at_T74 (Kd.C_below HR.out HB.out.bel) (i : Int) (by omega) p1
      rw [show rd_T74 (lsS s) (i : Int) = bk74 x from rd74s s.b i x hx, Int.toNat_natCast] at h0 h1 h2
      subst e0
      dsimp only [bk74] at h0 h1 h2
      go_upto_region 11 with (fail)
      clear y0 q0 p1 h0 h1 h2
      replace HO := Aside0.mk (R_pushB HO.out (g := wr.heap.size) rfl (below_alloc (Below.refl _ _) (.cells #[.string x.1, .string (x.2.getD ⟨#[]⟩), .bool x.2.isSome] 74)))
      replace HB := Aside0.mk (HB.out.push #[.string x.1, .string (x.2.getD ⟨#[]⟩), .bool x.2.isSome] 74)
      simp only [List.nil_append, List.cons_append] at HB HO
      generalize wr.alloc (.cells #[.string x.1, .string (x.2.getD ⟨#[]⟩), .bool x.2.isSome] 74) = wrx at HB HO ⊢
      generalize wr.heap.size = b8 at HB HO ⊢
      rcases x with ⟨y, _ | t⟩
      · dsimp only [Option.getD, Option.isSome] at HB ⊢
        have z0 : wrx.cell? ⟨b8, 0, none⟩ = some (.string y) := (blk_cell (HB.out.get 3 rfl) 0).trans rfl
        have z1 : wrx.cell? ⟨b8, 1, none⟩ = some (.string (⟨#[]⟩ : ByteArray)) := (blk_cell (HB.out.get 3 rfl) 1).trans rfl
        have z2 : wrx.cell? ⟨b8, 2, none⟩ = some (.bool false) := (blk_cell (HB.out.get 3 rfl) 2).trans rfl
        go_wp2_with (at_builtin; refine Kd.R_append k74 (w0 := W) W.heap.size rfl (.tmp 41) (.tmp 43) 48 74 (.agg #[(.string ⟨#[]⟩), (.string ⟨#[]⟩), (.bool false)]) 40 rfl Try.underlying48 info74 rfl (by decide) (by omega) (.slice A5 _ c5) _ (⟨y, (⟨#[]⟩ : ByteArray), false⟩ : S74) [.string y, .string (⟨#[]⟩ : ByteArray), .bool false] (Off [b1, b2, b4, b8]) (fun _ => False) rfl rfl (k74_mkM _ _ _ _) (fun _ hk => hk.elim) (HB.out.fresh rfl) HO.out HB.out.bel HB.out.bel.size (by have := hll.out; omega) ?_; intro v5 w9 ho hb hg hat)
        have e1 := settle_step newF s.b i (y, none) hx
        rw [show finB newF (fun _ => false) i (y, none) = y from rfl] at e1
        exact ⟨⟨i + 1, by omega, by first | rfl | go_num, ⟨(HB.out.grown rfl HO.out.1 hg hb).take 3⟩, ⟨by rw [e1, HL.out]; exact R_offB ho _ (by simp)⟩⟩, by simp [intOf]; omega⟩
      · dsimp only [Option.getD, Option.isSome] at HB ⊢
        have z0 : wrx.cell? ⟨b8, 0, none⟩ = some (.string y) := (blk_cell (HB.out.get 3 rfl) 0).trans rfl
        have z1 : wrx.cell? ⟨b8, 1, none⟩ = some (.string t) := (blk_cell (HB.out.get 3 rfl) 1).trans rfl
        have z2 : wrx.cell? ⟨b8, 2, none⟩ = some (.bool true) := (blk_cell (HB.out.get 3 rfl) 2).trans rfl
        have zz0 : wrx.frozen? ⟨b8, 0, none⟩ = false := blk_frozen (HB.out.get 3 rfl) 0
        have zz1 : wrx.frozen? ⟨b8, 1, none⟩ = false := blk_frozen (HB.out.get 3 rfl) 1
        have zz2 : wrx.frozen? ⟨b8, 2, none⟩ = false := blk_frozen (HB.out.get 3 rfl) 2
        go_upto_region 13 with (fail)
        clear z0 z1 z2 zz0 zz1 zz2
        replace HB := Aside0.mk (HB.out.set 3 0 (.string t) rfl)
        replace HO := Aside0.mk (R_setB HO.out (g := b8) (by simp) 0 (.string t))
        generalize wrx.setCell ⟨b8, 0, none⟩ (.string t) = u1 at HB HO ⊢
        have z0 : u1.cell? ⟨b8, 0, none⟩ = some (.string t) := (blk_cell (HB.out.get 3 rfl) 0).trans rfl
        have z1 : u1.cell? ⟨b8, 1, none⟩ = some (.string t) := (blk_cell (HB.out.get 3 rfl) 1).trans rfl
        have z2 : u1.cell? ⟨b8, 2, none⟩ = some (.bool true) := (blk_cell (HB.out.get 3 rfl) 2).trans rfl
        have zz0 : u1.frozen? ⟨b8, 0, none⟩ = false := blk_frozen (HB.out.get 3 rfl) 0
        have zz1 : u1.frozen? ⟨b8, 1, none⟩ = false := blk_frozen (HB.out.get 3 rfl) 1
        have zz2 : u1.frozen? ⟨b8, 2, none⟩ = false := blk_frozen (HB.out.get 3 rfl) 2
        go_upto_region 15 with (fail)
        clear z0 z1 z2 zz0 zz1 zz2
        replace HB := Aside0.mk ((HB.out.set 3 1 (.string ⟨#[]⟩) rfl).set 3 2 (.bool false) rfl)
        replace HO := Aside0.mk (R_setB (R_setB HO.out (g := b8) (by simp) 1 (.string ⟨#[]⟩)) (g := b8) (by simp) 2 (.bool false))
        generalize (u1.setCell ⟨b8, 1, none⟩ (.string ⟨#[]⟩)).setCell ⟨b8, 2, none⟩ (.bool false) = u2 at HB HO ⊢
        have z0 : u2.cell? ⟨b8, 0, none⟩ = some (.string t) := (blk_cell (HB.out.get 3 rfl) 0).trans rfl
        have z1 : u2.cell? ⟨b8, 1, none⟩ = some (.string (⟨#[]⟩ : ByteArray)) := (blk_cell (HB.out.get 3 rfl) 1).trans rfl
        have z2 : u2.cell? ⟨b8, 2, none⟩ = some (.bool false) := (blk_cell (HB.out.get 3 rfl) 2).trans rfl
        go_wp2_with (at_builtin; refine Kd.R_append k74 (w0 := W) W.heap.size rfl (.tmp 41) (.tmp 43) 48 74 (.agg #[(.string ⟨#[]⟩), (.string ⟨#[]⟩), (.bool false)]) 40 rfl Try.underlying48 info74 rfl (by decide) (by omega) (.slice A5 _ c5) _ (⟨t, (⟨#[]⟩ : ByteArray), false⟩ : S74) [.string t, .string (⟨#[]⟩ : ByteArray), .bool false] (Off [b1, b2, b4, b8]) (fun _ => False) rfl rfl (k74_mkM _ _ _ _) (fun _ hk => hk.elim) (HB.out.fresh rfl) HO.out HB.out.bel HB.out.bel.size (by have := hll.out; omega) ?_; intro v5 w9 ho hb hg hat)
        have e1 := settle_step newF s.b i (y, some t) hx
        rw [show finB newF (fun _ => false) i (y, some t) = t from rfl] at e1
        exact ⟨⟨i + 1, by omega, by first | rfl | go_num, ⟨(HB.out.grown rfl HO.out.1 hg hb).take 3⟩, ⟨by rw [e1, HL.out]; exact R_offB ho _ (by simp)⟩⟩, by simp [intOf]; omega⟩
    · obtain rfl : i = s.b.length := by omega
      have q0 : decide (((s.b.length : Nat) : Int) < ((lsS s).length : Int)) = false := decide_eq_false (by rw [HLen.out]; omega)
      have p1 : ¬ (((s.b.length : Nat) : Int) < ((lsS s).length : Int)) := by rw [HLen.out]; omega
      have hl := HL.out
      rw [List.take_of_length_le (by rw [settle_len]; omega)] at hl
      replace HL := Aside0.mk hl
      clear hl hll
      have f0 : wr.frozen? ⟨b4, 0, none⟩ = false := blk_frozen (HB.out.get 2 rfl) 0
      go_upto_region 17 with (fail)
      clear y0 f0 q0 p1
      replace HO := Aside0.mk (R_setB HO.out (g := b4) (by simp) 0 (.slice A5 lst.length c5))
      replace HB : Aside0 (Bx W (wr.setCell ⟨b4, 0, none⟩ (.slice A5 lst.length c5)) [(b1, #[.slice A0 (lsS s).length c0, .int .i64 wt, .slice A2 l2.length c2, .int .i64 tr, .int .i64 a, .bool false], 51), (b2, #[.slice none 0 0, .int .i64 0, .slice none 0 0, .int .i64 0, .int .i64 0, .bool false], 51), (b4, #[.slice A5 lst.length c5, .int .i64 wt', .slice A2 l2.length c2, .int .i64 tr, .int .i64 a, .bool false], 51)]) := ⟨HB.out.set 2 0 (.slice A5 lst.length c5) rfl⟩
      generalize wr.setCell ⟨b4, 0, none⟩ (.slice A5 lst.length c5) = u1 at HB HO ⊢
      have y0 : u1.cell? ⟨b4, 0, none⟩ = some (.slice A5 lst.length c5) := (blk_cell (HB.out.get 2 rfl) 0).trans rfl
      have y1 : u1.cell? ⟨b4, 1, none⟩ = some (.int .i64 wt') := (blk_cell (HB.out.get 2 rfl) 1).trans rfl
      have y2 : u1.cell? ⟨b4, 2, none⟩ = some (.slice A2 l2.length c2) := (blk_cell (HB.out.get 2 rfl) 2).trans rfl
      have y3 : u1.cell? ⟨b4, 3, none⟩ = some (.int .i64 tr) := (blk_cell (HB.out.get 2 rfl) 3).trans rfl
      have y4 : u1.cell? ⟨b4, 4, none⟩ = some (.int .i64 a) := (blk_cell (HB.out.get 2 rfl) 4).trans rfl
      have y5 : u1.cell? ⟨b4, 5, none⟩ = some (.bool false) := (blk_cell (HB.out.get 2 rfl) 5).trans rfl
      have y5' : u1.cell? ⟨b4, 3 + 2, none⟩ = some (.bool false) := y5
      have t0 : u1.cell? ⟨b2, 0, none⟩ = some (.slice none 0 0) := (blk_cell (HB.out.get 1 rfl) 0).trans rfl
      have t1 : u1.cell? ⟨b2, 1, none⟩ = some (.int .i64 0) := (blk_cell (HB.out.get 1 rfl) 1).trans rfl
      have t2 : u1.cell? ⟨b2, 2, none⟩ = some (.slice none 0 0) := (blk_cell (HB.out.get 1 rfl) 2).trans rfl
      have t3 : u1.cell? ⟨b2, 3, none⟩ = some (.int .i64 0) := (blk_cell (HB.out.get 1 rfl) 3).trans rfl
      have t4 : u1.cell? ⟨b2, 4, none⟩ = some (.int .i64 0) := (blk_cell (HB.out.get 1 rfl) 4).trans rfl
      have t5 : u1.cell? ⟨b2, 5, none⟩ = some (.bool false) := (blk_cell (HB.out.get 1 rfl) 5).trans rfl
      have t5' : u1.cell? ⟨b2, 3 + 2, none⟩ = some (.bool false) := t5
      have tz0 : u1.frozen? ⟨b2, 0, none⟩ = false := blk_frozen (HB.out.get 1 rfl) 0
      have tz1 : u1.frozen? ⟨b2, 1, none⟩ = false := blk_frozen (HB.out.get 1 rfl) 1
      have tz2 : u1.frozen? ⟨b2, 2, none⟩ = false := blk_frozen (HB.out.get 1 rfl) 2
      have tz3 : u1.frozen? ⟨b2, 3, none⟩ = false := blk_frozen (HB.out.get 1 rfl) 3
      have tz4 : u1.frozen? ⟨b2, 4, none⟩ = false := blk_frozen (HB.out.get 1 rfl) 4
      have tz5 : u1.frozen? ⟨b2, 5, none⟩ = false := blk_frozen (HB.out.get 1 rfl) 5
      go_wp2
      replace HB : Aside0 (Bx W ((((((u1.setCell ⟨b2, 0, none⟩ (.slice A5 lst.length c5)).setCell ⟨b2, 1, none⟩ (.int .i64 wt')).setCell ⟨b2, 2, none⟩ (.slice A2 l2.length c2)).setCell ⟨b2, 3, none⟩ (.int .i64 tr)).setCell ⟨b2, 4, none⟩ (.int .i64 a)).setCell ⟨b2, 5, none⟩ (.bool false)) [(b1, #[.slice A0 (lsS s).length c0, .int .i64 wt, .slice A2 l2.length c2, .int .i64 tr, .int .i64 a, .bool false], 51), (b2, #[.slice A5 lst.length c5, .int .i64 wt', .slice A2 l2.length c2, .int .i64 tr, .int .i64 a, .bool false], 51), (b4, #[.slice A5 lst.length c5, .int .i64 wt', .slice A2 l2.length c2, .int .i64 tr, .int .i64 a, .bool false], 51)]) := ⟨((((((HB.out.set 1 0 (.slice A5 lst.length c5) rfl).set 1 1 (.int .i64 wt') rfl).set 1 2 (.slice A2 l2.length c2) rfl).set 1 3 (.int .i64 tr) rfl).set 1 4 (.int .i64 a) rfl).set 1 5 (.bool false) rfl)⟩
      replace HO := Aside0.mk (R_setB (R_setB (R_setB (R_setB (R_setB (R_setB HO.out (g := b2) (by simp) 0 (.slice A5 lst.length c5)) (g := b2) (by simp) 1 (.int .i64 wt')) (g := b2) (by simp) 2 (.slice A2 l2.length c2)) (g := b2) (by simp) 3 (.int .i64 tr)) (g := b2) (by simp) 4 (.int .i64 a)) (g := b2) (by simp) 5 (.bool false))
      generalize ((((((u1.setCell ⟨b2, 0, none⟩ (.slice A5 lst.length c5)).setCell ⟨b2, 1, none⟩ (.int .i64 wt')).setCell ⟨b2, 2, none⟩ (.slice A2 l2.length c2)).setCell ⟨b2, 3, none⟩ (.int .i64 tr)).setCell ⟨b2, 4, none⟩ (.int .i64 a)).setCell ⟨b2, 5, none⟩ (.bool false)) = w8 at HB HO ⊢
      refine bodyPost_ret (results_ct rfl _ _ b2 51 #[.slice A5 lst.length c5, .int .i64 wt', .slice A2 l2.length c2, .int .i64 tr, .int .i64 a, .bool false] (0, 0) _ rfl (HB.out.get 1 rfl) Try.underlying51 rfl (by kernel_rfl)) rfl ?_
      subst hb1
      rw [HL.out]
      exact ⟨_, rfl, Kd.R_mono HO.out (fun _ _ => trivial), HB.out.bel⟩

/-! ### the document's Write -/
set_option maxRecDepth 100000 in
set_option maxHeartbeats 16000000 in
theorem ref_write_ok (W : World) (s : Sl) (A0 A2 : Option Addr) (c0 c2 : Nat) (wt wt' tr a : Int) (l2 : List Int) (j : Nat) (t : ByteArray) (hj : j < s.b.length) (hts : t.size ≤ 256) (hr : Kd.C k74 W A0 (lsS s).length (lsS s)) (hb : s.b.length ≤ 4096) (hsm : ∀ x ∈ s.b, x.1.size ≤ 256 ∧ ∀ t, x.2 = some t → t.size ≤ 256) (h2 : Kd.C (Kd.int .i64) W A2 l2.length l2) (hc2 : l2.length ≤ c2) (hl2 : l2.length ≤ 100000000) (hw : wt ≤ 9223372036854775807) (ht : tickR wt = (wt', false)) :
    Calls Try.prog 34 #[.agg #[.slice A0 (lsS s).length c0, .int .i64 wt, .slice A2 l2.length c2, .int .i64 tr, .int .i64 a, .bool false], .int .i64 (j : Int), .string t] W fun e W' => ∃ v : Value, e = .returned (.tuple #[.agg #[v, .int .i64 wt', .slice A2 l2.length c2, .int .i64 tr, .int .i64 a, .bool false], .int .i64 0]) ∧ Kd.R k74 74 W' W.heap.size (fun _ => True) v ((putB s.b j t).map bk74) ∧ Below W.heap.size W W' := by
  have HR := Aside0.mk hr
  have H2 := Aside0.mk (And.intro h2 (And.intro hc2 hl2))
  have HLen := Aside0.mk (show (lsS s).length = s.b.length from by unfold lsS; rw [List.length_map])
  have HT := Aside0.mk (fun (W1 : World) (A : Option Addr) (n c : Nat) => ref_trips W1 A A2 n c l2.length c2 wt tr a false hw)
  simp only [ht] at HT
  clear hr h2 hc2 hl2 ht
  have g0 : ¬ ((j : Int) < 0) := by omega
  have g1 : ¬ (((lsS s).length : Int) ≤ (j : Int)) := by rw [HLen.out]; omega
  have g2 : ¬ ((lsS s).length ≤ j) := by rw [HLen.out]; omega
  have g3 : ¬ (256 < (t.size : Int)) := by omega
  have d0 : decide ((j : Int) < 0) = false := decide_eq_false g0
  have d1 : decide ((j : Int) ≥ ((lsS s).length : Int)) = false := decide_eq_false g1
  have d2 : decide (((lsS s).length : Int) ≤ (j : Int)) = false := decide_eq_false g1
  have d3 : decide ((t.size : Int) > 256) = false := decide_eq_false g3
  have d4 : decide (256 < (t.size : Int)) = false := decide_eq_false g3
  have HB := Aside0.mk (((Bx.start W).push #[.slice A0 (lsS s).length c0, .int .i64 wt, .slice A2 l2.length c2, .int .i64 tr, .int .i64 a, .bool false] 51).push #[.slice none 0 0, .int .i64 0, .slice none 0 0, .int .i64 0, .int .i64 0, .bool false] 51)
  go_enter Try.func34, Try.ntmps34
  go_upto_region 1 with (fail)
  simp only [alloc_size, List.nil_append, List.cons_append] at HB
  generalize (W.alloc (.cells #[.slice A0 (lsS s).length c0, .int .i64 wt, .slice A2 l2.length c2, .int .i64 tr, .int .i64 a, .bool false] 51)).alloc (.cells #[.slice none 0 0, .int .i64 0, .slice none 0 0, .int .i64 0, .int .i64 0, .bool false] 51) = w2 at HB ⊢
  generalize W.heap.size + 1 = b2 at HB ⊢
  generalize hb1 : W.heap.size = b1 at HB ⊢
  have y0 : w2.cell? ⟨b1, 0, none⟩ = some (.slice A0 (lsS s).length c0) := (blk_cell (HB.out.get 0 rfl) 0).trans rfl
  have y1 : w2.cell? ⟨b1, 1, none⟩ = some (.int .i64 wt) := (blk_cell (HB.out.get 0 rfl) 1).trans rfl
  have y2 : w2.cell? ⟨b1, 2, none⟩ = some (.slice A2 l2.length c2) := (blk_cell (HB.out.get 0 rfl) 2).trans rfl
  have y3 : w2.cell? ⟨b1, 3, none⟩ = some (.int .i64 tr) := (blk_cell (HB.out.get 0 rfl) 3).trans rfl
  have y4 : w2.cell? ⟨b1, 4, none⟩ = some (.int .i64 a) := (blk_cell (HB.out.get 0 rfl) 4).trans rfl
  have y5 : w2.cell? ⟨b1, 5, none⟩ = some (.bool false) := (blk_cell (HB.out.get 0 rfl) 5).trans rfl
  have y5' : w2.cell? ⟨b1, 3 + 2, none⟩ = some (.bool false) := y5
  go_upto_region 5 with (fail)
  clear y0 y1 y2 y3 y4 y5 y5'
  clear g0 g1 g2 g3 d0 d1 d2 d3 d4
  go_wp2
  go_loopw [8, 9] (fun v8 v9 wr => ∃ i : Nat, i ≤ s.b.length ∧ v9 = .int .i64 i ∧ Aside0 (Bx W wr [(b1, #[.slice A0 (lsS s).length c0, .int .i64 wt, .slice A2 l2.length c2, .int .i64 tr, .int .i64 a, .bool false], 51), (b2, #[.slice none 0 0, .int .i64 0, .slice none 0 0, .int .i64 0, .int .i64 0, .bool false], 51)]) ∧ Aside0 (Kd.R k74 74 wr W.heap.size (Off [b1, b2]) v8 (((putB s.b j t).take i).map bk74))) (fun v8 v9 _ => s.b.length - (intOf v9).toNat)
  case atStart => exact ⟨0, by omega, rfl, HB, ⟨Kd.R_nil _ _ _ _ _⟩⟩
  case round =>
    clear HB
    obtain ⟨i, hi, rfl, HB, HO⟩ := hrel
    generalize hl : ((putB s.b j t).take i).map bk74 = lst at HO
    have HL := Aside0.mk hl
    have hll := Aside0.mk (show lst.length + 1 ≤ 1000000 from by rw [← hl]; simp; omega)
    clear hl
    obtain ⟨A5, c5, rfl⟩ := Kd.R_slice HO.out
    have y0 : wr.cell? ⟨b1, 0, none⟩ = some (.slice A0 (lsS s).length c0) := (blk_cell (HB.out.get 0 rfl) 0).trans rfl
    by_cases hlt : i < s.b.length
    · have q0 : decide ((i : Int) < ((lsS s).length : Int)) = true := decide_eq_true (by rw [HLen.out]; omega)
      have p1 : (i : Int) < ((lsS s).length : Int) := by rw [HLen.out]; omega
      obtain ⟨x, hx⟩ : ∃ x, s.b[i]? = some x := ⟨_, List.getElem?_eq_getElem hlt⟩
      obtain ⟨ad, e0, h0, h1, h2⟩ := at_T74 (Kd.C_below HR.out HB.out.bel) (i : Int) (by omega) p1
      rw [show rd_T74 (lsS s) (i : Int) = bk74 x from rd74s s.b i x hx, Int.toNat_natCast] at h0 h1 h2
      subst e0
      dsimp only [bk74] at h0 h1 h2
      go_upto_region 10 with (fail)
      clear y0 q0 p1 h0 h1 h2
      replace HO := Aside0.mk (R_pushB HO.out (g := wr.heap.size) rfl (below_alloc (Below.refl _ _) (.cells #[.string x.1, .string (x.2.getD ⟨#[]⟩), .bool x.2.isSome] 74)))
      replace HB := Aside0.mk (HB.out.push #[.string x.1, .string (x.2.getD ⟨#[]⟩), .bool x.2.isSome] 74)
      simp only [List.nil_append, List.cons_append] at HB HO
      generalize wr.alloc (.cells #[.string x.1, .string (x.2.getD ⟨#[]⟩), .bool x.2.isSome] 74) = wrx at HB HO ⊢
      generalize wr.heap.size = b8 at HB HO ⊢
      have hp : (putB s.b j t)[i]? = some (if i = j then (x.1, some t) else x) := by rw [putB_get, hx]; rfl
      have HP := Aside0.mk hp
      clear hp
      by_cases hij : i = j
      · rw [if_pos hij] at HP
        subst hij
        have q2 : ((i : Int) == (i : Int)) = true := by simp
        have z0 : wrx.cell? ⟨b8, 0, none⟩ = some (.string x.1) := (blk_cell (HB.out.get 2 rfl) 0).trans rfl
        have z1 : wrx.cell? ⟨b8, 1, none⟩ = some (.string (x.2.getD ⟨#[]⟩)) := (blk_cell (HB.out.get 2 rfl) 1).trans rfl
        have z2 : wrx.cell? ⟨b8, 2, none⟩ = some (.bool x.2.isSome) := (blk_cell (HB.out.get 2 rfl) 2).trans rfl
        have zz0 : wrx.frozen? ⟨b8, 0, none⟩ = false := blk_frozen (HB.out.get 2 rfl) 0
        have zz1 : wrx.frozen? ⟨b8, 1, none⟩ = false := blk_frozen (HB.out.get 2 rfl) 1
        have zz2 : wrx.frozen? ⟨b8, 2, none⟩ = false := blk_frozen (HB.out.get 2 rfl) 2
        go_upto_region 12 with (fail)
        clear z0 z1 z2 zz0 zz1 zz2
        replace HB := Aside0.mk (HB.out.set 2 1 (.string t) rfl)
        replace HO := Aside0.mk (R_setB HO.out (g := b8) (by simp) 1 (.string t))
        generalize wrx.setCell ⟨b8, 1, none⟩ (.string t) = u1 at HB HO ⊢
        have z0 : u1.cell? ⟨b8, 0, none⟩ = some (.string x.1) := (blk_cell (HB.out.get 2 rfl) 0).trans rfl
        have z1 : u1.cell? ⟨b8, 1, none⟩ = some (.string t) := (blk_cell (HB.out.get 2 rfl) 1).trans rfl
        have z2 : u1.cell? ⟨b8, 2, none⟩ = some (.bool x.2.isSome) := (blk_cell (HB.out.get 2 rfl) 2).trans rfl
        have zz0 : u1.frozen? ⟨b8, 0, none⟩ = false := blk_frozen (HB.out.get 2 rfl) 0
        have zz1 : u1.frozen? ⟨b8, 1, none⟩ = false := blk_frozen (HB.out.get 2 rfl) 1
        have zz2 : u1.frozen? ⟨b8, 2, none⟩ = false := blk_frozen (HB.out.get 2 rfl) 2
        go_upto_region 13 with (fail)
        clear z0 z1 z2 zz0 zz1 zz2
        replace HB := Aside0.mk (HB.out.set 2 2 (.bool true) rfl)
        replace HO := Aside0.mk (R_setB HO.out (g := b8) (by simp) 2 (.bool true))
        generalize u1.setCell ⟨b8, 2, none⟩ (.bool true) = u2 at HB HO ⊢
        have z0 : u2.cell? ⟨b8, 0, none⟩ = some (.string x.1) := (blk_cell (HB.out.get 2 rfl) 0).trans rfl
        have z1 : u2.cell? ⟨b8, 1, none⟩ = some (.string t) := (blk_cell (HB.out.get 2 rfl) 1).trans rfl
        have z2 : u2.cell? ⟨b8, 2, none⟩ = some (.bool true) := (blk_cell (HB.out.get 2 rfl) 2).trans rfl
        go_wp2_with (at_builtin; refine Kd.R_append k74 (w0 := W) W.heap.size rfl (.tmp 49) (.tmp 51) 48 74 (.agg #[(.string ⟨#[]⟩), (.string ⟨#[]⟩), (.bool false)]) 40 rfl Try.underlying48 info74 rfl (by decide) (by omega) (.slice A5 _ c5) _ (⟨x.1, t, true⟩ : S74) [.string x.1, .string t, .bool true] (Off [b1, b2, b8]) (fun _ => False) rfl rfl (k74_mkM _ _ _ _) (fun _ hk => hk.elim) (HB.out.fresh rfl) HO.out HB.out.bel HB.out.bel.size (by have := hll.out; omega) ?_; intro v5 w9 ho hb hg hat)
        have e1 := put_step (putB s.b i t) i _ HP.out
        rw [show bk74 (x.1, some t) = ⟨x.1, t, true⟩ from rfl] at e1
        exact ⟨⟨i + 1, by omega, by first | rfl | go_num, ⟨(HB.out.grown rfl HO.out.1 hg hb).take 2⟩, ⟨by rw [e1, HL.out]; exact R_offB ho _ (by simp)⟩⟩, by simp [intOf]; omega⟩
      · rw [if_neg hij] at HP
        have q2 : ((i : Int) == (j : Int)) = false := beq_eq_false_iff_ne.mpr (by omega)
        have q3 : (i == j) = false := beq_eq_false_iff_ne.mpr hij
        have z0 : wrx.cell? ⟨b8, 0, none⟩ = some (.string x.1) := (blk_cell (HB.out.get 2 rfl) 0).trans rfl
        have z1 : wrx.cell? ⟨b8, 1, none⟩ = some (.string (x.2.getD ⟨#[]⟩)) := (blk_cell (HB.out.get 2 rfl) 1).trans rfl
        have z2 : wrx.cell? ⟨b8, 2, none⟩ = some (.bool x.2.isSome) := (blk_cell (HB.out.get 2 rfl) 2).trans rfl
        go_wp2_with (at_builtin; refine Kd.R_append k74 (w0 := W) W.heap.size rfl (.tmp 49) (.tmp 51) 48 74 (.agg #[(.string ⟨#[]⟩), (.string ⟨#[]⟩), (.bool false)]) 40 rfl Try.underlying48 info74 rfl (by decide) (by omega) (.slice A5 _ c5) _ (⟨x.1, (x.2.getD ⟨#[]⟩), x.2.isSome⟩ : S74) [.string x.1, .string (x.2.getD ⟨#[]⟩), .bool x.2.isSome] (Off [b1, b2, b8]) (fun _ => False) rfl rfl (k74_mkM _ _ _ _) (fun _ hk => hk.elim) (HB.out.fresh rfl) HO.out HB.out.bel HB.out.bel.size (by have := hll.out; omega) ?_; intro v5 w9 ho hb hg hat)
        have e1 := put_step (putB s.b j t) i _ HP.out
        rw [show bk74 x = ⟨x.1, x.2.getD ⟨#[]⟩, x.2.isSome⟩ from rfl] at e1
        exact ⟨⟨i + 1, by omega, by first | rfl | go_num, ⟨(HB.out.grown rfl HO.out.1 hg hb).take 2⟩, ⟨by rw [e1, HL.out]; exact R_offB ho _ (by simp)⟩⟩, by simp [intOf]; omega⟩
    · obtain rfl : i = s.b.length := by omega
      have q0 : decide (((s.b.length : Nat) : Int) < ((lsS s).length : Int)) = false := decide_eq_false (by rw [HLen.out]; omega)
      have p1 : ¬ (((s.b.length : Nat) : Int) < ((lsS s).length : Int)) := by rw [HLen.out]; omega
      have hl := HL.out
      rw [List.take_of_length_le (by rw [putB_len]; omega)] at hl
      replace HL := Aside0.mk hl
      clear hl hll
      have f0 : wr.frozen? ⟨b1, 0, none⟩ = false := blk_frozen (HB.out.get 0 rfl) 0
      go_upto_region 15 with (fail)
      clear y0 f0 q0 p1
      replace HO := Aside0.mk (R_setB HO.out (g := b1) (by simp) 0 (.slice A5 lst.length c5))
      replace HB : Aside0 (Bx W (wr.setCell ⟨b1, 0, none⟩ (.slice A5 lst.length c5)) [(b1, #[.slice A5 lst.length c5, .int .i64 wt, .slice A2 l2.length c2, .int .i64 tr, .int .i64 a, .bool false], 51), (b2, #[.slice none 0 0, .int .i64 0, .slice none 0 0, .int .i64 0, .int .i64 0, .bool false], 51)]) := ⟨HB.out.set 0 0 (.slice A5 lst.length c5) rfl⟩
      generalize wr.setCell ⟨b1, 0, none⟩ (.slice A5 lst.length c5) = u1 at HB HO ⊢
      have y0 : u1.cell? ⟨b1, 0, none⟩ = some (.slice A5 lst.length c5) := (blk_cell (HB.out.get 0 rfl) 0).trans rfl
      have y1 : u1.cell? ⟨b1, 1, none⟩ = some (.int .i64 wt) := (blk_cell (HB.out.get 0 rfl) 1).trans rfl
      have y2 : u1.cell? ⟨b1, 2, none⟩ = some (.slice A2 l2.length c2) := (blk_cell (HB.out.get 0 rfl) 2).trans rfl
      have y3 : u1.cell? ⟨b1, 3, none⟩ = some (.int .i64 tr) := (blk_cell (HB.out.get 0 rfl) 3).trans rfl
      have y4 : u1.cell? ⟨b1, 4, none⟩ = some (.int .i64 a) := (blk_cell (HB.out.get 0 rfl) 4).trans rfl
      have y5 : u1.cell? ⟨b1, 5, none⟩ = some (.bool false) := (blk_cell (HB.out.get 0 rfl) 5).trans rfl
      have y5' : u1.cell? ⟨b1, 3 + 2, none⟩ = some (.bool false) := y5
      go_upto_region 16 with (go_at_call 45; refine (HT.out _ _ _ _).mono ?_; rintro e w4 ⟨rfl, hb⟩; replace HB := Aside0.mk (HB.out.below hb); replace HO := Aside0.mk (Kd.R_below HO.out hb); clear hb)
      clear y0 y1 y2 y3 y4 y5 y5'
      replace HO := Aside0.mk (R_pushB HO.out (g := w4.heap.size) rfl (below_alloc (Below.refl _ _) (.cells #[.slice A5 lst.length c5, .int .i64 wt', .slice A2 l2.length c2, .int .i64 tr, .int .i64 a, .bool false] 51)))
      replace HB := Aside0.mk (HB.out.push #[.slice A5 lst.length c5, .int .i64 wt', .slice A2 l2.length c2, .int .i64 tr, .int .i64 a, .bool false] 51)
      simp only [List.nil_append, List.cons_append] at HB HO
      generalize w4.alloc (.cells #[.slice A5 lst.length c5, .int .i64 wt', .slice A2 l2.length c2, .int .i64 tr, .int .i64 a, .bool false] 51) = w4x at HB HO ⊢
      generalize w4.heap.size = b11 at HB HO ⊢
      have y0 : w4x.cell? ⟨b11, 0, none⟩ = some (.slice A5 lst.length c5) := (blk_cell (HB.out.get 2 rfl) 0).trans rfl
      have y1 : w4x.cell? ⟨b11, 1, none⟩ = some (.int .i64 wt') := (blk_cell (HB.out.get 2 rfl) 1).trans rfl
      have y2 : w4x.cell? ⟨b11, 2, none⟩ = some (.slice A2 l2.length c2) := (blk_cell (HB.out.get 2 rfl) 2).trans rfl
      have y3 : w4x.cell? ⟨b11, 3, none⟩ = some (.int .i64 tr) := (blk_cell (HB.out.get 2 rfl) 3).trans rfl
      have y4 : w4x.cell? ⟨b11, 4, none⟩ = some (.int .i64 a) := (blk_cell (HB.out.get 2 rfl) 4).trans rfl
      have y5 : w4x.cell? ⟨b11, 5, none⟩ = some (.bool false) := (blk_cell (HB.out.get 2 rfl) 5).trans rfl
      have y5' : w4x.cell? ⟨b11, 3 + 2, none⟩ = some (.bool false) := y5
      have t0 : w4x.cell? ⟨b2, 0, none⟩ = some (.slice none 0 0) := (blk_cell (HB.out.get 1 rfl) 0).trans rfl
      have t1 : w4x.cell? ⟨b2, 1, none⟩ = some (.int .i64 0) := (blk_cell (HB.out.get 1 rfl) 1).trans rfl
      have t2 : w4x.cell? ⟨b2, 2, none⟩ = some (.slice none 0 0) := (blk_cell (HB.out.get 1 rfl) 2).trans rfl
      have t3 : w4x.cell? ⟨b2, 3, none⟩ = some (.int .i64 0) := (blk_cell (HB.out.get 1 rfl) 3).trans rfl
      have t4 : w4x.cell? ⟨b2, 4, none⟩ = some (.int .i64 0) := (blk_cell (HB.out.get 1 rfl) 4).trans rfl
      have t5 : w4x.cell? ⟨b2, 5, none⟩ = some (.bool false) := (blk_cell (HB.out.get 1 rfl) 5).trans rfl
      have t5' : w4x.cell? ⟨b2, 3 + 2, none⟩ = some (.bool false) := t5
      have tz0 : w4x.frozen? ⟨b2, 0, none⟩ = false := blk_frozen (HB.out.get 1 rfl) 0
      have tz1 : w4x.frozen? ⟨b2, 1, none⟩ = false := blk_frozen (HB.out.get 1 rfl) 1
      have tz2 : w4x.frozen? ⟨b2, 2, none⟩ = false := blk_frozen (HB.out.get 1 rfl) 2
      have tz3 : w4x.frozen? ⟨b2, 3, none⟩ = false := blk_frozen (HB.out.get 1 rfl) 3
      have tz4 : w4x.frozen? ⟨b2, 4, none⟩ = false := blk_frozen (HB.out.get 1 rfl) 4
      have tz5 : w4x.frozen? ⟨b2, 5, none⟩ = false := blk_frozen (HB.out.get 1 rfl) 5
      go_wp2
      replace HB : Aside0 (Bx W ((((((w4x.setCell ⟨b2, 0, none⟩ (.slice A5 lst.length c5)).setCell ⟨b2, 1, none⟩ (.int .i64 wt')).setCell ⟨b2, 2, none⟩ (.slice A2 l2.length c2)).setCell ⟨b2, 3, none⟩ (.int .i64 tr)).setCell ⟨b2, 4, none⟩ (.int .i64 a)).setCell ⟨b2, 5, none⟩ (.bool false)) [(b1, #[.slice A5 lst.length c5, .int .i64 wt, .slice A2 l2.length c2, .int .i64 tr, .int .i64 a, .bool false], 51), (b2, #[.slice A5 lst.length c5, .int .i64 wt', .slice A2 l2.length c2, .int .i64 tr, .int .i64 a, .bool false], 51), (b11, #[.slice A5 lst.length c5, .int .i64 wt', .slice A2 l2.length c2, .int .i64 tr, .int .i64 a, .bool false], 51)]) := ⟨((((((HB.out.set 1 0 (.slice A5 lst.length c5) rfl).set 1 1 (.int .i64 wt') rfl).set 1 2 (.slice A2 l2.length c2) rfl).set 1 3 (.int .i64 tr) rfl).set 1 4 (.int .i64 a) rfl).set 1 5 (.bool false) rfl)⟩
      replace HO := Aside0.mk (R_setB (R_setB (R_setB (R_setB (R_setB (R_setB HO.out (g := b2) (by simp) 0 (.slice A5 lst.length c5)) (g := b2) (by simp) 1 (.int .i64 wt')) (g := b2) (by simp) 2 (.slice A2 l2.length c2)) (g := b2) (by simp) 3 (.int .i64 tr)) (g := b2) (by simp) 4 (.int .i64 a)) (g := b2) (by simp) 5 (.bool false))
      generalize ((((((w4x.setCell ⟨b2, 0, none⟩ (.slice A5 lst.length c5)).setCell ⟨b2, 1, none⟩ (.int .i64 wt')).setCell ⟨b2, 2, none⟩ (.slice A2 l2.length c2)).setCell ⟨b2, 3, none⟩ (.int .i64 tr)).setCell ⟨b2, 4, none⟩ (.int .i64 a)).setCell ⟨b2, 5, none⟩ (.bool false)) = w8 at HB HO ⊢
      refine bodyPost_ret (results_ct rfl _ _ b2 51 #[.slice A5 lst.length c5, .int .i64 wt', .slice A2 l2.length c2, .int .i64 tr, .int .i64 a, .bool false] (0, 0) _ rfl (HB.out.get 1 rfl) Try.underlying51 rfl (by kernel_rfl)) rfl ?_
      subst hb1
      rw [HL.out]
      exact ⟨_, rfl, Kd.R_mono HO.out (fun _ _ => trivial), HB.out.bel⟩
set_option maxRecDepth 100000 in
set_option maxHeartbeats 16000000 in
theorem ref_write_trip (W : World) (s : Sl) (A0 A2 : Option Addr) (c0 c2 : Nat) (wt wt' tr a : Int) (l2 : List Int) (j : Nat) (t : ByteArray) (hj : j < s.b.length) (hts : t.size ≤ 256) (hr : Kd.C k74 W A0 (lsS s).length (lsS s)) (hb : s.b.length ≤ 4096) (hsm : ∀ x ∈ s.b, x.1.size ≤ 256 ∧ ∀ t, x.2 = some t → t.size ≤ 256) (h2 : Kd.C (Kd.int .i64) W A2 l2.length l2) (hc2 : l2.length ≤ c2) (hl2 : l2.length ≤ 100000000) (hw : wt ≤ 9223372036854775807) (ht : tickR wt = (wt', true)) :
    Calls Try.prog 34 #[.agg #[.slice A0 (lsS s).length c0, .int .i64 wt, .slice A2 l2.length c2, .int .i64 tr, .int .i64 a, .bool false], .int .i64 (j : Int), .string t] W fun e W' => ∃ v : Value, e = .returned (.tuple #[.agg #[v, .int .i64 wt', .slice A2 l2.length c2, .int .i64 tr, .int .i64 a, .bool true], .int .i64 9]) ∧ Kd.R k74 74 W' W.heap.size (fun _ => True) v ((settle (failF l2 tr a) (putB s.b j t)).map bk74) ∧ Below W.heap.size W W' := by
  have HR := Aside0.mk hr
  have H2 := Aside0.mk (And.intro h2 (And.intro hc2 hl2))
  have HLen := Aside0.mk (show (lsS s).length = s.b.length from by unfold lsS; rw [List.length_map])
  have HT := Aside0.mk (fun (W1 : World) (A : Option Addr) (n c : Nat) => ref_trips W1 A A2 n c l2.length c2 wt tr a false hw)
  simp only [ht] at HT
  clear hr h2 hc2 hl2 ht
  obtain ⟨lsf, hlst⟩ : ∃ lsf, lsf = (settle (failF l2 tr a) (putB s.b j t)).map bk74 := ⟨_, rfl⟩
  rw [← hlst]
  have HLst := Aside0.mk hlst
  clear hlst
  have g0 : ¬ ((j : Int) < 0) := by omega
  have g1 : ¬ (((lsS s).length : Int) ≤ (j : Int)) := by rw [HLen.out]; omega
  have g2 : ¬ ((lsS s).length ≤ j) := by rw [HLen.out]; omega
  have g3 : ¬ (256 < (t.size : Int)) := by omega
  have d0 : decide ((j : Int) < 0) = false := decide_eq_false g0
  have d1 : decide ((j : Int) ≥ ((lsS s).length : Int)) = false := decide_eq_false g1
  have d2 : decide (((lsS s).length : Int) ≤ (j : Int)) = false := decide_eq_false g1
  have d3 : decide ((t.size : Int) > 256) = false := decide_eq_false g3
  have d4 : decide (256 < (t.size : Int)) = false := decide_eq_false g3
  have HB := Aside0.mk (((Bx.start W).push #[.slice A0 (lsS s).length c0, .int .i64 wt, .slice A2 l2.length c2, .int .i64 tr, .int .i64 a, .bool false] 51).push #[.slice none 0 0, .int .i64 0, .slice none 0 0, .int .i64 0, .int .i64 0, .bool false] 51)
  go_enter Try.func34, Try.ntmps34
  go_upto_region 1 with (fail)
  simp only [alloc_size, List.nil_append, List.cons_append] at HB
  generalize (W.alloc (.cells #[.slice A0 (lsS s).length c0, .int .i64 wt, .slice A2 l2.length c2, .int .i64 tr, .int .i64 a, .bool false] 51)).alloc (.cells #[.slice none 0 0, .int .i64 0, .slice none 0 0, .int .i64 0, .int .i64 0, .bool false] 51) = w2 at HB ⊢
  generalize W.heap.size + 1 = b2 at HB ⊢
  generalize hb1 : W.heap.size = b1 at HB ⊢
  have y0 : w2.cell? ⟨b1, 0, none⟩ = some (.slice A0 (lsS s).length c0) := (blk_cell (HB.out.get 0 rfl) 0).trans rfl
  have y1 : w2.cell? ⟨b1, 1, none⟩ = some (.int .i64 wt) := (blk_cell (HB.out.get 0 rfl) 1).trans rfl
  have y2 : w2.cell? ⟨b1, 2, none⟩ = some (.slice A2 l2.length c2) := (blk_cell (HB.out.get 0 rfl) 2).trans rfl
  have y3 : w2.cell? ⟨b1, 3, none⟩ = some (.int .i64 tr) := (blk_cell (HB.out.get 0 rfl) 3).trans rfl
  have y4 : w2.cell? ⟨b1, 4, none⟩ = some (.int .i64 a) := (blk_cell (HB.out.get 0 rfl) 4).trans rfl
  have y5 : w2.cell? ⟨b1, 5, none⟩ = some (.bool false) := (blk_cell (HB.out.get 0 rfl) 5).trans rfl
  have y5' : w2.cell? ⟨b1, 3 + 2, none⟩ = some (.bool false) := y5
  go_upto_region 5 with (fail)
  clear y0 y1 y2 y3 y4 y5 y5'
  clear g0 g1 g2 g3 d0 d1 d2 d3 d4
  go_wp2
  go_loopw [8, 9] (fun v8 v9 wr => ∃ i : Nat, i ≤ s.b.length ∧ v9 = .int .i64 i ∧ Aside0 (Bx W wr [(b1, #[.slice A0 (lsS s).length c0, .int .i64 wt, .slice A2 l2.length c2, .int .i64 tr, .int .i64 a, .bool false], 51), (b2, #[.slice none 0 0, .int .i64 0, .slice none 0 0, .int .i64 0, .int .i64 0, .bool false], 51)]) ∧ Aside0 (Kd.R k74 74 wr W.heap.size (Off [b1, b2]) v8 (((putB s.b j t).take i).map bk74))) (fun v8 v9 _ => s.b.length - (intOf v9).toNat)
  case atStart => exact ⟨0, by omega, rfl, HB, ⟨Kd.R_nil _ _ _ _ _⟩⟩
  case round =>
    clear HB
    obtain ⟨i, hi, rfl, HB, HO⟩ := hrel
    generalize hl : ((putB s.b j t).take i).map bk74 = lst at HO
    have HL := Aside0.mk hl
    have hll := Aside0.mk (show lst.length + 1 ≤ 1000000 from by rw [← hl]; simp; omega)
    clear hl
    obtain ⟨A5, c5, rfl⟩ := Kd.R_slice HO.out
    have y0 : wr.cell? ⟨b1, 0, none⟩ = some (.slice A0 (lsS s).length c0) := (blk_cell (HB.out.get 0 rfl) 0).trans rfl
    by_cases hlt : i < s.b.length
    · have q0 : decide ((i : Int) < ((lsS s).length : Int)) = true := decide_eq_true (by rw [HLen.out]; omega)
      have p1 : (i : Int) < ((lsS s).length : Int) := by rw [HLen.out]; omega
      obtain ⟨x, hx⟩ : ∃ x, s.b[i]? = some x := ⟨_, List.getElem?_eq_getElem hlt⟩
      obtain ⟨ad, e0, h0, h1, h2⟩ := at_T74 (Kd.C_below HR.out HB.out.bel) (i : Int) (by omega) p1
      rw [show rd_T74 (lsS s) (i : Int) = bk74 x from rd74s s.b i x hx, Int.toNat_natCast] at h0 h1 h2
      subst e0
      dsimp only [bk74] at h0 h1 h2
      go_upto_region 10 with (fail)
      clear y0 q0 p1 h0 h1 h2
      replace HO := Aside0.mk (R_pushB HO.out (g := wr.heap.size) rfl (below_alloc (Below.refl _ _) (.cells #[.string x.1, .string (x.2.getD ⟨#[]⟩), .bool x.2.isSome] 74)))
      replace HB := Aside0.mk (HB.out.push #[.string x.1, .string (x.2.getD ⟨#[]⟩), .bool x.2.isSome] 74)
      simp only [List.nil_append, List.cons_append] at HB HO
      generalize wr.alloc (.cells #[.string x.1, .string (x.2.getD ⟨#[]⟩), .bool x.2.isSome] 74) = wrx at HB HO ⊢
      generalize wr.heap.size = b8 at HB HO ⊢
      have hp : (putB s.b j t)[i]? = some (if i = j then (x.1, some t) else x) := by rw [putB_get, hx]; rfl
      have HP := Aside0.mk hp
      clear hp
      by_cases hij : i = j
      · rw [if_pos hij] at HP
        subst hij
        have q2 : ((i : Int) == (i : Int)) = true := by simp
        have z0 : wrx.cell? ⟨b8, 0, none⟩ = some (.string x.1) := (blk_cell (HB.out.get 2 rfl) 0).trans rfl
        have z1 : wrx.cell? ⟨b8, 1, none⟩ = some (.string (x.2.getD ⟨#[]⟩)) := (blk_cell (HB.out.get 2 rfl) 1).trans rfl
        have z2 : wrx.cell? ⟨b8, 2, none⟩ = some (.bool x.2.isSome) := (blk_cell (HB.out.get 2 rfl) 2).trans rfl
        have zz0 : wrx.frozen? ⟨b8, 0, none⟩ = false := blk_frozen (HB.out.get 2 rfl) 0
        have zz1 : wrx.frozen? ⟨b8, 1, none⟩ = false := blk_frozen (HB.out.get 2 rfl) 1
        have zz2 : wrx.frozen? ⟨b8, 2, none⟩ = false := blk_frozen (HB.out.get 2 rfl) 2
        go_upto_region 12 with (fail)
        clear z0 z1 z2 zz0 zz1 zz2
        replace HB := Aside0.mk (HB.out.set 2 1 (.string t) rfl)
        replace HO := Aside0.mk (R_setB HO.out (g := b8) (by simp) 1 (.string t))
        generalize wrx.setCell ⟨b8, 1, none⟩ (.string t) = u1 at HB HO ⊢
        have z0 : u1.cell? ⟨b8, 0, none⟩ = some (.string x.1) := (blk_cell (HB.out.get 2 rfl) 0).trans rfl
        have z1 : u1.cell? ⟨b8, 1, none⟩ = some (.string t) := (blk_cell (HB.out.get 2 rfl) 1).trans rfl
        have z2 : u1.cell? ⟨b8, 2, none⟩ = some (.bool x.2.isSome) := (blk_cell (HB.out.get 2 rfl) 2).trans rfl
        have zz0 : u1.frozen? ⟨b8, 0, none⟩ = false := blk_frozen (HB.out.get 2 rfl) 0
        have zz1 : u1.frozen? ⟨b8, 1, none⟩ = false := blk_frozen (HB.out.get 2 rfl) 1
        have zz2 : u1.frozen? ⟨b8, 2, none⟩ = false := blk_frozen (HB.out.get 2 rfl) 2
        go_upto_region 13 with (fail)
        clear z0 z1 z2 zz0 zz1 zz2
        replace HB := Aside0.mk (HB.out.set 2 2 (.bool true) rfl)
        replace HO := Aside0.mk (R_setB HO.out (g := b8) (by simp) 2 (.bool true))
        generalize u1.setCell ⟨b8, 2, none⟩ (.bool true) = u2 at HB HO ⊢
        have z0 : u2.cell? ⟨b8, 0, none⟩ = some (.string x.1) := (blk_cell (HB.out.get 2 rfl) 0).trans rfl
        have z1 : u2.cell? ⟨b8, 1, none⟩ = some (.string t) := (blk_cell (HB.out.get 2 rfl) 1).trans rfl
        have z2 : u2.cell? ⟨b8, 2, none⟩ = some (.bool true) := (blk_cell (HB.out.get 2 rfl) 2).trans rfl
        go_wp2_with (at_builtin; refine Kd.R_append k74 (w0 := W) W.heap.size rfl (.tmp 49) (.tmp 51) 48 74 (.agg #[(.string ⟨#[]⟩), (.string ⟨#[]⟩), (.bool false)]) 40 rfl Try.underlying48 info74 rfl (by decide) (by omega) (.slice A5 _ c5) _ (⟨x.1, t, true⟩ : S74) [.string x.1, .string t, .bool true] (Off [b1, b2, b8]) (fun _ => False) rfl rfl (k74_mkM _ _ _ _) (fun _ hk => hk.elim) (HB.out.fresh rfl) HO.out HB.out.bel HB.out.bel.size (by have := hll.out; omega) ?_; intro v5 w9 ho hb hg hat)
        have e1 := put_step (putB s.b i t) i _ HP.out
        rw [show bk74 (x.1, some t) = ⟨x.1, t, true⟩ from rfl] at e1
        exact ⟨⟨i + 1, by omega, by first | rfl | go_num, ⟨(HB.out.grown rfl HO.out.1 hg hb).take 2⟩, ⟨by rw [e1, HL.out]; exact R_offB ho _ (by simp)⟩⟩, by simp [intOf]; omega⟩
      · rw [if_neg hij] at HP
        have q2 : ((i : Int) == (j : Int)) = false := beq_eq_false_iff_ne.mpr (by omega)
        have q3 : (i == j) = false := beq_eq_false_iff_ne.mpr hij
        have z0 : wrx.cell? ⟨b8, 0, none⟩ = some (.string x.1) := (blk_cell (HB.out.get 2 rfl) 0).trans rfl
        have z1 : wrx.cell? ⟨b8, 1, none⟩ = some (.string (x.2.getD ⟨#[]⟩)) := (blk_cell (HB.out.get 2 rfl) 1).trans rfl
        have z2 : wrx.cell? ⟨b8, 2, none⟩ = some (.bool x.2.isSome) := (blk_cell (HB.out.get 2 rfl) 2).trans rfl
        go_wp2_with (at_builtin; refine Kd.R_append k74 (w0 := W) W.heap.size rfl (.tmp 49) (.tmp 51) 48 74 (.agg #[(.string ⟨#[]⟩), (.string ⟨#[]⟩), (.bool false)]) 40 rfl Try.underlying48 info74 rfl (by decide) (by omega) (.slice A5 _ c5) _ (⟨x.1, (x.2.getD ⟨#[]⟩), x.2.isSome⟩ : S74) [.string x.1, .string (x.2.getD ⟨#[]⟩), .bool x.2.isSome] (Off [b1, b2, b8]) (fun _ => False) rfl rfl (k74_mkM _ _ _ _) (fun _ hk => hk.elim) (HB.out.fresh rfl) HO.out HB.out.bel HB.out.bel.size (by have := hll.out; omega) ?_; intro v5 w9 ho hb hg hat)
        have e1 := put_step (putB s.b j t) i _ HP.out
        rw [show bk74 x = ⟨x.1, x.2.getD ⟨#[]⟩, x.2.isSome⟩ from rfl] at e1
        exact ⟨⟨i + 1, by omega, by first | rfl | go_num, ⟨(HB.out.grown rfl HO.out.1 hg hb).take 2⟩, ⟨by rw [e1, HL.out]; exact R_offB ho _ (by simp)⟩⟩, by simp [intOf]; omega⟩
    · obtain rfl : i = s.b.length := by omega
      have q0 : decide (((s.b.length : Nat) : Int) < ((lsS s).length : Int)) = false := decide_eq_false (by rw [HLen.out]; omega)
      have p1 : ¬ (((s.b.length : Nat) : Int) < ((lsS s).length : Int)) := by rw [HLen.out]; omega
      have hl := HL.out
      rw [List.take_of_length_le (by rw [putB_len]; omega)] at hl
      replace HL := Aside0.mk hl
      clear hl hll
      have f0 : wr.frozen? ⟨b1, 0, none⟩ = false := blk_frozen (HB.out.get 0 rfl) 0
      go_upto_region 15 with (fail)
      clear y0 f0 q0 p1
      replace HO := Aside0.mk (R_setB HO.out (g := b1) (by simp) 0 (.slice A5 lst.length c5))
      replace HB : Aside0 (Bx W (wr.setCell ⟨b1, 0, none⟩ (.slice A5 lst.length c5)) [(b1, #[.slice A5 lst.length c5, .int .i64 wt, .slice A2 l2.length c2, .int .i64 tr, .int .i64 a, .bool false], 51), (b2, #[.slice none 0 0, .int .i64 0, .slice none 0 0, .int .i64 0, .int .i64 0, .bool false], 51)]) := ⟨HB.out.set 0 0 (.slice A5 lst.length c5) rfl⟩
      generalize wr.setCell ⟨b1, 0, none⟩ (.slice A5 lst.length c5) = u1 at HB HO ⊢
      have y0 : u1.cell? ⟨b1, 0, none⟩ = some (.slice A5 lst.length c5) := (blk_cell (HB.out.get 0 rfl) 0).trans rfl
      have y1 : u1.cell? ⟨b1, 1, none⟩ = some (.int .i64 wt) := (blk_cell (HB.out.get 0 rfl) 1).trans rfl
      have y2 : u1.cell? ⟨b1, 2, none⟩ = some (.slice A2 l2.length c2) := (blk_cell (HB.out.get 0 rfl) 2).trans rfl
      have y3 : u1.cell? ⟨b1, 3, none⟩ = some (.int .i64 tr) := (blk_cell (HB.out.get 0 rfl) 3).trans rfl
      have y4 : u1.cell? ⟨b1, 4, none⟩ = some (.int .i64 a) := (blk_cell (HB.out.get 0 rfl) 4).trans rfl
      have y5 : u1.cell? ⟨b1, 5, none⟩ = some (.bool false) := (blk_cell (HB.out.get 0 rfl) 5).trans rfl
      have y5' : u1.cell? ⟨b1, 3 + 2, none⟩ = some (.bool false) := y5
      go_upto_region 16 with (go_at_call 45; refine (HT.out _ _ _ _).mono ?_; rintro e w4 ⟨rfl, hb⟩; replace HB := Aside0.mk (HB.out.below hb); replace HO := Aside0.mk (Kd.R_below HO.out hb); clear hb)
      clear y0 y1 y2 y3 y4 y5 y5'
      replace HO := Aside0.mk (R_pushB HO.out (g := w4.heap.size) rfl (below_alloc (Below.refl _ _) (.cells #[.slice A5 lst.length c5, .int .i64 wt', .slice A2 l2.length c2, .int .i64 tr, .int .i64 a, .bool false] 51)))
      replace HB := Aside0.mk (HB.out.push #[.slice A5 lst.length c5, .int .i64 wt', .slice A2 l2.length c2, .int .i64 tr, .int .i64 a, .bool false] 51)
      simp only [List.nil_append, List.cons_append] at HB HO
      generalize w4.alloc (.cells #[.slice A5 lst.length c5, .int .i64 wt', .slice A2 l2.length c2, .int .i64 tr, .int .i64 a, .bool false] 51) = w4x at HB HO ⊢
      generalize w4.heap.size = b11 at HB HO ⊢
      obtain ⟨_, hc5, hC5⟩ := Kd.R_reads' HO.out
      have HC5 := Aside0.mk (And.intro hc5 hC5)
      clear hc5 hC5
      obtain ⟨s9, hs9⟩ : ∃ s9 : Sl, s9 = { s with b := putB s.b j t } := ⟨_, rfl⟩
      have e9 : lsS s9 = lst := by rw [hs9, ← HL.out]; rfl
      have E9 := Aside0.mk e9
      have F9 := Aside0.mk (show s9.b = putB s.b j t from by rw [hs9])
      clear e9 hs9
      rw [← E9.out] at HC5 HO HB ⊢
      have y0 : w4x.cell? ⟨b11, 0, none⟩ = some (.slice A5 (lsS s9).length c5) := (blk_cell (HB.out.get 2 rfl) 0).trans rfl
      have y1 : w4x.cell? ⟨b11, 1, none⟩ = some (.int .i64 wt') := (blk_cell (HB.out.get 2 rfl) 1).trans rfl
      have y2 : w4x.cell? ⟨b11, 2, none⟩ = some (.slice A2 l2.length c2) := (blk_cell (HB.out.get 2 rfl) 2).trans rfl
      have y3 : w4x.cell? ⟨b11, 3, none⟩ = some (.int .i64 tr) := (blk_cell (HB.out.get 2 rfl) 3).trans rfl
      have y4 : w4x.cell? ⟨b11, 4, none⟩ = some (.int .i64 a) := (blk_cell (HB.out.get 2 rfl) 4).trans rfl
      have y5 : w4x.cell? ⟨b11, 5, none⟩ = some (.bool false) := (blk_cell (HB.out.get 2 rfl) 5).trans rfl
      have y5' : w4x.cell? ⟨b11, 3 + 2, none⟩ = some (.bool false) := y5
      have t0 : w4x.cell? ⟨b2, 0, none⟩ = some (.slice none 0 0) := (blk_cell (HB.out.get 1 rfl) 0).trans rfl
      have t1 : w4x.cell? ⟨b2, 1, none⟩ = some (.int .i64 0) := (blk_cell (HB.out.get 1 rfl) 1).trans rfl
      have t2 : w4x.cell? ⟨b2, 2, none⟩ = some (.slice none 0 0) := (blk_cell (HB.out.get 1 rfl) 2).trans rfl
      have t3 : w4x.cell? ⟨b2, 3, none⟩ = some (.int .i64 0) := (blk_cell (HB.out.get 1 rfl) 3).trans rfl
      have t4 : w4x.cell? ⟨b2, 4, none⟩ = some (.int .i64 0) := (blk_cell (HB.out.get 1 rfl) 4).trans rfl
      have t5 : w4x.cell? ⟨b2, 5, none⟩ = some (.bool false) := (blk_cell (HB.out.get 1 rfl) 5).trans rfl
      have t5' : w4x.cell? ⟨b2, 3 + 2, none⟩ = some (.bool false) := t5
      have tz0 : w4x.frozen? ⟨b2, 0, none⟩ = false := blk_frozen (HB.out.get 1 rfl) 0
      have tz1 : w4x.frozen? ⟨b2, 1, none⟩ = false := blk_frozen (HB.out.get 1 rfl) 1
      have tz2 : w4x.frozen? ⟨b2, 2, none⟩ = false := blk_frozen (HB.out.get 1 rfl) 2
      have tz3 : w4x.frozen? ⟨b2, 3, none⟩ = false := blk_frozen (HB.out.get 1 rfl) 3
      have tz4 : w4x.frozen? ⟨b2, 4, none⟩ = false := blk_frozen (HB.out.get 1 rfl) 4
      have tz5 : w4x.frozen? ⟨b2, 5, none⟩ = false := blk_frozen (HB.out.get 1 rfl) 5
      go_wp2_with (go_at_call 38; refine (ref_fail_up _ s9 _ _ _ _ _ _ _ _ _ _ _ _ _ HC5.out.2 (by rw [F9.out, putB_len]; exact hb) (by rw [F9.out]; exact putB_small _ _ _ hts hsm) (Kd.C_below H2.out.1 HB.out.bel) H2.out.2.1 H2.out.2.2).mono ?_; rintro e w7 ⟨v, rfl, ho, hbb⟩; rw [F9.out, ← HLst.out] at ho; obtain ⟨A9, c9, rfl⟩ := Kd.R_slice ho; replace ho := R_newB (ns := [b1, b2, b11]) HB.out rfl ho; replace HB := Aside0.mk (HB.out.below hbb); clear HO; have HO := Aside0.mk ho; clear hbb ho; clear y0; clear y1; clear y2; clear y3; clear y4; clear y5; clear y5'; clear t5'; clear t0 tz0; clear t1 tz1; clear t2 tz2; clear t3 tz3; clear t4 tz4; clear t5 tz5; have t0 : w7.cell? ⟨b2, 0, none⟩ = some (.slice none 0 0) := (blk_cell (HB.out.get 1 rfl) 0).trans rfl; have t1 : w7.cell? ⟨b2, 1, none⟩ = some (.int .i64 0) := (blk_cell (HB.out.get 1 rfl) 1).trans rfl; have t2 : w7.cell? ⟨b2, 2, none⟩ = some (.slice none 0 0) := (blk_cell (HB.out.get 1 rfl) 2).trans rfl; have t3 : w7.cell? ⟨b2, 3, none⟩ = some (.int .i64 0) := (blk_cell (HB.out.get 1 rfl) 3).trans rfl; have t4 : w7.cell? ⟨b2, 4, none⟩ = some (.int .i64 0) := (blk_cell (HB.out.get 1 rfl) 4).trans rfl; have t5 : w7.cell? ⟨b2, 5, none⟩ = some (.bool false) := (blk_cell (HB.out.get 1 rfl) 5).trans rfl; have tz0 : w7.frozen? ⟨b2, 0, none⟩ = false := blk_frozen (HB.out.get 1 rfl) 0; have tz1 : w7.frozen? ⟨b2, 1, none⟩ = false := blk_frozen (HB.out.get 1 rfl) 1; have tz2 : w7.frozen? ⟨b2, 2, none⟩ = false := blk_frozen (HB.out.get 1 rfl) 2; have tz3 : w7.frozen? ⟨b2, 3, none⟩ = false := blk_frozen (HB.out.get 1 rfl) 3; have tz4 : w7.frozen? ⟨b2, 4, none⟩ = false := blk_frozen (HB.out.get 1 rfl) 4; have tz5 : w7.frozen? ⟨b2, 5, none⟩ = false := blk_frozen (HB.out.get 1 rfl) 5)
      replace HB : Aside0 (Bx W ((((((w7.setCell ⟨b2, 0, none⟩ (.slice A9 lsf.length c9)).setCell ⟨b2, 1, none⟩ (.int .i64 wt')).setCell ⟨b2, 2, none⟩ (.slice A2 l2.length c2)).setCell ⟨b2, 3, none⟩ (.int .i64 tr)).setCell ⟨b2, 4, none⟩ (.int .i64 a)).setCell ⟨b2, 5, none⟩ (.bool true)) [(b1, #[.slice A5 (lsS s9).length c5, .int .i64 wt, .slice A2 l2.length c2, .int .i64 tr, .int .i64 a, .bool false], 51), (b2, #[.slice A9 lsf.length c9, .int .i64 wt', .slice A2 l2.length c2, .int .i64 tr, .int .i64 a, .bool true], 51), (b11, #[.slice A5 (lsS s9).length c5, .int .i64 wt', .slice A2 l2.length c2, .int .i64 tr, .int .i64 a, .bool false], 51)]) := ⟨((((((HB.out.set 1 0 (.slice A9 lsf.length c9) rfl).set 1 1 (.int .i64 wt') rfl).set 1 2 (.slice A2 l2.length c2) rfl).set 1 3 (.int .i64 tr) rfl).set 1 4 (.int .i64 a) rfl).set 1 5 (.bool true) rfl)⟩
      replace HO := Aside0.mk (R_setB (R_setB (R_setB (R_setB (R_setB (R_setB HO.out (g := b2) (by simp) 0 (.slice A9 lsf.length c9)) (g := b2) (by simp) 1 (.int .i64 wt')) (g := b2) (by simp) 2 (.slice A2 l2.length c2)) (g := b2) (by simp) 3 (.int .i64 tr)) (g := b2) (by simp) 4 (.int .i64 a)) (g := b2) (by simp) 5 (.bool true))
      generalize ((((((w7.setCell ⟨b2, 0, none⟩ (.slice A9 lsf.length c9)).setCell ⟨b2, 1, none⟩ (.int .i64 wt')).setCell ⟨b2, 2, none⟩ (.slice A2 l2.length c2)).setCell ⟨b2, 3, none⟩ (.int .i64 tr)).setCell ⟨b2, 4, none⟩ (.int .i64 a)).setCell ⟨b2, 5, none⟩ (.bool true)) = w8 at HB HO ⊢
      refine bodyPost_ret (results_ct rfl _ _ b2 51 #[.slice A9 lsf.length c9, .int .i64 wt', .slice A2 l2.length c2, .int .i64 tr, .int .i64 a, .bool true] (0, 0) _ rfl (HB.out.get 1 rfl) Try.underlying51 rfl (by kernel_rfl)) rfl ?_
      subst hb1
      exact ⟨_, rfl, Kd.R_mono HO.out (fun _ _ => trivial), HB.out.bel⟩

end Go.Proofs.Ytdenfndpggfgmaa.PP
