-- written by a program of this session
import Derived.Test.YtdenfndpggfgmaaPFx0
import Derived.Test.YtdenfndpggfgmaaPFx1
import Derived.Test.YtdenfndpggfgmaaPFx2
import Derived.Test.YtdenfndpggfgmaaPFx3
namespace Go.Proofs.Ytdenfndpggfgmaa.PF
open Go.RowKit Go.Proofs.Ytdenfndpggfgmaa.Op Go.Proofs.YtdenfndpggfgmaaW.PrintWords Go.Proofs.YtdenfndpggfgmaaW.PrintLast Go.Proofs.YtdenfndpggfgmaaW.PrintMore
attribute [local go_sem] max2_int min2_int max_two min_two max_three min_three max_four min_four   -- for this text's walks alone
set_option linter.unusedVariables false
set_option linter.unusedSimpArgs false

/-! ### splicelaw07_SlabFalls: function 8 (by hand) -/
structure FaW (w wr : World) (g rb mb n gx ga gb : Nat) (s : Sl) (cs : Array Value) (su la : List ByteArray) : Prop where
  hs : IsSl w wr g rb mb n s
  bx : wr.heap[gx]? = some (.cells cs 33 (0, 0))
  ba : wr.heap[ga]? = some (.cells (vals su) 26 (0, 0))
  bb : wr.heap[gb]? = some (.cells (vals la) 26 (0, 0))
  nx : gx ≠ g ∧ gx ≠ rb ∧ gx ≠ mb ∧ gx ≠ ga ∧ gx ≠ gb
  an : ga ≠ g ∧ ga ≠ rb ∧ ga ≠ mb
  bn : gb ≠ g ∧ gb ≠ rb ∧ gb ≠ mb ∧ gb ≠ ga
  a1 : w.heap.size ≤ ga ∧ s.kb ≤ ga
  b1 : w.heap.size ≤ gb ∧ s.kb ≤ gb
section
variable {w wr w2 : World} {g rb mb n m gx ga gb : Nat} {s s2 : Sl} {cs : Array Value} {su la : List ByteArray}
theorem FaW.below (h : FaW w wr g rb mb n gx ga gb s cs su la) (hb : Below wr.heap.size wr w2) : FaW w w2 g rb mb n gx ga gb s cs su la :=
  ⟨h.hs.below hb, blk_below h.bx hb, blk_below h.ba hb, blk_below h.bb hb, h.nx, h.an, h.bn, h.a1, h.b1⟩
theorem FaW.turn (h : FaW w wr g rb mb n gx ga gb s cs su la) (h2 : IsSl w w2 g rb mb m s2) (hk : SlKept wr w2 g rb mb) (hu : s2.kb = s.kb) : FaW w w2 g rb mb m gx ga gb s2 cs su la :=
  ⟨h2, (hk.2 gx (blk_lt h.bx) h.nx.1 h.nx.2.1 h.nx.2.2.1).trans h.bx, (hk.2 ga (blk_lt h.ba) h.an.1 h.an.2.1 h.an.2.2).trans h.ba, (hk.2 gb (blk_lt h.bb) h.bn.1 h.bn.2.1 h.bn.2.2.1).trans h.bb, h.nx, h.an, h.bn, hu.symm ▸ h.a1, hu.symm ▸ h.b1⟩
theorem FaW.more (h : FaW w wr g rb mb n gx ga gb s cs su la) (hm : n ≤ m) : FaW w wr g rb mb m gx ga gb s cs su la := { h with hs := h.hs.more hm }
theorem FaW.setL (h : FaW w wr g rb mb n gx ga gb s cs su la) (j : Nat) (t : ByteArray) : FaW w (wr.setCell ⟨gb, j, none⟩ (.string t)) g rb mb n gx ga gb s cs su (la.set j t) :=
  ⟨h.hs.setFar h.b1.2 h.b1.1 ⟨h.bn.1, h.bn.2.1, h.bn.2.2.1⟩ j _, blk_far (p := ⟨gb, j, none⟩) h.bx h.nx.2.2.2.2 _, blk_far (p := ⟨gb, j, none⟩) h.ba h.bn.2.2.2.symm _, blk_put h.bb j _ (vals_set la j t), h.nx, h.an, h.bn, h.a1, h.b1⟩
theorem FaW.setS (h : FaW w wr g rb mb n gx ga gb s cs su la) (j : Nat) (t : ByteArray) : FaW w (wr.setCell ⟨ga, j, none⟩ (.string t)) g rb mb n gx ga gb s cs (su.set j t) la :=
  ⟨h.hs.setFar h.a1.2 h.a1.1 h.an j _, blk_far (p := ⟨ga, j, none⟩) h.bx h.nx.2.2.2.1 _, blk_put h.ba j _ (vals_set su j t), blk_far (p := ⟨ga, j, none⟩) h.bb h.bn.2.2.2 _, h.nx, h.an, h.bn, h.a1, h.b1⟩
theorem faw_mk {W : World} {kb : Nat} (hkb : kb ≤ W.heap.size) (h : IsSl w W g rb mb n s) (he : s.kb = kb) (hx : W.heap[gx]? = some (.cells cs 33 (0, 0))) (hn : gx ≠ g ∧ gx ≠ rb ∧ gx ≠ mb) :
    FaW w ((W.alloc (.cells #[.string ⟨#[]⟩, .string ⟨#[]⟩, .string ⟨#[]⟩, .string ⟨#[]⟩, .string ⟨#[]⟩, .string ⟨#[]⟩, .string ⟨#[]⟩, .string ⟨#[]⟩] 26)).alloc (.cells #[.string ⟨#[]⟩, .string ⟨#[]⟩, .string ⟨#[]⟩, .string ⟨#[]⟩, .string ⟨#[]⟩, .string ⟨#[]⟩, .string ⟨#[]⟩, .string ⟨#[]⟩] 26)) g rb mb n gx W.heap.size (W.heap.size + 1) s cs (List.replicate 8 ByteArray.empty) (List.replicate 8 ByteArray.empty) := by
  have hl := h.lts
  have hx1 := blk_lt hx
  have hz := h.bel.size
  have h8 := h.below (below_alloc (Below.refl W.heap.size W) (.cells #[.string ⟨#[]⟩, .string ⟨#[]⟩, .string ⟨#[]⟩, .string ⟨#[]⟩, .string ⟨#[]⟩, .string ⟨#[]⟩, .string ⟨#[]⟩, .string ⟨#[]⟩] 26))
  have x8 := blk_below hx (below_alloc (Below.refl W.heap.size W) (.cells #[.string ⟨#[]⟩, .string ⟨#[]⟩, .string ⟨#[]⟩, .string ⟨#[]⟩, .string ⟨#[]⟩, .string ⟨#[]⟩, .string ⟨#[]⟩, .string ⟨#[]⟩] 26))
  have b8 : (W.alloc (.cells #[.string ⟨#[]⟩, .string ⟨#[]⟩, .string ⟨#[]⟩, .string ⟨#[]⟩, .string ⟨#[]⟩, .string ⟨#[]⟩, .string ⟨#[]⟩, .string ⟨#[]⟩] 26)).heap[W.heap.size]? = some (.cells (vals (List.replicate 8 ByteArray.empty)) 26 (0, 0)) := blk_new W _
  have hs8 := alloc_size W (.cells #[.string ⟨#[]⟩, .string ⟨#[]⟩, .string ⟨#[]⟩, .string ⟨#[]⟩, .string ⟨#[]⟩, .string ⟨#[]⟩, .string ⟨#[]⟩, .string ⟨#[]⟩] 26)
  generalize W.alloc (.cells #[.string ⟨#[]⟩, .string ⟨#[]⟩, .string ⟨#[]⟩, .string ⟨#[]⟩, .string ⟨#[]⟩, .string ⟨#[]⟩, .string ⟨#[]⟩, .string ⟨#[]⟩] 26) = W8 at h8 x8 b8 hs8 ⊢
  have bn := blk_new W8 (.cells #[.string ⟨#[]⟩, .string ⟨#[]⟩, .string ⟨#[]⟩, .string ⟨#[]⟩, .string ⟨#[]⟩, .string ⟨#[]⟩, .string ⟨#[]⟩, .string ⟨#[]⟩] 26)
  rw [hs8] at bn
  exact ⟨h8.below (below_alloc (Below.refl _ _) _), blk_alloc x8 _, blk_alloc b8 _, bn, ⟨hn.1, hn.2.1, hn.2.2, by omega, by omega⟩, ⟨by omega, by omega, by omega⟩, ⟨by omega, by omega, by omega, by omega⟩, ⟨by omega, by omega⟩, ⟨by omega, by omega⟩⟩
end
theorem new8 (W : World) :
    ((W.alloc (.cells #[.string ⟨#[]⟩, .string ⟨#[]⟩, .string ⟨#[]⟩, .string ⟨#[]⟩, .string ⟨#[]⟩, .string ⟨#[]⟩, .string ⟨#[]⟩, .string ⟨#[]⟩] 26)).cell? ⟨W.heap.size, 0, none⟩ = some (.string ByteArray.empty) ∧ (W.alloc (.cells #[.string ⟨#[]⟩, .string ⟨#[]⟩, .string ⟨#[]⟩, .string ⟨#[]⟩, .string ⟨#[]⟩, .string ⟨#[]⟩, .string ⟨#[]⟩, .string ⟨#[]⟩] 26)).cell? ⟨W.heap.size, 1, none⟩ = some (.string ByteArray.empty) ∧ (W.alloc (.cells #[.string ⟨#[]⟩, .string ⟨#[]⟩, .string ⟨#[]⟩, .string ⟨#[]⟩, .string ⟨#[]⟩, .string ⟨#[]⟩, .string ⟨#[]⟩, .string ⟨#[]⟩] 26)).cell? ⟨W.heap.size, 2, none⟩ = some (.string ByteArray.empty) ∧ (W.alloc (.cells #[.string ⟨#[]⟩, .string ⟨#[]⟩, .string ⟨#[]⟩, .string ⟨#[]⟩, .string ⟨#[]⟩, .string ⟨#[]⟩, .string ⟨#[]⟩, .string ⟨#[]⟩] 26)).cell? ⟨W.heap.size, 3, none⟩ = some (.string ByteArray.empty) ∧ (W.alloc (.cells #[.string ⟨#[]⟩, .string ⟨#[]⟩, .string ⟨#[]⟩, .string ⟨#[]⟩, .string ⟨#[]⟩, .string ⟨#[]⟩, .string ⟨#[]⟩, .string ⟨#[]⟩] 26)).cell? ⟨W.heap.size, 4, none⟩ = some (.string ByteArray.empty) ∧ (W.alloc (.cells #[.string ⟨#[]⟩, .string ⟨#[]⟩, .string ⟨#[]⟩, .string ⟨#[]⟩, .string ⟨#[]⟩, .string ⟨#[]⟩, .string ⟨#[]⟩, .string ⟨#[]⟩] 26)).cell? ⟨W.heap.size, 5, none⟩ = some (.string ByteArray.empty) ∧ (W.alloc (.cells #[.string ⟨#[]⟩, .string ⟨#[]⟩, .string ⟨#[]⟩, .string ⟨#[]⟩, .string ⟨#[]⟩, .string ⟨#[]⟩, .string ⟨#[]⟩, .string ⟨#[]⟩] 26)).cell? ⟨W.heap.size, 6, none⟩ = some (.string ByteArray.empty) ∧ (W.alloc (.cells #[.string ⟨#[]⟩, .string ⟨#[]⟩, .string ⟨#[]⟩, .string ⟨#[]⟩, .string ⟨#[]⟩, .string ⟨#[]⟩, .string ⟨#[]⟩, .string ⟨#[]⟩] 26)).cell? ⟨W.heap.size, 7, none⟩ = some (.string ByteArray.empty)) ∧
    (W.alloc (.cells #[.string ⟨#[]⟩, .string ⟨#[]⟩, .string ⟨#[]⟩, .string ⟨#[]⟩, .string ⟨#[]⟩, .string ⟨#[]⟩, .string ⟨#[]⟩, .string ⟨#[]⟩] 26)).frozen? ⟨W.heap.size, 0, none⟩ = false ∧ (W.alloc (.cells #[.string ⟨#[]⟩, .string ⟨#[]⟩, .string ⟨#[]⟩, .string ⟨#[]⟩, .string ⟨#[]⟩, .string ⟨#[]⟩, .string ⟨#[]⟩, .string ⟨#[]⟩] 26)).frozen? ⟨W.heap.size, 1, none⟩ = false ∧ (W.alloc (.cells #[.string ⟨#[]⟩, .string ⟨#[]⟩, .string ⟨#[]⟩, .string ⟨#[]⟩, .string ⟨#[]⟩, .string ⟨#[]⟩, .string ⟨#[]⟩, .string ⟨#[]⟩] 26)).frozen? ⟨W.heap.size, 2, none⟩ = false ∧ (W.alloc (.cells #[.string ⟨#[]⟩, .string ⟨#[]⟩, .string ⟨#[]⟩, .string ⟨#[]⟩, .string ⟨#[]⟩, .string ⟨#[]⟩, .string ⟨#[]⟩, .string ⟨#[]⟩] 26)).frozen? ⟨W.heap.size, 3, none⟩ = false ∧ (W.alloc (.cells #[.string ⟨#[]⟩, .string ⟨#[]⟩, .string ⟨#[]⟩, .string ⟨#[]⟩, .string ⟨#[]⟩, .string ⟨#[]⟩, .string ⟨#[]⟩, .string ⟨#[]⟩] 26)).frozen? ⟨W.heap.size, 4, none⟩ = false ∧ (W.alloc (.cells #[.string ⟨#[]⟩, .string ⟨#[]⟩, .string ⟨#[]⟩, .string ⟨#[]⟩, .string ⟨#[]⟩, .string ⟨#[]⟩, .string ⟨#[]⟩, .string ⟨#[]⟩] 26)).frozen? ⟨W.heap.size, 5, none⟩ = false ∧ (W.alloc (.cells #[.string ⟨#[]⟩, .string ⟨#[]⟩, .string ⟨#[]⟩, .string ⟨#[]⟩, .string ⟨#[]⟩, .string ⟨#[]⟩, .string ⟨#[]⟩, .string ⟨#[]⟩] 26)).frozen? ⟨W.heap.size, 6, none⟩ = false ∧ (W.alloc (.cells #[.string ⟨#[]⟩, .string ⟨#[]⟩, .string ⟨#[]⟩, .string ⟨#[]⟩, .string ⟨#[]⟩, .string ⟨#[]⟩, .string ⟨#[]⟩, .string ⟨#[]⟩] 26)).frozen? ⟨W.heap.size, 7, none⟩ = false :=
  cells8 (a1 := ByteArray.empty) (a2 := ByteArray.empty) (a3 := ByteArray.empty) (a4 := ByteArray.empty) (a5 := ByteArray.empty) (a6 := ByteArray.empty) (a7 := ByteArray.empty) (a8 := ByteArray.empty) (blk_new W _)
theorem ba_ne {p q : ByteArray} (h : p ≠ q) : (p.toList == q.toList) = false := by
  rw [beq_eq_false_iff_ne]
  intro e
  rw [ByteArray.toList_eq, ByteArray.toList_eq] at e
  exact h (ByteArray.ext (Array.toList_inj.1 e))
set_option maxRecDepth 100000 in
set_option maxHeartbeats 8000000 in
theorem falls_walk (A0 : Option Addr) (c0 : Nat) (l0 : List S38) (N : Int) (A2 : Option Addr) (c2 : Nat) (l2 : List Int) (tr at_ : Int) (w : World)
    (hr0 : Kd.C k38 w A0 l0.length l0) (hr2 : Kd.C (Kd.int .i64) w A2 l2.length l2) (hc2 : l2.length ≤ c2) (hl2 : (l2.length : Int) ≤ 50) :
    Calls Try.prog 8 #[.slice A0 l0.length c0, .int .i64 N, .agg #[.slice A2 l2.length c2, .int .i64 tr, .int .i64 at_]] w fun e w' => e = .returned (.bool true) ∧ Below w.heap.size w w' := by
  have HN := Aside0.mk (slab_new_yes (w := w) (below_alloc (Below.refl w.heap.size w) (.cells #[.slice A2 l2.length c2, .int .i64 tr, .int .i64 at_] 33)) 8 (by omega) (by omega))
  have HX := Aside0.mk (blk_new w (.cells #[.slice A2 l2.length c2, .int .i64 tr, .int .i64 at_] 33))
  have HZ := Aside0.mk (alloc_size w (.cells #[.slice A2 l2.length c2, .int .i64 tr, .int .i64 at_] 33))
  have HR0 := Aside0.mk hr0
  have HR2 := Aside0.mk hr2
  have HC2 := Aside0.mk hc2
  have q0 : decide ((l2.length : Int) > 50) = false := decide_eq_false (by omega)
  have q1 : decide ((50 : Int) < (l2.length : Int)) = false := decide_eq_false (by omega)
  have HL2 := Aside0.mk hl2
  clear hr0 hr2 hc2 hl2
  go_enter Try.func8, Try.ntmps8
  go_upto_region 1 with (fail)
  generalize w.alloc (.cells #[.slice A2 l2.length c2, .int .i64 tr, .int .i64 at_] 33) = W1 at HN HX HZ ⊢
  go_upto_region 2 with (go_at_call 10; refine HN.out.mono ?_; rintro e w1 ⟨rfl, hs, hb⟩; have HS := Aside0.mk hs; replace HX := Aside0.mk (blk_below HX.out hb); have HNx : Aside0 (w.heap.size ≠ W1.heap.size + 1 + 1 ∧ w.heap.size ≠ W1.heap.size ∧ w.heap.size ≠ W1.heap.size + 1) := ⟨by have := HZ.out; omega⟩; clear hs hb)
  clear HN HZ
  generalize W1.heap.size + 1 + 1 = g at HS HNx ⊢
  generalize W1.heap.size + 1 = mb at HS HNx
  generalize W1.heap.size = rb at HS HNx
  obtain ⟨gx, hgx⟩ : ∃ gx, gx = w.heap.size := ⟨_, rfl⟩
  rw [← hgx] at HX HNx ⊢
  clear hgx
  go_upto_region 4 with (go_at_call 11; refine (awake07 _).mono ?_; rintro e w2 ⟨rfl, hb⟩; replace HS := Aside0.mk (HS.out.below hb); replace HX := Aside0.mk (blk_below HX.out hb); have y0 : w2.cell? ⟨gx, 0, none⟩ = some (.slice A2 l2.length c2) := (blk_cell HX.out 0).trans rfl; clear hb)
  clear q0 q1
  have y1 : w2.cell? ⟨gx, 1, none⟩ = some (.int .i64 tr) := (blk_cell HX.out 1).trans rfl
  have y2 : w2.cell? ⟨gx, 2, none⟩ = some (.int .i64 at_) := (blk_cell HX.out 2).trans rfl
  have HK : Aside0 (wrap64 (1 + (wrap64 (N.tmod 40 + 40)).tmod 40) ≤ 9223372036854775807) := ⟨by unfold wrap64; omega⟩
  go_upto_region 5 with (go_at_call 20; refine (slab_trip HS.out A2 c2 l2 _ tr at_ (Kd.C_below HR2.out HS.out.bel) (by have := HL2.out; omega) HK.out).mono ?_; rintro e w3 ⟨rfl, ⟨kb, hkb, hs⟩, hk⟩; have HKb := Aside0.mk hkb; have HS3 := Aside0.mk hs; replace HX := Aside0.mk ((hk.2 gx (blk_lt HX.out) HNx.out.1 HNx.out.2.1 HNx.out.2.2).trans HX.out); clear hkb hs hk y0 y1 y2)
  have hF : FallS kb l2 tr at_ { Sl.new (Int.toNat 8) with wait := max (wrap64 (1 + (wrap64 (N.tmod 40 + 40)).tmod 40)) 0, keep := l2, torn := tr, at_ := at_, kb := kb } (List.replicate 8 ByteArray.empty) (List.replicate 8 ByteArray.empty) :=
    ⟨by simp [Sl.new], by simp, by simp, rfl, rfl, rfl, rfl, fun _ => UpB.new rfl, fun q => by cases q⟩
  have HF := Aside0.mk hF
  clear hF HK HS
  generalize ({ Sl.new (Int.toNat 8) with wait := max (wrap64 (1 + (wrap64 (N.tmod 40 + 40)).tmod 40)) 0, keep := l2, torn := tr, at_ := at_, kb := kb } : Sl) = s0 at HS3 HF
  replace HS3 := Aside0.mk (faw_mk HKb.out HS3.out HF.out.kb HX.out HNx.out)
  clear HKb HX HNx
  go_upto_region 6 with (fail)
  generalize (w3.alloc (.cells #[.string ⟨#[]⟩, .string ⟨#[]⟩, .string ⟨#[]⟩, .string ⟨#[]⟩, .string ⟨#[]⟩, .string ⟨#[]⟩, .string ⟨#[]⟩, .string ⟨#[]⟩] 26)).alloc (.cells #[.string ⟨#[]⟩, .string ⟨#[]⟩, .string ⟨#[]⟩, .string ⟨#[]⟩, .string ⟨#[]⟩, .string ⟨#[]⟩, .string ⟨#[]⟩, .string ⟨#[]⟩] 26) = W5 at HS3 ⊢
  generalize w3.heap.size + 1 = gb at HS3 ⊢
  generalize w3.heap.size = ga at HS3 ⊢
  go_upto_block 0 with (fail)
  go_cut [10] (fun v10 wr => ∃ (k : Nat) (s : Sl) (su la : List ByteArray), k ≤ 40 ∧ Aside0 (FaW w wr g rb mb k gx ga gb s #[.slice A2 l2.length c2, .int .i64 tr, .int .i64 at_] su la) ∧ Aside0 (FallS kb l2 tr at_ s su la))
  case first =>
   go_wp2
   go_loopw [10] (fun v10 wr => ∃ (k : Nat) (s : Sl) (su la : List ByteArray), k ≤ 40 ∧ v10 = .int .i64 k ∧ Aside0 (FaW w wr g rb mb k gx ga gb s #[.slice A2 l2.length c2, .int .i64 tr, .int .i64 at_] su la) ∧ Aside0 (FallS kb l2 tr at_ s su la)) (fun v10 _ => 40 - (intOf v10).toNat)
   case atStart => exact ⟨0, _, _, _, by omega, rfl, ⟨HS3.out.more (by omega)⟩, HF⟩
   case round =>
     clear HS3 HF
     obtain ⟨k, s, su, la, hk, rfl, HS, HF⟩ := hrel
     by_cases hlt : (k < 40 ∧ k < l0.length) ∧ s.down = false
     · obtain ⟨hlt, hd⟩ := hlt
       have q0 : decide (k < l0.length) = true := decide_eq_true hlt.2
       have q1 : decide ((k : Int) < 40) = true := decide_eq_true (by omega)
       have hwk : IntKind.i64.wrap ((k : Int) + 1) = (k : Int) + 1 := IntWalk.i64_in _ (by omega)
       obtain ⟨ad, A3, c3, x, rfl, hxe, x0, x1, x2, x3, x4, x5, hc3, hC3⟩ := act_at HR0.out HS.out.hs.bel k hlt.2
       have hk40 := hlt.1
       have hkl := hlt.2
       have HD := Aside0.mk (slab_down HS.out.hs)
       rw [hd] at HD
       have HU := Aside0.mk hd
       clear hc3 hC3 hlt hxe hd
       go_upto_region 10 with (go_at_call 19; refine HD.out.mono ?_; rintro e w6 ⟨rfl, rfl⟩)
       have hA := below_alloc (Below.refl wr.heap.size wr) (.cells #[.int .i64 x.f0, .int .i64 x.f1, .string x.f2, .slice A3 x.f3.f0.length c3, .int .i64 x.f3.f1, .int .i64 x.f3.f2] 38)
       have HY := Aside0.mk (blk_new wr (.cells #[.int .i64 x.f0, .int .i64 x.f1, .string x.f2, .slice A3 x.f3.f0.length c3, .int .i64 x.f3.f1, .int .i64 x.f3.f2] 38))
       have HNe : Aside0 (wr.heap.size ≠ g ∧ wr.heap.size ≠ rb ∧ wr.heap.size ≠ mb ∧ wr.heap.size ≠ ga ∧ wr.heap.size ≠ gb) := ⟨by
         have := HS.out.hs.lts
         have := blk_lt HS.out.ba
         have := blk_lt HS.out.bb
         omega⟩
       replace HS := Aside0.mk (HS.out.below hA)
       clear hA x0 x1 x2 x3 x4 x5 q0 q1
       generalize wr.alloc (.cells #[.int .i64 x.f0, .int .i64 x.f1, .string x.f2, .slice A3 x.f3.f0.length c3, .int .i64 x.f3.f1, .int .i64 x.f3.f2] 38) = w6 at HS HY ⊢
       generalize wr.heap.size = gy at HY HNe ⊢
       have x0 : w6.cell? ⟨gy, 0, none⟩ = some (.int .i64 x.f0) := (blk_cell HY.out 0).trans rfl
       have x1 : w6.cell? ⟨gy, 1, none⟩ = some (.int .i64 x.f1) := (blk_cell HY.out 1).trans rfl
       have x2 : w6.cell? ⟨gy, 2, none⟩ = some (.string x.f2) := (blk_cell HY.out 2).trans rfl
       by_cases h0 : x.f0 = 0
       · have q2 : (x.f0 == 0) = true := beq_iff_eq.mpr h0
         have q3 : decide (x.f0 = 0) = true := decide_eq_true h0
         have q4 : (x.f0 == 2) = false := beq_eq_false_iff_ne.mpr (by omega)
         have q5 : decide (x.f0 = 2) = false := decide_eq_false (by omega)
         clear h0
         by_cases hw : (0 ≤ x.f1 ∧ x.f1 < 8) ∧ (x.f2.size : Int) ≤ 256
         · obtain ⟨⟨h1, h2⟩, h3⟩ := hw
           have q6 : decide (x.f1 ≥ 0) = true := decide_eq_true h1
           have q7 : decide (x.f1 < 8) = true := decide_eq_true h2
           have q8 : decide ((x.f2.size : Int) ≤ 256) = true := decide_eq_true h3
           have q9 : decide (0 ≤ x.f1) = true := decide_eq_true h1
           have HFw := Aside0.mk (HF.out.writes HU.out x.f1 x.f2 h1 h2 h3)
           have HC := Aside0.mk (slab_write' HS.out.hs (by omega) x.f1 x.f2 rfl)
           go_upto_region 11 with (fail)
           go_upto_region 12 with (go_at_call 12; refine HC.out.mono ?_; rintro e w7 ⟨rfl, hs, hb⟩; have HS7 := Aside0.mk (HS.out.turn hs hb (HFw.out.kb.trans HF.out.kb.symm)); replace HY := Aside0.mk ((hb.2 gy (blk_lt HY.out) HNe.out.1 HNe.out.2.1 HNe.out.2.2.1).trans HY.out); clear hs hb x0 x1 x2 HC)
           obtain ⟨i, hi⟩ : ∃ i : Nat, x.f1 = i := ⟨x.f1.toNat, by omega⟩
           have hti : x.f1.toNat = i := by omega
           rw [hti] at HFw
           have x0 : w7.cell? ⟨gy, 0, none⟩ = some (.int .i64 x.f0) := (blk_cell HY.out 0).trans rfl
           have x1 : w7.cell? ⟨gy, 1, none⟩ = some (.int .i64 x.f1) := (blk_cell HY.out 1).trans rfl
           have x2 : w7.cell? ⟨gy, 2, none⟩ = some (.string x.f2) := (blk_cell HY.out 2).trans rfl
           rw [hi] at x1 h2
           obtain ⟨p, hp⟩ : ∃ p, la[i]? = some p := ⟨_, List.getElem?_eq_getElem (by rw [HF.out.ll]; omega)⟩
           have z0 : w7.cell? ⟨gb, i, none⟩ = some (.string p) := (blk_cell HS7.out.bb i).trans (vals_get _ i _ hp)
           have z1 : w7.frozen? ⟨gb, i, none⟩ = false := blk_frozen HS7.out.bb i
           have hlt : i < 8 := by omega
           go_upto_region 13 with (fail)
           replace HY := Aside0.mk (blk_far (p := ⟨gb, i, none⟩) HY.out HNe.out.2.2.2.2 (.string x.f2))
           have HS8 := Aside0.mk (HS7.out.setL i x.f2)
           clear x0 x1 x2 z0 z1
           generalize w7.setCell ⟨gb, i, none⟩ (.string x.f2) = w8 at HS8 HY ⊢
           have x0 : w8.cell? ⟨gy, 0, none⟩ = some (.int .i64 x.f0) := (blk_cell HY.out 0).trans rfl
           go_wp2
           exact ⟨⟨k + 1, _, _, _, by omega, by go_num, HS8, HFw⟩, by simp [intOf]; omega⟩
         · have hcase : decide (0 ≤ x.f1) = false ∨ (decide (0 ≤ x.f1) = true ∧ decide (x.f1 < 8) = false) ∨ (decide (0 ≤ x.f1) = true ∧ decide (x.f1 < 8) = true ∧ decide ((x.f2.size : Int) ≤ 256) = false) := by
             by_cases a : 0 ≤ x.f1
             · by_cases b : x.f1 < 8
               · exact Or.inr (Or.inr ⟨decide_eq_true a, decide_eq_true b, decide_eq_false (fun c => hw ⟨⟨a, b⟩, c⟩)⟩)
               · exact Or.inr (Or.inl ⟨decide_eq_true a, decide_eq_false b⟩)
             · exact Or.inl (decide_eq_false a)
           clear hw
           rcases hcase with q6 | ⟨q6, q7⟩ | ⟨q6, q7, q8⟩
           all_goals
             have q9 : decide (x.f1 ≥ 0) = decide (0 ≤ x.f1) := rfl
             rw [q6] at q9
             go_wp2
             exact ⟨⟨k + 1, _, _, _, by omega, by go_num, ⟨HS.out.more (by omega)⟩, HF⟩, by simp [intOf]; omega⟩
       · have q2 : (x.f0 == 0) = false := beq_eq_false_iff_ne.mpr h0
         have q3 : decide (x.f0 = 0) = false := decide_eq_false h0
         clear h0
         by_cases h2 : x.f0 = 2
         · have q4 : (x.f0 == 2) = true := beq_iff_eq.mpr h2
           have q5 : decide (x.f0 = 2) = true := decide_eq_true h2
           clear h2
           rcases HF.out.flushes HU.out with ⟨hr, hf⟩ | ⟨hr, hf⟩
           · obtain ⟨s', hs'⟩ : ∃ s', s.flush = (s', 0) := ⟨_, Prod.ext rfl hr⟩
             rw [hs'] at hf
             have HFw := Aside0.mk hf
             have HC := Aside0.mk (slab_flush' HS.out.hs hs')
             clear hf hr hs'
             obtain ⟨a1, a2, a3, a4, a5, a6, a7, a8, rfl⟩ := eight la HF.out.ll
             obtain ⟨b1, b2, b3, b4, b5, b6, b7, b8, rfl⟩ := eight su HF.out.ls
             go_upto_region 14 with (go_at_call 16; refine HC.out.mono ?_; rintro e w7 ⟨rfl, hs, hb⟩; have HS7 := Aside0.mk (HS.out.turn hs hb (HFw.out.kb.trans HF.out.kb.symm)); clear hs hb x0 x1 x2 HC; obtain ⟨⟨z0, z1, z2, z3, z4, z5, z6, z7⟩, _⟩ := cells8 HS7.out.bb; obtain ⟨⟨y0, y1, y2, y3, y4, y5, y6, y7⟩, f0, f1, f2, f3, f4, f5, f6, f7⟩ := cells8 HS7.out.ba)
             go_wp2
             exact ⟨⟨k + 1, s', [a1, a2, a3, a4, a5, a6, a7, a8], [a1, a2, a3, a4, a5, a6, a7, a8], by omega, by go_num, ⟨((((((((HS7.out.setS 0 a1).setS 1 a2).setS 2 a3).setS 3 a4).setS 4 a5).setS 5 a6).setS 6 a7).setS 7 a8).more (by omega)⟩, HFw⟩, by simp [intOf]; omega⟩
           · obtain ⟨s', hs'⟩ : ∃ s', s.flush = (s', 9) := ⟨_, Prod.ext rfl hr⟩
             rw [hs'] at hf
             have HFw := Aside0.mk hf
             have HC := Aside0.mk (slab_flush' HS.out.hs hs')
             clear hf hr hs'
             go_wp2_with (go_at_call 16; refine HC.out.mono ?_; rintro e w7 ⟨rfl, hs, hb⟩; have HS7 := Aside0.mk (HS.out.turn hs hb (HFw.out.kb.trans HF.out.kb.symm)); clear hs hb x0 x1 x2 HC)
             exact ⟨⟨k + 1, _, _, _, by omega, by go_num, ⟨HS7.out.more (by omega)⟩, HFw⟩, by simp [intOf]; omega⟩
         · have q4 : (x.f0 == 2) = false := beq_eq_false_iff_ne.mpr h2
           have q5 : decide (x.f0 = 2) = false := decide_eq_false h2
           clear h2
           go_wp2
           exact ⟨⟨k + 1, _, _, _, by omega, by go_num, ⟨HS.out.more (by omega)⟩, HF⟩, by simp [intOf]; omega⟩
     · have hex : decide (k < l0.length) = false ∨ (decide (k < l0.length) = true ∧ decide ((k : Int) < 40) = false) ∨ (decide (k < l0.length) = true ∧ decide ((k : Int) < 40) = true ∧ s.down = true) := by
         by_cases a : k < l0.length
         · by_cases b : k < 40
           · refine Or.inr (Or.inr ⟨decide_eq_true a, decide_eq_true (by omega), ?_⟩)
             cases c : s.down with
             | true => rfl
             | false => exact absurd ⟨⟨b, a⟩, c⟩ hlt
           · exact Or.inr (Or.inl ⟨decide_eq_true a, decide_eq_false (by omega)⟩)
         · exact Or.inl (decide_eq_false a)
       clear hlt
       have HDn := Aside0.mk (slab_down HS.out.hs)
       rcases hex with q0 | ⟨q0, q1⟩ | ⟨q0, q1, q⟩
       rotate_left 2
       · rw [q] at HDn
         clear q
         go_wp2_with (go_at_call 19; refine HDn.out.mono ?_; rintro e w6 ⟨rfl, rfl⟩)
         go_meet
         exact ⟨k, _, _, _, hk, HS, HF⟩
       all_goals
         go_wp2
         go_meet
         exact ⟨k, _, _, _, hk, HS, HF⟩
  case rest =>
      clear HS3 HF
      obtain ⟨k, s, su, la, hk, HS, HF⟩ := hcut
      generalize wc = wr at HS ⊢
      have HDn := Aside0.mk (slab_down HS.out.hs)
      have HLs := Aside0.mk HF.out.ls
      have HLa := Aside0.mk HF.out.ll
      have HL8 := Aside0.mk HF.out.len
      cases hd : s.down
      · rw [hd] at HDn
        have HB := Aside0.mk ((HF.out.up hd).fell l2 tr at_)
        have HFl := Aside0.mk (slab_fail_up HS.out.hs A2 c2 l2 tr at_ (kept_arg HS.out.hs HR2.out) HC2.out (by have := HL2.out; omega) hd)
        have y0 : wr.cell? ⟨gx, 0, none⟩ = some (.slice A2 l2.length c2) := (blk_cell HS.out.bx 0).trans rfl
        have y1 : wr.cell? ⟨gx, 1, none⟩ = some (.int .i64 tr) := (blk_cell HS.out.bx 1).trans rfl
        have y2 : wr.cell? ⟨gx, 2, none⟩ = some (.int .i64 at_) := (blk_cell HS.out.bx 2).trans rfl
        replace HL8 : Aside0 ((settle (failF l2 tr at_) s.b).length = 8) := ⟨by rw [settle_len]; exact HL8.out⟩
        clear HF
        focus
          clear hd
          go_upto_region 17 with (first
            | (go_at_call 19; refine HDn.out.mono ?_; rintro e w6 ⟨rfl, rfl⟩)
            | (go_at_call 14; refine HFl.out.mono ?_; rintro e w7 ⟨rfl, hs, hb⟩; replace HS := Aside0.mk (HS.out.turn hs hb rfl); clear hs hb HFl HDn y0 y1 y2))
          generalize settle (failF l2 tr at_) s.b = B at HS HB HL8
          have HRd := Aside0.mk (fun W (h : IsSl w W g rb mb k (Sl.mk B 0 s.keep s.torn s.at_ false s.kb)) => by have h9 := slab_read8 h; rw [read8_want _ rfl HL8.out] at h9; exact h9)
          have HL9 := HL8
          clear HL8
          generalize s.keep = kp at HS HRd
          generalize s.torn = tn at HS HRd
          generalize s.at_ = ta at HS HRd
          generalize s.kb = kk at HS HRd
          generalize s.wait = wt at HS
          clear s
          go_upto_region 18 with (go_at_call 15; refine (slab_wake HS.out.hs).mono ?_; rintro e w8 ⟨rfl, hs, hb⟩; replace HS := Aside0.mk (HS.out.turn hs hb rfl); clear hs hb)
          have HEq := Aside0.mk HB.out.want
          have HSu := Aside0.mk HB.out.sure
          clear HB
          replace HRd := Aside0.mk (HRd.out _ HS.out.hs)
          obtain ⟨b1, b2, b3, b4, b5, b6, b7, b8, e9⟩ := eight (wantOf B) (by rw [wantOf, List.length_map]; exact HL9.out)
          replace HRd : Aside0 (Calls Try.prog 13 #[.pointer (some ⟨g, 0, none⟩)] w8 fun e W' => e = .returned (.agg #[.string b1, .string b2, .string b3, .string b4, .string b5, .string b6, .string b7, .string b8]) ∧ Below w8.heap.size w8 W') := ⟨by have := HRd.out; (try dsimp only at this); rw [e9] at this; exact this⟩
          rw [e9] at HEq
          clear e9
          go_upto_region 19 with (go_at_call 13; refine HRd.out.mono ?_; rintro e w17 ⟨rfl, hb⟩; replace HS := Aside0.mk (HS.out.below hb); clear hb; obtain ⟨⟨z0, z1, z2, z3, z4, z5, z6, z7⟩, f0, f1, f2, f3, f4, f5, f6, f7⟩ := new8 w17)
          clear z0 z1 z2 z3 z4 z5 z6 z7 f0 f1 f2 f3 f4 f5 f6 f7 HRd
          have HNow := Aside0.mk (blk_new w17 (.cells #[.string b1, .string b2, .string b3, .string b4, .string b5, .string b6, .string b7, .string b8] 26))
          replace HS := Aside0.mk (HS.out.below (below_alloc (Below.refl w17.heap.size w17) (.cells #[.string b1, .string b2, .string b3, .string b4, .string b5, .string b6, .string b7, .string b8] 26)))
          generalize w17.alloc (.cells #[.string b1, .string b2, .string b3, .string b4, .string b5, .string b6, .string b7, .string b8] 26) = W18 at HS HNow ⊢
          generalize w17.heap.size = gc at HNow ⊢
          go_wp2
          go_loopw [13, 14] (fun v13 v14 wr => ∃ (i odd : Nat), i ≤ 8 ∧ odd ≤ 1 ∧ (odd = 0 ∨ tr < (i : Int)) ∧ v13 = .int .i64 odd ∧ v14 = .int .i64 i ∧ Aside0 (FaW w wr g rb mb k gx ga gb (Sl.mk B 0 kp tn ta false kk) #[Value.slice A2 l2.length c2, Value.int IntKind.i64 tr, Value.int IntKind.i64 at_] su la) ∧ Aside0 (wr.heap[gc]? = some (.cells (vals [b1, b2, b3, b4, b5, b6, b7, b8]) 26 (0, 0)))) (fun v13 v14 _ => 8 - (intOf v14).toNat)
          case atStart => exact ⟨0, 0, by omega, by omega, Or.inl rfl, rfl, rfl, HS, HNow⟩
          case round =>
            clear HS HNow
            obtain ⟨i, odd, hi, ho, hot, rfl, rfl, HS, HNow⟩ := hrel
            by_cases hlt : i < 8
            · have hwk : IntKind.i64.wrap ((i : Int) + 1) = (i : Int) + 1 := IntWalk.i64_in _ (by omega)
              have hwo : IntKind.i64.wrap ((odd : Int) + 1) = (odd : Int) + 1 := IntWalk.i64_in _ (by omega)
              obtain ⟨p, hp⟩ : ∃ p, [b1, b2, b3, b4, b5, b6, b7, b8][i]? = some p := ⟨_, List.getElem?_eq_getElem (by simpa using hlt)⟩
              obtain ⟨q, hq⟩ : ∃ q, su[i]? = some q := ⟨_, List.getElem?_eq_getElem (by rw [HLs.out]; exact hlt)⟩
              obtain ⟨r, hr⟩ : ∃ r, la[i]? = some r := ⟨_, List.getElem?_eq_getElem (by rw [HLa.out]; exact hlt)⟩
              have z0 : wr.cell? ⟨gc, i, none⟩ = some (.string p) := (blk_cell HNow.out i).trans (vals_get _ i _ hp)
              have z1 : wr.cell? ⟨ga, i, none⟩ = some (.string q) := (blk_cell HS.out.ba i).trans (vals_get _ i _ hq)
              have z2 : wr.cell? ⟨gb, i, none⟩ = some (.string r) := (blk_cell HS.out.bb i).trans (vals_get _ i _ hr)
              have h3 := HEq.out i p hp
              rw [hq, hr] at h3
              clear hp hq hr
              by_cases hpq : p = q
              · subst hpq
                clear h3
                go_upto_region 23 with (fail)
                go_quiet (fail)
                go_wp2
                exact ⟨⟨i + 1, odd, by omega, ho, by omega, rfl, by go_num, ⟨HS.out.below (pw_below_drewN (Below.refl _ _) nq)⟩, ⟨blk_drewN HNow.out nq⟩⟩, by simp [intOf]; omega⟩
              · have y0 : (p.toList == q.toList) = false := ba_ne hpq
                have y1 : decide (p = q) = false := decide_eq_false hpq
                by_cases hpr : p = r
                · subst hpr
                  clear h3 hpq
                  go_upto_region 23 with (fail)
                  go_quiet (fail)
                  go_wp2
                  exact ⟨⟨i + 1, odd, by omega, ho, by omega, rfl, by go_num, ⟨HS.out.below (pw_below_drewN (Below.refl _ _) nq)⟩, ⟨blk_drewN HNow.out nq⟩⟩, by simp [intOf]; omega⟩
                · have y2 : (p.toList == r.toList) = false := ba_ne hpr
                  have y3 : decide (p = r) = false := decide_eq_false hpr
                  obtain ⟨ht, hts, hex⟩ : (i : Int) = tr ∧ p.size ≤ r.size ∧ r.extract 0 p.size = p := by
                    rcases h3 with h3 | h3 | ⟨h3, t, h4, h5⟩
                    · injection h3 with h3; exact absurd h3.symm hpq
                    · injection h3 with h3; exact absurd h3.symm hpr
                    · injection h4 with h4
                      subst h4
                      refine ⟨h3, by rw [h5]; exact tornS_size _ _, by rw [h5]; exact torn_pre _ _⟩
                  obtain rfl : odd = 0 := by omega
                  have y4 : decide ((p.size : Int) > (r.size : Int)) = false := decide_eq_false (by omega)
                  have y5 : decide ((r.size : Int) < (p.size : Int)) = false := decide_eq_false (by omega)
                  have y6 : ((r.extract 0 p.size).toList == p.toList) = true := by rw [hex]; exact beq_self_eq_true _
                  have y7 : decide ((r.extract 0 p.size) = p) = true := decide_eq_true hex
                  have HT := Aside0.mk ht
                  have HP := Aside0.mk hts
                  clear h3 hpq hpr ht hex hot
                  go_upto_region 23 with (fail)
                  go_quiet (fail)
                  go_upto_region 25 with (fail)
                  go_quiet (fail)
                  go_wp2
                  exact ⟨⟨i + 1, 1, by omega, by omega, by have := HT.out; omega, by go_num, by go_num, ⟨HS.out.below (pw_below_drewN (Below.refl _ _) _)⟩, ⟨blk_drewN HNow.out _⟩⟩, by simp [intOf]; omega⟩
            · obtain rfl : i = 8 := by omega
              clear hlt
              have e0 : decide ((odd : Int) ≤ 1) = true := decide_eq_true (by omega)
              have HLo := Aside0.mk (slab_loose HS.out.hs (by omega))
              replace HLo : Aside0 (Calls Try.prog 21 #[.pointer (some ⟨g, 0, none⟩)] wr fun e W' => ∃ v, e = .returned v ∧ Kd.R (Kd.int .i64) 3 W' wr.heap.size (fun _ => True) v [] ∧ Below wr.heap.size wr W') := ⟨by have := HLo.out; (try dsimp only at this); rw [sure_loose HSu.out] at this; exact this⟩
              go_wp2_with (go_at_call 21; refine HLo.out.mono ?_; rintro e w21 ⟨v, rfl, hR, hb⟩; obtain ⟨A9, c9, rfl⟩ := Kd.R_slice hR; replace HS := Aside0.mk (HS.out.below hb); clear hR hb)
              go_ret
              exact ⟨rfl, HS.out.hs.bel⟩
      · rw [hd] at HDn
        have HB := Aside0.mk (HF.out.dn hd)
        clear HF
        focus
          go_upto_region 17 with (go_at_call 19; refine HDn.out.mono ?_; rintro e w6 ⟨rfl, rfl⟩)
          clear HDn
          obtain ⟨B, wt, kp, tn, ta, dn, kk⟩ := s
          replace HS : Aside0 (FaW w wr g rb mb k gx ga gb (Sl.mk B wt kp tn ta true kk) #[Value.slice A2 l2.length c2, Value.int IntKind.i64 tr, Value.int IntKind.i64 at_] su la) := by
            have hd' : dn = true := hd
            rw [hd'] at HS; exact HS
          replace HB : Aside0 (FellB tr at_ B su la) := HB
          have HRd := Aside0.mk (fun W (h : IsSl w W g rb mb k (Sl.mk B 0 kp tn ta false kk)) => by have h9 := slab_read8 h; rw [read8_want (Sl.mk B 0 kp tn ta false kk) rfl HL8.out] at h9; exact h9)
          have HL9 : Aside0 (B.length = 8) := HL8
          clear HL8 hd
          go_upto_region 18 with (go_at_call 15; refine (slab_wake HS.out.hs).mono ?_; rintro e w8 ⟨rfl, hs, hb⟩; replace HS := Aside0.mk (HS.out.turn hs hb rfl); clear hs hb)
          have HEq := Aside0.mk HB.out.want
          have HSu := Aside0.mk HB.out.sure
          clear HB
          replace HRd := Aside0.mk (HRd.out _ HS.out.hs)
          obtain ⟨b1, b2, b3, b4, b5, b6, b7, b8, e9⟩ := eight (wantOf B) (by rw [wantOf, List.length_map]; exact HL9.out)
          replace HRd : Aside0 (Calls Try.prog 13 #[.pointer (some ⟨g, 0, none⟩)] w8 fun e W' => e = .returned (.agg #[.string b1, .string b2, .string b3, .string b4, .string b5, .string b6, .string b7, .string b8]) ∧ Below w8.heap.size w8 W') := ⟨by have := HRd.out; (try dsimp only at this); rw [e9] at this; exact this⟩
          rw [e9] at HEq
          clear e9
          go_upto_region 19 with (go_at_call 13; refine HRd.out.mono ?_; rintro e w17 ⟨rfl, hb⟩; replace HS := Aside0.mk (HS.out.below hb); clear hb; obtain ⟨⟨z0, z1, z2, z3, z4, z5, z6, z7⟩, f0, f1, f2, f3, f4, f5, f6, f7⟩ := new8 w17)
          clear z0 z1 z2 z3 z4 z5 z6 z7 f0 f1 f2 f3 f4 f5 f6 f7 HRd
          have HNow := Aside0.mk (blk_new w17 (.cells #[.string b1, .string b2, .string b3, .string b4, .string b5, .string b6, .string b7, .string b8] 26))
          replace HS := Aside0.mk (HS.out.below (below_alloc (Below.refl w17.heap.size w17) (.cells #[.string b1, .string b2, .string b3, .string b4, .string b5, .string b6, .string b7, .string b8] 26)))
          generalize w17.alloc (.cells #[.string b1, .string b2, .string b3, .string b4, .string b5, .string b6, .string b7, .string b8] 26) = W18 at HS HNow ⊢
          generalize w17.heap.size = gc at HNow ⊢
          go_wp2
          go_loopw [13, 14] (fun v13 v14 wr => ∃ (i odd : Nat), i ≤ 8 ∧ odd ≤ 1 ∧ (odd = 0 ∨ tr < (i : Int)) ∧ v13 = .int .i64 odd ∧ v14 = .int .i64 i ∧ Aside0 (FaW w wr g rb mb k gx ga gb (Sl.mk B 0 kp tn ta false kk) #[Value.slice A2 l2.length c2, Value.int IntKind.i64 tr, Value.int IntKind.i64 at_] su la) ∧ Aside0 (wr.heap[gc]? = some (.cells (vals [b1, b2, b3, b4, b5, b6, b7, b8]) 26 (0, 0)))) (fun v13 v14 _ => 8 - (intOf v14).toNat)
          case atStart => exact ⟨0, 0, by omega, by omega, Or.inl rfl, rfl, rfl, HS, HNow⟩
          case round =>
            clear HS HNow
            obtain ⟨i, odd, hi, ho, hot, rfl, rfl, HS, HNow⟩ := hrel
            by_cases hlt : i < 8
            · have hwk : IntKind.i64.wrap ((i : Int) + 1) = (i : Int) + 1 := IntWalk.i64_in _ (by omega)
              have hwo : IntKind.i64.wrap ((odd : Int) + 1) = (odd : Int) + 1 := IntWalk.i64_in _ (by omega)
              obtain ⟨p, hp⟩ : ∃ p, [b1, b2, b3, b4, b5, b6, b7, b8][i]? = some p := ⟨_, List.getElem?_eq_getElem (by simpa using hlt)⟩
              obtain ⟨q, hq⟩ : ∃ q, su[i]? = some q := ⟨_, List.getElem?_eq_getElem (by rw [HLs.out]; exact hlt)⟩
              obtain ⟨r, hr⟩ : ∃ r, la[i]? = some r := ⟨_, List.getElem?_eq_getElem (by rw [HLa.out]; exact hlt)⟩
              have z0 : wr.cell? ⟨gc, i, none⟩ = some (.string p) := (blk_cell HNow.out i).trans (vals_get _ i _ hp)
              have z1 : wr.cell? ⟨ga, i, none⟩ = some (.string q) := (blk_cell HS.out.ba i).trans (vals_get _ i _ hq)
              have z2 : wr.cell? ⟨gb, i, none⟩ = some (.string r) := (blk_cell HS.out.bb i).trans (vals_get _ i _ hr)
              have h3 := HEq.out i p hp
              rw [hq, hr] at h3
              clear hp hq hr
              by_cases hpq : p = q
              · subst hpq
                clear h3
                go_upto_region 23 with (fail)
                go_quiet (fail)
                go_wp2
                exact ⟨⟨i + 1, odd, by omega, ho, by omega, rfl, by go_num, ⟨HS.out.below (pw_below_drewN (Below.refl _ _) nq)⟩, ⟨blk_drewN HNow.out nq⟩⟩, by simp [intOf]; omega⟩
              · have y0 : (p.toList == q.toList) = false := ba_ne hpq
                have y1 : decide (p = q) = false := decide_eq_false hpq
                by_cases hpr : p = r
                · subst hpr
                  clear h3 hpq
                  go_upto_region 23 with (fail)
                  go_quiet (fail)
                  go_wp2
                  exact ⟨⟨i + 1, odd, by omega, ho, by omega, rfl, by go_num, ⟨HS.out.below (pw_below_drewN (Below.refl _ _) nq)⟩, ⟨blk_drewN HNow.out nq⟩⟩, by simp [intOf]; omega⟩
                · have y2 : (p.toList == r.toList) = false := ba_ne hpr
                  have y3 : decide (p = r) = false := decide_eq_false hpr
                  obtain ⟨ht, hts, hex⟩ : (i : Int) = tr ∧ p.size ≤ r.size ∧ r.extract 0 p.size = p := by
                    rcases h3 with h3 | h3 | ⟨h3, t, h4, h5⟩
                    · injection h3 with h3; exact absurd h3.symm hpq
                    · injection h3 with h3; exact absurd h3.symm hpr
                    · injection h4 with h4
                      subst h4
                      refine ⟨h3, by rw [h5]; exact tornS_size _ _, by rw [h5]; exact torn_pre _ _⟩
                  obtain rfl : odd = 0 := by omega
                  have y4 : decide ((p.size : Int) > (r.size : Int)) = false := decide_eq_false (by omega)
                  have y5 : decide ((r.size : Int) < (p.size : Int)) = false := decide_eq_false (by omega)
                  have y6 : ((r.extract 0 p.size).toList == p.toList) = true := by rw [hex]; exact beq_self_eq_true _
                  have y7 : decide ((r.extract 0 p.size) = p) = true := decide_eq_true hex
                  have HT := Aside0.mk ht
                  have HP := Aside0.mk hts
                  clear h3 hpq hpr ht hex hot
                  go_upto_region 23 with (fail)
                  go_quiet (fail)
                  go_upto_region 25 with (fail)
                  go_quiet (fail)
                  go_wp2
                  exact ⟨⟨i + 1, 1, by omega, by omega, by have := HT.out; omega, by go_num, by go_num, ⟨HS.out.below (pw_below_drewN (Below.refl _ _) _)⟩, ⟨blk_drewN HNow.out _⟩⟩, by simp [intOf]; omega⟩
            · obtain rfl : i = 8 := by omega
              clear hlt
              have e0 : decide ((odd : Int) ≤ 1) = true := decide_eq_true (by omega)
              have HLo := Aside0.mk (slab_loose HS.out.hs (by omega))
              replace HLo : Aside0 (Calls Try.prog 21 #[.pointer (some ⟨g, 0, none⟩)] wr fun e W' => ∃ v, e = .returned v ∧ Kd.R (Kd.int .i64) 3 W' wr.heap.size (fun _ => True) v [] ∧ Below wr.heap.size wr W') := ⟨by have := HLo.out; (try dsimp only at this); rw [sure_loose HSu.out] at this; exact this⟩
              go_wp2_with (go_at_call 21; refine HLo.out.mono ?_; rintro e w21 ⟨v, rfl, hR, hb⟩; obtain ⟨A9, c9, rfl⟩ := Kd.R_slice hR; replace HS := Aside0.mk (HS.out.below hb); clear hR hb)
              go_ret
              exact ⟨rfl, HS.out.hs.bel⟩
set_option maxRecDepth 100000 in
set_option maxHeartbeats 8000000 in
theorem falls_long (v0 v1 : Value) (A2 : Option Addr) (c2 : Nat) (l2 : List Int) (tr at_ : Int) (w : World) (hl2 : ¬ (l2.length : Int) ≤ 50) :
    Calls Try.prog 8 #[v0, v1, .agg #[.slice A2 l2.length c2, .int .i64 tr, .int .i64 at_]] w fun e w' => e = .returned (.bool true) ∧ Below w.heap.size w w' := by
  have HN := Aside0.mk (slab_new_yes (w := w) (below_alloc (Below.refl w.heap.size w) (.cells #[.slice A2 l2.length c2, .int .i64 tr, .int .i64 at_] 33)) 8 (by omega) (by omega))
  have HX := Aside0.mk (blk_new w (.cells #[.slice A2 l2.length c2, .int .i64 tr, .int .i64 at_] 33))
  have q0 : decide ((l2.length : Int) > 50) = true := decide_eq_true (by omega)
  have q1 : decide ((50 : Int) < (l2.length : Int)) = true := decide_eq_true (by omega)
  clear hl2
  go_enter Try.func8, Try.ntmps8
  go_upto_region 1 with (fail)
  generalize w.alloc (.cells #[.slice A2 l2.length c2, .int .i64 tr, .int .i64 at_] 33) = W1 at HN HX ⊢
  generalize w.heap.size = gx at HX ⊢
  go_upto_region 2 with (go_at_call 10; refine HN.out.mono ?_; rintro e w1 ⟨rfl, hs, hb⟩; have HS := Aside0.mk hs; replace HX := Aside0.mk (blk_below HX.out hb); clear hs hb)
  clear HN
  go_upto_region 3 with (go_at_call 11; refine (awake07 _).mono ?_; rintro e w2 ⟨rfl, hb⟩; replace HS := Aside0.mk (HS.out.below hb); replace HX := Aside0.mk (blk_below HX.out hb); have y0 : w2.cell? ⟨gx, 0, none⟩ = some (.slice A2 l2.length c2) := (blk_cell HX.out 0).trans rfl; clear hb)
  go_wp2_with (go_at_call 11; refine (awake07 _).mono ?_; rintro e w3 ⟨rfl, hb⟩; replace HS := Aside0.mk (HS.out.below hb); clear hb)
  go_ret
  exact ⟨rfl, HS.out.bel⟩
def splicelaw07_SlabFalls.f (l0 : List S38) (a1 : Int) (l2_0 : List Int) (a2_1 : Int) (a2_2 : Int) : Option Bool := some true
theorem splicelaw07_SlabFalls.calls (A0 : Option Addr) (c0 : Nat) (l0 : List S38) (a1 : Int) (A2_0 : Option Addr) (c2_0 : Nat) (l2_0 : List Int) (a2_1 : Int) (a2_2 : Int) (r : Bool) (w : World)
    (hr0 : Kd.C k38 w A0 l0.length l0) (hc0 : l0.length ≤ c0) (hr2_0 : Kd.C (Kd.int .i64) w A2_0 l2_0.length l2_0) (hc2_0 : l2_0.length ≤ c2_0) (h : splicelaw07_SlabFalls.f l0 a1 l2_0 a2_1 a2_2 = some r) (hr_ : r = true) :
    Calls Try.prog 8 #[.slice A0 l0.length c0, .int .i64 a1, .agg #[.slice A2_0 l2_0.length c2_0, .int .i64 a2_1, .int .i64 a2_2]] w fun e w' => e = .returned (.bool r) ∧ Below w.heap.size w w' := by
  subst hr_
  by_cases hl : (l2_0.length : Int) ≤ 50
  · exact falls_walk A0 c0 l0 a1 A2_0 c2_0 l2_0 a2_1 a2_2 w hr0 hr2_0 hc2_0 hl
  · exact falls_long _ _ A2_0 c2_0 l2_0 a2_1 a2_2 w hl

def wf33 (x : S33) : Prop := (x.f0.length * 8 ≤ 140737488351232 ∧ x.f0.length ≤ maxLen ∧ ∀ y0 ∈ x.f0, (Lit.int .i64 y0).wf = true) ∧ (Lit.int .i64 x.f1).wf = true ∧ (Lit.int .i64 x.f2).wf = true
theorem op33 : Go.Proofs.Ytdenfndpggfgmaa.Op.Op Try.prog k33 33 wf33 := op_mono (op_iso (op_struct Try.underlying33 (by kernel_rfl) (opfs_cons (op_slice Try.underlying27 (by kernel_rfl) (show Try.prog.bytesOf 3 = 8 by kernel_rfl) (op_int Try.underlying3 (by kernel_rfl)) (by decide)) rfl (opfs_cons (op_int Try.underlying3 (by kernel_rfl)) rfl (opfs_last (op_int Try.underlying3 (by kernel_rfl)) rfl)))) (fun x : S33 => (x.f0, x.f1, x.f2)) (fun y => ⟨y.1, y.2.1, y.2.2⟩) (fun _ => rfl)) (fun _ h => h)

def wf38 (x : S38) : Prop := (Lit.int .i64 x.f0).wf = true ∧ (Lit.int .i64 x.f1).wf = true ∧ x.f2.size ≤ 140737488351232 ∧ wf33 x.f3
theorem op38 : Go.Proofs.Ytdenfndpggfgmaa.Op.Op Try.prog k38 38 wf38 := op_mono (op_iso (op_struct Try.underlying38 (by kernel_rfl) (opfs_cons (op_int Try.underlying3 (by kernel_rfl)) rfl (opfs_cons (op_int Try.underlying3 (by kernel_rfl)) rfl (opfs_cons (op_string Try.underlying9 (by kernel_rfl)) rfl (opfs_last op33 rfl))))) (fun x : S38 => (x.f0, x.f1, x.f2, x.f3)) (fun y => ⟨y.1, y.2.1, y.2.2.1, y.2.2.2⟩) (fun _ => rfl)) (fun _ h => h)


/-! ### splicelaw07_SlabFalls: function 8 -/
/-- THE ONE PURE STATEMENT of splicelaw07_SlabFalls: yours. -/
def splicelaw07_SlabFalls.Pure : Prop := ∀ (x0 : List (S38)) (x1 : Int) (x2 : S33), (x0.length * 72 ≤ 140737488351232 ∧ x0.length ≤ maxLen ∧ ∀ y0 ∈ x0, wf38 y0) → (Lit.int .i64 x1).wf = true → wf33 x2 → splicelaw07_SlabFalls.f x0 x1 x2.f0 x2.f1 x2.f2 = some true

end Go.Proofs.Ytdenfndpggfgmaa.PF
