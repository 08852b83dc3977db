-- written by a program of this session
import Derived.Test.YtdenfndpggfgmaaPSx0
import Derived.Test.YtdenfndpggfgmaaPSx1
import Derived.Test.YtdenfndpggfgmaaPSx2
import Derived.Test.YtdenfndpggfgmaaPSx3
namespace Go.Proofs.Ytdenfndpggfgmaa.PS
open Go.RowKit Go.Proofs.Ytdenfndpggfgmaa.Op Go.Proofs.YtdenfndpggfgmaaW.PrintWords Go.Proofs.YtdenfndpggfgmaaW.PrintLast Go.Proofs.YtdenfndpggfgmaaW.PrintMore
attribute [local go_sem] max2_int min2_int max_two min_two max_three min_three max_four min_four   -- for this text's walks alone
set_option linter.unusedVariables false
set_option linter.unusedSimpArgs false

/-! ### splicelaw07_SlabSure: function 5 (by hand) -/
structure SureW (w wr : World) (g rb mb n gx : Nat) (s : Sl) (cs : Array Value) : Prop where
  hs : IsSl w wr g rb mb n s
  us : UpS s
  bx : wr.heap[gx]? = some (.cells cs 33 (0, 0))
  gx1 : w.heap.size ≤ gx
  ne : gx ≠ g ∧ gx ≠ rb ∧ gx ≠ mb
theorem SureW.below {w wr w2 : World} {g rb mb n gx : Nat} {s : Sl} {cs : Array Value} (h : SureW w wr g rb mb n gx s cs) (hb : Below wr.heap.size wr w2) : SureW w w2 g rb mb n gx s cs :=
  ⟨h.hs.below hb, h.us, blk_below h.bx hb, h.gx1, h.ne⟩
theorem SureW.turn {w wr w2 : World} {g rb mb n m gx : Nat} {s s2 : Sl} {cs : Array Value} (h : SureW w wr g rb mb n gx s cs) (h2 : IsSl w w2 g rb mb m s2) (hk : SlKept wr w2 g rb mb) (hu : UpS s2) : SureW w w2 g rb mb m gx s2 cs :=
  ⟨h2, hu, (hk.2 gx (blk_lt h.bx) h.ne.1 h.ne.2.1 h.ne.2.2).trans h.bx, h.gx1, h.ne⟩
def bvals (l : List Bool) : Array Value := (l.map Value.bool).toArray
theorem bvals_set (l : List Bool) (i : Nat) (t : Bool) : (bvals l).setIfInBounds i (.bool t) = bvals (l.set i t) := by
  unfold bvals; rw [List.setIfInBounds_toArray, List.map_set]
theorem bvals_get (l : List Bool) (i : Nat) (t : Bool) (h : l[i]? = some t) : (bvals l)[i]? = some (.bool t) := by
  unfold bvals; simp [h]
theorem SureW.far {w wr : World} {g rb mb n gx b : Nat} {s : Sl} {cs : Array Value} (h : SureW w wr g rb mb n gx s cs) (hb : w.heap.size ≤ b) (hn : b ≠ g ∧ b ≠ rb ∧ b ≠ mb) (hx : b ≠ gx) (j : Nat) (v : Value) : SureW w (wr.setCell ⟨b, j, none⟩ v) g rb mb n gx s cs :=
  ⟨h.hs.setFar (by rw [h.us.kb]; omega) hb hn j v, h.us, blk_far (p := ⟨b, j, none⟩) h.bx hx.symm v, h.gx1, h.ne⟩
structure Sure2 (w wr : World) (g rb mb n gx ga gb : Nat) (s : Sl) (cs : Array Value) (was : List ByteArray) (on : List Bool) : Prop where
  sw : SureW w wr g rb mb n gx s cs
  ba : wr.heap[ga]? = some (.cells (vals was) 26 (0, 0))
  bb : wr.heap[gb]? = some (.cells (bvals on) 45 (0, 0))
  an : ga ≠ g ∧ ga ≠ rb ∧ ga ≠ mb ∧ ga ≠ gx
  bn : gb ≠ g ∧ gb ≠ rb ∧ gb ≠ mb ∧ gb ≠ gx ∧ gb ≠ ga
  a1 : w.heap.size ≤ ga
  b1 : w.heap.size ≤ gb
  lon : on.length = 8
theorem Sure2.below {w wr w2 : World} {g rb mb n gx ga gb : Nat} {s : Sl} {cs : Array Value} {was : List ByteArray} {on : List Bool} (h : Sure2 w wr g rb mb n gx ga gb s cs was on) (hb : Below wr.heap.size wr w2) : Sure2 w w2 g rb mb n gx ga gb s cs was on :=
  ⟨h.sw.below hb, blk_below h.ba hb, blk_below h.bb hb, h.an, h.bn, h.a1, h.b1, h.lon⟩
theorem Sure2.turn {w wr w2 : World} {g rb mb n m gx ga gb : Nat} {s s2 : Sl} {cs : Array Value} {was : List ByteArray} {on : List Bool} (h : Sure2 w wr g rb mb n gx ga gb s cs was on) (h2 : IsSl w w2 g rb mb m s2) (hk : SlKept wr w2 g rb mb) (hu : UpS s2) : Sure2 w w2 g rb mb m gx ga gb s2 cs was on :=
  ⟨h.sw.turn h2 hk hu, (hk.2 ga (blk_lt h.ba) h.an.1 h.an.2.1 h.an.2.2.1).trans h.ba, (hk.2 gb (blk_lt h.bb) h.bn.1 h.bn.2.1 h.bn.2.2.1).trans h.bb, h.an, h.bn, h.a1, h.b1, h.lon⟩
theorem Sure2.on {w wr : World} {g rb mb n gx ga gb : Nat} {s : Sl} {cs : Array Value} {was : List ByteArray} {on : List Bool} (h : Sure2 w wr g rb mb n gx ga gb s cs was on) (j : Nat) : Sure2 w (wr.setCell ⟨gb, j, none⟩ (.bool true)) g rb mb n gx ga gb s cs was (on.set j true) :=
  ⟨h.sw.far h.b1 ⟨h.bn.1, h.bn.2.1, h.bn.2.2.1⟩ h.bn.2.2.2.1 j _, blk_far (p := ⟨gb, j, none⟩) h.ba h.bn.2.2.2.2.symm _, blk_put h.bb j _ (bvals_set on j true), h.an, h.bn, h.a1, h.b1, by rw [List.length_set]; exact h.lon⟩
theorem new8 (W : World) :
    ((W.alloc (.cells #[.string ⟨#[]⟩, .string ⟨#[]⟩, .string ⟨#[]⟩, .string ⟨#[]⟩, .string ⟨#[]⟩, .string ⟨#[]⟩, .string ⟨#[]⟩, .string ⟨#[]⟩] 26)).cell? ⟨W.heap.size, 0, none⟩ = some (.string ByteArray.empty) ∧ (W.alloc (.cells #[.string ⟨#[]⟩, .string ⟨#[]⟩, .string ⟨#[]⟩, .string ⟨#[]⟩, .string ⟨#[]⟩, .string ⟨#[]⟩, .string ⟨#[]⟩, .string ⟨#[]⟩] 26)).cell? ⟨W.heap.size, 1, none⟩ = some (.string ByteArray.empty) ∧ (W.alloc (.cells #[.string ⟨#[]⟩, .string ⟨#[]⟩, .string ⟨#[]⟩, .string ⟨#[]⟩, .string ⟨#[]⟩, .string ⟨#[]⟩, .string ⟨#[]⟩, .string ⟨#[]⟩] 26)).cell? ⟨W.heap.size, 2, none⟩ = some (.string ByteArray.empty) ∧ (W.alloc (.cells #[.string ⟨#[]⟩, .string ⟨#[]⟩, .string ⟨#[]⟩, .string ⟨#[]⟩, .string ⟨#[]⟩, .string ⟨#[]⟩, .string ⟨#[]⟩, .string ⟨#[]⟩] 26)).cell? ⟨W.heap.size, 3, none⟩ = some (.string ByteArray.empty) ∧ (W.alloc (.cells #[.string ⟨#[]⟩, .string ⟨#[]⟩, .string ⟨#[]⟩, .string ⟨#[]⟩, .string ⟨#[]⟩, .string ⟨#[]⟩, .string ⟨#[]⟩, .string ⟨#[]⟩] 26)).cell? ⟨W.heap.size, 4, none⟩ = some (.string ByteArray.empty) ∧ (W.alloc (.cells #[.string ⟨#[]⟩, .string ⟨#[]⟩, .string ⟨#[]⟩, .string ⟨#[]⟩, .string ⟨#[]⟩, .string ⟨#[]⟩, .string ⟨#[]⟩, .string ⟨#[]⟩] 26)).cell? ⟨W.heap.size, 5, none⟩ = some (.string ByteArray.empty) ∧ (W.alloc (.cells #[.string ⟨#[]⟩, .string ⟨#[]⟩, .string ⟨#[]⟩, .string ⟨#[]⟩, .string ⟨#[]⟩, .string ⟨#[]⟩, .string ⟨#[]⟩, .string ⟨#[]⟩] 26)).cell? ⟨W.heap.size, 6, none⟩ = some (.string ByteArray.empty) ∧ (W.alloc (.cells #[.string ⟨#[]⟩, .string ⟨#[]⟩, .string ⟨#[]⟩, .string ⟨#[]⟩, .string ⟨#[]⟩, .string ⟨#[]⟩, .string ⟨#[]⟩, .string ⟨#[]⟩] 26)).cell? ⟨W.heap.size, 7, none⟩ = some (.string ByteArray.empty)) ∧
    (W.alloc (.cells #[.string ⟨#[]⟩, .string ⟨#[]⟩, .string ⟨#[]⟩, .string ⟨#[]⟩, .string ⟨#[]⟩, .string ⟨#[]⟩, .string ⟨#[]⟩, .string ⟨#[]⟩] 26)).frozen? ⟨W.heap.size, 0, none⟩ = false ∧ (W.alloc (.cells #[.string ⟨#[]⟩, .string ⟨#[]⟩, .string ⟨#[]⟩, .string ⟨#[]⟩, .string ⟨#[]⟩, .string ⟨#[]⟩, .string ⟨#[]⟩, .string ⟨#[]⟩] 26)).frozen? ⟨W.heap.size, 1, none⟩ = false ∧ (W.alloc (.cells #[.string ⟨#[]⟩, .string ⟨#[]⟩, .string ⟨#[]⟩, .string ⟨#[]⟩, .string ⟨#[]⟩, .string ⟨#[]⟩, .string ⟨#[]⟩, .string ⟨#[]⟩] 26)).frozen? ⟨W.heap.size, 2, none⟩ = false ∧ (W.alloc (.cells #[.string ⟨#[]⟩, .string ⟨#[]⟩, .string ⟨#[]⟩, .string ⟨#[]⟩, .string ⟨#[]⟩, .string ⟨#[]⟩, .string ⟨#[]⟩, .string ⟨#[]⟩] 26)).frozen? ⟨W.heap.size, 3, none⟩ = false ∧ (W.alloc (.cells #[.string ⟨#[]⟩, .string ⟨#[]⟩, .string ⟨#[]⟩, .string ⟨#[]⟩, .string ⟨#[]⟩, .string ⟨#[]⟩, .string ⟨#[]⟩, .string ⟨#[]⟩] 26)).frozen? ⟨W.heap.size, 4, none⟩ = false ∧ (W.alloc (.cells #[.string ⟨#[]⟩, .string ⟨#[]⟩, .string ⟨#[]⟩, .string ⟨#[]⟩, .string ⟨#[]⟩, .string ⟨#[]⟩, .string ⟨#[]⟩, .string ⟨#[]⟩] 26)).frozen? ⟨W.heap.size, 5, none⟩ = false ∧ (W.alloc (.cells #[.string ⟨#[]⟩, .string ⟨#[]⟩, .string ⟨#[]⟩, .string ⟨#[]⟩, .string ⟨#[]⟩, .string ⟨#[]⟩, .string ⟨#[]⟩, .string ⟨#[]⟩] 26)).frozen? ⟨W.heap.size, 6, none⟩ = false ∧ (W.alloc (.cells #[.string ⟨#[]⟩, .string ⟨#[]⟩, .string ⟨#[]⟩, .string ⟨#[]⟩, .string ⟨#[]⟩, .string ⟨#[]⟩, .string ⟨#[]⟩, .string ⟨#[]⟩] 26)).frozen? ⟨W.heap.size, 7, none⟩ = false :=
  cells8 (a1 := ByteArray.empty) (a2 := ByteArray.empty) (a3 := ByteArray.empty) (a4 := ByteArray.empty) (a5 := ByteArray.empty) (a6 := ByteArray.empty) (a7 := ByteArray.empty) (a8 := ByteArray.empty) (blk_new W _)
theorem sure2_mk {w W : World} {g rb mb n gx : Nat} {s : Sl} {cs : Array Value} (h : SureW w W g rb mb n gx s cs) (a1 a2 a3 a4 a5 a6 a7 a8 : ByteArray) :
    Sure2 w ((W.alloc (.cells #[.string a1, .string a2, .string a3, .string a4, .string a5, .string a6, .string a7, .string a8] 26)).alloc (.cells #[.bool false, .bool false, .bool false, .bool false, .bool false, .bool false, .bool false, .bool false] 45)) g rb mb n gx W.heap.size (W.heap.size + 1) s cs [a1, a2, a3, a4, a5, a6, a7, a8] [false, false, false, false, false, false, false, false] := by
  have hl := h.hs.lts
  have hx := blk_lt h.bx
  have hz := h.hs.bel.size
  have h8 := h.below (below_alloc (Below.refl W.heap.size W) (.cells #[.string a1, .string a2, .string a3, .string a4, .string a5, .string a6, .string a7, .string a8] 26))
  have b8 : (W.alloc (.cells #[.string a1, .string a2, .string a3, .string a4, .string a5, .string a6, .string a7, .string a8] 26)).heap[W.heap.size]? = some (.cells (vals [a1, a2, a3, a4, a5, a6, a7, a8]) 26 (0, 0)) := blk_new W _
  have hs8 := alloc_size W (.cells #[.string a1, .string a2, .string a3, .string a4, .string a5, .string a6, .string a7, .string a8] 26)
  generalize W.alloc (.cells #[.string a1, .string a2, .string a3, .string a4, .string a5, .string a6, .string a7, .string a8] 26) = W8 at h8 b8 hs8 ⊢
  have bn := blk_new W8 (.cells #[.bool false, .bool false, .bool false, .bool false, .bool false, .bool false, .bool false, .bool false] 45)
  rw [hs8] at bn
  exact ⟨h8.below (below_alloc (Below.refl _ _) _), blk_alloc b8 _, bn, ⟨by omega, by omega, by omega, by omega⟩, ⟨by omega, by omega, by omega, by omega, by omega⟩, hz, by omega, rfl⟩
def sure16.T : Bool × List (List Nat × List Nat) := (true, [([], []), ([], []), ([0, 1], [0, 1]), ([2], [2]), ([3], [3]), ([4, 4], [4]), ([5], [5]), ([5], [5]), ([5], [5]), ([7, 8, 5], [5, 7, 8]), ([9, 5], [5, 9]), ([10, 5], [5, 10]), ([5], [5]), ([5], [5]), ([12, 13, 5], [5, 12, 13]), ([14, 5], [5, 14]), ([15, 5], [5, 15]), ([6, 11, 16, 5, 5], [5, 6, 11, 16]), ([17, 5], [5, 17]), ([5, 18], [5, 18])])
def sure16.B : List Nat := [0, 0, 3, 7, 15, 31, 63, 63, 63, 447, 959, 1983, 63, 63, 12351, 28735, 61503, 131071, 262143, 524287]
theorem sure16.tab : rtab .any (opsOf Try.f5 16) = sure16.T := by kernel_rfl
theorem sure16.bits : waitsOk sure16.T.2 sure16.B = true := by kernel_rfl
theorem act_at3 {w W : World} {ad : Addr} {n : Nat} {l : List S38} (hr : Kd.C k38 w (some ad) n l) (hb : Below w.heap.size w W) (k : Nat) (hk : k < n) {x : S38} (hx : x = rd_T38 l (k : Int)) :
    W.cell? (ad.add (k * 6)) = some (.int .i64 x.f0) ∧ W.cell? ⟨(ad.add (k * 6)).block, (ad.add (k * 6)).off + 1, none⟩ = some (.int .i64 x.f1) ∧ W.cell? ⟨(ad.add (k * 6)).block, (ad.add (k * 6)).off + 2, none⟩ = some (.string x.f2) ∧
    (∀ A3 c3, w.cell? ⟨(ad.add (k * 6)).block, (ad.add (k * 6)).off + 3, none⟩ = some (.slice A3 x.f3.f0.length c3) → W.cell? ⟨(ad.add (k * 6)).block, (ad.add (k * 6)).off + 3, none⟩ = some (.slice A3 x.f3.f0.length c3)) ∧ W.cell? ⟨(ad.add (k * 6)).block, (ad.add (k * 6)).off + 4, none⟩ = some (.int .i64 x.f3.f1) ∧ W.cell? ⟨(ad.add (k * 6)).block, (ad.add (k * 6)).off + 5, none⟩ = some (.int .i64 x.f3.f2) := by
  obtain ⟨ad', A3, c3, y, e, rfl, x0, x1, x2, x3, x4, x5, _⟩ := act_at hr hb k hk
  injection e with e
  subst e hx
  exact ⟨x0, x1, x2, fun A c h => cell_below hb h, x4, x5⟩
set_option maxRecDepth 100000 in
set_option maxHeartbeats 8000000 in
theorem sure_walk (A0 : Option Addr) (c0 : Nat) (l0 : List S38) (A1 : Option Addr) (c1 : Nat) (l1 : List S38) (A2 : Option Addr) (c2 : Nat) (l2 : List Int) (tr at_ : Int) (w : World)
    (hr0 : Kd.C k38 w A0 l0.length l0) (hr1 : Kd.C k38 w A1 l1.length l1) (hr2 : Kd.C (Kd.int .i64) w A2 l2.length l2) (hc2 : l2.length ≤ c2) (hl2 : (l2.length : Int) ≤ 50) :
    Calls Try.prog 5 #[.slice A0 l0.length c0, .slice A1 l1.length c1, .agg #[.slice A2 l2.length c2, .int .i64 tr, .int .i64 at_]] w fun e w' => e = .returned (.bool true) ∧ Below w.heap.size w w' := by
  have HN := Aside0.mk (slab_new_yes (w := w) (below_alloc (Below.refl w.heap.size w) (.cells #[.slice A2 l2.length c2, .int .i64 tr, .int .i64 at_] 33)) 8 (by omega) (by omega))
  have HX := Aside0.mk (blk_new w (.cells #[.slice A2 l2.length c2, .int .i64 tr, .int .i64 at_] 33))
  have HZ := Aside0.mk (alloc_size w (.cells #[.slice A2 l2.length c2, .int .i64 tr, .int .i64 at_] 33))
  have HR0 := Aside0.mk hr0
  have HR1 := Aside0.mk hr1
  have HR2 := Aside0.mk hr2
  have HC2 := Aside0.mk hc2
  have q0 : decide ((l2.length : Int) > 50) = false := decide_eq_false (by omega)
  have q1 : decide ((50 : Int) < (l2.length : Int)) = false := decide_eq_false (by omega)
  have HL2 := Aside0.mk hl2
  clear hr0 hr1 hr2 hc2 hl2
  go_enter Try.func5, Try.ntmps5
  go_upto_region 1 with (fail)
  generalize w.alloc (.cells #[.slice A2 l2.length c2, .int .i64 tr, .int .i64 at_] 33) = W1 at HN HX HZ ⊢
  go_upto_region 2 with (go_at_call 10; refine HN.out.mono ?_; rintro e w1 ⟨rfl, hs, hb⟩; have HS := Aside0.mk (SureW.mk (cs := #[.slice A2 l2.length c2, .int .i64 tr, .int .i64 at_]) hs UpS.new (blk_below HX.out hb) (Nat.le_refl _) ⟨by have := HZ.out; omega, by have := HZ.out; omega, by have := HZ.out; omega⟩); clear hs hb)
  clear HN HX HZ
  generalize W1.heap.size + 1 + 1 = g at HS ⊢
  generalize W1.heap.size + 1 = mb at HS
  generalize W1.heap.size = rb at HS
  obtain ⟨gx, hgx⟩ : ∃ gx, gx = w.heap.size := ⟨_, rfl⟩
  rw [← hgx] at HS ⊢
  clear hgx
  go_upto_region 4 with (go_at_call 11; refine (awake07 _).mono ?_; rintro e w2 ⟨rfl, hb⟩; replace HS := Aside0.mk (HS.out.below hb); have y0 : w2.cell? ⟨gx, 0, none⟩ = some (.slice A2 l2.length c2) := (blk_cell HS.out.bx 0).trans rfl; clear hb)
  clear y0 q0 q1
  go_wp2
  go_loopw [8] (fun v8 wr => ∃ (k : Nat) (s : Sl), k ≤ 30 ∧ v8 = .int .i64 k ∧ Aside0 (SureW w wr g rb mb k gx s #[.slice A2 l2.length c2, .int .i64 tr, .int .i64 at_])) (fun v8 _ => 30 - (intOf v8).toNat)
  case atStart => exact ⟨0, _, by omega, rfl, HS⟩
  case round =>
    clear HS
    obtain ⟨k, s, hk, rfl, HS⟩ := hrel
    by_cases hlt : k < 30 ∧ k < l0.length
    · have q0 : decide (k < l0.length) = true := decide_eq_true hlt.2
      have q1 : decide ((k : Int) < 30) = true := decide_eq_true (by omega)
      have hwk : IntKind.i64.wrap ((k : Int) + 1) = (k : Int) + 1 := IntWalk.i64_in _ (by omega)
      obtain ⟨ad, A3, c3, x, rfl, hxe, x0, x1, x2, x3, x4, x5, hc3, hC3⟩ := act_at HR0.out HS.out.hs.bel k hlt.2
      have HXe := Aside0.mk hxe
      have HLi := Aside0.mk (light_calls x wr (Kd.C_below hC3 HS.out.hs.bel) hc3)
      have hk30 := hlt.1
      have hkl := hlt.2
      clear hc3 hC3 hlt hxe
      by_cases h5 : x.f0 = 0
      · have q2 : (x.f0 == 0) = true := beq_iff_eq.mpr h5
        have q3 : decide (x.f0 = 0) = true := decide_eq_true h5
        clear h5
        cases hlg : (decide ((x.f2.size : Int) ≤ 2000) && decide ((x.f3.f0.length : Int) ≤ 50))
        · rw [hlg] at HLi
          clear hlg
          go_wp2_with (go_at_call 17; refine HLi.out.mono ?_; rintro e w6 ⟨rfl, hb⟩; replace HS := Aside0.mk (HS.out.below hb); clear hb)
          exact ⟨⟨k + 1, s, by omega, by go_num, ⟨{ HS.out with hs := HS.out.hs.more (by omega) }⟩⟩, by simp [intOf]; omega⟩
        · rw [hlg] at HLi
          clear hlg
          go_upto_region 8 with (go_at_call 17; refine HLi.out.mono ?_; rintro e w6 ⟨rfl, hb⟩; replace HS := Aside0.mk (HS.out.below hb); clear hb x0 x1 x2 x3 x4 x5)
          obtain ⟨x0, x1, x2⟩ := act_at2 HR0.out HS.out.hs.bel k hkl HXe.out
          refine wp_region_still_tail 11 (by kernel_rfl) (by kernel_rfl) ?_
          simp only [List.take_succ_cons, List.take_zero, List.drop_succ_cons, List.drop_zero]
          repeat still_step
          refine wpStill_nil ?_
          change wpList _ _ _ _ _ w6.drew
          replace HS := Aside0.mk (HS.out.below (below_drew1 (Below.refl _ _)))
          have HC := Aside0.mk (slab_write' HS.out.hs (by omega) x.f1 x.f2 (write_any s HS.out.us x.f1 x.f2))
          go_wp2_with (go_at_call 12; refine HC.out.mono ?_; rintro e w7 ⟨rfl, hs, hb⟩; have HS7 := Aside0.mk (HS.out.turn hs hb (HS.out.us.put_ _ _)); clear hs hb)
          exact ⟨⟨k + 1, _, by omega, by go_num, HS7⟩, by simp [intOf]; omega⟩
      · have q2 : (x.f0 == 0) = false := beq_eq_false_iff_ne.mpr h5
        have q3 : decide (x.f0 = 0) = false := decide_eq_false h5
        clear h5
        go_wp2
        exact ⟨⟨k + 1, s, by omega, by go_num, ⟨{ HS.out with hs := HS.out.hs.more (by omega) }⟩⟩, by simp [intOf]; omega⟩
    · by_cases h1 : k < l0.length
      all_goals first
        | (have q2 : decide ((k : Int) < 30) = false := decide_eq_false (by omega); have q1 : decide (k < l0.length) = true := decide_eq_true h1; clear h1 hlt; go_upto_region 9 with (fail))
        | (have q1 : decide (k < l0.length) = false := decide_eq_false h1; clear h1 hlt; go_upto_region 9 with (fail))
      all_goals
        have HF := Aside0.mk (slab_flush' HS.out.hs (flush_up s HS.out.us.up HS.out.us.wait))
        obtain ⟨s9, hs9⟩ : ∃ s9 : Sl, s9 = { s with b := settle newF s.b } := ⟨_, rfl⟩
        rw [← hs9] at HF
        have hu9 : UpS s9 := by rw [hs9]; exact ⟨by rw [settle_len]; exact HS.out.us.len, HS.out.us.up, HS.out.us.wait, HS.out.us.kb⟩
        have hsu : Sure s9.b := by rw [hs9]; exact settle_sure _ _
        have HU9 := Aside0.mk hu9
        have HSu := Aside0.mk hsu
        have HLs := Aside0.mk (sure_loose hsu)
        clear hs9 hu9 hsu
        go_upto_region 11 with (first | (go_at_call 16; refine HF.out.mono ?_; rintro e w8 ⟨rfl, hs, hb⟩; have HS8 := Aside0.mk (HS.out.turn hs hb HU9.out); clear hs hb) | (go_at_call 21; refine (slab_loose HS8.out.hs (by omega)).mono ?_; rintro e w9 ⟨v, rfl, hR, hb⟩; rw [HLs.out] at hR; obtain ⟨A9, c9, rfl⟩ := Kd.R_slice hR; have HS9 := Aside0.mk (HS8.out.below hb); clear hR hb))
        have HRd := Aside0.mk (slab_read8 HS9.out.hs)
        rw [read8_want s9 HU9.out.up HU9.out.len] at HRd
        obtain ⟨a1, a2, a3, a4, a5, a6, a7, a8, e8⟩ := eight (wantOf s9.b) (by simp [wantOf]; exact HU9.out.len)
        rw [e8] at HRd
        replace HRd : Aside0 (Calls Try.prog 13 #[.pointer (some ⟨g, 0, none⟩)] w9 fun e W' => e = .returned (.agg #[.string a1, .string a2, .string a3, .string a4, .string a5, .string a6, .string a7, .string a8]) ∧ Below w9.heap.size w9 W') := HRd
        have E8 := Aside0.mk e8
        clear e8 HLs HS8
        go_upto_region 13 with (go_at_call 13; refine HRd.out.mono ?_; rintro e w10 ⟨rfl, hb⟩; have HS10 := Aside0.mk (HS9.out.below hb); obtain ⟨⟨z0, z1, z2, z3, z4, z5, z6, z7⟩, f0, f1, f2, f3, f4, f5, f6, f7⟩ := new8 w10; clear hb)
        have HQ := Aside0.mk (sure2_mk HS10.out a1 a2 a3 a4 a5 a6 a7 a8)
        clear z0 z1 z2 z3 z4 z5 z6 z7 f0 f1 f2 f3 f4 f5 f6 f7 HS10 HS9 HS
        generalize (w10.alloc (.cells #[.string a1, .string a2, .string a3, .string a4, .string a5, .string a6, .string a7, .string a8] 26)).alloc (.cells #[.bool false, .bool false, .bool false, .bool false, .bool false, .bool false, .bool false, .bool false] 45) = W12 at HQ ⊢
        generalize w10.heap.size = ga at HQ ⊢
        generalize ga + 1 = gb at HQ ⊢
        have HSt0 : Aside0 (Stood [false, false, false, false, false, false, false, false] s9.b s9.b) := ⟨fun _ _ => rfl⟩
        go_wp2
        go_loopw [11] (fun v11 wr => ∃ (j : Nat) (s : Sl) (on : List Bool), j ≤ 30 ∧ v11 = .int .i64 j ∧ Aside0 (Sure2 w wr g rb mb (k + j) gx ga gb s #[.slice A2 l2.length c2, .int .i64 tr, .int .i64 at_] [a1, a2, a3, a4, a5, a6, a7, a8] on) ∧ Aside0 (Stood on s9.b s.b)) (fun v11 _ => 30 - (intOf v11).toNat)
        case atStart => exact ⟨0, s9, [false, false, false, false, false, false, false, false], by omega, rfl, ⟨HQ.out⟩, HSt0⟩
        case round =>
          clear HQ HSt0
          obtain ⟨j, s, on, hj, rfl, HQ, HSt⟩ := hrel
          by_cases hlt : j < 30 ∧ j < l1.length
          · have q0 : decide (j < l1.length) = true := decide_eq_true hlt.2
            have q1 : decide ((j : Int) < 30) = true := decide_eq_true (by omega)
            have hwk : IntKind.i64.wrap ((j : Int) + 1) = (j : Int) + 1 := IntWalk.i64_in _ (by omega)
            obtain ⟨ad, A3, c3, x, rfl, hxe, y0, y1, y2, y3, y4, y5, hc3, hC3⟩ := act_at HR1.out (Below.refl w.heap.size w) j hlt.2
            have HX3 := Aside0.mk y3
            have HXe := Aside0.mk hxe
            replace HQ := Aside0.mk (HQ.out.below (below_drew1 (Below.refl wr.heap.size wr)))
            have x0 := cell_below HQ.out.sw.hs.bel y0
            have x1 := cell_below HQ.out.sw.hs.bel y1
            have x2 := cell_below HQ.out.sw.hs.bel y2
            have x3 := cell_below HQ.out.sw.hs.bel y3
            have x4 := cell_below HQ.out.sw.hs.bel y4
            have x5 := cell_below HQ.out.sw.hs.bel y5
            have HLi := Aside0.mk (light_calls x wr.drew (Kd.C_below hC3 HQ.out.sw.hs.bel) hc3)
            have hk30 := hlt.1
            have hkl := hlt.2
            clear hc3 hC3 hlt hxe y0 y1 y2 y3 y4 y5
            go_upto_region 16 with (fail)
            cases hlg : (decide ((x.f2.size : Int) ≤ 2000) && decide ((x.f3.f0.length : Int) ≤ 50))
            rw [hlg] at HLi
            clear hlg
            refine start_ (n := 20) (S := fun w' => w'.cell? (ad.add (j * 6)) = some (.int .i64 x.f0) ∧ w'.cell? ⟨(ad.add (j * 6)).block, (ad.add (j * 6)).off + 1, none⟩ = some (.int .i64 x.f1) ∧ w'.cell? ⟨(ad.add (j * 6)).block, (ad.add (j * 6)).off + 2, none⟩ = some (.string x.f2) ∧ w'.cell? ⟨(ad.add (j * 6)).block, (ad.add (j * 6)).off + 3, none⟩ = some (.slice A3 x.f3.f0.length c3) ∧ w'.cell? ⟨(ad.add (j * 6)).block, (ad.add (j * 6)).off + 4, none⟩ = some (.int .i64 x.f3.f1) ∧ w'.cell? ⟨(ad.add (j * 6)).block, (ad.add (j * 6)).off + 5, none⟩ = some (.int .i64 x.f3.f2)) (ds := []) (bAg 20 0) (by kernel_rfl) rfl rfl ⟨x0, x1, x2, x3, x4, x5⟩ (fun hHeld => ?_); refine with_tabW sure16.tab sure16.bits (fun HT_ HW_ => ?_)
            refine pure_ (i := 0) (N := some 84) (v := ?_) (a' := ?_) (bAg 20 1) rfl rfl (any_of HT_.out (by kernel_rfl)) (fun _ _ _ h => h) (Or.inl ⟨by rfl, ?_⟩) ?_ ?_
            rotate_left
            · intro w'
              go_simp
              with_reducible rfl
            rotate_left
            · simp only [Act.put, sg1, sg2, sg3, i64_w, i32_w]
              rfl
            refine pure_ (i := 1) (N := some 85) (v := ?_) (a' := ?_) (bAg 20 3) rfl rfl (any_of HT_.out (by kernel_rfl)) (fun _ _ _ h => h) (Or.inl ⟨by rfl, ?_⟩) ?_ ?_
            rotate_left
            · intro w'
              go_simp
              with_reducible rfl
            rotate_left
            · simp only [Act.put, sg1, sg2, sg3, i64_w, i32_w]
              rfl
            refine pure_ (i := 2) (N := some 86) (v := ?_) (a' := ?_) (bAg 20 7) rfl rfl (any_of HT_.out (by kernel_rfl)) (fun _ _ _ h => h) (Or.inl ⟨by rfl, ?_⟩) ?_ ?_
            rotate_left
            · intro w'
              go_simp
              with_reducible rfl
            rotate_left
            · simp only [Act.put, sg1, sg2, sg3, i64_w, i32_w]
              rfl
            refine take_ (i := 3) (N := some 87) (v := ?_) (a' := ?_) (bAg 20 15) rfl rfl (take_ofW HT_.out HW_.out (by kernel_rfl)) (fun _ _ _ h => h) (Or.inl ⟨by rfl, ?_⟩) hHeld ?_ ?_
            rotate_left
            · rintro w' ⟨s0, s1, s2, s3, s4, s5⟩
              go_simp
              with_reducible rfl
            rotate_left
            · simp only [Act.put, sg1, sg2, sg3, i64_w, i32_w]
              rfl
            refine one_ (i := 4) (N := some 88) (bAg 20 31) rfl rfl (one_of HT_.out (by kernel_rfl)) (by decide) (fun K hK => ?_)
            refine goes_ Try.func17 (by kernel_rfl) rfl #[.agg #[.int .i64 x.f0, .int .i64 x.f1, .string x.f2, .slice A3 x.f3.f0.length c3, .int .i64 x.f3.f1, .int .i64 x.f3.f2]] (by rfl) rfl rfl (by (try simp only [List.map_toArray, List.map_cons, List.map_nil]); first | done | rfl) ?_
            with_reducible refine (HLi.out).mono ?_
            rintro e w6 ⟨rfl, hb⟩
            refine ⟨_, rfl, ?_⟩
            replace HQ := Aside0.mk (HQ.out.below hb)
            refine hK.out _ _ ⟨cell_below hb hHeld.1, cell_below hb hHeld.2.1, cell_below hb hHeld.2.2.1, cell_below hb hHeld.2.2.2.1, cell_below hb hHeld.2.2.2.2.1, cell_below hb hHeld.2.2.2.2.2⟩ (fun hHeld => ?_)
            clear hK K hb
            refine norm_ (a' := ?_) ?_ ?_
            rotate_left
            · show Act.put _ (some 88) _ = _
              simp only [Act.put, sg1, sg2, sg3, i64_w, i32_w]
              rfl
            refine pure_ (i := 5) (N := some 89) (v := ?_) (a' := ?_) (bAg 20 63) rfl rfl (any_of HT_.out (by kernel_rfl)) (fun _ _ _ h => h) (Or.inl ⟨by rfl, ?_⟩) ?_ ?_
            rotate_left
            · intro w'
              go_simp
              with_reducible rfl
            rotate_left
            · simp only [Act.put, sg1, sg2, sg3, i64_w, i32_w]
              rfl
            refine pure_ (i := 6) (N := some 90) (v := undef) (a' := ?_) (bAg 20 127) rfl rfl (any_of HT_.out (by kernel_rfl)) (fun _ _ _ h => h) (Or.inr ⟨by rfl, rfl⟩) ?_ ?_
            rotate_left
            · simp only [Act.put, sg1, sg2, sg3, i64_w, i32_w]
              rfl
            refine pure_ (i := 7) (N := some 91) (v := undef) (a' := ?_) (bAg 20 255) rfl rfl (any_of HT_.out (by kernel_rfl)) (fun _ _ _ h => h) (Or.inr ⟨by rfl, rfl⟩) ?_ ?_
            rotate_left
            · simp only [Act.put, sg1, sg2, sg3, i64_w, i32_w]
              rfl
            refine pure_ (i := 8) (N := some 92) (v := undef) (a' := ?_) (bAg 20 511) rfl rfl (any_of HT_.out (by kernel_rfl)) (fun _ _ _ h => h) (Or.inr ⟨by rfl, rfl⟩) ?_ ?_
            rotate_left
            · simp only [Act.put, sg1, sg2, sg3, i64_w, i32_w]
              rfl
            refine pure_ (i := 9) (N := some 93) (v := undef) (a' := ?_) (bAg 20 1023) rfl rfl (any_of HT_.out (by kernel_rfl)) (fun _ _ _ h => h) (Or.inr ⟨by rfl, rfl⟩) ?_ ?_
            rotate_left
            · simp only [Act.put, sg1, sg2, sg3, i64_w, i32_w]
              rfl
            refine pure_ (i := 10) (N := some 94) (v := undef) (a' := ?_) (bAg 20 2047) rfl rfl (any_of HT_.out (by kernel_rfl)) (fun _ _ _ h => h) (Or.inr ⟨by rfl, rfl⟩) ?_ ?_
            rotate_left
            · simp only [Act.put, sg1, sg2, sg3, i64_w, i32_w]
              rfl
            refine pure_ (i := 11) (N := some 95) (v := undef) (a' := ?_) (bAg 20 4095) rfl rfl (any_of HT_.out (by kernel_rfl)) (fun _ _ _ h => h) (Or.inr ⟨by rfl, rfl⟩) ?_ ?_
            rotate_left
            · simp only [Act.put, sg1, sg2, sg3, i64_w, i32_w]
              rfl
            refine pure_ (i := 12) (N := some 96) (v := undef) (a' := ?_) (bAg 20 8191) rfl rfl (any_of HT_.out (by kernel_rfl)) (fun _ _ _ h => h) (Or.inr ⟨by rfl, rfl⟩) ?_ ?_
            rotate_left
            · simp only [Act.put, sg1, sg2, sg3, i64_w, i32_w]
              rfl
            refine pure_ (i := 13) (N := some 97) (v := undef) (a' := ?_) (bAg 20 16383) rfl rfl (any_of HT_.out (by kernel_rfl)) (fun _ _ _ h => h) (Or.inr ⟨by rfl, rfl⟩) ?_ ?_
            rotate_left
            · simp only [Act.put, sg1, sg2, sg3, i64_w, i32_w]
              rfl
            refine pure_ (i := 14) (N := some 98) (v := undef) (a' := ?_) (bAg 20 32767) rfl rfl (any_of HT_.out (by kernel_rfl)) (fun _ _ _ h => h) (Or.inr ⟨by rfl, rfl⟩) ?_ ?_
            rotate_left
            · simp only [Act.put, sg1, sg2, sg3, i64_w, i32_w]
              rfl
            refine pure_ (i := 15) (N := some 99) (v := undef) (a' := ?_) (bAg 20 65535) rfl rfl (any_of HT_.out (by kernel_rfl)) (fun _ _ _ h => h) (Or.inr ⟨by rfl, rfl⟩) ?_ ?_
            rotate_left
            · simp only [Act.put, sg1, sg2, sg3, i64_w, i32_w]
              rfl
            refine pure_ (i := 16) (N := some 100) (v := undef) (a' := ?_) (bAg 20 131071) rfl rfl (any_of HT_.out (by kernel_rfl)) (fun _ _ _ h => h) (Or.inr ⟨by rfl, rfl⟩) ?_ ?_
            rotate_left
            · simp only [Act.put, sg1, sg2, sg3, i64_w, i32_w]
              rfl
            refine pure_ (i := 17) (N := some 101) (v := undef) (a' := ?_) (bAg 20 262143) rfl rfl (any_of HT_.out (by kernel_rfl)) (fun _ _ _ h => h) (Or.inr ⟨by rfl, rfl⟩) ?_ ?_
            rotate_left
            · simp only [Act.put, sg1, sg2, sg3, i64_w, i32_w]
              rfl
            refine pure_ (i := 18) (N := some 102) (v := undef) (a' := ?_) (bAg 20 524287) rfl rfl (any_of HT_.out (by kernel_rfl)) (fun _ _ _ h => h) (Or.inr ⟨by rfl, rfl⟩) ?_ ?_
            rotate_left
            · simp only [Act.put, sg1, sg2, sg3, i64_w, i32_w]
              rfl
            refine pure_ (i := 19) (N := some 103) (v := ?_) (a' := ?_) (bAg 20 1048575) rfl rfl (any_of HT_.out (by kernel_rfl)) (fun _ _ _ h => h) (Or.inl ⟨by rfl, ?_⟩) ?_ ?_
            rotate_left
            · intro w'
              go_simp
              with_reducible rfl
            rotate_left
            · simp only [Act.put, sg1, sg2, sg3, i64_w, i32_w]
              rfl
            refine done_ (done_of HT_.out (by kernel_rfl)) ?_
            clear HT_ HW_
            go_wp2_with fail
            exact ⟨⟨j + 1, s, on, by omega, by go_num, ⟨{ HQ.out with sw := { HQ.out.sw with hs := HQ.out.sw.hs.more (by omega) } }⟩, HSt⟩, by simp [intOf]; omega⟩
            rw [hlg] at HLi
            clear hlg
            have hwa := write_any s HQ.out.sw.us x.f1 x.f2
            cases hcw : canW x.f1 x.f2
            · rw [hcw] at hwa
              rw [if_neg (by decide)] at hwa
              have HCw := Aside0.mk hcw
              have HWa := Aside0.mk hwa
              clear hwa hcw
              refine start_ (n := 20) (S := fun w' => w'.cell? (ad.add (j * 6)) = some (.int .i64 x.f0) ∧ w'.cell? ⟨(ad.add (j * 6)).block, (ad.add (j * 6)).off + 1, none⟩ = some (.int .i64 x.f1) ∧ w'.cell? ⟨(ad.add (j * 6)).block, (ad.add (j * 6)).off + 2, none⟩ = some (.string x.f2) ∧ w'.cell? ⟨(ad.add (j * 6)).block, (ad.add (j * 6)).off + 3, none⟩ = some (.slice A3 x.f3.f0.length c3) ∧ w'.cell? ⟨(ad.add (j * 6)).block, (ad.add (j * 6)).off + 4, none⟩ = some (.int .i64 x.f3.f1) ∧ w'.cell? ⟨(ad.add (j * 6)).block, (ad.add (j * 6)).off + 5, none⟩ = some (.int .i64 x.f3.f2)) (ds := []) (bAg 20 0) (by kernel_rfl) rfl rfl ⟨x0, x1, x2, x3, x4, x5⟩ (fun hHeld => ?_); refine with_tabW sure16.tab sure16.bits (fun HT_ HW_ => ?_)
              refine pure_ (i := 0) (N := some 84) (v := ?_) (a' := ?_) (bAg 20 1) rfl rfl (any_of HT_.out (by kernel_rfl)) (fun _ _ _ h => h) (Or.inl ⟨by rfl, ?_⟩) ?_ ?_
              rotate_left
              · intro w'
                go_simp
                with_reducible rfl
              rotate_left
              · simp only [Act.put, sg1, sg2, sg3, i64_w, i32_w]
                rfl
              refine pure_ (i := 1) (N := some 85) (v := ?_) (a' := ?_) (bAg 20 3) rfl rfl (any_of HT_.out (by kernel_rfl)) (fun _ _ _ h => h) (Or.inl ⟨by rfl, ?_⟩) ?_ ?_
              rotate_left
              · intro w'
                go_simp
                with_reducible rfl
              rotate_left
              · simp only [Act.put, sg1, sg2, sg3, i64_w, i32_w]
                rfl
              refine pure_ (i := 2) (N := some 86) (v := ?_) (a' := ?_) (bAg 20 7) rfl rfl (any_of HT_.out (by kernel_rfl)) (fun _ _ _ h => h) (Or.inl ⟨by rfl, ?_⟩) ?_ ?_
              rotate_left
              · intro w'
                go_simp
                with_reducible rfl
              rotate_left
              · simp only [Act.put, sg1, sg2, sg3, i64_w, i32_w]
                rfl
              refine take_ (i := 3) (N := some 87) (v := ?_) (a' := ?_) (bAg 20 15) rfl rfl (take_ofW HT_.out HW_.out (by kernel_rfl)) (fun _ _ _ h => h) (Or.inl ⟨by rfl, ?_⟩) hHeld ?_ ?_
              rotate_left
              · rintro w' ⟨s0, s1, s2, s3, s4, s5⟩
                go_simp
                with_reducible rfl
              rotate_left
              · simp only [Act.put, sg1, sg2, sg3, i64_w, i32_w]
                rfl
              refine one_ (i := 4) (N := some 88) (bAg 20 31) rfl rfl (one_of HT_.out (by kernel_rfl)) (by decide) (fun K hK => ?_)
              refine goes_ Try.func17 (by kernel_rfl) rfl #[.agg #[.int .i64 x.f0, .int .i64 x.f1, .string x.f2, .slice A3 x.f3.f0.length c3, .int .i64 x.f3.f1, .int .i64 x.f3.f2]] (by rfl) rfl rfl (by (try simp only [List.map_toArray, List.map_cons, List.map_nil]); first | done | rfl) ?_
              with_reducible refine (HLi.out).mono ?_
              rintro e w6 ⟨rfl, hb⟩
              refine ⟨_, rfl, ?_⟩
              replace HQ := Aside0.mk (HQ.out.below hb)
              refine hK.out _ _ ⟨cell_below hb hHeld.1, cell_below hb hHeld.2.1, cell_below hb hHeld.2.2.1, cell_below hb hHeld.2.2.2.1, cell_below hb hHeld.2.2.2.2.1, cell_below hb hHeld.2.2.2.2.2⟩ (fun hHeld => ?_)
              clear hK K hb
              refine norm_ (a' := ?_) ?_ ?_
              rotate_left
              · show Act.put _ (some 88) _ = _
                simp only [Act.put, sg1, sg2, sg3, i64_w, i32_w]
                rfl
              refine pure_ (i := 5) (N := some 89) (v := ?_) (a' := ?_) (bAg 20 63) rfl rfl (any_of HT_.out (by kernel_rfl)) (fun _ _ _ h => h) (Or.inl ⟨by rfl, ?_⟩) ?_ ?_
              rotate_left
              · intro w'
                go_simp
                with_reducible rfl
              rotate_left
              · simp only [Act.put, sg1, sg2, sg3, i64_w, i32_w]
                rfl
              refine pure_ (i := 6) (N := some 90) (v := ?_) (a' := ?_) (bAg 20 127) rfl rfl (any_of HT_.out (by kernel_rfl)) (fun _ _ _ h => h) (Or.inl ⟨by rfl, ?_⟩) ?_ ?_
              rotate_left
              · intro w'
                go_simp
                with_reducible rfl
              rotate_left
              · simp only [Act.put, sg1, sg2, sg3, i64_w, i32_w]
                rfl
              refine pure_ (i := 7) (N := some 91) (v := ?_) (a' := ?_) (bAg 20 255) rfl rfl (any_of HT_.out (by kernel_rfl)) (fun _ _ _ h => h) (Or.inl ⟨by rfl, ?_⟩) ?_ ?_
              rotate_left
              · intro w'
                go_simp
                with_reducible rfl
              rotate_left
              · simp only [Act.put, sg1, sg2, sg3, i64_w, i32_w]
                rfl
              refine pure_ (i := 8) (N := some 92) (v := ?_) (a' := ?_) (bAg 20 511) rfl rfl (any_of HT_.out (by kernel_rfl)) (fun _ _ _ h => h) (Or.inl ⟨by rfl, ?_⟩) ?_ ?_
              rotate_left
              · intro w'
                go_simp
                with_reducible rfl
              rotate_left
              · simp only [Act.put, sg1, sg2, sg3, i64_w, i32_w]
                rfl
              refine pure_ (i := 9) (N := some 93) (v := ?_) (a' := ?_) (bAg 20 1023) rfl rfl (any_of HT_.out (by kernel_rfl)) (fun _ _ _ h => h) (Or.inl ⟨by rfl, ?_⟩) ?_ ?_
              rotate_left
              · intro w'
                go_simp
                with_reducible rfl
              rotate_left
              · simp only [Act.put, sg1, sg2, sg3, i64_w, i32_w]
                rfl
              refine pure_ (i := 10) (N := some 94) (v := ?_) (a' := ?_) (bAg 20 2047) rfl rfl (any_of HT_.out (by kernel_rfl)) (fun _ _ _ h => h) (Or.inl ⟨by rfl, ?_⟩) ?_ ?_
              rotate_left
              · intro w'
                go_simp
                with_reducible rfl
              rotate_left
              · simp only [Act.put, sg1, sg2, sg3, i64_w, i32_w]
                rfl
              refine take_ (i := 11) (N := some 95) (v := ?_) (a' := ?_) (bAg 20 4095) rfl rfl (take_ofW HT_.out HW_.out (by kernel_rfl)) (fun _ _ _ h => h) (Or.inl ⟨by rfl, ?_⟩) hHeld ?_ ?_
              rotate_left
              · rintro w' ⟨s0, s1, s2, s3, s4, s5⟩
                go_simp
                with_reducible rfl
              rotate_left
              · simp only [Act.put, sg1, sg2, sg3, i64_w, i32_w]
                rfl
              refine pure_ (i := 12) (N := some 96) (v := ?_) (a' := ?_) (bAg 20 8191) rfl rfl (any_of HT_.out (by kernel_rfl)) (fun _ _ _ h => h) (Or.inl ⟨by rfl, ?_⟩) ?_ ?_
              rotate_left
              · intro w'
                go_simp
                with_reducible rfl
              rotate_left
              · simp only [Act.put, sg1, sg2, sg3, i64_w, i32_w]
                rfl
              refine pure_ (i := 13) (N := some 97) (v := ?_) (a' := ?_) (bAg 20 16383) rfl rfl (any_of HT_.out (by kernel_rfl)) (fun _ _ _ h => h) (Or.inl ⟨by rfl, ?_⟩) ?_ ?_
              rotate_left
              · intro w'
                go_simp
                with_reducible rfl
              rotate_left
              · simp only [Act.put, sg1, sg2, sg3, i64_w, i32_w]
                rfl
              refine pure_ (i := 14) (N := some 98) (v := ?_) (a' := ?_) (bAg 20 32767) rfl rfl (any_of HT_.out (by kernel_rfl)) (fun _ _ _ h => h) (Or.inl ⟨by rfl, ?_⟩) ?_ ?_
              rotate_left
              · intro w'
                go_simp
                with_reducible rfl
              rotate_left
              · simp only [Act.put, sg1, sg2, sg3, i64_w, i32_w]
                rfl
              refine pure_ (i := 15) (N := some 99) (v := ?_) (a' := ?_) (bAg 20 65535) rfl rfl (any_of HT_.out (by kernel_rfl)) (fun _ _ _ h => h) (Or.inl ⟨by rfl, ?_⟩) ?_ ?_
              rotate_left
              · intro w'
                go_simp
                with_reducible rfl
              rotate_left
              · simp only [Act.put, sg1, sg2, sg3, i64_w, i32_w]
                rfl
              refine take_ (i := 16) (N := some 100) (v := ?_) (a' := ?_) (bAg 20 131071) rfl rfl (take_ofW HT_.out HW_.out (by kernel_rfl)) (fun _ _ _ h => h) (Or.inl ⟨by rfl, ?_⟩) hHeld ?_ ?_
              rotate_left
              · rintro w' ⟨s0, s1, s2, s3, s4, s5⟩
                go_simp
                with_reducible rfl
              rotate_left
              · simp only [Act.put, sg1, sg2, sg3, i64_w, i32_w]
                rfl
              refine one_ (i := 17) (N := some 101) (bAg 20 262143) rfl rfl (one_of HT_.out (by kernel_rfl)) (by decide) (fun K hK => ?_)
              refine goes_ Try.func12 (by kernel_rfl) rfl #[.pointer (some ⟨g, 0, none⟩), .int .i64 x.f1, .string x.f2] (by rfl) rfl rfl (by (try simp only [List.map_toArray, List.map_cons, List.map_nil]); first | done | rfl) ?_
              have hC := slab_write' HQ.out.sw.hs (by omega) x.f1 x.f2 HWa.out
              refine hC.mono ?_
              rintro e w7 ⟨rfl, hs, hk7⟩
              refine ⟨_, rfl, ?_⟩
              replace HQ := Aside0.mk (HQ.out.turn hs hk7 (HQ.out.sw.us.put_ x.f1 x.f2))
              have h7 := act_at3 HR1.out HQ.out.sw.hs.bel j hkl HXe.out
              clear hs hk7 hC
              refine hK.out _ _ ⟨h7.1, h7.2.1, h7.2.2.1, h7.2.2.2.1 A3 c3 HX3.out, h7.2.2.2.2.1, h7.2.2.2.2.2⟩ (fun hHeld => ?_)
              clear hK K h7
              refine norm_ (a' := ?_) ?_ ?_
              rotate_left
              · show Act.put _ (some 101) _ = _
                simp only [Act.put, sg1, sg2, sg3, i64_w, i32_w]
                rfl
              refine pure_ (i := 18) (N := some 102) (v := ?_) (a' := ?_) (bAg 20 524287) rfl rfl (any_of HT_.out (by kernel_rfl)) (fun _ _ _ h => h) (Or.inl ⟨by rfl, ?_⟩) ?_ ?_
              rotate_left
              · intro w'
                go_simp
                with_reducible rfl
              rotate_left
              · simp only [Act.put, sg1, sg2, sg3, i64_w, i32_w]
                rfl
              refine pure_ (i := 19) (N := some 103) (v := ?_) (a' := ?_) (bAg 20 1048575) rfl rfl (any_of HT_.out (by kernel_rfl)) (fun _ _ _ h => h) (Or.inl ⟨by rfl, ?_⟩) ?_ ?_
              rotate_left
              · intro w'
                go_simp
                with_reducible rfl
              rotate_left
              · simp only [Act.put, sg1, sg2, sg3, i64_w, i32_w]
                rfl
              refine done_ (done_of HT_.out (by kernel_rfl)) ?_
              clear HT_ HW_
              go_wp2_with fail
              exact ⟨⟨j + 1, _, on, by omega, by go_num, HQ, ⟨by unfold putI; rw [HCw.out, if_neg (by decide)]; exact HSt.out⟩⟩, by simp [intOf]; omega⟩
            · rw [hcw] at hwa
              rw [if_pos rfl] at hwa
              have HCw := Aside0.mk hcw
              have HWa := Aside0.mk hwa
              clear hwa hcw
              refine start_ (n := 20) (S := fun w' => w'.cell? (ad.add (j * 6)) = some (.int .i64 x.f0) ∧ w'.cell? ⟨(ad.add (j * 6)).block, (ad.add (j * 6)).off + 1, none⟩ = some (.int .i64 x.f1) ∧ w'.cell? ⟨(ad.add (j * 6)).block, (ad.add (j * 6)).off + 2, none⟩ = some (.string x.f2) ∧ w'.cell? ⟨(ad.add (j * 6)).block, (ad.add (j * 6)).off + 3, none⟩ = some (.slice A3 x.f3.f0.length c3) ∧ w'.cell? ⟨(ad.add (j * 6)).block, (ad.add (j * 6)).off + 4, none⟩ = some (.int .i64 x.f3.f1) ∧ w'.cell? ⟨(ad.add (j * 6)).block, (ad.add (j * 6)).off + 5, none⟩ = some (.int .i64 x.f3.f2)) (ds := []) (bAg 20 0) (by kernel_rfl) rfl rfl ⟨x0, x1, x2, x3, x4, x5⟩ (fun hHeld => ?_); refine with_tabW sure16.tab sure16.bits (fun HT_ HW_ => ?_)
              refine pure_ (i := 0) (N := some 84) (v := ?_) (a' := ?_) (bAg 20 1) rfl rfl (any_of HT_.out (by kernel_rfl)) (fun _ _ _ h => h) (Or.inl ⟨by rfl, ?_⟩) ?_ ?_
              rotate_left
              · intro w'
                go_simp
                with_reducible rfl
              rotate_left
              · simp only [Act.put, sg1, sg2, sg3, i64_w, i32_w]
                rfl
              refine pure_ (i := 1) (N := some 85) (v := ?_) (a' := ?_) (bAg 20 3) rfl rfl (any_of HT_.out (by kernel_rfl)) (fun _ _ _ h => h) (Or.inl ⟨by rfl, ?_⟩) ?_ ?_
              rotate_left
              · intro w'
                go_simp
                with_reducible rfl
              rotate_left
              · simp only [Act.put, sg1, sg2, sg3, i64_w, i32_w]
                rfl
              refine pure_ (i := 2) (N := some 86) (v := ?_) (a' := ?_) (bAg 20 7) rfl rfl (any_of HT_.out (by kernel_rfl)) (fun _ _ _ h => h) (Or.inl ⟨by rfl, ?_⟩) ?_ ?_
              rotate_left
              · intro w'
                go_simp
                with_reducible rfl
              rotate_left
              · simp only [Act.put, sg1, sg2, sg3, i64_w, i32_w]
                rfl
              refine take_ (i := 3) (N := some 87) (v := ?_) (a' := ?_) (bAg 20 15) rfl rfl (take_ofW HT_.out HW_.out (by kernel_rfl)) (fun _ _ _ h => h) (Or.inl ⟨by rfl, ?_⟩) hHeld ?_ ?_
              rotate_left
              · rintro w' ⟨s0, s1, s2, s3, s4, s5⟩
                go_simp
                with_reducible rfl
              rotate_left
              · simp only [Act.put, sg1, sg2, sg3, i64_w, i32_w]
                rfl
              refine one_ (i := 4) (N := some 88) (bAg 20 31) rfl rfl (one_of HT_.out (by kernel_rfl)) (by decide) (fun K hK => ?_)
              refine goes_ Try.func17 (by kernel_rfl) rfl #[.agg #[.int .i64 x.f0, .int .i64 x.f1, .string x.f2, .slice A3 x.f3.f0.length c3, .int .i64 x.f3.f1, .int .i64 x.f3.f2]] (by rfl) rfl rfl (by (try simp only [List.map_toArray, List.map_cons, List.map_nil]); first | done | rfl) ?_
              with_reducible refine (HLi.out).mono ?_
              rintro e w6 ⟨rfl, hb⟩
              refine ⟨_, rfl, ?_⟩
              replace HQ := Aside0.mk (HQ.out.below hb)
              refine hK.out _ _ ⟨cell_below hb hHeld.1, cell_below hb hHeld.2.1, cell_below hb hHeld.2.2.1, cell_below hb hHeld.2.2.2.1, cell_below hb hHeld.2.2.2.2.1, cell_below hb hHeld.2.2.2.2.2⟩ (fun hHeld => ?_)
              clear hK K hb
              refine norm_ (a' := ?_) ?_ ?_
              rotate_left
              · show Act.put _ (some 88) _ = _
                simp only [Act.put, sg1, sg2, sg3, i64_w, i32_w]
                rfl
              refine pure_ (i := 5) (N := some 89) (v := ?_) (a' := ?_) (bAg 20 63) rfl rfl (any_of HT_.out (by kernel_rfl)) (fun _ _ _ h => h) (Or.inl ⟨by rfl, ?_⟩) ?_ ?_
              rotate_left
              · intro w'
                go_simp
                with_reducible rfl
              rotate_left
              · simp only [Act.put, sg1, sg2, sg3, i64_w, i32_w]
                rfl
              refine pure_ (i := 6) (N := some 90) (v := ?_) (a' := ?_) (bAg 20 127) rfl rfl (any_of HT_.out (by kernel_rfl)) (fun _ _ _ h => h) (Or.inl ⟨by rfl, ?_⟩) ?_ ?_
              rotate_left
              · intro w'
                go_simp
                with_reducible rfl
              rotate_left
              · simp only [Act.put, sg1, sg2, sg3, i64_w, i32_w]
                rfl
              refine pure_ (i := 7) (N := some 91) (v := ?_) (a' := ?_) (bAg 20 255) rfl rfl (any_of HT_.out (by kernel_rfl)) (fun _ _ _ h => h) (Or.inl ⟨by rfl, ?_⟩) ?_ ?_
              rotate_left
              · intro w'
                go_simp
                with_reducible rfl
              rotate_left
              · simp only [Act.put, sg1, sg2, sg3, i64_w, i32_w]
                rfl
              refine pure_ (i := 8) (N := some 92) (v := ?_) (a' := ?_) (bAg 20 511) rfl rfl (any_of HT_.out (by kernel_rfl)) (fun _ _ _ h => h) (Or.inl ⟨by rfl, ?_⟩) ?_ ?_
              rotate_left
              · intro w'
                go_simp
                with_reducible rfl
              rotate_left
              · simp only [Act.put, sg1, sg2, sg3, i64_w, i32_w]
                rfl
              refine pure_ (i := 9) (N := some 93) (v := ?_) (a' := ?_) (bAg 20 1023) rfl rfl (any_of HT_.out (by kernel_rfl)) (fun _ _ _ h => h) (Or.inl ⟨by rfl, ?_⟩) ?_ ?_
              rotate_left
              · intro w'
                go_simp
                with_reducible rfl
              rotate_left
              · simp only [Act.put, sg1, sg2, sg3, i64_w, i32_w]
                rfl
              refine pure_ (i := 10) (N := some 94) (v := ?_) (a' := ?_) (bAg 20 2047) rfl rfl (any_of HT_.out (by kernel_rfl)) (fun _ _ _ h => h) (Or.inl ⟨by rfl, ?_⟩) ?_ ?_
              rotate_left
              · intro w'
                go_simp
                with_reducible rfl
              rotate_left
              · simp only [Act.put, sg1, sg2, sg3, i64_w, i32_w]
                rfl
              refine take_ (i := 11) (N := some 95) (v := ?_) (a' := ?_) (bAg 20 4095) rfl rfl (take_ofW HT_.out HW_.out (by kernel_rfl)) (fun _ _ _ h => h) (Or.inl ⟨by rfl, ?_⟩) hHeld ?_ ?_
              rotate_left
              · rintro w' ⟨s0, s1, s2, s3, s4, s5⟩
                go_simp
                with_reducible rfl
              rotate_left
              · simp only [Act.put, sg1, sg2, sg3, i64_w, i32_w]
                rfl
              refine pure_ (i := 12) (N := some 96) (v := ?_) (a' := ?_) (bAg 20 8191) rfl rfl (any_of HT_.out (by kernel_rfl)) (fun _ _ _ h => h) (Or.inl ⟨by rfl, ?_⟩) ?_ ?_
              rotate_left
              · intro w'
                go_simp
                with_reducible rfl
              rotate_left
              · simp only [Act.put, sg1, sg2, sg3, i64_w, i32_w]
                rfl
              refine pure_ (i := 13) (N := some 97) (v := ?_) (a' := ?_) (bAg 20 16383) rfl rfl (any_of HT_.out (by kernel_rfl)) (fun _ _ _ h => h) (Or.inl ⟨by rfl, ?_⟩) ?_ ?_
              rotate_left
              · intro w'
                go_simp
                with_reducible rfl
              rotate_left
              · simp only [Act.put, sg1, sg2, sg3, i64_w, i32_w]
                rfl
              refine pure_ (i := 14) (N := some 98) (v := ?_) (a' := ?_) (bAg 20 32767) rfl rfl (any_of HT_.out (by kernel_rfl)) (fun _ _ _ h => h) (Or.inl ⟨by rfl, ?_⟩) ?_ ?_
              rotate_left
              · intro w'
                go_simp
                with_reducible rfl
              rotate_left
              · simp only [Act.put, sg1, sg2, sg3, i64_w, i32_w]
                rfl
              refine pure_ (i := 15) (N := some 99) (v := ?_) (a' := ?_) (bAg 20 65535) rfl rfl (any_of HT_.out (by kernel_rfl)) (fun _ _ _ h => h) (Or.inl ⟨by rfl, ?_⟩) ?_ ?_
              rotate_left
              · intro w'
                go_simp
                with_reducible rfl
              rotate_left
              · simp only [Act.put, sg1, sg2, sg3, i64_w, i32_w]
                rfl
              refine take_ (i := 16) (N := some 100) (v := ?_) (a' := ?_) (bAg 20 131071) rfl rfl (take_ofW HT_.out HW_.out (by kernel_rfl)) (fun _ _ _ h => h) (Or.inl ⟨by rfl, ?_⟩) hHeld ?_ ?_
              rotate_left
              · rintro w' ⟨s0, s1, s2, s3, s4, s5⟩
                go_simp
                with_reducible rfl
              rotate_left
              · simp only [Act.put, sg1, sg2, sg3, i64_w, i32_w]
                rfl
              refine one_ (i := 17) (N := some 101) (bAg 20 262143) rfl rfl (one_of HT_.out (by kernel_rfl)) (by decide) (fun K hK => ?_)
              refine goes_ Try.func12 (by kernel_rfl) rfl #[.pointer (some ⟨g, 0, none⟩), .int .i64 x.f1, .string x.f2] (by rfl) rfl rfl (by (try simp only [List.map_toArray, List.map_cons, List.map_nil]); first | done | rfl) ?_
              have hC := slab_write' HQ.out.sw.hs (by omega) x.f1 x.f2 HWa.out
              refine hC.mono ?_
              rintro e w7 ⟨rfl, hs, hk7⟩
              refine ⟨_, rfl, ?_⟩
              replace HQ := Aside0.mk (HQ.out.turn hs hk7 (HQ.out.sw.us.put_ x.f1 x.f2))
              have h7 := act_at3 HR1.out HQ.out.sw.hs.bel j hkl HXe.out
              clear hs hk7 hC
              refine hK.out _ _ ⟨h7.1, h7.2.1, h7.2.2.1, h7.2.2.2.1 A3 c3 HX3.out, h7.2.2.2.2.1, h7.2.2.2.2.2⟩ (fun hHeld => ?_)
              clear hK K h7
              refine norm_ (a' := ?_) ?_ ?_
              rotate_left
              · show Act.put _ (some 101) _ = _
                simp only [Act.put, sg1, sg2, sg3, i64_w, i32_w]
                rfl
              refine pure_ (i := 18) (N := some 102) (v := ?_) (a' := ?_) (bAg 20 524287) rfl rfl (any_of HT_.out (by kernel_rfl)) (fun _ _ _ h => h) (Or.inl ⟨by rfl, ?_⟩) ?_ ?_
              rotate_left
              · intro w'
                go_simp
                with_reducible rfl
              rotate_left
              · simp only [Act.put, sg1, sg2, sg3, i64_w, i32_w]
                rfl
              refine pure_ (i := 19) (N := some 103) (v := ?_) (a' := ?_) (bAg 20 1048575) rfl rfl (any_of HT_.out (by kernel_rfl)) (fun _ _ _ h => h) (Or.inl ⟨by rfl, ?_⟩) ?_ ?_
              rotate_left
              · intro w'
                go_simp
                with_reducible rfl
              rotate_left
              · simp only [Act.put, sg1, sg2, sg3, i64_w, i32_w]
                rfl
              refine done_ (done_of HT_.out (by kernel_rfl)) ?_
              clear HT_ HW_
              obtain ⟨_, v1, _⟩ := hHeld
              obtain ⟨m, hm, hm8⟩ : ∃ m : Nat, x.f1 = (m : Int) ∧ m < 8 := by
                have := HCw.out
                simp only [canW, Bool.and_eq_true, decide_eq_true_eq] at this
                exact ⟨x.f1.toNat, by omega, by omega⟩
              rw [hm] at v1
              have z1 := blk_frozen HQ.out.bb m
              obtain ⟨bo, hbo⟩ : ∃ bo, on[m]? = some bo := ⟨_, List.getElem?_eq_getElem (by rw [HQ.out.lon]; exact hm8)⟩
              have z2 : w7.cell? ⟨gb, m, none⟩ = some (.bool bo) := (blk_cell HQ.out.bb m).trans (bvals_get on m bo hbo)
              have HSt2 : Aside0 (Stood (on.set m true) s9.b (putI s x.f1 x.f2).b) := ⟨by
                unfold putI
                rw [HCw.out, if_pos rfl]
                show Stood _ _ (putB s.b x.f1.toNat x.f2)
                rw [hm, Int.toNat_natCast]
                exact HSt.out.put m (by rw [HQ.out.lon]; exact hm8) _⟩
              have HM8 := Aside0.mk hm8
              clear hm hbo
              go_wp2_with fail
              exact ⟨⟨j + 1, _, _, by omega, by go_num, ⟨HQ.out.on m⟩, HSt2⟩, by simp [intOf]; omega⟩

          · have hu4 : UpS s := HQ.out.sw.us
            have HKeep := Aside0.mk (kept_arg HQ.out.sw.hs HR2.out)
            have HFl := Aside0.mk (slab_fail HQ.out.sw.hs A2 c2 l2 tr at_ HKeep.out HC2.out (by have := HL2.out; omega))
            rw [fail_up s hu4.up] at HFl
            have HU4 := Aside0.mk hu4
            clear hu4
            by_cases h1 : j < l1.length
            all_goals first
              | (have q2 : decide ((j : Int) < 30) = false := decide_eq_false (by omega); have q1 : decide (j < l1.length) = true := decide_eq_true h1; clear h1 hlt; go_upto_region 18 with (fail))
              | (have q1 : decide (j < l1.length) = false := decide_eq_false h1; clear h1 hlt; go_upto_region 18 with (fail))
            all_goals
              have y0 : wr.cell? ⟨gx, 0, none⟩ = some (.slice A2 l2.length c2) := (blk_cell HQ.out.sw.bx 0).trans rfl
              have y1 : wr.cell? ⟨gx, 1, none⟩ = some (.int .i64 tr) := (blk_cell HQ.out.sw.bx 1).trans rfl
              have y2 : wr.cell? ⟨gx, 2, none⟩ = some (.int .i64 at_) := (blk_cell HQ.out.sw.bx 2).trans rfl
              go_upto_region 20 with (first | (go_at_call 14; refine HFl.out.mono ?_; rintro e w15 ⟨rfl, hs, hb⟩; have HS15 := Aside0.mk hs; have HK15 := Aside0.mk hb; clear hs hb y0 y1 y2) | (go_at_call 15; refine (slab_wake HS15.out).mono ?_; rintro e w16 ⟨rfl, hs, hb⟩; replace HQ := Aside0.mk (HQ.out.turn hs (HK15.out.trans hb) ⟨by show (settle _ s.b).length = 8; rw [settle_len]; exact HU4.out.len, rfl, rfl, HU4.out.kb⟩); clear hs hb))
              have HRd2 := Aside0.mk (slab_read8 HQ.out.sw.hs)
              rw [read8_want _ HQ.out.sw.us.up HQ.out.sw.us.len] at HRd2
              have hst : ∀ i : Nat, i < 8 → on[i]? = some false → (wantOf (settle (failF l2 tr at_) s.b))[i]? = (wantOf s9.b)[i]? := fun i hi ho => stood_fail HSt.out HSu.out _ i ho (by rw [HU4.out.len]; exact hi)
              dsimp only at HRd2
              obtain ⟨b1, b2, b3, b4, b5, b6, b7, b8, e9⟩ := eight (wantOf (settle (failF l2 tr at_) s.b)) (by simp [wantOf, settle_len]; exact HU4.out.len)
              rw [e9] at HRd2 hst
              rw [E8.out] at hst
              have HEq := Aside0.mk hst
              replace HRd2 : Aside0 (Calls Try.prog 13 #[.pointer (some ⟨g, 0, none⟩)] w16 fun e W' => e = .returned (.agg #[.string b1, .string b2, .string b3, .string b4, .string b5, .string b6, .string b7, .string b8]) ∧ Below w16.heap.size w16 W') := HRd2
              clear e9 hst HFl HS15 HK15 HKeep
              go_upto_region 21 with (go_at_call 13; refine HRd2.out.mono ?_; rintro e w17 ⟨rfl, hb⟩; replace HQ := Aside0.mk (HQ.out.below hb); clear hb; obtain ⟨⟨z0, z1, z2, z3, z4, z5, z6, z7⟩, f0, f1, f2, f3, f4, f5, f6, f7⟩ := new8 w17)
              clear z0 z1 z2 z3 z4 z5 z6 z7 f0 f1 f2 f3 f4 f5 f6 f7
              have HNow := Aside0.mk (blk_new w17 (.cells #[.string b1, .string b2, .string b3, .string b4, .string b5, .string b6, .string b7, .string b8] 26))
              replace HQ := Aside0.mk (HQ.out.below (below_alloc (Below.refl w17.heap.size w17) (.cells #[.string b1, .string b2, .string b3, .string b4, .string b5, .string b6, .string b7, .string b8] 26)))
              generalize w17.alloc (.cells #[.string b1, .string b2, .string b3, .string b4, .string b5, .string b6, .string b7, .string b8] 26) = W18 at HQ HNow ⊢
              generalize w17.heap.size = gc at HNow ⊢
              go_wp2
              go_loopw [13] (fun v13 wr => ∃ i : Nat, i ≤ 8 ∧ v13 = .int .i64 i ∧ Aside0 (Sure2 w wr g rb mb (k + j) gx ga gb _ #[.slice A2 l2.length c2, .int .i64 tr, .int .i64 at_] [a1, a2, a3, a4, a5, a6, a7, a8] on) ∧ Aside0 (wr.heap[gc]? = some (.cells (vals [b1, b2, b3, b4, b5, b6, b7, b8]) 26 (0, 0)))) (fun v13 _ => 8 - (intOf v13).toNat)
              case atStart => exact ⟨0, by omega, rfl, HQ, HNow⟩
              case round =>
                clear HQ HNow
                obtain ⟨i, hi, rfl, HQ, HNow⟩ := hrel
                by_cases hlt : i < 8
                · have hwk : IntKind.i64.wrap ((i : Int) + 1) = (i : Int) + 1 := IntWalk.i64_in _ (by omega)
                  obtain ⟨bo, hbo⟩ : ∃ bo, on[i]? = some bo := ⟨_, List.getElem?_eq_getElem (by rw [HQ.out.lon]; exact hlt)⟩
                  obtain ⟨p, hp⟩ : ∃ p, [b1, b2, b3, b4, b5, b6, b7, b8][i]? = some p := ⟨_, List.getElem?_eq_getElem (by simpa using hlt)⟩
                  obtain ⟨q, hq⟩ : ∃ q, [a1, a2, a3, a4, a5, a6, a7, a8][i]? = some q := ⟨_, List.getElem?_eq_getElem (by simpa using hlt)⟩
                  have z0 : wr.cell? ⟨gb, i, none⟩ = some (.bool bo) := (blk_cell HQ.out.bb i).trans (bvals_get _ i _ hbo)
                  have z1 : wr.cell? ⟨gc, i, none⟩ = some (.string p) := (blk_cell HNow.out i).trans (vals_get _ i _ hp)
                  have z2 : wr.cell? ⟨ga, i, none⟩ = some (.string q) := (blk_cell HQ.out.ba i).trans (vals_get _ i _ hq)
                  cases bo with
                  | false =>
                    have hpq : p = q := by
                      have := HEq.out i hlt hbo
                      rw [hp, hq] at this
                      injection this
                    subst hpq
                    clear hbo hp hq
                    go_upto_region 24 with (fail)
                    go_quiet (fail)
                    go_wp2
                    exact ⟨⟨i + 1, by omega, by go_num, ⟨HQ.out.below (pw_below_drewN (Below.refl _ _) nq)⟩, ⟨blk_drewN HNow.out nq⟩⟩, by simp [intOf]; omega⟩
                  | true =>
                    clear hbo hp hq
                    go_upto_region 24 with (fail)
                    go_quiet (fail)
                    go_wp2
                    exact ⟨⟨i + 1, by omega, by go_num, ⟨HQ.out.below (pw_below_drewN (Below.refl _ _) nq)⟩, ⟨blk_drewN HNow.out nq⟩⟩, by simp [intOf]; omega⟩
                · obtain rfl : i = 8 := by omega
                  clear hlt
                  go_wp2
                  go_ret
                  exact ⟨rfl, HQ.out.sw.hs.bel⟩
set_option maxRecDepth 100000 in
theorem sure_long (v0 v1 : Value) (A2 : Option Addr) (c2 : Nat) (l2 : List Int) (tr at_ : Int) (w : World) (hl2 : ¬ (l2.length : Int) ≤ 50) :
    Calls Try.prog 5 #[v0, v1, .agg #[.slice A2 l2.length c2, .int .i64 tr, .int .i64 at_]] w fun e w' => e = .returned (.bool true) ∧ Below w.heap.size w w' := by
  have HN := Aside0.mk (slab_new_yes (w := w) (below_alloc (Below.refl w.heap.size w) (.cells #[.slice A2 l2.length c2, .int .i64 tr, .int .i64 at_] 33)) 8 (by omega) (by omega))
  have HX := Aside0.mk (blk_new w (.cells #[.slice A2 l2.length c2, .int .i64 tr, .int .i64 at_] 33))
  have q0 : decide ((l2.length : Int) > 50) = true := decide_eq_true (by omega)
  have q1 : decide ((50 : Int) < (l2.length : Int)) = true := decide_eq_true (by omega)
  clear hl2
  go_enter Try.func5, Try.ntmps5
  go_upto_region 1 with (fail)
  generalize w.alloc (.cells #[.slice A2 l2.length c2, .int .i64 tr, .int .i64 at_] 33) = W1 at HN HX ⊢
  generalize w.heap.size = gx at HX ⊢
  go_upto_region 2 with (go_at_call 10; refine HN.out.mono ?_; rintro e w1 ⟨rfl, hs, hb⟩; have HS := Aside0.mk hs; replace HX := Aside0.mk (blk_below HX.out hb); clear hs hb)
  clear HN
  go_upto_region 3 with (go_at_call 11; refine (awake07 _).mono ?_; rintro e w2 ⟨rfl, hb⟩; replace HS := Aside0.mk (HS.out.below hb); replace HX := Aside0.mk (blk_below HX.out hb); have y0 : w2.cell? ⟨gx, 0, none⟩ = some (.slice A2 l2.length c2) := (blk_cell HX.out 0).trans rfl; clear hb)
  go_wp2_with (go_at_call 11; refine (awake07 _).mono ?_; rintro e w3 ⟨rfl, hb⟩; replace HS := Aside0.mk (HS.out.below hb); clear hb)
  go_ret
  exact ⟨rfl, HS.out.bel⟩
def splicelaw07_SlabSure.f (l0 : List S38) (l1 : List S38) (l2_0 : List Int) (a2_1 : Int) (a2_2 : Int) : Option Bool := some true
theorem splicelaw07_SlabSure.calls (A0 : Option Addr) (c0 : Nat) (l0 : List S38) (A1 : Option Addr) (c1 : Nat) (l1 : List S38) (A2_0 : Option Addr) (c2_0 : Nat) (l2_0 : List Int) (a2_1 : Int) (a2_2 : Int) (r : Bool) (w : World)
    (hr0 : Kd.C k38 w A0 l0.length l0) (hc0 : l0.length ≤ c0) (hr1 : Kd.C k38 w A1 l1.length l1) (hc1 : l1.length ≤ c1) (hr2_0 : Kd.C (Kd.int .i64) w A2_0 l2_0.length l2_0) (hc2_0 : l2_0.length ≤ c2_0) (h : splicelaw07_SlabSure.f l0 l1 l2_0 a2_1 a2_2 = some r) (hr_ : r = true) :
    Calls Try.prog 5 #[.slice A0 l0.length c0, .slice A1 l1.length c1, .agg #[.slice A2_0 l2_0.length c2_0, .int .i64 a2_1, .int .i64 a2_2]] w fun e w' => e = .returned (.bool r) ∧ Below w.heap.size w w' := by
  subst hr_
  by_cases hl : (l2_0.length : Int) ≤ 50
  · exact sure_walk A0 c0 l0 A1 c1 l1 A2_0 c2_0 l2_0 a2_1 a2_2 w hr0 hr1 hr2_0 hc2_0 hl
  · exact sure_long _ _ A2_0 c2_0 l2_0 a2_1 a2_2 w hl

def wf33 (x : S33) : Prop := (x.f0.length * 8 ≤ 140737488351232 ∧ x.f0.length ≤ maxLen ∧ ∀ y0 ∈ x.f0, (Lit.int .i64 y0).wf = true) ∧ (Lit.int .i64 x.f1).wf = true ∧ (Lit.int .i64 x.f2).wf = true
theorem op33 : Go.Proofs.Ytdenfndpggfgmaa.Op.Op Try.prog k33 33 wf33 := op_mono (op_iso (op_struct Try.underlying33 (by kernel_rfl) (opfs_cons (op_slice Try.underlying27 (by kernel_rfl) (show Try.prog.bytesOf 3 = 8 by kernel_rfl) (op_int Try.underlying3 (by kernel_rfl)) (by decide)) rfl (opfs_cons (op_int Try.underlying3 (by kernel_rfl)) rfl (opfs_last (op_int Try.underlying3 (by kernel_rfl)) rfl)))) (fun x : S33 => (x.f0, x.f1, x.f2)) (fun y => ⟨y.1, y.2.1, y.2.2⟩) (fun _ => rfl)) (fun _ h => h)

def wf38 (x : S38) : Prop := (Lit.int .i64 x.f0).wf = true ∧ (Lit.int .i64 x.f1).wf = true ∧ x.f2.size ≤ 140737488351232 ∧ wf33 x.f3
theorem op38 : Go.Proofs.Ytdenfndpggfgmaa.Op.Op Try.prog k38 38 wf38 := op_mono (op_iso (op_struct Try.underlying38 (by kernel_rfl) (opfs_cons (op_int Try.underlying3 (by kernel_rfl)) rfl (opfs_cons (op_int Try.underlying3 (by kernel_rfl)) rfl (opfs_cons (op_string Try.underlying9 (by kernel_rfl)) rfl (opfs_last op33 rfl))))) (fun x : S38 => (x.f0, x.f1, x.f2, x.f3)) (fun y => ⟨y.1, y.2.1, y.2.2.1, y.2.2.2⟩) (fun _ => rfl)) (fun _ h => h)


/-! ### splicelaw07_SlabSure: function 5 -/
/-- THE ONE PURE STATEMENT of splicelaw07_SlabSure: yours. -/
def splicelaw07_SlabSure.Pure : Prop := ∀ (x0 : List (S38)) (x1 : List (S38)) (x2 : S33), (x0.length * 72 ≤ 140737488351232 ∧ x0.length ≤ maxLen ∧ ∀ y0 ∈ x0, wf38 y0) → (x1.length * 72 ≤ 140737488351232 ∧ x1.length ≤ maxLen ∧ ∀ y0 ∈ x1, wf38 y0) → wf33 x2 → splicelaw07_SlabSure.f x0 x1 x2.f0 x2.f1 x2.f2 = some true

end Go.Proofs.Ytdenfndpggfgmaa.PS
