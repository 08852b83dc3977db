-- written by a program of this session
import Derived.Test.YtdenfndpggfgmaaPLx0
import Derived.Test.YtdenfndpggfgmaaPLx1
import Derived.Test.YtdenfndpggfgmaaPLx2
namespace Go.Proofs.Ytdenfndpggfgmaa.PL
open Go.RowKit Go.Proofs.Ytdenfndpggfgmaa.Op Go.Proofs.YtdenfndpggfgmaaW.PrintWords Go.Proofs.YtdenfndpggfgmaaW.PrintLast Go.Proofs.YtdenfndpggfgmaaW.PrintMore
attribute [local go_sem] max2_int min2_int max_two min_two max_three min_three max_four min_four   -- for this text's walks alone
set_option linter.unusedVariables false
set_option linter.unusedSimpArgs false

/-! ### splicelaw07_SlabLast: function 3 (by hand) -/
def wantOf (b : List (ByteArray × Option ByteArray)) : List ByteArray := b.map (fun x => match x.2 with | none => x.1 | some t => t)
structure LastS (s : Sl) : Prop where
  len : s.b.length = 8
  emp : ∀ x ∈ s.b, x.1 = ByteArray.empty
  up : s.down = false
  wait : s.wait = 0
theorem LastS.new : LastS (Sl.new 8) := ⟨by simp [Sl.new], fun x hx => by have := List.eq_of_mem_replicate hx; rw [this], rfl, rfl⟩
theorem write_up (s : Sl) (hd : s.down = false) (hw : s.wait = 0) (i : Nat) (hi : i < s.b.length) (t : ByteArray) (ht : t.size ≤ 256) : s.write (i : Int) t = ({ s with b := putB s.b i t }, 0) := by
  have e0 : rdy s (hasB s (i : Int) && decide ((t.size : Int) ≤ 256)) = 0 := by
    have : (hasB s (i : Int) && decide ((t.size : Int) ≤ 256)) = true := by simp [hasB]; omega
    rw [this]; exact rdy_up s hd
  unfold Sl.write
  rw [if_neg (by rw [e0]; simp), Int.toNat_natCast]
  have et : ({ s with b := putB s.b i t } : Sl).tick = ({ s with b := putB s.b i t }, false) := by unfold Sl.tick; rw [if_neg (by show ¬ 0 < s.wait; omega)]
  rw [et]; rfl
theorem LastS.put {s : Sl} (h : LastS s) (i : Nat) (t : ByteArray) : LastS { s with b := putB s.b i t } :=
  ⟨by rw [putB_len]; exact h.len, fun x hx => by
    unfold putB at hx
    obtain ⟨j, hj, rfl⟩ := List.mem_mapIdx.1 hx
    have := h.emp _ (List.getElem_mem hj)
    split <;> exact this, h.up, h.wait⟩
theorem wantOf_put (b : List (ByteArray × Option ByteArray)) (i : Nat) (hi : i < b.length) (t : ByteArray) : wantOf (putB b i t) = (wantOf b).set i t := by
  unfold wantOf
  refine List.ext_getElem? (fun j => ?_)
  rw [List.getElem?_map, putB_get, List.getElem?_set, List.getElem?_map, List.length_map]
  by_cases e : i = j
  · subst e; rw [if_pos rfl, if_pos hi, List.getElem?_eq_getElem hi]; simp
  · rw [if_neg e]
    cases b[j]? with
    | none => rfl
    | some x => simp [Ne.symm e]
theorem read_up (s : Sl) (hd : s.down = false) (i : Nat) (hi : i < s.b.length) : (s.read (i : Int)).1 = (wantOf s.b)[i]'(by simpa [wantOf] using hi) := by
  have e0 : rdy s (hasB s (i : Int)) = 0 := by
    have : hasB s (i : Int) = true := by simp [hasB]; omega
    rw [this]; exact rdy_up s hd
  unfold Sl.read
  rw [if_neg (by rw [e0]; simp), Int.toNat_natCast, List.getElem?_eq_getElem hi]
  simp only [wantOf, List.getElem_map]
  cases h : s.b[i] with
  | mk x o => cases o <;> rfl
theorem read8_want (s : Sl) (hd : s.down = false) (hl : s.b.length = 8) : read8 s 8 = wantOf s.b := by
  unfold read8
  refine List.ext_getElem (by simp [wantOf, hl]) (fun i h1 h2 => ?_)
  simp only [List.length_map, List.length_range] at h1
  rw [List.getElem_map, List.getElem_range, if_pos h1, read_up s hd i (by omega)]
theorem fail_up (s : Sl) (hd : s.down = false) (ks : List Int) (tr at_ : Int) : s.fail ks tr at_ = { s with b := settle (failF ks tr at_) s.b, down := true } := by
  unfold Sl.fail; rw [if_neg (by rw [hd]; decide)]
theorem wantOf_settle (F) (b : List (ByteArray × Option ByteArray)) : wantOf (settle F b) = b.mapIdx (finB F (fun _ => false)) := by
  unfold wantOf settle
  refine List.ext_getElem? (fun j => ?_)
  rw [List.getElem?_map, List.getElem?_mapIdx, List.getElem?_mapIdx]
  cases b[j]? <;> rfl
theorem last_keep {s : Sl} (h : LastS s) (ks : List Int) (hk : ∀ i : Nat, i < 8 → ks.contains (i : Int) = true) : wantOf (settle (failF ks (-1) 0) s.b) = wantOf s.b := by
  rw [wantOf_settle]
  unfold wantOf
  refine List.ext_getElem? (fun j => ?_)
  rw [List.getElem?_map, List.getElem?_mapIdx]
  cases e : s.b[j]? with
  | none => rfl
  | some x =>
    have hj := (List.getElem?_eq_some_iff.1 e).1
    obtain ⟨x, o⟩ := x
    cases o with
    | none => rfl
    | some t =>
      have := hk j (by have := h.len; omega)
      simp only [Option.map_some, finB, failF, this]; rfl
theorem last_lost {s : Sl} (h : LastS s) : wantOf (settle (failF [] (-1) 0) s.b) = List.replicate 8 ByteArray.empty := by
  rw [wantOf_settle]
  refine List.ext_getElem? (fun j => ?_)
  rw [List.getElem?_mapIdx]
  cases e : s.b[j]? with
  | none => rw [List.getElem?_eq_none (by have := List.getElem?_eq_none_iff.1 e; have := h.len; simp; omega)]; rfl
  | some x =>
    obtain ⟨hj, hx⟩ := List.getElem?_eq_some_iff.1 e
    have he := h.emp x (hx ▸ List.getElem_mem hj)
    rw [List.getElem?_replicate, if_pos (by have := h.len; omega)]
    obtain ⟨x, o⟩ := x
    dsimp only at he
    subst he
    cases o with
    | none => rfl
    | some t =>
      simp only [Option.map_some, finB, failF]
      rw [if_neg (by decide), if_neg (by simp), if_neg (by omega)]

def bAg (n m : Nat) : Array Bool := ((List.range n).map (fun i => m.testBit i)).toArray
theorem sg1 {α : Type _} {l : List α} {i : Nat} {a : α} : l.toArray.setIfInBounds i a = (l.set i a).toArray := List.setIfInBounds_toArray l i a
theorem sg2 {α : Type _} {a b : α} {l : List α} : (a :: l).set 0 b = b :: l := List.set_cons_zero
theorem sg3 {α : Type _} {a b : α} {l : List α} {n : Nat} : (a :: l).set (n + 1) b = a :: l.set n b := List.set_cons_succ

def KeptB (ns : List Nat) (W W' : World) : Prop := W.heap.size ≤ W'.heap.size ∧ ∀ i, i < W.heap.size → i ∉ ns → W'.heap[i]? = W.heap[i]?
theorem KeptB.refl (ns : List Nat) (W : World) : KeptB ns W W := ⟨Nat.le_refl _, fun _ _ _ => rfl⟩
theorem KeptB.trans {ns : List Nat} {W W' W'' : World} (h : KeptB ns W W') (k : KeptB ns W' W'') : KeptB ns W W'' :=
  ⟨Nat.le_trans h.1 k.1, fun i hi hn => (k.2 i (Nat.lt_of_lt_of_le hi h.1) hn).trans (h.2 i hi hn)⟩
theorem KeptB.of {ns : List Nat} {W W' : World} {g rb mb : Nat} (h : SlKept W W' g rb mb) (hg : g ∈ ns) (hr : rb ∈ ns) (hm : mb ∈ ns) : KeptB ns W W' :=
  ⟨h.1, fun i hi hn => h.2 i hi (fun e => hn (e ▸ hg)) (fun e => hn (e ▸ hr)) (fun e => hn (e ▸ hm))⟩
theorem KeptB.set {ns : List Nat} {W : World} {b : Nat} (hb : b ∈ ns) (j : Nat) (v : Value) : KeptB ns W (W.setCell ⟨b, j, none⟩ v) :=
  ⟨by simp, fun i _ hn => Below.heap_setCell W ⟨b, j, none⟩ v i (fun e => hn (e ▸ hb))⟩
theorem KeptB.below {ns : List Nat} {W W' : World} (h : Below W.heap.size W W') : KeptB ns W W' := ⟨h.size, fun i hi _ => h.block i hi⟩
theorem IsSl.setFar {w W : World} {g rb mb n b : Nat} {s : Sl} (h : IsSl w W g rb mb n s) (hk : s.kb ≤ b) (hb : w.heap.size ≤ b) (hn : b ≠ g ∧ b ≠ rb ∧ b ≠ mb) (j : Nat) (v : Value) : IsSl w (W.setCell ⟨b, j, none⟩ v) g rb mb n s := by
  obtain ⟨vk, h1, h2⟩ := h.own
  obtain ⟨D, h3, h4⟩ := h.map
  exact ⟨⟨vk, blk_far (p := ⟨b, j, none⟩) h1 hn.1.symm v, Kd.R_far (p := ⟨b, j, none⟩) h2 (fun k hk2 => by have := hk2.2; show k ≠ b; omega) v⟩, blk_far (p := ⟨b, j, none⟩) h.row hn.2.1.symm v, ⟨D, h3.setCell (a := ⟨b, j, none⟩) hn.2.2.symm v, h4⟩, h.len, h.small, h.wt, h.kl, h.g1, h.r1, h.m1, h.gr, h.gm, h.rm, below_set h.bel hb⟩
structure LastW (w W1 wr : World) (g rb mb n gw : Nat) (s : Sl) : Prop where
  hs : IsSl w wr g rb mb n s
  ls : LastS s
  kb : s.kb = 0
  bw : wr.heap[gw]? = some (.cells (vals (wantOf s.b)) 26 (0, 0))
  gw1 : w.heap.size ≤ gw
  ne : gw ≠ g ∧ gw ≠ rb ∧ gw ≠ mb
  kept : KeptB [g, rb, mb, gw] W1 wr
theorem LastW.put {w W1 wr w2 : World} {g rb mb n gw : Nat} {s : Sl} (h : LastW w W1 wr g rb mb n gw s) (i : Nat) (hi : i < 8) (t : ByteArray) (h2 : IsSl w w2 g rb mb (n + 1) { s with b := putB s.b i t }) (hk : SlKept wr w2 g rb mb) :
    LastW w W1 (w2.setCell ⟨gw, i, none⟩ (.string t)) g rb mb (n + 1) gw { s with b := putB s.b i t } := by
  have hl := h.ls.len
  refine ⟨h2.setFar (by have := h.kb; show s.kb ≤ gw; omega) h.gw1 h.ne i _, h.ls.put i t, h.kb, blk_put ((hk.2 gw (blk_lt h.bw) h.ne.1 h.ne.2.1 h.ne.2.2).trans h.bw) i _ ?_, h.gw1, h.ne, (h.kept.trans (KeptB.of hk (by simp) (by simp) (by simp))).trans (KeptB.set (by simp) _ _)⟩
  rw [vals_set, wantOf_put s.b i (by omega) t]
theorem str_at {W : World} {ad : Addr} {l : List ByteArray} {n : Nat} (h : Kd.C Kd.string W (some ad) n l) (k : Nat) (hk : k < n) : W.cell? (ad.add k) = some (.string (rdOf ByteArray.empty l (k : Int))) := by
  obtain ⟨ad', e, hx⟩ := Kd.at_string h (k : Int) (by omega) (by omega)
  injection e with e
  subst e
  rw [Int.toNat_natCast] at hx
  exact hx
theorem str_some {W : World} {A : Option Addr} {l : List ByteArray} {n : Nat} (h : Kd.C Kd.string W A n l) (hk : 0 < n) : ∃ ad, A = some ad := by
  obtain ⟨ad', e, hx⟩ := Kd.at_string h 0 (by omega) (by omega)
  exact ⟨ad', e⟩
theorem range8 : ∀ i : Nat, i < 8 → ((List.range 8).map (fun i : Nat => (i : Int))).contains (i : Int) = true := fun i hi => by
  rw [List.contains_iff_mem]; exact List.mem_map.2 ⟨i, List.mem_range.2 hi, rfl⟩
theorem cells8 {W : World} {gw : Nat} {a1 a2 a3 a4 a5 a6 a7 a8 : ByteArray} (h : W.heap[gw]? = some (.cells (vals [a1, a2, a3, a4, a5, a6, a7, a8]) 26 (0, 0))) :
    (W.cell? ⟨gw, 0, none⟩ = some (.string a1) ∧ W.cell? ⟨gw, 1, none⟩ = some (.string a2) ∧ W.cell? ⟨gw, 2, none⟩ = some (.string a3) ∧ W.cell? ⟨gw, 3, none⟩ = some (.string a4) ∧ W.cell? ⟨gw, 4, none⟩ = some (.string a5) ∧ W.cell? ⟨gw, 5, none⟩ = some (.string a6) ∧ W.cell? ⟨gw, 6, none⟩ = some (.string a7) ∧ W.cell? ⟨gw, 7, none⟩ = some (.string a8)) ∧
    W.frozen? ⟨gw, 0, none⟩ = false ∧ W.frozen? ⟨gw, 1, none⟩ = false ∧ W.frozen? ⟨gw, 2, none⟩ = false ∧ W.frozen? ⟨gw, 3, none⟩ = false ∧ W.frozen? ⟨gw, 4, none⟩ = false ∧ W.frozen? ⟨gw, 5, none⟩ = false ∧ W.frozen? ⟨gw, 6, none⟩ = false ∧ W.frozen? ⟨gw, 7, none⟩ = false :=
  ⟨⟨(blk_cell h 0).trans rfl, (blk_cell h 1).trans rfl, (blk_cell h 2).trans rfl, (blk_cell h 3).trans rfl, (blk_cell h 4).trans rfl, (blk_cell h 5).trans rfl, (blk_cell h 6).trans rfl, (blk_cell h 7).trans rfl⟩, blk_frozen h 0, blk_frozen h 1, blk_frozen h 2, blk_frozen h 3, blk_frozen h 4, blk_frozen h 5, blk_frozen h 6, blk_frozen h 7⟩
theorem clr8 {w W : World} {g rb mb n gw : Nat} {s : Sl} (h : IsSl w W g rb mb n s) (hk : s.kb ≤ gw) (hg : w.heap.size ≤ gw) (hn : gw ≠ g ∧ gw ≠ rb ∧ gw ≠ mb) {l : List ByteArray} (hb : W.heap[gw]? = some (.cells (vals l) 26 (0, 0))) (hl : l.length = 8 := by rfl) :
    IsSl w ((((((((W.setCell ⟨gw, 0, none⟩ (.string ⟨#[]⟩)).setCell ⟨gw, 1, none⟩ (.string ⟨#[]⟩)).setCell ⟨gw, 2, none⟩ (.string ⟨#[]⟩)).setCell ⟨gw, 3, none⟩ (.string ⟨#[]⟩)).setCell ⟨gw, 4, none⟩ (.string ⟨#[]⟩)).setCell ⟨gw, 5, none⟩ (.string ⟨#[]⟩)).setCell ⟨gw, 6, none⟩ (.string ⟨#[]⟩)).setCell ⟨gw, 7, none⟩ (.string ⟨#[]⟩)) g rb mb n s ∧
    ((((((((W.setCell ⟨gw, 0, none⟩ (.string ⟨#[]⟩)).setCell ⟨gw, 1, none⟩ (.string ⟨#[]⟩)).setCell ⟨gw, 2, none⟩ (.string ⟨#[]⟩)).setCell ⟨gw, 3, none⟩ (.string ⟨#[]⟩)).setCell ⟨gw, 4, none⟩ (.string ⟨#[]⟩)).setCell ⟨gw, 5, none⟩ (.string ⟨#[]⟩)).setCell ⟨gw, 6, none⟩ (.string ⟨#[]⟩)).setCell ⟨gw, 7, none⟩ (.string ⟨#[]⟩)).heap[gw]? = some (.cells (vals (List.replicate 8 ByteArray.empty)) 26 (0, 0)) := by
  obtain ⟨a1, a2, a3, a4, a5, a6, a7, a8, rfl⟩ := eight l hl
  have f : ∀ {W : World}, IsSl w W g rb mb n s → ∀ j v, IsSl w (W.setCell ⟨gw, j, none⟩ v) g rb mb n s := fun h j v => h.setFar hk hg hn j v
  exact ⟨f (f (f (f (f (f (f (f h 0 _) 1 _) 2 _) 3 _) 4 _) 5 _) 6 _) 7 _, (blk_put (blk_put (blk_put (blk_put (blk_put (blk_put (blk_put (blk_put hb 0 _ (vals_set _ 0 _)) 1 _ (vals_set _ 1 _)) 2 _ (vals_set _ 2 _)) 3 _ (vals_set _ 3 _)) 4 _ (vals_set _ 4 _)) 5 _ (vals_set _ 5 _)) 6 _ (vals_set _ 6 _)) 7 _ (vals_set _ 7 _))⟩
theorem LastW.more {w W1 wr : World} {g rb mb n gw : Nat} {s : Sl} (h : LastW w W1 wr g rb mb n gw s) : LastW w W1 wr g rb mb (n + 1) gw s := { h with hs := h.hs.more (by omega) }
theorem wantCell {W : World} {gw : Nat} {s : Sl} (h : W.heap[gw]? = some (.cells (vals (wantOf s.b)) 26 (0, 0))) (hl : LastS s) (j : Nat) (hj : j < 8) : (∃ x, W.cell? ⟨gw, j, none⟩ = some (.string x)) ∧ W.frozen? ⟨gw, j, none⟩ = false :=
  ⟨⟨_, (blk_cell h j).trans (vals_get _ j _ (List.getElem?_eq_getElem (by simp [wantOf]; have := hl.len; omega)))⟩, blk_frozen h j⟩
def last19.T : Bool × List (List Nat × List Nat) := (true, [([], []), ([0], [0]), ([], []), ([1, 2], [1, 2])])
def last19.B : List Nat := [0, 1, 0, 7]
theorem last19.tab : rtab .any (opsOf Try.f3 19) = last19.T := by kernel_rfl
theorem last19.bits : waitsOk last19.T.2 last19.B = true := by kernel_rfl
def last26.T : Bool × List (List Nat × List Nat) := (true, [([], []), ([0], [0]), ([], []), ([1, 2], [1, 2]), ([3, 1, 0, 1, 2, 3], [3])])
def last26.B : List Nat := [0, 1, 0, 7, 15]
theorem last26.tab : rtab .any (opsOf Try.f3 26) = last26.T := by kernel_rfl
theorem last26.bits : waitsOk last26.T.2 last26.B = true := by kernel_rfl
set_option maxRecDepth 100000 in
set_option maxHeartbeats 4000000 in
theorem last_walk (a0 : Int) (A : Option Addr) (c : Nat) (l : List ByteArray) (keep : Bool) (w : World) (hr : Kd.C Kd.string w A l.length l) (hc : l.length ≤ c) (hl : l.length ≤ 1000000000000000) :
    Calls Try.prog 3 #[.int .i64 a0, .slice A l.length c, .bool keep] w fun e w' => e = .returned (.bool true) ∧ Below w.heap.size w w' := by
  have HN := Aside0.mk (slab_new_yes (Below.refl w.heap.size w) 8 (by omega) (by omega))
  have HR := Aside0.mk hr
  clear hr hc
  go_enter Try.func3, Try.ntmps3
  go_upto_region 5 with (first | (go_at_call 10; refine HN.out.mono ?_; rintro e w1 ⟨rfl, hs, hb⟩; have HS := Aside0.mk hs; have hlt := hs.lts; have HLt := Aside0.mk hlt; clear hs hb hlt) | (go_at_call 11; refine (awake07 _).mono ?_; rintro e w2 ⟨rfl, hb⟩; replace HS := Aside0.mk (HS.out.below hb); clear hb))
  clear HN
  have HBx := Aside0.mk (below_alloc (Below.refl w2.heap.size w2) (.cells #[.string ⟨#[]⟩, .string ⟨#[]⟩, .string ⟨#[]⟩, .string ⟨#[]⟩, .string ⟨#[]⟩, .string ⟨#[]⟩, .string ⟨#[]⟩, .string ⟨#[]⟩] 26))
  have HBw := Aside0.mk (blk_new w2 (.cells #[.string ⟨#[]⟩, .string ⟨#[]⟩, .string ⟨#[]⟩, .string ⟨#[]⟩, .string ⟨#[]⟩, .string ⟨#[]⟩, .string ⟨#[]⟩, .string ⟨#[]⟩] 26))
  have HLt2 := Aside0.mk HS.out.lts
  have HZ := Aside0.mk HS.out.bel.size
  replace HS := Aside0.mk (HS.out.below HBx.out)
  generalize w2.alloc (.cells #[.string ⟨#[]⟩, .string ⟨#[]⟩, .string ⟨#[]⟩, .string ⟨#[]⟩, .string ⟨#[]⟩, .string ⟨#[]⟩, .string ⟨#[]⟩, .string ⟨#[]⟩] 26) = W0 at HS HBw HBx ⊢
  generalize w2.heap.size = gw at HBw HLt2 HZ HBx ⊢
  generalize w.heap.size + 1 + 1 = g at HS HLt2 ⊢
  generalize w.heap.size + 1 = mb at HS HLt2
  obtain ⟨rb, hrb⟩ : ∃ rb, rb = w.heap.size := ⟨_, rfl⟩
  rw [← hrb] at HS HLt2
  clear hrb HLt HBx
  have HV0 : Aside0 (Kd.R (Kd.int .i64) 3 W0 W0.heap.size (fun _ => True) (.slice none 0 0) ((List.range 0).map (fun i : Nat => (i : Int)))) := ⟨Kd.R_nil _ _ _ _ _⟩
  go_wp2
  go_loopw [9, 10] (fun v9 v10 wr => ∃ k : Nat, k ≤ 8 ∧ v10 = .int .i64 k ∧ Aside0 (Below W0.heap.size W0 wr) ∧ Aside0 (Kd.R (Kd.int .i64) 3 wr W0.heap.size (fun _ => True) v9 ((List.range k).map (fun i : Nat => (i : Int))))) (fun _ v10 _ => 8 - (intOf v10).toNat)
  case atStart => exact ⟨0, by omega, rfl, ⟨Below.refl _ _⟩, HV0⟩
  case round =>
    obtain ⟨k, hk, rfl, HB, HV⟩ := hrel
    by_cases hlt : k < 8
    · have hw : IntKind.i64.wrap ((k : Int) + 1) = (k : Int) + 1 := IntWalk.i64_in _ (by omega)
      go_wp2_with (at_builtin; refine Kd.R_append (Kd.int .i64) (w0 := W0) W0.heap.size rfl (.tmp 24) (.tmp 26) 27 3 (.int .i64 0) 8 rfl Try.underlying27 info3i rfl (by decide) (by omega) _ _ (k : Int) [.int .i64 (k : Int)] (fun _ => True) (fun _ => False) rfl rfl rfl (fun _ hk => False.elim hk) (fun _ _ => trivial) HV.out HB.out HB.out.size (by simp; omega) ?_; intro v1 w1 ho hb hg hat; have HV1 := Aside0.mk ho; have HB1 := Aside0.mk hb; clear ho hb hg hat)
      exact ⟨⟨k + 1, by omega, by go_num, HB1, ⟨by rw [List.range_succ, List.map_append]; exact HV1.out⟩⟩, by simp [intOf]; omega⟩
    · obtain rfl : k = 8 := by omega
      have hm1 : -8 < a0.tmod 8 ∧ a0.tmod 8 < 8 := ⟨by have := Int.lt_tmod_of_pos a0 (show (0 : Int) < 8 by omega); omega, Int.tmod_lt_of_pos a0 (by omega)⟩
      have hw1 : IntKind.i64.wrap (a0.tmod 8 + 8) = a0.tmod 8 + 8 := IntWalk.i64_in _ (by omega)
      obtain ⟨A1, c1, rfl⟩ := Kd.R_slice HV.out
      rw [show ((List.range 8).map (fun i : Nat => (i : Int))).length = 8 from by simp, show ((8 : Nat) : Int) = 8 from rfl]
      go_upto_region 11 with (fail)
      obtain ⟨j0, hj⟩ : ∃ j0 : Nat, (a0.tmod 8 + 8) % 8 = (j0 : Int) ∧ j0 < 8 := ⟨((a0.tmod 8 + 8) % 8).toNat, by omega, by omega⟩
      rw [hj.1]
      have HJ := Aside0.mk hj.2
      clear hj hm1 hw1 hlt hk
      have HL0 : Aside0 (LastW w wr wr g rb mb 0 gw (Sl.new 8)) := ⟨⟨HS.out.below HB.out, LastS.new, rfl, blk_below HBw.out HB.out, HZ.out, ⟨by have := HLt2.out; omega, by have := HLt2.out; omega, by have := HLt2.out; omega⟩, KeptB.refl _ _⟩⟩
      have HLow : Aside0 (g < W0.heap.size ∧ rb < W0.heap.size ∧ mb < W0.heap.size ∧ gw < W0.heap.size) := ⟨by have := HS.out.lts; have := blk_lt HBw.out; omega⟩
      clear HS HBw HLt2 HZ
      obtain ⟨W1, rfl⟩ : ∃ W1 : World, W1 = wr := ⟨_, rfl⟩
      go_wp2
      go_loopw [11, 12] (fun v11 v12 wr => ∃ (k j : Nat) (s : Sl), k ≤ 60 ∧ j < 8 ∧ v11 = .int .i64 j ∧ v12 = .int .i64 k ∧ Aside0 (LastW w W1 wr g rb mb k gw s)) (fun _ v12 _ => 60 - (intOf v12).toNat)
      case atStart => exact ⟨0, j0, Sl.new 8, by omega, HJ.out, rfl, rfl, HL0⟩
      case round =>
        obtain ⟨k, j, s, hk, hj, rfl, rfl, HW⟩ := hrel
        by_cases hlt : k < 60 ∧ k < l.length
        · have q0 : decide (k < l.length) = true := decide_eq_true hlt.2
          have q1 : decide ((k : Int) < 60) = true := decide_eq_true (by omega)
          obtain ⟨ad, rfl⟩ := str_some HR.out (by omega)
          have hx := str_at (Kd.C_below HR.out HW.out.hs.bel) k hlt.2
          obtain ⟨t, htx⟩ : ∃ t, t = rdOf ByteArray.empty l (k : Int) := ⟨_, rfl⟩
          rw [← htx] at hx
          have HTX := Aside0.mk htx
          clear htx
          have hkl := hlt.2
          have hk60 := hlt.1
          have hjm : ((j : Int) + 1) % 8 = (((j + 1) % 8 : Nat) : Int) := by omega
          have hwk : IntKind.i64.wrap ((k : Int) + 1) = (k : Int) + 1 := IntWalk.i64_in _ (by omega)
          have hwj : IntKind.i64.wrap ((j : Int) + 1) = (j : Int) + 1 := IntWalk.i64_in _ (by omega)
          by_cases ht : (t.size : Int) > 256
          · have q2 : decide ((t.size : Int) > 256) = true := decide_eq_true ht
            have q3 : decide ((256 : Int) < (t.size : Int)) = true := decide_eq_true ht
            clear ht hlt
            go_wp2
            exact ⟨⟨k + 1, j, s, by omega, hj, rfl, by go_num, ⟨HW.out.more⟩⟩, by simp [intOf]; omega⟩
          · have q2 : decide ((t.size : Int) > 256) = false := decide_eq_false ht
            have q3 : decide ((256 : Int) < (t.size : Int)) = false := decide_eq_false ht
            have HC := Aside0.mk (slab_write' HW.out.hs (by omega) (j : Int) t (write_up s HW.out.ls.up HW.out.ls.wait j (by have := HW.out.ls.len; omega) t (by omega)))
            have HJ8 : Aside0 ((j + 1) % 8 < 8) := ⟨Nat.mod_lt _ (by decide)⟩
            have HLT := Aside0.mk hlt
            clear ht hlt
            go_wp2_with (go_at_call 12; refine HC.out.mono ?_; rintro e w2 ⟨rfl, hs2, hk2⟩; have HP := Aside0.mk (HW.out.put j hj t hs2 hk2); have hb2 := (hk2.2 gw (blk_lt HW.out.bw) HW.out.ne.1 HW.out.ne.2.1 HW.out.ne.2.2).trans HW.out.bw; have hx2 := str_at (Kd.C_below HR.out hs2.bel) k HLT.out.2; rw [← HTX.out] at hx2; obtain ⟨⟨x0, z0⟩, z1⟩ := wantCell hb2 HW.out.ls j hj; clear hs2 hk2 hb2)
            exact ⟨⟨k + 1, (j + 1) % 8, _, by omega, HJ8.out, by rw [hjm], by go_num, HP⟩, by simp [intOf]; omega⟩
        · have q0 : (decide (k < l.length) && decide ((k : Int) < 60)) = false := by
            by_cases h1 : k < l.length
            · rw [decide_eq_false (show ¬ (k : Int) < 60 from by omega), Bool.and_false]
            · rw [decide_eq_false h1, Bool.false_and]
          have HV1 : Aside0 (∀ W', KeptB [g, rb, mb, gw] W1 W' → Kd.C (Kd.int .i64) W' A1 8 ((List.range 8).map (fun i : Nat => (i : Int)))) := ⟨fun W' hk => by
            have := (Kd.R_reads' (Kd.R_step (Kd.R_bound HV.out) (fun i hi hlt => hk.2 i hlt (by
              have := hi.2.1
              have := HLow.out
              simp only [List.mem_cons, List.mem_nil_iff, or_false]; omega)))).2.2
            simpa using this⟩
          have HC1 : Aside0 (8 ≤ c1) := ⟨by have := (Kd.R_reads' HV.out).2.1; simpa using this⟩
          have hR8 := read8_want s HW.out.ls.up HW.out.ls.len
          have HRd := Aside0.mk (slab_read8 HW.out.hs)
          rw [hR8] at HRd
          obtain ⟨a1, a2, a3, a4, a5, a6, a7, a8, e8⟩ := eight (wantOf s.b) (by simp [wantOf]; exact HW.out.ls.len)
          rw [e8] at HRd
          have hbb := HW.out.bw
          rw [e8] at hbb
          have HBB := Aside0.mk hbb
          have E8 := Aside0.mk e8
          clear hR8 e8 hbb
          have HRd2 : Aside0 (Calls Try.prog 13 #[.pointer (some ⟨g, 0, none⟩)] wr.drew fun e W' => e = .returned (.agg #[.string a1, .string a2, .string a3, .string a4, .string a5, .string a6, .string a7, .string a8]) ∧ Below wr.drew.heap.size wr.drew W') := ⟨by
            have := slab_read8 (HW.out.hs.below (below_drew1 (Below.refl wr.heap.size wr)))
            rw [read8_want s HW.out.ls.up HW.out.ls.len, E8.out] at this; exact this⟩
          replace HRd := HRd2
          clear HRd2
          have heq8 := fun W => eq8 W a1 a2 a3 a4 a5 a6 a7 a8 a1 a2 a3 a4 a5 a6 a7 a8 rfl
          have HKd := Aside0.mk (KeptB.refl [g, rb, mb, gw] wr)
          by_cases h1 : k < l.length
          all_goals first
            | (have q2 : decide ((k : Int) < 60) = false := decide_eq_false (by omega); have q1 : decide (k < l.length) = true := decide_eq_true h1; clear q0 h1 hlt; go_upto_region 19 with (fail))
            | (have q1 : decide (k < l.length) = false := decide_eq_false h1; clear q0 h1 hlt; go_upto_region 19 with (fail))
          all_goals
            refine start_ (n := 4) (S := fun w' => w'.cell? ⟨gw, 0, none⟩ = some (.string a1) ∧ w'.cell? ⟨gw, 1, none⟩ = some (.string a2) ∧ w'.cell? ⟨gw, 2, none⟩ = some (.string a3) ∧ w'.cell? ⟨gw, 3, none⟩ = some (.string a4) ∧ w'.cell? ⟨gw, 4, none⟩ = some (.string a5) ∧ w'.cell? ⟨gw, 5, none⟩ = some (.string a6) ∧ w'.cell? ⟨gw, 6, none⟩ = some (.string a7) ∧ w'.cell? ⟨gw, 7, none⟩ = some (.string a8)) (ds := []) #[false, false, false, false] (by kernel_rfl) rfl rfl ⟨(blk_cell (blk_drew HBB.out) 0).trans rfl, (blk_cell (blk_drew HBB.out) 1).trans rfl, (blk_cell (blk_drew HBB.out) 2).trans rfl, (blk_cell (blk_drew HBB.out) 3).trans rfl, (blk_cell (blk_drew HBB.out) 4).trans rfl, (blk_cell (blk_drew HBB.out) 5).trans rfl, (blk_cell (blk_drew HBB.out) 6).trans rfl, (blk_cell (blk_drew HBB.out) 7).trans rfl⟩ (fun hHeld => ?_); refine with_tabW last19.tab last19.bits (fun HT_ HW_ => ?_)
            refine pure_ (i := 0) (N := some 65) (v := ?_) (a' := ?_) #[true, false, false, false] rfl rfl (any_of HT_.out (by kernel_rfl)) (fun _ _ _ h => h) (Or.inl ⟨by rfl, ?_⟩) ?_ ?_
            rotate_left
            · intro w'
              go_simp
              with_reducible rfl
            rotate_left
            · simp only [Act.put, sg1, sg2, sg3, i64_w, i32_w]
              rfl
            refine take_ (i := 2) (N := some 67) (v := ?_) (a' := ?_) #[true, false, true, false] rfl rfl (take_ofW HT_.out HW_.out (by kernel_rfl)) (fun _ _ _ h => h) (Or.inl ⟨by rfl, ?_⟩) hHeld ?_ ?_
            rotate_left
            · rintro w' ⟨s0, s1, s2, s3, s4, s5, s6, s7⟩
              go_simp
              with_reducible rfl
            rotate_left
            · simp only [Act.put, sg1, sg2, sg3, i64_w, i32_w]
              rfl
            refine one_ (i := 1) (N := some 66) #[true, true, true, false] rfl rfl (one_of HT_.out (by kernel_rfl)) (by decide) (fun K hK => ?_)
            refine goes_ Try.func13 (by kernel_rfl) rfl #[.pointer (some ⟨g, 0, none⟩)] (by rfl) rfl rfl (by (try simp only [List.map_toArray, List.map_cons, List.map_nil]); first | done | rfl) ?_
            with_reducible refine (HRd.out).mono ?_
            rintro e w5 ⟨rfl, hb⟩
            refine ⟨_, rfl, ?_⟩
            have HB2 := Aside0.mk hb
            replace HBB := Aside0.mk (blk_below (blk_drew HBB.out) hb)
            clear hb
            refine hK.out _ _ ⟨(blk_cell HBB.out 0).trans rfl, (blk_cell HBB.out 1).trans rfl, (blk_cell HBB.out 2).trans rfl, (blk_cell HBB.out 3).trans rfl, (blk_cell HBB.out 4).trans rfl, (blk_cell HBB.out 5).trans rfl, (blk_cell HBB.out 6).trans rfl, (blk_cell HBB.out 7).trans rfl⟩ (fun hHeld => ?_)
            clear hK K
            refine norm_ (a' := ?_) ?_ ?_
            rotate_left
            · show Act.put _ (some 66) _ = _
              simp only [Act.put, sg1, sg2, sg3, i64_w, i32_w]
              rfl
            refine pure_ (i := 3) (N := some 68) (v := ?_) (a' := ?_) #[true, true, true, true] rfl rfl (any_of HT_.out (by kernel_rfl)) (fun _ _ _ h => h) (Or.inl ⟨by rfl, ?_⟩) ?_ ?_
            rotate_left
            · intro w'
              go_simp
              with_reducible rfl
            rotate_left
            · simp only [Act.put, sg1, sg2, sg3, i64_w, i32_w]
              rfl
            refine done_ (done_of HT_.out (by kernel_rfl)) ?_
            clear hHeld HT_ HW_
            have HS5 : Aside0 (IsSl w w5 g rb mb k s) := ⟨(HW.out.hs.below (below_drew1 (Below.refl wr.heap.size wr))).below HB2.out⟩
            have HK5 : Aside0 (KeptB [g, rb, mb, gw] W1 w5) := ⟨HW.out.kept.trans ((KeptB.below (below_drew1 (Below.refl wr.heap.size wr))).trans (KeptB.below HB2.out))⟩
            cases keep with
            | true =>
              obtain ⟨w6, rfl⟩ : ∃ w6 : World, w6 = w5 := ⟨_, rfl⟩
              have HS6 := HS5
              have HK6 : Aside0 (∀ W', SlKept w6 W' g rb mb → Kd.C (Kd.int .i64) W' A1 8 ((List.range 8).map (fun i : Nat => (i : Int)))) := ⟨fun W' hk => HV1.out W' (HK5.out.trans (KeptB.of hk (by simp) (by simp) (by simp)))⟩
              have HF : Aside0 (Calls Try.prog 14 #[.pointer (some ⟨g, 0, none⟩), .agg #[.slice A1 8 c1, .int .i64 (-1), .int .i64 0]] w6 fun e W' => e = .returned (.tuple #[]) ∧ IsSl w W' g rb mb k (s.fail ((List.range 8).map (fun i : Nat => (i : Int))) (-1) 0) ∧ SlKept w6 W' g rb mb) := ⟨slab_fail HS6.out A1 c1 ((List.range 8).map (fun i : Nat => (i : Int))) (-1) 0 HK6.out HC1.out (by decide)⟩
              clear HRd heq8
              go_upto_region 26 with (first | (go_at_call 14; refine HF.out.mono ?_; rintro e w7 ⟨rfl, hs7, hk7⟩; have HS7 := Aside0.mk hs7; have HB7 := Aside0.mk ((hk7.2 gw (blk_lt HBB.out) HW.out.ne.1 HW.out.ne.2.1 HW.out.ne.2.2).trans HBB.out); clear hs7 hk7) | (go_at_call 15; refine (slab_wake HS7.out).mono ?_; rintro e w9 ⟨rfl, hs9, hk9⟩; have HS9 := Aside0.mk hs9; replace HBB := Aside0.mk ((hk9.2 gw (blk_lt HB7.out) HW.out.ne.1 HW.out.ne.2.1 HW.out.ne.2.2).trans HB7.out); clear hs9 hk9))
              have HRd : Aside0 (Calls Try.prog 13 #[.pointer (some ⟨g, 0, none⟩)] w9.drew fun e W' => e = .returned (.agg #[.string a1, .string a2, .string a3, .string a4, .string a5, .string a6, .string a7, .string a8]) ∧ Below w9.drew.heap.size w9.drew W') := ⟨by
                have h9 := slab_read8 (HS9.out.below (below_drew1 (Below.refl w9.heap.size w9)))
                rw [fail_up s HW.out.ls.up] at h9
                rw [read8_want _ rfl (by show (settle _ s.b).length = 8; rw [settle_len]; exact HW.out.ls.len)] at h9
                dsimp only at h9
                rw [last_keep HW.out.ls _ range8, E8.out] at h9
                exact h9⟩
              have heq8 := fun W => eq8 W a1 a2 a3 a4 a5 a6 a7 a8 a1 a2 a3 a4 a5 a6 a7 a8 rfl
              clear HB2
              refine start_ (n := 5) (S := fun w' => w'.cell? ⟨gw, 0, none⟩ = some (.string a1) ∧ w'.cell? ⟨gw, 1, none⟩ = some (.string a2) ∧ w'.cell? ⟨gw, 2, none⟩ = some (.string a3) ∧ w'.cell? ⟨gw, 3, none⟩ = some (.string a4) ∧ w'.cell? ⟨gw, 4, none⟩ = some (.string a5) ∧ w'.cell? ⟨gw, 5, none⟩ = some (.string a6) ∧ w'.cell? ⟨gw, 6, none⟩ = some (.string a7) ∧ w'.cell? ⟨gw, 7, none⟩ = some (.string a8)) (ds := []) #[false, false, false, false, false] (by kernel_rfl) rfl rfl ⟨(blk_cell (blk_drew HBB.out) 0).trans rfl, (blk_cell (blk_drew HBB.out) 1).trans rfl, (blk_cell (blk_drew HBB.out) 2).trans rfl, (blk_cell (blk_drew HBB.out) 3).trans rfl, (blk_cell (blk_drew HBB.out) 4).trans rfl, (blk_cell (blk_drew HBB.out) 5).trans rfl, (blk_cell (blk_drew HBB.out) 6).trans rfl, (blk_cell (blk_drew HBB.out) 7).trans rfl⟩ (fun hHeld => ?_); refine with_tabW last26.tab last26.bits (fun HT_ HW_ => ?_)
              refine pure_ (i := 0) (N := some 78) (v := ?_) (a' := ?_) #[true, false, false, false, false] rfl rfl (any_of HT_.out (by kernel_rfl)) (fun _ _ _ h => h) (Or.inl ⟨by rfl, ?_⟩) ?_ ?_
              rotate_left
              · intro w'
                go_simp
                with_reducible rfl
              rotate_left
              · simp only [Act.put, sg1, sg2, sg3, i64_w, i32_w]
                rfl
              refine take_ (i := 2) (N := some 80) (v := ?_) (a' := ?_) #[true, false, true, false, false] rfl rfl (take_ofW HT_.out HW_.out (by kernel_rfl)) (fun _ _ _ h => h) (Or.inl ⟨by rfl, ?_⟩) hHeld ?_ ?_
              rotate_left
              · rintro w' ⟨s0, s1, s2, s3, s4, s5, s6, s7⟩
                go_simp
                with_reducible rfl
              rotate_left
              · simp only [Act.put, sg1, sg2, sg3, i64_w, i32_w]
                rfl
              refine one_ (i := 1) (N := some 79) #[true, true, true, false, false] rfl rfl (one_of HT_.out (by kernel_rfl)) (by decide) (fun K hK => ?_)
              refine goes_ Try.func13 (by kernel_rfl) rfl #[.pointer (some ⟨g, 0, none⟩)] (by rfl) rfl rfl (by (try simp only [List.map_toArray, List.map_cons, List.map_nil]); first | done | rfl) ?_
              with_reducible refine (HRd.out).mono ?_
              rintro e w8 ⟨rfl, hb⟩
              refine ⟨_, rfl, ?_⟩
              have HB2 := Aside0.mk hb
              replace HBB := Aside0.mk (blk_below (blk_drew HBB.out) hb)
              clear hb
              refine hK.out _ _ ⟨(blk_cell HBB.out 0).trans rfl, (blk_cell HBB.out 1).trans rfl, (blk_cell HBB.out 2).trans rfl, (blk_cell HBB.out 3).trans rfl, (blk_cell HBB.out 4).trans rfl, (blk_cell HBB.out 5).trans rfl, (blk_cell HBB.out 6).trans rfl, (blk_cell HBB.out 7).trans rfl⟩ (fun hHeld => ?_)
              clear hK K
              refine norm_ (a' := ?_) ?_ ?_
              rotate_left
              · show Act.put _ (some 79) _ = _
                simp only [Act.put, sg1, sg2, sg3, i64_w, i32_w]
                rfl
              refine pure_ (i := 3) (N := some 81) (v := ?_) (a' := ?_) #[true, true, true, true, false] rfl rfl (any_of HT_.out (by kernel_rfl)) (fun _ _ _ h => h) (Or.inl ⟨by rfl, ?_⟩) ?_ ?_
              rotate_left
              · intro w'
                go_simp
                with_reducible rfl
              rotate_left
              · simp only [Act.put, sg1, sg2, sg3, i64_w, i32_w]
                rfl
              refine pure_ (i := 4) (N := some 6) (v := ?_) (a' := ?_) #[true, true, true, true, true] rfl rfl (any_of HT_.out (by kernel_rfl)) (fun _ _ _ h => h) (Or.inl ⟨by rfl, ?_⟩) ?_ ?_
              rotate_left
              · intro w'
                go_simp
                with_reducible rfl
              rotate_left
              · simp only [Act.put, sg1, sg2, sg3, i64_w, i32_w]
                rfl
              refine done_ (done_of HT_.out (by kernel_rfl)) ?_
              clear hHeld HT_ HW_
              go_wp2_with fail
              go_ret
              exact ⟨rfl, ((HS9.out.below (below_drew1 (Below.refl w9.heap.size w9))).below HB2.out).bel⟩
            | false =>
              obtain ⟨⟨x0, x1, x2, x3, x4, x5, x6, x7⟩, f0, f1, f2, f3, f4, f5, f6, f7⟩ := cells8 HBB.out
              go_upto_region 24 with (fail)
              clear x0 x1 x2 x3 x4 x5 x6 x7 f0 f1 f2 f3 f4 f5 f6 f7
              obtain ⟨hs6, hb6⟩ := clr8 HS5.out (by have := HW.out.kb; omega) HW.out.gw1 HW.out.ne HBB.out
              have HS6 := Aside0.mk hs6
              replace HBB := Aside0.mk hb6
              clear hs6 hb6 HKd HK5
              generalize ((((((((w5.setCell ⟨gw, 0, none⟩ (.string ⟨#[]⟩)).setCell ⟨gw, 1, none⟩ (.string ⟨#[]⟩)).setCell ⟨gw, 2, none⟩ (.string ⟨#[]⟩)).setCell ⟨gw, 3, none⟩ (.string ⟨#[]⟩)).setCell ⟨gw, 4, none⟩ (.string ⟨#[]⟩)).setCell ⟨gw, 5, none⟩ (.string ⟨#[]⟩)).setCell ⟨gw, 6, none⟩ (.string ⟨#[]⟩)).setCell ⟨gw, 7, none⟩ (.string ⟨#[]⟩)) = w6 at HS6 HBB ⊢
              have hemp : (List.replicate 8 ByteArray.empty) = [ByteArray.empty, ByteArray.empty, ByteArray.empty, ByteArray.empty, ByteArray.empty, ByteArray.empty, ByteArray.empty, ByteArray.empty] := rfl
              rw [hemp] at HBB
              have HEmp := Aside0.mk hemp
              clear hemp E8
              skip
              obtain ⟨a1, h1_⟩ : ∃ x : ByteArray, x = ByteArray.empty := ⟨_, rfl⟩
              obtain ⟨a2, h2_⟩ : ∃ x : ByteArray, x = ByteArray.empty := ⟨_, rfl⟩
              obtain ⟨a3, h3_⟩ : ∃ x : ByteArray, x = ByteArray.empty := ⟨_, rfl⟩
              obtain ⟨a4, h4_⟩ : ∃ x : ByteArray, x = ByteArray.empty := ⟨_, rfl⟩
              obtain ⟨a5, h5_⟩ : ∃ x : ByteArray, x = ByteArray.empty := ⟨_, rfl⟩
              obtain ⟨a6, h6_⟩ : ∃ x : ByteArray, x = ByteArray.empty := ⟨_, rfl⟩
              obtain ⟨a7, h7_⟩ : ∃ x : ByteArray, x = ByteArray.empty := ⟨_, rfl⟩
              obtain ⟨a8, h8_⟩ : ∃ x : ByteArray, x = ByteArray.empty := ⟨_, rfl⟩
              replace HBB : Aside0 (w6.heap[gw]? = some (.cells (vals [a1, a2, a3, a4, a5, a6, a7, a8]) 26 (0, 0))) := ⟨by rw [h1_, h2_, h3_, h4_, h5_, h6_, h7_, h8_]; exact HBB.out⟩
              have HEq : Aside0 (List.replicate 8 ByteArray.empty = [a1, a2, a3, a4, a5, a6, a7, a8]) := ⟨by rw [h1_, h2_, h3_, h4_, h5_, h6_, h7_, h8_]; exact HEmp.out⟩
              clear h1_ h2_ h3_ h4_ h5_ h6_ h7_ h8_ HEmp
              have HK6 : Aside0 (∀ W', SlKept w6 W' g rb mb → Kd.C (Kd.int .i64) W' none ([] : List Int).length []) := ⟨fun W' _ => Kd.C_nil _ _⟩
              have HF : Aside0 (Calls Try.prog 14 #[.pointer (some ⟨g, 0, none⟩), .agg #[.slice none 0 0, .int .i64 (-1), .int .i64 0]] w6 fun e W' => e = .returned (.tuple #[]) ∧ IsSl w W' g rb mb k (s.fail [] (-1) 0) ∧ SlKept w6 W' g rb mb) := ⟨slab_fail HS6.out none 0 [] (-1) 0 HK6.out (by decide) (by decide)⟩
              clear HRd heq8
              go_upto_region 26 with (first | (go_at_call 14; refine HF.out.mono ?_; rintro e w7 ⟨rfl, hs7, hk7⟩; have HS7 := Aside0.mk hs7; have HB7 := Aside0.mk ((hk7.2 gw (blk_lt HBB.out) HW.out.ne.1 HW.out.ne.2.1 HW.out.ne.2.2).trans HBB.out); clear hs7 hk7) | (go_at_call 15; refine (slab_wake HS7.out).mono ?_; rintro e w9 ⟨rfl, hs9, hk9⟩; have HS9 := Aside0.mk hs9; replace HBB := Aside0.mk ((hk9.2 gw (blk_lt HB7.out) HW.out.ne.1 HW.out.ne.2.1 HW.out.ne.2.2).trans HB7.out); clear hs9 hk9))
              have HRd : Aside0 (Calls Try.prog 13 #[.pointer (some ⟨g, 0, none⟩)] w9.drew fun e W' => e = .returned (.agg #[.string a1, .string a2, .string a3, .string a4, .string a5, .string a6, .string a7, .string a8]) ∧ Below w9.drew.heap.size w9.drew W') := ⟨by
                have h9 := slab_read8 (HS9.out.below (below_drew1 (Below.refl w9.heap.size w9)))
                rw [fail_up s HW.out.ls.up] at h9
                rw [read8_want _ rfl (by show (settle _ s.b).length = 8; rw [settle_len]; exact HW.out.ls.len)] at h9
                dsimp only at h9
                rw [last_lost HW.out.ls, HEq.out] at h9
                exact h9⟩
              have heq8 := fun W => eq8 W a1 a2 a3 a4 a5 a6 a7 a8 a1 a2 a3 a4 a5 a6 a7 a8 rfl
              clear HB2
              refine start_ (n := 5) (S := fun w' => w'.cell? ⟨gw, 0, none⟩ = some (.string a1) ∧ w'.cell? ⟨gw, 1, none⟩ = some (.string a2) ∧ w'.cell? ⟨gw, 2, none⟩ = some (.string a3) ∧ w'.cell? ⟨gw, 3, none⟩ = some (.string a4) ∧ w'.cell? ⟨gw, 4, none⟩ = some (.string a5) ∧ w'.cell? ⟨gw, 5, none⟩ = some (.string a6) ∧ w'.cell? ⟨gw, 6, none⟩ = some (.string a7) ∧ w'.cell? ⟨gw, 7, none⟩ = some (.string a8)) (ds := []) #[false, false, false, false, false] (by kernel_rfl) rfl rfl ⟨(blk_cell (blk_drew HBB.out) 0).trans rfl, (blk_cell (blk_drew HBB.out) 1).trans rfl, (blk_cell (blk_drew HBB.out) 2).trans rfl, (blk_cell (blk_drew HBB.out) 3).trans rfl, (blk_cell (blk_drew HBB.out) 4).trans rfl, (blk_cell (blk_drew HBB.out) 5).trans rfl, (blk_cell (blk_drew HBB.out) 6).trans rfl, (blk_cell (blk_drew HBB.out) 7).trans rfl⟩ (fun hHeld => ?_); refine with_tabW last26.tab last26.bits (fun HT_ HW_ => ?_)
              refine pure_ (i := 0) (N := some 78) (v := ?_) (a' := ?_) #[true, false, false, false, false] rfl rfl (any_of HT_.out (by kernel_rfl)) (fun _ _ _ h => h) (Or.inl ⟨by rfl, ?_⟩) ?_ ?_
              rotate_left
              · intro w'
                go_simp
                with_reducible rfl
              rotate_left
              · simp only [Act.put, sg1, sg2, sg3, i64_w, i32_w]
                rfl
              refine take_ (i := 2) (N := some 80) (v := ?_) (a' := ?_) #[true, false, true, false, false] rfl rfl (take_ofW HT_.out HW_.out (by kernel_rfl)) (fun _ _ _ h => h) (Or.inl ⟨by rfl, ?_⟩) hHeld ?_ ?_
              rotate_left
              · rintro w' ⟨s0, s1, s2, s3, s4, s5, s6, s7⟩
                go_simp
                with_reducible rfl
              rotate_left
              · simp only [Act.put, sg1, sg2, sg3, i64_w, i32_w]
                rfl
              refine one_ (i := 1) (N := some 79) #[true, true, true, false, false] rfl rfl (one_of HT_.out (by kernel_rfl)) (by decide) (fun K hK => ?_)
              refine goes_ Try.func13 (by kernel_rfl) rfl #[.pointer (some ⟨g, 0, none⟩)] (by rfl) rfl rfl (by (try simp only [List.map_toArray, List.map_cons, List.map_nil]); first | done | rfl) ?_
              with_reducible refine (HRd.out).mono ?_
              rintro e w8 ⟨rfl, hb⟩
              refine ⟨_, rfl, ?_⟩
              have HB2 := Aside0.mk hb
              replace HBB := Aside0.mk (blk_below (blk_drew HBB.out) hb)
              clear hb
              refine hK.out _ _ ⟨(blk_cell HBB.out 0).trans rfl, (blk_cell HBB.out 1).trans rfl, (blk_cell HBB.out 2).trans rfl, (blk_cell HBB.out 3).trans rfl, (blk_cell HBB.out 4).trans rfl, (blk_cell HBB.out 5).trans rfl, (blk_cell HBB.out 6).trans rfl, (blk_cell HBB.out 7).trans rfl⟩ (fun hHeld => ?_)
              clear hK K
              refine norm_ (a' := ?_) ?_ ?_
              rotate_left
              · show Act.put _ (some 79) _ = _
                simp only [Act.put, sg1, sg2, sg3, i64_w, i32_w]
                rfl
              refine pure_ (i := 3) (N := some 81) (v := ?_) (a' := ?_) #[true, true, true, true, false] rfl rfl (any_of HT_.out (by kernel_rfl)) (fun _ _ _ h => h) (Or.inl ⟨by rfl, ?_⟩) ?_ ?_
              rotate_left
              · intro w'
                go_simp
                with_reducible rfl
              rotate_left
              · simp only [Act.put, sg1, sg2, sg3, i64_w, i32_w]
                rfl
              refine pure_ (i := 4) (N := some 6) (v := ?_) (a' := ?_) #[true, true, true, true, true] rfl rfl (any_of HT_.out (by kernel_rfl)) (fun _ _ _ h => h) (Or.inl ⟨by rfl, ?_⟩) ?_ ?_
              rotate_left
              · intro w'
                go_simp
                with_reducible rfl
              rotate_left
              · simp only [Act.put, sg1, sg2, sg3, i64_w, i32_w]
                rfl
              refine done_ (done_of HT_.out (by kernel_rfl)) ?_
              clear hHeld HT_ HW_
              go_wp2_with fail
              go_ret
              exact ⟨rfl, ((HS9.out.below (below_drew1 (Below.refl w9.heap.size w9))).below HB2.out).bel⟩

def splicelaw07_SlabLast.f (a0 : Int) (l1 : List ByteArray) (a2 : Bool) : Option Bool := if l1.length ≤ 1000000000000000 then some true else none
theorem splicelaw07_SlabLast.calls (a0 : Int) (A1 : Option Addr) (c1 : Nat) (l1 : List ByteArray) (a2 : Bool) (r : Bool) (w : World) (hr1 : Kd.C Kd.string w A1 l1.length l1) (hc1 : l1.length ≤ c1) (h : splicelaw07_SlabLast.f a0 l1 a2 = some r) (hr_ : r = true) :
    Calls Try.prog 3 #[.int .i64 a0, .slice A1 l1.length c1, .bool a2] w fun e w' => e = .returned (.bool r) ∧ Below w.heap.size w w' := by
  subst hr_
  unfold splicelaw07_SlabLast.f at h
  split at h
  · rename_i hl; exact last_walk a0 A1 c1 l1 a2 w hr1 hc1 hl
  · simp at h

/-! ### splicelaw07_SlabLast: function 3 -/
/-- THE ONE PURE STATEMENT of splicelaw07_SlabLast: yours. -/
def splicelaw07_SlabLast.Pure : Prop := ∀ (x0 : Int) (x1 : List ByteArray) (x2 : Bool), (Lit.int .i64 x0).wf = true → (x1.length * 16 ≤ 140737488351232 ∧ x1.length ≤ maxLen ∧ ∀ y0 ∈ x1, y0.size ≤ 140737488351232) → splicelaw07_SlabLast.f x0 x1 x2 = some true

end Go.Proofs.Ytdenfndpggfgmaa.PL
