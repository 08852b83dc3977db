-- written by a program of this session
import Derived.Test.YtdenfndpggfgmaaPDx0
import Derived.Test.YtdenfndpggfgmaaPDx1
import Derived.Test.YtdenfndpggfgmaaPDx2
namespace Go.Proofs.Ytdenfndpggfgmaa.PD
open Go.RowKit Go.Proofs.Ytdenfndpggfgmaa.Op Go.Proofs.YtdenfndpggfgmaaW.PrintWords Go.Proofs.YtdenfndpggfgmaaW.PrintLast Go.Proofs.YtdenfndpggfgmaaW.PrintMore
attribute [local go_sem] max2_int min2_int max_two min_two max_three min_three max_four min_four   -- for this text's walks alone
set_option linter.unusedVariables false
set_option linter.unusedSimpArgs false

/-! ### splicelaw07_SlabLast: function 3 (by hand) -/
def wantOf (b : List (ByteArray × Option ByteArray)) : List ByteArray := b.map (fun x => match x.2 with | none => x.1 | some t => t)
structure LastS (s : Sl) : Prop where
  len : s.b.length = 8
  emp : ∀ x ∈ s.b, x.1 = ByteArray.empty
  up : s.down = false
  wait : s.wait = 0
theorem LastS.new : LastS (Sl.new 8) := ⟨by simp [Sl.new], fun x hx => by have := List.eq_of_mem_replicate hx; rw [this], rfl, rfl⟩
theorem write_up (s : Sl) (hd : s.down = false) (hw : s.wait = 0) (i : Nat) (hi : i < s.b.length) (t : ByteArray) (ht : t.size ≤ 256) : s.write (i : Int) t = ({ s with b := putB s.b i t }, 0) := by
  have e0 : rdy s (hasB s (i : Int) && decide ((t.size : Int) ≤ 256)) = 0 := by
    have : (hasB s (i : Int) && decide ((t.size : Int) ≤ 256)) = true := by simp [hasB]; omega
    rw [this]; exact rdy_up s hd
  unfold Sl.write
  rw [if_neg (by rw [e0]; simp), Int.toNat_natCast]
  have et : ({ s with b := putB s.b i t } : Sl).tick = ({ s with b := putB s.b i t }, false) := by unfold Sl.tick; rw [if_neg (by show ¬ 0 < s.wait; omega)]
  rw [et]; rfl
theorem LastS.put {s : Sl} (h : LastS s) (i : Nat) (t : ByteArray) : LastS { s with b := putB s.b i t } :=
  ⟨by rw [putB_len]; exact h.len, fun x hx => by
    unfold putB at hx
    obtain ⟨j, hj, rfl⟩ := List.mem_mapIdx.1 hx
    have := h.emp _ (List.getElem_mem hj)
    split <;> exact this, h.up, h.wait⟩
theorem wantOf_put (b : List (ByteArray × Option ByteArray)) (i : Nat) (hi : i < b.length) (t : ByteArray) : wantOf (putB b i t) = (wantOf b).set i t := by
  unfold wantOf
  refine List.ext_getElem? (fun j => ?_)
  rw [List.getElem?_map, putB_get, List.getElem?_set, List.getElem?_map, List.length_map]
  by_cases e : i = j
  · subst e; rw [if_pos rfl, if_pos hi, List.getElem?_eq_getElem hi]; simp
  · rw [if_neg e]
    cases b[j]? with
    | none => rfl
    | some x => simp [Ne.symm e]
theorem read_up (s : Sl) (hd : s.down = false) (i : Nat) (hi : i < s.b.length) : (s.read (i : Int)).1 = (wantOf s.b)[i]'(by simpa [wantOf] using hi) := by
  have e0 : rdy s (hasB s (i : Int)) = 0 := by
    have : hasB s (i : Int) = true := by simp [hasB]; omega
    rw [this]; exact rdy_up s hd
  unfold Sl.read
  rw [if_neg (by rw [e0]; simp), Int.toNat_natCast, List.getElem?_eq_getElem hi]
  simp only [wantOf, List.getElem_map]
  cases h : s.b[i] with
  | mk x o => cases o <;> rfl
theorem read8_want (s : Sl) (hd : s.down = false) (hl : s.b.length = 8) : read8 s 8 = wantOf s.b := by
  unfold read8
  refine List.ext_getElem (by simp [wantOf, hl]) (fun i h1 h2 => ?_)
  simp only [List.length_map, List.length_range] at h1
  rw [List.getElem_map, List.getElem_range, if_pos h1, read_up s hd i (by omega)]
theorem fail_up (s : Sl) (hd : s.down = false) (ks : List Int) (tr at_ : Int) : s.fail ks tr at_ = { s with b := settle (failF ks tr at_) s.b, down := true } := by
  unfold Sl.fail; rw [if_neg (by rw [hd]; decide)]
theorem wantOf_settle (F) (b : List (ByteArray × Option ByteArray)) : wantOf (settle F b) = b.mapIdx (finB F (fun _ => false)) := by
  unfold wantOf settle
  refine List.ext_getElem? (fun j => ?_)
  rw [List.getElem?_map, List.getElem?_mapIdx, List.getElem?_mapIdx]
  cases b[j]? <;> rfl
theorem last_keep {s : Sl} (h : LastS s) (ks : List Int) (hk : ∀ i : Nat, i < 8 → ks.contains (i : Int) = true) : wantOf (settle (failF ks (-1) 0) s.b) = wantOf s.b := by
  rw [wantOf_settle]
  unfold wantOf
  refine List.ext_getElem? (fun j => ?_)
  rw [List.getElem?_map, List.getElem?_mapIdx]
  cases e : s.b[j]? with
  | none => rfl
  | some x =>
    have hj := (List.getElem?_eq_some_iff.1 e).1
    obtain ⟨x, o⟩ := x
    cases o with
    | none => rfl
    | some t =>
      have := hk j (by have := h.len; omega)
      simp only [Option.map_some, finB, failF, this]; rfl
theorem last_lost {s : Sl} (h : LastS s) : wantOf (settle (failF [] (-1) 0) s.b) = List.replicate 8 ByteArray.empty := by
  rw [wantOf_settle]
  refine List.ext_getElem? (fun j => ?_)
  rw [List.getElem?_mapIdx]
  cases e : s.b[j]? with
  | none => rw [List.getElem?_eq_none (by have := List.getElem?_eq_none_iff.1 e; have := h.len; simp; omega)]; rfl
  | some x =>
    obtain ⟨hj, hx⟩ := List.getElem?_eq_some_iff.1 e
    have he := h.emp x (hx ▸ List.getElem_mem hj)
    rw [List.getElem?_replicate, if_pos (by have := h.len; omega)]
    obtain ⟨x, o⟩ := x
    dsimp only at he
    subst he
    cases o with
    | none => rfl
    | some t =>
      simp only [Option.map_some, finB, failF]
      rw [if_neg (by decide), if_neg (by simp), if_neg (by omega)]

/-! ### splicelaw07_SlabDown: function 4 (by hand) -/
theorem flush_up (s : Sl) (hd : s.down = false) (hw : s.wait = 0) : s.flush = ({ s with b := settle newF s.b }, 0) := by
  unfold Sl.flush
  have et : s.tick = (s, false) := by unfold Sl.tick; rw [if_neg (by omega)]
  rw [if_neg (by rw [hd]; decide), et]; rfl
def okAct (x : S38) : Prop := -9223372036854775808 ≤ x.f1 ∧ x.f1 ≤ 9223372036854775807
instance (x : S38) : Decidable (okAct x) := by unfold okAct; infer_instance
theorem light_calls (x : S38) {A : Option Addr} {c : Nat} (W : World) (hk : Kd.C (Kd.int .i64) W A x.f3.f0.length x.f3.f0) (hc : x.f3.f0.length ≤ c) :
    Calls Try.prog 17 #[.agg #[.int .i64 x.f0, .int .i64 x.f1, .string x.f2, .slice A x.f3.f0.length c, .int .i64 x.f3.f1, .int .i64 x.f3.f2]] W fun e W' => e = .returned (.bool (decide ((x.f2.size : Int) ≤ 2000) && decide ((x.f3.f0.length : Int) ≤ 50))) ∧ Below W.heap.size W W' := by
  refine splicelaw07_light.calls x.f0 x.f1 x.f2 A c x.f3.f0 x.f3.f1 x.f3.f2 _ W hk hc ?_
  unfold splicelaw07_light.f
  by_cases h : (x.f2.size : Int) ≤ 2000
  · rw [if_pos h, decide_eq_true h, Bool.true_and]
  · rw [if_neg h, decide_eq_false h, Bool.false_and]
theorem read_down (s : Sl) (hd : s.down = true) (i : Int) : s.read i = (ByteArray.empty, 9) := by
  unfold Sl.read; rw [rdy_down s _ hd]; rfl
theorem cell_below {W W' : World} (hb : Below W.heap.size W W') {a : Addr} {v : Value} (h : W.cell? a = some v) : W'.cell? a = some v := (hb.cell (World.block_lt_of_cell? W a h)).trans h
section
variable {w W : World} {g rb mb n : Nat} {s : Sl}
theorem IsSl.drewN (h : IsSl w W g rb mb n s) (m : Nat) : IsSl w (W.drewN m) g rb mb n s := h.below (pw_below_drewN (Below.refl _ _) m)
theorem slab_write_q (h : IsSl w W g rb mb n s) (hd : s.down = true) (m : Nat) (i : Int) (t : ByteArray) :
    Calls Try.prog 12 #[.pointer (some ⟨g, 0, none⟩), .int .i64 i, .string t] (W.drewN m) fun e W' => e = .returned (.int .i64 9) ∧ W' = W.drewN m := by
  have e9 := rdy_down s (hasB s i && decide ((t.size : Int) ≤ 256)) hd
  have := slab_write_no (h.drewN m) i t (by rw [e9]; decide)
  rw [e9] at this
  exact this.mono fun e W' h => ⟨h.1, h.2.symm⟩
theorem slab_flush_q (h : IsSl w W g rb mb n s) (hd : s.down = true) (m : Nat) :
    Calls Try.prog 16 #[.pointer (some ⟨g, 0, none⟩)] (W.drewN m) fun e W' => e = .returned (.int .i64 9) ∧ W' = W.drewN m :=
  (slab_flush_down (h.drewN m) hd).mono fun e W' h => ⟨h.1, h.2.symm⟩
theorem slab_down_q (h : IsSl w W g rb mb n s) (m : Nat) :
    Calls Try.prog 19 #[.pointer (some ⟨g, 0, none⟩)] (W.drewN m) fun e W' => e = .returned (.bool s.down) ∧ W' = W.drewN m :=
  (slab_down (h.drewN m)).mono fun e W' h => ⟨h.1, h.2.symm⟩
end
/-- a slab that is down -/
structure DownS (t : ByteArray) (s : Sl) : Prop where
  len : s.b.length = 8
  two : s.b[2]? = some (t, none)
  down : s.down = true
set_option maxRecDepth 100000 in
set_option maxHeartbeats 4000000 in
theorem down_walk (t : ByteArray) (A : Option Addr) (c : Nat) (l : List S38) (w : World) (hr : Kd.C k38 w A l.length l) (hc : l.length ≤ c) (hl : ∀ x ∈ l, okAct x) (ht : (t.size : Int) ≤ 256) :
    Calls Try.prog 4 #[.string t, .slice A l.length c] w fun e w' => e = .returned (.bool true) ∧ Below w.heap.size w w' := by
  have HN := Aside0.mk (slab_new_yes (Below.refl w.heap.size w) 8 (by omega) (by omega))
  have HR := Aside0.mk hr
  have HL := Aside0.mk hl
  have HT := Aside0.mk ht
  have q0 : decide ((t.size : Int) > 256) = false := decide_eq_false (by omega)
  have q1 : decide ((256 : Int) < (t.size : Int)) = false := decide_eq_false (by omega)
  clear hr hc hl ht
  go_enter Try.func4, Try.ntmps4
  go_upto_region 4 with (first | (go_at_call 10; refine HN.out.mono ?_; rintro e w1 ⟨rfl, hs, hb⟩; have HS := Aside0.mk hs; clear hs hb) | (go_at_call 11; refine (awake07 _).mono ?_; rintro e w2 ⟨rfl, hb⟩; replace HS := Aside0.mk (HS.out.below hb); clear hb))
  clear HN q0 q1
  generalize w.heap.size + 1 + 1 = g at HS ⊢
  generalize w.heap.size + 1 = mb at HS
  obtain ⟨rb, hrb⟩ : ∃ rb, rb = w.heap.size := ⟨_, rfl⟩
  rw [← hrb] at HS
  clear hrb
  have HC := Aside0.mk (slab_write' HS.out (by omega) 2 t (write_up (Sl.new 8) rfl rfl 2 (by simp [Sl.new]) t (by have := HT.out; omega)))
  have HC2 := Aside0.mk (fun (W : World) (h : IsSl w W g rb mb 1 _) => slab_flush' h (flush_up { Sl.new 8 with b := putB (Sl.new 8).b 2 t } rfl rfl))
  go_upto_region 6 with (first | (go_at_call 12; refine HC.out.mono ?_; rintro e w3 ⟨rfl, hs, hb⟩; have HS3 := Aside0.mk hs; clear hs hb) | (go_at_call 16; refine (HC2.out _ HS3.out).mono ?_; rintro e w4 ⟨rfl, hs, hb⟩; have HS4 := Aside0.mk hs; clear hs hb))
  have hF := slab_fail_up HS4.out none 0 [] 0 0 (fun W' _ => Kd.C_nil _ _) (by decide) (by decide) rfl
  have HF := Aside0.mk hF
  clear HC HC2 hF HS HS3
  go_upto_region 7 with (go_at_call 14; refine HF.out.mono ?_; rintro e w5 ⟨rfl, hs, hb⟩; have HS5 := Aside0.mk hs; clear hs hb)
  obtain ⟨s5, hs5, hd5⟩ : ∃ s5, IsSl w w5 g rb mb 1 s5 ∧ DownS t s5 := ⟨_, HS5.out, by simp [settle, putB, Sl.new], rfl, rfl⟩
  replace HS5 := Aside0.mk hs5
  have HD5 := Aside0.mk hd5
  clear hs5 hd5 HF HS4
  go_wp2
  go_loopw [6] (fun v6 wr => ∃ (k : Nat) (s : Sl), k ≤ 20 ∧ v6 = .int .i64 k ∧ Aside0 (IsSl w wr g rb mb 1 s) ∧ Aside0 (DownS t s)) (fun v6 _ => 20 - (intOf v6).toNat)
  case atStart => exact ⟨0, s5, by omega, rfl, HS5, HD5⟩
  case round =>
    obtain ⟨k, s, hk, rfl, HS, HD⟩ := hrel
    by_cases hlt : k < 20 ∧ k < l.length
    · have q0 : decide (k < l.length) = true := decide_eq_true hlt.2
      have q1 : decide ((k : Int) < 20) = true := decide_eq_true (by omega)
      have hwk : IntKind.i64.wrap ((k : Int) + 1) = (k : Int) + 1 := IntWalk.i64_in _ (by omega)
      obtain ⟨ad, A3, c3, rfl, x0, x1, x2, x3, x4, x5, hc3, hC3⟩ := at_T38 HR.out (k : Int) (by omega) (by omega)
      have hok : okAct (rd_T38 l (k : Int)) := HL.out _ (by unfold rd_T38; rw [Int.toNat_natCast, List.getD_eq_getElem?_getD, List.getElem?_eq_getElem hlt.2]; exact List.getElem_mem _)
      generalize rd_T38 l (k : Int) = x at x0 x1 x2 x3 x4 x5 hc3 hC3 hok
      rw [Int.toNat_natCast] at x0 x1 x2 x3 x4 x5
      have HX := Aside0.mk (And.intro x0 (And.intro x1 (And.intro x2 (And.intro x3 (And.intro x4 x5)))))
      have HLi := Aside0.mk (light_calls x wr (Kd.C_below hC3 HS.out.bel) hc3)
      have HC3 := Aside0.mk (And.intro hc3 hC3)
      have HOk := Aside0.mk hok
      have hk20 := hlt.1
      have hkl := hlt.2
      clear hc3 hC3 hok hlt x0 x1 x2 x3 x4 x5
      obtain ⟨x0, x1, x2, x3, x4, x5⟩ := HX.out
      replace x0 := cell_below HS.out.bel x0
      replace x1 := cell_below HS.out.bel x1
      replace x2 := cell_below HS.out.bel x2
      replace x3 := cell_below HS.out.bel x3
      replace x4 := cell_below HS.out.bel x4
      replace x5 := cell_below HS.out.bel x5
      have skip : (∃ (k_1 : Nat) (s : Sl), k_1 ≤ 20 ∧ Value.int IntKind.i64 ((k : Int) + 1) = Value.int IntKind.i64 (k_1 : Int) ∧ Aside0 (IsSl w wr g rb mb 1 s) ∧ Aside0 (DownS t s)) ∧ 20 - (intOf (Value.int IntKind.i64 ((k : Int) + 1))).toNat < 20 - (intOf (Value.int IntKind.i64 (k : Int))).toNat := ⟨⟨k + 1, s, by omega, by go_num, HS, HD⟩, by simp [intOf]; omega⟩
      have HSk := Aside0.mk skip
      clear skip
      by_cases h5 : x.f0 = 5
      · have q2 : (x.f0 == 5) = true := beq_iff_eq.mpr h5
        have q3 : decide (x.f0 = 5) = true := decide_eq_true h5
        clear h5
        go_wp2
        exact HSk.out
      · have q2 : (x.f0 == 5) = false := beq_eq_false_iff_ne.mpr h5
        have q3 : decide (x.f0 = 5) = false := decide_eq_false h5
        clear h5
        cases hlg : (decide ((x.f2.size : Int) ≤ 2000) && decide ((x.f3.f0.length : Int) ≤ 50))
        · rw [hlg] at HLi
          clear hlg HSk
          go_wp2_with (go_at_call 17; refine HLi.out.mono ?_; rintro e w6 ⟨rfl, hb⟩; replace HS := Aside0.mk (HS.out.below hb); clear hb)
          exact ⟨⟨k + 1, s, by omega, by go_num, HS, HD⟩, by simp [intOf]; omega⟩
        · rw [hlg] at HLi
          have HLen : Aside0 (x.f3.f0.length ≤ 50) := ⟨by simp at hlg; omega⟩
          clear hlg HSk
          go_upto_region 12 with (first | (go_at_call 17; refine HLi.out.mono ?_; rintro e w6 ⟨rfl, hb⟩; have HRd := Aside0.mk (slab_read' (HS.out.below hb) 2 (t := ByteArray.empty) (r := 9) (read_down s HD.out.down 2)); have HB6 := Aside0.mk hb; clear hb x0 x1 x2 x3 x4 x5) | (go_at_call 18; refine HRd.out.mono ?_; rintro e w7 ⟨rfl, rfl⟩))
          replace HS := Aside0.mk (HS.out.below HB6.out)
          obtain ⟨x0, x1, x2, x3, x4, x5⟩ := HX.out
          replace x0 := cell_below HS.out.bel x0
          replace x1 := cell_below HS.out.bel x1
          replace x2 := cell_below HS.out.bel x2
          replace x3 := cell_below HS.out.bel x3
          replace x4 := cell_below HS.out.bel x4
          replace x5 := cell_below HS.out.bel x5
          have HDn := Aside0.mk (fun m => slab_down_q HS.out m)
          rw [HD.out.down] at HDn
          go_quiet ((first | (go_at_call 12; exact Calls.quiet_of_same (slab_write_q HS.out HD.out.down _ _ _)) | (go_at_call 16; exact Calls.quiet_of_same (slab_flush_q HS.out HD.out.down _)) | (go_at_call 19; exact Calls.quiet_of_same (HDn.out _))))
          clear HDn x0 x1 x2 x3 x4 x5
          replace HS := Aside0.mk (HS.out.drewN nq)
          generalize w6.drewN nq = w7 at HS ⊢
          obtain ⟨x0, x1, x2, x3, x4, x5⟩ := HX.out
          replace x0 := cell_below HS.out.bel x0
          replace x1 := cell_below HS.out.bel x1
          replace x2 := cell_below HS.out.bel x2
          replace x3 := cell_below HS.out.bel x3
          replace x4 := cell_below HS.out.bel x4
          replace x5 := cell_below HS.out.bel x5
          have HF := Aside0.mk (slab_fail_down HS.out A3 c3 x.f3.f0 x.f3.f1 x.f3.f2 (kept_arg HS.out HC3.out.2) HC3.out.1 (by have := HLen.out; omega) HD.out.down)
          go_upto_region 15 with (go_at_call 14; refine HF.out.mono ?_; rintro e w8 ⟨rfl, hs, hb⟩; have HS8 := Aside0.mk hs; clear hs hb)
          clear x0 x1 x2 x3 x4 x5 HF HS
          have HS := HS8
          clear HS8
          obtain ⟨x0, x1, x2, x3, x4, x5⟩ := HX.out
          replace x0 := cell_below HS.out.bel x0
          replace x1 := cell_below HS.out.bel x1
          replace x2 := cell_below HS.out.bel x2
          replace x3 := cell_below HS.out.bel x3
          replace x4 := cell_below HS.out.bel x4
          replace x5 := cell_below HS.out.bel x5
          refine wp_region_still_tail 11 (by kernel_rfl) (by kernel_rfl) ?_
          simp only [List.take_succ_cons, List.take_zero, List.drop_succ_cons, List.drop_zero]
          repeat still_step
          refine wpStill_nil ?_
          change wpList _ _ _ _ _ w8.drew
          replace HS := Aside0.mk (HS.out.drewN 1)
          have HTp := Aside0.mk (slab_trip HS.out A3 c3 x.f3.f0 x.f1 x.f3.f1 x.f3.f2 (Kd.C_below HC3.out.2 HS.out.bel) (by have := HLen.out; omega) HOk.out.2)
          go_wp2_with (go_at_call 20; refine HTp.out.mono ?_; rintro e w9 ⟨rfl, ⟨kb, hkb, hs⟩, hb⟩; have HS9 := Aside0.mk hs; clear hs hb hkb)
          exact ⟨⟨k + 1, _, by omega, by go_num, HS9, ⟨⟨HD.out.len, HD.out.two, HD.out.down⟩⟩⟩, by simp [intOf]; omega⟩
    · have hrd : ({ s with down := false, wait := 0 } : Sl).read 2 = (t, 0) := by
        have hm : hasB ({ s with down := false, wait := 0 } : Sl) 2 = true := by simp [hasB, HD.out.len]
        unfold Sl.read
        rw [hm, rdy_up _ rfl, if_neg (by decide)]
        show (match s.b[2]? with | none => _ | some (x, none) => _ | some (_, some t) => _) = _
        rw [HD.out.two]
      have HRd := Aside0.mk hrd
      have hwr := write_up ({ s with down := false, wait := 0 } : Sl) rfl rfl 1 (by show 1 < s.b.length; rw [HD.out.len]; decide) t (by have := HT.out; omega)
      have HWr := Aside0.mk hwr
      clear hrd hwr
      by_cases h1 : k < l.length
      all_goals first
        | (have q2 : decide ((k : Int) < 20) = false := decide_eq_false (by omega); have q1 : decide (k < l.length) = true := decide_eq_true h1; clear h1 hlt; go_upto_region 16 with (fail))
        | (have q1 : decide (k < l.length) = false := decide_eq_false h1; clear h1 hlt; go_upto_region 16 with (fail))
      all_goals
        go_upto_region 17 with (go_at_call 15; refine (slab_wake HS.out).mono ?_; rintro e w9 ⟨rfl, hs, hb⟩; have HS9 := Aside0.mk hs; clear hs hb)
        have HC1 := Aside0.mk (slab_read' HS9.out 2 HRd.out)
        have HC2 := Aside0.mk (slab_write' HS9.out (by omega) 1 t HWr.out)
        go_wp2_with (first | (go_at_call 18; refine HC1.out.mono ?_; rintro e w10 ⟨rfl, rfl⟩) | (go_at_call 12; refine HC2.out.mono ?_; rintro e w11 ⟨rfl, hs, hb⟩; have HS11 := Aside0.mk hs; clear hs hb) | (go_at_call 19; refine (slab_down HS11.out).mono ?_; rintro e w12 ⟨rfl, rfl⟩))
        go_ret
        exact ⟨rfl, HS11.out.bel⟩
set_option maxRecDepth 100000 in
theorem down_long (t : ByteArray) (v : Value) (w : World) (ht : ¬ (t.size : Int) ≤ 256) :
    Calls Try.prog 4 #[.string t, v] w fun e w' => e = .returned (.bool true) ∧ Below w.heap.size w w' := by
  have HN := Aside0.mk (slab_new_yes (Below.refl w.heap.size w) 8 (by omega) (by omega))
  have q0 : decide ((t.size : Int) > 256) = true := decide_eq_true (by omega)
  have q1 : decide ((256 : Int) < (t.size : Int)) = true := decide_eq_true (by omega)
  clear ht
  go_enter Try.func4, Try.ntmps4
  go_wp2_with (first | (go_at_call 10; refine HN.out.mono ?_; rintro e w1 ⟨rfl, hs, hb⟩; have HS := Aside0.mk hs; clear hs hb) | (go_at_call 11; refine (awake07 _).mono ?_; rintro e w2 ⟨rfl, hb⟩; replace HS := Aside0.mk (HS.out.below hb); clear hb))
  go_ret
  exact ⟨rfl, HS.out.bel⟩
def splicelaw07_SlabDown.f (a0 : ByteArray) (l1 : List S38) : Option Bool := if l1.all (fun x => decide (okAct x)) = true then some true else none
theorem splicelaw07_SlabDown.calls (a0 : ByteArray) (A1 : Option Addr) (c1 : Nat) (l1 : List S38) (r : Bool) (w : World) (hr1 : Kd.C k38 w A1 l1.length l1) (hc1 : l1.length ≤ c1) (h : splicelaw07_SlabDown.f a0 l1 = some r) (hr_ : r = true) :
    Calls Try.prog 4 #[.string a0, .slice A1 l1.length c1] w fun e w' => e = .returned (.bool r) ∧ Below w.heap.size w w' := by
  subst hr_
  unfold splicelaw07_SlabDown.f at h
  split at h
  · rename_i hl
    rw [List.all_eq_true] at hl
    by_cases ht : (a0.size : Int) ≤ 256
    · exact down_walk a0 A1 c1 l1 w hr1 hc1 (fun x hx => of_decide_eq_true (hl x hx)) ht
    · exact down_long a0 _ w ht
  · simp at h

def wf33 (x : S33) : Prop := (x.f0.length * 8 ≤ 140737488351232 ∧ x.f0.length ≤ maxLen ∧ ∀ y0 ∈ x.f0, (Lit.int .i64 y0).wf = true) ∧ (Lit.int .i64 x.f1).wf = true ∧ (Lit.int .i64 x.f2).wf = true
theorem op33 : Go.Proofs.Ytdenfndpggfgmaa.Op.Op Try.prog k33 33 wf33 := op_mono (op_iso (op_struct Try.underlying33 (by kernel_rfl) (opfs_cons (op_slice Try.underlying27 (by kernel_rfl) (show Try.prog.bytesOf 3 = 8 by kernel_rfl) (op_int Try.underlying3 (by kernel_rfl)) (by decide)) rfl (opfs_cons (op_int Try.underlying3 (by kernel_rfl)) rfl (opfs_last (op_int Try.underlying3 (by kernel_rfl)) rfl)))) (fun x : S33 => (x.f0, x.f1, x.f2)) (fun y => ⟨y.1, y.2.1, y.2.2⟩) (fun _ => rfl)) (fun _ h => h)

def wf38 (x : S38) : Prop := (Lit.int .i64 x.f0).wf = true ∧ (Lit.int .i64 x.f1).wf = true ∧ x.f2.size ≤ 140737488351232 ∧ wf33 x.f3
theorem op38 : Go.Proofs.Ytdenfndpggfgmaa.Op.Op Try.prog k38 38 wf38 := op_mono (op_iso (op_struct Try.underlying38 (by kernel_rfl) (opfs_cons (op_int Try.underlying3 (by kernel_rfl)) rfl (opfs_cons (op_int Try.underlying3 (by kernel_rfl)) rfl (opfs_cons (op_string Try.underlying9 (by kernel_rfl)) rfl (opfs_last op33 rfl))))) (fun x : S38 => (x.f0, x.f1, x.f2, x.f3)) (fun y => ⟨y.1, y.2.1, y.2.2.1, y.2.2.2⟩) (fun _ => rfl)) (fun _ h => h)


/-! ### splicelaw07_SlabDown: function 4 -/
/-- THE ONE PURE STATEMENT of splicelaw07_SlabDown: yours. -/
def splicelaw07_SlabDown.Pure : Prop := ∀ (x0 : ByteArray) (x1 : List (S38)), x0.size ≤ 140737488351232 → (x1.length * 72 ≤ 140737488351232 ∧ x1.length ≤ maxLen ∧ ∀ y0 ∈ x1, wf38 y0) → splicelaw07_SlabDown.f x0 x1 = some true

end Go.Proofs.Ytdenfndpggfgmaa.PD
