-- written by a program of this session
import Derived.Test.YtdenfndpggfgmaaPPx0
import Derived.Test.YtdenfndpggfgmaaPPx2
import Derived.Test.YtdenfndpggfgmaaPPx3
import Derived.Test.YtdenfndpggfgmaaPPx4
import Derived.Test.YtdenfndpggfgmaaPPx5
import Derived.Test.YtdenfndpggfgmaaPPx6
namespace Go.Proofs.Ytdenfndpggfgmaa.PP
open Go.RowKit Go.Proofs.Ytdenfndpggfgmaa.Op Go.Proofs.YtdenfndpggfgmaaW.PrintWords Go.Proofs.YtdenfndpggfgmaaW.PrintLast Go.Proofs.YtdenfndpggfgmaaW.PrintMore
attribute [local go_sem] max2_int min2_int max_two min_two max_three min_three max_four min_four   -- for this text's walks alone
set_option linter.unusedVariables false
set_option linter.unusedSimpArgs false

/-! ### the slab, the document's slab, and boxes at once -/
theorem IsSl.setTy {w W : World} {g rb mb n b : Nat} {s : Sl} {cs : Array Value} {t : TypeId} (h : IsSl w W g rb mb n s) (hx : W.heap[b]? = some (.cells cs t (0, 0))) (ht : t ≠ 3) (hb : w.heap.size ≤ b) (hn : b ≠ g ∧ b ≠ rb ∧ b ≠ mb) (j : Nat) (v : Value) : IsSl w (W.setCell ⟨b, j, none⟩ v) g rb mb n s := by
  obtain ⟨vk, h1, h2⟩ := h.own
  obtain ⟨D, h3, h4⟩ := h.map
  have hne : ¬ some b = vk.ownBlock := Kd.R_ne h2 hx (fun e => ht e.symm)
  have h5 : Kd.R (Kd.int .i64) 3 (W.setCell ⟨b, j, none⟩ v) w.heap.size (fun k => some k = vk.ownBlock) vk s.keep := Kd.R_far (p := ⟨b, j, none⟩) (Kd.R_tight rfl h2) (fun k hk e => hne (by rw [show b = k from e.symm]; exact hk)) v
  exact ⟨⟨vk, blk_far (p := ⟨b, j, none⟩) h1 hn.1.symm v, Kd.R_mono h5 (fun k hk => h2.1 k hk.symm)⟩, blk_far (p := ⟨b, j, none⟩) h.row hn.2.1.symm v, ⟨D, h3.setCell (a := ⟨b, j, none⟩) hn.2.2.symm v, h4⟩, h.len, h.small, h.wt, h.kl, h.g1, h.r1, h.m1, h.gr, h.gm, h.rm, below_set h.bel hb⟩
structure DoS (w W : World) (g rb mb n : Nat) (s sr : Sl) (v0 : Value) (A2 : Option Addr) (c2 : Nat) (l : BxL) : Prop where
  hs : IsSl w W g rb mb n s
  r0 : Kd.R k74 74 W w.heap.size (fun k => some k = v0.ownBlock) v0 (lsS sr)
  o0 : ∀ k, some k = v0.ownBlock → k ≠ g ∧ k ≠ rb ∧ k ≠ mb
  kp : Kd.C (Kd.int .i64) w A2 sr.keep.length sr.keep
  kc : sr.keep.length ≤ c2
  bx : Bx w W l
  off : ∀ e ∈ l, e.1 ≠ g ∧ e.1 ≠ rb ∧ e.1 ≠ mb
  ty : ∀ e ∈ l, e.2.2 ≠ 74 ∧ e.2.2 ≠ 3
section
variable {w W W' : World} {g rb mb n m : Nat} {s sr s' sr' : Sl} {v0 v0' : Value} {A2 : Option Addr} {c2 : Nat} {l : BxL}
theorem DoS.below (h : DoS w W g rb mb n s sr v0 A2 c2 l) (hb : Below W.heap.size W W') : DoS w W' g rb mb n s sr v0 A2 c2 l :=
  ⟨h.hs.below hb, Kd.R_below h.r0 hb, h.o0, h.kp, h.kc, h.bx.below hb, h.off, h.ty⟩
theorem DoS.more (h : DoS w W g rb mb n s sr v0 A2 c2 l) (hm : n ≤ m) : DoS w W g rb mb m s sr v0 A2 c2 l := { h with hs := h.hs.more hm }
theorem DoS.consed (h : DoS w W g rb mb n s sr v0 A2 c2 l) {b : Nat} {cs : Array Value} {t : TypeId} (hg : b = W.heap.size) (hx : W'.heap[b]? = some (.cells cs t (0, 0))) (hb : Below W.heap.size W W') (ht : t ≠ 74 ∧ t ≠ 3) : DoS w W' g rb mb n s sr v0 A2 c2 ((b, cs, t) :: l) := by
  have p := h.below hb
  have q := h.bx.pushed hg hx hb
  have hl := h.hs.lts
  have hm : ∀ e, e ∈ (b, cs, t) :: l → e ∈ l ++ [(b, cs, t)] := fun e he => by
    rcases List.mem_cons.1 he with rfl | he
    · exact List.mem_append.2 (Or.inr (List.mem_singleton.2 rfl))
    · exact List.mem_append.2 (Or.inl he)
  refine ⟨p.hs, p.r0, p.o0, p.kp, p.kc, ⟨fun e he => q.at_ e (hm e he), ((List.perm_append_comm (l₁ := l) (l₂ := [(b, cs, t)])).map (fun e => e.1)).nodup_iff.1 q.nd, q.bel⟩, fun e he => ?_, fun e he => ?_⟩
  · rcases List.mem_cons.1 he with rfl | he
    · subst hg; exact ⟨by show W.heap.size ≠ g; omega, by show W.heap.size ≠ rb; omega, by show W.heap.size ≠ mb; omega⟩
    · exact h.off e he
  · rcases List.mem_cons.1 he with rfl | he
    · exact ht
    · exact h.ty e he
theorem DoS.cons (h : DoS w W g rb mb n s sr v0 A2 c2 l) (cs : Array Value) (t : TypeId) (ht : t ≠ 74 ∧ t ≠ 3) : DoS w (W.alloc (.cells cs t)) g rb mb n s sr v0 A2 c2 ((W.heap.size, cs, t) :: l) :=
  h.consed rfl (blk_new W _) (below_alloc (Below.refl _ _) _) ht
theorem DoS.drop {e : Nat × Array Value × TypeId} (h : DoS w W g rb mb n s sr v0 A2 c2 (e :: l)) : DoS w W g rb mb n s sr v0 A2 c2 l :=
  ⟨h.hs, h.r0, h.o0, h.kp, h.kc, ⟨fun x he => h.bx.at_ x (List.mem_cons_of_mem _ he), (List.nodup_cons.1 h.bx.nd).2, h.bx.bel⟩, fun x he => h.off x (List.mem_cons_of_mem _ he), fun x he => h.ty x (List.mem_cons_of_mem _ he)⟩
theorem DoS.slab (h : DoS w W g rb mb n s sr v0 A2 c2 l) (h2 : IsSl w W' g rb mb m s') (hk : SlKept W W' g rb mb) : DoS w W' g rb mb m s' sr v0 A2 c2 l :=
  ⟨h2, Kd.R_step h.r0 (fun k hk2 hlt => hk.2 k hlt (h.o0 k hk2).1 (h.o0 k hk2).2.1 (h.o0 k hk2).2.2), h.o0, h.kp, h.kc,
    ⟨fun e he => ⟨(hk.2 e.1 (h.bx.lt e he) (h.off e he).1 (h.off e he).2.1 (h.off e he).2.2).trans (h.bx.at_ e he).1, (h.bx.at_ e he).2⟩, h.bx.nd, h2.bel⟩, h.off, h.ty⟩
theorem DoS.ne0 (h : DoS w W g rb mb n s sr v0 A2 c2 l) (e : Nat × Array Value × TypeId) (he : e ∈ l) : ¬ some e.1 = v0.ownBlock := fun q =>
  Kd.R_ne h.r0 (h.bx.at_ e he).1 (fun e2 => (h.ty e he).1 e2.symm) q
theorem DoS.set (h : DoS w W g rb mb n s sr v0 A2 c2 l) (i j : Nat) (v : Value) {b : Nat} {cs : Array Value} {t : TypeId} (hi : l[i]? = some (b, cs, t)) : DoS w (W.setCell ⟨b, j, none⟩ v) g rb mb n s sr v0 A2 c2 (l.set i (b, cs.setIfInBounds j v, t)) := by
  have hm := List.mem_of_getElem? hi
  have ho := h.off _ hm
  refine ⟨h.hs.setTy (h.bx.get i hi) (h.ty _ hm).2 (h.bx.ge i hi) ho j v, Kd.R_far (p := ⟨b, j, none⟩) h.r0 (fun k hk e => h.ne0 _ hm (by rw [show b = k from e.symm]; exact hk)) v, h.o0, h.kp, h.kc, h.bx.set i j v hi, fun e he => ?_, fun e he => ?_⟩
  · rcases List.mem_or_eq_of_mem_set he with he | rfl
    · exact h.off e he
    · exact ho
  · rcases List.mem_or_eq_of_mem_set he with he | rfl
    · exact h.ty e he
    · exact h.ty (b, cs, t) hm
theorem DoS.ref (h : DoS w W g rb mb n s sr v0 A2 c2 l) (h0 : Kd.R k74 74 W' W.heap.size (fun _ => True) v0' (lsS sr')) (hk : sr'.keep = sr.keep) (hb : Below W.heap.size W W') : DoS w W' g rb mb n s sr' v0' A2 c2 l := by
  have hl := h.hs.lts
  have hB := h.below hb
  refine ⟨hB.hs, Kd.R_tight rfl (Kd.R_lower h0 h.hs.bel.size), fun k q => ?_, by rw [hk]; exact h.kp, by rw [hk]; exact h.kc, hB.bx, h.off, h.ty⟩
  have := (Kd.R_bound h0).1 k q.symm
  omega
theorem DoS.ref' (h : DoS w W g rb mb n s sr v0 A2 c2 l) (h0 : lsS sr' = lsS sr) (hk : sr'.keep = sr.keep) (hb : Below W.heap.size W W') : DoS w W' g rb mb n s sr' v0 A2 c2 l := by
  have hB := h.below hb
  exact ⟨hB.hs, h0 ▸ hB.r0, h.o0, by rw [hk]; exact h.kp, by rw [hk]; exact h.kc, hB.bx, h.off, h.ty⟩
theorem set_get {α : Type} {l : List α} {i : Nat} {a b : α} (h : l[i]? = some a) : (l.set i b)[i]? = some b := by
  obtain ⟨hl, _⟩ := List.getElem?_eq_some_iff.1 h
  rw [List.getElem?_set]
  simp [hl]
theorem DoS.st6 (h : DoS w W g rb mb n s sr v0 A2 c2 l) (i : Nat) {b : Nat} {t : TypeId} {x0 x1 x2 x3 x4 x5 : Value} (hi : l[i]? = some (b, #[x0, x1, x2, x3, x4, x5], t)) (p0 p1 p2 p3 p4 p5 : Value) : DoS w ((((((W.setCell ⟨b, 0, none⟩ p0).setCell ⟨b, 1, none⟩ p1).setCell ⟨b, 2, none⟩ p2).setCell ⟨b, 3, none⟩ p3).setCell ⟨b, 4, none⟩ p4).setCell ⟨b, 5, none⟩ p5) g rb mb n s sr v0 A2 c2 (l.set i (b, #[p0, p1, p2, p3, p4, p5], t)) := by
  have h1 := h.set i 0 p0 hi
  have h2 := h1.set i 1 p1 (set_get hi)
  have h3 := h2.set i 2 p2 (set_get (set_get hi))
  have h4 := h3.set i 3 p3 (set_get (set_get (set_get hi)))
  have h5 := h4.set i 4 p4 (set_get (set_get (set_get (set_get hi))))
  have h6 := h5.set i 5 p5 (set_get (set_get (set_get (set_get (set_get hi)))))
  rw [List.set_set, List.set_set, List.set_set, List.set_set, List.set_set] at h6
  exact h6
theorem DoS.at_ (h : DoS w W g rb mb n s sr v0 A2 c2 l) (i j : Nat) {b : Nat} {cs : Array Value} {t : TypeId} {v : Value} (hi : l[i]? = some (b, cs, t)) (hv : cs[j]? = some v) : W.cell? ⟨b, j, none⟩ = some v := (blk_cell (h.bx.get i hi) j).trans hv
theorem DoS.fz (h : DoS w W g rb mb n s sr v0 A2 c2 l) (i j : Nat) {b : Nat} {cs : Array Value} {t : TypeId} (hi : l[i]? = some (b, cs, t)) : W.frozen? ⟨b, j, none⟩ = false := blk_frozen (h.bx.get i hi) j
theorem DoS.sl (h : DoS w W g rb mb n s sr v0 A2 c2 l) : ∃ A c, v0 = .slice A (lsS sr).length c := Kd.R_slice h.r0
end
/-! ### the model's steps, told apart -/
theorem write_down (s : Sl) (i : Int) (t : ByteArray) (hd : s.down = true) : s.write i t = (s, 9) := by
  unfold Sl.write; rw [rdy_down s _ hd, if_pos (by decide)]
theorem write_bad (s : Sl) (i : Int) (t : ByteArray) (hd : s.down = false) (hm : (hasB s i && decide ((t.size : Int) ≤ 256)) = false) : s.write i t = (s, 1) := by
  have e : rdy s false = 1 := by unfold rdy; rw [if_neg (by rw [hd]; decide), if_neg (by decide)]
  unfold Sl.write; rw [hm, e, if_pos (by decide)]
theorem write_in (s : Sl) (j : Nat) (t : ByteArray) (hd : s.down = false) (hj : j < s.b.length) (ht : t.size ≤ 256) : s.write (j : Int) t = if s.tick.2 = true then ({ s with b := settle (failF s.keep s.torn s.at_) (putB s.b j t), wait := s.tick.1.wait, down := true }, 9) else ({ s with b := putB s.b j t, wait := s.tick.1.wait }, 0) := by
  have hm : (hasB s (j : Int) && decide ((t.size : Int) ≤ 256)) = true := by unfold hasB; simp; omega
  unfold Sl.write
  rw [hm, rdy_up s hd, if_neg (by decide), Int.toNat_natCast]
  unfold Sl.tick
  by_cases hw : 0 < s.wait
  · simp only [hw, if_true]
    split
    · unfold Sl.fail; simp [hd]
    · rfl
  · simp only [hw, if_false]
    rfl
theorem flush_cases (s : Sl) (hd : s.down = false) : s.flush = if s.tick.2 = true then ({ s with b := settle (failF s.keep s.torn s.at_) s.b, wait := s.tick.1.wait, down := true }, 9) else ({ s with b := settle newF s.b, wait := s.tick.1.wait }, 0) := by
  unfold Sl.flush
  rw [if_neg (by rw [hd]; decide)]
  unfold Sl.tick
  by_cases hw : 0 < s.wait
  · simp only [hw, if_true]
    split
    · unfold Sl.fail; simp [hd]
    · rfl
  · simp only [hw, if_false]
    rfl
/-! ### the document's functions over a `DoS` -/
section
variable {w W : World} {g rb mb n : Nat} {s : Sl} {v0 : Value} {A2 : Option Addr} {c2 : Nat} {l : BxL}
theorem DoS.write (h : DoS w W g rb mb n s s v0 A2 c2 l) (i : Int) (t : ByteArray) :
    Calls Try.prog 34 #[.agg #[v0, .int .i64 s.wait, .slice A2 s.keep.length c2, .int .i64 s.torn, .int .i64 s.at_, .bool s.down], .int .i64 i, .string t] W fun e W' => ∃ v0' : Value, e = .returned (.tuple #[.agg #[v0', .int .i64 (s.write i t).1.wait, .slice A2 (s.write i t).1.keep.length c2, .int .i64 (s.write i t).1.torn, .int .i64 (s.write i t).1.at_, .bool (s.write i t).1.down], .int .i64 (s.write i t).2]) ∧ DoS w W' g rb mb n s (s.write i t).1 v0' A2 c2 l := by
  obtain ⟨A0, c0, rfl⟩ := h.sl
  have hC := (Kd.R_reads' h.r0).2.2
  have h2 := Kd.C_below h.kp h.hs.bel
  have hL : (lsS s).length = s.b.length := by unfold lsS; rw [List.length_map]
  have hlen := h.hs.len
  cases hd : s.down with
  | true =>
    rw [write_down s i t hd]
    refine (ref_write_down W A0 A2 _ c0 _ c2 _ _ _ i t).mono ?_
    rintro e W' ⟨rfl, hb⟩
    exact ⟨_, by rw [hd], h.ref' rfl rfl hb⟩
  | false =>
    by_cases h0 : i < 0
    · rw [write_bad s i t hd (by unfold hasB; simp; omega)]
      refine (ref_write_lt W A0 A2 _ c0 _ c2 _ _ _ i t h0).mono ?_
      rintro e W' ⟨rfl, hb⟩
      exact ⟨_, by rw [hd], h.ref' rfl rfl hb⟩
    · obtain ⟨j, rfl⟩ := Int.eq_ofNat_of_zero_le (show 0 ≤ i by omega)
      by_cases h1 : ((lsS s).length : Int) ≤ (j : Int)
      · rw [write_bad s _ t hd (by unfold hasB; simp; omega)]
        refine (ref_write_ge W A0 A2 _ c0 _ c2 _ _ _ j t h1).mono ?_
        rintro e W' ⟨rfl, hb⟩
        exact ⟨_, by rw [hd], h.ref' rfl rfl hb⟩
      · by_cases h3 : 256 < (t.size : Int)
        · rw [write_bad s _ t hd (by unfold hasB; simp; omega)]
          refine (ref_write_long W A0 A2 _ c0 _ c2 _ _ _ j t h1 h3).mono ?_
          rintro e W' ⟨rfl, hb⟩
          exact ⟨_, by rw [hd], h.ref' rfl rfl hb⟩
        · rw [write_in s j t hd (by omega) (by omega)]
          cases ht : s.tick.2 with
          | true =>
            rw [if_pos rfl]
            refine (ref_write_trip W s A0 A2 c0 c2 s.wait s.tick.1.wait s.torn s.at_ s.keep j t (by omega) (by omega) hC hlen h.hs.small h2 h.kc h.hs.kl h.hs.wt.2 (by rw [tickR_tick, ht])).mono ?_
            rintro e W' ⟨v, rfl, hr, hb⟩
            exact ⟨v, rfl, h.ref hr rfl hb⟩
          | false =>
            rw [if_neg (by decide)]
            refine (ref_write_ok W s A0 A2 c0 c2 s.wait s.tick.1.wait s.torn s.at_ s.keep j t (by omega) (by omega) hC hlen h.hs.small h2 h.kc h.hs.kl h.hs.wt.2 (by rw [tickR_tick, ht])).mono ?_
            rintro e W' ⟨v, rfl, hr, hb⟩
            exact ⟨v, by rw [hd], h.ref hr rfl hb⟩
theorem DoS.flush (h : DoS w W g rb mb n s s v0 A2 c2 l) :
    Calls Try.prog 36 #[.agg #[v0, .int .i64 s.wait, .slice A2 s.keep.length c2, .int .i64 s.torn, .int .i64 s.at_, .bool s.down]] W fun e W' => ∃ v0' : Value, e = .returned (.tuple #[.agg #[v0', .int .i64 s.flush.1.wait, .slice A2 s.flush.1.keep.length c2, .int .i64 s.flush.1.torn, .int .i64 s.flush.1.at_, .bool s.flush.1.down], .int .i64 s.flush.2]) ∧ DoS w W' g rb mb n s s.flush.1 v0' A2 c2 l := by
  obtain ⟨A0, c0, rfl⟩ := h.sl
  have hC := (Kd.R_reads' h.r0).2.2
  have h2 := Kd.C_below h.kp h.hs.bel
  have hlen := h.hs.len
  cases hd : s.down with
  | true =>
    rw [show s.flush = (s, 9) from by unfold Sl.flush; rw [if_pos hd]]
    refine (ref_flush_down W A0 A2 _ c0 _ c2 _ _ _).mono ?_
    rintro e W' ⟨rfl, hb⟩
    exact ⟨_, by rw [hd], h.ref' rfl rfl hb⟩
  | false =>
    rw [flush_cases s hd]
    cases ht : s.tick.2 with
    | true =>
      rw [if_pos rfl]
      refine (ref_flush_trip W s A0 A2 c0 c2 s.wait s.tick.1.wait s.torn s.at_ s.keep hC hlen h.hs.small h2 h.kc h.hs.kl h.hs.wt.2 (by rw [tickR_tick, ht])).mono ?_
      rintro e W' ⟨v, rfl, hr, hb⟩
      exact ⟨v, rfl, h.ref hr rfl hb⟩
    | false =>
      rw [if_neg (by decide)]
      refine (ref_flush_ok W s A0 A2 c0 c2 s.wait s.tick.1.wait s.torn s.at_ s.keep hC hlen h.hs.small h2 h.kc h.hs.kl h.hs.wt.2 (by rw [tickR_tick, ht])).mono ?_
      rintro e W' ⟨v, rfl, hr, hb⟩
      exact ⟨v, by rw [hd], h.ref hr rfl hb⟩
end

/-! ### the document's Fail when it is down; a loss of the document's kind -/
set_option maxRecDepth 100000 in
set_option maxHeartbeats 16000000 in
theorem ref_fail_down (W : World) (A0 A1 A2 : Option Addr) (n0 c0 n1 c1 n2 c2 : Nat) (wt tr a tr1 at1 : Int) :
    Calls Try.prog 38 #[.agg #[.slice A0 n0 c0, .int .i64 wt, .slice A2 n2 c2, .int .i64 tr, .int .i64 a, .bool true], .agg #[.slice A1 n1 c1, .int .i64 tr1, .int .i64 at1]] W fun e W' => e = .returned (.agg #[.slice A0 n0 c0, .int .i64 wt, .slice A2 n2 c2, .int .i64 tr, .int .i64 a, .bool true]) ∧ Below W.heap.size W W' := by
  have HB := Aside0.mk ((((Bx.start W).push #[.slice A0 n0 c0, .int .i64 wt, .slice A2 n2 c2, .int .i64 tr, .int .i64 a, .bool true] 51).push #[.slice A1 n1 c1, .int .i64 tr1, .int .i64 at1] 49).push #[.slice none 0 0, .int .i64 0, .slice none 0 0, .int .i64 0, .int .i64 0, .bool false] 51)
  go_enter Try.func38, Try.ntmps38
  go_upto_region 1 with (fail)
  simp only [alloc_size, List.nil_append, List.cons_append] at HB
  generalize ((W.alloc (.cells #[.slice A0 n0 c0, .int .i64 wt, .slice A2 n2 c2, .int .i64 tr, .int .i64 a, .bool true] 51)).alloc (.cells #[.slice A1 n1 c1, .int .i64 tr1, .int .i64 at1] 49)).alloc (.cells #[.slice none 0 0, .int .i64 0, .slice none 0 0, .int .i64 0, .int .i64 0, .bool false] 51) = w2 at HB ⊢
  generalize W.heap.size + 1 + 1 = b2 at HB ⊢
  generalize W.heap.size + 1 = b3 at HB ⊢
  generalize hb1 : W.heap.size = b1 at HB ⊢
  have y0 : w2.cell? ⟨b1, 0, none⟩ = some (.slice A0 n0 c0) := (blk_cell (HB.out.get 0 rfl) 0).trans rfl
  have y1 : w2.cell? ⟨b1, 1, none⟩ = some (.int .i64 wt) := (blk_cell (HB.out.get 0 rfl) 1).trans rfl
  have y2 : w2.cell? ⟨b1, 2, none⟩ = some (.slice A2 n2 c2) := (blk_cell (HB.out.get 0 rfl) 2).trans rfl
  have y3 : w2.cell? ⟨b1, 3, none⟩ = some (.int .i64 tr) := (blk_cell (HB.out.get 0 rfl) 3).trans rfl
  have y4 : w2.cell? ⟨b1, 4, none⟩ = some (.int .i64 a) := (blk_cell (HB.out.get 0 rfl) 4).trans rfl
  have y5 : w2.cell? ⟨b1, 5, none⟩ = some (.bool true) := (blk_cell (HB.out.get 0 rfl) 5).trans rfl
  have y5' : w2.cell? ⟨b1, 3 + 2, none⟩ = some (.bool true) := y5
  have t0 : w2.cell? ⟨b2, 0, none⟩ = some (.slice none 0 0) := (blk_cell (HB.out.get 2 rfl) 0).trans rfl
  have t1 : w2.cell? ⟨b2, 1, none⟩ = some (.int .i64 0) := (blk_cell (HB.out.get 2 rfl) 1).trans rfl
  have t2 : w2.cell? ⟨b2, 2, none⟩ = some (.slice none 0 0) := (blk_cell (HB.out.get 2 rfl) 2).trans rfl
  have t3 : w2.cell? ⟨b2, 3, none⟩ = some (.int .i64 0) := (blk_cell (HB.out.get 2 rfl) 3).trans rfl
  have t4 : w2.cell? ⟨b2, 4, none⟩ = some (.int .i64 0) := (blk_cell (HB.out.get 2 rfl) 4).trans rfl
  have t5 : w2.cell? ⟨b2, 5, none⟩ = some (.bool false) := (blk_cell (HB.out.get 2 rfl) 5).trans rfl
  have t5' : w2.cell? ⟨b2, 3 + 2, none⟩ = some (.bool false) := t5
  have tz0 : w2.frozen? ⟨b2, 0, none⟩ = false := blk_frozen (HB.out.get 2 rfl) 0
  have tz1 : w2.frozen? ⟨b2, 1, none⟩ = false := blk_frozen (HB.out.get 2 rfl) 1
  have tz2 : w2.frozen? ⟨b2, 2, none⟩ = false := blk_frozen (HB.out.get 2 rfl) 2
  have tz3 : w2.frozen? ⟨b2, 3, none⟩ = false := blk_frozen (HB.out.get 2 rfl) 3
  have tz4 : w2.frozen? ⟨b2, 4, none⟩ = false := blk_frozen (HB.out.get 2 rfl) 4
  have tz5 : w2.frozen? ⟨b2, 5, none⟩ = false := blk_frozen (HB.out.get 2 rfl) 5
  go_wp2
  replace HB : Aside0 (Bx W ((((((w2.setCell ⟨b2, 0, none⟩ (.slice A0 n0 c0)).setCell ⟨b2, 1, none⟩ (.int .i64 wt)).setCell ⟨b2, 2, none⟩ (.slice A2 n2 c2)).setCell ⟨b2, 3, none⟩ (.int .i64 tr)).setCell ⟨b2, 4, none⟩ (.int .i64 a)).setCell ⟨b2, 5, none⟩ (.bool true)) [(b1, #[.slice A0 n0 c0, .int .i64 wt, .slice A2 n2 c2, .int .i64 tr, .int .i64 a, .bool true], 51), (b3, #[.slice A1 n1 c1, .int .i64 tr1, .int .i64 at1], 49), (b2, #[.slice A0 n0 c0, .int .i64 wt, .slice A2 n2 c2, .int .i64 tr, .int .i64 a, .bool true], 51)]) := ⟨((((((HB.out.set 2 0 (.slice A0 n0 c0) rfl).set 2 1 (.int .i64 wt) rfl).set 2 2 (.slice A2 n2 c2) rfl).set 2 3 (.int .i64 tr) rfl).set 2 4 (.int .i64 a) rfl).set 2 5 (.bool true) rfl)⟩
  generalize ((((((w2.setCell ⟨b2, 0, none⟩ (.slice A0 n0 c0)).setCell ⟨b2, 1, none⟩ (.int .i64 wt)).setCell ⟨b2, 2, none⟩ (.slice A2 n2 c2)).setCell ⟨b2, 3, none⟩ (.int .i64 tr)).setCell ⟨b2, 4, none⟩ (.int .i64 a)).setCell ⟨b2, 5, none⟩ (.bool true)) = w9 at HB ⊢
  refine bodyPost_ret (results_single rfl (.cell b2 51 #[.slice A0 n0 c0, .int .i64 wt, .slice A2 n2 c2, .int .i64 tr, .int .i64 a, .bool true] (0, 0) _ rfl (HB.out.get 2 rfl) Try.underlying51 rfl (by kernel_rfl) .nil)) rfl ?_
  first | exact ⟨rfl, HB.out.bel⟩ | exact ⟨rfl, hb1 ▸ HB.out.bel⟩
set_option maxRecDepth 100000 in
set_option maxHeartbeats 16000000 in
theorem ref_loss (W : World) (A1 : Option Addr) (n1 c1 : Nat) (tr1 at1 : Int) :
    Calls Try.prog 37 #[.agg #[.slice A1 n1 c1, .int .i64 tr1, .int .i64 at1]] W fun e W' => e = .returned (.agg #[.slice A1 n1 c1, .int .i64 tr1, .int .i64 at1]) ∧ Below W.heap.size W W' := by
  have HB := Aside0.mk (((Bx.start W).push #[.slice A1 n1 c1, .int .i64 tr1, .int .i64 at1] 33).push #[.slice none 0 0, .int .i64 0, .int .i64 0] 49)
  go_enter Try.func37, Try.ntmps37
  go_upto_region 1 with (fail)
  simp only [alloc_size, List.nil_append, List.cons_append] at HB
  generalize (W.alloc (.cells #[.slice A1 n1 c1, .int .i64 tr1, .int .i64 at1] 33)).alloc (.cells #[.slice none 0 0, .int .i64 0, .int .i64 0] 49) = w2 at HB ⊢
  generalize W.heap.size + 1 = b2 at HB ⊢
  generalize hb1 : W.heap.size = b1 at HB ⊢
  have y0 : w2.cell? ⟨b1, 0, none⟩ = some (.slice A1 n1 c1) := (blk_cell (HB.out.get 0 rfl) 0).trans rfl
  have y1 : w2.cell? ⟨b1, 1, none⟩ = some (.int .i64 tr1) := (blk_cell (HB.out.get 0 rfl) 1).trans rfl
  have y2 : w2.cell? ⟨b1, 2, none⟩ = some (.int .i64 at1) := (blk_cell (HB.out.get 0 rfl) 2).trans rfl
  have t0 : w2.cell? ⟨b2, 0, none⟩ = some (.slice none 0 0) := (blk_cell (HB.out.get 1 rfl) 0).trans rfl
  have t1 : w2.cell? ⟨b2, 1, none⟩ = some (.int .i64 0) := (blk_cell (HB.out.get 1 rfl) 1).trans rfl
  have t2 : w2.cell? ⟨b2, 2, none⟩ = some (.int .i64 0) := (blk_cell (HB.out.get 1 rfl) 2).trans rfl
  have tz0 : w2.frozen? ⟨b2, 0, none⟩ = false := blk_frozen (HB.out.get 1 rfl) 0
  have tz1 : w2.frozen? ⟨b2, 1, none⟩ = false := blk_frozen (HB.out.get 1 rfl) 1
  have tz2 : w2.frozen? ⟨b2, 2, none⟩ = false := blk_frozen (HB.out.get 1 rfl) 2
  go_wp2
  replace HB : Aside0 (Bx W (((w2.setCell ⟨b2, 0, none⟩ (.slice A1 n1 c1)).setCell ⟨b2, 1, none⟩ (.int .i64 tr1)).setCell ⟨b2, 2, none⟩ (.int .i64 at1)) [(b1, #[.slice A1 n1 c1, .int .i64 tr1, .int .i64 at1], 33), (b2, #[.slice A1 n1 c1, .int .i64 tr1, .int .i64 at1], 49)]) := ⟨(((HB.out.set 1 0 (.slice A1 n1 c1) rfl).set 1 1 (.int .i64 tr1) rfl).set 1 2 (.int .i64 at1) rfl)⟩
  generalize (((w2.setCell ⟨b2, 0, none⟩ (.slice A1 n1 c1)).setCell ⟨b2, 1, none⟩ (.int .i64 tr1)).setCell ⟨b2, 2, none⟩ (.int .i64 at1)) = w9 at HB ⊢
  refine bodyPost_ret (results_single rfl (.cell b2 49 #[.slice A1 n1 c1, .int .i64 tr1, .int .i64 at1] (0, 0) _ rfl (HB.out.get 1 rfl) Try.underlying49 rfl (by kernel_rfl) .nil)) rfl ?_
  first | exact ⟨rfl, HB.out.bel⟩ | exact ⟨rfl, hb1 ▸ HB.out.bel⟩
section
variable {w W : World} {g rb mb n : Nat} {s : Sl} {v0 : Value} {A2 : Option Addr} {c2 : Nat} {l : BxL} {Ak : Option Addr} {ck : Nat} {kl : List Int} {xt xa : Int}
theorem DoS.read (h : DoS w W g rb mb n s s v0 A2 c2 l) (i : Int) :
    Calls Try.prog 35 #[.agg #[v0, .int .i64 s.wait, .slice A2 s.keep.length c2, .int .i64 s.torn, .int .i64 s.at_, .bool s.down], .int .i64 i] W fun e W' => e = .returned (.tuple #[.string (s.read i).1, .int .i64 (s.read i).2]) ∧ DoS w W' g rb mb n s s v0 A2 c2 l := by
  obtain ⟨A0, c0, rfl⟩ := h.sl
  have hC := Kd.R_reads' h.r0
  exact (spliceref07_Slab_Read.calls 1 A0 c0 (lsS s) s.wait A2 c2 s.keep s.torn s.at_ s.down i _ _ W hC.2.2 hC.2.1 (Kd.C_below h.kp h.hs.bel) h.kc (read_f s s.keep s.torn s.at_ i 1 (by omega))).mono fun e W' q => ⟨q.1, h.below q.2⟩
theorem DoS.fail (h : DoS w W g rb mb n (s.fail kl xt xa) s v0 A2 c2 l) (hs0 : s.b.length ≤ 4096 ∧ ∀ x ∈ s.b, x.1.size ≤ 256 ∧ ∀ t, x.2 = some t → t.size ≤ 256) (hk : Kd.C (Kd.int .i64) w Ak kl.length kl) (hkc : kl.length ≤ ck) (hkl : kl.length ≤ 100000000) :
    Calls Try.prog 38 #[.agg #[v0, .int .i64 s.wait, .slice A2 s.keep.length c2, .int .i64 s.torn, .int .i64 s.at_, .bool s.down], .agg #[.slice Ak kl.length ck, .int .i64 xt, .int .i64 xa]] W fun e W' => ∃ v0' : Value, e = .returned (.agg #[v0', .int .i64 (s.fail kl xt xa).wait, .slice A2 (s.fail kl xt xa).keep.length c2, .int .i64 (s.fail kl xt xa).torn, .int .i64 (s.fail kl xt xa).at_, .bool (s.fail kl xt xa).down]) ∧ DoS w W' g rb mb n (s.fail kl xt xa) (s.fail kl xt xa) v0' A2 c2 l := by
  obtain ⟨A0, c0, rfl⟩ := h.sl
  have hC := (Kd.R_reads' h.r0).2.2
  cases hd : s.down with
  | true =>
    have e1 : s.fail kl xt xa = s := by unfold Sl.fail; rw [if_pos hd]
    rw [e1] at h ⊢
    refine (ref_fail_down W A0 Ak A2 _ c0 _ ck _ c2 _ _ _ xt xa).mono ?_
    rintro e W' ⟨rfl, hb⟩
    exact ⟨_, by rw [hd], h.below hb⟩
  | false =>
    have e1 : s.fail kl xt xa = { s with b := settle (failF kl xt xa) s.b, down := true } := by unfold Sl.fail; rw [if_neg (by rw [hd]; decide)]
    rw [e1] at h ⊢
    refine (ref_fail_up W s A0 Ak A2 c0 ck _ c2 s.wait s.torn s.at_ xt xa kl hC hs0.1 hs0.2 (Kd.C_below hk h.hs.bel) hkc hkl).mono ?_
    rintro e W' ⟨v, rfl, hr, hb⟩
    exact ⟨v, rfl, h.ref hr rfl hb⟩
end

end Go.Proofs.Ytdenfndpggfgmaa.PP
