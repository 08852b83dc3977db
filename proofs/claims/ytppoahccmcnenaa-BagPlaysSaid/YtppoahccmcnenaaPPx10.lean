-- written by a program of this session
import Derived.Test.YtppoahccmcnenaaPPx0
import Derived.Test.YtppoahccmcnenaaPPx2
import Derived.Test.YtppoahccmcnenaaPPx4
import Derived.Test.YtppoahccmcnenaaPPx5
import Derived.Test.YtppoahccmcnenaaPPx6
import Derived.Test.YtppoahccmcnenaaPPx7
import Derived.Test.YtppoahccmcnenaaPPx8
import Derived.Test.YtppoahccmcnenaaPPx9
namespace Go.Proofs.Ytppoahccmcnenaa.PP
open Go.RowKit Go.Proofs.Ytppoahccmcnenaa.Op Go.Proofs.YtppoahccmcnenaaW.PrintWords Go.Proofs.YtppoahccmcnenaaW.PrintLast Go.Proofs.YtppoahccmcnenaaW.PrintMore
attribute [local go_sem] max2_int min2_int max_two min_two max_three min_three max_four min_four   -- for this text's walks alone
set_option linter.unusedVariables false
set_option linter.unusedSimpArgs false

/-! ### the bag, the document's bag, and boxes at once -/
structure DoW (w W : World) (g mb cb n : Nat) (s sr : Bg) (v0 v2 : Value) (l : BxL) : Prop where
  hs : IsBg w W g mb cb n s
  r0 : Kd.R k74 74 W w.heap.size (fun k => some k = v0.ownBlock) v0 (lsR sr)
  r2 : Kd.R k89 89 W w.heap.size (fun k => some k = v2.ownBlock) v2 (csR sr)
  o0 : ∀ k, some k = v0.ownBlock → k ≠ g ∧ k ≠ mb ∧ k ≠ cb
  o2 : ∀ k, some k = v2.ownBlock → k ≠ g ∧ k ≠ mb ∧ k ≠ cb
  bx : Bx w W l
  off : ∀ e ∈ l, e.1 ≠ g ∧ e.1 ≠ mb ∧ e.1 ≠ cb
  ty : ∀ e ∈ l, e.2.2 ≠ 74 ∧ e.2.2 ≠ 89
section
variable {w W W' : World} {g mb cb n m : Nat} {s sr s' sr' : Bg} {v0 v2 v0' v2' : Value} {l : BxL}
theorem DoW.below (h : DoW w W g mb cb n s sr v0 v2 l) (hb : Below W.heap.size W W') : DoW w W' g mb cb n s sr v0 v2 l :=
  ⟨h.hs.below hb, Kd.R_below h.r0 hb, Kd.R_below h.r2 hb, h.o0, h.o2, h.bx.below hb, h.off, h.ty⟩
theorem DoW.more (h : DoW w W g mb cb n s sr v0 v2 l) (hm : n ≤ m) : DoW w W g mb cb m s sr v0 v2 l := { h with hs := h.hs.more hm }
theorem DoW.push (h : DoW w W g mb cb n s sr v0 v2 l) (cs : Array Value) (t : TypeId) (ht : t ≠ 74 ∧ t ≠ 89) : DoW w (W.alloc (.cells cs t)) g mb cb n s sr v0 v2 (l ++ [(W.heap.size, cs, t)]) := by
  have hl := h.hs.lts
  have h1 := h.below (below_alloc (Below.refl _ _) (.cells cs t))
  refine ⟨h1.hs, h1.r0, h1.r2, h1.o0, h1.o2, h.bx.push cs t, fun e he => ?_, fun e he => ?_⟩
  · rcases List.mem_append.1 he with he | he
    · exact h.off e he
    · rw [List.mem_singleton] at he
      subst he
      exact ⟨by show W.heap.size ≠ g; omega, by show W.heap.size ≠ mb; omega, by show W.heap.size ≠ cb; omega⟩
  · rcases List.mem_append.1 he with he | he
    · exact h.ty e he
    · rw [List.mem_singleton] at he
      subst he
      exact ht
theorem DoW.bag (h : DoW w W g mb cb n s sr v0 v2 l) (h2 : IsBg w W' g mb cb m s') (hk : BgKept W W' g mb cb) : DoW w W' g mb cb m s' sr v0 v2 l :=
  ⟨h2, Kd.R_step h.r0 (fun k hk2 hlt => hk.2 k hlt (h.o0 k hk2).1 (h.o0 k hk2).2.1 (h.o0 k hk2).2.2), Kd.R_step h.r2 (fun k hk2 hlt => hk.2 k hlt (h.o2 k hk2).1 (h.o2 k hk2).2.1 (h.o2 k hk2).2.2), h.o0, h.o2,
    ⟨fun e he => ⟨(hk.2 e.1 (h.bx.lt e he) (h.off e he).1 (h.off e he).2.1 (h.off e he).2.2).trans (h.bx.at_ e he).1, (h.bx.at_ e he).2⟩, h.bx.nd, h2.bel⟩, h.off, h.ty⟩
theorem DoW.ne0 (h : DoW w W g mb cb n s sr v0 v2 l) (e : Nat × Array Value × TypeId) (he : e ∈ l) : ¬ some e.1 = v0.ownBlock := fun q =>
  Kd.R_ne h.r0 (h.bx.at_ e he).1 (fun e2 => (h.ty e he).1 e2.symm) q
theorem DoW.ne2 (h : DoW w W g mb cb n s sr v0 v2 l) (e : Nat × Array Value × TypeId) (he : e ∈ l) : ¬ some e.1 = v2.ownBlock := fun q =>
  Kd.R_ne h.r2 (h.bx.at_ e he).1 (fun e2 => (h.ty e he).2 e2.symm) q
theorem DoW.set (h : DoW w W g mb cb n s sr v0 v2 l) (i j : Nat) (v : Value) {b : Nat} {cs : Array Value} {t : TypeId} (hi : l[i]? = some (b, cs, t)) : DoW w (W.setCell ⟨b, j, none⟩ v) g mb cb n s sr v0 v2 (l.set i (b, cs.setIfInBounds j v, t)) := by
  have hm := List.mem_of_getElem? hi
  have ho := h.off _ hm
  refine ⟨h.hs.setFar (h.bx.ge i hi) ho j v, Kd.R_far (p := ⟨b, j, none⟩) h.r0 (fun k hk e => h.ne0 _ hm (by rw [show b = k from e.symm]; exact hk)) v, Kd.R_far (p := ⟨b, j, none⟩) h.r2 (fun k hk e => h.ne2 _ hm (by rw [show b = k from e.symm]; exact hk)) v, h.o0, h.o2, h.bx.set i j v hi, fun e he => ?_, fun e he => ?_⟩
  · rcases List.mem_or_eq_of_mem_set he with he | rfl
    · exact h.off e he
    · exact ho
  · rcases List.mem_or_eq_of_mem_set he with he | rfl
    · exact h.ty e he
    · exact h.ty (b, cs, t) hm
theorem DoW.ref (h : DoW w W g mb cb n s sr v0 v2 l) (h0 : Kd.R k74 74 W' w.heap.size (fun k => ((some k = v0.ownBlock ∨ some k = v2.ownBlock) ∨ W.heap.size ≤ k)) v0' (lsR sr')) (h2 : Kd.R k89 89 W' w.heap.size (fun k => ((some k = v0.ownBlock ∨ some k = v2.ownBlock) ∨ W.heap.size ≤ k)) v2' (csR sr')) (hb : Below w.heap.size w W') (hk : Kept W W' (fun k => some k = v0.ownBlock ∨ some k = v2.ownBlock)) : DoW w W' g mb cb n s sr' v0' v2' l := by
  have hl := h.hs.lts
  have off : ∀ k, ((some k = v0.ownBlock ∨ some k = v2.ownBlock) ∨ W.heap.size ≤ k) → k ≠ g ∧ k ≠ mb ∧ k ≠ cb := fun k hk => by
    rcases hk with (hk | hk) | hk
    · exact h.o0 k hk
    · exact h.o2 k hk
    · omega
  have keep : ∀ k, k < W.heap.size → ¬ (some k = v0.ownBlock) → ¬ (some k = v2.ownBlock) → W'.heap[k]? = W.heap[k]? := fun k hlt a b => hk.2 k hlt (fun q => q.elim a b)
  have kg : ∀ k, (k = g ∨ k = mb ∨ k = cb) → W'.heap[k]? = W.heap[k]? := fun k q => keep k (by omega) (fun e => by have := h.o0 k e; omega) (fun e => by have := h.o2 k e; omega)
  refine ⟨?_, Kd.R_tight rfl h0, Kd.R_tight rfl h2, fun k q => off k (h0.1 k q.symm), fun k q => off k (h2.1 k q.symm), ⟨fun e he => ⟨(keep e.1 (h.bx.lt e he) (h.ne0 e he) (h.ne2 e he)).trans (h.bx.at_ e he).1, (h.bx.at_ e he).2⟩, h.bx.nd, hb⟩, h.off, h.ty⟩
  obtain ⟨D, h3, h4⟩ := h.hs.map
  obtain ⟨E, h5, h6⟩ := h.hs.cut
  have i := h.hs
  refine ⟨(kg g (Or.inl rfl)).trans i.own, ⟨D, ?_, h4⟩, ⟨E, ?_, h6⟩, i.asc, i.ids, i.lst, i.len, i.g1, i.m1, i.c1, i.gm, i.gc, i.mc, hb⟩
  · obtain ⟨es, clock, q1, q2⟩ := h3
    exact ⟨es, clock, (kg mb (Or.inr (Or.inl rfl))).trans q1, q2⟩
  · obtain ⟨es, clock, q1, q2⟩ := h5
    exact ⟨es, clock, (kg cb (Or.inr (Or.inr rfl))).trans q1, q2⟩
end

/-! ### the document's functions, over a `DoW` -/
section
variable {w W W' : World} {g mb cb n m : Nat} {s sr s' sr' : Bg} {v0 v2 v0' v2' : Value} {l : BxL}
theorem DoW.cons (h : DoW w W g mb cb n s sr v0 v2 l) (cs : Array Value) (t : TypeId) (ht : t ≠ 74 ∧ t ≠ 89) : DoW w (W.alloc (.cells cs t)) g mb cb n s sr v0 v2 ((W.heap.size, cs, t) :: l) := by
  have p := h.push cs t ht
  have hm : ∀ e, e ∈ (W.heap.size, cs, t) :: l → e ∈ l ++ [(W.heap.size, cs, t)] := fun e he => by
    rcases List.mem_cons.1 he with rfl | he
    · exact List.mem_append.2 (Or.inr (List.mem_singleton.2 rfl))
    · exact List.mem_append.2 (Or.inl he)
  exact ⟨p.hs, p.r0, p.r2, p.o0, p.o2, ⟨fun e he => p.bx.at_ e (hm e he), ((List.perm_append_comm (l₁ := l) (l₂ := [(W.heap.size, cs, t)])).map (fun e => e.1)).nodup_iff.1 p.bx.nd, p.bx.bel⟩, fun e he => p.off e (hm e he), fun e he => p.ty e (hm e he)⟩
theorem DoW.drop {e : Nat × Array Value × TypeId} (h : DoW w W g mb cb n s sr v0 v2 (e :: l)) : DoW w W g mb cb n s sr v0 v2 l :=
  ⟨h.hs, h.r0, h.r2, h.o0, h.o2, ⟨fun x he => h.bx.at_ x (List.mem_cons_of_mem _ he), (List.nodup_cons.1 h.bx.nd).2, h.bx.bel⟩, fun x he => h.off x (List.mem_cons_of_mem _ he), fun x he => h.ty x (List.mem_cons_of_mem _ he)⟩
theorem set_get {α : Type} {l : List α} {i : Nat} {a b : α} (h : l[i]? = some a) : (l.set i b)[i]? = some b := by
  obtain ⟨hl, _⟩ := List.getElem?_eq_some_iff.1 h
  rw [List.getElem?_set]
  simp [hl]
theorem DoW.st3 (h : DoW w W g mb cb n s sr v0 v2 l) (i : Nat) {b : Nat} {t : TypeId} {x y z : Value} (hi : l[i]? = some (b, #[x, y, z], t)) (p q r : Value) : DoW w (((W.setCell ⟨b, 0, none⟩ p).setCell ⟨b, 1, none⟩ q).setCell ⟨b, 2, none⟩ r) g mb cb n s sr v0 v2 (l.set i (b, #[p, q, r], t)) := by
  have h1 := h.set i 0 p hi
  have h2 := h1.set i 1 q (set_get hi)
  have h3 := h2.set i 2 r (set_get (set_get hi))
  rw [List.set_set, List.set_set] at h3
  exact h3
theorem DoW.st4 (h : DoW w W g mb cb n s sr v0 v2 l) (i : Nat) {b : Nat} {t : TypeId} {x y z u : Value} (hi : l[i]? = some (b, #[x, y, z, u], t)) (p q r v : Value) : DoW w ((((W.setCell ⟨b, 0, none⟩ p).setCell ⟨b, 1, none⟩ q).setCell ⟨b, 2, none⟩ r).setCell ⟨b, 3, none⟩ v) g mb cb n s sr v0 v2 (l.set i (b, #[p, q, r, v], t)) := by
  have h1 := h.set i 0 p hi
  have h2 := h1.set i 1 q (set_get hi)
  have h3 := h2.set i 2 r (set_get (set_get hi))
  have h4 := h3.set i 3 v (set_get (set_get (set_get hi)))
  rw [List.set_set, List.set_set, List.set_set] at h4
  exact h4
theorem DoW.at_ (h : DoW w W g mb cb n s sr v0 v2 l) (i j : Nat) {b : Nat} {cs : Array Value} {t : TypeId} {v : Value} (hi : l[i]? = some (b, cs, t)) (hv : cs[j]? = some v) : W.cell? ⟨b, j, none⟩ = some v := (blk_cell (h.bx.get i hi) j).trans hv
theorem DoW.sl (h : DoW w W g mb cb n s sr v0 v2 l) : ∃ A c B d, v0 = .slice A (lsR sr).length c ∧ v2 = .slice B (csR sr).length d := by
  obtain ⟨A, c, e⟩ := Kd.R_slice h.r0
  obtain ⟨B, d, f⟩ := Kd.R_slice h.r2
  exact ⟨A, c, B, d, e, f⟩
theorem DoW.send (h : DoW w W g mb cb n s sr v0 v2 l) (hl : sr.l.length ≤ 400) (ha : 0 ≤ sr.last ∧ sr.last ≤ 1000000) (f t : Int) (x : ByteArray) :
    Calls Try.prog 30 #[.agg #[v0, .int .i64 sr.last, v2], .int .i64 f, .int .i64 t, .string x] W fun e W' => ∃ v0' v2' : Value, e = .returned (.tuple #[.agg #[v0', .int .i64 (sendB sr f t x).1.last, v2'], .int .i64 (sendB sr f t x).2.1, .int .i64 (sendB sr f t x).2.2]) ∧ DoW w W' g mb cb n s (sendB sr f t x).1 v0' v2' l :=
  (spliceref10_Bag_Send.calls 402 _ v0 _ _ _ v2 _ f t x _ _ _ _ _ w W h.hs.bel h.r0 h.r2 (send_f sr hl ha f t x 402 (by omega))).mono fun e W' ⟨a, b, q0, q1, q2, q3, q4⟩ => ⟨a, b, q0, h.ref q1 q2 q3 q4⟩
theorem DoW.twice (h : DoW w W g mb cb n s sr v0 v2 l) (hl : sr.l.length ≤ 400) (ha : 0 ≤ sr.last ∧ sr.last ≤ 1000000) (id : Int) :
    Calls Try.prog 33 #[.agg #[v0, .int .i64 sr.last, v2], .int .i64 id] W fun e W' => ∃ v0' v2' : Value, e = .returned (.tuple #[.agg #[v0', .int .i64 (twiceB sr id).1.last, v2'], .int .i64 (twiceB sr id).2.1, .int .i64 (twiceB sr id).2.2]) ∧ DoW w W' g mb cb n s (twiceB sr id).1 v0' v2' l :=
  (spliceref10_Bag_Twice.calls 402 _ v0 _ _ _ v2 _ id _ _ _ _ _ w W h.hs.bel h.r0 h.r2 (twice_f sr hl ha id 402 (by omega))).mono fun e W' ⟨a, b, q0, q1, q2, q3, q4⟩ => ⟨a, b, q0, h.ref q1 q2 q3 q4⟩
theorem DoW.lose (h : DoW w W g mb cb n s sr v0 v2 l) (hl : sr.l.length ≤ 400) (id : Int) :
    Calls Try.prog 32 #[.agg #[v0, .int .i64 sr.last, v2], .int .i64 id] W fun e W' => ∃ v0' v2' : Value, e = .returned (.tuple #[.agg #[v0', .int .i64 (loseB sr id).1.last, v2'], .int .i64 (loseB sr id).2]) ∧ DoW w W' g mb cb n s (loseB sr id).1 v0' v2' l :=
  (spliceref10_Bag_Lose.calls 402 _ v0 _ _ _ v2 _ id _ _ _ _ w W h.hs.bel h.r0 h.r2 (lose_f sr hl id 402 (by omega))).mono fun e W' ⟨a, b, q0, q1, q2, q3, q4⟩ => ⟨a, b, q0, h.ref q1 q2 q3 q4⟩
theorem DoW.take (h : DoW w W g mb cb n s sr v0 v2 l) (hl : sr.l.length ≤ 400) (hc : sr.cuts.length ≤ 1000000) (id : Int) :
    Calls Try.prog 31 #[.agg #[v0, .int .i64 sr.last, v2], .int .i64 id] W fun e W' => ∃ v0' v2' : Value, e = .returned (.tuple #[.agg #[v0', .int .i64 (takeB sr id).1.last, v2'], .agg #[.int .i64 (takeB sr id).2.1.id, .int .i64 (takeB sr id).2.1.fr, .int .i64 (takeB sr id).2.1.too, .string (takeB sr id).2.1.t], .int .i64 (takeB sr id).2.2]) ∧ DoW w W' g mb cb n s (takeB sr id).1 v0' v2' l :=
  (spliceref10_Bag_Take.calls (402 + sr.cuts.length) _ v0 _ _ _ v2 _ id _ _ _ _ _ _ _ _ w W h.hs.bel h.r0 h.r2 (take_f sr hl hc id _ (by omega) (by omega))).mono fun e W' ⟨a, b, q0, q1, q2, q3, q4⟩ => ⟨a, b, q0, h.ref q1 q2 q3 q4⟩
theorem DoW.sets (h : DoW w W g mb cb n s sr v0 v2 l) (hc : sr.cuts.length ≤ 1000000) (x y : Int) (on : Bool) :
    Calls Try.prog 34 #[.agg #[v0, .int .i64 sr.last, v2], .int .i64 x, .int .i64 y, .bool on] W fun e W' => ∃ v0' v2' : Value, e = .returned (.tuple #[.agg #[v0', .int .i64 (setB sr x y on).1.last, v2'], .int .i64 (setB sr x y on).2]) ∧ DoW w W' g mb cb n s (setB sr x y on).1 v0' v2' l :=
  (spliceref10_Bag_Set.calls (402 + sr.cuts.length) _ v0 _ _ _ v2 _ x y on _ _ _ _ w W h.hs.bel h.r0 h.r2 (set_f sr hc x y on _ (by omega))).mono fun e W' ⟨a, b, q0, q1, q2, q3, q4⟩ => ⟨a, b, q0, h.ref q1 q2 q3 q4⟩
end

end Go.Proofs.Ytppoahccmcnenaa.PP
