-- written by a program of this session
import Derived.Test.YtppoahccmcnenaaPPx0
import Derived.Test.YtppoahccmcnenaaPPx6
namespace Go.Proofs.Ytppoahccmcnenaa.PP
open Go.RowKit Go.Proofs.Ytppoahccmcnenaa.Op Go.Proofs.YtppoahccmcnenaaW.PrintWords Go.Proofs.YtppoahccmcnenaaW.PrintLast Go.Proofs.YtppoahccmcnenaaW.PrintMore
attribute [local go_sem] max2_int min2_int max_two min_two max_three min_three max_four min_four   -- for this text's walks alone
set_option linter.unusedVariables false
set_option linter.unusedSimpArgs false

/-! ### the bag: what its maps say of its lists -/
theorem int_ne {i j : Int} (h : i ≠ j) : (Lit.int .i64 i) ≠ .int .i64 j := fun e => h (by injection e)
theorem isKey_int (i : Int) : WideAt.IsKeyLit (.int .i64 i) := by simp [WideAt.IsKeyLit]
theorem findM_append (l : List Ml) (m : Ml) (id : Int) : findM (l ++ [m]) id = (findM l id).or (if m.id = id then some m else none) := by
  unfold findM
  rw [List.find?_append]
  congr 1
  by_cases h : m.id = id
  · rw [if_pos h]; simp [h]
  · rw [if_neg h]; simp [h]
theorem findM_some {l : List Ml} {id : Int} {m : Ml} (h : findM l id = some m) : m ∈ l ∧ m.id = id := by
  unfold findM at h
  exact ⟨List.mem_of_find?_eq_some h, by simpa using List.find?_some h⟩
theorem findM_none {l : List Ml} {id : Int} (h : ∀ m ∈ l, m.id ≠ id) : findM l id = none := by
  unfold findM
  rw [List.find?_eq_none]
  intro x hx
  simpa using h x hx
theorem findM_of_mem {l : List Ml} (ha : l.Pairwise (fun a b => a.id < b.id)) {m : Ml} (hm : m ∈ l) : findM l m.id = some m := by
  induction l with
  | nil => simp at hm
  | cons a l ih =>
    unfold findM
    rw [List.find?_cons]
    rw [List.pairwise_cons] at ha
    rcases List.mem_cons.1 hm with rfl | hm
    · simp
    · have := ha.1 m hm
      have h2 : (a.id == m.id) = false := beq_eq_false_iff_ne.mpr (by omega)
      rw [h2]
      exact ih ha.2 hm
def dropM (l : List Ml) (id : Int) : List Ml := l.filter (fun m => m.id != id)
theorem findM_drop (l : List Ml) (id k : Int) : findM (dropM l id) k = if k = id then none else findM l k := by
  unfold findM dropM
  induction l with
  | nil => simp
  | cons a l ih =>
    rw [List.filter_cons]
    by_cases h : a.id = id
    · rw [if_neg (by simp [h])]
      rw [ih, List.find?_cons]
      by_cases hk : k = id
      · rw [if_pos hk, if_pos hk]
      · rw [if_neg hk, if_neg hk]
        have : (a.id == k) = false := beq_eq_false_iff_ne.mpr (by omega)
        rw [this]
    · rw [if_pos (by simp [h]), List.find?_cons, List.find?_cons]
      by_cases hk : a.id = k
      · have e : (a.id == k) = true := beq_iff_eq.mpr hk
        rw [e, if_neg (by omega)]
      · have e : (a.id == k) = false := beq_eq_false_iff_ne.mpr hk
        rw [e, ih]
theorem dropM_len {l : List Ml} (ha : l.Pairwise (fun a b => a.id < b.id)) (id : Int) : (dropM l id).length + (if (findM l id).isSome = true then 1 else 0) = l.length := by
  unfold dropM findM
  induction l with
  | nil => simp
  | cons a l ih =>
    rw [List.pairwise_cons] at ha
    rw [List.filter_cons, List.find?_cons]
    by_cases h : a.id = id
    · rw [if_neg (by simp [h])]
      have e : (a.id == id) = true := beq_iff_eq.mpr h
      rw [e]
      simp only [Option.isSome_some, if_true, List.length_cons]
      congr 1
      rw [List.filter_eq_self.2]
      intro m hm
      have := ha.1 m hm
      simp; omega
    · rw [if_pos (by simp [h])]
      have e : (a.id == id) = false := beq_eq_false_iff_ne.mpr h
      rw [e]
      have := ih ha.2
      simp only [List.length_cons]
      omega
theorem BgAs.put {D : DW} {l : List Ml} (h : BgAs D l) (hD : Maps.Tidy D) (m : Ml) (hn : ∀ x ∈ l, x.id ≠ m.id) : BgAs (D.put (.int .i64 m.id) (mailD m)) (l ++ [m]) := by
  have hno : findM l m.id = none := findM_none hn
  refine ⟨fun id => ?_, fun id k hk zd => ?_, fun kl hk => ?_, ?_⟩
  · rw [findM_append]
    by_cases e : m.id = id
    · subst e
      rw [Maps.has_put_same hD.isMap (isKey_int _), hno, if_pos rfl]; rfl
    · rw [Maps.has_put_other (int_ne (fun q => e q.symm)), h.has, if_neg e]; cases findM l id <;> rfl
  · rw [findM_append] at hk
    by_cases e : m.id = id
    · subst e
      rw [hno, if_pos rfl] at hk
      have e2 : m = k := by simpa using hk
      subst e2
      exact Maps.atKey_put_same hD.isMap (isKey_int _) _ _
    · rw [if_neg e, Option.or_none] at hk
      rw [Maps.atKey_put_other (int_ne (fun q => e q.symm))]
      exact h.at_ id k hk zd
  · by_cases e : kl = .int .i64 m.id
    · exact ⟨_, e⟩
    · rw [Maps.has_put_other e] at hk
      exact h.in_ kl hk
  · rw [Maps.size_put hD, h.has, hno, h.size, List.length_append]; rfl
theorem BgAs.del {D : DW} {l : List Ml} (h : BgAs D l) (hD : Maps.Tidy D) (ha : l.Pairwise (fun a b => a.id < b.id)) (id : Int) : BgAs (D.del (.int .i64 id)) (dropM l id) := by
  refine ⟨fun k => ?_, fun k m hk zd => ?_, fun kl hk => ?_, ?_⟩
  · rw [findM_drop]
    by_cases e : k = id
    · subst e; rw [Maps.has_del_same, if_pos rfl]; rfl
    · rw [Maps.has_del_other (int_ne e), if_neg e, h.has]
  · rw [findM_drop] at hk
    by_cases e : k = id
    · rw [if_pos e] at hk; cases hk
    · rw [if_neg e] at hk
      rw [Maps.atKey_del_other (int_ne e)]
      exact h.at_ k m hk zd
  · by_cases e : kl = .int .i64 id
    · exact ⟨_, e⟩
    · rw [Maps.has_del_other e] at hk
      exact h.in_ kl hk
  · have h1 := Maps.size_del (k := .int .i64 id) hD
    rw [h.has, h.size] at h1
    have h2 := dropM_len ha id
    omega
def putC (c : List (Int × Int)) (p : Int × Int) : List (Int × Int) := c.filter (fun q => q != p) ++ [p]
def delC (c : List (Int × Int)) (p : Int × Int) : List (Int × Int) := c.filter (fun q => q != p)
theorem delC_contains (c : List (Int × Int)) (p q : Int × Int) : (delC c p).contains q = (if q = p then false else c.contains q) := by
  unfold delC
  rw [Bool.eq_iff_iff, List.contains_iff_mem, List.mem_filter]
  by_cases e : q = p
  · simp [e]
  · simp [e]
theorem putC_contains (c : List (Int × Int)) (p q : Int × Int) : (putC c p).contains q = (if q = p then true else c.contains q) := by
  unfold putC
  rw [Bool.eq_iff_iff, List.contains_iff_mem, List.mem_append, List.mem_filter]
  by_cases e : q = p
  · simp [e]
  · simp [e]
theorem pair_ne {x y x' y' : Int} {kl kl' : Lit} (h : keyOf Try.prog 65 (pairV x y) = some kl) (h' : keyOf Try.prog 65 (pairV x' y') = some kl') (e : ¬ (x', y') = (x, y)) : kl' ≠ kl := by
  intro q
  subst q
  have := pairKeyed.inj h' h
  simp [pairV] at this
  exact e (by rw [this.1, this.2])
theorem CutAs.put {E : DW} {c : List (Int × Int)} (h : CutAs E c) (hE : Maps.IsMap E) {x y : Int} {kl : Lit} (hk : keyOf Try.prog 65 (pairV x y) = some kl) : CutAs (E.put kl (.lit (.bool true))) (putC c (x, y)) := by
  refine ⟨fun x' y' kl' hk' => ?_⟩
  rw [putC_contains]
  by_cases e : (x', y') = (x, y)
  · injection e with e1 e2
    subst e1 e2
    rw [hk] at hk'
    injection hk' with hk'
    subst hk'
    exact ⟨by rw [Maps.has_put_same hE (pairKeyed.key hk), if_pos rfl], fun _ zd => Maps.atKey_put_same hE (pairKeyed.key hk) _ _⟩
  · rw [if_neg e, Maps.has_put_other (pair_ne hk hk' e)]
    exact ⟨(h.at_ x' y' kl' hk').1, fun q zd => by rw [Maps.atKey_put_other (pair_ne hk hk' e)]; exact (h.at_ x' y' kl' hk').2 q zd⟩
theorem CutAs.del {E : DW} {c : List (Int × Int)} (h : CutAs E c) {x y : Int} {kl : Lit} (hk : keyOf Try.prog 65 (pairV x y) = some kl) : CutAs (E.del kl) (delC c (x, y)) := by
  refine ⟨fun x' y' kl' hk' => ?_⟩
  rw [delC_contains]
  by_cases e : (x', y') = (x, y)
  · injection e with e1 e2
    subst e1 e2
    rw [hk] at hk'
    injection hk' with hk'
    subst hk'
    rw [if_pos rfl]
    exact ⟨Maps.has_del_same, fun q => by cases q⟩
  · rw [if_neg e, Maps.has_del_other (pair_ne hk hk' e)]
    exact ⟨(h.at_ x' y' kl' hk').1, fun q zd => by rw [Maps.atKey_del_other (pair_ne hk hk' e)]; exact (h.at_ x' y' kl' hk').2 q zd⟩
theorem Adr.wf {n : Int} (h : Adr n) : (Lit.int .i64 n).wf = true := by
  have e1 : IntKind.min .i64 = -9223372036854775808 := by decide
  have e2 : IntKind.max .i64 = 9223372036854775807 := by decide
  obtain ⟨h0, h1⟩ := h
  simp only [Lit.wf, e1, e2, Bool.and_eq_true, decide_eq_true_eq]; omega
theorem ofP_adr {x y : Int} (hx : Adr x) (hy : Adr y) : Adr (ofP x y).1 ∧ Adr (ofP x y).2 := by
  obtain ⟨a, b⟩ := hx
  obtain ⟨c, d⟩ := hy
  unfold ofP Adr
  dsimp only
  omega
theorem of_key {x y : Int} (hx : Adr x) (hy : Adr y) : ∃ kl, keyOf Try.prog 65 (pairV (ofP x y).1 (ofP x y).2) = some kl := by
  obtain ⟨a, b⟩ := ofP_adr hx hy
  obtain ⟨s, hs⟩ := pair_key _ _ a.wf b.wf
  exact ⟨s, hs⟩
theorem BgKept.setNew {W W2 : World} {g mb cb a : Nat} (h : BgKept W W2 g mb cb) (ha : W.heap.size ≤ a) (j : Nat) (v : Value) : BgKept W (W2.setCell ⟨a, j, none⟩ v) g mb cb :=
  ⟨by simpa using h.1, fun i hi h1 h2 h3 => (Below.heap_setCell W2 ⟨a, j, none⟩ v i (by intro e; subst e; exact absurd hi (by simp; omega))).trans (h.2 i hi h1 h2 h3)⟩
section
variable {w W W' w1 : World} {g mb cb n m : Nat} {s : Bg}
theorem IsBg.setLast (h : IsBg w W g mb cb n s) : IsBg w (W.setCell ⟨g, 1, none⟩ (.int .i64 (s.last + 1))) g mb cb (n + 1) { s with last := s.last + 1 } := by
  obtain ⟨D, h3, h4⟩ := h.map
  obtain ⟨E, h5, h6⟩ := h.cut
  exact ⟨blk_put h.own 1 _ rfl, ⟨D, (h3.setCell (a := ⟨g, 1, none⟩) h.gm.symm _).mono (by omega), h4⟩, ⟨E, (h5.setCell (a := ⟨g, 1, none⟩) h.gc.symm _).mono (by omega), h6⟩, h.asc, fun m hm => by have := h.ids m hm; exact ⟨this.1, by show m.id ≤ s.last + 1; omega, this.2.2⟩, by have := h.lst; show 0 ≤ s.last + 1 ∧ s.last + 1 ≤ _; omega, h.len, h.g1, h.m1, h.c1, h.gm, h.gc, h.mc, below_set h.bel h.g1⟩
theorem IsBg.setFar (h : IsBg w W g mb cb n s) {b : Nat} (hb : w.heap.size ≤ b) (hn : b ≠ g ∧ b ≠ mb ∧ b ≠ cb) (j : Nat) (v : Value) : IsBg w (W.setCell ⟨b, j, none⟩ v) g mb cb n s := by
  obtain ⟨D, h3, h4⟩ := h.map
  obtain ⟨E, h5, h6⟩ := h.cut
  exact ⟨blk_far (p := ⟨b, j, none⟩) h.own (fun e => hn.1 e.symm) v, ⟨D, h3.setCell (a := ⟨b, j, none⟩) (fun e => hn.2.1 e.symm) v, h4⟩, ⟨E, h5.setCell (a := ⟨b, j, none⟩) (fun e => hn.2.2 e.symm) v, h6⟩, h.asc, h.ids, h.lst, h.len, h.g1, h.m1, h.c1, h.gm, h.gc, h.mc, below_set h.bel hb⟩
theorem grown_below {b : Nat} (hb : w.heap.size ≤ b) (h : Below w.heap.size w W) (hg : W.grownBy W' (some b)) : Below w.heap.size w W' :=
  ⟨hg.os.trans h.os, hg.tape.trans h.tape, hg.output.trans h.output, Nat.le_trans h.size hg.size, fun i hi => (hg.block i (Nat.lt_of_lt_of_le hi h.size) (by intro e; injection e with e; omega)).trans (h.block i hi)⟩
theorem IsBg.putL (h : IsBg w W g mb cb n s) {D : DW} (hown : W.ownsMap Try.prog 3 mailE mb n D) (hA : BgAs D s.l) (x : Ml) (hx : x.id = s.last) (hl : ∀ y ∈ s.l, y.id < x.id) (hx2 : 1 ≤ x.id ∧ Adr x.fr ∧ Adr x.too ∧ x.t.size ≤ 65536) (hlen : s.l.length < 400)
    (h1 : w1.ownsMap Try.prog 3 mailE mb (n + 1) (D.put (.int .i64 x.id) (mailD x))) (hg : W.grownBy w1 (some mb)) : IsBg w w1 g mb cb (n + 1) { s with l := s.l ++ [x] } ∧ BgKept W w1 g mb cb := by
  obtain ⟨E, h5, h6⟩ := h.cut
  have hk : BgKept W w1 g mb cb := ⟨hg.size, fun i hi _ h3 _ => hg.block i hi (by intro e; injection e with e; exact h3 e)⟩
  have hl2 := h.lts
  refine ⟨⟨?_, ⟨_, h1, hA.put (hown.tidy (Maps.int_keyed Try.underlying3)) x (fun y hy => by have := hl y hy; omega)⟩, ⟨E, (World.ownsMap.kept h5 hg (by intro e; injection e with e; exact h.mc e.symm)).mono (by omega), h6⟩, ?_, ?_, by have := h.lst; show 0 ≤ s.last ∧ s.last ≤ _; omega, by rw [List.length_append]; simp; omega, h.g1, h.m1, h.c1, h.gm, h.gc, h.mc, grown_below h.m1 h.bel hg⟩, hk⟩
  · rw [hg.block g hl2.1 (by intro e; injection e with e; exact h.gm e)]; exact h.own
  · rw [List.pairwise_append]
    exact ⟨h.asc, by simp, fun a ha b hb => by rw [List.mem_singleton] at hb; subst hb; exact hl a ha⟩
  · intro y hy
    rcases List.mem_append.1 hy with hy | hy
    · exact h.ids y hy
    · rw [List.mem_singleton] at hy; subst hy; exact ⟨hx2.1, by rw [hx]; exact Int.le_refl _, hx2.2⟩
theorem turned_grown {b : Nat} (h : W.mapTurned w1 b) : W.grownBy w1 (some b) := h.grown
theorem IsBg.delL (h : IsBg w W g mb cb n s) {D : DW} (hown : W.ownsMap Try.prog 3 mailE mb n D) (hA : BgAs D s.l) (id : Int) (h1 : w1.ownsMap Try.prog 3 mailE mb n (D.del (.int .i64 id))) (hg : W.grownBy w1 (some mb)) : IsBg w w1 g mb cb n { s with l := dropM s.l id } ∧ BgKept W w1 g mb cb := by
  obtain ⟨E, h5, h6⟩ := h.cut
  have hk : BgKept W w1 g mb cb := ⟨hg.size, fun i hi _ h3 _ => hg.block i hi (by intro e; injection e with e; exact h3 e)⟩
  have hl2 := h.lts
  refine ⟨⟨?_, ⟨_, h1, hA.del (hown.tidy (Maps.int_keyed Try.underlying3)) h.asc id⟩, ⟨E, World.ownsMap.kept h5 hg (by intro e; injection e with e; exact h.mc e.symm), h6⟩, h.asc.filter _, fun m hm => h.ids m (List.mem_filter.1 hm).1, h.lst, Nat.le_trans (List.length_filter_le _ _) h.len, h.g1, h.m1, h.c1, h.gm, h.gc, h.mc, grown_below h.m1 h.bel hg⟩, hk⟩
  rw [hg.block g hl2.1 (by intro e; injection e with e; exact h.gm e)]; exact h.own
theorem IsBg.putE (h : IsBg w W g mb cb n s) {E : DW} (hown : W.ownsMap Try.prog 65 (plainElem Try.prog 4) cb n E) (hA : CutAs E s.cuts) {x y : Int} {kl : Lit} (hk : keyOf Try.prog 65 (pairV x y) = some kl) (h1 : w1.ownsMap Try.prog 65 (plainElem Try.prog 4) cb (n + 1) (E.put kl (.lit (.bool true)))) (hg : W.grownBy w1 (some cb)) : IsBg w w1 g mb cb (n + 1) { s with cuts := putC s.cuts (x, y) } ∧ BgKept W w1 g mb cb := by
  obtain ⟨D, h3, h4⟩ := h.map
  have hkk : BgKept W w1 g mb cb := ⟨hg.size, fun i hi _ _ h3 => hg.block i hi (by intro e; injection e with e; exact h3 e)⟩
  have hl2 := h.lts
  refine ⟨⟨?_, ⟨D, (World.ownsMap.kept h3 hg (by intro e; injection e with e; exact h.mc e)).mono (by omega), h4⟩, ⟨_, h1, hA.put hown.isMap hk⟩, h.asc, h.ids, by have := h.lst; show 0 ≤ s.last ∧ s.last ≤ _; omega, h.len, h.g1, h.m1, h.c1, h.gm, h.gc, h.mc, grown_below h.c1 h.bel hg⟩, hkk⟩
  rw [hg.block g hl2.1 (by intro e; injection e with e; exact h.gc e)]; exact h.own
theorem IsBg.delE (h : IsBg w W g mb cb n s) {E : DW} (hA : CutAs E s.cuts) {x y : Int} {kl : Lit} (hk : keyOf Try.prog 65 (pairV x y) = some kl) (h1 : w1.ownsMap Try.prog 65 (plainElem Try.prog 4) cb n (E.del kl)) (hg : W.grownBy w1 (some cb)) : IsBg w w1 g mb cb n { s with cuts := delC s.cuts (x, y) } ∧ BgKept W w1 g mb cb := by
  obtain ⟨D, h3, h4⟩ := h.map
  have hkk : BgKept W w1 g mb cb := ⟨hg.size, fun i hi _ _ h3 => hg.block i hi (by intro e; injection e with e; exact h3 e)⟩
  have hl2 := h.lts
  refine ⟨⟨?_, ⟨D, World.ownsMap.kept h3 hg (by intro e; injection e with e; exact h.mc e), h4⟩, ⟨_, h1, hA.del hk⟩, h.asc, h.ids, h.lst, h.len, h.g1, h.m1, h.c1, h.gm, h.gc, h.mc, grown_below h.c1 h.bel hg⟩, hkk⟩
  rw [hg.block g hl2.1 (by intro e; injection e with e; exact h.gc e)]; exact h.own
end

/-! ### the bag: get, add -/
theorem bag_get_nil (id : Int) (W : World) :
    Calls Try.prog 24 #[.pointer none, .int .i64 id] W fun e W' => e = .returned (.tuple #[mailV noMail, .int .i64 1]) ∧ Below W.heap.size W W' := by
  go_enter Try.func24, Try.ntmps24
  go_wp2
  refine bodyPost_ret (results_ct rfl _ _ W.heap.size 34 #[.int .i64 0, .int .i64 0, .int .i64 0, .string ⟨#[]⟩] (0, 0) _ rfl (blk_new W _) Try.underlying34 rfl (by kernel_rfl)) rfl ?_
  exact ⟨rfl, below_alloc (Below.refl _ _) _⟩
def gotE (o : Option Ml) : Int := if o.isSome = true then 0 else 4
theorem zero_mail (w : World) : (zeroValue 34).run Try.prog w = .ok (mailV noMail) w := by kernel_rfl
theorem hg_below {W W' : World} (hb : Below W.heap.size W W') : W.grownBy W' none := ⟨hb.os, hb.tape, hb.output, hb.size, fun i hi _ => hb.block i hi⟩
set_option maxHeartbeats 4000000 in
set_option maxRecDepth 100000 in
theorem bag_get {w W : World} {g mb cb n : Nat} {s : Bg} (h : IsBg w W g mb cb n s) (id : Int) (hid : (Lit.int .i64 id).wf = true) :
    Calls Try.prog 24 #[.pointer (some ⟨g, 0, none⟩), .int .i64 id] W fun e W' => e = .returned (.tuple #[mailV ((findM s.l id).getD noMail), .int .i64 (gotE (findM s.l id))]) ∧ Below W.heap.size W W' := by
  obtain ⟨D, hown, hA⟩ := h.map
  have hb0 := below_alloc (Below.refl W.heap.size W) (.cells #[.int .i64 0, .int .i64 0, .int .i64 0, .string ⟨#[]⟩] 34)
  have HS := Aside0.mk (h.below hb0)
  have HB := Aside0.mk ((Bx.start W).push #[.int .i64 0, .int .i64 0, .int .i64 0, .string ⟨#[]⟩] 34)
  have HK := Aside0.mk (Maps.keyOf_int_mk Try.underlying3 hid)
  have HH := Aside0.mk (hA.has id)
  unfold gotE
  have HZ := Aside0.mk zero_mail
  cases hf : findM s.l id with
  | none =>
    rw [hf] at HH
    clear h hA hf hid
    go_enter Try.func24, Try.ntmps24
    go_upto_region 3 with (fail)
    obtain ⟨c0, c1, c2, f1⟩ := HS.out.cells
    have HO := Aside0.mk (hown.kept (row := none) (hg_below hb0) (by simp))
    clear hown hb0
    generalize W.alloc (.cells #[.int .i64 0, .int .i64 0, .int .i64 0, .string ⟨#[]⟩] 34) = W1 at HS HB HO c0 c1 c2 f1 ⊢
    generalize W.heap.size = gz at HB ⊢
    go_upto_region 4 with (at_lookup; have hown := HO.out; refine wpList_lookup_own_ok _ rfl _ _ 58 rfl 3 34 (Maps.int_keyed Try.underlying3) Try.underlying58 _ (HZ.out _) _ [] (mailE_mk noMail) mb n D rfl hown _ (.int .i64 id) rfl HK.out ?_; intro v ps hv; clear hown; rw [HH.out]; obtain ⟨m, rfl, hm⟩ := mailE_inv hv; clear hv hm; dsimp only [mailV])
    replace HB := Aside0.mk (HB.out.push #[.int .i64 m.id, .int .i64 m.fr, .int .i64 m.too, .string m.t] 34)
    clear HS HO c0 c1 c2 f1
    generalize W1.alloc (.cells #[.int .i64 m.id, .int .i64 m.fr, .int .i64 m.too, .string m.t] 34) = W2 at HB ⊢
    generalize W1.heap.size = g6 at HB ⊢
    have x0 : World.cell? _ ⟨gz, 0, none⟩ = some (.int .i64 0) := (blk_cell (HB.out.get 0 rfl) 0).trans rfl
    have xz0 : World.frozen? _ ⟨gz, 0, none⟩ = false := blk_frozen (HB.out.get 0 rfl) 0
    have x1 : World.cell? _ ⟨gz, 1, none⟩ = some (.int .i64 0) := (blk_cell (HB.out.get 0 rfl) 1).trans rfl
    have xz1 : World.frozen? _ ⟨gz, 1, none⟩ = false := blk_frozen (HB.out.get 0 rfl) 1
    have x2 : World.cell? _ ⟨gz, 2, none⟩ = some (.int .i64 0) := (blk_cell (HB.out.get 0 rfl) 2).trans rfl
    have xz2 : World.frozen? _ ⟨gz, 2, none⟩ = false := blk_frozen (HB.out.get 0 rfl) 2
    have x3 : World.cell? _ ⟨gz, 3, none⟩ = some (.string ⟨#[]⟩) := (blk_cell (HB.out.get 0 rfl) 3).trans rfl
    have xz3 : World.frozen? _ ⟨gz, 3, none⟩ = false := blk_frozen (HB.out.get 0 rfl) 3
    have y0 : World.cell? _ ⟨g6, 0, none⟩ = some (.int .i64 m.id) := (blk_cell (HB.out.get 1 rfl) 0).trans rfl
    have y1 : World.cell? _ ⟨g6, 1, none⟩ = some (.int .i64 m.fr) := (blk_cell (HB.out.get 1 rfl) 1).trans rfl
    have y2 : World.cell? _ ⟨g6, 2, none⟩ = some (.int .i64 m.too) := (blk_cell (HB.out.get 1 rfl) 2).trans rfl
    have y3 : World.cell? _ ⟨g6, 3, none⟩ = some (.string m.t) := (blk_cell (HB.out.get 1 rfl) 3).trans rfl
    go_wp2
    replace HB : Aside0 (Bx W ((((W2.setCell ⟨gz, 0, none⟩ (.int .i64 0)).setCell ⟨gz, 1, none⟩ (.int .i64 0)).setCell ⟨gz, 2, none⟩ (.int .i64 0)).setCell ⟨gz, 3, none⟩ (.string ⟨#[]⟩)) [(gz, #[.int .i64 0, .int .i64 0, .int .i64 0, .string ⟨#[]⟩], 34), (g6, #[.int .i64 m.id, .int .i64 m.fr, .int .i64 m.too, .string m.t], 34)]) := ⟨((((HB.out.set 0 0 (.int .i64 0) rfl).set 0 1 (.int .i64 0) rfl).set 0 2 (.int .i64 0) rfl).set 0 3 (.string ⟨#[]⟩) rfl)⟩
    generalize ((((W2.setCell ⟨gz, 0, none⟩ (.int .i64 0)).setCell ⟨gz, 1, none⟩ (.int .i64 0)).setCell ⟨gz, 2, none⟩ (.int .i64 0)).setCell ⟨gz, 3, none⟩ (.string ⟨#[]⟩)) = W9 at HB ⊢
    refine bodyPost_ret (results_ct rfl _ _ gz 34 #[.int .i64 0, .int .i64 0, .int .i64 0, .string ⟨#[]⟩] (0, 0) _ rfl (HB.out.get 0 rfl) Try.underlying34 rfl (by kernel_rfl)) rfl ?_
    exact ⟨rfl, HB.out.bel⟩
  | some m0 =>
    rw [hf] at HH
    have HAt := Aside0.mk (hA.at_ id m0 hf)
    clear h hA hf hid
    go_enter Try.func24, Try.ntmps24
    go_upto_region 3 with (fail)
    obtain ⟨c0, c1, c2, f1⟩ := HS.out.cells
    have HO := Aside0.mk (hown.kept (row := none) (hg_below hb0) (by simp))
    clear hown hb0
    generalize W.alloc (.cells #[.int .i64 0, .int .i64 0, .int .i64 0, .string ⟨#[]⟩] 34) = W1 at HS HB HO c0 c1 c2 f1 ⊢
    generalize W.heap.size = gz at HB ⊢
    go_upto_region 4 with (at_lookup; have hown := HO.out; refine wpList_lookup_own_ok _ rfl _ _ 58 rfl 3 34 (Maps.int_keyed Try.underlying3) Try.underlying58 _ (HZ.out _) _ [] (mailE_mk noMail) mb n D rfl hown _ (.int .i64 id) rfl HK.out ?_; intro v ps hv; clear hown; rw [HH.out]; rw [HAt.out] at hv; obtain ⟨m, rfl, hm⟩ := mailE_inv hv; obtain rfl := mailD_inj (Prod.mk.inj hm).1; clear hv hm; dsimp only [mailV])
    replace HB := Aside0.mk (HB.out.push #[.int .i64 m0.id, .int .i64 m0.fr, .int .i64 m0.too, .string m0.t] 34)
    clear HS HO c0 c1 c2 f1
    generalize W1.alloc (.cells #[.int .i64 m0.id, .int .i64 m0.fr, .int .i64 m0.too, .string m0.t] 34) = W2 at HB ⊢
    generalize W1.heap.size = g6 at HB ⊢
    have x0 : World.cell? _ ⟨gz, 0, none⟩ = some (.int .i64 0) := (blk_cell (HB.out.get 0 rfl) 0).trans rfl
    have xz0 : World.frozen? _ ⟨gz, 0, none⟩ = false := blk_frozen (HB.out.get 0 rfl) 0
    have x1 : World.cell? _ ⟨gz, 1, none⟩ = some (.int .i64 0) := (blk_cell (HB.out.get 0 rfl) 1).trans rfl
    have xz1 : World.frozen? _ ⟨gz, 1, none⟩ = false := blk_frozen (HB.out.get 0 rfl) 1
    have x2 : World.cell? _ ⟨gz, 2, none⟩ = some (.int .i64 0) := (blk_cell (HB.out.get 0 rfl) 2).trans rfl
    have xz2 : World.frozen? _ ⟨gz, 2, none⟩ = false := blk_frozen (HB.out.get 0 rfl) 2
    have x3 : World.cell? _ ⟨gz, 3, none⟩ = some (.string ⟨#[]⟩) := (blk_cell (HB.out.get 0 rfl) 3).trans rfl
    have xz3 : World.frozen? _ ⟨gz, 3, none⟩ = false := blk_frozen (HB.out.get 0 rfl) 3
    have y0 : World.cell? _ ⟨g6, 0, none⟩ = some (.int .i64 m0.id) := (blk_cell (HB.out.get 1 rfl) 0).trans rfl
    have y1 : World.cell? _ ⟨g6, 1, none⟩ = some (.int .i64 m0.fr) := (blk_cell (HB.out.get 1 rfl) 1).trans rfl
    have y2 : World.cell? _ ⟨g6, 2, none⟩ = some (.int .i64 m0.too) := (blk_cell (HB.out.get 1 rfl) 2).trans rfl
    have y3 : World.cell? _ ⟨g6, 3, none⟩ = some (.string m0.t) := (blk_cell (HB.out.get 1 rfl) 3).trans rfl
    go_wp2
    replace HB : Aside0 (Bx W ((((W2.setCell ⟨gz, 0, none⟩ (.int .i64 m0.id)).setCell ⟨gz, 1, none⟩ (.int .i64 m0.fr)).setCell ⟨gz, 2, none⟩ (.int .i64 m0.too)).setCell ⟨gz, 3, none⟩ (.string m0.t)) [(gz, #[.int .i64 m0.id, .int .i64 m0.fr, .int .i64 m0.too, .string m0.t], 34), (g6, #[.int .i64 m0.id, .int .i64 m0.fr, .int .i64 m0.too, .string m0.t], 34)]) := ⟨((((HB.out.set 0 0 (.int .i64 m0.id) rfl).set 0 1 (.int .i64 m0.fr) rfl).set 0 2 (.int .i64 m0.too) rfl).set 0 3 (.string m0.t) rfl)⟩
    generalize ((((W2.setCell ⟨gz, 0, none⟩ (.int .i64 m0.id)).setCell ⟨gz, 1, none⟩ (.int .i64 m0.fr)).setCell ⟨gz, 2, none⟩ (.int .i64 m0.too)).setCell ⟨gz, 3, none⟩ (.string m0.t)) = W9 at HB ⊢
    refine bodyPost_ret (results_ct rfl _ _ gz 34 #[.int .i64 m0.id, .int .i64 m0.fr, .int .i64 m0.too, .string m0.t] (0, 0) _ rfl (HB.out.get 0 rfl) Try.underlying34 rfl (by kernel_rfl)) rfl ?_
    exact ⟨rfl, HB.out.bel⟩

/-! ### the bag: add, Send -/
theorem wf_of {n : Int} (h : -9223372036854775808 ≤ n ∧ n ≤ 9223372036854775807) : (Lit.int .i64 n).wf = true := by
  have e1 : IntKind.min .i64 = -9223372036854775808 := by decide
  have e2 : IntKind.max .i64 = 9223372036854775807 := by decide
  simp only [Lit.wf, e1, e2, Bool.and_eq_true, decide_eq_true_eq]; exact h
def addB (s : Bg) (m : Ml) : Bg := { l := s.l ++ [{ m with id := s.last + 1 }], last := s.last + 1, cuts := s.cuts }
set_option maxHeartbeats 4000000 in
set_option maxRecDepth 100000 in
theorem bag_add_full {w W : World} {g mb cb n : Nat} {s : Bg} (h : IsBg w W g mb cb n s) (m : Ml) (hl : ¬ s.l.length < 400) :
    Calls Try.prog 23 #[.pointer (some ⟨g, 0, none⟩), mailV m] W fun e W' => e = .returned (.tuple #[.int .i64 0, .int .i64 8]) ∧ Below W.heap.size W W' := by
  obtain ⟨D, hown, hA⟩ := h.map
  have hb0 := below_alloc (Below.refl W.heap.size W) (.cells #[.int .i64 m.id, .int .i64 m.fr, .int .i64 m.too, .string m.t] 34)
  have HS := Aside0.mk (h.below hb0)
  have HO := Aside0.mk (hown.kept (row := none) (hg_below hb0) (by simp))
  have HSz := Aside0.mk hA.size
  have q0 : decide ((s.l.length : Int) ≥ 400) = true := decide_eq_true (by omega)
  have q1 : decide ((400 : Int) ≤ (s.l.length : Int)) = true := decide_eq_true (by omega)
  have HB := Aside0.mk hb0
  unfold mailV
  clear h hown hA hl hb0
  go_enter Try.func23, Try.ntmps23
  go_upto_region 1 with (fail)
  obtain ⟨c0, c1, c2, f1⟩ := HS.out.cells
  generalize W.alloc (.cells #[.int .i64 m.id, .int .i64 m.fr, .int .i64 m.too, .string m.t] 34) = W1 at HS HO HB c0 c1 c2 f1 ⊢
  go_wp2_with (at_len; have hown := HO.out; refine wpList_len_own _ rfl _ 58 rfl 3 34 Try.underlying58 _ mb n D rfl hown ?_; clear hown; rw [HSz.out])
  go_ret2
  exact ⟨rfl, HB.out⟩
set_option maxHeartbeats 4000000 in
set_option maxRecDepth 100000 in
theorem bag_add_ok {w W : World} {g mb cb n : Nat} {s : Bg} (h : IsBg w W g mb cb n s) (hn : n < 1000000) (m : Ml) (hm : Adr m.fr ∧ Adr m.too ∧ m.t.size ≤ 65536) (hl : s.l.length < 400) :
    Calls Try.prog 23 #[.pointer (some ⟨g, 0, none⟩), mailV m] W fun e W' => e = .returned (.tuple #[.int .i64 (s.last + 1), .int .i64 0]) ∧ IsBg w W' g mb cb (n + 2) (addB s m) ∧ BgKept W W' g mb cb := by
  obtain ⟨D, hown, hA⟩ := h.map
  have hb0 := below_alloc (Below.refl W.heap.size W) (.cells #[.int .i64 m.id, .int .i64 m.fr, .int .i64 m.too, .string m.t] 34)
  have HS := Aside0.mk (h.below hb0)
  have HO := Aside0.mk (hown.kept (row := none) (hg_below hb0) (by simp))
  have HSz := Aside0.mk hA.size
  have HA := Aside0.mk hA
  have HM := Aside0.mk hm
  have HN := Aside0.mk hn
  have HL := Aside0.mk hl
  have HK0 := Aside0.mk (BgKept.below (g := g) (rb := mb) (mb := cb) hb0)
  have q0 : decide ((s.l.length : Int) ≥ 400) = false := decide_eq_false (by omega)
  have q1 : decide ((400 : Int) ≤ (s.l.length : Int)) = false := decide_eq_false (by omega)
  have HB := Aside0.mk ((Bx.start W).push #[.int .i64 m.id, .int .i64 m.fr, .int .i64 m.too, .string m.t] 34)
  have hlst := h.lst
  have hwk : IntKind.i64.wrap (s.last + 1) = s.last + 1 := IntWalk.i64_in _ (by omega)
  have HG : Aside0 (W.heap.size ≠ g ∧ W.heap.size ≠ mb ∧ W.heap.size ≠ cb ∧ w.heap.size ≤ W.heap.size) := ⟨by have := h.lts; have := h.bel.size; omega⟩
  have HLs := Aside0.mk hlst
  have h_ids := Aside0.mk h.ids
  unfold mailV
  clear h hown hA hl hb0 hm hn hlst
  go_enter Try.func23, Try.ntmps23
  go_upto_region 1 with (fail)
  obtain ⟨c0, c1, c2, f1⟩ := HS.out.cells
  generalize W.alloc (.cells #[.int .i64 m.id, .int .i64 m.fr, .int .i64 m.too, .string m.t] 34) = W1 at HS HO HB HK0 c0 c1 c2 f1 ⊢
  generalize hgm : W.heap.size = gm at HB HG ⊢
  have HGm := Aside0.mk (Nat.le_of_eq hgm)
  clear hgm
  go_upto_region 4 with (at_len; have hown := HO.out; refine wpList_len_own _ rfl _ 58 rfl 3 34 Try.underlying58 _ mb n D rfl hown ?_; clear hown; rw [HSz.out])
  replace HK0 := Aside0.mk (HK0.out.trans (BgKept.set (a := g) (j := 1) (Or.inl rfl) (.int .i64 (s.last + 1))))
  replace HO := Aside0.mk (HO.out.setCell (a := ⟨g, 1, none⟩) HS.out.gm.symm (.int .i64 (s.last + 1)))
  have HX := Aside0.mk (blk_far (p := ⟨g, 1, none⟩) (HB.out.get 0 rfl) HG.out.1 (.int .i64 (s.last + 1)))
  replace HS := Aside0.mk HS.out.setLast
  clear c0 c1 c2 f1 hwk HB q0 q1
  generalize W1.setCell ⟨g, 1, none⟩ (.int .i64 (s.last + 1)) = W2 at HS HO HK0 HX ⊢
  obtain ⟨c0, c1, c2, f1⟩ := HS.out.cells
  have x0 : World.cell? _ ⟨gm, 0, none⟩ = some (.int .i64 m.id) := (blk_cell HX.out 0).trans rfl
  have xz0 : World.frozen? _ ⟨gm, 0, none⟩ = false := blk_frozen HX.out 0
  go_upto_region 5 with (fail)
  replace HO := Aside0.mk ((HO.out.setCell (a := ⟨gm, 0, none⟩) (fun e => HG.out.2.1 e.symm) (.int .i64 (s.last + 1))).kept (row := none) (hg_below (below_drew1 (Below.refl _ _))) (by simp))
  replace HX := Aside0.mk (blk_put HX.out 0 (.int .i64 (s.last + 1)) rfl)
  have HKf : Aside0 (BgKept W (W2.setCell ⟨gm, 0, none⟩ (.int .i64 (s.last + 1))) g mb cb) := ⟨HK0.out.setNew HGm.out 0 _⟩
  replace HS := Aside0.mk (HS.out.setFar HG.out.2.2.2 ⟨HG.out.1, HG.out.2.1, HG.out.2.2.1⟩ 0 (.int .i64 (s.last + 1)))
  clear c0 c1 c2 f1 x0 xz0 HK0
  generalize W2.setCell ⟨gm, 0, none⟩ (.int .i64 (s.last + 1)) = W3 at HS HO HKf HX ⊢
  obtain ⟨c0, c1, c2, f1⟩ := HS.out.cells
  have x0 : World.cell? _ ⟨gm, 0, none⟩ = some (.int .i64 (s.last + 1)) := (blk_cell HX.out 0).trans rfl
  have x1 : World.cell? _ ⟨gm, 1, none⟩ = some (.int .i64 m.fr) := (blk_cell HX.out 1).trans rfl
  have x2 : World.cell? _ ⟨gm, 2, none⟩ = some (.int .i64 m.too) := (blk_cell HX.out 2).trans rfl
  have x3 : World.cell? _ ⟨gm, 3, none⟩ = some (.string m.t) := (blk_cell HX.out 3).trans rfl
  refine wp_region_still_tail 7 (by kernel_rfl) (by kernel_rfl) ?_
  simp only [List.take_succ_cons, List.take_zero, List.drop_succ_cons, List.drop_zero]
  repeat still_step
  refine wpStill_nil ?_
  change wpList _ _ _ _ _ W3.drew
  replace HS := Aside0.mk (HS.out.below (below_drew1 (Below.refl _ _)))
  replace HKf := Aside0.mk (HKf.out.trans (BgKept.below (below_drew1 (Below.refl _ _))))
  replace HO := Aside0.mk (HO.out.mono (Nat.le_succ n))
  have HXf : Aside0 (∀ w1, W3.drew.grownBy w1 (some mb) → w1.cell? ⟨gm, 0, none⟩ = some (.int .i64 (s.last + 1))) := ⟨fun w1 hg => (blk_cell (blk_grown (blk_below HX.out (below_drew1 (Below.refl _ _))) hg (by intro e; injection e with e; exact HG.out.2.1 e)) 0).trans rfl⟩
  clear c0 c1 c2 f1 x0 x1 x2 x3 HX
  generalize W3.drew = W4 at HS HO HKf HXf ⊢
  have HKy := Aside0.mk (Maps.keyOf_int_mk (P := Try.prog) (k := 3) (q := .i64) Try.underlying3 (a := s.last + 1) (wf_of (by have := HLs.out; have := HN.out; omega)))
  refine wpList_mapUpdate_own _ rfl _ _ _ 58 rfl 3 34 (Maps.int_keyed Try.underlying3) Try.underlying58 _ mb (n + 1) D rfl HO.out (by have := HN.out; unfold maxLen; omega) _ _ (.int .i64 (s.last + 1)) rfl rfl HKy.out _ [] (mailE_mk ⟨s.last + 1, m.fr, m.too, m.t⟩) ?_
  intro w1 hown1 hgrow1
  obtain ⟨hs1, hk1⟩ := HS.out.putL HO.out HA.out ⟨s.last + 1, m.fr, m.too, m.t⟩ rfl (fun y hy => by have := (h_ids.out y hy).2.1; show y.id < s.last + 1; omega) ⟨by have := HLs.out; show 1 ≤ s.last + 1; omega, HM.out⟩ HL.out hown1 hgrow1
  have x0 : World.cell? w1 ⟨gm, 0, none⟩ = some (.int .i64 (s.last + 1)) := HXf.out w1 hgrow1
  have HS1 := Aside0.mk hs1
  have HK1 := Aside0.mk (HKf.out.trans hk1)
  clear hs1 hk1 hown1 hgrow1 HS HO HKf HKy
  go_wp2
  go_ret2
  exact ⟨rfl, HS1.out, HK1.out⟩

/-! ### the bag: Send, Twice, Lose, Find -/
def addF (s : Bg) (m : Ml) : Bg × Int × Int := if s.l.length < 400 then (addB s m, s.last + 1, 0) else (s, 0, 8)
def okM (m : Ml) : Prop := Adr m.fr ∧ Adr m.too ∧ m.t.size ≤ 65536
theorem bag_add {w W : World} {g mb cb n : Nat} {s : Bg} (h : IsBg w W g mb cb n s) (hn : n < 1000000) (m : Ml) (hm : okM m) :
    Calls Try.prog 23 #[.pointer (some ⟨g, 0, none⟩), mailV m] W fun e W' => e = .returned (.tuple #[.int .i64 (addF s m).2.1, .int .i64 (addF s m).2.2]) ∧ IsBg w W' g mb cb (n + 2) (addF s m).1 ∧ BgKept W W' g mb cb := by
  unfold addF
  by_cases hl : s.l.length < 400
  · rw [if_pos hl]; exact bag_add_ok h hn m hm hl
  · rw [if_neg hl]
    refine (bag_add_full h m hl).mono ?_
    rintro e W' ⟨rfl, hb⟩
    exact ⟨rfl, (h.below hb).more (by omega), BgKept.below hb⟩
def sendB (s : Bg) (f t : Int) (x : ByteArray) : Bg × Int × Int :=
  if (adr f && adr t) = true then (if (x.size : Int) ≤ 65536 then addF s ⟨0, f, t, x⟩ else (s, 0, 2)) else (s, 0, 1)
theorem bag_send_nil (f t : Int) (x : ByteArray) (W : World) :
    Calls Try.prog 11 #[.pointer none, .int .i64 f, .int .i64 t, .string x] W fun e W' => e = .returned (.tuple #[.int .i64 0, .int .i64 1]) ∧ W = W' := by
  go_enter Try.func11, Try.ntmps11
  go_wp2
  go_ret2
  exact ⟨rfl, rfl⟩
set_option maxHeartbeats 4000000 in
set_option maxRecDepth 100000 in
theorem bag_send {w W : World} {g mb cb n : Nat} {s : Bg} (h : IsBg w W g mb cb n s) (hn : n < 1000000) (f t : Int) (x : ByteArray) :
    Calls Try.prog 11 #[.pointer (some ⟨g, 0, none⟩), .int .i64 f, .int .i64 t, .string x] W fun e W' => e = .returned (.tuple #[.int .i64 (sendB s f t x).2.1, .int .i64 (sendB s f t x).2.2]) ∧ IsBg w W' g mb cb (n + 2) (sendB s f t x).1 ∧ BgKept W W' g mb cb := by
  have HA := Aside0.mk (fun W => bag_address f W)
  have HB := Aside0.mk (fun W => bag_address t W)
  unfold sendB
  cases ha : adr f
  · rw [ha] at HA
    have HS := Aside0.mk (h.more (Nat.le_add_right n 2))
    rw [Bool.false_and, if_neg (by decide)]
    clear h ha
    go_enter Try.func11, Try.ntmps11
    go_wp2_with (go_at_call 22; refine (HA.out _).mono ?_; rintro e w1 ⟨rfl, rfl⟩)
    go_ret2
    exact ⟨rfl, HS.out, BgKept.refl _ _ _ _⟩
  · cases hb : adr t
    · rw [ha] at HA
      rw [hb] at HB
      have HS := Aside0.mk (h.more (Nat.le_add_right n 2))
      rw [Bool.true_and, if_neg (by decide)]
      clear h ha hb
      go_enter Try.func11, Try.ntmps11
      go_upto_if 10 with (first | (go_at_call 22; first | (with_reducible refine (HA.out _).mono ?_; rintro e w1 ⟨rfl, rfl⟩) | (with_reducible refine (HB.out _).mono ?_; rintro e w1 ⟨rfl, rfl⟩)))
      go_wp2
      go_ret2
      exact ⟨rfl, HS.out, BgKept.refl _ _ _ _⟩
    · rw [ha] at HA
      rw [hb] at HB
      have hf := (adr_iff f).1 ha
      have ht := (adr_iff t).1 hb
      rw [Bool.true_and, if_pos rfl]
      by_cases hx : (x.size : Int) ≤ 65536
      · rw [if_pos hx]
        have HC := Aside0.mk (bag_add h hn ⟨0, f, t, x⟩ ⟨hf, ht, by show x.size ≤ 65536; omega⟩)
        have q0 : decide ((x.size : Int) > 65536) = false := decide_eq_false (by omega)
        have q1 : decide ((65536 : Int) < (x.size : Int)) = false := decide_eq_false (by omega)
        clear h ha hb hf ht hx
        go_enter Try.func11, Try.ntmps11
        go_wp2_with (first | (go_at_call 22; first | (with_reducible refine (HA.out _).mono ?_; rintro e w1 ⟨rfl, rfl⟩) | (with_reducible refine (HB.out _).mono ?_; rintro e w1 ⟨rfl, rfl⟩)) | (go_at_call 23; refine HC.out.mono ?_; rintro e w1 ⟨rfl, hs, hk⟩; have HS := Aside0.mk hs; have HK := Aside0.mk hk; clear hs hk))
        go_ret2
        exact ⟨rfl, HS.out, HK.out⟩
      · rw [if_neg hx]
        have HS := Aside0.mk (h.more (Nat.le_add_right n 2))
        have q0 : decide ((x.size : Int) > 65536) = true := decide_eq_true (by omega)
        have q1 : decide ((65536 : Int) < (x.size : Int)) = true := decide_eq_true (by omega)
        clear h ha hb hf ht hx
        go_enter Try.func11, Try.ntmps11
        go_wp2_with (go_at_call 22; first | (with_reducible refine (HA.out _).mono ?_; rintro e w1 ⟨rfl, rfl⟩) | (with_reducible refine (HB.out _).mono ?_; rintro e w1 ⟨rfl, rfl⟩))
        go_ret2
        exact ⟨rfl, HS.out, BgKept.refl _ _ _ _⟩
theorem bag_get' {w W : World} {g mb cb n : Nat} {s : Bg} (h : IsBg w W g mb cb n s) (id : Int) (hid : (Lit.int .i64 id).wf = true) (m : Ml) (q : Int) (hm : (findM s.l id).getD noMail = m) (hq : gotE (findM s.l id) = q) :
    Calls Try.prog 24 #[.pointer (some ⟨g, 0, none⟩), .int .i64 id] W fun e W' => e = .returned (.tuple #[.agg #[.int .i64 m.id, .int .i64 m.fr, .int .i64 m.too, .string m.t], .int .i64 q]) ∧ Below W.heap.size W W' := by
  subst hm hq
  exact bag_get h id hid
theorem bag_get_nil' (id : Int) (W : World) :
    Calls Try.prog 24 #[.pointer none, .int .i64 id] W fun e W' => e = .returned (.tuple #[.agg #[.int .i64 0, .int .i64 0, .int .i64 0, .string ⟨#[]⟩], .int .i64 1]) ∧ Below W.heap.size W W' := bag_get_nil id W
theorem bag_twice_nil (id : Int) (W : World) :
    Calls Try.prog 14 #[.pointer none, .int .i64 id] W fun e W' => e = .returned (.tuple #[.int .i64 0, .int .i64 1]) ∧ Below W.heap.size W W' := by
  go_enter Try.func14, Try.ntmps14
  go_wp2_with (go_at_call 24; refine (bag_get_nil' _ _).mono ?_; rintro e w1 ⟨rfl, hb⟩; have HB := Aside0.mk hb; clear hb)
  go_ret2
  exact ⟨rfl, below_alloc HB.out _⟩
theorem bag_lose_nil (id : Int) (W : World) :
    Calls Try.prog 13 #[.pointer none, .int .i64 id] W fun e W' => e = .returned (.int .i64 1) ∧ Below W.heap.size W W' := by
  go_enter Try.func13, Try.ntmps13
  go_wp2_with (go_at_call 24; refine (bag_get_nil' _ _).mono ?_; rintro e w1 ⟨rfl, hb⟩; have HB := Aside0.mk hb; clear hb)
  go_ret
  exact ⟨rfl, below_alloc HB.out _⟩
def twiceB (s : Bg) (id : Int) : Bg × Int × Int := match findM s.l id with | none => (s, 0, 4) | some m => addF s m
set_option maxHeartbeats 4000000 in
set_option maxRecDepth 100000 in
theorem bag_twice {w W : World} {g mb cb n : Nat} {s : Bg} (h : IsBg w W g mb cb n s) (hn : n < 1000000) (id : Int) (hid : (Lit.int .i64 id).wf = true) :
    Calls Try.prog 14 #[.pointer (some ⟨g, 0, none⟩), .int .i64 id] W fun e W' => e = .returned (.tuple #[.int .i64 (twiceB s id).2.1, .int .i64 (twiceB s id).2.2]) ∧ IsBg w W' g mb cb (n + 2) (twiceB s id).1 ∧ BgKept W W' g mb cb := by
  unfold twiceB
  cases hf : findM s.l id with
  | none =>
    have HG := Aside0.mk (bag_get' h id hid noMail 4 (by rw [hf]; rfl) (by rw [hf]; rfl))
    have HS := Aside0.mk (h.more (Nat.le_add_right n 2))
    clear h hid hf
    go_enter Try.func14, Try.ntmps14
    go_wp2_with (go_at_call 24; refine HG.out.mono ?_; rintro e w1 ⟨rfl, hb⟩; have HB := Aside0.mk hb; clear hb)
    go_ret2
    exact ⟨rfl, HS.out.below (below_alloc HB.out _), BgKept.below (below_alloc HB.out _)⟩
  | some m =>
    have HG := Aside0.mk (bag_get' h id hid m 0 (by rw [hf]; rfl) (by rw [hf]; rfl))
    have HM : Aside0 (okM m) := ⟨(h.ids m (findM_some hf).1).2.2⟩
    have HS := Aside0.mk h
    have HN := Aside0.mk hn
    clear h hid hf hn
    go_enter Try.func14, Try.ntmps14
    go_upto_region 2 with (go_at_call 24; refine HG.out.mono ?_; rintro e w1 ⟨rfl, hb⟩; have HB := Aside0.mk hb; clear hb)
    replace HB := Aside0.mk (below_alloc HB.out (.cells #[.int .i64 m.id, .int .i64 m.fr, .int .i64 m.too, .string m.t] 34))
    have HX := Aside0.mk (blk_new w1 (.cells #[.int .i64 m.id, .int .i64 m.fr, .int .i64 m.too, .string m.t] 34))
    generalize w1.alloc (.cells #[.int .i64 m.id, .int .i64 m.fr, .int .i64 m.too, .string m.t] 34) = W2 at HB HX ⊢
    generalize w1.heap.size = g6 at HX ⊢
    have HC := Aside0.mk (bag_add (HS.out.below HB.out) HN.out m HM.out)
    have x0 : W2.cell? ⟨g6, 0, none⟩ = some (.int .i64 m.id) := (blk_cell HX.out 0).trans rfl
    have x1 : W2.cell? ⟨g6, 1, none⟩ = some (.int .i64 m.fr) := (blk_cell HX.out 1).trans rfl
    have x2 : W2.cell? ⟨g6, 2, none⟩ = some (.int .i64 m.too) := (blk_cell HX.out 2).trans rfl
    have x3 : W2.cell? ⟨g6, 3, none⟩ = some (.string m.t) := (blk_cell HX.out 3).trans rfl
    go_wp2_with (go_at_call 23; refine HC.out.mono ?_; rintro e w3 ⟨rfl, hs, hk⟩; have HS3 := Aside0.mk hs; have HK3 := Aside0.mk hk; clear hs hk x0 x1 x2 x3)
    go_ret2
    exact ⟨rfl, HS3.out, (BgKept.below HB.out).trans HK3.out⟩
def loseB (s : Bg) (id : Int) : Bg × Int := match findM s.l id with | none => (s, 4) | some _ => ({ s with l := dropM s.l id }, 0)
set_option maxHeartbeats 4000000 in
set_option maxRecDepth 100000 in
theorem bag_lose {w W : World} {g mb cb n : Nat} {s : Bg} (h : IsBg w W g mb cb n s) (id : Int) (hid : (Lit.int .i64 id).wf = true) :
    Calls Try.prog 13 #[.pointer (some ⟨g, 0, none⟩), .int .i64 id] W fun e W' => e = .returned (.int .i64 (loseB s id).2) ∧ IsBg w W' g mb cb n (loseB s id).1 ∧ BgKept W W' g mb cb := by
  unfold loseB
  cases hf : findM s.l id with
  | none =>
    have HG := Aside0.mk (bag_get' h id hid noMail 4 (by rw [hf]; rfl) (by rw [hf]; rfl))
    have HS := Aside0.mk h
    clear h hid hf
    go_enter Try.func13, Try.ntmps13
    go_wp2_with (go_at_call 24; refine HG.out.mono ?_; rintro e w1 ⟨rfl, hb⟩; have HB := Aside0.mk hb; clear hb)
    go_ret
    exact ⟨rfl, HS.out.below (below_alloc HB.out _), BgKept.below (below_alloc HB.out _)⟩
  | some m =>
    have HG := Aside0.mk (bag_get' h id hid m 0 (by rw [hf]; rfl) (by rw [hf]; rfl))
    have HS := Aside0.mk h
    have HKy := Aside0.mk (Maps.keyOf_int_mk (P := Try.prog) (k := 3) (q := .i64) Try.underlying3 hid)
    clear h hid hf
    go_enter Try.func13, Try.ntmps13
    go_upto_region 2 with (go_at_call 24; refine HG.out.mono ?_; rintro e w1 ⟨rfl, hb⟩; have HB := Aside0.mk hb; clear hb)
    replace HB := Aside0.mk (below_alloc HB.out (.cells #[.int .i64 m.id, .int .i64 m.fr, .int .i64 m.too, .string m.t] 34))
    generalize w1.alloc (.cells #[.int .i64 m.id, .int .i64 m.fr, .int .i64 m.too, .string m.t] 34) = W2 at HB ⊢
    replace HS := Aside0.mk (HS.out.below HB.out)
    obtain ⟨c0, c1, c2, f1⟩ := HS.out.cells
    obtain ⟨D, hown, hA⟩ := HS.out.map
    have HO := Aside0.mk hown
    have HA := Aside0.mk hA
    clear hown hA
    go_wp2_with (at_delete; have hown := HO.out; refine wpList_delete_own _ rfl _ _ 58 3 rfl 34 (Maps.int_keyed Try.underlying3) Try.underlying58 _ mb n D rfl hown _ (.int .i64 id) rfl HKy.out ?_; intro w3 hown1 hturn1; obtain ⟨hs, hk⟩ := HS.out.delL hown HA.out id hown1 hturn1.grown; have HS3 := Aside0.mk hs; have HK3 := Aside0.mk hk; clear hown hown1 hturn1 hs hk c0 c1 c2 f1)
    go_ret
    exact ⟨rfl, HS3.out, (BgKept.below HB.out).trans HK3.out⟩

/-! ### the bag: maps within drawn regions -/
theorem cell_below {W W' : World} (hb : Below W.heap.size W W') {a : Addr} {v : Value} (h : W.cell? a = some v) : W'.cell? a = some v := (hb.cell (World.block_lt_of_cell? W a h)).trans h
section
variable {P : Program} {ops : Array Oper} {oi : Oper} {N : Option Tmp} {a : Act} {w w' : World} {K : Act → World → Prop} {Q : Exit → Act → World → Prop}
theorem look_ (m x : Operand) (t : TypeId) (ok : Bool) (hw : Region.wanted oi (yielded ops a.tmps) = true) (hN : oi.dst = N) (hop : oi.op = Op.lookup t m x ok) (mv xv r : Value) (hm : a.eval m = mv) (hx : a.eval x = xv)
    (hrun : (Instr.lookup t mv xv ok).run P w = .ok r w) (h : K (a.put N r) w) : if Region.wanted oi (yielded ops a.tmps) = true then Oper.wp P oi a w K Q else K (a.put N undef) w := by
  rw [if_pos hw]
  subst hN
  unfold Oper.wp
  simp [execOp, hop, hm, hx, hrun, Result.andThen]
  exact h
theorem upd_ (m x v : Operand) (t : TypeId) (hw : Region.wanted oi (yielded ops a.tmps) = true) (hN : oi.dst = N) (hop : oi.op = Op.mapUpdate t m x v) (mv xv vv : Value) (hm : a.eval m = mv) (hx : a.eval x = xv) (hv : a.eval v = vv)
    (hrun : (Instr.mapUpdate t mv xv vv).run P w = .ok () w') (h : K (a.put N undef) w') : if Region.wanted oi (yielded ops a.tmps) = true then Oper.wp P oi a w K Q else K (a.put N undef) w := by
  rw [if_pos hw]
  subst hN
  unfold Oper.wp
  simp [execOp, hop, hm, hx, hv, hrun, Result.andThen]
  exact h
theorem del_ (m x : Operand) (t k : TypeId) (hw : Region.wanted oi (yielded ops a.tmps) = true) (hN : oi.dst = N) (hop : oi.op = Op.call { callee := Callee.builtin Builtin.delete, args := #[m, x], argTypes := #[t, k] }) (mv xv : Value) (hm : a.eval m = mv) (hx : a.eval x = xv)
    (hrun : (Builtin.delete_ #[t, k] oi.type #[mv, xv]).run P w = .ok (.tuple #[]) w') (h : K (a.put N (.tuple #[])) w') : if Region.wanted oi (yielded ops a.tmps) = true then Oper.wp P oi a w K Q else K (a.put N undef) w := by
  rw [if_pos hw]
  subst hN
  unfold Oper.wp
  simp [execOp, hop, resolve, invoke, builtin, hm, hx, hrun, Result.andThen]
  exact h
end
theorem zero_bool (w : World) : (zeroValue 4).run Try.prog w = .ok (.bool false) w := by kernel_rfl
set_option maxRecDepth 100000 in
theorem IsBg.cutAt {w W : World} {g mb cb n : Nat} {s : Bg} (h : IsBg w W g mb cb n s) {x y : Int} (hx : Adr x) (hy : Adr y) :
    (Instr.lookup 59 (.map (some cb)) (pairV (ofP x y).1 (ofP x y).2) false).run Try.prog W = .ok (.bool (s.cuts.contains (ofP x y))) W := by
  obtain ⟨E, hown, hA⟩ := h.cut
  obtain ⟨kl, hkl⟩ := of_key hx hy
  obtain ⟨v, ps, hrun, hv⟩ := hown.lookup pairKeyed Try.underlying59 (zero_bool W) (plainElem_bool (H := Unit) Try.underlying4 false) hkl
  obtain ⟨h1, h2⟩ := hA.at_ _ _ kl hkl
  rw [hrun]
  have e : (ofP x y).1 = (ofP x y).1 := rfl
  have hb : ∀ b : Bool, v = .bool b → E.atKey kl (.lit (.bool false)) = .lit (.bool b) := by
    intro b hb
    subst hb
    simp [plainElem, Try.underlying4] at hv
    exact hv.1.symm
  have hvb : ∃ b, v = .bool b := by
    unfold plainElem at hv
    rw [Try.underlying4] at hv
    cases v <;> simp at hv
    exact ⟨_, rfl⟩
  obtain ⟨b, rfl⟩ := hvb
  have hb := hb b rfl
  cases hc : s.cuts.contains (ofP x y)
  · have : Maps.has E kl = false := h1.trans hc
    rw [Maps.atKey_of_not_has this] at hb
    injection hb with hb
    injection hb with hb
    rw [← hb]
  · rw [h2 hc] at hb
    injection hb with hb
    injection hb with hb
    rw [← hb]
theorem Bx.rebase {w W W2 : World} {l : BxL} (h : Bx W W2 l) (hb : Below w.heap.size w W) : Bx w W2 l :=
  ⟨fun e he => ⟨(h.at_ e he).1, Nat.le_trans hb.size (h.at_ e he).2⟩, h.nd, hb.trans (h.bel.mono hb.size)⟩
theorem Bx.grownAt {w W W' : World} {l : BxL} (h : Bx w W l) {b : Nat} (hg : W.grownBy W' (some b)) (hb : w.heap.size ≤ b) (hn : ∀ e ∈ l, e.1 ≠ b) : Bx w W' l :=
  ⟨fun e he => ⟨blk_grown (h.at_ e he).1 hg (fun q => by injection q with q; exact hn e he q), (h.at_ e he).2⟩, h.nd, grown_below hb h.bel hg⟩

/-! ### the bag: Take, Find, Apart -/
def bagTake4.T : Bool × List (List Nat × List Nat) := (true, [([], []), ([0], [0]), ([1], [1]), ([2], [2]), ([], []), ([4], [4]), ([], []), ([6], [6]), ([5, 7], [5, 7]), ([3, 8], [3, 8]), ([9, 8], [9])])
def bagTake4.B : List Nat := [0, 1, 3, 7, 0, 16, 0, 64, 240, 511, 1023]
theorem bagTake4.tab : rtab .any (opsOf Try.f12 4) = bagTake4.T := by kernel_rfl
theorem bagTake4.bits : waitsOk bagTake4.T.2 bagTake4.B = true := by kernel_rfl
def bagApart4.T : Bool × List (List Nat × List Nat) := (true, [([], []), ([0], [0]), ([1], [1]), ([2], [2]), ([], []), ([], []), ([4, 5], [4, 5]), ([3, 6, 6, 0, 1, 2, 3, 4, 5, 6], [3, 6])])
def bagApart4.B : List Nat := [0, 1, 3, 7, 0, 0, 48, 127]
theorem bagApart4.tab : rtab .any (opsOf Try.f16 4) = bagApart4.T := by kernel_rfl
theorem bagApart4.bits : waitsOk bagApart4.T.2 bagApart4.B = true := by kernel_rfl
def bagApart5.T : Bool × List (List Nat × List Nat) := (true, [([], []), ([0], [0]), ([1], [1]), ([2], [2]), ([], []), ([], []), ([4, 5], [4, 5]), ([3, 6, 6], [3, 6])])
def bagApart5.B : List Nat := [0, 1, 3, 7, 0, 0, 48, 127]
theorem bagApart5.tab : rtab .any (opsOf Try.f16 5) = bagApart5.T := by kernel_rfl
theorem bagApart5.bits : waitsOk bagApart5.T.2 bagApart5.B = true := by kernel_rfl
theorem bag_get0 {w W : World} {g mb cb n : Nat} {s : Bg} (h : IsBg w W g mb cb n s) (id : Int) (hid : (Lit.int .i64 id).wf = true) (hf : findM s.l id = none) :
    Calls Try.prog 24 #[.pointer (some ⟨g, 0, none⟩), .int .i64 id] W fun e W' => e = .returned (.tuple #[.agg #[.int .i64 0, .int .i64 0, .int .i64 0, .string ⟨#[]⟩], .int .i64 4]) ∧ Below W.heap.size W W' :=
  bag_get' h id hid noMail 4 (by rw [hf]; rfl) (by rw [hf]; rfl)
def takeB (s : Bg) (id : Int) : Bg × Ml × Int := match findM s.l id with | none => (s, noMail, 4) | some m => if s.cuts.contains (ofP m.fr m.too) = true then (s, noMail, 50) else ({ s with l := dropM s.l id }, m, 0)
def findB (s : Bg) (id : Int) : Ml × Bool := match findM s.l id with | none => (noMail, false) | some m => (m, true)
set_option maxHeartbeats 4000000 in
theorem bag_find_nil (id : Int) (W : World) :
    Calls Try.prog 21 #[.pointer none, .int .i64 id] W fun e W' => e = .returned (.tuple #[mailV noMail, .bool false]) ∧ Below W.heap.size W W' := by
  have hb0 := below_alloc (Below.refl W.heap.size W) (.cells #[.int .i64 0, .int .i64 0, .int .i64 0, .string ⟨#[]⟩] 34)
  have HB := Aside0.mk ((Bx.start W).push #[.int .i64 0, .int .i64 0, .int .i64 0, .string ⟨#[]⟩] 34)
  clear hb0
  go_enter Try.func21, Try.ntmps21
  go_upto_region 1 with (fail)
  generalize W.alloc (.cells #[.int .i64 0, .int .i64 0, .int .i64 0, .string ⟨#[]⟩] 34) = W1 at HB ⊢
  generalize W.heap.size = gz at HB ⊢
  go_upto_region 2 with (go_at_call 24; refine (bag_get_nil' _ _).mono ?_; rintro e w1 ⟨rfl, hb⟩; replace HB := Aside0.mk (HB.out.below hb); clear hb)
  replace HB := Aside0.mk (HB.out.push #[.int .i64 0, .int .i64 0, .int .i64 0, .string ⟨#[]⟩] 34)
  generalize w1.alloc (.cells #[.int .i64 0, .int .i64 0, .int .i64 0, .string ⟨#[]⟩] 34) = W2 at HB ⊢
  generalize w1.heap.size = g6 at HB ⊢
  have x0 : World.cell? _ ⟨gz, 0, none⟩ = some (.int .i64 0) := (blk_cell (HB.out.get 0 rfl) 0).trans rfl
  have xz0 : World.frozen? _ ⟨gz, 0, none⟩ = false := blk_frozen (HB.out.get 0 rfl) 0
  have x1 : World.cell? _ ⟨gz, 1, none⟩ = some (.int .i64 0) := (blk_cell (HB.out.get 0 rfl) 1).trans rfl
  have xz1 : World.frozen? _ ⟨gz, 1, none⟩ = false := blk_frozen (HB.out.get 0 rfl) 1
  have x2 : World.cell? _ ⟨gz, 2, none⟩ = some (.int .i64 0) := (blk_cell (HB.out.get 0 rfl) 2).trans rfl
  have xz2 : World.frozen? _ ⟨gz, 2, none⟩ = false := blk_frozen (HB.out.get 0 rfl) 2
  have x3 : World.cell? _ ⟨gz, 3, none⟩ = some (.string ⟨#[]⟩) := (blk_cell (HB.out.get 0 rfl) 3).trans rfl
  have xz3 : World.frozen? _ ⟨gz, 3, none⟩ = false := blk_frozen (HB.out.get 0 rfl) 3
  have y0 : World.cell? _ ⟨g6, 0, none⟩ = some (.int .i64 0) := (blk_cell (HB.out.get 1 rfl) 0).trans rfl
  have y1 : World.cell? _ ⟨g6, 1, none⟩ = some (.int .i64 0) := (blk_cell (HB.out.get 1 rfl) 1).trans rfl
  have y2 : World.cell? _ ⟨g6, 2, none⟩ = some (.int .i64 0) := (blk_cell (HB.out.get 1 rfl) 2).trans rfl
  have y3 : World.cell? _ ⟨g6, 3, none⟩ = some (.string ⟨#[]⟩) := (blk_cell (HB.out.get 1 rfl) 3).trans rfl
  go_wp2
  replace HB : Aside0 (Bx W ((((W2.setCell ⟨gz, 0, none⟩ (.int .i64 0)).setCell ⟨gz, 1, none⟩ (.int .i64 0)).setCell ⟨gz, 2, none⟩ (.int .i64 0)).setCell ⟨gz, 3, none⟩ (.string ⟨#[]⟩)) [(gz, #[.int .i64 0, .int .i64 0, .int .i64 0, .string ⟨#[]⟩], 34), (g6, #[.int .i64 0, .int .i64 0, .int .i64 0, .string ⟨#[]⟩], 34)]) := ⟨((((HB.out.set 0 0 (.int .i64 0) rfl).set 0 1 (.int .i64 0) rfl).set 0 2 (.int .i64 0) rfl).set 0 3 (.string ⟨#[]⟩) rfl)⟩
  generalize ((((W2.setCell ⟨gz, 0, none⟩ (.int .i64 0)).setCell ⟨gz, 1, none⟩ (.int .i64 0)).setCell ⟨gz, 2, none⟩ (.int .i64 0)).setCell ⟨gz, 3, none⟩ (.string ⟨#[]⟩)) = W9 at HB ⊢
  refine bodyPost_ret (results_ct rfl _ _ gz 34 #[.int .i64 0, .int .i64 0, .int .i64 0, .string ⟨#[]⟩] (0, 0) _ rfl (HB.out.get 0 rfl) Try.underlying34 rfl (by kernel_rfl)) rfl ?_
  exact ⟨rfl, HB.out.bel⟩
set_option maxHeartbeats 4000000 in
theorem bag_take_nil (id : Int) (W : World) :
    Calls Try.prog 12 #[.pointer none, .int .i64 id] W fun e W' => e = .returned (.tuple #[mailV noMail, .int .i64 1]) ∧ Below W.heap.size W W' := by
  have hb0 := below_alloc (Below.refl W.heap.size W) (.cells #[.int .i64 0, .int .i64 0, .int .i64 0, .string ⟨#[]⟩] 34)
  have HB := Aside0.mk ((Bx.start W).push #[.int .i64 0, .int .i64 0, .int .i64 0, .string ⟨#[]⟩] 34)
  clear hb0
  go_enter Try.func12, Try.ntmps12
  go_upto_region 1 with (fail)
  generalize W.alloc (.cells #[.int .i64 0, .int .i64 0, .int .i64 0, .string ⟨#[]⟩] 34) = W1 at HB ⊢
  generalize W.heap.size = gz at HB ⊢
  go_upto_region 2 with (go_at_call 24; refine (bag_get_nil' _ _).mono ?_; rintro e w1 ⟨rfl, hb⟩; replace HB := Aside0.mk (HB.out.below hb); clear hb)
  replace HB := Aside0.mk (HB.out.push #[.int .i64 0, .int .i64 0, .int .i64 0, .string ⟨#[]⟩] 34)
  generalize w1.alloc (.cells #[.int .i64 0, .int .i64 0, .int .i64 0, .string ⟨#[]⟩] 34) = W2 at HB ⊢
  generalize w1.heap.size = g6 at HB ⊢
  have x0 : World.cell? _ ⟨gz, 0, none⟩ = some (.int .i64 0) := (blk_cell (HB.out.get 0 rfl) 0).trans rfl
  have xz0 : World.frozen? _ ⟨gz, 0, none⟩ = false := blk_frozen (HB.out.get 0 rfl) 0
  have x1 : World.cell? _ ⟨gz, 1, none⟩ = some (.int .i64 0) := (blk_cell (HB.out.get 0 rfl) 1).trans rfl
  have xz1 : World.frozen? _ ⟨gz, 1, none⟩ = false := blk_frozen (HB.out.get 0 rfl) 1
  have x2 : World.cell? _ ⟨gz, 2, none⟩ = some (.int .i64 0) := (blk_cell (HB.out.get 0 rfl) 2).trans rfl
  have xz2 : World.frozen? _ ⟨gz, 2, none⟩ = false := blk_frozen (HB.out.get 0 rfl) 2
  have x3 : World.cell? _ ⟨gz, 3, none⟩ = some (.string ⟨#[]⟩) := (blk_cell (HB.out.get 0 rfl) 3).trans rfl
  have xz3 : World.frozen? _ ⟨gz, 3, none⟩ = false := blk_frozen (HB.out.get 0 rfl) 3
  go_wp2
  replace HB : Aside0 (Bx W ((((W2.setCell ⟨gz, 0, none⟩ (.int .i64 0)).setCell ⟨gz, 1, none⟩ (.int .i64 0)).setCell ⟨gz, 2, none⟩ (.int .i64 0)).setCell ⟨gz, 3, none⟩ (.string ⟨#[]⟩)) [(gz, #[.int .i64 0, .int .i64 0, .int .i64 0, .string ⟨#[]⟩], 34), (g6, #[.int .i64 0, .int .i64 0, .int .i64 0, .string ⟨#[]⟩], 34)]) := ⟨((((HB.out.set 0 0 (.int .i64 0) rfl).set 0 1 (.int .i64 0) rfl).set 0 2 (.int .i64 0) rfl).set 0 3 (.string ⟨#[]⟩) rfl)⟩
  generalize ((((W2.setCell ⟨gz, 0, none⟩ (.int .i64 0)).setCell ⟨gz, 1, none⟩ (.int .i64 0)).setCell ⟨gz, 2, none⟩ (.int .i64 0)).setCell ⟨gz, 3, none⟩ (.string ⟨#[]⟩)) = W9 at HB ⊢
  refine bodyPost_ret (results_ct rfl _ _ gz 34 #[.int .i64 0, .int .i64 0, .int .i64 0, .string ⟨#[]⟩] (0, 0) _ rfl (HB.out.get 0 rfl) Try.underlying34 rfl (by kernel_rfl)) rfl ?_
  exact ⟨rfl, HB.out.bel⟩
set_option maxHeartbeats 4000000 in
set_option maxRecDepth 100000 in
theorem bag_find {w W : World} {g mb cb n : Nat} {s : Bg} (h : IsBg w W g mb cb n s) (id : Int) (hid : (Lit.int .i64 id).wf = true) :
    Calls Try.prog 21 #[.pointer (some ⟨g, 0, none⟩), .int .i64 id] W fun e W' => e = .returned (.tuple #[mailV (findB s id).1, .bool (findB s id).2]) ∧ Below W.heap.size W W' := by
  have hb0 := below_alloc (Below.refl W.heap.size W) (.cells #[.int .i64 0, .int .i64 0, .int .i64 0, .string ⟨#[]⟩] 34)
  unfold findB
  have HS := Aside0.mk h
  cases hf : findM s.l id with
  | none =>
    have HG := Aside0.mk (fun W' (hb : Below W.heap.size W W') => bag_get0 (h.below hb) id hid hf)
    clear h hid hf
    go_enter Try.func21, Try.ntmps21
    go_upto_region 1 with (fail)
    replace HG := Aside0.mk (HG.out (W.alloc (.cells #[.int .i64 0, .int .i64 0, .int .i64 0, .string ⟨#[]⟩] 34)) hb0)
    have HB := Aside0.mk ((Bx.start W).push #[.int .i64 0, .int .i64 0, .int .i64 0, .string ⟨#[]⟩] 34)
    replace HS := Aside0.mk (HS.out.below hb0)
    clear hb0
    generalize W.alloc (.cells #[.int .i64 0, .int .i64 0, .int .i64 0, .string ⟨#[]⟩] 34) = W1 at HB HG HS ⊢
    generalize W.heap.size = gz at HB ⊢
    go_upto_region 2 with (go_at_call 24; refine HG.out.mono ?_; rintro e w1 ⟨rfl, hb⟩; replace HB := Aside0.mk (HB.out.below hb); replace HS := Aside0.mk (HS.out.below hb); clear hb)
    have HG6 := Aside0.mk (Nat.ne_of_lt HS.out.lts.2.1)
    replace HS := Aside0.mk (HS.out.below (below_alloc (Below.refl _ _) (.cells #[.int .i64 0, .int .i64 0, .int .i64 0, .string ⟨#[]⟩] 34)))
    replace HB := Aside0.mk (HB.out.push #[.int .i64 0, .int .i64 0, .int .i64 0, .string ⟨#[]⟩] 34)
    clear HG
    generalize w1.alloc (.cells #[.int .i64 0, .int .i64 0, .int .i64 0, .string ⟨#[]⟩] 34) = W2 at HB HS ⊢
    generalize w1.heap.size = g6 at HB HG6 ⊢
    clear HS
    have x0 : World.cell? _ ⟨gz, 0, none⟩ = some (.int .i64 0) := (blk_cell (HB.out.get 0 rfl) 0).trans rfl
    have xz0 : World.frozen? _ ⟨gz, 0, none⟩ = false := blk_frozen (HB.out.get 0 rfl) 0
    have x1 : World.cell? _ ⟨gz, 1, none⟩ = some (.int .i64 0) := (blk_cell (HB.out.get 0 rfl) 1).trans rfl
    have xz1 : World.frozen? _ ⟨gz, 1, none⟩ = false := blk_frozen (HB.out.get 0 rfl) 1
    have x2 : World.cell? _ ⟨gz, 2, none⟩ = some (.int .i64 0) := (blk_cell (HB.out.get 0 rfl) 2).trans rfl
    have xz2 : World.frozen? _ ⟨gz, 2, none⟩ = false := blk_frozen (HB.out.get 0 rfl) 2
    have x3 : World.cell? _ ⟨gz, 3, none⟩ = some (.string ⟨#[]⟩) := (blk_cell (HB.out.get 0 rfl) 3).trans rfl
    have xz3 : World.frozen? _ ⟨gz, 3, none⟩ = false := blk_frozen (HB.out.get 0 rfl) 3
    have y0 : World.cell? _ ⟨g6, 0, none⟩ = some (.int .i64 0) := (blk_cell (HB.out.get 1 rfl) 0).trans rfl
    have y1 : World.cell? _ ⟨g6, 1, none⟩ = some (.int .i64 0) := (blk_cell (HB.out.get 1 rfl) 1).trans rfl
    have y2 : World.cell? _ ⟨g6, 2, none⟩ = some (.int .i64 0) := (blk_cell (HB.out.get 1 rfl) 2).trans rfl
    have y3 : World.cell? _ ⟨g6, 3, none⟩ = some (.string ⟨#[]⟩) := (blk_cell (HB.out.get 1 rfl) 3).trans rfl
    go_wp2
    replace HB : Aside0 (Bx W ((((W2.setCell ⟨gz, 0, none⟩ (.int .i64 0)).setCell ⟨gz, 1, none⟩ (.int .i64 0)).setCell ⟨gz, 2, none⟩ (.int .i64 0)).setCell ⟨gz, 3, none⟩ (.string ⟨#[]⟩)) [(gz, #[.int .i64 0, .int .i64 0, .int .i64 0, .string ⟨#[]⟩], 34), (g6, #[.int .i64 0, .int .i64 0, .int .i64 0, .string ⟨#[]⟩], 34)]) := ⟨((((HB.out.set 0 0 (.int .i64 0) rfl).set 0 1 (.int .i64 0) rfl).set 0 2 (.int .i64 0) rfl).set 0 3 (.string ⟨#[]⟩) rfl)⟩
    generalize ((((W2.setCell ⟨gz, 0, none⟩ (.int .i64 0)).setCell ⟨gz, 1, none⟩ (.int .i64 0)).setCell ⟨gz, 2, none⟩ (.int .i64 0)).setCell ⟨gz, 3, none⟩ (.string ⟨#[]⟩)) = W9 at HB ⊢
    refine bodyPost_ret (results_ct rfl _ _ gz 34 #[.int .i64 0, .int .i64 0, .int .i64 0, .string ⟨#[]⟩] (0, 0) _ rfl (HB.out.get 0 rfl) Try.underlying34 rfl (by kernel_rfl)) rfl ?_
    exact ⟨rfl, HB.out.bel⟩
  | some m =>
    have HG := Aside0.mk (fun W' (hb : Below W.heap.size W W') => bag_get' (h.below hb) id hid m 0 (by rw [hf]; rfl) (by rw [hf]; rfl))
    clear h hid hf
    go_enter Try.func21, Try.ntmps21
    go_upto_region 1 with (fail)
    replace HG := Aside0.mk (HG.out (W.alloc (.cells #[.int .i64 0, .int .i64 0, .int .i64 0, .string ⟨#[]⟩] 34)) hb0)
    have HB := Aside0.mk ((Bx.start W).push #[.int .i64 0, .int .i64 0, .int .i64 0, .string ⟨#[]⟩] 34)
    replace HS := Aside0.mk (HS.out.below hb0)
    clear hb0
    generalize W.alloc (.cells #[.int .i64 0, .int .i64 0, .int .i64 0, .string ⟨#[]⟩] 34) = W1 at HB HG HS ⊢
    generalize W.heap.size = gz at HB ⊢
    go_upto_region 2 with (go_at_call 24; refine HG.out.mono ?_; rintro e w1 ⟨rfl, hb⟩; replace HB := Aside0.mk (HB.out.below hb); replace HS := Aside0.mk (HS.out.below hb); clear hb)
    have HG6 := Aside0.mk (Nat.ne_of_lt HS.out.lts.2.1)
    replace HS := Aside0.mk (HS.out.below (below_alloc (Below.refl _ _) (.cells #[.int .i64 m.id, .int .i64 m.fr, .int .i64 m.too, .string m.t] 34)))
    replace HB := Aside0.mk (HB.out.push #[.int .i64 m.id, .int .i64 m.fr, .int .i64 m.too, .string m.t] 34)
    clear HG
    generalize w1.alloc (.cells #[.int .i64 m.id, .int .i64 m.fr, .int .i64 m.too, .string m.t] 34) = W2 at HB HS ⊢
    generalize w1.heap.size = g6 at HB HG6 ⊢
    clear HS
    have x0 : World.cell? _ ⟨gz, 0, none⟩ = some (.int .i64 0) := (blk_cell (HB.out.get 0 rfl) 0).trans rfl
    have xz0 : World.frozen? _ ⟨gz, 0, none⟩ = false := blk_frozen (HB.out.get 0 rfl) 0
    have x1 : World.cell? _ ⟨gz, 1, none⟩ = some (.int .i64 0) := (blk_cell (HB.out.get 0 rfl) 1).trans rfl
    have xz1 : World.frozen? _ ⟨gz, 1, none⟩ = false := blk_frozen (HB.out.get 0 rfl) 1
    have x2 : World.cell? _ ⟨gz, 2, none⟩ = some (.int .i64 0) := (blk_cell (HB.out.get 0 rfl) 2).trans rfl
    have xz2 : World.frozen? _ ⟨gz, 2, none⟩ = false := blk_frozen (HB.out.get 0 rfl) 2
    have x3 : World.cell? _ ⟨gz, 3, none⟩ = some (.string ⟨#[]⟩) := (blk_cell (HB.out.get 0 rfl) 3).trans rfl
    have xz3 : World.frozen? _ ⟨gz, 3, none⟩ = false := blk_frozen (HB.out.get 0 rfl) 3
    have y0 : World.cell? _ ⟨g6, 0, none⟩ = some (.int .i64 m.id) := (blk_cell (HB.out.get 1 rfl) 0).trans rfl
    have y1 : World.cell? _ ⟨g6, 1, none⟩ = some (.int .i64 m.fr) := (blk_cell (HB.out.get 1 rfl) 1).trans rfl
    have y2 : World.cell? _ ⟨g6, 2, none⟩ = some (.int .i64 m.too) := (blk_cell (HB.out.get 1 rfl) 2).trans rfl
    have y3 : World.cell? _ ⟨g6, 3, none⟩ = some (.string m.t) := (blk_cell (HB.out.get 1 rfl) 3).trans rfl
    go_wp2
    replace HB : Aside0 (Bx W ((((W2.setCell ⟨gz, 0, none⟩ (.int .i64 m.id)).setCell ⟨gz, 1, none⟩ (.int .i64 m.fr)).setCell ⟨gz, 2, none⟩ (.int .i64 m.too)).setCell ⟨gz, 3, none⟩ (.string m.t)) [(gz, #[.int .i64 m.id, .int .i64 m.fr, .int .i64 m.too, .string m.t], 34), (g6, #[.int .i64 m.id, .int .i64 m.fr, .int .i64 m.too, .string m.t], 34)]) := ⟨((((HB.out.set 0 0 (.int .i64 m.id) rfl).set 0 1 (.int .i64 m.fr) rfl).set 0 2 (.int .i64 m.too) rfl).set 0 3 (.string m.t) rfl)⟩
    generalize ((((W2.setCell ⟨gz, 0, none⟩ (.int .i64 m.id)).setCell ⟨gz, 1, none⟩ (.int .i64 m.fr)).setCell ⟨gz, 2, none⟩ (.int .i64 m.too)).setCell ⟨gz, 3, none⟩ (.string m.t)) = W9 at HB ⊢
    refine bodyPost_ret (results_ct rfl _ _ gz 34 #[.int .i64 m.id, .int .i64 m.fr, .int .i64 m.too, .string m.t] (0, 0) _ rfl (HB.out.get 0 rfl) Try.underlying34 rfl (by kernel_rfl)) rfl ?_
    exact ⟨rfl, HB.out.bel⟩

end Go.Proofs.Ytppoahccmcnenaa.PP
