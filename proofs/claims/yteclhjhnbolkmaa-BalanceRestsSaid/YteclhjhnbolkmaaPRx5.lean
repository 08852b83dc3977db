-- written by a program of this session
import Derived.Test.YteclhjhnbolkmaaPRx0
import Derived.Test.YteclhjhnbolkmaaPRx2
import Derived.Test.YteclhjhnbolkmaaPRx4
namespace Go.Proofs.Yteclhjhnbolkmaa.PR
open Go.RowKit Go.Proofs.Yteclhjhnbolkmaa.Op Go.Proofs.YteclhjhnbolkmaaW.PrintWords Go.Proofs.YteclhjhnbolkmaaW.PrintLast Go.Proofs.YteclhjhnbolkmaaW.PrintMore
attribute [local go_sem] max2_int min2_int max_two min_two max_three min_three max_four min_four   -- for this text's walks alone
set_option linter.unusedVariables false
set_option linter.unusedSimpArgs false

/-! ### chart_Apply: function 26 (cuts that are appended to, rows handed on: by hand) -/
/-- which are changed (how many), what comes, the error -/
def chg (nx kd at_ : Int) (l : List Shd) (i : Nat) : Nat × List Shd × Int :=
  let s := rd_T67 l (i : Int)
  if kd = 1 then (if at_ ≤ s.f1.f0 ∨ at_ ≥ s.f1.f1 then (0, [], 1) else (1, [⟨nx, ⟨s.f1.f0, at_⟩, s.f2⟩, ⟨wrap64 (nx + 1), ⟨at_, s.f1.f1⟩, s.f2⟩], 0))
  else if kd = 2 then (if i + 1 = l.length then (0, [], 4) else (2, [⟨nx, ⟨s.f1.f0, (rd_T67 l ((i + 1 : Nat) : Int)).f1.f1⟩, s.f2⟩], 0))
  else (1, [⟨nx, s.f1, at_⟩], 0)
def mayChange (kd at_ : Int) : Bool := decide (1 ≤ kd) && decide (kd ≤ 3) && (!decide (kd = 3) || (decide (0 ≤ at_) && decide (at_ < 5)))
def chart_Apply.f (k : Nat) (a0_0 : Int) (a0_1 : Int) (l0_2 : List (S67)) (a1_0 : Int) (a1_1 : Int) (a1_2 : Int) : Option (Int × Int × List (S67) × List (S67) × List (S67) × Int) :=
  if (l0_2.length : Int) ≤ 1000000 then
    (chart_Check.f k a0_0 a0_1 l0_2).bind fun t1 =>
      if t1 = true then
        if mayChange a1_0 a1_2 = true then
          (chart_place.f a0_0 a0_1 l0_2 a1_1).bind fun i =>
            if i < 0 then some (0, 0, [], [], [], 4)
            else if (chg a0_1 a1_0 a1_2 l0_2 i.toNat).2.2 = 0 then
              (chart_Check.f k (wrap64 (a0_0 + 1)) (wrap64 (a0_1 + ((chg a0_1 a1_0 a1_2 l0_2 i.toNat).2.1.length : Int))) (l0_2.take i.toNat ++ (chg a0_1 a1_0 a1_2 l0_2 i.toNat).2.1 ++ l0_2.drop (i.toNat + (chg a0_1 a1_0 a1_2 l0_2 i.toNat).1))).bind fun t2 =>
                if t2 = true then some (wrap64 (a0_0 + 1), wrap64 (a0_1 + ((chg a0_1 a1_0 a1_2 l0_2 i.toNat).2.1.length : Int)), l0_2.take i.toNat ++ (chg a0_1 a1_0 a1_2 l0_2 i.toNat).2.1 ++ l0_2.drop (i.toNat + (chg a0_1 a1_0 a1_2 l0_2 i.toNat).1), (l0_2.drop i.toNat).take (chg a0_1 a1_0 a1_2 l0_2 i.toNat).1, (chg a0_1 a1_0 a1_2 l0_2 i.toNat).2.1, 0)
                else some (0, 0, [], [], [], 2)
            else some (0, 0, [], [], [], (chg a0_1 a1_0 a1_2 l0_2 i.toNat).2.2)
        else some (0, 0, [], [], [], 1)
      else some (0, 0, [], [], [], 1)
  else none
theorem chart_Apply.mono : ∀ a0 a1 a2 a3 a4 a5 k, LeO (chart_Apply.f k a0 a1 a2 a3 a4 a5) (chart_Apply.f (k + 1) a0 a1 a2 a3 a4 a5) := by
  intro a0 a1 a2 a3 a4 a5 k
  unfold chart_Apply.f
  repeat' first
      | (with_reducible exact LeO.refl _)
      | (with_reducible exact LeO.none _)
      | (with_reducible exact chart_Check.mono _ _ _ _)
      | (with_reducible refine LeO.ite ?_ ?_)
      | (with_reducible refine LeO.bind ?_ (fun _ => ?_))
/-- what is handed back -/
def ApplyPost (w : World) (r1 r2 : Int) (r3 r4 r5 : List Shd) (r6 : Int) (e : Ending) (w' : World) : Prop :=
  ∃ v2_ v3_ v4_ : Value, e = .returned (.tuple #[.agg #[.int .i64 r1, .int .i64 r2, v2_], v3_, v4_, .int .i64 r6]) ∧ Kd.R k67 67 w' w.heap.size (fun k_ => some k_ ≠ (v3_ : Value).ownBlock ∧ some k_ ≠ (v4_ : Value).ownBlock) v2_ r3 ∧ Kd.R k67 67 w' w.heap.size (fun k_ => some k_ ≠ (v2_ : Value).ownBlock ∧ some k_ ≠ (v4_ : Value).ownBlock) v3_ r4 ∧ Kd.R k67 67 w' w.heap.size (fun k_ => some k_ ≠ (v2_ : Value).ownBlock ∧ some k_ ≠ (v3_ : Value).ownBlock) v4_ r5 ∧ Below w.heap.size w w'
theorem ApplyPost.none_ (w : World) (c : Int) (w' : World) (hb : Below w.heap.size w w') : ApplyPost w 0 0 [] [] [] c (.returned (.tuple #[.agg #[.int .i64 0, .int .i64 0, .slice none 0 0], .slice none 0 0, .slice none 0 0, .int .i64 c])) w' :=
  ⟨_, _, _, rfl, Kd.R_nil _ _ _ _ _, Kd.R_nil _ _ _ _ _, Kd.R_nil _ _ _ _ _, hb⟩
/-- the three variables of Apply that lie in memory: c, x, next -/
def Fr (w W : World) (cc cx cn : Array Value) : Prop :=
  W.heap[w.heap.size]? = some (.cells cc 24 (0, 0)) ∧ W.heap[w.heap.size + 1]? = some (.cells cx 54 (0, 0)) ∧ W.heap[w.heap.size + 1 + 1]? = some (.cells cn 24 (0, 0)) ∧ Below w.heap.size w W
theorem Fr.start (w : World) (cc cx cn : Array Value) : Fr w (((w.alloc (.cells cc 24)).alloc (.cells cx 54)).alloc (.cells cn 24)) cc cx cn := by
  have h1 := blk_new w (.cells cc 24)
  have h2 := blk_new (w.alloc (.cells cc 24)) (.cells cx 54)
  have h3 := blk_new ((w.alloc (.cells cc 24)).alloc (.cells cx 54)) (.cells cn 24)
  have e1 : (w.alloc (.cells cc 24)).heap.size = w.heap.size + 1 := by simp
  have e2 : ((w.alloc (.cells cc 24)).alloc (.cells cx 54)).heap.size = w.heap.size + 1 + 1 := by simp
  rw [e1] at h2
  rw [e2] at h3
  exact ⟨blk_alloc (blk_alloc h1 _) _, blk_alloc h2 _, h3, ((Below.refl w.heap.size w).alloc (Nat.le_refl _) _ |>.alloc (by simp) _).alloc (by simp; omega) _⟩
theorem Fr.after {w W W' : World} {cc cx cn : Array Value} (h : Fr w W cc cx cn) (hb : Below W.heap.size W W') : Fr w W' cc cx cn :=
  ⟨blk_below h.1 hb, blk_below h.2.1 hb, blk_below h.2.2.1 hb, h.2.2.2.trans (hb.mono h.2.2.2.size)⟩
theorem Fr.drew {w W : World} {cc cx cn : Array Value} (h : Fr w W cc cx cn) : Fr w W.drew cc cx cn := ⟨h.1, h.2.1, h.2.2.1, below_drew1 h.2.2.2⟩
theorem Fr.set {w W : World} {cc cx cn cn' : Array Value} (h : Fr w W cc cx cn) (i : Nat) (u : Value) (e : cn.setIfInBounds i u = cn') : Fr w (W.setCell ⟨w.heap.size + 1 + 1, i, none⟩ u) cc cx cn' :=
  ⟨blk_far h.1 (by simp; omega) u, blk_far h.2.1 (by simp) u, blk_put h.2.2.1 i u e, below_set h.2.2.2 (by omega)⟩
theorem Fr.facts {w W : World} {c0 c1 c2 x0 x1 x2 n0 n1 n2 : Value} (h : Fr w W #[c0, c1, c2] #[x0, x1, x2] #[n0, n1, n2]) :
    W.cell? ⟨w.heap.size, 0, none⟩ = some c0 ∧ W.cell? ⟨w.heap.size, 1, none⟩ = some c1 ∧ W.cell? ⟨w.heap.size, 2, none⟩ = some c2 ∧
    W.cell? ⟨w.heap.size + 1, 0, none⟩ = some x0 ∧ W.cell? ⟨w.heap.size + 1, 1, none⟩ = some x1 ∧ W.cell? ⟨w.heap.size + 1, 2, none⟩ = some x2 ∧
    W.cell? ⟨w.heap.size + 1 + 1, 0, none⟩ = some n0 ∧ W.cell? ⟨w.heap.size + 1 + 1, 1, none⟩ = some n1 ∧ W.cell? ⟨w.heap.size + 1 + 1, 2, none⟩ = some n2 ∧
    W.frozen? ⟨w.heap.size + 1 + 1, 0, none⟩ = false ∧ W.frozen? ⟨w.heap.size + 1 + 1, 1, none⟩ = false ∧ W.frozen? ⟨w.heap.size + 1 + 1, 2, none⟩ = false :=
  ⟨blk_cell h.1 0, blk_cell h.1 1, blk_cell h.1 2, blk_cell h.2.1 0, blk_cell h.2.1 1, blk_cell h.2.1 2, blk_cell h.2.2.1 0, blk_cell h.2.2.1 1, blk_cell h.2.2.1 2, blk_frozen h.2.2.1 0, blk_frozen h.2.2.1 1, blk_frozen h.2.2.1 2⟩
/-! rows of shards as cells -/
def shdCells (x : Shd) : List Value := [.int .i64 x.f0, .int .i64 x.f1.f0, .int .i64 x.f1.f1, .int .i64 x.f2]
def cellsOf (l : List Shd) : List Value := l.flatMap shdCells
theorem cellsOf_cons (x : Shd) (l : List Shd) : cellsOf (x :: l) = .int .i64 x.f0 :: .int .i64 x.f1.f0 :: .int .i64 x.f1.f1 :: .int .i64 x.f2 :: cellsOf l := rfl
theorem cellsOf_append (a b : List Shd) : cellsOf (a ++ b) = cellsOf a ++ cellsOf b := by simp [cellsOf]
theorem cellsOf_len (l : List Shd) : (cellsOf l).length = l.length * 4 := by
  induction l with
  | nil => rfl
  | cons x l ih => rw [cellsOf_cons]; simp only [List.length_cons, ih]; omega
theorem cellsOf_get (l : List Shd) : ∀ (j : Nat) (u : Value), (cellsOf l)[j]? = some u → ∃ x, l[j / 4]? = some x ∧ (shdCells x)[j % 4]? = some u := by
  induction l with
  | nil => intro j u h; simp [cellsOf] at h
  | cons x l ih =>
    intro j u h
    rw [cellsOf_cons] at h
    match j, h with
    | 0, h => exact ⟨x, rfl, h⟩
    | 1, h => exact ⟨x, rfl, h⟩
    | 2, h => exact ⟨x, rfl, h⟩
    | 3, h => exact ⟨x, rfl, h⟩
    | j + 4, h =>
      have h2 : (cellsOf l)[j]? = some u := by simpa using h
      obtain ⟨y, h3, h4⟩ := ih j u h2
      refine ⟨y, ?_, ?_⟩
      · rw [show (j + 4) / 4 = j / 4 + 1 by omega]; simpa using h3
      · rw [show (j + 4) % 4 = j % 4 by omega]; exact h4
theorem cells_at (w : World) (ad : Addr) (l : List Shd) (hC : Kd.C k67 w (some ad) l.length l) : ∀ j u, (cellsOf l)[j]? = some u → w.cell? (ad.add j) = some u := by
  intro j u h
  obtain ⟨x, h1, h2⟩ := cellsOf_get l j u h
  have hlt := (List.getElem?_eq_some_iff.1 h1).1
  obtain ⟨ad', e, hc⟩ := hC.2.2 (by omega)
  cases e
  obtain ⟨c, _, hk, hcell⟩ := hc (j / 4) x h1
  obtain rfl := k67_open hk
  have h3 := hcell (j % 4) u h2
  have h4 : j / 4 * 4 + j % 4 = j := by omega
  have h5 : (k67).sz = 4 := rfl
  rw [h5, h4] at h3
  exact h3
theorem reps_cells (W : World) (base : Nat) (ok : Nat → Prop) (l : List Shd) : Reps (Kd.M k67 W base ok) 4 l (cellsOf l) := by
  induction l with
  | nil => exact Reps.none _ _
  | cons x l ih => rw [cellsOf_cons]; exact Reps.c4 (k67_mkM _ _ _ x) ih
theorem one_cells (l : List Shd) : ∀ u ∈ cellsOf l, u.oneCell' = true := by
  intro u hu
  simp only [cellsOf, shdCells, List.mem_flatMap, List.mem_cons, List.not_mem_nil, or_false] at hu
  obtain ⟨x, _, h⟩ := hu
  rcases h with rfl | rfl | rfl | rfl <;> rfl
/-- append(c.L[:i:i], fresh...): always a new row -/
theorem step_app1 {ops : Array Oper} {o : Oper} {a : Act} {w : World} {K : Act → World → Prop} {Q : Exit → Act → World → Prop} {E : Prop}
    (hg : o.guard = none) (s x : Operand) (hop : o.op = Op.call { callee := Callee.builtin Builtin.append, args := #[s, x], argTypes := #[22, 22] })
    (ad : Addr) (i : Nat) (pre fresh : List Shd) (Af : Option Addr) (cf : Nat) (hs : a.eval s = .slice (some ad) i i) (hi : pre.length = i) (hpre : Kd.C k67 w (some ad) pre.length pre)
    (hx : a.eval x = .slice Af fresh.length cf) (hfr : Kd.C k67 w Af fresh.length fresh) (h1 : 1 ≤ fresh.length) (hl : (pre.length + fresh.length) * 32 ≤ 140737488355328)
    (hK : ∀ v' w', Kd.R k67 67 w' w.heap.size (fun _ => True) v' (pre ++ fresh) → Below w.heap.size w w' → K (a.put o.dst v') w') :
    if Region.wanted o (yielded ops a.tmps) = true then Oper.wp Try.prog o a w K Q else E := by
  obtain ⟨i0, hi0, hzz⟩ := Option.map_eq_some_iff.1 info67
  simp only [Prod.mk.injEq] at hzz
  obtain ⟨hz0, hz1, hz2⟩ := hzz
  obtain ⟨af, e, _⟩ := hfr.2.2 (by omega)
  subst e
  subst hi
  refine step_append_grows hg s x 22 hop 67 i0 _ 4 32 Try.underlying22 hi0 hz0 hz1 hz2 rfl (by decide) (some ad) pre.length pre.length (cellsOf pre) hs (fun h => by cases h) (cellsOf_len pre) (fun b hb => by cases hb; exact cells_at w ad pre hpre)
    af fresh.length cf (cellsOf fresh) hx (cellsOf_len fresh) (cells_at w af fresh hfr) (one_cells fresh) (by omega) (by have : maxLen = 9223372036854775807 := rfl; omega) hl ?_
  intro v' w' hown hgr
  refine hK v' w' ⟨fun _ _ => trivial, cellsOf (pre ++ fresh), ?_, reps_cells _ _ _ _⟩ ((Below.refl w.heap.size w).grown hgr (Nat.le_refl _) (fun k hk => by cases hk))
  rw [List.length_append, cellsOf_append]
  exact hown
theorem R_shd_set {W : World} {b : Nat} {ok : Nat → Prop} {v : Value} {xs : List Shd} {g t : Nat} {cs : Array Value} (h : Kd.R k67 67 W b ok v xs) (hb : W.heap[g]? = some (.cells cs t (0, 0))) (ht : 67 ≠ t) (j : Nat) (u : Value) : Kd.R k67 67 (W.setCell ⟨g, j, none⟩ u) b ok v xs :=
  ⟨h.1, (h.2.set_ hb ht j u).imp_ (fun p c hp => by obtain rfl := k67_openM hp; exact k67_mkM _ _ _ p)⟩
theorem R_shd_reads {W : World} {b : Nat} {ok : Nat → Prop} {A : Option Addr} {c : Nat} {xs : List Shd} (h : Kd.R k67 67 W b ok (.slice A xs.length c) xs) : Kd.C k67 W A xs.length xs := by
  obtain ⟨A', c', e, _, hr⟩ := OwnRow.reads h.2
  cases e
  exact ReadsRow.imp_ hr (Below.refl _ _) (fun p c hp => by obtain rfl := k67_openM hp; exact k67_mk _ p)
theorem R_shd_below {W W' : World} {b : Nat} {ok : Nat → Prop} {v : Value} {xs : List Shd} (h : Kd.R k67 67 W b ok v xs) (hb : Below W.heap.size W W') : Kd.R k67 67 W' b ok v xs :=
  ⟨h.1, (h.2.below hb).imp_ (fun p c hp => by obtain rfl := k67_openM hp; exact k67_mkM _ _ _ p)⟩
/-- append(made, c.L[i:]...) -/
theorem step_app2 {ops : Array Oper} {o : Oper} {a : Act} {w0 w : World} {K : Act → World → Prop} {Q : Exit → Act → World → Prop} (base : Nat)
    (hg : o.guard = none) (s x : Operand) (hop : o.op = Op.call { callee := Callee.builtin Builtin.append, args := #[s, x], argTypes := #[22, 22] })
    (v : Value) (xs ys : List Shd) (A : Option Addr) (c : Nat) (hs : a.eval s = v) (HO : Kd.R k67 67 w base (fun _ => True) v xs)
    (hx : a.eval x = .slice A ys.length c) (hys : Kd.C k67 w A ys.length ys) (HB : Below base w0 w) (hbase : base ≤ w.heap.size) (hl : (xs.length + ys.length) * 32 ≤ 140737488355328)
    (hK : ∀ v' w', Kd.R k67 67 w' base (fun _ => True) v' (xs ++ ys) → Below base w0 w' → w.grownBy w' v.ownBlock → K (a.put o.dst v') w') :
    if Region.wanted o (yielded ops a.tmps) = true then Oper.wp Try.prog o a w K Q else K (a.put o.dst undef) w :=
  Kd.R_append_rows_step k67 (w0 := w0) base (by simp [Region.wanted, hg]) s x 22 67 _ 32 hop Try.underlying22 info67 rfl (by decide) (by decide) v xs ys A ys.length c (fun _ => True) (fun _ => False) hs hx HO hys
    (fun x cs hK => by obtain rfl := k67_open hK; exact k67_mkM _ _ _ x) (fun _ h => h.elim) (fun _ _ => trivial) HB hbase hl (fun v1 w1 h1 h2 h3 _ => hK v1 w1 h1 h2 h3)
theorem R_shd_set3 {w W : World} {cc cx : Array Value} {n0 n1 n2 : Value} {b : Nat} {ok : Nat → Prop} {v : Value} {xs : List Shd} (hf : Fr w W cc cx #[n0, n1, n2]) (u0 u1 u2 : Value) (h : Kd.R k67 67 W b ok v xs) : Kd.R k67 67 (((W.setCell ⟨w.heap.size + 1 + 1, 0, none⟩ u0).setCell ⟨w.heap.size + 1 + 1, 1, none⟩ u1).setCell ⟨w.heap.size + 1 + 1, 2, none⟩ u2) b ok v xs :=
  R_shd_set (R_shd_set (R_shd_set h hf.2.2.1 (by decide) 0 u0) (hf.set 0 u0 rfl).2.2.1 (by decide) 1 u1) ((hf.set 0 u0 rfl).set 1 u1 rfl).2.2.1 (by decide) 2 u2
theorem R_shd_ok {W : World} {b : Nat} {ok ok' : Nat → Prop} {v : Value} {xs : List Shd} (h : Kd.R k67 67 W b ok v xs) (h' : ∀ k_, v.ownBlock = some k_ → ok' k_) : Kd.R k67 67 W b ok' v xs :=
  ⟨h', h.2.imp_ (fun p c hp => by obtain rfl := k67_openM hp; exact k67_mkM _ _ _ p)⟩
theorem ApplyPost.ok (w : World) (r1 r2 : Int) (l10 l3 fresh : List Shd) (v10 v13 vf : Value) (W : World) (b b10 bc : Nat) (h10 : Kd.R k67 67 W b10 (fun _ => True) v10 l10) (h13 : Kd.R k67 67 W bc (fun _ => True) v13 l3)
    (hf : Kd.R k67 67 W b (fun _ => True) vf fresh) (hfl : ∀ k_, vf.ownBlock = some k_ → k_ < b10) (h1l : ∀ k_, v10.ownBlock = some k_ → k_ < bc) (hw : w.heap.size ≤ b) (hbb : b ≤ b10) (hbc : b10 ≤ bc) (hb : Below w.heap.size w W) :
    ApplyPost w r1 r2 l10 l3 fresh 0 (.returned (.tuple #[.agg #[.int .i64 r1, .int .i64 r2, v10], v13, vf, .int .i64 0])) W := by
  have n1 : ∀ k_, v10.ownBlock = some k_ → some k_ ≠ v13.ownBlock ∧ some k_ ≠ vf.ownBlock := fun k_ h => ⟨fun e => by have h1 := Kd.R_base h13 k_ e.symm; have h2 := h1l k_ h; omega, fun e => by have h1 := hfl k_ e.symm; have h2 := Kd.R_base h10 k_ h; omega⟩
  have n2 : ∀ k_, v13.ownBlock = some k_ → some k_ ≠ v10.ownBlock ∧ some k_ ≠ vf.ownBlock := fun k_ h => ⟨fun e => (n1 k_ e.symm).1 h.symm, fun e => by have h1 := hfl k_ e.symm; have h2 := Kd.R_base h13 k_ h; omega⟩
  have n3 : ∀ k_, vf.ownBlock = some k_ → some k_ ≠ v10.ownBlock ∧ some k_ ≠ v13.ownBlock := fun k_ h => ⟨fun e => (n1 k_ e.symm).2 h.symm, fun e => (n2 k_ e.symm).2 h.symm⟩
  exact ⟨v10, v13, vf, rfl, R_shd_ok (Kd.R_lower h10 (by omega)) n1, R_shd_ok (Kd.R_lower h13 (by omega)) n2, R_shd_ok (Kd.R_lower hf hw) n3, hb⟩
theorem row77 (ad : Addr) (c0 n : Nat) (l : List Shd) (m j : Nat) (hld : (l.drop (j + m)).length = n - (j + m)) (z7 : ((j : Int) + (m : Int)).toNat = j + m) : True := trivial
theorem cut_C (W : World) (ad : Addr) (c0 : Nat) (l0 : List Shd) (j m : Nat) (hC : Kd.C k67 W (some ad) l0.length l0) (hj : j < l0.length) (hm : j + m ≤ l0.length) (hc : l0.length ≤ c0) : Kd.C k67 W (some (ad.add (j * 4))) ((l0.drop j).take m).length ((l0.drop j).take m) := by
  have h := Kd.C_drop (m := j) hC (by omega) hc
  rw [if_neg (by omega)] at h
  exact Kd.C_take h (by rw [List.length_drop]; omega)
theorem cutsum (j m n : Nat) (h : j + m ≤ n) (hn : n ≤ 1000000) : wrap64 ((j : Int) + (m : Int)) = (j : Int) + (m : Int) ∧ IntKind.i64.wrap ((j : Int) + (m : Int)) = (j : Int) + (m : Int) ∧ (0 : Int) ≤ (j : Int) + (m : Int) ∧ (j : Int) + (m : Int) ≤ (n : Int) ∧ ((j : Int) + (m : Int)).toNat = j + m ∧ ((j + m : Nat) : Int) ≤ (n : Int) ∧ (0 : Int) ≤ ((j + m : Nat) : Int) :=
  have e : wrap64 ((j : Int) + (m : Int)) = (j : Int) + (m : Int) := by unfold wrap64; omega
  ⟨e, (i64_w _).trans e, by omega, by omega, by omega, by omega, by omega⟩
def ap13.T : Bool × List (List Nat × List Nat) := (true, [([], []), ([], []), ([1], [1]), ([], []), ([0, 2, 0], [0]), ([2, 4, 0, 1, 2, 4], [2]), ([3, 5, 0, 1, 2, 3, 4, 5], [3]), ([6, 0, 1, 2, 3, 4, 5, 6], [])])
def ap13.B : List Nat := [0, 0, 2, 0, 1, 6, 8, 0]
theorem ap13.tab : rtab .any (opsOf Try.f26 13) = ap13.T := by kernel_rfl
theorem ap13.bits : waitsOk ap13.T.2 ap13.B = true := by kernel_rfl
def ap10.T : Bool × List (List Nat × List Nat) := (true, [([], []), ([0], [0]), ([], []), ([], []), ([1, 2, 3], [1, 2, 3]), ([], []), ([4, 5], [4, 5]), ([], []), ([7], [7]), ([], []), ([], []), ([10], [10]), ([9, 11], [9, 11]), ([8, 12], [8, 12]), ([6, 13, 6], [6, 13]), ([0, 1, 2, 3, 4, 5, 6, 7, 8, 9, 10, 11, 12, 13, 14], []), ([15, 14, 14, 0, 1, 2, 3, 4, 5, 6, 7, 8, 9, 10, 11, 12, 13, 14], [14, 15])])
def ap10.B : List Nat := [0, 1, 0, 0, 15, 0, 63, 0, 128, 0, 0, 1024, 3584, 8064, 16383, 0, 65535]
theorem ap10.tab : rtab .any (opsOf Try.f26 10) = ap10.T := by kernel_rfl
theorem ap10.bits : waitsOk ap10.T.2 ap10.B = true := by kernel_rfl
set_option maxHeartbeats 8000000 in
set_option maxRecDepth 100000 in
theorem chart_Apply.bad (k : Nat) (a0_0 : Int) (a0_1 : Int) (A0 : Option Addr) (c0 : Nat) (l0 : List (S67)) (kd_ id at_ : Int) (w : World) (hr0 : Kd.C k67 w A0 l0.length l0) (hc0 : l0.length ≤ c0) (h : chart_Check.f k a0_0 a0_1 l0 = some false) :
    Calls Try.prog 26 #[.agg #[.int .i64 a0_0, .int .i64 a0_1, .slice A0 l0.length c0], .agg #[.int .i64 kd_, .int .i64 id, .int .i64 at_]] w fun e w' => ApplyPost w 0 0 [] [] [] 1 e w' := by
  have hu24 := Try.underlying24
  have hu39 := Try.underlying54
  have HA := Aside0.mk h
  have HR := Aside0.mk hr0
  have HC := Aside0.mk hc0
  clear h hr0 hc0
  have hf3 := Aside0.mk (Fr.start w #[.int .i64 a0_0, .int .i64 a0_1, .slice A0 l0.length c0] #[.int .i64 kd_, .int .i64 id, .int .i64 at_] #[.int .i64 0, .int .i64 0, .slice none 0 0])
  go_enter Try.func26, Try.ntmps26
  go_wp2_with (go_at_call 33; refine (chart_Check.calls k a0_0 a0_1 A0 c0 l0 false _ (Kd.C_below HR.out hf3.out.2.2.2) HC.out HA.out).mono ?_; rintro e w4 ⟨rfl, hb4⟩; have hf4 := Aside0.mk (hf3.out.after hb4); obtain ⟨f0, f1, f2, f3, f4, f5, f6, f7, f8, f9, f10, f11⟩ := hf4.out.facts)
  have hE : Fr w (((w4.setCell ⟨w.heap.size + 1 + 1, 0, none⟩ (.int .i64 0)).setCell ⟨w.heap.size + 1 + 1, 1, none⟩ (.int .i64 0)).setCell ⟨w.heap.size + 1 + 1, 2, none⟩ (.slice none 0 0)) _ _ #[.int .i64 0, .int .i64 0, .slice none 0 0] := ((hf4.out.set 0 _ rfl).set 1 _ rfl).set 2 _ rfl
  refine bodyPost_ret (results_list (rs := [.cell 4 24, .tmp 5, .tmp 6, .tmp 7]) rfl (by simp) (.cell (w.heap.size + 1 + 1) 24 _ (0, 0) _ rfl hE.2.2.1 Try.underlying24 rfl (by kernel_rfl) (.tmp (.tmp (.tmp .nil))))) rfl ?_
  exact ApplyPost.none_ w 1 _ hE.2.2.2
set_option maxHeartbeats 8000000 in
set_option maxRecDepth 100000 in
theorem chart_Apply.lt (k : Nat) (a0_0 : Int) (a0_1 : Int) (A0 : Option Addr) (c0 : Nat) (l0 : List (S67)) (kd_ id at_ : Int) (w : World) (hr0 : Kd.C k67 w A0 l0.length l0) (hc0 : l0.length ≤ c0) (h : chart_Check.f k a0_0 a0_1 l0 = some true) (hk : kd_ < 1) :
    Calls Try.prog 26 #[.agg #[.int .i64 a0_0, .int .i64 a0_1, .slice A0 l0.length c0], .agg #[.int .i64 kd_, .int .i64 id, .int .i64 at_]] w fun e w' => ApplyPost w 0 0 [] [] [] 1 e w' := by
  have hu24 := Try.underlying24
  have hu39 := Try.underlying54
  have HA := Aside0.mk h
  have HR := Aside0.mk hr0
  have HC := Aside0.mk hc0
  clear h hr0 hc0
  have q1 : decide (kd_ < 1) = true := decide_eq_true hk
  have hf3 := Aside0.mk (Fr.start w #[.int .i64 a0_0, .int .i64 a0_1, .slice A0 l0.length c0] #[.int .i64 kd_, .int .i64 id, .int .i64 at_] #[.int .i64 0, .int .i64 0, .slice none 0 0])
  go_enter Try.func26, Try.ntmps26
  go_wp2_with (go_at_call 33; refine (chart_Check.calls k a0_0 a0_1 A0 c0 l0 true _ (Kd.C_below HR.out hf3.out.2.2.2) HC.out HA.out).mono ?_; rintro e w4 ⟨rfl, hb4⟩; have hf4 := Aside0.mk (hf3.out.after hb4); obtain ⟨f0, f1, f2, f3, f4, f5, f6, f7, f8, f9, f10, f11⟩ := hf4.out.facts)
  have hE : Fr w (((w4.setCell ⟨w.heap.size + 1 + 1, 0, none⟩ (.int .i64 0)).setCell ⟨w.heap.size + 1 + 1, 1, none⟩ (.int .i64 0)).setCell ⟨w.heap.size + 1 + 1, 2, none⟩ (.slice none 0 0)) _ _ #[.int .i64 0, .int .i64 0, .slice none 0 0] := ((hf4.out.set 0 _ rfl).set 1 _ rfl).set 2 _ rfl
  refine bodyPost_ret (results_list (rs := [.cell 4 24, .tmp 5, .tmp 6, .tmp 7]) rfl (by simp) (.cell (w.heap.size + 1 + 1) 24 _ (0, 0) _ rfl hE.2.2.1 Try.underlying24 rfl (by kernel_rfl) (.tmp (.tmp (.tmp .nil))))) rfl ?_
  exact ApplyPost.none_ w 1 _ hE.2.2.2
set_option maxHeartbeats 8000000 in
set_option maxRecDepth 100000 in
theorem chart_Apply.gt (k : Nat) (a0_0 : Int) (a0_1 : Int) (A0 : Option Addr) (c0 : Nat) (l0 : List (S67)) (kd_ id at_ : Int) (w : World) (hr0 : Kd.C k67 w A0 l0.length l0) (hc0 : l0.length ≤ c0) (h : chart_Check.f k a0_0 a0_1 l0 = some true) (hk : kd_ > 3) :
    Calls Try.prog 26 #[.agg #[.int .i64 a0_0, .int .i64 a0_1, .slice A0 l0.length c0], .agg #[.int .i64 kd_, .int .i64 id, .int .i64 at_]] w fun e w' => ApplyPost w 0 0 [] [] [] 1 e w' := by
  have hu24 := Try.underlying24
  have hu39 := Try.underlying54
  have HA := Aside0.mk h
  have HR := Aside0.mk hr0
  have HC := Aside0.mk hc0
  clear h hr0 hc0
  have q1 : decide (kd_ < 1) = false := decide_eq_false (by omega)
  have q2 : decide (kd_ > 3) = true := decide_eq_true hk
  have q3 : decide (3 < kd_) = true := decide_eq_true hk
  have hf3 := Aside0.mk (Fr.start w #[.int .i64 a0_0, .int .i64 a0_1, .slice A0 l0.length c0] #[.int .i64 kd_, .int .i64 id, .int .i64 at_] #[.int .i64 0, .int .i64 0, .slice none 0 0])
  go_enter Try.func26, Try.ntmps26
  go_wp2_with (go_at_call 33; refine (chart_Check.calls k a0_0 a0_1 A0 c0 l0 true _ (Kd.C_below HR.out hf3.out.2.2.2) HC.out HA.out).mono ?_; rintro e w4 ⟨rfl, hb4⟩; have hf4 := Aside0.mk (hf3.out.after hb4); obtain ⟨f0, f1, f2, f3, f4, f5, f6, f7, f8, f9, f10, f11⟩ := hf4.out.facts)
  have hE : Fr w (((w4.setCell ⟨w.heap.size + 1 + 1, 0, none⟩ (.int .i64 0)).setCell ⟨w.heap.size + 1 + 1, 1, none⟩ (.int .i64 0)).setCell ⟨w.heap.size + 1 + 1, 2, none⟩ (.slice none 0 0)) _ _ #[.int .i64 0, .int .i64 0, .slice none 0 0] := ((hf4.out.set 0 _ rfl).set 1 _ rfl).set 2 _ rfl
  refine bodyPost_ret (results_list (rs := [.cell 4 24, .tmp 5, .tmp 6, .tmp 7]) rfl (by simp) (.cell (w.heap.size + 1 + 1) 24 _ (0, 0) _ rfl hE.2.2.1 Try.underlying24 rfl (by kernel_rfl) (.tmp (.tmp (.tmp .nil))))) rfl ?_
  exact ApplyPost.none_ w 1 _ hE.2.2.2
set_option maxHeartbeats 8000000 in
set_option maxRecDepth 100000 in
theorem chart_Apply.nonode (k : Nat) (a0_0 : Int) (a0_1 : Int) (A0 : Option Addr) (c0 : Nat) (l0 : List (S67)) (id at_ : Int) (w : World) (hr0 : Kd.C k67 w A0 l0.length l0) (hc0 : l0.length ≤ c0) (h : chart_Check.f k a0_0 a0_1 l0 = some true) (hn : chart_node.f at_ = some false) :
    Calls Try.prog 26 #[.agg #[.int .i64 a0_0, .int .i64 a0_1, .slice A0 l0.length c0], .agg #[.int .i64 3, .int .i64 id, .int .i64 at_]] w fun e w' => ApplyPost w 0 0 [] [] [] 1 e w' := by
  have hu24 := Try.underlying24
  have hu39 := Try.underlying54
  have HA := Aside0.mk h
  have HR := Aside0.mk hr0
  have HC := Aside0.mk hc0
  clear h hr0 hc0
  have HN := Aside0.mk hn
  clear hn
  have hf3 := Aside0.mk (Fr.start w #[.int .i64 a0_0, .int .i64 a0_1, .slice A0 l0.length c0] #[.int .i64 3, .int .i64 id, .int .i64 at_] #[.int .i64 0, .int .i64 0, .slice none 0 0])
  go_enter Try.func26, Try.ntmps26
  go_wp2_with (go_at_call 33; refine (chart_Check.calls k a0_0 a0_1 A0 c0 l0 true _ (Kd.C_below HR.out hf3.out.2.2.2) HC.out HA.out).mono ?_; rintro e w4 ⟨rfl, hb4⟩; have hf4 := Aside0.mk (hf3.out.after hb4); obtain ⟨f0, f1, f2, f3, f4, f5, f6, f7, f8, f9, f10, f11⟩ := hf4.out.facts)
  go_wp2_with (go_at_call 45; refine (chart_node.calls at_ false _ HN.out).mono ?_; rintro e w5 ⟨rfl, hd5⟩; have hf5 := Aside0.mk (hf4.out.after (Drawn0.below hd5)); obtain ⟨g0, g1, g2, g3, g4, g5, g6, g7, g8, g9, g10, g11⟩ := hf5.out.facts)
  have hE : Fr w (((w5.setCell ⟨w.heap.size + 1 + 1, 0, none⟩ (.int .i64 0)).setCell ⟨w.heap.size + 1 + 1, 1, none⟩ (.int .i64 0)).setCell ⟨w.heap.size + 1 + 1, 2, none⟩ (.slice none 0 0)) _ _ #[.int .i64 0, .int .i64 0, .slice none 0 0] := ((hf5.out.set 0 _ rfl).set 1 _ rfl).set 2 _ rfl
  refine bodyPost_ret (results_list (rs := [.cell 4 24, .tmp 5, .tmp 6, .tmp 7]) rfl (by simp) (.cell (w.heap.size + 1 + 1) 24 _ (0, 0) _ rfl hE.2.2.1 Try.underlying24 rfl (by kernel_rfl) (.tmp (.tmp (.tmp .nil))))) rfl ?_
  exact ApplyPost.none_ w 1 _ hE.2.2.2
set_option maxHeartbeats 8000000 in
set_option maxRecDepth 100000 in
theorem chart_Apply.noplace1 (k : Nat) (a0_0 : Int) (a0_1 : Int) (A0 : Option Addr) (c0 : Nat) (l0 : List (S67)) (id at_ : Int) (w : World) (hr0 : Kd.C k67 w A0 l0.length l0) (hc0 : l0.length ≤ c0) (h : chart_Check.f k a0_0 a0_1 l0 = some true) (i : Int) (hi : i < 0) (hp : chart_place.f a0_0 a0_1 l0 id = some i) :
    Calls Try.prog 26 #[.agg #[.int .i64 a0_0, .int .i64 a0_1, .slice A0 l0.length c0], .agg #[.int .i64 1, .int .i64 id, .int .i64 at_]] w fun e w' => ApplyPost w 0 0 [] [] [] 4 e w' := by
  have hu24 := Try.underlying24
  have hu39 := Try.underlying54
  have HA := Aside0.mk h
  have HR := Aside0.mk hr0
  have HC := Aside0.mk hc0
  clear h hr0 hc0
  have HP := Aside0.mk hp
  clear hp
  have q1 : decide (i < 0) = true := decide_eq_true hi
  have hf3 := Aside0.mk (Fr.start w #[.int .i64 a0_0, .int .i64 a0_1, .slice A0 l0.length c0] #[.int .i64 1, .int .i64 id, .int .i64 at_] #[.int .i64 0, .int .i64 0, .slice none 0 0])
  go_enter Try.func26, Try.ntmps26
  go_wp2_with (go_at_call 33; refine (chart_Check.calls k a0_0 a0_1 A0 c0 l0 true _ (Kd.C_below HR.out hf3.out.2.2.2) HC.out HA.out).mono ?_; rintro e w4 ⟨rfl, hb4⟩; have hf4 := Aside0.mk (hf3.out.after hb4); obtain ⟨f0, f1, f2, f3, f4, f5, f6, f7, f8, f9, f10, f11⟩ := hf4.out.facts)
  go_wp2_with (go_at_call 46; refine (chart_place.calls a0_0 a0_1 A0 c0 l0 id i _ (Kd.C_below HR.out hf4.out.2.2.2) HC.out HP.out).mono ?_; rintro e w6 ⟨rfl, hb6⟩; have hf6 := Aside0.mk (hf4.out.after hb6); obtain ⟨p0, p1, p2, p3, p4, p5, p6, p7, p8, p9, p10, p11⟩ := hf6.out.facts)
  have hE : Fr w (((w6.setCell ⟨w.heap.size + 1 + 1, 0, none⟩ (.int .i64 0)).setCell ⟨w.heap.size + 1 + 1, 1, none⟩ (.int .i64 0)).setCell ⟨w.heap.size + 1 + 1, 2, none⟩ (.slice none 0 0)) _ _ #[.int .i64 0, .int .i64 0, .slice none 0 0] := ((hf6.out.set 0 _ rfl).set 1 _ rfl).set 2 _ rfl
  refine bodyPost_ret (results_list (rs := [.cell 4 24, .tmp 5, .tmp 6, .tmp 7]) rfl (by simp) (.cell (w.heap.size + 1 + 1) 24 _ (0, 0) _ rfl hE.2.2.1 Try.underlying24 rfl (by kernel_rfl) (.tmp (.tmp (.tmp .nil))))) rfl ?_
  exact ApplyPost.none_ w 4 _ hE.2.2.2
set_option maxHeartbeats 8000000 in
set_option maxRecDepth 100000 in
theorem chart_Apply.noplace2 (k : Nat) (a0_0 : Int) (a0_1 : Int) (A0 : Option Addr) (c0 : Nat) (l0 : List (S67)) (id at_ : Int) (w : World) (hr0 : Kd.C k67 w A0 l0.length l0) (hc0 : l0.length ≤ c0) (h : chart_Check.f k a0_0 a0_1 l0 = some true) (i : Int) (hi : i < 0) (hp : chart_place.f a0_0 a0_1 l0 id = some i) :
    Calls Try.prog 26 #[.agg #[.int .i64 a0_0, .int .i64 a0_1, .slice A0 l0.length c0], .agg #[.int .i64 2, .int .i64 id, .int .i64 at_]] w fun e w' => ApplyPost w 0 0 [] [] [] 4 e w' := by
  have hu24 := Try.underlying24
  have hu39 := Try.underlying54
  have HA := Aside0.mk h
  have HR := Aside0.mk hr0
  have HC := Aside0.mk hc0
  clear h hr0 hc0
  have HP := Aside0.mk hp
  clear hp
  have q1 : decide (i < 0) = true := decide_eq_true hi
  have hf3 := Aside0.mk (Fr.start w #[.int .i64 a0_0, .int .i64 a0_1, .slice A0 l0.length c0] #[.int .i64 2, .int .i64 id, .int .i64 at_] #[.int .i64 0, .int .i64 0, .slice none 0 0])
  go_enter Try.func26, Try.ntmps26
  go_wp2_with (go_at_call 33; refine (chart_Check.calls k a0_0 a0_1 A0 c0 l0 true _ (Kd.C_below HR.out hf3.out.2.2.2) HC.out HA.out).mono ?_; rintro e w4 ⟨rfl, hb4⟩; have hf4 := Aside0.mk (hf3.out.after hb4); obtain ⟨f0, f1, f2, f3, f4, f5, f6, f7, f8, f9, f10, f11⟩ := hf4.out.facts)
  go_wp2_with (go_at_call 46; refine (chart_place.calls a0_0 a0_1 A0 c0 l0 id i _ (Kd.C_below HR.out hf4.out.2.2.2) HC.out HP.out).mono ?_; rintro e w6 ⟨rfl, hb6⟩; have hf6 := Aside0.mk (hf4.out.after hb6); obtain ⟨p0, p1, p2, p3, p4, p5, p6, p7, p8, p9, p10, p11⟩ := hf6.out.facts)
  have hE : Fr w (((w6.setCell ⟨w.heap.size + 1 + 1, 0, none⟩ (.int .i64 0)).setCell ⟨w.heap.size + 1 + 1, 1, none⟩ (.int .i64 0)).setCell ⟨w.heap.size + 1 + 1, 2, none⟩ (.slice none 0 0)) _ _ #[.int .i64 0, .int .i64 0, .slice none 0 0] := ((hf6.out.set 0 _ rfl).set 1 _ rfl).set 2 _ rfl
  refine bodyPost_ret (results_list (rs := [.cell 4 24, .tmp 5, .tmp 6, .tmp 7]) rfl (by simp) (.cell (w.heap.size + 1 + 1) 24 _ (0, 0) _ rfl hE.2.2.1 Try.underlying24 rfl (by kernel_rfl) (.tmp (.tmp (.tmp .nil))))) rfl ?_
  exact ApplyPost.none_ w 4 _ hE.2.2.2
set_option maxHeartbeats 8000000 in
set_option maxRecDepth 100000 in
theorem chart_Apply.noplace3 (k : Nat) (a0_0 : Int) (a0_1 : Int) (A0 : Option Addr) (c0 : Nat) (l0 : List (S67)) (id at_ : Int) (w : World) (hr0 : Kd.C k67 w A0 l0.length l0) (hc0 : l0.length ≤ c0) (h : chart_Check.f k a0_0 a0_1 l0 = some true) (i : Int) (hi : i < 0) (hp : chart_place.f a0_0 a0_1 l0 id = some i) (hn : chart_node.f at_ = some true) :
    Calls Try.prog 26 #[.agg #[.int .i64 a0_0, .int .i64 a0_1, .slice A0 l0.length c0], .agg #[.int .i64 3, .int .i64 id, .int .i64 at_]] w fun e w' => ApplyPost w 0 0 [] [] [] 4 e w' := by
  have hu24 := Try.underlying24
  have hu39 := Try.underlying54
  have HA := Aside0.mk h
  have HR := Aside0.mk hr0
  have HC := Aside0.mk hc0
  clear h hr0 hc0
  have HP := Aside0.mk hp
  clear hp
  have q1 : decide (i < 0) = true := decide_eq_true hi
  have HN := Aside0.mk hn
  clear hn
  have hf3 := Aside0.mk (Fr.start w #[.int .i64 a0_0, .int .i64 a0_1, .slice A0 l0.length c0] #[.int .i64 3, .int .i64 id, .int .i64 at_] #[.int .i64 0, .int .i64 0, .slice none 0 0])
  go_enter Try.func26, Try.ntmps26
  go_wp2_with (go_at_call 33; refine (chart_Check.calls k a0_0 a0_1 A0 c0 l0 true _ (Kd.C_below HR.out hf3.out.2.2.2) HC.out HA.out).mono ?_; rintro e w4 ⟨rfl, hb4⟩; have hf4 := Aside0.mk (hf3.out.after hb4); obtain ⟨f0, f1, f2, f3, f4, f5, f6, f7, f8, f9, f10, f11⟩ := hf4.out.facts)
  go_wp2_with (go_at_call 45; refine (chart_node.calls at_ true _ HN.out).mono ?_; rintro e w5 ⟨rfl, hd5⟩; have hf5 := Aside0.mk (hf4.out.after (Drawn0.below hd5)); obtain ⟨g0, g1, g2, g3, g4, g5, g6, g7, g8, g9, g10, g11⟩ := hf5.out.facts)
  go_wp2_with (go_at_call 46; refine (chart_place.calls a0_0 a0_1 A0 c0 l0 id i _ (Kd.C_below HR.out hf5.out.2.2.2) HC.out HP.out).mono ?_; rintro e w6 ⟨rfl, hb6⟩; have hf6 := Aside0.mk (hf5.out.after hb6); obtain ⟨p0, p1, p2, p3, p4, p5, p6, p7, p8, p9, p10, p11⟩ := hf6.out.facts)
  have hE : Fr w (((w6.setCell ⟨w.heap.size + 1 + 1, 0, none⟩ (.int .i64 0)).setCell ⟨w.heap.size + 1 + 1, 1, none⟩ (.int .i64 0)).setCell ⟨w.heap.size + 1 + 1, 2, none⟩ (.slice none 0 0)) _ _ #[.int .i64 0, .int .i64 0, .slice none 0 0] := ((hf6.out.set 0 _ rfl).set 1 _ rfl).set 2 _ rfl
  refine bodyPost_ret (results_list (rs := [.cell 4 24, .tmp 5, .tmp 6, .tmp 7]) rfl (by simp) (.cell (w.heap.size + 1 + 1) 24 _ (0, 0) _ rfl hE.2.2.1 Try.underlying24 rfl (by kernel_rfl) (.tmp (.tmp (.tmp .nil))))) rfl ?_
  exact ApplyPost.none_ w 4 _ hE.2.2.2
set_option maxHeartbeats 8000000 in
set_option maxRecDepth 100000 in
theorem chart_Apply.nosplit (k : Nat) (a0_0 : Int) (a0_1 : Int) (A0 : Option Addr) (c0 : Nat) (l0 : List (S67)) (id at_ : Int) (w : World) (hr0 : Kd.C k67 w A0 l0.length l0) (hc0 : l0.length ≤ c0) (h : chart_Check.f k a0_0 a0_1 l0 = some true) (j : Nat) (hj : j < l0.length) (hbig : l0.length ≤ 4611686018427387904) (hp : chart_place.f a0_0 a0_1 l0 id = some (j : Int)) (hat : at_ ≤ (rd_T67 l0 (j : Int)).f1.f0 ∨ at_ ≥ (rd_T67 l0 (j : Int)).f1.f1) :
    Calls Try.prog 26 #[.agg #[.int .i64 a0_0, .int .i64 a0_1, .slice A0 l0.length c0], .agg #[.int .i64 1, .int .i64 id, .int .i64 at_]] w fun e w' => ApplyPost w 0 0 [] [] [] 1 e w' := by
  have hu24 := Try.underlying24
  have hu39 := Try.underlying54
  have HA := Aside0.mk h
  have HR := Aside0.mk hr0
  have HC := Aside0.mk hc0
  clear h hr0 hc0
  have HP := Aside0.mk hp
  clear hp
  have q1 : decide ((j : Int) < 0) = false := decide_eq_false (by omega)
  obtain ⟨ad, e0, hx_0, hx_1, hx_2, hx_3⟩ := at_T67 HR.out (j : Int) (by omega) (by omega)
  cases e0
  simp only [Int.toNat_natCast] at hx_0 hx_1 hx_2 hx_3
  have hf3 := Aside0.mk (Fr.start w #[.int .i64 a0_0, .int .i64 a0_1, .slice (some ad) l0.length c0] #[.int .i64 1, .int .i64 id, .int .i64 at_] #[.int .i64 0, .int .i64 0, .slice none 0 0])
  go_enter Try.func26, Try.ntmps26
  go_wp2_with (go_at_call 33; refine (chart_Check.calls k a0_0 a0_1 (some ad) c0 l0 true _ (Kd.C_below HR.out hf3.out.2.2.2) HC.out HA.out).mono ?_; rintro e w4 ⟨rfl, hb4⟩; have hf4 := Aside0.mk (hf3.out.after hb4); obtain ⟨f0, f1, f2, f3, f4, f5, f6, f7, f8, f9, f10, f11⟩ := hf4.out.facts)
  go_wp2_with (go_at_call 46; refine (chart_place.calls a0_0 a0_1 (some ad) c0 l0 id (j : Int) _ (Kd.C_below HR.out hf4.out.2.2.2) HC.out HP.out).mono ?_; rintro e w6 ⟨rfl, hb6⟩; have hf6 := Aside0.mk (hf4.out.after hb6); obtain ⟨p0, p1, p2, p3, p4, p5, p6, p7, p8, p9, p10, p11⟩ := hf6.out.facts)
  go_wp2_with (go_at_call 47; refine (chart_change.nosplit a0_0 a0_1 ad c0 l0 id at_ j _ _ hj HC.out hbig (((hf6.out.2.2.2).cell (World.block_lt_of_cell? w _ hx_0)).trans hx_0) (((hf6.out.2.2.2).cell (World.block_lt_of_cell? w _ hx_1)).trans hx_1) (((hf6.out.2.2.2).cell (World.block_lt_of_cell? w _ hx_2)).trans hx_2) (((hf6.out.2.2.2).cell (World.block_lt_of_cell? w _ hx_3)).trans hx_3) hat).mono ?_; rintro e w7 ⟨rfl, hb7⟩; have hf7 := Aside0.mk (hf6.out.after hb7); obtain ⟨s0, s1, s2, s3, s4, s5, s6, s7, s8, s9, s10, s11⟩ := hf7.out.facts)
  have hE : Fr w (((w7.setCell ⟨w.heap.size + 1 + 1, 0, none⟩ (.int .i64 0)).setCell ⟨w.heap.size + 1 + 1, 1, none⟩ (.int .i64 0)).setCell ⟨w.heap.size + 1 + 1, 2, none⟩ (.slice none 0 0)) _ _ #[.int .i64 0, .int .i64 0, .slice none 0 0] := ((hf7.out.set 0 _ rfl).set 1 _ rfl).set 2 _ rfl
  refine bodyPost_ret (results_list (rs := [.cell 4 24, .tmp 5, .tmp 6, .tmp 7]) rfl (by simp) (.cell (w.heap.size + 1 + 1) 24 _ (0, 0) _ rfl hE.2.2.1 Try.underlying24 rfl (by kernel_rfl) (.tmp (.tmp (.tmp .nil))))) rfl ?_
  exact ApplyPost.none_ w 1 _ hE.2.2.2
set_option maxHeartbeats 8000000 in
set_option maxRecDepth 100000 in
theorem chart_Apply.nomerge (k : Nat) (a0_0 : Int) (a0_1 : Int) (A0 : Option Addr) (c0 : Nat) (l0 : List (S67)) (id at_ : Int) (w : World) (hr0 : Kd.C k67 w A0 l0.length l0) (hc0 : l0.length ≤ c0) (h : chart_Check.f k a0_0 a0_1 l0 = some true) (j : Nat) (hj : j < l0.length) (hbig : l0.length ≤ 4611686018427387904) (hp : chart_place.f a0_0 a0_1 l0 id = some (j : Int)) (hlast : j + 1 = l0.length) :
    Calls Try.prog 26 #[.agg #[.int .i64 a0_0, .int .i64 a0_1, .slice A0 l0.length c0], .agg #[.int .i64 2, .int .i64 id, .int .i64 at_]] w fun e w' => ApplyPost w 0 0 [] [] [] 4 e w' := by
  have hu24 := Try.underlying24
  have hu39 := Try.underlying54
  have HA := Aside0.mk h
  have HR := Aside0.mk hr0
  have HC := Aside0.mk hc0
  clear h hr0 hc0
  have HP := Aside0.mk hp
  clear hp
  have q1 : decide ((j : Int) < 0) = false := decide_eq_false (by omega)
  obtain ⟨ad, e0, hx_0, hx_1, hx_2, hx_3⟩ := at_T67 HR.out (j : Int) (by omega) (by omega)
  cases e0
  simp only [Int.toNat_natCast] at hx_0 hx_1 hx_2 hx_3
  have hf3 := Aside0.mk (Fr.start w #[.int .i64 a0_0, .int .i64 a0_1, .slice (some ad) l0.length c0] #[.int .i64 2, .int .i64 id, .int .i64 at_] #[.int .i64 0, .int .i64 0, .slice none 0 0])
  go_enter Try.func26, Try.ntmps26
  go_wp2_with (go_at_call 33; refine (chart_Check.calls k a0_0 a0_1 (some ad) c0 l0 true _ (Kd.C_below HR.out hf3.out.2.2.2) HC.out HA.out).mono ?_; rintro e w4 ⟨rfl, hb4⟩; have hf4 := Aside0.mk (hf3.out.after hb4); obtain ⟨f0, f1, f2, f3, f4, f5, f6, f7, f8, f9, f10, f11⟩ := hf4.out.facts)
  go_wp2_with (go_at_call 46; refine (chart_place.calls a0_0 a0_1 (some ad) c0 l0 id (j : Int) _ (Kd.C_below HR.out hf4.out.2.2.2) HC.out HP.out).mono ?_; rintro e w6 ⟨rfl, hb6⟩; have hf6 := Aside0.mk (hf4.out.after hb6); obtain ⟨p0, p1, p2, p3, p4, p5, p6, p7, p8, p9, p10, p11⟩ := hf6.out.facts)
  go_wp2_with (go_at_call 47; refine (chart_change.nomerge a0_0 a0_1 ad c0 l0 id at_ j _ _ hj HC.out hbig (((hf6.out.2.2.2).cell (World.block_lt_of_cell? w _ hx_0)).trans hx_0) (((hf6.out.2.2.2).cell (World.block_lt_of_cell? w _ hx_1)).trans hx_1) (((hf6.out.2.2.2).cell (World.block_lt_of_cell? w _ hx_2)).trans hx_2) (((hf6.out.2.2.2).cell (World.block_lt_of_cell? w _ hx_3)).trans hx_3) hlast).mono ?_; rintro e w7 ⟨rfl, hb7⟩; have hf7 := Aside0.mk (hf6.out.after hb7); obtain ⟨s0, s1, s2, s3, s4, s5, s6, s7, s8, s9, s10, s11⟩ := hf7.out.facts)
  have hE : Fr w (((w7.setCell ⟨w.heap.size + 1 + 1, 0, none⟩ (.int .i64 0)).setCell ⟨w.heap.size + 1 + 1, 1, none⟩ (.int .i64 0)).setCell ⟨w.heap.size + 1 + 1, 2, none⟩ (.slice none 0 0)) _ _ #[.int .i64 0, .int .i64 0, .slice none 0 0] := ((hf7.out.set 0 _ rfl).set 1 _ rfl).set 2 _ rfl
  refine bodyPost_ret (results_list (rs := [.cell 4 24, .tmp 5, .tmp 6, .tmp 7]) rfl (by simp) (.cell (w.heap.size + 1 + 1) 24 _ (0, 0) _ rfl hE.2.2.1 Try.underlying24 rfl (by kernel_rfl) (.tmp (.tmp (.tmp .nil))))) rfl ?_
  exact ApplyPost.none_ w 4 _ hE.2.2.2
set_option maxHeartbeats 8000000 in
set_option maxRecDepth 100000 in
theorem chart_Apply.ok12t (k : Nat) (a0_0 : Int) (a0_1 : Int) (A0 : Option Addr) (c0 : Nat) (l0 : List (S67)) (kd_ id at_ : Int) (w : World) (hr0 : Kd.C k67 w A0 l0.length l0) (hc0 : l0.length ≤ c0) (h : chart_Check.f k a0_0 a0_1 l0 = some true) (j : Nat) (hj : j < l0.length) (hbig : l0.length ≤ 4611686018427387904) (hp : chart_place.f a0_0 a0_1 l0 id = some (j : Int)) (hk1 : 1 ≤ kd_) (hk2 : kd_ ≤ 3) (hk3 : kd_ ≠ 3) (hbig2 : l0.length ≤ 1000000) (m : Nat) (fresh : List Shd) (hm : j + m ≤ l0.length) (hm1 : 1 ≤ m) (hf1 : 1 ≤ fresh.length) (hf2 : fresh.length ≤ 2) (hchg : ∀ (ad : Addr), A0 = some ad → ∀ W : World, Below w.heap.size w W → Calls Try.prog 47 #[.agg #[.int .i64 a0_0, .int .i64 a0_1, .slice (some ad) l0.length c0], .agg #[.int .i64 kd_, .int .i64 id, .int .i64 at_], .int .i64 j] W fun e w' => (∃ v, e = .returned (.tuple #[.slice (some (ad.add (j * 4))) m (c0 - j), v, .int .i64 0]) ∧ Kd.R k67 67 w' W.heap.size (fun _ => True) v fresh) ∧ Below W.heap.size W w') (hchk2 : chart_Check.f k (wrap64 (a0_0 + 1)) (wrap64 (a0_1 + (fresh.length : Int))) (l0.take j ++ fresh ++ l0.drop (j + m)) = some true) :
    Calls Try.prog 26 #[.agg #[.int .i64 a0_0, .int .i64 a0_1, .slice A0 l0.length c0], .agg #[.int .i64 kd_, .int .i64 id, .int .i64 at_]] w fun e w' => ApplyPost w (wrap64 (a0_0 + 1)) (wrap64 (a0_1 + (fresh.length : Int))) (l0.take j ++ fresh ++ l0.drop (j + m)) ((l0.drop j).take m) fresh 0 e w' := by
  have hu24 := Try.underlying24
  have hu39 := Try.underlying54
  have HA := Aside0.mk h
  have HR := Aside0.mk hr0
  have HC := Aside0.mk hc0
  clear h hr0 hc0
  have g1 : decide (kd_ < 1) = false := decide_eq_false (by omega)
  have g2 : decide (kd_ > 3) = false := decide_eq_false (by omega)
  have g3 : decide (3 < kd_) = false := decide_eq_false (by omega)
  have g4 : (kd_ == 3) = false := beq_eq_false_iff_ne.mpr hk3
  have g5 : decide (kd_ = 3) = false := decide_eq_false hk3
  have HP := Aside0.mk hp
  clear hp
  have q1 : decide ((j : Int) < 0) = false := decide_eq_false (by omega)
  obtain ⟨ad, e0, hx_0, hx_1, hx_2, hx_3⟩ := at_T67 HR.out (j : Int) (by omega) (by omega)
  cases e0
  simp only [Int.toNat_natCast] at hx_0 hx_1 hx_2 hx_3
  replace hchg := hchg ad rfl
  have hlt : (l0.take j).length = j := by rw [List.length_take]; omega
  have hld : (l0.drop (j + m)).length = l0.length - (j + m) := by rw [List.length_drop]
  have z1 : (j : Int) ≤ (c0 : Int) := Int.ofNat_le.mpr (Nat.le_trans (Nat.le_of_lt hj) HC.out)
  obtain ⟨z2, z2b, z5, z6, z7, z3, z4⟩ := cutsum j m l0.length hm hbig2
  have HX := Aside0.mk hchg
  have HK := Aside0.mk hchk2
  clear hchg hchk2 hx_0 hx_1 hx_2 hx_3
  have hf3 := Aside0.mk (Fr.start w #[.int .i64 a0_0, .int .i64 a0_1, .slice (some ad) l0.length c0] #[.int .i64 kd_, .int .i64 id, .int .i64 at_] #[.int .i64 0, .int .i64 0, .slice none 0 0])
  go_enter Try.func26, Try.ntmps26
  go_wp2_with (go_at_call 33; refine (chart_Check.calls k a0_0 a0_1 (some ad) c0 l0 true _ (Kd.C_below HR.out hf3.out.2.2.2) HC.out HA.out).mono ?_; rintro e w4 ⟨rfl, hb4⟩; have hf4 := Aside0.mk (hf3.out.after hb4); obtain ⟨f0, f1, f2, f3, f4, f5, f6, f7, f8, f9, f10, f11⟩ := hf4.out.facts)
  go_wp2_with (go_at_call 46; refine (chart_place.calls a0_0 a0_1 (some ad) c0 l0 id (j : Int) _ (Kd.C_below HR.out hf4.out.2.2.2) HC.out HP.out).mono ?_; rintro e w6 ⟨rfl, hb6⟩; have hf6 := Aside0.mk (hf4.out.after hb6); obtain ⟨p0, p1, p2, p3, p4, p5, p6, p7, p8, p9, p10, p11⟩ := hf6.out.facts)
  go_wp2_with (go_at_call 47; refine (HX.out _ hf6.out.2.2.2).mono ?_; rintro e w7 ⟨⟨v, rfl, hR⟩, hb7⟩; have hf7 := Aside0.mk (hf6.out.after hb7); obtain ⟨s0, s1, s2, s3, s4, s5, s6, s7, s8, s9, s10, s11⟩ := hf7.out.facts; obtain ⟨Af, cf, rfl, hcf⟩ := OwnRow.slice_ hR.2)
  have hR8 := Aside0.mk (R_shd_set (R_shd_set (R_shd_set hR hf7.out.2.2.1 (by decide) 0 (.int .i64 (wrap64 (a0_0 + 1)))) (hf7.out.set 0 (.int .i64 (wrap64 (a0_0 + 1))) rfl).2.2.1 (by decide) 1 (.int .i64 (wrap64 (a0_1 + (fresh.length : Int))))) ((hf7.out.set 0 (.int .i64 (wrap64 (a0_0 + 1))) rfl).set 1 (.int .i64 (wrap64 (a0_1 + (fresh.length : Int)))) rfl).2.2.1 (by decide) 2 (.slice none 0 0))
  have hf8 := Aside0.mk (((hf7.out.set 0 (.int .i64 (wrap64 (a0_0 + 1))) rfl).set 1 (.int .i64 (wrap64 (a0_1 + (fresh.length : Int)))) rfl).set 2 (.slice none 0 0) rfl)
  clear hR
  have hz8 : Aside0 (w6.heap.size ≤ (((w7.setCell ⟨w.heap.size + 1 + 1, 0, none⟩ (.int .i64 (wrap64 (a0_0 + 1)))).setCell ⟨w.heap.size + 1 + 1, 1, none⟩ (.int .i64 (wrap64 (a0_1 + (fresh.length : Int))))).setCell ⟨w.heap.size + 1 + 1, 2, none⟩ (.slice none 0 0)).heap.size) := ⟨by have := hb7.size; simpa using this⟩
  generalize (((w7.setCell ⟨w.heap.size + 1 + 1, 0, none⟩ (.int .i64 (wrap64 (a0_0 + 1)))).setCell ⟨w.heap.size + 1 + 1, 1, none⟩ (.int .i64 (wrap64 (a0_1 + (fresh.length : Int))))).setCell ⟨w.heap.size + 1 + 1, 2, none⟩ (.slice none 0 0)) = w8 at hR8 hf8 hz8 ⊢
  obtain ⟨t0, t1, t2, t3, t4, t5, t6, t7, t8, t9, t10, t11⟩ := hf8.out.facts
  have hb8 := Aside0.mk hf8.out.2.2.2
  have hf8d := Aside0.mk hf8.out.drew
  have hz8d : Aside0 (w6.heap.size ≤ w8.drew.heap.size) := ⟨hz8.out⟩
  have hR8d := Aside0.mk (Kd.R_drew hR8.out)
  refine start_ (n := 17) (S := fun w' => w'.cell? ⟨w.heap.size, 2, none⟩ = some (.slice (some ad) l0.length c0)) (ds := []) (bAg 17 0) (by kernel_rfl) rfl rfl t2 (fun hHeld => ?_); refine with_tabW ap10.tab ap10.bits (fun HT_ HW_ => ?_)
  generalize w8.drew = wd at hf8d hR8d hz8d hHeld ⊢
  refine pure_ (i := 0) (N := some 64) (v := ?_) (a' := ?_) (bAg 17 1) rfl rfl (any_of HT_.out (by kernel_rfl)) (fun _ _ _ h => h) (Or.inl ⟨by rfl, ?_⟩) ?_ ?_
  rotate_left
  · intro w'
    go_simp
    with_reducible rfl
  rotate_left
  · simp only [Act.put, sg1, sg2, sg3, i64_w, i32_w]
    rfl
  refine pure_ (i := 2) (N := some 66) (v := ?_) (a' := ?_) (bAg 17 5) rfl rfl (any_of HT_.out (by kernel_rfl)) (fun _ _ _ h => h) (Or.inl ⟨by rfl, ?_⟩) ?_ ?_
  rotate_left
  · intro w'
    go_simp
    with_reducible rfl
  rotate_left
  · simp only [Act.put, sg1, sg2, sg3, i64_w, i32_w]
    rfl
  refine pure_ (i := 3) (N := some 67) (v := ?_) (a' := ?_) (bAg 17 13) rfl rfl (any_of HT_.out (by kernel_rfl)) (fun _ _ _ h => h) (Or.inl ⟨by rfl, ?_⟩) ?_ ?_
  rotate_left
  · intro w'
    go_simp
    with_reducible rfl
  rotate_left
  · simp only [Act.put, sg1, sg2, sg3, i64_w, i32_w]
    rfl
  refine pure_ (i := 5) (N := some 69) (v := ?_) (a' := ?_) (bAg 17 45) rfl rfl (any_of HT_.out (by kernel_rfl)) (fun _ _ _ h => h) (Or.inl ⟨by rfl, ?_⟩) ?_ ?_
  rotate_left
  · intro w'
    go_simp
    with_reducible rfl
  rotate_left
  · simp only [Act.put, sg1, sg2, sg3, i64_w, i32_w]
    rfl
  refine pure_ (i := 7) (N := some 71) (v := ?_) (a' := ?_) (bAg 17 173) rfl rfl (any_of HT_.out (by kernel_rfl)) (fun _ _ _ h => h) (Or.inl ⟨by rfl, ?_⟩) ?_ ?_
  rotate_left
  · intro w'
    go_simp
    with_reducible rfl
  rotate_left
  · simp only [Act.put, sg1, sg2, sg3, i64_w, i32_w]
    rfl
  refine pure_ (i := 9) (N := some 73) (v := ?_) (a' := ?_) (bAg 17 685) rfl rfl (any_of HT_.out (by kernel_rfl)) (fun _ _ _ h => h) (Or.inl ⟨by rfl, ?_⟩) ?_ ?_
  rotate_left
  · intro w'
    go_simp
    with_reducible rfl
  rotate_left
  · simp only [Act.put, sg1, sg2, sg3, i64_w, i32_w]
    rfl
  refine pure_ (i := 10) (N := some 74) (v := ?_) (a' := ?_) (bAg 17 1709) rfl rfl (any_of HT_.out (by kernel_rfl)) (fun _ _ _ h => h) (Or.inl ⟨by rfl, ?_⟩) ?_ ?_
  rotate_left
  · intro w'
    go_simp
    with_reducible rfl
  rotate_left
  · simp only [Act.put, sg1, sg2, sg3, i64_w, i32_w]
    rfl
  refine pure_ (i := 11) (N := some 75) (v := ?_) (a' := ?_) (bAg 17 3757) rfl rfl (any_of HT_.out (by kernel_rfl)) (fun _ _ _ h => h) (Or.inl ⟨by rfl, ?_⟩) ?_ ?_
  rotate_left
  · intro w'
    go_simp
    with_reducible rfl
  rotate_left
  · simp only [Act.put, sg1, sg2, sg3, i64_w, i32_w]
    rfl
  refine pure_ (i := 12) (N := some 76) (v := ?_) (a' := ?_) (bAg 17 7853) rfl rfl (any_of HT_.out (by kernel_rfl)) (fun _ _ _ h => h) (Or.inl ⟨by rfl, ?_⟩) ?_ ?_
  rotate_left
  · intro w'
    go_simp
    with_reducible rfl
  rotate_left
  · simp only [Act.put, sg1, sg2, sg3, i64_w, i32_w]
    rfl
  refine take_ (i := 1) (N := some 65) (v := ?_) (a' := ?_) (bAg 17 7855) rfl rfl (take_ofW HT_.out HW_.out (by kernel_rfl)) (fun _ _ _ h => h) (Or.inl ⟨by rfl, ?_⟩) hHeld ?_ ?_
  rotate_left
  · rintro w' s0
    go_simp
    with_reducible rfl
  rotate_left
  · simp only [Act.put, sg1, sg2, sg3, i64_w, i32_w]
    rfl
  refine take_ (i := 8) (N := some 72) (v := ?_) (a' := ?_) (bAg 17 8111) rfl rfl (take_ofW HT_.out HW_.out (by kernel_rfl)) (fun _ _ _ h => h) (Or.inl ⟨by rfl, ?_⟩) hHeld ?_ ?_
  rotate_left
  · rintro w' s0
    go_simp
    with_reducible rfl
  rotate_left
  · simp only [Act.put, sg1, sg2, sg3, i64_w, i32_w]
    rfl
  refine pure_ (i := 4) (N := some 68) (v := ?_) (a' := ?_) (bAg 17 8127) rfl rfl (any_of HT_.out (by kernel_rfl)) (fun _ _ _ h => h) (Or.inl ⟨by rfl, ?_⟩) ?_ ?_
  rotate_left
  · intro w'
    go_simp
    with_reducible rfl
  rotate_left
  · simp only [Act.put, sg1, sg2, sg3, i64_w, i32_w]
    rfl
  refine pure_ (i := 13) (N := some 77) (v := ?_) (a' := ?_) (bAg 17 16319) rfl rfl (any_of HT_.out (by kernel_rfl)) (fun _ _ _ h => h) (Or.inl ⟨by rfl, ?_⟩) ?_ ?_
  rotate_left
  · intro w'
    go_simp
    with_reducible rfl
  rotate_left
  · simp only [Act.put, sg1, sg2, sg3, i64_w, i32_w]
    rfl
  refine one_ (i := 6) (N := some 70) (bAg 17 16383) rfl rfl (one_of HT_.out (by kernel_rfl)) (by decide) (fun K hK => ?_)
  refine step_app1 rfl (.tmp 68) (.tmp 69) rfl ad j (l0.take j) fresh Af cf rfl hlt (Kd.C_take (Kd.C_below HR.out hf8d.out.2.2.2) (by omega)) rfl (R_shd_reads hR8d.out) hf1 (by omega) ?_
  intro v9 w9 ho9 hb9
  have hf9 := Aside0.mk (hf8d.out.after hb9)
  have hR9 := Aside0.mk (R_shd_below hR8d.out hb9)
  have ho9a := Aside0.mk ho9
  refine hK.out _ _ ((blk_cell hf9.out.1 2).trans rfl) (fun hHeld => ?_)
  clear hK K
  refine norm_ (a' := ?_) ?_ ?_
  rotate_left
  · show Act.put _ (some 70) _ = _
    simp only [Act.put, sg1, sg2, sg3, i64_w, i32_w]
    rfl
  refine one_ (i := 14) (N := some 78) (bAg 17 32767) rfl rfl (one_of HT_.out (by kernel_rfl)) (by decide) (fun K hK => ?_)
  generalize hA77 : (if c0 = j + m then some ad else some (ad.add ((j + m) * 4))) = A77
  refine step_app2 (w0 := wd) wd.heap.size rfl (.tmp 70) (.tmp 77) rfl v9 (l0.take j ++ fresh) (l0.drop (j + m)) A77 (c0 - (j + m)) rfl ho9a.out ?_ (by rw [← hA77]; exact Kd.C_drop (Kd.C_below HR.out hf9.out.2.2.2) hm HC.out) hb9 hb9.size (by simp only [List.length_append]; omega) ?_
  · show Value.slice _ _ _ = _
    rw [hld]
  intro v10 w10 ho10 hb10 hg10
  clear hg10
  generalize e10 : l0.take j ++ fresh ++ l0.drop (j + m) = l10 at ho10 HK
  obtain ⟨A10, c10, rfl, hc10⟩ := OwnRow.slice_ ho10.2
  have hf10 := Aside0.mk (hf8d.out.after hb10)
  have hR10 := Aside0.mk (R_shd_below hR8d.out hb10)
  have ho10a := Aside0.mk ho10
  obtain ⟨u0, u1, u2, u3, u4, u5, u6, u7, u8, u9, u10, u11⟩ := hf10.out.facts
  refine hK.out _ _ ((blk_cell hf10.out.1 2).trans rfl) (fun hHeld => ?_)
  clear hK K
  refine norm_ (a' := ?_) ?_ ?_
  rotate_left
  · show Act.put _ (some 78) _ = _
    simp only [Act.put, sg1, sg2, sg3, i64_w, i32_w]
    rfl
  refine pure_ (i := 15) (N := some 79) (v := ?_) (a' := ?_) (bAg 17 65535) rfl rfl (any_of HT_.out (by kernel_rfl)) (fun _ _ _ h => h) (Or.inl ⟨by rfl, ?_⟩) ?_ ?_
  rotate_left
  · intro w'
    go_simp
    with_reducible rfl
  rotate_left
  · simp only [Act.put, sg1, sg2, sg3, i64_w, i32_w]
    rfl
  refine one_ (i := 16) (N := none) (bAg 17 131071) rfl rfl (one_of HT_.out (by kernel_rfl)) (by decide) (fun K hK => ?_)
  refine skip_ (w1 := ?_) (by rfl) rfl ?_ ?_
  rotate_left
  · go_simp
    rfl
  refine hK.out _ _ ((blk_cell (hf10.out.set 2 _ rfl).1 2).trans rfl) (fun hHeld => ?_)
  clear hK K
  refine done_ (done_of HT_.out (by kernel_rfl)) ?_
  have hf11 : Aside0 (Fr w (w10.setCell ⟨w.heap.size + 1 + 1, 2, none⟩ (.slice A10 l10.length c10)) _ _ #[.int .i64 (wrap64 (a0_0 + 1)), .int .i64 (wrap64 (a0_1 + (fresh.length : Int))), .slice A10 l10.length c10]) := ⟨hf10.out.set 2 _ rfl⟩
  have ho11 := Aside0.mk (R_shd_set ho10a.out hf10.out.2.2.1 (by decide) 2 (.slice A10 l10.length c10))
  have hR11 := Aside0.mk (R_shd_set hR10.out hf10.out.2.2.1 (by decide) 2 (.slice A10 l10.length c10))
  have hz11 : Aside0 (wd.heap.size ≤ (w10.setCell ⟨w.heap.size + 1 + 1, 2, none⟩ (.slice A10 l10.length c10)).heap.size) := ⟨by have := hb10.size; simpa using this⟩
  generalize (w10.setCell ⟨w.heap.size + 1 + 1, 2, none⟩ (.slice A10 l10.length c10)) = w11 at hf11 ho11 hR11 hz11 ⊢
  obtain ⟨v0, v1, v2, v3, v4, v5, v6, v7, v8, v9_, v10_, v11⟩ := hf11.out.facts
  go_wp2_with (go_at_call 33; refine (chart_Check.calls k (wrap64 (a0_0 + 1)) (wrap64 (a0_1 + (fresh.length : Int))) A10 c10 l10 true _ (R_shd_reads ho11.out) hc10 HK.out).mono ?_; rintro e w12 ⟨rfl, hb12⟩; have hf12 := Aside0.mk (hf11.out.after hb12); have ho12 := Aside0.mk (R_shd_below ho11.out hb12); have hR12 := Aside0.mk (R_shd_below hR11.out hb12); have hz12 := Aside0.mk (Nat.le_trans hz11.out hb12.size); obtain ⟨x0, x1, x2, x3, x4, x5, x6, x7, x8, x9, x10, x11⟩ := hf12.out.facts)
  have hm2 : ((l0.drop j).take m).length = m := by rw [List.length_take, List.length_drop]; omega
  have hf12d := Aside0.mk hf12.out.drew
  have ho12d := Aside0.mk (Kd.R_drew ho12.out)
  have hR12d := Aside0.mk (Kd.R_drew hR12.out)
  have hz12d : Aside0 (wd.heap.size ≤ w12.drew.heap.size) := ⟨hz12.out⟩
  refine start_ (n := 8) (S := fun w' => w'.cell? ⟨w.heap.size + 1 + 1, 0, none⟩ = some (.int .i64 (wrap64 (a0_0 + 1))) ∧ w'.cell? ⟨w.heap.size + 1 + 1, 1, none⟩ = some (.int .i64 (wrap64 (a0_1 + (fresh.length : Int)))) ∧ w'.cell? ⟨w.heap.size + 1 + 1, 2, none⟩ = some (.slice A10 l10.length c10)) (ds := []) (bAg 8 0) (by kernel_rfl) rfl rfl ⟨x6, x7, x8⟩ (fun hHeld => ?_); refine with_tabW ap13.tab ap13.bits (fun HT_ HW_ => ?_)
  generalize w12.drew = we at hf12d ho12d hR12d hz12d hHeld ⊢
  refine pure_ (i := 1) (N := some 85) (v := ?_) (a' := ?_) (bAg 8 2) rfl rfl (any_of HT_.out (by kernel_rfl)) (fun _ _ _ h => h) (Or.inl ⟨by rfl, ?_⟩) ?_ ?_
  rotate_left
  · intro w'
    go_simp
    with_reducible rfl
  rotate_left
  · simp only [Act.put, sg1, sg2, sg3, i64_w, i32_w]
    rfl
  refine pure_ (i := 3) (N := some 87) (v := ?_) (a' := ?_) (bAg 8 10) rfl rfl (any_of HT_.out (by kernel_rfl)) (fun _ _ _ h => h) (Or.inl ⟨by rfl, ?_⟩) ?_ ?_
  rotate_left
  · intro w'
    go_simp
    with_reducible rfl
  rotate_left
  · simp only [Act.put, sg1, sg2, sg3, i64_w, i32_w]
    rfl
  refine take_ (i := 0) (N := some 84) (v := ?_) (a' := ?_) (bAg 8 11) rfl rfl (take_ofW HT_.out HW_.out (by kernel_rfl)) (fun _ _ _ h => h) (Or.inl ⟨by rfl, ?_⟩) hHeld ?_ ?_
  rotate_left
  · rintro w' ⟨s0, s1, s2⟩
    go_simp
    with_reducible rfl
  rotate_left
  · simp only [Act.put, sg1, sg2, sg3, i64_w, i32_w]
    rfl
  refine one_ (i := 2) (N := some 86) (bAg 8 15) rfl rfl (one_of HT_.out (by kernel_rfl)) (by decide) (fun K hK => ?_)
  refine goes_ Try.func48 (by kernel_rfl) rfl #[.slice (some (ad.add (j * 4))) m (c0 - j)] (by rfl) rfl rfl (by simp only [List.map_toArray, List.map_cons, List.map_nil]; rfl) ?_
  have hcl := clone_calls (ad.add (j * 4)) (c0 - j) ((l0.drop j).take m) we (cut_C _ ad c0 l0 j m (Kd.C_below HR.out hf12d.out.2.2.2) hj hm HC.out) (by rw [hm2]; omega)
  rw [hm2] at hcl
  refine hcl.mono ?_
  rintro e w13 ⟨v13, rfl, ho13, hb13⟩
  refine ⟨_, rfl, ?_⟩
  clear hcl
  have hf13 := Aside0.mk (hf12d.out.after hb13)
  have ho13a := Aside0.mk ho13
  have hb13a := Aside0.mk hb13
  have he13 : Aside0 (Fr w (((w13.setCell ⟨w.heap.size + 1 + 1, 0, none⟩ (.int .i64 (wrap64 (a0_0 + 1)))).setCell ⟨w.heap.size + 1 + 1, 1, none⟩ (.int .i64 (wrap64 (a0_1 + (fresh.length : Int))))).setCell ⟨w.heap.size + 1 + 1, 2, none⟩ (.slice A10 l10.length c10)) _ _ #[.int .i64 (wrap64 (a0_0 + 1)), .int .i64 (wrap64 (a0_1 + (fresh.length : Int))), .slice A10 l10.length c10]) := ⟨((hf13.out.set 0 _ rfl).set 1 _ rfl).set 2 _ rfl⟩
  obtain ⟨y0, y1, y2, y3, y4, y5, y6, y7, y8, y9, y10, y11⟩ := hf13.out.facts
  refine hK.out _ _ ⟨(blk_cell hf13.out.2.2.1 0).trans rfl, (blk_cell hf13.out.2.2.1 1).trans rfl, (blk_cell hf13.out.2.2.1 2).trans rfl⟩ (fun hHeld => ?_)
  clear hK K
  refine norm_ (a' := ?_) ?_ ?_
  rotate_left
  · show Act.put _ (some 86) _ = _
    simp only [Act.put, sg1, sg2, sg3, i64_w, i32_w]
    rfl
  refine one_ (i := 4) (N := none) (bAg 8 31) rfl rfl (one_of HT_.out (by kernel_rfl)) (by decide) (fun K hK => ?_)
  refine skip_ (w1 := ?_) (by rfl) rfl ?_ ?_
  rotate_left
  · go_simp
    rfl
  refine hK.out _ _ ⟨(blk_cell he13.out.2.2.1 0).trans rfl, (blk_cell he13.out.2.2.1 1).trans rfl, (blk_cell he13.out.2.2.1 2).trans rfl⟩ (fun hHeld => ?_)
  clear hK K
  refine pure_ (i := 5) (N := some 5) (v := ?_) (a' := ?_) (bAg 8 63) rfl rfl (any_of HT_.out (by kernel_rfl)) (fun _ _ _ h => h) (Or.inl ⟨by rfl, ?_⟩) ?_ ?_
  rotate_left
  · intro w'
    go_simp
    with_reducible rfl
  rotate_left
  · simp only [Act.put, sg1, sg2, sg3, i64_w, i32_w]
    rfl
  refine pure_ (i := 6) (N := some 6) (v := ?_) (a' := ?_) (bAg 8 127) rfl rfl (any_of HT_.out (by kernel_rfl)) (fun _ _ _ h => h) (Or.inl ⟨by rfl, ?_⟩) ?_ ?_
  rotate_left
  · intro w'
    go_simp
    with_reducible rfl
  rotate_left
  · simp only [Act.put, sg1, sg2, sg3, i64_w, i32_w]
    rfl
  refine pure_ (i := 7) (N := some 7) (v := ?_) (a' := ?_) (bAg 8 255) rfl rfl (any_of HT_.out (by kernel_rfl)) (fun _ _ _ h => h) (Or.inl ⟨by rfl, ?_⟩) ?_ ?_
  rotate_left
  · intro w'
    go_simp
    with_reducible rfl
  rotate_left
  · simp only [Act.put, sg1, sg2, sg3, i64_w, i32_w]
    rfl
  refine done_ (done_of HT_.out (by kernel_rfl)) ?_
  try go_wp2
  refine bodyPost_ret (results_list (rs := [.cell 4 24, .tmp 5, .tmp 6, .tmp 7]) rfl (by simp) (.cell (w.heap.size + 1 + 1) 24 _ (0, 0) _ rfl he13.out.2.2.1 Try.underlying24 rfl (by kernel_rfl) (.tmp (.tmp (.tmp .nil))))) rfl ?_
  subst e10
  exact ApplyPost.ok w _ _ _ _ _ _ _ _ _ w6.heap.size wd.heap.size we.heap.size (R_shd_set3 hf13.out _ _ _ (R_shd_below ho12d.out hb13a.out)) (R_shd_set3 hf13.out _ _ _ ho13a.out) (R_shd_set3 hf13.out _ _ _ (R_shd_below hR12d.out hb13a.out)) (Kd.R_lt hR8d.out) (Kd.R_lt ho12d.out) hf6.out.2.2.2.size hz8d.out hz12d.out he13.out.2.2.2

set_option maxHeartbeats 8000000 in
set_option maxRecDepth 100000 in
theorem chart_Apply.ok12f (k : Nat) (a0_0 : Int) (a0_1 : Int) (A0 : Option Addr) (c0 : Nat) (l0 : List (S67)) (kd_ id at_ : Int) (w : World) (hr0 : Kd.C k67 w A0 l0.length l0) (hc0 : l0.length ≤ c0) (h : chart_Check.f k a0_0 a0_1 l0 = some true) (j : Nat) (hj : j < l0.length) (hbig : l0.length ≤ 4611686018427387904) (hp : chart_place.f a0_0 a0_1 l0 id = some (j : Int)) (hk1 : 1 ≤ kd_) (hk2 : kd_ ≤ 3) (hk3 : kd_ ≠ 3) (hbig2 : l0.length ≤ 1000000) (m : Nat) (fresh : List Shd) (hm : j + m ≤ l0.length) (hm1 : 1 ≤ m) (hf1 : 1 ≤ fresh.length) (hf2 : fresh.length ≤ 2) (hchg : ∀ (ad : Addr), A0 = some ad → ∀ W : World, Below w.heap.size w W → Calls Try.prog 47 #[.agg #[.int .i64 a0_0, .int .i64 a0_1, .slice (some ad) l0.length c0], .agg #[.int .i64 kd_, .int .i64 id, .int .i64 at_], .int .i64 j] W fun e w' => (∃ v, e = .returned (.tuple #[.slice (some (ad.add (j * 4))) m (c0 - j), v, .int .i64 0]) ∧ Kd.R k67 67 w' W.heap.size (fun _ => True) v fresh) ∧ Below W.heap.size W w') (hchk2 : chart_Check.f k (wrap64 (a0_0 + 1)) (wrap64 (a0_1 + (fresh.length : Int))) (l0.take j ++ fresh ++ l0.drop (j + m)) = some false) :
    Calls Try.prog 26 #[.agg #[.int .i64 a0_0, .int .i64 a0_1, .slice A0 l0.length c0], .agg #[.int .i64 kd_, .int .i64 id, .int .i64 at_]] w fun e w' => ApplyPost w 0 0 [] [] [] 2 e w' := by
  have hu24 := Try.underlying24
  have hu39 := Try.underlying54
  have HA := Aside0.mk h
  have HR := Aside0.mk hr0
  have HC := Aside0.mk hc0
  clear h hr0 hc0
  have g1 : decide (kd_ < 1) = false := decide_eq_false (by omega)
  have g2 : decide (kd_ > 3) = false := decide_eq_false (by omega)
  have g3 : decide (3 < kd_) = false := decide_eq_false (by omega)
  have g4 : (kd_ == 3) = false := beq_eq_false_iff_ne.mpr hk3
  have g5 : decide (kd_ = 3) = false := decide_eq_false hk3
  have HP := Aside0.mk hp
  clear hp
  have q1 : decide ((j : Int) < 0) = false := decide_eq_false (by omega)
  obtain ⟨ad, e0, hx_0, hx_1, hx_2, hx_3⟩ := at_T67 HR.out (j : Int) (by omega) (by omega)
  cases e0
  simp only [Int.toNat_natCast] at hx_0 hx_1 hx_2 hx_3
  replace hchg := hchg ad rfl
  have hlt : (l0.take j).length = j := by rw [List.length_take]; omega
  have hld : (l0.drop (j + m)).length = l0.length - (j + m) := by rw [List.length_drop]
  have z1 : (j : Int) ≤ (c0 : Int) := Int.ofNat_le.mpr (Nat.le_trans (Nat.le_of_lt hj) HC.out)
  obtain ⟨z2, z2b, z5, z6, z7, z3, z4⟩ := cutsum j m l0.length hm hbig2
  have HX := Aside0.mk hchg
  have HK := Aside0.mk hchk2
  clear hchg hchk2 hx_0 hx_1 hx_2 hx_3
  have hf3 := Aside0.mk (Fr.start w #[.int .i64 a0_0, .int .i64 a0_1, .slice (some ad) l0.length c0] #[.int .i64 kd_, .int .i64 id, .int .i64 at_] #[.int .i64 0, .int .i64 0, .slice none 0 0])
  go_enter Try.func26, Try.ntmps26
  go_wp2_with (go_at_call 33; refine (chart_Check.calls k a0_0 a0_1 (some ad) c0 l0 true _ (Kd.C_below HR.out hf3.out.2.2.2) HC.out HA.out).mono ?_; rintro e w4 ⟨rfl, hb4⟩; have hf4 := Aside0.mk (hf3.out.after hb4); obtain ⟨f0, f1, f2, f3, f4, f5, f6, f7, f8, f9, f10, f11⟩ := hf4.out.facts)
  go_wp2_with (go_at_call 46; refine (chart_place.calls a0_0 a0_1 (some ad) c0 l0 id (j : Int) _ (Kd.C_below HR.out hf4.out.2.2.2) HC.out HP.out).mono ?_; rintro e w6 ⟨rfl, hb6⟩; have hf6 := Aside0.mk (hf4.out.after hb6); obtain ⟨p0, p1, p2, p3, p4, p5, p6, p7, p8, p9, p10, p11⟩ := hf6.out.facts)
  go_wp2_with (go_at_call 47; refine (HX.out _ hf6.out.2.2.2).mono ?_; rintro e w7 ⟨⟨v, rfl, hR⟩, hb7⟩; have hf7 := Aside0.mk (hf6.out.after hb7); obtain ⟨s0, s1, s2, s3, s4, s5, s6, s7, s8, s9, s10, s11⟩ := hf7.out.facts; obtain ⟨Af, cf, rfl, hcf⟩ := OwnRow.slice_ hR.2)
  have hR8 := Aside0.mk (R_shd_set (R_shd_set (R_shd_set hR hf7.out.2.2.1 (by decide) 0 (.int .i64 (wrap64 (a0_0 + 1)))) (hf7.out.set 0 (.int .i64 (wrap64 (a0_0 + 1))) rfl).2.2.1 (by decide) 1 (.int .i64 (wrap64 (a0_1 + (fresh.length : Int))))) ((hf7.out.set 0 (.int .i64 (wrap64 (a0_0 + 1))) rfl).set 1 (.int .i64 (wrap64 (a0_1 + (fresh.length : Int)))) rfl).2.2.1 (by decide) 2 (.slice none 0 0))
  have hf8 := Aside0.mk (((hf7.out.set 0 (.int .i64 (wrap64 (a0_0 + 1))) rfl).set 1 (.int .i64 (wrap64 (a0_1 + (fresh.length : Int)))) rfl).set 2 (.slice none 0 0) rfl)
  clear hR
  have hz8 : Aside0 (w6.heap.size ≤ (((w7.setCell ⟨w.heap.size + 1 + 1, 0, none⟩ (.int .i64 (wrap64 (a0_0 + 1)))).setCell ⟨w.heap.size + 1 + 1, 1, none⟩ (.int .i64 (wrap64 (a0_1 + (fresh.length : Int))))).setCell ⟨w.heap.size + 1 + 1, 2, none⟩ (.slice none 0 0)).heap.size) := ⟨by have := hb7.size; simpa using this⟩
  generalize (((w7.setCell ⟨w.heap.size + 1 + 1, 0, none⟩ (.int .i64 (wrap64 (a0_0 + 1)))).setCell ⟨w.heap.size + 1 + 1, 1, none⟩ (.int .i64 (wrap64 (a0_1 + (fresh.length : Int))))).setCell ⟨w.heap.size + 1 + 1, 2, none⟩ (.slice none 0 0)) = w8 at hR8 hf8 hz8 ⊢
  obtain ⟨t0, t1, t2, t3, t4, t5, t6, t7, t8, t9, t10, t11⟩ := hf8.out.facts
  have hb8 := Aside0.mk hf8.out.2.2.2
  have hf8d := Aside0.mk hf8.out.drew
  have hz8d : Aside0 (w6.heap.size ≤ w8.drew.heap.size) := ⟨hz8.out⟩
  have hR8d := Aside0.mk (Kd.R_drew hR8.out)
  refine start_ (n := 17) (S := fun w' => w'.cell? ⟨w.heap.size, 2, none⟩ = some (.slice (some ad) l0.length c0)) (ds := []) (bAg 17 0) (by kernel_rfl) rfl rfl t2 (fun hHeld => ?_); refine with_tabW ap10.tab ap10.bits (fun HT_ HW_ => ?_)
  generalize w8.drew = wd at hf8d hR8d hz8d hHeld ⊢
  refine pure_ (i := 0) (N := some 64) (v := ?_) (a' := ?_) (bAg 17 1) rfl rfl (any_of HT_.out (by kernel_rfl)) (fun _ _ _ h => h) (Or.inl ⟨by rfl, ?_⟩) ?_ ?_
  rotate_left
  · intro w'
    go_simp
    with_reducible rfl
  rotate_left
  · simp only [Act.put, sg1, sg2, sg3, i64_w, i32_w]
    rfl
  refine pure_ (i := 2) (N := some 66) (v := ?_) (a' := ?_) (bAg 17 5) rfl rfl (any_of HT_.out (by kernel_rfl)) (fun _ _ _ h => h) (Or.inl ⟨by rfl, ?_⟩) ?_ ?_
  rotate_left
  · intro w'
    go_simp
    with_reducible rfl
  rotate_left
  · simp only [Act.put, sg1, sg2, sg3, i64_w, i32_w]
    rfl
  refine pure_ (i := 3) (N := some 67) (v := ?_) (a' := ?_) (bAg 17 13) rfl rfl (any_of HT_.out (by kernel_rfl)) (fun _ _ _ h => h) (Or.inl ⟨by rfl, ?_⟩) ?_ ?_
  rotate_left
  · intro w'
    go_simp
    with_reducible rfl
  rotate_left
  · simp only [Act.put, sg1, sg2, sg3, i64_w, i32_w]
    rfl
  refine pure_ (i := 5) (N := some 69) (v := ?_) (a' := ?_) (bAg 17 45) rfl rfl (any_of HT_.out (by kernel_rfl)) (fun _ _ _ h => h) (Or.inl ⟨by rfl, ?_⟩) ?_ ?_
  rotate_left
  · intro w'
    go_simp
    with_reducible rfl
  rotate_left
  · simp only [Act.put, sg1, sg2, sg3, i64_w, i32_w]
    rfl
  refine pure_ (i := 7) (N := some 71) (v := ?_) (a' := ?_) (bAg 17 173) rfl rfl (any_of HT_.out (by kernel_rfl)) (fun _ _ _ h => h) (Or.inl ⟨by rfl, ?_⟩) ?_ ?_
  rotate_left
  · intro w'
    go_simp
    with_reducible rfl
  rotate_left
  · simp only [Act.put, sg1, sg2, sg3, i64_w, i32_w]
    rfl
  refine pure_ (i := 9) (N := some 73) (v := ?_) (a' := ?_) (bAg 17 685) rfl rfl (any_of HT_.out (by kernel_rfl)) (fun _ _ _ h => h) (Or.inl ⟨by rfl, ?_⟩) ?_ ?_
  rotate_left
  · intro w'
    go_simp
    with_reducible rfl
  rotate_left
  · simp only [Act.put, sg1, sg2, sg3, i64_w, i32_w]
    rfl
  refine pure_ (i := 10) (N := some 74) (v := ?_) (a' := ?_) (bAg 17 1709) rfl rfl (any_of HT_.out (by kernel_rfl)) (fun _ _ _ h => h) (Or.inl ⟨by rfl, ?_⟩) ?_ ?_
  rotate_left
  · intro w'
    go_simp
    with_reducible rfl
  rotate_left
  · simp only [Act.put, sg1, sg2, sg3, i64_w, i32_w]
    rfl
  refine pure_ (i := 11) (N := some 75) (v := ?_) (a' := ?_) (bAg 17 3757) rfl rfl (any_of HT_.out (by kernel_rfl)) (fun _ _ _ h => h) (Or.inl ⟨by rfl, ?_⟩) ?_ ?_
  rotate_left
  · intro w'
    go_simp
    with_reducible rfl
  rotate_left
  · simp only [Act.put, sg1, sg2, sg3, i64_w, i32_w]
    rfl
  refine pure_ (i := 12) (N := some 76) (v := ?_) (a' := ?_) (bAg 17 7853) rfl rfl (any_of HT_.out (by kernel_rfl)) (fun _ _ _ h => h) (Or.inl ⟨by rfl, ?_⟩) ?_ ?_
  rotate_left
  · intro w'
    go_simp
    with_reducible rfl
  rotate_left
  · simp only [Act.put, sg1, sg2, sg3, i64_w, i32_w]
    rfl
  refine take_ (i := 1) (N := some 65) (v := ?_) (a' := ?_) (bAg 17 7855) rfl rfl (take_ofW HT_.out HW_.out (by kernel_rfl)) (fun _ _ _ h => h) (Or.inl ⟨by rfl, ?_⟩) hHeld ?_ ?_
  rotate_left
  · rintro w' s0
    go_simp
    with_reducible rfl
  rotate_left
  · simp only [Act.put, sg1, sg2, sg3, i64_w, i32_w]
    rfl
  refine take_ (i := 8) (N := some 72) (v := ?_) (a' := ?_) (bAg 17 8111) rfl rfl (take_ofW HT_.out HW_.out (by kernel_rfl)) (fun _ _ _ h => h) (Or.inl ⟨by rfl, ?_⟩) hHeld ?_ ?_
  rotate_left
  · rintro w' s0
    go_simp
    with_reducible rfl
  rotate_left
  · simp only [Act.put, sg1, sg2, sg3, i64_w, i32_w]
    rfl
  refine pure_ (i := 4) (N := some 68) (v := ?_) (a' := ?_) (bAg 17 8127) rfl rfl (any_of HT_.out (by kernel_rfl)) (fun _ _ _ h => h) (Or.inl ⟨by rfl, ?_⟩) ?_ ?_
  rotate_left
  · intro w'
    go_simp
    with_reducible rfl
  rotate_left
  · simp only [Act.put, sg1, sg2, sg3, i64_w, i32_w]
    rfl
  refine pure_ (i := 13) (N := some 77) (v := ?_) (a' := ?_) (bAg 17 16319) rfl rfl (any_of HT_.out (by kernel_rfl)) (fun _ _ _ h => h) (Or.inl ⟨by rfl, ?_⟩) ?_ ?_
  rotate_left
  · intro w'
    go_simp
    with_reducible rfl
  rotate_left
  · simp only [Act.put, sg1, sg2, sg3, i64_w, i32_w]
    rfl
  refine one_ (i := 6) (N := some 70) (bAg 17 16383) rfl rfl (one_of HT_.out (by kernel_rfl)) (by decide) (fun K hK => ?_)
  refine step_app1 rfl (.tmp 68) (.tmp 69) rfl ad j (l0.take j) fresh Af cf rfl hlt (Kd.C_take (Kd.C_below HR.out hf8d.out.2.2.2) (by omega)) rfl (R_shd_reads hR8d.out) hf1 (by omega) ?_
  intro v9 w9 ho9 hb9
  have hf9 := Aside0.mk (hf8d.out.after hb9)
  have hR9 := Aside0.mk (R_shd_below hR8d.out hb9)
  have ho9a := Aside0.mk ho9
  refine hK.out _ _ ((blk_cell hf9.out.1 2).trans rfl) (fun hHeld => ?_)
  clear hK K
  refine norm_ (a' := ?_) ?_ ?_
  rotate_left
  · show Act.put _ (some 70) _ = _
    simp only [Act.put, sg1, sg2, sg3, i64_w, i32_w]
    rfl
  refine one_ (i := 14) (N := some 78) (bAg 17 32767) rfl rfl (one_of HT_.out (by kernel_rfl)) (by decide) (fun K hK => ?_)
  generalize hA77 : (if c0 = j + m then some ad else some (ad.add ((j + m) * 4))) = A77
  refine step_app2 (w0 := wd) wd.heap.size rfl (.tmp 70) (.tmp 77) rfl v9 (l0.take j ++ fresh) (l0.drop (j + m)) A77 (c0 - (j + m)) rfl ho9a.out ?_ (by rw [← hA77]; exact Kd.C_drop (Kd.C_below HR.out hf9.out.2.2.2) hm HC.out) hb9 hb9.size (by simp only [List.length_append]; omega) ?_
  · show Value.slice _ _ _ = _
    rw [hld]
  intro v10 w10 ho10 hb10 hg10
  clear hg10
  generalize e10 : l0.take j ++ fresh ++ l0.drop (j + m) = l10 at ho10 HK
  obtain ⟨A10, c10, rfl, hc10⟩ := OwnRow.slice_ ho10.2
  have hf10 := Aside0.mk (hf8d.out.after hb10)
  have hR10 := Aside0.mk (R_shd_below hR8d.out hb10)
  have ho10a := Aside0.mk ho10
  obtain ⟨u0, u1, u2, u3, u4, u5, u6, u7, u8, u9, u10, u11⟩ := hf10.out.facts
  refine hK.out _ _ ((blk_cell hf10.out.1 2).trans rfl) (fun hHeld => ?_)
  clear hK K
  refine norm_ (a' := ?_) ?_ ?_
  rotate_left
  · show Act.put _ (some 78) _ = _
    simp only [Act.put, sg1, sg2, sg3, i64_w, i32_w]
    rfl
  refine pure_ (i := 15) (N := some 79) (v := ?_) (a' := ?_) (bAg 17 65535) rfl rfl (any_of HT_.out (by kernel_rfl)) (fun _ _ _ h => h) (Or.inl ⟨by rfl, ?_⟩) ?_ ?_
  rotate_left
  · intro w'
    go_simp
    with_reducible rfl
  rotate_left
  · simp only [Act.put, sg1, sg2, sg3, i64_w, i32_w]
    rfl
  refine one_ (i := 16) (N := none) (bAg 17 131071) rfl rfl (one_of HT_.out (by kernel_rfl)) (by decide) (fun K hK => ?_)
  refine skip_ (w1 := ?_) (by rfl) rfl ?_ ?_
  rotate_left
  · go_simp
    rfl
  refine hK.out _ _ ((blk_cell (hf10.out.set 2 _ rfl).1 2).trans rfl) (fun hHeld => ?_)
  clear hK K
  refine done_ (done_of HT_.out (by kernel_rfl)) ?_
  have hf11 : Aside0 (Fr w (w10.setCell ⟨w.heap.size + 1 + 1, 2, none⟩ (.slice A10 l10.length c10)) _ _ #[.int .i64 (wrap64 (a0_0 + 1)), .int .i64 (wrap64 (a0_1 + (fresh.length : Int))), .slice A10 l10.length c10]) := ⟨hf10.out.set 2 _ rfl⟩
  have ho11 := Aside0.mk (R_shd_set ho10a.out hf10.out.2.2.1 (by decide) 2 (.slice A10 l10.length c10))
  have hR11 := Aside0.mk (R_shd_set hR10.out hf10.out.2.2.1 (by decide) 2 (.slice A10 l10.length c10))
  have hz11 : Aside0 (wd.heap.size ≤ (w10.setCell ⟨w.heap.size + 1 + 1, 2, none⟩ (.slice A10 l10.length c10)).heap.size) := ⟨by have := hb10.size; simpa using this⟩
  generalize (w10.setCell ⟨w.heap.size + 1 + 1, 2, none⟩ (.slice A10 l10.length c10)) = w11 at hf11 ho11 hR11 hz11 ⊢
  obtain ⟨v0, v1, v2, v3, v4, v5, v6, v7, v8, v9_, v10_, v11⟩ := hf11.out.facts
  go_wp2_with (go_at_call 33; refine (chart_Check.calls k (wrap64 (a0_0 + 1)) (wrap64 (a0_1 + (fresh.length : Int))) A10 c10 l10 false _ (R_shd_reads ho11.out) hc10 HK.out).mono ?_; rintro e w12 ⟨rfl, hb12⟩; have hf12 := Aside0.mk (hf11.out.after hb12); have ho12 := Aside0.mk (R_shd_below ho11.out hb12); have hR12 := Aside0.mk (R_shd_below hR11.out hb12); have hz12 := Aside0.mk (Nat.le_trans hz11.out hb12.size); obtain ⟨x0, x1, x2, x3, x4, x5, x6, x7, x8, x9, x10, x11⟩ := hf12.out.facts)
  have hE : Fr w (((w12.setCell ⟨w.heap.size + 1 + 1, 0, none⟩ (.int .i64 0)).setCell ⟨w.heap.size + 1 + 1, 1, none⟩ (.int .i64 0)).setCell ⟨w.heap.size + 1 + 1, 2, none⟩ (.slice none 0 0)) _ _ #[.int .i64 0, .int .i64 0, .slice none 0 0] := ((hf12.out.set 0 _ rfl).set 1 _ rfl).set 2 _ rfl
  refine bodyPost_ret (results_list (rs := [.cell 4 24, .tmp 5, .tmp 6, .tmp 7]) rfl (by simp) (.cell (w.heap.size + 1 + 1) 24 _ (0, 0) _ rfl hE.2.2.1 Try.underlying24 rfl (by kernel_rfl) (.tmp (.tmp (.tmp .nil))))) rfl ?_
  exact ApplyPost.none_ w 2 _ hE.2.2.2

set_option maxHeartbeats 8000000 in
set_option maxRecDepth 100000 in
theorem chart_Apply.ok3t (k : Nat) (a0_0 : Int) (a0_1 : Int) (A0 : Option Addr) (c0 : Nat) (l0 : List (S67)) (id at_ : Int) (w : World) (hr0 : Kd.C k67 w A0 l0.length l0) (hc0 : l0.length ≤ c0) (h : chart_Check.f k a0_0 a0_1 l0 = some true) (j : Nat) (hj : j < l0.length) (hbig : l0.length ≤ 4611686018427387904) (hp : chart_place.f a0_0 a0_1 l0 id = some (j : Int)) (hn : chart_node.f at_ = some true) (hbig2 : l0.length ≤ 1000000) (m : Nat) (fresh : List Shd) (hm : j + m ≤ l0.length) (hm1 : 1 ≤ m) (hf1 : 1 ≤ fresh.length) (hf2 : fresh.length ≤ 2) (hchg : ∀ (ad : Addr), A0 = some ad → ∀ W : World, Below w.heap.size w W → Calls Try.prog 47 #[.agg #[.int .i64 a0_0, .int .i64 a0_1, .slice (some ad) l0.length c0], .agg #[.int .i64 3, .int .i64 id, .int .i64 at_], .int .i64 j] W fun e w' => (∃ v, e = .returned (.tuple #[.slice (some (ad.add (j * 4))) m (c0 - j), v, .int .i64 0]) ∧ Kd.R k67 67 w' W.heap.size (fun _ => True) v fresh) ∧ Below W.heap.size W w') (hchk2 : chart_Check.f k (wrap64 (a0_0 + 1)) (wrap64 (a0_1 + (fresh.length : Int))) (l0.take j ++ fresh ++ l0.drop (j + m)) = some true) :
    Calls Try.prog 26 #[.agg #[.int .i64 a0_0, .int .i64 a0_1, .slice A0 l0.length c0], .agg #[.int .i64 3, .int .i64 id, .int .i64 at_]] w fun e w' => ApplyPost w (wrap64 (a0_0 + 1)) (wrap64 (a0_1 + (fresh.length : Int))) (l0.take j ++ fresh ++ l0.drop (j + m)) ((l0.drop j).take m) fresh 0 e w' := by
  have hu24 := Try.underlying24
  have hu39 := Try.underlying54
  have HA := Aside0.mk h
  have HR := Aside0.mk hr0
  have HC := Aside0.mk hc0
  clear h hr0 hc0
  have HP := Aside0.mk hp
  clear hp
  have q1 : decide ((j : Int) < 0) = false := decide_eq_false (by omega)
  obtain ⟨ad, e0, hx_0, hx_1, hx_2, hx_3⟩ := at_T67 HR.out (j : Int) (by omega) (by omega)
  cases e0
  simp only [Int.toNat_natCast] at hx_0 hx_1 hx_2 hx_3
  replace hchg := hchg ad rfl
  have hlt : (l0.take j).length = j := by rw [List.length_take]; omega
  have hld : (l0.drop (j + m)).length = l0.length - (j + m) := by rw [List.length_drop]
  have z1 : (j : Int) ≤ (c0 : Int) := Int.ofNat_le.mpr (Nat.le_trans (Nat.le_of_lt hj) HC.out)
  obtain ⟨z2, z2b, z5, z6, z7, z3, z4⟩ := cutsum j m l0.length hm hbig2
  have HX := Aside0.mk hchg
  have HK := Aside0.mk hchk2
  clear hchg hchk2 hx_0 hx_1 hx_2 hx_3
  have HN := Aside0.mk hn
  clear hn
  have hf3 := Aside0.mk (Fr.start w #[.int .i64 a0_0, .int .i64 a0_1, .slice (some ad) l0.length c0] #[.int .i64 3, .int .i64 id, .int .i64 at_] #[.int .i64 0, .int .i64 0, .slice none 0 0])
  go_enter Try.func26, Try.ntmps26
  go_wp2_with (go_at_call 33; refine (chart_Check.calls k a0_0 a0_1 (some ad) c0 l0 true _ (Kd.C_below HR.out hf3.out.2.2.2) HC.out HA.out).mono ?_; rintro e w4 ⟨rfl, hb4⟩; have hf4 := Aside0.mk (hf3.out.after hb4); obtain ⟨f0, f1, f2, f3, f4, f5, f6, f7, f8, f9, f10, f11⟩ := hf4.out.facts)
  go_wp2_with (go_at_call 45; refine (chart_node.calls at_ true _ HN.out).mono ?_; rintro e w5 ⟨rfl, hd5⟩; have hf5 := Aside0.mk (hf4.out.after (Drawn0.below hd5)); obtain ⟨g0, g1, g2, g3, g4, g5, g6, g7, g8, g9, g10, g11⟩ := hf5.out.facts)
  go_wp2_with (go_at_call 46; refine (chart_place.calls a0_0 a0_1 (some ad) c0 l0 id (j : Int) _ (Kd.C_below HR.out hf5.out.2.2.2) HC.out HP.out).mono ?_; rintro e w6 ⟨rfl, hb6⟩; have hf6 := Aside0.mk (hf5.out.after hb6); obtain ⟨p0, p1, p2, p3, p4, p5, p6, p7, p8, p9, p10, p11⟩ := hf6.out.facts)
  go_wp2_with (go_at_call 47; refine (HX.out _ hf6.out.2.2.2).mono ?_; rintro e w7 ⟨⟨v, rfl, hR⟩, hb7⟩; have hf7 := Aside0.mk (hf6.out.after hb7); obtain ⟨s0, s1, s2, s3, s4, s5, s6, s7, s8, s9, s10, s11⟩ := hf7.out.facts; obtain ⟨Af, cf, rfl, hcf⟩ := OwnRow.slice_ hR.2)
  have hR8 := Aside0.mk (R_shd_set (R_shd_set (R_shd_set hR hf7.out.2.2.1 (by decide) 0 (.int .i64 (wrap64 (a0_0 + 1)))) (hf7.out.set 0 (.int .i64 (wrap64 (a0_0 + 1))) rfl).2.2.1 (by decide) 1 (.int .i64 (wrap64 (a0_1 + (fresh.length : Int))))) ((hf7.out.set 0 (.int .i64 (wrap64 (a0_0 + 1))) rfl).set 1 (.int .i64 (wrap64 (a0_1 + (fresh.length : Int)))) rfl).2.2.1 (by decide) 2 (.slice none 0 0))
  have hf8 := Aside0.mk (((hf7.out.set 0 (.int .i64 (wrap64 (a0_0 + 1))) rfl).set 1 (.int .i64 (wrap64 (a0_1 + (fresh.length : Int)))) rfl).set 2 (.slice none 0 0) rfl)
  clear hR
  have hz8 : Aside0 (w6.heap.size ≤ (((w7.setCell ⟨w.heap.size + 1 + 1, 0, none⟩ (.int .i64 (wrap64 (a0_0 + 1)))).setCell ⟨w.heap.size + 1 + 1, 1, none⟩ (.int .i64 (wrap64 (a0_1 + (fresh.length : Int))))).setCell ⟨w.heap.size + 1 + 1, 2, none⟩ (.slice none 0 0)).heap.size) := ⟨by have := hb7.size; simpa using this⟩
  generalize (((w7.setCell ⟨w.heap.size + 1 + 1, 0, none⟩ (.int .i64 (wrap64 (a0_0 + 1)))).setCell ⟨w.heap.size + 1 + 1, 1, none⟩ (.int .i64 (wrap64 (a0_1 + (fresh.length : Int))))).setCell ⟨w.heap.size + 1 + 1, 2, none⟩ (.slice none 0 0)) = w8 at hR8 hf8 hz8 ⊢
  obtain ⟨t0, t1, t2, t3, t4, t5, t6, t7, t8, t9, t10, t11⟩ := hf8.out.facts
  have hb8 := Aside0.mk hf8.out.2.2.2
  have hf8d := Aside0.mk hf8.out.drew
  have hz8d : Aside0 (w6.heap.size ≤ w8.drew.heap.size) := ⟨hz8.out⟩
  have hR8d := Aside0.mk (Kd.R_drew hR8.out)
  refine start_ (n := 17) (S := fun w' => w'.cell? ⟨w.heap.size, 2, none⟩ = some (.slice (some ad) l0.length c0)) (ds := []) (bAg 17 0) (by kernel_rfl) rfl rfl t2 (fun hHeld => ?_); refine with_tabW ap10.tab ap10.bits (fun HT_ HW_ => ?_)
  generalize w8.drew = wd at hf8d hR8d hz8d hHeld ⊢
  refine pure_ (i := 0) (N := some 64) (v := ?_) (a' := ?_) (bAg 17 1) rfl rfl (any_of HT_.out (by kernel_rfl)) (fun _ _ _ h => h) (Or.inl ⟨by rfl, ?_⟩) ?_ ?_
  rotate_left
  · intro w'
    go_simp
    with_reducible rfl
  rotate_left
  · simp only [Act.put, sg1, sg2, sg3, i64_w, i32_w]
    rfl
  refine pure_ (i := 2) (N := some 66) (v := ?_) (a' := ?_) (bAg 17 5) rfl rfl (any_of HT_.out (by kernel_rfl)) (fun _ _ _ h => h) (Or.inl ⟨by rfl, ?_⟩) ?_ ?_
  rotate_left
  · intro w'
    go_simp
    with_reducible rfl
  rotate_left
  · simp only [Act.put, sg1, sg2, sg3, i64_w, i32_w]
    rfl
  refine pure_ (i := 3) (N := some 67) (v := ?_) (a' := ?_) (bAg 17 13) rfl rfl (any_of HT_.out (by kernel_rfl)) (fun _ _ _ h => h) (Or.inl ⟨by rfl, ?_⟩) ?_ ?_
  rotate_left
  · intro w'
    go_simp
    with_reducible rfl
  rotate_left
  · simp only [Act.put, sg1, sg2, sg3, i64_w, i32_w]
    rfl
  refine pure_ (i := 5) (N := some 69) (v := ?_) (a' := ?_) (bAg 17 45) rfl rfl (any_of HT_.out (by kernel_rfl)) (fun _ _ _ h => h) (Or.inl ⟨by rfl, ?_⟩) ?_ ?_
  rotate_left
  · intro w'
    go_simp
    with_reducible rfl
  rotate_left
  · simp only [Act.put, sg1, sg2, sg3, i64_w, i32_w]
    rfl
  refine pure_ (i := 7) (N := some 71) (v := ?_) (a' := ?_) (bAg 17 173) rfl rfl (any_of HT_.out (by kernel_rfl)) (fun _ _ _ h => h) (Or.inl ⟨by rfl, ?_⟩) ?_ ?_
  rotate_left
  · intro w'
    go_simp
    with_reducible rfl
  rotate_left
  · simp only [Act.put, sg1, sg2, sg3, i64_w, i32_w]
    rfl
  refine pure_ (i := 9) (N := some 73) (v := ?_) (a' := ?_) (bAg 17 685) rfl rfl (any_of HT_.out (by kernel_rfl)) (fun _ _ _ h => h) (Or.inl ⟨by rfl, ?_⟩) ?_ ?_
  rotate_left
  · intro w'
    go_simp
    with_reducible rfl
  rotate_left
  · simp only [Act.put, sg1, sg2, sg3, i64_w, i32_w]
    rfl
  refine pure_ (i := 10) (N := some 74) (v := ?_) (a' := ?_) (bAg 17 1709) rfl rfl (any_of HT_.out (by kernel_rfl)) (fun _ _ _ h => h) (Or.inl ⟨by rfl, ?_⟩) ?_ ?_
  rotate_left
  · intro w'
    go_simp
    with_reducible rfl
  rotate_left
  · simp only [Act.put, sg1, sg2, sg3, i64_w, i32_w]
    rfl
  refine pure_ (i := 11) (N := some 75) (v := ?_) (a' := ?_) (bAg 17 3757) rfl rfl (any_of HT_.out (by kernel_rfl)) (fun _ _ _ h => h) (Or.inl ⟨by rfl, ?_⟩) ?_ ?_
  rotate_left
  · intro w'
    go_simp
    with_reducible rfl
  rotate_left
  · simp only [Act.put, sg1, sg2, sg3, i64_w, i32_w]
    rfl
  refine pure_ (i := 12) (N := some 76) (v := ?_) (a' := ?_) (bAg 17 7853) rfl rfl (any_of HT_.out (by kernel_rfl)) (fun _ _ _ h => h) (Or.inl ⟨by rfl, ?_⟩) ?_ ?_
  rotate_left
  · intro w'
    go_simp
    with_reducible rfl
  rotate_left
  · simp only [Act.put, sg1, sg2, sg3, i64_w, i32_w]
    rfl
  refine take_ (i := 1) (N := some 65) (v := ?_) (a' := ?_) (bAg 17 7855) rfl rfl (take_ofW HT_.out HW_.out (by kernel_rfl)) (fun _ _ _ h => h) (Or.inl ⟨by rfl, ?_⟩) hHeld ?_ ?_
  rotate_left
  · rintro w' s0
    go_simp
    with_reducible rfl
  rotate_left
  · simp only [Act.put, sg1, sg2, sg3, i64_w, i32_w]
    rfl
  refine take_ (i := 8) (N := some 72) (v := ?_) (a' := ?_) (bAg 17 8111) rfl rfl (take_ofW HT_.out HW_.out (by kernel_rfl)) (fun _ _ _ h => h) (Or.inl ⟨by rfl, ?_⟩) hHeld ?_ ?_
  rotate_left
  · rintro w' s0
    go_simp
    with_reducible rfl
  rotate_left
  · simp only [Act.put, sg1, sg2, sg3, i64_w, i32_w]
    rfl
  refine pure_ (i := 4) (N := some 68) (v := ?_) (a' := ?_) (bAg 17 8127) rfl rfl (any_of HT_.out (by kernel_rfl)) (fun _ _ _ h => h) (Or.inl ⟨by rfl, ?_⟩) ?_ ?_
  rotate_left
  · intro w'
    go_simp
    with_reducible rfl
  rotate_left
  · simp only [Act.put, sg1, sg2, sg3, i64_w, i32_w]
    rfl
  refine pure_ (i := 13) (N := some 77) (v := ?_) (a' := ?_) (bAg 17 16319) rfl rfl (any_of HT_.out (by kernel_rfl)) (fun _ _ _ h => h) (Or.inl ⟨by rfl, ?_⟩) ?_ ?_
  rotate_left
  · intro w'
    go_simp
    with_reducible rfl
  rotate_left
  · simp only [Act.put, sg1, sg2, sg3, i64_w, i32_w]
    rfl
  refine one_ (i := 6) (N := some 70) (bAg 17 16383) rfl rfl (one_of HT_.out (by kernel_rfl)) (by decide) (fun K hK => ?_)
  refine step_app1 rfl (.tmp 68) (.tmp 69) rfl ad j (l0.take j) fresh Af cf rfl hlt (Kd.C_take (Kd.C_below HR.out hf8d.out.2.2.2) (by omega)) rfl (R_shd_reads hR8d.out) hf1 (by omega) ?_
  intro v9 w9 ho9 hb9
  have hf9 := Aside0.mk (hf8d.out.after hb9)
  have hR9 := Aside0.mk (R_shd_below hR8d.out hb9)
  have ho9a := Aside0.mk ho9
  refine hK.out _ _ ((blk_cell hf9.out.1 2).trans rfl) (fun hHeld => ?_)
  clear hK K
  refine norm_ (a' := ?_) ?_ ?_
  rotate_left
  · show Act.put _ (some 70) _ = _
    simp only [Act.put, sg1, sg2, sg3, i64_w, i32_w]
    rfl
  refine one_ (i := 14) (N := some 78) (bAg 17 32767) rfl rfl (one_of HT_.out (by kernel_rfl)) (by decide) (fun K hK => ?_)
  generalize hA77 : (if c0 = j + m then some ad else some (ad.add ((j + m) * 4))) = A77
  refine step_app2 (w0 := wd) wd.heap.size rfl (.tmp 70) (.tmp 77) rfl v9 (l0.take j ++ fresh) (l0.drop (j + m)) A77 (c0 - (j + m)) rfl ho9a.out ?_ (by rw [← hA77]; exact Kd.C_drop (Kd.C_below HR.out hf9.out.2.2.2) hm HC.out) hb9 hb9.size (by simp only [List.length_append]; omega) ?_
  · show Value.slice _ _ _ = _
    rw [hld]
  intro v10 w10 ho10 hb10 hg10
  clear hg10
  generalize e10 : l0.take j ++ fresh ++ l0.drop (j + m) = l10 at ho10 HK
  obtain ⟨A10, c10, rfl, hc10⟩ := OwnRow.slice_ ho10.2
  have hf10 := Aside0.mk (hf8d.out.after hb10)
  have hR10 := Aside0.mk (R_shd_below hR8d.out hb10)
  have ho10a := Aside0.mk ho10
  obtain ⟨u0, u1, u2, u3, u4, u5, u6, u7, u8, u9, u10, u11⟩ := hf10.out.facts
  refine hK.out _ _ ((blk_cell hf10.out.1 2).trans rfl) (fun hHeld => ?_)
  clear hK K
  refine norm_ (a' := ?_) ?_ ?_
  rotate_left
  · show Act.put _ (some 78) _ = _
    simp only [Act.put, sg1, sg2, sg3, i64_w, i32_w]
    rfl
  refine pure_ (i := 15) (N := some 79) (v := ?_) (a' := ?_) (bAg 17 65535) rfl rfl (any_of HT_.out (by kernel_rfl)) (fun _ _ _ h => h) (Or.inl ⟨by rfl, ?_⟩) ?_ ?_
  rotate_left
  · intro w'
    go_simp
    with_reducible rfl
  rotate_left
  · simp only [Act.put, sg1, sg2, sg3, i64_w, i32_w]
    rfl
  refine one_ (i := 16) (N := none) (bAg 17 131071) rfl rfl (one_of HT_.out (by kernel_rfl)) (by decide) (fun K hK => ?_)
  refine skip_ (w1 := ?_) (by rfl) rfl ?_ ?_
  rotate_left
  · go_simp
    rfl
  refine hK.out _ _ ((blk_cell (hf10.out.set 2 _ rfl).1 2).trans rfl) (fun hHeld => ?_)
  clear hK K
  refine done_ (done_of HT_.out (by kernel_rfl)) ?_
  have hf11 : Aside0 (Fr w (w10.setCell ⟨w.heap.size + 1 + 1, 2, none⟩ (.slice A10 l10.length c10)) _ _ #[.int .i64 (wrap64 (a0_0 + 1)), .int .i64 (wrap64 (a0_1 + (fresh.length : Int))), .slice A10 l10.length c10]) := ⟨hf10.out.set 2 _ rfl⟩
  have ho11 := Aside0.mk (R_shd_set ho10a.out hf10.out.2.2.1 (by decide) 2 (.slice A10 l10.length c10))
  have hR11 := Aside0.mk (R_shd_set hR10.out hf10.out.2.2.1 (by decide) 2 (.slice A10 l10.length c10))
  have hz11 : Aside0 (wd.heap.size ≤ (w10.setCell ⟨w.heap.size + 1 + 1, 2, none⟩ (.slice A10 l10.length c10)).heap.size) := ⟨by have := hb10.size; simpa using this⟩
  generalize (w10.setCell ⟨w.heap.size + 1 + 1, 2, none⟩ (.slice A10 l10.length c10)) = w11 at hf11 ho11 hR11 hz11 ⊢
  obtain ⟨v0, v1, v2, v3, v4, v5, v6, v7, v8, v9_, v10_, v11⟩ := hf11.out.facts
  go_wp2_with (go_at_call 33; refine (chart_Check.calls k (wrap64 (a0_0 + 1)) (wrap64 (a0_1 + (fresh.length : Int))) A10 c10 l10 true _ (R_shd_reads ho11.out) hc10 HK.out).mono ?_; rintro e w12 ⟨rfl, hb12⟩; have hf12 := Aside0.mk (hf11.out.after hb12); have ho12 := Aside0.mk (R_shd_below ho11.out hb12); have hR12 := Aside0.mk (R_shd_below hR11.out hb12); have hz12 := Aside0.mk (Nat.le_trans hz11.out hb12.size); obtain ⟨x0, x1, x2, x3, x4, x5, x6, x7, x8, x9, x10, x11⟩ := hf12.out.facts)
  have hm2 : ((l0.drop j).take m).length = m := by rw [List.length_take, List.length_drop]; omega
  have hf12d := Aside0.mk hf12.out.drew
  have ho12d := Aside0.mk (Kd.R_drew ho12.out)
  have hR12d := Aside0.mk (Kd.R_drew hR12.out)
  have hz12d : Aside0 (wd.heap.size ≤ w12.drew.heap.size) := ⟨hz12.out⟩
  refine start_ (n := 8) (S := fun w' => w'.cell? ⟨w.heap.size + 1 + 1, 0, none⟩ = some (.int .i64 (wrap64 (a0_0 + 1))) ∧ w'.cell? ⟨w.heap.size + 1 + 1, 1, none⟩ = some (.int .i64 (wrap64 (a0_1 + (fresh.length : Int)))) ∧ w'.cell? ⟨w.heap.size + 1 + 1, 2, none⟩ = some (.slice A10 l10.length c10)) (ds := []) (bAg 8 0) (by kernel_rfl) rfl rfl ⟨x6, x7, x8⟩ (fun hHeld => ?_); refine with_tabW ap13.tab ap13.bits (fun HT_ HW_ => ?_)
  generalize w12.drew = we at hf12d ho12d hR12d hz12d hHeld ⊢
  refine pure_ (i := 1) (N := some 85) (v := ?_) (a' := ?_) (bAg 8 2) rfl rfl (any_of HT_.out (by kernel_rfl)) (fun _ _ _ h => h) (Or.inl ⟨by rfl, ?_⟩) ?_ ?_
  rotate_left
  · intro w'
    go_simp
    with_reducible rfl
  rotate_left
  · simp only [Act.put, sg1, sg2, sg3, i64_w, i32_w]
    rfl
  refine pure_ (i := 3) (N := some 87) (v := ?_) (a' := ?_) (bAg 8 10) rfl rfl (any_of HT_.out (by kernel_rfl)) (fun _ _ _ h => h) (Or.inl ⟨by rfl, ?_⟩) ?_ ?_
  rotate_left
  · intro w'
    go_simp
    with_reducible rfl
  rotate_left
  · simp only [Act.put, sg1, sg2, sg3, i64_w, i32_w]
    rfl
  refine take_ (i := 0) (N := some 84) (v := ?_) (a' := ?_) (bAg 8 11) rfl rfl (take_ofW HT_.out HW_.out (by kernel_rfl)) (fun _ _ _ h => h) (Or.inl ⟨by rfl, ?_⟩) hHeld ?_ ?_
  rotate_left
  · rintro w' ⟨s0, s1, s2⟩
    go_simp
    with_reducible rfl
  rotate_left
  · simp only [Act.put, sg1, sg2, sg3, i64_w, i32_w]
    rfl
  refine one_ (i := 2) (N := some 86) (bAg 8 15) rfl rfl (one_of HT_.out (by kernel_rfl)) (by decide) (fun K hK => ?_)
  refine goes_ Try.func48 (by kernel_rfl) rfl #[.slice (some (ad.add (j * 4))) m (c0 - j)] (by rfl) rfl rfl (by simp only [List.map_toArray, List.map_cons, List.map_nil]; rfl) ?_
  have hcl := clone_calls (ad.add (j * 4)) (c0 - j) ((l0.drop j).take m) we (cut_C _ ad c0 l0 j m (Kd.C_below HR.out hf12d.out.2.2.2) hj hm HC.out) (by rw [hm2]; omega)
  rw [hm2] at hcl
  refine hcl.mono ?_
  rintro e w13 ⟨v13, rfl, ho13, hb13⟩
  refine ⟨_, rfl, ?_⟩
  clear hcl
  have hf13 := Aside0.mk (hf12d.out.after hb13)
  have ho13a := Aside0.mk ho13
  have hb13a := Aside0.mk hb13
  have he13 : Aside0 (Fr w (((w13.setCell ⟨w.heap.size + 1 + 1, 0, none⟩ (.int .i64 (wrap64 (a0_0 + 1)))).setCell ⟨w.heap.size + 1 + 1, 1, none⟩ (.int .i64 (wrap64 (a0_1 + (fresh.length : Int))))).setCell ⟨w.heap.size + 1 + 1, 2, none⟩ (.slice A10 l10.length c10)) _ _ #[.int .i64 (wrap64 (a0_0 + 1)), .int .i64 (wrap64 (a0_1 + (fresh.length : Int))), .slice A10 l10.length c10]) := ⟨((hf13.out.set 0 _ rfl).set 1 _ rfl).set 2 _ rfl⟩
  obtain ⟨y0, y1, y2, y3, y4, y5, y6, y7, y8, y9, y10, y11⟩ := hf13.out.facts
  refine hK.out _ _ ⟨(blk_cell hf13.out.2.2.1 0).trans rfl, (blk_cell hf13.out.2.2.1 1).trans rfl, (blk_cell hf13.out.2.2.1 2).trans rfl⟩ (fun hHeld => ?_)
  clear hK K
  refine norm_ (a' := ?_) ?_ ?_
  rotate_left
  · show Act.put _ (some 86) _ = _
    simp only [Act.put, sg1, sg2, sg3, i64_w, i32_w]
    rfl
  refine one_ (i := 4) (N := none) (bAg 8 31) rfl rfl (one_of HT_.out (by kernel_rfl)) (by decide) (fun K hK => ?_)
  refine skip_ (w1 := ?_) (by rfl) rfl ?_ ?_
  rotate_left
  · go_simp
    rfl
  refine hK.out _ _ ⟨(blk_cell he13.out.2.2.1 0).trans rfl, (blk_cell he13.out.2.2.1 1).trans rfl, (blk_cell he13.out.2.2.1 2).trans rfl⟩ (fun hHeld => ?_)
  clear hK K
  refine pure_ (i := 5) (N := some 5) (v := ?_) (a' := ?_) (bAg 8 63) rfl rfl (any_of HT_.out (by kernel_rfl)) (fun _ _ _ h => h) (Or.inl ⟨by rfl, ?_⟩) ?_ ?_
  rotate_left
  · intro w'
    go_simp
    with_reducible rfl
  rotate_left
  · simp only [Act.put, sg1, sg2, sg3, i64_w, i32_w]
    rfl
  refine pure_ (i := 6) (N := some 6) (v := ?_) (a' := ?_) (bAg 8 127) rfl rfl (any_of HT_.out (by kernel_rfl)) (fun _ _ _ h => h) (Or.inl ⟨by rfl, ?_⟩) ?_ ?_
  rotate_left
  · intro w'
    go_simp
    with_reducible rfl
  rotate_left
  · simp only [Act.put, sg1, sg2, sg3, i64_w, i32_w]
    rfl
  refine pure_ (i := 7) (N := some 7) (v := ?_) (a' := ?_) (bAg 8 255) rfl rfl (any_of HT_.out (by kernel_rfl)) (fun _ _ _ h => h) (Or.inl ⟨by rfl, ?_⟩) ?_ ?_
  rotate_left
  · intro w'
    go_simp
    with_reducible rfl
  rotate_left
  · simp only [Act.put, sg1, sg2, sg3, i64_w, i32_w]
    rfl
  refine done_ (done_of HT_.out (by kernel_rfl)) ?_
  try go_wp2
  refine bodyPost_ret (results_list (rs := [.cell 4 24, .tmp 5, .tmp 6, .tmp 7]) rfl (by simp) (.cell (w.heap.size + 1 + 1) 24 _ (0, 0) _ rfl he13.out.2.2.1 Try.underlying24 rfl (by kernel_rfl) (.tmp (.tmp (.tmp .nil))))) rfl ?_
  subst e10
  exact ApplyPost.ok w _ _ _ _ _ _ _ _ _ w6.heap.size wd.heap.size we.heap.size (R_shd_set3 hf13.out _ _ _ (R_shd_below ho12d.out hb13a.out)) (R_shd_set3 hf13.out _ _ _ ho13a.out) (R_shd_set3 hf13.out _ _ _ (R_shd_below hR12d.out hb13a.out)) (Kd.R_lt hR8d.out) (Kd.R_lt ho12d.out) hf6.out.2.2.2.size hz8d.out hz12d.out he13.out.2.2.2

set_option maxHeartbeats 8000000 in
set_option maxRecDepth 100000 in
theorem chart_Apply.ok3f (k : Nat) (a0_0 : Int) (a0_1 : Int) (A0 : Option Addr) (c0 : Nat) (l0 : List (S67)) (id at_ : Int) (w : World) (hr0 : Kd.C k67 w A0 l0.length l0) (hc0 : l0.length ≤ c0) (h : chart_Check.f k a0_0 a0_1 l0 = some true) (j : Nat) (hj : j < l0.length) (hbig : l0.length ≤ 4611686018427387904) (hp : chart_place.f a0_0 a0_1 l0 id = some (j : Int)) (hn : chart_node.f at_ = some true) (hbig2 : l0.length ≤ 1000000) (m : Nat) (fresh : List Shd) (hm : j + m ≤ l0.length) (hm1 : 1 ≤ m) (hf1 : 1 ≤ fresh.length) (hf2 : fresh.length ≤ 2) (hchg : ∀ (ad : Addr), A0 = some ad → ∀ W : World, Below w.heap.size w W → Calls Try.prog 47 #[.agg #[.int .i64 a0_0, .int .i64 a0_1, .slice (some ad) l0.length c0], .agg #[.int .i64 3, .int .i64 id, .int .i64 at_], .int .i64 j] W fun e w' => (∃ v, e = .returned (.tuple #[.slice (some (ad.add (j * 4))) m (c0 - j), v, .int .i64 0]) ∧ Kd.R k67 67 w' W.heap.size (fun _ => True) v fresh) ∧ Below W.heap.size W w') (hchk2 : chart_Check.f k (wrap64 (a0_0 + 1)) (wrap64 (a0_1 + (fresh.length : Int))) (l0.take j ++ fresh ++ l0.drop (j + m)) = some false) :
    Calls Try.prog 26 #[.agg #[.int .i64 a0_0, .int .i64 a0_1, .slice A0 l0.length c0], .agg #[.int .i64 3, .int .i64 id, .int .i64 at_]] w fun e w' => ApplyPost w 0 0 [] [] [] 2 e w' := by
  have hu24 := Try.underlying24
  have hu39 := Try.underlying54
  have HA := Aside0.mk h
  have HR := Aside0.mk hr0
  have HC := Aside0.mk hc0
  clear h hr0 hc0
  have HP := Aside0.mk hp
  clear hp
  have q1 : decide ((j : Int) < 0) = false := decide_eq_false (by omega)
  obtain ⟨ad, e0, hx_0, hx_1, hx_2, hx_3⟩ := at_T67 HR.out (j : Int) (by omega) (by omega)
  cases e0
  simp only [Int.toNat_natCast] at hx_0 hx_1 hx_2 hx_3
  replace hchg := hchg ad rfl
  have hlt : (l0.take j).length = j := by rw [List.length_take]; omega
  have hld : (l0.drop (j + m)).length = l0.length - (j + m) := by rw [List.length_drop]
  have z1 : (j : Int) ≤ (c0 : Int) := Int.ofNat_le.mpr (Nat.le_trans (Nat.le_of_lt hj) HC.out)
  obtain ⟨z2, z2b, z5, z6, z7, z3, z4⟩ := cutsum j m l0.length hm hbig2
  have HX := Aside0.mk hchg
  have HK := Aside0.mk hchk2
  clear hchg hchk2 hx_0 hx_1 hx_2 hx_3
  have HN := Aside0.mk hn
  clear hn
  have hf3 := Aside0.mk (Fr.start w #[.int .i64 a0_0, .int .i64 a0_1, .slice (some ad) l0.length c0] #[.int .i64 3, .int .i64 id, .int .i64 at_] #[.int .i64 0, .int .i64 0, .slice none 0 0])
  go_enter Try.func26, Try.ntmps26
  go_wp2_with (go_at_call 33; refine (chart_Check.calls k a0_0 a0_1 (some ad) c0 l0 true _ (Kd.C_below HR.out hf3.out.2.2.2) HC.out HA.out).mono ?_; rintro e w4 ⟨rfl, hb4⟩; have hf4 := Aside0.mk (hf3.out.after hb4); obtain ⟨f0, f1, f2, f3, f4, f5, f6, f7, f8, f9, f10, f11⟩ := hf4.out.facts)
  go_wp2_with (go_at_call 45; refine (chart_node.calls at_ true _ HN.out).mono ?_; rintro e w5 ⟨rfl, hd5⟩; have hf5 := Aside0.mk (hf4.out.after (Drawn0.below hd5)); obtain ⟨g0, g1, g2, g3, g4, g5, g6, g7, g8, g9, g10, g11⟩ := hf5.out.facts)
  go_wp2_with (go_at_call 46; refine (chart_place.calls a0_0 a0_1 (some ad) c0 l0 id (j : Int) _ (Kd.C_below HR.out hf5.out.2.2.2) HC.out HP.out).mono ?_; rintro e w6 ⟨rfl, hb6⟩; have hf6 := Aside0.mk (hf5.out.after hb6); obtain ⟨p0, p1, p2, p3, p4, p5, p6, p7, p8, p9, p10, p11⟩ := hf6.out.facts)
  go_wp2_with (go_at_call 47; refine (HX.out _ hf6.out.2.2.2).mono ?_; rintro e w7 ⟨⟨v, rfl, hR⟩, hb7⟩; have hf7 := Aside0.mk (hf6.out.after hb7); obtain ⟨s0, s1, s2, s3, s4, s5, s6, s7, s8, s9, s10, s11⟩ := hf7.out.facts; obtain ⟨Af, cf, rfl, hcf⟩ := OwnRow.slice_ hR.2)
  have hR8 := Aside0.mk (R_shd_set (R_shd_set (R_shd_set hR hf7.out.2.2.1 (by decide) 0 (.int .i64 (wrap64 (a0_0 + 1)))) (hf7.out.set 0 (.int .i64 (wrap64 (a0_0 + 1))) rfl).2.2.1 (by decide) 1 (.int .i64 (wrap64 (a0_1 + (fresh.length : Int))))) ((hf7.out.set 0 (.int .i64 (wrap64 (a0_0 + 1))) rfl).set 1 (.int .i64 (wrap64 (a0_1 + (fresh.length : Int)))) rfl).2.2.1 (by decide) 2 (.slice none 0 0))
  have hf8 := Aside0.mk (((hf7.out.set 0 (.int .i64 (wrap64 (a0_0 + 1))) rfl).set 1 (.int .i64 (wrap64 (a0_1 + (fresh.length : Int)))) rfl).set 2 (.slice none 0 0) rfl)
  clear hR
  have hz8 : Aside0 (w6.heap.size ≤ (((w7.setCell ⟨w.heap.size + 1 + 1, 0, none⟩ (.int .i64 (wrap64 (a0_0 + 1)))).setCell ⟨w.heap.size + 1 + 1, 1, none⟩ (.int .i64 (wrap64 (a0_1 + (fresh.length : Int))))).setCell ⟨w.heap.size + 1 + 1, 2, none⟩ (.slice none 0 0)).heap.size) := ⟨by have := hb7.size; simpa using this⟩
  generalize (((w7.setCell ⟨w.heap.size + 1 + 1, 0, none⟩ (.int .i64 (wrap64 (a0_0 + 1)))).setCell ⟨w.heap.size + 1 + 1, 1, none⟩ (.int .i64 (wrap64 (a0_1 + (fresh.length : Int))))).setCell ⟨w.heap.size + 1 + 1, 2, none⟩ (.slice none 0 0)) = w8 at hR8 hf8 hz8 ⊢
  obtain ⟨t0, t1, t2, t3, t4, t5, t6, t7, t8, t9, t10, t11⟩ := hf8.out.facts
  have hb8 := Aside0.mk hf8.out.2.2.2
  have hf8d := Aside0.mk hf8.out.drew
  have hz8d : Aside0 (w6.heap.size ≤ w8.drew.heap.size) := ⟨hz8.out⟩
  have hR8d := Aside0.mk (Kd.R_drew hR8.out)
  refine start_ (n := 17) (S := fun w' => w'.cell? ⟨w.heap.size, 2, none⟩ = some (.slice (some ad) l0.length c0)) (ds := []) (bAg 17 0) (by kernel_rfl) rfl rfl t2 (fun hHeld => ?_); refine with_tabW ap10.tab ap10.bits (fun HT_ HW_ => ?_)
  generalize w8.drew = wd at hf8d hR8d hz8d hHeld ⊢
  refine pure_ (i := 0) (N := some 64) (v := ?_) (a' := ?_) (bAg 17 1) rfl rfl (any_of HT_.out (by kernel_rfl)) (fun _ _ _ h => h) (Or.inl ⟨by rfl, ?_⟩) ?_ ?_
  rotate_left
  · intro w'
    go_simp
    with_reducible rfl
  rotate_left
  · simp only [Act.put, sg1, sg2, sg3, i64_w, i32_w]
    rfl
  refine pure_ (i := 2) (N := some 66) (v := ?_) (a' := ?_) (bAg 17 5) rfl rfl (any_of HT_.out (by kernel_rfl)) (fun _ _ _ h => h) (Or.inl ⟨by rfl, ?_⟩) ?_ ?_
  rotate_left
  · intro w'
    go_simp
    with_reducible rfl
  rotate_left
  · simp only [Act.put, sg1, sg2, sg3, i64_w, i32_w]
    rfl
  refine pure_ (i := 3) (N := some 67) (v := ?_) (a' := ?_) (bAg 17 13) rfl rfl (any_of HT_.out (by kernel_rfl)) (fun _ _ _ h => h) (Or.inl ⟨by rfl, ?_⟩) ?_ ?_
  rotate_left
  · intro w'
    go_simp
    with_reducible rfl
  rotate_left
  · simp only [Act.put, sg1, sg2, sg3, i64_w, i32_w]
    rfl
  refine pure_ (i := 5) (N := some 69) (v := ?_) (a' := ?_) (bAg 17 45) rfl rfl (any_of HT_.out (by kernel_rfl)) (fun _ _ _ h => h) (Or.inl ⟨by rfl, ?_⟩) ?_ ?_
  rotate_left
  · intro w'
    go_simp
    with_reducible rfl
  rotate_left
  · simp only [Act.put, sg1, sg2, sg3, i64_w, i32_w]
    rfl
  refine pure_ (i := 7) (N := some 71) (v := ?_) (a' := ?_) (bAg 17 173) rfl rfl (any_of HT_.out (by kernel_rfl)) (fun _ _ _ h => h) (Or.inl ⟨by rfl, ?_⟩) ?_ ?_
  rotate_left
  · intro w'
    go_simp
    with_reducible rfl
  rotate_left
  · simp only [Act.put, sg1, sg2, sg3, i64_w, i32_w]
    rfl
  refine pure_ (i := 9) (N := some 73) (v := ?_) (a' := ?_) (bAg 17 685) rfl rfl (any_of HT_.out (by kernel_rfl)) (fun _ _ _ h => h) (Or.inl ⟨by rfl, ?_⟩) ?_ ?_
  rotate_left
  · intro w'
    go_simp
    with_reducible rfl
  rotate_left
  · simp only [Act.put, sg1, sg2, sg3, i64_w, i32_w]
    rfl
  refine pure_ (i := 10) (N := some 74) (v := ?_) (a' := ?_) (bAg 17 1709) rfl rfl (any_of HT_.out (by kernel_rfl)) (fun _ _ _ h => h) (Or.inl ⟨by rfl, ?_⟩) ?_ ?_
  rotate_left
  · intro w'
    go_simp
    with_reducible rfl
  rotate_left
  · simp only [Act.put, sg1, sg2, sg3, i64_w, i32_w]
    rfl
  refine pure_ (i := 11) (N := some 75) (v := ?_) (a' := ?_) (bAg 17 3757) rfl rfl (any_of HT_.out (by kernel_rfl)) (fun _ _ _ h => h) (Or.inl ⟨by rfl, ?_⟩) ?_ ?_
  rotate_left
  · intro w'
    go_simp
    with_reducible rfl
  rotate_left
  · simp only [Act.put, sg1, sg2, sg3, i64_w, i32_w]
    rfl
  refine pure_ (i := 12) (N := some 76) (v := ?_) (a' := ?_) (bAg 17 7853) rfl rfl (any_of HT_.out (by kernel_rfl)) (fun _ _ _ h => h) (Or.inl ⟨by rfl, ?_⟩) ?_ ?_
  rotate_left
  · intro w'
    go_simp
    with_reducible rfl
  rotate_left
  · simp only [Act.put, sg1, sg2, sg3, i64_w, i32_w]
    rfl
  refine take_ (i := 1) (N := some 65) (v := ?_) (a' := ?_) (bAg 17 7855) rfl rfl (take_ofW HT_.out HW_.out (by kernel_rfl)) (fun _ _ _ h => h) (Or.inl ⟨by rfl, ?_⟩) hHeld ?_ ?_
  rotate_left
  · rintro w' s0
    go_simp
    with_reducible rfl
  rotate_left
  · simp only [Act.put, sg1, sg2, sg3, i64_w, i32_w]
    rfl
  refine take_ (i := 8) (N := some 72) (v := ?_) (a' := ?_) (bAg 17 8111) rfl rfl (take_ofW HT_.out HW_.out (by kernel_rfl)) (fun _ _ _ h => h) (Or.inl ⟨by rfl, ?_⟩) hHeld ?_ ?_
  rotate_left
  · rintro w' s0
    go_simp
    with_reducible rfl
  rotate_left
  · simp only [Act.put, sg1, sg2, sg3, i64_w, i32_w]
    rfl
  refine pure_ (i := 4) (N := some 68) (v := ?_) (a' := ?_) (bAg 17 8127) rfl rfl (any_of HT_.out (by kernel_rfl)) (fun _ _ _ h => h) (Or.inl ⟨by rfl, ?_⟩) ?_ ?_
  rotate_left
  · intro w'
    go_simp
    with_reducible rfl
  rotate_left
  · simp only [Act.put, sg1, sg2, sg3, i64_w, i32_w]
    rfl
  refine pure_ (i := 13) (N := some 77) (v := ?_) (a' := ?_) (bAg 17 16319) rfl rfl (any_of HT_.out (by kernel_rfl)) (fun _ _ _ h => h) (Or.inl ⟨by rfl, ?_⟩) ?_ ?_
  rotate_left
  · intro w'
    go_simp
    with_reducible rfl
  rotate_left
  · simp only [Act.put, sg1, sg2, sg3, i64_w, i32_w]
    rfl
  refine one_ (i := 6) (N := some 70) (bAg 17 16383) rfl rfl (one_of HT_.out (by kernel_rfl)) (by decide) (fun K hK => ?_)
  refine step_app1 rfl (.tmp 68) (.tmp 69) rfl ad j (l0.take j) fresh Af cf rfl hlt (Kd.C_take (Kd.C_below HR.out hf8d.out.2.2.2) (by omega)) rfl (R_shd_reads hR8d.out) hf1 (by omega) ?_
  intro v9 w9 ho9 hb9
  have hf9 := Aside0.mk (hf8d.out.after hb9)
  have hR9 := Aside0.mk (R_shd_below hR8d.out hb9)
  have ho9a := Aside0.mk ho9
  refine hK.out _ _ ((blk_cell hf9.out.1 2).trans rfl) (fun hHeld => ?_)
  clear hK K
  refine norm_ (a' := ?_) ?_ ?_
  rotate_left
  · show Act.put _ (some 70) _ = _
    simp only [Act.put, sg1, sg2, sg3, i64_w, i32_w]
    rfl
  refine one_ (i := 14) (N := some 78) (bAg 17 32767) rfl rfl (one_of HT_.out (by kernel_rfl)) (by decide) (fun K hK => ?_)
  generalize hA77 : (if c0 = j + m then some ad else some (ad.add ((j + m) * 4))) = A77
  refine step_app2 (w0 := wd) wd.heap.size rfl (.tmp 70) (.tmp 77) rfl v9 (l0.take j ++ fresh) (l0.drop (j + m)) A77 (c0 - (j + m)) rfl ho9a.out ?_ (by rw [← hA77]; exact Kd.C_drop (Kd.C_below HR.out hf9.out.2.2.2) hm HC.out) hb9 hb9.size (by simp only [List.length_append]; omega) ?_
  · show Value.slice _ _ _ = _
    rw [hld]
  intro v10 w10 ho10 hb10 hg10
  clear hg10
  generalize e10 : l0.take j ++ fresh ++ l0.drop (j + m) = l10 at ho10 HK
  obtain ⟨A10, c10, rfl, hc10⟩ := OwnRow.slice_ ho10.2
  have hf10 := Aside0.mk (hf8d.out.after hb10)
  have hR10 := Aside0.mk (R_shd_below hR8d.out hb10)
  have ho10a := Aside0.mk ho10
  obtain ⟨u0, u1, u2, u3, u4, u5, u6, u7, u8, u9, u10, u11⟩ := hf10.out.facts
  refine hK.out _ _ ((blk_cell hf10.out.1 2).trans rfl) (fun hHeld => ?_)
  clear hK K
  refine norm_ (a' := ?_) ?_ ?_
  rotate_left
  · show Act.put _ (some 78) _ = _
    simp only [Act.put, sg1, sg2, sg3, i64_w, i32_w]
    rfl
  refine pure_ (i := 15) (N := some 79) (v := ?_) (a' := ?_) (bAg 17 65535) rfl rfl (any_of HT_.out (by kernel_rfl)) (fun _ _ _ h => h) (Or.inl ⟨by rfl, ?_⟩) ?_ ?_
  rotate_left
  · intro w'
    go_simp
    with_reducible rfl
  rotate_left
  · simp only [Act.put, sg1, sg2, sg3, i64_w, i32_w]
    rfl
  refine one_ (i := 16) (N := none) (bAg 17 131071) rfl rfl (one_of HT_.out (by kernel_rfl)) (by decide) (fun K hK => ?_)
  refine skip_ (w1 := ?_) (by rfl) rfl ?_ ?_
  rotate_left
  · go_simp
    rfl
  refine hK.out _ _ ((blk_cell (hf10.out.set 2 _ rfl).1 2).trans rfl) (fun hHeld => ?_)
  clear hK K
  refine done_ (done_of HT_.out (by kernel_rfl)) ?_
  have hf11 : Aside0 (Fr w (w10.setCell ⟨w.heap.size + 1 + 1, 2, none⟩ (.slice A10 l10.length c10)) _ _ #[.int .i64 (wrap64 (a0_0 + 1)), .int .i64 (wrap64 (a0_1 + (fresh.length : Int))), .slice A10 l10.length c10]) := ⟨hf10.out.set 2 _ rfl⟩
  have ho11 := Aside0.mk (R_shd_set ho10a.out hf10.out.2.2.1 (by decide) 2 (.slice A10 l10.length c10))
  have hR11 := Aside0.mk (R_shd_set hR10.out hf10.out.2.2.1 (by decide) 2 (.slice A10 l10.length c10))
  have hz11 : Aside0 (wd.heap.size ≤ (w10.setCell ⟨w.heap.size + 1 + 1, 2, none⟩ (.slice A10 l10.length c10)).heap.size) := ⟨by have := hb10.size; simpa using this⟩
  generalize (w10.setCell ⟨w.heap.size + 1 + 1, 2, none⟩ (.slice A10 l10.length c10)) = w11 at hf11 ho11 hR11 hz11 ⊢
  obtain ⟨v0, v1, v2, v3, v4, v5, v6, v7, v8, v9_, v10_, v11⟩ := hf11.out.facts
  go_wp2_with (go_at_call 33; refine (chart_Check.calls k (wrap64 (a0_0 + 1)) (wrap64 (a0_1 + (fresh.length : Int))) A10 c10 l10 false _ (R_shd_reads ho11.out) hc10 HK.out).mono ?_; rintro e w12 ⟨rfl, hb12⟩; have hf12 := Aside0.mk (hf11.out.after hb12); have ho12 := Aside0.mk (R_shd_below ho11.out hb12); have hR12 := Aside0.mk (R_shd_below hR11.out hb12); have hz12 := Aside0.mk (Nat.le_trans hz11.out hb12.size); obtain ⟨x0, x1, x2, x3, x4, x5, x6, x7, x8, x9, x10, x11⟩ := hf12.out.facts)
  have hE : Fr w (((w12.setCell ⟨w.heap.size + 1 + 1, 0, none⟩ (.int .i64 0)).setCell ⟨w.heap.size + 1 + 1, 1, none⟩ (.int .i64 0)).setCell ⟨w.heap.size + 1 + 1, 2, none⟩ (.slice none 0 0)) _ _ #[.int .i64 0, .int .i64 0, .slice none 0 0] := ((hf12.out.set 0 _ rfl).set 1 _ rfl).set 2 _ rfl
  refine bodyPost_ret (results_list (rs := [.cell 4 24, .tmp 5, .tmp 6, .tmp 7]) rfl (by simp) (.cell (w.heap.size + 1 + 1) 24 _ (0, 0) _ rfl hE.2.2.1 Try.underlying24 rfl (by kernel_rfl) (.tmp (.tmp (.tmp .nil))))) rfl ?_
  exact ApplyPost.none_ w 2 _ hE.2.2.2


/-! the ways joined -/
theorem hchg_of (A0 : Option Addr) (l0 : List (S67)) (j : Nat) (w : World) (hr0 : Kd.C k67 w A0 l0.length l0) (hj : j < l0.length) :
    ∀ ad : Addr, A0 = some ad → ∀ W : World, Below w.heap.size w W → W.cell? (ad.add (j * 4)) = some (.int .i64 (rd_T67 l0 (j : Int)).f0) ∧ W.cell? ⟨(ad.add (j * 4)).block, (ad.add (j * 4)).off + 1, none⟩ = some (.int .i64 (rd_T67 l0 (j : Int)).f1.f0) ∧ W.cell? ⟨(ad.add (j * 4)).block, (ad.add (j * 4)).off + 2, none⟩ = some (.int .i64 (rd_T67 l0 (j : Int)).f1.f1) ∧ W.cell? ⟨(ad.add (j * 4)).block, (ad.add (j * 4)).off + 3, none⟩ = some (.int .i64 (rd_T67 l0 (j : Int)).f2) := by
  intro ad e W hb
  obtain ⟨ad', e0, hx_0, hx_1, hx_2, hx_3⟩ := at_T67 hr0 (j : Int) (by omega) (by omega)
  rw [e] at e0
  cases e0
  simp only [Int.toNat_natCast] at hx_0 hx_1 hx_2 hx_3
  exact ⟨(hb.cell (World.block_lt_of_cell? w _ hx_0)).trans hx_0, (hb.cell (World.block_lt_of_cell? w _ hx_1)).trans hx_1, (hb.cell (World.block_lt_of_cell? w _ hx_2)).trans hx_2, (hb.cell (World.block_lt_of_cell? w _ hx_3)).trans hx_3⟩
theorem place_at (a0_0 a0_1 : Int) (l0 : List (S67)) (id i : Int) (h : chart_place.f a0_0 a0_1 l0 id = some i) (hi : ¬ i < 0) : ∃ j : Nat, i = (j : Int) ∧ j < l0.length := by
  unfold chart_place.f at h
  split at h
  · have e := Option.some.inj h
    rcases ixOf_range (fun x => decide (x.f0 = id)) l0 0 with h1 | h1
    · omega
    · refine ⟨i.toNat, by omega, by omega⟩
  · simp at h
theorem may1 (at_ : Int) : mayChange 1 at_ = true := rfl
theorem may2 (at_ : Int) : mayChange 2 at_ = true := rfl
theorem may3 (at_ : Int) (h : 0 ≤ at_ ∧ at_ < 5) : mayChange 3 at_ = true := by simp [mayChange, h]
theorem may3n (at_ : Int) (h : ¬ (0 ≤ at_ ∧ at_ < 5)) : mayChange 3 at_ = false := by simp only [mayChange, Bool.and_eq_false_imp, Bool.or_eq_false_iff]; intro _; refine ⟨by decide, ?_⟩; intro h1; exact decide_eq_false (fun h2 => h ⟨of_decide_eq_true h1, h2⟩)
theorem node_t (at_ : Int) (h : 0 ≤ at_ ∧ at_ < 5) : chart_node.f at_ = some true := by unfold chart_node.f; rw [if_pos h.1, decide_eq_true h.2]
theorem node_f (at_ : Int) (h : ¬ (0 ≤ at_ ∧ at_ < 5)) : chart_node.f at_ = some false := by
  unfold chart_node.f
  by_cases h1 : at_ ≥ 0
  · rw [if_pos h1, decide_eq_false (fun h2 => h ⟨h1, h2⟩)]
  · rw [if_neg h1]
set_option maxHeartbeats 8000000 in
theorem chart_Apply.calls (k : Nat) (a0_0 : Int) (a0_1 : Int) (A0_2 : Option Addr) (c0_2 : Nat) (l0_2 : List (S67)) (a1_0 : Int) (a1_1 : Int) (a1_2 : Int) (r_1 r_2 : Int) (r_3 r_4 r_5 : List (S67)) (r_6 : Int) (w : World) (hr0_2 : Kd.C k67 w A0_2 l0_2.length l0_2) (hc0_2 : l0_2.length ≤ c0_2) (h : chart_Apply.f k a0_0 a0_1 l0_2 a1_0 a1_1 a1_2 = some (r_1, r_2, r_3, r_4, r_5, r_6)) :
    Calls Try.prog 26 #[.agg #[.int .i64 a0_0, .int .i64 a0_1, .slice A0_2 l0_2.length c0_2], .agg #[.int .i64 a1_0, .int .i64 a1_1, .int .i64 a1_2]] w fun e w' => ∃ v2_ v3_ v4_ : Value, e = .returned (.tuple #[.agg #[.int .i64 r_1, .int .i64 r_2, v2_], v3_, v4_, .int .i64 r_6]) ∧ Kd.R k67 67 w' w.heap.size (fun k_ => some k_ ≠ (v3_ : Value).ownBlock ∧ some k_ ≠ (v4_ : Value).ownBlock) v2_ r_3 ∧ Kd.R k67 67 w' w.heap.size (fun k_ => some k_ ≠ (v2_ : Value).ownBlock ∧ some k_ ≠ (v4_ : Value).ownBlock) v3_ r_4 ∧ Kd.R k67 67 w' w.heap.size (fun k_ => some k_ ≠ (v2_ : Value).ownBlock ∧ some k_ ≠ (v3_ : Value).ownBlock) v4_ r_5 ∧ Below w.heap.size w w' := by
  show Calls Try.prog 26 _ w fun e w' => ApplyPost w r_1 r_2 r_3 r_4 r_5 r_6 e w'
  unfold chart_Apply.f at h
  by_cases hbig : (l0_2.length : Int) ≤ 1000000
  case neg => rw [if_neg hbig] at h; exact absurd h (by simp)
  rw [if_pos hbig] at h
  have hb1 : l0_2.length ≤ 1000000 := by omega
  have hb2 : l0_2.length ≤ 4611686018427387904 := by omega
  obtain ⟨t1, ht1, h⟩ := Option.bind_eq_some_iff.1 h
  cases t1
  · rw [if_neg (by simp)] at h
    simp only [Option.some.injEq, Prod.mk.injEq] at h
    obtain ⟨rfl, rfl, rfl, rfl, rfl, rfl⟩ := h
    exact chart_Apply.bad k a0_0 a0_1 A0_2 c0_2 l0_2 a1_0 a1_1 a1_2 w hr0_2 hc0_2 ht1
  rw [if_pos rfl] at h
  by_cases hlt : a1_0 < 1
  · rw [if_neg (by simp [mayChange]; omega)] at h
    simp only [Option.some.injEq, Prod.mk.injEq] at h
    obtain ⟨rfl, rfl, rfl, rfl, rfl, rfl⟩ := h
    exact chart_Apply.lt k a0_0 a0_1 A0_2 c0_2 l0_2 a1_0 a1_1 a1_2 w hr0_2 hc0_2 ht1 hlt
  by_cases hgt : a1_0 > 3
  · rw [if_neg (by simp [mayChange]; omega)] at h
    simp only [Option.some.injEq, Prod.mk.injEq] at h
    obtain ⟨rfl, rfl, rfl, rfl, rfl, rfl⟩ := h
    exact chart_Apply.gt k a0_0 a0_1 A0_2 c0_2 l0_2 a1_0 a1_1 a1_2 w hr0_2 hc0_2 ht1 hgt
  have hx := hchg_of A0_2 l0_2
  by_cases h3 : a1_0 = 3
  · subst h3
    by_cases hn : 0 ≤ a1_2 ∧ a1_2 < 5
    · rw [if_pos (may3 a1_2 hn)] at h
      obtain ⟨i, hp, h⟩ := Option.bind_eq_some_iff.1 h
      by_cases hi : i < 0
      · rw [if_pos hi] at h
        simp only [Option.some.injEq, Prod.mk.injEq] at h
        obtain ⟨rfl, rfl, rfl, rfl, rfl, rfl⟩ := h
        exact chart_Apply.noplace3 k a0_0 a0_1 A0_2 c0_2 l0_2 a1_1 a1_2 w hr0_2 hc0_2 ht1 i hi hp (node_t a1_2 hn)
      · rw [if_neg hi] at h
        obtain ⟨j, rfl, hj⟩ := place_at _ _ _ _ _ hp hi
        have hc : chg a0_1 3 a1_2 l0_2 (j : Int).toNat = (1, [⟨a0_1, (rd_T67 l0_2 (j : Int)).f1, a1_2⟩], 0) := rfl
        rw [hc] at h
        simp only [Int.toNat_natCast, if_true] at h
        have hg : ∀ ad : Addr, A0_2 = some ad → ∀ W : World, Below w.heap.size w W → Calls Try.prog 47 #[.agg #[.int .i64 a0_0, .int .i64 a0_1, .slice (some ad) l0_2.length c0_2], .agg #[.int .i64 3, .int .i64 a1_1, .int .i64 a1_2], .int .i64 j] W fun e w' => (∃ v, e = .returned (.tuple #[.slice (some (ad.add (j * 4))) 1 (c0_2 - j), v, .int .i64 0]) ∧ Kd.R k67 67 w' W.heap.size (fun _ => True) v [⟨a0_1, (rd_T67 l0_2 (j : Int)).f1, a1_2⟩]) ∧ Below W.heap.size W w' := fun ad e W hb => by
          obtain ⟨x0, x1, x2, x3⟩ := hx j w hr0_2 hj ad e W hb
          exact chart_change.shift a0_0 a0_1 ad c0_2 l0_2 3 a1_1 a1_2 j _ W hj hc0_2 hb2 x0 x1 x2 x3 (by decide) (by decide)
        obtain ⟨t2, ht2, h⟩ := Option.bind_eq_some_iff.1 h
        cases t2
        · rw [if_neg (by simp)] at h
          simp only [Option.some.injEq, Prod.mk.injEq] at h
          obtain ⟨rfl, rfl, rfl, rfl, rfl, rfl⟩ := h
          exact chart_Apply.ok3f k a0_0 a0_1 A0_2 c0_2 l0_2 a1_1 a1_2 w hr0_2 hc0_2 ht1 j hj hb2 hp (node_t a1_2 hn) hb1 1 _ (by omega) (by omega) (by simp) (by simp) hg ht2
        · rw [if_pos rfl] at h
          simp only [Option.some.injEq, Prod.mk.injEq] at h
          obtain ⟨rfl, rfl, rfl, rfl, rfl, rfl⟩ := h
          exact chart_Apply.ok3t k a0_0 a0_1 A0_2 c0_2 l0_2 a1_1 a1_2 w hr0_2 hc0_2 ht1 j hj hb2 hp (node_t a1_2 hn) hb1 1 _ (by omega) (by omega) (by simp) (by simp) hg ht2
    · rw [if_neg (by rw [may3n a1_2 hn]; simp)] at h
      simp only [Option.some.injEq, Prod.mk.injEq] at h
      obtain ⟨rfl, rfl, rfl, rfl, rfl, rfl⟩ := h
      exact chart_Apply.nonode k a0_0 a0_1 A0_2 c0_2 l0_2 a1_1 a1_2 w hr0_2 hc0_2 ht1 (node_f a1_2 hn)
  by_cases h2 : a1_0 = 2
  · subst h2
    rw [if_pos (may2 a1_2)] at h
    obtain ⟨i, hp, h⟩ := Option.bind_eq_some_iff.1 h
    by_cases hi : i < 0
    · rw [if_pos hi] at h
      simp only [Option.some.injEq, Prod.mk.injEq] at h
      obtain ⟨rfl, rfl, rfl, rfl, rfl, rfl⟩ := h
      exact chart_Apply.noplace2 k a0_0 a0_1 A0_2 c0_2 l0_2 a1_1 a1_2 w hr0_2 hc0_2 ht1 i hi hp
    · rw [if_neg hi] at h
      obtain ⟨j, rfl, hj⟩ := place_at _ _ _ _ _ hp hi
      by_cases hl : j + 1 = l0_2.length
      · have hc : chg a0_1 2 a1_2 l0_2 (j : Int).toNat = (0, [], 4) := by unfold chg; rw [if_neg (by decide), if_pos rfl, if_pos (by rw [Int.toNat_natCast]; exact hl)]
        rw [hc] at h
        rw [if_neg (by decide)] at h
        simp only [Option.some.injEq, Prod.mk.injEq] at h
        obtain ⟨rfl, rfl, rfl, rfl, rfl, rfl⟩ := h
        exact chart_Apply.nomerge k a0_0 a0_1 A0_2 c0_2 l0_2 a1_1 a1_2 w hr0_2 hc0_2 ht1 j hj hb2 hp hl
      · have hl2 : j + 1 < l0_2.length := by omega
        have hc : chg a0_1 2 a1_2 l0_2 (j : Int).toNat = (2, [⟨a0_1, ⟨(rd_T67 l0_2 (j : Int)).f1.f0, (rd_T67 l0_2 ((j + 1 : Nat) : Int)).f1.f1⟩, (rd_T67 l0_2 (j : Int)).f2⟩], 0) := by unfold chg; rw [if_neg (by decide), if_pos rfl, if_neg (by rw [Int.toNat_natCast]; exact hl)]; rfl
        rw [hc] at h
        simp only [Int.toNat_natCast, if_true] at h
        have hg : ∀ ad : Addr, A0_2 = some ad → ∀ W : World, Below w.heap.size w W → Calls Try.prog 47 #[.agg #[.int .i64 a0_0, .int .i64 a0_1, .slice (some ad) l0_2.length c0_2], .agg #[.int .i64 2, .int .i64 a1_1, .int .i64 a1_2], .int .i64 j] W fun e w' => (∃ v, e = .returned (.tuple #[.slice (some (ad.add (j * 4))) 2 (c0_2 - j), v, .int .i64 0]) ∧ Kd.R k67 67 w' W.heap.size (fun _ => True) v [⟨a0_1, ⟨(rd_T67 l0_2 (j : Int)).f1.f0, (rd_T67 l0_2 ((j + 1 : Nat) : Int)).f1.f1⟩, (rd_T67 l0_2 (j : Int)).f2⟩]) ∧ Below W.heap.size W w' := fun ad e W hb => by
          obtain ⟨x0, x1, x2, x3⟩ := hx j w hr0_2 hj ad e W hb
          obtain ⟨y0, y1, y2, y3⟩ := hx (j + 1) w hr0_2 hl2 ad e W hb
          have hm := chart_change.merge a0_0 a0_1 ad c0_2 l0_2 a1_1 a1_2 j _ _ W hj hc0_2 hb2 x0 x1 x2 x3 hl2 y0 y1 y2 y3
          rw [show j + 2 - j = 2 by omega] at hm
          exact hm
        obtain ⟨t2, ht2, h⟩ := Option.bind_eq_some_iff.1 h
        cases t2
        · rw [if_neg (by simp)] at h
          simp only [Option.some.injEq, Prod.mk.injEq] at h
          obtain ⟨rfl, rfl, rfl, rfl, rfl, rfl⟩ := h
          exact chart_Apply.ok12f k a0_0 a0_1 A0_2 c0_2 l0_2 2 a1_1 a1_2 w hr0_2 hc0_2 ht1 j hj hb2 hp (by decide) (by decide) (by decide) hb1 2 _ (by omega) (by omega) (by simp) (by simp) hg ht2
        · rw [if_pos rfl] at h
          simp only [Option.some.injEq, Prod.mk.injEq] at h
          obtain ⟨rfl, rfl, rfl, rfl, rfl, rfl⟩ := h
          exact chart_Apply.ok12t k a0_0 a0_1 A0_2 c0_2 l0_2 2 a1_1 a1_2 w hr0_2 hc0_2 ht1 j hj hb2 hp (by decide) (by decide) (by decide) hb1 2 _ (by omega) (by omega) (by simp) (by simp) hg ht2
  have h1 : a1_0 = 1 := by omega
  subst h1
  rw [if_pos (may1 a1_2)] at h
  obtain ⟨i, hp, h⟩ := Option.bind_eq_some_iff.1 h
  by_cases hi : i < 0
  · rw [if_pos hi] at h
    simp only [Option.some.injEq, Prod.mk.injEq] at h
    obtain ⟨rfl, rfl, rfl, rfl, rfl, rfl⟩ := h
    exact chart_Apply.noplace1 k a0_0 a0_1 A0_2 c0_2 l0_2 a1_1 a1_2 w hr0_2 hc0_2 ht1 i hi hp
  rw [if_neg hi] at h
  obtain ⟨j, rfl, hj⟩ := place_at _ _ _ _ _ hp hi
  by_cases hl : a1_2 ≤ (rd_T67 l0_2 (j : Int)).f1.f0 ∨ a1_2 ≥ (rd_T67 l0_2 (j : Int)).f1.f1
  · have hc : chg a0_1 1 a1_2 l0_2 (j : Int).toNat = (0, [], 1) := by unfold chg; rw [if_pos rfl, if_pos (by rw [Int.toNat_natCast]; exact hl)]
    rw [hc] at h
    rw [if_neg (by decide)] at h
    simp only [Option.some.injEq, Prod.mk.injEq] at h
    obtain ⟨rfl, rfl, rfl, rfl, rfl, rfl⟩ := h
    exact chart_Apply.nosplit k a0_0 a0_1 A0_2 c0_2 l0_2 a1_1 a1_2 w hr0_2 hc0_2 ht1 j hj hb2 hp hl
  · have hc : chg a0_1 1 a1_2 l0_2 (j : Int).toNat = (1, [⟨a0_1, ⟨(rd_T67 l0_2 (j : Int)).f1.f0, a1_2⟩, (rd_T67 l0_2 (j : Int)).f2⟩, ⟨wrap64 (a0_1 + 1), ⟨a1_2, (rd_T67 l0_2 (j : Int)).f1.f1⟩, (rd_T67 l0_2 (j : Int)).f2⟩], 0) := by unfold chg; rw [if_pos rfl, if_neg (by rw [Int.toNat_natCast]; exact hl)]; rfl
    rw [hc] at h
    simp only [Int.toNat_natCast, if_true] at h
    have hg : ∀ ad : Addr, A0_2 = some ad → ∀ W : World, Below w.heap.size w W → Calls Try.prog 47 #[.agg #[.int .i64 a0_0, .int .i64 a0_1, .slice (some ad) l0_2.length c0_2], .agg #[.int .i64 1, .int .i64 a1_1, .int .i64 a1_2], .int .i64 j] W fun e w' => (∃ v, e = .returned (.tuple #[.slice (some (ad.add (j * 4))) 1 (c0_2 - j), v, .int .i64 0]) ∧ Kd.R k67 67 w' W.heap.size (fun _ => True) v [⟨a0_1, ⟨(rd_T67 l0_2 (j : Int)).f1.f0, a1_2⟩, (rd_T67 l0_2 (j : Int)).f2⟩, ⟨wrap64 (a0_1 + 1), ⟨a1_2, (rd_T67 l0_2 (j : Int)).f1.f1⟩, (rd_T67 l0_2 (j : Int)).f2⟩]) ∧ Below W.heap.size W w' := fun ad e W hb => by
      obtain ⟨x0, x1, x2, x3⟩ := hx j w hr0_2 hj ad e W hb
      exact chart_change.split a0_0 a0_1 ad c0_2 l0_2 a1_1 a1_2 j _ W hj hc0_2 hb2 x0 x1 x2 x3 (fun h4 => hl (Or.inl h4)) (fun h4 => hl (Or.inr h4))
    obtain ⟨t2, ht2, h⟩ := Option.bind_eq_some_iff.1 h
    cases t2
    · rw [if_neg (by simp)] at h
      simp only [Option.some.injEq, Prod.mk.injEq] at h
      obtain ⟨rfl, rfl, rfl, rfl, rfl, rfl⟩ := h
      exact chart_Apply.ok12f k a0_0 a0_1 A0_2 c0_2 l0_2 1 a1_1 a1_2 w hr0_2 hc0_2 ht1 j hj hb2 hp (by decide) (by decide) (by decide) hb1 1 _ (by omega) (by omega) (by simp) (by simp) hg ht2
    · rw [if_pos rfl] at h
      simp only [Option.some.injEq, Prod.mk.injEq] at h
      obtain ⟨rfl, rfl, rfl, rfl, rfl, rfl⟩ := h
      exact chart_Apply.ok12t k a0_0 a0_1 A0_2 c0_2 l0_2 1 a1_1 a1_2 w hr0_2 hc0_2 ht1 j hj hb2 hp (by decide) (by decide) (by decide) hb1 1 _ (by omega) (by omega) (by simp) (by simp) hg ht2

end Go.Proofs.Yteclhjhnbolkmaa.PR
