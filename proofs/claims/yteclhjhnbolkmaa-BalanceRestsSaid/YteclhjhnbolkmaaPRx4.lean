-- written by a program of this session
import Derived.Test.YteclhjhnbolkmaaPRx0
import Derived.Test.YteclhjhnbolkmaaPRx2
import Derived.Test.YteclhjhnbolkmaaPRx3
namespace Go.Proofs.Yteclhjhnbolkmaa.PR
open Go.RowKit Go.Proofs.Yteclhjhnbolkmaa.Op Go.Proofs.YteclhjhnbolkmaaW.PrintWords Go.Proofs.YteclhjhnbolkmaaW.PrintLast Go.Proofs.YteclhjhnbolkmaaW.PrintMore
attribute [local go_sem] max2_int min2_int max_two min_two max_three min_three max_four min_four   -- for this text's walks alone
set_option linter.unusedVariables false
set_option linter.unusedSimpArgs false

/-! ### variables that lie in memory, one block each -/
abbrev BxL := List (Nat × Array Value × TypeId)
structure Bx (w W : World) (l : BxL) : Prop where
  at_ : ∀ e ∈ l, W.heap[e.1]? = some (.cells e.2.1 e.2.2 (0, 0)) ∧ w.heap.size ≤ e.1
  nd : (l.map (fun e => e.1)).Nodup
  bel : Below w.heap.size w W
theorem Bx.start (w : World) : Bx w w [] := ⟨fun _ h => by simp at h, by simp, Below.refl _ _⟩
theorem Bx.get {w W : World} {l : BxL} (h : Bx w W l) (i : Nat) {e : Nat × Array Value × TypeId} (hi : l[i]? = some e) : W.heap[e.1]? = some (.cells e.2.1 e.2.2 (0, 0)) := (h.at_ e (List.mem_of_getElem? hi)).1
theorem Bx.lt {w W : World} {l : BxL} (h : Bx w W l) (e : Nat × Array Value × TypeId) (he : e ∈ l) : e.1 < W.heap.size := blk_lt (h.at_ e he).1
theorem Bx.below {w W W' : World} {l : BxL} (h : Bx w W l) (hb : Below W.heap.size W W') : Bx w W' l := ⟨fun e he => ⟨blk_below (h.at_ e he).1 hb, (h.at_ e he).2⟩, h.nd, h.bel.trans (hb.mono h.bel.size)⟩
theorem Bx.pushed {w W W' : World} {l : BxL} (h : Bx w W l) {g : Nat} {cs : Array Value} {t : TypeId} (hg : g = W.heap.size) (hx : W'.heap[g]? = some (.cells cs t (0, 0))) (hb : Below W.heap.size W W') : Bx w W' (l ++ [(g, cs, t)]) := by
  refine ⟨fun e he => ?_, ?_, h.bel.trans (hb.mono h.bel.size)⟩
  · rcases List.mem_append.1 he with he | he
    · exact (h.below hb).at_ e he
    · simp only [List.mem_singleton] at he
      subst he
      exact ⟨hx, by rw [hg]; exact h.bel.size⟩
  · rw [List.map_append, List.nodup_append]
    refine ⟨h.nd, by simp, fun a ha b hb2 => ?_⟩
    simp only [List.map_cons, List.map_nil, List.mem_singleton] at hb2
    obtain ⟨e, he, rfl⟩ := List.mem_map.1 ha
    have := h.lt e he
    omega
theorem Bx.push {w W : World} {l : BxL} (h : Bx w W l) (cs : Array Value) (t : TypeId) : Bx w (W.alloc (.cells cs t)) (l ++ [(W.heap.size, cs, t)]) := h.pushed rfl (blk_new W _) (below_alloc (Below.refl _ _) _)
theorem Bx.ge {w W : World} {l : BxL} (h : Bx w W l) (i : Nat) {e : Nat × Array Value × TypeId} (hi : l[i]? = some e) : w.heap.size ≤ e.1 := (h.at_ e (List.mem_of_getElem? hi)).2
theorem Bx.set {w W : World} {l : BxL} (h : Bx w W l) (i j : Nat) (v : Value) {g : Nat} {cs : Array Value} {t : TypeId} (hi : l[i]? = some (g, cs, t)) : Bx w (W.setCell ⟨g, j, none⟩ v) (l.set i (g, cs.setIfInBounds j v, t)) := by
  obtain ⟨hil, hie⟩ := List.getElem?_eq_some_iff.1 hi
  have hmap : (l.set i (g, cs.setIfInBounds j v, t)).map (fun e => e.1) = l.map (fun e => e.1) := by
    rw [List.map_set]
    refine List.ext_getElem? (fun n => ?_)
    rw [List.getElem?_set]
    by_cases e : i = n
    · subst e
      simp [hil, hie]
    · simp [e]
  refine ⟨fun e he => ?_, hmap ▸ h.nd, below_set h.bel (h.ge i (e := (g, cs, t)) hi)⟩
  obtain ⟨n, hn⟩ := List.mem_iff_getElem?.1 he
  rw [List.getElem?_set] at hn
  by_cases e1 : i = n
  · subst e1
    simp only [hil, if_true] at hn
    injection hn with hn
    subst hn
    exact ⟨blk_put (h.get i (e := (g, cs, t)) hi) j v rfl, h.ge i (e := (g, cs, t)) hi⟩
  · rw [if_neg e1] at hn
    have hne : e.1 ≠ g := by
      intro e2
      obtain ⟨hnl, hne⟩ := List.getElem?_eq_some_iff.1 hn
      have hp := List.pairwise_iff_getElem.1 h.nd
      rcases Nat.lt_or_gt_of_ne e1 with hlt | hlt
      · exact hp i n (by simpa using hil) (by simpa using hnl) hlt (by simp [hie, hne, e2])
      · exact hp n i (by simpa using hnl) (by simpa using hil) hlt (by simp [hie, hne, e2])
    exact ⟨blk_far (p := ⟨g, j, none⟩) (h.at_ e (List.mem_of_getElem? hn)).1 hne v, (h.at_ e (List.mem_of_getElem? hn)).2⟩
theorem Bx.take {w W : World} {l : BxL} (h : Bx w W l) (n : Nat) : Bx w W (l.take n) :=
  ⟨fun e he => h.at_ e (List.mem_of_mem_take he), by rw [List.map_take]; exact h.nd.sublist (List.take_sublist _ _), h.bel⟩
/-- none of these blocks -/
def Off (ns : List Nat) (k : Nat) : Prop := ∀ n ∈ ns, k ≠ n
theorem Bx.fresh {w W : World} {l : BxL} (h : Bx w W l) {ns : List Nat} (hn : ns = l.map (fun e => e.1)) : ∀ k, W.heap.size ≤ k → Off ns k := fun k hk n hm => by
  subst hn
  obtain ⟨e, he, rfl⟩ := List.mem_map.1 hm
  have := h.lt e he
  omega
section
variable {α : Type} {d : Kd α} {e base : Nat} {W W' w : World} {ns : List Nat} {v : Value} {xs : List α} {ok : Nat → Prop}
theorem R_setB (h : d.R e W base (Off ns) v xs) {g : Nat} (hg : g ∈ ns) (j : Nat) (u : Value) : d.R e (W.setCell ⟨g, j, none⟩ u) base (Off ns) v xs := Kd.R_far (p := ⟨g, j, none⟩) h (fun _ hk => hk g hg) u
theorem R_pushB (h : d.R e W base (Off ns) v xs) {g : Nat} (hg : g = W.heap.size) (hb : Below W.heap.size W W') : d.R e W' base (Off (ns ++ [g])) v xs :=
  Kd.R_below (Kd.R_mono (Kd.R_bound h) (fun k hk n hn => by
    rcases List.mem_append.1 hn with hn | hn
    · exact hk.1 n hn
    · simp only [List.mem_singleton] at hn
      have := hk.2.2.1
      omega)) hb
theorem R_newB {l : BxL} (HB : Bx w W l) (hn : ns = l.map (fun e => e.1)) (h : d.R e W' W.heap.size ok v xs) : d.R e W' w.heap.size (Off ns) v xs :=
  Kd.R_lower (Kd.R_mono (Kd.R_bound h) (fun k hk => HB.fresh hn k hk.2.1)) HB.bel.size
theorem R_offB (h : d.R e W base (Off ns) v xs) (ns' : List Nat) (hs : ∀ n ∈ ns', n ∈ ns) : d.R e W base (Off ns') v xs := Kd.R_mono h (fun _ hk n hn => hk n (hs n hn))
theorem Bx.grown {l : BxL} (HB : Bx w W l) (hn : ns = l.map (fun e => e.1)) (hr : ∀ k, v.ownBlock = some k → Off ns k) (hg : W.grownBy W' v.ownBlock) (hb : Below w.heap.size w W') : Bx w W' l := by
  refine ⟨fun e he => ⟨blk_grown (HB.at_ e he).1 hg (fun q => ?_), (HB.at_ e he).2⟩, HB.nd, hb⟩
  exact hr e.1 q.symm e.1 (by rw [hn]; exact List.mem_map.2 ⟨e, he, rfl⟩) rfl
theorem Bx.grown0 {l : BxL} (HB : Bx w W l) (hg : W.grownBy W' none) (hb : Below w.heap.size w W') : Bx w W' l :=
  ⟨fun e he => ⟨blk_grown (HB.at_ e he).1 hg (fun q => by cases q), (HB.at_ e he).2⟩, HB.nd, hb⟩
theorem R_apart (h : d.R e W base (Off ns) v xs) {g : Nat} (hg : W.heap.size ≤ g) (hgr : W.grownBy W' none) : d.R e W' base (Off (ns ++ [g])) v xs :=
  Kd.R_mono (Kd.R_step (Kd.R_bound h) (fun k _ hk => hgr.block k hk (fun q => by cases q))) (fun k hk n hn => by
    rcases List.mem_append.1 hn with hn | hn
    · exact hk.1 n hn
    · simp only [List.mem_singleton] at hn
      have := hk.2.2.1
      omega)
end
theorem alloc_size (w : World) (o : Obj) : (w.alloc o).heap.size = w.heap.size + 1 := by simp

def bAg (n m : Nat) : Array Bool := ((List.range n).map (fun i => m.testBit i)).toArray
theorem sg1 {α : Type _} {l : List α} {i : Nat} {a : α} : l.toArray.setIfInBounds i a = (l.set i a).toArray := List.setIfInBounds_toArray l i a
theorem sg2 {α : Type _} {a b : α} {l : List α} : (a :: l).set 0 b = b :: l := List.set_cons_zero
theorem sg3 {α : Type _} {a b : α} {l : List α} {n : Nat} : (a :: l).set (n + 1) b = a :: l.set n b := List.set_cons_succ

/-! ### balance_Nodes: function 13 (a closure: by hand) -/
def balance_Nodes.l0 : List Shd → Nat → List Int → List Int → Option (List Int)
  | [], _, _, out => some out
  | x :: L, i, sh, out => if 0 ≤ x.f2 ∧ x.f2 < (out.length : Int) ∧ i < sh.length then balance_Nodes.l0 L (i + 1) sh (out.set x.f2.toNat (wrap64 (rd out x.f2 + rd sh (i : Int)))) else none
def farN (nodes : Int) (x : Shd) : Bool := decide (nodes ≤ x.f2)
def balance_Nodes.f (k : Nat) (a0_0 a0_1 : Int) (l0_2 : List (S67)) (l1 : List (S70)) (a2 : Int) : Option (List Int × Int) :=
  if (l0_2.length : Int) ≤ 4611686018427387904 then
    (balance_Shards.f k a0_0 a0_1 l0_2 l1).bind fun t =>
      if t.2 = 0 then
        if a2 < 1 then some ([], 1) else if a2 > 5 then some ([], 1)
        else if l0_2.any (farN a2) = true then some ([], 1)
        else (balance_Nodes.l0 l0_2 0 t.1 (List.replicate a2.toNat 0)).bind fun o => some (o, 0)
      else some ([], 1)
  else none
theorem balance_Nodes.mono : ∀ a0 a1 a2 a3 a4 k, LeO (balance_Nodes.f k a0 a1 a2 a3 a4) (balance_Nodes.f (k + 1) a0 a1 a2 a3 a4) := by
  intro a0 a1 a2 a3 a4 k
  unfold balance_Nodes.f
  repeat' first
      | (with_reducible exact LeO.refl _)
      | (with_reducible exact LeO.none _)
      | (with_reducible exact balance_Shards.mono _ _ _ _ _)
      | (with_reducible refine LeO.ite ?_ ?_)
      | (with_reducible refine LeO.bind ?_ (fun _ => ?_))
set_option maxHeartbeats 8000000 in
theorem nodes_pred (n : Int) (B : Nat) (w : World) (hB : B < w.heap.size) (hcell : w.cell? ⟨B, 0, none⟩ = some (.int .i64 n)) : PredB 37 #[.pointer (some ⟨B, 0, none⟩)] (farN n) w := fun W x hb => by
  have hc : W.cell? ⟨B, 0, none⟩ = some (.int .i64 n) := (hb.cell (p := ⟨B, 0, none⟩) hB).trans hcell
  have hBW : B < W.heap.size := Nat.lt_of_lt_of_le hB hb.size
  have hne : B ≠ W.heap.size := by omega
  show Calls Try.prog 37 #[.agg #[.int .i64 x.f0, .int .i64 x.f1.f0, .int .i64 x.f1.f1, .int .i64 x.f2], .pointer (some ⟨B, 0, none⟩)] W _
  unfold farN
  have hu57 := Try.underlying67
  go_enter Try.func37, Try.ntmps37
  go_wp2
  all_goals (go_ret; exact ⟨by first | rfl | (simp; done), hb.alloc hb.size _⟩)
theorem infoI : (Try.prog.info? 3).map (fun i => (i.zero, i.size, i.bytes)) = some (some (.int .i64 0), 1, 8) := by kernel_rfl
def nd8.T : Bool × List (List Nat × List Nat) := (true, [([], []), ([], []), ([1], [1]), ([0, 2], [0, 2]), ([3], [3]), ([], []), ([], []), ([5, 6], [5, 6]), ([7], [7]), ([4, 8], [4, 8]), ([0, 2, 0, 1, 2, 3, 4, 5, 6, 7, 8, 9], [0, 2]), ([10, 9, 0, 1, 2, 3, 4, 5, 6, 7, 8, 9], [9, 10])])
def nd8.B : List Nat := [0, 0, 2, 7, 15, 0, 0, 96, 224, 511, 1023, 2047]
theorem nd8.tab : rtab .any (opsOf Try.f13 8) = nd8.T := by kernel_rfl
theorem nd8.bits : waitsOk nd8.T.2 nd8.B = true := by kernel_rfl
set_option maxHeartbeats 8000000 in
set_option maxRecDepth 100000 in
theorem balance_Nodes.calls (k : Nat) (a0_0 : Int) (a0_1 : Int) (A0_2 : Option Addr) (c0_2 : Nat) (l0_2 : List (S67)) (A1 : Option Addr) (c1 : Nat) (l1 : List (S70)) (a2 : Int) (r1 : List Int) (r2 : Int) (w : World) (hr0_2 : Kd.C k67 w A0_2 l0_2.length l0_2) (hc0_2 : l0_2.length ≤ c0_2) (hr1 : Kd.C k70 w A1 l1.length l1) (hc1 : l1.length ≤ c1) (h : balance_Nodes.f k a0_0 a0_1 l0_2 l1 a2 = some (r1, r2)) :
    Calls Try.prog 13 #[.agg #[.int .i64 a0_0, .int .i64 a0_1, .slice A0_2 l0_2.length c0_2], .slice A1 l1.length c1, .int .i64 a2] w fun e w' => ∃ v0_ : Value, e = .returned (.tuple #[v0_, .int .i64 r2]) ∧ Kd.R (Kd.int .i64) 3 w' w.heap.size (fun _ => True) v0_ r1 ∧ Below w.heap.size w w' := by
  have hu24 := Try.underlying24
  have hu57 := Try.underlying67
  have hmf : ∀ (fn : Fn) (first cap : Array Value) (w : World), (Instr.makeFunc fn first cap).run Try.prog w = .ok (.func fn first cap) w := fun _ _ _ _ => rfl
  have eg : ∀ args w, (callFunc 37 args).run Try.prog w = .ok (.enter 37 args) w := enters_of Try.func37 (by kernel_rfl) rfl
  unfold balance_Nodes.f at h
  by_cases hbig : (l0_2.length : Int) ≤ 4611686018427387904
  case neg => rw [if_neg hbig] at h; exact absurd h (by simp)
  rw [if_pos hbig] at h
  have hb2 : l0_2.length ≤ 4611686018427387904 := by omega
  obtain ⟨⟨sh, er⟩, ht, h2⟩ := Option.bind_eq_some_iff.1 h
  dsimp only at h2
  have HT := Aside0.mk ht
  have HH := Aside0.mk h2
  have HR0 := Aside0.mk hr0_2
  have HC0 := Aside0.mk hc0_2
  have HR1 := Aside0.mk hr1
  have HC1 := Aside0.mk hc1
  clear h ht h2 hr0_2 hc0_2 hr1 hc1
  have HB : Aside0 (Bx w ((w.alloc (.cells #[.int .i64 a0_0, .int .i64 a0_1, .slice A0_2 l0_2.length c0_2] 24)).alloc (.cells #[.int .i64 a2] 3)) [(w.heap.size, #[.int .i64 a0_0, .int .i64 a0_1, .slice A0_2 l0_2.length c0_2], 24), (w.heap.size + 1, #[.int .i64 a2], 3)]) := ⟨by
    have h := ((Bx.start w).push #[.int .i64 a0_0, .int .i64 a0_1, .slice A0_2 l0_2.length c0_2] 24).push #[.int .i64 a2] 3
    simp only [alloc_size] at h
    exact h⟩
  go_enter Try.func13, Try.ntmps13
  go_upto_region 2 with (with_reducible refine (balance_Shards.calls k a0_0 a0_1 A0_2 c0_2 l0_2 A1 c1 l1 sh er _ (Kd.C_below HR0.out HB.out.bel) HC0.out (Kd.C_below HR1.out HB.out.bel) HC1.out HT.out).mono ?_; rintro e w1 ⟨v0, rfl, hsh, hb⟩; have HSH := Aside0.mk (R_newB (ns := [w.heap.size, w.heap.size + 1]) HB.out rfl hsh); replace HB := Aside0.mk (HB.out.below hb); clear hb hsh)
  have hcon : Aside0 (∀ W : World, Below w.heap.size w W → W.cell? ⟨w.heap.size + 1, 0, none⟩ = some (.int .i64 a2) → w.heap.size + 1 < W.heap.size → Calls Try.prog 36 #[.slice A0_2 l0_2.length c0_2, .func (.func 37) #[] #[.pointer (some ⟨w.heap.size + 1, 0, none⟩)]] W fun e w' => e = .returned (.bool (l0_2.any (farN a2))) ∧ Below W.heap.size W w') := ⟨fun W hb hc hl =>
    ctfunc (farN a2) 37 #[.pointer (some ⟨w.heap.size + 1, 0, none⟩)] eg A0_2 c0_2 l0_2 W (nodes_pred a2 (w.heap.size + 1) W hl hc) (Kd.C_below HR0.out hb) hb2⟩
  clear HT
  have c0_0 : World.cell? _ ⟨w.heap.size, 0, none⟩ = some (.int .i64 a0_0) := blk_cell (HB.out.get 0 rfl) 0
  have c0_1 : World.cell? _ ⟨w.heap.size, 1, none⟩ = some (.int .i64 a0_1) := blk_cell (HB.out.get 0 rfl) 1
  have c0_2_ : World.cell? _ ⟨w.heap.size, 2, none⟩ = some (.slice A0_2 l0_2.length c0_2) := blk_cell (HB.out.get 0 rfl) 2
  have c1_0 : World.cell? _ ⟨w.heap.size + 1, 0, none⟩ = some (.int .i64 a2) := blk_cell (HB.out.get 1 rfl) 0
  have hl1 : w.heap.size + 1 < w1.heap.size := HB.out.lt _ (List.mem_cons_of_mem _ List.mem_cons_self)
  have H := HH.out
  clear HH
  by_cases d1 : er = 0
  case neg =>
    rw [if_neg d1] at H
    simp only [Option.some.injEq, Prod.mk.injEq] at H
    obtain ⟨rfl, rfl⟩ := H
    have q1 : (er != 0) = true := bne_iff_ne.mpr d1
    have q2 : (er == 0) = false := beq_eq_false_iff_ne.mpr d1
    have q3 : decide (er = 0) = false := decide_eq_false d1
    go_wp2_with fail
    go_ret2
    exact ⟨_, rfl, Kd.R_nil _ _ _ _ _, HB.out.bel⟩
  subst d1
  rw [if_pos rfl] at H
  by_cases d2 : a2 < 1
  · rw [if_pos d2] at H
    simp only [Option.some.injEq, Prod.mk.injEq] at H
    obtain ⟨rfl, rfl⟩ := H
    have q1 : decide (a2 < 1) = true := decide_eq_true d2
    go_wp2_with fail
    go_ret2
    exact ⟨_, rfl, Kd.R_nil _ _ _ _ _, HB.out.bel⟩
  rw [if_neg d2] at H
  have q1 : decide (a2 < 1) = false := decide_eq_false d2
  by_cases d3 : a2 > 5
  · rw [if_pos d3] at H
    simp only [Option.some.injEq, Prod.mk.injEq] at H
    obtain ⟨rfl, rfl⟩ := H
    have q2 : decide (5 < a2) = true := decide_eq_true d3
    go_wp2_with fail
    go_ret2
    exact ⟨_, rfl, Kd.R_nil _ _ _ _ _, HB.out.bel⟩
  rw [if_neg d3] at H
  have q2 : decide (5 < a2) = false := decide_eq_false d3
  by_cases d4 : l0_2.any (farN a2) = true
  · rw [if_pos d4] at H
    simp only [Option.some.injEq, Prod.mk.injEq] at H
    obtain ⟨rfl, rfl⟩ := H
    rw [d4] at hcon
    go_wp2_with (with_reducible refine (hcon.out _ HB.out.bel c1_0 hl1).mono ?_; rintro e w2 ⟨rfl, hb⟩)
    go_ret2
    exact ⟨_, rfl, Kd.R_nil _ _ _ _ _, HB.out.bel.trans (hb.mono HB.out.bel.size)⟩
  rw [if_neg d4] at H
  have d5 : l0_2.any (farN a2) = false := Bool.eq_false_iff.mpr d4
  rw [d5] at hcon
  obtain ⟨o, hl0, H2⟩ := Option.bind_eq_some_iff.1 H
  simp only [Option.some.injEq, Prod.mk.injEq] at H2
  obtain ⟨rfl, rfl⟩ := H2
  have HL := Aside0.mk hl0
  clear hl0 H d4 d5
  go_upto_region 4 with (with_reducible refine (hcon.out _ HB.out.bel c1_0 hl1).mono ?_; rintro e w2 ⟨rfl, hb⟩; replace HB := Aside0.mk (HB.out.below hb); replace HSH := Aside0.mk (Kd.R_below HSH.out hb); clear hb c0_0 c0_1 c0_2_ c1_0)
  clear q1 q2 hcon hl1
  have c1_0 : World.cell? _ ⟨w.heap.size + 1, 0, none⟩ = some (.int .i64 a2) := blk_cell (HB.out.get 1 rfl) 0
  have hfr := Aside0.mk (HB.out.fresh (ns := [w.heap.size, w.heap.size + 1]) rfl)
  go_upto_region 5 with ((with_reducible refine gate_dst (N := 36) rfl ?_); refine Kd.R_make (Kd.int .i64) (w0 := w) w.heap.size 3 rfl (N := 36) rfl 38 _ _ rfl a2 rfl rfl Try.underlying38 (.int .i64 0) 8 infoI rfl (by decide) (by omega) 0 (ok := Off [w.heap.size, w.heap.size + 1]) (okp := fun _ => False) rfl (fun _ hk => False.elim hk) (hfr.out _ (Nat.le_refl _)) (by omega) (by omega) HB.out.bel HB.out.bel.size ?_; intro v1 w3 ho hb hg hat)
  obtain ⟨b, hvb, hbl⟩ := hat
  obtain ⟨g, cap, rfl, hgb, hgl, _⟩ := Kd.R_form ho (by rw [List.length_replicate]; omega)
  have hbg : b = g := by simpa [Value.ownBlock] using hvb.symm
  subst hbg
  replace HSH := Aside0.mk (R_apart HSH.out hbl hg)
  replace HB := Aside0.mk (HB.out.grown0 hg hb)
  have HO := Aside0.mk ho
  have hno : (List.replicate a2.toNat (0 : Int)).length = a2.toNat := List.length_replicate
  clear c1_0 hfr hvb hbl hb hg ho
  clear hno
  generalize (List.replicate a2.toNat (0 : Int)).length = n at HO ⊢
  generalize List.replicate a2.toNat (0 : Int) = out0 at HO HL
  have c0_0 : World.cell? _ ⟨w.heap.size, 0, none⟩ = some (.int .i64 a0_0) := blk_cell (HB.out.get 0 rfl) 0
  have c0_1 : World.cell? _ ⟨w.heap.size, 1, none⟩ = some (.int .i64 a0_1) := blk_cell (HB.out.get 0 rfl) 1
  have c0_2_ : World.cell? _ ⟨w.heap.size, 2, none⟩ = some (.slice A0_2 l0_2.length c0_2) := blk_cell (HB.out.get 0 rfl) 2
  go_wp2_with fail
  clear c0_0 c0_1 c0_2_
  go_loopg [40] l0_2.length (fun gg v40 W => ∃ (i : Nat) (out : List Int), v40 = .int .i64 i ∧ i ≤ l0_2.length ∧ l0_2.length - i ≤ gg ∧ Aside0 (balance_Nodes.l0 (l0_2.drop i) i sh out = some o) ∧ Aside0 (Bx w W [(w.heap.size, #[.int .i64 a0_0, .int .i64 a0_1, .slice A0_2 l0_2.length c0_2], 24), (w.heap.size + 1, #[.int .i64 a2], 3)]) ∧ Aside0 (Kd.R (Kd.int .i64) 3 W w.heap.size (Off [w.heap.size, w.heap.size + 1, b]) v0 sh) ∧ Aside0 (Kd.R (Kd.int .i64) 3 W w.heap.size (Off [w.heap.size, w.heap.size + 1]) (.slice (some ⟨b, 0, none⟩) n cap) out))
  case atStart => exact ⟨0, out0, rfl, Nat.zero_le _, Nat.le_refl _, ⟨by rw [List.drop_zero]; exact HL.out⟩, HB, HSH, HO⟩
  case round =>
    clear HB HSH HO HL
    obtain ⟨i, out, rfl, hi, hgi, HL, HB, HSH, HO⟩ := hrel
    by_cases hlt : i < l0_2.length
    case neg =>
      have : i = l0_2.length := by omega
      subst this
      have hl := HL.out
      rw [List.drop_length] at hl
      simp only [balance_Nodes.l0, Option.some.injEq] at hl
      subst hl
      clear hlt HL
      go_wp2_with fail
      go_ret2
      exact ⟨_, rfl, Kd.R_mono HO.out (fun _ _ => trivial), HB.out.bel⟩
    have hltz : (i : Int) < (l0_2.length : Int) := by omega
    have hl := HL.out
    rw [ix_drop l0_2 i hlt] at hl
    obtain ⟨ad, e, hx_0, hx_1, hx_2, hx_3⟩ := at_T67 (Kd.C_below HR0.out HB.out.bel) (i : Int) (by omega) hltz
    subst e
    simp only [Int.toNat_natCast] at hx_0 hx_1 hx_2 hx_3
    generalize rd_T67 l0_2 (i : Int) = x at hx_0 hx_1 hx_2 hx_3 hl
    simp only [balance_Nodes.l0] at hl
    by_cases hc : 0 ≤ x.f2 ∧ x.f2 < (out.length : Int) ∧ i < sh.length
    case neg => rw [if_neg hc] at hl; exact absurd hl (by simp)
    rw [if_pos hc] at hl
    obtain ⟨hc1, hc2, hc3⟩ := hc
    have HN := Aside0.mk hl
    clear hl HL
    go_upto_region 8 with (fail)
    replace HB : Aside0 (Bx w (wr.alloc (.cells #[.int .i64 x.f0, .int .i64 x.f1.f0, .int .i64 x.f1.f1, .int .i64 x.f2] 67)) [(w.heap.size, #[.int .i64 a0_0, .int .i64 a0_1, .slice (some ad) l0_2.length c0_2], 24), (w.heap.size + 1, #[.int .i64 a2], 3), (wr.heap.size, #[.int .i64 x.f0, .int .i64 x.f1.f0, .int .i64 x.f1.f1, .int .i64 x.f2], 67)]) := ⟨HB.out.push _ _⟩
    replace HSH := Aside0.mk (Kd.R_alloc HSH.out (.cells #[.int .i64 x.f0, .int .i64 x.f1.f0, .int .i64 x.f1.f1, .int .i64 x.f2] 67))
    have hgx := Kd.R_form HO.out (by omega)
    replace HO := Aside0.mk (R_pushB (ns := [w.heap.size, w.heap.size + 1]) (g := wr.heap.size) HO.out rfl (below_alloc (Below.refl _ _) (.cells #[.int .i64 x.f0, .int .i64 x.f1.f0, .int .i64 x.f1.f1, .int .i64 x.f2] 67)))
    clear hx_0 hx_1 hx_2 hx_3 hgx
    generalize wr.alloc (.cells #[.int .i64 x.f0, .int .i64 x.f1.f0, .int .i64 x.f1.f1, .int .i64 x.f2] 67) = w4 at HB HSH HO ⊢
    generalize wr.heap.size = gx at HB HO ⊢
    replace HB := Aside0.mk (HB.out.below (below_drew (Below.refl _ _)))
    replace HSH := Aside0.mk (Kd.R_drew HSH.out)
    replace HO := Aside0.mk (Kd.R_drew HO.out)
    obtain ⟨A0_, n0, rfl⟩ := Kd.R_slice HSH.out
    obtain ⟨ah, e, hsh⟩ := Kd.at_int (Kd.R_reads' HSH.out).2.2 (i : Int) (by omega) (by omega)
    subst e
    rw [Int.toNat_natCast] at hsh
    have hnn : n = out.length := (Kd.R_reads' HO.out).1
    subst hnn
    have hoc := Kd.R_cell 0 HO.out x.f2 hc1 hc2
    rw [show rdOf (0 : Int) out x.f2 = rd out x.f2 from rfl] at hoc
    have p1 : x.f2 < (out.length : Int) := hc2
    have p2 : (i : Int) < (sh.length : Int) := by omega
    have hoffg : (b : Nat) ≠ gx := HO.out.1 b rfl gx (by simp)
    refine start_ (n := 12) (S := fun w' => w'.cell? ⟨gx, 3, none⟩ = some (.int .i64 x.f2) ∧ w'.cell? ⟨b, x.f2.toNat, none⟩ = some (.int .i64 (rd out x.f2)) ∧ w'.frozen? ⟨b, x.f2.toNat, none⟩ = false ∧ w'.cell? (ah.add i) = some (.int .i64 (rd sh (i : Int)))) (ds := [11]) (bAg 12 0) (by kernel_rfl) rfl rfl ⟨(blk_cell (HB.out.get 2 rfl) 3).trans rfl, hoc.1, hoc.2, hsh⟩ (fun hHeld => ?_); refine with_tabW nd8.tab nd8.bits (fun HT_ HW_ => ?_)
    generalize w4.drew = wd at HB HSH HO hsh hoc hHeld ⊢
    refine pure_ (i := 0) (N := some 45) (v := ?_) (a' := ?_) (bAg 12 1) rfl rfl (any_of HT_.out (by kernel_rfl)) (fun _ _ _ h => h) (Or.inl ⟨by rfl, ?_⟩) ?_ ?_
    rotate_left
    · intro w'
      go_simp
      with_reducible rfl
    rotate_left
    · simp only [Act.put, sg1, sg2, sg3, i64_w, i32_w]
      rfl
    refine pure_ (i := 1) (N := some 46) (v := ?_) (a' := ?_) (bAg 12 3) rfl rfl (any_of HT_.out (by kernel_rfl)) (fun _ _ _ h => h) (Or.inl ⟨by rfl, ?_⟩) ?_ ?_
    rotate_left
    · intro w'
      go_simp
      with_reducible rfl
    rotate_left
    · simp only [Act.put, sg1, sg2, sg3, i64_w, i32_w]
      rfl
    refine take_ (i := 2) (N := some 47) (v := ?_) (a' := ?_) (bAg 12 7) rfl rfl (take_ofW HT_.out HW_.out (by kernel_rfl)) (fun _ _ _ h => h) (Or.inl ⟨by rfl, ?_⟩) hHeld ?_ ?_
    rotate_left
    · rintro w' ⟨s0, s1, s2, s3⟩
      go_simp
      with_reducible rfl
    rotate_left
    · simp only [Act.put, sg1, sg2, sg3, i64_w, i32_w]
      rfl
    refine pure_ (i := 3) (N := some 48) (v := ?_) (a' := ?_) (bAg 12 15) rfl rfl (any_of HT_.out (by kernel_rfl)) (fun _ _ _ h => h) (Or.inl ⟨by rfl, ?_⟩) ?_ ?_
    rotate_left
    · intro w'
      go_simp
      with_reducible rfl
    rotate_left
    · simp only [Act.put, sg1, sg2, sg3, i64_w, i32_w]
      rfl
    refine take_ (i := 4) (N := some 49) (v := ?_) (a' := ?_) (bAg 12 31) rfl rfl (take_ofW HT_.out HW_.out (by kernel_rfl)) (fun _ _ _ h => h) (Or.inl ⟨by rfl, ?_⟩) hHeld ?_ ?_
    rotate_left
    · rintro w' ⟨s0, s1, s2, s3⟩
      go_simp
      with_reducible rfl
    rotate_left
    · simp only [Act.put, sg1, sg2, sg3, i64_w, i32_w]
      rfl
    refine pure_ (i := 5) (N := some 50) (v := ?_) (a' := ?_) (bAg 12 63) rfl rfl (any_of HT_.out (by kernel_rfl)) (fun _ _ _ h => h) (Or.inl ⟨by rfl, ?_⟩) ?_ ?_
    rotate_left
    · intro w'
      go_simp
      with_reducible rfl
    rotate_left
    · simp only [Act.put, sg1, sg2, sg3, i64_w, i32_w]
      rfl
    refine pure_ (i := 6) (N := some 51) (v := ?_) (a' := ?_) (bAg 12 127) rfl rfl (any_of HT_.out (by kernel_rfl)) (fun _ _ _ h => h) (Or.inl ⟨by rfl, ?_⟩) ?_ ?_
    rotate_left
    · intro w'
      go_simp
      with_reducible rfl
    rotate_left
    · simp only [Act.put, sg1, sg2, sg3, i64_w, i32_w]
      rfl
    refine pure_ (i := 7) (N := some 52) (v := ?_) (a' := ?_) (bAg 12 255) rfl rfl (any_of HT_.out (by kernel_rfl)) (fun _ _ _ h => h) (Or.inl ⟨by rfl, ?_⟩) ?_ ?_
    rotate_left
    · intro w'
      go_simp
      with_reducible rfl
    rotate_left
    · simp only [Act.put, sg1, sg2, sg3, i64_w, i32_w]
      rfl
    refine take_ (i := 8) (N := some 53) (v := ?_) (a' := ?_) (bAg 12 511) rfl rfl (take_ofW HT_.out HW_.out (by kernel_rfl)) (fun _ _ _ h => h) (Or.inl ⟨by rfl, ?_⟩) hHeld ?_ ?_
    rotate_left
    · rintro w' ⟨s0, s1, s2, s3⟩
      go_simp
      with_reducible rfl
    rotate_left
    · simp only [Act.put, sg1, sg2, sg3, i64_w, i32_w]
      rfl
    refine pure_ (i := 9) (N := some 54) (v := ?_) (a' := ?_) (bAg 12 1023) rfl rfl (any_of HT_.out (by kernel_rfl)) (fun _ _ _ h => h) (Or.inl ⟨by rfl, ?_⟩) ?_ ?_
    rotate_left
    · intro w'
      go_simp
      with_reducible rfl
    rotate_left
    · simp only [Act.put, sg1, sg2, sg3, i64_w, i32_w]
      rfl
    refine pure_ (i := 10) (N := some 55) (v := ?_) (a' := ?_) (bAg 12 2047) rfl rfl (any_of HT_.out (by kernel_rfl)) (fun _ _ _ h => h) (Or.inl ⟨by rfl, ?_⟩) ?_ ?_
    rotate_left
    · intro w'
      go_simp
      with_reducible rfl
    rotate_left
    · simp only [Act.put, sg1, sg2, sg3, i64_w, i32_w]
      rfl
    refine last_ (i := 11) (N := none) (bAg 12 4095) rfl rfl (one_of HT_.out (by kernel_rfl)) (by decide) (fun K hK => ?_)
    obtain ⟨s0, s1, s2, s3⟩ := hHeld
    refine skip_ (w1 := ?_) (by rfl) rfl ?_ ?_
    rotate_left
    · go_simp
      rfl
    refine hK.out _ _ ?_
    clear hK K
    refine done_ (done_of HT_.out (by kernel_rfl)) ?_
    have hp := Kd.R_putg HO.out x.f2 (wrap64 (rd out x.f2 + rd sh (i : Int)))
    have hbel : Below w.heap.size w (wd.setCell ⟨b, x.f2.toNat, none⟩ (.int .i64 (wrap64 (rd out x.f2 + rd sh (i : Int))))) := below_set HB.out.bel hgb
    replace HB : Aside0 (Bx w (wd.setCell ⟨b, x.f2.toNat, none⟩ (.int .i64 (wrap64 (rd out x.f2 + rd sh (i : Int))))) _) := ⟨HB.out.grown (v := .slice (some ⟨b, 0, none⟩) out.length cap) rfl HO.out.1 hp.2 hbel⟩
    replace HSH := Aside0.mk (R_setB HSH.out (g := b) (by simp) x.f2.toNat (.int .i64 (wrap64 (rd out x.f2 + rd sh (i : Int)))))
    replace HO := Aside0.mk hp.1
    clear hp hbel HT_ HW_
    go_wp2_with fail
    go_roundg (l0_2.length - (i + 1))
    case measure => omega
    case rel => exact ⟨i + 1, _, by go_num, by omega, Nat.le_refl _, HN, ⟨HB.out.take 2⟩, HSH, ⟨R_offB HO.out _ (by simp)⟩⟩

/-! ### balance_Check: function 20 -/
def balance_Check.f (a0_0 : Int) (a0_1 : Int) (a0_2 : Int) : Option (Bool) := if a0_1 ≥ 0 then (if a0_1 ≤ a0_0 then (if a0_0 ≤ 1099511627776 then (if a0_2 ≥ 0 then (some (decide (a0_2 ≤ 1099511627776))) else (some false)) else (some false)) else (some false)) else (some false)
set_option maxHeartbeats 8000000 in
set_option maxRecDepth 100000 in
theorem balance_Check.calls (a0_0 : Int) (a0_1 : Int) (a0_2 : Int) (r : Bool) (w : World) (h : balance_Check.f a0_0 a0_1 a0_2 = some r) :
    Calls Try.prog 20 #[.agg #[.int .i64 a0_0, .int .i64 a0_1, .int .i64 a0_2]] w fun e w' => e = .returned (.bool r) ∧ Below w.heap.size w w' := by
  have hu27 := Try.underlying27
  have HB := Aside0.mk (Below.refl w.heap.size w)
  have H : (if a0_1 ≥ 0 then (if a0_1 ≤ a0_0 then (if a0_0 ≤ 1099511627776 then (if a0_2 ≥ 0 then (some (decide (a0_2 ≤ 1099511627776))) else (some false)) else (some false)) else (some false)) else (some false)) = some r := h
  clear h
  by_cases c2 : a0_1 ≥ 0
  · rw [if_pos c2] at H
    have c2b0 : decide (0 ≤ a0_1) = true := decide_eq_true c2
    clear c2
    by_cases c3 : a0_1 ≤ a0_0
    · rw [if_pos c3] at H
      have c3b0 : decide (a0_1 ≤ a0_0) = true := decide_eq_true c3
      clear c3
      by_cases c4 : a0_0 ≤ 1099511627776
      · rw [if_pos c4] at H
        have c4b0 : decide (a0_0 ≤ 1099511627776) = true := decide_eq_true c4
        clear c4
        by_cases c5 : a0_2 ≥ 0
        · rw [if_pos c5] at H
          have c5b0 : decide (0 ≤ a0_2) = true := decide_eq_true c5
          clear c5
          obtain rfl := Option.some.inj H
          go_enter Try.func20, Try.ntmps20
          go_wp2_with (first | ((with_reducible refine gate_dst (N := 1) rfl ?_); refine box_event ?hg (N := 1) ?hd (cs := #[.int .i64 a0_0, .int .i64 a0_1, .int .i64 a0_2]) (t := 27) ?hr ?_; (case hd => rfl); (case hg => rfl); (case hr => first | (go_simp; done) | (go_simp; rfl)); intro gb124 hg w6 hbox hb; have n0_ := Aside0.mk (below_step (by repeat (first | (with_reducible first | exact HB.out | apply below_alloc | apply pw_below_drewN | apply below_drew1) | exact HB.out)) hb); have n1_ := Aside0.mk (hbox); have n2_ := Aside0.mk ((by rw [hg]; exact (below_size (by repeat (first | (with_reducible first | exact HB.out | apply below_alloc | apply pw_below_drewN | apply below_drew1) | exact HB.out))) : w.heap.size ≤ gb124)); have n3_ := Aside0.mk ((by rw [hg]; exact (below_size (by repeat (first | (with_reducible first | exact HB.out | apply below_alloc | apply pw_below_drewN | apply below_drew1) | exact HB.out))) : w.heap.size ≤ gb124)); clear HB; have HB := n0_; have BK124 := n1_; have GW124 := n2_; have GE124 := n3_; clear n0_ n1_ n2_ n3_; clear hb hbox hg; have hcz7_0 : w6.cell? ⟨gb124, 0, none⟩ = some (.int .i64 a0_0) := (blk_cell BK124.out 0).trans rfl; have hcz7_1 : w6.cell? ⟨gb124, 1, none⟩ = some (.int .i64 a0_1) := (blk_cell BK124.out 1).trans rfl; have hcz7_2 : w6.cell? ⟨gb124, 2, none⟩ = some (.int .i64 a0_2) := (blk_cell BK124.out 2).trans rfl; have hfz7_0 := blk_frozen BK124.out 0; have hfz7_1 := blk_frozen BK124.out 1; have hfz7_2 := blk_frozen BK124.out 2))
          go_ret
          exact ⟨by first | rfl | (simp [errW_none, errW_some] <;> rfl) | (simp [*, errW_none, errW_some] <;> rfl), by repeat (first | (with_reducible first | exact HB.out | apply below_alloc | apply pw_below_drewN | apply below_drew1 | refine below_set ?_ GE124.out) | exact HB.out)⟩
        · rw [if_neg c5] at H
          have c5b0 : decide (0 ≤ a0_2) = false := decide_eq_false c5
          clear c5
          obtain rfl := Option.some.inj H
          go_enter Try.func20, Try.ntmps20
          go_wp2_with (first | ((with_reducible refine gate_dst (N := 1) rfl ?_); refine box_event ?hg (N := 1) ?hd (cs := #[.int .i64 a0_0, .int .i64 a0_1, .int .i64 a0_2]) (t := 27) ?hr ?_; (case hd => rfl); (case hg => rfl); (case hr => first | (go_simp; done) | (go_simp; rfl)); intro gb124 hg w8 hbox hb; have n0_ := Aside0.mk (below_step (by repeat (first | (with_reducible first | exact HB.out | apply below_alloc | apply pw_below_drewN | apply below_drew1) | exact HB.out)) hb); have n1_ := Aside0.mk (hbox); have n2_ := Aside0.mk ((by rw [hg]; exact (below_size (by repeat (first | (with_reducible first | exact HB.out | apply below_alloc | apply pw_below_drewN | apply below_drew1) | exact HB.out))) : w.heap.size ≤ gb124)); have n3_ := Aside0.mk ((by rw [hg]; exact (below_size (by repeat (first | (with_reducible first | exact HB.out | apply below_alloc | apply pw_below_drewN | apply below_drew1) | exact HB.out))) : w.heap.size ≤ gb124)); clear HB; have HB := n0_; have BK124 := n1_; have GW124 := n2_; have GE124 := n3_; clear n0_ n1_ n2_ n3_; clear hb hbox hg; have hcz9_0 : w8.cell? ⟨gb124, 0, none⟩ = some (.int .i64 a0_0) := (blk_cell BK124.out 0).trans rfl; have hcz9_1 : w8.cell? ⟨gb124, 1, none⟩ = some (.int .i64 a0_1) := (blk_cell BK124.out 1).trans rfl; have hcz9_2 : w8.cell? ⟨gb124, 2, none⟩ = some (.int .i64 a0_2) := (blk_cell BK124.out 2).trans rfl; have hfz9_0 := blk_frozen BK124.out 0; have hfz9_1 := blk_frozen BK124.out 1; have hfz9_2 := blk_frozen BK124.out 2))
          go_ret
          exact ⟨by first | rfl | (simp [errW_none, errW_some] <;> rfl) | (simp [*, errW_none, errW_some] <;> rfl), by repeat (first | (with_reducible first | exact HB.out | apply below_alloc | apply pw_below_drewN | apply below_drew1 | refine below_set ?_ GE124.out) | exact HB.out)⟩
      · rw [if_neg c4] at H
        have c4b0 : decide (a0_0 ≤ 1099511627776) = false := decide_eq_false c4
        clear c4
        obtain rfl := Option.some.inj H
        go_enter Try.func20, Try.ntmps20
        go_wp2_with (first | ((with_reducible refine gate_dst (N := 1) rfl ?_); refine box_event ?hg (N := 1) ?hd (cs := #[.int .i64 a0_0, .int .i64 a0_1, .int .i64 a0_2]) (t := 27) ?hr ?_; (case hd => rfl); (case hg => rfl); (case hr => first | (go_simp; done) | (go_simp; rfl)); intro gb124 hg w10 hbox hb; have n0_ := Aside0.mk (below_step (by repeat (first | (with_reducible first | exact HB.out | apply below_alloc | apply pw_below_drewN | apply below_drew1) | exact HB.out)) hb); have n1_ := Aside0.mk (hbox); have n2_ := Aside0.mk ((by rw [hg]; exact (below_size (by repeat (first | (with_reducible first | exact HB.out | apply below_alloc | apply pw_below_drewN | apply below_drew1) | exact HB.out))) : w.heap.size ≤ gb124)); have n3_ := Aside0.mk ((by rw [hg]; exact (below_size (by repeat (first | (with_reducible first | exact HB.out | apply below_alloc | apply pw_below_drewN | apply below_drew1) | exact HB.out))) : w.heap.size ≤ gb124)); clear HB; have HB := n0_; have BK124 := n1_; have GW124 := n2_; have GE124 := n3_; clear n0_ n1_ n2_ n3_; clear hb hbox hg; have hcz11_0 : w10.cell? ⟨gb124, 0, none⟩ = some (.int .i64 a0_0) := (blk_cell BK124.out 0).trans rfl; have hcz11_1 : w10.cell? ⟨gb124, 1, none⟩ = some (.int .i64 a0_1) := (blk_cell BK124.out 1).trans rfl; have hcz11_2 : w10.cell? ⟨gb124, 2, none⟩ = some (.int .i64 a0_2) := (blk_cell BK124.out 2).trans rfl; have hfz11_0 := blk_frozen BK124.out 0; have hfz11_1 := blk_frozen BK124.out 1; have hfz11_2 := blk_frozen BK124.out 2))
        go_ret
        exact ⟨by first | rfl | (simp [errW_none, errW_some] <;> rfl) | (simp [*, errW_none, errW_some] <;> rfl), by repeat (first | (with_reducible first | exact HB.out | apply below_alloc | apply pw_below_drewN | apply below_drew1 | refine below_set ?_ GE124.out) | exact HB.out)⟩
    · rw [if_neg c3] at H
      have c3b0 : decide (a0_1 ≤ a0_0) = false := decide_eq_false c3
      clear c3
      obtain rfl := Option.some.inj H
      go_enter Try.func20, Try.ntmps20
      go_wp2_with (first | ((with_reducible refine gate_dst (N := 1) rfl ?_); refine box_event ?hg (N := 1) ?hd (cs := #[.int .i64 a0_0, .int .i64 a0_1, .int .i64 a0_2]) (t := 27) ?hr ?_; (case hd => rfl); (case hg => rfl); (case hr => first | (go_simp; done) | (go_simp; rfl)); intro gb124 hg w12 hbox hb; have n0_ := Aside0.mk (below_step (by repeat (first | (with_reducible first | exact HB.out | apply below_alloc | apply pw_below_drewN | apply below_drew1) | exact HB.out)) hb); have n1_ := Aside0.mk (hbox); have n2_ := Aside0.mk ((by rw [hg]; exact (below_size (by repeat (first | (with_reducible first | exact HB.out | apply below_alloc | apply pw_below_drewN | apply below_drew1) | exact HB.out))) : w.heap.size ≤ gb124)); have n3_ := Aside0.mk ((by rw [hg]; exact (below_size (by repeat (first | (with_reducible first | exact HB.out | apply below_alloc | apply pw_below_drewN | apply below_drew1) | exact HB.out))) : w.heap.size ≤ gb124)); clear HB; have HB := n0_; have BK124 := n1_; have GW124 := n2_; have GE124 := n3_; clear n0_ n1_ n2_ n3_; clear hb hbox hg; have hcz13_0 : w12.cell? ⟨gb124, 0, none⟩ = some (.int .i64 a0_0) := (blk_cell BK124.out 0).trans rfl; have hcz13_1 : w12.cell? ⟨gb124, 1, none⟩ = some (.int .i64 a0_1) := (blk_cell BK124.out 1).trans rfl; have hcz13_2 : w12.cell? ⟨gb124, 2, none⟩ = some (.int .i64 a0_2) := (blk_cell BK124.out 2).trans rfl; have hfz13_0 := blk_frozen BK124.out 0; have hfz13_1 := blk_frozen BK124.out 1; have hfz13_2 := blk_frozen BK124.out 2))
      go_ret
      exact ⟨by first | rfl | (simp [errW_none, errW_some] <;> rfl) | (simp [*, errW_none, errW_some] <;> rfl), by repeat (first | (with_reducible first | exact HB.out | apply below_alloc | apply pw_below_drewN | apply below_drew1 | refine below_set ?_ GE124.out) | exact HB.out)⟩
  · rw [if_neg c2] at H
    have c2b0 : decide (0 ≤ a0_1) = false := decide_eq_false c2
    clear c2
    obtain rfl := Option.some.inj H
    go_enter Try.func20, Try.ntmps20
    go_wp2_with (first | ((with_reducible refine gate_dst (N := 1) rfl ?_); refine box_event ?hg (N := 1) ?hd (cs := #[.int .i64 a0_0, .int .i64 a0_1, .int .i64 a0_2]) (t := 27) ?hr ?_; (case hd => rfl); (case hg => rfl); (case hr => first | (go_simp; done) | (go_simp; rfl)); intro gb124 hg w14 hbox hb; have n0_ := Aside0.mk (below_step (by repeat (first | (with_reducible first | exact HB.out | apply below_alloc | apply pw_below_drewN | apply below_drew1) | exact HB.out)) hb); have n1_ := Aside0.mk (hbox); have n2_ := Aside0.mk ((by rw [hg]; exact (below_size (by repeat (first | (with_reducible first | exact HB.out | apply below_alloc | apply pw_below_drewN | apply below_drew1) | exact HB.out))) : w.heap.size ≤ gb124)); have n3_ := Aside0.mk ((by rw [hg]; exact (below_size (by repeat (first | (with_reducible first | exact HB.out | apply below_alloc | apply pw_below_drewN | apply below_drew1) | exact HB.out))) : w.heap.size ≤ gb124)); clear HB; have HB := n0_; have BK124 := n1_; have GW124 := n2_; have GE124 := n3_; clear n0_ n1_ n2_ n3_; clear hb hbox hg; have hcz15_0 : w14.cell? ⟨gb124, 0, none⟩ = some (.int .i64 a0_0) := (blk_cell BK124.out 0).trans rfl; have hcz15_1 : w14.cell? ⟨gb124, 1, none⟩ = some (.int .i64 a0_1) := (blk_cell BK124.out 1).trans rfl; have hcz15_2 : w14.cell? ⟨gb124, 2, none⟩ = some (.int .i64 a0_2) := (blk_cell BK124.out 2).trans rfl; have hfz15_0 := blk_frozen BK124.out 0; have hfz15_1 := blk_frozen BK124.out 1; have hfz15_2 := blk_frozen BK124.out 2))
    go_ret
    exact ⟨by first | rfl | (simp [errW_none, errW_some] <;> rfl) | (simp [*, errW_none, errW_some] <;> rfl), by repeat (first | (with_reducible first | exact HB.out | apply below_alloc | apply pw_below_drewN | apply below_drew1 | refine below_set ?_ GE124.out) | exact HB.out)⟩

/-! ### chart_place: function 46 (a closure: by hand) -/
def chart_place.f (a0_0 : Int) (a0_1 : Int) (l0_2 : List (S67)) (a1 : Int) : Option (Int) := if (l0_2.length : Int) ≤ 4611686018427387904 then some (ixOf (fun x => decide (x.f0 = a1)) l0_2 0) else none
set_option maxHeartbeats 8000000 in
theorem place_pred (id : Int) (B : Nat) (w : World) (hB : B < w.heap.size) (hcell : w.cell? ⟨B, 0, none⟩ = some (.int .i64 id)) : PredB 61 #[.pointer (some ⟨B, 0, none⟩)] (fun x => decide (x.f0 = id)) w := fun W x hb => by
  have hc : W.cell? ⟨B, 0, none⟩ = some (.int .i64 id) := (hb.cell (p := ⟨B, 0, none⟩) hB).trans hcell
  have hBW : B < W.heap.size := Nat.lt_of_lt_of_le hB hb.size
  have hne : B ≠ W.heap.size := by omega
  show Calls Try.prog 61 #[.agg #[.int .i64 x.f0, .int .i64 x.f1.f0, .int .i64 x.f1.f1, .int .i64 x.f2], .pointer (some ⟨B, 0, none⟩)] W _
  go_enter Try.func61, Try.ntmps61
  go_wp2
  all_goals (go_ret; exact ⟨by simp_all <;> (rw [Bool.eq_iff_iff]; simp), hb.alloc hb.size _⟩)
set_option maxHeartbeats 8000000 in
set_option maxRecDepth 100000 in
theorem chart_place.calls (a0_0 : Int) (a0_1 : Int) (A0_2 : Option Addr) (c0_2 : Nat) (l0_2 : List (S67)) (a1 : Int) (r : Int) (w : World) (hr0_2 : Kd.C k67 w A0_2 l0_2.length l0_2) (hc0_2 : l0_2.length ≤ c0_2) (h : chart_place.f a0_0 a0_1 l0_2 a1 = some r) :
    Calls Try.prog 46 #[.agg #[.int .i64 a0_0, .int .i64 a0_1, .slice A0_2 l0_2.length c0_2], .int .i64 a1] w fun e w' => e = .returned (.int .i64 r) ∧ Below w.heap.size w w' := by
  have hmf : ∀ (fn : Fn) (first cap : Array Value) (w : World), (Instr.makeFunc fn first cap).run Try.prog w = .ok (.func fn first cap) w := fun _ _ _ _ => rfl
  have eg : ∀ args w, (callFunc 61 args).run Try.prog w = .ok (.enter 61 args) w := enters_of Try.func61 (by kernel_rfl) rfl
  unfold chart_place.f at h
  by_cases hbig : (l0_2.length : Int) ≤ 4611686018427387904
  · rw [if_pos hbig] at h
    have h := Option.some.inj h
    have hbig2 : l0_2.length ≤ 4611686018427387904 := by omega
    have hB1 : Below w.heap.size w (w.alloc (.cells #[.int .i64 a0_0, .int .i64 a0_1, .slice A0_2 l0_2.length c0_2] 24)) := (Below.refl _ w).alloc (Nat.le_refl _) _
    have hB2 : Below w.heap.size w ((w.alloc (.cells #[.int .i64 a0_0, .int .i64 a0_1, .slice A0_2 l0_2.length c0_2] 24)).alloc (.cells #[.int .i64 a1] 3)) := hB1.alloc hB1.size _
    have hpp := place_pred a1 (w.heap.size + 1) ((w.alloc (.cells #[.int .i64 a0_0, .int .i64 a0_1, .slice A0_2 l0_2.length c0_2] 24)).alloc (.cells #[.int .i64 a1] 3)) (by simp) (by simp)
    have hcon := ixfunc (fun x => decide (x.f0 = a1)) 61 _ eg A0_2 c0_2 l0_2 _ hpp (Kd.C_below hr0_2 hB2) hbig2
    rw [h] at hcon
    clear hpp hr0_2 hbig hbig2 h hB1
    go_enter Try.func46, Try.ntmps46
    go_wp2_with (go_at_call 55; refine hcon.mono ?_; rintro e w' ⟨rfl, hb'⟩)
    go_ret
    exact ⟨rfl, hB2.trans (hb'.mono hB2.size)⟩
  · rw [if_neg hbig] at h
    exact absurd h (by simp)

-- NOT PRINTED: function 47 (chart_change)

-- NOT PRINTED: function 48 (api_Shard_48)

theorem R_shd1 (W : World) (base : Nat) (x : Shd) (hb : base ≤ W.heap.size) : Kd.R k67 67 (W.alloc (.cells #[.int .i64 x.f0, .int .i64 x.f1.f0, .int .i64 x.f1.f1, .int .i64 x.f2] 67)) base (fun _ => True) (.slice (some ⟨W.heap.size, 0, none⟩) 1 1) [x] :=
  ⟨fun _ _ => trivial, OwnRow.lit W base (Reps.c4 (k67_mkM _ _ _ x) (Reps.none _ _)) hb (by simp)⟩
theorem R_shd2 (W : World) (base : Nat) (x y : Shd) (hb : base ≤ W.heap.size) : Kd.R k67 67 (W.alloc (.cells #[.int .i64 x.f0, .int .i64 x.f1.f0, .int .i64 x.f1.f1, .int .i64 x.f2, .int .i64 y.f0, .int .i64 y.f1.f0, .int .i64 y.f1.f1, .int .i64 y.f2] 67)) base (fun _ => True) (.slice (some ⟨W.heap.size, 0, none⟩) 2 2) [x, y] :=
  ⟨fun _ _ => trivial, OwnRow.lit W base (Reps.c4 (k67_mkM _ _ _ x) (Reps.c4 (k67_mkM _ _ _ y) (Reps.none _ _))) hb (by simp)⟩
set_option maxHeartbeats 8000000 in
set_option maxRecDepth 100000 in
theorem chart_change.shift (a0_0 : Int) (a0_1 : Int) (ad : Addr) (c0 : Nat) (l0 : List (S67)) (kd_ id at_ : Int) (i : Nat) (x : Shd) (w : World) (hi : i < l0.length) (hc0 : l0.length ≤ c0) (hbig : l0.length ≤ 4611686018427387904)
    (hx_0 : w.cell? (ad.add (i * 4)) = some (.int .i64 x.f0)) (hx_1 : w.cell? ⟨(ad.add (i * 4)).block, (ad.add (i * 4)).off + 1, none⟩ = some (.int .i64 x.f1.f0)) (hx_2 : w.cell? ⟨(ad.add (i * 4)).block, (ad.add (i * 4)).off + 2, none⟩ = some (.int .i64 x.f1.f1)) (hx_3 : w.cell? ⟨(ad.add (i * 4)).block, (ad.add (i * 4)).off + 3, none⟩ = some (.int .i64 x.f2))
    (hk1 : kd_ ≠ 1) (hk2 : kd_ ≠ 2) :
    Calls Try.prog 47 #[.agg #[.int .i64 a0_0, .int .i64 a0_1, .slice (some ad) l0.length c0], .agg #[.int .i64 kd_, .int .i64 id, .int .i64 at_], .int .i64 i] w fun e w' => (∃ v, e = .returned (.tuple #[.slice (some (ad.add (i * 4))) 1 (c0 - i), v, .int .i64 0]) ∧ Kd.R k67 67 w' w.heap.size (fun _ => True) v [⟨a0_1, x.f1, at_⟩]) ∧ Below w.heap.size w w' := by
  have hu24 := Try.underlying24
  have hu39 := Try.underlying54
  have hu55 := Try.underlying65
  have hu57 := Try.underlying67
  have q1 : (i : Int) < (l0.length : Int) := by omega
  have q2 : (0 : Int) ≤ (i : Int) := by omega
  have q3 : decide (kd_ = 1) = false := decide_eq_false hk1
  have q3b : (kd_ == 1) = false := beq_eq_false_iff_ne.mpr hk1
  have q4 : decide (kd_ = 2) = false := decide_eq_false hk2
  have q4b : (kd_ == 2) = false := beq_eq_false_iff_ne.mpr hk2
  have al : ∀ (p : Addr) (v : Value), w.cell? p = some v → ((w.alloc (.cells #[.int .i64 a0_0, .int .i64 a0_1, .slice (some ad) l0.length c0] 24)).alloc (.cells #[.int .i64 kd_, .int .i64 id, .int .i64 at_] 54)).cell? p = some v := fun p v h => ((Below.refl w.heap.size w).alloc (Nat.le_refl _) _ |>.alloc (by simp) _).cell (World.block_lt_of_cell? w _ h) |>.trans h
  have hb3 : Below w.heap.size w (((w.alloc (.cells #[.int .i64 a0_0, .int .i64 a0_1, .slice (some ad) l0.length c0] 24)).alloc (.cells #[.int .i64 kd_, .int .i64 id, .int .i64 at_] 54)).alloc (.cells #[.int .i64 x.f0, .int .i64 x.f1.f0, .int .i64 x.f1.f1, .int .i64 x.f2] 67)) := ((Below.refl w.heap.size w).alloc (Nat.le_refl _) _ |>.alloc (by simp) _).alloc (by simp; omega) _
  have hy_0 := al _ _ hx_0
  have hy_1 := al _ _ hx_1
  have hy_2 := al _ _ hx_2
  have hy_3 := al _ _ hx_3
  clear al
  go_enter Try.func47, Try.ntmps47
  go_wp2
  go_region
  go_wp2
  go_ret3
  exact ⟨⟨_, rfl, Kd.R_drew (by have h := R_shd1 _ _ ⟨a0_1, x.f1, at_⟩ hb3.size; simpa using h)⟩, below_drew1 (hb3.alloc hb3.size _)⟩
set_option maxHeartbeats 8000000 in
set_option maxRecDepth 100000 in
theorem chart_change.nosplit (a0_0 : Int) (a0_1 : Int) (ad : Addr) (c0 : Nat) (l0 : List (S67)) (id at_ : Int) (i : Nat) (x : Shd) (w : World) (hi : i < l0.length) (hc0 : l0.length ≤ c0) (hbig : l0.length ≤ 4611686018427387904)
    (hx_0 : w.cell? (ad.add (i * 4)) = some (.int .i64 x.f0)) (hx_1 : w.cell? ⟨(ad.add (i * 4)).block, (ad.add (i * 4)).off + 1, none⟩ = some (.int .i64 x.f1.f0)) (hx_2 : w.cell? ⟨(ad.add (i * 4)).block, (ad.add (i * 4)).off + 2, none⟩ = some (.int .i64 x.f1.f1)) (hx_3 : w.cell? ⟨(ad.add (i * 4)).block, (ad.add (i * 4)).off + 3, none⟩ = some (.int .i64 x.f2))
    (hat : at_ ≤ x.f1.f0 ∨ at_ ≥ x.f1.f1) :
    Calls Try.prog 47 #[.agg #[.int .i64 a0_0, .int .i64 a0_1, .slice (some ad) l0.length c0], .agg #[.int .i64 1, .int .i64 id, .int .i64 at_], .int .i64 i] w fun e w' => e = .returned (.tuple #[.slice none 0 0, .slice none 0 0, .int .i64 1]) ∧ Below w.heap.size w w' := by
  have hu24 := Try.underlying24
  have hu39 := Try.underlying54
  have hu55 := Try.underlying65
  have hu57 := Try.underlying67
  have q1 : (i : Int) < (l0.length : Int) := by omega
  have q2 : (0 : Int) ≤ (i : Int) := by omega
  have al : ∀ (p : Addr) (v : Value), w.cell? p = some v → ((w.alloc (.cells #[.int .i64 a0_0, .int .i64 a0_1, .slice (some ad) l0.length c0] 24)).alloc (.cells #[.int .i64 1, .int .i64 id, .int .i64 at_] 54)).cell? p = some v := fun p v h => ((Below.refl w.heap.size w).alloc (Nat.le_refl _) _ |>.alloc (by simp) _).cell (World.block_lt_of_cell? w _ h) |>.trans h
  have hb3 : Below w.heap.size w (((w.alloc (.cells #[.int .i64 a0_0, .int .i64 a0_1, .slice (some ad) l0.length c0] 24)).alloc (.cells #[.int .i64 1, .int .i64 id, .int .i64 at_] 54)).alloc (.cells #[.int .i64 x.f0, .int .i64 x.f1.f0, .int .i64 x.f1.f1, .int .i64 x.f2] 67)) := ((Below.refl w.heap.size w).alloc (Nat.le_refl _) _ |>.alloc (by simp) _).alloc (by simp; omega) _
  have hy_0 := al _ _ hx_0
  have hy_1 := al _ _ hx_1
  have hy_2 := al _ _ hx_2
  have hy_3 := al _ _ hx_3
  clear al
  go_enter Try.func47, Try.ntmps47
  go_wp2
  all_goals first | (go_ret3; exact ⟨rfl, hb3⟩) | (exfalso; simp only [decide_eq_true_eq, decide_eq_false_iff_not] at *; omega)
set_option maxHeartbeats 8000000 in
set_option maxRecDepth 100000 in
theorem chart_change.split (a0_0 : Int) (a0_1 : Int) (ad : Addr) (c0 : Nat) (l0 : List (S67)) (id at_ : Int) (i : Nat) (x : Shd) (w : World) (hi : i < l0.length) (hc0 : l0.length ≤ c0) (hbig : l0.length ≤ 4611686018427387904)
    (hx_0 : w.cell? (ad.add (i * 4)) = some (.int .i64 x.f0)) (hx_1 : w.cell? ⟨(ad.add (i * 4)).block, (ad.add (i * 4)).off + 1, none⟩ = some (.int .i64 x.f1.f0)) (hx_2 : w.cell? ⟨(ad.add (i * 4)).block, (ad.add (i * 4)).off + 2, none⟩ = some (.int .i64 x.f1.f1)) (hx_3 : w.cell? ⟨(ad.add (i * 4)).block, (ad.add (i * 4)).off + 3, none⟩ = some (.int .i64 x.f2))
    (hat1 : ¬ at_ ≤ x.f1.f0) (hat2 : ¬ at_ ≥ x.f1.f1) :
    Calls Try.prog 47 #[.agg #[.int .i64 a0_0, .int .i64 a0_1, .slice (some ad) l0.length c0], .agg #[.int .i64 1, .int .i64 id, .int .i64 at_], .int .i64 i] w fun e w' => (∃ v, e = .returned (.tuple #[.slice (some (ad.add (i * 4))) 1 (c0 - i), v, .int .i64 0]) ∧ Kd.R k67 67 w' w.heap.size (fun _ => True) v [⟨a0_1, ⟨x.f1.f0, at_⟩, x.f2⟩, ⟨wrap64 (a0_1 + 1), ⟨at_, x.f1.f1⟩, x.f2⟩]) ∧ Below w.heap.size w w' := by
  have hu24 := Try.underlying24
  have hu39 := Try.underlying54
  have hu55 := Try.underlying65
  have hu57 := Try.underlying67
  have q1 : (i : Int) < (l0.length : Int) := by omega
  have q2 : (0 : Int) ≤ (i : Int) := by omega
  have q7 : decide (at_ ≤ x.f1.f0) = false := decide_eq_false hat1
  have q8 : decide (at_ ≥ x.f1.f1) = false := decide_eq_false hat2
  have q9 : decide (x.f1.f1 ≤ at_) = false := decide_eq_false hat2
  have al : ∀ (p : Addr) (v : Value), w.cell? p = some v → ((w.alloc (.cells #[.int .i64 a0_0, .int .i64 a0_1, .slice (some ad) l0.length c0] 24)).alloc (.cells #[.int .i64 1, .int .i64 id, .int .i64 at_] 54)).cell? p = some v := fun p v h => ((Below.refl w.heap.size w).alloc (Nat.le_refl _) _ |>.alloc (by simp) _).cell (World.block_lt_of_cell? w _ h) |>.trans h
  have hb3 : Below w.heap.size w (((w.alloc (.cells #[.int .i64 a0_0, .int .i64 a0_1, .slice (some ad) l0.length c0] 24)).alloc (.cells #[.int .i64 1, .int .i64 id, .int .i64 at_] 54)).alloc (.cells #[.int .i64 x.f0, .int .i64 x.f1.f0, .int .i64 x.f1.f1, .int .i64 x.f2] 67)) := ((Below.refl w.heap.size w).alloc (Nat.le_refl _) _ |>.alloc (by simp) _).alloc (by simp; omega) _
  have hy_0 := al _ _ hx_0
  have hy_1 := al _ _ hx_1
  have hy_2 := al _ _ hx_2
  have hy_3 := al _ _ hx_3
  clear al
  go_enter Try.func47, Try.ntmps47
  go_wp2
  go_region
  go_wp2
  go_ret3
  have hb4 := hb3.alloc hb3.size (.cells #[.int .i64 a0_1, .int .i64 x.f1.f0, .int .i64 at_, .int .i64 x.f2] 67)
  have hb5 := hb4.alloc hb4.size (.cells #[.int .i64 (wrap64 (a0_1 + 1)), .int .i64 at_, .int .i64 x.f1.f1, .int .i64 x.f2] 67)
  exact ⟨⟨_, rfl, Kd.R_drew (by have h := R_shd2 _ _ ⟨a0_1, ⟨x.f1.f0, at_⟩, x.f2⟩ ⟨wrap64 (a0_1 + 1), ⟨at_, x.f1.f1⟩, x.f2⟩ hb5.size; simpa using h)⟩, below_drew1 (hb5.alloc hb5.size _)⟩
set_option maxHeartbeats 8000000 in
set_option maxRecDepth 100000 in
theorem chart_change.nomerge (a0_0 : Int) (a0_1 : Int) (ad : Addr) (c0 : Nat) (l0 : List (S67)) (id at_ : Int) (i : Nat) (x : Shd) (w : World) (hi : i < l0.length) (hc0 : l0.length ≤ c0) (hbig : l0.length ≤ 4611686018427387904)
    (hx_0 : w.cell? (ad.add (i * 4)) = some (.int .i64 x.f0)) (hx_1 : w.cell? ⟨(ad.add (i * 4)).block, (ad.add (i * 4)).off + 1, none⟩ = some (.int .i64 x.f1.f0)) (hx_2 : w.cell? ⟨(ad.add (i * 4)).block, (ad.add (i * 4)).off + 2, none⟩ = some (.int .i64 x.f1.f1)) (hx_3 : w.cell? ⟨(ad.add (i * 4)).block, (ad.add (i * 4)).off + 3, none⟩ = some (.int .i64 x.f2))
    (hlast : i + 1 = l0.length) :
    Calls Try.prog 47 #[.agg #[.int .i64 a0_0, .int .i64 a0_1, .slice (some ad) l0.length c0], .agg #[.int .i64 2, .int .i64 id, .int .i64 at_], .int .i64 i] w fun e w' => e = .returned (.tuple #[.slice none 0 0, .slice none 0 0, .int .i64 4]) ∧ Below w.heap.size w w' := by
  have hu24 := Try.underlying24
  have hu39 := Try.underlying54
  have hu55 := Try.underlying65
  have hu57 := Try.underlying67
  have q1 : (i : Int) < (l0.length : Int) := by omega
  have q2 : (0 : Int) ≤ (i : Int) := by omega
  have q7 : wrap64 ((i : Int) + 1) = (l0.length : Int) := by unfold wrap64; omega
  have al : ∀ (p : Addr) (v : Value), w.cell? p = some v → ((w.alloc (.cells #[.int .i64 a0_0, .int .i64 a0_1, .slice (some ad) l0.length c0] 24)).alloc (.cells #[.int .i64 2, .int .i64 id, .int .i64 at_] 54)).cell? p = some v := fun p v h => ((Below.refl w.heap.size w).alloc (Nat.le_refl _) _ |>.alloc (by simp) _).cell (World.block_lt_of_cell? w _ h) |>.trans h
  have hb3 : Below w.heap.size w (((w.alloc (.cells #[.int .i64 a0_0, .int .i64 a0_1, .slice (some ad) l0.length c0] 24)).alloc (.cells #[.int .i64 2, .int .i64 id, .int .i64 at_] 54)).alloc (.cells #[.int .i64 x.f0, .int .i64 x.f1.f0, .int .i64 x.f1.f1, .int .i64 x.f2] 67)) := ((Below.refl w.heap.size w).alloc (Nat.le_refl _) _ |>.alloc (by simp) _).alloc (by simp; omega) _
  have hy_0 := al _ _ hx_0
  have hy_1 := al _ _ hx_1
  have hy_2 := al _ _ hx_2
  have hy_3 := al _ _ hx_3
  clear al
  go_enter Try.func47, Try.ntmps47
  go_wp2
  go_ret3
  exact ⟨rfl, hb3⟩
set_option maxHeartbeats 8000000 in
set_option maxRecDepth 100000 in
theorem chart_change.merge (a0_0 : Int) (a0_1 : Int) (ad : Addr) (c0 : Nat) (l0 : List (S67)) (id at_ : Int) (i : Nat) (x : Shd) (y : Shd) (w : World) (hi : i < l0.length) (hc0 : l0.length ≤ c0) (hbig : l0.length ≤ 4611686018427387904)
    (hx_0 : w.cell? (ad.add (i * 4)) = some (.int .i64 x.f0)) (hx_1 : w.cell? ⟨(ad.add (i * 4)).block, (ad.add (i * 4)).off + 1, none⟩ = some (.int .i64 x.f1.f0)) (hx_2 : w.cell? ⟨(ad.add (i * 4)).block, (ad.add (i * 4)).off + 2, none⟩ = some (.int .i64 x.f1.f1)) (hx_3 : w.cell? ⟨(ad.add (i * 4)).block, (ad.add (i * 4)).off + 3, none⟩ = some (.int .i64 x.f2))
    (hlast : i + 1 < l0.length) (hz_0 : w.cell? (ad.add ((i + 1) * 4)) = some (.int .i64 y.f0)) (hz_1 : w.cell? ⟨(ad.add ((i + 1) * 4)).block, (ad.add ((i + 1) * 4)).off + 1, none⟩ = some (.int .i64 y.f1.f0)) (hz_2 : w.cell? ⟨(ad.add ((i + 1) * 4)).block, (ad.add ((i + 1) * 4)).off + 2, none⟩ = some (.int .i64 y.f1.f1)) (hz_3 : w.cell? ⟨(ad.add ((i + 1) * 4)).block, (ad.add ((i + 1) * 4)).off + 3, none⟩ = some (.int .i64 y.f2)) :
    Calls Try.prog 47 #[.agg #[.int .i64 a0_0, .int .i64 a0_1, .slice (some ad) l0.length c0], .agg #[.int .i64 2, .int .i64 id, .int .i64 at_], .int .i64 i] w fun e w' => (∃ v, e = .returned (.tuple #[.slice (some (ad.add (i * 4))) (i + 2 - i) (c0 - i), v, .int .i64 0]) ∧ Kd.R k67 67 w' w.heap.size (fun _ => True) v [⟨a0_1, ⟨x.f1.f0, y.f1.f1⟩, x.f2⟩]) ∧ Below w.heap.size w w' := by
  have hu24 := Try.underlying24
  have hu39 := Try.underlying54
  have hu55 := Try.underlying65
  have hu57 := Try.underlying67
  have q1 : (i : Int) < (l0.length : Int) := by omega
  have q2 : (0 : Int) ≤ (i : Int) := by omega
  have q7 : wrap64 ((i : Int) + 1) = ((i + 1 : Nat) : Int) := by unfold wrap64; omega
  have q8 : wrap64 ((i : Int) + 2) = ((i + 2 : Nat) : Int) := by unfold wrap64; omega
  have q10 : ((i + 1 : Nat) : Int) < (l0.length : Int) := by omega
  have al : ∀ (p : Addr) (v : Value), w.cell? p = some v → ((w.alloc (.cells #[.int .i64 a0_0, .int .i64 a0_1, .slice (some ad) l0.length c0] 24)).alloc (.cells #[.int .i64 2, .int .i64 id, .int .i64 at_] 54)).cell? p = some v := fun p v h => ((Below.refl w.heap.size w).alloc (Nat.le_refl _) _ |>.alloc (by simp) _).cell (World.block_lt_of_cell? w _ h) |>.trans h
  have hb3 : Below w.heap.size w (((w.alloc (.cells #[.int .i64 a0_0, .int .i64 a0_1, .slice (some ad) l0.length c0] 24)).alloc (.cells #[.int .i64 2, .int .i64 id, .int .i64 at_] 54)).alloc (.cells #[.int .i64 x.f0, .int .i64 x.f1.f0, .int .i64 x.f1.f1, .int .i64 x.f2] 67)) := ((Below.refl w.heap.size w).alloc (Nat.le_refl _) _ |>.alloc (by simp) _).alloc (by simp; omega) _
  have hy_0 := al _ _ hx_0
  have hy_1 := al _ _ hx_1
  have hy_2 := al _ _ hx_2
  have hy_3 := al _ _ hx_3
  have hzz_0 := al _ _ hz_0
  have hzz_1 := al _ _ hz_1
  have hzz_2 := al _ _ hz_2
  have hzz_3 := al _ _ hz_3
  have hzz_4 := (hb3.cell (p := ⟨(ad.add ((i + 1) * 4)).block, (ad.add ((i + 1) * 4)).off + 1 + 1, none⟩) (World.block_lt_of_cell? w _ hz_2)).trans hz_2
  clear al
  go_enter Try.func47, Try.ntmps47
  go_wp2
  go_region
  go_wp2
  go_ret3
  exact ⟨⟨_, rfl, Kd.R_drew (by have h := R_shd1 _ _ ⟨a0_1, ⟨x.f1.f0, y.f1.f1⟩, x.f2⟩ hb3.size; simpa using h)⟩, below_drew1 (hb3.alloc hb3.size _)⟩


set_option maxHeartbeats 8000000 in
set_option maxRecDepth 100000 in
theorem clone_calls (ad : Addr) (c : Nat) (l : List (S67)) (w : World) (hr : Kd.C k67 w (some ad) l.length l) (hl : l.length * 32 ≤ 140737488355328) :
    Calls Try.prog 48 #[.slice (some ad) l.length c] w fun e w' => ∃ v, e = .returned v ∧ Kd.R k67 67 w' w.heap.size (fun _ => True) v l ∧ Below w.heap.size w w' := by
  have HB0 := Aside0.mk (((Below.refl w.heap.size w).alloc (Nat.le_refl _) (.cells #[] 67)))
  have HO0 : Aside0 (Kd.R k67 67 (w.alloc (.cells #[] 67)) w.heap.size (fun _ => True) (.slice (some ⟨w.heap.size, 0, none⟩) 0 0) []) := ⟨fun _ _ => trivial, OwnRow.lit w w.heap.size (Reps.none _ _) (Nat.le_refl _) (by simp)⟩
  have HR := Aside0.mk hr
  have heq : ∀ W, (binOp .eql 22 (.slice (some ad) l.length c) (.slice none 0 0)).run Try.prog W = .ok (.bool false) W := fun W => Lib.run_eql_slice_nil W 22 67 (some ad) l.length c 0 0 Try.underlying22
  clear hr
  go_enter Try.func48, Try.ntmps48
  go_wp2_with (at_builtin; refine Kd.R_append_rows k67 (w0 := w) w.heap.size rfl (.tmp 5) (.tmp 6) 22 67 _ 32 rfl Try.underlying22 info67 rfl (by decide) (by decide) _ [] l (some ad) l.length c (fun _ => True) (fun _ => False) rfl rfl HO0.out (Kd.C_below HR.out HB0.out) (fun x cs hK => by obtain rfl := k67_open hK; exact k67_mkM _ _ _ x) (fun _ h => h.elim) (fun _ _ => trivial) HB0.out (by simp) (by simpa using hl) ?_; intro v1 w1 ho hb hg_ hn_; clear hg_ hn_)
  go_ret
  exact ⟨_, rfl, by simpa using ho, hb⟩

end Go.Proofs.Yteclhjhnbolkmaa.PR
