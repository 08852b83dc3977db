-- written by a program of this session
import Derived.Test.YtbhlphadcphapaaPRx0
import Derived.Test.YtbhlphadcphapaaPRx4
import Derived.Test.YtbhlphadcphapaaPRx7
namespace Go.Proofs.Ytbhlphadcphapaa.PR
open Go.RowKit Go.Proofs.Ytbhlphadcphapaa.Op Go.Proofs.YtbhlphadcphapaaW.PrintWords Go.Proofs.YtbhlphadcphapaaW.PrintLast Go.Proofs.YtbhlphadcphapaaW.PrintMore
attribute [local go_sem] max2_int min2_int max_two min_two max_three min_three max_four min_four   -- for this text's walks alone
set_option linter.unusedVariables false
set_option linter.unusedSimpArgs false

/-! ### chart_Read: function 36 (a late store in its loop: by hand) -/
abbrev RdRes := Int × Int × List (S57) × Int
def chart_Read.e0 (k : Nat) (s : ByteArray) (e ep nx : Int) (l : List (S57)) : Option RdRes :=
  (vint_Reader_End.f s e).bind fun x => if x.1 = 0 then ((chart_Check.f k ep nx l).bind fun t => if t = true then some (ep, nx, l, 0) else some (0, 0, [], 3)) else some (0, 0, [], x.1)
def chart_Read.l0 : Nat → Int → Int → Int → ByteArray → Int → Int → Int → List (S57) → Option RdRes
  | 0, _, _, _, _, _, _, _, _ => none
  | k + 1, n, i, at_, s, e, ep, nx, l => if i < n then (if e = 0 then ((vint_Reader_Num.f k s e).bind fun a => (vint_Reader_Num.f k a.2.1 a.2.2).bind fun b => (vint_Reader_Num.f k b.2.1 b.2.2).bind fun c => if l.length < 4398046511104 then chart_Read.l0 k n (wrap64 (i + 1)) b.1 c.2.1 c.2.2 ep nx (l ++ [⟨a.1, ⟨at_, b.1⟩, c.1⟩]) else none) else chart_Read.e0 k s e ep nx l) else chart_Read.e0 k s e ep nx l
def chart_Read.f (k : Nat) (a0 : ByteArray) : Option (Int × Int × List (S57) × Int) :=
  (vint_From.f a0).bind fun r => (vint_Reader_Num.f k r.1 r.2).bind fun a => (vint_Reader_Num.f k a.2.1 a.2.2).bind fun b => (vint_Reader_Num.f k b.2.1 b.2.2).bind fun c => chart_Read.l0 k c.1 0 0 c.2.1 c.2.2 a.1 b.1 []
theorem chart_Read.mono_e : ∀ k s e ep nx l, LeO (chart_Read.e0 k s e ep nx l) (chart_Read.e0 (k + 1) s e ep nx l) := by
  intro k s e ep nx l
  unfold chart_Read.e0
  repeat' first
      | (with_reducible exact LeO.refl _)
      | (with_reducible exact chart_Check.mono _ _ _ _)
      | (with_reducible refine LeO.ite ?_ ?_)
      | (with_reducible refine LeO.bind ?_ (fun _ => ?_))
theorem chart_Read.mono_l : ∀ k, (∀ n i a s e ep nx l, LeO (chart_Read.l0 k n i a s e ep nx l) (chart_Read.l0 (k + 1) n i a s e ep nx l))
  | 0 => fun _ _ _ _ _ _ _ _ r h => by simp [chart_Read.l0] at h
  | k + 1 => by
    have ih0 := chart_Read.mono_l k
    intro n i a s e ep nx l
    unfold chart_Read.l0
    repeat' first
      | (with_reducible exact ih0 _ _ _ _ _ _ _ _)
      | (with_reducible exact LeO.refl _)
      | (with_reducible exact LeO.none _)
      | (with_reducible exact vint_Reader_Num.mono _ _ _)
      | (with_reducible exact chart_Read.mono_e _ _ _ _ _ _)
      | (with_reducible refine LeO.ite ?_ ?_)
      | (with_reducible refine LeO.bind ?_ (fun _ => ?_))
theorem chart_Read.mono : ∀ a0 k, LeO (chart_Read.f k a0) (chart_Read.f (k + 1) a0) := by
  intro a0 k
  have ih0 := chart_Read.mono_l k
  unfold chart_Read.f
  repeat' first
      | (with_reducible exact ih0 _ _ _ _ _ _ _ _)
      | (with_reducible exact LeO.refl _)
      | (with_reducible exact vint_Reader_Num.mono _ _ _)
      | (with_reducible refine LeO.bind ?_ (fun _ => ?_))
theorem R_shd_set' {W : World} {b : Nat} {ok : Nat → Prop} {v : Value} {xs : List (S57)} {g t : Nat} {cs : Array Value} (h : Kd.R k57 57 W b ok v xs) (hb : W.heap[g]? = some (.cells cs t (0, 0))) (ht : 57 ≠ t) (j : Nat) (u : Value) : Kd.R k57 57 (W.setCell ⟨g, j, none⟩ u) b ok v xs :=
  ⟨h.1, (h.2.set_ hb ht j u).imp_ (fun p c hp => by obtain rfl := k57_openM hp; exact k57_mkM _ _ _ p)⟩
theorem IsR.up {w0 w1 W : World} {g : Nat} {a : ByteArray} {b : Int} (h : IsS116 w1 W g a b) (hle : w0.heap.size ≤ w1.heap.size) : IsS116 w0 W g a b := by
  obtain ⟨hb, hg⟩ := h
  exact ⟨hb, Nat.le_trans hle hg⟩
/-- what lies in memory: the result, the reader, c; c's own row -/
structure RdS (w W : World) (g kc : Nat) (s : ByteArray) (e ep nx : Int) (v : Value) (l : List (S57)) : Prop where
  r0 : W.heap[w.heap.size]? = some (.cells #[.int .i64 0, .int .i64 0, .slice none 0 0] 24 (0, 0))
  rd : IsS116 w W g s e
  c : W.heap[kc]? = some (.cells #[.int .i64 ep, .int .i64 nx, v] 24 (0, 0))
  L : Kd.R k57 57 W w.heap.size (fun _ => True) v l
  gc : kc ≠ g
  k0g : w.heap.size ≠ g
  k0c : w.heap.size ≠ kc
  kge : w.heap.size ≤ kc
  bel : Below w.heap.size w W
section
variable {w W W' : World} {g kc : Nat} {s t : ByteArray} {e ep nx f : Int} {v v' : Value} {l l' : List (S57)}
theorem RdS.below (h : RdS w W g kc s e ep nx v l) (hb : Below W.heap.size W W') : RdS w W' g kc s e ep nx v l :=
  ⟨blk_below h.r0 hb, h.rd.below hb, blk_below h.c hb, Kd.R_below h.L hb, h.gc, h.k0g, h.k0c, h.kge, h.bel.trans (hb.mono h.bel.size)⟩
theorem RdS.read (h : RdS w W g kc s e ep nx v l) (hI : IsS116 w W' g t f) (hb : Below w.heap.size w W') (hk : KeepBut W W' g none) : RdS w W' g kc t f ep nx v l :=
  ⟨(hk.2 _ (blk_lt h.r0) h.k0g (by simp)).trans h.r0, hI, (hk.2 _ (blk_lt h.c) h.gc (by simp)).trans h.c,
    Kd.R_mono (Kd.R_step (h.rd.apart h.L (by decide)) (fun i hi hlt => hk.2 i hlt hi.2 (by simp))) (fun _ _ => trivial), h.gc, h.k0g, h.k0c, h.kge, hb⟩
theorem RdS.put0 (h : RdS w W g kc s e ep nx v l) (u0 u1 u2 : Value) : (((W.setCell ⟨w.heap.size, 0, none⟩ u0).setCell ⟨w.heap.size, 1, none⟩ u1).setCell ⟨w.heap.size, 2, none⟩ u2).heap[w.heap.size]? = some (.cells #[u0, u1, u2] 24 (0, 0)) ∧ Kd.R k57 57 (((W.setCell ⟨w.heap.size, 0, none⟩ u0).setCell ⟨w.heap.size, 1, none⟩ u1).setCell ⟨w.heap.size, 2, none⟩ u2) w.heap.size (fun _ => True) v l ∧ Below w.heap.size w (((W.setCell ⟨w.heap.size, 0, none⟩ u0).setCell ⟨w.heap.size, 1, none⟩ u1).setCell ⟨w.heap.size, 2, none⟩ u2) := by
  have b1 := blk_put h.r0 0 u0 rfl
  have b2 := blk_put b1 1 u1 rfl
  have b3 := blk_put b2 2 u2 rfl
  exact ⟨b3, R_shd_set' (R_shd_set' (R_shd_set' h.L h.r0 (by decide) 0 u0) b1 (by decide) 1 u1) b2 (by decide) 2 u2, below_set (below_set (below_set h.bel (Nat.le_refl _)) (Nat.le_refl _)) (Nat.le_refl _)⟩
theorem RdS.appended (h : RdS w W g kc s e ep nx v l) (hg : W.grownBy W' v.ownBlock) (ho : Kd.R k57 57 W' w.heap.size (fun _ => True) v' l') (hb : Below w.heap.size w W') : W'.heap[w.heap.size]? = some (.cells #[.int .i64 0, .int .i64 0, .slice none 0 0] 24 (0, 0)) ∧ IsS116 w W' g s e ∧ W'.heap[kc]? = some (.cells #[.int .i64 ep, .int .i64 nx, v] 24 (0, 0)) :=
  ⟨blk_grown h.r0 hg (Kd.R_ne h.L h.r0 (by decide)), h.rd.grown hg (h.rd.own_ne h.L (by decide)), blk_grown h.c hg (Kd.R_ne h.L h.c (by decide))⟩
theorem RdS.stored (h : RdS w W g kc s e ep nx v l) (ha : W'.heap[w.heap.size]? = some (.cells #[.int .i64 0, .int .i64 0, .slice none 0 0] 24 (0, 0)) ∧ IsS116 w W' g s e ∧ W'.heap[kc]? = some (.cells #[.int .i64 ep, .int .i64 nx, v] 24 (0, 0))) (ho : Kd.R k57 57 W' w.heap.size (fun _ => True) v' l') (hb : Below w.heap.size w W') : RdS w (W'.setCell ⟨kc, 2, none⟩ v') g kc s e ep nx v' l' :=
  ⟨blk_far (p := ⟨kc, 2, none⟩) ha.1 (by first | exact h.k0c | exact h.k0c.symm) v', ha.2.1.far (p := ⟨kc, 2, none⟩) (by first | exact h.gc | exact h.gc.symm) v', blk_put ha.2.2 2 v' rfl, R_shd_set' ho ha.2.2 (by decide) 2 v', h.gc, h.k0g, h.k0c, h.kge, below_set hb h.kge⟩
end
def rd8.T : Bool × List (List Nat × List Nat) := (true, [([], []), ([0], [0]), ([], []), ([2], [2]), ([1, 3], [1, 3]), ([], []), ([5], [5]), ([6], [6]), ([0, 1, 2, 3, 4], []), ([8, 4, 4, 0, 1, 2, 3, 4], [4, 8]), ([7, 9, 0, 1, 2, 3, 4, 5, 6, 7, 8, 9], [7])])
def rd8.B : List Nat := [0, 1, 0, 4, 15, 0, 32, 96, 0, 287, 224]
theorem rd8.tab : rtab .any (opsOf Try.f36 8) = rd8.T := by kernel_rfl
theorem rd8.bits : waitsOk rd8.T.2 rd8.B = true := by kernel_rfl
set_option maxHeartbeats 8000000 in
set_option maxRecDepth 100000 in
theorem chart_Read.calls (k : Nat) (a0 : ByteArray) (r1 : Int) (r2 : Int) (r3 : List (S57)) (r4 : Int) (w : World) (h : chart_Read.f k a0 = some (r1, r2, r3, r4)) :
    Calls Try.prog 36 #[.string a0] w fun e w' => ∃ v2_ : Value, e = .returned (.tuple #[.agg #[.int .i64 r1, .int .i64 r2, v2_], .int .i64 r4]) ∧ Kd.R k57 57 w' w.heap.size (fun _ => True) v2_ r3 ∧ Below w.heap.size w w' := by
  have hu24 := Try.underlying24
  have hu55 := Try.underlying55
  have hu57 := Try.underlying57
  obtain ⟨r, hr, h⟩ := Option.bind_eq_some_iff.1 h
  obtain ⟨rs, re⟩ := r
  obtain ⟨a, ha, h⟩ := Option.bind_eq_some_iff.1 h
  obtain ⟨a1, a2, a3⟩ := a
  obtain ⟨b, hb, h⟩ := Option.bind_eq_some_iff.1 h
  obtain ⟨b1, b2, b3⟩ := b
  obtain ⟨c, hc, h⟩ := Option.bind_eq_some_iff.1 h
  obtain ⟨c1, c2, c3⟩ := c
  have HF := Aside0.mk hr
  have HA := Aside0.mk ha
  have HB := Aside0.mk hb
  have HC := Aside0.mk hc
  have HH := Aside0.mk h
  clear hr ha hb hc h
  have hr0 := Aside0.mk (blk_new w (.cells #[.int .i64 0, .int .i64 0, .slice none 0 0] 24))
  have hbl := Aside0.mk ((Below.refl w.heap.size w).alloc (Nat.le_refl _) (.cells #[.int .i64 0, .int .i64 0, .slice none 0 0] 24))
  go_enter Try.func36, Try.ntmps36
  go_wp2_with fail
  refine (vint_From.calls a0 rs re _ _ (Below.refl _ _) HF.out).mono ?_
  rintro e w1 ⟨g, rfl, hI, hb, hb2⟩
  have hI1 := Aside0.mk (IsR.up (w0 := w) hI (by simp))
  have hg1 : w.heap.size + 1 ≤ g := by have := hI.2; simpa using this
  have hbl1 := Aside0.mk (hbl.out.trans (hb2.mono hbl.out.size))
  have hr1 := Aside0.mk (blk_below hr0.out hb2)
  have hl1 := Aside0.mk hI.lt
  clear hI hb hb2
  go_wp2_with fail
  refine (vint_Reader_Num.calls k g rs re a1 a2 a3 w _ hI1.out hbl1.out HA.out).mono ?_
  rintro e w2 ⟨rfl, hI, hb, hk⟩
  have hI2 := Aside0.mk hI
  have hbl2 := Aside0.mk hb
  have hr2 := Aside0.mk ((hk.2 _ (blk_lt hr1.out) (by omega) (by simp)).trans hr1.out)
  clear hI hb hk
  go_wp2_with fail
  refine (vint_Reader_Num.calls k g a2 a3 b1 b2 b3 w _ hI2.out hbl2.out HB.out).mono ?_
  rintro e w3 ⟨rfl, hI, hb, hk⟩
  have hI3 := Aside0.mk hI
  have hbl3 := Aside0.mk hb
  have hr3 := Aside0.mk ((hk.2 _ (blk_lt hr2.out) (by omega) (by simp)).trans hr2.out)
  clear hI hb hk
  go_wp2_with fail
  have HS : Aside0 (RdS w (w3.alloc (.cells #[.int .i64 a1, .int .i64 b1, .slice none 0 0] 24)) g w3.heap.size b2 b3 a1 b1 (.slice none 0 0) []) := ⟨by
    have hlt := hI3.out.lt
    have h8 := hbl3.out.size
    have h9 := blk_lt hr3.out
    exact ⟨blk_alloc hr3.out _, hI3.out.alloc _, blk_new _ _, Kd.R_nil _ _ _ _ _, by omega, by omega, by omega, h8, hbl3.out.alloc h8 _⟩⟩
  clear hr0 hbl hI1 hg1 hbl1 hr1 hl1 hI2 hbl2 hr2 hI3 hbl3 hr3
  refine (vint_Reader_Num.calls k g b2 b3 c1 c2 c3 w _ HS.out.rd HS.out.bel HC.out).mono ?_
  rintro e w4 ⟨rfl, hI, hb, hk⟩
  replace HS := Aside0.mk (HS.out.read hI hb hk)
  generalize w3.heap.size = kc at HS ⊢
  clear hI hb hk HA HB HC HF
  go_wp2_with fail
  go_loopg [6, 7, 9] k (fun kq v6 v7 _ W => ∃ (at_ i : Int) (s : ByteArray) (e : Int) (v : Value) (l : List (S57)), v6 = .int .i64 at_ ∧ v7 = .int .i64 i ∧ Aside0 (chart_Read.l0 kq c1 i at_ s e a1 b1 l = some (r1, r2, r3, r4)) ∧ Aside0 (kq ≤ k) ∧ Aside0 (RdS w W g kc s e a1 b1 v l))
  case atStart => exact ⟨0, 0, c2, c3, .slice none 0 0, [], rfl, rfl, HH, ⟨Nat.le_refl _⟩, HS⟩
  case round =>
    clear HS HH
    obtain ⟨at_, i, s, e, v, l, rfl, rfl, HA, HK1, HS⟩ := hrel
    cases gk with
    | zero => exact absurd HA.out (by simp [chart_Read.l0])
    | succ k1 =>
      have H := HA.out
      clear HA
      simp only [chart_Read.l0] at H
      by_cases c4 : i < c1
      · rw [if_pos c4] at H
        have c4b0 : decide (i < c1) = true := decide_eq_true c4
        by_cases c5 : e = 0
        · subst c5
          rw [if_pos rfl] at H
          obtain ⟨n, hn, H⟩ := Option.bind_eq_some_iff.1 H
          obtain ⟨n1, s1, e1⟩ := n
          obtain ⟨m, hm, H⟩ := Option.bind_eq_some_iff.1 H
          obtain ⟨n2, s2, e2⟩ := m
          obtain ⟨o, ho, H⟩ := Option.bind_eq_some_iff.1 H
          obtain ⟨n3, s3, e3⟩ := o
          dsimp only at hn hm ho H
          by_cases c6 : l.length < 4398046511104
          case neg => rw [if_neg c6] at H; exact absurd H (by simp)
          rw [if_pos c6] at H
          have HN := Aside0.mk H
          have A1 := Aside0.mk hn
          have A2 := Aside0.mk hm
          have A3 := Aside0.mk ho
          have C6 := Aside0.mk c6
          clear H hn hm ho c6 c4
          go_wp2_with fail
          refine (vint_Reader_Err.calls g s 0 0 s 0 w _ HS.out.rd HS.out.bel rfl).mono ?_
          rintro e' w5 ⟨rfl, hI, hb, hk⟩
          replace HS := Aside0.mk (HS.out.read hI hb hk)
          clear hI hb hk
          go_wp2_with fail
          refine (vint_Reader_Num.calls k1 g _ _ n1 s1 e1 w _ HS.out.rd HS.out.bel A1.out).mono ?_
          rintro e' w7 ⟨rfl, hI, hb, hk⟩
          replace HS := Aside0.mk (HS.out.read hI hb hk)
          clear hI hb hk
          go_wp2_with fail
          refine (vint_Reader_Num.calls k1 g _ _ n2 s2 e2 w _ HS.out.rd HS.out.bel A2.out).mono ?_
          rintro e' w7 ⟨rfl, hI, hb, hk⟩
          replace HS := Aside0.mk (HS.out.read hI hb hk)
          clear hI hb hk
          go_wp2_with fail
          refine (vint_Reader_Num.calls k1 g _ _ n3 s3 e3 w _ HS.out.rd HS.out.bel A3.out).mono ?_
          rintro e' w7 ⟨rfl, hI, hb, hk⟩
          replace HS := Aside0.mk (HS.out.read hI hb hk)
          clear hI hb hk
          go_wp2_with fail
          have hvk : some w7.heap.size ≠ v.ownBlock := fun e' => by have := Kd.R_lt HS.out.L _ e'.symm; omega
          have hkx : kc ≠ w7.heap.size := Nat.ne_of_lt (blk_lt HS.out.c)
          have HS3 := Aside0.mk ((HS.out.below ((Below.refl _ _).alloc (Nat.le_refl _) (.cells #[.int .i64 n1, .int .i64 at_, .int .i64 n2, .int .i64 n3] 57))).below (below_drew (Below.refl _ (w7.alloc (.cells #[.int .i64 n1, .int .i64 at_, .int .i64 n2, .int .i64 n3] 57)))))
          have HX := Aside0.mk (show (w7.alloc (.cells #[.int .i64 n1, .int .i64 at_, .int .i64 n2, .int .i64 n3] 57)).drew.heap[w7.heap.size]? = some (.cells #[.int .i64 n1, .int .i64 at_, .int .i64 n2, .int .i64 n3] 57 (0, 0)) from blk_new w7 _)
          clear HS
          refine start_ (n := 11) (S := fun w' => w'.cell? ⟨w7.heap.size, 0, none⟩ = some (.int .i64 n1) ∧ w'.cell? ⟨w7.heap.size, 1, none⟩ = some (.int .i64 at_) ∧ w'.cell? ⟨w7.heap.size, 2, none⟩ = some (.int .i64 n2) ∧ w'.cell? ⟨w7.heap.size, 3, none⟩ = some (.int .i64 n3)) (ds := []) #[false, false, false, false, false, false, false, false, false, false, false] (by kernel_rfl) rfl rfl ⟨(blk_cell HX.out 0).trans rfl, (blk_cell HX.out 1).trans rfl, (blk_cell HX.out 2).trans rfl, (blk_cell HX.out 3).trans rfl⟩ (fun hHeld => ?_); refine with_tabW rd8.tab rd8.bits (fun HT_ HW_ => ?_)
          generalize (w7.alloc (.cells #[.int .i64 n1, .int .i64 at_, .int .i64 n2, .int .i64 n3] 57)).drew = wd at HS3 HX hHeld ⊢
          generalize w7.heap.size = kx at HX hHeld hvk hkx ⊢
          refine pure_ (i := 0) (N := some 39) (v := ?_) (a' := ?_) #[true, false, false, false, false, false, false, false, false, false, false] rfl rfl (any_of HT_.out (by kernel_rfl)) (fun _ _ _ h => h) (Or.inl ⟨by rfl, ?_⟩) ?_ ?_
          rotate_left
          · intro w'
            go_simp
            with_reducible rfl
          rotate_left
          · simp only [Act.put, List.setIfInBounds_toArray, List.set_cons_zero, List.set_cons_succ, i64_w, i32_w]
            rfl
          refine pure_ (i := 5) (N := some 44) (v := ?_) (a' := ?_) #[true, false, false, false, false, true, false, false, false, false, false] rfl rfl (any_of HT_.out (by kernel_rfl)) (fun _ _ _ h => h) (Or.inl ⟨by rfl, ?_⟩) ?_ ?_
          rotate_left
          · intro w'
            go_simp
            with_reducible rfl
          rotate_left
          · simp only [Act.put, List.setIfInBounds_toArray, List.set_cons_zero, List.set_cons_succ, i64_w, i32_w]
            rfl
          refine pure_ (i := 6) (N := some 45) (v := ?_) (a' := ?_) #[true, false, false, false, false, true, true, false, false, false, false] rfl rfl (any_of HT_.out (by kernel_rfl)) (fun _ _ _ h => h) (Or.inl ⟨by rfl, ?_⟩) ?_ ?_
          rotate_left
          · intro w'
            go_simp
            with_reducible rfl
          rotate_left
          · simp only [Act.put, List.setIfInBounds_toArray, List.set_cons_zero, List.set_cons_succ, i64_w, i32_w]
            rfl
          refine take_ (i := 2) (N := some 41) (v := ?_) (a' := ?_) #[true, false, true, false, false, true, true, false, false, false, false] rfl rfl (take_ofW HT_.out HW_.out (by kernel_rfl)) (fun _ _ _ h => h) (Or.inl ⟨by rfl, ?_⟩) hHeld ?_ ?_
          rotate_left
          · rintro w' ⟨s0, s1, s2, s3⟩
            go_simp
            with_reducible rfl
          rotate_left
          · simp only [Act.put, List.setIfInBounds_toArray, List.set_cons_zero, List.set_cons_succ, i64_w, i32_w]
            rfl
          refine take_ (i := 7) (N := some 46) (v := ?_) (a' := ?_) #[true, false, true, false, false, true, true, true, false, false, false] rfl rfl (take_ofW HT_.out HW_.out (by kernel_rfl)) (fun _ _ _ h => h) (Or.inl ⟨by rfl, ?_⟩) hHeld ?_ ?_
          rotate_left
          · rintro w' ⟨s0, s1, s2, s3⟩
            go_simp
            with_reducible rfl
          rotate_left
          · simp only [Act.put, List.setIfInBounds_toArray, List.set_cons_zero, List.set_cons_succ, i64_w, i32_w]
            rfl
          refine two_ (i := 1) (j := 3) (Ni := some 40) (Nj := some 42) #[true, true, true, false, false, true, true, true, false, false, false] #[true, false, true, true, false, true, true, true, false, false, false] rfl rfl rfl rfl (two_of HT_.out (by kernel_rfl)) (by decide) (by decide) (fun K hK => ?_) (fun K hK => ?_)
          · have f2 := blk_cell HS3.out.c 2
            refine value_ (w1 := wd) (v := v) (by rfl) rfl (by go_simp; first | done | rfl) ?_
            refine hK.out _ _ ⟨(blk_cell HX.out 0).trans rfl, (blk_cell HX.out 1).trans rfl, (blk_cell HX.out 2).trans rfl, (blk_cell HX.out 3).trans rfl⟩ (fun hHeld => ?_)
            clear hK K
            refine norm_ (a' := ?_) ?_ ?_
            rotate_left
            · show Act.put _ (some 40) _ = _
              simp only [Act.put, List.setIfInBounds_toArray, List.set_cons_zero, List.set_cons_succ, i64_w, i32_w]
              rfl
            clear f2
            refine one_ (i := 3) (N := some 42) #[true, true, true, true, false, true, true, true, false, false, false] rfl rfl (one_of HT_.out (by kernel_rfl)) (by decide) (fun K hK => ?_)
            refine value_ (w1 := (wd.alloc (.cells #[.int .i64 n1, .int .i64 at_, .int .i64 n2, .int .i64 n3] 57))) (v := .slice (some ⟨wd.heap.size, 0, none⟩) 1 1) (by rfl) rfl (by go_simp; first | done | rfl | (constructor <;> rfl)) ?_
            have HX2 := Aside0.mk (blk_alloc HX.out (.cells #[.int .i64 n1, .int .i64 at_, .int .i64 n2, .int .i64 n3] 57))
            refine hK.out _ _ ⟨(blk_cell HX2.out 0).trans rfl, (blk_cell HX2.out 1).trans rfl, (blk_cell HX2.out 2).trans rfl, (blk_cell HX2.out 3).trans rfl⟩ (fun hHeld => ?_)
            clear hK K
            refine norm_ (a' := ?_) ?_ ?_
            rotate_left
            · show Act.put _ (some 42) _ = _
              simp only [Act.put, List.setIfInBounds_toArray, List.set_cons_zero, List.set_cons_succ, i64_w, i32_w]
              rfl
            refine one_ (i := 4) (N := some 43) #[true, true, true, true, true, true, true, true, false, false, false] rfl rfl (one_of HT_.out (by kernel_rfl)) (by decide) (fun K hK => ?_)
            refine Kd.R_append_step k57 (w0 := w) w.heap.size (by rfl) (.tmp 40) (.tmp 42) 22 57 (.agg #[(.int .i64 0), (.int .i64 0), (.int .i64 0), (.int .i64 0)]) 32 rfl Try.underlying22 info57 rfl (by decide) (by omega) v l (⟨n1, ⟨at_, n2⟩, n3⟩ : S57) [.int .i64 n1, .int .i64 at_, .int .i64 n2, .int .i64 n3] (fun _ => True) (fun _ => False) rfl rfl (k57_mkM _ _ _ (⟨n1, ⟨at_, n2⟩, n3⟩ : S57)) (fun _ hk => hk.elim) (fun _ _ => trivial) HS3.out.L HS3.out.bel HS3.out.bel.size (by have := C6.out; omega) ?_
            intro v2 w9 ho hb hg hat
            generalize hyy : l ++ [(⟨n1, ⟨at_, n2⟩, n3⟩ : S57)] = y at ho HN
            obtain ⟨A2, c9, rfl⟩ := Kd.R_slice ho
            have HA9 := Aside0.mk (HS3.out.appended hg ho hb)
            have HX9 := Aside0.mk (blk_grown HX.out hg hvk)
            have HO9 := Aside0.mk ho
            have HB9 := Aside0.mk hb
            clear hg hat ho hb
            refine hK.out _ _ ⟨(blk_cell HX9.out 0).trans rfl, (blk_cell HX9.out 1).trans rfl, (blk_cell HX9.out 2).trans rfl, (blk_cell HX9.out 3).trans rfl⟩ (fun hHeld => ?_)
            clear hK K
            refine norm_ (a' := ?_) ?_ ?_
            rotate_left
            · show Act.put _ (some 43) _ = _
              simp only [Act.put, List.setIfInBounds_toArray, List.set_cons_zero, List.set_cons_succ, i64_w, i32_w]
              rfl
            refine pure_ (i := 8) (N := some 47) (v := ?_) (a' := ?_) #[true, true, true, true, true, true, true, true, true, false, false] rfl rfl (any_of HT_.out (by kernel_rfl)) (fun _ _ _ h => h) (Or.inl ⟨by rfl, ?_⟩) ?_ ?_
            rotate_left
            · intro w'
              go_simp
              with_reducible rfl
            rotate_left
            · simp only [Act.put, List.setIfInBounds_toArray, List.set_cons_zero, List.set_cons_succ, i64_w, i32_w]
              rfl
            refine one_ (i := 9) (N := none) #[true, true, true, true, true, true, true, true, true, true, false] rfl rfl (one_of HT_.out (by kernel_rfl)) (by decide) (fun K hK => ?_)
            have f2 := blk_cell HA9.out.2.2 2
            have f9 := blk_frozen HA9.out.2.2 2
            refine skip_ (w1 := ?_) (by rfl) rfl ?_ ?_
            rotate_left
            · go_simp
              rfl
            have HX10 := Aside0.mk (blk_far (p := ⟨kc, 2, none⟩) HX9.out (by first | exact hkx | exact hkx.symm) (.slice A2 y.length c9))
            refine hK.out _ _ ⟨(blk_cell HX10.out 0).trans rfl, (blk_cell HX10.out 1).trans rfl, (blk_cell HX10.out 2).trans rfl, (blk_cell HX10.out 3).trans rfl⟩ (fun hHeld => ?_)
            clear hK K
            refine pure_ (i := 10) (N := some 6) (v := ?_) (a' := ?_) #[true, true, true, true, true, true, true, true, true, true, true] rfl rfl (any_of HT_.out (by kernel_rfl)) (fun _ _ _ h => h) (Or.inl ⟨by rfl, ?_⟩) ?_ ?_
            rotate_left
            · intro w'
              go_simp
              with_reducible rfl
            rotate_left
            · simp only [Act.put, List.setIfInBounds_toArray, List.set_cons_zero, List.set_cons_succ, i64_w, i32_w]
              rfl
            refine done_ (done_of HT_.out (by kernel_rfl)) ?_
            have HS10 := Aside0.mk (HS3.out.stored HA9.out HO9.out HB9.out)
            clear f2 f9
            go_wp2_with fail
            go_roundg k1
            case measure => have := HK1.out; omega
            case rel => exact ⟨n2, wrap64 (i + 1), s3, e3, .slice A2 y.length c9, y, (by first | rfl | (simp; done) | (simp [*]; done)), (by first | rfl | (simp; done) | (simp [*]; done)), HN, ⟨by have := HK1.out; omega⟩, HS10⟩
          · refine value_ (w1 := (wd.alloc (.cells #[.int .i64 n1, .int .i64 at_, .int .i64 n2, .int .i64 n3] 57))) (v := .slice (some ⟨wd.heap.size, 0, none⟩) 1 1) (by rfl) rfl (by go_simp; first | done | rfl | (constructor <;> rfl)) ?_
            have HX2 := Aside0.mk (blk_alloc HX.out (.cells #[.int .i64 n1, .int .i64 at_, .int .i64 n2, .int .i64 n3] 57))
            refine hK.out _ _ ⟨(blk_cell HX2.out 0).trans rfl, (blk_cell HX2.out 1).trans rfl, (blk_cell HX2.out 2).trans rfl, (blk_cell HX2.out 3).trans rfl⟩ (fun hHeld => ?_)
            clear hK K
            refine norm_ (a' := ?_) ?_ ?_
            rotate_left
            · show Act.put _ (some 42) _ = _
              simp only [Act.put, List.setIfInBounds_toArray, List.set_cons_zero, List.set_cons_succ, i64_w, i32_w]
              rfl
            refine one_ (i := 1) (N := some 40) #[true, true, true, true, false, true, true, true, false, false, false] rfl rfl (one_of HT_.out (by kernel_rfl)) (by decide) (fun K hK => ?_)
            have f2 := blk_cell (blk_alloc HS3.out.c (.cells #[.int .i64 n1, .int .i64 at_, .int .i64 n2, .int .i64 n3] 57)) 2
            refine value_ (w1 := (wd.alloc (.cells #[.int .i64 n1, .int .i64 at_, .int .i64 n2, .int .i64 n3] 57))) (v := v) (by rfl) rfl (by go_simp; first | done | rfl) ?_
            refine hK.out _ _ ⟨(blk_cell HX2.out 0).trans rfl, (blk_cell HX2.out 1).trans rfl, (blk_cell HX2.out 2).trans rfl, (blk_cell HX2.out 3).trans rfl⟩ (fun hHeld => ?_)
            clear hK K
            refine norm_ (a' := ?_) ?_ ?_
            rotate_left
            · show Act.put _ (some 40) _ = _
              simp only [Act.put, List.setIfInBounds_toArray, List.set_cons_zero, List.set_cons_succ, i64_w, i32_w]
              rfl
            clear f2
            refine one_ (i := 4) (N := some 43) #[true, true, true, true, true, true, true, true, false, false, false] rfl rfl (one_of HT_.out (by kernel_rfl)) (by decide) (fun K hK => ?_)
            refine Kd.R_append_step k57 (w0 := w) w.heap.size (by rfl) (.tmp 40) (.tmp 42) 22 57 (.agg #[(.int .i64 0), (.int .i64 0), (.int .i64 0), (.int .i64 0)]) 32 rfl Try.underlying22 info57 rfl (by decide) (by omega) v l (⟨n1, ⟨at_, n2⟩, n3⟩ : S57) [.int .i64 n1, .int .i64 at_, .int .i64 n2, .int .i64 n3] (fun _ => True) (fun _ => False) rfl rfl (k57_mkM _ _ _ (⟨n1, ⟨at_, n2⟩, n3⟩ : S57)) (fun _ hk => hk.elim) (fun _ _ => trivial) HS3.out.L HS3.out.bel HS3.out.bel.size (by have := C6.out; omega) ?_
            intro v2 w9 ho hb hg hat
            generalize hyy : l ++ [(⟨n1, ⟨at_, n2⟩, n3⟩ : S57)] = y at ho HN
            obtain ⟨A2, c9, rfl⟩ := Kd.R_slice ho
            have HA9 := Aside0.mk (HS3.out.appended hg ho hb)
            have HX9 := Aside0.mk (blk_grown HX.out hg hvk)
            have HO9 := Aside0.mk ho
            have HB9 := Aside0.mk hb
            clear hg hat ho hb
            refine hK.out _ _ ⟨(blk_cell HX9.out 0).trans rfl, (blk_cell HX9.out 1).trans rfl, (blk_cell HX9.out 2).trans rfl, (blk_cell HX9.out 3).trans rfl⟩ (fun hHeld => ?_)
            clear hK K
            refine norm_ (a' := ?_) ?_ ?_
            rotate_left
            · show Act.put _ (some 43) _ = _
              simp only [Act.put, List.setIfInBounds_toArray, List.set_cons_zero, List.set_cons_succ, i64_w, i32_w]
              rfl
            refine pure_ (i := 8) (N := some 47) (v := ?_) (a' := ?_) #[true, true, true, true, true, true, true, true, true, false, false] rfl rfl (any_of HT_.out (by kernel_rfl)) (fun _ _ _ h => h) (Or.inl ⟨by rfl, ?_⟩) ?_ ?_
            rotate_left
            · intro w'
              go_simp
              with_reducible rfl
            rotate_left
            · simp only [Act.put, List.setIfInBounds_toArray, List.set_cons_zero, List.set_cons_succ, i64_w, i32_w]
              rfl
            refine one_ (i := 9) (N := none) #[true, true, true, true, true, true, true, true, true, true, false] rfl rfl (one_of HT_.out (by kernel_rfl)) (by decide) (fun K hK => ?_)
            have f2 := blk_cell HA9.out.2.2 2
            have f9 := blk_frozen HA9.out.2.2 2
            refine skip_ (w1 := ?_) (by rfl) rfl ?_ ?_
            rotate_left
            · go_simp
              rfl
            have HX10 := Aside0.mk (blk_far (p := ⟨kc, 2, none⟩) HX9.out (by first | exact hkx | exact hkx.symm) (.slice A2 y.length c9))
            refine hK.out _ _ ⟨(blk_cell HX10.out 0).trans rfl, (blk_cell HX10.out 1).trans rfl, (blk_cell HX10.out 2).trans rfl, (blk_cell HX10.out 3).trans rfl⟩ (fun hHeld => ?_)
            clear hK K
            refine pure_ (i := 10) (N := some 6) (v := ?_) (a' := ?_) #[true, true, true, true, true, true, true, true, true, true, true] rfl rfl (any_of HT_.out (by kernel_rfl)) (fun _ _ _ h => h) (Or.inl ⟨by rfl, ?_⟩) ?_ ?_
            rotate_left
            · intro w'
              go_simp
              with_reducible rfl
            rotate_left
            · simp only [Act.put, List.setIfInBounds_toArray, List.set_cons_zero, List.set_cons_succ, i64_w, i32_w]
              rfl
            refine done_ (done_of HT_.out (by kernel_rfl)) ?_
            have HS10 := Aside0.mk (HS3.out.stored HA9.out HO9.out HB9.out)
            clear f2 f9
            go_wp2_with fail
            go_roundg k1
            case measure => have := HK1.out; omega
            case rel => exact ⟨n2, wrap64 (i + 1), s3, e3, .slice A2 y.length c9, y, (by first | rfl | (simp; done) | (simp [*]; done)), (by first | rfl | (simp; done) | (simp [*]; done)), HN, ⟨by have := HK1.out; omega⟩, HS10⟩
        · have q1 : (e == 0) = false := beq_eq_false_iff_ne.mpr c5
          have q2 : decide (e = 0) = false := decide_eq_false c5
          rw [if_neg c5] at H
          go_wp2_with fail
          refine (vint_Reader_Err.calls g s e e s e w _ HS.out.rd HS.out.bel rfl).mono ?_
          rintro e' w5 ⟨rfl, hI, hb, hk⟩
          replace HS := Aside0.mk (HS.out.read hI hb hk)
          clear hI hb hk
          unfold chart_Read.e0 at H
          obtain ⟨x, hx, H⟩ := Option.bind_eq_some_iff.1 H
          obtain ⟨x1, x2, x3⟩ := x
          go_wp2_with fail
          refine (vint_Reader_End.calls g s e x1 x2 x3 w _ HS.out.rd HS.out.bel hx).mono ?_
          rintro e' w9 ⟨rfl, hI, hb, hk⟩
          replace HS := Aside0.mk (HS.out.read hI hb hk)
          clear hI hb hk hx
          have g0 := blk_cell HS.out.c 0
          have g1 := blk_cell HS.out.c 1
          have g2 := blk_cell HS.out.c 2
          have h0 := blk_cell HS.out.r0 0
          have h1 := blk_cell HS.out.r0 1
          have h2 := blk_cell HS.out.r0 2
          have h3 := blk_frozen HS.out.r0 0
          have h4 := blk_frozen HS.out.r0 1
          have h5 := blk_frozen HS.out.r0 2
          by_cases hx0 : x1 = 0
          · subst hx0
            rw [if_pos rfl] at H
            obtain ⟨t, hchk, H⟩ := Option.bind_eq_some_iff.1 H
            obtain ⟨Al, cl, rfl⟩ := Kd.R_slice HS.out.L
            have hq := Kd.R_reads' HS.out.L
            go_wp2_with fail
            refine (chart_Check.calls k1 a1 b1 Al cl l t _ hq.2.2 hq.2.1 hchk).mono ?_
            rintro e' w10 ⟨rfl, hb⟩
            replace HS := Aside0.mk (HS.out.below hb)
            clear hb hq hchk g0 g1 g2 h0 h1 h2 h3 h4 h5
            have g0 := blk_cell HS.out.c 0
            have g1 := blk_cell HS.out.c 1
            have g2 := blk_cell HS.out.c 2
            have h0 := blk_cell HS.out.r0 0
            have h1 := blk_cell HS.out.r0 1
            have h2 := blk_cell HS.out.r0 2
            have h3 := blk_frozen HS.out.r0 0
            have h4 := blk_frozen HS.out.r0 1
            have h5 := blk_frozen HS.out.r0 2
            cases t
            · rw [if_neg (by simp)] at H
              simp only [Option.some.injEq, Prod.mk.injEq] at H
              obtain ⟨rfl, rfl, rfl, rfl⟩ := H
              go_wp2_with fail
              have hE := Aside0.mk (HS.out.put0 (.int .i64 0) (.int .i64 0) (.slice none 0 0))
              refine bodyPost_ret (results_ct rfl _ _ w.heap.size 24 #[.int .i64 0, .int .i64 0, .slice none 0 0] (0, 0) _ rfl hE.out.1 Try.underlying24 rfl (by kernel_rfl)) rfl ?_
              exact ⟨_, rfl, Kd.R_nil _ _ _ _ _, hE.out.2.2⟩
            · rw [if_pos rfl] at H
              simp only [Option.some.injEq, Prod.mk.injEq] at H
              obtain ⟨rfl, rfl, rfl, rfl⟩ := H
              go_wp2_with fail
              have hE := Aside0.mk (HS.out.put0 (.int .i64 a1) (.int .i64 b1) (.slice Al l.length cl))
              refine bodyPost_ret (results_ct rfl _ _ w.heap.size 24 #[.int .i64 a1, .int .i64 b1, .slice Al l.length cl] (0, 0) _ rfl hE.out.1 Try.underlying24 rfl (by kernel_rfl)) rfl ?_
              exact ⟨_, rfl, hE.out.2.1, hE.out.2.2⟩
          · have hx1 : (x1 == 0) = false := beq_eq_false_iff_ne.mpr hx0
            have hx2 : decide (x1 = 0) = false := decide_eq_false hx0
            have hx3 : (x1 != 0) = true := bne_iff_ne.mpr hx0
            rw [if_neg hx0] at H
            simp only [Option.some.injEq, Prod.mk.injEq] at H
            obtain ⟨rfl, rfl, rfl, rfl⟩ := H
            go_wp2_with fail
            have hE := Aside0.mk (HS.out.put0 (.int .i64 0) (.int .i64 0) (.slice none 0 0))
            refine bodyPost_ret (results_ct rfl _ _ w.heap.size 24 #[.int .i64 0, .int .i64 0, .slice none 0 0] (0, 0) _ rfl hE.out.1 Try.underlying24 rfl (by kernel_rfl)) rfl ?_
            exact ⟨_, rfl, Kd.R_nil _ _ _ _ _, hE.out.2.2⟩
      · rw [if_neg c4] at H
        have c4b0 : decide (i < c1) = false := decide_eq_false c4
        unfold chart_Read.e0 at H
        obtain ⟨x, hx, H⟩ := Option.bind_eq_some_iff.1 H
        obtain ⟨x1, x2, x3⟩ := x
        go_wp2_with fail
        refine (vint_Reader_End.calls g s e x1 x2 x3 w _ HS.out.rd HS.out.bel hx).mono ?_
        rintro e' w9 ⟨rfl, hI, hb, hk⟩
        replace HS := Aside0.mk (HS.out.read hI hb hk)
        clear hI hb hk hx
        have g0 := blk_cell HS.out.c 0
        have g1 := blk_cell HS.out.c 1
        have g2 := blk_cell HS.out.c 2
        have h0 := blk_cell HS.out.r0 0
        have h1 := blk_cell HS.out.r0 1
        have h2 := blk_cell HS.out.r0 2
        have h3 := blk_frozen HS.out.r0 0
        have h4 := blk_frozen HS.out.r0 1
        have h5 := blk_frozen HS.out.r0 2
        by_cases hx0 : x1 = 0
        · subst hx0
          rw [if_pos rfl] at H
          obtain ⟨t, hchk, H⟩ := Option.bind_eq_some_iff.1 H
          obtain ⟨Al, cl, rfl⟩ := Kd.R_slice HS.out.L
          have hq := Kd.R_reads' HS.out.L
          go_wp2_with fail
          refine (chart_Check.calls k1 a1 b1 Al cl l t _ hq.2.2 hq.2.1 hchk).mono ?_
          rintro e' w10 ⟨rfl, hb⟩
          replace HS := Aside0.mk (HS.out.below hb)
          clear hb hq hchk g0 g1 g2 h0 h1 h2 h3 h4 h5
          have g0 := blk_cell HS.out.c 0
          have g1 := blk_cell HS.out.c 1
          have g2 := blk_cell HS.out.c 2
          have h0 := blk_cell HS.out.r0 0
          have h1 := blk_cell HS.out.r0 1
          have h2 := blk_cell HS.out.r0 2
          have h3 := blk_frozen HS.out.r0 0
          have h4 := blk_frozen HS.out.r0 1
          have h5 := blk_frozen HS.out.r0 2
          cases t
          · rw [if_neg (by simp)] at H
            simp only [Option.some.injEq, Prod.mk.injEq] at H
            obtain ⟨rfl, rfl, rfl, rfl⟩ := H
            go_wp2_with fail
            have hE := Aside0.mk (HS.out.put0 (.int .i64 0) (.int .i64 0) (.slice none 0 0))
            refine bodyPost_ret (results_ct rfl _ _ w.heap.size 24 #[.int .i64 0, .int .i64 0, .slice none 0 0] (0, 0) _ rfl hE.out.1 Try.underlying24 rfl (by kernel_rfl)) rfl ?_
            exact ⟨_, rfl, Kd.R_nil _ _ _ _ _, hE.out.2.2⟩
          · rw [if_pos rfl] at H
            simp only [Option.some.injEq, Prod.mk.injEq] at H
            obtain ⟨rfl, rfl, rfl, rfl⟩ := H
            go_wp2_with fail
            have hE := Aside0.mk (HS.out.put0 (.int .i64 a1) (.int .i64 b1) (.slice Al l.length cl))
            refine bodyPost_ret (results_ct rfl _ _ w.heap.size 24 #[.int .i64 a1, .int .i64 b1, .slice Al l.length cl] (0, 0) _ rfl hE.out.1 Try.underlying24 rfl (by kernel_rfl)) rfl ?_
            exact ⟨_, rfl, hE.out.2.1, hE.out.2.2⟩
        · have hx1 : (x1 == 0) = false := beq_eq_false_iff_ne.mpr hx0
          have hx2 : decide (x1 = 0) = false := decide_eq_false hx0
          have hx3 : (x1 != 0) = true := bne_iff_ne.mpr hx0
          rw [if_neg hx0] at H
          simp only [Option.some.injEq, Prod.mk.injEq] at H
          obtain ⟨rfl, rfl, rfl, rfl⟩ := H
          go_wp2_with fail
          have hE := Aside0.mk (HS.out.put0 (.int .i64 0) (.int .i64 0) (.slice none 0 0))
          refine bodyPost_ret (results_ct rfl _ _ w.heap.size 24 #[.int .i64 0, .int .i64 0, .slice none 0 0] (0, 0) _ rfl hE.out.1 Try.underlying24 rfl (by kernel_rfl)) rfl ?_
          exact ⟨_, rfl, Kd.R_nil _ _ _ _ _, hE.out.2.2⟩

/-! ### spliceref03_One: function 48 -/
def spliceref03_One.f (a0_0 : Int) (a0_1 : Int) : Option (Bool) := if a0_0 ≥ 0 then (if a0_0 < a0_1 then (some (decide (a0_1 ≤ 4096))) else (some false)) else (some false)
set_option maxHeartbeats 8000000 in
set_option maxRecDepth 100000 in
theorem spliceref03_One.calls (a0_0 : Int) (a0_1 : Int) (r : Bool) (w : World) (h : spliceref03_One.f a0_0 a0_1 = some r) :
    Calls Try.prog 48 #[.agg #[.int .i64 a0_0, .int .i64 a0_1]] w fun e w' => e = .returned (.bool r) ∧ Below w.heap.size w w' := by
  have hu80 := Try.underlying80
  have HB := Aside0.mk (Below.refl w.heap.size w)
  have H : (if a0_0 ≥ 0 then (if a0_0 < a0_1 then (some (decide (a0_1 ≤ 4096))) else (some false)) else (some false)) = some r := h
  clear h
  by_cases c2 : a0_0 ≥ 0
  · rw [if_pos c2] at H
    have c2b0 : decide (0 ≤ a0_0) = true := decide_eq_true c2
    clear c2
    by_cases c3 : a0_0 < a0_1
    · rw [if_pos c3] at H
      have c3b0 : decide (a0_0 < a0_1) = true := decide_eq_true c3
      clear c3
      obtain rfl := Option.some.inj H
      go_enter Try.func48, Try.ntmps48
      go_wp2_with (first | ((with_reducible refine gate_dst (N := 1) rfl ?_); refine box_event ?hg (N := 1) ?hd (cs := #[.int .i64 a0_0, .int .i64 a0_1]) (t := 80) ?hr ?_; (case hd => rfl); (case hg => rfl); (case hr => first | (go_simp; done) | (go_simp; rfl)); intro gb200 hg w4 hbox hb; have n0_ := Aside0.mk (below_step (by repeat (first | (with_reducible first | exact HB.out | apply below_alloc | apply pw_below_drewN | apply below_drew1) | exact HB.out)) hb); have n1_ := Aside0.mk (hbox); have n2_ := Aside0.mk ((by rw [hg]; exact (below_size (by repeat (first | (with_reducible first | exact HB.out | apply below_alloc | apply pw_below_drewN | apply below_drew1) | exact HB.out))) : w.heap.size ≤ gb200)); have n3_ := Aside0.mk ((by rw [hg]; exact (below_size (by repeat (first | (with_reducible first | exact HB.out | apply below_alloc | apply pw_below_drewN | apply below_drew1) | exact HB.out))) : w.heap.size ≤ gb200)); clear HB; have HB := n0_; have BK200 := n1_; have GW200 := n2_; have GE200 := n3_; clear n0_ n1_ n2_ n3_; clear hb hbox hg; have hcz5_0 : w4.cell? ⟨gb200, 0, none⟩ = some (.int .i64 a0_0) := (blk_cell BK200.out 0).trans rfl; have hcz5_1 : w4.cell? ⟨gb200, 1, none⟩ = some (.int .i64 a0_1) := (blk_cell BK200.out 1).trans rfl; have hfz5_0 := blk_frozen BK200.out 0; have hfz5_1 := blk_frozen BK200.out 1))
      go_ret
      exact ⟨by first | rfl | (simp [errW_none, errW_some] <;> rfl) | (simp [*, errW_none, errW_some] <;> rfl), by repeat (first | (with_reducible first | exact HB.out | apply below_alloc | apply pw_below_drewN | apply below_drew1 | refine below_set ?_ GE200.out) | exact HB.out)⟩
    · rw [if_neg c3] at H
      have c3b0 : decide (a0_0 < a0_1) = false := decide_eq_false c3
      clear c3
      obtain rfl := Option.some.inj H
      go_enter Try.func48, Try.ntmps48
      go_wp2_with (first | ((with_reducible refine gate_dst (N := 1) rfl ?_); refine box_event ?hg (N := 1) ?hd (cs := #[.int .i64 a0_0, .int .i64 a0_1]) (t := 80) ?hr ?_; (case hd => rfl); (case hg => rfl); (case hr => first | (go_simp; done) | (go_simp; rfl)); intro gb200 hg w6 hbox hb; have n0_ := Aside0.mk (below_step (by repeat (first | (with_reducible first | exact HB.out | apply below_alloc | apply pw_below_drewN | apply below_drew1) | exact HB.out)) hb); have n1_ := Aside0.mk (hbox); have n2_ := Aside0.mk ((by rw [hg]; exact (below_size (by repeat (first | (with_reducible first | exact HB.out | apply below_alloc | apply pw_below_drewN | apply below_drew1) | exact HB.out))) : w.heap.size ≤ gb200)); have n3_ := Aside0.mk ((by rw [hg]; exact (below_size (by repeat (first | (with_reducible first | exact HB.out | apply below_alloc | apply pw_below_drewN | apply below_drew1) | exact HB.out))) : w.heap.size ≤ gb200)); clear HB; have HB := n0_; have BK200 := n1_; have GW200 := n2_; have GE200 := n3_; clear n0_ n1_ n2_ n3_; clear hb hbox hg; have hcz7_0 : w6.cell? ⟨gb200, 0, none⟩ = some (.int .i64 a0_0) := (blk_cell BK200.out 0).trans rfl; have hcz7_1 : w6.cell? ⟨gb200, 1, none⟩ = some (.int .i64 a0_1) := (blk_cell BK200.out 1).trans rfl; have hfz7_0 := blk_frozen BK200.out 0; have hfz7_1 := blk_frozen BK200.out 1))
      go_ret
      exact ⟨by first | rfl | (simp [errW_none, errW_some] <;> rfl) | (simp [*, errW_none, errW_some] <;> rfl), by repeat (first | (with_reducible first | exact HB.out | apply below_alloc | apply pw_below_drewN | apply below_drew1 | refine below_set ?_ GE200.out) | exact HB.out)⟩
  · rw [if_neg c2] at H
    have c2b0 : decide (0 ≤ a0_0) = false := decide_eq_false c2
    clear c2
    obtain rfl := Option.some.inj H
    go_enter Try.func48, Try.ntmps48
    go_wp2_with (first | ((with_reducible refine gate_dst (N := 1) rfl ?_); refine box_event ?hg (N := 1) ?hd (cs := #[.int .i64 a0_0, .int .i64 a0_1]) (t := 80) ?hr ?_; (case hd => rfl); (case hg => rfl); (case hr => first | (go_simp; done) | (go_simp; rfl)); intro gb200 hg w8 hbox hb; have n0_ := Aside0.mk (below_step (by repeat (first | (with_reducible first | exact HB.out | apply below_alloc | apply pw_below_drewN | apply below_drew1) | exact HB.out)) hb); have n1_ := Aside0.mk (hbox); have n2_ := Aside0.mk ((by rw [hg]; exact (below_size (by repeat (first | (with_reducible first | exact HB.out | apply below_alloc | apply pw_below_drewN | apply below_drew1) | exact HB.out))) : w.heap.size ≤ gb200)); have n3_ := Aside0.mk ((by rw [hg]; exact (below_size (by repeat (first | (with_reducible first | exact HB.out | apply below_alloc | apply pw_below_drewN | apply below_drew1) | exact HB.out))) : w.heap.size ≤ gb200)); clear HB; have HB := n0_; have BK200 := n1_; have GW200 := n2_; have GE200 := n3_; clear n0_ n1_ n2_ n3_; clear hb hbox hg; have hcz9_0 : w8.cell? ⟨gb200, 0, none⟩ = some (.int .i64 a0_0) := (blk_cell BK200.out 0).trans rfl; have hcz9_1 : w8.cell? ⟨gb200, 1, none⟩ = some (.int .i64 a0_1) := (blk_cell BK200.out 1).trans rfl; have hfz9_0 := blk_frozen BK200.out 0; have hfz9_1 := blk_frozen BK200.out 1))
    go_ret
    exact ⟨by first | rfl | (simp [errW_none, errW_some] <;> rfl) | (simp [*, errW_none, errW_some] <;> rfl), by repeat (first | (with_reducible first | exact HB.out | apply below_alloc | apply pw_below_drewN | apply below_drew1 | refine below_set ?_ GE200.out) | exact HB.out)⟩

end Go.Proofs.Ytbhlphadcphapaa.PR
