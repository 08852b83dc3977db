-- written by a program of this session
import Derived.Test.YtppoahccmcnenaaPAx0
import Derived.Test.YtppoahccmcnenaaPAx1
namespace Go.Proofs.Ytppoahccmcnenaa.PA
open Go.RowKit Go.Proofs.Ytppoahccmcnenaa.Op Go.Proofs.YtppoahccmcnenaaW.PrintWords Go.Proofs.YtppoahccmcnenaaW.PrintLast Go.Proofs.YtppoahccmcnenaaW.PrintMore
attribute [local go_sem] max2_int min2_int max_two min_two max_three min_three max_four min_four   -- for this text's walks alone
set_option linter.unusedVariables false
set_option linter.unusedSimpArgs false

/-! ### the bag: Send, Twice, Lose, Find -/
def addF (s : Bg) (m : Ml) : Bg × Int × Int := if s.l.length < 400 then (addB s m, s.last + 1, 0) else (s, 0, 8)
def okM (m : Ml) : Prop := Adr m.fr ∧ Adr m.too ∧ m.t.size ≤ 65536
theorem bag_add {w W : World} {g mb cb n : Nat} {s : Bg} (h : IsBg w W g mb cb n s) (hn : n < 1000000) (m : Ml) (hm : okM m) :
    Calls Try.prog 23 #[.pointer (some ⟨g, 0, none⟩), mailV m] W fun e W' => e = .returned (.tuple #[.int .i64 (addF s m).2.1, .int .i64 (addF s m).2.2]) ∧ IsBg w W' g mb cb (n + 2) (addF s m).1 ∧ BgKept W W' g mb cb := by
  unfold addF
  by_cases hl : s.l.length < 400
  · rw [if_pos hl]; exact bag_add_ok h hn m hm hl
  · rw [if_neg hl]
    refine (bag_add_full h m hl).mono ?_
    rintro e W' ⟨rfl, hb⟩
    exact ⟨rfl, (h.below hb).more (by omega), BgKept.below hb⟩
def sendB (s : Bg) (f t : Int) (x : ByteArray) : Bg × Int × Int :=
  if (adr f && adr t) = true then (if (x.size : Int) ≤ 65536 then addF s ⟨0, f, t, x⟩ else (s, 0, 2)) else (s, 0, 1)
theorem bag_send_nil (f t : Int) (x : ByteArray) (W : World) :
    Calls Try.prog 11 #[.pointer none, .int .i64 f, .int .i64 t, .string x] W fun e W' => e = .returned (.tuple #[.int .i64 0, .int .i64 1]) ∧ W = W' := by
  go_enter Try.func11, Try.ntmps11
  go_wp2
  go_ret2
  exact ⟨rfl, rfl⟩
set_option maxHeartbeats 4000000 in
set_option maxRecDepth 100000 in
theorem bag_send {w W : World} {g mb cb n : Nat} {s : Bg} (h : IsBg w W g mb cb n s) (hn : n < 1000000) (f t : Int) (x : ByteArray) :
    Calls Try.prog 11 #[.pointer (some ⟨g, 0, none⟩), .int .i64 f, .int .i64 t, .string x] W fun e W' => e = .returned (.tuple #[.int .i64 (sendB s f t x).2.1, .int .i64 (sendB s f t x).2.2]) ∧ IsBg w W' g mb cb (n + 2) (sendB s f t x).1 ∧ BgKept W W' g mb cb := by
  have HA := Aside0.mk (fun W => bag_address f W)
  have HB := Aside0.mk (fun W => bag_address t W)
  unfold sendB
  cases ha : adr f
  · rw [ha] at HA
    have HS := Aside0.mk (h.more (Nat.le_add_right n 2))
    rw [Bool.false_and, if_neg (by decide)]
    clear h ha
    go_enter Try.func11, Try.ntmps11
    go_wp2_with (go_at_call 22; refine (HA.out _).mono ?_; rintro e w1 ⟨rfl, rfl⟩)
    go_ret2
    exact ⟨rfl, HS.out, BgKept.refl _ _ _ _⟩
  · cases hb : adr t
    · rw [ha] at HA
      rw [hb] at HB
      have HS := Aside0.mk (h.more (Nat.le_add_right n 2))
      rw [Bool.true_and, if_neg (by decide)]
      clear h ha hb
      go_enter Try.func11, Try.ntmps11
      go_upto_if 10 with (first | (go_at_call 22; first | (with_reducible refine (HA.out _).mono ?_; rintro e w1 ⟨rfl, rfl⟩) | (with_reducible refine (HB.out _).mono ?_; rintro e w1 ⟨rfl, rfl⟩)))
      go_wp2
      go_ret2
      exact ⟨rfl, HS.out, BgKept.refl _ _ _ _⟩
    · rw [ha] at HA
      rw [hb] at HB
      have hf := (adr_iff f).1 ha
      have ht := (adr_iff t).1 hb
      rw [Bool.true_and, if_pos rfl]
      by_cases hx : (x.size : Int) ≤ 65536
      · rw [if_pos hx]
        have HC := Aside0.mk (bag_add h hn ⟨0, f, t, x⟩ ⟨hf, ht, by show x.size ≤ 65536; omega⟩)
        have q0 : decide ((x.size : Int) > 65536) = false := decide_eq_false (by omega)
        have q1 : decide ((65536 : Int) < (x.size : Int)) = false := decide_eq_false (by omega)
        clear h ha hb hf ht hx
        go_enter Try.func11, Try.ntmps11
        go_wp2_with (first | (go_at_call 22; first | (with_reducible refine (HA.out _).mono ?_; rintro e w1 ⟨rfl, rfl⟩) | (with_reducible refine (HB.out _).mono ?_; rintro e w1 ⟨rfl, rfl⟩)) | (go_at_call 23; refine HC.out.mono ?_; rintro e w1 ⟨rfl, hs, hk⟩; have HS := Aside0.mk hs; have HK := Aside0.mk hk; clear hs hk))
        go_ret2
        exact ⟨rfl, HS.out, HK.out⟩
      · rw [if_neg hx]
        have HS := Aside0.mk (h.more (Nat.le_add_right n 2))
        have q0 : decide ((x.size : Int) > 65536) = true := decide_eq_true (by omega)
        have q1 : decide ((65536 : Int) < (x.size : Int)) = true := decide_eq_true (by omega)
        clear h ha hb hf ht hx
        go_enter Try.func11, Try.ntmps11
        go_wp2_with (go_at_call 22; first | (with_reducible refine (HA.out _).mono ?_; rintro e w1 ⟨rfl, rfl⟩) | (with_reducible refine (HB.out _).mono ?_; rintro e w1 ⟨rfl, rfl⟩))
        go_ret2
        exact ⟨rfl, HS.out, BgKept.refl _ _ _ _⟩
theorem bag_get' {w W : World} {g mb cb n : Nat} {s : Bg} (h : IsBg w W g mb cb n s) (id : Int) (hid : (Lit.int .i64 id).wf = true) (m : Ml) (q : Int) (hm : (findM s.l id).getD noMail = m) (hq : gotE (findM s.l id) = q) :
    Calls Try.prog 24 #[.pointer (some ⟨g, 0, none⟩), .int .i64 id] W fun e W' => e = .returned (.tuple #[.agg #[.int .i64 m.id, .int .i64 m.fr, .int .i64 m.too, .string m.t], .int .i64 q]) ∧ Below W.heap.size W W' := by
  subst hm hq
  exact bag_get h id hid
theorem bag_get_nil' (id : Int) (W : World) :
    Calls Try.prog 24 #[.pointer none, .int .i64 id] W fun e W' => e = .returned (.tuple #[.agg #[.int .i64 0, .int .i64 0, .int .i64 0, .string ⟨#[]⟩], .int .i64 1]) ∧ Below W.heap.size W W' := bag_get_nil id W
theorem bag_twice_nil (id : Int) (W : World) :
    Calls Try.prog 14 #[.pointer none, .int .i64 id] W fun e W' => e = .returned (.tuple #[.int .i64 0, .int .i64 1]) ∧ Below W.heap.size W W' := by
  go_enter Try.func14, Try.ntmps14
  go_wp2_with (go_at_call 24; refine (bag_get_nil' _ _).mono ?_; rintro e w1 ⟨rfl, hb⟩; have HB := Aside0.mk hb; clear hb)
  go_ret2
  exact ⟨rfl, below_alloc HB.out _⟩
theorem bag_lose_nil (id : Int) (W : World) :
    Calls Try.prog 13 #[.pointer none, .int .i64 id] W fun e W' => e = .returned (.int .i64 1) ∧ Below W.heap.size W W' := by
  go_enter Try.func13, Try.ntmps13
  go_wp2_with (go_at_call 24; refine (bag_get_nil' _ _).mono ?_; rintro e w1 ⟨rfl, hb⟩; have HB := Aside0.mk hb; clear hb)
  go_ret
  exact ⟨rfl, below_alloc HB.out _⟩
def twiceB (s : Bg) (id : Int) : Bg × Int × Int := match findM s.l id with | none => (s, 0, 4) | some m => addF s m
set_option maxHeartbeats 4000000 in
set_option maxRecDepth 100000 in
theorem bag_twice {w W : World} {g mb cb n : Nat} {s : Bg} (h : IsBg w W g mb cb n s) (hn : n < 1000000) (id : Int) (hid : (Lit.int .i64 id).wf = true) :
    Calls Try.prog 14 #[.pointer (some ⟨g, 0, none⟩), .int .i64 id] W fun e W' => e = .returned (.tuple #[.int .i64 (twiceB s id).2.1, .int .i64 (twiceB s id).2.2]) ∧ IsBg w W' g mb cb (n + 2) (twiceB s id).1 ∧ BgKept W W' g mb cb := by
  unfold twiceB
  cases hf : findM s.l id with
  | none =>
    have HG := Aside0.mk (bag_get' h id hid noMail 4 (by rw [hf]; rfl) (by rw [hf]; rfl))
    have HS := Aside0.mk (h.more (Nat.le_add_right n 2))
    clear h hid hf
    go_enter Try.func14, Try.ntmps14
    go_wp2_with (go_at_call 24; refine HG.out.mono ?_; rintro e w1 ⟨rfl, hb⟩; have HB := Aside0.mk hb; clear hb)
    go_ret2
    exact ⟨rfl, HS.out.below (below_alloc HB.out _), BgKept.below (below_alloc HB.out _)⟩
  | some m =>
    have HG := Aside0.mk (bag_get' h id hid m 0 (by rw [hf]; rfl) (by rw [hf]; rfl))
    have HM : Aside0 (okM m) := ⟨(h.ids m (findM_some hf).1).2.2⟩
    have HS := Aside0.mk h
    have HN := Aside0.mk hn
    clear h hid hf hn
    go_enter Try.func14, Try.ntmps14
    go_upto_region 2 with (go_at_call 24; refine HG.out.mono ?_; rintro e w1 ⟨rfl, hb⟩; have HB := Aside0.mk hb; clear hb)
    replace HB := Aside0.mk (below_alloc HB.out (.cells #[.int .i64 m.id, .int .i64 m.fr, .int .i64 m.too, .string m.t] 34))
    have HX := Aside0.mk (blk_new w1 (.cells #[.int .i64 m.id, .int .i64 m.fr, .int .i64 m.too, .string m.t] 34))
    generalize w1.alloc (.cells #[.int .i64 m.id, .int .i64 m.fr, .int .i64 m.too, .string m.t] 34) = W2 at HB HX ⊢
    generalize w1.heap.size = g6 at HX ⊢
    have HC := Aside0.mk (bag_add (HS.out.below HB.out) HN.out m HM.out)
    have x0 : W2.cell? ⟨g6, 0, none⟩ = some (.int .i64 m.id) := (blk_cell HX.out 0).trans rfl
    have x1 : W2.cell? ⟨g6, 1, none⟩ = some (.int .i64 m.fr) := (blk_cell HX.out 1).trans rfl
    have x2 : W2.cell? ⟨g6, 2, none⟩ = some (.int .i64 m.too) := (blk_cell HX.out 2).trans rfl
    have x3 : W2.cell? ⟨g6, 3, none⟩ = some (.string m.t) := (blk_cell HX.out 3).trans rfl
    go_wp2_with (go_at_call 23; refine HC.out.mono ?_; rintro e w3 ⟨rfl, hs, hk⟩; have HS3 := Aside0.mk hs; have HK3 := Aside0.mk hk; clear hs hk x0 x1 x2 x3)
    go_ret2
    exact ⟨rfl, HS3.out, (BgKept.below HB.out).trans HK3.out⟩
def loseB (s : Bg) (id : Int) : Bg × Int := match findM s.l id with | none => (s, 4) | some _ => ({ s with l := dropM s.l id }, 0)
set_option maxHeartbeats 4000000 in
set_option maxRecDepth 100000 in
theorem bag_lose {w W : World} {g mb cb n : Nat} {s : Bg} (h : IsBg w W g mb cb n s) (id : Int) (hid : (Lit.int .i64 id).wf = true) :
    Calls Try.prog 13 #[.pointer (some ⟨g, 0, none⟩), .int .i64 id] W fun e W' => e = .returned (.int .i64 (loseB s id).2) ∧ IsBg w W' g mb cb n (loseB s id).1 ∧ BgKept W W' g mb cb := by
  unfold loseB
  cases hf : findM s.l id with
  | none =>
    have HG := Aside0.mk (bag_get' h id hid noMail 4 (by rw [hf]; rfl) (by rw [hf]; rfl))
    have HS := Aside0.mk h
    clear h hid hf
    go_enter Try.func13, Try.ntmps13
    go_wp2_with (go_at_call 24; refine HG.out.mono ?_; rintro e w1 ⟨rfl, hb⟩; have HB := Aside0.mk hb; clear hb)
    go_ret
    exact ⟨rfl, HS.out.below (below_alloc HB.out _), BgKept.below (below_alloc HB.out _)⟩
  | some m =>
    have HG := Aside0.mk (bag_get' h id hid m 0 (by rw [hf]; rfl) (by rw [hf]; rfl))
    have HS := Aside0.mk h
    have HKy := Aside0.mk (Maps.keyOf_int_mk (P := Try.prog) (k := 3) (q := .i64) Try.underlying3 hid)
    clear h hid hf
    go_enter Try.func13, Try.ntmps13
    go_upto_region 2 with (go_at_call 24; refine HG.out.mono ?_; rintro e w1 ⟨rfl, hb⟩; have HB := Aside0.mk hb; clear hb)
    replace HB := Aside0.mk (below_alloc HB.out (.cells #[.int .i64 m.id, .int .i64 m.fr, .int .i64 m.too, .string m.t] 34))
    generalize w1.alloc (.cells #[.int .i64 m.id, .int .i64 m.fr, .int .i64 m.too, .string m.t] 34) = W2 at HB ⊢
    replace HS := Aside0.mk (HS.out.below HB.out)
    obtain ⟨c0, c1, c2, f1⟩ := HS.out.cells
    obtain ⟨D, hown, hA⟩ := HS.out.map
    have HO := Aside0.mk hown
    have HA := Aside0.mk hA
    clear hown hA
    go_wp2_with (at_delete; have hown := HO.out; refine wpList_delete_own _ rfl _ _ 58 3 rfl 34 (Maps.int_keyed Try.underlying3) Try.underlying58 _ mb n D rfl hown _ (.int .i64 id) rfl HKy.out ?_; intro w3 hown1 hturn1; obtain ⟨hs, hk⟩ := HS.out.delL hown HA.out id hown1 hturn1.grown; have HS3 := Aside0.mk hs; have HK3 := Aside0.mk hk; clear hown hown1 hturn1 hs hk c0 c1 c2 f1)
    go_ret
    exact ⟨rfl, HS3.out, (BgKept.below HB.out).trans HK3.out⟩

/-! ### the bag: maps within drawn regions -/
theorem cell_below {W W' : World} (hb : Below W.heap.size W W') {a : Addr} {v : Value} (h : W.cell? a = some v) : W'.cell? a = some v := (hb.cell (World.block_lt_of_cell? W a h)).trans h
section
variable {P : Program} {ops : Array Oper} {oi : Oper} {N : Option Tmp} {a : Act} {w w' : World} {K : Act → World → Prop} {Q : Exit → Act → World → Prop}
theorem look_ (m x : Operand) (t : TypeId) (ok : Bool) (hw : Region.wanted oi (yielded ops a.tmps) = true) (hN : oi.dst = N) (hop : oi.op = Op.lookup t m x ok) (mv xv r : Value) (hm : a.eval m = mv) (hx : a.eval x = xv)
    (hrun : (Instr.lookup t mv xv ok).run P w = .ok r w) (h : K (a.put N r) w) : if Region.wanted oi (yielded ops a.tmps) = true then Oper.wp P oi a w K Q else K (a.put N undef) w := by
  rw [if_pos hw]
  subst hN
  unfold Oper.wp
  simp [execOp, hop, hm, hx, hrun, Result.andThen]
  exact h
theorem upd_ (m x v : Operand) (t : TypeId) (hw : Region.wanted oi (yielded ops a.tmps) = true) (hN : oi.dst = N) (hop : oi.op = Op.mapUpdate t m x v) (mv xv vv : Value) (hm : a.eval m = mv) (hx : a.eval x = xv) (hv : a.eval v = vv)
    (hrun : (Instr.mapUpdate t mv xv vv).run P w = .ok () w') (h : K (a.put N undef) w') : if Region.wanted oi (yielded ops a.tmps) = true then Oper.wp P oi a w K Q else K (a.put N undef) w := by
  rw [if_pos hw]
  subst hN
  unfold Oper.wp
  simp [execOp, hop, hm, hx, hv, hrun, Result.andThen]
  exact h
theorem del_ (m x : Operand) (t k : TypeId) (hw : Region.wanted oi (yielded ops a.tmps) = true) (hN : oi.dst = N) (hop : oi.op = Op.call { callee := Callee.builtin Builtin.delete, args := #[m, x], argTypes := #[t, k] }) (mv xv : Value) (hm : a.eval m = mv) (hx : a.eval x = xv)
    (hrun : (Builtin.delete_ #[t, k] oi.type #[mv, xv]).run P w = .ok (.tuple #[]) w') (h : K (a.put N (.tuple #[])) w') : if Region.wanted oi (yielded ops a.tmps) = true then Oper.wp P oi a w K Q else K (a.put N undef) w := by
  rw [if_pos hw]
  subst hN
  unfold Oper.wp
  simp [execOp, hop, resolve, invoke, builtin, hm, hx, hrun, Result.andThen]
  exact h
end
theorem zero_bool (w : World) : (zeroValue 4).run Try.prog w = .ok (.bool false) w := by kernel_rfl
set_option maxRecDepth 100000 in
theorem IsBg.cutAt {w W : World} {g mb cb n : Nat} {s : Bg} (h : IsBg w W g mb cb n s) {x y : Int} (hx : Adr x) (hy : Adr y) :
    (Instr.lookup 59 (.map (some cb)) (pairV (ofP x y).1 (ofP x y).2) false).run Try.prog W = .ok (.bool (s.cuts.contains (ofP x y))) W := by
  obtain ⟨E, hown, hA⟩ := h.cut
  obtain ⟨kl, hkl⟩ := of_key hx hy
  obtain ⟨v, ps, hrun, hv⟩ := hown.lookup pairKeyed Try.underlying59 (zero_bool W) (plainElem_bool (H := Unit) Try.underlying4 false) hkl
  obtain ⟨h1, h2⟩ := hA.at_ _ _ kl hkl
  rw [hrun]
  have e : (ofP x y).1 = (ofP x y).1 := rfl
  have hb : ∀ b : Bool, v = .bool b → E.atKey kl (.lit (.bool false)) = .lit (.bool b) := by
    intro b hb
    subst hb
    simp [plainElem, Try.underlying4] at hv
    exact hv.1.symm
  have hvb : ∃ b, v = .bool b := by
    unfold plainElem at hv
    rw [Try.underlying4] at hv
    cases v <;> simp at hv
    exact ⟨_, rfl⟩
  obtain ⟨b, rfl⟩ := hvb
  have hb := hb b rfl
  cases hc : s.cuts.contains (ofP x y)
  · have : Maps.has E kl = false := h1.trans hc
    rw [Maps.atKey_of_not_has this] at hb
    injection hb with hb
    injection hb with hb
    rw [← hb]
  · rw [h2 hc] at hb
    injection hb with hb
    injection hb with hb
    rw [← hb]
theorem Bx.rebase {w W W2 : World} {l : BxL} (h : Bx W W2 l) (hb : Below w.heap.size w W) : Bx w W2 l :=
  ⟨fun e he => ⟨(h.at_ e he).1, Nat.le_trans hb.size (h.at_ e he).2⟩, h.nd, hb.trans (h.bel.mono hb.size)⟩
theorem Bx.grownAt {w W W' : World} {l : BxL} (h : Bx w W l) {b : Nat} (hg : W.grownBy W' (some b)) (hb : w.heap.size ≤ b) (hn : ∀ e ∈ l, e.1 ≠ b) : Bx w W' l :=
  ⟨fun e he => ⟨blk_grown (h.at_ e he).1 hg (fun q => by injection q with q; exact hn e he q), (h.at_ e he).2⟩, h.nd, grown_below hb h.bel hg⟩

/-! ### the bag: Take, Find, Apart -/
def bagTake4.T : Bool × List (List Nat × List Nat) := (true, [([], []), ([0], [0]), ([1], [1]), ([2], [2]), ([], []), ([4], [4]), ([], []), ([6], [6]), ([5, 7], [5, 7]), ([3, 8], [3, 8]), ([9, 8], [9])])
def bagTake4.B : List Nat := [0, 1, 3, 7, 0, 16, 0, 64, 240, 511, 1023]
theorem bagTake4.tab : rtab .any (opsOf Try.f12 4) = bagTake4.T := by kernel_rfl
theorem bagTake4.bits : waitsOk bagTake4.T.2 bagTake4.B = true := by kernel_rfl
def bagApart4.T : Bool × List (List Nat × List Nat) := (true, [([], []), ([0], [0]), ([1], [1]), ([2], [2]), ([], []), ([], []), ([4, 5], [4, 5]), ([3, 6, 6, 0, 1, 2, 3, 4, 5, 6], [3, 6])])
def bagApart4.B : List Nat := [0, 1, 3, 7, 0, 0, 48, 127]
theorem bagApart4.tab : rtab .any (opsOf Try.f16 4) = bagApart4.T := by kernel_rfl
theorem bagApart4.bits : waitsOk bagApart4.T.2 bagApart4.B = true := by kernel_rfl
def bagApart5.T : Bool × List (List Nat × List Nat) := (true, [([], []), ([0], [0]), ([1], [1]), ([2], [2]), ([], []), ([], []), ([4, 5], [4, 5]), ([3, 6, 6], [3, 6])])
def bagApart5.B : List Nat := [0, 1, 3, 7, 0, 0, 48, 127]
theorem bagApart5.tab : rtab .any (opsOf Try.f16 5) = bagApart5.T := by kernel_rfl
theorem bagApart5.bits : waitsOk bagApart5.T.2 bagApart5.B = true := by kernel_rfl
theorem bag_get0 {w W : World} {g mb cb n : Nat} {s : Bg} (h : IsBg w W g mb cb n s) (id : Int) (hid : (Lit.int .i64 id).wf = true) (hf : findM s.l id = none) :
    Calls Try.prog 24 #[.pointer (some ⟨g, 0, none⟩), .int .i64 id] W fun e W' => e = .returned (.tuple #[.agg #[.int .i64 0, .int .i64 0, .int .i64 0, .string ⟨#[]⟩], .int .i64 4]) ∧ Below W.heap.size W W' :=
  bag_get' h id hid noMail 4 (by rw [hf]; rfl) (by rw [hf]; rfl)
def takeB (s : Bg) (id : Int) : Bg × Ml × Int := match findM s.l id with | none => (s, noMail, 4) | some m => if s.cuts.contains (ofP m.fr m.too) = true then (s, noMail, 50) else ({ s with l := dropM s.l id }, m, 0)
def findB (s : Bg) (id : Int) : Ml × Bool := match findM s.l id with | none => (noMail, false) | some m => (m, true)
set_option maxHeartbeats 4000000 in
theorem bag_find_nil (id : Int) (W : World) :
    Calls Try.prog 21 #[.pointer none, .int .i64 id] W fun e W' => e = .returned (.tuple #[mailV noMail, .bool false]) ∧ Below W.heap.size W W' := by
  have hb0 := below_alloc (Below.refl W.heap.size W) (.cells #[.int .i64 0, .int .i64 0, .int .i64 0, .string ⟨#[]⟩] 34)
  have HB := Aside0.mk ((Bx.start W).push #[.int .i64 0, .int .i64 0, .int .i64 0, .string ⟨#[]⟩] 34)
  clear hb0
  go_enter Try.func21, Try.ntmps21
  go_upto_region 1 with (fail)
  generalize W.alloc (.cells #[.int .i64 0, .int .i64 0, .int .i64 0, .string ⟨#[]⟩] 34) = W1 at HB ⊢
  generalize W.heap.size = gz at HB ⊢
  go_upto_region 2 with (go_at_call 24; refine (bag_get_nil' _ _).mono ?_; rintro e w1 ⟨rfl, hb⟩; replace HB := Aside0.mk (HB.out.below hb); clear hb)
  replace HB := Aside0.mk (HB.out.push #[.int .i64 0, .int .i64 0, .int .i64 0, .string ⟨#[]⟩] 34)
  generalize w1.alloc (.cells #[.int .i64 0, .int .i64 0, .int .i64 0, .string ⟨#[]⟩] 34) = W2 at HB ⊢
  generalize w1.heap.size = g6 at HB ⊢
  have x0 : World.cell? _ ⟨gz, 0, none⟩ = some (.int .i64 0) := (blk_cell (HB.out.get 0 rfl) 0).trans rfl
  have xz0 : World.frozen? _ ⟨gz, 0, none⟩ = false := blk_frozen (HB.out.get 0 rfl) 0
  have x1 : World.cell? _ ⟨gz, 1, none⟩ = some (.int .i64 0) := (blk_cell (HB.out.get 0 rfl) 1).trans rfl
  have xz1 : World.frozen? _ ⟨gz, 1, none⟩ = false := blk_frozen (HB.out.get 0 rfl) 1
  have x2 : World.cell? _ ⟨gz, 2, none⟩ = some (.int .i64 0) := (blk_cell (HB.out.get 0 rfl) 2).trans rfl
  have xz2 : World.frozen? _ ⟨gz, 2, none⟩ = false := blk_frozen (HB.out.get 0 rfl) 2
  have x3 : World.cell? _ ⟨gz, 3, none⟩ = some (.string ⟨#[]⟩) := (blk_cell (HB.out.get 0 rfl) 3).trans rfl
  have xz3 : World.frozen? _ ⟨gz, 3, none⟩ = false := blk_frozen (HB.out.get 0 rfl) 3
  have y0 : World.cell? _ ⟨g6, 0, none⟩ = some (.int .i64 0) := (blk_cell (HB.out.get 1 rfl) 0).trans rfl
  have y1 : World.cell? _ ⟨g6, 1, none⟩ = some (.int .i64 0) := (blk_cell (HB.out.get 1 rfl) 1).trans rfl
  have y2 : World.cell? _ ⟨g6, 2, none⟩ = some (.int .i64 0) := (blk_cell (HB.out.get 1 rfl) 2).trans rfl
  have y3 : World.cell? _ ⟨g6, 3, none⟩ = some (.string ⟨#[]⟩) := (blk_cell (HB.out.get 1 rfl) 3).trans rfl
  go_wp2
  replace HB : Aside0 (Bx W ((((W2.setCell ⟨gz, 0, none⟩ (.int .i64 0)).setCell ⟨gz, 1, none⟩ (.int .i64 0)).setCell ⟨gz, 2, none⟩ (.int .i64 0)).setCell ⟨gz, 3, none⟩ (.string ⟨#[]⟩)) [(gz, #[.int .i64 0, .int .i64 0, .int .i64 0, .string ⟨#[]⟩], 34), (g6, #[.int .i64 0, .int .i64 0, .int .i64 0, .string ⟨#[]⟩], 34)]) := ⟨((((HB.out.set 0 0 (.int .i64 0) rfl).set 0 1 (.int .i64 0) rfl).set 0 2 (.int .i64 0) rfl).set 0 3 (.string ⟨#[]⟩) rfl)⟩
  generalize ((((W2.setCell ⟨gz, 0, none⟩ (.int .i64 0)).setCell ⟨gz, 1, none⟩ (.int .i64 0)).setCell ⟨gz, 2, none⟩ (.int .i64 0)).setCell ⟨gz, 3, none⟩ (.string ⟨#[]⟩)) = W9 at HB ⊢
  refine bodyPost_ret (results_ct rfl _ _ gz 34 #[.int .i64 0, .int .i64 0, .int .i64 0, .string ⟨#[]⟩] (0, 0) _ rfl (HB.out.get 0 rfl) Try.underlying34 rfl (by kernel_rfl)) rfl ?_
  exact ⟨rfl, HB.out.bel⟩
set_option maxHeartbeats 4000000 in
theorem bag_take_nil (id : Int) (W : World) :
    Calls Try.prog 12 #[.pointer none, .int .i64 id] W fun e W' => e = .returned (.tuple #[mailV noMail, .int .i64 1]) ∧ Below W.heap.size W W' := by
  have hb0 := below_alloc (Below.refl W.heap.size W) (.cells #[.int .i64 0, .int .i64 0, .int .i64 0, .string ⟨#[]⟩] 34)
  have HB := Aside0.mk ((Bx.start W).push #[.int .i64 0, .int .i64 0, .int .i64 0, .string ⟨#[]⟩] 34)
  clear hb0
  go_enter Try.func12, Try.ntmps12
  go_upto_region 1 with (fail)
  generalize W.alloc (.cells #[.int .i64 0, .int .i64 0, .int .i64 0, .string ⟨#[]⟩] 34) = W1 at HB ⊢
  generalize W.heap.size = gz at HB ⊢
  go_upto_region 2 with (go_at_call 24; refine (bag_get_nil' _ _).mono ?_; rintro e w1 ⟨rfl, hb⟩; replace HB := Aside0.mk (HB.out.below hb); clear hb)
  replace HB := Aside0.mk (HB.out.push #[.int .i64 0, .int .i64 0, .int .i64 0, .string ⟨#[]⟩] 34)
  generalize w1.alloc (.cells #[.int .i64 0, .int .i64 0, .int .i64 0, .string ⟨#[]⟩] 34) = W2 at HB ⊢
  generalize w1.heap.size = g6 at HB ⊢
  have x0 : World.cell? _ ⟨gz, 0, none⟩ = some (.int .i64 0) := (blk_cell (HB.out.get 0 rfl) 0).trans rfl
  have xz0 : World.frozen? _ ⟨gz, 0, none⟩ = false := blk_frozen (HB.out.get 0 rfl) 0
  have x1 : World.cell? _ ⟨gz, 1, none⟩ = some (.int .i64 0) := (blk_cell (HB.out.get 0 rfl) 1).trans rfl
  have xz1 : World.frozen? _ ⟨gz, 1, none⟩ = false := blk_frozen (HB.out.get 0 rfl) 1
  have x2 : World.cell? _ ⟨gz, 2, none⟩ = some (.int .i64 0) := (blk_cell (HB.out.get 0 rfl) 2).trans rfl
  have xz2 : World.frozen? _ ⟨gz, 2, none⟩ = false := blk_frozen (HB.out.get 0 rfl) 2
  have x3 : World.cell? _ ⟨gz, 3, none⟩ = some (.string ⟨#[]⟩) := (blk_cell (HB.out.get 0 rfl) 3).trans rfl
  have xz3 : World.frozen? _ ⟨gz, 3, none⟩ = false := blk_frozen (HB.out.get 0 rfl) 3
  go_wp2
  replace HB : Aside0 (Bx W ((((W2.setCell ⟨gz, 0, none⟩ (.int .i64 0)).setCell ⟨gz, 1, none⟩ (.int .i64 0)).setCell ⟨gz, 2, none⟩ (.int .i64 0)).setCell ⟨gz, 3, none⟩ (.string ⟨#[]⟩)) [(gz, #[.int .i64 0, .int .i64 0, .int .i64 0, .string ⟨#[]⟩], 34), (g6, #[.int .i64 0, .int .i64 0, .int .i64 0, .string ⟨#[]⟩], 34)]) := ⟨((((HB.out.set 0 0 (.int .i64 0) rfl).set 0 1 (.int .i64 0) rfl).set 0 2 (.int .i64 0) rfl).set 0 3 (.string ⟨#[]⟩) rfl)⟩
  generalize ((((W2.setCell ⟨gz, 0, none⟩ (.int .i64 0)).setCell ⟨gz, 1, none⟩ (.int .i64 0)).setCell ⟨gz, 2, none⟩ (.int .i64 0)).setCell ⟨gz, 3, none⟩ (.string ⟨#[]⟩)) = W9 at HB ⊢
  refine bodyPost_ret (results_ct rfl _ _ gz 34 #[.int .i64 0, .int .i64 0, .int .i64 0, .string ⟨#[]⟩] (0, 0) _ rfl (HB.out.get 0 rfl) Try.underlying34 rfl (by kernel_rfl)) rfl ?_
  exact ⟨rfl, HB.out.bel⟩
set_option maxHeartbeats 4000000 in
set_option maxRecDepth 100000 in
theorem bag_find {w W : World} {g mb cb n : Nat} {s : Bg} (h : IsBg w W g mb cb n s) (id : Int) (hid : (Lit.int .i64 id).wf = true) :
    Calls Try.prog 21 #[.pointer (some ⟨g, 0, none⟩), .int .i64 id] W fun e W' => e = .returned (.tuple #[mailV (findB s id).1, .bool (findB s id).2]) ∧ Below W.heap.size W W' := by
  have hb0 := below_alloc (Below.refl W.heap.size W) (.cells #[.int .i64 0, .int .i64 0, .int .i64 0, .string ⟨#[]⟩] 34)
  unfold findB
  have HS := Aside0.mk h
  cases hf : findM s.l id with
  | none =>
    have HG := Aside0.mk (fun W' (hb : Below W.heap.size W W') => bag_get0 (h.below hb) id hid hf)
    clear h hid hf
    go_enter Try.func21, Try.ntmps21
    go_upto_region 1 with (fail)
    replace HG := Aside0.mk (HG.out (W.alloc (.cells #[.int .i64 0, .int .i64 0, .int .i64 0, .string ⟨#[]⟩] 34)) hb0)
    have HB := Aside0.mk ((Bx.start W).push #[.int .i64 0, .int .i64 0, .int .i64 0, .string ⟨#[]⟩] 34)
    replace HS := Aside0.mk (HS.out.below hb0)
    clear hb0
    generalize W.alloc (.cells #[.int .i64 0, .int .i64 0, .int .i64 0, .string ⟨#[]⟩] 34) = W1 at HB HG HS ⊢
    generalize W.heap.size = gz at HB ⊢
    go_upto_region 2 with (go_at_call 24; refine HG.out.mono ?_; rintro e w1 ⟨rfl, hb⟩; replace HB := Aside0.mk (HB.out.below hb); replace HS := Aside0.mk (HS.out.below hb); clear hb)
    have HG6 := Aside0.mk (Nat.ne_of_lt HS.out.lts.2.1)
    replace HS := Aside0.mk (HS.out.below (below_alloc (Below.refl _ _) (.cells #[.int .i64 0, .int .i64 0, .int .i64 0, .string ⟨#[]⟩] 34)))
    replace HB := Aside0.mk (HB.out.push #[.int .i64 0, .int .i64 0, .int .i64 0, .string ⟨#[]⟩] 34)
    clear HG
    generalize w1.alloc (.cells #[.int .i64 0, .int .i64 0, .int .i64 0, .string ⟨#[]⟩] 34) = W2 at HB HS ⊢
    generalize w1.heap.size = g6 at HB HG6 ⊢
    clear HS
    have x0 : World.cell? _ ⟨gz, 0, none⟩ = some (.int .i64 0) := (blk_cell (HB.out.get 0 rfl) 0).trans rfl
    have xz0 : World.frozen? _ ⟨gz, 0, none⟩ = false := blk_frozen (HB.out.get 0 rfl) 0
    have x1 : World.cell? _ ⟨gz, 1, none⟩ = some (.int .i64 0) := (blk_cell (HB.out.get 0 rfl) 1).trans rfl
    have xz1 : World.frozen? _ ⟨gz, 1, none⟩ = false := blk_frozen (HB.out.get 0 rfl) 1
    have x2 : World.cell? _ ⟨gz, 2, none⟩ = some (.int .i64 0) := (blk_cell (HB.out.get 0 rfl) 2).trans rfl
    have xz2 : World.frozen? _ ⟨gz, 2, none⟩ = false := blk_frozen (HB.out.get 0 rfl) 2
    have x3 : World.cell? _ ⟨gz, 3, none⟩ = some (.string ⟨#[]⟩) := (blk_cell (HB.out.get 0 rfl) 3).trans rfl
    have xz3 : World.frozen? _ ⟨gz, 3, none⟩ = false := blk_frozen (HB.out.get 0 rfl) 3
    have y0 : World.cell? _ ⟨g6, 0, none⟩ = some (.int .i64 0) := (blk_cell (HB.out.get 1 rfl) 0).trans rfl
    have y1 : World.cell? _ ⟨g6, 1, none⟩ = some (.int .i64 0) := (blk_cell (HB.out.get 1 rfl) 1).trans rfl
    have y2 : World.cell? _ ⟨g6, 2, none⟩ = some (.int .i64 0) := (blk_cell (HB.out.get 1 rfl) 2).trans rfl
    have y3 : World.cell? _ ⟨g6, 3, none⟩ = some (.string ⟨#[]⟩) := (blk_cell (HB.out.get 1 rfl) 3).trans rfl
    go_wp2
    replace HB : Aside0 (Bx W ((((W2.setCell ⟨gz, 0, none⟩ (.int .i64 0)).setCell ⟨gz, 1, none⟩ (.int .i64 0)).setCell ⟨gz, 2, none⟩ (.int .i64 0)).setCell ⟨gz, 3, none⟩ (.string ⟨#[]⟩)) [(gz, #[.int .i64 0, .int .i64 0, .int .i64 0, .string ⟨#[]⟩], 34), (g6, #[.int .i64 0, .int .i64 0, .int .i64 0, .string ⟨#[]⟩], 34)]) := ⟨((((HB.out.set 0 0 (.int .i64 0) rfl).set 0 1 (.int .i64 0) rfl).set 0 2 (.int .i64 0) rfl).set 0 3 (.string ⟨#[]⟩) rfl)⟩
    generalize ((((W2.setCell ⟨gz, 0, none⟩ (.int .i64 0)).setCell ⟨gz, 1, none⟩ (.int .i64 0)).setCell ⟨gz, 2, none⟩ (.int .i64 0)).setCell ⟨gz, 3, none⟩ (.string ⟨#[]⟩)) = W9 at HB ⊢
    refine bodyPost_ret (results_ct rfl _ _ gz 34 #[.int .i64 0, .int .i64 0, .int .i64 0, .string ⟨#[]⟩] (0, 0) _ rfl (HB.out.get 0 rfl) Try.underlying34 rfl (by kernel_rfl)) rfl ?_
    exact ⟨rfl, HB.out.bel⟩
  | some m =>
    have HG := Aside0.mk (fun W' (hb : Below W.heap.size W W') => bag_get' (h.below hb) id hid m 0 (by rw [hf]; rfl) (by rw [hf]; rfl))
    clear h hid hf
    go_enter Try.func21, Try.ntmps21
    go_upto_region 1 with (fail)
    replace HG := Aside0.mk (HG.out (W.alloc (.cells #[.int .i64 0, .int .i64 0, .int .i64 0, .string ⟨#[]⟩] 34)) hb0)
    have HB := Aside0.mk ((Bx.start W).push #[.int .i64 0, .int .i64 0, .int .i64 0, .string ⟨#[]⟩] 34)
    replace HS := Aside0.mk (HS.out.below hb0)
    clear hb0
    generalize W.alloc (.cells #[.int .i64 0, .int .i64 0, .int .i64 0, .string ⟨#[]⟩] 34) = W1 at HB HG HS ⊢
    generalize W.heap.size = gz at HB ⊢
    go_upto_region 2 with (go_at_call 24; refine HG.out.mono ?_; rintro e w1 ⟨rfl, hb⟩; replace HB := Aside0.mk (HB.out.below hb); replace HS := Aside0.mk (HS.out.below hb); clear hb)
    have HG6 := Aside0.mk (Nat.ne_of_lt HS.out.lts.2.1)
    replace HS := Aside0.mk (HS.out.below (below_alloc (Below.refl _ _) (.cells #[.int .i64 m.id, .int .i64 m.fr, .int .i64 m.too, .string m.t] 34)))
    replace HB := Aside0.mk (HB.out.push #[.int .i64 m.id, .int .i64 m.fr, .int .i64 m.too, .string m.t] 34)
    clear HG
    generalize w1.alloc (.cells #[.int .i64 m.id, .int .i64 m.fr, .int .i64 m.too, .string m.t] 34) = W2 at HB HS ⊢
    generalize w1.heap.size = g6 at HB HG6 ⊢
    clear HS
    have x0 : World.cell? _ ⟨gz, 0, none⟩ = some (.int .i64 0) := (blk_cell (HB.out.get 0 rfl) 0).trans rfl
    have xz0 : World.frozen? _ ⟨gz, 0, none⟩ = false := blk_frozen (HB.out.get 0 rfl) 0
    have x1 : World.cell? _ ⟨gz, 1, none⟩ = some (.int .i64 0) := (blk_cell (HB.out.get 0 rfl) 1).trans rfl
    have xz1 : World.frozen? _ ⟨gz, 1, none⟩ = false := blk_frozen (HB.out.get 0 rfl) 1
    have x2 : World.cell? _ ⟨gz, 2, none⟩ = some (.int .i64 0) := (blk_cell (HB.out.get 0 rfl) 2).trans rfl
    have xz2 : World.frozen? _ ⟨gz, 2, none⟩ = false := blk_frozen (HB.out.get 0 rfl) 2
    have x3 : World.cell? _ ⟨gz, 3, none⟩ = some (.string ⟨#[]⟩) := (blk_cell (HB.out.get 0 rfl) 3).trans rfl
    have xz3 : World.frozen? _ ⟨gz, 3, none⟩ = false := blk_frozen (HB.out.get 0 rfl) 3
    have y0 : World.cell? _ ⟨g6, 0, none⟩ = some (.int .i64 m.id) := (blk_cell (HB.out.get 1 rfl) 0).trans rfl
    have y1 : World.cell? _ ⟨g6, 1, none⟩ = some (.int .i64 m.fr) := (blk_cell (HB.out.get 1 rfl) 1).trans rfl
    have y2 : World.cell? _ ⟨g6, 2, none⟩ = some (.int .i64 m.too) := (blk_cell (HB.out.get 1 rfl) 2).trans rfl
    have y3 : World.cell? _ ⟨g6, 3, none⟩ = some (.string m.t) := (blk_cell (HB.out.get 1 rfl) 3).trans rfl
    go_wp2
    replace HB : Aside0 (Bx W ((((W2.setCell ⟨gz, 0, none⟩ (.int .i64 m.id)).setCell ⟨gz, 1, none⟩ (.int .i64 m.fr)).setCell ⟨gz, 2, none⟩ (.int .i64 m.too)).setCell ⟨gz, 3, none⟩ (.string m.t)) [(gz, #[.int .i64 m.id, .int .i64 m.fr, .int .i64 m.too, .string m.t], 34), (g6, #[.int .i64 m.id, .int .i64 m.fr, .int .i64 m.too, .string m.t], 34)]) := ⟨((((HB.out.set 0 0 (.int .i64 m.id) rfl).set 0 1 (.int .i64 m.fr) rfl).set 0 2 (.int .i64 m.too) rfl).set 0 3 (.string m.t) rfl)⟩
    generalize ((((W2.setCell ⟨gz, 0, none⟩ (.int .i64 m.id)).setCell ⟨gz, 1, none⟩ (.int .i64 m.fr)).setCell ⟨gz, 2, none⟩ (.int .i64 m.too)).setCell ⟨gz, 3, none⟩ (.string m.t)) = W9 at HB ⊢
    refine bodyPost_ret (results_ct rfl _ _ gz 34 #[.int .i64 m.id, .int .i64 m.fr, .int .i64 m.too, .string m.t] (0, 0) _ rfl (HB.out.get 0 rfl) Try.underlying34 rfl (by kernel_rfl)) rfl ?_
    exact ⟨rfl, HB.out.bel⟩

/-! ### the bag: Take, Apart -/
set_option maxHeartbeats 4000000 in
set_option maxRecDepth 100000 in
theorem bag_take_none {w W : World} {g mb cb n : Nat} {s : Bg} (h : IsBg w W g mb cb n s) (id : Int) (hid : (Lit.int .i64 id).wf = true) (hf : findM s.l id = none) :
    Calls Try.prog 12 #[.pointer (some ⟨g, 0, none⟩), .int .i64 id] W fun e W' => e = .returned (.tuple #[mailV noMail, .int .i64 4]) ∧ IsBg w W' g mb cb n s ∧ BgKept W W' g mb cb := by
  have hb0 := below_alloc (Below.refl W.heap.size W) (.cells #[.int .i64 0, .int .i64 0, .int .i64 0, .string ⟨#[]⟩] 34)
  have HS := Aside0.mk h
  have HGz : Aside0 (W.heap.size ≠ g ∧ W.heap.size ≠ mb ∧ W.heap.size ≠ cb ∧ w.heap.size ≤ W.heap.size) := ⟨by have := h.lts; have := h.bel.size; omega⟩
  have HG := Aside0.mk (fun W' (hb : Below W.heap.size W W') => bag_get0 (h.below hb) id hid hf)
  clear h hid hf
  go_enter Try.func12, Try.ntmps12
  go_upto_region 1 with (fail)
  replace HG := Aside0.mk (HG.out (W.alloc (.cells #[.int .i64 0, .int .i64 0, .int .i64 0, .string ⟨#[]⟩] 34)) hb0)
  have HB := Aside0.mk ((Bx.start W).push #[.int .i64 0, .int .i64 0, .int .i64 0, .string ⟨#[]⟩] 34)
  replace HS := Aside0.mk (HS.out.below hb0)
  clear hb0
  generalize W.alloc (.cells #[.int .i64 0, .int .i64 0, .int .i64 0, .string ⟨#[]⟩] 34) = W1 at HB HG HS ⊢
  generalize W.heap.size = gz at HB HGz ⊢
  go_upto_region 2 with (go_at_call 24; refine HG.out.mono ?_; rintro e w1 ⟨rfl, hb⟩; replace HB := Aside0.mk (HB.out.below hb); replace HS := Aside0.mk (HS.out.below hb); clear hb)
  have HG6 := Aside0.mk (Nat.ne_of_lt HS.out.lts.2.1)
  replace HS := Aside0.mk (HS.out.below (below_alloc (Below.refl _ _) (.cells #[.int .i64 0, .int .i64 0, .int .i64 0, .string ⟨#[]⟩] 34)))
  replace HB := Aside0.mk (HB.out.push #[.int .i64 0, .int .i64 0, .int .i64 0, .string ⟨#[]⟩] 34)
  clear HG
  generalize w1.alloc (.cells #[.int .i64 0, .int .i64 0, .int .i64 0, .string ⟨#[]⟩] 34) = W2 at HB HS ⊢
  generalize w1.heap.size = g6 at HB HG6 ⊢
  have x0 : World.cell? _ ⟨gz, 0, none⟩ = some (.int .i64 0) := (blk_cell (HB.out.get 0 rfl) 0).trans rfl
  have xz0 : World.frozen? _ ⟨gz, 0, none⟩ = false := blk_frozen (HB.out.get 0 rfl) 0
  have x1 : World.cell? _ ⟨gz, 1, none⟩ = some (.int .i64 0) := (blk_cell (HB.out.get 0 rfl) 1).trans rfl
  have xz1 : World.frozen? _ ⟨gz, 1, none⟩ = false := blk_frozen (HB.out.get 0 rfl) 1
  have x2 : World.cell? _ ⟨gz, 2, none⟩ = some (.int .i64 0) := (blk_cell (HB.out.get 0 rfl) 2).trans rfl
  have xz2 : World.frozen? _ ⟨gz, 2, none⟩ = false := blk_frozen (HB.out.get 0 rfl) 2
  have x3 : World.cell? _ ⟨gz, 3, none⟩ = some (.string ⟨#[]⟩) := (blk_cell (HB.out.get 0 rfl) 3).trans rfl
  have xz3 : World.frozen? _ ⟨gz, 3, none⟩ = false := blk_frozen (HB.out.get 0 rfl) 3
  go_wp2
  have HSf := Aside0.mk ((((HS.out.setFar HGz.out.2.2.2 ⟨HGz.out.1, HGz.out.2.1, HGz.out.2.2.1⟩ 0 (.int .i64 0)).setFar HGz.out.2.2.2 ⟨HGz.out.1, HGz.out.2.1, HGz.out.2.2.1⟩ 1 (.int .i64 0)).setFar HGz.out.2.2.2 ⟨HGz.out.1, HGz.out.2.1, HGz.out.2.2.1⟩ 2 (.int .i64 0)).setFar HGz.out.2.2.2 ⟨HGz.out.1, HGz.out.2.1, HGz.out.2.2.1⟩ 3 (.string ⟨#[]⟩))
  replace HB : Aside0 (Bx W ((((W2.setCell ⟨gz, 0, none⟩ (.int .i64 0)).setCell ⟨gz, 1, none⟩ (.int .i64 0)).setCell ⟨gz, 2, none⟩ (.int .i64 0)).setCell ⟨gz, 3, none⟩ (.string ⟨#[]⟩)) [(gz, #[.int .i64 0, .int .i64 0, .int .i64 0, .string ⟨#[]⟩], 34), (g6, #[.int .i64 0, .int .i64 0, .int .i64 0, .string ⟨#[]⟩], 34)]) := ⟨((((HB.out.set 0 0 (.int .i64 0) rfl).set 0 1 (.int .i64 0) rfl).set 0 2 (.int .i64 0) rfl).set 0 3 (.string ⟨#[]⟩) rfl)⟩
  clear HS
  generalize ((((W2.setCell ⟨gz, 0, none⟩ (.int .i64 0)).setCell ⟨gz, 1, none⟩ (.int .i64 0)).setCell ⟨gz, 2, none⟩ (.int .i64 0)).setCell ⟨gz, 3, none⟩ (.string ⟨#[]⟩)) = W9 at HB HSf ⊢
  refine bodyPost_ret (results_ct rfl _ _ gz 34 #[.int .i64 0, .int .i64 0, .int .i64 0, .string ⟨#[]⟩] (0, 0) _ rfl (HB.out.get 0 rfl) Try.underlying34 rfl (by kernel_rfl)) rfl ?_
  exact ⟨rfl, HSf.out, BgKept.below HB.out.bel⟩
set_option maxHeartbeats 4000000 in
set_option maxRecDepth 100000 in
theorem bag_take_cut {w W : World} {g mb cb n : Nat} {s : Bg} (h : IsBg w W g mb cb n s) (id : Int) (hid : (Lit.int .i64 id).wf = true) (m : Ml) (hf : findM s.l id = some m) (hc : s.cuts.contains (ofP m.fr m.too) = true) :
    Calls Try.prog 12 #[.pointer (some ⟨g, 0, none⟩), .int .i64 id] W fun e W' => e = .returned (.tuple #[mailV noMail, .int .i64 50]) ∧ IsBg w W' g mb cb n s ∧ BgKept W W' g mb cb := by
  have hb0 := below_alloc (Below.refl W.heap.size W) (.cells #[.int .i64 0, .int .i64 0, .int .i64 0, .string ⟨#[]⟩] 34)
  have HS := Aside0.mk h
  have HGz : Aside0 (W.heap.size ≠ g ∧ W.heap.size ≠ mb ∧ W.heap.size ≠ cb ∧ w.heap.size ≤ W.heap.size) := ⟨by have := h.lts; have := h.bel.size; omega⟩
  have HM : Aside0 (Adr m.fr ∧ Adr m.too ∧ m.t.size ≤ 65536) := ⟨(h.ids m (findM_some hf).1).2.2⟩
  have HC := Aside0.mk hc
  have HBel := Aside0.mk h.bel
  have HKy := Aside0.mk (Maps.keyOf_int_mk (P := Try.prog) (k := 3) (q := .i64) Try.underlying3 hid)
  have HG := Aside0.mk (fun W' (hb : Below W.heap.size W W') => bag_get' (h.below hb) id hid m 0 (by rw [hf]; rfl) (by rw [hf]; rfl))
  clear h hid hf hc
  go_enter Try.func12, Try.ntmps12
  go_upto_region 1 with (fail)
  replace HG := Aside0.mk (HG.out (W.alloc (.cells #[.int .i64 0, .int .i64 0, .int .i64 0, .string ⟨#[]⟩] 34)) hb0)
  have HB := Aside0.mk ((Bx.start W).push #[.int .i64 0, .int .i64 0, .int .i64 0, .string ⟨#[]⟩] 34)
  replace HS := Aside0.mk (HS.out.below hb0)
  clear hb0
  generalize W.alloc (.cells #[.int .i64 0, .int .i64 0, .int .i64 0, .string ⟨#[]⟩] 34) = W1 at HB HG HS ⊢
  generalize W.heap.size = gz at HB HGz ⊢
  go_upto_region 2 with (go_at_call 24; refine HG.out.mono ?_; rintro e w1 ⟨rfl, hb⟩; replace HB := Aside0.mk (HB.out.below hb); replace HS := Aside0.mk (HS.out.below hb); clear hb)
  have HG6 := Aside0.mk (Nat.ne_of_lt HS.out.lts.2.1)
  replace HS := Aside0.mk (HS.out.below (below_alloc (Below.refl _ _) (.cells #[.int .i64 m.id, .int .i64 m.fr, .int .i64 m.too, .string m.t] 34)))
  replace HB := Aside0.mk (HB.out.push #[.int .i64 m.id, .int .i64 m.fr, .int .i64 m.too, .string m.t] 34)
  clear HG
  generalize w1.alloc (.cells #[.int .i64 m.id, .int .i64 m.fr, .int .i64 m.too, .string m.t] 34) = W2 at HB HS ⊢
  generalize w1.heap.size = g6 at HB HG6 ⊢
  go_upto_region 4 with (fail)
  replace HS := Aside0.mk (HS.out.below (below_drew1 (Below.refl _ _)))
  replace HB := Aside0.mk (HB.out.below (below_drew1 (Below.refl _ _)))
  obtain ⟨c0, c1, c2, f1⟩ := HS.out.cells
  have y1 : World.cell? _ ⟨g6, 1, none⟩ = some (.int .i64 m.fr) := (blk_cell (HB.out.get 1 rfl) 1).trans rfl
  have y2 : World.cell? _ ⟨g6, 2, none⟩ = some (.int .i64 m.too) := (blk_cell (HB.out.get 1 rfl) 2).trans rfl
  refine start_ (n := 11) (S := fun w' => w'.cell? ⟨g, 2, none⟩ = some (.map (some cb)) ∧ w'.cell? ⟨g6, 1, none⟩ = some (.int .i64 m.fr) ∧ w'.cell? ⟨g6, 2, none⟩ = some (.int .i64 m.too)) (ds := []) #[false, false, false, false, false, false, false, false, false, false, false] (by kernel_rfl) rfl rfl ⟨c2, y1, y2⟩ (fun hHeld => ?_); refine with_tabW bagTake4.tab bagTake4.bits (fun HT_ HW_ => ?_)
  refine pure_ (i := 0) (N := some 20) (v := ?_) (a' := ?_) #[true, false, false, false, false, false, false, false, false, false, false] rfl rfl (any_of HT_.out (by kernel_rfl)) (fun _ _ _ h => h) (Or.inl ⟨by rfl, ?_⟩) ?_ ?_
  rotate_left
  · intro w'
    go_simp
    with_reducible rfl
  rotate_left
  · simp only [Act.put, List.setIfInBounds_toArray, List.set_cons_zero, List.set_cons_succ, i64_w, i32_w]
    rfl
  refine pure_ (i := 1) (N := some 21) (v := ?_) (a' := ?_) #[true, true, false, false, false, false, false, false, false, false, false] rfl rfl (any_of HT_.out (by kernel_rfl)) (fun _ _ _ h => h) (Or.inl ⟨by rfl, ?_⟩) ?_ ?_
  rotate_left
  · intro w'
    go_simp
    with_reducible rfl
  rotate_left
  · simp only [Act.put, List.setIfInBounds_toArray, List.set_cons_zero, List.set_cons_succ, i64_w, i32_w]
    rfl
  refine pure_ (i := 2) (N := some 22) (v := ?_) (a' := ?_) #[true, true, true, false, false, false, false, false, false, false, false] rfl rfl (any_of HT_.out (by kernel_rfl)) (fun _ _ _ h => h) (Or.inl ⟨by rfl, ?_⟩) ?_ ?_
  rotate_left
  · intro w'
    go_simp
    with_reducible rfl
  rotate_left
  · simp only [Act.put, List.setIfInBounds_toArray, List.set_cons_zero, List.set_cons_succ, i64_w, i32_w]
    rfl
  refine take_ (i := 3) (N := some 23) (v := ?_) (a' := ?_) #[true, true, true, true, false, false, false, false, false, false, false] rfl rfl (take_ofW HT_.out HW_.out (by kernel_rfl)) (fun _ _ _ h => h) (Or.inl ⟨by rfl, ?_⟩) hHeld ?_ ?_
  rotate_left
  · rintro w' ⟨s0, s1, s2⟩
    go_simp
    with_reducible rfl
  rotate_left
  · simp only [Act.put, List.setIfInBounds_toArray, List.set_cons_zero, List.set_cons_succ, i64_w, i32_w]
    rfl
  refine pure_ (i := 4) (N := some 24) (v := ?_) (a' := ?_) #[true, true, true, true, true, false, false, false, false, false, false] rfl rfl (any_of HT_.out (by kernel_rfl)) (fun _ _ _ h => h) (Or.inl ⟨by rfl, ?_⟩) ?_ ?_
  rotate_left
  · intro w'
    go_simp
    with_reducible rfl
  rotate_left
  · simp only [Act.put, List.setIfInBounds_toArray, List.set_cons_zero, List.set_cons_succ, i64_w, i32_w]
    rfl
  refine take_ (i := 5) (N := some 25) (v := ?_) (a' := ?_) #[true, true, true, true, true, true, false, false, false, false, false] rfl rfl (take_ofW HT_.out HW_.out (by kernel_rfl)) (fun _ _ _ h => h) (Or.inl ⟨by rfl, ?_⟩) hHeld ?_ ?_
  rotate_left
  · rintro w' ⟨s0, s1, s2⟩
    go_simp
    with_reducible rfl
  rotate_left
  · simp only [Act.put, List.setIfInBounds_toArray, List.set_cons_zero, List.set_cons_succ, i64_w, i32_w]
    rfl
  refine pure_ (i := 6) (N := some 26) (v := ?_) (a' := ?_) #[true, true, true, true, true, true, true, false, false, false, false] rfl rfl (any_of HT_.out (by kernel_rfl)) (fun _ _ _ h => h) (Or.inl ⟨by rfl, ?_⟩) ?_ ?_
  rotate_left
  · intro w'
    go_simp
    with_reducible rfl
  rotate_left
  · simp only [Act.put, List.setIfInBounds_toArray, List.set_cons_zero, List.set_cons_succ, i64_w, i32_w]
    rfl
  refine take_ (i := 7) (N := some 27) (v := ?_) (a' := ?_) #[true, true, true, true, true, true, true, true, false, false, false] rfl rfl (take_ofW HT_.out HW_.out (by kernel_rfl)) (fun _ _ _ h => h) (Or.inl ⟨by rfl, ?_⟩) hHeld ?_ ?_
  rotate_left
  · rintro w' ⟨s0, s1, s2⟩
    go_simp
    with_reducible rfl
  rotate_left
  · simp only [Act.put, List.setIfInBounds_toArray, List.set_cons_zero, List.set_cons_succ, i64_w, i32_w]
    rfl
  refine one_ (i := 8) (N := some 28) #[true, true, true, true, true, true, true, true, true, false, false] rfl rfl (one_of HT_.out (by kernel_rfl)) (by decide) (fun K hK => ?_)
  refine goes_ Try.func25 (by kernel_rfl) rfl #[.int .i64 m.fr, .int .i64 m.too] (by rfl) rfl rfl (by (try simp only [List.map_toArray, List.map_cons, List.map_nil]); first | done | rfl) ?_
  with_reducible refine (bag_of m.fr m.too _).mono ?_
  rintro e w6 ⟨rfl, hb⟩
  refine ⟨_, rfl, ?_⟩
  replace HS := Aside0.mk (HS.out.below hb)
  replace HB := Aside0.mk (HB.out.below hb)
  refine hK.out _ _ ⟨cell_below hb (hHeld.1), cell_below hb (hHeld.2.1), cell_below hb (hHeld.2.2)⟩ (fun hHeld => ?_)
  clear hK K hb
  refine norm_ (a' := ?_) ?_ ?_
  rotate_left
  · show Act.put _ (some 28) _ = _
    simp only [Act.put, List.setIfInBounds_toArray, List.set_cons_zero, List.set_cons_succ, i64_w, i32_w]
    rfl
  refine one_ (i := 9) (N := some 29) #[true, true, true, true, true, true, true, true, true, true, false] rfl rfl (one_of HT_.out (by kernel_rfl)) (by decide) (fun K hK => ?_)
  have hcut := HS.out.cutAt HM.out.1 HM.out.2.1
  rw [HC.out] at hcut
  refine look_ _ _ _ _ (by rfl) rfl rfl _ _ _ rfl rfl hcut ?_
  refine hK.out _ _ hHeld (fun hHeld => ?_)
  clear hK K hcut
  refine norm_ (a' := ?_) ?_ ?_
  rotate_left
  · show Act.put _ (some 29) _ = _
    simp only [Act.put, List.setIfInBounds_toArray, List.set_cons_zero, List.set_cons_succ, i64_w, i32_w]
    rfl
  refine pure_ (i := 10) (N := some 19) (v := ?_) (a' := ?_) #[true, true, true, true, true, true, true, true, true, true, true] rfl rfl (any_of HT_.out (by kernel_rfl)) (fun _ _ _ h => h) (Or.inl ⟨by rfl, ?_⟩) ?_ ?_
  rotate_left
  · intro w'
    go_simp
    with_reducible rfl
  rotate_left
  · simp only [Act.put, List.setIfInBounds_toArray, List.set_cons_zero, List.set_cons_succ, i64_w, i32_w]
    rfl
  refine done_ (done_of HT_.out (by kernel_rfl)) ?_
  clear HT_ HW_ hHeld
  clear c0 c1 c2 f1 y1 y2
  generalize hw6 : w6 = W6 at HB HS ⊢
  clear hw6
  have x0 : World.cell? _ ⟨gz, 0, none⟩ = some (.int .i64 0) := (blk_cell (HB.out.get 0 rfl) 0).trans rfl
  have xz0 : World.frozen? _ ⟨gz, 0, none⟩ = false := blk_frozen (HB.out.get 0 rfl) 0
  have x1 : World.cell? _ ⟨gz, 1, none⟩ = some (.int .i64 0) := (blk_cell (HB.out.get 0 rfl) 1).trans rfl
  have xz1 : World.frozen? _ ⟨gz, 1, none⟩ = false := blk_frozen (HB.out.get 0 rfl) 1
  have x2 : World.cell? _ ⟨gz, 2, none⟩ = some (.int .i64 0) := (blk_cell (HB.out.get 0 rfl) 2).trans rfl
  have xz2 : World.frozen? _ ⟨gz, 2, none⟩ = false := blk_frozen (HB.out.get 0 rfl) 2
  have x3 : World.cell? _ ⟨gz, 3, none⟩ = some (.string ⟨#[]⟩) := (blk_cell (HB.out.get 0 rfl) 3).trans rfl
  have xz3 : World.frozen? _ ⟨gz, 3, none⟩ = false := blk_frozen (HB.out.get 0 rfl) 3
  go_wp2
  have HSf := Aside0.mk ((((HS.out.setFar HGz.out.2.2.2 ⟨HGz.out.1, HGz.out.2.1, HGz.out.2.2.1⟩ 0 (.int .i64 0)).setFar HGz.out.2.2.2 ⟨HGz.out.1, HGz.out.2.1, HGz.out.2.2.1⟩ 1 (.int .i64 0)).setFar HGz.out.2.2.2 ⟨HGz.out.1, HGz.out.2.1, HGz.out.2.2.1⟩ 2 (.int .i64 0)).setFar HGz.out.2.2.2 ⟨HGz.out.1, HGz.out.2.1, HGz.out.2.2.1⟩ 3 (.string ⟨#[]⟩))
  replace HB : Aside0 (Bx W ((((W6.setCell ⟨gz, 0, none⟩ (.int .i64 0)).setCell ⟨gz, 1, none⟩ (.int .i64 0)).setCell ⟨gz, 2, none⟩ (.int .i64 0)).setCell ⟨gz, 3, none⟩ (.string ⟨#[]⟩)) [(gz, #[.int .i64 0, .int .i64 0, .int .i64 0, .string ⟨#[]⟩], 34), (g6, #[.int .i64 m.id, .int .i64 m.fr, .int .i64 m.too, .string m.t], 34)]) := ⟨((((HB.out.set 0 0 (.int .i64 0) rfl).set 0 1 (.int .i64 0) rfl).set 0 2 (.int .i64 0) rfl).set 0 3 (.string ⟨#[]⟩) rfl)⟩
  clear HS
  generalize ((((W6.setCell ⟨gz, 0, none⟩ (.int .i64 0)).setCell ⟨gz, 1, none⟩ (.int .i64 0)).setCell ⟨gz, 2, none⟩ (.int .i64 0)).setCell ⟨gz, 3, none⟩ (.string ⟨#[]⟩)) = W9 at HB HSf ⊢
  refine bodyPost_ret (results_ct rfl _ _ gz 34 #[.int .i64 0, .int .i64 0, .int .i64 0, .string ⟨#[]⟩] (0, 0) _ rfl (HB.out.get 0 rfl) Try.underlying34 rfl (by kernel_rfl)) rfl ?_
  exact ⟨rfl, HSf.out, BgKept.below HB.out.bel⟩
set_option maxHeartbeats 4000000 in
set_option maxRecDepth 100000 in
theorem bag_take_yes {w W : World} {g mb cb n : Nat} {s : Bg} (h : IsBg w W g mb cb n s) (id : Int) (hid : (Lit.int .i64 id).wf = true) (m : Ml) (hf : findM s.l id = some m) (hc : s.cuts.contains (ofP m.fr m.too) = false) :
    Calls Try.prog 12 #[.pointer (some ⟨g, 0, none⟩), .int .i64 id] W fun e W' => e = .returned (.tuple #[mailV m, .int .i64 0]) ∧ IsBg w W' g mb cb n { s with l := dropM s.l id } ∧ BgKept W W' g mb cb := by
  have hb0 := below_alloc (Below.refl W.heap.size W) (.cells #[.int .i64 0, .int .i64 0, .int .i64 0, .string ⟨#[]⟩] 34)
  have HS := Aside0.mk h
  have HGz : Aside0 (W.heap.size ≠ g ∧ W.heap.size ≠ mb ∧ W.heap.size ≠ cb ∧ w.heap.size ≤ W.heap.size) := ⟨by have := h.lts; have := h.bel.size; omega⟩
  have HM : Aside0 (Adr m.fr ∧ Adr m.too ∧ m.t.size ≤ 65536) := ⟨(h.ids m (findM_some hf).1).2.2⟩
  have HC := Aside0.mk hc
  have HBel := Aside0.mk h.bel
  have HKy := Aside0.mk (Maps.keyOf_int_mk (P := Try.prog) (k := 3) (q := .i64) Try.underlying3 hid)
  have HG := Aside0.mk (fun W' (hb : Below W.heap.size W W') => bag_get' (h.below hb) id hid m 0 (by rw [hf]; rfl) (by rw [hf]; rfl))
  clear h hid hf hc
  go_enter Try.func12, Try.ntmps12
  go_upto_region 1 with (fail)
  replace HG := Aside0.mk (HG.out (W.alloc (.cells #[.int .i64 0, .int .i64 0, .int .i64 0, .string ⟨#[]⟩] 34)) hb0)
  have HB := Aside0.mk ((Bx.start W).push #[.int .i64 0, .int .i64 0, .int .i64 0, .string ⟨#[]⟩] 34)
  replace HS := Aside0.mk (HS.out.below hb0)
  clear hb0
  generalize W.alloc (.cells #[.int .i64 0, .int .i64 0, .int .i64 0, .string ⟨#[]⟩] 34) = W1 at HB HG HS ⊢
  generalize W.heap.size = gz at HB HGz ⊢
  go_upto_region 2 with (go_at_call 24; refine HG.out.mono ?_; rintro e w1 ⟨rfl, hb⟩; replace HB := Aside0.mk (HB.out.below hb); replace HS := Aside0.mk (HS.out.below hb); clear hb)
  have HG6 := Aside0.mk (Nat.ne_of_lt HS.out.lts.2.1)
  replace HS := Aside0.mk (HS.out.below (below_alloc (Below.refl _ _) (.cells #[.int .i64 m.id, .int .i64 m.fr, .int .i64 m.too, .string m.t] 34)))
  replace HB := Aside0.mk (HB.out.push #[.int .i64 m.id, .int .i64 m.fr, .int .i64 m.too, .string m.t] 34)
  clear HG
  generalize w1.alloc (.cells #[.int .i64 m.id, .int .i64 m.fr, .int .i64 m.too, .string m.t] 34) = W2 at HB HS ⊢
  generalize w1.heap.size = g6 at HB HG6 ⊢
  go_upto_region 4 with (fail)
  replace HS := Aside0.mk (HS.out.below (below_drew1 (Below.refl _ _)))
  replace HB := Aside0.mk (HB.out.below (below_drew1 (Below.refl _ _)))
  obtain ⟨c0, c1, c2, f1⟩ := HS.out.cells
  have y1 : World.cell? _ ⟨g6, 1, none⟩ = some (.int .i64 m.fr) := (blk_cell (HB.out.get 1 rfl) 1).trans rfl
  have y2 : World.cell? _ ⟨g6, 2, none⟩ = some (.int .i64 m.too) := (blk_cell (HB.out.get 1 rfl) 2).trans rfl
  refine start_ (n := 11) (S := fun w' => w'.cell? ⟨g, 2, none⟩ = some (.map (some cb)) ∧ w'.cell? ⟨g6, 1, none⟩ = some (.int .i64 m.fr) ∧ w'.cell? ⟨g6, 2, none⟩ = some (.int .i64 m.too)) (ds := []) #[false, false, false, false, false, false, false, false, false, false, false] (by kernel_rfl) rfl rfl ⟨c2, y1, y2⟩ (fun hHeld => ?_); refine with_tabW bagTake4.tab bagTake4.bits (fun HT_ HW_ => ?_)
  refine pure_ (i := 0) (N := some 20) (v := ?_) (a' := ?_) #[true, false, false, false, false, false, false, false, false, false, false] rfl rfl (any_of HT_.out (by kernel_rfl)) (fun _ _ _ h => h) (Or.inl ⟨by rfl, ?_⟩) ?_ ?_
  rotate_left
  · intro w'
    go_simp
    with_reducible rfl
  rotate_left
  · simp only [Act.put, List.setIfInBounds_toArray, List.set_cons_zero, List.set_cons_succ, i64_w, i32_w]
    rfl
  refine pure_ (i := 1) (N := some 21) (v := ?_) (a' := ?_) #[true, true, false, false, false, false, false, false, false, false, false] rfl rfl (any_of HT_.out (by kernel_rfl)) (fun _ _ _ h => h) (Or.inl ⟨by rfl, ?_⟩) ?_ ?_
  rotate_left
  · intro w'
    go_simp
    with_reducible rfl
  rotate_left
  · simp only [Act.put, List.setIfInBounds_toArray, List.set_cons_zero, List.set_cons_succ, i64_w, i32_w]
    rfl
  refine pure_ (i := 2) (N := some 22) (v := ?_) (a' := ?_) #[true, true, true, false, false, false, false, false, false, false, false] rfl rfl (any_of HT_.out (by kernel_rfl)) (fun _ _ _ h => h) (Or.inl ⟨by rfl, ?_⟩) ?_ ?_
  rotate_left
  · intro w'
    go_simp
    with_reducible rfl
  rotate_left
  · simp only [Act.put, List.setIfInBounds_toArray, List.set_cons_zero, List.set_cons_succ, i64_w, i32_w]
    rfl
  refine take_ (i := 3) (N := some 23) (v := ?_) (a' := ?_) #[true, true, true, true, false, false, false, false, false, false, false] rfl rfl (take_ofW HT_.out HW_.out (by kernel_rfl)) (fun _ _ _ h => h) (Or.inl ⟨by rfl, ?_⟩) hHeld ?_ ?_
  rotate_left
  · rintro w' ⟨s0, s1, s2⟩
    go_simp
    with_reducible rfl
  rotate_left
  · simp only [Act.put, List.setIfInBounds_toArray, List.set_cons_zero, List.set_cons_succ, i64_w, i32_w]
    rfl
  refine pure_ (i := 4) (N := some 24) (v := ?_) (a' := ?_) #[true, true, true, true, true, false, false, false, false, false, false] rfl rfl (any_of HT_.out (by kernel_rfl)) (fun _ _ _ h => h) (Or.inl ⟨by rfl, ?_⟩) ?_ ?_
  rotate_left
  · intro w'
    go_simp
    with_reducible rfl
  rotate_left
  · simp only [Act.put, List.setIfInBounds_toArray, List.set_cons_zero, List.set_cons_succ, i64_w, i32_w]
    rfl
  refine take_ (i := 5) (N := some 25) (v := ?_) (a' := ?_) #[true, true, true, true, true, true, false, false, false, false, false] rfl rfl (take_ofW HT_.out HW_.out (by kernel_rfl)) (fun _ _ _ h => h) (Or.inl ⟨by rfl, ?_⟩) hHeld ?_ ?_
  rotate_left
  · rintro w' ⟨s0, s1, s2⟩
    go_simp
    with_reducible rfl
  rotate_left
  · simp only [Act.put, List.setIfInBounds_toArray, List.set_cons_zero, List.set_cons_succ, i64_w, i32_w]
    rfl
  refine pure_ (i := 6) (N := some 26) (v := ?_) (a' := ?_) #[true, true, true, true, true, true, true, false, false, false, false] rfl rfl (any_of HT_.out (by kernel_rfl)) (fun _ _ _ h => h) (Or.inl ⟨by rfl, ?_⟩) ?_ ?_
  rotate_left
  · intro w'
    go_simp
    with_reducible rfl
  rotate_left
  · simp only [Act.put, List.setIfInBounds_toArray, List.set_cons_zero, List.set_cons_succ, i64_w, i32_w]
    rfl
  refine take_ (i := 7) (N := some 27) (v := ?_) (a' := ?_) #[true, true, true, true, true, true, true, true, false, false, false] rfl rfl (take_ofW HT_.out HW_.out (by kernel_rfl)) (fun _ _ _ h => h) (Or.inl ⟨by rfl, ?_⟩) hHeld ?_ ?_
  rotate_left
  · rintro w' ⟨s0, s1, s2⟩
    go_simp
    with_reducible rfl
  rotate_left
  · simp only [Act.put, List.setIfInBounds_toArray, List.set_cons_zero, List.set_cons_succ, i64_w, i32_w]
    rfl
  refine one_ (i := 8) (N := some 28) #[true, true, true, true, true, true, true, true, true, false, false] rfl rfl (one_of HT_.out (by kernel_rfl)) (by decide) (fun K hK => ?_)
  refine goes_ Try.func25 (by kernel_rfl) rfl #[.int .i64 m.fr, .int .i64 m.too] (by rfl) rfl rfl (by (try simp only [List.map_toArray, List.map_cons, List.map_nil]); first | done | rfl) ?_
  with_reducible refine (bag_of m.fr m.too _).mono ?_
  rintro e w6 ⟨rfl, hb⟩
  refine ⟨_, rfl, ?_⟩
  replace HS := Aside0.mk (HS.out.below hb)
  replace HB := Aside0.mk (HB.out.below hb)
  refine hK.out _ _ ⟨cell_below hb (hHeld.1), cell_below hb (hHeld.2.1), cell_below hb (hHeld.2.2)⟩ (fun hHeld => ?_)
  clear hK K hb
  refine norm_ (a' := ?_) ?_ ?_
  rotate_left
  · show Act.put _ (some 28) _ = _
    simp only [Act.put, List.setIfInBounds_toArray, List.set_cons_zero, List.set_cons_succ, i64_w, i32_w]
    rfl
  refine one_ (i := 9) (N := some 29) #[true, true, true, true, true, true, true, true, true, true, false] rfl rfl (one_of HT_.out (by kernel_rfl)) (by decide) (fun K hK => ?_)
  have hcut := HS.out.cutAt HM.out.1 HM.out.2.1
  rw [HC.out] at hcut
  refine look_ _ _ _ _ (by rfl) rfl rfl _ _ _ rfl rfl hcut ?_
  refine hK.out _ _ hHeld (fun hHeld => ?_)
  clear hK K hcut
  refine norm_ (a' := ?_) ?_ ?_
  rotate_left
  · show Act.put _ (some 29) _ = _
    simp only [Act.put, List.setIfInBounds_toArray, List.set_cons_zero, List.set_cons_succ, i64_w, i32_w]
    rfl
  refine pure_ (i := 10) (N := some 19) (v := ?_) (a' := ?_) #[true, true, true, true, true, true, true, true, true, true, true] rfl rfl (any_of HT_.out (by kernel_rfl)) (fun _ _ _ h => h) (Or.inl ⟨by rfl, ?_⟩) ?_ ?_
  rotate_left
  · intro w'
    go_simp
    with_reducible rfl
  rotate_left
  · simp only [Act.put, List.setIfInBounds_toArray, List.set_cons_zero, List.set_cons_succ, i64_w, i32_w]
    rfl
  refine done_ (done_of HT_.out (by kernel_rfl)) ?_
  clear HT_ HW_ hHeld
  clear c0 c1 c2 f1 y1 y2
  generalize hw6 : w6 = W6 at HB HS ⊢
  clear hw6
  obtain ⟨c0, c1, c2, f1⟩ := HS.out.cells
  obtain ⟨D, hown, hA⟩ := HS.out.map
  have HO := Aside0.mk hown
  have HA := Aside0.mk hA
  clear hown hA
  have HBn := Aside0.mk (HB.out.lt _ (List.mem_of_getElem? (i := 0) rfl))
  have HBm := Aside0.mk (HB.out.lt _ (List.mem_of_getElem? (i := 1) rfl))
  go_upto_region 7 with (at_delete; have hown := HO.out; refine wpList_delete_own _ rfl _ _ 58 3 rfl 34 (Maps.int_keyed Try.underlying3) Try.underlying58 _ mb n D rfl hown _ (.int .i64 id) rfl HKy.out ?_; intro w3 hown1 hturn1; obtain ⟨hs, hk⟩ := HS.out.delL hown HA.out id hown1 hturn1.grown; replace HS := Aside0.mk hs; have HK3 := Aside0.mk hk; have HT3 := Aside0.mk hturn1.grown; clear hown hown1 hturn1 hs hk c0 c1 c2 f1)
  have HKw := Aside0.mk ((BgKept.below (g := g) (rb := mb) (mb := cb) HB.out.bel).trans HK3.out)
  have HGe := Aside0.mk (HB.out.ge 0 rfl)
  replace HB := Aside0.mk ((HB.out.rebase HBel.out).grownAt HT3.out HS.out.m1 (by
    intro e he
    simp only [List.nil_append, List.cons_append, List.mem_cons, List.not_mem_nil, or_false] at he
    rcases he with rfl | rfl
    · exact HGz.out.2.1
    · exact fun q => HG6.out q.symm))
  clear HK3 HT3 HBn HBm HA HO
  have x0 : World.cell? _ ⟨gz, 0, none⟩ = some (.int .i64 0) := (blk_cell (HB.out.get 0 rfl) 0).trans rfl
  have xz0 : World.frozen? _ ⟨gz, 0, none⟩ = false := blk_frozen (HB.out.get 0 rfl) 0
  have x1 : World.cell? _ ⟨gz, 1, none⟩ = some (.int .i64 0) := (blk_cell (HB.out.get 0 rfl) 1).trans rfl
  have xz1 : World.frozen? _ ⟨gz, 1, none⟩ = false := blk_frozen (HB.out.get 0 rfl) 1
  have x2 : World.cell? _ ⟨gz, 2, none⟩ = some (.int .i64 0) := (blk_cell (HB.out.get 0 rfl) 2).trans rfl
  have xz2 : World.frozen? _ ⟨gz, 2, none⟩ = false := blk_frozen (HB.out.get 0 rfl) 2
  have x3 : World.cell? _ ⟨gz, 3, none⟩ = some (.string ⟨#[]⟩) := (blk_cell (HB.out.get 0 rfl) 3).trans rfl
  have xz3 : World.frozen? _ ⟨gz, 3, none⟩ = false := blk_frozen (HB.out.get 0 rfl) 3
  have y0 : World.cell? _ ⟨g6, 0, none⟩ = some (.int .i64 m.id) := (blk_cell (HB.out.get 1 rfl) 0).trans rfl
  have y1 : World.cell? _ ⟨g6, 1, none⟩ = some (.int .i64 m.fr) := (blk_cell (HB.out.get 1 rfl) 1).trans rfl
  have y2 : World.cell? _ ⟨g6, 2, none⟩ = some (.int .i64 m.too) := (blk_cell (HB.out.get 1 rfl) 2).trans rfl
  have y3 : World.cell? _ ⟨g6, 3, none⟩ = some (.string m.t) := (blk_cell (HB.out.get 1 rfl) 3).trans rfl
  go_wp2
  have HSf := Aside0.mk ((((HS.out.setFar HGz.out.2.2.2 ⟨HGz.out.1, HGz.out.2.1, HGz.out.2.2.1⟩ 0 (.int .i64 m.id)).setFar HGz.out.2.2.2 ⟨HGz.out.1, HGz.out.2.1, HGz.out.2.2.1⟩ 1 (.int .i64 m.fr)).setFar HGz.out.2.2.2 ⟨HGz.out.1, HGz.out.2.1, HGz.out.2.2.1⟩ 2 (.int .i64 m.too)).setFar HGz.out.2.2.2 ⟨HGz.out.1, HGz.out.2.1, HGz.out.2.2.1⟩ 3 (.string m.t))
  replace HB : Aside0 (Bx w ((((w3.setCell ⟨gz, 0, none⟩ (.int .i64 m.id)).setCell ⟨gz, 1, none⟩ (.int .i64 m.fr)).setCell ⟨gz, 2, none⟩ (.int .i64 m.too)).setCell ⟨gz, 3, none⟩ (.string m.t)) [(gz, #[.int .i64 m.id, .int .i64 m.fr, .int .i64 m.too, .string m.t], 34), (g6, #[.int .i64 m.id, .int .i64 m.fr, .int .i64 m.too, .string m.t], 34)]) := ⟨((((HB.out.set 0 0 (.int .i64 m.id) rfl).set 0 1 (.int .i64 m.fr) rfl).set 0 2 (.int .i64 m.too) rfl).set 0 3 (.string m.t) rfl)⟩
  have HKf := Aside0.mk ((((HKw.out.setNew HGe.out 0 (.int .i64 m.id)).setNew HGe.out 1 (.int .i64 m.fr)).setNew HGe.out 2 (.int .i64 m.too)).setNew HGe.out 3 (.string m.t))
  clear HS HKw
  generalize ((((w3.setCell ⟨gz, 0, none⟩ (.int .i64 m.id)).setCell ⟨gz, 1, none⟩ (.int .i64 m.fr)).setCell ⟨gz, 2, none⟩ (.int .i64 m.too)).setCell ⟨gz, 3, none⟩ (.string m.t)) = W9 at HB HSf HKf ⊢
  refine bodyPost_ret (results_ct rfl _ _ gz 34 #[.int .i64 m.id, .int .i64 m.fr, .int .i64 m.too, .string m.t] (0, 0) _ rfl (HB.out.get 0 rfl) Try.underlying34 rfl (by kernel_rfl)) rfl ?_
  exact ⟨rfl, HSf.out, HKf.out⟩

end Go.Proofs.Ytppoahccmcnenaa.PA
