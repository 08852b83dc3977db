-- written by a program of this session
import Derived.Test.YtbhlphadcphapaaPRx0
import Derived.Test.YtbhlphadcphapaaPRx4
import Derived.Test.YtbhlphadcphapaaPRx11
namespace Go.Proofs.Ytbhlphadcphapaa.PR
open Go.RowKit Go.Proofs.Ytbhlphadcphapaa.Op Go.Proofs.YtbhlphadcphapaaW.PrintWords Go.Proofs.YtbhlphadcphapaaW.PrintLast Go.Proofs.YtbhlphadcphapaaW.PrintMore
attribute [local go_sem] max2_int min2_int max_two min_two max_three min_three max_four min_four   -- for this text's walks alone
set_option linter.unusedVariables false
set_option linter.unusedSimpArgs false

/-! ### chart_Text: function 38 (a strings.Builder within: by hand) -/
def chart_Text.l0 : Nat → List (S57) → ByteArray → Int → Option (ByteArray)
  | 0, _, _, _ => none
  | k + 1, l, acc, i => if i < (l.length : Int) then (if 0 ≤ i then ((vint_Num.f k (rd_T57 l i).f0).bind fun p => (vint_Num.f k (rd_T57 l i).f1.f1).bind fun q => (vint_Num.f k (rd_T57 l i).f2).bind fun u => if p.size + q.size + u.size ≤ 1000 then (if acc.size + 1000 ≤ 140737488355328 then chart_Text.l0 k l (acc ++ (p ++ q ++ u)) (wrap64 (i + 1)) else none) else none) else none) else some acc
def chart_Text.f (k : Nat) (a0_0 : Int) (a0_1 : Int) (l0_2 : List (S57)) : Option (ByteArray) :=
  (chart_Check.f k a0_0 a0_1 l0_2).bind fun t => if t = true then ((vint_Num.f k a0_0).bind fun x => (vint_Num.f k a0_1).bind fun y => (vint_Num.f k (l0_2.length : Int)).bind fun z => if x.size + y.size + z.size ≤ 1000 then chart_Text.l0 k l0_2 (x ++ y ++ z) 0 else none) else some (⟨#[]⟩ : ByteArray)
theorem chart_Text.mono_l : ∀ k, (∀ y0 y1 y2, LeO (chart_Text.l0 k y0 y1 y2) (chart_Text.l0 (k + 1) y0 y1 y2))
  | 0 => fun _ _ _ r h => by simp [chart_Text.l0] at h
  | k + 1 => by
    have ih0 := chart_Text.mono_l k
    intro y0 y1 y2
    unfold chart_Text.l0
    repeat' first
      | (with_reducible exact ih0 _ _ _)
      | (with_reducible exact LeO.refl _)
      | (with_reducible exact LeO.none _)
      | (with_reducible exact vint_Num.mono _ _)
      | (with_reducible refine LeO.ite ?_ ?_)
      | (with_reducible refine LeO.bind ?_ (fun _ => ?_))
theorem chart_Text.mono : ∀ a0 a1 a2 k, LeO (chart_Text.f k a0 a1 a2) (chart_Text.f (k + 1) a0 a1 a2) := by
  intro a0 a1 a2 k
  have ih0 := chart_Text.mono_l k
  unfold chart_Text.f
  repeat' first
      | (with_reducible exact ih0 _ _ _)
      | (with_reducible exact LeO.refl _)
      | (with_reducible exact LeO.none _)
      | (with_reducible exact vint_Num.mono _ _)
      | (with_reducible exact chart_Check.mono _ _ _ _)
      | (with_reducible refine LeO.ite ?_ ?_)
      | (with_reducible refine LeO.bind ?_ (fun _ => ?_))
theorem txt_cat (a b : ByteArray) : Lib.strCells a ++ Lib.strCells b = Lib.strCells (a ++ b) := by
  simp [Lib.strCells, ByteArray.data_append]
/-- what is written after i of the three numbers -/
def txtAcc (x y z : ByteArray) : Nat → ByteArray
  | 0 => ⟨#[]⟩
  | 1 => ⟨#[]⟩ ++ x
  | 2 => ⟨#[]⟩ ++ x ++ y
  | _ => ⟨#[]⟩ ++ x ++ y ++ z
theorem txt_len (x y z : ByteArray) (i : Nat) : (txtAcc x y z i).size ≤ x.size + y.size + z.size := by
  have e : (⟨#[]⟩ : ByteArray).size = 0 := rfl
  unfold txtAcc
  split <;> simp only [ByteArray.size_append, e] <;> omega
theorem txt3 (x y z : ByteArray) : txtAcc x y z 3 = x ++ y ++ z := by
  apply ByteArray.ext
  simp [txtAcc, ByteArray.data_append]
/-- what lies in memory: c, the builder, the row of three numbers -/
structure TxS (w W : World) (b g : Nat) (cc cg : Array Value) (acc : ByteArray) : Prop where
  c : W.heap[w.heap.size]? = some (.cells cc 24 (0, 0))
  g_ : W.heap[g]? = some (.cells cg 3 (0, 0))
  B : Lib.IsBuilder 105 5 b b (Lib.strCells acc) W
  wb : w.heap.size < b
  bg : g ≠ b
  bW : b < W.heap.size
  bel : Below w.heap.size w W
section
variable {w W W' : World} {b g : Nat} {cc cg : Array Value} {acc acc' : ByteArray}
theorem TxS.below (h : TxS w W b g cc cg acc) (hb : Below W.heap.size W W') : TxS w W' b g cc cg acc :=
  ⟨blk_below h.c hb, blk_below h.g_ hb, bd_below h.B hb, h.wb, h.bg, Nat.lt_of_lt_of_le h.bW hb.size, h.bel.trans (hb.mono h.bel.size)⟩
theorem TxS.wrote (h : TxS w W b g cc cg acc) (hB : Lib.IsBuilder 105 5 b b (Lib.strCells acc') W') (hb : Below b W W') (hk : BdKeep W W' b) : TxS w W' b g cc cg acc' :=
  ⟨(hb.block _ h.wb).trans h.c, hk g _ h.bg h.g_ (fun cs fr e => by injection e with e1 e2 e3; exact absurd e2 (by decide)), hB, h.wb, h.bg, Nat.lt_of_lt_of_le h.bW hb.size, h.bel.trans (hb.mono (Nat.le_of_lt h.wb))⟩
end
def txt12.T : Bool × List (List Nat × List Nat) := (true, [([], []), ([0], [0]), ([1], [1]), ([], []), ([3], [3]), ([4], [4]), ([5, 2], [5]), ([2, 6], [2, 6]), ([], []), ([8], [8]), ([9, 6], [9]), ([7, 10], [7, 10]), ([11, 10], [11])])
def txt12.B : List Nat := [0, 1, 3, 0, 8, 24, 56, 127, 0, 256, 768, 2047, 4095]
theorem txt12.tab : rtab .any (opsOf Try.f38 12) = txt12.T := by kernel_rfl
theorem txt12.bits : waitsOk txt12.T.2 txt12.B = true := by kernel_rfl
set_option maxHeartbeats 8000000 in
set_option maxRecDepth 100000 in
theorem chart_Text.calls (k : Nat) (a0_0 : Int) (a0_1 : Int) (A0_2 : Option Addr) (c0_2 : Nat) (l0_2 : List (S57)) (r : ByteArray) (w : World) (hr0_2 : Kd.C k57 w A0_2 l0_2.length l0_2) (hc0_2 : l0_2.length ≤ c0_2) (h : chart_Text.f k a0_0 a0_1 l0_2 = some r) :
    Calls Try.prog 38 #[.agg #[.int .i64 a0_0, .int .i64 a0_1, .slice A0_2 l0_2.length c0_2]] w fun e w' => e = .returned (.string r) ∧ Below w.heap.size w w' := by
  have hu24 := Try.underlying24
  have hu55 := Try.underlying55
  have hu57 := Try.underlying57
  have HR0 := Aside0.mk hr0_2
  have HC0 := Aside0.mk hc0_2
  have hbox := Aside0.mk (blk_new w (.cells #[.int .i64 a0_0, .int .i64 a0_1, .slice A0_2 l0_2.length c0_2] 24))
  have hbl := Aside0.mk ((Below.refl w.heap.size w).alloc (Nat.le_refl _) (.cells #[.int .i64 a0_0, .int .i64 a0_1, .slice A0_2 l0_2.length c0_2] 24))
  clear hr0_2 hc0_2
  obtain ⟨t, hchk, h⟩ := Option.bind_eq_some_iff.1 h
  have HK := Aside0.mk hchk
  clear hchk
  cases t
  · rw [if_neg (by simp)] at h
    obtain rfl := Option.some.inj h
    clear h
    go_enter Try.func38, Try.ntmps38
    go_wp2_with (go_at_call 17; refine (chart_Check.calls k a0_0 a0_1 A0_2 c0_2 l0_2 false _ (Kd.C_below HR0.out hbl.out) HC0.out HK.out).mono ?_; rintro e w1 ⟨rfl, hb1⟩)
    go_ret
    exact ⟨rfl, hbl.out.trans (hb1.mono hbl.out.size)⟩
  · rw [if_pos rfl] at h
    obtain ⟨xb, hxb, h⟩ := Option.bind_eq_some_iff.1 h
    obtain ⟨yb, hyb, h⟩ := Option.bind_eq_some_iff.1 h
    obtain ⟨zb, hzb, h⟩ := Option.bind_eq_some_iff.1 h
    by_cases hsz : xb.size + yb.size + zb.size ≤ 1000
    case neg => rw [if_neg hsz] at h; exact absurd h (by simp)
    rw [if_pos hsz] at h
    have HX := Aside0.mk hxb
    have HY := Aside0.mk hyb
    have HZ := Aside0.mk hzb
    have HH := Aside0.mk h
    have HSZ := Aside0.mk hsz
    clear hxb hyb hzb h hsz
    go_enter Try.func38, Try.ntmps38
    go_wp2_with (go_at_call 17; refine (chart_Check.calls k a0_0 a0_1 A0_2 c0_2 l0_2 true _ (Kd.C_below HR0.out hbl.out) HC0.out HK.out).mono ?_; rintro e w1 ⟨rfl, hb1⟩; have hbox1 := Aside0.mk (blk_below hbox.out hb1); have hbl1 := Aside0.mk (hbl.out.trans (hb1.mono hbl.out.size)); have hw1 : w.heap.size < w1.heap.size := Nat.lt_of_lt_of_le (by simp) hb1.size; have f0 := blk_cell hbox1.out 0; have f1 := blk_cell hbox1.out 1; have f2 := blk_cell hbox1.out 2; clear hb1)
    have HT0 : Aside0 (TxS w ((w1.alloc (.cells #[.pointer none, .slice none 0 0] 105)).alloc (.cells #[.int .i64 a0_0, .int .i64 a0_1, .int .i64 (l0_2.length : Int)] 3)) w1.heap.size (w1.heap.size + 1) #[.int .i64 a0_0, .int .i64 a0_1, .slice A0_2 l0_2.length c0_2] #[.int .i64 a0_0, .int .i64 a0_1, .int .i64 (l0_2.length : Int)] (txtAcc xb yb zb 0)) := ⟨by
      have e1 : (w1.alloc (.cells #[.pointer none, .slice none 0 0] 105)).heap.size = w1.heap.size + 1 := by simp
      have hg := blk_new (w1.alloc (.cells #[.pointer none, .slice none 0 0] 105)) (.cells #[.int .i64 a0_0, .int .i64 a0_1, .int .i64 (l0_2.length : Int)] 3)
      rw [e1] at hg
      exact ⟨blk_alloc (blk_alloc hbox1.out _) _, hg, bd_below (Lib.fresh_isBuilder 105 5 w1) ((Below.refl _ _).alloc (Nat.le_refl _) _), hw1, by omega, by simp; omega, ((hbl1.out).alloc (Nat.le_of_lt hw1) _).alloc (by simp; omega) _⟩⟩
    go_loopg [5, 20] 3 (fun gg _ v20 W => ∃ i : Nat, i ≤ 3 ∧ 3 - i ≤ gg ∧ v20 = .int .i64 i ∧ Aside0 (TxS w W w1.heap.size (w1.heap.size + 1) #[.int .i64 a0_0, .int .i64 a0_1, .slice A0_2 l0_2.length c0_2] #[.int .i64 a0_0, .int .i64 a0_1, .int .i64 (l0_2.length : Int)] (txtAcc xb yb zb i)))
    case atStart => exact ⟨0, by omega, by omega, rfl, HT0⟩
    case round =>
      clear HT0
      obtain ⟨i, hi, hg, rfl, HT⟩ := hrel
      rcases (show i = 0 ∨ i = 1 ∨ i = 2 ∨ i = 3 by omega) with hi0 | hi1 | hi2 | hi3
      · subst hi0
        have e0 := blk_cell HT.out.g_ 0
        go_wp2_with fail
        refine (vint_Num.calls k a0_0 xb _ HX.out).mono ?_
        rintro e w2 ⟨rfl, hb⟩
        replace HT := Aside0.mk (HT.out.below hb)
        clear hb e0
        go_wp2_with fail
        refine (bd_write w1.heap.size w1.heap.size _ xb _ HT.out.B (by rw [Lib.strCells_length]; have := HSZ.out; have := txt_len xb yb zb 0; omega) (Nat.le_of_lt HT.out.bW)).mono ?_
        rintro e w3 ⟨rfl, hb, hb3, hk⟩
        rw [txt_cat] at hb
        replace HT := Aside0.mk (HT.out.wrote hb hb3 hk)
        clear hb hb3 hk
        go_wp2_with fail
        go_roundg (3 - (0 + 1))
        case measure => omega
        case rel => exact ⟨0 + 1, by omega, by omega, by go_num, ⟨HT.out⟩⟩
      · subst hi1
        have e0 := blk_cell HT.out.g_ 1
        go_wp2_with fail
        refine (vint_Num.calls k a0_1 yb _ HY.out).mono ?_
        rintro e w2 ⟨rfl, hb⟩
        replace HT := Aside0.mk (HT.out.below hb)
        clear hb e0
        go_wp2_with fail
        refine (bd_write w1.heap.size w1.heap.size _ yb _ HT.out.B (by rw [Lib.strCells_length]; have := HSZ.out; have := txt_len xb yb zb 1; omega) (Nat.le_of_lt HT.out.bW)).mono ?_
        rintro e w3 ⟨rfl, hb, hb3, hk⟩
        rw [txt_cat] at hb
        replace HT := Aside0.mk (HT.out.wrote hb hb3 hk)
        clear hb hb3 hk
        go_wp2_with fail
        go_roundg (3 - (1 + 1))
        case measure => omega
        case rel => exact ⟨1 + 1, by omega, by omega, by go_num, ⟨HT.out⟩⟩
      · subst hi2
        have e0 := blk_cell HT.out.g_ 2
        go_wp2_with fail
        refine (vint_Num.calls k (l0_2.length : Int) zb _ HZ.out).mono ?_
        rintro e w2 ⟨rfl, hb⟩
        replace HT := Aside0.mk (HT.out.below hb)
        clear hb e0
        go_wp2_with fail
        refine (bd_write w1.heap.size w1.heap.size _ zb _ HT.out.B (by rw [Lib.strCells_length]; have := HSZ.out; have := txt_len xb yb zb 2; omega) (Nat.le_of_lt HT.out.bW)).mono ?_
        rintro e w3 ⟨rfl, hb, hb3, hk⟩
        rw [txt_cat] at hb
        replace HT := Aside0.mk (HT.out.wrote hb hb3 hk)
        clear hb hb3 hk
        go_wp2_with fail
        go_roundg (3 - (2 + 1))
        case measure => omega
        case rel => exact ⟨2 + 1, by omega, by omega, by go_num, ⟨HT.out⟩⟩
      subst hi3
      have f0 := blk_cell HT.out.c 0
      have f1 := blk_cell HT.out.c 1
      have f2 := blk_cell HT.out.c 2
      rw [txt3] at HT
      go_wp2_with fail
      clear f0 f1 f2
      go_loopg [7, 31] k (fun kq _ v31 W2 => ∃ (acc : ByteArray) (i : Int), v31 = .int .i64 i ∧ Aside0 (chart_Text.l0 kq l0_2 acc i = some r) ∧ Aside0 (kq ≤ k) ∧ Aside0 (TxS w W2 w1.heap.size (w1.heap.size + 1) #[.int .i64 a0_0, .int .i64 a0_1, .slice A0_2 l0_2.length c0_2] #[.int .i64 a0_0, .int .i64 a0_1, .int .i64 (l0_2.length : Int)] acc))
      case atStart => exact ⟨xb ++ yb ++ zb, 0, rfl, HH, ⟨Nat.le_refl _⟩, HT⟩
      case round =>
        clear HT HH
        obtain ⟨acc, i, rfl, HA, HK1, HT⟩ := hrel
        cases gk with
        | zero => exact absurd HA.out (by simp [chart_Text.l0])
        | succ k1 =>
          have H := HA.out
          clear HA
          simp only [chart_Text.l0] at H
          by_cases c4 : i < (l0_2.length : Int)
          · rw [if_pos c4] at H
            by_cases c5 : 0 ≤ i
            case neg => rw [if_neg c5] at H; exact absurd H (by simp)
            rw [if_pos c5] at H
            have c4b0 : decide (i < (l0_2.length : Int)) = true := decide_eq_true c4
            have c5b0 : decide (0 ≤ i) = true := decide_eq_true c5
            obtain ⟨ad, e0, hx_0, hx_1, hx_2, hx_3⟩ := at_T57 HR0.out i c5 c4
            cases e0
            replace hx_0 := (HT.out.bel.cell (World.block_lt_of_cell? w _ hx_0)).trans hx_0
            replace hx_1 := (HT.out.bel.cell (World.block_lt_of_cell? w _ hx_1)).trans hx_1
            replace hx_2 := (HT.out.bel.cell (World.block_lt_of_cell? w _ hx_2)).trans hx_2
            replace hx_3 := (HT.out.bel.cell (World.block_lt_of_cell? w _ hx_3)).trans hx_3
            generalize rd_T57 l0_2 i = x at hx_0 hx_1 hx_2 hx_3 H
            obtain ⟨p, hp, H⟩ := Option.bind_eq_some_iff.1 H
            obtain ⟨q, hq, H⟩ := Option.bind_eq_some_iff.1 H
            obtain ⟨u, hu, H⟩ := Option.bind_eq_some_iff.1 H
            by_cases c6 : p.size + q.size + u.size ≤ 1000
            case neg => rw [if_neg c6] at H; exact absurd H (by simp)
            rw [if_pos c6] at H
            by_cases c7 : acc.size + 1000 ≤ 140737488355328
            case neg => rw [if_neg c7] at H; exact absurd H (by simp)
            rw [if_pos c7] at H
            have HN := Aside0.mk H
            have AP := Aside0.mk hp
            have AQ := Aside0.mk hq
            have AU := Aside0.mk hu
            have C9 : Aside0 (acc.size + (p ++ q ++ u).size ≤ 140737488355328) := ⟨by rw [ByteArray.size_append, ByteArray.size_append]; omega⟩
            have l1 : p.size + q.size ≤ 9223372036854775807 := by omega
            have l2 : (p ++ q).size + u.size ≤ 9223372036854775807 := by rw [ByteArray.size_append]; omega
            have l2' : p.size + q.size + u.size ≤ 9223372036854775807 := by omega
            have m1 := eq_true l1
            have m2 := eq_true l2
            have m3 := eq_true l2'
            have n1 : (9223372036854775807 < p.size + q.size) = False := eq_false (Nat.not_lt.2 l1)
            have n2 : (9223372036854775807 < (p ++ q).size + u.size) = False := eq_false (Nat.not_lt.2 l2)
            have n3 : (9223372036854775807 < p.size + q.size + u.size) = False := eq_false (Nat.not_lt.2 l2')
            have p5 := eq_true c5
            have q4 := eq_true c4
            clear H hp hq hu c6 c7 c4 c5 l1 l2 l2'
            go_wp2_with fail
            have HT2 := Aside0.mk ((HT.out.below ((Below.refl _ _).alloc (Nat.le_refl _) (.cells #[.int .i64 x.f0, .int .i64 x.f1.f0, .int .i64 x.f1.f1, .int .i64 x.f2] 57))).below (below_drew (Below.refl _ (wr.alloc (.cells #[.int .i64 x.f0, .int .i64 x.f1.f0, .int .i64 x.f1.f1, .int .i64 x.f2] 57)))))
            have HS := Aside0.mk (show (wr.alloc (.cells #[.int .i64 x.f0, .int .i64 x.f1.f0, .int .i64 x.f1.f1, .int .i64 x.f2] 57)).drew.heap[wr.heap.size]? = some (.cells #[.int .i64 x.f0, .int .i64 x.f1.f0, .int .i64 x.f1.f1, .int .i64 x.f2] 57 (0, 0)) from blk_new wr _)
            have hne : wr.heap.size ≠ w1.heap.size := Nat.ne_of_gt HT.out.bW
            refine start_ (n := 13) (S := fun w' => w'.cell? ⟨wr.heap.size, 0, none⟩ = some (.int .i64 x.f0) ∧ w'.cell? ⟨wr.heap.size, 2, none⟩ = some (.int .i64 x.f1.f1) ∧ w'.cell? ⟨wr.heap.size, 3, none⟩ = some (.int .i64 x.f2)) (ds := []) #[false, false, false, false, false, false, false, false, false, false, false, false, false] (by kernel_rfl) rfl rfl ⟨(blk_cell HS.out 0).trans rfl, (blk_cell HS.out 2).trans rfl, (blk_cell HS.out 3).trans rfl⟩ (fun hHeld => ?_); refine with_tabW txt12.tab txt12.bits (fun HT_ HW_ => ?_)
            generalize (wr.alloc (.cells #[.int .i64 x.f0, .int .i64 x.f1.f0, .int .i64 x.f1.f1, .int .i64 x.f2] 57)).drew = wd at HT2 HS hHeld ⊢
            refine pure_ (i := 0) (N := some 35) (v := ?_) (a' := ?_) #[true, false, false, false, false, false, false, false, false, false, false, false, false] rfl rfl (any_of HT_.out (by kernel_rfl)) (fun _ _ _ h => h) (Or.inl ⟨by rfl, ?_⟩) ?_ ?_
            rotate_left
            · intro w'
              go_simp
              with_reducible rfl
            rotate_left
            · simp only [Act.put, List.setIfInBounds_toArray, List.set_cons_zero, List.set_cons_succ, i64_w, i32_w]
              rfl
            refine pure_ (i := 3) (N := some 38) (v := ?_) (a' := ?_) #[true, false, false, true, false, false, false, false, false, false, false, false, false] rfl rfl (any_of HT_.out (by kernel_rfl)) (fun _ _ _ h => h) (Or.inl ⟨by rfl, ?_⟩) ?_ ?_
            rotate_left
            · intro w'
              go_simp
              with_reducible rfl
            rotate_left
            · simp only [Act.put, List.setIfInBounds_toArray, List.set_cons_zero, List.set_cons_succ, i64_w, i32_w]
              rfl
            refine pure_ (i := 4) (N := some 39) (v := ?_) (a' := ?_) #[true, false, false, true, true, false, false, false, false, false, false, false, false] rfl rfl (any_of HT_.out (by kernel_rfl)) (fun _ _ _ h => h) (Or.inl ⟨by rfl, ?_⟩) ?_ ?_
            rotate_left
            · intro w'
              go_simp
              with_reducible rfl
            rotate_left
            · simp only [Act.put, List.setIfInBounds_toArray, List.set_cons_zero, List.set_cons_succ, i64_w, i32_w]
              rfl
            refine pure_ (i := 8) (N := some 43) (v := ?_) (a' := ?_) #[true, false, false, true, true, false, false, false, true, false, false, false, false] rfl rfl (any_of HT_.out (by kernel_rfl)) (fun _ _ _ h => h) (Or.inl ⟨by rfl, ?_⟩) ?_ ?_
            rotate_left
            · intro w'
              go_simp
              with_reducible rfl
            rotate_left
            · simp only [Act.put, List.setIfInBounds_toArray, List.set_cons_zero, List.set_cons_succ, i64_w, i32_w]
              rfl
            refine take_ (i := 1) (N := some 36) (v := ?_) (a' := ?_) #[true, true, false, true, true, false, false, false, true, false, false, false, false] rfl rfl (take_ofW HT_.out HW_.out (by kernel_rfl)) (fun _ _ _ h => h) (Or.inl ⟨by rfl, ?_⟩) hHeld ?_ ?_
            rotate_left
            · rintro w' ⟨s0, s1, s2⟩
              go_simp
              with_reducible rfl
            rotate_left
            · simp only [Act.put, List.setIfInBounds_toArray, List.set_cons_zero, List.set_cons_succ, i64_w, i32_w]
              rfl
            refine take_ (i := 5) (N := some 40) (v := ?_) (a' := ?_) #[true, true, false, true, true, true, false, false, true, false, false, false, false] rfl rfl (take_ofW HT_.out HW_.out (by kernel_rfl)) (fun _ _ _ h => h) (Or.inl ⟨by rfl, ?_⟩) hHeld ?_ ?_
            rotate_left
            · rintro w' ⟨s0, s1, s2⟩
              go_simp
              with_reducible rfl
            rotate_left
            · simp only [Act.put, List.setIfInBounds_toArray, List.set_cons_zero, List.set_cons_succ, i64_w, i32_w]
              rfl
            refine take_ (i := 9) (N := some 44) (v := ?_) (a' := ?_) #[true, true, false, true, true, true, false, false, true, true, false, false, false] rfl rfl (take_ofW HT_.out HW_.out (by kernel_rfl)) (fun _ _ _ h => h) (Or.inl ⟨by rfl, ?_⟩) hHeld ?_ ?_
            rotate_left
            · rintro w' ⟨s0, s1, s2⟩
              go_simp
              with_reducible rfl
            rotate_left
            · simp only [Act.put, List.setIfInBounds_toArray, List.set_cons_zero, List.set_cons_succ, i64_w, i32_w]
              rfl
            refine one_ (i := 2) (N := some 37) #[true, true, true, true, true, true, false, false, true, true, false, false, false] rfl rfl (one_of HT_.out (by kernel_rfl)) (by decide) (fun K hK => ?_)
            refine goes_ Try.func57 (by kernel_rfl) rfl #[.int .i64 x.f0] (by rfl) rfl rfl (by simp only [List.map_toArray, List.map_cons, List.map_nil]; rfl) ?_
            refine (vint_Num.calls k1 _ _ _ AP.out).mono ?_
            rintro e wp1 ⟨rfl, hb⟩
            refine ⟨_, rfl, ?_⟩
            replace HT2 := Aside0.mk (HT2.out.below hb)
            replace HS := Aside0.mk (blk_below HS.out hb)
            clear hb
            refine hK.out _ _ ⟨(blk_cell HS.out 0).trans rfl, (blk_cell HS.out 2).trans rfl, (blk_cell HS.out 3).trans rfl⟩ (fun hHeld => ?_)
            clear hK K
            refine norm_ (a' := ?_) ?_ ?_
            rotate_left
            · show Act.put _ (some 37) _ = _
              simp only [Act.put, List.setIfInBounds_toArray, List.set_cons_zero, List.set_cons_succ, i64_w, i32_w]
              rfl
            refine one_ (i := 6) (N := some 41) #[true, true, true, true, true, true, true, false, true, true, false, false, false] rfl rfl (one_of HT_.out (by kernel_rfl)) (by decide) (fun K hK => ?_)
            refine goes_ Try.func57 (by kernel_rfl) rfl #[.int .i64 x.f1.f1] (by rfl) rfl rfl (by simp only [List.map_toArray, List.map_cons, List.map_nil]; rfl) ?_
            refine (vint_Num.calls k1 _ _ _ AQ.out).mono ?_
            rintro e wp2 ⟨rfl, hb⟩
            refine ⟨_, rfl, ?_⟩
            replace HT2 := Aside0.mk (HT2.out.below hb)
            replace HS := Aside0.mk (blk_below HS.out hb)
            clear hb
            refine hK.out _ _ ⟨(blk_cell HS.out 0).trans rfl, (blk_cell HS.out 2).trans rfl, (blk_cell HS.out 3).trans rfl⟩ (fun hHeld => ?_)
            clear hK K
            refine norm_ (a' := ?_) ?_ ?_
            rotate_left
            · show Act.put _ (some 41) _ = _
              simp only [Act.put, List.setIfInBounds_toArray, List.set_cons_zero, List.set_cons_succ, i64_w, i32_w]
              rfl
            refine pure_ (i := 7) (N := some 42) (v := ?_) (a' := ?_) #[true, true, true, true, true, true, true, true, true, true, false, false, false] rfl rfl (any_of HT_.out (by kernel_rfl)) (fun _ _ _ h => h) (Or.inl ⟨by rfl, ?_⟩) ?_ ?_
            rotate_left
            · intro w'
              go_simp
              with_reducible rfl
            rotate_left
            · simp only [Act.put, List.setIfInBounds_toArray, List.set_cons_zero, List.set_cons_succ, i64_w, i32_w]
              rfl
            refine one_ (i := 10) (N := some 45) #[true, true, true, true, true, true, true, true, true, true, true, false, false] rfl rfl (one_of HT_.out (by kernel_rfl)) (by decide) (fun K hK => ?_)
            refine goes_ Try.func57 (by kernel_rfl) rfl #[.int .i64 x.f2] (by rfl) rfl rfl (by simp only [List.map_toArray, List.map_cons, List.map_nil]; rfl) ?_
            refine (vint_Num.calls k1 _ _ _ AU.out).mono ?_
            rintro e wp3 ⟨rfl, hb⟩
            refine ⟨_, rfl, ?_⟩
            replace HT2 := Aside0.mk (HT2.out.below hb)
            replace HS := Aside0.mk (blk_below HS.out hb)
            clear hb
            refine hK.out _ _ ⟨(blk_cell HS.out 0).trans rfl, (blk_cell HS.out 2).trans rfl, (blk_cell HS.out 3).trans rfl⟩ (fun hHeld => ?_)
            clear hK K
            refine norm_ (a' := ?_) ?_ ?_
            rotate_left
            · show Act.put _ (some 45) _ = _
              simp only [Act.put, List.setIfInBounds_toArray, List.set_cons_zero, List.set_cons_succ, i64_w, i32_w]
              rfl
            refine pure_ (i := 11) (N := some 46) (v := ?_) (a' := ?_) #[true, true, true, true, true, true, true, true, true, true, true, true, false] rfl rfl (any_of HT_.out (by kernel_rfl)) (fun _ _ _ h => h) (Or.inl ⟨by rfl, ?_⟩) ?_ ?_
            rotate_left
            · intro w'
              go_simp
              with_reducible rfl
            rotate_left
            · simp only [Act.put, List.setIfInBounds_toArray, List.set_cons_zero, List.set_cons_succ, i64_w, i32_w]
              rfl
            refine one_ (i := 12) (N := some 47) #[true, true, true, true, true, true, true, true, true, true, true, true, true] rfl rfl (one_of HT_.out (by kernel_rfl)) (by decide) (fun K hK => ?_)
            refine goes_ Try.func56 (by kernel_rfl) rfl #[.pointer (some ⟨w1.heap.size, 0, none⟩), .string (p ++ q ++ u)] (by rfl) rfl rfl (by simp only [List.map_toArray, List.map_cons, List.map_nil]; rfl) ?_
            refine (bd_write w1.heap.size w1.heap.size _ (p ++ q ++ u) _ HT2.out.B (by rw [Lib.strCells_length]; exact C9.out) (Nat.le_of_lt HT2.out.bW)).mono ?_
            rintro e w9 ⟨rfl, hb, hb3, hk⟩
            refine ⟨_, rfl, ?_⟩
            rw [txt_cat] at hb
            have HT3 := Aside0.mk (HT2.out.wrote hb hb3 hk)
            have HS3 := Aside0.mk (hk wr.heap.size _ hne HS.out (fun cs fr e => by injection e with e1 e2 e3; exact absurd e2 (by decide)))
            clear hb hb3 hk
            refine hK.out _ _ ⟨(blk_cell HS3.out 0).trans rfl, (blk_cell HS3.out 2).trans rfl, (blk_cell HS3.out 3).trans rfl⟩ (fun hHeld => ?_)
            clear hK K
            refine norm_ (a' := ?_) ?_ ?_
            rotate_left
            · show Act.put _ (some 47) _ = _
              simp only [Act.put, List.setIfInBounds_toArray, List.set_cons_zero, List.set_cons_succ, i64_w, i32_w]
              rfl
            refine done_ (done_of HT_.out (by kernel_rfl)) ?_
            go_wp2_with fail
            go_roundg k1
            case measure => have := HK1.out; omega
            case rel => exact ⟨acc ++ (p ++ q ++ u), wrap64 (i + 1), (by first | rfl | (simp; done) | (simp [*]; done)), HN, ⟨by have := HK1.out; omega⟩, HT3⟩
          · rw [if_neg c4] at H
            obtain rfl := Option.some.inj H
            have c4b0 : decide (i < (l0_2.length : Int)) = false := decide_eq_false c4
            clear H
            go_wp2_with fail
            refine (bd_string w1.heap.size w1.heap.size _ _ HT.out.B (Nat.le_of_lt HT.out.bW)).mono ?_
            rintro e w9 ⟨rfl, hb⟩
            have hE := Aside0.mk (HT.out.bel.trans (hb.mono (Nat.le_of_lt HT.out.wb)))
            clear hb
            go_wp2_with fail
            go_ret
            exact ⟨rfl, hE.out⟩

/-! ### spliceref01_Num: function 59 -/
def spliceref01_Num.l0 : Nat → Int → List Int → Option (ByteArray)
  | 0, _, _ => none
  | k + 1, x0, x3 => if x0 > 127 then (if x3.length < 140737488355328 then (spliceref01_Num.l0 k (wrap64 (Int.tdiv x0 128)) (x3 ++ [(wrap64 (128 + (Int.tmod x0 128))) % 256])) else (none)) else (if x3.length < 140737488355328 then (some (strOfNums (x3 ++ [(x0) % 256]))) else (none))
def spliceref01_Num.f (k : Nat) (a0 : Int) : Option (ByteArray) := if a0 < 0 then (some (⟨#[]⟩ : ByteArray)) else (spliceref01_Num.l0 k a0 ([] : List Int))
theorem spliceref01_Num.mono_l : ∀ k, (∀ y0 y1, LeO (spliceref01_Num.l0 k y0 y1) (spliceref01_Num.l0 (k + 1) y0 y1))
  | 0 => fun _ _ r h => by simp [spliceref01_Num.l0] at h
  | k + 1 => by
    have ih0 := spliceref01_Num.mono_l k
    · intro y0 y1
      unfold spliceref01_Num.l0
      repeat' first
      | (with_reducible exact ih0 _ _)
      | (with_reducible exact LeO.refl _)
      | (with_reducible exact LeO.none _)
      | (with_reducible refine LeO.ite ?_ ?_)
      | (with_reducible refine LeO.bind ?_ (fun _ => ?_))
      | exact ih0 _ _
      | exact LeO.none _
      | refine LeO.ite ?_ ?_
      | refine LeO.bind ?_ (fun _ => ?_)
theorem spliceref01_Num.mono : ∀ a0 k, LeO (spliceref01_Num.f k a0) (spliceref01_Num.f (k + 1) a0) := by
  intro a0 k
  have ih0 := spliceref01_Num.mono_l k
  unfold spliceref01_Num.f
  repeat' first
      | (with_reducible exact ih0 _ _)
      | (with_reducible exact LeO.refl _)
      | (with_reducible exact LeO.none _)
      | (with_reducible refine LeO.ite ?_ ?_)
      | (with_reducible refine LeO.bind ?_ (fun _ => ?_))
      | exact ih0 _ _
      | exact LeO.none _
      | refine LeO.ite ?_ ?_
      | refine LeO.bind ?_ (fun _ => ?_)
set_option maxHeartbeats 8000000 in
set_option maxRecDepth 100000 in
theorem spliceref01_Num.calls (k : Nat) (a0 : Int) (r : ByteArray) (w : World) (h : spliceref01_Num.f k a0 = some r) :
    Calls Try.prog 59 #[.int .i64 a0] w fun e w' => e = .returned (.string r) ∧ Below w.heap.size w w' := by
  have HB := Aside0.mk (Below.refl w.heap.size w)
  have H : (if a0 < 0 then (some (⟨#[]⟩ : ByteArray)) else (spliceref01_Num.l0 k a0 ([] : List Int))) = some r := h
  clear h
  by_cases c2 : a0 < 0
  · rw [if_pos c2] at H
    have c2b0 : decide (a0 < 0) = true := decide_eq_true c2
    clear c2
    obtain rfl := Option.some.inj H
    go_enter Try.func59, Try.ntmps59
    go_wp2
    go_ret
    exact ⟨by first | rfl | (simp [errW_none, errW_some] <;> rfl) | (simp [*, errW_none, errW_some] <;> rfl), by repeat (first | (with_reducible first | exact HB.out | apply below_alloc | apply pw_below_drewN | apply below_drew1) | exact HB.out)⟩
  · rw [if_neg c2] at H
    have c2b0 : decide (a0 < 0) = false := decide_eq_false c2
    clear c2
    have H' := Aside0.mk H
    clear H
    go_enter Try.func59, Try.ntmps59
    go_wp2
    go_loopg [0, 3] k (fun kq v0 v3 w' => ∃ (x0_1 : Int) (x3_1 : List Int), v0 = .int .i64 x0_1 ∧ Aside0 (spliceref01_Num.l0 kq x0_1 x3_1 = some r) ∧ Aside0 (kq ≤ k) ∧ Aside0 (Kd.R (Kd.int .u8) 5 w' w.heap.size (fun _ => True) v3 x3_1) ∧ Aside0 (Below w.heap.size w w'))
    case atStart => exact ⟨(a0), (([] : List Int)), (by first | rfl | (simp; done) | (simp [*]; done)), H', ⟨Nat.le_refl _⟩, ⟨by first | exact Kd.R_nil _ _ _ _ _ | exact Kd.N_nil _ _ _ _ _ | exact Kd.V_nil _ _ _ _ _ | exact Kd.Q_nil _ _ _ _ _ | exact Kd.S_nil _ _ _ _ _⟩, ⟨by repeat (first | (with_reducible first | exact HB.out | apply below_alloc | apply pw_below_drewN | apply below_drew1) | exact HB.out)⟩⟩
    case round =>
      clear H'
      try clear c2
      try clear c2b0
      try clear p2
      obtain ⟨x0_1, x3_1, rfl, HA, HK1, HO_3, HB⟩ := hrel
      cases gk with
      | zero => exact absurd HA.out (by simp [spliceref01_Num.l0])
      | succ k1 =>
        have H := HA.out
        clear HA
        simp only [spliceref01_Num.l0] at H
        by_cases c3 : x0_1 > 127
        · rw [if_pos c3] at H
          have c3b0 : decide (127 < x0_1) = true := decide_eq_true c3
          clear c3
          by_cases c4 : x3_1.length < 140737488355328
          · rw [if_pos c4] at H
            have LMc4 := Aside0.mk c4
            clear c4
            obtain ⟨y223, hy223⟩ : ∃ y_ : List Int, y_ = (x3_1 ++ [(wrap64 (128 + (Int.tmod x0_1 128))) % 256]) := ⟨_, rfl⟩
            replace H : (spliceref01_Num.l0 k1 (wrap64 (Int.tdiv x0_1 128)) y223) = some r := by first | (rw [hy223]; with_reducible exact H) | (have H2_ := (Option.bind_some _ _).symm.trans H; rw [hy223]; with_reducible exact H2_) | (have H2_ := (Option.bind_some _ _).symm.trans H; with_reducible exact H2_) | with_reducible exact H | (rw [hy223]; exact H) | exact H
            have Ny223 := Aside0.mk hy223
            clear hy223
            have H' := Aside0.mk H
            clear H
            go_wp2_with (first | ((with_reducible refine gate_builtin (b := .append) (xs := #[.tmp 8, .tmp 13]) rfl ?_); at_builtin; refine Kd.R_append (Kd.int .u8) (w0 := w) w.heap.size rfl (.tmp 8) (.tmp 13) 103 5 (.int .u8 0) 1 rfl Try.underlying103 info5 rfl (by decide) (by omega) u3 x3_1 ((wrap64 (128 + (Int.tmod x0_1 128))) % 256) [.int .u8 ((wrap64 (128 + (Int.tmod x0_1 128))) % 256)] (fun _ => True) (fun _ => False) rfl rfl ?aP (fun _ hk => hk.elim) ?aF ?aO ?aB ?aS ?aL ?_; (case aP => exact rfl); (case aB => exact (by repeat (first | (with_reducible first | exact HB.out | apply below_alloc | apply pw_below_drewN | apply below_drew1) | exact HB.out))); (case aF => exact (fun _ _ => trivial)); (case aO => exact (by (with_reducible repeat (first | apply Kd.R_alloc | apply Kd.R_drewN | apply Kd.R_drew)); exact HO_3.out)); (case aS => exact (below_size (by repeat (first | (with_reducible first | exact HB.out | apply below_alloc | apply pw_below_drewN | apply below_drew1) | exact HB.out)))); (case aL => have := LMc4.out; omega); intro v224 w5 ho hb hg hat; rw [← Ny223.out] at ho; have n0_ := Aside0.mk (hb); have n1_ := Aside0.mk (ho); clear HB; clear HO_3; have HB := n0_; have HO225 := n1_; clear n0_ n1_; clear ho hb hg hat))
            go_roundg k1
            case measure => have := HK1.out; omega
            case rel => exact ⟨(wrap64 (Int.tdiv x0_1 128)), (y223), (by first | rfl | (simp; done) | (simp [*]; done)), H', ⟨by have := HK1.out; omega⟩, ⟨by (with_reducible repeat (first | apply Kd.R_alloc | apply Kd.R_drewN | apply Kd.R_drew)); exact HO225.out⟩, ⟨by repeat (first | (with_reducible first | exact HB.out | apply below_alloc | apply pw_below_drewN | apply below_drew1) | exact HB.out)⟩⟩
          · rw [if_neg c4] at H
            exact absurd H (by simp)
        · rw [if_neg c3] at H
          have c3b0 : decide (127 < x0_1) = false := decide_eq_false c3
          clear c3
          by_cases c6 : x3_1.length < 140737488355328
          · rw [if_pos c6] at H
            have LMc6 := Aside0.mk c6
            clear c6
            obtain ⟨y226, hy226⟩ : ∃ y_ : List Int, y_ = (x3_1 ++ [(x0_1) % 256]) := ⟨_, rfl⟩
            replace H : (some (strOfNums y226)) = some r := by first | (rw [hy226]; with_reducible exact H) | (have H2_ := (Option.bind_some _ _).symm.trans H; rw [hy226]; with_reducible exact H2_) | (have H2_ := (Option.bind_some _ _).symm.trans H; with_reducible exact H2_) | with_reducible exact H | (rw [hy226]; exact H) | exact H
            have Ny226 := Aside0.mk hy226
            clear hy226
            obtain rfl := Option.some.inj H
            go_wp2_with (first | ((with_reducible refine gate_builtin (b := .append) (xs := #[.tmp 17, .tmp 20]) rfl ?_); at_builtin; refine Kd.R_append (Kd.int .u8) (w0 := w) w.heap.size rfl (.tmp 17) (.tmp 20) 103 5 (.int .u8 0) 1 rfl Try.underlying103 info5 rfl (by decide) (by omega) u3 x3_1 ((x0_1) % 256) [.int .u8 ((x0_1) % 256)] (fun _ => True) (fun _ => False) rfl rfl ?aP (fun _ hk => hk.elim) ?aF ?aO ?aB ?aS ?aL ?_; (case aP => exact rfl); (case aB => exact (by repeat (first | (with_reducible first | exact HB.out | apply below_alloc | apply pw_below_drewN | apply below_drew1) | exact HB.out))); (case aF => exact (fun _ _ => trivial)); (case aO => exact (by (with_reducible repeat (first | apply Kd.R_alloc | apply Kd.R_drewN | apply Kd.R_drew)); exact HO_3.out)); (case aS => exact (below_size (by repeat (first | (with_reducible first | exact HB.out | apply below_alloc | apply pw_below_drewN | apply below_drew1) | exact HB.out)))); (case aL => have := LMc6.out; omega); intro v227 w7 ho hb hg hat; rw [← Ny226.out] at ho; have n0_ := Aside0.mk (hb); have n1_ := Aside0.mk (ho); clear HB; clear HO_3; have HB := n0_; have HO228 := n1_; clear n0_ n1_; clear ho hb hg hat; have hcv8 := own_string (P := Try.prog) Try.underlying103 Try.underlying5 Try.underlying9 (Kd.own_of_R HO228.out)))
            go_ret
            exact ⟨by first | rfl | (simp [errW_none, errW_some] <;> rfl) | (simp [*, errW_none, errW_some] <;> rfl), by repeat (first | (with_reducible first | exact HB.out | apply below_alloc | apply pw_below_drewN | apply below_drew1) | exact HB.out)⟩
          · rw [if_neg c6] at H
            exact absurd H (by simp)

end Go.Proofs.Ytbhlphadcphapaa.PR
