-- written by a program of this session
import Derived.Test.YtiljbfnnnblbpaaPSx0
import Derived.Test.YtiljbfnnnblbpaaPSx1
import Derived.Test.YtiljbfnnnblbpaaPSx2
namespace Go.Proofs.Ytiljbfnnnblbpaa.PS
open Go.RowKit Go.Proofs.Ytiljbfnnnblbpaa.Op Go.Proofs.YtiljbfnnnblbpaaW.PrintWords Go.Proofs.YtiljbfnnnblbpaaW.PrintLast Go.Proofs.YtiljbfnnnblbpaaW.PrintMore
attribute [local go_sem] max2_int min2_int max_two min_two max_three min_three max_four min_four   -- for this text's walks alone
set_option linter.unusedVariables false
set_option linter.unusedSimpArgs false

/-! ### vint_Reader_List: function 31 -/
def vint_Reader_List.l0 : Nat → List Int → Int → Int → ByteArray → Int → Option (List Int × ByteArray × Int)
  | 0, _, _, _, _, _ => none
  | k + 1, x6, x18, x19, x1000, x1001 => if x19 < x18 then ((vint_Reader_Whole.f k x1000 x1001).bind fun bt159 => ((vint_Reader_Err.f bt159.2.1 bt159.2.2).bind fun bt162 => (if bt162.1 = 0 then (if x6.length < 17592186044416 then (vint_Reader_List.l0 k (x6 ++ [bt159.1]) x18 (wrap64 (x19 + 1)) bt162.2.1 bt162.2.2) else (none)) else (some (([] : List Int), bt162.2.1, bt162.2.2))))) else (some (x6, x1000, x1001))
def vint_Reader_List.f (k : Nat) (s0_0 : ByteArray) (s0_1 : Int) (a1 : Int) : Option (List Int × ByteArray × Int) := (vint_Reader_Num.f k s0_0 s0_1).bind fun bt151 => ((vint_Reader_Err.f bt151.2.1 bt151.2.2).bind fun bt154 => (if bt154.1 = 0 then (if bt151.1 > a1 then ((vint_Reader_fail.f bt154.2.1 bt154.2.2 2).bind fun bt157 => (some (([] : List Int), bt157.1, bt157.2))) else (vint_Reader_List.l0 k ([] : List Int) bt151.1 0 bt154.2.1 bt154.2.2)) else (some (([] : List Int), bt154.2.1, bt154.2.2))))
theorem vint_Reader_List.mono_l : ∀ k, (∀ y0 y1 y2 y3 y4, LeO (vint_Reader_List.l0 k y0 y1 y2 y3 y4) (vint_Reader_List.l0 (k + 1) y0 y1 y2 y3 y4))
  | 0 => fun _ _ _ _ _ r h => by simp [vint_Reader_List.l0] at h
  | k + 1 => by
    have ih0 := vint_Reader_List.mono_l k
    · intro y0 y1 y2 y3 y4
      unfold vint_Reader_List.l0
      repeat' first
      | (with_reducible exact ih0 _ _ _ _ _)
      | (with_reducible exact vint_Reader_Num.mono _ _ _)
      | (with_reducible exact vint_Reader_Whole.mono _ _ _)
      | (with_reducible exact LeO.refl _)
      | (with_reducible exact LeO.none _)
      | (with_reducible refine LeO.ite ?_ ?_)
      | (with_reducible refine LeO.bind ?_ (fun _ => ?_))
      | exact ih0 _ _ _ _ _
      | exact vint_Reader_Num.mono _ _ _
      | exact vint_Reader_Whole.mono _ _ _
      | exact LeO.none _
      | refine LeO.ite ?_ ?_
      | refine LeO.bind ?_ (fun _ => ?_)
theorem vint_Reader_List.mono : ∀ a0 a1 a2 k, LeO (vint_Reader_List.f k a0 a1 a2) (vint_Reader_List.f (k + 1) a0 a1 a2) := by
  intro a0 a1 a2 k
  have ih0 := vint_Reader_List.mono_l k
  unfold vint_Reader_List.f
  repeat' first
      | (with_reducible exact ih0 _ _ _ _ _)
      | (with_reducible exact vint_Reader_Num.mono _ _ _)
      | (with_reducible exact vint_Reader_Whole.mono _ _ _)
      | (with_reducible exact LeO.refl _)
      | (with_reducible exact LeO.none _)
      | (with_reducible refine LeO.ite ?_ ?_)
      | (with_reducible refine LeO.bind ?_ (fun _ => ?_))
      | exact ih0 _ _ _ _ _
      | exact vint_Reader_Num.mono _ _ _
      | exact vint_Reader_Whole.mono _ _ _
      | exact LeO.none _
      | refine LeO.ite ?_ ?_
      | refine LeO.bind ?_ (fun _ => ?_)
set_option maxHeartbeats 8000000 in
set_option maxRecDepth 100000 in
theorem vint_Reader_List.calls (k : Nat) (g : Nat) (s0_0 : ByteArray) (s0_1 : Int) (a1 : Int) (r1 : List Int) (r2 : ByteArray) (r3 : Int) (w0 w : World) (hI : IsS68 w0 w g s0_0 s0_1) (hB : Below w0.heap.size w0 w) (h : vint_Reader_List.f k s0_0 s0_1 a1 = some (r1, r2, r3)) :
    Calls Try.prog 31 #[.pointer (some ⟨g, 0, none⟩), .int .i64 a1] w fun e w' => ∃ v0_ : Value, e = .returned (v0_) ∧ Kd.R (Kd.int .i64) 3 w' w.heap.size (fun _ => True) v0_ r1 ∧ IsS68 w0 w' g r2 r3 ∧ Below w0.heap.size w0 w' ∧ KeepBut w w' g none := by
 have HI0 := Aside0.mk hI
 have HK := Aside0.mk (KeepBut.refl w g none)
 have HL := Aside0.mk hB.size
 clear hI
 have HW0 := Aside0.mk hB.size
 have HB := Aside0.mk hB
 clear hB
 have H : ((vint_Reader_Num.f k s0_0 s0_1).bind fun bt151 => ((vint_Reader_Err.f bt151.2.1 bt151.2.2).bind fun bt154 => (if bt154.1 = 0 then (if bt151.1 > a1 then ((vint_Reader_fail.f bt154.2.1 bt154.2.2 2).bind fun bt157 => (some (([] : List Int), bt157.1, bt157.2))) else (vint_Reader_List.l0 k ([] : List Int) bt151.1 0 bt154.2.1 bt154.2.2)) else (some (([] : List Int), bt154.2.1, bt154.2.2))))) = some (r1, r2, r3) := h
 clear h
 replace H := Option.bind_eq_some_iff.mp H
 obtain ⟨⟨t151, t152, t153⟩, A30, H⟩ := H
 replace H : ((vint_Reader_Err.f t152 t153).bind fun bt154 => (if bt154.1 = 0 then (if t151 > a1 then ((vint_Reader_fail.f bt154.2.1 bt154.2.2 2).bind fun bt157 => (some (([] : List Int), bt157.1, bt157.2))) else (vint_Reader_List.l0 k ([] : List Int) t151 0 bt154.2.1 bt154.2.2)) else (some (([] : List Int), bt154.2.1, bt154.2.2)))) = some (r1, r2, r3) := H
 have A3 := Aside0.mk A30
 clear A30
 replace H := Option.bind_eq_some_iff.mp H
 obtain ⟨⟨t154, t155, t156⟩, A40, H⟩ := H
 replace H : (if t154 = 0 then (if t151 > a1 then ((vint_Reader_fail.f t155 t156 2).bind fun bt157 => (some (([] : List Int), bt157.1, bt157.2))) else (vint_Reader_List.l0 k ([] : List Int) t151 0 t155 t156)) else (some (([] : List Int), t155, t156))) = some (r1, r2, r3) := H
 have A4 := Aside0.mk A40
 clear A40
 by_cases c5 : t154 = 0
 rotate_left
 · rw [if_neg c5] at H
   have c5b0 : (t154 == 0) = false := beq_eq_false_iff_ne.mpr c5
   have c5b1 : (t154 != 0) = true := bne_iff_ne.mpr c5
   simp only [Option.some.injEq, Prod.mk.injEq] at H
   obtain ⟨rfl, rfl, rfl⟩ := H
   go_enter Try.func31, Try.ntmps31
   go_wp2_with (first | ((with_reducible refine gate_callee (f := 26) rfl ?_); refine goesL_ (some 9) rfl rfl Try.func26 (by kernel_rfl) rfl #[.pointer (some ⟨g, 0, none⟩)] rfl (by (try simp only [List.map_toArray, List.map_cons, List.map_nil]); first | done | rfl | (simp only [List.length_drop, List.length_take]; rfl)) ?_; (with_reducible refine (vint_Reader_Num.calls k g s0_0 s0_1 t151 t152 t153 w0 _ ?side1 ?side2 A3.out).mono ?_); (case side1 => repeat (first | (with_reducible first | exact HI0.out | apply IsS68.alloc | apply IsS68.drewN | apply IsS68.drew | apply IsS68.set_0 | apply IsS68.set_1) | exact HI0.out)); (case side2 => repeat (first | (with_reducible first | exact HB.out | apply below_alloc | apply pw_below_drewN | apply below_drew1 | refine below_set ?_ (IsS68.ge HI0.out)) | exact HB.out)); rintro e w23 ⟨rfl, hi, hb, hk⟩; refine ⟨_, rfl, ?_⟩; have n0_ := Aside0.mk (KeepBut.trans (by repeat (first | (with_reducible first | exact HK.out | apply KeepBut.set_ | apply keep_drewN | apply keep_drew | apply keep_alloc) | exact HK.out)) hk (.inl rfl)); have n1_ := Aside0.mk (hb); have n2_ := Aside0.mk (hi); clear HK; clear HB; clear HI0; have HK := n0_; have HB := n1_; have HI0 := n2_; clear n0_ n1_ n2_; (try clear hb); (try clear hb2); (try clear hk); (try clear hi)) | ((with_reducible refine gate_callee (f := 30) rfl ?_); refine goesL_ (some 11) rfl rfl Try.func30 (by kernel_rfl) rfl #[.pointer (some ⟨g, 0, none⟩)] rfl (by (try simp only [List.map_toArray, List.map_cons, List.map_nil]); first | done | rfl | (simp only [List.length_drop, List.length_take]; rfl)) ?_; (with_reducible refine (vint_Reader_Err.calls g t152 t153 t154 t155 t156 w0 _ ?side1 ?side2 A4.out).mono ?_); (case side1 => repeat (first | (with_reducible first | exact HI0.out | apply IsS68.alloc | apply IsS68.drewN | apply IsS68.drew | apply IsS68.set_0 | apply IsS68.set_1) | exact HI0.out)); (case side2 => repeat (first | (with_reducible first | exact HB.out | apply below_alloc | apply pw_below_drewN | apply below_drew1 | refine below_set ?_ (IsS68.ge HI0.out)) | exact HB.out)); rintro e w24 ⟨rfl, hi, hb, hk⟩; refine ⟨_, rfl, ?_⟩; have n0_ := Aside0.mk (KeepBut.trans (by repeat (first | (with_reducible first | exact HK.out | apply KeepBut.set_ | apply keep_drewN | apply keep_drew | apply keep_alloc) | exact HK.out)) hk (.inl rfl)); have n1_ := Aside0.mk (hb); have n2_ := Aside0.mk (hi); clear HK; clear HB; clear HI0; have HK := n0_; have HB := n1_; have HI0 := n2_; clear n0_ n1_ n2_; (try clear hb); (try clear hb2); (try clear hk); (try clear hi)))
   go_ret
   exact ⟨_, by first | rfl | (simp [errW_none, errW_some] <;> rfl) | (simp [*, errW_none, errW_some] <;> rfl), by first | exact Kd.R_nil _ _ _ _ _ | exact Kd.N_nil _ _ _ _ _ | exact Kd.V_nil _ _ _ _ _ | exact Kd.Q_nil _ _ _ _ _ | exact Kd.S_nil _ _ _ _ _, by repeat (first | (with_reducible first | exact HI0.out | apply IsS68.alloc | apply IsS68.drewN | apply IsS68.drew | apply IsS68.set_0 | apply IsS68.set_1) | exact HI0.out), by repeat (first | (with_reducible first | exact HB.out | apply below_alloc | apply pw_below_drewN | apply below_drew1 | refine below_set ?_ (IsS68.ge HI0.out)) | exact HB.out), by repeat (first | (with_reducible first | exact HK.out | apply KeepBut.set_ | apply keep_drewN | apply keep_drew | apply keep_alloc) | exact HK.out)⟩
 rw [if_pos c5] at H
 have c5b0 : (t154 == 0) = true := beq_iff_eq.mpr c5
 have c5b1 : (t154 != 0) = false := bne_eq_false_iff_eq.mpr c5
 clear c5
 by_cases c6 : t151 > a1
 · rw [if_pos c6] at H
   have c6b0 : decide (a1 < t151) = true := decide_eq_true c6
   clear c6
   replace H := Option.bind_eq_some_iff.mp H
   obtain ⟨⟨t157, t158⟩, A70, H⟩ := H
   replace H : (some (([] : List Int), t157, t158)) = some (r1, r2, r3) := H
   have A7 := Aside0.mk A70
   clear A70; simp only [Option.some.injEq, Prod.mk.injEq] at H
   obtain ⟨rfl, rfl, rfl⟩ := H
   go_enter Try.func31, Try.ntmps31
   go_wp2_with (first | ((with_reducible refine gate_callee (f := 26) rfl ?_); refine goesL_ (some 9) rfl rfl Try.func26 (by kernel_rfl) rfl #[.pointer (some ⟨g, 0, none⟩)] rfl (by (try simp only [List.map_toArray, List.map_cons, List.map_nil]); first | done | rfl | (simp only [List.length_drop, List.length_take]; rfl)) ?_; (with_reducible refine (vint_Reader_Num.calls k g s0_0 s0_1 t151 t152 t153 w0 _ ?side1 ?side2 A3.out).mono ?_); (case side1 => repeat (first | (with_reducible first | exact HI0.out | apply IsS68.alloc | apply IsS68.drewN | apply IsS68.drew | apply IsS68.set_0 | apply IsS68.set_1) | exact HI0.out)); (case side2 => repeat (first | (with_reducible first | exact HB.out | apply below_alloc | apply pw_below_drewN | apply below_drew1 | refine below_set ?_ (IsS68.ge HI0.out)) | exact HB.out)); rintro e w8 ⟨rfl, hi, hb, hk⟩; refine ⟨_, rfl, ?_⟩; have n0_ := Aside0.mk (KeepBut.trans (by repeat (first | (with_reducible first | exact HK.out | apply KeepBut.set_ | apply keep_drewN | apply keep_drew | apply keep_alloc) | exact HK.out)) hk (.inl rfl)); have n1_ := Aside0.mk (hb); have n2_ := Aside0.mk (hi); clear HK; clear HB; clear HI0; have HK := n0_; have HB := n1_; have HI0 := n2_; clear n0_ n1_ n2_; (try clear hb); (try clear hb2); (try clear hk); (try clear hi)) | ((with_reducible refine gate_callee (f := 30) rfl ?_); refine goesL_ (some 11) rfl rfl Try.func30 (by kernel_rfl) rfl #[.pointer (some ⟨g, 0, none⟩)] rfl (by (try simp only [List.map_toArray, List.map_cons, List.map_nil]); first | done | rfl | (simp only [List.length_drop, List.length_take]; rfl)) ?_; (with_reducible refine (vint_Reader_Err.calls g t152 t153 t154 t155 t156 w0 _ ?side1 ?side2 A4.out).mono ?_); (case side1 => repeat (first | (with_reducible first | exact HI0.out | apply IsS68.alloc | apply IsS68.drewN | apply IsS68.drew | apply IsS68.set_0 | apply IsS68.set_1) | exact HI0.out)); (case side2 => repeat (first | (with_reducible first | exact HB.out | apply below_alloc | apply pw_below_drewN | apply below_drew1 | refine below_set ?_ (IsS68.ge HI0.out)) | exact HB.out)); rintro e w9 ⟨rfl, hi, hb, hk⟩; refine ⟨_, rfl, ?_⟩; have n0_ := Aside0.mk (KeepBut.trans (by repeat (first | (with_reducible first | exact HK.out | apply KeepBut.set_ | apply keep_drewN | apply keep_drew | apply keep_alloc) | exact HK.out)) hk (.inl rfl)); have n1_ := Aside0.mk (hb); have n2_ := Aside0.mk (hi); clear HK; clear HB; clear HI0; have HK := n0_; have HB := n1_; have HI0 := n2_; clear n0_ n1_ n2_; (try clear hb); (try clear hb2); (try clear hk); (try clear hi)) | ((with_reducible refine gate_callee (f := 45) rfl ?_); refine goesL_ (some 17) rfl rfl Try.func45 (by kernel_rfl) rfl #[.pointer (some ⟨g, 0, none⟩), .int .i64 2] rfl (by (try simp only [List.map_toArray, List.map_cons, List.map_nil]); first | done | rfl | (simp only [List.length_drop, List.length_take]; rfl)) ?_; (with_reducible refine (vint_Reader_fail.calls g t155 t156 2 t157 t158 w0 _ ?side1 ?side2 A7.out).mono ?_); (case side1 => repeat (first | (with_reducible first | exact HI0.out | apply IsS68.alloc | apply IsS68.drewN | apply IsS68.drew | apply IsS68.set_0 | apply IsS68.set_1) | exact HI0.out)); (case side2 => repeat (first | (with_reducible first | exact HB.out | apply below_alloc | apply pw_below_drewN | apply below_drew1 | refine below_set ?_ (IsS68.ge HI0.out)) | exact HB.out)); rintro e w10 ⟨rfl, hi, hb, hk⟩; refine ⟨_, rfl, ?_⟩; have n0_ := Aside0.mk (KeepBut.trans (by repeat (first | (with_reducible first | exact HK.out | apply KeepBut.set_ | apply keep_drewN | apply keep_drew | apply keep_alloc) | exact HK.out)) hk (.inl rfl)); have n1_ := Aside0.mk (hb); have n2_ := Aside0.mk (hi); clear HK; clear HB; clear HI0; have HK := n0_; have HB := n1_; have HI0 := n2_; clear n0_ n1_ n2_; (try clear hb); (try clear hb2); (try clear hk); (try clear hi)))
   go_ret
   exact ⟨_, by first | rfl | (simp [errW_none, errW_some] <;> rfl) | (simp [*, errW_none, errW_some] <;> rfl), by first | exact Kd.R_nil _ _ _ _ _ | exact Kd.N_nil _ _ _ _ _ | exact Kd.V_nil _ _ _ _ _ | exact Kd.Q_nil _ _ _ _ _ | exact Kd.S_nil _ _ _ _ _, by repeat (first | (with_reducible first | exact HI0.out | apply IsS68.alloc | apply IsS68.drewN | apply IsS68.drew | apply IsS68.set_0 | apply IsS68.set_1) | exact HI0.out), by repeat (first | (with_reducible first | exact HB.out | apply below_alloc | apply pw_below_drewN | apply below_drew1 | refine below_set ?_ (IsS68.ge HI0.out)) | exact HB.out), by repeat (first | (with_reducible first | exact HK.out | apply KeepBut.set_ | apply keep_drewN | apply keep_drew | apply keep_alloc) | exact HK.out)⟩
 rw [if_neg c6] at H
 have c6b0 : decide (a1 < t151) = false := decide_eq_false c6
 clear c6
 have H' := Aside0.mk H
 clear H
 go_enter Try.func31, Try.ntmps31
 go_wp2_with (first | ((with_reducible refine gate_callee (f := 26) rfl ?_); refine goesL_ (some 9) rfl rfl Try.func26 (by kernel_rfl) rfl #[.pointer (some ⟨g, 0, none⟩)] rfl (by (try simp only [List.map_toArray, List.map_cons, List.map_nil]); first | done | rfl | (simp only [List.length_drop, List.length_take]; rfl)) ?_; (with_reducible refine (vint_Reader_Num.calls k g s0_0 s0_1 t151 t152 t153 w0 _ ?side1 ?side2 A3.out).mono ?_); (case side1 => repeat (first | (with_reducible first | exact HI0.out | apply IsS68.alloc | apply IsS68.drewN | apply IsS68.drew | apply IsS68.set_0 | apply IsS68.set_1) | exact HI0.out)); (case side2 => repeat (first | (with_reducible first | exact HB.out | apply below_alloc | apply pw_below_drewN | apply below_drew1 | refine below_set ?_ (IsS68.ge HI0.out)) | exact HB.out)); rintro e w11 ⟨rfl, hi, hb, hk⟩; refine ⟨_, rfl, ?_⟩; have n0_ := Aside0.mk (KeepBut.trans (by repeat (first | (with_reducible first | exact HK.out | apply KeepBut.set_ | apply keep_drewN | apply keep_drew | apply keep_alloc) | exact HK.out)) hk (.inl rfl)); have n1_ := Aside0.mk (hb); have n2_ := Aside0.mk (hi); clear HK; clear HB; clear HI0; have HK := n0_; have HB := n1_; have HI0 := n2_; clear n0_ n1_ n2_; (try clear hb); (try clear hb2); (try clear hk); (try clear hi)) | ((with_reducible refine gate_callee (f := 30) rfl ?_); refine goesL_ (some 11) rfl rfl Try.func30 (by kernel_rfl) rfl #[.pointer (some ⟨g, 0, none⟩)] rfl (by (try simp only [List.map_toArray, List.map_cons, List.map_nil]); first | done | rfl | (simp only [List.length_drop, List.length_take]; rfl)) ?_; (with_reducible refine (vint_Reader_Err.calls g t152 t153 t154 t155 t156 w0 _ ?side1 ?side2 A4.out).mono ?_); (case side1 => repeat (first | (with_reducible first | exact HI0.out | apply IsS68.alloc | apply IsS68.drewN | apply IsS68.drew | apply IsS68.set_0 | apply IsS68.set_1) | exact HI0.out)); (case side2 => repeat (first | (with_reducible first | exact HB.out | apply below_alloc | apply pw_below_drewN | apply below_drew1 | refine below_set ?_ (IsS68.ge HI0.out)) | exact HB.out)); rintro e w12 ⟨rfl, hi, hb, hk⟩; refine ⟨_, rfl, ?_⟩; have n0_ := Aside0.mk (KeepBut.trans (by repeat (first | (with_reducible first | exact HK.out | apply KeepBut.set_ | apply keep_drewN | apply keep_drew | apply keep_alloc) | exact HK.out)) hk (.inl rfl)); have n1_ := Aside0.mk (hb); have n2_ := Aside0.mk (hi); clear HK; clear HB; clear HI0; have HK := n0_; have HB := n1_; have HI0 := n2_; clear n0_ n1_ n2_; (try clear hb); (try clear hb2); (try clear hk); (try clear hi)))
 go_loopg [6, 19] k (fun kq v6 v19 w' => ∃ (x6_1 : List Int) (x19_1 : Int) (x1000_1 : ByteArray) (x1001_1 : Int), v19 = .int .i64 x19_1 ∧ Aside0 (vint_Reader_List.l0 kq x6_1 t151 x19_1 x1000_1 x1001_1 = some (r1, r2, r3)) ∧ Aside0 (kq ≤ k) ∧ Aside0 (Kd.R (Kd.int .i64) 3 w' w.heap.size (fun _ => True) v6 x6_1) ∧ Aside0 (IsS68 w0 w' g x1000_1 x1001_1) ∧ Aside0 (KeepBut w w' g none) ∧ Aside0 (Below w0.heap.size w0 w'))
 case atStart => exact ⟨(([] : List Int)), (0), (t155), (t156), (by first | rfl | (simp; done) | (simp [*]; done)), H', ⟨Nat.le_refl _⟩, ⟨by first | exact Kd.R_nil _ _ _ _ _ | exact Kd.N_nil _ _ _ _ _ | exact Kd.V_nil _ _ _ _ _ | exact Kd.Q_nil _ _ _ _ _ | exact Kd.S_nil _ _ _ _ _⟩, ⟨by repeat (first | (with_reducible first | exact HI0.out | apply IsS68.alloc | apply IsS68.drewN | apply IsS68.drew | apply IsS68.set_0 | apply IsS68.set_1) | exact HI0.out)⟩, ⟨by repeat (first | (with_reducible first | exact HK.out | apply KeepBut.set_ | apply keep_drewN | apply keep_drew | apply keep_alloc) | exact HK.out)⟩, ⟨by repeat (first | (with_reducible first | exact HB.out | apply below_alloc | apply pw_below_drewN | apply below_drew1 | refine below_set ?_ (IsS68.ge HI0.out)) | exact HB.out)⟩⟩
 clear H'
 try clear c2
 try clear p2
 try clear c3
 try clear c4
 try clear c5
 try clear c5b0
 try clear c5b1
 try clear c6
 try clear c6b0
 obtain ⟨x6_1, x19_1, x1000_1, x1001_1, rfl, HA, HK1, HO_6, HI0, HK, HB⟩ := hrel
 cases gk with
 | zero => exact absurd HA.out (by simp [vint_Reader_List.l0])
 | succ k1 => ?_
 have H := HA.out
 clear HA; simp only [vint_Reader_List.l0] at H
 by_cases c13 : x19_1 < t151
 rotate_left
 · rw [if_neg c13] at H
   have c13b0 : decide (x19_1 < t151) = false := decide_eq_false c13
   clear c13; simp only [Option.some.injEq, Prod.mk.injEq] at H
   obtain ⟨rfl, rfl, rfl⟩ := H
   go_wp2
   go_ret
   exact ⟨_, by first | rfl | (simp [errW_none, errW_some] <;> rfl) | (simp [*, errW_none, errW_some] <;> rfl), by (with_reducible repeat (first | apply Kd.R_alloc | apply Kd.R_drewN | apply Kd.R_drew)); exact HO_6.out, by repeat (first | (with_reducible first | exact HI0.out | apply IsS68.alloc | apply IsS68.drewN | apply IsS68.drew | apply IsS68.set_0 | apply IsS68.set_1) | exact HI0.out), by repeat (first | (with_reducible first | exact HB.out | apply below_alloc | apply pw_below_drewN | apply below_drew1 | refine below_set ?_ (IsS68.ge HI0.out)) | exact HB.out), by repeat (first | (with_reducible first | exact HK.out | apply KeepBut.set_ | apply keep_drewN | apply keep_drew | apply keep_alloc) | exact HK.out)⟩
 rw [if_pos c13] at H
 have c13b0 : decide (x19_1 < t151) = true := decide_eq_true c13
 clear c13
 replace H := Option.bind_eq_some_iff.mp H
 obtain ⟨⟨t159, t160, t161⟩, A140, H⟩ := H
 replace H : ((vint_Reader_Err.f t160 t161).bind fun bt162 => (if bt162.1 = 0 then (if x6_1.length < 17592186044416 then (vint_Reader_List.l0 k1 (x6_1 ++ [t159]) t151 (wrap64 (x19_1 + 1)) bt162.2.1 bt162.2.2) else (none)) else (some (([] : List Int), bt162.2.1, bt162.2.2)))) = some (r1, r2, r3) := H
 have A14 := Aside0.mk A140
 clear A140
 replace H := Option.bind_eq_some_iff.mp H
 obtain ⟨⟨t162, t163, t164⟩, A150, H⟩ := H
 replace H : (if t162 = 0 then (if x6_1.length < 17592186044416 then (vint_Reader_List.l0 k1 (x6_1 ++ [t159]) t151 (wrap64 (x19_1 + 1)) t163 t164) else (none)) else (some (([] : List Int), t163, t164))) = some (r1, r2, r3) := H
 have A15 := Aside0.mk A150
 clear A150
 by_cases c16 : t162 = 0
 rotate_left
 · rw [if_neg c16] at H
   have c16b0 : (t162 == 0) = false := beq_eq_false_iff_ne.mpr c16
   have c16b1 : (t162 != 0) = true := bne_iff_ne.mpr c16
   simp only [Option.some.injEq, Prod.mk.injEq] at H
   obtain ⟨rfl, rfl, rfl⟩ := H
   go_wp2_with (first | ((with_reducible refine gate_callee (f := 28) rfl ?_); refine goesL_ (some 22) rfl rfl Try.func28 (by kernel_rfl) rfl #[.pointer (some ⟨g, 0, none⟩)] rfl (by (try simp only [List.map_toArray, List.map_cons, List.map_nil]); first | done | rfl | (simp only [List.length_drop, List.length_take]; rfl)) ?_; (with_reducible refine (vint_Reader_Whole.calls k1 g x1000_1 x1001_1 t159 t160 t161 w0 _ ?side1 ?side2 A14.out).mono ?_); (case side1 => repeat (first | (with_reducible first | exact HI0.out | apply IsS68.alloc | apply IsS68.drewN | apply IsS68.drew | apply IsS68.set_0 | apply IsS68.set_1) | exact HI0.out)); (case side2 => repeat (first | (with_reducible first | exact HB.out | apply below_alloc | apply pw_below_drewN | apply below_drew1 | refine below_set ?_ (IsS68.ge HI0.out)) | exact HB.out)); rintro e w21 ⟨rfl, hi, hb, hk⟩; refine ⟨_, rfl, ?_⟩; have n0_ := Aside0.mk (Kd.R_mono (Kd.R_keep (IsS68.apart (show IsS68 w0 _ g x1000_1 x1001_1 from by repeat (first | (with_reducible first | exact HI0.out | apply IsS68.alloc | apply IsS68.drewN | apply IsS68.drew | apply IsS68.set_0 | apply IsS68.set_1) | exact HI0.out)) (by (with_reducible repeat (first | apply Kd.R_alloc | apply Kd.R_drewN | apply Kd.R_drew)); exact HO_6.out) (by decide)) hk (fun _ h => h.2)) (fun _ h => h.1)); have n1_ := Aside0.mk (KeepBut.trans (by repeat (first | (with_reducible first | exact HK.out | apply KeepBut.set_ | apply keep_drewN | apply keep_drew | apply keep_alloc) | exact HK.out)) hk (.inl rfl)); have n2_ := Aside0.mk (hb); have n3_ := Aside0.mk (hi); clear HO_6; clear HK; clear HB; clear HI0; have HO_6 := n0_; have HK := n1_; have HB := n2_; have HI0 := n3_; clear n0_ n1_ n2_ n3_; (try clear hb); (try clear hb2); (try clear hk); (try clear hi)) | ((with_reducible refine gate_callee (f := 30) rfl ?_); refine goesL_ (some 24) rfl rfl Try.func30 (by kernel_rfl) rfl #[.pointer (some ⟨g, 0, none⟩)] rfl (by (try simp only [List.map_toArray, List.map_cons, List.map_nil]); first | done | rfl | (simp only [List.length_drop, List.length_take]; rfl)) ?_; (with_reducible refine (vint_Reader_Err.calls g t160 t161 t162 t163 t164 w0 _ ?side1 ?side2 A15.out).mono ?_); (case side1 => repeat (first | (with_reducible first | exact HI0.out | apply IsS68.alloc | apply IsS68.drewN | apply IsS68.drew | apply IsS68.set_0 | apply IsS68.set_1) | exact HI0.out)); (case side2 => repeat (first | (with_reducible first | exact HB.out | apply below_alloc | apply pw_below_drewN | apply below_drew1 | refine below_set ?_ (IsS68.ge HI0.out)) | exact HB.out)); rintro e w22 ⟨rfl, hi, hb, hk⟩; refine ⟨_, rfl, ?_⟩; have n0_ := Aside0.mk (Kd.R_mono (Kd.R_keep (IsS68.apart (show IsS68 w0 _ g t160 t161 from by repeat (first | (with_reducible first | exact HI0.out | apply IsS68.alloc | apply IsS68.drewN | apply IsS68.drew | apply IsS68.set_0 | apply IsS68.set_1) | exact HI0.out)) (by (with_reducible repeat (first | apply Kd.R_alloc | apply Kd.R_drewN | apply Kd.R_drew)); exact HO_6.out) (by decide)) hk (fun _ h => h.2)) (fun _ h => h.1)); have n1_ := Aside0.mk (KeepBut.trans (by repeat (first | (with_reducible first | exact HK.out | apply KeepBut.set_ | apply keep_drewN | apply keep_drew | apply keep_alloc) | exact HK.out)) hk (.inl rfl)); have n2_ := Aside0.mk (hb); have n3_ := Aside0.mk (hi); clear HO_6; clear HK; clear HB; clear HI0; have HO_6 := n0_; have HK := n1_; have HB := n2_; have HI0 := n3_; clear n0_ n1_ n2_ n3_; (try clear hb); (try clear hb2); (try clear hk); (try clear hi)))
   go_ret
   exact ⟨_, by first | rfl | (simp [errW_none, errW_some] <;> rfl) | (simp [*, errW_none, errW_some] <;> rfl), by first | exact Kd.R_nil _ _ _ _ _ | exact Kd.N_nil _ _ _ _ _ | exact Kd.V_nil _ _ _ _ _ | exact Kd.Q_nil _ _ _ _ _ | exact Kd.S_nil _ _ _ _ _, by repeat (first | (with_reducible first | exact HI0.out | apply IsS68.alloc | apply IsS68.drewN | apply IsS68.drew | apply IsS68.set_0 | apply IsS68.set_1) | exact HI0.out), by repeat (first | (with_reducible first | exact HB.out | apply below_alloc | apply pw_below_drewN | apply below_drew1 | refine below_set ?_ (IsS68.ge HI0.out)) | exact HB.out), by repeat (first | (with_reducible first | exact HK.out | apply KeepBut.set_ | apply keep_drewN | apply keep_drew | apply keep_alloc) | exact HK.out)⟩
 rw [if_pos c16] at H
 have c16b0 : (t162 == 0) = true := beq_iff_eq.mpr c16
 have c16b1 : (t162 != 0) = false := bne_eq_false_iff_eq.mpr c16
 clear c16
 by_cases c17 : x6_1.length < 17592186044416
 rotate_left
 · rw [if_neg c17] at H; exact absurd H (by simp)
 rw [if_pos c17] at H
 have LMc17 := Aside0.mk c17
 clear c17
 obtain ⟨y165, hy165⟩ : ∃ y_ : List Int, y_ = (x6_1 ++ [t159]) := ⟨_, rfl⟩
 replace H : (vint_Reader_List.l0 k1 y165 t151 (wrap64 (x19_1 + 1)) t163 t164) = some (r1, r2, r3) := by first | (rw [hy165]; with_reducible exact H) | (have H2_ := (Option.bind_some _ _).symm.trans H; rw [hy165]; with_reducible exact H2_) | (have H2_ := (Option.bind_some _ _).symm.trans H; with_reducible exact H2_) | with_reducible exact H | (rw [hy165]; exact H) | exact H
 have Ny165 := Aside0.mk hy165
 clear hy165
 have H' := Aside0.mk H
 clear H
 go_wp2_with (first | ((with_reducible refine gate_callee (f := 28) rfl ?_); refine goesL_ (some 22) rfl rfl Try.func28 (by kernel_rfl) rfl #[.pointer (some ⟨g, 0, none⟩)] rfl (by (try simp only [List.map_toArray, List.map_cons, List.map_nil]); first | done | rfl | (simp only [List.length_drop, List.length_take]; rfl)) ?_; (with_reducible refine (vint_Reader_Whole.calls k1 g x1000_1 x1001_1 t159 t160 t161 w0 _ ?side1 ?side2 A14.out).mono ?_); (case side1 => repeat (first | (with_reducible first | exact HI0.out | apply IsS68.alloc | apply IsS68.drewN | apply IsS68.drew | apply IsS68.set_0 | apply IsS68.set_1) | exact HI0.out)); (case side2 => repeat (first | (with_reducible first | exact HB.out | apply below_alloc | apply pw_below_drewN | apply below_drew1 | refine below_set ?_ (IsS68.ge HI0.out)) | exact HB.out)); rintro e w18 ⟨rfl, hi, hb, hk⟩; refine ⟨_, rfl, ?_⟩; have n0_ := Aside0.mk (Kd.R_mono (Kd.R_keep (IsS68.apart (show IsS68 w0 _ g x1000_1 x1001_1 from by repeat (first | (with_reducible first | exact HI0.out | apply IsS68.alloc | apply IsS68.drewN | apply IsS68.drew | apply IsS68.set_0 | apply IsS68.set_1) | exact HI0.out)) (by (with_reducible repeat (first | apply Kd.R_alloc | apply Kd.R_drewN | apply Kd.R_drew)); exact HO_6.out) (by decide)) hk (fun _ h => h.2)) (fun _ h => h.1)); have n1_ := Aside0.mk (KeepBut.trans (by repeat (first | (with_reducible first | exact HK.out | apply KeepBut.set_ | apply keep_drewN | apply keep_drew | apply keep_alloc) | exact HK.out)) hk (.inl rfl)); have n2_ := Aside0.mk (hb); have n3_ := Aside0.mk (hi); clear HO_6; clear HK; clear HB; clear HI0; have HO_6 := n0_; have HK := n1_; have HB := n2_; have HI0 := n3_; clear n0_ n1_ n2_ n3_; (try clear hb); (try clear hb2); (try clear hk); (try clear hi)) | ((with_reducible refine gate_callee (f := 30) rfl ?_); refine goesL_ (some 24) rfl rfl Try.func30 (by kernel_rfl) rfl #[.pointer (some ⟨g, 0, none⟩)] rfl (by (try simp only [List.map_toArray, List.map_cons, List.map_nil]); first | done | rfl | (simp only [List.length_drop, List.length_take]; rfl)) ?_; (with_reducible refine (vint_Reader_Err.calls g t160 t161 t162 t163 t164 w0 _ ?side1 ?side2 A15.out).mono ?_); (case side1 => repeat (first | (with_reducible first | exact HI0.out | apply IsS68.alloc | apply IsS68.drewN | apply IsS68.drew | apply IsS68.set_0 | apply IsS68.set_1) | exact HI0.out)); (case side2 => repeat (first | (with_reducible first | exact HB.out | apply below_alloc | apply pw_below_drewN | apply below_drew1 | refine below_set ?_ (IsS68.ge HI0.out)) | exact HB.out)); rintro e w19 ⟨rfl, hi, hb, hk⟩; refine ⟨_, rfl, ?_⟩; have n0_ := Aside0.mk (Kd.R_mono (Kd.R_keep (IsS68.apart (show IsS68 w0 _ g t160 t161 from by repeat (first | (with_reducible first | exact HI0.out | apply IsS68.alloc | apply IsS68.drewN | apply IsS68.drew | apply IsS68.set_0 | apply IsS68.set_1) | exact HI0.out)) (by (with_reducible repeat (first | apply Kd.R_alloc | apply Kd.R_drewN | apply Kd.R_drew)); exact HO_6.out) (by decide)) hk (fun _ h => h.2)) (fun _ h => h.1)); have n1_ := Aside0.mk (KeepBut.trans (by repeat (first | (with_reducible first | exact HK.out | apply KeepBut.set_ | apply keep_drewN | apply keep_drew | apply keep_alloc) | exact HK.out)) hk (.inl rfl)); have n2_ := Aside0.mk (hb); have n3_ := Aside0.mk (hi); clear HO_6; clear HK; clear HB; clear HI0; have HO_6 := n0_; have HK := n1_; have HB := n2_; have HI0 := n3_; clear n0_ n1_ n2_ n3_; (try clear hb); (try clear hb2); (try clear hk); (try clear hi)) | ((with_reducible refine gate_builtin (b := .append) (xs := #[.tmp 26, .tmp 28]) rfl ?_); at_builtin; refine Kd.R_append (Kd.int .i64) w.heap.size rfl (.tmp 26) (.tmp 28) 22 3 (.int .i64 0) 8 rfl Try.underlying22 info3 rfl (by decide) (by omega) u6 x6_1 t159 [.int .i64 t159] (fun _ => True) (fun _ => False) rfl rfl ?aP (fun _ hk => hk.elim) ?aF ?aO (Below.refl _ _) ?aS ?aL ?_; (case aP => exact rfl); (case aF => exact (fun _ _ => trivial)); (case aO => exact (by (with_reducible repeat (first | apply Kd.R_alloc | apply Kd.R_drewN | apply Kd.R_drew)); exact HO_6.out)); (case aS => exact (keep_size (w := w) (g := g) (row := none) (by repeat (first | (with_reducible first | exact HK.out | apply KeepBut.set_ | apply keep_drewN | apply keep_drew | apply keep_alloc) | exact HK.out)))); (case aL => have := LMc17.out; omega); intro v166 w20 ho hb hg hat; rw [← Ny165.out] at ho; have n0_ := Aside0.mk (IsS68.grown (by repeat (first | (with_reducible first | exact HI0.out | apply IsS68.alloc | apply IsS68.drewN | apply IsS68.drew | apply IsS68.set_0 | apply IsS68.set_1) | exact HI0.out)) hg (IsS68.own_ne HI0.out HO_6.out (by decide))); have n1_ := Aside0.mk (below_weaken (by repeat (first | (with_reducible first | exact HB.out | apply below_alloc | apply pw_below_drewN | apply below_drew1 | refine below_set ?_ (IsS68.ge HI0.out)) | exact HB.out)) HL.out hb); have n2_ := Aside0.mk (KeepBut.trans (by repeat (first | (with_reducible first | exact HK.out | apply KeepBut.set_ | apply keep_drewN | apply keep_drew | apply keep_alloc) | exact HK.out)) (KeepBut.of_grown hg g) (Kd.R_base2 HO_6.out)); have n3_ := Aside0.mk (ho); clear HI0; clear HB; clear HK; clear HO_6; have HI0 := n0_; have HB := n1_; have HK := n2_; have HO167 := n3_; clear n0_ n1_ n2_ n3_; clear ho hb hg hat))
 go_roundg k1
 case measure => have := HK1.out; omega
 case rel => exact ⟨(y165), (wrap64 (x19_1 + 1)), (t163), (t164), (by first | rfl | (simp; done) | (simp [*]; done)), H', ⟨by have := HK1.out; omega⟩, ⟨by (with_reducible repeat (first | apply Kd.R_alloc | apply Kd.R_drewN | apply Kd.R_drew)); exact HO167.out⟩, ⟨by repeat (first | (with_reducible first | exact HI0.out | apply IsS68.alloc | apply IsS68.drewN | apply IsS68.drew | apply IsS68.set_0 | apply IsS68.set_1) | exact HI0.out)⟩, ⟨by repeat (first | (with_reducible first | exact HK.out | apply KeepBut.set_ | apply keep_drewN | apply keep_drew | apply keep_alloc) | exact HK.out)⟩, ⟨by repeat (first | (with_reducible first | exact HB.out | apply below_alloc | apply pw_below_drewN | apply below_drew1 | refine below_set ?_ (IsS68.ge HI0.out)) | exact HB.out)⟩⟩

/-! ### vint_Reader_Left: function 32 -/
def vint_Reader_Left.f (s0_0 : ByteArray) (s0_1 : Int) : Option (ByteArray × ByteArray × Int) := some (s0_0, s0_0, s0_1)
set_option maxHeartbeats 8000000 in
set_option maxRecDepth 100000 in
theorem vint_Reader_Left.calls (g : Nat) (s0_0 : ByteArray) (s0_1 : Int) (r1 : ByteArray) (r2 : ByteArray) (r3 : Int) (w0 w : World) (hI : IsS68 w0 w g s0_0 s0_1) (hB : Below w0.heap.size w0 w) (h : vint_Reader_Left.f s0_0 s0_1 = some (r1, r2, r3)) :
    Calls Try.prog 32 #[.pointer (some ⟨g, 0, none⟩)] w fun e w' => e = .returned (.string r1) ∧ IsS68 w0 w' g r2 r3 ∧ Below w0.heap.size w0 w' ∧ KeepBut w w' g none := by
  have HI0 := Aside0.mk hI
  have HK := Aside0.mk (KeepBut.refl w g none)
  have HL := Aside0.mk hB.size
  clear hI
  have HW0 := Aside0.mk hB.size
  have HB := Aside0.mk hB
  clear hB
  have H : (some (s0_0, s0_0, s0_1)) = some (r1, r2, r3) := h
  clear h
  simp only [Option.some.injEq, Prod.mk.injEq] at H
  obtain ⟨rfl, rfl, rfl⟩ := H
  obtain ⟨HGz2, hgz2⟩ := HI0.out
  have hcz2_0 := cellS68_0 HGz2
  have hcz2_1 := cellS68_1 HGz2
  have hfz2_0 := blk_frozen HGz2 0
  have hfz2_1 := blk_frozen HGz2 1
  clear HGz2 hgz2
  go_enter Try.func32, Try.ntmps32
  go_wp2
  go_ret
  exact ⟨by first | rfl | (simp [errW_none, errW_some] <;> rfl) | (simp [*, errW_none, errW_some] <;> rfl), by repeat (first | (with_reducible first | exact HI0.out | apply IsS68.alloc | apply IsS68.drewN | apply IsS68.drew | apply IsS68.set_0 | apply IsS68.set_1) | exact HI0.out), by repeat (first | (with_reducible first | exact HB.out | apply below_alloc | apply pw_below_drewN | apply below_drew1 | refine below_set ?_ (IsS68.ge HI0.out)) | exact HB.out), by repeat (first | (with_reducible first | exact HK.out | apply KeepBut.set_ | apply keep_drewN | apply keep_drew | apply keep_alloc) | exact HK.out)⟩

/-! several readers at once -/
theorem IsS68.up {w0 w1 W : World} {g : Nat} {a : ByteArray} {b : Int} (h : IsS68 w1 W g a b) (hle : w0.heap.size ≤ w1.heap.size) : IsS68 w0 W g a b := by
  obtain ⟨hb, hg⟩ := h
  exact ⟨hb, Nat.le_trans hle hg⟩
theorem IsS68.keep {w0 W W' : World} {g g' : Nat} {a : ByteArray} {b : Int} (h : IsS68 w0 W g' a b) (hk : KeepBut W W' g none) (hne : g' ≠ g) : IsS68 w0 W' g' a b :=
  h.kept (S := fun i => i = g) ⟨hk.1, fun i hi hn => hk.2 i hi hn (by simp)⟩ hne

/-! ### splicelaw01_VintOnce: function 9 (four readers at once: by hand) -/
def okB (o : Option ByteArray) (rest s : ByteArray) : Bool := match o with | some x => decide (x ++ rest = s) | none => false
def onceB (k : Nat) (s : ByteArray) : Bool :=
  match vint_Reader_Num.f k s 0, vint_Reader_Whole.f k s 0, vint_Reader_Text.f k s 0 20000, vint_Reader_List.f k s 0 300, splicelaw01_awake.f k with
  | some n, some z, some t, some l, some true => (decide (n.2.2 ≠ 0) || okB (vint_Num.f k n.1) n.2.1 s) && (decide (z.2.2 ≠ 0) || okB (vint_Whole.f k z.1) z.2.1 s) && (decide (t.2.2 ≠ 0) || okB (vint_Text.f k t.1) t.2.1 s) && (decide (l.2.2 ≠ 0) || okB (vint_List.f k l.1) l.2.1 s)
  | _, _, _, _, _ => false
def splicelaw01_VintOnce.f (k : Nat) (a0 : ByteArray) : Option (Bool) :=
  if (a0.size : Int) > 20000 then splicelaw01_awake.f k else if onceB k a0 = true then some true else none
theorem ok_or (e : Int) (o : Option ByteArray) (rest s : ByteArray) (h : (decide (e ≠ 0) || okB o rest s) = true) : e ≠ 0 ∨ (e = 0 ∧ ∃ x, o = some x ∧ x ++ rest = s) := by
  by_cases he : e = 0
  · refine Or.inr ⟨he, ?_⟩
    rw [decide_eq_false (by simp [he]), Bool.false_or] at h
    unfold okB at h
    split at h
    · exact ⟨_, rfl, of_decide_eq_true h⟩
    · simp at h
  · exact Or.inl he
theorem once_split (s : ByteArray) (hs : ¬ (s.size : Int) > 20000) (e : Int) (o : Option ByteArray) (rest : ByteArray) (h : e ≠ 0 ∨ (e = 0 ∧ ∃ x, o = some x ∧ x ++ rest = s)) :
    ((e == 0) = false ∧ decide (e = 0) = false ∧ (e != 0) = true ∧ (e = 0) = False) ∨ (e = 0 ∧ ∃ x, Aside0 (o = some x) ∧ x ++ rest = s ∧ (x.size + rest.size ≤ 9223372036854775807) = True ∧ decide (x.size + rest.size ≤ 9223372036854775807) = true ∧ (9223372036854775807 < x.size + rest.size) = False) := by
  rcases h with h | ⟨h, x, hx, e1⟩
  · exact Or.inl ⟨beq_eq_false_iff_ne.mpr h, decide_eq_false h, bne_iff_ne.mpr h, eq_false h⟩
  · have hl : x.size + rest.size ≤ 9223372036854775807 := by have := congrArg ByteArray.size e1; rw [ByteArray.size_append] at this; omega
    exact Or.inr ⟨h, x, ⟨hx⟩, e1, eq_true hl, decide_eq_true hl, eq_false (Nat.not_lt.2 hl)⟩
structure Rds (w W : World) (ga gb gc gd : Nat) (sa sb sc sd : ByteArray) (ea eb ec ed : Int) : Prop where
  a : IsS68 w W ga sa ea
  b : IsS68 w W gb sb eb
  c : IsS68 w W gc sc ec
  d : IsS68 w W gd sd ed
  ab : ga ≠ gb
  ac : ga ≠ gc
  ad : ga ≠ gd
  bc : gb ≠ gc
  bd : gb ≠ gd
  cd : gc ≠ gd
  bel : Below w.heap.size w W
theorem Rds.mk4 {w wa wb wc wd : World} {ga gb gc gd : Nat} {s : ByteArray} (hIa : IsS68 w wa ga s 0) (hba : Below w.heap.size w wa) (hIb : IsS68 wa wb gb s 0) (hbb : Below wa.heap.size wa wb) (hIc : IsS68 wb wc gc s 0) (hbc : Below wb.heap.size wb wc) (hId : IsS68 wc wd gd s 0) (hbd : Below wc.heap.size wc wd) : Rds w wd ga gb gc gd s s s s 0 0 0 0 := by
  have a1 := hIa.lt
  have b1 := hIb.lt
  have c1 := hIc.lt
  have b2 := hIb.ge
  have c2 := hIc.ge
  have d2 := hId.ge
  have s1 := hba.size
  have s2 := hbb.size
  have s3 := hbc.size
  exact ⟨((hIa.below hbb).below hbc).below hbd, ((hIb.below hbc).below hbd).up s1, (hIc.below hbd).up (Nat.le_trans s1 s2), hId.up (Nat.le_trans s1 (Nat.le_trans s2 s3)), by omega, by omega, by omega, by omega, by omega, by omega,
    ((hba.trans (hbb.mono s1)).trans (hbc.mono (Nat.le_trans s1 s2))).trans (hbd.mono (Nat.le_trans s1 (Nat.le_trans s2 s3)))⟩
section
variable {w W W' : World} {ga gb gc gd : Nat} {sa sb sc sd t : ByteArray} {ea eb ec ed e : Int}
theorem Rds.below (h : Rds w W ga gb gc gd sa sb sc sd ea eb ec ed) (hb : Below W.heap.size W W') : Rds w W' ga gb gc gd sa sb sc sd ea eb ec ed :=
  ⟨h.a.below hb, h.b.below hb, h.c.below hb, h.d.below hb, h.ab, h.ac, h.ad, h.bc, h.bd, h.cd, h.bel.trans (hb.mono h.bel.size)⟩
theorem Rds.seta (h : Rds w W ga gb gc gd sa sb sc sd ea eb ec ed) (hI : IsS68 w W' ga t e) (hb : Below w.heap.size w W') (hk : KeepBut W W' ga none) : Rds w W' ga gb gc gd t sb sc sd e eb ec ed :=
  ⟨hI, h.b.keep hk h.ab.symm, h.c.keep hk h.ac.symm, h.d.keep hk h.ad.symm, h.ab, h.ac, h.ad, h.bc, h.bd, h.cd, hb⟩
theorem Rds.setb (h : Rds w W ga gb gc gd sa sb sc sd ea eb ec ed) (hI : IsS68 w W' gb t e) (hb : Below w.heap.size w W') (hk : KeepBut W W' gb none) : Rds w W' ga gb gc gd sa t sc sd ea e ec ed :=
  ⟨h.a.keep hk h.ab, hI, h.c.keep hk h.bc.symm, h.d.keep hk h.bd.symm, h.ab, h.ac, h.ad, h.bc, h.bd, h.cd, hb⟩
theorem Rds.setc (h : Rds w W ga gb gc gd sa sb sc sd ea eb ec ed) (hI : IsS68 w W' gc t e) (hb : Below w.heap.size w W') (hk : KeepBut W W' gc none) : Rds w W' ga gb gc gd sa sb t sd ea eb e ed :=
  ⟨h.a.keep hk h.ac, h.b.keep hk h.bc, hI, h.d.keep hk h.cd.symm, h.ab, h.ac, h.ad, h.bc, h.bd, h.cd, hb⟩
theorem Rds.setd (h : Rds w W ga gb gc gd sa sb sc sd ea eb ec ed) (hI : IsS68 w W' gd t e) (hb : Below w.heap.size w W') (hk : KeepBut W W' gd none) : Rds w W' ga gb gc gd sa sb sc t ea eb ec e :=
  ⟨h.a.keep hk h.ad, h.b.keep hk h.bd, h.c.keep hk h.cd, hI, h.ab, h.ac, h.ad, h.bc, h.bd, h.cd, hb⟩
/-- the list that was read: a row of its own -/
def Lst (W : World) (ga gb gc gd base : Nat) (v : Value) (l : List Int) : Prop := Kd.R (Kd.int .i64) 3 W base (fun k => k ≠ ga ∧ k ≠ gb ∧ k ≠ gc ∧ k ≠ gd) v l
theorem Lst.of {base : Nat} {v : Value} {l : List Int} (h : Rds w W ga gb gc gd sa sb sc sd ea eb ec ed) (hR : Kd.R (Kd.int .i64) 3 W base (fun _ => True) v l) : Lst W ga gb gc gd base v l :=
  Kd.R_mono (h.d.apart (h.c.apart (h.b.apart (h.a.apart hR (by decide)) (by decide)) (by decide)) (by decide)) (fun k hk => ⟨hk.1.1.1.2, hk.1.1.2, hk.1.2, hk.2⟩)
theorem Lst.keep {base g : Nat} {v : Value} {l : List Int} (h : Lst W ga gb gc gd base v l) (hk : KeepBut W W' g none) (hg : g = ga ∨ g = gb ∨ g = gc ∨ g = gd) : Lst W' ga gb gc gd base v l :=
  Kd.R_step h (fun i hi hlt => hk.2 i hlt (by rcases hg with rfl | rfl | rfl | rfl; exact hi.1; exact hi.2.1; exact hi.2.2.1; exact hi.2.2.2) (by simp))
theorem Lst.below {base : Nat} {v : Value} {l : List Int} (h : Lst W ga gb gc gd base v l) (hb : Below W.heap.size W W') : Lst W' ga gb gc gd base v l := Kd.R_below h hb
end
set_option maxHeartbeats 8000000 in
set_option maxRecDepth 100000 in
theorem splicelaw01_VintOnce.walk (k : Nat) (s : ByteArray) (w : World) (hs : ¬ (s.size : Int) > 20000) (n : Int) (sn : ByteArray) (en : Int) (hn : vint_Reader_Num.f k s 0 = some (n, sn, en)) (z : Int) (sz : ByteArray) (ez : Int) (hz : vint_Reader_Whole.f k s 0 = some (z, sz, ez)) (t : ByteArray) (st : ByteArray) (et : Int) (ht : vint_Reader_Text.f k s 0 20000 = some (t, st, et)) (l : List Int) (sl : ByteArray) (el : Int) (hl : vint_Reader_List.f k s 0 300 = some (l, sl, el))
    (haw : splicelaw01_awake.f k = some true) (h1 : en ≠ 0 ∨ (en = 0 ∧ ∃ x, vint_Num.f k n = some x ∧ x ++ sn = s)) (h2 : ez ≠ 0 ∨ (ez = 0 ∧ ∃ x, vint_Whole.f k z = some x ∧ x ++ sz = s)) (h3 : et ≠ 0 ∨ (et = 0 ∧ ∃ x, vint_Text.f k t = some x ∧ x ++ st = s)) (h4 : el ≠ 0 ∨ (el = 0 ∧ ∃ x, vint_List.f k l = some x ∧ x ++ sl = s)) :
    Calls Try.prog 9 #[.string s] w fun e w' => e = .returned (.bool true) ∧ Below w.heap.size w w' := by
  have q0 : decide ((s.size : Int) > 20000) = false := decide_eq_false hs
  have q1 : decide ((20000 : Int) < (s.size : Int)) = false := decide_eq_false hs
  have hfrom : vint_From.f s = some (s, 0) := rfl
  replace h1 := once_split s hs en _ sn h1
  replace h2 := once_split s hs ez _ sz h2
  replace h3 := once_split s hs et _ st h3
  replace h4 := once_split s hs el _ sl h4
  have EA := Aside0.mk (show vint_Reader_Err.f sn en = some (en, sn, en) from rfl)
  have FA := Aside0.mk (show vint_Reader_Left.f sn en = some (sn, sn, en) from rfl)
  have EB := Aside0.mk (show vint_Reader_Err.f sz ez = some (ez, sz, ez) from rfl)
  have FB := Aside0.mk (show vint_Reader_Left.f sz ez = some (sz, sz, ez) from rfl)
  have EC := Aside0.mk (show vint_Reader_Err.f st et = some (et, st, et) from rfl)
  have FC := Aside0.mk (show vint_Reader_Left.f st et = some (st, st, et) from rfl)
  have ED := Aside0.mk (show vint_Reader_Err.f sl el = some (el, sl, el) from rfl)
  have FD := Aside0.mk (show vint_Reader_Left.f sl el = some (sl, sl, el) from rfl)
  have HN := Aside0.mk hn
  have HZ := Aside0.mk hz
  have HT := Aside0.mk ht
  have HL0 := Aside0.mk hl
  have HW := Aside0.mk haw
  have HF := Aside0.mk hfrom
  clear hn hz ht hl haw hfrom hs
  go_enter Try.func9, Try.ntmps9
  go_wp2_with (first
    | (have hc := HC1.out; go_at_call 25; refine (vint_From.calls s s 0 _ _ (Below.refl _ _) HF.out).mono ?_; rintro e wd ⟨gd, rfl, hId, hbd, hbd2⟩; have HR := Aside0.mk (Rds.mk4 HA1.out.1 HA1.out.2 HB1.out.1 HB1.out.2 HC1.out.1 HC1.out.2 hId hbd); clear hId hbd hbd2 HA1 HB1 HC1 hc)
    | (have hc := HB1.out; go_at_call 25; refine (vint_From.calls s s 0 _ _ (Below.refl _ _) HF.out).mono ?_; rintro e wc ⟨gc, rfl, hIc, hbc, hbc2⟩; have HC1 := Aside0.mk (And.intro hIc hbc); clear hIc hbc hbc2 hc)
    | (have hc := HA1.out; go_at_call 25; refine (vint_From.calls s s 0 _ _ (Below.refl _ _) HF.out).mono ?_; rintro e wb ⟨gb, rfl, hIb, hbb, hbb2⟩; have HB1 := Aside0.mk (And.intro hIb hbb); clear hIb hbb hbb2 hc)
    | (go_at_call 25; refine (vint_From.calls s s 0 _ _ (Below.refl _ _) HF.out).mono ?_; rintro e wa ⟨ga, rfl, hIa, hba, hba2⟩; have HA1 := Aside0.mk (And.intro hIa hba); clear hIa hba hba2))
  go_wp2_with (first
    | (go_at_call 26; refine (vint_Reader_Num.calls k ga s 0 n sn en w _ HR.out.a HR.out.bel HN.out).mono ?_; rintro e w5 ⟨rfl, hI, hb, hk⟩; replace HR := Aside0.mk (HR.out.seta hI hb hk); clear hI hb hk)
    | (go_at_call 28; refine (vint_Reader_Whole.calls k gb s 0 z sz ez w _ HR.out.b HR.out.bel HZ.out).mono ?_; rintro e w6 ⟨rfl, hI, hb, hk⟩; replace HR := Aside0.mk (HR.out.setb hI hb hk); clear hI hb hk)
    | (go_at_call 29; refine (vint_Reader_Text.calls k gc s 0 20000 t st et w _ HR.out.c HR.out.bel HT.out).mono ?_; rintro e w7 ⟨rfl, hI, hb, hk⟩; replace HR := Aside0.mk (HR.out.setc hI hb hk); clear hI hb hk)
    | (go_at_call 31; refine (vint_Reader_List.calls k gd s 0 300 l sl el w _ HR.out.d HR.out.bel HL0.out).mono ?_; rintro e w8 ⟨v0, rfl, hR, hI, hb, hk⟩; replace HR := Aside0.mk (HR.out.setd hI hb hk); have HL := Aside0.mk (Lst.of HR.out hR); obtain ⟨Al, cl, rfl⟩ := Kd.R_slice hR; clear hI hb hk hR))
  rcases h1 with ⟨pa1, pa2, pa3, pa4⟩ | ⟨rfl, x1, HX1, e1, la1, la2, la3⟩
  all_goals rcases h2 with ⟨pb1, pb2, pb3, pb4⟩ | ⟨rfl, x2, HX2, e2, lb1, lb2, lb3⟩
  all_goals go_wp2_with (first
    | (go_at_call 30; with_reducible refine (vint_Reader_Err.calls ga _ _ _ _ _ w _ HR.out.a HR.out.bel EA.out).mono ?_; rintro e w9 ⟨rfl, hI, hb, hk⟩; replace HL := Aside0.mk (HL.out.keep hk (by simp)); replace HR := Aside0.mk (HR.out.seta hI hb hk); clear hI hb hk)
    | (go_at_call 30; with_reducible refine (vint_Reader_Err.calls gb _ _ _ _ _ w _ HR.out.b HR.out.bel EB.out).mono ?_; rintro e w9 ⟨rfl, hI, hb, hk⟩; replace HL := Aside0.mk (HL.out.keep hk (by simp)); replace HR := Aside0.mk (HR.out.setb hI hb hk); clear hI hb hk)
    | (go_at_call 32; with_reducible refine (vint_Reader_Left.calls ga _ _ _ _ _ w _ HR.out.a HR.out.bel FA.out).mono ?_; rintro e w9 ⟨rfl, hI, hb, hk⟩; replace HL := Aside0.mk (HL.out.keep hk (by simp)); replace HR := Aside0.mk (HR.out.seta hI hb hk); clear hI hb hk)
    | (go_at_call 32; with_reducible refine (vint_Reader_Left.calls gb _ _ _ _ _ w _ HR.out.b HR.out.bel FB.out).mono ?_; rintro e w9 ⟨rfl, hI, hb, hk⟩; replace HL := Aside0.mk (HL.out.keep hk (by simp)); replace HR := Aside0.mk (HR.out.setb hI hb hk); clear hI hb hk)
    | (go_at_call 18; with_reducible refine (vint_Num.calls k n x1 _ HX1.out).mono ?_; rintro e w9 ⟨rfl, hb⟩; replace HL := Aside0.mk (HL.out.below hb); replace HR := Aside0.mk (HR.out.below hb); clear hb)
    | (go_at_call 20; with_reducible refine (vint_Whole.calls k z x2 _ HX2.out).mono ?_; rintro e w9 ⟨rfl, hb⟩; replace HL := Aside0.mk (HL.out.below hb); replace HR := Aside0.mk (HR.out.below hb); clear hb))
  all_goals rcases h3 with ⟨pc1, pc2, pc3, pc4⟩ | ⟨rfl, x3, HX3, e3, lc1, lc2, lc3⟩
  all_goals rcases h4 with ⟨pd1, pd2, pd3, pd4⟩ | ⟨rfl, x4, HX4, e4, ld1, ld2, ld3⟩
  all_goals go_wp2_with (first
    | (go_at_call 30; with_reducible refine (vint_Reader_Err.calls gc _ _ _ _ _ w _ HR.out.c HR.out.bel EC.out).mono ?_; rintro e w9 ⟨rfl, hI, hb, hk⟩; replace HL := Aside0.mk (HL.out.keep hk (by simp)); replace HR := Aside0.mk (HR.out.setc hI hb hk); clear hI hb hk)
    | (go_at_call 30; with_reducible refine (vint_Reader_Err.calls gd _ _ _ _ _ w _ HR.out.d HR.out.bel ED.out).mono ?_; rintro e w9 ⟨rfl, hI, hb, hk⟩; replace HL := Aside0.mk (HL.out.keep hk (by simp)); replace HR := Aside0.mk (HR.out.setd hI hb hk); clear hI hb hk)
    | (go_at_call 32; with_reducible refine (vint_Reader_Left.calls gc _ _ _ _ _ w _ HR.out.c HR.out.bel FC.out).mono ?_; rintro e w9 ⟨rfl, hI, hb, hk⟩; replace HL := Aside0.mk (HL.out.keep hk (by simp)); replace HR := Aside0.mk (HR.out.setc hI hb hk); clear hI hb hk)
    | (go_at_call 32; with_reducible refine (vint_Reader_Left.calls gd _ _ _ _ _ w _ HR.out.d HR.out.bel FD.out).mono ?_; rintro e w9 ⟨rfl, hI, hb, hk⟩; replace HL := Aside0.mk (HL.out.keep hk (by simp)); replace HR := Aside0.mk (HR.out.setd hI hb hk); clear hI hb hk)
    | (go_at_call 14; with_reducible refine (vint_Text.calls k t x3 _ HX3.out).mono ?_; rintro e w9 ⟨rfl, hb⟩; replace HL := Aside0.mk (HL.out.below hb); replace HR := Aside0.mk (HR.out.below hb); clear hb)
    | (go_at_call 16; have hq := Kd.R_reads' (show Kd.R (Kd.int .i64) 3 _ _ _ (.slice Al l.length cl) l from HL.out); with_reducible refine (vint_List.calls k Al cl l x4 _ hq.2.2 hq.2.1 HX4.out).mono ?_; rintro e w9 ⟨rfl, hb⟩; replace HL := Aside0.mk (HL.out.below hb); replace HR := Aside0.mk (HR.out.below hb); clear hb)
    | (go_at_call 13; with_reducible refine (splicelaw01_awake.calls k true _ HW.out rfl).mono ?_; rintro e w9 ⟨rfl, hb⟩; replace HL := Aside0.mk (HL.out.below hb); replace HR := Aside0.mk (HR.out.below hb); clear hb))
  all_goals go_ret
  all_goals exact ⟨rfl, HR.out.bel⟩
set_option maxHeartbeats 8000000 in
set_option maxRecDepth 100000 in
theorem splicelaw01_VintOnce.calls (k : Nat) (a0 : ByteArray) (r : Bool) (w : World) (h : splicelaw01_VintOnce.f k a0 = some r) (hr_ : r = true) :
    Calls Try.prog 9 #[.string a0] w fun e w' => e = .returned (.bool r) ∧ Below w.heap.size w w' := by
  subst hr_
  unfold splicelaw01_VintOnce.f at h
  by_cases hs : (a0.size : Int) > 20000
  · rw [if_pos hs] at h
    have q0 : decide ((a0.size : Int) > 20000) = true := decide_eq_true hs
    have q1 : decide ((20000 : Int) < (a0.size : Int)) = true := decide_eq_true hs
    have HW := Aside0.mk h
    clear h hs
    go_enter Try.func9, Try.ntmps9
    go_wp2_with (go_at_call 13; with_reducible refine (splicelaw01_awake.calls k true _ HW.out rfl).mono ?_; rintro e w9 ⟨rfl, hb⟩)
    go_ret
    exact ⟨rfl, hb⟩
  · rw [if_neg hs] at h
    split at h
    case isFalse => exact absurd h (by simp)
    rename_i hB
    unfold onceB at hB
    split at hB
    · rename_i n z t l hn hz ht hl haw
      obtain ⟨n, sn, en⟩ := n
      obtain ⟨z, sz, ez⟩ := z
      obtain ⟨t, st, et⟩ := t
      obtain ⟨l, sl, el⟩ := l
      simp only [Bool.and_eq_true] at hB
      obtain ⟨⟨⟨h1, h2⟩, h3⟩, h4⟩ := hB
      exact splicelaw01_VintOnce.walk k a0 w hs n sn en hn z sz ez hz t st et ht l sl el hl haw (ok_or _ _ _ _ h1) (ok_or _ _ _ _ h2) (ok_or _ _ _ _ h3) (ok_or _ _ _ _ h4)
    · simp at hB

/-! ### splicelaw01_VintOnce: function 9 -/
/-- THE ONE PURE STATEMENT of splicelaw01_VintOnce: yours. -/
def splicelaw01_VintOnce.Pure : Prop := ∀ (x0 : ByteArray), x0.size ≤ 140737488351232 → ∃ k, splicelaw01_VintOnce.f k x0 = some true

end Go.Proofs.Ytiljbfnnnblbpaa.PS
