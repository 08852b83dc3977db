-- written by a program of this session
import Derived.Test.YtlmecdlbnpnajaaPBx0
import Derived.Test.YtlmecdlbnpnajaaPBx1
import Derived.Test.YtlmecdlbnpnajaaPBx2
namespace Go.Proofs.Ytlmecdlbnpnajaa.PB
open Go.RowKit Go.Proofs.Ytlmecdlbnpnajaa.Op Go.Proofs.YtlmecdlbnpnajaaW.PrintWords Go.Proofs.YtlmecdlbnpnajaaW.PrintLast Go.Proofs.YtlmecdlbnpnajaaW.PrintMore
attribute [local go_sem] max2_int min2_int max_two min_two max_three min_three max_four min_four   -- for this text's walks alone
set_option linter.unusedVariables false
set_option linter.unusedSimpArgs false

/-! ### cksum_Open: function 17 -/
def cksum_Open.f (k : Nat) (a0 : ByteArray) : Option (ByteArray × ByteArray × Int) := (vint_From.f a0).bind fun bt135 => ((vint_Reader_Text.f k bt135.1 bt135.2 1048576).bind fun bt138 => ((vint_Reader_Err.f bt138.2.1 bt138.2.2).bind fun bt141 => (if bt141.1 = 0 then ((vint_Reader_Left.f bt141.2.1 bt141.2.2).bind fun bt147 => (if (bt147.1.size : Int) < 4 then (some ((⟨#[]⟩ : ByteArray), (⟨#[]⟩ : ByteArray), 5)) else (if 0 ≤ (wrap64 ((a0.size : Int) - (bt147.1.size : Int))) then (if (wrap64 ((a0.size : Int) - (bt147.1.size : Int))) ≤ (a0.size : Int) then ((cksum_Sum.f k (a0.extract 0 ((wrap64 ((a0.size : Int) - (bt147.1.size : Int))) : Int).toNat)).bind fun t150 => ((cksum_tail.f t150).bind fun t151 => (if 0 ≤ 4 then (if 4 ≤ (bt147.1.size : Int) then (if t151.toList = (bt147.1.extract 0 4).toList then (some (bt138.1, bt147.1.extract 4 bt147.1.size, 0)) else (some ((⟨#[]⟩ : ByteArray), (⟨#[]⟩ : ByteArray), 6))) else (none)) else (none)))) else (none)) else (none)))) else ((vint_Reader_Err.f bt141.2.1 bt141.2.2).bind fun bt144 => (some ((⟨#[]⟩ : ByteArray), (⟨#[]⟩ : ByteArray), bt144.1))))))
theorem cksum_Open.mono : ∀ a0 k, LeO (cksum_Open.f k a0) (cksum_Open.f (k + 1) a0) := by
  intro a0 k
  unfold cksum_Open.f
  repeat' first
      | (with_reducible exact cksum_Sum.mono _ _)
      | (with_reducible exact vint_Reader_Text.mono _ _ _ _)
      | (with_reducible exact LeO.refl _)
      | (with_reducible exact LeO.none _)
      | (with_reducible refine LeO.ite ?_ ?_)
      | (with_reducible refine LeO.bind ?_ (fun _ => ?_))
      | exact cksum_Sum.mono _ _
      | exact vint_Reader_Text.mono _ _ _ _
      | exact LeO.none _
      | refine LeO.ite ?_ ?_
      | refine LeO.bind ?_ (fun _ => ?_)
def cksum_Open.T8 : Bool × List (List Nat × List Nat) := (true, [([], []), ([], []), ([1], [1]), ([], []), ([3], [3]), ([2, 4], [2, 4]), ([0, 5], [0, 5]), ([6], [6]), ([7, 7], [7]), ([], []), ([9], [9]), ([8, 10], [8, 10])])
def cksum_Open.B8 : List Nat := [0, 0, 2, 0, 8, 30, 63, 127, 255, 0, 512, 2047]
theorem cksum_Open.tab8 : rtab .any (opsOf Try.f17 8) = cksum_Open.T8 := by kernel_rfl
theorem cksum_Open.bits8 : waitsOk cksum_Open.T8.2 cksum_Open.B8 = true := by kernel_rfl
set_option maxHeartbeats 8000000 in
set_option maxRecDepth 100000 in
theorem cksum_Open.calls (k : Nat) (a0 : ByteArray) (r1 : ByteArray) (r2 : ByteArray) (r3 : Int) (w : World) (h : cksum_Open.f k a0 = some (r1, r2, r3)) :
    Calls Try.prog 17 #[.string a0] w fun e w' => e = .returned (.tuple #[.string r1, .string r2, .int .i64 r3]) ∧ Below w.heap.size w w' := by
 have HB := Aside0.mk (Below.refl w.heap.size w)
 have H : ((vint_From.f a0).bind fun bt135 => ((vint_Reader_Text.f k bt135.1 bt135.2 1048576).bind fun bt138 => ((vint_Reader_Err.f bt138.2.1 bt138.2.2).bind fun bt141 => (if bt141.1 = 0 then ((vint_Reader_Left.f bt141.2.1 bt141.2.2).bind fun bt147 => (if (bt147.1.size : Int) < 4 then (some ((⟨#[]⟩ : ByteArray), (⟨#[]⟩ : ByteArray), 5)) else (if 0 ≤ (wrap64 ((a0.size : Int) - (bt147.1.size : Int))) then (if (wrap64 ((a0.size : Int) - (bt147.1.size : Int))) ≤ (a0.size : Int) then ((cksum_Sum.f k (a0.extract 0 ((wrap64 ((a0.size : Int) - (bt147.1.size : Int))) : Int).toNat)).bind fun t150 => ((cksum_tail.f t150).bind fun t151 => (if 0 ≤ 4 then (if 4 ≤ (bt147.1.size : Int) then (if t151.toList = (bt147.1.extract 0 4).toList then (some (bt138.1, bt147.1.extract 4 bt147.1.size, 0)) else (some ((⟨#[]⟩ : ByteArray), (⟨#[]⟩ : ByteArray), 6))) else (none)) else (none)))) else (none)) else (none)))) else ((vint_Reader_Err.f bt141.2.1 bt141.2.2).bind fun bt144 => (some ((⟨#[]⟩ : ByteArray), (⟨#[]⟩ : ByteArray), bt144.1))))))) = some (r1, r2, r3) := h
 clear h
 replace H := Option.bind_eq_some_iff.mp H
 obtain ⟨⟨t135, t136⟩, A20, H⟩ := H
 replace H : ((vint_Reader_Text.f k t135 t136 1048576).bind fun bt138 => ((vint_Reader_Err.f bt138.2.1 bt138.2.2).bind fun bt141 => (if bt141.1 = 0 then ((vint_Reader_Left.f bt141.2.1 bt141.2.2).bind fun bt147 => (if (bt147.1.size : Int) < 4 then (some ((⟨#[]⟩ : ByteArray), (⟨#[]⟩ : ByteArray), 5)) else (if 0 ≤ (wrap64 ((a0.size : Int) - (bt147.1.size : Int))) then (if (wrap64 ((a0.size : Int) - (bt147.1.size : Int))) ≤ (a0.size : Int) then ((cksum_Sum.f k (a0.extract 0 ((wrap64 ((a0.size : Int) - (bt147.1.size : Int))) : Int).toNat)).bind fun t150 => ((cksum_tail.f t150).bind fun t151 => (if 0 ≤ 4 then (if 4 ≤ (bt147.1.size : Int) then (if t151.toList = (bt147.1.extract 0 4).toList then (some (bt138.1, bt147.1.extract 4 bt147.1.size, 0)) else (some ((⟨#[]⟩ : ByteArray), (⟨#[]⟩ : ByteArray), 6))) else (none)) else (none)))) else (none)) else (none)))) else ((vint_Reader_Err.f bt141.2.1 bt141.2.2).bind fun bt144 => (some ((⟨#[]⟩ : ByteArray), (⟨#[]⟩ : ByteArray), bt144.1)))))) = some (r1, r2, r3) := H
 have A2 := Aside0.mk A20
 clear A20
 replace H := Option.bind_eq_some_iff.mp H
 obtain ⟨⟨t138, t139, t140⟩, A30, H⟩ := H
 replace H : ((vint_Reader_Err.f t139 t140).bind fun bt141 => (if bt141.1 = 0 then ((vint_Reader_Left.f bt141.2.1 bt141.2.2).bind fun bt147 => (if (bt147.1.size : Int) < 4 then (some ((⟨#[]⟩ : ByteArray), (⟨#[]⟩ : ByteArray), 5)) else (if 0 ≤ (wrap64 ((a0.size : Int) - (bt147.1.size : Int))) then (if (wrap64 ((a0.size : Int) - (bt147.1.size : Int))) ≤ (a0.size : Int) then ((cksum_Sum.f k (a0.extract 0 ((wrap64 ((a0.size : Int) - (bt147.1.size : Int))) : Int).toNat)).bind fun t150 => ((cksum_tail.f t150).bind fun t151 => (if 0 ≤ 4 then (if 4 ≤ (bt147.1.size : Int) then (if t151.toList = (bt147.1.extract 0 4).toList then (some (t138, bt147.1.extract 4 bt147.1.size, 0)) else (some ((⟨#[]⟩ : ByteArray), (⟨#[]⟩ : ByteArray), 6))) else (none)) else (none)))) else (none)) else (none)))) else ((vint_Reader_Err.f bt141.2.1 bt141.2.2).bind fun bt144 => (some ((⟨#[]⟩ : ByteArray), (⟨#[]⟩ : ByteArray), bt144.1))))) = some (r1, r2, r3) := H
 have A3 := Aside0.mk A30
 clear A30
 replace H := Option.bind_eq_some_iff.mp H
 obtain ⟨⟨t141, t142, t143⟩, A40, H⟩ := H
 replace H : (if t141 = 0 then ((vint_Reader_Left.f t142 t143).bind fun bt147 => (if (bt147.1.size : Int) < 4 then (some ((⟨#[]⟩ : ByteArray), (⟨#[]⟩ : ByteArray), 5)) else (if 0 ≤ (wrap64 ((a0.size : Int) - (bt147.1.size : Int))) then (if (wrap64 ((a0.size : Int) - (bt147.1.size : Int))) ≤ (a0.size : Int) then ((cksum_Sum.f k (a0.extract 0 ((wrap64 ((a0.size : Int) - (bt147.1.size : Int))) : Int).toNat)).bind fun t150 => ((cksum_tail.f t150).bind fun t151 => (if 0 ≤ 4 then (if 4 ≤ (bt147.1.size : Int) then (if t151.toList = (bt147.1.extract 0 4).toList then (some (t138, bt147.1.extract 4 bt147.1.size, 0)) else (some ((⟨#[]⟩ : ByteArray), (⟨#[]⟩ : ByteArray), 6))) else (none)) else (none)))) else (none)) else (none)))) else ((vint_Reader_Err.f t142 t143).bind fun bt144 => (some ((⟨#[]⟩ : ByteArray), (⟨#[]⟩ : ByteArray), bt144.1)))) = some (r1, r2, r3) := H
 have A4 := Aside0.mk A40
 clear A40
 by_cases c5 : t141 = 0
 rotate_left
 · rw [if_neg c5] at H
   have c5b0 : (t141 == 0) = false := beq_eq_false_iff_ne.mpr c5
   have c5b1 : (t141 != 0) = true := bne_iff_ne.mpr c5
   replace H := Option.bind_eq_some_iff.mp H
   obtain ⟨⟨t144, t145, t146⟩, A340, H⟩ := H
   replace H : (some ((⟨#[]⟩ : ByteArray), (⟨#[]⟩ : ByteArray), t144)) = some (r1, r2, r3) := H
   have A34 := Aside0.mk A340
   clear A340; simp only [Option.some.injEq, Prod.mk.injEq] at H
   obtain ⟨rfl, rfl, rfl⟩ := H
   go_enter Try.func17, Try.ntmps17
   go_wp2_with (first | ((with_reducible refine gate_callee (f := 24) rfl ?_); refine goesL_ (some 9) rfl rfl Try.func24 (by kernel_rfl) rfl #[.string a0] rfl (by (try simp only [List.map_toArray, List.map_cons, List.map_nil]); first | done | rfl | (simp only [List.length_drop, List.length_take]; rfl)) ?_; (with_reducible refine (vint_From.calls a0 t135 t136 w _ ?side1 A2.out).mono ?_); (case side1 => repeat (first | (with_reducible first | exact HB.out | apply below_alloc | apply pw_below_drewN | apply below_drew1) | exact HB.out)); rintro e w35 ⟨g137, rfl, hi, hb, hb2⟩; refine ⟨_, rfl, ?_⟩; have n0_ := Aside0.mk (hb); have n1_ := Aside0.mk (hi); clear HB; have HB := n0_; have HI137 := n1_; clear n0_ n1_; (try clear hb); (try clear hb2); (try clear hk); (try clear hi)) | ((with_reducible refine gate_callee (f := 25) rfl ?_); refine goesL_ (some 11) rfl rfl Try.func25 (by kernel_rfl) rfl #[.pointer (some ⟨g137, 0, none⟩), .int .i64 1048576] rfl (by (try simp only [List.map_toArray, List.map_cons, List.map_nil]); first | done | rfl | (simp only [List.length_drop, List.length_take]; rfl)) ?_; (with_reducible refine (vint_Reader_Text.calls k g137 t135 t136 1048576 t138 t139 t140 w _ ?side1 ?side2 A3.out).mono ?_); (case side1 => repeat (first | (with_reducible first | exact HI137.out | apply IsS58.alloc | apply IsS58.drewN | apply IsS58.drew | apply IsS58.set_0 | apply IsS58.set_1) | exact HI137.out)); (case side2 => repeat (first | (with_reducible first | exact HB.out | apply below_alloc | apply pw_below_drewN | apply below_drew1 | refine below_set ?_ (IsS58.ge HI137.out)) | exact HB.out)); rintro e w36 ⟨rfl, hi, hb, hk⟩; refine ⟨_, rfl, ?_⟩; have n0_ := Aside0.mk (hb); have n1_ := Aside0.mk (hi); clear HB; clear HI137; have HB := n0_; have HI137 := n1_; clear n0_ n1_; (try clear hb); (try clear hb2); (try clear hk); (try clear hi)) | ((with_reducible refine gate_callee (f := 26) rfl ?_); refine goesL_ (some 13) rfl rfl Try.func26 (by kernel_rfl) rfl #[.pointer (some ⟨g137, 0, none⟩)] rfl (by (try simp only [List.map_toArray, List.map_cons, List.map_nil]); first | done | rfl | (simp only [List.length_drop, List.length_take]; rfl)) ?_; (with_reducible refine (vint_Reader_Err.calls g137 t139 t140 t141 t142 t143 w _ ?side1 ?side2 A4.out).mono ?_); (case side1 => repeat (first | (with_reducible first | exact HI137.out | apply IsS58.alloc | apply IsS58.drewN | apply IsS58.drew | apply IsS58.set_0 | apply IsS58.set_1) | exact HI137.out)); (case side2 => repeat (first | (with_reducible first | exact HB.out | apply below_alloc | apply pw_below_drewN | apply below_drew1 | refine below_set ?_ (IsS58.ge HI137.out)) | exact HB.out)); rintro e w37 ⟨rfl, hi, hb, hk⟩; refine ⟨_, rfl, ?_⟩; have n0_ := Aside0.mk (hb); have n1_ := Aside0.mk (hi); clear HB; clear HI137; have HB := n0_; have HI137 := n1_; clear n0_ n1_; (try clear hb); (try clear hb2); (try clear hk); (try clear hi)) | ((with_reducible refine gate_callee (f := 26) rfl ?_); refine goesL_ (some 16) rfl rfl Try.func26 (by kernel_rfl) rfl #[.pointer (some ⟨g137, 0, none⟩)] rfl (by (try simp only [List.map_toArray, List.map_cons, List.map_nil]); first | done | rfl | (simp only [List.length_drop, List.length_take]; rfl)) ?_; (with_reducible refine (vint_Reader_Err.calls g137 t142 t143 t144 t145 t146 w _ ?side1 ?side2 A34.out).mono ?_); (case side1 => repeat (first | (with_reducible first | exact HI137.out | apply IsS58.alloc | apply IsS58.drewN | apply IsS58.drew | apply IsS58.set_0 | apply IsS58.set_1) | exact HI137.out)); (case side2 => repeat (first | (with_reducible first | exact HB.out | apply below_alloc | apply pw_below_drewN | apply below_drew1 | refine below_set ?_ (IsS58.ge HI137.out)) | exact HB.out)); rintro e w38 ⟨rfl, hi, hb, hk⟩; refine ⟨_, rfl, ?_⟩; have n0_ := Aside0.mk (hb); have n1_ := Aside0.mk (hi); clear HB; clear HI137; have HB := n0_; have HI137 := n1_; clear n0_ n1_; (try clear hb); (try clear hb2); (try clear hk); (try clear hi)))
   go_ret3
   exact ⟨by first | rfl | (simp [errW_none, errW_some] <;> rfl) | (simp [*, errW_none, errW_some] <;> rfl), by repeat (first | (with_reducible first | exact HB.out | apply below_alloc | apply pw_below_drewN | apply below_drew1 | refine below_set ?_ (IsS58.ge HI137.out)) | exact HB.out)⟩
 rw [if_pos c5] at H
 have c5b0 : (t141 == 0) = true := beq_iff_eq.mpr c5
 have c5b1 : (t141 != 0) = false := bne_eq_false_iff_eq.mpr c5
 clear c5
 replace H := Option.bind_eq_some_iff.mp H
 obtain ⟨⟨t147, t148, t149⟩, A60, H⟩ := H
 replace H : (if (t147.size : Int) < 4 then (some ((⟨#[]⟩ : ByteArray), (⟨#[]⟩ : ByteArray), 5)) else (if 0 ≤ (wrap64 ((a0.size : Int) - (t147.size : Int))) then (if (wrap64 ((a0.size : Int) - (t147.size : Int))) ≤ (a0.size : Int) then ((cksum_Sum.f k (a0.extract 0 ((wrap64 ((a0.size : Int) - (t147.size : Int))) : Int).toNat)).bind fun t150 => ((cksum_tail.f t150).bind fun t151 => (if 0 ≤ 4 then (if 4 ≤ (t147.size : Int) then (if t151.toList = (t147.extract 0 4).toList then (some (t138, t147.extract 4 t147.size, 0)) else (some ((⟨#[]⟩ : ByteArray), (⟨#[]⟩ : ByteArray), 6))) else (none)) else (none)))) else (none)) else (none))) = some (r1, r2, r3) := H
 have A6 := Aside0.mk A60
 clear A60
 by_cases c7 : (t147.size : Int) < 4
 · rw [if_pos c7] at H
   have c7b0 : decide ((t147.size : Int) < 4) = true := decide_eq_true c7
   have c7b1 : decide (t147.size < 4) = true := decide_eq_true (by omega)
   clear c7; simp only [Option.some.injEq, Prod.mk.injEq] at H
   obtain ⟨rfl, rfl, rfl⟩ := H
   go_enter Try.func17, Try.ntmps17
   go_wp2_with (first | ((with_reducible refine gate_callee (f := 24) rfl ?_); refine goesL_ (some 9) rfl rfl Try.func24 (by kernel_rfl) rfl #[.string a0] rfl (by (try simp only [List.map_toArray, List.map_cons, List.map_nil]); first | done | rfl | (simp only [List.length_drop, List.length_take]; rfl)) ?_; (with_reducible refine (vint_From.calls a0 t135 t136 w _ ?side1 A2.out).mono ?_); (case side1 => repeat (first | (with_reducible first | exact HB.out | apply below_alloc | apply pw_below_drewN | apply below_drew1) | exact HB.out)); rintro e w8 ⟨g137, rfl, hi, hb, hb2⟩; refine ⟨_, rfl, ?_⟩; have n0_ := Aside0.mk (hb); have n1_ := Aside0.mk (hi); clear HB; have HB := n0_; have HI137 := n1_; clear n0_ n1_; (try clear hb); (try clear hb2); (try clear hk); (try clear hi)) | ((with_reducible refine gate_callee (f := 25) rfl ?_); refine goesL_ (some 11) rfl rfl Try.func25 (by kernel_rfl) rfl #[.pointer (some ⟨g137, 0, none⟩), .int .i64 1048576] rfl (by (try simp only [List.map_toArray, List.map_cons, List.map_nil]); first | done | rfl | (simp only [List.length_drop, List.length_take]; rfl)) ?_; (with_reducible refine (vint_Reader_Text.calls k g137 t135 t136 1048576 t138 t139 t140 w _ ?side1 ?side2 A3.out).mono ?_); (case side1 => repeat (first | (with_reducible first | exact HI137.out | apply IsS58.alloc | apply IsS58.drewN | apply IsS58.drew | apply IsS58.set_0 | apply IsS58.set_1) | exact HI137.out)); (case side2 => repeat (first | (with_reducible first | exact HB.out | apply below_alloc | apply pw_below_drewN | apply below_drew1 | refine below_set ?_ (IsS58.ge HI137.out)) | exact HB.out)); rintro e w9 ⟨rfl, hi, hb, hk⟩; refine ⟨_, rfl, ?_⟩; have n0_ := Aside0.mk (hb); have n1_ := Aside0.mk (hi); clear HB; clear HI137; have HB := n0_; have HI137 := n1_; clear n0_ n1_; (try clear hb); (try clear hb2); (try clear hk); (try clear hi)) | ((with_reducible refine gate_callee (f := 26) rfl ?_); refine goesL_ (some 13) rfl rfl Try.func26 (by kernel_rfl) rfl #[.pointer (some ⟨g137, 0, none⟩)] rfl (by (try simp only [List.map_toArray, List.map_cons, List.map_nil]); first | done | rfl | (simp only [List.length_drop, List.length_take]; rfl)) ?_; (with_reducible refine (vint_Reader_Err.calls g137 t139 t140 t141 t142 t143 w _ ?side1 ?side2 A4.out).mono ?_); (case side1 => repeat (first | (with_reducible first | exact HI137.out | apply IsS58.alloc | apply IsS58.drewN | apply IsS58.drew | apply IsS58.set_0 | apply IsS58.set_1) | exact HI137.out)); (case side2 => repeat (first | (with_reducible first | exact HB.out | apply below_alloc | apply pw_below_drewN | apply below_drew1 | refine below_set ?_ (IsS58.ge HI137.out)) | exact HB.out)); rintro e w10 ⟨rfl, hi, hb, hk⟩; refine ⟨_, rfl, ?_⟩; have n0_ := Aside0.mk (hb); have n1_ := Aside0.mk (hi); clear HB; clear HI137; have HB := n0_; have HI137 := n1_; clear n0_ n1_; (try clear hb); (try clear hb2); (try clear hk); (try clear hi)) | ((with_reducible refine gate_callee (f := 27) rfl ?_); refine goesL_ (some 18) rfl rfl Try.func27 (by kernel_rfl) rfl #[.pointer (some ⟨g137, 0, none⟩)] rfl (by (try simp only [List.map_toArray, List.map_cons, List.map_nil]); first | done | rfl | (simp only [List.length_drop, List.length_take]; rfl)) ?_; (with_reducible refine (vint_Reader_Left.calls g137 t142 t143 t147 t148 t149 w _ ?side1 ?side2 A6.out).mono ?_); (case side1 => repeat (first | (with_reducible first | exact HI137.out | apply IsS58.alloc | apply IsS58.drewN | apply IsS58.drew | apply IsS58.set_0 | apply IsS58.set_1) | exact HI137.out)); (case side2 => repeat (first | (with_reducible first | exact HB.out | apply below_alloc | apply pw_below_drewN | apply below_drew1 | refine below_set ?_ (IsS58.ge HI137.out)) | exact HB.out)); rintro e w11 ⟨rfl, hi, hb, hk⟩; refine ⟨_, rfl, ?_⟩; have n0_ := Aside0.mk (hb); have n1_ := Aside0.mk (hi); clear HB; clear HI137; have HB := n0_; have HI137 := n1_; clear n0_ n1_; (try clear hb); (try clear hb2); (try clear hk); (try clear hi)))
   go_ret3
   exact ⟨by first | rfl | (simp [errW_none, errW_some] <;> rfl) | (simp [*, errW_none, errW_some] <;> rfl), by repeat (first | (with_reducible first | exact HB.out | apply below_alloc | apply pw_below_drewN | apply below_drew1 | refine below_set ?_ (IsS58.ge HI137.out)) | exact HB.out)⟩
 rw [if_neg c7] at H
 have c7b0 : decide ((t147.size : Int) < 4) = false := decide_eq_false c7
 have c7b1 : decide (t147.size < 4) = false := decide_eq_false (by omega)
 clear c7
 obtain ⟨ji12, hji12⟩ : ∃ j_ : Int, (wrap64 ((a0.size : Int) - (t147.size : Int))) = j_ := ⟨_, rfl⟩
 replace H : (if 0 ≤ (ji12) then (if (ji12) ≤ (a0.size : Int) then ((cksum_Sum.f k (a0.extract 0 ((ji12) : Int).toNat)).bind fun t150 => ((cksum_tail.f t150).bind fun t151 => (if 0 ≤ 4 then (if 4 ≤ (t147.size : Int) then (if t151.toList = (t147.extract 0 4).toList then (some (t138, t147.extract 4 t147.size, 0)) else (some ((⟨#[]⟩ : ByteArray), (⟨#[]⟩ : ByteArray), 6))) else (none)) else (none)))) else (none)) else (none)) = some (r1, r2, r3) := by first | (rw [hji12] at H; exact H) | (simp only [hji12] at H ⊢; exact H)
 (try rw [hji12] at A2)
 (try rw [hji12] at A3)
 (try rw [hji12] at A4)
 (try rw [hji12] at A6)
 have hji12w : (IntKind.i64.wrap ((a0.size : Int) - (t147.size : Int))) = ji12 := (i64_w _).trans hji12
 by_cases c13 : 0 ≤ (ji12)
 rotate_left
 · rw [if_neg c13] at H; exact absurd H (by simp)
 rw [if_pos c13] at H
 have c13b0 := eq_true c13
 have c13b1 : decide (0 ≤ (ji12)) = true := decide_eq_true c13
 clear c13
 by_cases c14 : (ji12) ≤ (a0.size : Int)
 rotate_left
 · rw [if_neg c14] at H; exact absurd H (by simp)
 rw [if_pos c14] at H
 have c14b0 := eq_true c14
 have c14b1 : decide ((ji12) ≤ (a0.size : Int)) = true := decide_eq_true c14
 clear c14
 replace H := Option.bind_eq_some_iff.mp H
 obtain ⟨t150, A150, H⟩ := H
 replace H : ((cksum_tail.f t150).bind fun t151 => (if 0 ≤ 4 then (if 4 ≤ (t147.size : Int) then (if t151.toList = (t147.extract 0 4).toList then (some (t138, t147.extract 4 t147.size, 0)) else (some ((⟨#[]⟩ : ByteArray), (⟨#[]⟩ : ByteArray), 6))) else (none)) else (none))) = some (r1, r2, r3) := H
 have A15 := Aside0.mk A150
 clear A150
 replace H := Option.bind_eq_some_iff.mp H
 obtain ⟨t151, A160, H⟩ := H
 replace H : (if 0 ≤ 4 then (if 4 ≤ (t147.size : Int) then (if t151.toList = (t147.extract 0 4).toList then (some (t138, t147.extract 4 t147.size, 0)) else (some ((⟨#[]⟩ : ByteArray), (⟨#[]⟩ : ByteArray), 6))) else (none)) else (none)) = some (r1, r2, r3) := H
 have A16 := Aside0.mk A160
 clear A160
 by_cases c17 : 0 ≤ 4
 rotate_left
 · rw [if_neg c17] at H; exact absurd H (by simp)
 rw [if_pos c17] at H
 have c17b0 := eq_true c17
 have c17b1 : decide (0 ≤ 4) = true := decide_eq_true c17
 clear c17
 by_cases c18 : 4 ≤ (t147.size : Int)
 rotate_left
 · rw [if_neg c18] at H; exact absurd H (by simp)
 rw [if_pos c18] at H
 have c18b0 := eq_true c18
 have c18b1 : decide (4 ≤ (t147.size : Int)) = true := decide_eq_true c18
 clear c18
 by_cases c19 : t151.toList = (t147.extract 0 4).toList
 rotate_left
 · rw [if_neg c19] at H
   have c19b0 : (t151.toList == (t147.extract 0 4).toList) = false := beq_eq_false_iff_ne.mpr c19
   have c19b1 : (t151.toList != (t147.extract 0 4).toList) = true := bne_iff_ne.mpr c19
   simp only [Option.some.injEq, Prod.mk.injEq] at H
   obtain ⟨rfl, rfl, rfl⟩ := H
   go_enter Try.func17, Try.ntmps17
   try go_wp2_with (first | ((with_reducible refine gate_callee (f := 24) rfl ?_); refine goesL_ (some 9) rfl rfl Try.func24 (by kernel_rfl) rfl #[.string a0] rfl (by (try simp only [List.map_toArray, List.map_cons, List.map_nil]); first | done | rfl | (simp only [List.length_drop, List.length_take]; rfl)) ?_; (with_reducible refine (vint_From.calls a0 t135 t136 w _ ?side1 A2.out).mono ?_); (case side1 => repeat (first | (with_reducible first | exact HB.out | apply below_alloc | apply pw_below_drewN | apply below_drew1) | exact HB.out)); rintro e w28 ⟨g137, rfl, hi, hb, hb2⟩; refine ⟨_, rfl, ?_⟩; have n0_ := Aside0.mk (hb); have n1_ := Aside0.mk (hi); clear HB; have HB := n0_; have HI137 := n1_; clear n0_ n1_; (try clear hb); (try clear hb2); (try clear hk); (try clear hi)) | ((with_reducible refine gate_callee (f := 25) rfl ?_); refine goesL_ (some 11) rfl rfl Try.func25 (by kernel_rfl) rfl #[.pointer (some ⟨g137, 0, none⟩), .int .i64 1048576] rfl (by (try simp only [List.map_toArray, List.map_cons, List.map_nil]); first | done | rfl | (simp only [List.length_drop, List.length_take]; rfl)) ?_; (with_reducible refine (vint_Reader_Text.calls k g137 t135 t136 1048576 t138 t139 t140 w _ ?side1 ?side2 A3.out).mono ?_); (case side1 => repeat (first | (with_reducible first | exact HI137.out | apply IsS58.alloc | apply IsS58.drewN | apply IsS58.drew | apply IsS58.set_0 | apply IsS58.set_1) | exact HI137.out)); (case side2 => repeat (first | (with_reducible first | exact HB.out | apply below_alloc | apply pw_below_drewN | apply below_drew1 | refine below_set ?_ (IsS58.ge HI137.out)) | exact HB.out)); rintro e w29 ⟨rfl, hi, hb, hk⟩; refine ⟨_, rfl, ?_⟩; have n0_ := Aside0.mk (hb); have n1_ := Aside0.mk (hi); clear HB; clear HI137; have HB := n0_; have HI137 := n1_; clear n0_ n1_; (try clear hb); (try clear hb2); (try clear hk); (try clear hi)) | ((with_reducible refine gate_callee (f := 26) rfl ?_); refine goesL_ (some 13) rfl rfl Try.func26 (by kernel_rfl) rfl #[.pointer (some ⟨g137, 0, none⟩)] rfl (by (try simp only [List.map_toArray, List.map_cons, List.map_nil]); first | done | rfl | (simp only [List.length_drop, List.length_take]; rfl)) ?_; (with_reducible refine (vint_Reader_Err.calls g137 t139 t140 t141 t142 t143 w _ ?side1 ?side2 A4.out).mono ?_); (case side1 => repeat (first | (with_reducible first | exact HI137.out | apply IsS58.alloc | apply IsS58.drewN | apply IsS58.drew | apply IsS58.set_0 | apply IsS58.set_1) | exact HI137.out)); (case side2 => repeat (first | (with_reducible first | exact HB.out | apply below_alloc | apply pw_below_drewN | apply below_drew1 | refine below_set ?_ (IsS58.ge HI137.out)) | exact HB.out)); rintro e w30 ⟨rfl, hi, hb, hk⟩; refine ⟨_, rfl, ?_⟩; have n0_ := Aside0.mk (hb); have n1_ := Aside0.mk (hi); clear HB; clear HI137; have HB := n0_; have HI137 := n1_; clear n0_ n1_; (try clear hb); (try clear hb2); (try clear hk); (try clear hi)) | ((with_reducible refine gate_callee (f := 27) rfl ?_); refine goesL_ (some 18) rfl rfl Try.func27 (by kernel_rfl) rfl #[.pointer (some ⟨g137, 0, none⟩)] rfl (by (try simp only [List.map_toArray, List.map_cons, List.map_nil]); first | done | rfl | (simp only [List.length_drop, List.length_take]; rfl)) ?_; (with_reducible refine (vint_Reader_Left.calls g137 t142 t143 t147 t148 t149 w _ ?side1 ?side2 A6.out).mono ?_); (case side1 => repeat (first | (with_reducible first | exact HI137.out | apply IsS58.alloc | apply IsS58.drewN | apply IsS58.drew | apply IsS58.set_0 | apply IsS58.set_1) | exact HI137.out)); (case side2 => repeat (first | (with_reducible first | exact HB.out | apply below_alloc | apply pw_below_drewN | apply below_drew1 | refine below_set ?_ (IsS58.ge HI137.out)) | exact HB.out)); rintro e w31 ⟨rfl, hi, hb, hk⟩; refine ⟨_, rfl, ?_⟩; have n0_ := Aside0.mk (hb); have n1_ := Aside0.mk (hi); clear HB; clear HI137; have HB := n0_; have HI137 := n1_; clear n0_ n1_; (try clear hb); (try clear hb2); (try clear hk); (try clear hi)))
   have n0_ := Aside0.mk (IsS58.drew HI137.out)
   have n1_ := Aside0.mk (below_drew1 HB.out)
   clear HI137; clear HB
   have HI137 := n0_
   have HB := n1_
   clear n0_ n1_
   refine start_ (n := 12) (S := fun w' => True) (ds := []) #[false, false, false, false, false, false, false, false, false, false, false, false] (by kernel_rfl) rfl rfl trivial (fun hHeld => ?_); refine with_tabW cksum_Open.tab8 cksum_Open.bits8 (fun HT_ HW_ => ?_)
   generalize w31.drew = w32 at HI137 HB hHeld ⊢
   refine pure_ (i := 0) (N := some 22) (v := ?_) (a' := ?_) #[true, false, false, false, false, false, false, false, false, false, false, false] rfl rfl (any_of HT_.out (by kernel_rfl)) (fun _ _ _ h => h) (Or.inl ⟨by rfl, ?_⟩) ?_ ?_
   rotate_left
   · intro w'; go_simp; with_reducible rfl
   rotate_left
   · simp only [Act.put, List.setIfInBounds_toArray, List.set_cons_zero, List.set_cons_succ, i64_w, i32_w]; rfl
   refine pure_ (i := 1) (N := some 23) (v := ?_) (a' := ?_) #[true, true, false, false, false, false, false, false, false, false, false, false] rfl rfl (any_of HT_.out (by kernel_rfl)) (fun _ _ _ h => h) (Or.inl ⟨by rfl, ?_⟩) ?_ ?_
   rotate_left
   · intro w'; go_simp; with_reducible rfl
   rotate_left
   · simp only [Act.put, List.setIfInBounds_toArray, List.set_cons_zero, List.set_cons_succ, i64_w, i32_w]; rfl
   refine pure_ (i := 2) (N := some 24) (v := ?_) (a' := ?_) #[true, true, true, false, false, false, false, false, false, false, false, false] rfl rfl (any_of HT_.out (by kernel_rfl)) (fun _ _ _ h => h) (Or.inl ⟨by rfl, ?_⟩) ?_ ?_
   rotate_left
   · intro w'; go_simp; with_reducible rfl
   rotate_left
   · simp only [Act.put, List.setIfInBounds_toArray, List.set_cons_zero, List.set_cons_succ, i64_w, i32_w]; rfl
   refine pure_ (i := 3) (N := some 25) (v := ?_) (a' := ?_) #[true, true, true, true, false, false, false, false, false, false, false, false] rfl rfl (any_of HT_.out (by kernel_rfl)) (fun _ _ _ h => h) (Or.inl ⟨by rfl, ?_⟩) ?_ ?_
   rotate_left
   · intro w'; go_simp; with_reducible rfl
   rotate_left
   · simp only [Act.put, List.setIfInBounds_toArray, List.set_cons_zero, List.set_cons_succ, i64_w, i32_w]; rfl
   refine pure_ (i := 4) (N := some 26) (v := ?_) (a' := ?_) #[true, true, true, true, true, false, false, false, false, false, false, false] rfl rfl (any_of HT_.out (by kernel_rfl)) (fun _ _ _ h => h) (Or.inl ⟨by rfl, ?_⟩) ?_ ?_
   rotate_left
   · intro w'; go_simp; with_reducible rfl
   rotate_left
   · simp only [Act.put, List.setIfInBounds_toArray, List.set_cons_zero, List.set_cons_succ, i64_w, i32_w]; rfl
   refine pure_ (i := 5) (N := some 27) (v := ?_) (a' := ?_) #[true, true, true, true, true, true, false, false, false, false, false, false] rfl rfl (any_of HT_.out (by kernel_rfl)) (fun _ _ _ h => h) (Or.inl ⟨by rfl, ?_⟩) ?_ ?_
   rotate_left
   · intro w'; go_simp; with_reducible rfl
   rotate_left
   · simp only [Act.put, List.setIfInBounds_toArray, List.set_cons_zero, List.set_cons_succ, i64_w, i32_w]; rfl
   refine pure_ (i := 6) (N := some 28) (v := ?_) (a' := ?_) #[true, true, true, true, true, true, true, false, false, false, false, false] rfl rfl (any_of HT_.out (by kernel_rfl)) (fun _ _ _ h => h) (Or.inl ⟨by rfl, ?_⟩) ?_ ?_
   rotate_left
   · intro w'; go_simp; with_reducible rfl
   rotate_left
   · simp only [Act.put, List.setIfInBounds_toArray, List.set_cons_zero, List.set_cons_succ, i64_w, i32_w]; rfl
   refine pure_ (i := 9) (N := some 31) (v := ?_) (a' := ?_) #[true, true, true, true, true, true, true, false, false, true, false, false] rfl rfl (any_of HT_.out (by kernel_rfl)) (fun _ _ _ h => h) (Or.inl ⟨by rfl, ?_⟩) ?_ ?_
   rotate_left
   · intro w'; go_simp; with_reducible rfl
   rotate_left
   · simp only [Act.put, List.setIfInBounds_toArray, List.set_cons_zero, List.set_cons_succ, i64_w, i32_w]; rfl
   refine pure_ (i := 10) (N := some 32) (v := ?_) (a' := ?_) #[true, true, true, true, true, true, true, false, false, true, true, false] rfl rfl (any_of HT_.out (by kernel_rfl)) (fun _ _ _ h => h) (Or.inl ⟨by rfl, ?_⟩) ?_ ?_
   rotate_left
   · intro w'; go_simp; with_reducible rfl
   rotate_left
   · simp only [Act.put, List.setIfInBounds_toArray, List.set_cons_zero, List.set_cons_succ, i64_w, i32_w]; rfl
   refine one_ (i := 7) (N := some 29) #[true, true, true, true, true, true, true, true, false, true, true, false] rfl rfl (one_of HT_.out (by kernel_rfl)) (by decide) (fun K hK => ?_)
   refine goes_ Try.func11 (by kernel_rfl) rfl #[.string (a0.extract 0 ((ji12) : Int).toNat)] (by rfl) rfl rfl (by (try simp only [List.map_toArray, List.map_cons, List.map_nil]); first | done | (simp only [hji12]; rfl) | rfl | (simp only [List.length_drop, List.length_take]; rfl)) ?_
   with_reducible refine (cksum_Sum.calls k (a0.extract 0 ((ji12) : Int).toNat) t150 _ A15.out).mono ?_
   rintro e w' ⟨rfl, ⟨nd, rfl⟩⟩
   refine ⟨_, rfl, ?_⟩
   refine hK.out _ _ trivial (fun hHeld => ?_)
   clear hK K
   refine norm_ (a' := ?_) ?_ ?_
   rotate_left
   · show Act.put _ (some 29) _ = _
     simp only [Act.put, List.setIfInBounds_toArray, List.set_cons_zero, List.set_cons_succ, i64_w, i32_w]; rfl
   refine one_ (i := 8) (N := some 30) #[true, true, true, true, true, true, true, true, true, true, true, false] rfl rfl (one_of HT_.out (by kernel_rfl)) (by decide) (fun K hK => ?_)
   refine goes_ Try.func21 (by kernel_rfl) rfl #[.int .u32 t150] (by rfl) rfl rfl (by (try simp only [List.map_toArray, List.map_cons, List.map_nil]); first | done | rfl | (simp only [List.length_drop, List.length_take]; rfl)) ?_
   with_reducible refine (cksum_tail.calls t150 t151 _ A16.out).mono ?_
   rintro e w33 ⟨rfl, hb⟩
   refine ⟨_, rfl, ?_⟩
   have n0_ := Aside0.mk (IsS58.below (by repeat (first | (with_reducible first | exact HI137.out | apply IsS58.alloc | apply IsS58.drewN | apply IsS58.drew | apply IsS58.set_0 | apply IsS58.set_1) | exact HI137.out)) hb)
   have n1_ := Aside0.mk (below_step (by repeat (first | (with_reducible first | exact HB.out | apply below_alloc | apply pw_below_drewN | apply below_drew1 | refine below_set ?_ (IsS58.ge HI137.out)) | exact HB.out)) hb)
   clear HI137; clear HB
   have HI137 := n0_
   have HB := n1_
   clear n0_ n1_
   (try clear hb)
   (try clear hb2)
   (try clear hk)
   (try clear hi)
   refine hK.out _ _ trivial (fun hHeld => ?_)
   clear hK K
   refine norm_ (a' := ?_) ?_ ?_
   rotate_left
   · show Act.put _ (some 30) _ = _
     simp only [Act.put, List.setIfInBounds_toArray, List.set_cons_zero, List.set_cons_succ, i64_w, i32_w]; rfl
   refine pure_ (i := 11) (N := some 33) (v := ?_) (a' := ?_) #[true, true, true, true, true, true, true, true, true, true, true, true] rfl rfl (any_of HT_.out (by kernel_rfl)) (fun _ _ _ h => h) (Or.inl ⟨by rfl, ?_⟩) ?_ ?_
   rotate_left
   · intro w'; go_simp; with_reducible rfl
   rotate_left
   · simp only [Act.put, List.setIfInBounds_toArray, List.set_cons_zero, List.set_cons_succ, i64_w, i32_w]; rfl
   refine done_ (done_of HT_.out (by kernel_rfl)) ?_
   try go_wp2
   go_ret3
   exact ⟨by first | rfl | (simp [errW_none, errW_some] <;> rfl) | (simp only [← hji12]; first | rfl | (simp [errW_none, errW_some] <;> rfl)) | (simp [*, errW_none, errW_some] <;> rfl), by repeat (first | (with_reducible first | exact HB.out | apply below_alloc | apply pw_below_drewN | apply below_drew1 | refine below_set ?_ (IsS58.ge HI137.out)) | exact HB.out)⟩
 rw [if_pos c19] at H
 have c19b0 : (t151.toList == (t147.extract 0 4).toList) = true := beq_iff_eq.mpr c19
 have c19b1 : (t151.toList != (t147.extract 0 4).toList) = false := bne_eq_false_iff_eq.mpr c19
 clear c19
 have c20b0 := eq_true (of_decide_eq_true (by first | (with_reducible assumption) | assumption) : 4 ≤ (t147.size : Int))
 simp only [Option.some.injEq, Prod.mk.injEq] at H
 obtain ⟨rfl, rfl, rfl⟩ := H
 go_enter Try.func17, Try.ntmps17
 try go_wp2_with (first | ((with_reducible refine gate_callee (f := 24) rfl ?_); refine goesL_ (some 9) rfl rfl Try.func24 (by kernel_rfl) rfl #[.string a0] rfl (by (try simp only [List.map_toArray, List.map_cons, List.map_nil]); first | done | rfl | (simp only [List.length_drop, List.length_take]; rfl)) ?_; (with_reducible refine (vint_From.calls a0 t135 t136 w _ ?side1 A2.out).mono ?_); (case side1 => repeat (first | (with_reducible first | exact HB.out | apply below_alloc | apply pw_below_drewN | apply below_drew1) | exact HB.out)); rintro e w21 ⟨g137, rfl, hi, hb, hb2⟩; refine ⟨_, rfl, ?_⟩; have n0_ := Aside0.mk (hb); have n1_ := Aside0.mk (hi); clear HB; have HB := n0_; have HI137 := n1_; clear n0_ n1_; (try clear hb); (try clear hb2); (try clear hk); (try clear hi)) | ((with_reducible refine gate_callee (f := 25) rfl ?_); refine goesL_ (some 11) rfl rfl Try.func25 (by kernel_rfl) rfl #[.pointer (some ⟨g137, 0, none⟩), .int .i64 1048576] rfl (by (try simp only [List.map_toArray, List.map_cons, List.map_nil]); first | done | rfl | (simp only [List.length_drop, List.length_take]; rfl)) ?_; (with_reducible refine (vint_Reader_Text.calls k g137 t135 t136 1048576 t138 t139 t140 w _ ?side1 ?side2 A3.out).mono ?_); (case side1 => repeat (first | (with_reducible first | exact HI137.out | apply IsS58.alloc | apply IsS58.drewN | apply IsS58.drew | apply IsS58.set_0 | apply IsS58.set_1) | exact HI137.out)); (case side2 => repeat (first | (with_reducible first | exact HB.out | apply below_alloc | apply pw_below_drewN | apply below_drew1 | refine below_set ?_ (IsS58.ge HI137.out)) | exact HB.out)); rintro e w22 ⟨rfl, hi, hb, hk⟩; refine ⟨_, rfl, ?_⟩; have n0_ := Aside0.mk (hb); have n1_ := Aside0.mk (hi); clear HB; clear HI137; have HB := n0_; have HI137 := n1_; clear n0_ n1_; (try clear hb); (try clear hb2); (try clear hk); (try clear hi)) | ((with_reducible refine gate_callee (f := 26) rfl ?_); refine goesL_ (some 13) rfl rfl Try.func26 (by kernel_rfl) rfl #[.pointer (some ⟨g137, 0, none⟩)] rfl (by (try simp only [List.map_toArray, List.map_cons, List.map_nil]); first | done | rfl | (simp only [List.length_drop, List.length_take]; rfl)) ?_; (with_reducible refine (vint_Reader_Err.calls g137 t139 t140 t141 t142 t143 w _ ?side1 ?side2 A4.out).mono ?_); (case side1 => repeat (first | (with_reducible first | exact HI137.out | apply IsS58.alloc | apply IsS58.drewN | apply IsS58.drew | apply IsS58.set_0 | apply IsS58.set_1) | exact HI137.out)); (case side2 => repeat (first | (with_reducible first | exact HB.out | apply below_alloc | apply pw_below_drewN | apply below_drew1 | refine below_set ?_ (IsS58.ge HI137.out)) | exact HB.out)); rintro e w23 ⟨rfl, hi, hb, hk⟩; refine ⟨_, rfl, ?_⟩; have n0_ := Aside0.mk (hb); have n1_ := Aside0.mk (hi); clear HB; clear HI137; have HB := n0_; have HI137 := n1_; clear n0_ n1_; (try clear hb); (try clear hb2); (try clear hk); (try clear hi)) | ((with_reducible refine gate_callee (f := 27) rfl ?_); refine goesL_ (some 18) rfl rfl Try.func27 (by kernel_rfl) rfl #[.pointer (some ⟨g137, 0, none⟩)] rfl (by (try simp only [List.map_toArray, List.map_cons, List.map_nil]); first | done | rfl | (simp only [List.length_drop, List.length_take]; rfl)) ?_; (with_reducible refine (vint_Reader_Left.calls g137 t142 t143 t147 t148 t149 w _ ?side1 ?side2 A6.out).mono ?_); (case side1 => repeat (first | (with_reducible first | exact HI137.out | apply IsS58.alloc | apply IsS58.drewN | apply IsS58.drew | apply IsS58.set_0 | apply IsS58.set_1) | exact HI137.out)); (case side2 => repeat (first | (with_reducible first | exact HB.out | apply below_alloc | apply pw_below_drewN | apply below_drew1 | refine below_set ?_ (IsS58.ge HI137.out)) | exact HB.out)); rintro e w24 ⟨rfl, hi, hb, hk⟩; refine ⟨_, rfl, ?_⟩; have n0_ := Aside0.mk (hb); have n1_ := Aside0.mk (hi); clear HB; clear HI137; have HB := n0_; have HI137 := n1_; clear n0_ n1_; (try clear hb); (try clear hb2); (try clear hk); (try clear hi)))
 have n0_ := Aside0.mk (IsS58.drew HI137.out)
 have n1_ := Aside0.mk (below_drew1 HB.out)
 clear HI137; clear HB
 have HI137 := n0_
 have HB := n1_
 clear n0_ n1_
 refine start_ (n := 12) (S := fun w' => True) (ds := []) #[false, false, false, false, false, false, false, false, false, false, false, false] (by kernel_rfl) rfl rfl trivial (fun hHeld => ?_); refine with_tabW cksum_Open.tab8 cksum_Open.bits8 (fun HT_ HW_ => ?_)
 generalize w24.drew = w25 at HI137 HB hHeld ⊢
 refine pure_ (i := 0) (N := some 22) (v := ?_) (a' := ?_) #[true, false, false, false, false, false, false, false, false, false, false, false] rfl rfl (any_of HT_.out (by kernel_rfl)) (fun _ _ _ h => h) (Or.inl ⟨by rfl, ?_⟩) ?_ ?_
 rotate_left
 · intro w'; go_simp; with_reducible rfl
 rotate_left
 · simp only [Act.put, List.setIfInBounds_toArray, List.set_cons_zero, List.set_cons_succ, i64_w, i32_w]; rfl
 refine pure_ (i := 1) (N := some 23) (v := ?_) (a' := ?_) #[true, true, false, false, false, false, false, false, false, false, false, false] rfl rfl (any_of HT_.out (by kernel_rfl)) (fun _ _ _ h => h) (Or.inl ⟨by rfl, ?_⟩) ?_ ?_
 rotate_left
 · intro w'; go_simp; with_reducible rfl
 rotate_left
 · simp only [Act.put, List.setIfInBounds_toArray, List.set_cons_zero, List.set_cons_succ, i64_w, i32_w]; rfl
 refine pure_ (i := 2) (N := some 24) (v := ?_) (a' := ?_) #[true, true, true, false, false, false, false, false, false, false, false, false] rfl rfl (any_of HT_.out (by kernel_rfl)) (fun _ _ _ h => h) (Or.inl ⟨by rfl, ?_⟩) ?_ ?_
 rotate_left
 · intro w'; go_simp; with_reducible rfl
 rotate_left
 · simp only [Act.put, List.setIfInBounds_toArray, List.set_cons_zero, List.set_cons_succ, i64_w, i32_w]; rfl
 refine pure_ (i := 3) (N := some 25) (v := ?_) (a' := ?_) #[true, true, true, true, false, false, false, false, false, false, false, false] rfl rfl (any_of HT_.out (by kernel_rfl)) (fun _ _ _ h => h) (Or.inl ⟨by rfl, ?_⟩) ?_ ?_
 rotate_left
 · intro w'; go_simp; with_reducible rfl
 rotate_left
 · simp only [Act.put, List.setIfInBounds_toArray, List.set_cons_zero, List.set_cons_succ, i64_w, i32_w]; rfl
 refine pure_ (i := 4) (N := some 26) (v := ?_) (a' := ?_) #[true, true, true, true, true, false, false, false, false, false, false, false] rfl rfl (any_of HT_.out (by kernel_rfl)) (fun _ _ _ h => h) (Or.inl ⟨by rfl, ?_⟩) ?_ ?_
 rotate_left
 · intro w'; go_simp; with_reducible rfl
 rotate_left
 · simp only [Act.put, List.setIfInBounds_toArray, List.set_cons_zero, List.set_cons_succ, i64_w, i32_w]; rfl
 refine pure_ (i := 5) (N := some 27) (v := ?_) (a' := ?_) #[true, true, true, true, true, true, false, false, false, false, false, false] rfl rfl (any_of HT_.out (by kernel_rfl)) (fun _ _ _ h => h) (Or.inl ⟨by rfl, ?_⟩) ?_ ?_
 rotate_left
 · intro w'; go_simp; with_reducible rfl
 rotate_left
 · simp only [Act.put, List.setIfInBounds_toArray, List.set_cons_zero, List.set_cons_succ, i64_w, i32_w]; rfl
 refine pure_ (i := 6) (N := some 28) (v := ?_) (a' := ?_) #[true, true, true, true, true, true, true, false, false, false, false, false] rfl rfl (any_of HT_.out (by kernel_rfl)) (fun _ _ _ h => h) (Or.inl ⟨by rfl, ?_⟩) ?_ ?_
 rotate_left
 · intro w'; go_simp; with_reducible rfl
 rotate_left
 · simp only [Act.put, List.setIfInBounds_toArray, List.set_cons_zero, List.set_cons_succ, i64_w, i32_w]; rfl
 refine pure_ (i := 9) (N := some 31) (v := ?_) (a' := ?_) #[true, true, true, true, true, true, true, false, false, true, false, false] rfl rfl (any_of HT_.out (by kernel_rfl)) (fun _ _ _ h => h) (Or.inl ⟨by rfl, ?_⟩) ?_ ?_
 rotate_left
 · intro w'; go_simp; with_reducible rfl
 rotate_left
 · simp only [Act.put, List.setIfInBounds_toArray, List.set_cons_zero, List.set_cons_succ, i64_w, i32_w]; rfl
 refine pure_ (i := 10) (N := some 32) (v := ?_) (a' := ?_) #[true, true, true, true, true, true, true, false, false, true, true, false] rfl rfl (any_of HT_.out (by kernel_rfl)) (fun _ _ _ h => h) (Or.inl ⟨by rfl, ?_⟩) ?_ ?_
 rotate_left
 · intro w'; go_simp; with_reducible rfl
 rotate_left
 · simp only [Act.put, List.setIfInBounds_toArray, List.set_cons_zero, List.set_cons_succ, i64_w, i32_w]; rfl
 refine one_ (i := 7) (N := some 29) #[true, true, true, true, true, true, true, true, false, true, true, false] rfl rfl (one_of HT_.out (by kernel_rfl)) (by decide) (fun K hK => ?_)
 refine goes_ Try.func11 (by kernel_rfl) rfl #[.string (a0.extract 0 ((ji12) : Int).toNat)] (by rfl) rfl rfl (by (try simp only [List.map_toArray, List.map_cons, List.map_nil]); first | done | (simp only [hji12]; rfl) | rfl | (simp only [List.length_drop, List.length_take]; rfl)) ?_
 with_reducible refine (cksum_Sum.calls k (a0.extract 0 ((ji12) : Int).toNat) t150 _ A15.out).mono ?_
 rintro e w' ⟨rfl, ⟨nd, rfl⟩⟩
 refine ⟨_, rfl, ?_⟩
 refine hK.out _ _ trivial (fun hHeld => ?_)
 clear hK K
 refine norm_ (a' := ?_) ?_ ?_
 rotate_left
 · show Act.put _ (some 29) _ = _
   simp only [Act.put, List.setIfInBounds_toArray, List.set_cons_zero, List.set_cons_succ, i64_w, i32_w]; rfl
 refine one_ (i := 8) (N := some 30) #[true, true, true, true, true, true, true, true, true, true, true, false] rfl rfl (one_of HT_.out (by kernel_rfl)) (by decide) (fun K hK => ?_)
 refine goes_ Try.func21 (by kernel_rfl) rfl #[.int .u32 t150] (by rfl) rfl rfl (by (try simp only [List.map_toArray, List.map_cons, List.map_nil]); first | done | rfl | (simp only [List.length_drop, List.length_take]; rfl)) ?_
 with_reducible refine (cksum_tail.calls t150 t151 _ A16.out).mono ?_
 rintro e w26 ⟨rfl, hb⟩
 refine ⟨_, rfl, ?_⟩
 have n0_ := Aside0.mk (IsS58.below (by repeat (first | (with_reducible first | exact HI137.out | apply IsS58.alloc | apply IsS58.drewN | apply IsS58.drew | apply IsS58.set_0 | apply IsS58.set_1) | exact HI137.out)) hb)
 have n1_ := Aside0.mk (below_step (by repeat (first | (with_reducible first | exact HB.out | apply below_alloc | apply pw_below_drewN | apply below_drew1 | refine below_set ?_ (IsS58.ge HI137.out)) | exact HB.out)) hb)
 clear HI137; clear HB
 have HI137 := n0_
 have HB := n1_
 clear n0_ n1_
 (try clear hb)
 (try clear hb2)
 (try clear hk)
 (try clear hi)
 refine hK.out _ _ trivial (fun hHeld => ?_)
 clear hK K
 refine norm_ (a' := ?_) ?_ ?_
 rotate_left
 · show Act.put _ (some 30) _ = _
   simp only [Act.put, List.setIfInBounds_toArray, List.set_cons_zero, List.set_cons_succ, i64_w, i32_w]; rfl
 refine pure_ (i := 11) (N := some 33) (v := ?_) (a' := ?_) #[true, true, true, true, true, true, true, true, true, true, true, true] rfl rfl (any_of HT_.out (by kernel_rfl)) (fun _ _ _ h => h) (Or.inl ⟨by rfl, ?_⟩) ?_ ?_
 rotate_left
 · intro w'; go_simp; with_reducible rfl
 rotate_left
 · simp only [Act.put, List.setIfInBounds_toArray, List.set_cons_zero, List.set_cons_succ, i64_w, i32_w]; rfl
 refine done_ (done_of HT_.out (by kernel_rfl)) ?_
 try go_wp2
 have n0_ := Aside0.mk (IsS58.drew HI137.out)
 have n1_ := Aside0.mk (below_drew1 HB.out)
 clear HI137; clear HB
 have HI137 := n0_
 have HB := n1_
 clear n0_ n1_
 refine start_ (n := 6) (S := fun w' => True) (ds := []) #[false, false, false, false, false, false] (by kernel_rfl) rfl rfl trivial (fun hHeld => ?_)
 generalize w26.drew = w27 at HI137 HB hHeld ⊢
 refine pure_ (i := 0) (N := some 34) (v := ?_) (a' := ?_) #[true, false, false, false, false, false] rfl rfl (by kernel_rfl) (fun _ _ _ h => h) (Or.inl ⟨by rfl, ?_⟩) ?_ ?_
 rotate_left
 · intro w'; go_simp; with_reducible rfl
 rotate_left
 · simp only [Act.put, List.setIfInBounds_toArray, List.set_cons_zero, List.set_cons_succ, i64_w, i32_w]; rfl
 refine pure_ (i := 1) (N := some 35) (v := ?_) (a' := ?_) #[true, true, false, false, false, false] rfl rfl (by kernel_rfl) (fun _ _ _ h => h) (Or.inl ⟨by rfl, ?_⟩) ?_ ?_
 rotate_left
 · intro w'; go_simp; with_reducible rfl
 rotate_left
 · simp only [Act.put, List.setIfInBounds_toArray, List.set_cons_zero, List.set_cons_succ, i64_w, i32_w]; rfl
 refine pure_ (i := 2) (N := some 36) (v := ?_) (a' := ?_) #[true, true, true, false, false, false] rfl rfl (by kernel_rfl) (fun _ _ _ h => h) (Or.inl ⟨by rfl, ?_⟩) ?_ ?_
 rotate_left
 · intro w'; go_simp; with_reducible rfl
 rotate_left
 · simp only [Act.put, List.setIfInBounds_toArray, List.set_cons_zero, List.set_cons_succ, i64_w, i32_w]; rfl
 refine pure_ (i := 3) (N := some 2) (v := ?_) (a' := ?_) #[true, true, true, true, false, false] rfl rfl (by kernel_rfl) (fun _ _ _ h => h) (Or.inl ⟨by rfl, ?_⟩) ?_ ?_
 rotate_left
 · intro w'; go_simp; with_reducible rfl
 rotate_left
 · simp only [Act.put, List.setIfInBounds_toArray, List.set_cons_zero, List.set_cons_succ, i64_w, i32_w]; rfl
 refine pure_ (i := 4) (N := some 3) (v := ?_) (a' := ?_) #[true, true, true, true, true, false] rfl rfl (by kernel_rfl) (fun _ _ _ h => h) (Or.inl ⟨by rfl, ?_⟩) ?_ ?_
 rotate_left
 · intro w'; go_simp; with_reducible rfl
 rotate_left
 · simp only [Act.put, List.setIfInBounds_toArray, List.set_cons_zero, List.set_cons_succ, i64_w, i32_w]; rfl
 refine pure_ (i := 5) (N := some 4) (v := ?_) (a' := ?_) #[true, true, true, true, true, true] rfl rfl (by kernel_rfl) (fun _ _ _ h => h) (Or.inl ⟨by rfl, ?_⟩) ?_ ?_
 rotate_left
 · intro w'; go_simp; with_reducible rfl
 rotate_left
 · simp only [Act.put, List.setIfInBounds_toArray, List.set_cons_zero, List.set_cons_succ, i64_w, i32_w]; rfl
 refine done_ (by kernel_rfl) ?_
 try go_wp2
 go_ret3
 exact ⟨by first | rfl | (simp [errW_none, errW_some] <;> rfl) | (simp only [← hji12]; first | rfl | (simp [errW_none, errW_some] <;> rfl)) | (simp [*, errW_none, errW_some] <;> rfl), by repeat (first | (with_reducible first | exact HB.out | apply below_alloc | apply pw_below_drewN | apply below_drew1 | refine below_set ?_ (IsS58.ge HI137.out)) | exact HB.out)⟩

/-! ### splicelaw02_awake: function 10 -/
def splicelaw02_awake.f (k : Nat)  : Option (Bool) := (cksum_Frame.f k (⟨#[97, 98]⟩ : ByteArray)).bind fun bt152 => (if bt152.1.size + 1 ≤ 9223372036854775807 then ((cksum_Open.f k (bt152.1 ++ (⟨#[122]⟩ : ByteArray))).bind fun bt154 => ((cksum_Sum.f k (⟨#[49, 50, 51, 52, 53, 54, 55, 56, 57]⟩ : ByteArray)).bind fun t157 => (if t157 = 3421780262 then (if bt152.2 = 0 then (if (bt152.1.size : Int) = 7 then (if 0 ≤ 3 then (if 3 ≤ (bt152.1.size : Int) then (if (bt152.1.extract 0 3).toList = ([2, 97, 98] : List UInt8) then (if bt154.1.toList = ([97, 98] : List UInt8) then (if bt154.2.1.toList = ([122] : List UInt8) then (some (bt154.2.2 == 0)) else (some false)) else (some false)) else (some false)) else (none)) else (none)) else (some false)) else (some false)) else (some false)))) else (none))
theorem splicelaw02_awake.mono : ∀ k, LeO (splicelaw02_awake.f k ) (splicelaw02_awake.f (k + 1) ) := by
  intro  k
  unfold splicelaw02_awake.f
  repeat' first
      | (with_reducible exact cksum_Frame.mono _ _)
      | (with_reducible exact cksum_Open.mono _ _)
      | (with_reducible exact cksum_Sum.mono _ _)
      | (with_reducible exact LeO.refl _)
      | (with_reducible exact LeO.none _)
      | (with_reducible refine LeO.ite ?_ ?_)
      | (with_reducible refine LeO.bind ?_ (fun _ => ?_))
      | exact cksum_Frame.mono _ _
      | exact cksum_Open.mono _ _
      | exact cksum_Sum.mono _ _
      | exact LeO.none _
      | refine LeO.ite ?_ ?_
      | refine LeO.bind ?_ (fun _ => ?_)
set_option maxHeartbeats 8000000 in
set_option maxRecDepth 100000 in
theorem splicelaw02_awake.calls (k : Nat)  (r : Bool) (w : World) (h : splicelaw02_awake.f k  = some r) (hr_ : r = true) :
    Calls Try.prog 10 #[] w fun e w' => e = .returned (.bool r) ∧ Below w.heap.size w w' := by
  have HB := Aside0.mk (Below.refl w.heap.size w)
  have H : ((cksum_Frame.f k (⟨#[97, 98]⟩ : ByteArray)).bind fun bt152 => (if bt152.1.size + 1 ≤ 9223372036854775807 then ((cksum_Open.f k (bt152.1 ++ (⟨#[122]⟩ : ByteArray))).bind fun bt154 => ((cksum_Sum.f k (⟨#[49, 50, 51, 52, 53, 54, 55, 56, 57]⟩ : ByteArray)).bind fun t157 => (if t157 = 3421780262 then (if bt152.2 = 0 then (if (bt152.1.size : Int) = 7 then (if 0 ≤ 3 then (if 3 ≤ (bt152.1.size : Int) then (if (bt152.1.extract 0 3).toList = ([2, 97, 98] : List UInt8) then (if bt154.1.toList = ([97, 98] : List UInt8) then (if bt154.2.1.toList = ([122] : List UInt8) then (some (bt154.2.2 == 0)) else (some false)) else (some false)) else (some false)) else (none)) else (none)) else (some false)) else (some false)) else (some false)))) else (none))) = some r := h
  clear h
  replace H := Option.bind_eq_some_iff.mp H
  obtain ⟨⟨t152, t153⟩, A10, H⟩ := H
  replace H : (if t152.size + 1 ≤ 9223372036854775807 then ((cksum_Open.f k (t152 ++ (⟨#[122]⟩ : ByteArray))).bind fun bt154 => ((cksum_Sum.f k (⟨#[49, 50, 51, 52, 53, 54, 55, 56, 57]⟩ : ByteArray)).bind fun t157 => (if t157 = 3421780262 then (if t153 = 0 then (if (t152.size : Int) = 7 then (if 0 ≤ 3 then (if 3 ≤ (t152.size : Int) then (if (t152.extract 0 3).toList = ([2, 97, 98] : List UInt8) then (if bt154.1.toList = ([97, 98] : List UInt8) then (if bt154.2.1.toList = ([122] : List UInt8) then (some (bt154.2.2 == 0)) else (some false)) else (some false)) else (some false)) else (none)) else (none)) else (some false)) else (some false)) else (some false)))) else (none)) = some r := H
  have A1 := Aside0.mk A10
  clear A10
  by_cases c2 : t152.size + 1 ≤ 9223372036854775807
  · rw [if_pos c2] at H
    have c2b0 := eq_true c2
    have c2b1 : decide (t152.size + 1 ≤ 9223372036854775807) = true := decide_eq_true c2
    try have c2b2 : (9223372036854775807 < t152.size + 1) = False := eq_false (Nat.not_lt.2 c2)
    replace H := Option.bind_eq_some_iff.mp H
    obtain ⟨⟨t154, t155, t156⟩, A30, H⟩ := H
    replace H : ((cksum_Sum.f k (⟨#[49, 50, 51, 52, 53, 54, 55, 56, 57]⟩ : ByteArray)).bind fun t157 => (if t157 = 3421780262 then (if t153 = 0 then (if (t152.size : Int) = 7 then (if 0 ≤ 3 then (if 3 ≤ (t152.size : Int) then (if (t152.extract 0 3).toList = ([2, 97, 98] : List UInt8) then (if t154.toList = ([97, 98] : List UInt8) then (if t155.toList = ([122] : List UInt8) then (some (t156 == 0)) else (some false)) else (some false)) else (some false)) else (none)) else (none)) else (some false)) else (some false)) else (some false))) = some r := H
    have A3 := Aside0.mk A30
    clear A30
    replace H := Option.bind_eq_some_iff.mp H
    obtain ⟨t157, A40, H⟩ := H
    replace H : (if t157 = 3421780262 then (if t153 = 0 then (if (t152.size : Int) = 7 then (if 0 ≤ 3 then (if 3 ≤ (t152.size : Int) then (if (t152.extract 0 3).toList = ([2, 97, 98] : List UInt8) then (if t154.toList = ([97, 98] : List UInt8) then (if t155.toList = ([122] : List UInt8) then (some (t156 == 0)) else (some false)) else (some false)) else (some false)) else (none)) else (none)) else (some false)) else (some false)) else (some false)) = some r := H
    have A4 := Aside0.mk A40
    clear A40
    by_cases c5 : t157 = 3421780262
    · rw [if_pos c5] at H
      have c5b0 : (t157 == 3421780262) = true := beq_iff_eq.mpr c5
      have c5b1 : (t157 != 3421780262) = false := bne_eq_false_iff_eq.mpr c5
      clear c5
      by_cases c6 : t153 = 0
      · rw [if_pos c6] at H
        have c6b0 : (t153 == 0) = true := beq_iff_eq.mpr c6
        have c6b1 : (t153 != 0) = false := bne_eq_false_iff_eq.mpr c6
        clear c6
        by_cases c7 : (t152.size : Int) = 7
        · rw [if_pos c7] at H
          have c7b0 : ((t152.size : Int) == 7) = true := beq_iff_eq.mpr c7
          have c7b1 : ((t152.size : Int) != 7) = false := bne_eq_false_iff_eq.mpr c7
          clear c7
          by_cases c8 : 0 ≤ 3
          · rw [if_pos c8] at H
            have c8b0 := eq_true c8
            have c8b1 : decide (0 ≤ 3) = true := decide_eq_true c8
            clear c8
            by_cases c9 : 3 ≤ (t152.size : Int)
            · rw [if_pos c9] at H
              have c9b0 := eq_true c9
              have c9b1 : decide (3 ≤ (t152.size : Int)) = true := decide_eq_true c9
              clear c9
              by_cases c10 : (t152.extract 0 3).toList = ([2, 97, 98] : List UInt8)
              · rw [if_pos c10] at H
                have c10b0 : ((t152.extract 0 3).toList == ([2, 97, 98] : List UInt8)) = true := beq_iff_eq.mpr c10
                have c10b1 : ((t152.extract 0 3).toList != ([2, 97, 98] : List UInt8)) = false := bne_eq_false_iff_eq.mpr c10
                clear c10
                by_cases c11 : t154.toList = ([97, 98] : List UInt8)
                · rw [if_pos c11] at H
                  have c11b0 : (t154.toList == ([97, 98] : List UInt8)) = true := beq_iff_eq.mpr c11
                  have c11b1 : (t154.toList != ([97, 98] : List UInt8)) = false := bne_eq_false_iff_eq.mpr c11
                  clear c11
                  by_cases c12 : t155.toList = ([122] : List UInt8)
                  · rw [if_pos c12] at H
                    have c12b0 : (t155.toList == ([122] : List UInt8)) = true := beq_iff_eq.mpr c12
                    have c12b1 : (t155.toList != ([122] : List UInt8)) = false := bne_eq_false_iff_eq.mpr c12
                    clear c12
                    obtain rfl := Option.some.inj H
                    go_enter Try.func10, Try.ntmps10
                    go_wp2_with (first | ((with_reducible refine gate_callee (f := 13) rfl ?_); refine goesL_ (some 7) rfl rfl Try.func13 (by kernel_rfl) rfl #[.string (⟨#[97, 98]⟩ : ByteArray)] rfl (by (try simp only [List.map_toArray, List.map_cons, List.map_nil]); first | done | rfl | (simp only [List.length_drop, List.length_take]; rfl)) ?_; (with_reducible refine (cksum_Frame.calls k (⟨#[97, 98]⟩ : ByteArray) t152 t153 _ A1.out).mono ?_); rintro e w13 ⟨rfl, hb⟩; refine ⟨_, rfl, ?_⟩; have n0_ := Aside0.mk (below_step (by repeat (first | (with_reducible first | exact HB.out | apply below_alloc | apply pw_below_drewN | apply below_drew1) | exact HB.out)) hb); clear HB; have HB := n0_; clear n0_; (try clear hb); (try clear hb2); (try clear hk); (try clear hi)) | ((with_reducible refine gate_callee (f := 17) rfl ?_); refine goesL_ (some 13) rfl rfl Try.func17 (by kernel_rfl) rfl #[.string (t152 ++ (⟨#[122]⟩ : ByteArray))] rfl (by (try simp only [List.map_toArray, List.map_cons, List.map_nil]); first | done | rfl | (simp only [List.length_drop, List.length_take]; rfl)) ?_; (with_reducible refine (cksum_Open.calls k (t152 ++ (⟨#[122]⟩ : ByteArray)) t154 t155 t156 _ A3.out).mono ?_); rintro e w14 ⟨rfl, hb⟩; refine ⟨_, rfl, ?_⟩; have n0_ := Aside0.mk (below_step (by repeat (first | (with_reducible first | exact HB.out | apply below_alloc | apply pw_below_drewN | apply below_drew1) | exact HB.out)) hb); clear HB; have HB := n0_; clear n0_; (try clear hb); (try clear hb2); (try clear hk); (try clear hi)) | ((with_reducible refine gate_callee (f := 11) rfl ?_); refine goesL_ (some 17) rfl rfl Try.func11 (by kernel_rfl) rfl #[.string (⟨#[49, 50, 51, 52, 53, 54, 55, 56, 57]⟩ : ByteArray)] rfl (by (try simp only [List.map_toArray, List.map_cons, List.map_nil]); first | done | rfl | (simp only [List.length_drop, List.length_take]; rfl)) ?_; (with_reducible refine (cksum_Sum.calls k (⟨#[49, 50, 51, 52, 53, 54, 55, 56, 57]⟩ : ByteArray) t157 _ A4.out).mono ?_); rintro e w' ⟨rfl, ⟨nd, rfl⟩⟩; refine ⟨_, rfl, ?_⟩))
                    go_ret
                    exact ⟨by first | rfl | (simp [errW_none, errW_some] <;> rfl) | (simp [*, errW_none, errW_some] <;> rfl), by repeat (first | (with_reducible first | exact HB.out | apply below_alloc | apply pw_below_drewN | apply below_drew1) | exact HB.out)⟩
                  · rw [if_neg c12] at H
                    have c12b0 : (t155.toList == ([122] : List UInt8)) = false := beq_eq_false_iff_ne.mpr c12
                    have c12b1 : (t155.toList != ([122] : List UInt8)) = true := bne_iff_ne.mpr c12
                    exact absurd ((Option.some.inj H).trans hr_) (by simp)
                · rw [if_neg c11] at H
                  have c11b0 : (t154.toList == ([97, 98] : List UInt8)) = false := beq_eq_false_iff_ne.mpr c11
                  have c11b1 : (t154.toList != ([97, 98] : List UInt8)) = true := bne_iff_ne.mpr c11
                  exact absurd ((Option.some.inj H).trans hr_) (by simp)
              · rw [if_neg c10] at H
                have c10b0 : ((t152.extract 0 3).toList == ([2, 97, 98] : List UInt8)) = false := beq_eq_false_iff_ne.mpr c10
                have c10b1 : ((t152.extract 0 3).toList != ([2, 97, 98] : List UInt8)) = true := bne_iff_ne.mpr c10
                exact absurd ((Option.some.inj H).trans hr_) (by simp)
            · rw [if_neg c9] at H
              exact absurd H (by simp)
          · rw [if_neg c8] at H
            exact absurd H (by simp)
        · rw [if_neg c7] at H
          have c7b0 : ((t152.size : Int) == 7) = false := beq_eq_false_iff_ne.mpr c7
          have c7b1 : ((t152.size : Int) != 7) = true := bne_iff_ne.mpr c7
          exact absurd ((Option.some.inj H).trans hr_) (by simp)
      · rw [if_neg c6] at H
        have c6b0 : (t153 == 0) = false := beq_eq_false_iff_ne.mpr c6
        have c6b1 : (t153 != 0) = true := bne_iff_ne.mpr c6
        exact absurd ((Option.some.inj H).trans hr_) (by simp)
    · rw [if_neg c5] at H
      have c5b0 : (t157 == 3421780262) = false := beq_eq_false_iff_ne.mpr c5
      have c5b1 : (t157 != 3421780262) = true := bne_iff_ne.mpr c5
      exact absurd ((Option.some.inj H).trans hr_) (by simp)
  · rw [if_neg c2] at H
    exact absurd H (by simp)

/-! ### cksum_Whole: function 19 -/
def cksum_Whole.f (k : Nat) (a0 : ByteArray) : Option (ByteArray × Int) := (cksum_Open.f k a0).bind fun bt158 => (if bt158.2.2 = 0 then (if bt158.2.1.toList = ([] : List UInt8) then (some (bt158.1, 0)) else (some ((⟨#[]⟩ : ByteArray), 2))) else (some ((⟨#[]⟩ : ByteArray), bt158.2.2)))
theorem cksum_Whole.mono : ∀ a0 k, LeO (cksum_Whole.f k a0) (cksum_Whole.f (k + 1) a0) := by
  intro a0 k
  unfold cksum_Whole.f
  repeat' first
      | (with_reducible exact cksum_Open.mono _ _)
      | (with_reducible exact LeO.refl _)
      | (with_reducible exact LeO.none _)
      | (with_reducible refine LeO.ite ?_ ?_)
      | (with_reducible refine LeO.bind ?_ (fun _ => ?_))
      | exact cksum_Open.mono _ _
      | exact LeO.none _
      | refine LeO.ite ?_ ?_
      | refine LeO.bind ?_ (fun _ => ?_)
set_option maxHeartbeats 8000000 in
set_option maxRecDepth 100000 in
theorem cksum_Whole.calls (k : Nat) (a0 : ByteArray) (r1 : ByteArray) (r2 : Int) (w : World) (h : cksum_Whole.f k a0 = some (r1, r2)) :
    Calls Try.prog 19 #[.string a0] w fun e w' => e = .returned (.tuple #[.string r1, .int .i64 r2]) ∧ Below w.heap.size w w' := by
  have HB := Aside0.mk (Below.refl w.heap.size w)
  have H : ((cksum_Open.f k a0).bind fun bt158 => (if bt158.2.2 = 0 then (if bt158.2.1.toList = ([] : List UInt8) then (some (bt158.1, 0)) else (some ((⟨#[]⟩ : ByteArray), 2))) else (some ((⟨#[]⟩ : ByteArray), bt158.2.2)))) = some (r1, r2) := h
  clear h
  replace H := Option.bind_eq_some_iff.mp H
  obtain ⟨⟨t158, t159, t160⟩, A20, H⟩ := H
  replace H : (if t160 = 0 then (if t159.toList = ([] : List UInt8) then (some (t158, 0)) else (some ((⟨#[]⟩ : ByteArray), 2))) else (some ((⟨#[]⟩ : ByteArray), t160))) = some (r1, r2) := H
  have A2 := Aside0.mk A20
  clear A20
  by_cases c3 : t160 = 0
  · rw [if_pos c3] at H
    have c3b0 : (t160 == 0) = true := beq_iff_eq.mpr c3
    have c3b1 : (t160 != 0) = false := bne_eq_false_iff_eq.mpr c3
    clear c3
    by_cases c4 : t159.toList = ([] : List UInt8)
    · rw [if_pos c4] at H
      have c4b0 : (t159.toList == ([] : List UInt8)) = true := beq_iff_eq.mpr c4
      have c4b1 : (t159.toList != ([] : List UInt8)) = false := bne_eq_false_iff_eq.mpr c4
      clear c4
      simp only [Option.some.injEq, Prod.mk.injEq] at H
      obtain ⟨rfl, rfl⟩ := H
      go_enter Try.func19, Try.ntmps19
      go_wp2_with (first | ((with_reducible refine gate_callee (f := 17) rfl ?_); refine goesL_ (some 8) rfl rfl Try.func17 (by kernel_rfl) rfl #[.string a0] rfl (by (try simp only [List.map_toArray, List.map_cons, List.map_nil]); first | done | rfl | (simp only [List.length_drop, List.length_take]; rfl)) ?_; (with_reducible refine (cksum_Open.calls k a0 t158 t159 t160 _ A2.out).mono ?_); rintro e w5 ⟨rfl, hb⟩; refine ⟨_, rfl, ?_⟩; have n0_ := Aside0.mk (below_step (by repeat (first | (with_reducible first | exact HB.out | apply below_alloc | apply pw_below_drewN | apply below_drew1) | exact HB.out)) hb); clear HB; have HB := n0_; clear n0_; (try clear hb); (try clear hb2); (try clear hk); (try clear hi)))
      go_ret2
      exact ⟨by first | rfl | (simp [errW_none, errW_some] <;> rfl) | (simp [*, errW_none, errW_some] <;> rfl), by repeat (first | (with_reducible first | exact HB.out | apply below_alloc | apply pw_below_drewN | apply below_drew1) | exact HB.out)⟩
    · rw [if_neg c4] at H
      have c4b0 : (t159.toList == ([] : List UInt8)) = false := beq_eq_false_iff_ne.mpr c4
      have c4b1 : (t159.toList != ([] : List UInt8)) = true := bne_iff_ne.mpr c4
      simp only [Option.some.injEq, Prod.mk.injEq] at H
      obtain ⟨rfl, rfl⟩ := H
      go_enter Try.func19, Try.ntmps19
      go_wp2_with (first | ((with_reducible refine gate_callee (f := 17) rfl ?_); refine goesL_ (some 8) rfl rfl Try.func17 (by kernel_rfl) rfl #[.string a0] rfl (by (try simp only [List.map_toArray, List.map_cons, List.map_nil]); first | done | rfl | (simp only [List.length_drop, List.length_take]; rfl)) ?_; (with_reducible refine (cksum_Open.calls k a0 t158 t159 t160 _ A2.out).mono ?_); rintro e w6 ⟨rfl, hb⟩; refine ⟨_, rfl, ?_⟩; have n0_ := Aside0.mk (below_step (by repeat (first | (with_reducible first | exact HB.out | apply below_alloc | apply pw_below_drewN | apply below_drew1) | exact HB.out)) hb); clear HB; have HB := n0_; clear n0_; (try clear hb); (try clear hb2); (try clear hk); (try clear hi)))
      go_ret2
      exact ⟨by first | rfl | (simp [errW_none, errW_some] <;> rfl) | (simp [*, errW_none, errW_some] <;> rfl), by repeat (first | (with_reducible first | exact HB.out | apply below_alloc | apply pw_below_drewN | apply below_drew1) | exact HB.out)⟩
  · rw [if_neg c3] at H
    have c3b0 : (t160 == 0) = false := beq_eq_false_iff_ne.mpr c3
    have c3b1 : (t160 != 0) = true := bne_iff_ne.mpr c3
    simp only [Option.some.injEq, Prod.mk.injEq] at H
    obtain ⟨rfl, rfl⟩ := H
    go_enter Try.func19, Try.ntmps19
    go_wp2_with (first | ((with_reducible refine gate_callee (f := 17) rfl ?_); refine goesL_ (some 8) rfl rfl Try.func17 (by kernel_rfl) rfl #[.string a0] rfl (by (try simp only [List.map_toArray, List.map_cons, List.map_nil]); first | done | rfl | (simp only [List.length_drop, List.length_take]; rfl)) ?_; (with_reducible refine (cksum_Open.calls k a0 t158 t159 t160 _ A2.out).mono ?_); rintro e w7 ⟨rfl, hb⟩; refine ⟨_, rfl, ?_⟩; have n0_ := Aside0.mk (below_step (by repeat (first | (with_reducible first | exact HB.out | apply below_alloc | apply pw_below_drewN | apply below_drew1) | exact HB.out)) hb); clear HB; have HB := n0_; clear n0_; (try clear hb); (try clear hb2); (try clear hk); (try clear hi)))
    go_ret2
    exact ⟨by first | rfl | (simp [errW_none, errW_some] <;> rfl) | (simp [*, errW_none, errW_some] <;> rfl), by repeat (first | (with_reducible first | exact HB.out | apply below_alloc | apply pw_below_drewN | apply below_drew1) | exact HB.out)⟩

/-! ### splicelaw02_CksumBurst: function 9 (a row of bytes of its own that is stored into: by hand) -/
structure By (w W : World) (g : Nat) (l : List Int) : Prop where
  blk : ∃ cs fr, W.heap[g]? = some (.cells cs 5 fr) ∧ l.length ≤ fr.1 ∧ ∀ j, j < l.length → cs[j]? = some (.int .u8 (l.getD j 0))
  ge : w.heap.size ≤ g
  bel : Below w.heap.size w W
theorem By.start (w W : World) (s : ByteArray) (hb : Below w.heap.size w W) : By w (Lib.bytesWorld W 5 s) W.heap.size (bytesOf s) := by
  refine ⟨⟨_, _, Lib.bytesWorld_at_new W 5 s, ?_, fun j hj => ?_⟩, hb.size, bytes_below hb hb.size 5 s⟩
  · rw [bytesOf_length]; show s.size ≤ (Lib.bytesCells W 5 s).size; unfold Lib.bytesCells; rw [Array.size_append, Array.size_map]; exact Nat.le_add_right _ _
  · rw [bytesOf_length] at hj
    have h' : j < s.data.toList.length := by rw [data_length]; exact hj
    have h3 := Lib.bytesWorld_cell W 5 s j hj
    rw [cell_of_row _ _ j _ 5 _ (Lib.bytesWorld_at_new W 5 s)] at h3
    rw [h3]
    simp [bytesOf, List.getD_eq_getElem?_getD, List.getElem?_eq_getElem h']
theorem By.below {w W W' : World} {g : Nat} {l : List Int} (h : By w W g l) (hb : Below W.heap.size W W') : By w W' g l := by
  obtain ⟨cs, fr, h1, h2, h3⟩ := h.blk
  exact ⟨⟨cs, fr, (hb.block g (blk_lt h1)).trans h1, h2, h3⟩, h.ge, h.bel.trans (hb.mono h.bel.size)⟩
theorem By.cell {w W : World} {g : Nat} {l : List Int} (h : By w W g l) (j : Nat) (hj : j < l.length) : W.cell? ⟨g, j, none⟩ = some (.int .u8 (l.getD j 0)) := by
  obtain ⟨cs, fr, h1, h2, h3⟩ := h.blk
  rw [cell_of_row W g j cs 5 fr h1]; exact h3 j hj
theorem By.frozen {w W : World} {g : Nat} {l : List Int} (h : By w W g l) (j : Nat) (hj : j < l.length) : W.frozen? ⟨g, j, none⟩ = false := by
  obtain ⟨cs, fr, h1, h2, h3⟩ := h.blk
  simp [World.frozen?, h1]; omega
theorem By.set {w W : World} {g : Nat} {l : List Int} (h : By w W g l) (j : Nat) (x : Int) : By w (W.setCell ⟨g, j, none⟩ (.int .u8 x)) g (l.set j x) := by
  obtain ⟨cs, fr, h1, h2, h3⟩ := h.blk
  refine ⟨⟨cs.setIfInBounds j (.int .u8 x), fr, ?_, by rw [List.length_set]; exact h2, fun i hi => ?_⟩, h.ge, below_set h.bel h.ge⟩
  · have hg := blk_lt h1
    simp [World.setCell, h1, Array.getElem?_modify]
  · rw [List.length_set] at hi
    have h4 := h3 i hi
    have h5 : i < cs.size := (Array.getElem?_eq_some_iff.1 h4).1
    rw [Array.getElem?_setIfInBounds]
    by_cases e : j = i
    · subst e
      rw [if_pos rfl, if_pos h5, List.getD_eq_getElem?_getD, List.getElem?_set]
      simp [hi]
    · rw [if_neg e, h4, List.getD_eq_getElem?_getD, List.getD_eq_getElem?_getD, List.getElem?_set, if_neg e]
theorem By.reads {w W : World} {g : Nat} {l : List Int} (h : By w W g l) (hl : l.length ≤ 9223372036854775807) : ReadsInt W .u8 (some ⟨g, 0, none⟩) l.length l :=
  ⟨rfl, hl, fun _ => ⟨_, rfl, fun j hj => by rw [add_plain]; exact h.cell j hj⟩⟩
theorem toList_inj {a b : ByteArray} (h : a.toList = b.toList) : a = b := by
  rw [ByteArray.toList_eq, ByteArray.toList_eq] at h
  cases a; cases b; simp_all
def flipI (HDn FI M : Nat) (b : Int) (l : List Int) (q : Nat) : List Int := if FI + q < M ∧ (Go.bits .and .u32 (b / 2 ^ q) 1 == 1) = true then l.set (HDn + (FI + q) / 8) (Go.bits .xor .u8 (l.getD (HDn + (FI + q) / 8) 0) (2 ^ ((FI + q) % 8) % 256)) else l
def flipsI (HDn FI M : Nat) (b : Int) (l : List Int) : Nat → List Int
  | 0 => l
  | q + 1 => flipI HDn FI M b (flipsI HDn FI M b l q) q
theorem flipsI_step (HDn FI M : Nat) (b : Int) (l : List Int) (q : Nat) : flipsI HDn FI M b l (q + 1) = if FI + q < M ∧ (Go.bits .and .u32 (b / 2 ^ q) 1 == 1) = true then (flipsI HDn FI M b l q).set (HDn + (FI + q) / 8) (Go.bits .xor .u8 ((flipsI HDn FI M b l q).getD (HDn + (FI + q) / 8) 0) (2 ^ ((FI + q) % 8) % 256)) else flipsI HDn FI M b l q := rfl
set_option maxHeartbeats 8000000 in
set_option maxRecDepth 100000 in
theorem burst_walk (k : Nat) (s : ByteArray) (a1 a2 : Int) (w : World) (hs : ¬ (s.size : Int) > 2000) (F : ByteArray) (hF : cksum_Frame.f k s = some (F, 0)) (HDn : Nat) (hHD : F.size = HDn + s.size + 4) (h1 : 1 ≤ HDn) (hsz : F.size ≤ 100000) (FI : Nat) (hfi : (wrap64 (a1.tmod ((8 * (s.size + 4) : Nat) : Int) + ((8 * (s.size + 4) : Nat) : Int))).tmod ((8 * (s.size + 4) : Nat) : Int) = (FI : Int)) (hFM : FI < 8 * (s.size + 4)) (t : ByteArray) (e : Int) (hW : cksum_Whole.f k (strOfNums (flipsI HDn FI (8 * (s.size + 4)) a2 (bytesOf F) 32)) = some (t, e)) (haw : splicelaw02_awake.f k = some true) (hok : (strOfNums (flipsI HDn FI (8 * (s.size + 4)) a2 (bytesOf F) 32) = F ∧ e = 0 ∧ t = s) ∨ (strOfNums (flipsI HDn FI (8 * (s.size + 4)) a2 (bytesOf F) 32) ≠ F ∧ e = 6 ∧ t = ⟨#[]⟩)) :
    Calls Try.prog 9 #[.string s, .int .i64 a1, .int .u32 a2] w fun e w' => e = .returned (.bool true) ∧ Below w.heap.size w w' := by
  have q0 : decide ((s.size : Int) > 2000) = false := decide_eq_false hs
  have q1 : decide ((2000 : Int) < (s.size : Int)) = false := decide_eq_false hs
  have HF := Aside0.mk hF
  have w1 : IntKind.i64.wrap ((F.size : Int) - 4) = (F.size : Int) - 4 := IntWalk.i64_in _ (by omega)
  have w2 : IntKind.i64.wrap ((F.size : Int) - 4 - (s.size : Int)) = (HDn : Int) := by rw [IntWalk.i64_in _ (by omega)]; omega
  have q2 : decide ((HDn : Int) < 1) = false := decide_eq_false (by omega)
  obtain ⟨L4, hL4⟩ : ∃ L4 : Nat, L4 = s.size + 4 := ⟨_, rfl⟩
  obtain ⟨M, hM⟩ : ∃ M : Nat, M = 8 * L4 := ⟨_, rfl⟩
  rw [← hL4, ← hM] at hfi hFM hW hok
  have HWh := Aside0.mk hW
  have HAw := Aside0.mk haw
  have HOk := Aside0.mk hok
  have HFi := Aside0.mk (And.intro hFM (show M ≤ 100000 * 8 from by omega))
  have w3 : IntKind.i64.wrap ((F.size : Int) - (HDn : Int)) = (L4 : Int) := by rw [IntWalk.i64_in _ (by omega)]; omega
  have w4 : IntKind.i64.wrap (8 * (L4 : Int)) = (M : Int) := by rw [IntWalk.i64_in _ (by omega)]; omega
  have HSz := Aside0.mk (And.intro hHD (And.intro h1 (And.intro hsz hL4)))
  have HML := Aside0.mk hM
  have m1 : ¬ ((M : Nat) : Int) = 0 := by omega
  have m2 : ¬ M = 0 := by omega
  clear hs hF hHD h1 hsz hM hL4 hW haw hok hFM
  have kb := fun W => print_bytes (P := Try.prog) 9 31 5 Try.underlying9 Try.underlying31 Try.underlying5 F W
  go_enter Try.func9, Try.ntmps9
  go_upto_region 7 with (go_at_call 13; refine (cksum_Frame.calls k s F 0 _ HF.out).mono ?_; rintro e w5 ⟨rfl, hb⟩; have HB := Aside0.mk hb; clear hb)
  go_upto_region 8 with (fail)
  go_upto_region 11 with (fail)
  clear hfi
  replace HB := Aside0.mk (By.start w w5 F HB.out)
  generalize Lib.bytesWorld w5 5 F = w6 at HB ⊢
  generalize w5.heap.size = g at HB ⊢
  generalize grownCap w5 F.size 0 5 = cap
  clear kb
  clear w1 w2 w3 w4 q0 q1 q2 m1 m2
  go_wp2
  go_loopw [13] (fun v13 wr => ∃ (q : Nat) (l : List Int), q ≤ 32 ∧ v13 = .int .i64 q ∧ l.length = F.size ∧ l = flipsI HDn FI M a2 (bytesOf F) q ∧ Aside0 (By w wr g l)) (fun v13 _ => 32 - (intOf v13).toNat)
  case atStart => exact ⟨0, _, by omega, rfl, bytesOf_length F, rfl, HB⟩
  case round =>
    clear HB
    obtain ⟨q, l, hq, rfl, hl, hfl, HB⟩ := hrel
    have HL := Aside0.mk hl
    have HFl := Aside0.mk hfl
    clear hfl
    by_cases hlt : q < 32
    · have q0 : decide ((q : Int) < 32) = true := decide_eq_true (by omega)
      have w1 : IntKind.i64.wrap ((FI : Int) + (q : Int)) = ((FI + q : Nat) : Int) := by rw [IntWalk.i64_in _ (by have := HFi.out; omega)]; omega
      obtain ⟨P, hP⟩ : ∃ P : Nat, P = FI + q := ⟨_, rfl⟩
      rw [← hP] at w1
      by_cases hpm : P < M
      · have q1 : decide ((P : Int) < (M : Int)) = true := decide_eq_true (by omega)
        have q2 : (P : Int) < (M : Int) := by omega
        have q3 : (FI : Int) + (q : Int) < (M : Int) := by omega
        have q4 : decide ((FI : Int) + (q : Int) < (M : Int)) = true := decide_eq_true q3
        clear hl
        have hFI := HFi.out.2
        have hstep := flipsI_step HDn FI M a2 (bytesOf F) q
        rw [← HFl.out, ← hP] at hstep
        have HSt := Aside0.mk hstep
        clear hstep
        go_upto_region 14 with (fail)
        rotate_left
        · rename_i hbit
          exact ⟨⟨q + 1, l, by omega, by go_num, HL.out, by rw [HSt.out, if_neg (fun h => by have := h.2; rw [hbit] at this; exact absurd this (by decide))], HB⟩, by simp [intOf]; omega⟩
        · rename_i hbit
          obtain ⟨X, hX⟩ : ∃ X : Nat, X = HDn + P / 8 := ⟨_, rfl⟩
          have wx : wrap64 ((HDn : Int) + ((FI : Int) + (q : Int)) / 8) = (X : Int) := by have := HSz.out.1; have := HSz.out.2.2.1; rw [hX, hP]; unfold wrap64; omega
          have hXl : X < l.length := by rw [HL.out, hX]; have := HSz.out.1; have := HSz.out.2.2.2; have := HML.out; omega
          have x1 : 0 ≤ (X : Int) := by omega
          have x2 : (X : Int) < (F.size : Int) := by rw [← HL.out]; omega
          have x3 : ¬ (X : Int) < 0 := by omega
          have y0 := HB.out.cell X hXl
          have z0 := HB.out.frozen X hXl
          have HX := Aside0.mk (And.intro hX (And.intro hP hpm))
          have HBit := Aside0.mk hbit
          clear hX hP hXl q1 q2 q4 w1 hpm hbit
          generalize hx : l.getD X 0 = x at y0
          have HXx := Aside0.mk hx
          clear hx
          go_wp2
          replace HB := Aside0.mk (HB.out.set X (Go.bits .xor .u8 x (2 ^ ((FI + q) % 8) % 256)))
          exact ⟨⟨q + 1, _, by omega, by go_num, by rw [List.length_set]; exact HL.out, by rw [HSt.out, if_pos ⟨HX.out.2.2, HBit.out⟩, ← HX.out.1, HXx.out, HX.out.2.1], HB⟩, by simp [intOf]; omega⟩
      · have q1 : decide ((P : Int) < (M : Int)) = false := decide_eq_false (by omega)
        have q2 : ¬ (P : Int) < (M : Int) := by omega
        have q3 : decide ((FI : Int) + (q : Int) < (M : Int)) = false := decide_eq_false (by omega)
        have q4 : ¬ (FI : Int) + (q : Int) < (M : Int) := by omega
        have hstep := flipsI_step HDn FI M a2 (bytesOf F) q
        rw [← HFl.out, ← hP, if_neg (fun h => hpm h.1)] at hstep
        have HSt := Aside0.mk hstep
        clear hstep hl
        go_wp2
        exact ⟨⟨q + 1, l, by omega, by go_num, HL.out, HSt.out.symm, HB⟩, by simp [intOf]; omega⟩
    · obtain rfl : q = 32 := by omega
      have q0 : decide (((32 : Nat) : Int) < 32) = false := by decide
      have hcap : l.length ≤ 9223372036854775807 := by rw [hl]; have := HSz.out.2.2.1; omega
      have hwh := HWh.out
      have hok := HOk.out
      rw [← HFl.out] at hwh hok
      generalize hG : strOfNums l = G at hwh hok
      have HWg := Aside0.mk hwh
      have kc := string_of_reads (c := cap) (P := Try.prog) (src := 31) (dst := 9) (e := 5) Try.underlying31 Try.underlying5 Try.underlying9 (HB.out.reads hcap)
      rw [hG, hl] at kc
      have HG := Aside0.mk hG
      have HCap := Aside0.mk hcap
      have HOk2 := Aside0.mk hok
      clear hG hwh hok hcap hlt hl
      go_upto_region 16 with (go_at_call 19; refine (cksum_Whole.calls k G t e _ HWg.out).mono ?_; rintro e9 w10 ⟨rfl, hb⟩; replace HB := Aside0.mk (HB.out.below hb); clear hb kc)
      have kc := string_of_reads (c := cap) (P := Try.prog) (src := 31) (dst := 9) (e := 5) Try.underlying31 Try.underlying5 Try.underlying9 (HB.out.reads HCap.out)
      rw [HG.out, HL.out] at kc
      rcases HOk2.out with ⟨h1, h2, h3⟩ | ⟨h1, h2, h3⟩
      · subst h2
        subst h3
        have e1 : (G.toList == F.toList) = true := by rw [h1]; exact beq_self_eq_true _
        have e2 : G.toList = F.toList := by rw [h1]
        clear h1 HOk2
        go_wp2_with (go_at_call 10; refine (splicelaw02_awake.calls k true _ HAw.out rfl).mono ?_; rintro e9 w11 ⟨rfl, hb⟩; replace HB := Aside0.mk (HB.out.below hb); clear hb)
        go_ret
        exact ⟨rfl, HB.out.bel⟩
      · subst h2
        subst h3
        have e1 : (G.toList == F.toList) = false := beq_eq_false_iff_ne.mpr (fun h => h1 (toList_inj h))
        have e2 : ¬ G.toList = F.toList := fun h => h1 (toList_inj h)
        clear h1 HOk2
        go_wp2_with (go_at_call 10; refine (splicelaw02_awake.calls k true _ HAw.out rfl).mono ?_; rintro e9 w11 ⟨rfl, hb⟩; replace HB := Aside0.mk (HB.out.below hb); clear hb)
        go_ret
        exact ⟨rfl, HB.out.bel⟩
def burstFI (a1 : Int) (M : Nat) : Nat := ((wrap64 (a1.tmod (M : Int) + (M : Int))).tmod (M : Int)).toNat
def burstG (s : ByteArray) (a1 a2 : Int) (F : ByteArray) : ByteArray := strOfNums (flipsI (F.size - 4 - s.size) (burstFI a1 (8 * (s.size + 4))) (8 * (s.size + 4)) a2 (bytesOf F) 32)
def splicelaw02_CksumBurst.f (k : Nat) (a0 : ByteArray) (a1 : Int) (a2 : Int) : Option (Bool) :=
  if (a0.size : Int) > 2000 then splicelaw02_awake.f k else
  (cksum_Frame.f k a0).bind fun fr => (splicelaw02_awake.f k).bind fun aw => (cksum_Whole.f k (burstG a0 a1 a2 fr.1)).bind fun wh =>
    if fr.2 = 0 ∧ aw = true ∧ a0.size + 5 ≤ fr.1.size ∧ fr.1.size ≤ 100000 ∧ (wrap64 (a1.tmod ((8 * (a0.size + 4) : Nat) : Int) + ((8 * (a0.size + 4) : Nat) : Int))).tmod ((8 * (a0.size + 4) : Nat) : Int) = (burstFI a1 (8 * (a0.size + 4)) : Int) ∧ burstFI a1 (8 * (a0.size + 4)) < 8 * (a0.size + 4) ∧ ((burstG a0 a1 a2 fr.1 = fr.1 ∧ wh.2 = 0 ∧ wh.1 = a0) ∨ (burstG a0 a1 a2 fr.1 ≠ fr.1 ∧ wh.2 = 6 ∧ wh.1 = ⟨#[]⟩)) then some true else none
set_option maxHeartbeats 8000000 in
set_option maxRecDepth 100000 in
theorem splicelaw02_CksumBurst.calls (k : Nat) (a0 : ByteArray) (a1 : Int) (a2 : Int) (r : Bool) (w : World) (h : splicelaw02_CksumBurst.f k a0 a1 a2 = some r) (hr_ : r = true) :
    Calls Try.prog 9 #[.string a0, .int .i64 a1, .int .u32 a2] w fun e w' => e = .returned (.bool r) ∧ Below w.heap.size w w' := by
  subst hr_
  unfold splicelaw02_CksumBurst.f at h
  by_cases hs : (a0.size : Int) > 2000
  · rw [if_pos hs] at h
    have q0 : decide ((a0.size : Int) > 2000) = true := decide_eq_true hs
    have q1 : decide ((2000 : Int) < (a0.size : Int)) = true := decide_eq_true hs
    have HW := Aside0.mk h
    clear h hs
    go_enter Try.func9, Try.ntmps9
    go_wp2_with (go_at_call 10; with_reducible refine (splicelaw02_awake.calls k true _ HW.out rfl).mono ?_; rintro e w9 ⟨rfl, hb⟩)
    go_ret
    exact ⟨rfl, hb⟩
  · rw [if_neg hs] at h
    obtain ⟨⟨F, e0⟩, h1, h⟩ := Option.bind_eq_some_iff.1 h
    obtain ⟨aw, h2, h⟩ := Option.bind_eq_some_iff.1 h
    obtain ⟨⟨t, e⟩, h3, h⟩ := Option.bind_eq_some_iff.1 h
    dsimp only at h h3
    split at h
    case isFalse => exact absurd h (by simp)
    rename_i hc
    obtain ⟨rfl, rfl, c1, c2, c3, c4, c5⟩ := hc
    unfold burstG at h3 c5
    exact burst_walk k a0 a1 a2 w hs F h1 (F.size - 4 - a0.size) (by omega) (by omega) c2 _ c3 c4 t e h3 h2 c5

/-! ### splicelaw02_CksumBurst: function 9 -/
/-- THE ONE PURE STATEMENT of splicelaw02_CksumBurst: yours. -/
def splicelaw02_CksumBurst.Pure : Prop := ∀ (x0 : ByteArray) (x1 : Int) (x2 : Int), x0.size ≤ 140737488351232 → (Lit.int .i64 x1).wf = true → (Lit.int .u32 x2).wf = true → ∃ k, splicelaw02_CksumBurst.f k x0 x1 x2 = some true

end Go.Proofs.Ytlmecdlbnpnajaa.PB
