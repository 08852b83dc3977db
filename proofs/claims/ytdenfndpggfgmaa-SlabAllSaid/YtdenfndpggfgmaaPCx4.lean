-- written by a program of this session
import Derived.Test.YtdenfndpggfgmaaPCx0
import Derived.Test.YtdenfndpggfgmaaPCx1
import Derived.Test.YtdenfndpggfgmaaPCx2
import Derived.Test.YtdenfndpggfgmaaPCx3
namespace Go.Proofs.Ytdenfndpggfgmaa.PC
open Go.RowKit Go.Proofs.Ytdenfndpggfgmaa.Op Go.Proofs.YtdenfndpggfgmaaW.PrintWords Go.Proofs.YtdenfndpggfgmaaW.PrintLast Go.Proofs.YtdenfndpggfgmaaW.PrintMore
attribute [local go_sem] max2_int min2_int max_two min_two max_three min_three max_four min_four   -- for this text's walks alone
set_option linter.unusedVariables false
set_option linter.unusedSimpArgs false

def all24.T : Bool × List (List Nat × List Nat) := (true, [([], []), ([0], [0]), ([], []), ([2, 1], [2]), ([1, 3], [1, 3]), ([4, 3], [4]), ([5], [5]), ([6, 5, 5], [5, 6]), ([5], [5]), ([7, 8, 5], [5, 7, 8]), ([5, 9], [5, 9]), ([10, 7, 0, 1, 2, 3, 4, 5, 6, 7, 8, 9, 10], [10])])
def all24.B : List Nat := [0, 1, 0, 7, 15, 31, 63, 127, 63, 511, 1023, 2047]
theorem all24.tab : rtab .any (opsOf Try.f6 24) = all24.T := by kernel_rfl
theorem all24.bits : waitsOk all24.T.2 all24.B = true := by kernel_rfl
def all10.T : Bool × List (List Nat × List Nat) := (true, [([], []), ([], []), ([1], [1]), ([], []), ([3], [3]), ([0, 2, 4], [0, 2, 4]), ([], []), ([], []), ([7], [7]), ([], []), ([9], [9]), ([6, 8, 10, 5], [6, 8, 10]), ([5, 11], [5, 11]), ([12, 11], [12]), ([13], [13]), ([13], [13]), ([15, 13], [13, 15]), ([13], [13]), ([17, 13], [13, 17]), ([14, 16, 18, 13, 13], [13, 14, 16, 18]), ([13], [13]), ([13], [13]), ([21, 13], [13, 21]), ([13], [13]), ([23, 13], [13, 23]), ([20, 22, 24, 19, 13], [13, 20, 22, 24]), ([19, 25, 13], [13, 19, 25]), ([13, 26], [13, 26])])
def all10.B : List Nat := [0, 0, 2, 0, 8, 31, 0, 0, 128, 0, 512, 2047, 4095, 8191, 16383, 16383, 49151, 16383, 147455, 524287, 16383, 16383, 2113535, 16383, 8404991, 33554431, 67108863, 134217727]
theorem all10.tab : rtab .any (opsOf Try.f6 10) = all10.T := by kernel_rfl
theorem all10.bits : waitsOk all10.T.2 all10.B = true := by kernel_rfl
set_option maxRecDepth 100000 in
set_option maxHeartbeats 8000000 in
theorem all_walk (A0 : Option Addr) (c0 : Nat) (l0 : List S38) (w : World) (hr0 : Kd.C k38 w A0 l0.length l0) :
    Calls Try.prog 6 #[.slice A0 l0.length c0] w fun e w' => e = .returned (.bool true) ∧ Below w.heap.size w w' := by
  have HR0 := Aside0.mk hr0
  have HA1 := Aside0.mk (slab_new_yes (w := w) (Below.refl w.heap.size w) 8 (by omega) (by omega))
  clear hr0
  go_enter Try.func6, Try.ntmps6
  go_upto_region 2 with (first
    | (have t2 := HB2.out; go_at_call 10; refine (slab_new_yes (w := w) HSb.out.bel 8 (by omega) (by omega)).mono ?_; rintro e w3 ⟨rfl, hs, hb⟩; have HSc := Aside0.mk hs; have HB3 := Aside0.mk hb; clear hs hb t2)
    | (have t1 := HB1.out; go_at_call 10; refine (slab_new_yes (w := w) HSa.out.bel 8 (by omega) (by omega)).mono ?_; rintro e w2 ⟨rfl, hs, hb⟩; have HSb := Aside0.mk hs; have HB2 := Aside0.mk hb; clear hs hb t1)
    | (go_at_call 10; refine HA1.out.mono ?_; rintro e w1 ⟨rfl, hs, hb⟩; have HSa := Aside0.mk hs; have HB1 := Aside0.mk hb; clear hs hb))
  go_upto_region 5 with (go_at_call 11; refine (awake07 _).mono ?_; rintro e w4 ⟨rfl, hb⟩; have HB4 := Aside0.mk hb; clear hb)
  have HT : Aside0 (T3 w (w4.alloc (.cells #[.string ⟨#[]⟩, .string ⟨#[]⟩, .string ⟨#[]⟩, .string ⟨#[]⟩, .string ⟨#[]⟩, .string ⟨#[]⟩, .string ⟨#[]⟩, .string ⟨#[]⟩] 26)) (w.heap.size + 1 + 1) w.heap.size (w.heap.size + 1) (w1.heap.size + 1 + 1) w1.heap.size (w1.heap.size + 1) (w2.heap.size + 1 + 1) w2.heap.size (w2.heap.size + 1) 0 w4.heap.size (Sl.new 8) (Sl.new 8) (Sl.new 8) (List.replicate 8 ByteArray.empty)) := ⟨by
    have l1 := HSa.out.lts
    have l2 := HSb.out.lts
    have l3 := HSc.out.lts
    have l4 := HB4.out.size
    have hA := below_alloc (Below.refl w4.heap.size w4) (.cells #[.string ⟨#[]⟩, .string ⟨#[]⟩, .string ⟨#[]⟩, .string ⟨#[]⟩, .string ⟨#[]⟩, .string ⟨#[]⟩, .string ⟨#[]⟩, .string ⟨#[]⟩] 26)
    exact ⟨(((HSa.out.below HB2.out).below HB3.out).below HB4.out).below hA, ((HSb.out.below HB3.out).below HB4.out).below hA, (HSc.out.below HB4.out).below hA, rfl, rfl, rfl, by omega, blk_new w4 _, (HSc.out.below HB4.out).bel.size⟩⟩
  have HAl : Aside0 (Alike (Sl.new 8) (Sl.new 8) (Sl.new 8) (List.replicate 8 ByteArray.empty)) := ⟨⟨UpS.new, UpS.new, UpS.new, rfl, rfl, rfl⟩⟩
  generalize w4.alloc (.cells #[.string ⟨#[]⟩, .string ⟨#[]⟩, .string ⟨#[]⟩, .string ⟨#[]⟩, .string ⟨#[]⟩, .string ⟨#[]⟩, .string ⟨#[]⟩, .string ⟨#[]⟩] 26) = W5 at HT ⊢
  generalize w2.heap.size + 1 + 1 = gc at HT ⊢
  generalize w2.heap.size + 1 = mc at HT
  generalize w2.heap.size = rc at HT
  generalize w1.heap.size + 1 + 1 = gb at HT ⊢
  generalize w1.heap.size + 1 = mb at HT
  generalize w1.heap.size = rb at HT
  generalize w4.heap.size = gs at HT ⊢
  generalize w.heap.size + 1 + 1 = ga at HT ⊢
  generalize w.heap.size + 1 = ma at HT
  obtain ⟨ra, hra⟩ : ∃ ra, ra = w.heap.size := ⟨_, rfl⟩
  rw [← hra] at HT
  clear hra HSa HSb HSc HB1 HB2 HB3 HB4 HA1
  go_wp2
  go_loopw [7] (fun v7 wr => ∃ (k : Nat) (sa sb sc : Sl) (su : List ByteArray), k ≤ 40 ∧ v7 = .int .i64 k ∧ Aside0 (T3 w wr ga ra ma gb rb mb gc rc mc (4 * k) gs sa sb sc su) ∧ Aside0 (Alike sa sb sc su)) (fun v7 _ => 40 - (intOf v7).toNat)
  case atStart => exact ⟨0, _, _, _, _, by omega, rfl, ⟨HT.out⟩, HAl⟩
  case round =>
    clear HT HAl
    obtain ⟨k, sa, sb, sc, su, hk, rfl, HT, HAl⟩ := hrel
    by_cases hlt : k < 40 ∧ k < l0.length
    · have q0 : decide (k < l0.length) = true := decide_eq_true hlt.2
      have q1 : decide ((k : Int) < 40) = true := decide_eq_true (by omega)
      have hwk : IntKind.i64.wrap ((k : Int) + 1) = (k : Int) + 1 := IntWalk.i64_in _ (by omega)
      obtain ⟨ad, A3, c3, x, rfl, hxe, x0, x1, x2, x3, x4, x5, hc3, hC3⟩ := act_at HR0.out HT.out.a.bel k hlt.2
      have HLi := Aside0.mk (And.intro hc3 hC3)
      have hk40 := hlt.1
      have hkl := hlt.2
      clear hc3 hC3 hlt hxe
      go_upto_region 9 with (fail)
      have hA := below_alloc (Below.refl wr.heap.size wr) (.cells #[.int .i64 x.f0, .int .i64 x.f1, .string x.f2, .slice A3 x.f3.f0.length c3, .int .i64 x.f3.f1, .int .i64 x.f3.f2] 38)
      have HX := Aside0.mk (blk_new wr (.cells #[.int .i64 x.f0, .int .i64 x.f1, .string x.f2, .slice A3 x.f3.f0.length c3, .int .i64 x.f3.f1, .int .i64 x.f3.f2] 38))
      have HNe : Aside0 ((wr.heap.size ≠ ga ∧ wr.heap.size ≠ ra ∧ wr.heap.size ≠ ma) ∧ (wr.heap.size ≠ gb ∧ wr.heap.size ≠ rb ∧ wr.heap.size ≠ mb) ∧ wr.heap.size ≠ gc ∧ wr.heap.size ≠ rc ∧ wr.heap.size ≠ mc) := ⟨by
        have := HT.out.a.lts
        have := HT.out.b.lts
        have := HT.out.c.lts
        omega⟩
      replace HT := Aside0.mk (HT.out.below hA)
      clear hA x0 x1 x2 x3 x4 x5
      generalize wr.alloc (.cells #[.int .i64 x.f0, .int .i64 x.f1, .string x.f2, .slice A3 x.f3.f0.length c3, .int .i64 x.f3.f1, .int .i64 x.f3.f2] 38) = w6 at HT HX ⊢
      generalize wr.heap.size = gx at HX HNe ⊢
      have x0 : w6.cell? ⟨gx, 0, none⟩ = some (.int .i64 x.f0) := (blk_cell HX.out 0).trans rfl
      have x1 : w6.cell? ⟨gx, 1, none⟩ = some (.int .i64 x.f1) := (blk_cell HX.out 1).trans rfl
      have x2 : w6.cell? ⟨gx, 2, none⟩ = some (.string x.f2) := (blk_cell HX.out 2).trans rfl
      have x3 : w6.cell? ⟨gx, 3, none⟩ = some (.slice A3 x.f3.f0.length c3) := (blk_cell HX.out 3).trans rfl
      have x4 : w6.cell? ⟨gx, 4, none⟩ = some (.int .i64 x.f3.f1) := (blk_cell HX.out 4).trans rfl
      have x5 : w6.cell? ⟨gx, 5, none⟩ = some (.int .i64 x.f3.f2) := (blk_cell HX.out 5).trans rfl
      replace HLi := Aside0.mk (light_calls x w6 (Kd.C_below HLi.out.2 HT.out.a.bel) HLi.out.1)
      by_cases h0 : x.f0 = 0
      · have q2 : (x.f0 == 0) = true := beq_iff_eq.mpr h0
        have q3 : decide (x.f0 = 0) = true := decide_eq_true h0
        have q4 : (x.f0 == 2) = false := beq_eq_false_iff_ne.mpr (by omega)
        have q5 : decide (x.f0 = 2) = false := decide_eq_false (by omega)
        clear h0
        cases hlg : (decide ((x.f2.size : Int) ≤ 2000) && decide ((x.f3.f0.length : Int) ≤ 50))
        · rw [hlg] at HLi
          clear hlg
          go_wp2_with (go_at_call 17; refine HLi.out.mono ?_; rintro e w7 ⟨rfl, hb⟩; replace HT := Aside0.mk (HT.out.below hb); replace HX := Aside0.mk (blk_below HX.out hb); clear x0 x1 x2 x3 x4 x5 hb; have x0 : w7.cell? ⟨gx, 0, none⟩ = some (.int .i64 x.f0) := (blk_cell HX.out 0).trans rfl)
          exact ⟨⟨k + 1, _, _, _, _, by omega, by go_num, ⟨HT.out.more (by omega)⟩, HAl⟩, by simp [intOf]; omega⟩
        · rw [hlg] at HLi
          clear hlg
          go_upto_region 10 with (go_at_call 17; refine HLi.out.mono ?_; rintro e w7 ⟨rfl, hb⟩; replace HT := Aside0.mk (HT.out.below hb); replace HX := Aside0.mk (blk_below HX.out hb); clear x0 x1 x2 x3 x4 x5 hb)
          replace HT := Aside0.mk (HT.out.below (below_drew1 (Below.refl w7.heap.size w7)))
          replace HX : Aside0 (w7.drew.heap[gx]? = _) := ⟨blk_drew HX.out⟩
          cases hcw : canW x.f1 x.f2
          all_goals
            have HCw := Aside0.mk hcw
            clear hcw
            skip
            refine start_ (n := 28) (S := fun w' => w'.cell? ⟨gx, 1, none⟩ = some (.int .i64 x.f1) ∧ w'.cell? ⟨gx, 2, none⟩ = some (.string x.f2)) (ds := []) (bAg 28 0) (by kernel_rfl) rfl rfl ⟨(blk_cell HX.out 1).trans rfl, (blk_cell HX.out 2).trans rfl⟩ (fun hHeld => ?_); refine with_tabW all10.tab all10.bits (fun HT_ HW_ => ?_)
            refine pure_ (i := 0) (N := some 47) (v := ?_) (a' := ?_) (bAg 28 1) rfl rfl (any_of HT_.out (by kernel_rfl)) (fun _ _ _ h => h) (Or.inl ⟨by rfl, ?_⟩) ?_ ?_
            rotate_left
            · intro w'
              go_simp
              with_reducible rfl
            rotate_left
            · simp only [Act.put, sg1, sg2, sg3, i64_w, i32_w]
              rfl
            refine pure_ (i := 1) (N := some 48) (v := ?_) (a' := ?_) (bAg 28 3) rfl rfl (any_of HT_.out (by kernel_rfl)) (fun _ _ _ h => h) (Or.inl ⟨by rfl, ?_⟩) ?_ ?_
            rotate_left
            · intro w'
              go_simp
              with_reducible rfl
            rotate_left
            · simp only [Act.put, sg1, sg2, sg3, i64_w, i32_w]
              rfl
            refine take_ (i := 2) (N := some 49) (v := ?_) (a' := ?_) (bAg 28 7) rfl rfl (take_ofW HT_.out HW_.out (by kernel_rfl)) (fun _ _ _ h => h) (Or.inl ⟨by rfl, ?_⟩) hHeld ?_ ?_
            rotate_left
            · rintro w' ⟨s0, s1⟩
              go_simp
              with_reducible rfl
            rotate_left
            · simp only [Act.put, sg1, sg2, sg3, i64_w, i32_w]
              rfl
            refine pure_ (i := 3) (N := some 50) (v := ?_) (a' := ?_) (bAg 28 15) rfl rfl (any_of HT_.out (by kernel_rfl)) (fun _ _ _ h => h) (Or.inl ⟨by rfl, ?_⟩) ?_ ?_
            rotate_left
            · intro w'
              go_simp
              with_reducible rfl
            rotate_left
            · simp only [Act.put, sg1, sg2, sg3, i64_w, i32_w]
              rfl
            refine take_ (i := 4) (N := some 51) (v := ?_) (a' := ?_) (bAg 28 31) rfl rfl (take_ofW HT_.out HW_.out (by kernel_rfl)) (fun _ _ _ h => h) (Or.inl ⟨by rfl, ?_⟩) hHeld ?_ ?_
            rotate_left
            · rintro w' ⟨s0, s1⟩
              go_simp
              with_reducible rfl
            rotate_left
            · simp only [Act.put, sg1, sg2, sg3, i64_w, i32_w]
              rfl
            refine pure_ (i := 6) (N := some 53) (v := ?_) (a' := ?_) (bAg 28 95) rfl rfl (any_of HT_.out (by kernel_rfl)) (fun _ _ _ h => h) (Or.inl ⟨by rfl, ?_⟩) ?_ ?_
            rotate_left
            · intro w'
              go_simp
              with_reducible rfl
            rotate_left
            · simp only [Act.put, sg1, sg2, sg3, i64_w, i32_w]
              rfl
            refine pure_ (i := 7) (N := some 54) (v := ?_) (a' := ?_) (bAg 28 223) rfl rfl (any_of HT_.out (by kernel_rfl)) (fun _ _ _ h => h) (Or.inl ⟨by rfl, ?_⟩) ?_ ?_
            rotate_left
            · intro w'
              go_simp
              with_reducible rfl
            rotate_left
            · simp only [Act.put, sg1, sg2, sg3, i64_w, i32_w]
              rfl
            refine take_ (i := 8) (N := some 55) (v := ?_) (a' := ?_) (bAg 28 479) rfl rfl (take_ofW HT_.out HW_.out (by kernel_rfl)) (fun _ _ _ h => h) (Or.inl ⟨by rfl, ?_⟩) hHeld ?_ ?_
            rotate_left
            · rintro w' ⟨s0, s1⟩
              go_simp
              with_reducible rfl
            rotate_left
            · simp only [Act.put, sg1, sg2, sg3, i64_w, i32_w]
              rfl
            refine pure_ (i := 9) (N := some 56) (v := ?_) (a' := ?_) (bAg 28 991) rfl rfl (any_of HT_.out (by kernel_rfl)) (fun _ _ _ h => h) (Or.inl ⟨by rfl, ?_⟩) ?_ ?_
            rotate_left
            · intro w'
              go_simp
              with_reducible rfl
            rotate_left
            · simp only [Act.put, sg1, sg2, sg3, i64_w, i32_w]
              rfl
            refine take_ (i := 10) (N := some 57) (v := ?_) (a' := ?_) (bAg 28 2015) rfl rfl (take_ofW HT_.out HW_.out (by kernel_rfl)) (fun _ _ _ h => h) (Or.inl ⟨by rfl, ?_⟩) hHeld ?_ ?_
            rotate_left
            · rintro w' ⟨s0, s1⟩
              go_simp
              with_reducible rfl
            rotate_left
            · simp only [Act.put, sg1, sg2, sg3, i64_w, i32_w]
              rfl
            refine one_ (i := 5) (N := some 52) (bAg 28 2047) rfl rfl (one_of HT_.out (by kernel_rfl)) (by decide) (fun K hK => ?_)
            refine goes_ Try.func12 (by kernel_rfl) rfl #[.pointer (some ⟨ga, 0, none⟩), .int .i64 x.f1, .string x.f2] (by rfl) rfl rfl (by (try simp only [List.map_toArray, List.map_cons, List.map_nil]); first | done | rfl) ?_
            have hC := slab_write' HT.out.a (by omega) x.f1 x.f2 (write_any _ HAl.out.a x.f1 x.f2)
            rw [HCw.out] at hC
            refine hC.mono ?_
            rintro e w11 ⟨rfl, hs, hk7⟩
            refine ⟨_, rfl, ?_⟩
            replace HX := Aside0.mk ((hk7.2 gx (blk_lt HX.out) HNe.out.1.1 HNe.out.1.2.1 HNe.out.1.2.2).trans HX.out)
            replace HT := Aside0.mk (HT.out.turnA (by omega) hs hk7 (HAl.out.a.put_ x.f1 x.f2).kb)
            clear hs hk7 hC
            refine hK.out _ _ ⟨(blk_cell HX.out 1).trans rfl, (blk_cell HX.out 2).trans rfl⟩ (fun hHeld => ?_)
            clear hK K
            refine norm_ (a' := ?_) ?_ ?_
            rotate_left
            · show Act.put _ (some 52) _ = _
              simp only [Act.put, sg1, sg2, sg3, i64_w, i32_w]
              rfl
            refine one_ (i := 11) (N := some 58) (bAg 28 4095) rfl rfl (one_of HT_.out (by kernel_rfl)) (by decide) (fun K hK => ?_)
            refine goes_ Try.func12 (by kernel_rfl) rfl #[.pointer (some ⟨gb, 0, none⟩), .int .i64 x.f1, .string x.f2] (by rfl) rfl rfl (by (try simp only [List.map_toArray, List.map_cons, List.map_nil]); first | done | rfl) ?_
            have hC := slab_write' HT.out.b (by omega) x.f1 x.f2 (write_any _ HAl.out.b x.f1 x.f2)
            rw [HCw.out] at hC
            refine hC.mono ?_
            rintro e w12 ⟨rfl, hs, hk7⟩
            refine ⟨_, rfl, ?_⟩
            replace HX := Aside0.mk ((hk7.2 gx (blk_lt HX.out) HNe.out.2.1.1 HNe.out.2.1.2.1 HNe.out.2.1.2.2).trans HX.out)
            replace HT := Aside0.mk (HT.out.turnB (by omega) hs hk7 (HAl.out.b.put_ x.f1 x.f2).kb)
            clear hs hk7 hC
            refine hK.out _ _ ⟨(blk_cell HX.out 1).trans rfl, (blk_cell HX.out 2).trans rfl⟩ (fun hHeld => ?_)
            clear hK K
            refine norm_ (a' := ?_) ?_ ?_
            rotate_left
            · show Act.put _ (some 58) _ = _
              simp only [Act.put, sg1, sg2, sg3, i64_w, i32_w]
              rfl
            refine pure_ (i := 12) (N := some 59) (v := ?_) (a' := ?_) (bAg 28 8191) rfl rfl (any_of HT_.out (by kernel_rfl)) (fun _ _ _ h => h) (Or.inl ⟨by rfl, ?_⟩) ?_ ?_
            rotate_left
            · intro w'
              go_simp
              with_reducible rfl
            rotate_left
            · simp only [Act.put, sg1, sg2, sg3, i64_w, i32_w]
              rfl
            refine pure_ (i := 13) (N := some 60) (v := ?_) (a' := ?_) (bAg 28 16383) rfl rfl (any_of HT_.out (by kernel_rfl)) (fun _ _ _ h => h) (Or.inl ⟨by rfl, ?_⟩) ?_ ?_
            rotate_left
            · intro w'
              go_simp
              with_reducible rfl
            rotate_left
            · simp only [Act.put, sg1, sg2, sg3, i64_w, i32_w]
              rfl
            refine pure_ (i := 14) (N := some 61) (v := ?_) (a' := ?_) (bAg 28 32767) rfl rfl (any_of HT_.out (by kernel_rfl)) (fun _ _ _ h => h) (Or.inl ⟨by rfl, ?_⟩) ?_ ?_
            rotate_left
            · intro w'
              go_simp
              with_reducible rfl
            rotate_left
            · simp only [Act.put, sg1, sg2, sg3, i64_w, i32_w]
              rfl
            refine pure_ (i := 15) (N := some 62) (v := ?_) (a' := ?_) (bAg 28 65535) rfl rfl (any_of HT_.out (by kernel_rfl)) (fun _ _ _ h => h) (Or.inl ⟨by rfl, ?_⟩) ?_ ?_
            rotate_left
            · intro w'
              go_simp
              with_reducible rfl
            rotate_left
            · simp only [Act.put, sg1, sg2, sg3, i64_w, i32_w]
              rfl
            refine take_ (i := 16) (N := some 63) (v := ?_) (a' := ?_) (bAg 28 131071) rfl rfl (take_ofW HT_.out HW_.out (by kernel_rfl)) (fun _ _ _ h => h) (Or.inl ⟨by rfl, ?_⟩) hHeld ?_ ?_
            rotate_left
            · rintro w' ⟨s0, s1⟩
              go_simp
              with_reducible rfl
            rotate_left
            · simp only [Act.put, sg1, sg2, sg3, i64_w, i32_w]
              rfl
            refine pure_ (i := 17) (N := some 64) (v := ?_) (a' := ?_) (bAg 28 262143) rfl rfl (any_of HT_.out (by kernel_rfl)) (fun _ _ _ h => h) (Or.inl ⟨by rfl, ?_⟩) ?_ ?_
            rotate_left
            · intro w'
              go_simp
              with_reducible rfl
            rotate_left
            · simp only [Act.put, sg1, sg2, sg3, i64_w, i32_w]
              rfl
            refine take_ (i := 18) (N := some 65) (v := ?_) (a' := ?_) (bAg 28 524287) rfl rfl (take_ofW HT_.out HW_.out (by kernel_rfl)) (fun _ _ _ h => h) (Or.inl ⟨by rfl, ?_⟩) hHeld ?_ ?_
            rotate_left
            · rintro w' ⟨s0, s1⟩
              go_simp
              with_reducible rfl
            rotate_left
            · simp only [Act.put, sg1, sg2, sg3, i64_w, i32_w]
              rfl
            refine pure_ (i := 20) (N := some 67) (v := ?_) (a' := ?_) (bAg 28 1572863) rfl rfl (any_of HT_.out (by kernel_rfl)) (fun _ _ _ h => h) (Or.inl ⟨by rfl, ?_⟩) ?_ ?_
            rotate_left
            · intro w'
              go_simp
              with_reducible rfl
            rotate_left
            · simp only [Act.put, sg1, sg2, sg3, i64_w, i32_w]
              rfl
            refine pure_ (i := 21) (N := some 68) (v := ?_) (a' := ?_) (bAg 28 3670015) rfl rfl (any_of HT_.out (by kernel_rfl)) (fun _ _ _ h => h) (Or.inl ⟨by rfl, ?_⟩) ?_ ?_
            rotate_left
            · intro w'
              go_simp
              with_reducible rfl
            rotate_left
            · simp only [Act.put, sg1, sg2, sg3, i64_w, i32_w]
              rfl
            refine take_ (i := 22) (N := some 69) (v := ?_) (a' := ?_) (bAg 28 7864319) rfl rfl (take_ofW HT_.out HW_.out (by kernel_rfl)) (fun _ _ _ h => h) (Or.inl ⟨by rfl, ?_⟩) hHeld ?_ ?_
            rotate_left
            · rintro w' ⟨s0, s1⟩
              go_simp
              with_reducible rfl
            rotate_left
            · simp only [Act.put, sg1, sg2, sg3, i64_w, i32_w]
              rfl
            refine pure_ (i := 23) (N := some 70) (v := ?_) (a' := ?_) (bAg 28 16252927) rfl rfl (any_of HT_.out (by kernel_rfl)) (fun _ _ _ h => h) (Or.inl ⟨by rfl, ?_⟩) ?_ ?_
            rotate_left
            · intro w'
              go_simp
              with_reducible rfl
            rotate_left
            · simp only [Act.put, sg1, sg2, sg3, i64_w, i32_w]
              rfl
            refine take_ (i := 24) (N := some 71) (v := ?_) (a' := ?_) (bAg 28 33030143) rfl rfl (take_ofW HT_.out HW_.out (by kernel_rfl)) (fun _ _ _ h => h) (Or.inl ⟨by rfl, ?_⟩) hHeld ?_ ?_
            rotate_left
            · rintro w' ⟨s0, s1⟩
              go_simp
              with_reducible rfl
            rotate_left
            · simp only [Act.put, sg1, sg2, sg3, i64_w, i32_w]
              rfl
            refine one_ (i := 19) (N := some 66) (bAg 28 33554431) rfl rfl (one_of HT_.out (by kernel_rfl)) (by decide) (fun K hK => ?_)
            refine goes_ Try.func12 (by kernel_rfl) rfl #[.pointer (some ⟨ga, 0, none⟩), .int .i64 x.f1, .string x.f2] (by rfl) rfl rfl (by (try simp only [List.map_toArray, List.map_cons, List.map_nil]); first | done | rfl) ?_
            have hC := slab_write' HT.out.a (by omega) x.f1 x.f2 (write_any _ (HAl.out.a.put_ x.f1 x.f2) x.f1 x.f2)
            rw [HCw.out] at hC
            refine hC.mono ?_
            rintro e w13 ⟨rfl, hs, hk7⟩
            refine ⟨_, rfl, ?_⟩
            replace HX := Aside0.mk ((hk7.2 gx (blk_lt HX.out) HNe.out.1.1 HNe.out.1.2.1 HNe.out.1.2.2).trans HX.out)
            replace HT := Aside0.mk (HT.out.turnA (by omega) hs hk7 ((HAl.out.a.put_ x.f1 x.f2).put_ x.f1 x.f2).kb)
            clear hs hk7 hC
            refine hK.out _ _ ⟨(blk_cell HX.out 1).trans rfl, (blk_cell HX.out 2).trans rfl⟩ (fun hHeld => ?_)
            clear hK K
            refine norm_ (a' := ?_) ?_ ?_
            rotate_left
            · show Act.put _ (some 66) _ = _
              simp only [Act.put, sg1, sg2, sg3, i64_w, i32_w]
              rfl
            refine one_ (i := 25) (N := some 72) (bAg 28 67108863) rfl rfl (one_of HT_.out (by kernel_rfl)) (by decide) (fun K hK => ?_)
            refine goes_ Try.func12 (by kernel_rfl) rfl #[.pointer (some ⟨gc, 0, none⟩), .int .i64 x.f1, .string x.f2] (by rfl) rfl rfl (by (try simp only [List.map_toArray, List.map_cons, List.map_nil]); first | done | rfl) ?_
            have hC := slab_write' HT.out.c (by omega) x.f1 x.f2 (write_any _ HAl.out.c x.f1 x.f2)
            rw [HCw.out] at hC
            refine hC.mono ?_
            rintro e w14 ⟨rfl, hs, hk7⟩
            refine ⟨_, rfl, ?_⟩
            replace HX := Aside0.mk ((hk7.2 gx (blk_lt HX.out) HNe.out.2.2.1 HNe.out.2.2.2.1 HNe.out.2.2.2.2).trans HX.out)
            replace HT := Aside0.mk (HT.out.turnC (by omega) hs hk7 (HAl.out.c.put_ x.f1 x.f2).kb)
            clear hs hk7 hC
            refine hK.out _ _ ⟨(blk_cell HX.out 1).trans rfl, (blk_cell HX.out 2).trans rfl⟩ (fun hHeld => ?_)
            clear hK K
            refine norm_ (a' := ?_) ?_ ?_
            rotate_left
            · show Act.put _ (some 72) _ = _
              simp only [Act.put, sg1, sg2, sg3, i64_w, i32_w]
              rfl
            refine pure_ (i := 26) (N := some 73) (v := ?_) (a' := ?_) (bAg 28 134217727) rfl rfl (any_of HT_.out (by kernel_rfl)) (fun _ _ _ h => h) (Or.inl ⟨by rfl, ?_⟩) ?_ ?_
            rotate_left
            · intro w'
              go_simp
              with_reducible rfl
            rotate_left
            · simp only [Act.put, sg1, sg2, sg3, i64_w, i32_w]
              rfl
            refine pure_ (i := 27) (N := some 74) (v := ?_) (a' := ?_) (bAg 28 268435455) rfl rfl (any_of HT_.out (by kernel_rfl)) (fun _ _ _ h => h) (Or.inl ⟨by rfl, ?_⟩) ?_ ?_
            rotate_left
            · intro w'
              go_simp
              with_reducible rfl
            rotate_left
            · simp only [Act.put, sg1, sg2, sg3, i64_w, i32_w]
              rfl
            refine done_ (done_of HT_.out (by kernel_rfl)) ?_
            clear hHeld HT_ HW_
            have x0 := (blk_cell HX.out 0)
            replace x0 : w14.cell? ⟨gx, 0, none⟩ = some (.int .i64 x.f0) := (blk_cell HX.out 0).trans rfl
            go_wp2_with fail
            exact ⟨⟨k + 1, _, _, _, _, by omega, by go_num, ⟨HT.out.more (by omega)⟩, ⟨HAl.out.write x.f1 x.f2⟩⟩, by simp [intOf]; omega⟩

      · have q2 : (x.f0 == 0) = false := beq_eq_false_iff_ne.mpr h0
        have q3 : decide (x.f0 = 0) = false := decide_eq_false h0
        clear h0
        by_cases h2 : x.f0 = 2
        · have q4 : (x.f0 == 2) = true := beq_iff_eq.mpr h2
          have q5 : decide (x.f0 = 2) = true := decide_eq_true h2
          clear h2
          have FA := Aside0.mk (flush_up sa HAl.out.a.up HAl.out.a.wait)
          have FB := Aside0.mk (flush_up sb HAl.out.b.up HAl.out.b.wait)
          have FC := Aside0.mk (flush_up sc HAl.out.c.up HAl.out.c.wait)
          go_upto_region 14 with (go_at_call 16; refine (slab_flush' HT.out.a FA.out).mono ?_; rintro e w11 ⟨rfl, hs, hb⟩; replace HT := Aside0.mk (HT.out.turnA (Nat.le_refl _) (s2 := flS sa) hs hb HAl.out.a.kb); clear hs hb)
          go_upto_region 15 with (go_at_call 16; refine (slab_flush' HT.out.b FB.out).mono ?_; rintro e w12 ⟨rfl, hs, hb⟩; replace HT := Aside0.mk (HT.out.turnB (Nat.le_refl _) (s2 := flS sb) hs hb HAl.out.b.kb); clear hs hb)
          go_upto_region 16 with (go_at_call 16; refine (slab_flush' HT.out.c FC.out).mono ?_; rintro e w13 ⟨rfl, hs, hb⟩; replace HT := Aside0.mk (HT.out.turnC (Nat.le_refl _) (s2 := flS sc) hs hb HAl.out.c.kb); clear hs hb)
          have HAl2 := Aside0.mk HAl.out.flush
          have HRd := Aside0.mk (slab_read8 HT.out.c)
          rw [read8_want _ HAl.out.c.fl.up HAl.out.c.fl.len] at HRd
          obtain ⟨a1, a2, a3, a4, a5, a6, a7, a8, e8⟩ := eight (wantOf (flS sc).b) (by simp [wantOf]; exact HAl.out.c.fl.len)
          rw [e8] at HRd HAl2
          replace HRd : Aside0 (Calls Try.prog 13 #[.pointer (some ⟨gc, 0, none⟩)] w13 fun e W' => e = .returned (.agg #[.string a1, .string a2, .string a3, .string a4, .string a5, .string a6, .string a7, .string a8]) ∧ Below w13.heap.size w13 W') := HRd
          obtain ⟨c1, c2, c3', c4, c5, c6, c7, c8, e9⟩ := eight su (by rw [HAl.out.su]; simp; exact HAl.out.a.len)
          subst e9
          clear e8 x0 x1 x2 x3 x4 x5 FA FB FC HLi
          go_wp2_with (go_at_call 13; refine HRd.out.mono ?_; rintro e w14 ⟨rfl, hb⟩; replace HT := Aside0.mk (HT.out.below hb); clear hb; obtain ⟨⟨z0, z1, z2, z3, z4, z5, z6, z7⟩, f0, f1, f2, f3, f4, f5, f6, f7⟩ := cells8 HT.out.ar)
          exact ⟨⟨k + 1, _, _, _, _, by omega, by go_num, ⟨((((((((HT.out.arr 0 a1).arr 1 a2).arr 2 a3).arr 3 a4).arr 4 a5).arr 5 a6).arr 6 a7).arr 7 a8).more (by omega)⟩, ⟨HAl2.out⟩⟩, by simp [intOf]; omega⟩
        · have q4 : (x.f0 == 2) = false := beq_eq_false_iff_ne.mpr h2
          have q5 : decide (x.f0 = 2) = false := decide_eq_false h2
          clear h2
          go_wp2
          exact ⟨⟨k + 1, _, _, _, _, by omega, by go_num, ⟨HT.out.more (by omega)⟩, HAl⟩, by simp [intOf]; omega⟩
    · by_cases h1 : k < l0.length
      all_goals first
        | (have q2 : decide ((k : Int) < 40) = false := decide_eq_false (by omega); have q1 : decide (k < l0.length) = true := decide_eq_true h1; clear h1 hlt; go_upto_region 17 with (fail))
        | (have q1 : decide (k < l0.length) = false := decide_eq_false h1; clear h1 hlt; go_upto_region 17 with (fail))
      all_goals
        have hll : (looseL sa.b).length ≤ 100000000 := by
          have h1 := List.length_filter_le (isLoose sa.b) (List.range sa.b.length)
          have h2 := HAl.out.a.len
          unfold looseL
          rw [List.length_map]
          rw [List.length_range] at h1
          omega
        have HLl := Aside0.mk hll
        have HLo := Aside0.mk (slab_loose HT.out.a (by omega))
        have HLt := Aside0.mk HT.out.a.lts
        clear hll
        obtain ⟨a1, a2, a3, a4, a5, a6, a7, a8, e8⟩ := eight (wantOf sa.b) (by simp [wantOf]; exact HAl.out.a.len)
        obtain ⟨b1, b2, b3, b4, b5, b6, b7, b8, e9⟩ := eight su (by rw [HAl.out.su]; simp; exact HAl.out.a.len)
        have esu := HAl.out.su
        subst e9
        have HEa : Aside0 (∀ W, IsSl w W ga ra ma (4 * k) { sa with b := settle (failF (looseL sa.b) (-1) 0) sa.b, down := false, wait := 0 } → Calls Try.prog 13 #[.pointer (some ⟨ga, 0, none⟩)] W fun e W' => e = .returned (.agg #[.string a1, .string a2, .string a3, .string a4, .string a5, .string a6, .string a7, .string a8]) ∧ Below W.heap.size W W') := ⟨fun W h => by
          have h9 := slab_read8 h
          rw [read8_want _ rfl (by show (settle _ sa.b).length = 8; rw [settle_len]; exact HAl.out.a.len)] at h9
          dsimp only at h9
          rw [keep_all, e8] at h9
          exact h9⟩
        have HEb : Aside0 (∀ W, IsSl w W gb rb mb (4 * k) { flS sb with b := settle (failF [] 3 1) (flS sb).b, down := false, wait := 0 } → Calls Try.prog 13 #[.pointer (some ⟨gb, 0, none⟩)] W fun e W' => e = .returned (.agg #[.string a1, .string a2, .string a3, .string a4, .string a5, .string a6, .string a7, .string a8]) ∧ Below W.heap.size W W') := ⟨fun W h => by
          have h9 := slab_read8 h
          rw [read8_want _ rfl (by show (settle _ (flS sb).b).length = 8; rw [settle_len]; exact HAl.out.b.fl.len)] at h9
          dsimp only at h9
          rw [show (flS sb).b = settle newF sb.b from rfl, fail_sure (settle_sure newF sb.b), settle_new, HAl.out.ab, e8] at h9
          exact h9⟩
        have HEc : Aside0 (∀ W, IsSl w W gc rc mc (4 * k) { sc with b := settle (failF [] (-1) 5) sc.b, down := false, wait := 0 } → Calls Try.prog 13 #[.pointer (some ⟨gc, 0, none⟩)] W fun e W' => e = .returned (.agg #[.string b1, .string b2, .string b3, .string b4, .string b5, .string b6, .string b7, .string b8]) ∧ Below W.heap.size W W') := ⟨fun W h => by
          have h9 := slab_read8 h
          rw [read8_want _ rfl (by show (settle _ sc.b).length = 8; rw [settle_len]; exact HAl.out.c.len)] at h9
          dsimp only at h9
          rw [keep_none, HAl.out.ac, ← esu] at h9
          exact h9⟩
        clear esu e8
        go_upto_region 18 with (first | (go_at_call 21; refine HLo.out.mono ?_; rintro e w21 ⟨v, rfl, hR, hb⟩; obtain ⟨A9, c9, rfl⟩ := Kd.R_slice hR; have HRl := Aside0.mk hR; replace HT := Aside0.mk (HT.out.below hb); clear hR hb) | (go_at_call 14; refine (slab_fail_up HT.out.a A9 c9 (looseL sa.b) (-1) 0 (fun W' hk => (Kd.R_reads' (Kd.R_step (Kd.R_bound HRl.out) (fun i hi hlt => hk.2 i hlt (by have := hi.2.1; have := HLt.out; omega) (by have := hi.2.1; have := HLt.out; omega) (by have := hi.2.1; have := HLt.out; omega)))).2.2) (Kd.R_reads' HRl.out).2.1 HLl.out HAl.out.a.up).mono ?_; rintro e w22 ⟨rfl, hs, hb⟩; replace HT := Aside0.mk (HT.out.turnA (Nat.le_refl _) hs hb HAl.out.a.kb); clear hs hb))
        have FB := Aside0.mk (flush_up sb HAl.out.b.up HAl.out.b.wait)
        go_upto_region 19 with (go_at_call 16; refine (slab_flush' HT.out.b FB.out).mono ?_; rintro e w23 ⟨rfl, hs, hb⟩; replace HT := Aside0.mk (HT.out.turnB (Nat.le_refl _) (s2 := flS sb) hs hb HAl.out.b.kb); clear hs hb)
        go_upto_region 20 with (go_at_call 14; refine (slab_fail_up HT.out.b none 0 [] 3 1 (fun W' _ => Kd.C_nil _ _) (by decide) (by decide) HAl.out.b.up).mono ?_; rintro e w24 ⟨rfl, hs, hb⟩; replace HT := Aside0.mk (HT.out.turnB (Nat.le_refl _) hs hb HAl.out.b.kb); clear hs hb)
        go_upto_region 21 with (go_at_call 14; refine (slab_fail_up HT.out.c none 0 [] (-1) 5 (fun W' _ => Kd.C_nil _ _) (by decide) (by decide) HAl.out.c.up).mono ?_; rintro e w25 ⟨rfl, hs, hb⟩; replace HT := Aside0.mk (HT.out.turnC (Nat.le_refl _) hs hb HAl.out.c.kb); clear hs hb)
        go_upto_region 22 with (go_at_call 15; refine (slab_wake HT.out.a).mono ?_; rintro e w26 ⟨rfl, hs, hb⟩; replace HT := Aside0.mk (HT.out.turnA (Nat.le_refl _) hs hb HAl.out.a.kb); clear hs hb)
        go_upto_region 23 with (go_at_call 15; refine (slab_wake HT.out.b).mono ?_; rintro e w27 ⟨rfl, hs, hb⟩; replace HT := Aside0.mk (HT.out.turnB (Nat.le_refl _) hs hb HAl.out.b.kb); clear hs hb)
        go_upto_region 24 with (go_at_call 15; refine (slab_wake HT.out.c).mono ?_; rintro e w28 ⟨rfl, hs, hb⟩; replace HT := Aside0.mk (HT.out.turnC (Nat.le_refl _) hs hb HAl.out.c.kb); clear hs hb)
        have heq8 := fun W => eq8 W a1 a2 a3 a4 a5 a6 a7 a8 a1 a2 a3 a4 a5 a6 a7 a8 rfl
        have heq9 := fun W => eq8 W b1 b2 b3 b4 b5 b6 b7 b8 b1 b2 b3 b4 b5 b6 b7 b8 rfl
        replace HT := Aside0.mk (HT.out.below (below_drew1 (Below.refl w28.heap.size w28)))
        refine start_ (n := 12) (S := fun w' => w'.cell? ⟨gs, 0, none⟩ = some (.string b1) ∧ w'.cell? ⟨gs, 1, none⟩ = some (.string b2) ∧ w'.cell? ⟨gs, 2, none⟩ = some (.string b3) ∧ w'.cell? ⟨gs, 3, none⟩ = some (.string b4) ∧ w'.cell? ⟨gs, 4, none⟩ = some (.string b5) ∧ w'.cell? ⟨gs, 5, none⟩ = some (.string b6) ∧ w'.cell? ⟨gs, 6, none⟩ = some (.string b7) ∧ w'.cell? ⟨gs, 7, none⟩ = some (.string b8)) (ds := []) (bAg 12 0) (by kernel_rfl) rfl rfl ⟨(blk_cell HT.out.ar 0).trans rfl, (blk_cell HT.out.ar 1).trans rfl, (blk_cell HT.out.ar 2).trans rfl, (blk_cell HT.out.ar 3).trans rfl, (blk_cell HT.out.ar 4).trans rfl, (blk_cell HT.out.ar 5).trans rfl, (blk_cell HT.out.ar 6).trans rfl, (blk_cell HT.out.ar 7).trans rfl⟩ (fun hHeld => ?_); refine with_tabW all24.tab all24.bits (fun HT_ HW_ => ?_)
        refine pure_ (i := 0) (N := some 105) (v := ?_) (a' := ?_) (bAg 12 1) rfl rfl (any_of HT_.out (by kernel_rfl)) (fun _ _ _ h => h) (Or.inl ⟨by rfl, ?_⟩) ?_ ?_
        rotate_left
        · intro w'
          go_simp
          with_reducible rfl
        rotate_left
        · simp only [Act.put, sg1, sg2, sg3, i64_w, i32_w]
          rfl
        refine pure_ (i := 2) (N := some 107) (v := ?_) (a' := ?_) (bAg 12 5) rfl rfl (any_of HT_.out (by kernel_rfl)) (fun _ _ _ h => h) (Or.inl ⟨by rfl, ?_⟩) ?_ ?_
        rotate_left
        · intro w'
          go_simp
          with_reducible rfl
        rotate_left
        · simp only [Act.put, sg1, sg2, sg3, i64_w, i32_w]
          rfl
        refine one_ (i := 1) (N := some 106) (bAg 12 7) rfl rfl (one_of HT_.out (by kernel_rfl)) (by decide) (fun K hK => ?_)
        refine goes_ Try.func13 (by kernel_rfl) rfl #[.pointer (some ⟨ga, 0, none⟩)] (by rfl) rfl rfl (by (try simp only [List.map_toArray, List.map_cons, List.map_nil]); first | done | rfl) ?_
        refine (HEa.out _ HT.out.a).mono ?_
        rintro e w31 ⟨rfl, hb⟩
        refine ⟨_, rfl, ?_⟩
        replace HT := Aside0.mk (HT.out.below hb)
        clear hb
        refine hK.out _ _ ⟨(blk_cell HT.out.ar 0).trans rfl, (blk_cell HT.out.ar 1).trans rfl, (blk_cell HT.out.ar 2).trans rfl, (blk_cell HT.out.ar 3).trans rfl, (blk_cell HT.out.ar 4).trans rfl, (blk_cell HT.out.ar 5).trans rfl, (blk_cell HT.out.ar 6).trans rfl, (blk_cell HT.out.ar 7).trans rfl⟩ (fun hHeld => ?_)
        clear hK K
        refine norm_ (a' := ?_) ?_ ?_
        rotate_left
        · show Act.put _ (some 106) _ = _
          simp only [Act.put, sg1, sg2, sg3, i64_w, i32_w]
          rfl
        refine one_ (i := 3) (N := some 108) (bAg 12 15) rfl rfl (one_of HT_.out (by kernel_rfl)) (by decide) (fun K hK => ?_)
        refine goes_ Try.func13 (by kernel_rfl) rfl #[.pointer (some ⟨gb, 0, none⟩)] (by rfl) rfl rfl (by (try simp only [List.map_toArray, List.map_cons, List.map_nil]); first | done | rfl) ?_
        refine (HEb.out _ HT.out.b).mono ?_
        rintro e w32 ⟨rfl, hb⟩
        refine ⟨_, rfl, ?_⟩
        replace HT := Aside0.mk (HT.out.below hb)
        clear hb
        refine hK.out _ _ ⟨(blk_cell HT.out.ar 0).trans rfl, (blk_cell HT.out.ar 1).trans rfl, (blk_cell HT.out.ar 2).trans rfl, (blk_cell HT.out.ar 3).trans rfl, (blk_cell HT.out.ar 4).trans rfl, (blk_cell HT.out.ar 5).trans rfl, (blk_cell HT.out.ar 6).trans rfl, (blk_cell HT.out.ar 7).trans rfl⟩ (fun hHeld => ?_)
        clear hK K
        refine norm_ (a' := ?_) ?_ ?_
        rotate_left
        · show Act.put _ (some 108) _ = _
          simp only [Act.put, sg1, sg2, sg3, i64_w, i32_w]
          rfl
        refine pure_ (i := 4) (N := some 109) (v := ?_) (a' := ?_) (bAg 12 31) rfl rfl (any_of HT_.out (by kernel_rfl)) (fun _ _ _ h => h) (Or.inl ⟨by rfl, ?_⟩) ?_ ?_
        rotate_left
        · intro w'
          go_simp
          with_reducible rfl
        rotate_left
        · simp only [Act.put, sg1, sg2, sg3, i64_w, i32_w]
          rfl
        refine pure_ (i := 5) (N := some 110) (v := ?_) (a' := ?_) (bAg 12 63) rfl rfl (any_of HT_.out (by kernel_rfl)) (fun _ _ _ h => h) (Or.inl ⟨by rfl, ?_⟩) ?_ ?_
        rotate_left
        · intro w'
          go_simp
          with_reducible rfl
        rotate_left
        · simp only [Act.put, sg1, sg2, sg3, i64_w, i32_w]
          rfl
        refine pure_ (i := 6) (N := some 111) (v := ?_) (a' := ?_) (bAg 12 127) rfl rfl (any_of HT_.out (by kernel_rfl)) (fun _ _ _ h => h) (Or.inl ⟨by rfl, ?_⟩) ?_ ?_
        rotate_left
        · intro w'
          go_simp
          with_reducible rfl
        rotate_left
        · simp only [Act.put, sg1, sg2, sg3, i64_w, i32_w]
          rfl
        refine take_ (i := 8) (N := some 113) (v := ?_) (a' := ?_) (bAg 12 383) rfl rfl (take_ofW HT_.out HW_.out (by kernel_rfl)) (fun _ _ _ h => h) (Or.inl ⟨by rfl, ?_⟩) hHeld ?_ ?_
        rotate_left
        · rintro w' ⟨s0, s1, s2, s3, s4, s5, s6, s7⟩
          go_simp
          with_reducible rfl
        rotate_left
        · simp only [Act.put, sg1, sg2, sg3, i64_w, i32_w]
          rfl
        refine one_ (i := 7) (N := some 112) (bAg 12 511) rfl rfl (one_of HT_.out (by kernel_rfl)) (by decide) (fun K hK => ?_)
        refine goes_ Try.func13 (by kernel_rfl) rfl #[.pointer (some ⟨gc, 0, none⟩)] (by rfl) rfl rfl (by (try simp only [List.map_toArray, List.map_cons, List.map_nil]); first | done | rfl) ?_
        refine (HEc.out _ HT.out.c).mono ?_
        rintro e w33 ⟨rfl, hb⟩
        refine ⟨_, rfl, ?_⟩
        replace HT := Aside0.mk (HT.out.below hb)
        clear hb
        refine hK.out _ _ ⟨(blk_cell HT.out.ar 0).trans rfl, (blk_cell HT.out.ar 1).trans rfl, (blk_cell HT.out.ar 2).trans rfl, (blk_cell HT.out.ar 3).trans rfl, (blk_cell HT.out.ar 4).trans rfl, (blk_cell HT.out.ar 5).trans rfl, (blk_cell HT.out.ar 6).trans rfl, (blk_cell HT.out.ar 7).trans rfl⟩ (fun hHeld => ?_)
        clear hK K
        refine norm_ (a' := ?_) ?_ ?_
        rotate_left
        · show Act.put _ (some 112) _ = _
          simp only [Act.put, sg1, sg2, sg3, i64_w, i32_w]
          rfl
        refine pure_ (i := 9) (N := some 114) (v := ?_) (a' := ?_) (bAg 12 1023) rfl rfl (any_of HT_.out (by kernel_rfl)) (fun _ _ _ h => h) (Or.inl ⟨by rfl, ?_⟩) ?_ ?_
        rotate_left
        · intro w'
          go_simp
          with_reducible rfl
        rotate_left
        · simp only [Act.put, sg1, sg2, sg3, i64_w, i32_w]
          rfl
        refine pure_ (i := 10) (N := some 115) (v := ?_) (a' := ?_) (bAg 12 2047) rfl rfl (any_of HT_.out (by kernel_rfl)) (fun _ _ _ h => h) (Or.inl ⟨by rfl, ?_⟩) ?_ ?_
        rotate_left
        · intro w'
          go_simp
          with_reducible rfl
        rotate_left
        · simp only [Act.put, sg1, sg2, sg3, i64_w, i32_w]
          rfl
        refine pure_ (i := 11) (N := some 2) (v := ?_) (a' := ?_) (bAg 12 4095) rfl rfl (any_of HT_.out (by kernel_rfl)) (fun _ _ _ h => h) (Or.inl ⟨by rfl, ?_⟩) ?_ ?_
        rotate_left
        · intro w'
          go_simp
          with_reducible rfl
        rotate_left
        · simp only [Act.put, sg1, sg2, sg3, i64_w, i32_w]
          rfl
        refine done_ (done_of HT_.out (by kernel_rfl)) ?_
        clear hHeld HT_ HW_
        go_wp2_with fail
        go_ret
        exact ⟨rfl, HT.out.a.bel⟩

def splicelaw07_SlabAll.f (l0 : List S38) : Option Bool := some true
theorem splicelaw07_SlabAll.calls (A0 : Option Addr) (c0 : Nat) (l0 : List S38) (r : Bool) (w : World) (hr0 : Kd.C k38 w A0 l0.length l0) (hc0 : l0.length ≤ c0) (h : splicelaw07_SlabAll.f l0 = some r) (hr_ : r = true) :
    Calls Try.prog 6 #[.slice A0 l0.length c0] w fun e w' => e = .returned (.bool r) ∧ Below w.heap.size w w' := by
  subst hr_
  exact all_walk A0 c0 l0 w hr0

def wf33 (x : S33) : Prop := (x.f0.length * 8 ≤ 140737488351232 ∧ x.f0.length ≤ maxLen ∧ ∀ y0 ∈ x.f0, (Lit.int .i64 y0).wf = true) ∧ (Lit.int .i64 x.f1).wf = true ∧ (Lit.int .i64 x.f2).wf = true
theorem op33 : Go.Proofs.Ytdenfndpggfgmaa.Op.Op Try.prog k33 33 wf33 := op_mono (op_iso (op_struct Try.underlying33 (by kernel_rfl) (opfs_cons (op_slice Try.underlying27 (by kernel_rfl) (show Try.prog.bytesOf 3 = 8 by kernel_rfl) (op_int Try.underlying3 (by kernel_rfl)) (by decide)) rfl (opfs_cons (op_int Try.underlying3 (by kernel_rfl)) rfl (opfs_last (op_int Try.underlying3 (by kernel_rfl)) rfl)))) (fun x : S33 => (x.f0, x.f1, x.f2)) (fun y => ⟨y.1, y.2.1, y.2.2⟩) (fun _ => rfl)) (fun _ h => h)

def wf38 (x : S38) : Prop := (Lit.int .i64 x.f0).wf = true ∧ (Lit.int .i64 x.f1).wf = true ∧ x.f2.size ≤ 140737488351232 ∧ wf33 x.f3
theorem op38 : Go.Proofs.Ytdenfndpggfgmaa.Op.Op Try.prog k38 38 wf38 := op_mono (op_iso (op_struct Try.underlying38 (by kernel_rfl) (opfs_cons (op_int Try.underlying3 (by kernel_rfl)) rfl (opfs_cons (op_int Try.underlying3 (by kernel_rfl)) rfl (opfs_cons (op_string Try.underlying9 (by kernel_rfl)) rfl (opfs_last op33 rfl))))) (fun x : S38 => (x.f0, x.f1, x.f2, x.f3)) (fun y => ⟨y.1, y.2.1, y.2.2.1, y.2.2.2⟩) (fun _ => rfl)) (fun _ h => h)


/-! ### splicelaw07_SlabAll: function 6 -/
/-- THE ONE PURE STATEMENT of splicelaw07_SlabAll: yours. -/
def splicelaw07_SlabAll.Pure : Prop := ∀ (x0 : List (S38)), (x0.length * 72 ≤ 140737488351232 ∧ x0.length ≤ maxLen ∧ ∀ y0 ∈ x0, wf38 y0) → splicelaw07_SlabAll.f x0 = some true

end Go.Proofs.Ytdenfndpggfgmaa.PC
