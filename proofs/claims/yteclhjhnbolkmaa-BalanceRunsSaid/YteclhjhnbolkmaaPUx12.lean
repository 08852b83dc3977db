-- written by a program of this session
import Derived.Test.YteclhjhnbolkmaaPUx0
import Derived.Test.YteclhjhnbolkmaaPUx3
import Derived.Test.YteclhjhnbolkmaaPUx5
import Derived.Test.YteclhjhnbolkmaaPUx6
import Derived.Test.YteclhjhnbolkmaaPUx9
import Derived.Test.YteclhjhnbolkmaaPUx10
import Derived.Test.YteclhjhnbolkmaaPUx11
namespace Go.Proofs.Yteclhjhnbolkmaa.PU
open Go.RowKit Go.Proofs.Yteclhjhnbolkmaa.Op Go.Proofs.YteclhjhnbolkmaaW.PrintWords Go.Proofs.YteclhjhnbolkmaaW.PrintLast Go.Proofs.YteclhjhnbolkmaaW.PrintMore
attribute [local go_sem] max2_int min2_int max_two min_two max_three min_three max_four min_four   -- for this text's walks alone
set_option linter.unusedVariables false
set_option linter.unusedSimpArgs false

/-! ### splicelaw25_BalanceRuns: function 7 (by hand) -/
def runsL (k : Nat) (l3 : List (S70)) (x4 x5 x6 x7 most re ra rb : Int) (rL : List (S67)) (rd : List (S54)) : Nat → Nat → Int → Int → List (S67) → Option Bool
  | 0, _, _, _, _ => none
  | q + 1, i, ep, nx, L => (balance_Suggest.f k ep nx L l3 x4 x5 x6 x7).bind fun r => if r.2.2.2.2 = 0 then
      (if r.2.2.2.1 = true ∧ (i : Int) < most then (if i ≤ 1000 ∧ (re ≠ 0 ∨ (i < rd.length ∧ (rd_T54 rd (i : Int)).f0 = r.1 ∧ (rd_T54 rd (i : Int)).f1 = r.2.1 ∧ (rd_T54 rd (i : Int)).f2 = r.2.2.1)) then (chart_Apply.f k ep nx L r.1 r.2.1 r.2.2.1).bind fun t => if t.2.2.2.2.2 = 0 then runsL k l3 x4 x5 x6 x7 most re ra rb rL rd q (i + 1) t.1 t.2.1 t.2.2.1 else none else none)
       else (splicelaw25_awake.f k).bind fun a => (splicelaw08_Ref.f k ra rb rL).bind fun u => (splicelaw08_Ref.f k ep nx L).bind fun v => (spliceref08_Same.f k u.1 u.2.1 u.2.2 v.1 v.2.1 v.2.2).bind fun s => if a = true ∧ re = 0 ∧ rd.length = i ∧ s = true then some true else none)
      else (splicelaw25_awake.f k).bind fun a => if a = true ∧ re = r.2.2.2.2 ∧ rd.length = 0 ∧ rL.length = 0 then some true else none
def splicelaw25_BalanceRuns.f (k : Nat) (x0 x1 : Int) (l2 : List (S67)) (l3 : List (S70)) (x4 x5 x6 x7 most : Int) : Option Bool :=
  if (l2.length : Int) ≤ 60 ∧ (l3.length : Int) ≤ 60 ∧ most ≤ 30 then (balance_Run.f k x0 x1 l2 l3 x4 x5 x6 x7 most).bind fun r => runsL k l3 x4 x5 x6 x7 most r.2.2.2.2 r.1 r.2.1 r.2.2.1 r.2.2.2.1 k 0 x0 x1 l2 else splicelaw25_awake.f k
/-- a row that is read: the input's own, or one of the call's own -/
def RowC (w W : World) (ns : List Nat) (A : Option Addr) (c : Nat) (L : List (S67)) : Prop := (Kd.C k67 w A L.length L ∧ L.length ≤ c) ∨ Kd.R k67 67 W w.heap.size (Off ns) (.slice A L.length c) L
section
variable {w W W' : World} {ns : List Nat} {A : Option Addr} {c : Nat} {L : List (S67)}
theorem RowC.reads (h : RowC w W ns A c L) (hb : Below w.heap.size w W) : Kd.C k67 W A L.length L ∧ L.length ≤ c := by
  rcases h with h | h
  · exact ⟨Kd.C_below h.1 hb, h.2⟩
  · exact ⟨(Kd.R_reads' h).2.2, (Kd.R_reads' h).2.1⟩
theorem RowC.below (h : RowC w W ns A c L) (hb : Below W.heap.size W W') : RowC w W' ns A c L := h.elim Or.inl (fun h => Or.inr (Kd.R_below h hb))
theorem RowC.push (h : RowC w W ns A c L) {g : Nat} (hg : g = W.heap.size) (hb : Below W.heap.size W W') : RowC w W' (ns ++ [g]) A c L := h.elim Or.inl (fun h => Or.inr (R_pushB h hg hb))
theorem RowC.set (h : RowC w W ns A c L) {g : Nat} (hg : g ∈ ns) (j : Nat) (u : Value) : RowC w (W.setCell ⟨g, j, none⟩ u) ns A c L := h.elim Or.inl (fun h => Or.inr (R_setB h hg j u))
theorem RowC.off (h : RowC w W ns A c L) (ns' : List Nat) (hs : ∀ n ∈ ns', n ∈ ns) : RowC w W ns' A c L := h.elim Or.inl (fun h => Or.inr (R_offB h ns' hs))
end
def runs11.T : Bool × List (List Nat × List Nat) := (true, [([], []), ([0, 0], [0]), ([1], [1]), ([2, 1], [1, 2]), ([1, 3], [1, 3]), ([4, 1], [4]), ([5], [5]), ([6, 5], [5, 6]), ([5], [5]), ([7, 8, 5], [5, 7, 8]), ([5, 9], [5, 9]), ([10, 5], [10]), ([11], [11]), ([12, 11, 11], [11, 12]), ([11], [11]), ([14, 13, 11], [11, 14]), ([13, 15, 15, 11], [11, 13, 15]), ([11, 16], [11, 16]), ([17, 16, 0, 1, 2, 3, 4, 5, 6, 7, 8, 9, 10, 11, 12, 13, 14, 15, 16, 17], [17])])
def runs11.B : List Nat := [0, 1, 3, 7, 15, 31, 63, 127, 63, 511, 1023, 2047, 4095, 8191, 4095, 32767, 65535, 131071, 262143]
theorem runs11.tab : rtab .any (opsOf Try.f7 11) = runs11.T := by kernel_rfl
theorem runs11.bits : waitsOk runs11.T.2 runs11.B = true := by kernel_rfl
def runs12.T : Bool × List (List Nat × List Nat) := (true, [([], []), ([0], [0]), ([1], [1]), ([2], [2]), ([2], [2]), ([4, 2], [2, 4]), ([3, 5, 2], [2, 3, 5]), ([6, 2, 2], [2, 6]), ([7], [7]), ([7], [7]), ([8, 9, 7], [7, 8, 9]), ([10, 7], [7, 10]), ([7], [7]), ([11, 12, 7], [7, 11, 12]), ([7, 13, 2], [2, 7, 13]), ([2, 14], [2, 14])])
def runs12.B : List Nat := [0, 1, 3, 7, 7, 23, 63, 127, 255, 255, 1023, 2047, 255, 8191, 16383, 32767]
theorem runs12.tab : rtab .any (opsOf Try.f7 12) = runs12.T := by kernel_rfl
theorem runs12.bits : waitsOk runs12.T.2 runs12.B = true := by kernel_rfl
theorem eqChg (d : Nat) (w : World) (a b c : Int) : (Op.equalIn (d + 2) 54 (.agg #[.int .i64 a, .int .i64 b, .int .i64 c]) (.agg #[.int .i64 a, .int .i64 b, .int .i64 c])).run Try.prog w = .ok true w := by
  have h : (Op.equalIn (d + 2) 54 (.agg #[.int .i64 a, .int .i64 b, .int .i64 c]) (.agg #[.int .i64 a, .int .i64 b, .int .i64 c])).run Try.prog w = .ok ((a == a) && ((b == b) && (c == c))) w := by
    refine eqA_of Try.underlying54 (by kernel_rfl) ?_
    refine eqf_cons (by rfl) (by go_simp; rfl) (by go_simp; rfl) (by go_simp) ?_
    refine eqf_cons (by rfl) (by go_simp; rfl) (by go_simp; rfl) (by go_simp) ?_
    exact eqf_last (by rfl) (by go_simp; rfl) (by go_simp; rfl) (by go_simp)
  rw [h]; simp
set_option maxHeartbeats 16000000 in
set_option maxRecDepth 100000 in
theorem runs_walk (k : Nat) (x0 x1 : Int) (A2 : Option Addr) (c2 : Nat) (l2 : List (S67)) (A3 : Option Addr) (c3 : Nat) (l3 : List (S70)) (x4 x5 x6 x7 most : Int) (w : World) (hr2 : Kd.C k67 w A2 l2.length l2) (hc2 : l2.length ≤ c2) (hr3 : Kd.C k70 w A3 l3.length l3) (hc3 : l3.length ≤ c3) (hf : (l2.length : Int) ≤ 60 ∧ (l3.length : Int) ≤ 60 ∧ most ≤ 30)
    (ra rb re : Int) (rL : List (S67)) (rd : List (S54)) (hrun : balance_Run.f k x0 x1 l2 l3 x4 x5 x6 x7 most = some (ra, rb, rL, rd, re)) (hl : runsL k l3 x4 x5 x6 x7 most re ra rb rL rd k 0 x0 x1 l2 = some true) :
    Calls Try.prog 7 #[.agg #[.int .i64 x0, .int .i64 x1, .slice A2 l2.length c2, .slice A3 l3.length c3, .int .i64 x4, .int .i64 x5, .int .i64 x6, .int .i64 x7], .int .i64 most] w fun e w' => e = .returned (.bool true) ∧ Below w.heap.size w w' := by
  have HR2 := Aside0.mk (And.intro hr2 hc2)
  have HR3 := Aside0.mk (And.intro hr3 hc3)
  have HRun := Aside0.mk hrun
  have HG := Aside0.mk hl
  have HFw := Aside0.mk (show splicelaw25_few.f x0 x1 l2 l3 x4 x5 x6 x7 = some true from by unfold splicelaw25_few.f; rw [if_pos hf.1, decide_eq_true hf.2.1])
  have q0 : decide (most > 30) = false := decide_eq_false (by omega)
  have q1 : decide ((30 : Int) < most) = false := decide_eq_false (by omega)
  clear hr2 hc2 hr3 hc3 hrun hl hf
  have HB := Aside0.mk ((Bx.start w).push #[.int .i64 x0, .int .i64 x1, .slice A2 l2.length c2, .slice A3 l3.length c3, .int .i64 x4, .int .i64 x5, .int .i64 x6, .int .i64 x7] 29)
  go_enter Try.func7, Try.ntmps7
  go_upto_region 1 with (fail)
  simp only [List.nil_append] at HB
  generalize w.alloc (.cells #[.int .i64 x0, .int .i64 x1, .slice A2 l2.length c2, .slice A3 l3.length c3, .int .i64 x4, .int .i64 x5, .int .i64 x6, .int .i64 x7] 29) = w2 at HB ⊢
  obtain ⟨b2, hb2⟩ : ∃ b2, b2 = w.heap.size := ⟨_, rfl⟩
  rw [← hb2] at HB
  try rw [← hb2]
  clear hb2
  have y0 : World.cell? w2 ⟨b2, 0, none⟩ = some (.int .i64 x0) := (blk_cell (HB.out.get 0 rfl) 0).trans rfl
  have y1 : World.cell? w2 ⟨b2, 1, none⟩ = some (.int .i64 x1) := (blk_cell (HB.out.get 0 rfl) 1).trans rfl
  have y2 : World.cell? w2 ⟨b2, 2, none⟩ = some (.slice A2 l2.length c2) := (blk_cell (HB.out.get 0 rfl) 2).trans rfl
  have y3 : World.cell? w2 ⟨b2, 3, none⟩ = some (.slice A3 l3.length c3) := (blk_cell (HB.out.get 0 rfl) 3).trans rfl
  have y4 : World.cell? w2 ⟨b2, 4, none⟩ = some (.int .i64 x4) := (blk_cell (HB.out.get 0 rfl) 4).trans rfl
  have y5 : World.cell? w2 ⟨b2, 5, none⟩ = some (.int .i64 x5) := (blk_cell (HB.out.get 0 rfl) 5).trans rfl
  have y6 : World.cell? w2 ⟨b2, 6, none⟩ = some (.int .i64 x6) := (blk_cell (HB.out.get 0 rfl) 6).trans rfl
  have y7 : World.cell? w2 ⟨b2, 7, none⟩ = some (.int .i64 x7) := (blk_cell (HB.out.get 0 rfl) 7).trans rfl
  have yv0 : World.cell? w2 ⟨b2, 4 + 1, none⟩ = some (.int .i64 x5) := y5
  have yv1 : World.cell? w2 ⟨b2, 4 + 2, none⟩ = some (.int .i64 x6) := y6
  have yv2 : World.cell? w2 ⟨b2, 1 + 2, none⟩ = some (.slice A3 l3.length c3) := y3
  have yv3 : World.cell? w2 ⟨b2, 2 + 1, none⟩ = some (.slice A3 l3.length c3) := y3
  have yv4 : World.cell? w2 ⟨b2, 3 + 1, none⟩ = some (.int .i64 x4) := y4
  have yv5 : World.cell? w2 ⟨b2, 3 + 2, none⟩ = some (.int .i64 x5) := y5
  have yv6 : World.cell? w2 ⟨b2, 3 + 3, none⟩ = some (.int .i64 x6) := y6
  go_upto_region 3 with (go_at_call 8; refine (splicelaw25_few.calls x0 x1 A2 c2 l2 A3 c3 l3 x4 x5 x6 x7 true _ (Kd.C_below HR2.out.1 HB.out.bel) HR2.out.2 (Kd.C_below HR3.out.1 HB.out.bel) HR3.out.2 HFw.out).mono ?_; rintro e w3 ⟨rfl, hb⟩; replace HB := Aside0.mk (HB.out.below hb); clear hb; clear y0 y1 y2 y3 y4 y5 y6 y7 yv0 yv1 yv2 yv3 yv4 yv5 yv6; have y0 : World.cell? w3 ⟨b2, 0, none⟩ = some (.int .i64 x0) := (blk_cell (HB.out.get 0 rfl) 0).trans rfl; have y1 : World.cell? w3 ⟨b2, 1, none⟩ = some (.int .i64 x1) := (blk_cell (HB.out.get 0 rfl) 1).trans rfl; have y2 : World.cell? w3 ⟨b2, 2, none⟩ = some (.slice A2 l2.length c2) := (blk_cell (HB.out.get 0 rfl) 2).trans rfl; have y3 : World.cell? w3 ⟨b2, 3, none⟩ = some (.slice A3 l3.length c3) := (blk_cell (HB.out.get 0 rfl) 3).trans rfl; have y4 : World.cell? w3 ⟨b2, 4, none⟩ = some (.int .i64 x4) := (blk_cell (HB.out.get 0 rfl) 4).trans rfl; have y5 : World.cell? w3 ⟨b2, 5, none⟩ = some (.int .i64 x5) := (blk_cell (HB.out.get 0 rfl) 5).trans rfl; have y6 : World.cell? w3 ⟨b2, 6, none⟩ = some (.int .i64 x6) := (blk_cell (HB.out.get 0 rfl) 6).trans rfl; have y7 : World.cell? w3 ⟨b2, 7, none⟩ = some (.int .i64 x7) := (blk_cell (HB.out.get 0 rfl) 7).trans rfl; have yv0 : World.cell? w3 ⟨b2, 4 + 1, none⟩ = some (.int .i64 x5) := y5; have yv1 : World.cell? w3 ⟨b2, 4 + 2, none⟩ = some (.int .i64 x6) := y6; have yv2 : World.cell? w3 ⟨b2, 1 + 2, none⟩ = some (.slice A3 l3.length c3) := y3; have yv3 : World.cell? w3 ⟨b2, 2 + 1, none⟩ = some (.slice A3 l3.length c3) := y3; have yv4 : World.cell? w3 ⟨b2, 3 + 1, none⟩ = some (.int .i64 x4) := y4; have yv5 : World.cell? w3 ⟨b2, 3 + 2, none⟩ = some (.int .i64 x5) := y5; have yv6 : World.cell? w3 ⟨b2, 3 + 3, none⟩ = some (.int .i64 x6) := y6)
  clear q0 q1
  go_upto_region 4 with (go_at_call 29; refine (balance_Run.calls k x0 x1 A2 c2 l2 A3 c3 l3 x4 x5 x6 x7 most ra rb rL rd re _ (Kd.C_below HR2.out.1 HB.out.bel) HR2.out.2 (Kd.C_below HR3.out.1 HB.out.bel) HR3.out.2 HRun.out).mono ?_; rintro e w4 ⟨v2, v3, rfl, hA, hB9, hb⟩; obtain ⟨Ar, cr, rfl⟩ := Kd.R_slice hA; obtain ⟨Ad, cd, rfl⟩ := Kd.R_slice hB9; have HL := Aside0.mk (R_newB (ns := [b2]) HB.out rfl hA); have HD := Aside0.mk (R_newB (ns := [b2]) HB.out rfl hB9); replace HB := Aside0.mk (HB.out.below hb); clear hb hA hB9; clear y0 y1 y2 y3 y4 y5 y6 y7 yv0 yv1 yv2 yv3 yv4 yv5 yv6)
  replace HL := Aside0.mk (R_pushB HL.out (g := w4.heap.size) rfl (below_alloc (Below.refl _ _) (.cells #[.int .i64 ra, .int .i64 rb, .slice Ar rL.length cr] 24)))
  replace HD := Aside0.mk (R_pushB HD.out (g := w4.heap.size) rfl (below_alloc (Below.refl _ _) (.cells #[.int .i64 ra, .int .i64 rb, .slice Ar rL.length cr] 24)))
  replace HB := Aside0.mk (HB.out.push #[.int .i64 ra, .int .i64 rb, .slice Ar rL.length cr] 24)
  simp only [List.nil_append, List.cons_append] at HB HL HD
  generalize w4.alloc (.cells #[.int .i64 ra, .int .i64 rb, .slice Ar rL.length cr] 24) = w5 at HB HL HD ⊢
  generalize w4.heap.size = b5 at HB HL HD ⊢
  have y0 : World.cell? w5 ⟨b2, 0, none⟩ = some (.int .i64 x0) := (blk_cell (HB.out.get 0 rfl) 0).trans rfl
  have y1 : World.cell? w5 ⟨b2, 1, none⟩ = some (.int .i64 x1) := (blk_cell (HB.out.get 0 rfl) 1).trans rfl
  have y2 : World.cell? w5 ⟨b2, 2, none⟩ = some (.slice A2 l2.length c2) := (blk_cell (HB.out.get 0 rfl) 2).trans rfl
  have y3 : World.cell? w5 ⟨b2, 3, none⟩ = some (.slice A3 l3.length c3) := (blk_cell (HB.out.get 0 rfl) 3).trans rfl
  have y4 : World.cell? w5 ⟨b2, 4, none⟩ = some (.int .i64 x4) := (blk_cell (HB.out.get 0 rfl) 4).trans rfl
  have y5 : World.cell? w5 ⟨b2, 5, none⟩ = some (.int .i64 x5) := (blk_cell (HB.out.get 0 rfl) 5).trans rfl
  have y6 : World.cell? w5 ⟨b2, 6, none⟩ = some (.int .i64 x6) := (blk_cell (HB.out.get 0 rfl) 6).trans rfl
  have y7 : World.cell? w5 ⟨b2, 7, none⟩ = some (.int .i64 x7) := (blk_cell (HB.out.get 0 rfl) 7).trans rfl
  have yv0 : World.cell? w5 ⟨b2, 4 + 1, none⟩ = some (.int .i64 x5) := y5
  have yv1 : World.cell? w5 ⟨b2, 4 + 2, none⟩ = some (.int .i64 x6) := y6
  have yv2 : World.cell? w5 ⟨b2, 1 + 2, none⟩ = some (.slice A3 l3.length c3) := y3
  have yv3 : World.cell? w5 ⟨b2, 2 + 1, none⟩ = some (.slice A3 l3.length c3) := y3
  have yv4 : World.cell? w5 ⟨b2, 3 + 1, none⟩ = some (.int .i64 x4) := y4
  have yv5 : World.cell? w5 ⟨b2, 3 + 2, none⟩ = some (.int .i64 x5) := y5
  have yv6 : World.cell? w5 ⟨b2, 3 + 3, none⟩ = some (.int .i64 x6) := y6
  go_upto_region 5 with (fail)
  clear y0 y1 y2 y3 y4 y5 y6 y7 yv0 yv1 yv2 yv3 yv4 yv5 yv6
  replace HL := Aside0.mk (R_pushB HL.out (g := w5.heap.size) rfl (below_alloc (Below.refl _ _) (.cells #[.int .i64 x0, .int .i64 x1, .slice A2 l2.length c2] 24)))
  replace HD := Aside0.mk (R_pushB HD.out (g := w5.heap.size) rfl (below_alloc (Below.refl _ _) (.cells #[.int .i64 x0, .int .i64 x1, .slice A2 l2.length c2] 24)))
  replace HB := Aside0.mk (HB.out.push #[.int .i64 x0, .int .i64 x1, .slice A2 l2.length c2] 24)
  simp only [List.nil_append, List.cons_append] at HB HL HD
  generalize w5.alloc (.cells #[.int .i64 x0, .int .i64 x1, .slice A2 l2.length c2] 24) = w6 at HB HL HD ⊢
  generalize w5.heap.size = b8 at HB HL HD ⊢
  have HC : Aside0 (RowC w w6 [b2, b5, b8] A2 c2 l2) := ⟨Or.inl HR2.out⟩
  go_wp2
  go_loopg [9] k (fun kq v9 W => ∃ (i : Nat) (ep nx : Int) (Ac : Option Addr) (cc : Nat) (L : List (S67)), v9 = .int .i64 i ∧ Aside0 (runsL k l3 x4 x5 x6 x7 most re ra rb rL rd kq i ep nx L = some true) ∧ Aside0 (kq ≤ k) ∧ Aside0 (Bx w W [(b2, #[.int .i64 x0, .int .i64 x1, .slice A2 l2.length c2, .slice A3 l3.length c3, .int .i64 x4, .int .i64 x5, .int .i64 x6, .int .i64 x7], 29), (b5, #[.int .i64 ra, .int .i64 rb, .slice Ar rL.length cr], 24), (b8, #[.int .i64 ep, .int .i64 nx, .slice Ac L.length cc], 24)]) ∧ Aside0 (Kd.R k67 67 W w.heap.size (Off [b2, b5, b8]) (.slice Ar rL.length cr) rL) ∧ Aside0 (Kd.R k54 54 W w.heap.size (Off [b2, b5, b8]) (.slice Ad rd.length cd) rd) ∧ Aside0 (RowC w W [b2, b5, b8] Ac cc L))
  case atStart => exact ⟨0, _, _, _, _, _, rfl, HG, ⟨Nat.le_refl _⟩, HB, HL, HD, HC⟩
  case round =>
    clear HB HL HD HC HG
    obtain ⟨i, ep, nx, Ac, cc, L, rfl, HG, HK, HB, HL, HD, HC⟩ := hrel
    cases gk with
    | zero => exact absurd HG.out (by simp [runsL])
    | succ q =>
      have hg := HG.out
      rw [runsL] at hg
      obtain ⟨⟨kd, id, at_, some_, er⟩, hS, hg⟩ := Option.bind_eq_some_iff.1 hg
      dsimp only at hg
      have HS := Aside0.mk hS
      clear hS HG
      have g0 : World.cell? wr ⟨b8, 0, none⟩ = some (.int .i64 ep) := (blk_cell (HB.out.get 2 rfl) 0).trans rfl
      have g1 : World.cell? wr ⟨b8, 1, none⟩ = some (.int .i64 nx) := (blk_cell (HB.out.get 2 rfl) 1).trans rfl
      have g2 : World.cell? wr ⟨b8, 2, none⟩ = some (.slice Ac L.length cc) := (blk_cell (HB.out.get 2 rfl) 2).trans rfl
      have y0 : World.cell? wr ⟨b2, 0, none⟩ = some (.int .i64 x0) := (blk_cell (HB.out.get 0 rfl) 0).trans rfl
      have y1 : World.cell? wr ⟨b2, 1, none⟩ = some (.int .i64 x1) := (blk_cell (HB.out.get 0 rfl) 1).trans rfl
      have y2 : World.cell? wr ⟨b2, 2, none⟩ = some (.slice A2 l2.length c2) := (blk_cell (HB.out.get 0 rfl) 2).trans rfl
      have y3 : World.cell? wr ⟨b2, 3, none⟩ = some (.slice A3 l3.length c3) := (blk_cell (HB.out.get 0 rfl) 3).trans rfl
      have y4 : World.cell? wr ⟨b2, 4, none⟩ = some (.int .i64 x4) := (blk_cell (HB.out.get 0 rfl) 4).trans rfl
      have y5 : World.cell? wr ⟨b2, 5, none⟩ = some (.int .i64 x5) := (blk_cell (HB.out.get 0 rfl) 5).trans rfl
      have y6 : World.cell? wr ⟨b2, 6, none⟩ = some (.int .i64 x6) := (blk_cell (HB.out.get 0 rfl) 6).trans rfl
      have y7 : World.cell? wr ⟨b2, 7, none⟩ = some (.int .i64 x7) := (blk_cell (HB.out.get 0 rfl) 7).trans rfl
      have yv0 : World.cell? wr ⟨b2, 4 + 1, none⟩ = some (.int .i64 x5) := y5
      have yv1 : World.cell? wr ⟨b2, 4 + 2, none⟩ = some (.int .i64 x6) := y6
      have yv2 : World.cell? wr ⟨b2, 1 + 2, none⟩ = some (.slice A3 l3.length c3) := y3
      have yv3 : World.cell? wr ⟨b2, 2 + 1, none⟩ = some (.slice A3 l3.length c3) := y3
      have yv4 : World.cell? wr ⟨b2, 3 + 1, none⟩ = some (.int .i64 x4) := y4
      have yv5 : World.cell? wr ⟨b2, 3 + 2, none⟩ = some (.int .i64 x5) := y5
      have yv6 : World.cell? wr ⟨b2, 3 + 3, none⟩ = some (.int .i64 x6) := y6
      go_upto_region 8 with (go_at_call 23; have hrc := HC.out.reads HB.out.bel; refine (balance_Suggest.calls k ep nx Ac cc L A3 c3 l3 x4 x5 x6 x7 _ _ _ _ _ _ hrc.1 hrc.2 (Kd.C_below HR3.out.1 HB.out.bel) HR3.out.2 HS.out).mono ?_; rintro e w3 ⟨rfl, hb⟩; replace HB := Aside0.mk (HB.out.below hb); replace HL := Aside0.mk (Kd.R_below HL.out hb); replace HD := Aside0.mk (Kd.R_below HD.out hb); replace HC := Aside0.mk (HC.out.below hb); clear hb; clear hrc)
      clear g0 g1 g2
      clear y0 y1 y2 y3 y4 y5 y6 y7 yv0 yv1 yv2 yv3 yv4 yv5 yv6
      replace HL := Aside0.mk (R_pushB HL.out (g := w3.heap.size) rfl (below_alloc (Below.refl _ _) (.cells #[.int .i64 kd, .int .i64 id, .int .i64 at_] 54)))
      replace HD := Aside0.mk (R_pushB HD.out (g := w3.heap.size) rfl (below_alloc (Below.refl _ _) (.cells #[.int .i64 kd, .int .i64 id, .int .i64 at_] 54)))
      replace HC := Aside0.mk (HC.out.push rfl (below_alloc (Below.refl _ _) (.cells #[.int .i64 kd, .int .i64 id, .int .i64 at_] 54)))
      replace HB := Aside0.mk (HB.out.push #[.int .i64 kd, .int .i64 id, .int .i64 at_] 54)
      simp only [List.nil_append, List.cons_append] at HB HL HD HC
      generalize w3.alloc (.cells #[.int .i64 kd, .int .i64 id, .int .i64 at_] 54) = w4 at HB HL HD HC ⊢
      generalize w3.heap.size = b10 at HB HL HD HC ⊢
      by_cases he : er = 0
      case neg =>
        rw [if_neg he] at hg
        obtain ⟨aw, hA, hg⟩ := Option.bind_eq_some_iff.1 hg
        split at hg
        case isFalse => exact absurd hg (by simp)
        rename_i hc
        obtain ⟨rfl, rfl, hd0, hl0⟩ := hc
        have HAw := Aside0.mk hA
        have q1 : (re != 0) = true := bne_iff_ne.mpr he
        have q2 : (re == 0) = false := beq_eq_false_iff_ne.mpr he
        have q3 : decide (re = 0) = false := decide_eq_false he
        rw [hd0] at HD
        have HDl := Aside0.mk hd0
        have HLl := Aside0.mk hl0
        have e1 : ((rd.length : Int) == 0) = true := by rw [hd0]; rfl
        have e2 : ((rL.length : Int) == 0) = true := by rw [hl0]; rfl
        have e3 : rd.length = 0 := hd0
        have e4 : rL.length = 0 := hl0
        clear he hA hg hd0 hl0
        have z0 : World.cell? w4 ⟨b5, 0, none⟩ = some (.int .i64 ra) := (blk_cell (HB.out.get 1 rfl) 0).trans rfl
        have z1 : World.cell? w4 ⟨b5, 1, none⟩ = some (.int .i64 rb) := (blk_cell (HB.out.get 1 rfl) 1).trans rfl
        have z2 : World.cell? w4 ⟨b5, 2, none⟩ = some (.slice Ar rL.length cr) := (blk_cell (HB.out.get 1 rfl) 2).trans rfl
        go_wp2_with (go_at_call 9; refine (splicelaw25_awake.calls k true _ HAw.out rfl).mono ?_; rintro e w9 ⟨rfl, hb⟩; replace HB := Aside0.mk (HB.out.below hb); clear hb; clear z0 z1 z2; have z0 : World.cell? w9 ⟨b5, 0, none⟩ = some (.int .i64 ra) := (blk_cell (HB.out.get 1 rfl) 0).trans rfl; have z1 : World.cell? w9 ⟨b5, 1, none⟩ = some (.int .i64 rb) := (blk_cell (HB.out.get 1 rfl) 1).trans rfl; have z2 : World.cell? w9 ⟨b5, 2, none⟩ = some (.slice Ar rL.length cr) := (blk_cell (HB.out.get 1 rfl) 2).trans rfl)
        go_ret
        exact ⟨rfl, HB.out.bel⟩
      subst he
      rw [if_pos rfl] at hg
      have q1 : ((0 : Int) != 0) = false := rfl
      by_cases hgo : some_ = true ∧ (i : Int) < most
      case neg =>
        rw [if_neg hgo] at hg
        obtain ⟨aw, hA, hg⟩ := Option.bind_eq_some_iff.1 hg
        obtain ⟨⟨u1, u2, u3⟩, hU, hg⟩ := Option.bind_eq_some_iff.1 hg
        obtain ⟨⟨v1, v2, v3⟩, hV, hg⟩ := Option.bind_eq_some_iff.1 hg
        obtain ⟨sm, hM, hg⟩ := Option.bind_eq_some_iff.1 hg
        dsimp only at hM
        split at hg
        case isFalse => exact absurd hg (by simp)
        rename_i hc
        obtain ⟨rfl, rfl, hdi, rfl⟩ := hc
        have HAw := Aside0.mk hA
        have HU := Aside0.mk hU
        have HV := Aside0.mk hV
        have HM := Aside0.mk hM
        have bLen : ((rd.length : Int) == (i : Int)) = true := by rw [hdi]; simp
        clear hA hU hV hM hg hdi
        have hq : some_ = false ∨ (some_ = true ∧ decide ((i : Int) ≥ most) = true ∧ decide (most ≤ (i : Int)) = true) := by
          cases some_ with
          | false => exact Or.inl rfl
          | true =>
            have h9 : ¬ (i : Int) < most := fun h => hgo ⟨rfl, h⟩
            exact Or.inr ⟨rfl, decide_eq_true (show most ≤ (i : Int) by omega), decide_eq_true (by omega)⟩
        clear hgo
        rcases hq with rfl | ⟨rfl, q2, q3⟩
        all_goals
         go_upto_region 11 with (fail)
         replace HB := Aside0.mk (HB.out.below (below_drew (Below.refl _ _)))
         replace HL := Aside0.mk (Kd.R_below HL.out (below_drew (Below.refl _ _)))
         replace HD := Aside0.mk (Kd.R_below HD.out (below_drew (Below.refl _ _)))
         replace HC := Aside0.mk (HC.out.below (below_drew (Below.refl _ _)))
         refine start_ (n := 19) (S := fun w' => w'.cell? ⟨b5, 0, none⟩ = some (.int .i64 ra) ∧ w'.cell? ⟨b5, 1, none⟩ = some (.int .i64 rb) ∧ w'.cell? ⟨b5, 2, none⟩ = some (.slice Ar rL.length cr) ∧ w'.cell? ⟨b8, 0, none⟩ = some (.int .i64 ep) ∧ w'.cell? ⟨b8, 1, none⟩ = some (.int .i64 nx) ∧ w'.cell? ⟨b8, 2, none⟩ = some (.slice Ac L.length cc)) (ds := []) (bAg 19 0) (by kernel_rfl) rfl rfl ⟨(blk_cell (HB.out.get 1 rfl) 0).trans rfl, (blk_cell (HB.out.get 1 rfl) 1).trans rfl, (blk_cell (HB.out.get 1 rfl) 2).trans rfl, (blk_cell (HB.out.get 2 rfl) 0).trans rfl, (blk_cell (HB.out.get 2 rfl) 1).trans rfl, (blk_cell (HB.out.get 2 rfl) 2).trans rfl⟩ (fun hHeld => ?_); refine with_tabW runs11.tab runs11.bits (fun HT_ HW_ => ?_)
         generalize w4.drew = wd at HB HL HD HC hHeld ⊢
         refine one_ (i := 0) (N := some 81) (bAg 19 1) rfl rfl (one_of HT_.out (by kernel_rfl)) (by decide) (fun K hK => ?_)
         refine goes_ Try.func9 (by kernel_rfl) rfl #[] (by rfl) rfl rfl (by (try simp only [List.map_toArray, List.map_cons, List.map_nil]); first | done | rfl) ?_
         refine (splicelaw25_awake.calls k true _ HAw.out rfl).mono ?_
         rintro e w9 ⟨rfl, hb⟩
         refine ⟨_, rfl, ?_⟩
         replace HB := Aside0.mk (HB.out.below hb)
         replace HL := Aside0.mk (Kd.R_below HL.out hb)
         replace HD := Aside0.mk (Kd.R_below HD.out hb)
         replace HC := Aside0.mk (HC.out.below hb)
         clear hb
         refine hK.out _ _ ⟨(blk_cell (HB.out.get 1 rfl) 0).trans rfl, (blk_cell (HB.out.get 1 rfl) 1).trans rfl, (blk_cell (HB.out.get 1 rfl) 2).trans rfl, (blk_cell (HB.out.get 2 rfl) 0).trans rfl, (blk_cell (HB.out.get 2 rfl) 1).trans rfl, (blk_cell (HB.out.get 2 rfl) 2).trans rfl⟩ (fun hHeld => ?_)
         clear hK K
         refine norm_ (a' := ?_) ?_ ?_
         rotate_left
         · show Act.put _ (some 81) _ = _
           simp only [Act.put, sg1, sg2, sg3, i64_w, i32_w]
           rfl
         refine pure_ (i := 1) (N := some 82) (v := ?_) (a' := ?_) (bAg 19 3) rfl rfl (any_of HT_.out (by kernel_rfl)) (fun _ _ _ h => h) (Or.inl ⟨by rfl, ?_⟩) ?_ ?_
         rotate_left
         · intro w'
           go_simp
           with_reducible rfl
         rotate_left
         · simp only [Act.put, sg1, sg2, sg3, i64_w, i32_w, bLen]
           rfl
         refine pure_ (i := 2) (N := some 83) (v := ?_) (a' := ?_) (bAg 19 7) rfl rfl (any_of HT_.out (by kernel_rfl)) (fun _ _ _ h => h) (Or.inl ⟨by rfl, ?_⟩) ?_ ?_
         rotate_left
         · intro w'
           go_simp
           with_reducible rfl
         rotate_left
         · simp only [Act.put, sg1, sg2, sg3, i64_w, i32_w, bLen]
           rfl
         refine pure_ (i := 3) (N := some 84) (v := ?_) (a' := ?_) (bAg 19 15) rfl rfl (any_of HT_.out (by kernel_rfl)) (fun _ _ _ h => h) (Or.inl ⟨by rfl, ?_⟩) ?_ ?_
         rotate_left
         · intro w'
           go_simp
           with_reducible rfl
         rotate_left
         · simp only [Act.put, sg1, sg2, sg3, i64_w, i32_w, bLen]
           rfl
         refine pure_ (i := 4) (N := some 85) (v := ?_) (a' := ?_) (bAg 19 31) rfl rfl (any_of HT_.out (by kernel_rfl)) (fun _ _ _ h => h) (Or.inl ⟨by rfl, ?_⟩) ?_ ?_
         rotate_left
         · intro w'
           go_simp
           with_reducible rfl
         rotate_left
         · simp only [Act.put, sg1, sg2, sg3, i64_w, i32_w, bLen]
           rfl
         refine pure_ (i := 5) (N := some 86) (v := ?_) (a' := ?_) (bAg 19 63) rfl rfl (any_of HT_.out (by kernel_rfl)) (fun _ _ _ h => h) (Or.inl ⟨by rfl, ?_⟩) ?_ ?_
         rotate_left
         · intro w'
           go_simp
           with_reducible rfl
         rotate_left
         · simp only [Act.put, sg1, sg2, sg3, i64_w, i32_w, bLen]
           rfl
         refine pure_ (i := 6) (N := some 87) (v := ?_) (a' := ?_) (bAg 19 127) rfl rfl (any_of HT_.out (by kernel_rfl)) (fun _ _ _ h => h) (Or.inl ⟨by rfl, ?_⟩) ?_ ?_
         rotate_left
         · intro w'
           go_simp
           with_reducible rfl
         rotate_left
         · simp only [Act.put, sg1, sg2, sg3, i64_w, i32_w, bLen]
           rfl
         refine pure_ (i := 7) (N := some 88) (v := ?_) (a' := ?_) (bAg 19 255) rfl rfl (any_of HT_.out (by kernel_rfl)) (fun _ _ _ h => h) (Or.inl ⟨by rfl, ?_⟩) ?_ ?_
         rotate_left
         · intro w'
           go_simp
           with_reducible rfl
         rotate_left
         · simp only [Act.put, sg1, sg2, sg3, i64_w, i32_w, bLen]
           rfl
         refine pure_ (i := 8) (N := some 89) (v := ?_) (a' := ?_) (bAg 19 511) rfl rfl (any_of HT_.out (by kernel_rfl)) (fun _ _ _ h => h) (Or.inl ⟨by rfl, ?_⟩) ?_ ?_
         rotate_left
         · intro w'
           go_simp
           with_reducible rfl
         rotate_left
         · simp only [Act.put, sg1, sg2, sg3, i64_w, i32_w, bLen]
           rfl
         refine pure_ (i := 9) (N := some 90) (v := ?_) (a' := ?_) (bAg 19 1023) rfl rfl (any_of HT_.out (by kernel_rfl)) (fun _ _ _ h => h) (Or.inl ⟨by rfl, ?_⟩) ?_ ?_
         rotate_left
         · intro w'
           go_simp
           with_reducible rfl
         rotate_left
         · simp only [Act.put, sg1, sg2, sg3, i64_w, i32_w, bLen]
           rfl
         refine pure_ (i := 10) (N := some 91) (v := ?_) (a' := ?_) (bAg 19 2047) rfl rfl (any_of HT_.out (by kernel_rfl)) (fun _ _ _ h => h) (Or.inl ⟨by rfl, ?_⟩) ?_ ?_
         rotate_left
         · intro w'
           go_simp
           with_reducible rfl
         rotate_left
         · simp only [Act.put, sg1, sg2, sg3, i64_w, i32_w, bLen]
           rfl
         refine pure_ (i := 11) (N := some 92) (v := ?_) (a' := ?_) (bAg 19 4095) rfl rfl (any_of HT_.out (by kernel_rfl)) (fun _ _ _ h => h) (Or.inl ⟨by rfl, ?_⟩) ?_ ?_
         rotate_left
         · intro w'
           go_simp
           with_reducible rfl
         rotate_left
         · simp only [Act.put, sg1, sg2, sg3, i64_w, i32_w, bLen]
           rfl
         refine take_ (i := 12) (N := some 93) (v := ?_) (a' := ?_) (bAg 19 8191) rfl rfl (take_ofW HT_.out HW_.out (by kernel_rfl)) (fun _ _ _ h => h) (Or.inl ⟨by rfl, ?_⟩) hHeld ?_ ?_
         rotate_left
         · rintro w' ⟨s0_, s1_, s2_, s3_, s4_, s5_⟩
           go_simp
           with_reducible rfl
         rotate_left
         · simp only [Act.put, sg1, sg2, sg3, i64_w, i32_w, bLen]
           rfl
         refine take_ (i := 14) (N := some 95) (v := ?_) (a' := ?_) (bAg 19 24575) rfl rfl (take_ofW HT_.out HW_.out (by kernel_rfl)) (fun _ _ _ h => h) (Or.inl ⟨by rfl, ?_⟩) hHeld ?_ ?_
         rotate_left
         · rintro w' ⟨s0_, s1_, s2_, s3_, s4_, s5_⟩
           go_simp
           with_reducible rfl
         rotate_left
         · simp only [Act.put, sg1, sg2, sg3, i64_w, i32_w, bLen]
           rfl
         refine one_ (i := 13) (N := some 94) (bAg 19 32767) rfl rfl (one_of HT_.out (by kernel_rfl)) (by decide) (fun K hK => ?_)
         refine goes_ Try.func10 (by kernel_rfl) rfl #[.agg #[.int .i64 ra, .int .i64 rb, .slice Ar rL.length cr]] (by rfl) rfl rfl (by (try simp only [List.map_toArray, List.map_cons, List.map_nil]); first | done | rfl) ?_
         refine (splicelaw08_Ref.calls k ra rb Ar cr rL u1 u2 u3 _ (Kd.R_reads' HL.out).2.2 (Kd.R_reads' HL.out).2.1 HU.out).mono ?_
         rintro e w9 ⟨v, rfl, hR, hb⟩
         obtain ⟨Au, cu, rfl⟩ := Kd.R_slice hR
         refine ⟨_, rfl, ?_⟩
         replace HB := Aside0.mk (HB.out.below hb)
         replace HL := Aside0.mk (Kd.R_below HL.out hb)
         replace HD := Aside0.mk (Kd.R_below HD.out hb)
         replace HC := Aside0.mk (HC.out.below hb)
         have HRu := Aside0.mk (Kd.R_reads' hR)
         clear hb hR
         refine hK.out _ _ ⟨(blk_cell (HB.out.get 1 rfl) 0).trans rfl, (blk_cell (HB.out.get 1 rfl) 1).trans rfl, (blk_cell (HB.out.get 1 rfl) 2).trans rfl, (blk_cell (HB.out.get 2 rfl) 0).trans rfl, (blk_cell (HB.out.get 2 rfl) 1).trans rfl, (blk_cell (HB.out.get 2 rfl) 2).trans rfl⟩ (fun hHeld => ?_)
         clear hK K
         refine norm_ (a' := ?_) ?_ ?_
         rotate_left
         · show Act.put _ (some 94) _ = _
           simp only [Act.put, sg1, sg2, sg3, i64_w, i32_w]
           rfl
         refine one_ (i := 15) (N := some 96) (bAg 19 65535) rfl rfl (one_of HT_.out (by kernel_rfl)) (by decide) (fun K hK => ?_)
         refine goes_ Try.func10 (by kernel_rfl) rfl #[.agg #[.int .i64 ep, .int .i64 nx, .slice Ac L.length cc]] (by rfl) rfl rfl (by (try simp only [List.map_toArray, List.map_cons, List.map_nil]); first | done | rfl) ?_
         have hrc := HC.out.reads HB.out.bel
         refine (splicelaw08_Ref.calls k ep nx Ac cc L v1 v2 v3 _ hrc.1 hrc.2 HV.out).mono ?_
         rintro e w9 ⟨v, rfl, hR, hb⟩
         obtain ⟨Av, cv, rfl⟩ := Kd.R_slice hR
         refine ⟨_, rfl, ?_⟩
         replace HB := Aside0.mk (HB.out.below hb)
         replace HL := Aside0.mk (Kd.R_below HL.out hb)
         replace HD := Aside0.mk (Kd.R_below HD.out hb)
         replace HC := Aside0.mk (HC.out.below hb)
         have HRu2 := Aside0.mk (And.intro HRu.out.2.1 (Kd.C_below HRu.out.2.2 hb))
         have HRv := Aside0.mk (Kd.R_reads' hR)
         clear hb hR hrc HRu
         refine hK.out _ _ ⟨(blk_cell (HB.out.get 1 rfl) 0).trans rfl, (blk_cell (HB.out.get 1 rfl) 1).trans rfl, (blk_cell (HB.out.get 1 rfl) 2).trans rfl, (blk_cell (HB.out.get 2 rfl) 0).trans rfl, (blk_cell (HB.out.get 2 rfl) 1).trans rfl, (blk_cell (HB.out.get 2 rfl) 2).trans rfl⟩ (fun hHeld => ?_)
         clear hK K
         refine norm_ (a' := ?_) ?_ ?_
         rotate_left
         · show Act.put _ (some 96) _ = _
           simp only [Act.put, sg1, sg2, sg3, i64_w, i32_w]
           rfl
         refine one_ (i := 16) (N := some 97) (bAg 19 131071) rfl rfl (one_of HT_.out (by kernel_rfl)) (by decide) (fun K hK => ?_)
         refine goes_ Try.func30 (by kernel_rfl) rfl #[.agg #[.int .i64 u1, .int .i64 u2, .slice Au u3.length cu], .agg #[.int .i64 v1, .int .i64 v2, .slice Av v3.length cv]] (by rfl) rfl rfl (by (try simp only [List.map_toArray, List.map_cons, List.map_nil]); first | done | rfl) ?_
         refine (spliceref08_Same.calls k u1 u2 Au cu u3 v1 v2 Av cv v3 true _ HRu2.out.2 HRu2.out.1 HRv.out.2.2 HRv.out.2.1 HM.out).mono ?_
         rintro e w9 ⟨rfl, hb⟩
         refine ⟨_, rfl, ?_⟩
         replace HB := Aside0.mk (HB.out.below hb)
         replace HL := Aside0.mk (Kd.R_below HL.out hb)
         replace HD := Aside0.mk (Kd.R_below HD.out hb)
         replace HC := Aside0.mk (HC.out.below hb)
         clear hb
         refine hK.out _ _ ⟨(blk_cell (HB.out.get 1 rfl) 0).trans rfl, (blk_cell (HB.out.get 1 rfl) 1).trans rfl, (blk_cell (HB.out.get 1 rfl) 2).trans rfl, (blk_cell (HB.out.get 2 rfl) 0).trans rfl, (blk_cell (HB.out.get 2 rfl) 1).trans rfl, (blk_cell (HB.out.get 2 rfl) 2).trans rfl⟩ (fun hHeld => ?_)
         clear hK K
         refine norm_ (a' := ?_) ?_ ?_
         rotate_left
         · show Act.put _ (some 97) _ = _
           simp only [Act.put, sg1, sg2, sg3, i64_w, i32_w]
           rfl
         refine pure_ (i := 17) (N := some 98) (v := ?_) (a' := ?_) (bAg 19 262143) rfl rfl (any_of HT_.out (by kernel_rfl)) (fun _ _ _ h => h) (Or.inl ⟨by rfl, ?_⟩) ?_ ?_
         rotate_left
         · intro w'
           go_simp
           with_reducible rfl
         rotate_left
         · simp only [Act.put, sg1, sg2, sg3, i64_w, i32_w, bLen]
           rfl
         refine pure_ (i := 18) (N := some 4) (v := ?_) (a' := ?_) (bAg 19 524287) rfl rfl (any_of HT_.out (by kernel_rfl)) (fun _ _ _ h => h) (Or.inl ⟨by rfl, ?_⟩) ?_ ?_
         rotate_left
         · intro w'
           go_simp
           with_reducible rfl
         rotate_left
         · simp only [Act.put, sg1, sg2, sg3, i64_w, i32_w, bLen]
           rfl
         refine done_ (done_of HT_.out (by kernel_rfl)) ?_
         clear HT_ HW_ bLen
         try clear hHeld
         go_wp2
         go_ret
         exact ⟨rfl, HB.out.bel⟩
      rw [if_pos hgo] at hg
      obtain ⟨rfl, hlt⟩ := hgo
      split at hg
      case isFalse => exact absurd hg (by simp)
      rename_i hc
      obtain ⟨hi1, hi2⟩ := hc
      obtain ⟨⟨t1, t2, t3, t4, t5, t6⟩, hA, hg⟩ := Option.bind_eq_some_iff.1 hg
      dsimp only at hg
      split at hg
      case isFalse => exact absurd hg (by simp)
      rename_i ht6
      subst ht6
      have HAp := Aside0.mk hA
      have HN := Aside0.mk hg
      have hwi : IntKind.i64.wrap ((i : Int) + 1) = ((i + 1 : Nat) : Int) := by rw [IntWalk.i64_in _ (by omega)]; omega
      have q2 : decide ((i : Int) ≥ most) = false := decide_eq_false (by omega)
      have q3 : decide (most ≤ (i : Int)) = false := decide_eq_false (by omega)
      have q4 : ¬ (most ≤ (i : Int)) := by omega
      clear hA hg hlt
      go_upto_region 12 with (fail)
      clear q2 q3 q4 q1
      replace HB := Aside0.mk (HB.out.below (below_drew (Below.refl _ _)))
      replace HL := Aside0.mk (Kd.R_below HL.out (below_drew (Below.refl _ _)))
      replace HD := Aside0.mk (Kd.R_below HD.out (below_drew (Below.refl _ _)))
      replace HC := Aside0.mk (HC.out.below (below_drew (Below.refl _ _)))
      generalize hwd : w4.drew = wd0 at HB HL HD HC
      by_cases hre : re = 0
      · subst hre
        obtain ⟨hd1, hd2, hd3, hd4⟩ := hi2.resolve_left (fun h => h rfl)
        obtain ⟨ad, e0, z0, z1, z2⟩ := at_T54 (Kd.R_reads' HD.out).2.2 (i : Int) (by omega) (by omega)
        rw [hd2, Int.toNat_natCast] at z0
        rw [hd3, Int.toNat_natCast] at z1
        rw [hd4, Int.toNat_natCast] at z2
        subst e0
        have bGe1 : decide ((i : Int) ≥ (rd.length : Int)) = false := decide_eq_false (by omega)
        have bGe2 : decide ((rd.length : Int) ≤ (i : Int)) = false := decide_eq_false (by omega)
        have bGe3 : decide (rd.length ≤ i) = false := decide_eq_false (by omega)
        have v1_ : 0 ≤ (i : Int) := by omega
        have v2_ : (i : Int) < (rd.length : Int) := by omega
        have v3_ : ¬ (i : Int) < 0 := by omega
        have he9 : ∀ w, (Op.equalIn 10000 54 (.agg #[.int .i64 kd, .int .i64 id, .int .i64 at_]) (.agg #[.int .i64 kd, .int .i64 id, .int .i64 at_])).run Try.prog w = .ok true w := fun w => eqChg 9998 w kd id at_
        clear hd1 hd2 hd3 hd4 hi2
        subst hwd
        refine start_ (n := 16) (S := fun w' => w'.cell? ⟨b10, 0, none⟩ = some (.int .i64 kd) ∧ w'.cell? ⟨b10, 1, none⟩ = some (.int .i64 id) ∧ w'.cell? ⟨b10, 2, none⟩ = some (.int .i64 at_) ∧ w'.cell? (ad.add (i * 3)) = some (.int .i64 kd) ∧ w'.cell? ⟨(ad.add (i * 3)).block, (ad.add (i * 3)).off + 1, none⟩ = some (.int .i64 id) ∧ w'.cell? ⟨(ad.add (i * 3)).block, (ad.add (i * 3)).off + 2, none⟩ = some (.int .i64 at_)) (ds := []) (bAg 16 0) (by kernel_rfl) rfl rfl ⟨(blk_cell (HB.out.get 3 rfl) 0).trans rfl, (blk_cell (HB.out.get 3 rfl) 1).trans rfl, (blk_cell (HB.out.get 3 rfl) 2).trans rfl, z0, z1, z2⟩ (fun hHeld => ?_); refine with_tabW runs12.tab runs12.bits (fun HT_ HW_ => ?_)
        generalize w4.drew = wd at HB HL HD HC z0 z1 z2 hHeld ⊢
        refine pure_ (i := 0) (N := some 99) (v := ?_) (a' := ?_) (bAg 16 1) rfl rfl (any_of HT_.out (by kernel_rfl)) (fun _ _ _ h => h) (Or.inl ⟨by rfl, ?_⟩) ?_ ?_
        rotate_left
        · intro w'
          go_simp
          with_reducible rfl
        rotate_left
        · simp only [Act.put, sg1, sg2, sg3, i64_w, i32_w, bGe1, bGe2, bGe3]
          rfl
        refine pure_ (i := 1) (N := some 100) (v := ?_) (a' := ?_) (bAg 16 3) rfl rfl (any_of HT_.out (by kernel_rfl)) (fun _ _ _ h => h) (Or.inl ⟨by rfl, ?_⟩) ?_ ?_
        rotate_left
        · intro w'
          go_simp
          with_reducible rfl
        rotate_left
        · simp only [Act.put, sg1, sg2, sg3, i64_w, i32_w, bGe1, bGe2, bGe3]
          rfl
        refine pure_ (i := 2) (N := some 101) (v := ?_) (a' := ?_) (bAg 16 7) rfl rfl (any_of HT_.out (by kernel_rfl)) (fun _ _ _ h => h) (Or.inl ⟨by rfl, ?_⟩) ?_ ?_
        rotate_left
        · intro w'
          go_simp
          with_reducible rfl
        rotate_left
        · simp only [Act.put, sg1, sg2, sg3, i64_w, i32_w, bGe1, bGe2, bGe3]
          rfl
        refine pure_ (i := 3) (N := some 102) (v := ?_) (a' := ?_) (bAg 16 15) rfl rfl (any_of HT_.out (by kernel_rfl)) (fun _ _ _ h => h) (Or.inl ⟨by rfl, ?_⟩) ?_ ?_
        rotate_left
        · intro w'
          go_simp
          with_reducible rfl
        rotate_left
        · simp only [Act.put, sg1, sg2, sg3, i64_w, i32_w, bGe1, bGe2, bGe3]
          rfl
        refine pure_ (i := 4) (N := some 103) (v := ?_) (a' := ?_) (bAg 16 31) rfl rfl (any_of HT_.out (by kernel_rfl)) (fun _ _ _ h => h) (Or.inl ⟨by rfl, ?_⟩) ?_ ?_
        rotate_left
        · intro w'
          go_simp
          with_reducible rfl
        rotate_left
        · simp only [Act.put, sg1, sg2, sg3, i64_w, i32_w, bGe1, bGe2, bGe3]
          rfl
        refine pure_ (i := 5) (N := some 104) (v := ?_) (a' := ?_) (bAg 16 63) rfl rfl (any_of HT_.out (by kernel_rfl)) (fun _ _ _ h => h) (Or.inl ⟨by rfl, ?_⟩) ?_ ?_
        rotate_left
        · intro w'
          go_simp
          with_reducible rfl
        rotate_left
        · simp only [Act.put, sg1, sg2, sg3, i64_w, i32_w, bGe1, bGe2, bGe3]
          rfl
        refine pure_ (i := 6) (N := some 105) (v := ?_) (a' := ?_) (bAg 16 127) rfl rfl (any_of HT_.out (by kernel_rfl)) (fun _ _ _ h => h) (Or.inl ⟨by rfl, ?_⟩) ?_ ?_
        rotate_left
        · intro w'
          go_simp
          with_reducible rfl
        rotate_left
        · simp only [Act.put, sg1, sg2, sg3, i64_w, i32_w, bGe1, bGe2, bGe3]
          rfl
        refine pure_ (i := 7) (N := some 106) (v := ?_) (a' := ?_) (bAg 16 255) rfl rfl (any_of HT_.out (by kernel_rfl)) (fun _ _ _ h => h) (Or.inl ⟨by rfl, ?_⟩) ?_ ?_
        rotate_left
        · intro w'
          go_simp
          with_reducible rfl
        rotate_left
        · simp only [Act.put, sg1, sg2, sg3, i64_w, i32_w, bGe1, bGe2, bGe3]
          rfl
        refine pure_ (i := 8) (N := some 107) (v := ?_) (a' := ?_) (bAg 16 511) rfl rfl (any_of HT_.out (by kernel_rfl)) (fun _ _ _ h => h) (Or.inl ⟨by rfl, ?_⟩) ?_ ?_
        rotate_left
        · intro w'
          go_simp
          with_reducible rfl
        rotate_left
        · simp only [Act.put, sg1, sg2, sg3, i64_w, i32_w, bGe1, bGe2, bGe3]
          rfl
        refine pure_ (i := 9) (N := some 108) (v := ?_) (a' := ?_) (bAg 16 1023) rfl rfl (any_of HT_.out (by kernel_rfl)) (fun _ _ _ h => h) (Or.inl ⟨by rfl, ?_⟩) ?_ ?_
        rotate_left
        · intro w'
          go_simp
          with_reducible rfl
        rotate_left
        · simp only [Act.put, sg1, sg2, sg3, i64_w, i32_w, bGe1, bGe2, bGe3]
          rfl
        refine pure_ (i := 10) (N := some 109) (v := ?_) (a' := ?_) (bAg 16 2047) rfl rfl (any_of HT_.out (by kernel_rfl)) (fun _ _ _ h => h) (Or.inl ⟨by rfl, ?_⟩) ?_ ?_
        rotate_left
        · intro w'
          go_simp
          with_reducible rfl
        rotate_left
        · simp only [Act.put, sg1, sg2, sg3, i64_w, i32_w, bGe1, bGe2, bGe3]
          rfl
        refine take_ (i := 11) (N := some 110) (v := ?_) (a' := ?_) (bAg 16 4095) rfl rfl (take_ofW HT_.out HW_.out (by kernel_rfl)) (fun _ _ _ h => h) (Or.inl ⟨by rfl, ?_⟩) hHeld ?_ ?_
        rotate_left
        · rintro w' ⟨s0_, s1_, s2_, s3_, s4_, s5_⟩
          go_simp
          with_reducible rfl
        rotate_left
        · simp only [Act.put, sg1, sg2, sg3, i64_w, i32_w, bGe1, bGe2, bGe3]
          rfl
        refine take_ (i := 12) (N := some 111) (v := ?_) (a' := ?_) (bAg 16 8191) rfl rfl (take_ofW HT_.out HW_.out (by kernel_rfl)) (fun _ _ _ h => h) (Or.inl ⟨by rfl, ?_⟩) hHeld ?_ ?_
        rotate_left
        · rintro w' ⟨s0_, s1_, s2_, s3_, s4_, s5_⟩
          go_simp
          with_reducible rfl
        rotate_left
        · simp only [Act.put, sg1, sg2, sg3, i64_w, i32_w, bGe1, bGe2, bGe3]
          rfl
        refine pure_ (i := 13) (N := some 112) (v := ?_) (a' := ?_) (bAg 16 16383) rfl rfl (any_of HT_.out (by kernel_rfl)) (fun _ _ _ h => h) (Or.inl ⟨by rfl, ?_⟩) ?_ ?_
        rotate_left
        · intro w'
          go_simp
          with_reducible rfl
        rotate_left
        · simp only [Act.put, sg1, sg2, sg3, i64_w, i32_w, bGe1, bGe2, bGe3]
          rfl
        refine pure_ (i := 14) (N := some 113) (v := ?_) (a' := ?_) (bAg 16 32767) rfl rfl (any_of HT_.out (by kernel_rfl)) (fun _ _ _ h => h) (Or.inl ⟨by rfl, ?_⟩) ?_ ?_
        rotate_left
        · intro w'
          go_simp
          with_reducible rfl
        rotate_left
        · simp only [Act.put, sg1, sg2, sg3, i64_w, i32_w, bGe1, bGe2, bGe3]
          rfl
        refine pure_ (i := 15) (N := some 114) (v := ?_) (a' := ?_) (bAg 16 65535) rfl rfl (any_of HT_.out (by kernel_rfl)) (fun _ _ _ h => h) (Or.inl ⟨by rfl, ?_⟩) ?_ ?_
        rotate_left
        · intro w'
          go_simp
          with_reducible rfl
        rotate_left
        · simp only [Act.put, sg1, sg2, sg3, i64_w, i32_w, bGe1, bGe2, bGe3]
          rfl
        refine done_ (done_of HT_.out (by kernel_rfl)) ?_
        clear HT_ HW_ bGe1 bGe2 bGe3 he9 z0 z1 z2 v1_ v2_ v3_
        try clear hHeld
        have g0 : World.cell? wd ⟨b8, 0, none⟩ = some (.int .i64 ep) := (blk_cell (HB.out.get 2 rfl) 0).trans rfl
        have g1 : World.cell? wd ⟨b8, 1, none⟩ = some (.int .i64 nx) := (blk_cell (HB.out.get 2 rfl) 1).trans rfl
        have g2 : World.cell? wd ⟨b8, 2, none⟩ = some (.slice Ac L.length cc) := (blk_cell (HB.out.get 2 rfl) 2).trans rfl
        have x0 : World.cell? wd ⟨b10, 0, none⟩ = some (.int .i64 kd) := (blk_cell (HB.out.get 3 rfl) 0).trans rfl
        have x1 : World.cell? wd ⟨b10, 1, none⟩ = some (.int .i64 id) := (blk_cell (HB.out.get 3 rfl) 1).trans rfl
        have x2 : World.cell? wd ⟨b10, 2, none⟩ = some (.int .i64 at_) := (blk_cell (HB.out.get 3 rfl) 2).trans rfl
        go_upto_region 15 with (go_at_call 26; have hrc := HC.out.reads HB.out.bel; refine (chart_Apply.calls k ep nx Ac cc L kd id at_ _ _ _ _ _ _ _ hrc.1 hrc.2 HAp.out).mono ?_; rintro e w5 ⟨v2, v3, v4, rfl, hR, _, _, hb⟩; obtain ⟨A7, c7, rfl⟩ := Kd.R_slice hR; have HC7 : Aside0 (RowC w w5 [b2, b5, b8, b10] A7 c7 t3) := ⟨Or.inr (R_newB HB.out rfl hR)⟩; clear HC hrc; have HC := HC7; clear HC7; replace HB := Aside0.mk (HB.out.below hb); replace HL := Aside0.mk (Kd.R_below HL.out hb); replace HD := Aside0.mk (Kd.R_below HD.out hb); clear hb hR)
        clear g0 g1 g2
        clear x0 x1 x2
        replace HL := Aside0.mk (R_pushB HL.out (g := w5.heap.size) rfl (below_alloc (Below.refl _ _) (.cells #[.int .i64 t1, .int .i64 t2, .slice A7 t3.length c7] 24)))
        replace HD := Aside0.mk (R_pushB HD.out (g := w5.heap.size) rfl (below_alloc (Below.refl _ _) (.cells #[.int .i64 t1, .int .i64 t2, .slice A7 t3.length c7] 24)))
        replace HC := Aside0.mk (HC.out.push rfl (below_alloc (Below.refl _ _) (.cells #[.int .i64 t1, .int .i64 t2, .slice A7 t3.length c7] 24)))
        replace HB := Aside0.mk (HB.out.push #[.int .i64 t1, .int .i64 t2, .slice A7 t3.length c7] 24)
        simp only [List.nil_append, List.cons_append] at HB HL HD HC
        generalize w5.alloc (.cells #[.int .i64 t1, .int .i64 t2, .slice A7 t3.length c7] 24) = w6 at HB HL HD HC ⊢
        generalize w5.heap.size = b13 at HB HL HD HC ⊢
        have x0 : World.cell? w6 ⟨b13, 0, none⟩ = some (.int .i64 t1) := (blk_cell (HB.out.get 4 rfl) 0).trans rfl
        have x1 : World.cell? w6 ⟨b13, 1, none⟩ = some (.int .i64 t2) := (blk_cell (HB.out.get 4 rfl) 1).trans rfl
        have x2 : World.cell? w6 ⟨b13, 2, none⟩ = some (.slice A7 t3.length c7) := (blk_cell (HB.out.get 4 rfl) 2).trans rfl
        have g0 : World.cell? w6 ⟨b8, 0, none⟩ = some (.int .i64 ep) := (blk_cell (HB.out.get 2 rfl) 0).trans rfl
        have g1 : World.cell? w6 ⟨b8, 1, none⟩ = some (.int .i64 nx) := (blk_cell (HB.out.get 2 rfl) 1).trans rfl
        have g2 : World.cell? w6 ⟨b8, 2, none⟩ = some (.slice Ac L.length cc) := (blk_cell (HB.out.get 2 rfl) 2).trans rfl
        have gz0 : World.frozen? w6 ⟨b8, 0, none⟩ = false := blk_frozen (HB.out.get 2 rfl) 0
        have gz1 : World.frozen? w6 ⟨b8, 1, none⟩ = false := blk_frozen (HB.out.get 2 rfl) 1
        have gz2 : World.frozen? w6 ⟨b8, 2, none⟩ = false := blk_frozen (HB.out.get 2 rfl) 2
        go_upto_region 6 with (fail)
        clear x0 x1 x2
        clear g0 g1 g2 gz0 gz1 gz2
        replace HB : Aside0 (Bx w (((w6.setCell ⟨b8, 0, none⟩ (.int .i64 t1)).setCell ⟨b8, 1, none⟩ (.int .i64 t2)).setCell ⟨b8, 2, none⟩ (.slice A7 t3.length c7)) [(b2, #[.int .i64 x0, .int .i64 x1, .slice A2 l2.length c2, .slice A3 l3.length c3, .int .i64 x4, .int .i64 x5, .int .i64 x6, .int .i64 x7], 29), (b5, #[.int .i64 ra, .int .i64 rb, .slice Ar rL.length cr], 24), (b8, #[.int .i64 t1, .int .i64 t2, .slice A7 t3.length c7], 24), (b10, #[.int .i64 kd, .int .i64 id, .int .i64 at_], 54), (b13, #[.int .i64 t1, .int .i64 t2, .slice A7 t3.length c7], 24)]) := ⟨(((HB.out.set 2 0 (.int .i64 t1) rfl).set 2 1 (.int .i64 t2) rfl).set 2 2 (.slice A7 t3.length c7) rfl)⟩
        replace HL := Aside0.mk (R_setB (R_setB (R_setB HL.out (g := b8) (by simp) 0 (.int .i64 t1)) (g := b8) (by simp) 1 (.int .i64 t2)) (g := b8) (by simp) 2 (.slice A7 t3.length c7))
        replace HD := Aside0.mk (R_setB (R_setB (R_setB HD.out (g := b8) (by simp) 0 (.int .i64 t1)) (g := b8) (by simp) 1 (.int .i64 t2)) (g := b8) (by simp) 2 (.slice A7 t3.length c7))
        replace HC := Aside0.mk (((HC.out.set (g := b8) (by simp) 0 (.int .i64 t1)).set (g := b8) (by simp) 1 (.int .i64 t2)).set (g := b8) (by simp) 2 (.slice A7 t3.length c7))
        generalize (((w6.setCell ⟨b8, 0, none⟩ (.int .i64 t1)).setCell ⟨b8, 1, none⟩ (.int .i64 t2)).setCell ⟨b8, 2, none⟩ (.slice A7 t3.length c7)) = w7 at HB HL HD HC ⊢
        go_wp2
        go_roundg q
        case measure => have := HK.out; omega
        case rel => exact ⟨i + 1, t1, t2, A7, c7, t3, by first | rfl | go_num, HN, ⟨by have := HK.out; omega⟩, ⟨HB.out.take 3⟩, ⟨R_offB HL.out _ (by simp)⟩, ⟨R_offB HD.out _ (by simp)⟩, ⟨HC.out.off _ (by simp)⟩⟩
      · have bRe : (re == 0) = false := beq_eq_false_iff_ne.mpr hre
        have bRe2 : decide (re = 0) = false := decide_eq_false hre
        clear hre hi2
        subst hwd
        refine start_ (n := 16) (S := fun w' => w'.cell? ⟨b10, 0, none⟩ = some (.int .i64 kd) ∧ w'.cell? ⟨b10, 1, none⟩ = some (.int .i64 id) ∧ w'.cell? ⟨b10, 2, none⟩ = some (.int .i64 at_)) (ds := []) (bAg 16 0) (by kernel_rfl) rfl rfl ⟨(blk_cell (HB.out.get 3 rfl) 0).trans rfl, (blk_cell (HB.out.get 3 rfl) 1).trans rfl, (blk_cell (HB.out.get 3 rfl) 2).trans rfl⟩ (fun hHeld => ?_); refine with_tabW runs12.tab runs12.bits (fun HT_ HW_ => ?_)
        generalize w4.drew = wd at HB HL HD HC hHeld ⊢
        refine pure_ (i := 0) (N := some 99) (v := ?_) (a' := ?_) (bAg 16 1) rfl rfl (any_of HT_.out (by kernel_rfl)) (fun _ _ _ h => h) (Or.inl ⟨by rfl, ?_⟩) ?_ ?_
        rotate_left
        · intro w'
          go_simp
          with_reducible rfl
        rotate_left
        · simp only [Act.put, sg1, sg2, sg3, i64_w, i32_w, bRe, bRe2]
          rfl
        refine pure_ (i := 1) (N := some 100) (v := ?_) (a' := ?_) (bAg 16 3) rfl rfl (any_of HT_.out (by kernel_rfl)) (fun _ _ _ h => h) (Or.inl ⟨by rfl, ?_⟩) ?_ ?_
        rotate_left
        · intro w'
          go_simp
          with_reducible rfl
        rotate_left
        · simp only [Act.put, sg1, sg2, sg3, i64_w, i32_w, bRe, bRe2]
          rfl
        refine pure_ (i := 2) (N := some 101) (v := ?_) (a' := ?_) (bAg 16 7) rfl rfl (any_of HT_.out (by kernel_rfl)) (fun _ _ _ h => h) (Or.inl ⟨by rfl, ?_⟩) ?_ ?_
        rotate_left
        · intro w'
          go_simp
          with_reducible rfl
        rotate_left
        · simp only [Act.put, sg1, sg2, sg3, i64_w, i32_w, bRe, bRe2]
          rfl
        refine pure_ (i := 3) (N := some 102) (v := undef) (a' := ?_) (bAg 16 15) rfl rfl (any_of HT_.out (by kernel_rfl)) (fun _ _ _ h => h) (Or.inr ⟨by rfl, rfl⟩) ?_ ?_
        rotate_left
        · simp only [Act.put, sg1, sg2, sg3, i64_w, i32_w, bRe, bRe2]
          rfl
        refine pure_ (i := 4) (N := some 103) (v := undef) (a' := ?_) (bAg 16 31) rfl rfl (any_of HT_.out (by kernel_rfl)) (fun _ _ _ h => h) (Or.inr ⟨by rfl, rfl⟩) ?_ ?_
        rotate_left
        · simp only [Act.put, sg1, sg2, sg3, i64_w, i32_w, bRe, bRe2]
          rfl
        refine pure_ (i := 5) (N := some 104) (v := undef) (a' := ?_) (bAg 16 63) rfl rfl (any_of HT_.out (by kernel_rfl)) (fun _ _ _ h => h) (Or.inr ⟨by rfl, rfl⟩) ?_ ?_
        rotate_left
        · simp only [Act.put, sg1, sg2, sg3, i64_w, i32_w, bRe, bRe2]
          rfl
        refine pure_ (i := 6) (N := some 105) (v := undef) (a' := ?_) (bAg 16 127) rfl rfl (any_of HT_.out (by kernel_rfl)) (fun _ _ _ h => h) (Or.inr ⟨by rfl, rfl⟩) ?_ ?_
        rotate_left
        · simp only [Act.put, sg1, sg2, sg3, i64_w, i32_w, bRe, bRe2]
          rfl
        refine pure_ (i := 7) (N := some 106) (v := undef) (a' := ?_) (bAg 16 255) rfl rfl (any_of HT_.out (by kernel_rfl)) (fun _ _ _ h => h) (Or.inr ⟨by rfl, rfl⟩) ?_ ?_
        rotate_left
        · simp only [Act.put, sg1, sg2, sg3, i64_w, i32_w, bRe, bRe2]
          rfl
        refine pure_ (i := 8) (N := some 107) (v := undef) (a' := ?_) (bAg 16 511) rfl rfl (any_of HT_.out (by kernel_rfl)) (fun _ _ _ h => h) (Or.inr ⟨by rfl, rfl⟩) ?_ ?_
        rotate_left
        · simp only [Act.put, sg1, sg2, sg3, i64_w, i32_w, bRe, bRe2]
          rfl
        refine pure_ (i := 9) (N := some 108) (v := undef) (a' := ?_) (bAg 16 1023) rfl rfl (any_of HT_.out (by kernel_rfl)) (fun _ _ _ h => h) (Or.inr ⟨by rfl, rfl⟩) ?_ ?_
        rotate_left
        · simp only [Act.put, sg1, sg2, sg3, i64_w, i32_w, bRe, bRe2]
          rfl
        refine pure_ (i := 10) (N := some 109) (v := undef) (a' := ?_) (bAg 16 2047) rfl rfl (any_of HT_.out (by kernel_rfl)) (fun _ _ _ h => h) (Or.inr ⟨by rfl, rfl⟩) ?_ ?_
        rotate_left
        · simp only [Act.put, sg1, sg2, sg3, i64_w, i32_w, bRe, bRe2]
          rfl
        refine pure_ (i := 11) (N := some 110) (v := undef) (a' := ?_) (bAg 16 4095) rfl rfl (any_of HT_.out (by kernel_rfl)) (fun _ _ _ h => h) (Or.inr ⟨by rfl, rfl⟩) ?_ ?_
        rotate_left
        · simp only [Act.put, sg1, sg2, sg3, i64_w, i32_w, bRe, bRe2]
          rfl
        refine pure_ (i := 12) (N := some 111) (v := undef) (a' := ?_) (bAg 16 8191) rfl rfl (any_of HT_.out (by kernel_rfl)) (fun _ _ _ h => h) (Or.inr ⟨by rfl, rfl⟩) ?_ ?_
        rotate_left
        · simp only [Act.put, sg1, sg2, sg3, i64_w, i32_w, bRe, bRe2]
          rfl
        refine pure_ (i := 13) (N := some 112) (v := undef) (a' := ?_) (bAg 16 16383) rfl rfl (any_of HT_.out (by kernel_rfl)) (fun _ _ _ h => h) (Or.inr ⟨by rfl, rfl⟩) ?_ ?_
        rotate_left
        · simp only [Act.put, sg1, sg2, sg3, i64_w, i32_w, bRe, bRe2]
          rfl
        refine pure_ (i := 14) (N := some 113) (v := undef) (a' := ?_) (bAg 16 32767) rfl rfl (any_of HT_.out (by kernel_rfl)) (fun _ _ _ h => h) (Or.inr ⟨by rfl, rfl⟩) ?_ ?_
        rotate_left
        · simp only [Act.put, sg1, sg2, sg3, i64_w, i32_w, bRe, bRe2]
          rfl
        refine pure_ (i := 15) (N := some 114) (v := ?_) (a' := ?_) (bAg 16 65535) rfl rfl (any_of HT_.out (by kernel_rfl)) (fun _ _ _ h => h) (Or.inl ⟨by rfl, ?_⟩) ?_ ?_
        rotate_left
        · intro w'
          go_simp
          with_reducible rfl
        rotate_left
        · simp only [Act.put, sg1, sg2, sg3, i64_w, i32_w, bRe, bRe2]
          rfl
        refine done_ (done_of HT_.out (by kernel_rfl)) ?_
        clear HT_ HW_ bRe bRe2
        try clear hHeld
        have g0 : World.cell? wd ⟨b8, 0, none⟩ = some (.int .i64 ep) := (blk_cell (HB.out.get 2 rfl) 0).trans rfl
        have g1 : World.cell? wd ⟨b8, 1, none⟩ = some (.int .i64 nx) := (blk_cell (HB.out.get 2 rfl) 1).trans rfl
        have g2 : World.cell? wd ⟨b8, 2, none⟩ = some (.slice Ac L.length cc) := (blk_cell (HB.out.get 2 rfl) 2).trans rfl
        have x0 : World.cell? wd ⟨b10, 0, none⟩ = some (.int .i64 kd) := (blk_cell (HB.out.get 3 rfl) 0).trans rfl
        have x1 : World.cell? wd ⟨b10, 1, none⟩ = some (.int .i64 id) := (blk_cell (HB.out.get 3 rfl) 1).trans rfl
        have x2 : World.cell? wd ⟨b10, 2, none⟩ = some (.int .i64 at_) := (blk_cell (HB.out.get 3 rfl) 2).trans rfl
        go_upto_region 15 with (go_at_call 26; have hrc := HC.out.reads HB.out.bel; refine (chart_Apply.calls k ep nx Ac cc L kd id at_ _ _ _ _ _ _ _ hrc.1 hrc.2 HAp.out).mono ?_; rintro e w5 ⟨v2, v3, v4, rfl, hR, _, _, hb⟩; obtain ⟨A7, c7, rfl⟩ := Kd.R_slice hR; have HC7 : Aside0 (RowC w w5 [b2, b5, b8, b10] A7 c7 t3) := ⟨Or.inr (R_newB HB.out rfl hR)⟩; clear HC hrc; have HC := HC7; clear HC7; replace HB := Aside0.mk (HB.out.below hb); replace HL := Aside0.mk (Kd.R_below HL.out hb); replace HD := Aside0.mk (Kd.R_below HD.out hb); clear hb hR)
        clear g0 g1 g2
        clear x0 x1 x2
        replace HL := Aside0.mk (R_pushB HL.out (g := w5.heap.size) rfl (below_alloc (Below.refl _ _) (.cells #[.int .i64 t1, .int .i64 t2, .slice A7 t3.length c7] 24)))
        replace HD := Aside0.mk (R_pushB HD.out (g := w5.heap.size) rfl (below_alloc (Below.refl _ _) (.cells #[.int .i64 t1, .int .i64 t2, .slice A7 t3.length c7] 24)))
        replace HC := Aside0.mk (HC.out.push rfl (below_alloc (Below.refl _ _) (.cells #[.int .i64 t1, .int .i64 t2, .slice A7 t3.length c7] 24)))
        replace HB := Aside0.mk (HB.out.push #[.int .i64 t1, .int .i64 t2, .slice A7 t3.length c7] 24)
        simp only [List.nil_append, List.cons_append] at HB HL HD HC
        generalize w5.alloc (.cells #[.int .i64 t1, .int .i64 t2, .slice A7 t3.length c7] 24) = w6 at HB HL HD HC ⊢
        generalize w5.heap.size = b13 at HB HL HD HC ⊢
        have x0 : World.cell? w6 ⟨b13, 0, none⟩ = some (.int .i64 t1) := (blk_cell (HB.out.get 4 rfl) 0).trans rfl
        have x1 : World.cell? w6 ⟨b13, 1, none⟩ = some (.int .i64 t2) := (blk_cell (HB.out.get 4 rfl) 1).trans rfl
        have x2 : World.cell? w6 ⟨b13, 2, none⟩ = some (.slice A7 t3.length c7) := (blk_cell (HB.out.get 4 rfl) 2).trans rfl
        have g0 : World.cell? w6 ⟨b8, 0, none⟩ = some (.int .i64 ep) := (blk_cell (HB.out.get 2 rfl) 0).trans rfl
        have g1 : World.cell? w6 ⟨b8, 1, none⟩ = some (.int .i64 nx) := (blk_cell (HB.out.get 2 rfl) 1).trans rfl
        have g2 : World.cell? w6 ⟨b8, 2, none⟩ = some (.slice Ac L.length cc) := (blk_cell (HB.out.get 2 rfl) 2).trans rfl
        have gz0 : World.frozen? w6 ⟨b8, 0, none⟩ = false := blk_frozen (HB.out.get 2 rfl) 0
        have gz1 : World.frozen? w6 ⟨b8, 1, none⟩ = false := blk_frozen (HB.out.get 2 rfl) 1
        have gz2 : World.frozen? w6 ⟨b8, 2, none⟩ = false := blk_frozen (HB.out.get 2 rfl) 2
        go_upto_region 6 with (fail)
        clear x0 x1 x2
        clear g0 g1 g2 gz0 gz1 gz2
        replace HB : Aside0 (Bx w (((w6.setCell ⟨b8, 0, none⟩ (.int .i64 t1)).setCell ⟨b8, 1, none⟩ (.int .i64 t2)).setCell ⟨b8, 2, none⟩ (.slice A7 t3.length c7)) [(b2, #[.int .i64 x0, .int .i64 x1, .slice A2 l2.length c2, .slice A3 l3.length c3, .int .i64 x4, .int .i64 x5, .int .i64 x6, .int .i64 x7], 29), (b5, #[.int .i64 ra, .int .i64 rb, .slice Ar rL.length cr], 24), (b8, #[.int .i64 t1, .int .i64 t2, .slice A7 t3.length c7], 24), (b10, #[.int .i64 kd, .int .i64 id, .int .i64 at_], 54), (b13, #[.int .i64 t1, .int .i64 t2, .slice A7 t3.length c7], 24)]) := ⟨(((HB.out.set 2 0 (.int .i64 t1) rfl).set 2 1 (.int .i64 t2) rfl).set 2 2 (.slice A7 t3.length c7) rfl)⟩
        replace HL := Aside0.mk (R_setB (R_setB (R_setB HL.out (g := b8) (by simp) 0 (.int .i64 t1)) (g := b8) (by simp) 1 (.int .i64 t2)) (g := b8) (by simp) 2 (.slice A7 t3.length c7))
        replace HD := Aside0.mk (R_setB (R_setB (R_setB HD.out (g := b8) (by simp) 0 (.int .i64 t1)) (g := b8) (by simp) 1 (.int .i64 t2)) (g := b8) (by simp) 2 (.slice A7 t3.length c7))
        replace HC := Aside0.mk (((HC.out.set (g := b8) (by simp) 0 (.int .i64 t1)).set (g := b8) (by simp) 1 (.int .i64 t2)).set (g := b8) (by simp) 2 (.slice A7 t3.length c7))
        generalize (((w6.setCell ⟨b8, 0, none⟩ (.int .i64 t1)).setCell ⟨b8, 1, none⟩ (.int .i64 t2)).setCell ⟨b8, 2, none⟩ (.slice A7 t3.length c7)) = w7 at HB HL HD HC ⊢
        go_wp2
        go_roundg q
        case measure => have := HK.out; omega
        case rel => exact ⟨i + 1, t1, t2, A7, c7, t3, by first | rfl | go_num, HN, ⟨by have := HK.out; omega⟩, ⟨HB.out.take 3⟩, ⟨R_offB HL.out _ (by simp)⟩, ⟨R_offB HD.out _ (by simp)⟩, ⟨HC.out.off _ (by simp)⟩⟩
set_option maxHeartbeats 16000000 in
set_option maxRecDepth 100000 in
theorem runs_not (k : Nat) (x0 x1 : Int) (A2 : Option Addr) (c2 : Nat) (l2 : List (S67)) (A3 : Option Addr) (c3 : Nat) (l3 : List (S70)) (x4 x5 x6 x7 most : Int) (w : World) (hr2 : Kd.C k67 w A2 l2.length l2) (hc2 : l2.length ≤ c2) (hr3 : Kd.C k70 w A3 l3.length l3) (hc3 : l3.length ≤ c3) (hf : ¬ ((l2.length : Int) ≤ 60 ∧ (l3.length : Int) ≤ 60 ∧ most ≤ 30)) (hA : splicelaw25_awake.f k = some true) :
    Calls Try.prog 7 #[.agg #[.int .i64 x0, .int .i64 x1, .slice A2 l2.length c2, .slice A3 l3.length c3, .int .i64 x4, .int .i64 x5, .int .i64 x6, .int .i64 x7], .int .i64 most] w fun e w' => e = .returned (.bool true) ∧ Below w.heap.size w w' := by
  have HR2 := Aside0.mk (And.intro hr2 hc2)
  have HR3 := Aside0.mk (And.intro hr3 hc3)
  have HAw := Aside0.mk hA
  have hq : splicelaw25_few.f x0 x1 l2 l3 x4 x5 x6 x7 = some false ∨ (splicelaw25_few.f x0 x1 l2 l3 x4 x5 x6 x7 = some true ∧ decide (most > 30) = true ∧ decide ((30 : Int) < most) = true) := by
    unfold splicelaw25_few.f
    by_cases h1 : (l2.length : Int) ≤ 60
    · rw [if_pos h1]
      by_cases h2 : (l3.length : Int) ≤ 60
      · rw [decide_eq_true h2]
        exact Or.inr ⟨rfl, decide_eq_true (show (30 : Int) < most by omega), decide_eq_true (by omega)⟩
      · rw [decide_eq_false h2]; exact Or.inl rfl
    · rw [if_neg h1]; exact Or.inl rfl
  clear hr2 hc2 hr3 hc3 hf hA
  have HB := Aside0.mk ((Bx.start w).push #[.int .i64 x0, .int .i64 x1, .slice A2 l2.length c2, .slice A3 l3.length c3, .int .i64 x4, .int .i64 x5, .int .i64 x6, .int .i64 x7] 29)
  rcases hq with hw | ⟨hw, q0, q1⟩
  all_goals
    have HFw := Aside0.mk hw
    clear hw
    go_enter Try.func7, Try.ntmps7
    go_upto_region 1 with (fail)
    simp only [List.nil_append] at HB
    generalize w.alloc (.cells #[.int .i64 x0, .int .i64 x1, .slice A2 l2.length c2, .slice A3 l3.length c3, .int .i64 x4, .int .i64 x5, .int .i64 x6, .int .i64 x7] 29) = w2 at HB ⊢
    obtain ⟨b2, hb2⟩ : ∃ b2, b2 = w.heap.size := ⟨_, rfl⟩
    rw [← hb2] at HB
    try rw [← hb2]
    clear hb2
    have y0 : World.cell? w2 ⟨b2, 0, none⟩ = some (.int .i64 x0) := (blk_cell (HB.out.get 0 rfl) 0).trans rfl
    have y1 : World.cell? w2 ⟨b2, 1, none⟩ = some (.int .i64 x1) := (blk_cell (HB.out.get 0 rfl) 1).trans rfl
    have y2 : World.cell? w2 ⟨b2, 2, none⟩ = some (.slice A2 l2.length c2) := (blk_cell (HB.out.get 0 rfl) 2).trans rfl
    have y3 : World.cell? w2 ⟨b2, 3, none⟩ = some (.slice A3 l3.length c3) := (blk_cell (HB.out.get 0 rfl) 3).trans rfl
    have y4 : World.cell? w2 ⟨b2, 4, none⟩ = some (.int .i64 x4) := (blk_cell (HB.out.get 0 rfl) 4).trans rfl
    have y5 : World.cell? w2 ⟨b2, 5, none⟩ = some (.int .i64 x5) := (blk_cell (HB.out.get 0 rfl) 5).trans rfl
    have y6 : World.cell? w2 ⟨b2, 6, none⟩ = some (.int .i64 x6) := (blk_cell (HB.out.get 0 rfl) 6).trans rfl
    have y7 : World.cell? w2 ⟨b2, 7, none⟩ = some (.int .i64 x7) := (blk_cell (HB.out.get 0 rfl) 7).trans rfl
    have yv0 : World.cell? w2 ⟨b2, 4 + 1, none⟩ = some (.int .i64 x5) := y5
    have yv1 : World.cell? w2 ⟨b2, 4 + 2, none⟩ = some (.int .i64 x6) := y6
    have yv2 : World.cell? w2 ⟨b2, 1 + 2, none⟩ = some (.slice A3 l3.length c3) := y3
    have yv3 : World.cell? w2 ⟨b2, 2 + 1, none⟩ = some (.slice A3 l3.length c3) := y3
    have yv4 : World.cell? w2 ⟨b2, 3 + 1, none⟩ = some (.int .i64 x4) := y4
    have yv5 : World.cell? w2 ⟨b2, 3 + 2, none⟩ = some (.int .i64 x5) := y5
    have yv6 : World.cell? w2 ⟨b2, 3 + 3, none⟩ = some (.int .i64 x6) := y6
    go_wp2_with (first | (go_at_call 8; refine (splicelaw25_few.calls x0 x1 A2 c2 l2 A3 c3 l3 x4 x5 x6 x7 _ _ (Kd.C_below HR2.out.1 HB.out.bel) HR2.out.2 (Kd.C_below HR3.out.1 HB.out.bel) HR3.out.2 HFw.out).mono ?_; rintro e w3 ⟨rfl, hb⟩; replace HB := Aside0.mk (HB.out.below hb); clear hb; clear y0 y1 y2 y3 y4 y5 y6 y7 yv0 yv1 yv2 yv3 yv4 yv5 yv6) | (go_at_call 9; refine (splicelaw25_awake.calls k true _ HAw.out rfl).mono ?_; rintro e w9 ⟨rfl, hb⟩; replace HB := Aside0.mk (HB.out.below hb); clear hb))
    go_ret
    exact ⟨rfl, HB.out.bel⟩
theorem splicelaw25_BalanceRuns.calls (k : Nat) (x0 x1 : Int) (A2 : Option Addr) (c2 : Nat) (l2 : List (S67)) (A3 : Option Addr) (c3 : Nat) (l3 : List (S70)) (x4 x5 x6 x7 most : Int) (r : Bool) (w : World) (hr2 : Kd.C k67 w A2 l2.length l2) (hc2 : l2.length ≤ c2) (hr3 : Kd.C k70 w A3 l3.length l3) (hc3 : l3.length ≤ c3) (h : splicelaw25_BalanceRuns.f k x0 x1 l2 l3 x4 x5 x6 x7 most = some r) (hr_ : r = true) :
    Calls Try.prog 7 #[.agg #[.int .i64 x0, .int .i64 x1, .slice A2 l2.length c2, .slice A3 l3.length c3, .int .i64 x4, .int .i64 x5, .int .i64 x6, .int .i64 x7], .int .i64 most] w fun e w' => e = .returned (.bool r) ∧ Below w.heap.size w w' := by
  subst hr_
  unfold splicelaw25_BalanceRuns.f at h
  by_cases hf : (l2.length : Int) ≤ 60 ∧ (l3.length : Int) ≤ 60 ∧ most ≤ 30
  · rw [if_pos hf] at h
    obtain ⟨⟨ra, rb, rL, rd, re⟩, h1, h2⟩ := Option.bind_eq_some_iff.1 h
    exact runs_walk k x0 x1 A2 c2 l2 A3 c3 l3 x4 x5 x6 x7 most w hr2 hc2 hr3 hc3 hf ra rb re rL rd h1 h2
  · rw [if_neg hf] at h
    exact runs_not k x0 x1 A2 c2 l2 A3 c3 l3 x4 x5 x6 x7 most w hr2 hc2 hr3 hc3 hf h

def wf65 (x : S65) : Prop := (Lit.int .i64 x.f0).wf = true ∧ (Lit.int .i64 x.f1).wf = true
theorem op65 : Go.Proofs.Yteclhjhnbolkmaa.Op.Op Try.prog k65 65 wf65 := op_mono (op_iso (op_struct Try.underlying65 (by kernel_rfl) (opfs_cons (op_int Try.underlying3 (by kernel_rfl)) rfl (opfs_last (op_int Try.underlying3 (by kernel_rfl)) rfl))) (fun x : S65 => (x.f0, x.f1)) (fun y => ⟨y.1, y.2⟩) (fun _ => rfl)) (fun _ h => h)

def wf67 (x : S67) : Prop := (Lit.int .i64 x.f0).wf = true ∧ wf65 x.f1 ∧ (Lit.int .i64 x.f2).wf = true
theorem op67 : Go.Proofs.Yteclhjhnbolkmaa.Op.Op Try.prog k67 67 wf67 := op_mono (op_iso (op_struct Try.underlying67 (by kernel_rfl) (opfs_cons (op_int Try.underlying3 (by kernel_rfl)) rfl (opfs_cons op65 rfl (opfs_last (op_int Try.underlying3 (by kernel_rfl)) rfl)))) (fun x : S67 => (x.f0, x.f1, x.f2)) (fun y => ⟨y.1, y.2.1, y.2.2⟩) (fun _ => rfl)) (fun _ h => h)

def wf24 (x : S24) : Prop := (Lit.int .i64 x.f0).wf = true ∧ (Lit.int .i64 x.f1).wf = true ∧ (x.f2.length * 32 ≤ 140737488351232 ∧ x.f2.length ≤ maxLen ∧ ∀ y0 ∈ x.f2, wf67 y0)
theorem op24 : Go.Proofs.Yteclhjhnbolkmaa.Op.Op Try.prog k24 24 wf24 := op_mono (op_iso (op_struct Try.underlying24 (by kernel_rfl) (opfs_cons (op_int Try.underlying3 (by kernel_rfl)) rfl (opfs_cons (op_int Try.underlying3 (by kernel_rfl)) rfl (opfs_last (op_slice Try.underlying22 (by kernel_rfl) (show Try.prog.bytesOf 67 = 32 by kernel_rfl) op67 (by decide)) rfl)))) (fun x : S24 => (x.f0, x.f1, x.f2)) (fun y => ⟨y.1, y.2.1, y.2.2⟩) (fun _ => rfl)) (fun _ h => h)

def wf70 (x : S70) : Prop := (Lit.int .i64 x.f0).wf = true ∧ (Lit.int .i64 x.f1).wf = true
theorem op70 : Go.Proofs.Yteclhjhnbolkmaa.Op.Op Try.prog k70 70 wf70 := op_mono (op_iso (op_struct Try.underlying70 (by kernel_rfl) (opfs_cons (op_int Try.underlying3 (by kernel_rfl)) rfl (opfs_last (op_int Try.underlying3 (by kernel_rfl)) rfl))) (fun x : S70 => (x.f0, x.f1)) (fun y => ⟨y.1, y.2⟩) (fun _ => rfl)) (fun _ h => h)

def wf27 (x : S27) : Prop := (Lit.int .i64 x.f0).wf = true ∧ (Lit.int .i64 x.f1).wf = true ∧ (Lit.int .i64 x.f2).wf = true
theorem op27 : Go.Proofs.Yteclhjhnbolkmaa.Op.Op Try.prog k27 27 wf27 := op_mono (op_iso (op_struct Try.underlying27 (by kernel_rfl) (opfs_cons (op_int Try.underlying3 (by kernel_rfl)) rfl (opfs_cons (op_int Try.underlying3 (by kernel_rfl)) rfl (opfs_last (op_int Try.underlying3 (by kernel_rfl)) rfl)))) (fun x : S27 => (x.f0, x.f1, x.f2)) (fun y => ⟨y.1, y.2.1, y.2.2⟩) (fun _ => rfl)) (fun _ h => h)

def wf29 (x : S29) : Prop := wf24 x.f0 ∧ (x.f1.length * 16 ≤ 140737488351232 ∧ x.f1.length ≤ maxLen ∧ ∀ y0 ∈ x.f1, wf70 y0) ∧ wf27 x.f2 ∧ (Lit.int .i64 x.f3).wf = true
theorem op29 : Go.Proofs.Yteclhjhnbolkmaa.Op.Op Try.prog k29 29 wf29 := op_mono (op_iso (op_struct Try.underlying29 (by kernel_rfl) (opfs_cons op24 rfl (opfs_cons (op_slice Try.underlying25 (by kernel_rfl) (show Try.prog.bytesOf 70 = 16 by kernel_rfl) op70 (by decide)) rfl (opfs_cons op27 rfl (opfs_last (op_int Try.underlying3 (by kernel_rfl)) rfl))))) (fun x : S29 => (x.f0, x.f1, x.f2, x.f3)) (fun y => ⟨y.1, y.2.1, y.2.2.1, y.2.2.2⟩) (fun _ => rfl)) (fun _ h => h)


/-! ### splicelaw25_BalanceRuns: function 7 -/
/-- THE ONE PURE STATEMENT of splicelaw25_BalanceRuns: yours. -/
def splicelaw25_BalanceRuns.Pure : Prop := ∀ (x0 : S29) (x1 : Int), wf29 x0 → (Lit.int .i64 x1).wf = true → ∃ k, splicelaw25_BalanceRuns.f k x0.f0.f0 x0.f0.f1 x0.f0.f2 x0.f1 x0.f2.f0 x0.f2.f1 x0.f2.f2 x0.f3 x1 = some true

end Go.Proofs.Yteclhjhnbolkmaa.PU
