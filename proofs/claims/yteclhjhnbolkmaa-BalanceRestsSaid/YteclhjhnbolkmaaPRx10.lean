-- written by a program of this session
import Derived.Test.YteclhjhnbolkmaaPRx0
import Derived.Test.YteclhjhnbolkmaaPRx2
import Derived.Test.YteclhjhnbolkmaaPRx3
import Derived.Test.YteclhjhnbolkmaaPRx4
import Derived.Test.YteclhjhnbolkmaaPRx8
import Derived.Test.YteclhjhnbolkmaaPRx9
namespace Go.Proofs.Yteclhjhnbolkmaa.PR
open Go.RowKit Go.Proofs.Yteclhjhnbolkmaa.Op Go.Proofs.YteclhjhnbolkmaaW.PrintWords Go.Proofs.YteclhjhnbolkmaaW.PrintLast Go.Proofs.YteclhjhnbolkmaaW.PrintMore
attribute [local go_sem] max2_int min2_int max_two min_two max_three min_three max_four min_four   -- for this text's walks alone
set_option linter.unusedVariables false
set_option linter.unusedSimpArgs false

/-! ### splicelaw25_BalanceRests: function 6 (by hand) -/
def wgh (l : List (S70)) (lo hi : Int) : Nat → Int
  | 0 => 0
  | n + 1 => wgh l lo hi n + (if lo ≤ (rd_T70 l (n : Int)).f0 ∧ (rd_T70 l (n : Int)).f0 < hi ∧ 0 < (rd_T70 l (n : Int)).f1 then 1 else 0)
def shOk (l3 : List (S70)) (l2 : List (S67)) (s : List Int) (x4 x5 : Int) (i : Nat) : Bool := !(decide (x4 < rd s (i : Int)) && decide (1 < wgh l3 (rd_T67 l2 (i : Int)).f1.f0 (rd_T67 l2 (i : Int)).f1.f1 l3.length) && decide ((s.length : Int) < 24)) && !(decide (0 < i) && decide ((rd_T67 l2 ((i : Int) - 1)).f2 = (rd_T67 l2 (i : Int)).f2) && decide (wrap64 (rd s ((i : Int) - 1) + rd s (i : Int)) ≤ x5))
def ftF (n : List Int) : Nat → Nat × Nat
  | 0 => (0, 0)
  | i + 1 => (if rd n ((ftF n i).1 : Int) < rd n (i : Int) then i else (ftF n i).1, if rd n (i : Int) < rd n ((ftF n i).2 : Int) then i else (ftF n i).2)
def laOk (l2 : List (S67)) (s : List Int) (fr : Nat) (d x6 : Int) (i : Nat) : Bool := !(decide (x6 < d) && decide ((rd_T67 l2 (i : Int)).f2 = (fr : Int)) && decide (0 < rd s (i : Int)) && decide (rd s (i : Int) < d))
def restsB (l3 : List (S70)) (l2 : List (S67)) (s n : List Int) (x4 x5 x6 x7 : Int) : Bool :=
  decide (s.length = l2.length ∧ (n.length : Int) = x7 ∧ 1 ≤ x7 ∧ x7 ≤ 1000000) && ((List.range s.length).all (fun i => shOk l3 l2 s x4 x5 i) && (List.range s.length).all (fun i => laOk l2 s (ftF n n.length).1 (wrap64 (rd n ((ftF n n.length).1 : Int) - rd n ((ftF n n.length).2 : Int))) x6 i))
def splicelaw25_BalanceRests.f (k : Nat) (x0 x1 : Int) (l2 : List (S67)) (l3 : List (S70)) (x4 x5 x6 x7 : Int) : Option Bool :=
  if (l2.length : Int) ≤ 60 ∧ (l3.length : Int) ≤ 60 then (balance_Suggest.f k x0 x1 l2 l3 x4 x5 x6 x7).bind fun r => if r.2.2.2.2 = 0 ∧ r.2.2.2.1 = false then
      (balance_Shards.f k x0 x1 l2 l3).bind fun s => (balance_Nodes.f k x0 x1 l2 l3 x7).bind fun n => if restsB l3 l2 s.1 n.1 x4 x5 x6 x7 = true then splicelaw25_awake.f k else none
    else splicelaw25_awake.f k
  else splicelaw25_awake.f k
theorem cellR {W W' : World} (hb : Below W.heap.size W W') {a : Addr} {v : Value} (h : W.cell? a = some v) : W'.cell? a = some v := (hb.cell (World.block_lt_of_cell? W a h)).trans h
theorem rw1 (i : Nat) (h : i < 1000000000) : wrap64 ((i : Int) + 1) = ((i + 1 : Nat) : Int) := by unfold wrap64; omega
theorem rw2 (i : Nat) (h : i < 1000000000) : IntKind.i64.wrap ((i : Int) + 1) = ((i + 1 : Nat) : Int) := by rw [IntWalk.i64_in _ (by omega)]; omega
theorem rw3 (x : Int) (h0 : 0 ≤ x) (h : x < 1000000000) : wrap64 (x + 1) = x + 1 := by unfold wrap64; omega
theorem rw4 (x : Int) (h0 : 0 ≤ x) (h : x < 1000000000) : IntKind.i64.wrap (x + 1) = x + 1 := IntWalk.i64_in _ (by omega)
theorem rw5 (i : Nat) (h : i < 1000000000) : wrap64 (((i + 1 : Nat) : Int) - 1) = (i : Int) := by unfold wrap64; omega
theorem rw6 (i : Nat) (h : i < 1000000000) : IntKind.i64.wrap (((i + 1 : Nat) : Int) - 1) = (i : Int) := by rw [IntWalk.i64_in _ (by omega)]; omega
theorem wgh_le (l : List (S70)) (lo hi : Int) : ∀ n : Nat, 0 ≤ wgh l lo hi n ∧ wgh l lo hi n ≤ n := by
  intro n
  induction n with
  | zero => exact ⟨Int.le_refl _, Int.le_refl _⟩
  | succ n ih => simp only [wgh]; split <;> omega
theorem ftF_le (n : List Int) : ∀ i : Nat, 1 ≤ n.length → i ≤ n.length → (ftF n i).1 < n.length ∧ (ftF n i).2 < n.length := by
  intro i
  induction i with
  | zero => intro h _; exact ⟨h, h⟩
  | succ i ih =>
    intro h h2
    have := ih h (by omega)
    simp only [ftF]
    constructor <;> split <;> omega
set_option maxHeartbeats 16000000 in
set_option maxRecDepth 100000 in
theorem rests_walk (k : Nat) (x0 x1 : Int) (A2 : Option Addr) (c2 : Nat) (l2 : List (S67)) (A3 : Option Addr) (c3 : Nat) (l3 : List (S70)) (x4 x5 x6 x7 : Int) (w : World) (hr2 : Kd.C k67 w A2 l2.length l2) (hc2 : l2.length ≤ c2) (hr3 : Kd.C k70 w A3 l3.length l3) (hc3 : l3.length ≤ c3) (hf : (l2.length : Int) ≤ 60 ∧ (l3.length : Int) ≤ 60)
    (kd id at_ : Int) (hS : balance_Suggest.f k x0 x1 l2 l3 x4 x5 x6 x7 = some (kd, id, at_, false, 0)) (s n : List Int) (es en : Int) (hs : balance_Shards.f k x0 x1 l2 l3 = some (s, es)) (hn : balance_Nodes.f k x0 x1 l2 l3 x7 = some (n, en))
    (hok : restsB l3 l2 s n x4 x5 x6 x7 = true) (hA : splicelaw25_awake.f k = some true) :
    Calls Try.prog 6 #[.agg #[.int .i64 x0, .int .i64 x1, .slice A2 l2.length c2, .slice A3 l3.length c3, .int .i64 x4, .int .i64 x5, .int .i64 x6, .int .i64 x7]] w fun e w' => e = .returned (.bool true) ∧ Below w.heap.size w w' := by
  simp only [restsB, Bool.and_eq_true, decide_eq_true_eq, List.all_eq_true, List.mem_range] at hok
  obtain ⟨⟨hsl, hnl, hx7, hx8⟩, hsh, hla⟩ := hok
  have HR2 := Aside0.mk (And.intro hr2 hc2)
  have HR3 := Aside0.mk (And.intro hr3 hc3)
  have HS := Aside0.mk hS
  have HSs := Aside0.mk hs
  have HNn := Aside0.mk hn
  have HAw := Aside0.mk hA
  have HSH := Aside0.mk hsh
  have HLA := Aside0.mk hla
  have HFw := Aside0.mk (show splicelaw25_few.f x0 x1 l2 l3 x4 x5 x6 x7 = some true from by unfold splicelaw25_few.f; rw [if_pos hf.1, decide_eq_true hf.2])
  have HLN := Aside0.mk (And.intro hsl (And.intro hnl (And.intro hx7 (And.intro hf.1 (And.intro hf.2 hx8)))))
  have q1 : ((0 : Int) != 0) = false := rfl
  have q2 : ((s.length : Int) != (l2.length : Int)) = false := by rw [hsl]; simp
  have q3 : ((n.length : Int) != x7) = false := by rw [hnl]; simp
  have q4 : decide (x7 < 1) = false := decide_eq_false (by omega)
  clear hr2 hc2 hr3 hc3 hS hs hn hA hsh hla hsl hnl hx7 hx8 hf
  have HB := Aside0.mk ((Bx.start w).push #[.int .i64 x0, .int .i64 x1, .slice A2 l2.length c2, .slice A3 l3.length c3, .int .i64 x4, .int .i64 x5, .int .i64 x6, .int .i64 x7] 29)
  go_enter Try.func6, Try.ntmps6
  go_upto_region 1 with (fail)
  simp only [List.nil_append] at HB
  generalize w.alloc (.cells #[.int .i64 x0, .int .i64 x1, .slice A2 l2.length c2, .slice A3 l3.length c3, .int .i64 x4, .int .i64 x5, .int .i64 x6, .int .i64 x7] 29) = w2 at HB ⊢
  obtain ⟨b2, hb2⟩ : ∃ b2, b2 = w.heap.size := ⟨_, rfl⟩
  rw [← hb2] at HB
  try rw [← hb2]
  clear hb2
  have y0 : World.cell? w2 ⟨b2, 0, none⟩ = some (.int .i64 x0) := (blk_cell (HB.out.get 0 rfl) 0).trans rfl
  have y1 : World.cell? w2 ⟨b2, 1, none⟩ = some (.int .i64 x1) := (blk_cell (HB.out.get 0 rfl) 1).trans rfl
  have y2 : World.cell? w2 ⟨b2, 2, none⟩ = some (.slice A2 l2.length c2) := (blk_cell (HB.out.get 0 rfl) 2).trans rfl
  have y3 : World.cell? w2 ⟨b2, 3, none⟩ = some (.slice A3 l3.length c3) := (blk_cell (HB.out.get 0 rfl) 3).trans rfl
  have y4 : World.cell? w2 ⟨b2, 4, none⟩ = some (.int .i64 x4) := (blk_cell (HB.out.get 0 rfl) 4).trans rfl
  have y5 : World.cell? w2 ⟨b2, 5, none⟩ = some (.int .i64 x5) := (blk_cell (HB.out.get 0 rfl) 5).trans rfl
  have y6 : World.cell? w2 ⟨b2, 6, none⟩ = some (.int .i64 x6) := (blk_cell (HB.out.get 0 rfl) 6).trans rfl
  have y7 : World.cell? w2 ⟨b2, 7, none⟩ = some (.int .i64 x7) := (blk_cell (HB.out.get 0 rfl) 7).trans rfl
  have yv0 : World.cell? w2 ⟨b2, 4 + 1, none⟩ = some (.int .i64 x5) := y5
  have yv1 : World.cell? w2 ⟨b2, 4 + 2, none⟩ = some (.int .i64 x6) := y6
  have yv2 : World.cell? w2 ⟨b2, 1 + 2, none⟩ = some (.slice A3 l3.length c3) := y3
  have yv3 : World.cell? w2 ⟨b2, 2 + 1, none⟩ = some (.slice A3 l3.length c3) := y3
  have yv4 : World.cell? w2 ⟨b2, 3 + 1, none⟩ = some (.int .i64 x4) := y4
  have yv5 : World.cell? w2 ⟨b2, 3 + 2, none⟩ = some (.int .i64 x5) := y5
  have yv6 : World.cell? w2 ⟨b2, 3 + 3, none⟩ = some (.int .i64 x6) := y6
  have yv7 : World.cell? w2 ⟨b2, 0 + 2, none⟩ = some (.slice A2 l2.length c2) := y2
  go_upto_region 3 with (go_at_call 8; refine (splicelaw25_few.calls x0 x1 A2 c2 l2 A3 c3 l3 x4 x5 x6 x7 true _ (Kd.C_below HR2.out.1 HB.out.bel) HR2.out.2 (Kd.C_below HR3.out.1 HB.out.bel) HR3.out.2 HFw.out).mono ?_; rintro e w3 ⟨rfl, hb⟩; replace HB := Aside0.mk (HB.out.below hb); clear hb; clear y0 y1 y2 y3 y4 y5 y6 y7 yv0 yv1 yv2 yv3 yv4 yv5 yv6 yv7; have y0 : World.cell? w3 ⟨b2, 0, none⟩ = some (.int .i64 x0) := (blk_cell (HB.out.get 0 rfl) 0).trans rfl; have y1 : World.cell? w3 ⟨b2, 1, none⟩ = some (.int .i64 x1) := (blk_cell (HB.out.get 0 rfl) 1).trans rfl; have y2 : World.cell? w3 ⟨b2, 2, none⟩ = some (.slice A2 l2.length c2) := (blk_cell (HB.out.get 0 rfl) 2).trans rfl; have y3 : World.cell? w3 ⟨b2, 3, none⟩ = some (.slice A3 l3.length c3) := (blk_cell (HB.out.get 0 rfl) 3).trans rfl; have y4 : World.cell? w3 ⟨b2, 4, none⟩ = some (.int .i64 x4) := (blk_cell (HB.out.get 0 rfl) 4).trans rfl; have y5 : World.cell? w3 ⟨b2, 5, none⟩ = some (.int .i64 x5) := (blk_cell (HB.out.get 0 rfl) 5).trans rfl; have y6 : World.cell? w3 ⟨b2, 6, none⟩ = some (.int .i64 x6) := (blk_cell (HB.out.get 0 rfl) 6).trans rfl; have y7 : World.cell? w3 ⟨b2, 7, none⟩ = some (.int .i64 x7) := (blk_cell (HB.out.get 0 rfl) 7).trans rfl; have yv0 : World.cell? w3 ⟨b2, 4 + 1, none⟩ = some (.int .i64 x5) := y5; have yv1 : World.cell? w3 ⟨b2, 4 + 2, none⟩ = some (.int .i64 x6) := y6; have yv2 : World.cell? w3 ⟨b2, 1 + 2, none⟩ = some (.slice A3 l3.length c3) := y3; have yv3 : World.cell? w3 ⟨b2, 2 + 1, none⟩ = some (.slice A3 l3.length c3) := y3; have yv4 : World.cell? w3 ⟨b2, 3 + 1, none⟩ = some (.int .i64 x4) := y4; have yv5 : World.cell? w3 ⟨b2, 3 + 2, none⟩ = some (.int .i64 x5) := y5; have yv6 : World.cell? w3 ⟨b2, 3 + 3, none⟩ = some (.int .i64 x6) := y6; have yv7 : World.cell? w3 ⟨b2, 0 + 2, none⟩ = some (.slice A2 l2.length c2) := y2)
  go_upto_region 4 with (go_at_call 23; refine (balance_Suggest.calls k x0 x1 A2 c2 l2 A3 c3 l3 x4 x5 x6 x7 _ _ _ _ _ _ (Kd.C_below HR2.out.1 HB.out.bel) HR2.out.2 (Kd.C_below HR3.out.1 HB.out.bel) HR3.out.2 HS.out).mono ?_; rintro e w4 ⟨rfl, hb⟩; replace HB := Aside0.mk (HB.out.below hb); clear hb; clear y0 y1 y2 y3 y4 y5 y6 y7 yv0 yv1 yv2 yv3 yv4 yv5 yv6 yv7)
  replace HB := Aside0.mk (HB.out.below (below_alloc (Below.refl _ _) (.cells #[.int .i64 kd, .int .i64 id, .int .i64 at_] 54)))
  generalize w4.alloc (.cells #[.int .i64 kd, .int .i64 id, .int .i64 at_] 54) = w5 at HB ⊢
  have y0 : World.cell? w5 ⟨b2, 0, none⟩ = some (.int .i64 x0) := (blk_cell (HB.out.get 0 rfl) 0).trans rfl
  have y1 : World.cell? w5 ⟨b2, 1, none⟩ = some (.int .i64 x1) := (blk_cell (HB.out.get 0 rfl) 1).trans rfl
  have y2 : World.cell? w5 ⟨b2, 2, none⟩ = some (.slice A2 l2.length c2) := (blk_cell (HB.out.get 0 rfl) 2).trans rfl
  have y3 : World.cell? w5 ⟨b2, 3, none⟩ = some (.slice A3 l3.length c3) := (blk_cell (HB.out.get 0 rfl) 3).trans rfl
  have y4 : World.cell? w5 ⟨b2, 4, none⟩ = some (.int .i64 x4) := (blk_cell (HB.out.get 0 rfl) 4).trans rfl
  have y5 : World.cell? w5 ⟨b2, 5, none⟩ = some (.int .i64 x5) := (blk_cell (HB.out.get 0 rfl) 5).trans rfl
  have y6 : World.cell? w5 ⟨b2, 6, none⟩ = some (.int .i64 x6) := (blk_cell (HB.out.get 0 rfl) 6).trans rfl
  have y7 : World.cell? w5 ⟨b2, 7, none⟩ = some (.int .i64 x7) := (blk_cell (HB.out.get 0 rfl) 7).trans rfl
  have yv0 : World.cell? w5 ⟨b2, 4 + 1, none⟩ = some (.int .i64 x5) := y5
  have yv1 : World.cell? w5 ⟨b2, 4 + 2, none⟩ = some (.int .i64 x6) := y6
  have yv2 : World.cell? w5 ⟨b2, 1 + 2, none⟩ = some (.slice A3 l3.length c3) := y3
  have yv3 : World.cell? w5 ⟨b2, 2 + 1, none⟩ = some (.slice A3 l3.length c3) := y3
  have yv4 : World.cell? w5 ⟨b2, 3 + 1, none⟩ = some (.int .i64 x4) := y4
  have yv5 : World.cell? w5 ⟨b2, 3 + 2, none⟩ = some (.int .i64 x5) := y5
  have yv6 : World.cell? w5 ⟨b2, 3 + 3, none⟩ = some (.int .i64 x6) := y6
  have yv7 : World.cell? w5 ⟨b2, 0 + 2, none⟩ = some (.slice A2 l2.length c2) := y2
  go_upto_region 7 with (go_at_call 12; refine (balance_Shards.calls k x0 x1 A2 c2 l2 A3 c3 l3 _ _ _ (Kd.C_below HR2.out.1 HB.out.bel) HR2.out.2 (Kd.C_below HR3.out.1 HB.out.bel) HR3.out.2 HSs.out).mono ?_; rintro e w6 ⟨v2, rfl, hR, hb⟩; obtain ⟨As, cs, rfl⟩ := Kd.R_slice hR; have HRs := Aside0.mk (Kd.R_reads' hR); replace HB := Aside0.mk (HB.out.below hb); clear hb hR; clear y0 y1 y2 y3 y4 y5 y6 y7 yv0 yv1 yv2 yv3 yv4 yv5 yv6 yv7)
  have y0 : World.cell? w6 ⟨b2, 0, none⟩ = some (.int .i64 x0) := (blk_cell (HB.out.get 0 rfl) 0).trans rfl
  have y1 : World.cell? w6 ⟨b2, 1, none⟩ = some (.int .i64 x1) := (blk_cell (HB.out.get 0 rfl) 1).trans rfl
  have y2 : World.cell? w6 ⟨b2, 2, none⟩ = some (.slice A2 l2.length c2) := (blk_cell (HB.out.get 0 rfl) 2).trans rfl
  have y3 : World.cell? w6 ⟨b2, 3, none⟩ = some (.slice A3 l3.length c3) := (blk_cell (HB.out.get 0 rfl) 3).trans rfl
  have y4 : World.cell? w6 ⟨b2, 4, none⟩ = some (.int .i64 x4) := (blk_cell (HB.out.get 0 rfl) 4).trans rfl
  have y5 : World.cell? w6 ⟨b2, 5, none⟩ = some (.int .i64 x5) := (blk_cell (HB.out.get 0 rfl) 5).trans rfl
  have y6 : World.cell? w6 ⟨b2, 6, none⟩ = some (.int .i64 x6) := (blk_cell (HB.out.get 0 rfl) 6).trans rfl
  have y7 : World.cell? w6 ⟨b2, 7, none⟩ = some (.int .i64 x7) := (blk_cell (HB.out.get 0 rfl) 7).trans rfl
  have yv0 : World.cell? w6 ⟨b2, 4 + 1, none⟩ = some (.int .i64 x5) := y5
  have yv1 : World.cell? w6 ⟨b2, 4 + 2, none⟩ = some (.int .i64 x6) := y6
  have yv2 : World.cell? w6 ⟨b2, 1 + 2, none⟩ = some (.slice A3 l3.length c3) := y3
  have yv3 : World.cell? w6 ⟨b2, 2 + 1, none⟩ = some (.slice A3 l3.length c3) := y3
  have yv4 : World.cell? w6 ⟨b2, 3 + 1, none⟩ = some (.int .i64 x4) := y4
  have yv5 : World.cell? w6 ⟨b2, 3 + 2, none⟩ = some (.int .i64 x5) := y5
  have yv6 : World.cell? w6 ⟨b2, 3 + 3, none⟩ = some (.int .i64 x6) := y6
  have yv7 : World.cell? w6 ⟨b2, 0 + 2, none⟩ = some (.slice A2 l2.length c2) := y2
  go_upto_region 8 with (go_at_call 13; refine (balance_Nodes.calls k x0 x1 A2 c2 l2 A3 c3 l3 x7 _ _ _ (Kd.C_below HR2.out.1 HB.out.bel) HR2.out.2 (Kd.C_below HR3.out.1 HB.out.bel) HR3.out.2 HNn.out).mono ?_; rintro e w7 ⟨v2, rfl, hR, hb⟩; obtain ⟨An, cn, rfl⟩ := Kd.R_slice hR; have HCn := Aside0.mk (Kd.R_reads' hR).2.2; have HCs := Aside0.mk (Kd.C_below HRs.out.2.2 hb); replace HB := Aside0.mk (HB.out.below hb); clear hb hR HRs; clear y0 y1 y2 y3 y4 y5 y6 y7 yv0 yv1 yv2 yv3 yv4 yv5 yv6 yv7)
  have y0 : World.cell? w7 ⟨b2, 0, none⟩ = some (.int .i64 x0) := (blk_cell (HB.out.get 0 rfl) 0).trans rfl
  have y1 : World.cell? w7 ⟨b2, 1, none⟩ = some (.int .i64 x1) := (blk_cell (HB.out.get 0 rfl) 1).trans rfl
  have y2 : World.cell? w7 ⟨b2, 2, none⟩ = some (.slice A2 l2.length c2) := (blk_cell (HB.out.get 0 rfl) 2).trans rfl
  have y3 : World.cell? w7 ⟨b2, 3, none⟩ = some (.slice A3 l3.length c3) := (blk_cell (HB.out.get 0 rfl) 3).trans rfl
  have y4 : World.cell? w7 ⟨b2, 4, none⟩ = some (.int .i64 x4) := (blk_cell (HB.out.get 0 rfl) 4).trans rfl
  have y5 : World.cell? w7 ⟨b2, 5, none⟩ = some (.int .i64 x5) := (blk_cell (HB.out.get 0 rfl) 5).trans rfl
  have y6 : World.cell? w7 ⟨b2, 6, none⟩ = some (.int .i64 x6) := (blk_cell (HB.out.get 0 rfl) 6).trans rfl
  have y7 : World.cell? w7 ⟨b2, 7, none⟩ = some (.int .i64 x7) := (blk_cell (HB.out.get 0 rfl) 7).trans rfl
  have yv0 : World.cell? w7 ⟨b2, 4 + 1, none⟩ = some (.int .i64 x5) := y5
  have yv1 : World.cell? w7 ⟨b2, 4 + 2, none⟩ = some (.int .i64 x6) := y6
  have yv2 : World.cell? w7 ⟨b2, 1 + 2, none⟩ = some (.slice A3 l3.length c3) := y3
  have yv3 : World.cell? w7 ⟨b2, 2 + 1, none⟩ = some (.slice A3 l3.length c3) := y3
  have yv4 : World.cell? w7 ⟨b2, 3 + 1, none⟩ = some (.int .i64 x4) := y4
  have yv5 : World.cell? w7 ⟨b2, 3 + 2, none⟩ = some (.int .i64 x5) := y5
  have yv6 : World.cell? w7 ⟨b2, 3 + 3, none⟩ = some (.int .i64 x6) := y6
  have yv7 : World.cell? w7 ⟨b2, 0 + 2, none⟩ = some (.slice A2 l2.length c2) := y2
  have HC2 := Aside0.mk (Kd.C_below HR2.out.1 HB.out.bel)
  have HC3 := Aside0.mk (Kd.C_below HR3.out.1 HB.out.bel)
  have HBel := Aside0.mk HB.out.bel
  have Y0 := Aside0.mk y0
  have Y1 := Aside0.mk y1
  have Y2 := Aside0.mk y2
  have Y3 := Aside0.mk y3
  have Y4 := Aside0.mk y4
  have Y5 := Aside0.mk y5
  have Y6 := Aside0.mk y6
  have Y7 := Aside0.mk y7
  have HI : Aside0 (Below w7.heap.size w7 w7) := ⟨Below.refl _ _⟩
  clear HB HS HSs HNn HFw q1
  go_wp2
  clear y0 y1 y2 y3 y4 y5 y6 y7 yv0 yv1 yv2 yv3 yv4 yv5 yv6 yv7
  clear q2 q3 q4
  go_loopg [10] s.length (fun gg v10 W => ∃ i : Nat, v10 = .int .i64 i ∧ i ≤ s.length ∧ s.length - i ≤ gg ∧ Aside0 (Below w7.heap.size w7 W))
  case atStart => exact ⟨0, rfl, Nat.zero_le _, Nat.le_refl _, HI⟩
  case round =>
    clear HI
    obtain ⟨i, rfl, hi, hgi, HI⟩ := hrel
    have hsl := HLN.out.1
    have hl2 := HLN.out.2.2.2.1
    have hl3 := HLN.out.2.2.2.2.1
    by_cases hlt : i < s.length
    case neg =>
      have hi0 : i = s.length := by omega
      subst hi0
      clear hgi hi hlt
      have y0 := cellR HI.out Y0.out
      have y1 := cellR HI.out Y1.out
      have y2 := cellR HI.out Y2.out
      have y3 := cellR HI.out Y3.out
      have y4 := cellR HI.out Y4.out
      have y5 := cellR HI.out Y5.out
      have y6 := cellR HI.out Y6.out
      have y7 := cellR HI.out Y7.out
      have yv0 : World.cell? _ ⟨b2, 4 + 1, none⟩ = some _ := y5
      have yv1 : World.cell? _ ⟨b2, 4 + 2, none⟩ = some _ := y6
      have yv2 : World.cell? _ ⟨b2, 1 + 2, none⟩ = some _ := y3
      have yv3 : World.cell? _ ⟨b2, 2 + 1, none⟩ = some _ := y3
      have yv4 : World.cell? _ ⟨b2, 3 + 1, none⟩ = some _ := y4
      have yv5 : World.cell? _ ⟨b2, 3 + 2, none⟩ = some _ := y5
      have yv6 : World.cell? _ ⟨b2, 3 + 3, none⟩ = some _ := y6
      have yv7 : World.cell? _ ⟨b2, 0 + 2, none⟩ = some _ := y2
      go_wp2
      clear y0 y1 y2 y3 y4 y5 y6 y7 yv0 yv1 yv2 yv3 yv4 yv5 yv6 yv7
      go_loopg [14, 15, 16] n.length (fun gg v14 v15 v16 W => ∃ i : Nat, v14 = .int .i64 ((ftF n i).1 : Int) ∧ v15 = .int .i64 ((ftF n i).2 : Int) ∧ v16 = .int .i64 i ∧ i ≤ n.length ∧ n.length - i ≤ gg ∧ Aside0 (Below w7.heap.size w7 W))
      case atStart => exact ⟨0, rfl, rfl, rfl, Nat.zero_le _, Nat.le_refl _, HI⟩
      case round =>
        clear HI
        obtain ⟨i, rfl, rfl, rfl, hi, hgi, HI⟩ := hrel
        have hnl := HLN.out.2.1
        have hx7 := HLN.out.2.2.1
        have hft := ftF_le n i (by omega) hi
        have hn5 : n.length ≤ 1000000 := by have := HLN.out.2.2.2.2.2; omega
        by_cases hlt : i < n.length
        case neg =>
          have hi0 : i = n.length := by omega
          subst hi0
          clear hgi hi hlt
          generalize hfr : (ftF n n.length).1 = fr at hft ⊢
          generalize hto : (ftF n n.length).2 = to_ at hft ⊢
          have HLA2 := HLA
          rw [hfr, hto] at HLA2
          clear hfr hto HLA
          obtain ⟨an, e, z1⟩ := Kd.at_int HCn.out (fr : Int) (by omega) (by omega)
          obtain ⟨an2, e2, z2⟩ := Kd.at_int HCn.out (to_ : Int) (by omega) (by omega)
          subst e
          cases e2
          rw [Int.toNat_natCast] at z1 z2
          replace z1 := cellR HI.out z1
          replace z2 := cellR HI.out z2
          have g1 : (0 : Int) ≤ (fr : Int) := by omega
          have g2 : (fr : Int) < (n.length : Int) := by omega
          have g3 : (0 : Int) ≤ (to_ : Int) := by omega
          have g4 : (to_ : Int) < (n.length : Int) := by omega
          have g5 : fr < n.length := hft.1
          have g6 : to_ < n.length := hft.2
          clear hft
          go_wp2
          repeat (go_quiet (fail); try go_wp2)
          clear z1 z2 g1 g2 g3 g4 g5 g6
          generalize rd n (fr : Int) = nf at HLA2 ⊢
          generalize rd n (to_ : Int) = nt at HLA2 ⊢
          generalize wrap64 (nf - nt) = d at HLA2 ⊢
          go_loopg [18] s.length (fun gg v18 W => ∃ i : Nat, v18 = .int .i64 i ∧ i ≤ s.length ∧ s.length - i ≤ gg ∧ Aside0 (Below w7.heap.size w7 W))
          case atStart => exact ⟨0, rfl, Nat.zero_le _, Nat.le_refl _, ⟨by first | exact HI.out | exact below_drew HI.out | exact pw_below_drewN HI.out _⟩⟩
          case round =>
            clear HI
            obtain ⟨i, rfl, hi, hgi, HI⟩ := hrel
            by_cases hlt : i < s.length
            case neg =>
              have hi0 : i = s.length := by omega
              subst hi0
              clear hgi hi hlt
              have y0 := cellR HI.out Y0.out
              have y1 := cellR HI.out Y1.out
              have y2 := cellR HI.out Y2.out
              have y3 := cellR HI.out Y3.out
              have y4 := cellR HI.out Y4.out
              have y5 := cellR HI.out Y5.out
              have y6 := cellR HI.out Y6.out
              have y7 := cellR HI.out Y7.out
              have yv0 : World.cell? _ ⟨b2, 4 + 1, none⟩ = some _ := y5
              have yv1 : World.cell? _ ⟨b2, 4 + 2, none⟩ = some _ := y6
              have yv2 : World.cell? _ ⟨b2, 1 + 2, none⟩ = some _ := y3
              have yv3 : World.cell? _ ⟨b2, 2 + 1, none⟩ = some _ := y3
              have yv4 : World.cell? _ ⟨b2, 3 + 1, none⟩ = some _ := y4
              have yv5 : World.cell? _ ⟨b2, 3 + 2, none⟩ = some _ := y5
              have yv6 : World.cell? _ ⟨b2, 3 + 3, none⟩ = some _ := y6
              have yv7 : World.cell? _ ⟨b2, 0 + 2, none⟩ = some _ := y2
              go_wp2_with (go_at_call 9; refine (splicelaw25_awake.calls k true _ HAw.out rfl).mono ?_; rintro e w9 ⟨rfl, hb⟩)
              go_ret
              exact ⟨rfl, HBel.out.trans ((below_then HI.out HI.out.size hb).mono HBel.out.size)⟩
            have hla := HLA2.out i hlt
            skip
            obtain ⟨ad, e, z0, z1, z2, z3⟩ := at_T67 HC2.out (i : Int) (by omega) (by omega)
            obtain ⟨sa, e2, z4⟩ := Kd.at_int HCs.out (i : Int) (by omega) (by omega)
            subst e e2
            rw [Int.toNat_natCast] at z0 z1 z2 z3 z4
            replace z3 := cellR HI.out z3
            replace z4 := cellR HI.out z4
            clear z0 z1 z2
            have y0 := cellR HI.out Y0.out
            have y1 := cellR HI.out Y1.out
            have y2 := cellR HI.out Y2.out
            have y3 := cellR HI.out Y3.out
            have y4 := cellR HI.out Y4.out
            have y5 := cellR HI.out Y5.out
            have y6 := cellR HI.out Y6.out
            have y7 := cellR HI.out Y7.out
            have yv0 : World.cell? _ ⟨b2, 4 + 1, none⟩ = some _ := y5
            have yv1 : World.cell? _ ⟨b2, 4 + 2, none⟩ = some _ := y6
            have yv2 : World.cell? _ ⟨b2, 1 + 2, none⟩ = some _ := y3
            have yv3 : World.cell? _ ⟨b2, 2 + 1, none⟩ = some _ := y3
            have yv4 : World.cell? _ ⟨b2, 3 + 1, none⟩ = some _ := y4
            have yv5 : World.cell? _ ⟨b2, 3 + 2, none⟩ = some _ := y5
            have yv6 : World.cell? _ ⟨b2, 3 + 3, none⟩ = some _ := y6
            have yv7 : World.cell? _ ⟨b2, 0 + 2, none⟩ = some _ := y2
            simp only [laOk] at hla
            generalize (rd_T67 l2 (i : Int)).f2 = nd at z3 hla
            generalize rd s (i : Int) = sh at z4 hla
            have g1 : (0 : Int) ≤ (i : Int) := by omega
            have g2 : (i : Int) < (s.length : Int) := by omega
            have g3 : (i : Int) < (l2.length : Int) := by omega
            have g4 : i < l2.length := by omega
            have hr1 : i + 1 ≤ s.length := hlt
            have hr2 : s.length - (i + 1) < gk := by omega
            have hb9 : i < 1000000000 := by omega
            have hw := rw1 i hb9
            have hw2 := rw2 i hb9
            clear hb9
            have hq : (decide (x6 < d) = false) ∨ (decide (x6 < d) = true ∧ (nd == (fr : Int)) = false) ∨ (decide (x6 < d) = true ∧ (nd == (fr : Int)) = true ∧ decide (0 < sh) = false) ∨ (decide (x6 < d) = true ∧ (nd == (fr : Int)) = true ∧ decide (0 < sh) = true ∧ decide (sh < d) = false) := by
              clear hw z3 z4
              by_cases c1 : x6 < d
              case neg => exact Or.inl (decide_eq_false c1)
              by_cases c2 : nd = (fr : Int)
              case neg => exact Or.inr (Or.inl ⟨decide_eq_true c1, beq_eq_false_iff_ne.mpr c2⟩)
              by_cases c3 : 0 < sh
              case neg => exact Or.inr (Or.inr (Or.inl ⟨decide_eq_true c1, beq_iff_eq.mpr c2, decide_eq_false c3⟩))
              by_cases c4 : sh < d
              case neg => exact Or.inr (Or.inr (Or.inr ⟨decide_eq_true c1, beq_iff_eq.mpr c2, decide_eq_true c3, decide_eq_false c4⟩))
              rw [decide_eq_true c1, decide_eq_true c2, decide_eq_true c3, decide_eq_true c4] at hla
              exact absurd hla (by decide)
            clear hla
            rcases hq with c1 | ⟨c1, c2⟩ | ⟨c1, c2, c3⟩ | ⟨c1, c2, c3, c4⟩
            all_goals
              go_wp2
              repeat (go_quiet (fail); try go_wp2)
              go_roundg (s.length - (i + 1))
              case measure => exact hr2
              case rel => exact ⟨i + 1, by first | rfl | go_num, hr1, Nat.le_refl _, ⟨by repeat (with_reducible first | exact HI.out | refine pw_below_drewN ?_ _ | refine below_drew ?_)⟩⟩
        obtain ⟨an, e, z1⟩ := Kd.at_int HCn.out (i : Int) (by omega) (by omega)
        obtain ⟨an2, e2, z2⟩ := Kd.at_int HCn.out ((ftF n i).1 : Int) (by omega) (by omega)
        obtain ⟨an3, e3, z3⟩ := Kd.at_int HCn.out ((ftF n i).2 : Int) (by omega) (by omega)
        subst e
        cases e2
        cases e3
        rw [Int.toNat_natCast] at z1 z2 z3
        replace z1 := cellR HI.out z1
        replace z2 := cellR HI.out z2
        replace z3 := cellR HI.out z3
        have hf1 : (ftF n (i + 1)).1 = if rd n ((ftF n i).1 : Int) < rd n (i : Int) then i else (ftF n i).1 := rfl
        have hf2 : (ftF n (i + 1)).2 = if rd n (i : Int) < rd n ((ftF n i).2 : Int) then i else (ftF n i).2 := rfl
        have HF1 := Aside0.mk hf1
        have HF2 := Aside0.mk hf2
        clear hf1 hf2
        generalize (ftF n i).1 = fr at hft z2 HF1 ⊢
        generalize (ftF n i).2 = to_ at hft z3 HF2 ⊢
        generalize rd n (fr : Int) = nf at z2 HF1
        generalize rd n (to_ : Int) = nt at z3 HF2
        generalize rd n (i : Int) = ni at z1 HF1 HF2
        have g1 : (0 : Int) ≤ (i : Int) := by omega
        have g2 : (i : Int) < (n.length : Int) := by omega
        have g3 : (0 : Int) ≤ (fr : Int) := by omega
        have g4 : (fr : Int) < (n.length : Int) := by omega
        have g5 : (0 : Int) ≤ (to_ : Int) := by omega
        have g6 : (to_ : Int) < (n.length : Int) := by omega
        have g7 : fr < n.length := hft.1
        have g8 : to_ < n.length := hft.2
        have hr1 : i + 1 ≤ n.length := hlt
        have hr2 : n.length - (i + 1) < gk := by omega
        have hb9 : i < 1000000000 := by omega
        have hw := rw1 i hb9
        have hw2 := rw2 i hb9
        clear hb9
        clear hft
        have hq : ((decide (nf < ni) = true ∧ (ftF n (i + 1)).1 = i) ∨ (decide (nf < ni) = false ∧ (ftF n (i + 1)).1 = fr)) ∧ ((decide (ni < nt) = true ∧ (ftF n (i + 1)).2 = i) ∨ (decide (ni < nt) = false ∧ (ftF n (i + 1)).2 = to_)) := by
          have e1 := HF1.out
          have e2 := HF2.out
          constructor
          · by_cases c : nf < ni
            · rw [if_pos c] at e1; exact Or.inl ⟨decide_eq_true c, e1⟩
            · rw [if_neg c] at e1; exact Or.inr ⟨decide_eq_false c, e1⟩
          · by_cases c : ni < nt
            · rw [if_pos c] at e2; exact Or.inl ⟨decide_eq_true c, e2⟩
            · rw [if_neg c] at e2; exact Or.inr ⟨decide_eq_false c, e2⟩
        clear HF1 HF2
        obtain ⟨hq1, hq2⟩ := hq
        rcases hq1 with ⟨c1, E1⟩ | ⟨c1, E1⟩ <;> rcases hq2 with ⟨c2, E2⟩ | ⟨c2, E2⟩
        all_goals
          have HE := Aside0.mk (And.intro E1 E2)
          clear E1 E2 hnl hx7 hsl hl2 hl3 hn5
          go_wp2
          repeat (go_quiet (fail); try go_wp2)
          go_roundg (n.length - (i + 1))
          case measure => exact hr2
          case rel => exact ⟨i + 1, congrArg (fun z : Nat => Value.int .i64 (z : Int)) HE.out.1.symm, congrArg (fun z : Nat => Value.int .i64 (z : Int)) HE.out.2.symm, by first | rfl | go_num, hr1, Nat.le_refl _, ⟨by repeat (with_reducible first | exact HI.out | refine pw_below_drewN ?_ _ | refine below_drew ?_)⟩⟩
    have hR1 : i + 1 ≤ s.length := hlt
    have hR2 : s.length - (i + 1) < gk := by omega
    obtain ⟨ad, e, z0, z1, z2, z3⟩ := at_T67 HC2.out (i : Int) (by omega) (by omega)
    obtain ⟨sa, e2, z4⟩ := Kd.at_int HCs.out (i : Int) (by omega) (by omega)
    subst e e2
    rw [Int.toNat_natCast] at z0 z1 z2 z3 z4
    have Z1 := Aside0.mk z1
    have Z2 := Aside0.mk z2
    have Z3 := Aside0.mk z3
    have Z4 := Aside0.mk z4
    clear z0 z1 z2 z3 z4
    have g1 : (0 : Int) ≤ (i : Int) := by omega
    have g2 : (i : Int) < (s.length : Int) := by omega
    have g3 : (i : Int) < (l2.length : Int) := by omega
    have g4 : i < l2.length := by omega
    go_wp2
    go_loopg [11, 12] l3.length (fun gg v11 v12 W => ∃ j : Nat, v11 = .int .i64 (wgh l3 (rd_T67 l2 (i : Int)).f1.f0 (rd_T67 l2 (i : Int)).f1.f1 j) ∧ v12 = .int .i64 j ∧ j ≤ l3.length ∧ l3.length - j ≤ gg ∧ Aside0 (Below w7.heap.size w7 W))
    case atStart => exact ⟨0, rfl, rfl, Nat.zero_le _, Nat.le_refl _, HI⟩
    case round =>
      clear HI
      obtain ⟨j, rfl, rfl, hj, hgj, HI⟩ := hrel
      by_cases hjt : j < l3.length
      case neg =>
        have hj0 : j = l3.length := by omega
        subst hj0
        clear hgj hj hjt
        have hsh := HSH.out i hlt
        simp only [shOk, Bool.and_eq_true, Bool.not_eq_true'] at hsh
        obtain ⟨h1, h2⟩ := hsh
        have y0 := cellR HI.out Y0.out
        have y1 := cellR HI.out Y1.out
        have y2 := cellR HI.out Y2.out
        have y3 := cellR HI.out Y3.out
        have y4 := cellR HI.out Y4.out
        have y5 := cellR HI.out Y5.out
        have y6 := cellR HI.out Y6.out
        have y7 := cellR HI.out Y7.out
        have yv0 : World.cell? _ ⟨b2, 4 + 1, none⟩ = some _ := y5
        have yv1 : World.cell? _ ⟨b2, 4 + 2, none⟩ = some _ := y6
        have yv2 : World.cell? _ ⟨b2, 1 + 2, none⟩ = some _ := y3
        have yv3 : World.cell? _ ⟨b2, 2 + 1, none⟩ = some _ := y3
        have yv4 : World.cell? _ ⟨b2, 3 + 1, none⟩ = some _ := y4
        have yv5 : World.cell? _ ⟨b2, 3 + 2, none⟩ = some _ := y5
        have yv6 : World.cell? _ ⟨b2, 3 + 3, none⟩ = some _ := y6
        have yv7 : World.cell? _ ⟨b2, 0 + 2, none⟩ = some _ := y2
        have z3 := cellR HI.out Z3.out
        have z4 := cellR HI.out Z4.out
        have hwl := wgh_le l3 (rd_T67 l2 (i : Int)).f1.f0 (rd_T67 l2 (i : Int)).f1.f1 l3.length
        generalize wgh l3 (rd_T67 l2 (i : Int)).f1.f0 (rd_T67 l2 (i : Int)).f1.f1 l3.length = wg at h1 hwl ⊢
        have hq : decide (x4 < rd s (i : Int)) = false ∨ (decide (x4 < rd s (i : Int)) = true ∧ decide (1 < wg) = false) ∨ (decide (x4 < rd s (i : Int)) = true ∧ decide (1 < wg) = true ∧ decide ((s.length : Int) < 24) = false ∧ decide (s.length < 24) = false) := by
          by_cases c1 : x4 < rd s (i : Int)
          case neg => exact Or.inl (decide_eq_false c1)
          by_cases c2 : 1 < wg
          case neg => exact Or.inr (Or.inl ⟨decide_eq_true c1, decide_eq_false c2⟩)
          by_cases c3 : (s.length : Int) < 24
          case neg => exact Or.inr (Or.inr ⟨decide_eq_true c1, decide_eq_true c2, decide_eq_false c3, decide_eq_false (by omega)⟩)
          rw [decide_eq_true c1, decide_eq_true c2, decide_eq_true c3] at h1
          exact absurd h1 (by decide)
        clear h1 hwl
        have hr1 := hR1
        have hr2 := hR2
        clear hR1 hR2
        have hb9 : i < 1000000000 := by omega
        have hw := rw1 i hb9
        have hw2 := rw2 i hb9
        clear hb9 hsl hl2 hl3
        by_cases hi1 : 0 < i
        case neg =>
          have g5 : decide ((0 : Int) < (i : Int)) = false := decide_eq_false (by omega)
          have g5_ : decide ((i : Int) > 0) = false := g5
          have g5n : decide (0 < i) = false := decide_eq_false hi1
          clear h2 hi1
          rcases hq with c1 | ⟨c1, c2⟩ | ⟨c1, c2, c3, c4⟩
          all_goals
            go_wp2
            repeat (go_quiet (fail); try go_wp2)
            go_roundg (s.length - (i + 1))
            case measure => exact hr2
            case rel => exact ⟨i + 1, by first | rfl | go_num, hr1, Nat.le_refl _, ⟨by repeat (with_reducible first | exact HI.out | refine pw_below_drewN ?_ _ | refine below_drew ?_)⟩⟩
        obtain ⟨m, hm⟩ : ∃ m, i = m + 1 := ⟨i - 1, by omega⟩
        have hms : m < s.length := by omega
        have hml : (m : Int) < (l2.length : Int) := by omega
        have hml2 : m < l2.length := by omega
        obtain ⟨ad2, e, z0, z1, z2, z5⟩ := at_T67 HC2.out (m : Int) (by omega) (by omega)
        obtain ⟨sa2, e2, z6⟩ := Kd.at_int HCs.out (m : Int) (by omega) (by omega)
        cases e
        cases e2
        rw [Int.toNat_natCast] at z5 z6
        clear z0 z1 z2
        replace z5 := cellR HI.out z5
        replace z6 := cellR HI.out z6
        have hm1 : (i : Int) - 1 = (m : Int) := by omega
        rw [hm1] at h2
        clear hm1
        generalize (rd_T67 l2 (m : Int)).f2 = n1 at z5 h2
        generalize (rd_T67 l2 (i : Int)).f2 = n2 at z3 h2
        generalize rd s (m : Int) = s1 at z6 h2
        generalize rd s (i : Int) = s2 at z4 hq h2
        have hq2 : (n1 == n2) = false ∨ ((n1 == n2) = true ∧ decide (wrap64 (s1 + s2) ≤ x5) = false) := by
          by_cases c1 : n1 = n2
          case neg => exact Or.inl (beq_eq_false_iff_ne.mpr c1)
          by_cases c2 : wrap64 (s1 + s2) ≤ x5
          case neg => exact Or.inr ⟨beq_iff_eq.mpr c1, decide_eq_false c2⟩
          rw [decide_eq_true hi1, decide_eq_true c1, decide_eq_true c2] at h2
          exact absurd h2 (by decide)
        clear h2
        have g5 : decide ((i : Int) > 0) = true := decide_eq_true (by omega)
        have g6 : decide ((0 : Int) < (i : Int)) = true := decide_eq_true (by omega)
        have g12 : m < 1000000000 := by have := HLN.out.2.2.2.1; have := HLN.out.1; omega
        have g6n : decide (0 < i) = true := decide_eq_true hi1
        have g9 : (m : Int) < (s.length : Int) := by omega
        have g11 : (0 : Int) ≤ (m : Int) := by omega
        have g7 := rw5 m g12
        have g8 := rw6 m g12
        rw [← hm] at g7 g8
        clear g12 hm hi1
        rcases hq with c1 | ⟨c1, c2⟩ | ⟨c1, c2, c3, c4⟩ <;> rcases hq2 with d1 | ⟨d1, d2⟩
        all_goals
          go_wp2
          repeat (go_quiet (fail); try go_wp2)
          go_roundg (s.length - (i + 1))
          case measure => exact hr2
          case rel => exact ⟨i + 1, by first | rfl | go_num, hr1, Nat.le_refl _, ⟨by repeat (with_reducible first | exact HI.out | refine pw_below_drewN ?_ _ | refine below_drew ?_)⟩⟩
      have y0 := cellR HI.out Y0.out
      have y1 := cellR HI.out Y1.out
      have y2 := cellR HI.out Y2.out
      have y3 := cellR HI.out Y3.out
      have y4 := cellR HI.out Y4.out
      have y5 := cellR HI.out Y5.out
      have y6 := cellR HI.out Y6.out
      have y7 := cellR HI.out Y7.out
      have yv0 : World.cell? _ ⟨b2, 4 + 1, none⟩ = some _ := y5
      have yv1 : World.cell? _ ⟨b2, 4 + 2, none⟩ = some _ := y6
      have yv2 : World.cell? _ ⟨b2, 1 + 2, none⟩ = some _ := y3
      have yv3 : World.cell? _ ⟨b2, 2 + 1, none⟩ = some _ := y3
      have yv4 : World.cell? _ ⟨b2, 3 + 1, none⟩ = some _ := y4
      have yv5 : World.cell? _ ⟨b2, 3 + 2, none⟩ = some _ := y5
      have yv6 : World.cell? _ ⟨b2, 3 + 3, none⟩ = some _ := y6
      have yv7 : World.cell? _ ⟨b2, 0 + 2, none⟩ = some _ := y2
      have z1 := cellR HI.out Z1.out
      have z2 := cellR HI.out Z2.out
      generalize hlo : (rd_T67 l2 (i : Int)).f1.f0 = lo at z1 ⊢
      generalize hhi : (rd_T67 l2 (i : Int)).f1.f1 = hi9 at z2 ⊢
      have HLO := Aside0.mk (And.intro hlo hhi)
      clear hlo hhi
      go_upto_region 18 with (fail)
      clear z1 z2
      clear y0 y1 y2 y3 y4 y5 y6 y7 yv0 yv1 yv2 yv3 yv4 yv5 yv6 yv7
      have K8 := Aside0.mk (blk_new wr (.cells #[.int .i64 lo, .int .i64 hi9] 65))
      have HI8 : Aside0 (Below w7.heap.size w7 (wr.alloc (.cells #[.int .i64 lo, .int .i64 hi9] 65))) := ⟨HI.out.alloc HI.out.size _⟩
      clear HI
      generalize wr.alloc (.cells #[.int .i64 lo, .int .i64 hi9] 65) = w8 at K8 HI8 ⊢
      generalize wr.heap.size = b8 at K8 ⊢
      have k0 : World.cell? w8 ⟨b8, 0, none⟩ = some (.int .i64 lo) := blk_cell K8.out 0
      have k1 : World.cell? w8 ⟨b8, 1, none⟩ = some (.int .i64 hi9) := blk_cell K8.out 1
      clear K8
      obtain ⟨ap, e, z5, z6⟩ := at_T70 HC3.out (j : Int) (by omega) (by omega)
      subst e
      rw [Int.toNat_natCast] at z5 z6
      replace z5 := cellR HI8.out z5
      replace z6 := cellR HI8.out z6
      have hwj := wgh_le l3 lo hi9 j
      have HWJ : Aside0 (wgh l3 lo hi9 (j + 1) = wgh l3 lo hi9 j + (if lo ≤ (rd_T70 l3 (j : Int)).f0 ∧ (rd_T70 l3 (j : Int)).f0 < hi9 ∧ 0 < (rd_T70 l3 (j : Int)).f1 then 1 else 0)) := ⟨rfl⟩
      generalize (rd_T70 l3 (j : Int)).f0 = pk at z5 HWJ
      generalize (rd_T70 l3 (j : Int)).f1 = pv at z6 HWJ
      have y0 := cellR HI8.out Y0.out
      have y1 := cellR HI8.out Y1.out
      have y2 := cellR HI8.out Y2.out
      have y3 := cellR HI8.out Y3.out
      have y4 := cellR HI8.out Y4.out
      have y5 := cellR HI8.out Y5.out
      have y6 := cellR HI8.out Y6.out
      have y7 := cellR HI8.out Y7.out
      have yv0 : World.cell? _ ⟨b2, 4 + 1, none⟩ = some _ := y5
      have yv1 : World.cell? _ ⟨b2, 4 + 2, none⟩ = some _ := y6
      have yv2 : World.cell? _ ⟨b2, 1 + 2, none⟩ = some _ := y3
      have yv3 : World.cell? _ ⟨b2, 2 + 1, none⟩ = some _ := y3
      have yv4 : World.cell? _ ⟨b2, 3 + 1, none⟩ = some _ := y4
      have yv5 : World.cell? _ ⟨b2, 3 + 2, none⟩ = some _ := y5
      have yv6 : World.cell? _ ⟨b2, 3 + 3, none⟩ = some _ := y6
      have yv7 : World.cell? _ ⟨b2, 0 + 2, none⟩ = some _ := y2
      have j1 : (0 : Int) ≤ (j : Int) := by omega
      have j2 : (j : Int) < (l3.length : Int) := by omega
      have hr1 : j + 1 ≤ l3.length := hjt
      have hr2 : l3.length - (j + 1) < gk := by omega
      have hq : (decide (lo ≤ pk) = false ∧ wgh l3 lo hi9 (j + 1) = wgh l3 lo hi9 j) ∨ (decide (lo ≤ pk) = true ∧ decide (pk < hi9) = false ∧ wgh l3 lo hi9 (j + 1) = wgh l3 lo hi9 j) ∨ (decide (lo ≤ pk) = true ∧ decide (pk < hi9) = true ∧ decide (0 < pv) = false ∧ wgh l3 lo hi9 (j + 1) = wgh l3 lo hi9 j) ∨ (decide (lo ≤ pk) = true ∧ decide (pk < hi9) = true ∧ decide (0 < pv) = true ∧ wgh l3 lo hi9 (j + 1) = wgh l3 lo hi9 j + 1) := by
        have e := HWJ.out
        by_cases c1 : lo ≤ pk
        case neg => rw [if_neg (fun q => c1 q.1)] at e; exact Or.inl ⟨decide_eq_false c1, by omega⟩
        by_cases c2 : pk < hi9
        case neg => rw [if_neg (fun q => c2 q.2.1)] at e; exact Or.inr (Or.inl ⟨decide_eq_true c1, decide_eq_false c2, by omega⟩)
        by_cases c3 : 0 < pv
        case neg => rw [if_neg (fun q => c3 q.2.2)] at e; exact Or.inr (Or.inr (Or.inl ⟨decide_eq_true c1, decide_eq_true c2, decide_eq_false c3, by omega⟩))
        rw [if_pos ⟨c1, c2, c3⟩] at e
        exact Or.inr (Or.inr (Or.inr ⟨decide_eq_true c1, decide_eq_true c2, decide_eq_true c3, e⟩))
      have hj9 : wgh l3 lo hi9 j < 1000000000 := by omega
      have hw3 := rw4 _ hwj.1 hj9
      have hw4 := rw3 _ hwj.1 hj9
      clear hwj hj9
      have hb9 : j < 1000000000 := by omega
      have hw := rw1 j hb9
      have hw2 := rw2 j hb9
      clear hb9
      clear HWJ
      rcases hq with ⟨c1, E1⟩ | ⟨c1, c2, E1⟩ | ⟨c1, c2, c3, E1⟩ | ⟨c1, c2, c3, E1⟩
      all_goals
        have HE := Aside0.mk E1
        clear E1
        go_wp2
        repeat (go_quiet (fail); try go_wp2)
        go_roundg (l3.length - (j + 1))
        case measure => exact hr2
        case rel => exact ⟨j + 1, by rw [HLO.out.1, HLO.out.2, HE.out], by first | rfl | go_num, hr1, Nat.le_refl _, ⟨by repeat (with_reducible first | exact HI8.out | refine pw_below_drewN ?_ _ | refine below_drew ?_)⟩⟩
set_option maxHeartbeats 16000000 in
set_option maxRecDepth 100000 in
theorem rests_not (k : Nat) (x0 x1 : Int) (A2 : Option Addr) (c2 : Nat) (l2 : List (S67)) (A3 : Option Addr) (c3 : Nat) (l3 : List (S70)) (x4 x5 x6 x7 : Int) (w : World) (hr2 : Kd.C k67 w A2 l2.length l2) (hc2 : l2.length ≤ c2) (hr3 : Kd.C k70 w A3 l3.length l3) (hc3 : l3.length ≤ c3) (hq : ¬ ((l2.length : Int) ≤ 60 ∧ (l3.length : Int) ≤ 60) ∨ ((l2.length : Int) ≤ 60 ∧ (l3.length : Int) ≤ 60 ∧ ∃ kd id at_ sm er, balance_Suggest.f k x0 x1 l2 l3 x4 x5 x6 x7 = some (kd, id, at_, sm, er) ∧ ¬ (er = 0 ∧ sm = false))) (hA : splicelaw25_awake.f k = some true) :
    Calls Try.prog 6 #[.agg #[.int .i64 x0, .int .i64 x1, .slice A2 l2.length c2, .slice A3 l3.length c3, .int .i64 x4, .int .i64 x5, .int .i64 x6, .int .i64 x7]] w fun e w' => e = .returned (.bool true) ∧ Below w.heap.size w w' := by
  have HR2 := Aside0.mk (And.intro hr2 hc2)
  have HR3 := Aside0.mk (And.intro hr3 hc3)
  have HAw := Aside0.mk hA
  have HB := Aside0.mk ((Bx.start w).push #[.int .i64 x0, .int .i64 x1, .slice A2 l2.length c2, .slice A3 l3.length c3, .int .i64 x4, .int .i64 x5, .int .i64 x6, .int .i64 x7] 29)
  clear hr2 hc2 hr3 hc3 hA
  rcases hq with hq | ⟨hf1, hf2, kd, id, at_, sm, er, hS, hne⟩
  case inl =>
    have HFw := Aside0.mk (show splicelaw25_few.f x0 x1 l2 l3 x4 x5 x6 x7 = some false from by
      unfold splicelaw25_few.f
      by_cases h1 : (l2.length : Int) ≤ 60
      · rw [if_pos h1, decide_eq_false (fun h2 => hq ⟨h1, h2⟩)]
      · rw [if_neg h1])
    clear hq
    go_enter Try.func6, Try.ntmps6
    go_upto_region 1 with (fail)
    simp only [List.nil_append] at HB
    generalize w.alloc (.cells #[.int .i64 x0, .int .i64 x1, .slice A2 l2.length c2, .slice A3 l3.length c3, .int .i64 x4, .int .i64 x5, .int .i64 x6, .int .i64 x7] 29) = w2 at HB ⊢
    obtain ⟨b2, hb2⟩ : ∃ b2, b2 = w.heap.size := ⟨_, rfl⟩
    rw [← hb2] at HB
    try rw [← hb2]
    clear hb2
    have y0 : World.cell? w2 ⟨b2, 0, none⟩ = some (.int .i64 x0) := (blk_cell (HB.out.get 0 rfl) 0).trans rfl
    have y1 : World.cell? w2 ⟨b2, 1, none⟩ = some (.int .i64 x1) := (blk_cell (HB.out.get 0 rfl) 1).trans rfl
    have y2 : World.cell? w2 ⟨b2, 2, none⟩ = some (.slice A2 l2.length c2) := (blk_cell (HB.out.get 0 rfl) 2).trans rfl
    have y3 : World.cell? w2 ⟨b2, 3, none⟩ = some (.slice A3 l3.length c3) := (blk_cell (HB.out.get 0 rfl) 3).trans rfl
    have y4 : World.cell? w2 ⟨b2, 4, none⟩ = some (.int .i64 x4) := (blk_cell (HB.out.get 0 rfl) 4).trans rfl
    have y5 : World.cell? w2 ⟨b2, 5, none⟩ = some (.int .i64 x5) := (blk_cell (HB.out.get 0 rfl) 5).trans rfl
    have y6 : World.cell? w2 ⟨b2, 6, none⟩ = some (.int .i64 x6) := (blk_cell (HB.out.get 0 rfl) 6).trans rfl
    have y7 : World.cell? w2 ⟨b2, 7, none⟩ = some (.int .i64 x7) := (blk_cell (HB.out.get 0 rfl) 7).trans rfl
    have yv0 : World.cell? w2 ⟨b2, 4 + 1, none⟩ = some (.int .i64 x5) := y5
    have yv1 : World.cell? w2 ⟨b2, 4 + 2, none⟩ = some (.int .i64 x6) := y6
    have yv2 : World.cell? w2 ⟨b2, 1 + 2, none⟩ = some (.slice A3 l3.length c3) := y3
    have yv3 : World.cell? w2 ⟨b2, 2 + 1, none⟩ = some (.slice A3 l3.length c3) := y3
    have yv4 : World.cell? w2 ⟨b2, 3 + 1, none⟩ = some (.int .i64 x4) := y4
    have yv5 : World.cell? w2 ⟨b2, 3 + 2, none⟩ = some (.int .i64 x5) := y5
    have yv6 : World.cell? w2 ⟨b2, 3 + 3, none⟩ = some (.int .i64 x6) := y6
    have yv7 : World.cell? w2 ⟨b2, 0 + 2, none⟩ = some (.slice A2 l2.length c2) := y2
    go_wp2_with (first | (go_at_call 8; refine (splicelaw25_few.calls x0 x1 A2 c2 l2 A3 c3 l3 x4 x5 x6 x7 _ _ (Kd.C_below HR2.out.1 HB.out.bel) HR2.out.2 (Kd.C_below HR3.out.1 HB.out.bel) HR3.out.2 HFw.out).mono ?_; rintro e w3 ⟨rfl, hb⟩; replace HB := Aside0.mk (HB.out.below hb); clear hb; clear y0 y1 y2 y3 y4 y5 y6 y7 yv0 yv1 yv2 yv3 yv4 yv5 yv6 yv7) | (go_at_call 9; refine (splicelaw25_awake.calls k true _ HAw.out rfl).mono ?_; rintro e w9 ⟨rfl, hb⟩; replace HB := Aside0.mk (HB.out.below hb); clear hb))
    go_ret
    exact ⟨rfl, HB.out.bel⟩
  case inr =>
    have HFw := Aside0.mk (show splicelaw25_few.f x0 x1 l2 l3 x4 x5 x6 x7 = some true from by unfold splicelaw25_few.f; rw [if_pos hf1, decide_eq_true hf2])
    have HS := Aside0.mk hS
    have hq : ((er != 0) = true ∧ (er == 0) = false ∧ decide (er = 0) = false) ∨ ((er != 0) = false ∧ (er == 0) = true ∧ decide (er = 0) = true ∧ sm = true) := by
      by_cases h0 : er = 0
      · refine Or.inr ⟨by rw [h0]; rfl, by rw [h0]; rfl, decide_eq_true h0, ?_⟩
        cases sm with
        | true => rfl
        | false => exact absurd ⟨h0, rfl⟩ hne
      · exact Or.inl ⟨bne_iff_ne.mpr h0, beq_eq_false_iff_ne.mpr h0, decide_eq_false h0⟩
    clear hf1 hf2 hS hne
    go_enter Try.func6, Try.ntmps6
    go_upto_region 1 with (fail)
    simp only [List.nil_append] at HB
    generalize w.alloc (.cells #[.int .i64 x0, .int .i64 x1, .slice A2 l2.length c2, .slice A3 l3.length c3, .int .i64 x4, .int .i64 x5, .int .i64 x6, .int .i64 x7] 29) = w2 at HB ⊢
    obtain ⟨b2, hb2⟩ : ∃ b2, b2 = w.heap.size := ⟨_, rfl⟩
    rw [← hb2] at HB
    try rw [← hb2]
    clear hb2
    have y0 : World.cell? w2 ⟨b2, 0, none⟩ = some (.int .i64 x0) := (blk_cell (HB.out.get 0 rfl) 0).trans rfl
    have y1 : World.cell? w2 ⟨b2, 1, none⟩ = some (.int .i64 x1) := (blk_cell (HB.out.get 0 rfl) 1).trans rfl
    have y2 : World.cell? w2 ⟨b2, 2, none⟩ = some (.slice A2 l2.length c2) := (blk_cell (HB.out.get 0 rfl) 2).trans rfl
    have y3 : World.cell? w2 ⟨b2, 3, none⟩ = some (.slice A3 l3.length c3) := (blk_cell (HB.out.get 0 rfl) 3).trans rfl
    have y4 : World.cell? w2 ⟨b2, 4, none⟩ = some (.int .i64 x4) := (blk_cell (HB.out.get 0 rfl) 4).trans rfl
    have y5 : World.cell? w2 ⟨b2, 5, none⟩ = some (.int .i64 x5) := (blk_cell (HB.out.get 0 rfl) 5).trans rfl
    have y6 : World.cell? w2 ⟨b2, 6, none⟩ = some (.int .i64 x6) := (blk_cell (HB.out.get 0 rfl) 6).trans rfl
    have y7 : World.cell? w2 ⟨b2, 7, none⟩ = some (.int .i64 x7) := (blk_cell (HB.out.get 0 rfl) 7).trans rfl
    have yv0 : World.cell? w2 ⟨b2, 4 + 1, none⟩ = some (.int .i64 x5) := y5
    have yv1 : World.cell? w2 ⟨b2, 4 + 2, none⟩ = some (.int .i64 x6) := y6
    have yv2 : World.cell? w2 ⟨b2, 1 + 2, none⟩ = some (.slice A3 l3.length c3) := y3
    have yv3 : World.cell? w2 ⟨b2, 2 + 1, none⟩ = some (.slice A3 l3.length c3) := y3
    have yv4 : World.cell? w2 ⟨b2, 3 + 1, none⟩ = some (.int .i64 x4) := y4
    have yv5 : World.cell? w2 ⟨b2, 3 + 2, none⟩ = some (.int .i64 x5) := y5
    have yv6 : World.cell? w2 ⟨b2, 3 + 3, none⟩ = some (.int .i64 x6) := y6
    have yv7 : World.cell? w2 ⟨b2, 0 + 2, none⟩ = some (.slice A2 l2.length c2) := y2
    go_upto_region 3 with (go_at_call 8; refine (splicelaw25_few.calls x0 x1 A2 c2 l2 A3 c3 l3 x4 x5 x6 x7 _ _ (Kd.C_below HR2.out.1 HB.out.bel) HR2.out.2 (Kd.C_below HR3.out.1 HB.out.bel) HR3.out.2 HFw.out).mono ?_; rintro e w3 ⟨rfl, hb⟩; replace HB := Aside0.mk (HB.out.below hb); clear hb; clear y0 y1 y2 y3 y4 y5 y6 y7 yv0 yv1 yv2 yv3 yv4 yv5 yv6 yv7; have y0 : World.cell? w3 ⟨b2, 0, none⟩ = some (.int .i64 x0) := (blk_cell (HB.out.get 0 rfl) 0).trans rfl; have y1 : World.cell? w3 ⟨b2, 1, none⟩ = some (.int .i64 x1) := (blk_cell (HB.out.get 0 rfl) 1).trans rfl; have y2 : World.cell? w3 ⟨b2, 2, none⟩ = some (.slice A2 l2.length c2) := (blk_cell (HB.out.get 0 rfl) 2).trans rfl; have y3 : World.cell? w3 ⟨b2, 3, none⟩ = some (.slice A3 l3.length c3) := (blk_cell (HB.out.get 0 rfl) 3).trans rfl; have y4 : World.cell? w3 ⟨b2, 4, none⟩ = some (.int .i64 x4) := (blk_cell (HB.out.get 0 rfl) 4).trans rfl; have y5 : World.cell? w3 ⟨b2, 5, none⟩ = some (.int .i64 x5) := (blk_cell (HB.out.get 0 rfl) 5).trans rfl; have y6 : World.cell? w3 ⟨b2, 6, none⟩ = some (.int .i64 x6) := (blk_cell (HB.out.get 0 rfl) 6).trans rfl; have y7 : World.cell? w3 ⟨b2, 7, none⟩ = some (.int .i64 x7) := (blk_cell (HB.out.get 0 rfl) 7).trans rfl; have yv0 : World.cell? w3 ⟨b2, 4 + 1, none⟩ = some (.int .i64 x5) := y5; have yv1 : World.cell? w3 ⟨b2, 4 + 2, none⟩ = some (.int .i64 x6) := y6; have yv2 : World.cell? w3 ⟨b2, 1 + 2, none⟩ = some (.slice A3 l3.length c3) := y3; have yv3 : World.cell? w3 ⟨b2, 2 + 1, none⟩ = some (.slice A3 l3.length c3) := y3; have yv4 : World.cell? w3 ⟨b2, 3 + 1, none⟩ = some (.int .i64 x4) := y4; have yv5 : World.cell? w3 ⟨b2, 3 + 2, none⟩ = some (.int .i64 x5) := y5; have yv6 : World.cell? w3 ⟨b2, 3 + 3, none⟩ = some (.int .i64 x6) := y6; have yv7 : World.cell? w3 ⟨b2, 0 + 2, none⟩ = some (.slice A2 l2.length c2) := y2)
    go_upto_region 4 with (go_at_call 23; refine (balance_Suggest.calls k x0 x1 A2 c2 l2 A3 c3 l3 x4 x5 x6 x7 _ _ _ _ _ _ (Kd.C_below HR2.out.1 HB.out.bel) HR2.out.2 (Kd.C_below HR3.out.1 HB.out.bel) HR3.out.2 HS.out).mono ?_; rintro e w4 ⟨rfl, hb⟩; replace HB := Aside0.mk (HB.out.below hb); clear hb; clear y0 y1 y2 y3 y4 y5 y6 y7 yv0 yv1 yv2 yv3 yv4 yv5 yv6 yv7)
    replace HB := Aside0.mk (HB.out.below (below_alloc (Below.refl _ _) (.cells #[.int .i64 kd, .int .i64 id, .int .i64 at_] 54)))
    generalize w4.alloc (.cells #[.int .i64 kd, .int .i64 id, .int .i64 at_] 54) = w5 at HB ⊢
    rcases hq with ⟨q1, q2, q3⟩ | ⟨q1, q2, q3, rfl⟩
    all_goals
      go_wp2_with (go_at_call 9; refine (splicelaw25_awake.calls k true _ HAw.out rfl).mono ?_; rintro e w9 ⟨rfl, hb⟩; replace HB := Aside0.mk (HB.out.below hb); clear hb)
      go_ret
      exact ⟨rfl, HB.out.bel⟩
theorem splicelaw25_BalanceRests.calls (k : Nat) (x0 x1 : Int) (A2 : Option Addr) (c2 : Nat) (l2 : List (S67)) (A3 : Option Addr) (c3 : Nat) (l3 : List (S70)) (x4 x5 x6 x7 : Int) (r : Bool) (w : World) (hr2 : Kd.C k67 w A2 l2.length l2) (hc2 : l2.length ≤ c2) (hr3 : Kd.C k70 w A3 l3.length l3) (hc3 : l3.length ≤ c3) (h : splicelaw25_BalanceRests.f k x0 x1 l2 l3 x4 x5 x6 x7 = some r) (hr_ : r = true) :
    Calls Try.prog 6 #[.agg #[.int .i64 x0, .int .i64 x1, .slice A2 l2.length c2, .slice A3 l3.length c3, .int .i64 x4, .int .i64 x5, .int .i64 x6, .int .i64 x7]] w fun e w' => e = .returned (.bool r) ∧ Below w.heap.size w w' := by
  subst hr_
  unfold splicelaw25_BalanceRests.f at h
  by_cases hf : (l2.length : Int) ≤ 60 ∧ (l3.length : Int) ≤ 60
  case neg =>
    rw [if_neg hf] at h
    exact rests_not k x0 x1 A2 c2 l2 A3 c3 l3 x4 x5 x6 x7 w hr2 hc2 hr3 hc3 (Or.inl hf) h
  rw [if_pos hf] at h
  obtain ⟨⟨kd, id, at_, sm, er⟩, hS, h⟩ := Option.bind_eq_some_iff.1 h
  dsimp only at h
  by_cases hg : er = 0 ∧ sm = false
  case neg =>
    rw [if_neg hg] at h
    exact rests_not k x0 x1 A2 c2 l2 A3 c3 l3 x4 x5 x6 x7 w hr2 hc2 hr3 hc3 (Or.inr ⟨hf.1, hf.2, kd, id, at_, sm, er, hS, hg⟩) h
  rw [if_pos hg] at h
  obtain ⟨rfl, rfl⟩ := hg
  obtain ⟨⟨s, es⟩, hs, h⟩ := Option.bind_eq_some_iff.1 h
  obtain ⟨⟨n, en⟩, hn, h⟩ := Option.bind_eq_some_iff.1 h
  dsimp only at h
  by_cases hok : restsB l3 l2 s n x4 x5 x6 x7 = true
  · rw [if_pos hok] at h
    exact rests_walk k x0 x1 A2 c2 l2 A3 c3 l3 x4 x5 x6 x7 w hr2 hc2 hr3 hc3 hf kd id at_ hS s n es en hs hn hok h
  · rw [if_neg hok] at h
    exact absurd h (by simp)

def wf65 (x : S65) : Prop := (Lit.int .i64 x.f0).wf = true ∧ (Lit.int .i64 x.f1).wf = true
theorem op65 : Go.Proofs.Yteclhjhnbolkmaa.Op.Op Try.prog k65 65 wf65 := op_mono (op_iso (op_struct Try.underlying65 (by kernel_rfl) (opfs_cons (op_int Try.underlying3 (by kernel_rfl)) rfl (opfs_last (op_int Try.underlying3 (by kernel_rfl)) rfl))) (fun x : S65 => (x.f0, x.f1)) (fun y => ⟨y.1, y.2⟩) (fun _ => rfl)) (fun _ h => h)

def wf67 (x : S67) : Prop := (Lit.int .i64 x.f0).wf = true ∧ wf65 x.f1 ∧ (Lit.int .i64 x.f2).wf = true
theorem op67 : Go.Proofs.Yteclhjhnbolkmaa.Op.Op Try.prog k67 67 wf67 := op_mono (op_iso (op_struct Try.underlying67 (by kernel_rfl) (opfs_cons (op_int Try.underlying3 (by kernel_rfl)) rfl (opfs_cons op65 rfl (opfs_last (op_int Try.underlying3 (by kernel_rfl)) rfl)))) (fun x : S67 => (x.f0, x.f1, x.f2)) (fun y => ⟨y.1, y.2.1, y.2.2⟩) (fun _ => rfl)) (fun _ h => h)

def wf24 (x : S24) : Prop := (Lit.int .i64 x.f0).wf = true ∧ (Lit.int .i64 x.f1).wf = true ∧ (x.f2.length * 32 ≤ 140737488351232 ∧ x.f2.length ≤ maxLen ∧ ∀ y0 ∈ x.f2, wf67 y0)
theorem op24 : Go.Proofs.Yteclhjhnbolkmaa.Op.Op Try.prog k24 24 wf24 := op_mono (op_iso (op_struct Try.underlying24 (by kernel_rfl) (opfs_cons (op_int Try.underlying3 (by kernel_rfl)) rfl (opfs_cons (op_int Try.underlying3 (by kernel_rfl)) rfl (opfs_last (op_slice Try.underlying22 (by kernel_rfl) (show Try.prog.bytesOf 67 = 32 by kernel_rfl) op67 (by decide)) rfl)))) (fun x : S24 => (x.f0, x.f1, x.f2)) (fun y => ⟨y.1, y.2.1, y.2.2⟩) (fun _ => rfl)) (fun _ h => h)

def wf70 (x : S70) : Prop := (Lit.int .i64 x.f0).wf = true ∧ (Lit.int .i64 x.f1).wf = true
theorem op70 : Go.Proofs.Yteclhjhnbolkmaa.Op.Op Try.prog k70 70 wf70 := op_mono (op_iso (op_struct Try.underlying70 (by kernel_rfl) (opfs_cons (op_int Try.underlying3 (by kernel_rfl)) rfl (opfs_last (op_int Try.underlying3 (by kernel_rfl)) rfl))) (fun x : S70 => (x.f0, x.f1)) (fun y => ⟨y.1, y.2⟩) (fun _ => rfl)) (fun _ h => h)

def wf27 (x : S27) : Prop := (Lit.int .i64 x.f0).wf = true ∧ (Lit.int .i64 x.f1).wf = true ∧ (Lit.int .i64 x.f2).wf = true
theorem op27 : Go.Proofs.Yteclhjhnbolkmaa.Op.Op Try.prog k27 27 wf27 := op_mono (op_iso (op_struct Try.underlying27 (by kernel_rfl) (opfs_cons (op_int Try.underlying3 (by kernel_rfl)) rfl (opfs_cons (op_int Try.underlying3 (by kernel_rfl)) rfl (opfs_last (op_int Try.underlying3 (by kernel_rfl)) rfl)))) (fun x : S27 => (x.f0, x.f1, x.f2)) (fun y => ⟨y.1, y.2.1, y.2.2⟩) (fun _ => rfl)) (fun _ h => h)

def wf29 (x : S29) : Prop := wf24 x.f0 ∧ (x.f1.length * 16 ≤ 140737488351232 ∧ x.f1.length ≤ maxLen ∧ ∀ y0 ∈ x.f1, wf70 y0) ∧ wf27 x.f2 ∧ (Lit.int .i64 x.f3).wf = true
theorem op29 : Go.Proofs.Yteclhjhnbolkmaa.Op.Op Try.prog k29 29 wf29 := op_mono (op_iso (op_struct Try.underlying29 (by kernel_rfl) (opfs_cons op24 rfl (opfs_cons (op_slice Try.underlying25 (by kernel_rfl) (show Try.prog.bytesOf 70 = 16 by kernel_rfl) op70 (by decide)) rfl (opfs_cons op27 rfl (opfs_last (op_int Try.underlying3 (by kernel_rfl)) rfl))))) (fun x : S29 => (x.f0, x.f1, x.f2, x.f3)) (fun y => ⟨y.1, y.2.1, y.2.2.1, y.2.2.2⟩) (fun _ => rfl)) (fun _ h => h)


/-! ### splicelaw25_BalanceRests: function 6 -/
/-- THE ONE PURE STATEMENT of splicelaw25_BalanceRests: yours. -/
def splicelaw25_BalanceRests.Pure : Prop := ∀ (x0 : S29), wf29 x0 → ∃ k, splicelaw25_BalanceRests.f k x0.f0.f0 x0.f0.f1 x0.f0.f2 x0.f1 x0.f2.f0 x0.f2.f1 x0.f2.f2 x0.f3 = some true

end Go.Proofs.Yteclhjhnbolkmaa.PR
