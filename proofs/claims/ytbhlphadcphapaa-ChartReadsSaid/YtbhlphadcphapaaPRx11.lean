-- written by a program of this session
import Derived.Test.YtbhlphadcphapaaPRx0
import Derived.Test.YtbhlphadcphapaaPRx9
import Derived.Test.YtbhlphadcphapaaPRx10
namespace Go.Proofs.Ytbhlphadcphapaa.PR
open Go.RowKit Go.Proofs.Ytbhlphadcphapaa.Op Go.Proofs.YtbhlphadcphapaaW.PrintWords Go.Proofs.YtbhlphadcphapaaW.PrintLast Go.Proofs.YtbhlphadcphapaaW.PrintMore
attribute [local go_sem] max2_int min2_int max_two min_two max_three min_three max_four min_four   -- for this text's walks alone
set_option linter.unusedVariables false
set_option linter.unusedSimpArgs false

/-! ### spliceref08_Read: function 37 (by hand) -/
mutual
def spliceref08_Read.l0 : Nat → Int → Int → Int → Int → Int → List (S82) → ByteArray → Int → Option (Int × Int × (List (S82)) × Int)
  | 0, _, _, _, _, _, _, _, _ => none
  | k + 1, x5, x6, x12, x219000, x219001, x219002, x220000, x220001 => if x12 < x5 then (spliceref08_Read.j1 k x5 x6 x12 (x220001 == 0) x219000 x219001 x219002 x220000 x220001) else (spliceref08_Read.j1 k x5 x6 x12 false x219000 x219001 x219002 x220000 x220001)
def spliceref08_Read.j1 : Nat → Int → Int → Int → Bool → Int → Int → List (S82) → ByteArray → Int → Option (Int × Int × (List (S82)) × Int)
  | 0, _, _, _, _, _, _, _, _, _ => none
  | k + 1, x5, x6, x12, x50, x219000, x219001, x219002, x220000, x220001 => if x50 = true then ((spliceref01_Reader_Num.f k x220000 x220001).bind fun bt232 => ((spliceref01_Reader_Num.f k bt232.1 bt232.2.1).bind fun bt236 => ((spliceref01_Reader_Num.f k bt236.1 bt236.2.1).bind fun bt240 => (if x219002.length < 4398046511104 then (spliceref08_Read.l0 k x5 bt236.2.2 (wrap64 (x12 + 1)) x219000 x219001 (x219002 ++ [(⟨bt232.2.2, (⟨x6, bt236.2.2⟩ : S80), bt240.2.2⟩ : S82)]) bt240.1 bt240.2.1) else (none))))) else ((spliceref01_Reader_End.f x220000 x220001).bind fun t247 => (if t247 = 0 then ((spliceref08_Check.f k x219000 x219001 x219002).bind fun t248 => (if t248 = true then (some (x219000, x219001, x219002, 0)) else (some (0, 0, ([] : List (S82)), 3)))) else ((spliceref01_Reader_End.f x220000 x220001).bind fun t249 => (some (0, 0, ([] : List (S82)), t249)))))
end
def spliceref08_Read.f (k : Nat) (a0 : ByteArray) : Option (Int × Int × (List (S82)) × Int) := (spliceref01_Reader_Num.f k a0 0).bind fun bt220 => ((spliceref01_Reader_Num.f k bt220.1 bt220.2.1).bind fun bt224 => ((spliceref01_Reader_Num.f k bt224.1 bt224.2.1).bind fun bt228 => (spliceref08_Read.l0 k bt228.2.2 0 0 bt220.2.2 bt224.2.2 ([] : List (S82)) bt228.1 bt228.2.1)))
theorem spliceref08_Read.mono_l : ∀ k, (∀ y0 y1 y2 y3 y4 y5 y6 y7, LeO (spliceref08_Read.l0 k y0 y1 y2 y3 y4 y5 y6 y7) (spliceref08_Read.l0 (k + 1) y0 y1 y2 y3 y4 y5 y6 y7)) ∧ (∀ y0 y1 y2 y3 y4 y5 y6 y7 y8, LeO (spliceref08_Read.j1 k y0 y1 y2 y3 y4 y5 y6 y7 y8) (spliceref08_Read.j1 (k + 1) y0 y1 y2 y3 y4 y5 y6 y7 y8))
  | 0 => ⟨fun _ _ _ _ _ _ _ _ r h => by simp [spliceref08_Read.l0] at h, fun _ _ _ _ _ _ _ _ _ r h => by simp [spliceref08_Read.j1] at h⟩
  | k + 1 => by
    obtain ⟨ih0, ih1⟩ := spliceref08_Read.mono_l k
    refine ⟨?_, ?_⟩
    · intro y0 y1 y2 y3 y4 y5 y6 y7
      unfold spliceref08_Read.l0
      repeat' first
      | (with_reducible exact ih0 _ _ _ _ _ _ _ _)
      | (with_reducible exact ih1 _ _ _ _ _ _ _ _ _)
      | (with_reducible exact spliceref01_Reader_Num.mono _ _ _)
      | (with_reducible exact spliceref08_Check.mono _ _ _ _)
      | (with_reducible exact LeO.refl _)
      | (with_reducible exact LeO.none _)
      | (with_reducible refine LeO.ite ?_ ?_)
      | (with_reducible refine LeO.bind ?_ (fun _ => ?_))
      | exact ih0 _ _ _ _ _ _ _ _
      | exact ih1 _ _ _ _ _ _ _ _ _
      | exact spliceref01_Reader_Num.mono _ _ _
      | exact spliceref08_Check.mono _ _ _ _
      | exact LeO.none _
      | refine LeO.ite ?_ ?_
      | refine LeO.bind ?_ (fun _ => ?_)
    · intro y0 y1 y2 y3 y4 y5 y6 y7 y8
      unfold spliceref08_Read.j1
      repeat' first
      | (with_reducible exact ih0 _ _ _ _ _ _ _ _)
      | (with_reducible exact ih1 _ _ _ _ _ _ _ _ _)
      | (with_reducible exact spliceref01_Reader_Num.mono _ _ _)
      | (with_reducible exact spliceref08_Check.mono _ _ _ _)
      | (with_reducible exact LeO.refl _)
      | (with_reducible exact LeO.none _)
      | (with_reducible refine LeO.ite ?_ ?_)
      | (with_reducible refine LeO.bind ?_ (fun _ => ?_))
      | exact ih0 _ _ _ _ _ _ _ _
      | exact ih1 _ _ _ _ _ _ _ _ _
      | exact spliceref01_Reader_Num.mono _ _ _
      | exact spliceref08_Check.mono _ _ _ _
      | exact LeO.none _
      | refine LeO.ite ?_ ?_
      | refine LeO.bind ?_ (fun _ => ?_)
theorem spliceref08_Read.mono : ∀ a0 k, LeO (spliceref08_Read.f k a0) (spliceref08_Read.f (k + 1) a0) := by
  intro a0 k
  obtain ⟨ih0, ih1⟩ := spliceref08_Read.mono_l k
  unfold spliceref08_Read.f
  repeat' first
      | (with_reducible exact ih0 _ _ _ _ _ _ _ _)
      | (with_reducible exact ih1 _ _ _ _ _ _ _ _ _)
      | (with_reducible exact spliceref01_Reader_Num.mono _ _ _)
      | (with_reducible exact spliceref08_Check.mono _ _ _ _)
      | (with_reducible exact LeO.refl _)
      | (with_reducible exact LeO.none _)
      | (with_reducible refine LeO.ite ?_ ?_)
      | (with_reducible refine LeO.bind ?_ (fun _ => ?_))
      | exact ih0 _ _ _ _ _ _ _ _
      | exact ih1 _ _ _ _ _ _ _ _ _
      | exact spliceref01_Reader_Num.mono _ _ _
      | exact spliceref08_Check.mono _ _ _ _
      | exact LeO.none _
      | refine LeO.ite ?_ ?_
      | refine LeO.bind ?_ (fun _ => ?_)
theorem infoRS : (Try.prog.info? 82).map (fun i => (i.zero, i.size, i.bytes)) = some (some (.agg #[.int .i64 0, .int .i64 0, .int .i64 0, .int .i64 0]), 4, 32) := by kernel_rfl
set_option maxHeartbeats 8000000 in
set_option maxRecDepth 100000 in
theorem spliceref08_Read.calls (k : Nat) (a0 : ByteArray) (r1 : Int) (r2 : Int) (r3 : List (S82)) (r4 : Int) (w : World) (h : spliceref08_Read.f k a0 = some (r1, r2, r3, r4)) :
    Calls Try.prog 37 #[.string a0] w fun e w' => ∃ v2_ : Value, e = .returned (.tuple #[.agg #[.int .i64 r1, .int .i64 r2, v2_], .int .i64 r4]) ∧ Kd.R k82 82 w' w.heap.size (fun _ => True) v2_ r3 ∧ Below w.heap.size w w' := by
  have hu30 := Try.underlying30
  have hu99 := Try.underlying99
  have hu82 := Try.underlying82
  have hu80 := Try.underlying80
  unfold spliceref08_Read.f at h
  obtain ⟨⟨p1, p2, p3⟩, A1, h1⟩ := Option.bind_eq_some_iff.1 h
  obtain ⟨⟨q1, q2, q3⟩, A2, h2⟩ := Option.bind_eq_some_iff.1 h1
  obtain ⟨⟨t1, t2, t3⟩, A3, h3⟩ := Option.bind_eq_some_iff.1 h2
  dsimp only at A2 A3 h3
  have HA1 := Aside0.mk A1
  have HA2 := Aside0.mk A2
  have HA3 := Aside0.mk A3
  have HH := Aside0.mk h3
  clear A1 A2 A3 h1 h2 h3 h
  go_enter Try.func37, Try.ntmps37
  go_upto_region 4 with (fail)
  have HB : Aside0 (Bx w (((w.alloc (.cells #[.int .i64 0, .int .i64 0, .slice none 0 0] 30)).alloc (.cells #[.int .i64 0, .int .i64 0, .slice none 0 0] 30)).alloc (.cells #[.string a0, .int .i64 0] 99)) [(w.heap.size, #[.int .i64 0, .int .i64 0, .slice none 0 0], 30), (w.heap.size + 1, #[.int .i64 0, .int .i64 0, .slice none 0 0], 30), (w.heap.size + 1 + 1, #[.string a0, .int .i64 0], 99)]) := ⟨by
    have h := (((Bx.start w).push #[.int .i64 0, .int .i64 0, .slice none 0 0] 30).push #[.int .i64 0, .int .i64 0, .slice none 0 0] 30).push #[.string a0, .int .i64 0] 99
    simp only [alloc_size] at h
    exact h⟩
  generalize ((w.alloc (.cells #[.int .i64 0, .int .i64 0, .slice none 0 0] 30)).alloc (.cells #[.int .i64 0, .int .i64 0, .slice none 0 0] 30)).alloc (.cells #[.string a0, .int .i64 0] 99) = W4 at HB ⊢
  generalize w.heap.size + 1 + 1 = g7 at HB ⊢
  generalize w.heap.size + 1 = g4 at HB ⊢
  have c2_0 : World.cell? _ ⟨g7, 0, none⟩ = some (.string a0) := blk_cell (HB.out.get 2 rfl) 0
  have c2_1 : World.cell? _ ⟨g7, 1, none⟩ = some (.int .i64 0) := blk_cell (HB.out.get 2 rfl) 1
  go_upto_region 5 with (with_reducible refine (spliceref01_Reader_Num.calls k a0 0 p1 p2 p3 _ HA1.out).mono ?_; rintro e W6 ⟨rfl, hb⟩; replace HB := Aside0.mk (HB.out.below hb); clear hb; clear c2_0 c2_1)
  replace HB : Aside0 (Bx w (W6.alloc (.cells #[.string p1, .int .i64 p2] 99)) [(w.heap.size, #[.int .i64 0, .int .i64 0, .slice none 0 0], 30), (g4, #[.int .i64 0, .int .i64 0, .slice none 0 0], 30), (g7, #[.string a0, .int .i64 0], 99), (W6.heap.size, #[.string p1, .int .i64 p2], 99)]) := ⟨HB.out.push _ _⟩
  generalize W6.alloc (.cells #[.string p1, .int .i64 p2] 99) = W7 at HB ⊢
  generalize W6.heap.size = g8 at HB ⊢
  have c3_0 : World.cell? _ ⟨g8, 0, none⟩ = some (.string p1) := blk_cell (HB.out.get 3 rfl) 0
  have c3_1 : World.cell? _ ⟨g8, 1, none⟩ = some (.int .i64 p2) := blk_cell (HB.out.get 3 rfl) 1
  have c2_0 : World.cell? _ ⟨g7, 0, none⟩ = some (.string a0) := blk_cell (HB.out.get 2 rfl) 0
  have z2_0 : World.frozen? _ ⟨g7, 0, none⟩ = false := blk_frozen (HB.out.get 2 rfl) 0
  have c2_1 : World.cell? _ ⟨g7, 1, none⟩ = some (.int .i64 0) := blk_cell (HB.out.get 2 rfl) 1
  have z2_1 : World.frozen? _ ⟨g7, 1, none⟩ = false := blk_frozen (HB.out.get 2 rfl) 1
  go_upto_region 6 with (fail)
  clear c3_0 c3_1 c2_0 z2_0 c2_1 z2_1
  replace HB : Aside0 (Bx w (((W7.setCell ⟨g7, 0, none⟩ (.string p1)).setCell ⟨g7, 1, none⟩ (.int .i64 p2))) [(w.heap.size, #[.int .i64 0, .int .i64 0, .slice none 0 0], 30), (g4, #[.int .i64 0, .int .i64 0, .slice none 0 0], 30), (g7, #[.string p1, .int .i64 p2], 99), (g8, #[.string p1, .int .i64 p2], 99)]) := ⟨((HB.out.set 2 0 _ rfl).set 2 1 _ rfl)⟩
  generalize ((W7.setCell ⟨g7, 0, none⟩ (.string p1)).setCell ⟨g7, 1, none⟩ (.int .i64 p2)) = W8 at HB ⊢
  have c1_0 : World.cell? _ ⟨g4, 0, none⟩ = some (.int .i64 0) := blk_cell (HB.out.get 1 rfl) 0
  have z1_0 : World.frozen? _ ⟨g4, 0, none⟩ = false := blk_frozen (HB.out.get 1 rfl) 0
  have c1_1 : World.cell? _ ⟨g4, 1, none⟩ = some (.int .i64 0) := blk_cell (HB.out.get 1 rfl) 1
  have z1_1 : World.frozen? _ ⟨g4, 1, none⟩ = false := blk_frozen (HB.out.get 1 rfl) 1
  have c1_2 : World.cell? _ ⟨g4, 2, none⟩ = some (.slice none 0 0) := blk_cell (HB.out.get 1 rfl) 2
  have z1_2 : World.frozen? _ ⟨g4, 2, none⟩ = false := blk_frozen (HB.out.get 1 rfl) 2
  go_upto_region 7 with (fail)
  clear c1_0 z1_0 c1_1 z1_1 c1_2 z1_2
  replace HB : Aside0 (Bx w ((W8.setCell ⟨g4, 0, none⟩ (.int .i64 p3))) [(w.heap.size, #[.int .i64 0, .int .i64 0, .slice none 0 0], 30), (g4, #[.int .i64 p3, .int .i64 0, .slice none 0 0], 30), (g7, #[.string p1, .int .i64 p2], 99), (g8, #[.string p1, .int .i64 p2], 99)]) := ⟨(HB.out.set 1 0 _ rfl)⟩
  generalize (W8.setCell ⟨g4, 0, none⟩ (.int .i64 p3)) = W9 at HB ⊢
  have c2_0 : World.cell? _ ⟨g7, 0, none⟩ = some (.string p1) := blk_cell (HB.out.get 2 rfl) 0
  have c2_1 : World.cell? _ ⟨g7, 1, none⟩ = some (.int .i64 p2) := blk_cell (HB.out.get 2 rfl) 1
  go_upto_region 8 with (with_reducible refine (spliceref01_Reader_Num.calls k p1 p2 q1 q2 q3 _ HA2.out).mono ?_; rintro e W10 ⟨rfl, hb⟩; replace HB := Aside0.mk (HB.out.below hb); clear hb; clear c2_0 c2_1)
  replace HB : Aside0 (Bx w (W10.alloc (.cells #[.string q1, .int .i64 q2] 99)) [(w.heap.size, #[.int .i64 0, .int .i64 0, .slice none 0 0], 30), (g4, #[.int .i64 p3, .int .i64 0, .slice none 0 0], 30), (g7, #[.string p1, .int .i64 p2], 99), (g8, #[.string p1, .int .i64 p2], 99), (W10.heap.size, #[.string q1, .int .i64 q2], 99)]) := ⟨HB.out.push _ _⟩
  generalize W10.alloc (.cells #[.string q1, .int .i64 q2] 99) = W11 at HB ⊢
  generalize W10.heap.size = g10 at HB ⊢
  have c4_0 : World.cell? _ ⟨g10, 0, none⟩ = some (.string q1) := blk_cell (HB.out.get 4 rfl) 0
  have c4_1 : World.cell? _ ⟨g10, 1, none⟩ = some (.int .i64 q2) := blk_cell (HB.out.get 4 rfl) 1
  have c2_0 : World.cell? _ ⟨g7, 0, none⟩ = some (.string p1) := blk_cell (HB.out.get 2 rfl) 0
  have z2_0 : World.frozen? _ ⟨g7, 0, none⟩ = false := blk_frozen (HB.out.get 2 rfl) 0
  have c2_1 : World.cell? _ ⟨g7, 1, none⟩ = some (.int .i64 p2) := blk_cell (HB.out.get 2 rfl) 1
  have z2_1 : World.frozen? _ ⟨g7, 1, none⟩ = false := blk_frozen (HB.out.get 2 rfl) 1
  go_upto_region 9 with (fail)
  clear c4_0 c4_1 c2_0 z2_0 c2_1 z2_1
  replace HB : Aside0 (Bx w (((W11.setCell ⟨g7, 0, none⟩ (.string q1)).setCell ⟨g7, 1, none⟩ (.int .i64 q2))) [(w.heap.size, #[.int .i64 0, .int .i64 0, .slice none 0 0], 30), (g4, #[.int .i64 p3, .int .i64 0, .slice none 0 0], 30), (g7, #[.string q1, .int .i64 q2], 99), (g8, #[.string p1, .int .i64 p2], 99), (g10, #[.string q1, .int .i64 q2], 99)]) := ⟨((HB.out.set 2 0 _ rfl).set 2 1 _ rfl)⟩
  generalize ((W11.setCell ⟨g7, 0, none⟩ (.string q1)).setCell ⟨g7, 1, none⟩ (.int .i64 q2)) = W12 at HB ⊢
  have c1_0 : World.cell? _ ⟨g4, 0, none⟩ = some (.int .i64 p3) := blk_cell (HB.out.get 1 rfl) 0
  have z1_0 : World.frozen? _ ⟨g4, 0, none⟩ = false := blk_frozen (HB.out.get 1 rfl) 0
  have c1_1 : World.cell? _ ⟨g4, 1, none⟩ = some (.int .i64 0) := blk_cell (HB.out.get 1 rfl) 1
  have z1_1 : World.frozen? _ ⟨g4, 1, none⟩ = false := blk_frozen (HB.out.get 1 rfl) 1
  have c1_2 : World.cell? _ ⟨g4, 2, none⟩ = some (.slice none 0 0) := blk_cell (HB.out.get 1 rfl) 2
  have z1_2 : World.frozen? _ ⟨g4, 2, none⟩ = false := blk_frozen (HB.out.get 1 rfl) 2
  go_upto_region 10 with (fail)
  clear c1_0 z1_0 c1_1 z1_1 c1_2 z1_2
  replace HB : Aside0 (Bx w ((W12.setCell ⟨g4, 1, none⟩ (.int .i64 q3))) [(w.heap.size, #[.int .i64 0, .int .i64 0, .slice none 0 0], 30), (g4, #[.int .i64 p3, .int .i64 q3, .slice none 0 0], 30), (g7, #[.string q1, .int .i64 q2], 99), (g8, #[.string p1, .int .i64 p2], 99), (g10, #[.string q1, .int .i64 q2], 99)]) := ⟨(HB.out.set 1 1 _ rfl)⟩
  generalize (W12.setCell ⟨g4, 1, none⟩ (.int .i64 q3)) = W13 at HB ⊢
  have c2_0 : World.cell? _ ⟨g7, 0, none⟩ = some (.string q1) := blk_cell (HB.out.get 2 rfl) 0
  have c2_1 : World.cell? _ ⟨g7, 1, none⟩ = some (.int .i64 q2) := blk_cell (HB.out.get 2 rfl) 1
  go_upto_region 11 with (with_reducible refine (spliceref01_Reader_Num.calls k q1 q2 t1 t2 t3 _ HA3.out).mono ?_; rintro e W14 ⟨rfl, hb⟩; replace HB := Aside0.mk (HB.out.below hb); clear hb; clear c2_0 c2_1; have c2_0 : World.cell? _ ⟨g7, 0, none⟩ = some (.string q1) := blk_cell (HB.out.get 2 rfl) 0; have z2_0 : World.frozen? _ ⟨g7, 0, none⟩ = false := blk_frozen (HB.out.get 2 rfl) 0; have c2_1 : World.cell? _ ⟨g7, 1, none⟩ = some (.int .i64 q2) := blk_cell (HB.out.get 2 rfl) 1; have z2_1 : World.frozen? _ ⟨g7, 1, none⟩ = false := blk_frozen (HB.out.get 2 rfl) 1)
  clear c2_0 z2_0 c2_1 z2_1
  replace HB : Aside0 (Bx w (((W14.setCell ⟨g7, 0, none⟩ (.string t1)).setCell ⟨g7, 1, none⟩ (.int .i64 t2))) [(w.heap.size, #[.int .i64 0, .int .i64 0, .slice none 0 0], 30), (g4, #[.int .i64 p3, .int .i64 q3, .slice none 0 0], 30), (g7, #[.string t1, .int .i64 t2], 99), (g8, #[.string p1, .int .i64 p2], 99), (g10, #[.string q1, .int .i64 q2], 99)]) := ⟨((HB.out.set 2 0 _ rfl).set 2 1 _ rfl)⟩
  generalize ((W14.setCell ⟨g7, 0, none⟩ (.string t1)).setCell ⟨g7, 1, none⟩ (.int .i64 t2)) = W15 at HB ⊢
  have HR : Aside0 (Kd.R k82 82 W15 w.heap.size (Off [w.heap.size, g4, g7, g8, g10]) (.slice none 0 0) []) := ⟨Kd.R_nil _ _ _ _ _⟩
  clear HA1 HA2 HA3
  go_wp2_with fail
  go_loopg [6, 12] k (fun kq v6 v12 W => ∃ (at_ i : Int) (s0 : ByteArray) (s1 : Int) (v : Value) (xs : List S82), v6 = .int .i64 at_ ∧ v12 = .int .i64 i ∧ Aside0 (spliceref08_Read.l0 kq t3 at_ i p3 q3 xs s0 s1 = some (r1, r2, r3, r4)) ∧ Aside0 (kq ≤ k) ∧ Aside0 (Bx w (W) [(w.heap.size, #[.int .i64 0, .int .i64 0, .slice none 0 0], 30), (g4, #[.int .i64 p3, .int .i64 q3, v], 30), (g7, #[.string s0, .int .i64 s1], 99), (g8, #[.string p1, .int .i64 p2], 99), (g10, #[.string q1, .int .i64 q2], 99)]) ∧ Aside0 (Kd.R k82 82 (W) w.heap.size (Off [w.heap.size, g4, g7, g8, g10]) v xs))
  case atStart => exact ⟨0, 0, _, _, _, _, rfl, rfl, HH, ⟨Nat.le_refl _⟩, HB, HR⟩
  case round =>
    clear HB HR HH
    obtain ⟨at_, i, s0, s1, v, xs, rfl, rfl, HA, HK1, HB, HR⟩ := hrel
    cases gk with
    | zero => exact absurd HA.out (by simp [spliceref08_Read.l0])
    | succ k1 =>
      have H := HA.out
      clear HA
      simp only [spliceref08_Read.l0] at H
      obtain ⟨b, hb1, hb2⟩ : ∃ b : Bool, b = (decide (i < t3) && (s1 == 0)) ∧ spliceref08_Read.j1 k1 t3 at_ i b p3 q3 xs s0 s1 = some (r1, r2, r3, r4) := by
        by_cases c1 : i < t3
        · rw [if_pos c1] at H; exact ⟨_, rfl, by rw [decide_eq_true c1]; exact H⟩
        · rw [if_neg c1] at H; exact ⟨_, rfl, by rw [decide_eq_false c1]; exact H⟩
      clear H
      cases k1 with
      | zero => exact absurd hb2 (by simp [spliceref08_Read.j1])
      | succ k2 =>
        simp only [spliceref08_Read.j1] at hb2
        have HJ := Aside0.mk hb2
        clear hb2
        have c2_0 : World.cell? _ ⟨g7, 0, none⟩ = some (.string s0) := blk_cell (HB.out.get 2 rfl) 0
        have c2_1 : World.cell? _ ⟨g7, 1, none⟩ = some (.int .i64 s1) := blk_cell (HB.out.get 2 rfl) 1
        cases b with
        | true =>
          have hb3 := hb1.symm
          simp only [Bool.and_eq_true, decide_eq_true_eq, beq_iff_eq] at hb3
          obtain ⟨c1, c2⟩ := hb3
          subst c2
          clear hb1
          have q1_ : decide (i < t3) = true := decide_eq_true c1
          have HJ2 := HJ.out
          rw [if_pos rfl] at HJ2
          obtain ⟨⟨x1, x2, x3⟩, B1, h1⟩ := Option.bind_eq_some_iff.1 HJ2
          obtain ⟨⟨y1, y2, y3⟩, B2, h2⟩ := Option.bind_eq_some_iff.1 h1
          obtain ⟨⟨z1, z2, z3⟩, B3, h3⟩ := Option.bind_eq_some_iff.1 h2
          dsimp only at B2 B3 h3
          by_cases c4 : xs.length < 4398046511104
          case neg => rw [if_neg c4] at h3; exact absurd h3 (by simp)
          rw [if_pos c4] at h3
          have HB1 := Aside0.mk B1
          have HB2 := Aside0.mk B2
          have HB3 := Aside0.mk B3
          have HN := Aside0.mk h3
          clear B1 B2 B3 h1 h2 h3 HJ HJ2 c1
          go_upto_region 14 with (fail)
          clear q1_ c2_0 c2_1
          go_upto_region 15 with (fail)
          replace HB : Aside0 (Bx w (wr.alloc (.cells #[.int .i64 0, .int .i64 0, .int .i64 0, .int .i64 0] 82)) [(w.heap.size, #[.int .i64 0, .int .i64 0, .slice none 0 0], 30), (g4, #[.int .i64 p3, .int .i64 q3, v], 30), (g7, #[.string s0, .int .i64 0], 99), (g8, #[.string p1, .int .i64 p2], 99), (g10, #[.string q1, .int .i64 q2], 99), (wr.heap.size, #[.int .i64 0, .int .i64 0, .int .i64 0, .int .i64 0], 82)]) := ⟨HB.out.push _ _⟩
          replace HR : Aside0 (Kd.R k82 82 (wr.alloc (.cells #[.int .i64 0, .int .i64 0, .int .i64 0, .int .i64 0] 82)) w.heap.size (Off [w.heap.size, g4, g7, g8, g10, wr.heap.size]) v xs) := ⟨R_pushB HR.out rfl (below_alloc (Below.refl _ _) _)⟩
          generalize wr.alloc (.cells #[.int .i64 0, .int .i64 0, .int .i64 0, .int .i64 0] 82) = W16 at HB HR ⊢
          generalize wr.heap.size = g13 at HB HR ⊢
          have c2_0 : World.cell? _ ⟨g7, 0, none⟩ = some (.string s0) := blk_cell (HB.out.get 2 rfl) 0
          have c2_1 : World.cell? _ ⟨g7, 1, none⟩ = some (.int .i64 0) := blk_cell (HB.out.get 2 rfl) 1
          go_upto_region 16 with (with_reducible refine (spliceref01_Reader_Num.calls k2 s0 0 x1 x2 x3 _ HB1.out).mono ?_; rintro e W17 ⟨rfl, hb⟩; replace HB := Aside0.mk (HB.out.below hb); replace HR := Aside0.mk (Kd.R_below HR.out hb); clear hb; clear c2_0 c2_1)
          replace HB : Aside0 (Bx w (W17.alloc (.cells #[.string x1, .int .i64 x2] 99)) [(w.heap.size, #[.int .i64 0, .int .i64 0, .slice none 0 0], 30), (g4, #[.int .i64 p3, .int .i64 q3, v], 30), (g7, #[.string s0, .int .i64 0], 99), (g8, #[.string p1, .int .i64 p2], 99), (g10, #[.string q1, .int .i64 q2], 99), (g13, #[.int .i64 0, .int .i64 0, .int .i64 0, .int .i64 0], 82), (W17.heap.size, #[.string x1, .int .i64 x2], 99)]) := ⟨HB.out.push _ _⟩
          replace HR : Aside0 (Kd.R k82 82 (W17.alloc (.cells #[.string x1, .int .i64 x2] 99)) w.heap.size (Off [w.heap.size, g4, g7, g8, g10, g13, W17.heap.size]) v xs) := ⟨R_pushB HR.out rfl (below_alloc (Below.refl _ _) _)⟩
          generalize W17.alloc (.cells #[.string x1, .int .i64 x2] 99) = W18 at HB HR ⊢
          generalize W17.heap.size = g14 at HB HR ⊢
          have c6_0 : World.cell? _ ⟨g14, 0, none⟩ = some (.string x1) := blk_cell (HB.out.get 6 rfl) 0
          have c6_1 : World.cell? _ ⟨g14, 1, none⟩ = some (.int .i64 x2) := blk_cell (HB.out.get 6 rfl) 1
          have c2_0 : World.cell? _ ⟨g7, 0, none⟩ = some (.string s0) := blk_cell (HB.out.get 2 rfl) 0
          have z2_0 : World.frozen? _ ⟨g7, 0, none⟩ = false := blk_frozen (HB.out.get 2 rfl) 0
          have c2_1 : World.cell? _ ⟨g7, 1, none⟩ = some (.int .i64 0) := blk_cell (HB.out.get 2 rfl) 1
          have z2_1 : World.frozen? _ ⟨g7, 1, none⟩ = false := blk_frozen (HB.out.get 2 rfl) 1
          go_upto_region 17 with (fail)
          clear c6_0 c6_1 c2_0 z2_0 c2_1 z2_1
          replace HB : Aside0 (Bx w (((W18.setCell ⟨g7, 0, none⟩ (.string x1)).setCell ⟨g7, 1, none⟩ (.int .i64 x2))) [(w.heap.size, #[.int .i64 0, .int .i64 0, .slice none 0 0], 30), (g4, #[.int .i64 p3, .int .i64 q3, v], 30), (g7, #[.string x1, .int .i64 x2], 99), (g8, #[.string p1, .int .i64 p2], 99), (g10, #[.string q1, .int .i64 q2], 99), (g13, #[.int .i64 0, .int .i64 0, .int .i64 0, .int .i64 0], 82), (g14, #[.string x1, .int .i64 x2], 99)]) := ⟨((HB.out.set 2 0 _ rfl).set 2 1 _ rfl)⟩
          replace HR : Aside0 (Kd.R k82 82 (((W18.setCell ⟨g7, 0, none⟩ (.string x1)).setCell ⟨g7, 1, none⟩ (.int .i64 x2))) w.heap.size (Off [w.heap.size, g4, g7, g8, g10, g13, g14]) v xs) := ⟨(R_setB (R_setB HR.out (by simp) 0 (.string x1)) (by simp) 1 (.int .i64 x2))⟩
          generalize ((W18.setCell ⟨g7, 0, none⟩ (.string x1)).setCell ⟨g7, 1, none⟩ (.int .i64 x2)) = W19 at HB HR ⊢
          have c5_0 : World.cell? _ ⟨g13, 0, none⟩ = some (.int .i64 0) := blk_cell (HB.out.get 5 rfl) 0
          have z5_0 : World.frozen? _ ⟨g13, 0, none⟩ = false := blk_frozen (HB.out.get 5 rfl) 0
          have c5_1 : World.cell? _ ⟨g13, 1, none⟩ = some (.int .i64 0) := blk_cell (HB.out.get 5 rfl) 1
          have z5_1 : World.frozen? _ ⟨g13, 1, none⟩ = false := blk_frozen (HB.out.get 5 rfl) 1
          have c5_2 : World.cell? _ ⟨g13, 2, none⟩ = some (.int .i64 0) := blk_cell (HB.out.get 5 rfl) 2
          have z5_2 : World.frozen? _ ⟨g13, 2, none⟩ = false := blk_frozen (HB.out.get 5 rfl) 2
          have c5_3 : World.cell? _ ⟨g13, 3, none⟩ = some (.int .i64 0) := blk_cell (HB.out.get 5 rfl) 3
          have z5_3 : World.frozen? _ ⟨g13, 3, none⟩ = false := blk_frozen (HB.out.get 5 rfl) 3
          go_upto_region 18 with (fail)
          clear c5_0 z5_0 c5_1 z5_1 c5_2 z5_2 c5_3 z5_3
          replace HB : Aside0 (Bx w ((W19.setCell ⟨g13, 0, none⟩ (.int .i64 x3))) [(w.heap.size, #[.int .i64 0, .int .i64 0, .slice none 0 0], 30), (g4, #[.int .i64 p3, .int .i64 q3, v], 30), (g7, #[.string x1, .int .i64 x2], 99), (g8, #[.string p1, .int .i64 p2], 99), (g10, #[.string q1, .int .i64 q2], 99), (g13, #[.int .i64 x3, .int .i64 0, .int .i64 0, .int .i64 0], 82), (g14, #[.string x1, .int .i64 x2], 99)]) := ⟨(HB.out.set 5 0 _ rfl)⟩
          replace HR : Aside0 (Kd.R k82 82 ((W19.setCell ⟨g13, 0, none⟩ (.int .i64 x3))) w.heap.size (Off [w.heap.size, g4, g7, g8, g10, g13, g14]) v xs) := ⟨(R_setB HR.out (by simp) 0 (.int .i64 x3))⟩
          generalize (W19.setCell ⟨g13, 0, none⟩ (.int .i64 x3)) = W20 at HB HR ⊢
          have c2_0 : World.cell? _ ⟨g7, 0, none⟩ = some (.string x1) := blk_cell (HB.out.get 2 rfl) 0
          have c2_1 : World.cell? _ ⟨g7, 1, none⟩ = some (.int .i64 x2) := blk_cell (HB.out.get 2 rfl) 1
          go_upto_region 19 with (with_reducible refine (spliceref01_Reader_Num.calls k2 x1 x2 y1 y2 y3 _ HB2.out).mono ?_; rintro e W21 ⟨rfl, hb⟩; replace HB := Aside0.mk (HB.out.below hb); replace HR := Aside0.mk (Kd.R_below HR.out hb); clear hb; clear c2_0 c2_1)
          replace HB : Aside0 (Bx w (W21.alloc (.cells #[.string y1, .int .i64 y2] 99)) [(w.heap.size, #[.int .i64 0, .int .i64 0, .slice none 0 0], 30), (g4, #[.int .i64 p3, .int .i64 q3, v], 30), (g7, #[.string x1, .int .i64 x2], 99), (g8, #[.string p1, .int .i64 p2], 99), (g10, #[.string q1, .int .i64 q2], 99), (g13, #[.int .i64 x3, .int .i64 0, .int .i64 0, .int .i64 0], 82), (g14, #[.string x1, .int .i64 x2], 99), (W21.heap.size, #[.string y1, .int .i64 y2], 99)]) := ⟨HB.out.push _ _⟩
          replace HR : Aside0 (Kd.R k82 82 (W21.alloc (.cells #[.string y1, .int .i64 y2] 99)) w.heap.size (Off [w.heap.size, g4, g7, g8, g10, g13, g14, W21.heap.size]) v xs) := ⟨R_pushB HR.out rfl (below_alloc (Below.refl _ _) _)⟩
          generalize W21.alloc (.cells #[.string y1, .int .i64 y2] 99) = W22 at HB HR ⊢
          generalize W21.heap.size = g16 at HB HR ⊢
          have c7_0 : World.cell? _ ⟨g16, 0, none⟩ = some (.string y1) := blk_cell (HB.out.get 7 rfl) 0
          have c7_1 : World.cell? _ ⟨g16, 1, none⟩ = some (.int .i64 y2) := blk_cell (HB.out.get 7 rfl) 1
          have c2_0 : World.cell? _ ⟨g7, 0, none⟩ = some (.string x1) := blk_cell (HB.out.get 2 rfl) 0
          have z2_0 : World.frozen? _ ⟨g7, 0, none⟩ = false := blk_frozen (HB.out.get 2 rfl) 0
          have c2_1 : World.cell? _ ⟨g7, 1, none⟩ = some (.int .i64 x2) := blk_cell (HB.out.get 2 rfl) 1
          have z2_1 : World.frozen? _ ⟨g7, 1, none⟩ = false := blk_frozen (HB.out.get 2 rfl) 1
          go_upto_region 20 with (fail)
          clear c7_0 c7_1 c2_0 z2_0 c2_1 z2_1
          replace HB : Aside0 (Bx w (((W22.setCell ⟨g7, 0, none⟩ (.string y1)).setCell ⟨g7, 1, none⟩ (.int .i64 y2))) [(w.heap.size, #[.int .i64 0, .int .i64 0, .slice none 0 0], 30), (g4, #[.int .i64 p3, .int .i64 q3, v], 30), (g7, #[.string y1, .int .i64 y2], 99), (g8, #[.string p1, .int .i64 p2], 99), (g10, #[.string q1, .int .i64 q2], 99), (g13, #[.int .i64 x3, .int .i64 0, .int .i64 0, .int .i64 0], 82), (g14, #[.string x1, .int .i64 x2], 99), (g16, #[.string y1, .int .i64 y2], 99)]) := ⟨((HB.out.set 2 0 _ rfl).set 2 1 _ rfl)⟩
          replace HR : Aside0 (Kd.R k82 82 (((W22.setCell ⟨g7, 0, none⟩ (.string y1)).setCell ⟨g7, 1, none⟩ (.int .i64 y2))) w.heap.size (Off [w.heap.size, g4, g7, g8, g10, g13, g14, g16]) v xs) := ⟨(R_setB (R_setB HR.out (by simp) 0 (.string y1)) (by simp) 1 (.int .i64 y2))⟩
          generalize ((W22.setCell ⟨g7, 0, none⟩ (.string y1)).setCell ⟨g7, 1, none⟩ (.int .i64 y2)) = W23 at HB HR ⊢
          have c5_0 : World.cell? _ ⟨g13, 0, none⟩ = some (.int .i64 x3) := blk_cell (HB.out.get 5 rfl) 0
          have z5_0 : World.frozen? _ ⟨g13, 0, none⟩ = false := blk_frozen (HB.out.get 5 rfl) 0
          have c5_1 : World.cell? _ ⟨g13, 1, none⟩ = some (.int .i64 0) := blk_cell (HB.out.get 5 rfl) 1
          have z5_1 : World.frozen? _ ⟨g13, 1, none⟩ = false := blk_frozen (HB.out.get 5 rfl) 1
          have c5_2 : World.cell? _ ⟨g13, 2, none⟩ = some (.int .i64 0) := blk_cell (HB.out.get 5 rfl) 2
          have z5_2 : World.frozen? _ ⟨g13, 2, none⟩ = false := blk_frozen (HB.out.get 5 rfl) 2
          have c5_3 : World.cell? _ ⟨g13, 3, none⟩ = some (.int .i64 0) := blk_cell (HB.out.get 5 rfl) 3
          have z5_3 : World.frozen? _ ⟨g13, 3, none⟩ = false := blk_frozen (HB.out.get 5 rfl) 3
          go_upto_region 21 with (fail)
          clear c5_0 z5_0 c5_1 z5_1 c5_2 z5_2 c5_3 z5_3
          replace HB : Aside0 (Bx w ((W23.setCell ⟨g13, 2, none⟩ (.int .i64 y3))) [(w.heap.size, #[.int .i64 0, .int .i64 0, .slice none 0 0], 30), (g4, #[.int .i64 p3, .int .i64 q3, v], 30), (g7, #[.string y1, .int .i64 y2], 99), (g8, #[.string p1, .int .i64 p2], 99), (g10, #[.string q1, .int .i64 q2], 99), (g13, #[.int .i64 x3, .int .i64 0, .int .i64 y3, .int .i64 0], 82), (g14, #[.string x1, .int .i64 x2], 99), (g16, #[.string y1, .int .i64 y2], 99)]) := ⟨(HB.out.set 5 2 _ rfl)⟩
          replace HR : Aside0 (Kd.R k82 82 ((W23.setCell ⟨g13, 2, none⟩ (.int .i64 y3))) w.heap.size (Off [w.heap.size, g4, g7, g8, g10, g13, g14, g16]) v xs) := ⟨(R_setB HR.out (by simp) 2 (.int .i64 y3))⟩
          generalize (W23.setCell ⟨g13, 2, none⟩ (.int .i64 y3)) = W24 at HB HR ⊢
          have c2_0 : World.cell? _ ⟨g7, 0, none⟩ = some (.string y1) := blk_cell (HB.out.get 2 rfl) 0
          have c2_1 : World.cell? _ ⟨g7, 1, none⟩ = some (.int .i64 y2) := blk_cell (HB.out.get 2 rfl) 1
          go_upto_region 22 with (with_reducible refine (spliceref01_Reader_Num.calls k2 y1 y2 z1 z2 z3 _ HB3.out).mono ?_; rintro e W25 ⟨rfl, hb⟩; replace HB := Aside0.mk (HB.out.below hb); replace HR := Aside0.mk (Kd.R_below HR.out hb); clear hb; clear c2_0 c2_1)
          replace HB : Aside0 (Bx w (W25.alloc (.cells #[.string z1, .int .i64 z2] 99)) [(w.heap.size, #[.int .i64 0, .int .i64 0, .slice none 0 0], 30), (g4, #[.int .i64 p3, .int .i64 q3, v], 30), (g7, #[.string y1, .int .i64 y2], 99), (g8, #[.string p1, .int .i64 p2], 99), (g10, #[.string q1, .int .i64 q2], 99), (g13, #[.int .i64 x3, .int .i64 0, .int .i64 y3, .int .i64 0], 82), (g14, #[.string x1, .int .i64 x2], 99), (g16, #[.string y1, .int .i64 y2], 99), (W25.heap.size, #[.string z1, .int .i64 z2], 99)]) := ⟨HB.out.push _ _⟩
          replace HR : Aside0 (Kd.R k82 82 (W25.alloc (.cells #[.string z1, .int .i64 z2] 99)) w.heap.size (Off [w.heap.size, g4, g7, g8, g10, g13, g14, g16, W25.heap.size]) v xs) := ⟨R_pushB HR.out rfl (below_alloc (Below.refl _ _) _)⟩
          generalize W25.alloc (.cells #[.string z1, .int .i64 z2] 99) = W26 at HB HR ⊢
          generalize W25.heap.size = g18 at HB HR ⊢
          have c8_0 : World.cell? _ ⟨g18, 0, none⟩ = some (.string z1) := blk_cell (HB.out.get 8 rfl) 0
          have c8_1 : World.cell? _ ⟨g18, 1, none⟩ = some (.int .i64 z2) := blk_cell (HB.out.get 8 rfl) 1
          have c2_0 : World.cell? _ ⟨g7, 0, none⟩ = some (.string y1) := blk_cell (HB.out.get 2 rfl) 0
          have z2_0 : World.frozen? _ ⟨g7, 0, none⟩ = false := blk_frozen (HB.out.get 2 rfl) 0
          have c2_1 : World.cell? _ ⟨g7, 1, none⟩ = some (.int .i64 y2) := blk_cell (HB.out.get 2 rfl) 1
          have z2_1 : World.frozen? _ ⟨g7, 1, none⟩ = false := blk_frozen (HB.out.get 2 rfl) 1
          go_upto_region 23 with (fail)
          clear c8_0 c8_1 c2_0 z2_0 c2_1 z2_1
          replace HB : Aside0 (Bx w (((W26.setCell ⟨g7, 0, none⟩ (.string z1)).setCell ⟨g7, 1, none⟩ (.int .i64 z2))) [(w.heap.size, #[.int .i64 0, .int .i64 0, .slice none 0 0], 30), (g4, #[.int .i64 p3, .int .i64 q3, v], 30), (g7, #[.string z1, .int .i64 z2], 99), (g8, #[.string p1, .int .i64 p2], 99), (g10, #[.string q1, .int .i64 q2], 99), (g13, #[.int .i64 x3, .int .i64 0, .int .i64 y3, .int .i64 0], 82), (g14, #[.string x1, .int .i64 x2], 99), (g16, #[.string y1, .int .i64 y2], 99), (g18, #[.string z1, .int .i64 z2], 99)]) := ⟨((HB.out.set 2 0 _ rfl).set 2 1 _ rfl)⟩
          replace HR : Aside0 (Kd.R k82 82 (((W26.setCell ⟨g7, 0, none⟩ (.string z1)).setCell ⟨g7, 1, none⟩ (.int .i64 z2))) w.heap.size (Off [w.heap.size, g4, g7, g8, g10, g13, g14, g16, g18]) v xs) := ⟨(R_setB (R_setB HR.out (by simp) 0 (.string z1)) (by simp) 1 (.int .i64 z2))⟩
          generalize ((W26.setCell ⟨g7, 0, none⟩ (.string z1)).setCell ⟨g7, 1, none⟩ (.int .i64 z2)) = W27 at HB HR ⊢
          have c5_0 : World.cell? _ ⟨g13, 0, none⟩ = some (.int .i64 x3) := blk_cell (HB.out.get 5 rfl) 0
          have z5_0 : World.frozen? _ ⟨g13, 0, none⟩ = false := blk_frozen (HB.out.get 5 rfl) 0
          have c5_1 : World.cell? _ ⟨g13, 1, none⟩ = some (.int .i64 0) := blk_cell (HB.out.get 5 rfl) 1
          have z5_1 : World.frozen? _ ⟨g13, 1, none⟩ = false := blk_frozen (HB.out.get 5 rfl) 1
          have c5_2 : World.cell? _ ⟨g13, 2, none⟩ = some (.int .i64 y3) := blk_cell (HB.out.get 5 rfl) 2
          have z5_2 : World.frozen? _ ⟨g13, 2, none⟩ = false := blk_frozen (HB.out.get 5 rfl) 2
          have c5_3 : World.cell? _ ⟨g13, 3, none⟩ = some (.int .i64 0) := blk_cell (HB.out.get 5 rfl) 3
          have z5_3 : World.frozen? _ ⟨g13, 3, none⟩ = false := blk_frozen (HB.out.get 5 rfl) 3
          go_upto_region 24 with (fail)
          clear c5_0 z5_0 c5_1 z5_1 c5_2 z5_2 c5_3 z5_3
          replace HB : Aside0 (Bx w ((W27.setCell ⟨g13, 3, none⟩ (.int .i64 z3))) [(w.heap.size, #[.int .i64 0, .int .i64 0, .slice none 0 0], 30), (g4, #[.int .i64 p3, .int .i64 q3, v], 30), (g7, #[.string z1, .int .i64 z2], 99), (g8, #[.string p1, .int .i64 p2], 99), (g10, #[.string q1, .int .i64 q2], 99), (g13, #[.int .i64 x3, .int .i64 0, .int .i64 y3, .int .i64 z3], 82), (g14, #[.string x1, .int .i64 x2], 99), (g16, #[.string y1, .int .i64 y2], 99), (g18, #[.string z1, .int .i64 z2], 99)]) := ⟨(HB.out.set 5 3 _ rfl)⟩
          replace HR : Aside0 (Kd.R k82 82 ((W27.setCell ⟨g13, 3, none⟩ (.int .i64 z3))) w.heap.size (Off [w.heap.size, g4, g7, g8, g10, g13, g14, g16, g18]) v xs) := ⟨(R_setB HR.out (by simp) 3 (.int .i64 z3))⟩
          generalize (W27.setCell ⟨g13, 3, none⟩ (.int .i64 z3)) = W28 at HB HR ⊢
          have c5_0 : World.cell? _ ⟨g13, 0, none⟩ = some (.int .i64 x3) := blk_cell (HB.out.get 5 rfl) 0
          have z5_0 : World.frozen? _ ⟨g13, 0, none⟩ = false := blk_frozen (HB.out.get 5 rfl) 0
          have c5_1 : World.cell? _ ⟨g13, 1, none⟩ = some (.int .i64 0) := blk_cell (HB.out.get 5 rfl) 1
          have z5_1 : World.frozen? _ ⟨g13, 1, none⟩ = false := blk_frozen (HB.out.get 5 rfl) 1
          have c5_2 : World.cell? _ ⟨g13, 2, none⟩ = some (.int .i64 y3) := blk_cell (HB.out.get 5 rfl) 2
          have z5_2 : World.frozen? _ ⟨g13, 2, none⟩ = false := blk_frozen (HB.out.get 5 rfl) 2
          have c5_3 : World.cell? _ ⟨g13, 3, none⟩ = some (.int .i64 z3) := blk_cell (HB.out.get 5 rfl) 3
          have z5_3 : World.frozen? _ ⟨g13, 3, none⟩ = false := blk_frozen (HB.out.get 5 rfl) 3
          go_upto_region 25 with (fail)
          clear c5_0 z5_0 c5_1 z5_1 c5_2 z5_2 c5_3 z5_3
          replace HB : Aside0 (Bx w ((W28.setCell ⟨g13, 1, none⟩ (.int .i64 at_))) [(w.heap.size, #[.int .i64 0, .int .i64 0, .slice none 0 0], 30), (g4, #[.int .i64 p3, .int .i64 q3, v], 30), (g7, #[.string z1, .int .i64 z2], 99), (g8, #[.string p1, .int .i64 p2], 99), (g10, #[.string q1, .int .i64 q2], 99), (g13, #[.int .i64 x3, .int .i64 at_, .int .i64 y3, .int .i64 z3], 82), (g14, #[.string x1, .int .i64 x2], 99), (g16, #[.string y1, .int .i64 y2], 99), (g18, #[.string z1, .int .i64 z2], 99)]) := ⟨(HB.out.set 5 1 _ rfl)⟩
          replace HR : Aside0 (Kd.R k82 82 ((W28.setCell ⟨g13, 1, none⟩ (.int .i64 at_))) w.heap.size (Off [w.heap.size, g4, g7, g8, g10, g13, g14, g16, g18]) v xs) := ⟨(R_setB HR.out (by simp) 1 (.int .i64 at_))⟩
          generalize (W28.setCell ⟨g13, 1, none⟩ (.int .i64 at_)) = W29 at HB HR ⊢
          have c5_0 : World.cell? _ ⟨g13, 0, none⟩ = some (.int .i64 x3) := blk_cell (HB.out.get 5 rfl) 0
          have c5_1 : World.cell? _ ⟨g13, 1, none⟩ = some (.int .i64 at_) := blk_cell (HB.out.get 5 rfl) 1
          have c5_2 : World.cell? _ ⟨g13, 2, none⟩ = some (.int .i64 y3) := blk_cell (HB.out.get 5 rfl) 2
          have c5_3 : World.cell? _ ⟨g13, 3, none⟩ = some (.int .i64 z3) := blk_cell (HB.out.get 5 rfl) 3
          go_upto_region 26 with (fail)
          clear c5_0 c5_1 c5_2 c5_3
          have c5_0 : World.cell? _ ⟨g13, 0, none⟩ = some (.int .i64 x3) := blk_cell (HB.out.get 5 rfl) 0
          have c5_1 : World.cell? _ ⟨g13, 1, none⟩ = some (.int .i64 at_) := blk_cell (HB.out.get 5 rfl) 1
          have c5_2 : World.cell? _ ⟨g13, 2, none⟩ = some (.int .i64 y3) := blk_cell (HB.out.get 5 rfl) 2
          have c5_3 : World.cell? _ ⟨g13, 3, none⟩ = some (.int .i64 z3) := blk_cell (HB.out.get 5 rfl) 3
          have c1_0 : World.cell? _ ⟨g4, 0, none⟩ = some (.int .i64 p3) := blk_cell (HB.out.get 1 rfl) 0
          have z1_0 : World.frozen? _ ⟨g4, 0, none⟩ = false := blk_frozen (HB.out.get 1 rfl) 0
          have c1_1 : World.cell? _ ⟨g4, 1, none⟩ = some (.int .i64 q3) := blk_cell (HB.out.get 1 rfl) 1
          have z1_1 : World.frozen? _ ⟨g4, 1, none⟩ = false := blk_frozen (HB.out.get 1 rfl) 1
          have c1_2 : World.cell? _ ⟨g4, 2, none⟩ = some (v) := blk_cell (HB.out.get 1 rfl) 2
          have z1_2 : World.frozen? _ ⟨g4, 2, none⟩ = false := blk_frozen (HB.out.get 1 rfl) 2
          have hfr := Aside0.mk (HB.out.fresh (ns := [w.heap.size, g4, g7, g8, g10, g13, g14, g16, g18]) rfl)
          go_wp2_with (at_builtin; refine Kd.R_append k82 (w0 := w) w.heap.size rfl (.tmp 85) (.tmp 87) 28 82 (.agg #[.int .i64 0, .int .i64 0, .int .i64 0, .int .i64 0]) 32 rfl Try.underlying28 infoRS rfl (by decide) (by omega) v xs ⟨x3, (⟨at_, y3⟩ : S80), z3⟩ [.int .i64 x3, .int .i64 at_, .int .i64 y3, .int .i64 z3] (Off [w.heap.size, g4, g7, g8, g10, g13, g14, g16, g18]) (fun _ => False) rfl rfl (k82_mkM _ _ _ ⟨x3, (⟨at_, y3⟩ : S80), z3⟩) (fun _ hk => False.elim hk) hfr.out HR.out HB.out.bel HB.out.bel.size (by omega) ?_)
          intro v1 W30 ho hb hg hat
          replace HB := Aside0.mk (HB.out.grown rfl HR.out.1 hg hb)
          obtain ⟨ys, hys⟩ : ∃ ys : List S82, ys = xs ++ [⟨x3, (⟨at_, y3⟩ : S80), z3⟩] := ⟨_, rfl⟩
          have hn := HN.out
          rw [← hys] at ho hn
          obtain ⟨A2, n2, rfl⟩ := Kd.R_slice ho
          replace HR := Aside0.mk ho
          replace HN := Aside0.mk hn
          clear c5_0 c5_1 c5_2 c5_3 c1_0 z1_0 c1_1 z1_1 c1_2 z1_2 ho hb hg hat hfr hys hn
          have c1_0 : World.cell? _ ⟨g4, 0, none⟩ = some (.int .i64 p3) := blk_cell (HB.out.get 1 rfl) 0
          have z1_0 : World.frozen? _ ⟨g4, 0, none⟩ = false := blk_frozen (HB.out.get 1 rfl) 0
          have c1_1 : World.cell? _ ⟨g4, 1, none⟩ = some (.int .i64 q3) := blk_cell (HB.out.get 1 rfl) 1
          have z1_1 : World.frozen? _ ⟨g4, 1, none⟩ = false := blk_frozen (HB.out.get 1 rfl) 1
          have c1_2 : World.cell? _ ⟨g4, 2, none⟩ = some (v) := blk_cell (HB.out.get 1 rfl) 2
          have z1_2 : World.frozen? _ ⟨g4, 2, none⟩ = false := blk_frozen (HB.out.get 1 rfl) 2
          go_upto_region 13 with (fail)
          clear c1_0 z1_0 c1_1 z1_1 c1_2 z1_2
          replace HB : Aside0 (Bx w ((W30.setCell ⟨g4, 2, none⟩ (.slice A2 ys.length n2))) [(w.heap.size, #[.int .i64 0, .int .i64 0, .slice none 0 0], 30), (g4, #[.int .i64 p3, .int .i64 q3, .slice A2 ys.length n2], 30), (g7, #[.string z1, .int .i64 z2], 99), (g8, #[.string p1, .int .i64 p2], 99), (g10, #[.string q1, .int .i64 q2], 99), (g13, #[.int .i64 x3, .int .i64 at_, .int .i64 y3, .int .i64 z3], 82), (g14, #[.string x1, .int .i64 x2], 99), (g16, #[.string y1, .int .i64 y2], 99), (g18, #[.string z1, .int .i64 z2], 99)]) := ⟨(HB.out.set 1 2 _ rfl)⟩
          replace HR : Aside0 (Kd.R k82 82 ((W30.setCell ⟨g4, 2, none⟩ (.slice A2 ys.length n2))) w.heap.size (Off [w.heap.size, g4, g7, g8, g10, g13, g14, g16, g18]) (.slice A2 ys.length n2) ys) := ⟨(R_setB HR.out (by simp) 2 (.slice A2 ys.length n2))⟩
          generalize (W30.setCell ⟨g4, 2, none⟩ (.slice A2 ys.length n2)) = W31 at HB HR ⊢
          go_wp2_with fail
          go_roundg k2
          case measure => have := HK1.out; omega
          case rel => exact ⟨_, _, _, _, _, _, rfl, rfl, HN, ⟨by have := HK1.out; omega⟩, ⟨HB.out.take 5⟩, ⟨R_offB HR.out _ (by simp)⟩⟩
        | false =>
          have HJ2 := HJ.out
          rw [if_neg (by decide)] at HJ2
          clear HJ
          obtain ⟨e, hE, h1⟩ := Option.bind_eq_some_iff.1 HJ2
          have HE := Aside0.mk hE
          have H1 := Aside0.mk h1
          clear hE h1 HJ2
          obtain ⟨A, n, rfl⟩ := Kd.R_slice HR.out
          by_cases c1 : i < t3
          · rw [decide_eq_true c1, Bool.true_and] at hb1
            have q1_ : decide (i < t3) = true := decide_eq_true c1
            have q2_ : (s1 == 0) = false := hb1.symm
            have q3_ : decide (s1 = 0) = false := decide_eq_false (fun e => by rw [e] at q2_; exact absurd q2_ (by decide))
            clear hb1 c1
            by_cases c2 : e = 0
            · subst c2
              have h2 := H1.out
              rw [if_pos rfl] at h2
              obtain ⟨t, hC, h3⟩ := Option.bind_eq_some_iff.1 h2
              have HC := Aside0.mk hC
              have H3 := Aside0.mk h3
              clear hC h2 h3 H1
              go_upto_region 29 with (with_reducible refine (spliceref01_Reader_End.calls s0 s1 _ _ HE.out).mono ?_; rintro e W9 ⟨rfl, hb⟩; replace HB := Aside0.mk (HB.out.below hb); replace HR := Aside0.mk (Kd.R_below HR.out hb); clear hb; clear c2_0 c2_1)
              have c1_0 : World.cell? _ ⟨g4, 0, none⟩ = some (.int .i64 p3) := blk_cell (HB.out.get 1 rfl) 0
              have c1_1 : World.cell? _ ⟨g4, 1, none⟩ = some (.int .i64 q3) := blk_cell (HB.out.get 1 rfl) 1
              have c1_2 : World.cell? _ ⟨g4, 2, none⟩ = some (.slice A xs.length n) := blk_cell (HB.out.get 1 rfl) 2
              cases t with
              | false =>
                have h4 := H3.out
                rw [if_neg (by decide)] at h4
                simp only [Option.some.injEq, Prod.mk.injEq] at h4
                obtain ⟨rfl, rfl, rfl, rfl⟩ := h4
                clear H3
                go_wp2_with (with_reducible refine (spliceref08_Check.calls k2 p3 q3 A n xs _ _ (Kd.R_reads' HR.out).2.2 (Kd.R_reads' HR.out).2.1 HC.out).mono ?_; rintro e W10 ⟨rfl, hb⟩; replace HB := Aside0.mk (HB.out.below hb); replace HR := Aside0.mk (Kd.R_below HR.out hb); clear c1_0 c1_1 c1_2; clear hb; have c0_0 : World.cell? _ ⟨w.heap.size, 0, none⟩ = some (.int .i64 0) := blk_cell (HB.out.get 0 rfl) 0; have z0_0 : World.frozen? _ ⟨w.heap.size, 0, none⟩ = false := blk_frozen (HB.out.get 0 rfl) 0; have c0_1 : World.cell? _ ⟨w.heap.size, 1, none⟩ = some (.int .i64 0) := blk_cell (HB.out.get 0 rfl) 1; have z0_1 : World.frozen? _ ⟨w.heap.size, 1, none⟩ = false := blk_frozen (HB.out.get 0 rfl) 1; have c0_2 : World.cell? _ ⟨w.heap.size, 2, none⟩ = some (.slice none 0 0) := blk_cell (HB.out.get 0 rfl) 2; have z0_2 : World.frozen? _ ⟨w.heap.size, 2, none⟩ = false := blk_frozen (HB.out.get 0 rfl) 2)
                clear c0_0 z0_0 c0_1 z0_1 c0_2 z0_2
                replace HB : Aside0 (Bx w ((((W10.setCell ⟨w.heap.size, 0, none⟩ (.int .i64 0)).setCell ⟨w.heap.size, 1, none⟩ (.int .i64 0)).setCell ⟨w.heap.size, 2, none⟩ (.slice none 0 0))) [(w.heap.size, #[.int .i64 0, .int .i64 0, .slice none 0 0], 30), (g4, #[.int .i64 p3, .int .i64 q3, .slice A xs.length n], 30), (g7, #[.string s0, .int .i64 s1], 99), (g8, #[.string p1, .int .i64 p2], 99), (g10, #[.string q1, .int .i64 q2], 99)]) := ⟨(((HB.out.set 0 0 _ rfl).set 0 1 _ rfl).set 0 2 _ rfl)⟩
                replace HR : Aside0 (Kd.R k82 82 ((((W10.setCell ⟨w.heap.size, 0, none⟩ (.int .i64 0)).setCell ⟨w.heap.size, 1, none⟩ (.int .i64 0)).setCell ⟨w.heap.size, 2, none⟩ (.slice none 0 0))) w.heap.size (Off [w.heap.size, g4, g7, g8, g10]) (.slice A xs.length n) xs) := ⟨(R_setB (R_setB (R_setB HR.out (by simp) 0 (.int .i64 0)) (by simp) 1 (.int .i64 0)) (by simp) 2 (.slice none 0 0))⟩
                generalize (((W10.setCell ⟨w.heap.size, 0, none⟩ (.int .i64 0)).setCell ⟨w.heap.size, 1, none⟩ (.int .i64 0)).setCell ⟨w.heap.size, 2, none⟩ (.slice none 0 0)) = W11 at HB HR ⊢
                refine bodyPost_ret (results_ct rfl _ _ w.heap.size 30 #[.int .i64 0, .int .i64 0, .slice none 0 0] (0, 0) _ rfl (HB.out.get 0 rfl) Try.underlying30 rfl (by kernel_rfl)) rfl ?_
                exact ⟨_, rfl, Kd.R_nil _ _ _ _ _, HB.out.bel⟩
              | true =>
                have h4 := H3.out
                rw [if_pos rfl] at h4
                simp only [Option.some.injEq, Prod.mk.injEq] at h4
                obtain ⟨rfl, rfl, rfl, rfl⟩ := h4
                clear H3
                go_wp2_with (with_reducible refine (spliceref08_Check.calls k2 p3 q3 A n xs _ _ (Kd.R_reads' HR.out).2.2 (Kd.R_reads' HR.out).2.1 HC.out).mono ?_; rintro e W10 ⟨rfl, hb⟩; replace HB := Aside0.mk (HB.out.below hb); replace HR := Aside0.mk (Kd.R_below HR.out hb); clear c1_0 c1_1 c1_2; clear hb; have c0_0 : World.cell? _ ⟨w.heap.size, 0, none⟩ = some (.int .i64 0) := blk_cell (HB.out.get 0 rfl) 0; have z0_0 : World.frozen? _ ⟨w.heap.size, 0, none⟩ = false := blk_frozen (HB.out.get 0 rfl) 0; have c0_1 : World.cell? _ ⟨w.heap.size, 1, none⟩ = some (.int .i64 0) := blk_cell (HB.out.get 0 rfl) 1; have z0_1 : World.frozen? _ ⟨w.heap.size, 1, none⟩ = false := blk_frozen (HB.out.get 0 rfl) 1; have c0_2 : World.cell? _ ⟨w.heap.size, 2, none⟩ = some (.slice none 0 0) := blk_cell (HB.out.get 0 rfl) 2; have z0_2 : World.frozen? _ ⟨w.heap.size, 2, none⟩ = false := blk_frozen (HB.out.get 0 rfl) 2; have c1_0 : World.cell? _ ⟨g4, 0, none⟩ = some (.int .i64 p3) := blk_cell (HB.out.get 1 rfl) 0; have c1_1 : World.cell? _ ⟨g4, 1, none⟩ = some (.int .i64 q3) := blk_cell (HB.out.get 1 rfl) 1; have c1_2 : World.cell? _ ⟨g4, 2, none⟩ = some (.slice A xs.length n) := blk_cell (HB.out.get 1 rfl) 2)
                clear c0_0 z0_0 c0_1 z0_1 c0_2 z0_2 c1_0 c1_1 c1_2
                replace HB : Aside0 (Bx w ((((W10.setCell ⟨w.heap.size, 0, none⟩ (.int .i64 p3)).setCell ⟨w.heap.size, 1, none⟩ (.int .i64 q3)).setCell ⟨w.heap.size, 2, none⟩ (.slice A xs.length n))) [(w.heap.size, #[.int .i64 p3, .int .i64 q3, .slice A xs.length n], 30), (g4, #[.int .i64 p3, .int .i64 q3, .slice A xs.length n], 30), (g7, #[.string s0, .int .i64 s1], 99), (g8, #[.string p1, .int .i64 p2], 99), (g10, #[.string q1, .int .i64 q2], 99)]) := ⟨(((HB.out.set 0 0 _ rfl).set 0 1 _ rfl).set 0 2 _ rfl)⟩
                replace HR : Aside0 (Kd.R k82 82 ((((W10.setCell ⟨w.heap.size, 0, none⟩ (.int .i64 p3)).setCell ⟨w.heap.size, 1, none⟩ (.int .i64 q3)).setCell ⟨w.heap.size, 2, none⟩ (.slice A xs.length n))) w.heap.size (Off [w.heap.size, g4, g7, g8, g10]) (.slice A xs.length n) xs) := ⟨(R_setB (R_setB (R_setB HR.out (by simp) 0 (.int .i64 p3)) (by simp) 1 (.int .i64 q3)) (by simp) 2 (.slice A xs.length n))⟩
                generalize (((W10.setCell ⟨w.heap.size, 0, none⟩ (.int .i64 p3)).setCell ⟨w.heap.size, 1, none⟩ (.int .i64 q3)).setCell ⟨w.heap.size, 2, none⟩ (.slice A xs.length n)) = W11 at HB HR ⊢
                refine bodyPost_ret (results_ct rfl _ _ w.heap.size 30 #[.int .i64 p3, .int .i64 q3, .slice A xs.length n] (0, 0) _ rfl (HB.out.get 0 rfl) Try.underlying30 rfl (by kernel_rfl)) rfl ?_
                exact ⟨_, rfl, Kd.R_mono HR.out (fun _ _ => trivial), HB.out.bel⟩
            · have q4_ : (e == 0) = false := beq_eq_false_iff_ne.mpr c2
              have q5_ : (e != 0) = true := bne_iff_ne.mpr c2
              have q6_ : decide (e = 0) = false := decide_eq_false c2
              have h2 := H1.out
              rw [if_neg c2] at h2
              obtain ⟨t, hE2, h3⟩ := Option.bind_eq_some_iff.1 h2
              simp only [Option.some.injEq, Prod.mk.injEq] at h3
              obtain ⟨rfl, rfl, rfl, rfl⟩ := h3
              have HE2 := Aside0.mk hE2
              clear hE2 h2 H1 c2
              go_upto_region 28 with (with_reducible refine (spliceref01_Reader_End.calls s0 s1 _ _ HE.out).mono ?_; rintro e W9 ⟨rfl, hb⟩; replace HB := Aside0.mk (HB.out.below hb); replace HR := Aside0.mk (Kd.R_below HR.out hb); clear hb; clear c2_0 c2_1)
              have c2_0 : World.cell? _ ⟨g7, 0, none⟩ = some (.string s0) := blk_cell (HB.out.get 2 rfl) 0
              have c2_1 : World.cell? _ ⟨g7, 1, none⟩ = some (.int .i64 s1) := blk_cell (HB.out.get 2 rfl) 1
              go_wp2_with (with_reducible refine (spliceref01_Reader_End.calls s0 s1 _ _ HE2.out).mono ?_; rintro e W10 ⟨rfl, hb⟩; replace HB := Aside0.mk (HB.out.below hb); replace HR := Aside0.mk (Kd.R_below HR.out hb); clear hb; clear c2_0 c2_1; have c0_0 : World.cell? _ ⟨w.heap.size, 0, none⟩ = some (.int .i64 0) := blk_cell (HB.out.get 0 rfl) 0; have z0_0 : World.frozen? _ ⟨w.heap.size, 0, none⟩ = false := blk_frozen (HB.out.get 0 rfl) 0; have c0_1 : World.cell? _ ⟨w.heap.size, 1, none⟩ = some (.int .i64 0) := blk_cell (HB.out.get 0 rfl) 1; have z0_1 : World.frozen? _ ⟨w.heap.size, 1, none⟩ = false := blk_frozen (HB.out.get 0 rfl) 1; have c0_2 : World.cell? _ ⟨w.heap.size, 2, none⟩ = some (.slice none 0 0) := blk_cell (HB.out.get 0 rfl) 2; have z0_2 : World.frozen? _ ⟨w.heap.size, 2, none⟩ = false := blk_frozen (HB.out.get 0 rfl) 2)
              clear c0_0 z0_0 c0_1 z0_1 c0_2 z0_2
              replace HB : Aside0 (Bx w ((((W10.setCell ⟨w.heap.size, 0, none⟩ (.int .i64 0)).setCell ⟨w.heap.size, 1, none⟩ (.int .i64 0)).setCell ⟨w.heap.size, 2, none⟩ (.slice none 0 0))) [(w.heap.size, #[.int .i64 0, .int .i64 0, .slice none 0 0], 30), (g4, #[.int .i64 p3, .int .i64 q3, .slice A xs.length n], 30), (g7, #[.string s0, .int .i64 s1], 99), (g8, #[.string p1, .int .i64 p2], 99), (g10, #[.string q1, .int .i64 q2], 99)]) := ⟨(((HB.out.set 0 0 _ rfl).set 0 1 _ rfl).set 0 2 _ rfl)⟩
              replace HR : Aside0 (Kd.R k82 82 ((((W10.setCell ⟨w.heap.size, 0, none⟩ (.int .i64 0)).setCell ⟨w.heap.size, 1, none⟩ (.int .i64 0)).setCell ⟨w.heap.size, 2, none⟩ (.slice none 0 0))) w.heap.size (Off [w.heap.size, g4, g7, g8, g10]) (.slice A xs.length n) xs) := ⟨(R_setB (R_setB (R_setB HR.out (by simp) 0 (.int .i64 0)) (by simp) 1 (.int .i64 0)) (by simp) 2 (.slice none 0 0))⟩
              generalize (((W10.setCell ⟨w.heap.size, 0, none⟩ (.int .i64 0)).setCell ⟨w.heap.size, 1, none⟩ (.int .i64 0)).setCell ⟨w.heap.size, 2, none⟩ (.slice none 0 0)) = W11 at HB HR ⊢
              refine bodyPost_ret (results_ct rfl _ _ w.heap.size 30 #[.int .i64 0, .int .i64 0, .slice none 0 0] (0, 0) _ rfl (HB.out.get 0 rfl) Try.underlying30 rfl (by kernel_rfl)) rfl ?_
              exact ⟨_, rfl, Kd.R_nil _ _ _ _ _, HB.out.bel⟩
          · have q1_ : decide (i < t3) = false := decide_eq_false c1
            clear hb1 c1
            by_cases c2 : e = 0
            · subst c2
              have h2 := H1.out
              rw [if_pos rfl] at h2
              obtain ⟨t, hC, h3⟩ := Option.bind_eq_some_iff.1 h2
              have HC := Aside0.mk hC
              have H3 := Aside0.mk h3
              clear hC h2 h3 H1
              go_upto_region 29 with (with_reducible refine (spliceref01_Reader_End.calls s0 s1 _ _ HE.out).mono ?_; rintro e W9 ⟨rfl, hb⟩; replace HB := Aside0.mk (HB.out.below hb); replace HR := Aside0.mk (Kd.R_below HR.out hb); clear hb; clear c2_0 c2_1)
              have c1_0 : World.cell? _ ⟨g4, 0, none⟩ = some (.int .i64 p3) := blk_cell (HB.out.get 1 rfl) 0
              have c1_1 : World.cell? _ ⟨g4, 1, none⟩ = some (.int .i64 q3) := blk_cell (HB.out.get 1 rfl) 1
              have c1_2 : World.cell? _ ⟨g4, 2, none⟩ = some (.slice A xs.length n) := blk_cell (HB.out.get 1 rfl) 2
              cases t with
              | false =>
                have h4 := H3.out
                rw [if_neg (by decide)] at h4
                simp only [Option.some.injEq, Prod.mk.injEq] at h4
                obtain ⟨rfl, rfl, rfl, rfl⟩ := h4
                clear H3
                go_wp2_with (with_reducible refine (spliceref08_Check.calls k2 p3 q3 A n xs _ _ (Kd.R_reads' HR.out).2.2 (Kd.R_reads' HR.out).2.1 HC.out).mono ?_; rintro e W10 ⟨rfl, hb⟩; replace HB := Aside0.mk (HB.out.below hb); replace HR := Aside0.mk (Kd.R_below HR.out hb); clear c1_0 c1_1 c1_2; clear hb; have c0_0 : World.cell? _ ⟨w.heap.size, 0, none⟩ = some (.int .i64 0) := blk_cell (HB.out.get 0 rfl) 0; have z0_0 : World.frozen? _ ⟨w.heap.size, 0, none⟩ = false := blk_frozen (HB.out.get 0 rfl) 0; have c0_1 : World.cell? _ ⟨w.heap.size, 1, none⟩ = some (.int .i64 0) := blk_cell (HB.out.get 0 rfl) 1; have z0_1 : World.frozen? _ ⟨w.heap.size, 1, none⟩ = false := blk_frozen (HB.out.get 0 rfl) 1; have c0_2 : World.cell? _ ⟨w.heap.size, 2, none⟩ = some (.slice none 0 0) := blk_cell (HB.out.get 0 rfl) 2; have z0_2 : World.frozen? _ ⟨w.heap.size, 2, none⟩ = false := blk_frozen (HB.out.get 0 rfl) 2)
                clear c0_0 z0_0 c0_1 z0_1 c0_2 z0_2
                replace HB : Aside0 (Bx w ((((W10.setCell ⟨w.heap.size, 0, none⟩ (.int .i64 0)).setCell ⟨w.heap.size, 1, none⟩ (.int .i64 0)).setCell ⟨w.heap.size, 2, none⟩ (.slice none 0 0))) [(w.heap.size, #[.int .i64 0, .int .i64 0, .slice none 0 0], 30), (g4, #[.int .i64 p3, .int .i64 q3, .slice A xs.length n], 30), (g7, #[.string s0, .int .i64 s1], 99), (g8, #[.string p1, .int .i64 p2], 99), (g10, #[.string q1, .int .i64 q2], 99)]) := ⟨(((HB.out.set 0 0 _ rfl).set 0 1 _ rfl).set 0 2 _ rfl)⟩
                replace HR : Aside0 (Kd.R k82 82 ((((W10.setCell ⟨w.heap.size, 0, none⟩ (.int .i64 0)).setCell ⟨w.heap.size, 1, none⟩ (.int .i64 0)).setCell ⟨w.heap.size, 2, none⟩ (.slice none 0 0))) w.heap.size (Off [w.heap.size, g4, g7, g8, g10]) (.slice A xs.length n) xs) := ⟨(R_setB (R_setB (R_setB HR.out (by simp) 0 (.int .i64 0)) (by simp) 1 (.int .i64 0)) (by simp) 2 (.slice none 0 0))⟩
                generalize (((W10.setCell ⟨w.heap.size, 0, none⟩ (.int .i64 0)).setCell ⟨w.heap.size, 1, none⟩ (.int .i64 0)).setCell ⟨w.heap.size, 2, none⟩ (.slice none 0 0)) = W11 at HB HR ⊢
                refine bodyPost_ret (results_ct rfl _ _ w.heap.size 30 #[.int .i64 0, .int .i64 0, .slice none 0 0] (0, 0) _ rfl (HB.out.get 0 rfl) Try.underlying30 rfl (by kernel_rfl)) rfl ?_
                exact ⟨_, rfl, Kd.R_nil _ _ _ _ _, HB.out.bel⟩
              | true =>
                have h4 := H3.out
                rw [if_pos rfl] at h4
                simp only [Option.some.injEq, Prod.mk.injEq] at h4
                obtain ⟨rfl, rfl, rfl, rfl⟩ := h4
                clear H3
                go_wp2_with (with_reducible refine (spliceref08_Check.calls k2 p3 q3 A n xs _ _ (Kd.R_reads' HR.out).2.2 (Kd.R_reads' HR.out).2.1 HC.out).mono ?_; rintro e W10 ⟨rfl, hb⟩; replace HB := Aside0.mk (HB.out.below hb); replace HR := Aside0.mk (Kd.R_below HR.out hb); clear c1_0 c1_1 c1_2; clear hb; have c0_0 : World.cell? _ ⟨w.heap.size, 0, none⟩ = some (.int .i64 0) := blk_cell (HB.out.get 0 rfl) 0; have z0_0 : World.frozen? _ ⟨w.heap.size, 0, none⟩ = false := blk_frozen (HB.out.get 0 rfl) 0; have c0_1 : World.cell? _ ⟨w.heap.size, 1, none⟩ = some (.int .i64 0) := blk_cell (HB.out.get 0 rfl) 1; have z0_1 : World.frozen? _ ⟨w.heap.size, 1, none⟩ = false := blk_frozen (HB.out.get 0 rfl) 1; have c0_2 : World.cell? _ ⟨w.heap.size, 2, none⟩ = some (.slice none 0 0) := blk_cell (HB.out.get 0 rfl) 2; have z0_2 : World.frozen? _ ⟨w.heap.size, 2, none⟩ = false := blk_frozen (HB.out.get 0 rfl) 2; have c1_0 : World.cell? _ ⟨g4, 0, none⟩ = some (.int .i64 p3) := blk_cell (HB.out.get 1 rfl) 0; have c1_1 : World.cell? _ ⟨g4, 1, none⟩ = some (.int .i64 q3) := blk_cell (HB.out.get 1 rfl) 1; have c1_2 : World.cell? _ ⟨g4, 2, none⟩ = some (.slice A xs.length n) := blk_cell (HB.out.get 1 rfl) 2)
                clear c0_0 z0_0 c0_1 z0_1 c0_2 z0_2 c1_0 c1_1 c1_2
                replace HB : Aside0 (Bx w ((((W10.setCell ⟨w.heap.size, 0, none⟩ (.int .i64 p3)).setCell ⟨w.heap.size, 1, none⟩ (.int .i64 q3)).setCell ⟨w.heap.size, 2, none⟩ (.slice A xs.length n))) [(w.heap.size, #[.int .i64 p3, .int .i64 q3, .slice A xs.length n], 30), (g4, #[.int .i64 p3, .int .i64 q3, .slice A xs.length n], 30), (g7, #[.string s0, .int .i64 s1], 99), (g8, #[.string p1, .int .i64 p2], 99), (g10, #[.string q1, .int .i64 q2], 99)]) := ⟨(((HB.out.set 0 0 _ rfl).set 0 1 _ rfl).set 0 2 _ rfl)⟩
                replace HR : Aside0 (Kd.R k82 82 ((((W10.setCell ⟨w.heap.size, 0, none⟩ (.int .i64 p3)).setCell ⟨w.heap.size, 1, none⟩ (.int .i64 q3)).setCell ⟨w.heap.size, 2, none⟩ (.slice A xs.length n))) w.heap.size (Off [w.heap.size, g4, g7, g8, g10]) (.slice A xs.length n) xs) := ⟨(R_setB (R_setB (R_setB HR.out (by simp) 0 (.int .i64 p3)) (by simp) 1 (.int .i64 q3)) (by simp) 2 (.slice A xs.length n))⟩
                generalize (((W10.setCell ⟨w.heap.size, 0, none⟩ (.int .i64 p3)).setCell ⟨w.heap.size, 1, none⟩ (.int .i64 q3)).setCell ⟨w.heap.size, 2, none⟩ (.slice A xs.length n)) = W11 at HB HR ⊢
                refine bodyPost_ret (results_ct rfl _ _ w.heap.size 30 #[.int .i64 p3, .int .i64 q3, .slice A xs.length n] (0, 0) _ rfl (HB.out.get 0 rfl) Try.underlying30 rfl (by kernel_rfl)) rfl ?_
                exact ⟨_, rfl, Kd.R_mono HR.out (fun _ _ => trivial), HB.out.bel⟩
            · have q4_ : (e == 0) = false := beq_eq_false_iff_ne.mpr c2
              have q5_ : (e != 0) = true := bne_iff_ne.mpr c2
              have q6_ : decide (e = 0) = false := decide_eq_false c2
              have h2 := H1.out
              rw [if_neg c2] at h2
              obtain ⟨t, hE2, h3⟩ := Option.bind_eq_some_iff.1 h2
              simp only [Option.some.injEq, Prod.mk.injEq] at h3
              obtain ⟨rfl, rfl, rfl, rfl⟩ := h3
              have HE2 := Aside0.mk hE2
              clear hE2 h2 H1 c2
              go_upto_region 28 with (with_reducible refine (spliceref01_Reader_End.calls s0 s1 _ _ HE.out).mono ?_; rintro e W9 ⟨rfl, hb⟩; replace HB := Aside0.mk (HB.out.below hb); replace HR := Aside0.mk (Kd.R_below HR.out hb); clear hb; clear c2_0 c2_1)
              have c2_0 : World.cell? _ ⟨g7, 0, none⟩ = some (.string s0) := blk_cell (HB.out.get 2 rfl) 0
              have c2_1 : World.cell? _ ⟨g7, 1, none⟩ = some (.int .i64 s1) := blk_cell (HB.out.get 2 rfl) 1
              go_wp2_with (with_reducible refine (spliceref01_Reader_End.calls s0 s1 _ _ HE2.out).mono ?_; rintro e W10 ⟨rfl, hb⟩; replace HB := Aside0.mk (HB.out.below hb); replace HR := Aside0.mk (Kd.R_below HR.out hb); clear hb; clear c2_0 c2_1; have c0_0 : World.cell? _ ⟨w.heap.size, 0, none⟩ = some (.int .i64 0) := blk_cell (HB.out.get 0 rfl) 0; have z0_0 : World.frozen? _ ⟨w.heap.size, 0, none⟩ = false := blk_frozen (HB.out.get 0 rfl) 0; have c0_1 : World.cell? _ ⟨w.heap.size, 1, none⟩ = some (.int .i64 0) := blk_cell (HB.out.get 0 rfl) 1; have z0_1 : World.frozen? _ ⟨w.heap.size, 1, none⟩ = false := blk_frozen (HB.out.get 0 rfl) 1; have c0_2 : World.cell? _ ⟨w.heap.size, 2, none⟩ = some (.slice none 0 0) := blk_cell (HB.out.get 0 rfl) 2; have z0_2 : World.frozen? _ ⟨w.heap.size, 2, none⟩ = false := blk_frozen (HB.out.get 0 rfl) 2)
              clear c0_0 z0_0 c0_1 z0_1 c0_2 z0_2
              replace HB : Aside0 (Bx w ((((W10.setCell ⟨w.heap.size, 0, none⟩ (.int .i64 0)).setCell ⟨w.heap.size, 1, none⟩ (.int .i64 0)).setCell ⟨w.heap.size, 2, none⟩ (.slice none 0 0))) [(w.heap.size, #[.int .i64 0, .int .i64 0, .slice none 0 0], 30), (g4, #[.int .i64 p3, .int .i64 q3, .slice A xs.length n], 30), (g7, #[.string s0, .int .i64 s1], 99), (g8, #[.string p1, .int .i64 p2], 99), (g10, #[.string q1, .int .i64 q2], 99)]) := ⟨(((HB.out.set 0 0 _ rfl).set 0 1 _ rfl).set 0 2 _ rfl)⟩
              replace HR : Aside0 (Kd.R k82 82 ((((W10.setCell ⟨w.heap.size, 0, none⟩ (.int .i64 0)).setCell ⟨w.heap.size, 1, none⟩ (.int .i64 0)).setCell ⟨w.heap.size, 2, none⟩ (.slice none 0 0))) w.heap.size (Off [w.heap.size, g4, g7, g8, g10]) (.slice A xs.length n) xs) := ⟨(R_setB (R_setB (R_setB HR.out (by simp) 0 (.int .i64 0)) (by simp) 1 (.int .i64 0)) (by simp) 2 (.slice none 0 0))⟩
              generalize (((W10.setCell ⟨w.heap.size, 0, none⟩ (.int .i64 0)).setCell ⟨w.heap.size, 1, none⟩ (.int .i64 0)).setCell ⟨w.heap.size, 2, none⟩ (.slice none 0 0)) = W11 at HB HR ⊢
              refine bodyPost_ret (results_ct rfl _ _ w.heap.size 30 #[.int .i64 0, .int .i64 0, .slice none 0 0] (0, 0) _ rfl (HB.out.get 0 rfl) Try.underlying30 rfl (by kernel_rfl)) rfl ?_
              exact ⟨_, rfl, Kd.R_nil _ _ _ _ _, HB.out.bel⟩

-- NOT PRINTED: function 69 (abi_NoEscape)

-- NOT PRINTED: function 68 (strings_Builder_copyCheck)

-- NOT PRINTED: function 56 (strings_Builder_WriteString)

/-! ### vint_Num: function 57 -/
def vint_Num.l0 : Nat → Int → List Int → Option (ByteArray)
  | 0, _, _ => none
  | k + 1, x0, x3 => if x0 ≥ 128 then (if x3.length < 140737488355328 then (vint_Num.l0 k (x0 / 128) (x3 ++ [Go.bits .or .u8 ((Go.bits .and .i64 x0 127) % 256) 128])) else (none)) else (if x3.length < 140737488355328 then (some (strOfNums (x3 ++ [(x0) % 256]))) else (none))
def vint_Num.f (k : Nat) (a0 : Int) : Option (ByteArray) := if a0 < 0 then (some (⟨#[]⟩ : ByteArray)) else (vint_Num.l0 k a0 ([] : List Int))
theorem vint_Num.mono_l : ∀ k, (∀ y0 y1, LeO (vint_Num.l0 k y0 y1) (vint_Num.l0 (k + 1) y0 y1))
  | 0 => fun _ _ r h => by simp [vint_Num.l0] at h
  | k + 1 => by
    have ih0 := vint_Num.mono_l k
    · intro y0 y1
      unfold vint_Num.l0
      repeat' first
      | (with_reducible exact ih0 _ _)
      | (with_reducible exact LeO.refl _)
      | (with_reducible exact LeO.none _)
      | (with_reducible refine LeO.ite ?_ ?_)
      | (with_reducible refine LeO.bind ?_ (fun _ => ?_))
      | exact ih0 _ _
      | exact LeO.none _
      | refine LeO.ite ?_ ?_
      | refine LeO.bind ?_ (fun _ => ?_)
theorem vint_Num.mono : ∀ a0 k, LeO (vint_Num.f k a0) (vint_Num.f (k + 1) a0) := by
  intro a0 k
  have ih0 := vint_Num.mono_l k
  unfold vint_Num.f
  repeat' first
      | (with_reducible exact ih0 _ _)
      | (with_reducible exact LeO.refl _)
      | (with_reducible exact LeO.none _)
      | (with_reducible refine LeO.ite ?_ ?_)
      | (with_reducible refine LeO.bind ?_ (fun _ => ?_))
      | exact ih0 _ _
      | exact LeO.none _
      | refine LeO.ite ?_ ?_
      | refine LeO.bind ?_ (fun _ => ?_)
set_option maxHeartbeats 8000000 in
set_option maxRecDepth 100000 in
theorem vint_Num.calls (k : Nat) (a0 : Int) (r : ByteArray) (w : World) (h : vint_Num.f k a0 = some r) :
    Calls Try.prog 57 #[.int .i64 a0] w fun e w' => e = .returned (.string r) ∧ Below w.heap.size w w' := by
  have HB := Aside0.mk (Below.refl w.heap.size w)
  have H : (if a0 < 0 then (some (⟨#[]⟩ : ByteArray)) else (vint_Num.l0 k a0 ([] : List Int))) = some r := h
  clear h
  by_cases c2 : a0 < 0
  · rw [if_pos c2] at H
    have c2b0 : decide (a0 < 0) = true := decide_eq_true c2
    clear c2
    obtain rfl := Option.some.inj H
    go_enter Try.func57, Try.ntmps57
    go_wp2
    go_ret
    exact ⟨by first | rfl | (simp [errW_none, errW_some] <;> rfl) | (simp [*, errW_none, errW_some] <;> rfl), by repeat (first | (with_reducible first | exact HB.out | apply below_alloc | apply pw_below_drewN | apply below_drew1) | exact HB.out)⟩
  · rw [if_neg c2] at H
    have c2b0 : decide (a0 < 0) = false := decide_eq_false c2
    clear c2
    have H' := Aside0.mk H
    clear H
    go_enter Try.func57, Try.ntmps57
    go_wp2
    go_loopg [0, 3] k (fun kq v0 v3 w' => ∃ (x0_1 : Int) (x3_1 : List Int), v0 = .int .i64 x0_1 ∧ Aside0 (vint_Num.l0 kq x0_1 x3_1 = some r) ∧ Aside0 (kq ≤ k) ∧ Aside0 (Kd.R (Kd.int .u8) 5 w' w.heap.size (fun _ => True) v3 x3_1) ∧ Aside0 (Below w.heap.size w w'))
    case atStart => exact ⟨(a0), (([] : List Int)), (by first | rfl | (simp; done) | (simp [*]; done)), H', ⟨Nat.le_refl _⟩, ⟨by first | exact Kd.R_nil _ _ _ _ _ | exact Kd.N_nil _ _ _ _ _ | exact Kd.V_nil _ _ _ _ _ | exact Kd.Q_nil _ _ _ _ _ | exact Kd.S_nil _ _ _ _ _⟩, ⟨by repeat (first | (with_reducible first | exact HB.out | apply below_alloc | apply pw_below_drewN | apply below_drew1) | exact HB.out)⟩⟩
    case round =>
      clear H'
      try clear c2
      try clear c2b0
      try clear p2
      obtain ⟨x0_1, x3_1, rfl, HA, HK1, HO_3, HB⟩ := hrel
      cases gk with
      | zero => exact absurd HA.out (by simp [vint_Num.l0])
      | succ k1 =>
        have H := HA.out
        clear HA
        simp only [vint_Num.l0] at H
        by_cases c3 : x0_1 ≥ 128
        · rw [if_pos c3] at H
          have c3b0 : decide (128 ≤ x0_1) = true := decide_eq_true c3
          clear c3
          by_cases c4 : x3_1.length < 140737488355328
          · rw [if_pos c4] at H
            have LMc4 := Aside0.mk c4
            clear c4
            obtain ⟨y217, hy217⟩ : ∃ y_ : List Int, y_ = (x3_1 ++ [Go.bits .or .u8 ((Go.bits .and .i64 x0_1 127) % 256) 128]) := ⟨_, rfl⟩
            replace H : (vint_Num.l0 k1 (x0_1 / 128) y217) = some r := by first | (rw [hy217]; with_reducible exact H) | (have H2_ := (Option.bind_some _ _).symm.trans H; rw [hy217]; with_reducible exact H2_) | (have H2_ := (Option.bind_some _ _).symm.trans H; with_reducible exact H2_) | with_reducible exact H | (rw [hy217]; exact H) | exact H
            have Ny217 := Aside0.mk hy217
            clear hy217
            have H' := Aside0.mk H
            clear H
            go_wp2_with (first | ((with_reducible refine gate_builtin (b := .append) (xs := #[.tmp 8, .tmp 13]) rfl ?_); at_builtin; refine Kd.R_append (Kd.int .u8) (w0 := w) w.heap.size rfl (.tmp 8) (.tmp 13) 103 5 (.int .u8 0) 1 rfl Try.underlying103 info5 rfl (by decide) (by omega) u3 x3_1 (Go.bits .or .u8 ((Go.bits .and .i64 x0_1 127) % 256) 128) [.int .u8 (Go.bits .or .u8 ((Go.bits .and .i64 x0_1 127) % 256) 128)] (fun _ => True) (fun _ => False) rfl rfl ?aP (fun _ hk => hk.elim) ?aF ?aO ?aB ?aS ?aL ?_; (case aP => exact rfl); (case aB => exact (by repeat (first | (with_reducible first | exact HB.out | apply below_alloc | apply pw_below_drewN | apply below_drew1) | exact HB.out))); (case aF => exact (fun _ _ => trivial)); (case aO => exact (by (with_reducible repeat (first | apply Kd.R_alloc | apply Kd.R_drewN | apply Kd.R_drew)); exact HO_3.out)); (case aS => exact (below_size (by repeat (first | (with_reducible first | exact HB.out | apply below_alloc | apply pw_below_drewN | apply below_drew1) | exact HB.out)))); (case aL => have := LMc4.out; omega); intro v218 w5 ho hb hg hat; rw [← Ny217.out] at ho; have n0_ := Aside0.mk (hb); have n1_ := Aside0.mk (ho); clear HB; clear HO_3; have HB := n0_; have HO219 := n1_; clear n0_ n1_; clear ho hb hg hat))
            go_roundg k1
            case measure => have := HK1.out; omega
            case rel => exact ⟨(x0_1 / 128), (y217), (by first | rfl | (simp; done) | (simp [*]; done)), H', ⟨by have := HK1.out; omega⟩, ⟨by (with_reducible repeat (first | apply Kd.R_alloc | apply Kd.R_drewN | apply Kd.R_drew)); exact HO219.out⟩, ⟨by repeat (first | (with_reducible first | exact HB.out | apply below_alloc | apply pw_below_drewN | apply below_drew1) | exact HB.out)⟩⟩
          · rw [if_neg c4] at H
            exact absurd H (by simp)
        · rw [if_neg c3] at H
          have c3b0 : decide (128 ≤ x0_1) = false := decide_eq_false c3
          clear c3
          by_cases c6 : x3_1.length < 140737488355328
          · rw [if_pos c6] at H
            have LMc6 := Aside0.mk c6
            clear c6
            obtain ⟨y220, hy220⟩ : ∃ y_ : List Int, y_ = (x3_1 ++ [(x0_1) % 256]) := ⟨_, rfl⟩
            replace H : (some (strOfNums y220)) = some r := by first | (rw [hy220]; with_reducible exact H) | (have H2_ := (Option.bind_some _ _).symm.trans H; rw [hy220]; with_reducible exact H2_) | (have H2_ := (Option.bind_some _ _).symm.trans H; with_reducible exact H2_) | with_reducible exact H | (rw [hy220]; exact H) | exact H
            have Ny220 := Aside0.mk hy220
            clear hy220
            obtain rfl := Option.some.inj H
            go_wp2_with (first | ((with_reducible refine gate_builtin (b := .append) (xs := #[.tmp 17, .tmp 20]) rfl ?_); at_builtin; refine Kd.R_append (Kd.int .u8) (w0 := w) w.heap.size rfl (.tmp 17) (.tmp 20) 103 5 (.int .u8 0) 1 rfl Try.underlying103 info5 rfl (by decide) (by omega) u3 x3_1 ((x0_1) % 256) [.int .u8 ((x0_1) % 256)] (fun _ => True) (fun _ => False) rfl rfl ?aP (fun _ hk => hk.elim) ?aF ?aO ?aB ?aS ?aL ?_; (case aP => exact rfl); (case aB => exact (by repeat (first | (with_reducible first | exact HB.out | apply below_alloc | apply pw_below_drewN | apply below_drew1) | exact HB.out))); (case aF => exact (fun _ _ => trivial)); (case aO => exact (by (with_reducible repeat (first | apply Kd.R_alloc | apply Kd.R_drewN | apply Kd.R_drew)); exact HO_3.out)); (case aS => exact (below_size (by repeat (first | (with_reducible first | exact HB.out | apply below_alloc | apply pw_below_drewN | apply below_drew1) | exact HB.out)))); (case aL => have := LMc6.out; omega); intro v221 w7 ho hb hg hat; rw [← Ny220.out] at ho; have n0_ := Aside0.mk (hb); have n1_ := Aside0.mk (ho); clear HB; clear HO_3; have HB := n0_; have HO222 := n1_; clear n0_ n1_; clear ho hb hg hat; have hcv8 := own_string (P := Try.prog) Try.underlying103 Try.underlying5 Try.underlying9 (Kd.own_of_R HO222.out)))
            go_ret
            exact ⟨by first | rfl | (simp [errW_none, errW_some] <;> rfl) | (simp [*, errW_none, errW_some] <;> rfl), by repeat (first | (with_reducible first | exact HB.out | apply below_alloc | apply pw_below_drewN | apply below_drew1) | exact HB.out)⟩
          · rw [if_neg c6] at H
            exact absurd H (by simp)

-- NOT PRINTED: function 58 (strings_Builder_String)

/-! ### strings.Builder: contracts of its own walk (functions 68, 56, 58) -/
theorem bd_size : (Try.prog.info? 105).map (fun i => i.size) = some 2 := by kernel_rfl
theorem bd_lies : liesAt Try.prog Try.prog.depth 105 (2 / Try.prog.cellsOf 105) 0 105 1 = true := by kernel_rfl
theorem bd_info5 : (Try.prog.info? 5).map (fun i => (i.zero, i.size, i.bytes)) = some (some (.int .u8 0), 1, 1) := by kernel_rfl
set_option maxHeartbeats 1000000 in
set_option maxRecDepth 100000 in
theorem bd_check_used (b : Nat) (w : World) (h0 : w.cell? ⟨b, 0, none⟩ = some (.pointer (some ⟨b, 0, none⟩))) :
    Calls Try.prog 68 #[.pointer (some ⟨b, 0, none⟩)] w fun e w' => e = .returned (.tuple #[]) ∧ w' = w := by
  obtain ⟨j, hj, _⟩ := Option.map_eq_some_iff.1 bd_size
  go_enter Try.func68, Try.ntmps68
  go_wp2
  rw [Lib.run_neq_ptr_same w _ Try.underlying102 hj]
  go_wp2
  go_end0
  exact ⟨rfl, rfl⟩
set_option maxHeartbeats 1000000 in
set_option maxRecDepth 100000 in
theorem bd_check_fresh (b : Nat) (w : World) (h0 : w.cell? ⟨b, 0, none⟩ = some (.pointer none)) (hsh : w.shape? b = some (105, 2)) (hfz : w.frozen? ⟨b, 0, none⟩ = false) :
    Calls Try.prog 68 #[.pointer (some ⟨b, 0, none⟩)] w fun e w' => e = .returned (.tuple #[]) ∧ w' = w.setCell ⟨b, 0, none⟩ (.pointer (some ⟨b, 0, none⟩)) := by
  obtain ⟨j, hj, hjs⟩ := Option.map_eq_some_iff.1 bd_size
  go_enter Try.func68, Try.ntmps68
  go_wp2
  rw [Lib.run_to_unsafe w ⟨b, 0, none⟩ Try.underlying102 Try.underlying122 hj (by rw [hjs]; decide) hsh (Nat.zero_lt_succ 1)]
  simp only [Result.andThen]
  rw [Oper.upon_value]
  go_wp2
  rw [run_callFunc_extern Try.func69 (by kernel_rfl) (by kernel_rfl) (by kernel_rfl) (e := Extern.AbiNoEscape.same) (by kernel_rfl)]
  rw [Lib.run_noEscape]
  simp only [Result.andThen]
  rw [Oper.upon_value]
  go_wp2
  rw [Lib.run_from_unsafe w ⟨b, 0, none⟩ Try.underlying122 Try.underlying102 hj hsh bd_lies]
  simp only [Result.andThen]
  rw [Oper.upon_value]
  go_wp2
  go_end0
  exact ⟨rfl, rfl⟩
/-- What is neither the builder's block nor a row of bytes stays. -/
def BdKeep (w w' : World) (b : Nat) : Prop := ∀ i o, i ≠ b → w.heap[i]? = some o → (∀ cs fr, o ≠ .cells cs 5 fr) → w'.heap[i]? = some o
theorem BdKeep.refl (w : World) (b : Nat) : BdKeep w w b := fun _ _ _ h _ => h
theorem BdKeep.trans {w w1 w2 : World} {b : Nat} (h : BdKeep w w1 b) (k : BdKeep w1 w2 b) : BdKeep w w2 b := fun i o hi ho ht => k i o hi (h i o hi ho ht) ht
theorem BdKeep.below {w w1 : World} {b : Nat} (h : Below w.heap.size w w1) : BdKeep w w1 b := fun i o _ ho _ => by
  rw [h.block i (by
    apply Classical.byContradiction
    intro hc
    rw [Array.getElem?_eq_none (by omega)] at ho
    cases ho)]
  exact ho
theorem bd_check (B b : Nat) (bs : List Value) (w : World) (h : Lib.IsBuilder 105 5 B b bs w) :
    Calls Try.prog 68 #[.pointer (some ⟨b, 0, none⟩)] w fun e w' => e = .returned (.tuple #[]) ∧ (Lib.BuilderAt 105 5 B b (.pointer (some ⟨b, 0, none⟩)) bs w' ∧ Below B w w' ∧ BdKeep w w' b) := by
  rcases h with h | h
  · refine (bd_check_fresh b w h.cell0 h.shape h.frozen0).mono ?_
    rintro e w' ⟨rfl, rfl⟩
    exact ⟨rfl, h.used _, (Below.refl B w).setCell (p := ⟨b, 0, none⟩) h.1 _, fun i o hi ho _ => by rw [Below.heap_setCell _ _ _ _ hi]; exact ho⟩
  · refine (bd_check_used b w h.cell0).mono ?_
    rintro e w' ⟨rfl, rfl⟩
    exact ⟨rfl, h, Below.refl B _, BdKeep.refl _ _⟩
set_option maxHeartbeats 2000000 in
set_option maxRecDepth 100000 in
theorem bd_write (B b : Nat) (bs : List Value) (s : ByteArray) (w : World) (h : Lib.IsBuilder 105 5 B b bs w) (hlen : bs.length + s.size ≤ 140737488355328) (hBw : B ≤ w.heap.size) :
    Calls Try.prog 56 #[.pointer (some ⟨b, 0, none⟩), .string s] w fun e w' => e = .returned (.tuple #[.int .i64 s.size, .nilIface]) ∧ (Lib.IsBuilder 105 5 B b (bs ++ Lib.strCells s) w' ∧ Below B w w' ∧ BdKeep w w' b) := by
  obtain ⟨i0, hi, hz0, hz1, hz2⟩ := info_parts bd_info5
  have e240 : ∀ args w, (callFunc 68 args).run Try.prog w = .ok (.enter 68 args) w := enters_of Try.func68 (by kernel_rfl) rfl
  go_enter Try.func56, Try.ntmps56
  go_wp2_with (go_at_call 68; refine (bd_check B b bs _ h).mono ?_)
  rintro e w1 ⟨rfl, h1, hb1, hk1⟩
  obtain ⟨hB, v, hbk, hown, hne⟩ := h1
  have c0 : w1.cell? ⟨b, 0, none⟩ = some (.pointer (some ⟨b, 0, none⟩)) := by rw [Lib.cell_of_heap hbk]; rfl
  have c1 : w1.cell? ⟨b, 1, none⟩ = some v := by rw [Lib.cell_of_heap hbk]; rfl
  go_wp2_with (at_builtin; refine Lib.wpList_append_own_string _ rfl _ _ 103 9 rfl B 5 i0 Try.underlying103 Try.underlying9 hi hz0 hz1 hz2 _ _ _ rfl hown s rfl ?c3 ?c4 ?c5 ?_)
  case c3 => unfold maxLen; omega
  case c4 => omega
  case c5 => have := hb1.size; omega
  intro v' w2 hown' hgrow _
  have hlt : b < w1.heap.size := by
    rcases Nat.lt_or_ge b w1.heap.size with h' | h'
    · exact h'
    · simp [Array.getElem?_eq_none h'] at hbk
  have hb2 : w2.heap[b]? = some (.cells #[.pointer (some ⟨b, 0, none⟩), v] 105 (0, 0)) := by
    rw [hgrow.block b hlt (fun e => hne e.symm)]
    exact hbk
  have d0 : w2.cell? ⟨b, 0, none⟩ = some (.pointer (some ⟨b, 0, none⟩)) := by rw [Lib.cell_of_heap hb2]; rfl
  have d1 : w2.cell? ⟨b, 1, none⟩ = some v := by rw [Lib.cell_of_heap hb2]; rfl
  have f1 : w2.frozen? ⟨b, 1, none⟩ = false := Lib.frozen_of_heap hb2 1
  have hk2 : BdKeep w w2 b := by
    refine hk1.trans fun i o hi ho ht => ?_
    have hil : i < w1.heap.size := by
      apply Classical.byContradiction
      intro hc
      rw [Array.getElem?_eq_none (by omega)] at ho
      cases ho
    rw [hgrow.block i hil ?_]
    · exact ho
    · intro e
      rcases hown.2 with ⟨hv, _⟩ | ⟨g, cap, cur, hv, _, hg, _⟩
      · rw [hv] at e; simp [Value.ownBlock] at e
      · rw [hv] at e
        simp only [Value.ownBlock, Option.some.injEq] at e
        subst e
        rw [hg] at ho
        injection ho with ho
        exact ht _ _ ho.symm
  obtain ⟨ao, n', cap, rfl⟩ : ∃ ao n' cap, v' = .slice ao n' cap := by
    rcases hown'.2 with ⟨hv, _⟩ | ⟨g, cap, cur, hv, _⟩
    · exact ⟨_, _, _, hv⟩
    · exact ⟨_, _, _, hv⟩
  go_wp2
  go_ret2
  refine ⟨rfl, .inr ?_, ?_, ?_⟩
  · exact Lib.BuilderAt.put (T := 105) (e := 5) hB hb2 (bs' := bs ++ Lib.strCells s) (by simpa [Lib.strCells_length] using hown') (by decide)
  · exact (hb1.grown hgrow (by have := hb1.size; omega) (fun k hk => (hown.lt k hk).1)).setCell (p := ⟨b, 1, none⟩) hB _
  · exact hk2.trans fun i o hi ho _ => by rw [Below.heap_setCell _ _ _ _ hi]; exact ho
def bd_ren : Go.Shelf.Ren := ⟨fun | 169 => 58 | n => n, fun | 70 => 102 | 9 => 9 | 0 => 0 | 72 => 105 | 37 => 103 | 127 => 121 | 3 => 3 | 5 => 5 | n => n, fun | n => n⟩
theorem bd_lays : Go.Proofs.Lays.n169 Try.prog bd_ren := {
  mixed := by kernel_rfl
  f169 := Try.func58.trans (congrArg some (by kernel_rfl))
  t0 := Try.underlying0
  a0 := Try.isAgg0
  z0 := Try.sizeOf0
  v0 := Try.zeroValue0
  t3 := Try.underlying3
  a3 := Try.isAgg3
  z3 := Try.sizeOf3
  v3 := Try.zeroValue3
  t9 := Try.underlying9
  a9 := Try.isAgg9
  z9 := Try.sizeOf9
  v9 := Try.zeroValue9
  t37 := Try.underlying103
  a37 := Try.isAgg103
  z37 := Try.sizeOf103
  v37 := Try.zeroValue103
  t70 := Try.underlying102
  a70 := Try.isAgg102
  z70 := Try.sizeOf102
  v70 := Try.zeroValue102
  t72 := Try.underlying105
  a72 := Try.isAgg105
  z72 := Try.sizeOf105
  v72 := Try.zeroValue105
  t127 := Try.underlying121
  a127 := Try.isAgg121
  z127 := Try.sizeOf121
  v127 := Try.zeroValue121 }
theorem bd_extra : Builder.Extra Try.prog bd_ren := {
  sizeBuilder := by kernel_rfl
  liesBuilder := by kernel_rfl
  t5 := Try.underlying5
  a5 := Try.isAgg5
  z5 := Try.sizeOf5
  v5 := Try.zeroValue5
  infoByte := by kernel_rfl
  cellsByte := by kernel_rfl
  sizeByte := by kernel_rfl
  neB5 := by decide }
theorem bd_string (B b : Nat) (s : ByteArray) (w : World) (h : Lib.IsBuilder 105 5 B b (Lib.strCells s) w) (hBw : B ≤ w.heap.size) :
    Calls Try.prog 58 #[.pointer (some ⟨b, 0, none⟩)] w fun e w' => e = .returned (.string s) ∧ Below B w w' := by
  have h2 := Any.Builder_String_any bd_lays bd_extra B b s.data.toList w h hBw
  exact h2
/-- A builder's bytes, at a world in which all that was there is as it was. -/
theorem bd_below {B b : Nat} {bs : List Value} {W W1 : World} (h : Lib.IsBuilder 105 5 B b bs W) (hb : Below W.heap.size W W1) : Lib.IsBuilder 105 5 B b bs W1 := by
  have key : ∀ p, Lib.BuilderAt 105 5 B b p bs W → Lib.BuilderAt 105 5 B b p bs W1 := by
    rintro p ⟨hB, v, hbk, hown, hne⟩
    have hlt : b < W.heap.size := by
      apply Classical.byContradiction
      intro hc
      rw [Array.getElem?_eq_none (by omega)] at hbk
      cases hbk
    exact ⟨hB, v, by rw [hb.block b hlt]; exact hbk, hown.kept (grown_of_below hb none) (by cases v.ownBlock <;> simp), hne⟩
  rcases h with h | h
  · exact .inl (key _ h)
  · exact .inr (key _ h)

end Go.Proofs.Ytbhlphadcphapaa.PR
