-- written by a program of this session
import Derived.Test.YtbhlphadcphapaaPDx0
import Derived.Test.YtbhlphadcphapaaPDx4
import Derived.Test.YtbhlphadcphapaaPDx8
import Derived.Test.YtbhlphadcphapaaPDx9
namespace Go.Proofs.Ytbhlphadcphapaa.PD
open Go.RowKit Go.Proofs.Ytbhlphadcphapaa.Op Go.Proofs.YtbhlphadcphapaaW.PrintWords Go.Proofs.YtbhlphadcphapaaW.PrintLast Go.Proofs.YtbhlphadcphapaaW.PrintMore
attribute [local go_sem] max2_int min2_int max_two min_two max_three min_three max_four min_four   -- for this text's walks alone
set_option linter.unusedVariables false
set_option linter.unusedSimpArgs false

/-! ### spliceref08_Apply: function 20 (by hand) -/
def spliceref08_Apply.t (k : Nat) (a0_0 a0_1 : Int) (l0_2 old fresh : List (S82)) (i : Nat) : Option (Int × Int × (List (S82)) × (List (S82)) × (List (S82)) × Int) :=
  (spliceref08_Check.f k (wrap64 (a0_0 + 1)) (wrap64 (a0_1 + (fresh.length : Int))) (l0_2.take i ++ fresh ++ l0_2.drop (i + old.length))).bind fun t => if t = true then some (wrap64 (a0_0 + 1), wrap64 (a0_1 + (fresh.length : Int)), l0_2.take i ++ fresh ++ l0_2.drop (i + old.length), old, fresh, 0) else some (0, 0, [], [], [], 2)
def spliceref08_Apply.m (k : Nat) (a0_0 a0_1 : Int) (l0_2 : List (S82)) (a1 a3 : Int) (i : Nat) (x : S82) : Option (Int × Int × (List (S82)) × (List (S82)) × (List (S82)) × Int) :=
  if a1 = 1 then (if a3 ≤ x.f1.f0 ∨ x.f1.f1 ≤ a3 then some (0, 0, [], [], [], 1) else spliceref08_Apply.t k a0_0 a0_1 l0_2 [x] [⟨a0_1, ⟨x.f1.f0, a3⟩, x.f2⟩, ⟨wrap64 (a0_1 + 1), ⟨a3, x.f1.f1⟩, x.f2⟩] i)
  else if a1 = 2 then (if i + 1 = l0_2.length then some (0, 0, [], [], [], 4) else spliceref08_Apply.t k a0_0 a0_1 l0_2 [x, rd_T82 l0_2 ((i + 1 : Nat) : Int)] [⟨a0_1, ⟨x.f1.f0, (rd_T82 l0_2 ((i + 1 : Nat) : Int)).f1.f1⟩, x.f2⟩] i)
  else spliceref08_Apply.t k a0_0 a0_1 l0_2 [x] [⟨a0_1, x.f1, a3⟩] i
def spliceref08_Apply.f (k : Nat) (a0_0 : Int) (a0_1 : Int) (l0_2 : List (S82)) (a1 : Int) (a2 : Int) (a3 : Int) : Option (Int × Int × (List (S82)) × (List (S82)) × (List (S82)) × Int) :=
  if 1000000 < l0_2.length then none else (spliceref08_Check.f k a0_0 a0_1 l0_2).bind fun t => if t = false ∨ a1 < 1 ∨ 3 < a1 ∨ (a1 = 3 ∧ (a3 < 0 ∨ 4 < a3)) then some (0, 0, [], [], [], 1) else
  (spliceref08_Find.f k a0_0 a0_1 l0_2 a2).bind fun i => if i < 0 then some (0, 0, [], [], [], 4) else if (l0_2.length : Int) ≤ i then none else spliceref08_Apply.m k a0_0 a0_1 l0_2 a1 a3 i.toNat (rd_T82 l0_2 i)
theorem spliceref08_Apply.mono_t (a0_0 a0_1 : Int) (l0_2 old fresh : List (S82)) (i k : Nat) : LeO (spliceref08_Apply.t k a0_0 a0_1 l0_2 old fresh i) (spliceref08_Apply.t (k + 1) a0_0 a0_1 l0_2 old fresh i) := by
  unfold spliceref08_Apply.t
  exact LeO.bind (spliceref08_Check.mono _ _ _ _) (fun _ => LeO.refl _)
theorem spliceref08_Apply.mono : ∀ a0 a1 a2 a3 a4 a5 k, LeO (spliceref08_Apply.f k a0 a1 a2 a3 a4 a5) (spliceref08_Apply.f (k + 1) a0 a1 a2 a3 a4 a5) := by
  intro a0 a1 a2 a3 a4 a5 k
  unfold spliceref08_Apply.f
  refine LeO.ite (LeO.refl _) (LeO.bind (spliceref08_Check.mono _ _ _ _) (fun _ => LeO.ite (LeO.refl _) (LeO.bind (spliceref08_Find.mono _ _ _ _ _) (fun _ => LeO.ite (LeO.refl _) (LeO.ite (LeO.refl _) ?_)))))
  unfold spliceref08_Apply.m
  exact LeO.ite (LeO.ite (LeO.refl _) (spliceref08_Apply.mono_t _ _ _ _ _ _ _)) (LeO.ite (LeO.ite (LeO.refl _) (spliceref08_Apply.mono_t _ _ _ _ _ _ _)) (spliceref08_Apply.mono_t _ _ _ _ _ _ _))
def shc (x : S82) : List Value := [.int .i64 x.f0, .int .i64 x.f1.f0, .int .i64 x.f1.f1, .int .i64 x.f2]
theorem R_ofB {W : World} {g base n : Nat} {xs : List S82} {inner : List Value} {ok : Nat → Prop} (h : W.heap[g]? = some (.cells inner.toArray 82 (0, 0))) (hg : base ≤ g) (hok : ok g) (hn : n = xs.length) (hl : xs.length ≤ 1000) (hr : Reps (k82.M W base (fun _ => True)) k82.sz xs inner) : Kd.R k82 82 W base ok (.slice (some ⟨g, 0, none⟩) n n) xs := by
  subst hn
  refine ⟨fun k hk => ?_, inner, ⟨hr.1, .inr ⟨g, _, _, rfl, hg, h, Nat.le_refl _, by unfold maxLen; omega, by simpa using hr.1, List.take_of_length_le (by simpa using Nat.le_of_eq hr.1)⟩⟩, hr.imp_ (fun p c hp => ?_)⟩
  · have : g = k := by simpa [Value.ownBlock] using hk
    subst this; exact hok
  · refine k82.M_mono (fun k hk => ?_) (k82.M_bound hp)
    obtain ⟨_, _, _, q, hq, _⟩ := hk
    have he : k82.E = [] := rfl
    rw [he] at hq; simp at hq
theorem reps1 {W : World} {base : Nat} {ok : Nat → Prop} (x : S82) : Reps (k82.M W base ok) k82.sz [x] (shc x) := Reps.c4 (k82_mkM _ _ _ x) (Reps.none _ _)
theorem reps2 {W : World} {base : Nat} {ok : Nat → Prop} (x y : S82) : Reps (k82.M W base ok) k82.sz [x, y] (shc x ++ shc y) := Reps.c4 (k82_mkM _ _ _ x) (Reps.c4 (k82_mkM _ _ _ y) (Reps.none _ _))
theorem Bx.sub {w W : World} {l l' : BxL} (h : Bx w W l) (hs : List.Sublist l' l) : Bx w W l' := ⟨fun e he => h.at_ e (hs.subset he), h.nd.sublist (hs.map _), h.bel⟩
theorem cellB {W W' : World} (hb : Below W.heap.size W W') {a : Addr} {v : Value} (h : W.cell? a = some v) : W'.cell? a = some v := (hb.cell (World.block_lt_of_cell? W a h)).trans h
theorem cellA {W : World} {o : Obj} {a : Addr} {v : Value} (h : W.cell? a = some v) : (W.alloc o).cell? a = some v := (World.cell?_alloc_lt _ _ _ (World.block_lt_of_cell? _ _ h)).trans h
def outAt (L fresh : List S82) (i on m : Nat) : List S82 := if m ≤ i then L.take m else L.take i ++ fresh ++ (L.take m).drop (i + on)
theorem take_rd (l : List S82) (j : Nat) (h : j < l.length) : l.take (j + 1) = l.take j ++ [rd_T82 l (j : Int)] := by
  unfold rd_T82
  rw [Int.toNat_natCast, List.getD_eq_getElem?_getD, List.getElem?_eq_getElem h, List.take_add_one, List.getElem?_eq_getElem h]; rfl
theorem outAt_0 (L fresh : List S82) (i on : Nat) : outAt L fresh i on 0 = [] := by simp [outAt]
theorem outAt_i (L fresh : List S82) (i on : Nat) : outAt L fresh i on i = L.take i := by simp [outAt]
theorem outAt_len (L fresh : List S82) (i on m : Nat) (hm : m ≤ L.length) : (outAt L fresh i on m).length ≤ 2 * L.length + fresh.length := by
  unfold outAt; split
  · rw [List.length_take]; omega
  · simp only [List.length_append, List.length_take, List.length_drop]; omega
theorem outAt_lt (L fresh : List S82) (i on m : Nat) (h : m < i) (hl : m < L.length) : outAt L fresh i on (m + 1) = outAt L fresh i on m ++ [rd_T82 L (m : Int)] := by
  unfold outAt; rw [if_pos (by omega), if_pos (by omega), take_rd L m hl]
theorem outAt_gt (L fresh : List S82) (i on m : Nat) (h : i < m) (ho : i + on ≤ m) (hl : m < L.length) : outAt L fresh i on (m + 1) = outAt L fresh i on m ++ [rd_T82 L (m : Int)] := by
  unfold outAt; rw [if_neg (by omega), if_neg (by omega), take_rd L m hl, List.drop_append_of_le_length (by rw [List.length_take]; omega)]
  simp only [List.append_assoc]
theorem outAt_mid (L fresh : List S82) (i on m : Nat) (h : i < m) (ho : m < i + on) : outAt L fresh i on (m + 1) = outAt L fresh i on m := by
  unfold outAt; rw [if_neg (by omega), if_neg (by omega), List.drop_eq_nil_of_le (by rw [List.length_take]; omega), List.drop_eq_nil_of_le (by rw [List.length_take]; omega)]
theorem outAt_at (L fresh : List S82) (i on : Nat) (ho : 1 ≤ on) (hl : i < L.length) : outAt L fresh i on (i + 1) = L.take i ++ fresh := by
  unfold outAt; rw [if_neg (by omega), List.drop_eq_nil_of_le (by rw [List.length_take]; omega), List.append_nil]
theorem outAt_end (L fresh : List S82) (i on : Nat) (hi : i < L.length) : outAt L fresh i on L.length = L.take i ++ fresh ++ L.drop (i + on) := by
  unfold outAt; rw [if_neg (by omega), List.take_length]
theorem info82_ : (Try.prog.info? 82).map (fun i => (i.zero, i.size, i.bytes)) = some (some (.agg #[(.int .i64 0), (.int .i64 0), (.int .i64 0), (.int .i64 0)]), 4, 32) := by kernel_rfl
def apply14.T : Bool × List (List Nat × List Nat) := (true, [([], []), ([], []), ([1], [1]), ([], []), ([3], [3]), ([2, 4], [2, 4]), ([5], [5]), ([0, 6], [0, 6]), ([7, 0, 1, 2, 3, 4, 5, 6, 7], [7])])
def apply14.B : List Nat := [0, 0, 2, 0, 8, 30, 62, 127, 255]
theorem apply14.tab : rtab .any (opsOf Try.f20 14) = apply14.T := by kernel_rfl
theorem apply14.bits : waitsOk apply14.T.2 apply14.B = true := by kernel_rfl
def apply15.T : Bool × List (List Nat × List Nat) := (true, [([], []), ([0], [0]), ([], []), ([2], [2]), ([3], [3]), ([], []), ([5], [5]), ([], []), ([7], [7]), ([6, 8], [6, 8]), ([9], [9]), ([10], [10]), ([11], [11]), ([4, 12], [4, 12]), ([], []), ([14], [14]), ([1, 13, 15], [1, 13, 15]), ([16], [16]), ([17, 0, 1, 2, 3, 4, 5, 6, 7, 8, 9, 10, 11, 12, 13, 14, 15, 16, 17], [17])])
def apply15.B : List Nat := [0, 1, 0, 4, 12, 0, 32, 0, 128, 480, 992, 2016, 4064, 8188, 0, 16384, 65535, 131071, 262143]
theorem apply15.tab : rtab .any (opsOf Try.f20 15) = apply15.T := by kernel_rfl
theorem apply15.bits : waitsOk apply15.T.2 apply15.B = true := by kernel_rfl
def apply24.T : Bool × List (List Nat × List Nat) := (true, [([], []), ([0], [0]), ([], []), ([], []), ([2, 3], [2, 3]), ([4], [4]), ([5], [5]), ([1, 6], [1, 6]), ([0, 1, 2, 3, 4, 5, 6, 7], []), ([8, 7, 7, 0, 1, 2, 3, 4, 5, 6, 7], [7, 8])])
def apply24.B : List Nat := [0, 1, 0, 0, 12, 28, 60, 127, 255, 511]
theorem apply24.tab : rtab .any (opsOf Try.f20 24) = apply24.T := by kernel_rfl
theorem apply24.bits : waitsOk apply24.T.2 apply24.B = true := by kernel_rfl
def apply26.T : Bool × List (List Nat × List Nat) := (true, [([], []), ([0], [0]), ([], []), ([2], [2]), ([], []), ([3, 4], [3, 4]), ([5], [5]), ([6], [6]), ([1, 7], [1, 7]), ([0, 1, 2, 3, 4, 5, 6, 7, 8], []), ([9, 8, 8, 0, 1, 2, 3, 4, 5, 6, 7, 8], [8, 9])])
def apply26.B : List Nat := [0, 1, 0, 4, 0, 28, 60, 124, 255, 511, 1023]
theorem apply26.tab : rtab .any (opsOf Try.f20 26) = apply26.T := by kernel_rfl
theorem apply26.bits : waitsOk apply26.T.2 apply26.B = true := by kernel_rfl
set_option maxHeartbeats 16000000 in
set_option maxRecDepth 100000 in
theorem spliceref08_Apply.calls (k : Nat) (a0_0 : Int) (a0_1 : Int) (A0_2 : Option Addr) (c0_2 : Nat) (l0_2 : List (S82)) (a1 : Int) (a2 : Int) (a3 : Int) (r1 : Int) (r2 : Int) (r3 : List (S82)) (r4 : List (S82)) (r5 : List (S82)) (r6 : Int) (w : World) (hr0_2 : Kd.C k82 w A0_2 l0_2.length l0_2) (hc0_2 : l0_2.length ≤ c0_2) (h : spliceref08_Apply.f k a0_0 a0_1 l0_2 a1 a2 a3 = some (r1, r2, r3, r4, r5, r6)) :
    Calls Try.prog 20 #[.agg #[.int .i64 a0_0, .int .i64 a0_1, .slice A0_2 l0_2.length c0_2], .int .i64 a1, .int .i64 a2, .int .i64 a3] w fun e w' => ∃ v2_ v3_ v4_ : Value, e = .returned (.agg #[.int .i64 r1, .int .i64 r2, v2_, v3_, v4_, .int .i64 r6]) ∧ Kd.R k82 82 w' w.heap.size (fun k_ => some k_ ≠ (v3_ : Value).ownBlock ∧ some k_ ≠ (v4_ : Value).ownBlock) v2_ r3 ∧ Kd.R k82 82 w' w.heap.size (fun k_ => some k_ ≠ (v2_ : Value).ownBlock ∧ some k_ ≠ (v4_ : Value).ownBlock) v3_ r4 ∧ Kd.R k82 82 w' w.heap.size (fun k_ => some k_ ≠ (v2_ : Value).ownBlock ∧ some k_ ≠ (v3_ : Value).ownBlock) v4_ r5 ∧ Below w.heap.size w w' := by
  have HR0 := Aside0.mk hr0_2
  have HC0 := Aside0.mk hc0_2
  have hmax := hr0_2.2.1
  unfold spliceref08_Apply.f at h
  by_cases hbig : 1000000 < l0_2.length
  case pos => rw [if_pos hbig] at h; exact absurd h (by simp)
  rw [if_neg hbig] at h
  have hlen : l0_2.length ≤ 1000000 := by omega
  clear hbig
  obtain ⟨t, hC, h1⟩ := Option.bind_eq_some_iff.1 h
  have HCk := Aside0.mk hC
  clear hr0_2 hc0_2 h hC
  have HB := Aside0.mk (((Bx.start w).push #[.int .i64 a0_0, .int .i64 a0_1, .slice A0_2 l0_2.length c0_2] 30).push #[.int .i64 0, .int .i64 0, .slice none 0 0, .slice none 0 0, .slice none 0 0, .int .i64 0] 43)
  go_enter Try.func20, Try.ntmps20
  go_upto_region 1 with (fail)
  simp only [alloc_size, List.nil_append, List.cons_append] at HB
  generalize (w.alloc (.cells #[.int .i64 a0_0, .int .i64 a0_1, .slice A0_2 l0_2.length c0_2] 30)).alloc (.cells #[.int .i64 0, .int .i64 0, .slice none 0 0, .slice none 0 0, .slice none 0 0, .int .i64 0] 43) = w2 at HB ⊢
  generalize w.heap.size + 1 = b8 at HB ⊢
  obtain ⟨b4, hb4⟩ : ∃ b4, b4 = w.heap.size := ⟨_, rfl⟩
  rw [← hb4] at HB
  try rw [← hb4]
  clear hb4
  have y0 : World.cell? w2 ⟨b4, 0, none⟩ = some (.int .i64 a0_0) := (blk_cell (HB.out.get 0 rfl) 0).trans rfl
  have y1 : World.cell? w2 ⟨b4, 1, none⟩ = some (.int .i64 a0_1) := (blk_cell (HB.out.get 0 rfl) 1).trans rfl
  have y2 : World.cell? w2 ⟨b4, 2, none⟩ = some (.slice A0_2 l0_2.length c0_2) := (blk_cell (HB.out.get 0 rfl) 2).trans rfl
  by_cases hbad : t = false ∨ a1 < 1 ∨ 3 < a1 ∨ (a1 = 3 ∧ (a3 < 0 ∨ 4 < a3))
  · rw [if_pos hbad] at h1
    simp only [Option.some.injEq, Prod.mk.injEq] at h1
    obtain ⟨rfl, rfl, rfl, rfl, rfl, rfl⟩ := h1
    have hq : t = false ∨ (t = true ∧ decide (a1 < 1) = true) ∨ (t = true ∧ decide (a1 < 1) = false ∧ decide (a1 > 3) = true ∧ decide (3 < a1) = true) ∨ (t = true ∧ a1 = 3 ∧ decide (a3 < 0) = true) ∨ (t = true ∧ a1 = 3 ∧ decide (a3 < 0) = false ∧ decide (a3 > 4) = true ∧ decide (4 < a3) = true) := by
      cases t with
      | false => exact Or.inl rfl
      | true =>
        simp only [Bool.true_eq_false, false_or] at hbad
        by_cases c1 : a1 < 1
        · exact Or.inr (Or.inl ⟨rfl, decide_eq_true c1⟩)
        · by_cases c2 : 3 < a1
          · exact Or.inr (Or.inr (Or.inl ⟨rfl, decide_eq_false c1, decide_eq_true c2, decide_eq_true c2⟩))
          · have h3 : a1 = 3 ∧ (a3 < 0 ∨ 4 < a3) := by omega
            by_cases c3 : a3 < 0
            · exact Or.inr (Or.inr (Or.inr (Or.inl ⟨rfl, h3.1, decide_eq_true c3⟩)))
            · exact Or.inr (Or.inr (Or.inr (Or.inr ⟨rfl, h3.1, decide_eq_false c3, decide_eq_true (show 4 < a3 by omega), decide_eq_true (by omega)⟩)))
    clear hbad hmax hlen
    rcases hq with rfl | ⟨rfl, q1⟩ | ⟨rfl, q1, q2, q3⟩ | ⟨rfl, rfl, q1⟩ | ⟨rfl, rfl, q1, q2, q3⟩
    all_goals
      go_upto_region 2 with (go_at_call 29; refine (spliceref08_Check.calls k a0_0 a0_1 _ c0_2 l0_2 _ _ (Kd.C_below HR0.out HB.out.bel) HC0.out HCk.out).mono ?_; rintro e w3 ⟨rfl, hb⟩; replace HB := Aside0.mk (HB.out.below hb); clear hb)
      clear y0 y1 y2
      have t0 : World.cell? w3 ⟨b8, 0, none⟩ = some (.int .i64 0) := (blk_cell (HB.out.get 1 rfl) 0).trans rfl
      have t1 : World.cell? w3 ⟨b8, 1, none⟩ = some (.int .i64 0) := (blk_cell (HB.out.get 1 rfl) 1).trans rfl
      have t2 : World.cell? w3 ⟨b8, 2, none⟩ = some (.slice none 0 0) := (blk_cell (HB.out.get 1 rfl) 2).trans rfl
      have t3 : World.cell? w3 ⟨b8, 3, none⟩ = some (.slice none 0 0) := (blk_cell (HB.out.get 1 rfl) 3).trans rfl
      have t4 : World.cell? w3 ⟨b8, 4, none⟩ = some (.slice none 0 0) := (blk_cell (HB.out.get 1 rfl) 4).trans rfl
      have t5 : World.cell? w3 ⟨b8, 5, none⟩ = some (.int .i64 0) := (blk_cell (HB.out.get 1 rfl) 5).trans rfl
      have tz0 : World.frozen? w3 ⟨b8, 0, none⟩ = false := blk_frozen (HB.out.get 1 rfl) 0
      have tz1 : World.frozen? w3 ⟨b8, 1, none⟩ = false := blk_frozen (HB.out.get 1 rfl) 1
      have tz2 : World.frozen? w3 ⟨b8, 2, none⟩ = false := blk_frozen (HB.out.get 1 rfl) 2
      have tz3 : World.frozen? w3 ⟨b8, 3, none⟩ = false := blk_frozen (HB.out.get 1 rfl) 3
      have tz4 : World.frozen? w3 ⟨b8, 4, none⟩ = false := blk_frozen (HB.out.get 1 rfl) 4
      have tz5 : World.frozen? w3 ⟨b8, 5, none⟩ = false := blk_frozen (HB.out.get 1 rfl) 5
      go_wp2
      replace HB : Aside0 (Bx w ((((((w3.setCell ⟨b8, 0, none⟩ (.int .i64 0)).setCell ⟨b8, 1, none⟩ (.int .i64 0)).setCell ⟨b8, 2, none⟩ (.slice none 0 0)).setCell ⟨b8, 3, none⟩ (.slice none 0 0)).setCell ⟨b8, 4, none⟩ (.slice none 0 0)).setCell ⟨b8, 5, none⟩ (.int .i64 1)) [(b4, #[.int .i64 a0_0, .int .i64 a0_1, .slice A0_2 l0_2.length c0_2], 30), (b8, #[.int .i64 0, .int .i64 0, .slice none 0 0, .slice none 0 0, .slice none 0 0, .int .i64 1], 43)]) := ⟨((((((HB.out.set 1 0 (.int .i64 0) rfl).set 1 1 (.int .i64 0) rfl).set 1 2 (.slice none 0 0) rfl).set 1 3 (.slice none 0 0) rfl).set 1 4 (.slice none 0 0) rfl).set 1 5 (.int .i64 1) rfl)⟩
      generalize ((((((w3.setCell ⟨b8, 0, none⟩ (.int .i64 0)).setCell ⟨b8, 1, none⟩ (.int .i64 0)).setCell ⟨b8, 2, none⟩ (.slice none 0 0)).setCell ⟨b8, 3, none⟩ (.slice none 0 0)).setCell ⟨b8, 4, none⟩ (.slice none 0 0)).setCell ⟨b8, 5, none⟩ (.int .i64 1)) = w99 at HB ⊢
      refine bodyPost_ret (results_single rfl (.cell b8 43 #[.int .i64 0, .int .i64 0, .slice none 0 0, .slice none 0 0, .slice none 0 0, .int .i64 1] (0, 0) _ rfl (HB.out.get 1 rfl) Try.underlying43 rfl (by kernel_rfl) .nil)) rfl ?_
      exact ⟨_, _, _, rfl, Kd.R_nil _ _ _ _ _, Kd.R_nil _ _ _ _ _, Kd.R_nil _ _ _ _ _, HB.out.bel⟩
  rw [if_neg hbad] at h1
  obtain ⟨i, hF, h2⟩ := Option.bind_eq_some_iff.1 h1
  have HF := Aside0.mk hF
  clear h1 hF
  obtain rfl : t = true := by cases t with | true => rfl | false => exact absurd (Or.inl rfl) hbad
  have hk : 1 ≤ a1 ∧ a1 ≤ 3 ∧ (a1 = 3 → 0 ≤ a3 ∧ a3 ≤ 4) := by refine ⟨?_, ?_, ?_⟩ <;> omega
  clear hbad
  have hq : (a1 ≠ 3 ∧ (a1 = 1 ∨ a1 = 2)) ∨ (a1 = 3 ∧ 0 ≤ a3 ∧ a3 ≤ 4) := by omega
  have hkinds : a1 = 1 ∨ a1 = 2 ∨ (a1 = 3 ∧ decide (a3 < 0) = false ∧ decide (a3 > 4) = false ∧ decide (4 < a3) = false) := by
    rcases hq with ⟨_, hq⟩ | hq
    · exact hq.elim Or.inl (fun e => Or.inr (Or.inl e))
    · exact Or.inr (Or.inr ⟨hq.1, decide_eq_false (by omega), decide_eq_false (by omega), decide_eq_false (by omega)⟩)
  clear hq hk
  rcases hkinds with rfl | rfl | ⟨rfl, q1, q2, q3⟩
  · skip
    go_upto_region 3 with (go_at_call 29; refine (spliceref08_Check.calls k a0_0 a0_1 _ c0_2 l0_2 _ _ (Kd.C_below HR0.out HB.out.bel) HC0.out HCk.out).mono ?_; rintro e w3 ⟨rfl, hb⟩; replace HB := Aside0.mk (HB.out.below hb); clear hb)
    clear y0 y1 y2
    have y0 : World.cell? w3 ⟨b4, 0, none⟩ = some (.int .i64 a0_0) := (blk_cell (HB.out.get 0 rfl) 0).trans rfl
    have y1 : World.cell? w3 ⟨b4, 1, none⟩ = some (.int .i64 a0_1) := (blk_cell (HB.out.get 0 rfl) 1).trans rfl
    have y2 : World.cell? w3 ⟨b4, 2, none⟩ = some (.slice A0_2 l0_2.length c0_2) := (blk_cell (HB.out.get 0 rfl) 2).trans rfl
    by_cases hi0 : i < 0
    · rw [if_pos hi0] at h2
      simp only [Option.some.injEq, Prod.mk.injEq] at h2
      obtain ⟨rfl, rfl, rfl, rfl, rfl, rfl⟩ := h2
      have q1 : decide (i < 0) = true := decide_eq_true hi0
      clear hi0
      go_upto_region 5 with (go_at_call 28; refine (spliceref08_Find.calls k a0_0 a0_1 _ c0_2 l0_2 a2 _ _ (Kd.C_below HR0.out HB.out.bel) HC0.out HF.out).mono ?_; rintro e w4 ⟨rfl, hb⟩; replace HB := Aside0.mk (HB.out.below hb); clear hb)
      clear y0 y1 y2
      have t0 : World.cell? w4 ⟨b8, 0, none⟩ = some (.int .i64 0) := (blk_cell (HB.out.get 1 rfl) 0).trans rfl
      have t1 : World.cell? w4 ⟨b8, 1, none⟩ = some (.int .i64 0) := (blk_cell (HB.out.get 1 rfl) 1).trans rfl
      have t2 : World.cell? w4 ⟨b8, 2, none⟩ = some (.slice none 0 0) := (blk_cell (HB.out.get 1 rfl) 2).trans rfl
      have t3 : World.cell? w4 ⟨b8, 3, none⟩ = some (.slice none 0 0) := (blk_cell (HB.out.get 1 rfl) 3).trans rfl
      have t4 : World.cell? w4 ⟨b8, 4, none⟩ = some (.slice none 0 0) := (blk_cell (HB.out.get 1 rfl) 4).trans rfl
      have t5 : World.cell? w4 ⟨b8, 5, none⟩ = some (.int .i64 0) := (blk_cell (HB.out.get 1 rfl) 5).trans rfl
      have tz0 : World.frozen? w4 ⟨b8, 0, none⟩ = false := blk_frozen (HB.out.get 1 rfl) 0
      have tz1 : World.frozen? w4 ⟨b8, 1, none⟩ = false := blk_frozen (HB.out.get 1 rfl) 1
      have tz2 : World.frozen? w4 ⟨b8, 2, none⟩ = false := blk_frozen (HB.out.get 1 rfl) 2
      have tz3 : World.frozen? w4 ⟨b8, 3, none⟩ = false := blk_frozen (HB.out.get 1 rfl) 3
      have tz4 : World.frozen? w4 ⟨b8, 4, none⟩ = false := blk_frozen (HB.out.get 1 rfl) 4
      have tz5 : World.frozen? w4 ⟨b8, 5, none⟩ = false := blk_frozen (HB.out.get 1 rfl) 5
      go_wp2
      replace HB : Aside0 (Bx w ((((((w4.setCell ⟨b8, 0, none⟩ (.int .i64 0)).setCell ⟨b8, 1, none⟩ (.int .i64 0)).setCell ⟨b8, 2, none⟩ (.slice none 0 0)).setCell ⟨b8, 3, none⟩ (.slice none 0 0)).setCell ⟨b8, 4, none⟩ (.slice none 0 0)).setCell ⟨b8, 5, none⟩ (.int .i64 4)) [(b4, #[.int .i64 a0_0, .int .i64 a0_1, .slice A0_2 l0_2.length c0_2], 30), (b8, #[.int .i64 0, .int .i64 0, .slice none 0 0, .slice none 0 0, .slice none 0 0, .int .i64 4], 43)]) := ⟨((((((HB.out.set 1 0 (.int .i64 0) rfl).set 1 1 (.int .i64 0) rfl).set 1 2 (.slice none 0 0) rfl).set 1 3 (.slice none 0 0) rfl).set 1 4 (.slice none 0 0) rfl).set 1 5 (.int .i64 4) rfl)⟩
      generalize ((((((w4.setCell ⟨b8, 0, none⟩ (.int .i64 0)).setCell ⟨b8, 1, none⟩ (.int .i64 0)).setCell ⟨b8, 2, none⟩ (.slice none 0 0)).setCell ⟨b8, 3, none⟩ (.slice none 0 0)).setCell ⟨b8, 4, none⟩ (.slice none 0 0)).setCell ⟨b8, 5, none⟩ (.int .i64 4)) = w99 at HB ⊢
      refine bodyPost_ret (results_single rfl (.cell b8 43 #[.int .i64 0, .int .i64 0, .slice none 0 0, .slice none 0 0, .slice none 0 0, .int .i64 4] (0, 0) _ rfl (HB.out.get 1 rfl) Try.underlying43 rfl (by kernel_rfl) .nil)) rfl ?_
      exact ⟨_, _, _, rfl, Kd.R_nil _ _ _ _ _, Kd.R_nil _ _ _ _ _, Kd.R_nil _ _ _ _ _, HB.out.bel⟩
    rw [if_neg hi0] at h2
    by_cases hil : (l0_2.length : Int) ≤ i
    case pos => rw [if_pos hil] at h2; exact absurd h2 (by simp)
    rw [if_neg hil] at h2
    obtain ⟨i, rfl⟩ := Int.eq_ofNat_of_zero_le (show 0 ≤ i by omega)
    rw [Int.toNat_natCast] at h2
    have hi : i < l0_2.length := by omega
    have q1 : decide ((i : Int) < 0) = false := decide_eq_false hi0
    have hwi : IntKind.i64.wrap ((i : Int) + 1) = (i : Int) + 1 := IntWalk.i64_in _ (by omega)
    have u1 : 0 ≤ (i : Int) := by omega
    have u2 : (i : Int) < (l0_2.length : Int) := by omega
    have u3 : ¬ (i : Int) < 0 := by omega
    clear hi0 hil
    obtain ⟨ad, e0, x0, x1, x2, x3⟩ := at_T82 HR0.out (i : Int) u1 u2
    have hm := h2
    generalize hx : rd_T82 l0_2 (i : Int) = x at x0 x1 x2 x3 hm
    clear h2
    rw [Int.toNat_natCast] at x0 x1 x2 x3
    obtain ⟨xi, ⟨xl, xh⟩, xn⟩ := x
    dsimp only at x0 x1 x2 x3
    subst e0
    have HX := Aside0.mk (And.intro x0 (And.intro x1 (And.intro x2 x3)))
    have HXe := Aside0.mk hx
    clear x0 x1 x2 x3 hx
    unfold spliceref08_Apply.m at hm
    rw [if_pos rfl] at hm
    dsimp only at hm
    have HM := Aside0.mk hm
    clear hm
    go_upto_region 6 with (go_at_call 28; refine (spliceref08_Find.calls k a0_0 a0_1 _ c0_2 l0_2 a2 _ _ (Kd.C_below HR0.out HB.out.bel) HC0.out HF.out).mono ?_; rintro e w4 ⟨rfl, hb⟩; replace HB := Aside0.mk (HB.out.below hb); clear hb; clear y0 y1 y2; have y0 : World.cell? w4 ⟨b4, 0, none⟩ = some (.int .i64 a0_0) := (blk_cell (HB.out.get 0 rfl) 0).trans rfl; have y1 : World.cell? w4 ⟨b4, 1, none⟩ = some (.int .i64 a0_1) := (blk_cell (HB.out.get 0 rfl) 1).trans rfl; have y2 : World.cell? w4 ⟨b4, 2, none⟩ = some (.slice (some ad) l0_2.length c0_2) := (blk_cell (HB.out.get 0 rfl) 2).trans rfl)
    have x0 := cellB HB.out.bel HX.out.1
    have x1 := cellB HB.out.bel HX.out.2.1
    have x2 := cellB HB.out.bel HX.out.2.2.1
    have x3 := cellB HB.out.bel HX.out.2.2.2
    go_upto_region 7 with (fail)
    clear x0 x1 x2 x3
    replace HB := Aside0.mk (HB.out.push #[.int .i64 xi, .int .i64 xl, .int .i64 xh, .int .i64 xn] 82)
    simp only [List.nil_append, List.cons_append] at HB
    generalize w4.alloc (.cells #[.int .i64 xi, .int .i64 xl, .int .i64 xh, .int .i64 xn] 82) = w5 at HB ⊢
    generalize w4.heap.size = b10 at HB ⊢
    clear y0 y1 y2
    have s0 : World.cell? w5 ⟨b10, 0, none⟩ = some (.int .i64 xi) := (blk_cell (HB.out.get 2 rfl) 0).trans rfl
    have s1 : World.cell? w5 ⟨b10, 1, none⟩ = some (.int .i64 xl) := (blk_cell (HB.out.get 2 rfl) 1).trans rfl
    have s2 : World.cell? w5 ⟨b10, 2, none⟩ = some (.int .i64 xh) := (blk_cell (HB.out.get 2 rfl) 2).trans rfl
    have s3 : World.cell? w5 ⟨b10, 3, none⟩ = some (.int .i64 xn) := (blk_cell (HB.out.get 2 rfl) 3).trans rfl
    go_upto_region 8 with (fail)
    replace HB := Aside0.mk (HB.out.push #[.int .i64 xi, .int .i64 xl, .int .i64 xh, .int .i64 xn] 82)
    simp only [List.nil_append, List.cons_append] at HB
    generalize w5.alloc (.cells #[.int .i64 xi, .int .i64 xl, .int .i64 xh, .int .i64 xn] 82) = w6 at HB ⊢
    generalize w5.heap.size = g11 at HB ⊢
    clear s0 s1 s2 s3
    have s0 : World.cell? w6 ⟨b10, 0, none⟩ = some (.int .i64 xi) := (blk_cell (HB.out.get 2 rfl) 0).trans rfl
    have s1 : World.cell? w6 ⟨b10, 1, none⟩ = some (.int .i64 xl) := (blk_cell (HB.out.get 2 rfl) 1).trans rfl
    have s2 : World.cell? w6 ⟨b10, 2, none⟩ = some (.int .i64 xh) := (blk_cell (HB.out.get 2 rfl) 2).trans rfl
    have s3 : World.cell? w6 ⟨b10, 3, none⟩ = some (.int .i64 xn) := (blk_cell (HB.out.get 2 rfl) 3).trans rfl
    have s2_1_1 : World.cell? w6 ⟨b10, 1 + 1, none⟩ = some (.int .i64 xh) := s2
    have y0 : World.cell? w6 ⟨b4, 0, none⟩ = some (.int .i64 a0_0) := (blk_cell (HB.out.get 0 rfl) 0).trans rfl
    have y1 : World.cell? w6 ⟨b4, 1, none⟩ = some (.int .i64 a0_1) := (blk_cell (HB.out.get 0 rfl) 1).trans rfl
    have y2 : World.cell? w6 ⟨b4, 2, none⟩ = some (.slice (some ad) l0_2.length c0_2) := (blk_cell (HB.out.get 0 rfl) 2).trans rfl
    go_upto_region 9 with (fail)
    replace HB := Aside0.mk (HB.out.push #[.int .i64 a0_1, .int .i64 xl, .int .i64 xh, .int .i64 a3] 82)
    simp only [List.nil_append, List.cons_append] at HB
    generalize w6.alloc (.cells #[.int .i64 a0_1, .int .i64 xl, .int .i64 xh, .int .i64 a3] 82) = w7 at HB ⊢
    generalize w6.heap.size = g12 at HB ⊢
    clear s0 s1 s2 s3 s2_1_1
    clear y0 y1 y2
    have s0 : World.cell? w7 ⟨b10, 0, none⟩ = some (.int .i64 xi) := (blk_cell (HB.out.get 2 rfl) 0).trans rfl
    have s1 : World.cell? w7 ⟨b10, 1, none⟩ = some (.int .i64 xl) := (blk_cell (HB.out.get 2 rfl) 1).trans rfl
    have s2 : World.cell? w7 ⟨b10, 2, none⟩ = some (.int .i64 xh) := (blk_cell (HB.out.get 2 rfl) 2).trans rfl
    have s3 : World.cell? w7 ⟨b10, 3, none⟩ = some (.int .i64 xn) := (blk_cell (HB.out.get 2 rfl) 3).trans rfl
    have s2_1_1 : World.cell? w7 ⟨b10, 1 + 1, none⟩ = some (.int .i64 xh) := s2
    have y0 : World.cell? w7 ⟨b4, 0, none⟩ = some (.int .i64 a0_0) := (blk_cell (HB.out.get 0 rfl) 0).trans rfl
    have y1 : World.cell? w7 ⟨b4, 1, none⟩ = some (.int .i64 a0_1) := (blk_cell (HB.out.get 0 rfl) 1).trans rfl
    have y2 : World.cell? w7 ⟨b4, 2, none⟩ = some (.slice (some ad) l0_2.length c0_2) := (blk_cell (HB.out.get 0 rfl) 2).trans rfl
    by_cases hb1 : a3 ≤ xl ∨ xh ≤ a3
    · have hm := HM.out
      rw [if_pos hb1] at hm
      simp only [Option.some.injEq, Prod.mk.injEq] at hm
      obtain ⟨rfl, rfl, rfl, rfl, rfl, rfl⟩ := hm
      have hq : decide (a3 ≤ xl) = true ∨ (decide (a3 ≤ xl) = false ∧ decide (a3 ≥ xh) = true ∧ decide (xh ≤ a3) = true) := by
        by_cases c : a3 ≤ xl
        · exact Or.inl (decide_eq_true c)
        · exact Or.inr ⟨decide_eq_false c, decide_eq_true (show xh ≤ a3 by omega), decide_eq_true (by omega)⟩
      clear hb1 HM
      rcases hq with q2 | ⟨q2, q3, q4⟩
      all_goals
        go_upto_region 11 with (fail)
        clear s0 s1 s2 s3 s2_1_1
        clear y0 y1 y2
        have t0 : World.cell? w7 ⟨b8, 0, none⟩ = some (.int .i64 0) := (blk_cell (HB.out.get 1 rfl) 0).trans rfl
        have t1 : World.cell? w7 ⟨b8, 1, none⟩ = some (.int .i64 0) := (blk_cell (HB.out.get 1 rfl) 1).trans rfl
        have t2 : World.cell? w7 ⟨b8, 2, none⟩ = some (.slice none 0 0) := (blk_cell (HB.out.get 1 rfl) 2).trans rfl
        have t3 : World.cell? w7 ⟨b8, 3, none⟩ = some (.slice none 0 0) := (blk_cell (HB.out.get 1 rfl) 3).trans rfl
        have t4 : World.cell? w7 ⟨b8, 4, none⟩ = some (.slice none 0 0) := (blk_cell (HB.out.get 1 rfl) 4).trans rfl
        have t5 : World.cell? w7 ⟨b8, 5, none⟩ = some (.int .i64 0) := (blk_cell (HB.out.get 1 rfl) 5).trans rfl
        have tz0 : World.frozen? w7 ⟨b8, 0, none⟩ = false := blk_frozen (HB.out.get 1 rfl) 0
        have tz1 : World.frozen? w7 ⟨b8, 1, none⟩ = false := blk_frozen (HB.out.get 1 rfl) 1
        have tz2 : World.frozen? w7 ⟨b8, 2, none⟩ = false := blk_frozen (HB.out.get 1 rfl) 2
        have tz3 : World.frozen? w7 ⟨b8, 3, none⟩ = false := blk_frozen (HB.out.get 1 rfl) 3
        have tz4 : World.frozen? w7 ⟨b8, 4, none⟩ = false := blk_frozen (HB.out.get 1 rfl) 4
        have tz5 : World.frozen? w7 ⟨b8, 5, none⟩ = false := blk_frozen (HB.out.get 1 rfl) 5
        go_wp2
        replace HB : Aside0 (Bx w ((((((w7.setCell ⟨b8, 0, none⟩ (.int .i64 0)).setCell ⟨b8, 1, none⟩ (.int .i64 0)).setCell ⟨b8, 2, none⟩ (.slice none 0 0)).setCell ⟨b8, 3, none⟩ (.slice none 0 0)).setCell ⟨b8, 4, none⟩ (.slice none 0 0)).setCell ⟨b8, 5, none⟩ (.int .i64 1)) [(b4, #[.int .i64 a0_0, .int .i64 a0_1, .slice (some ad) l0_2.length c0_2], 30), (b8, #[.int .i64 0, .int .i64 0, .slice none 0 0, .slice none 0 0, .slice none 0 0, .int .i64 1], 43), (b10, #[.int .i64 xi, .int .i64 xl, .int .i64 xh, .int .i64 xn], 82), (g11, #[.int .i64 xi, .int .i64 xl, .int .i64 xh, .int .i64 xn], 82), (g12, #[.int .i64 a0_1, .int .i64 xl, .int .i64 xh, .int .i64 a3], 82)]) := ⟨((((((HB.out.set 1 0 (.int .i64 0) rfl).set 1 1 (.int .i64 0) rfl).set 1 2 (.slice none 0 0) rfl).set 1 3 (.slice none 0 0) rfl).set 1 4 (.slice none 0 0) rfl).set 1 5 (.int .i64 1) rfl)⟩
        generalize ((((((w7.setCell ⟨b8, 0, none⟩ (.int .i64 0)).setCell ⟨b8, 1, none⟩ (.int .i64 0)).setCell ⟨b8, 2, none⟩ (.slice none 0 0)).setCell ⟨b8, 3, none⟩ (.slice none 0 0)).setCell ⟨b8, 4, none⟩ (.slice none 0 0)).setCell ⟨b8, 5, none⟩ (.int .i64 1)) = w99 at HB ⊢
        refine bodyPost_ret (results_single rfl (.cell b8 43 #[.int .i64 0, .int .i64 0, .slice none 0 0, .slice none 0 0, .slice none 0 0, .int .i64 1] (0, 0) _ rfl (HB.out.get 1 rfl) Try.underlying43 rfl (by kernel_rfl) .nil)) rfl ?_
        exact ⟨_, _, _, rfl, Kd.R_nil _ _ _ _ _, Kd.R_nil _ _ _ _ _, Kd.R_nil _ _ _ _ _, HB.out.bel⟩
    have hm := HM.out
    rw [if_neg hb1] at hm
    replace HM := Aside0.mk hm
    clear hm
    have q2 : decide (a3 ≤ xl) = false := decide_eq_false (by omega)
    have q3 : decide (a3 ≥ xh) = false := decide_eq_false (by omega)
    have q4 : decide (xh ≤ a3) = false := decide_eq_false (by omega)
    clear hb1
    obtain ⟨nx, hnx⟩ : ∃ nx, nx = wrap64 (a0_1 + 1) := ⟨_, rfl⟩
    rw [← hnx] at HM
    have hnw : IntKind.i64.wrap (a0_1 + 1) = nx := (i64_w _).trans hnx.symm
    have HNx := Aside0.mk hnx
    clear hnx
    go_upto_region 13 with (fail)
    clear q2 q3 q4 hnw
    replace HB := Aside0.mk (HB.out.push #[.int .i64 a0_1, .int .i64 xl, .int .i64 a3, .int .i64 xn, .int .i64 nx, .int .i64 a3, .int .i64 xh, .int .i64 xn] 82)
    simp only [List.nil_append, List.cons_append] at HB
    generalize w7.alloc (.cells #[.int .i64 a0_1, .int .i64 xl, .int .i64 a3, .int .i64 xn, .int .i64 nx, .int .i64 a3, .int .i64 xh, .int .i64 xn] 82) = w8 at HB ⊢
    generalize w7.heap.size = g13 at HB ⊢
    clear s0 s1 s2 s3 s2_1_1
    clear y0 y1 y2
    replace HB : Aside0 (Bx w w8 [(b4, #[.int .i64 a0_0, .int .i64 a0_1, .slice (some ad) l0_2.length c0_2], 30), (b8, #[.int .i64 0, .int .i64 0, .slice none 0 0, .slice none 0 0, .slice none 0 0, .int .i64 0], 43), (b10, #[.int .i64 xi, .int .i64 xl, .int .i64 xh, .int .i64 xn], 82), (g11, #[.int .i64 xi, .int .i64 xl, .int .i64 xh, .int .i64 xn], 82), (g13, #[.int .i64 a0_1, .int .i64 xl, .int .i64 a3, .int .i64 xn, .int .i64 nx, .int .i64 a3, .int .i64 xh, .int .i64 xn], 82)]) := ⟨HB.out.sub (.cons_cons _ (.cons_cons _ (.cons_cons _ (.cons_cons _ (.cons _ (.cons_cons _ .slnil))))))⟩
    obtain ⟨old, hold⟩ : ∃ old : List S82, old = [⟨xi, ⟨xl, xh⟩, xn⟩] := ⟨_, rfl⟩
    obtain ⟨fresh, hfresh⟩ : ∃ fresh : List S82, fresh = [⟨a0_1, ⟨xl, a3⟩, xn⟩, ⟨nx, ⟨a3, xh⟩, xn⟩] := ⟨_, rfl⟩
    have hm := HM.out
    rw [← hold, ← hfresh] at hm
    clear HM
    unfold spliceref08_Apply.t at hm
    obtain ⟨tt, hC2, h5⟩ := Option.bind_eq_some_iff.1 hm
    have hon : old.length = 1 := by rw [hold]; rfl
    have hfn : fresh.length = 2 := by rw [hfresh]; rfl
    rw [hon, hfn] at hC2 h5
    generalize he2 : wrap64 (a0_0 + 1) = e2 at hC2 h5
    generalize hn2 : wrap64 (a0_1 + ((2 : Nat) : Int)) = n2 at hC2 h5
    have hew : IntKind.i64.wrap (a0_0 + 1) = e2 := (i64_w _).trans he2
    have hnw : IntKind.i64.wrap (a0_1 + 2) = n2 := (i64_w _).trans hn2
    have HC2 := Aside0.mk hC2
    have H5 := Aside0.mk h5
    have HOl := Aside0.mk hold
    have HFr := Aside0.mk (And.intro hfresh hfn)
    clear hm hC2 h5 he2 hn2 hold hfresh hon hfn
    have y0 : World.cell? w8 ⟨b4, 0, none⟩ = some (.int .i64 a0_0) := (blk_cell (HB.out.get 0 rfl) 0).trans rfl
    have y1 : World.cell? w8 ⟨b4, 1, none⟩ = some (.int .i64 a0_1) := (blk_cell (HB.out.get 0 rfl) 1).trans rfl
    have y2 : World.cell? w8 ⟨b4, 2, none⟩ = some (.slice (some ad) l0_2.length c0_2) := (blk_cell (HB.out.get 0 rfl) 2).trans rfl
    go_upto_region 17 with (fail)
    clear y0 y1 y2
    clear hew hnw
    replace HB := Aside0.mk (HB.out.push #[.int .i64 e2, .int .i64 n2, .slice none 0 0] 30)
    simp only [List.nil_append, List.cons_append] at HB
    generalize w8.alloc (.cells #[.int .i64 e2, .int .i64 n2, .slice none 0 0] 30) = w10 at HB ⊢
    generalize w8.heap.size = b13 at HB ⊢
    have HO : Aside0 (Kd.R k82 82 w10 w.heap.size (Off [b4, b8, b10, g11, g13, b13]) (.slice none 0 0) []) := ⟨Kd.R_nil _ _ _ _ _⟩
    obtain ⟨adf, hga⟩ : ∃ adf : Addr, adf = ⟨g13, 0, none⟩ := ⟨_, rfl⟩
    rw [← hga]
    have HGa := Aside0.mk hga
    clear hga
    go_wp2
    go_loopw [14] (fun v14 wr => ∃ (m : Nat) (vl : Value), m ≤ l0_2.length ∧ v14 = .int .i64 m ∧ Aside0 (Bx w wr [(b4, #[.int .i64 a0_0, .int .i64 a0_1, .slice (some ad) l0_2.length c0_2], 30), (b8, #[.int .i64 0, .int .i64 0, .slice none 0 0, .slice none 0 0, .slice none 0 0, .int .i64 0], 43), (b10, #[.int .i64 xi, .int .i64 xl, .int .i64 xh, .int .i64 xn], 82), (g11, #[.int .i64 xi, .int .i64 xl, .int .i64 xh, .int .i64 xn], 82), (g13, #[.int .i64 a0_1, .int .i64 xl, .int .i64 a3, .int .i64 xn, .int .i64 nx, .int .i64 a3, .int .i64 xh, .int .i64 xn], 82), (b13, #[.int .i64 e2, .int .i64 n2, vl], 30)]) ∧ Aside0 (Kd.R k82 82 wr w.heap.size (Off [b4, b8, b10, g11, g13, b13]) vl (outAt l0_2 fresh i 1 m))) (fun v14 _ => l0_2.length - (intOf v14).toNat)
    case atStart => exact ⟨0, _, by omega, rfl, HB, ⟨by rw [outAt_0]; exact HO.out⟩⟩
    case round =>
      clear HB HO
      obtain ⟨m, vl, hml, rfl, HB, HO⟩ := hrel
      generalize hl : outAt l0_2 fresh i 1 m = out at HO
      have HL := Aside0.mk hl
      have hll := Aside0.mk (show out.length + 1 ≤ 3000000 from by rw [← hl]; have := outAt_len l0_2 fresh i 1 m hml; have := HFr.out.2; omega)
      clear hl
      obtain ⟨A5, c5, rfl⟩ := Kd.R_slice HO.out
      have y0 : World.cell? wr ⟨b4, 0, none⟩ = some (.int .i64 a0_0) := (blk_cell (HB.out.get 0 rfl) 0).trans rfl
      have y1 : World.cell? wr ⟨b4, 1, none⟩ = some (.int .i64 a0_1) := (blk_cell (HB.out.get 0 rfl) 1).trans rfl
      have y2 : World.cell? wr ⟨b4, 2, none⟩ = some (.slice (some ad) l0_2.length c0_2) := (blk_cell (HB.out.get 0 rfl) 2).trans rfl
      by_cases hlt : m < l0_2.length
      · have q0 : decide ((m : Int) < (l0_2.length : Int)) = true := decide_eq_true (by omega)
        have p0 : (m : Int) < (l0_2.length : Int) := by omega
        have p00 : 0 ≤ (m : Int) := by omega
        have p01 : ¬ (m : Int) < 0 := by omega
        rcases Nat.lt_trichotomy m i with hmi | hmi | hmi
        · have q1 : ((m : Int) == (i : Int)) = false := beq_eq_false_iff_ne.mpr (by omega)
          have q2 : decide ((m : Int) < (i : Int)) = true := decide_eq_true (by omega)
          have q3 : (m : Int) < (i : Int) := by omega
          obtain ⟨ad_, e0, z0, z1, z2, z3⟩ := at_T82 HR0.out (m : Int) p00 p0
          injection e0 with e0
          subst e0
          generalize hz : rd_T82 l0_2 (m : Int) = z at z0 z1 z2 z3
          obtain ⟨zi, ⟨zl, zh⟩, zn⟩ := z
          rw [Int.toNat_natCast] at z0 z1 z2 z3
          dsimp only at z0 z1 z2 z3
          have HZ := Aside0.mk (And.intro z0 (And.intro z1 (And.intro z2 z3)))
          have HZe := Aside0.mk hz
          clear z0 z1 z2 z3 hz
          go_upto_region 26 with (fail)
          clear y0 y1 y2
          clear q0 q1 q2 q3
          replace HB := Aside0.mk (HB.out.below (below_drew (Below.refl _ _)))
          replace HO := Aside0.mk (Kd.R_below HO.out (below_drew (Below.refl _ _)))
          refine start_ (n := 11) (S := fun w' => w'.cell? ⟨b13, 2, none⟩ = some (.slice A5 out.length c5) ∧ w'.cell? ⟨b4, 2, none⟩ = some (.slice (some ad) l0_2.length c0_2) ∧ w'.cell? (ad.add (m * 4)) = some (.int .i64 zi) ∧ w'.cell? ⟨(ad.add (m * 4)).block, (ad.add (m * 4)).off + 1, none⟩ = some (.int .i64 zl) ∧ w'.cell? ⟨(ad.add (m * 4)).block, (ad.add (m * 4)).off + 2, none⟩ = some (.int .i64 zh) ∧ w'.cell? ⟨(ad.add (m * 4)).block, (ad.add (m * 4)).off + 3, none⟩ = some (.int .i64 zn)) (ds := [10]) (bAg 11 0) (by kernel_rfl) rfl rfl ⟨(blk_cell (HB.out.get 5 rfl) 2).trans rfl, (blk_cell (HB.out.get 0 rfl) 2).trans rfl, cellB HB.out.bel HZ.out.1, cellB HB.out.bel HZ.out.2.1, cellB HB.out.bel HZ.out.2.2.1, cellB HB.out.bel HZ.out.2.2.2⟩ (fun hHeld => ?_); refine with_tabW apply26.tab apply26.bits (fun HT_ HW_ => ?_)
          generalize wr.drew = wd at HB HO hHeld ⊢
          refine pure_ (i := 0) (N := some 182) (v := ?_) (a' := ?_) (bAg 11 1) rfl rfl (any_of HT_.out (by kernel_rfl)) (fun _ _ _ h => h) (Or.inl ⟨by rfl, ?_⟩) ?_ ?_
          rotate_left
          · intro w'
            go_simp
            with_reducible rfl
          rotate_left
          · simp only [Act.put, sg1, sg2, sg3, i64_w, i32_w]
            rfl
          refine take_ (i := 1) (N := some 183) (v := ?_) (a' := ?_) (bAg 11 3) rfl rfl (take_ofW HT_.out HW_.out (by kernel_rfl)) (fun _ _ _ h => h) (Or.inl ⟨by rfl, ?_⟩) hHeld ?_ ?_
          rotate_left
          · rintro w' ⟨s0_, s1_, s2_, s3_, s4_, s5_⟩
            go_simp
            with_reducible rfl
          rotate_left
          · simp only [Act.put, sg1, sg2, sg3, i64_w, i32_w]
            rfl
          refine pure_ (i := 2) (N := some 184) (v := ?_) (a' := ?_) (bAg 11 7) rfl rfl (any_of HT_.out (by kernel_rfl)) (fun _ _ _ h => h) (Or.inl ⟨by rfl, ?_⟩) ?_ ?_
          rotate_left
          · intro w'
            go_simp
            with_reducible rfl
          rotate_left
          · simp only [Act.put, sg1, sg2, sg3, i64_w, i32_w]
            rfl
          refine take_ (i := 3) (N := some 185) (v := ?_) (a' := ?_) (bAg 11 15) rfl rfl (take_ofW HT_.out HW_.out (by kernel_rfl)) (fun _ _ _ h => h) (Or.inl ⟨by rfl, ?_⟩) hHeld ?_ ?_
          rotate_left
          · rintro w' ⟨s0_, s1_, s2_, s3_, s4_, s5_⟩
            go_simp
            with_reducible rfl
          rotate_left
          · simp only [Act.put, sg1, sg2, sg3, i64_w, i32_w]
            rfl
          refine pure_ (i := 4) (N := some 186) (v := ?_) (a' := ?_) (bAg 11 31) rfl rfl (any_of HT_.out (by kernel_rfl)) (fun _ _ _ h => h) (Or.inl ⟨by rfl, ?_⟩) ?_ ?_
          rotate_left
          · intro w'
            go_simp
            with_reducible rfl
          rotate_left
          · simp only [Act.put, sg1, sg2, sg3, i64_w, i32_w]
            rfl
          refine pure_ (i := 5) (N := some 187) (v := ?_) (a' := ?_) (bAg 11 63) rfl rfl (any_of HT_.out (by kernel_rfl)) (fun _ _ _ h => h) (Or.inl ⟨by rfl, ?_⟩) ?_ ?_
          rotate_left
          · intro w'
            go_simp
            with_reducible rfl
          rotate_left
          · simp only [Act.put, sg1, sg2, sg3, i64_w, i32_w]
            rfl
          refine take_ (i := 6) (N := some 188) (v := ?_) (a' := ?_) (bAg 11 127) rfl rfl (take_ofW HT_.out HW_.out (by kernel_rfl)) (fun _ _ _ h => h) (Or.inl ⟨by rfl, ?_⟩) hHeld ?_ ?_
          rotate_left
          · rintro w' ⟨s0_, s1_, s2_, s3_, s4_, s5_⟩
            go_simp
            with_reducible rfl
          rotate_left
          · simp only [Act.put, sg1, sg2, sg3, i64_w, i32_w]
            rfl
          refine one_ (i := 7) (N := some 189) (bAg 11 255) rfl rfl (one_of HT_.out (by kernel_rfl)) (by decide) (fun K hK => ?_)
          refine value_ (w1 := ?_) (v := ?_) (by rfl) rfl ?_ ?_
          rotate_left 2
          · go_simp
            constructor
            · rfl
            rfl
          refine hK.out _ _ ⟨(blk_cell (blk_alloc (HB.out.get 5 rfl) _) 2).trans rfl, (blk_cell (blk_alloc (HB.out.get 0 rfl) _) 2).trans rfl, cellA (cellB HB.out.bel HZ.out.1), cellA (cellB HB.out.bel HZ.out.2.1), cellA (cellB HB.out.bel HZ.out.2.2.1), cellA (cellB HB.out.bel HZ.out.2.2.2)⟩ (fun hHeld => ?_)
          clear hK K
          refine norm_ (a' := ?_) ?_ ?_
          rotate_left
          · show Act.put _ (some 189) _ = _
            simp only [Act.put, sg1, sg2, sg3, i64_w, i32_w]
            rfl
          refine one_ (i := 8) (N := some 190) (bAg 11 511) rfl rfl (one_of HT_.out (by kernel_rfl)) (by decide) (fun K hK => ?_)
          refine Kd.R_append_step k82 (w0 := w) w.heap.size (by rfl) (.tmp 183) (.tmp 189) 28 82 (.agg #[(.int .i64 0), (.int .i64 0), (.int .i64 0), (.int .i64 0)]) 32 rfl Try.underlying28 info82_ rfl (by decide) (by omega) (.slice A5 _ c5) out (⟨zi, ⟨zl, zh⟩, zn⟩ : S82) [.int .i64 zi, .int .i64 zl, .int .i64 zh, .int .i64 zn] (Off [b4, b8, b10, g11, g13, b13]) (fun _ => False) rfl rfl (k82_mkM _ _ _ _) (fun _ hk => hk.elim) (HB.out.fresh rfl) HO.out HB.out.bel HB.out.bel.size (by have := hll.out; omega) ?_
          intro v1 w9 ho hb hg hat
          replace HB := Aside0.mk (HB.out.grown rfl HO.out.1 hg hb)
          obtain ⟨out2, ho2⟩ : ∃ out2 : List S82, out2 = out ++ [⟨zi, ⟨zl, zh⟩, zn⟩] := ⟨_, rfl⟩
          rw [← ho2] at ho
          obtain ⟨A6, c6, rfl⟩ := Kd.R_slice ho
          replace HO := Aside0.mk ho
          have HO2 := Aside0.mk ho2
          clear ho ho2 hb hg hat
          refine hK.out _ _ ⟨(blk_cell (HB.out.get 5 rfl) 2).trans rfl, (blk_cell (HB.out.get 0 rfl) 2).trans rfl, cellB HB.out.bel HZ.out.1, cellB HB.out.bel HZ.out.2.1, cellB HB.out.bel HZ.out.2.2.1, cellB HB.out.bel HZ.out.2.2.2⟩ (fun hHeld => ?_)
          clear hK K
          refine norm_ (a' := ?_) ?_ ?_
          rotate_left
          · show Act.put _ (some 190) _ = _
            simp only [Act.put, sg1, sg2, sg3, i64_w, i32_w]
            rfl
          refine pure_ (i := 9) (N := some 191) (v := ?_) (a' := ?_) (bAg 11 1023) rfl rfl (any_of HT_.out (by kernel_rfl)) (fun _ _ _ h => h) (Or.inl ⟨by rfl, ?_⟩) ?_ ?_
          rotate_left
          · intro w'
            go_simp
            with_reducible rfl
          rotate_left
          · simp only [Act.put, sg1, sg2, sg3, i64_w, i32_w]
            rfl
          refine last_ (i := 10) (N := none) (bAg 11 2047) rfl rfl (one_of HT_.out (by kernel_rfl)) (by decide) (fun K hK => ?_)
          have t2 : World.cell? _ ⟨b13, 2, none⟩ = some (.slice A5 out.length c5) := (blk_cell (HB.out.get 5 rfl) 2).trans rfl
          have tz2 : World.frozen? _ ⟨b13, 2, none⟩ = false := blk_frozen (HB.out.get 5 rfl) 2
          refine skip_ (w1 := ?_) (by rfl) rfl ?_ ?_
          rotate_left
          · go_simp
            rfl
          refine hK.out _ _ ?_
          clear hK K t2 tz2
          replace HB : Aside0 (Bx w (w9.setCell ⟨b13, 2, none⟩ (.slice A6 out2.length c6)) [(b4, #[.int .i64 a0_0, .int .i64 a0_1, .slice (some ad) l0_2.length c0_2], 30), (b8, #[.int .i64 0, .int .i64 0, .slice none 0 0, .slice none 0 0, .slice none 0 0, .int .i64 0], 43), (b10, #[.int .i64 xi, .int .i64 xl, .int .i64 xh, .int .i64 xn], 82), (g11, #[.int .i64 xi, .int .i64 xl, .int .i64 xh, .int .i64 xn], 82), (g13, #[.int .i64 a0_1, .int .i64 xl, .int .i64 a3, .int .i64 xn, .int .i64 nx, .int .i64 a3, .int .i64 xh, .int .i64 xn], 82), (b13, #[.int .i64 e2, .int .i64 n2, .slice A6 out2.length c6], 30)]) := ⟨HB.out.set 5 2 (.slice A6 out2.length c6) rfl⟩
          replace HO := Aside0.mk (R_setB HO.out (g := b13) (by simp) 2 (.slice A6 out2.length c6))
          generalize w9.setCell ⟨b13, 2, none⟩ (.slice A6 out2.length c6) = w11 at HB HO ⊢
          refine done_ (done_of HT_.out (by kernel_rfl)) ?_
          clear HT_ HW_
          try clear hHeld
          go_wp2
          have hs := outAt_lt l0_2 fresh i 1 m hmi hlt
          exact ⟨⟨m + 1, _, by omega, by first | rfl | go_num, HB, ⟨by rw [hs, HL.out, HZe.out, ← HO2.out]; exact HO.out⟩⟩, by simp [intOf]; omega⟩
        · subst hmi
          have q1 : ((m : Int) == (m : Int)) = true := by simp
          have HLt := Aside0.mk hlt
          go_wp2
          go_loopw [15] (fun v15 wr => ∃ (j : Nat) (vl : Value), j ≤ 2 ∧ v15 = .int .i64 j ∧ Aside0 (Bx w wr [(b4, #[.int .i64 a0_0, .int .i64 a0_1, .slice (some ad) l0_2.length c0_2], 30), (b8, #[.int .i64 0, .int .i64 0, .slice none 0 0, .slice none 0 0, .slice none 0 0, .int .i64 0], 43), (b10, #[.int .i64 xi, .int .i64 xl, .int .i64 xh, .int .i64 xn], 82), (g11, #[.int .i64 xi, .int .i64 xl, .int .i64 xh, .int .i64 xn], 82), (g13, #[.int .i64 a0_1, .int .i64 xl, .int .i64 a3, .int .i64 xn, .int .i64 nx, .int .i64 a3, .int .i64 xh, .int .i64 xn], 82), (b13, #[.int .i64 e2, .int .i64 n2, vl], 30)]) ∧ Aside0 (Kd.R k82 82 wr w.heap.size (Off [b4, b8, b10, g11, g13, b13]) vl (l0_2.take m ++ fresh.take j))) (fun v15 _ => 2 - (intOf v15).toNat)
          case atStart => exact ⟨0, _, by omega, rfl, HB, ⟨by rw [List.take_zero, List.append_nil, ← outAt_i l0_2 fresh m 1, HL.out]; exact HO.out⟩⟩
          case round =>
            clear HB HO HL hll q0 y0 y1 y2
            obtain ⟨j, vl, hj, rfl, HB, HO⟩ := hrel
            generalize hl : l0_2.take m ++ fresh.take j = out at HO
            have HL := Aside0.mk hl
            have hll := Aside0.mk (show out.length + 1 ≤ 3000000 from by rw [← hl, List.length_append, List.length_take, List.length_take]; omega)
            clear hl
            obtain ⟨A5, c5, rfl⟩ := Kd.R_slice HO.out
            by_cases hjl : j < 2
            · have q0 : decide ((j : Int) < 2) = true := decide_eq_true (by omega)
              have p1 : (j : Int) < 2 := by omega
              have p2 : 0 ≤ (j : Int) := by omega
              have p3 : ¬ (j : Int) < 0 := by omega
              have hE : ∀ W' : World, W'.heap[g13]? = some (.cells #[.int .i64 a0_1, .int .i64 xl, .int .i64 a3, .int .i64 xn, .int .i64 nx, .int .i64 a3, .int .i64 xh, .int .i64 xn] 82 (0, 0)) → W'.cell? (adf.add (j * 4)) = some (.int .i64 (rd_T82 fresh (j : Int)).f0) ∧ W'.cell? ⟨(adf.add (j * 4)).block, (adf.add (j * 4)).off + 1, none⟩ = some (.int .i64 (rd_T82 fresh (j : Int)).f1.f0) ∧ W'.cell? ⟨(adf.add (j * 4)).block, (adf.add (j * 4)).off + 2, none⟩ = some (.int .i64 (rd_T82 fresh (j : Int)).f1.f1) ∧ W'.cell? ⟨(adf.add (j * 4)).block, (adf.add (j * 4)).off + 3, none⟩ = some (.int .i64 (rd_T82 fresh (j : Int)).f2) := by
                intro W' hW
                have hr := R_ofB (base := 0) (n := 2) (xs := fresh) (ok := fun _ => True) hW (Nat.zero_le _) trivial HFr.out.2.symm (by rw [HFr.out.2]; decide) (by rw [HFr.out.1]; exact reps2 _ _)
                rw [← HGa.out] at hr
                obtain ⟨ad_, e0, z0, z1, z2, z3⟩ := at_T82 (Kd.R_reads' hr).2.2 (j : Int) p2 (by rw [HFr.out.2]; exact_mod_cast p1)
                injection e0 with e0
                subst e0
                rw [Int.toNat_natCast] at z0 z1 z2 z3
                exact ⟨z0, z1, z2, z3⟩
              generalize hz : rd_T82 fresh (j : Int) = z at hE
              obtain ⟨zi, ⟨zl, zh⟩, zn⟩ := z
              dsimp only at hE
              have HE := Aside0.mk hE
              have HZe := Aside0.mk hz
              clear hE hz
              go_upto_region 24 with (fail)
              clear q0 q1
              replace HB := Aside0.mk (HB.out.below (below_drew (Below.refl _ _)))
              replace HO := Aside0.mk (Kd.R_below HO.out (below_drew (Below.refl _ _)))
              refine start_ (n := 10) (S := fun w' => w'.cell? ⟨b13, 2, none⟩ = some (.slice A5 out.length c5) ∧ w'.cell? (adf.add (j * 4)) = some (.int .i64 zi) ∧ w'.cell? ⟨(adf.add (j * 4)).block, (adf.add (j * 4)).off + 1, none⟩ = some (.int .i64 zl) ∧ w'.cell? ⟨(adf.add (j * 4)).block, (adf.add (j * 4)).off + 2, none⟩ = some (.int .i64 zh) ∧ w'.cell? ⟨(adf.add (j * 4)).block, (adf.add (j * 4)).off + 3, none⟩ = some (.int .i64 zn)) (ds := [9]) (bAg 10 0) (by kernel_rfl) rfl rfl ⟨(blk_cell (HB.out.get 5 rfl) 2).trans rfl, (HE.out _ (HB.out.get 4 rfl)).1, (HE.out _ (HB.out.get 4 rfl)).2.1, (HE.out _ (HB.out.get 4 rfl)).2.2.1, (HE.out _ (HB.out.get 4 rfl)).2.2.2⟩ (fun hHeld => ?_); refine with_tabW apply24.tab apply24.bits (fun HT_ HW_ => ?_)
              generalize wr.drew = wd at HB HO hHeld ⊢
              refine pure_ (i := 0) (N := some 162) (v := ?_) (a' := ?_) (bAg 10 1) rfl rfl (any_of HT_.out (by kernel_rfl)) (fun _ _ _ h => h) (Or.inl ⟨by rfl, ?_⟩) ?_ ?_
              rotate_left
              · intro w'
                go_simp
                with_reducible rfl
              rotate_left
              · simp only [Act.put, sg1, sg2, sg3, i64_w, i32_w]
                rfl
              refine take_ (i := 1) (N := some 163) (v := ?_) (a' := ?_) (bAg 10 3) rfl rfl (take_ofW HT_.out HW_.out (by kernel_rfl)) (fun _ _ _ h => h) (Or.inl ⟨by rfl, ?_⟩) hHeld ?_ ?_
              rotate_left
              · rintro w' ⟨s0_, s1_, s2_, s3_, s4_⟩
                go_simp
                with_reducible rfl
              rotate_left
              · simp only [Act.put, sg1, sg2, sg3, i64_w, i32_w]
                rfl
              refine pure_ (i := 2) (N := some 164) (v := ?_) (a' := ?_) (bAg 10 7) rfl rfl (any_of HT_.out (by kernel_rfl)) (fun _ _ _ h => h) (Or.inl ⟨by rfl, ?_⟩) ?_ ?_
              rotate_left
              · intro w'
                go_simp
                with_reducible rfl
              rotate_left
              · simp only [Act.put, sg1, sg2, sg3, i64_w, i32_w]
                rfl
              refine pure_ (i := 3) (N := some 165) (v := ?_) (a' := ?_) (bAg 10 15) rfl rfl (any_of HT_.out (by kernel_rfl)) (fun _ _ _ h => h) (Or.inl ⟨by rfl, ?_⟩) ?_ ?_
              rotate_left
              · intro w'
                go_simp
                with_reducible rfl
              rotate_left
              · simp only [Act.put, sg1, sg2, sg3, i64_w, i32_w]
                rfl
              refine pure_ (i := 4) (N := some 166) (v := ?_) (a' := ?_) (bAg 10 31) rfl rfl (any_of HT_.out (by kernel_rfl)) (fun _ _ _ h => h) (Or.inl ⟨by rfl, ?_⟩) ?_ ?_
              rotate_left
              · intro w'
                go_simp
                with_reducible rfl
              rotate_left
              · simp only [Act.put, sg1, sg2, sg3, i64_w, i32_w]
                rfl
              refine take_ (i := 5) (N := some 167) (v := ?_) (a' := ?_) (bAg 10 63) rfl rfl (take_ofW HT_.out HW_.out (by kernel_rfl)) (fun _ _ _ h => h) (Or.inl ⟨by rfl, ?_⟩) hHeld ?_ ?_
              rotate_left
              · rintro w' ⟨s0_, s1_, s2_, s3_, s4_⟩
                go_simp
                with_reducible rfl
              rotate_left
              · simp only [Act.put, sg1, sg2, sg3, i64_w, i32_w]
                rfl
              refine one_ (i := 6) (N := some 168) (bAg 10 127) rfl rfl (one_of HT_.out (by kernel_rfl)) (by decide) (fun K hK => ?_)
              refine value_ (w1 := ?_) (v := ?_) (by rfl) rfl ?_ ?_
              rotate_left 2
              · go_simp
                constructor
                · rfl
                rfl
              refine hK.out _ _ ⟨(blk_cell (blk_alloc (HB.out.get 5 rfl) _) 2).trans rfl, (HE.out _ (blk_alloc (HB.out.get 4 rfl) _)).1, (HE.out _ (blk_alloc (HB.out.get 4 rfl) _)).2.1, (HE.out _ (blk_alloc (HB.out.get 4 rfl) _)).2.2.1, (HE.out _ (blk_alloc (HB.out.get 4 rfl) _)).2.2.2⟩ (fun hHeld => ?_)
              clear hK K
              refine norm_ (a' := ?_) ?_ ?_
              rotate_left
              · show Act.put _ (some 168) _ = _
                simp only [Act.put, sg1, sg2, sg3, i64_w, i32_w]
                rfl
              refine one_ (i := 7) (N := some 169) (bAg 10 255) rfl rfl (one_of HT_.out (by kernel_rfl)) (by decide) (fun K hK => ?_)
              refine Kd.R_append_step k82 (w0 := w) w.heap.size (by rfl) (.tmp 163) (.tmp 168) 28 82 (.agg #[(.int .i64 0), (.int .i64 0), (.int .i64 0), (.int .i64 0)]) 32 rfl Try.underlying28 info82_ rfl (by decide) (by omega) (.slice A5 _ c5) out (⟨zi, ⟨zl, zh⟩, zn⟩ : S82) [.int .i64 zi, .int .i64 zl, .int .i64 zh, .int .i64 zn] (Off [b4, b8, b10, g11, g13, b13]) (fun _ => False) rfl rfl (k82_mkM _ _ _ _) (fun _ hk => hk.elim) (HB.out.fresh rfl) HO.out HB.out.bel HB.out.bel.size (by have := hll.out; omega) ?_
              intro v1 w9 ho hb hg hat
              replace HB := Aside0.mk (HB.out.grown rfl HO.out.1 hg hb)
              obtain ⟨out2, ho2⟩ : ∃ out2 : List S82, out2 = out ++ [⟨zi, ⟨zl, zh⟩, zn⟩] := ⟨_, rfl⟩
              rw [← ho2] at ho
              obtain ⟨A6, c6, rfl⟩ := Kd.R_slice ho
              replace HO := Aside0.mk ho
              have HO2 := Aside0.mk ho2
              clear ho ho2 hb hg hat
              refine hK.out _ _ ⟨(blk_cell (HB.out.get 5 rfl) 2).trans rfl, (HE.out _ (HB.out.get 4 rfl)).1, (HE.out _ (HB.out.get 4 rfl)).2.1, (HE.out _ (HB.out.get 4 rfl)).2.2.1, (HE.out _ (HB.out.get 4 rfl)).2.2.2⟩ (fun hHeld => ?_)
              clear hK K
              refine norm_ (a' := ?_) ?_ ?_
              rotate_left
              · show Act.put _ (some 169) _ = _
                simp only [Act.put, sg1, sg2, sg3, i64_w, i32_w]
                rfl
              refine pure_ (i := 8) (N := some 170) (v := ?_) (a' := ?_) (bAg 10 511) rfl rfl (any_of HT_.out (by kernel_rfl)) (fun _ _ _ h => h) (Or.inl ⟨by rfl, ?_⟩) ?_ ?_
              rotate_left
              · intro w'
                go_simp
                with_reducible rfl
              rotate_left
              · simp only [Act.put, sg1, sg2, sg3, i64_w, i32_w]
                rfl
              refine last_ (i := 9) (N := none) (bAg 10 1023) rfl rfl (one_of HT_.out (by kernel_rfl)) (by decide) (fun K hK => ?_)
              have t2 : World.cell? _ ⟨b13, 2, none⟩ = some (.slice A5 out.length c5) := (blk_cell (HB.out.get 5 rfl) 2).trans rfl
              have tz2 : World.frozen? _ ⟨b13, 2, none⟩ = false := blk_frozen (HB.out.get 5 rfl) 2
              refine skip_ (w1 := ?_) (by rfl) rfl ?_ ?_
              rotate_left
              · go_simp
                rfl
              refine hK.out _ _ ?_
              clear hK K t2 tz2
              replace HB : Aside0 (Bx w (w9.setCell ⟨b13, 2, none⟩ (.slice A6 out2.length c6)) [(b4, #[.int .i64 a0_0, .int .i64 a0_1, .slice (some ad) l0_2.length c0_2], 30), (b8, #[.int .i64 0, .int .i64 0, .slice none 0 0, .slice none 0 0, .slice none 0 0, .int .i64 0], 43), (b10, #[.int .i64 xi, .int .i64 xl, .int .i64 xh, .int .i64 xn], 82), (g11, #[.int .i64 xi, .int .i64 xl, .int .i64 xh, .int .i64 xn], 82), (g13, #[.int .i64 a0_1, .int .i64 xl, .int .i64 a3, .int .i64 xn, .int .i64 nx, .int .i64 a3, .int .i64 xh, .int .i64 xn], 82), (b13, #[.int .i64 e2, .int .i64 n2, .slice A6 out2.length c6], 30)]) := ⟨HB.out.set 5 2 (.slice A6 out2.length c6) rfl⟩
              replace HO := Aside0.mk (R_setB HO.out (g := b13) (by simp) 2 (.slice A6 out2.length c6))
              generalize w9.setCell ⟨b13, 2, none⟩ (.slice A6 out2.length c6) = w11 at HB HO ⊢
              refine done_ (done_of HT_.out (by kernel_rfl)) ?_
              clear HT_ HW_
              try clear hHeld
              go_wp2
              exact ⟨⟨j + 1, _, by omega, by first | rfl | go_num, HB, ⟨by rw [take_rd fresh j (by have := HFr.out.2; omega), HZe.out, ← List.append_assoc, HL.out, ← HO2.out]; exact HO.out⟩⟩, by simp [intOf]; omega⟩
            · obtain rfl : j = 2 := by omega
              have q0 : decide (((2 : Nat) : Int) < 2) = false := by decide
              have q2 : decide ((m : Int) < (m : Int)) = false := decide_eq_false (by omega)
              have hwo : IntKind.i64.wrap ((m : Int) + 1) = (m : Int) + 1 := IntWalk.i64_in _ (by omega)
              have q3 : decide ((m : Int) ≥ (m : Int) + 1) = false := decide_eq_false (by omega)
              have q4 : decide ((m : Int) + 1 ≤ (m : Int)) = false := decide_eq_false (by omega)
              have q5 : ¬ ((m : Int) + 1 ≤ (m : Int)) := by omega
              go_wp2
              have hs := outAt_at l0_2 fresh m 1 (by omega) (by have := HLt.out; omega)
              have hf := HL.out
              rw [show fresh.take 2 = fresh from List.take_of_length_le (by have := HFr.out.2; omega), ← hs] at hf
              have hm9 := HLt.out
              exact ⟨⟨m + 1, _, by omega, by first | rfl | go_num, HB, ⟨by rw [hf]; exact HO.out⟩⟩, by simp [intOf]; omega⟩
        · have q1 : ((m : Int) == (i : Int)) = false := beq_eq_false_iff_ne.mpr (by omega)
          have q2 : decide ((m : Int) < (i : Int)) = false := decide_eq_false (by omega)
          have q3 : ¬ (m : Int) < (i : Int) := by omega
          have hwo : IntKind.i64.wrap ((i : Int) + 1) = (i : Int) + 1 := IntWalk.i64_in _ (by omega)
          by_cases hmo : i + 1 ≤ m
          · have q4 : decide ((m : Int) ≥ (i : Int) + 1) = true := decide_eq_true (by omega)
            have q5 : decide ((i : Int) + 1 ≤ (m : Int)) = true := decide_eq_true (by omega)
            obtain ⟨ad_, e0, z0, z1, z2, z3⟩ := at_T82 HR0.out (m : Int) p00 p0
            injection e0 with e0
            subst e0
            generalize hz : rd_T82 l0_2 (m : Int) = z at z0 z1 z2 z3
            obtain ⟨zi, ⟨zl, zh⟩, zn⟩ := z
            rw [Int.toNat_natCast] at z0 z1 z2 z3
            dsimp only at z0 z1 z2 z3
            have HZ := Aside0.mk (And.intro z0 (And.intro z1 (And.intro z2 z3)))
            have HZe := Aside0.mk hz
            clear z0 z1 z2 z3 hz
            go_upto_region 26 with (fail)
            clear y0 y1 y2
            clear q0 q1 q2 q3 q4 q5 hwo
            replace HB := Aside0.mk (HB.out.below (below_drew (Below.refl _ _)))
            replace HO := Aside0.mk (Kd.R_below HO.out (below_drew (Below.refl _ _)))
            refine start_ (n := 11) (S := fun w' => w'.cell? ⟨b13, 2, none⟩ = some (.slice A5 out.length c5) ∧ w'.cell? ⟨b4, 2, none⟩ = some (.slice (some ad) l0_2.length c0_2) ∧ w'.cell? (ad.add (m * 4)) = some (.int .i64 zi) ∧ w'.cell? ⟨(ad.add (m * 4)).block, (ad.add (m * 4)).off + 1, none⟩ = some (.int .i64 zl) ∧ w'.cell? ⟨(ad.add (m * 4)).block, (ad.add (m * 4)).off + 2, none⟩ = some (.int .i64 zh) ∧ w'.cell? ⟨(ad.add (m * 4)).block, (ad.add (m * 4)).off + 3, none⟩ = some (.int .i64 zn)) (ds := [10]) (bAg 11 0) (by kernel_rfl) rfl rfl ⟨(blk_cell (HB.out.get 5 rfl) 2).trans rfl, (blk_cell (HB.out.get 0 rfl) 2).trans rfl, cellB HB.out.bel HZ.out.1, cellB HB.out.bel HZ.out.2.1, cellB HB.out.bel HZ.out.2.2.1, cellB HB.out.bel HZ.out.2.2.2⟩ (fun hHeld => ?_); refine with_tabW apply26.tab apply26.bits (fun HT_ HW_ => ?_)
            generalize wr.drew = wd at HB HO hHeld ⊢
            refine pure_ (i := 0) (N := some 182) (v := ?_) (a' := ?_) (bAg 11 1) rfl rfl (any_of HT_.out (by kernel_rfl)) (fun _ _ _ h => h) (Or.inl ⟨by rfl, ?_⟩) ?_ ?_
            rotate_left
            · intro w'
              go_simp
              with_reducible rfl
            rotate_left
            · simp only [Act.put, sg1, sg2, sg3, i64_w, i32_w]
              rfl
            refine take_ (i := 1) (N := some 183) (v := ?_) (a' := ?_) (bAg 11 3) rfl rfl (take_ofW HT_.out HW_.out (by kernel_rfl)) (fun _ _ _ h => h) (Or.inl ⟨by rfl, ?_⟩) hHeld ?_ ?_
            rotate_left
            · rintro w' ⟨s0_, s1_, s2_, s3_, s4_, s5_⟩
              go_simp
              with_reducible rfl
            rotate_left
            · simp only [Act.put, sg1, sg2, sg3, i64_w, i32_w]
              rfl
            refine pure_ (i := 2) (N := some 184) (v := ?_) (a' := ?_) (bAg 11 7) rfl rfl (any_of HT_.out (by kernel_rfl)) (fun _ _ _ h => h) (Or.inl ⟨by rfl, ?_⟩) ?_ ?_
            rotate_left
            · intro w'
              go_simp
              with_reducible rfl
            rotate_left
            · simp only [Act.put, sg1, sg2, sg3, i64_w, i32_w]
              rfl
            refine take_ (i := 3) (N := some 185) (v := ?_) (a' := ?_) (bAg 11 15) rfl rfl (take_ofW HT_.out HW_.out (by kernel_rfl)) (fun _ _ _ h => h) (Or.inl ⟨by rfl, ?_⟩) hHeld ?_ ?_
            rotate_left
            · rintro w' ⟨s0_, s1_, s2_, s3_, s4_, s5_⟩
              go_simp
              with_reducible rfl
            rotate_left
            · simp only [Act.put, sg1, sg2, sg3, i64_w, i32_w]
              rfl
            refine pure_ (i := 4) (N := some 186) (v := ?_) (a' := ?_) (bAg 11 31) rfl rfl (any_of HT_.out (by kernel_rfl)) (fun _ _ _ h => h) (Or.inl ⟨by rfl, ?_⟩) ?_ ?_
            rotate_left
            · intro w'
              go_simp
              with_reducible rfl
            rotate_left
            · simp only [Act.put, sg1, sg2, sg3, i64_w, i32_w]
              rfl
            refine pure_ (i := 5) (N := some 187) (v := ?_) (a' := ?_) (bAg 11 63) rfl rfl (any_of HT_.out (by kernel_rfl)) (fun _ _ _ h => h) (Or.inl ⟨by rfl, ?_⟩) ?_ ?_
            rotate_left
            · intro w'
              go_simp
              with_reducible rfl
            rotate_left
            · simp only [Act.put, sg1, sg2, sg3, i64_w, i32_w]
              rfl
            refine take_ (i := 6) (N := some 188) (v := ?_) (a' := ?_) (bAg 11 127) rfl rfl (take_ofW HT_.out HW_.out (by kernel_rfl)) (fun _ _ _ h => h) (Or.inl ⟨by rfl, ?_⟩) hHeld ?_ ?_
            rotate_left
            · rintro w' ⟨s0_, s1_, s2_, s3_, s4_, s5_⟩
              go_simp
              with_reducible rfl
            rotate_left
            · simp only [Act.put, sg1, sg2, sg3, i64_w, i32_w]
              rfl
            refine one_ (i := 7) (N := some 189) (bAg 11 255) rfl rfl (one_of HT_.out (by kernel_rfl)) (by decide) (fun K hK => ?_)
            refine value_ (w1 := ?_) (v := ?_) (by rfl) rfl ?_ ?_
            rotate_left 2
            · go_simp
              constructor
              · rfl
              rfl
            refine hK.out _ _ ⟨(blk_cell (blk_alloc (HB.out.get 5 rfl) _) 2).trans rfl, (blk_cell (blk_alloc (HB.out.get 0 rfl) _) 2).trans rfl, cellA (cellB HB.out.bel HZ.out.1), cellA (cellB HB.out.bel HZ.out.2.1), cellA (cellB HB.out.bel HZ.out.2.2.1), cellA (cellB HB.out.bel HZ.out.2.2.2)⟩ (fun hHeld => ?_)
            clear hK K
            refine norm_ (a' := ?_) ?_ ?_
            rotate_left
            · show Act.put _ (some 189) _ = _
              simp only [Act.put, sg1, sg2, sg3, i64_w, i32_w]
              rfl
            refine one_ (i := 8) (N := some 190) (bAg 11 511) rfl rfl (one_of HT_.out (by kernel_rfl)) (by decide) (fun K hK => ?_)
            refine Kd.R_append_step k82 (w0 := w) w.heap.size (by rfl) (.tmp 183) (.tmp 189) 28 82 (.agg #[(.int .i64 0), (.int .i64 0), (.int .i64 0), (.int .i64 0)]) 32 rfl Try.underlying28 info82_ rfl (by decide) (by omega) (.slice A5 _ c5) out (⟨zi, ⟨zl, zh⟩, zn⟩ : S82) [.int .i64 zi, .int .i64 zl, .int .i64 zh, .int .i64 zn] (Off [b4, b8, b10, g11, g13, b13]) (fun _ => False) rfl rfl (k82_mkM _ _ _ _) (fun _ hk => hk.elim) (HB.out.fresh rfl) HO.out HB.out.bel HB.out.bel.size (by have := hll.out; omega) ?_
            intro v1 w9 ho hb hg hat
            replace HB := Aside0.mk (HB.out.grown rfl HO.out.1 hg hb)
            obtain ⟨out2, ho2⟩ : ∃ out2 : List S82, out2 = out ++ [⟨zi, ⟨zl, zh⟩, zn⟩] := ⟨_, rfl⟩
            rw [← ho2] at ho
            obtain ⟨A6, c6, rfl⟩ := Kd.R_slice ho
            replace HO := Aside0.mk ho
            have HO2 := Aside0.mk ho2
            clear ho ho2 hb hg hat
            refine hK.out _ _ ⟨(blk_cell (HB.out.get 5 rfl) 2).trans rfl, (blk_cell (HB.out.get 0 rfl) 2).trans rfl, cellB HB.out.bel HZ.out.1, cellB HB.out.bel HZ.out.2.1, cellB HB.out.bel HZ.out.2.2.1, cellB HB.out.bel HZ.out.2.2.2⟩ (fun hHeld => ?_)
            clear hK K
            refine norm_ (a' := ?_) ?_ ?_
            rotate_left
            · show Act.put _ (some 190) _ = _
              simp only [Act.put, sg1, sg2, sg3, i64_w, i32_w]
              rfl
            refine pure_ (i := 9) (N := some 191) (v := ?_) (a' := ?_) (bAg 11 1023) rfl rfl (any_of HT_.out (by kernel_rfl)) (fun _ _ _ h => h) (Or.inl ⟨by rfl, ?_⟩) ?_ ?_
            rotate_left
            · intro w'
              go_simp
              with_reducible rfl
            rotate_left
            · simp only [Act.put, sg1, sg2, sg3, i64_w, i32_w]
              rfl
            refine last_ (i := 10) (N := none) (bAg 11 2047) rfl rfl (one_of HT_.out (by kernel_rfl)) (by decide) (fun K hK => ?_)
            have t2 : World.cell? _ ⟨b13, 2, none⟩ = some (.slice A5 out.length c5) := (blk_cell (HB.out.get 5 rfl) 2).trans rfl
            have tz2 : World.frozen? _ ⟨b13, 2, none⟩ = false := blk_frozen (HB.out.get 5 rfl) 2
            refine skip_ (w1 := ?_) (by rfl) rfl ?_ ?_
            rotate_left
            · go_simp
              rfl
            refine hK.out _ _ ?_
            clear hK K t2 tz2
            replace HB : Aside0 (Bx w (w9.setCell ⟨b13, 2, none⟩ (.slice A6 out2.length c6)) [(b4, #[.int .i64 a0_0, .int .i64 a0_1, .slice (some ad) l0_2.length c0_2], 30), (b8, #[.int .i64 0, .int .i64 0, .slice none 0 0, .slice none 0 0, .slice none 0 0, .int .i64 0], 43), (b10, #[.int .i64 xi, .int .i64 xl, .int .i64 xh, .int .i64 xn], 82), (g11, #[.int .i64 xi, .int .i64 xl, .int .i64 xh, .int .i64 xn], 82), (g13, #[.int .i64 a0_1, .int .i64 xl, .int .i64 a3, .int .i64 xn, .int .i64 nx, .int .i64 a3, .int .i64 xh, .int .i64 xn], 82), (b13, #[.int .i64 e2, .int .i64 n2, .slice A6 out2.length c6], 30)]) := ⟨HB.out.set 5 2 (.slice A6 out2.length c6) rfl⟩
            replace HO := Aside0.mk (R_setB HO.out (g := b13) (by simp) 2 (.slice A6 out2.length c6))
            generalize w9.setCell ⟨b13, 2, none⟩ (.slice A6 out2.length c6) = w11 at HB HO ⊢
            refine done_ (done_of HT_.out (by kernel_rfl)) ?_
            clear HT_ HW_
            try clear hHeld
            go_wp2
            have hs := outAt_gt l0_2 fresh i 1 m hmi hmo hlt
            exact ⟨⟨m + 1, _, by omega, by first | rfl | go_num, HB, ⟨by rw [hs, HL.out, HZe.out, ← HO2.out]; exact HO.out⟩⟩, by simp [intOf]; omega⟩
          · exact absurd (show i + 1 ≤ m by omega) hmo
      · obtain rfl : m = l0_2.length := by omega
        have q0 : decide (((l0_2.length : Nat) : Int) < (l0_2.length : Int)) = false := decide_eq_false (by omega)
        have p0 : ¬ (((l0_2.length : Nat) : Int) < (l0_2.length : Int)) := by omega
        have hl := HL.out
        rw [outAt_end l0_2 fresh i 1 hi] at hl
        have hc2 := HC2.out
        have h5 := H5.out
        rw [hl] at hc2 h5
        have HC3 := Aside0.mk hc2
        clear HC2 H5 HL hl hc2
        go_upto_region 27 with (fail)
        clear y0 y1 y2
        clear q0 p0
        have y0 : World.cell? wr ⟨b13, 0, none⟩ = some (.int .i64 e2) := (blk_cell (HB.out.get 5 rfl) 0).trans rfl
        have y1 : World.cell? wr ⟨b13, 1, none⟩ = some (.int .i64 n2) := (blk_cell (HB.out.get 5 rfl) 1).trans rfl
        have y2 : World.cell? wr ⟨b13, 2, none⟩ = some (.slice A5 out.length c5) := (blk_cell (HB.out.get 5 rfl) 2).trans rfl
        cases tt with
        | false =>
          rw [if_neg (by decide)] at h5
          simp only [Option.some.injEq, Prod.mk.injEq] at h5
          obtain ⟨rfl, rfl, rfl, rfl, rfl, rfl⟩ := h5
          go_upto_region 28 with (go_at_call 29; refine (spliceref08_Check.calls k e2 n2 A5 c5 out _ _ (Kd.R_reads' HO.out).2.2 (Kd.R_reads' HO.out).2.1 HC3.out).mono ?_; rintro e w12 ⟨rfl, hb⟩; replace HB := Aside0.mk (HB.out.below hb); replace HO := Aside0.mk (Kd.R_below HO.out hb); clear hb)
          clear y0 y1 y2
          have t0 : World.cell? w12 ⟨b8, 0, none⟩ = some (.int .i64 0) := (blk_cell (HB.out.get 1 rfl) 0).trans rfl
          have t1 : World.cell? w12 ⟨b8, 1, none⟩ = some (.int .i64 0) := (blk_cell (HB.out.get 1 rfl) 1).trans rfl
          have t2 : World.cell? w12 ⟨b8, 2, none⟩ = some (.slice none 0 0) := (blk_cell (HB.out.get 1 rfl) 2).trans rfl
          have t3 : World.cell? w12 ⟨b8, 3, none⟩ = some (.slice none 0 0) := (blk_cell (HB.out.get 1 rfl) 3).trans rfl
          have t4 : World.cell? w12 ⟨b8, 4, none⟩ = some (.slice none 0 0) := (blk_cell (HB.out.get 1 rfl) 4).trans rfl
          have t5 : World.cell? w12 ⟨b8, 5, none⟩ = some (.int .i64 0) := (blk_cell (HB.out.get 1 rfl) 5).trans rfl
          have tz0 : World.frozen? w12 ⟨b8, 0, none⟩ = false := blk_frozen (HB.out.get 1 rfl) 0
          have tz1 : World.frozen? w12 ⟨b8, 1, none⟩ = false := blk_frozen (HB.out.get 1 rfl) 1
          have tz2 : World.frozen? w12 ⟨b8, 2, none⟩ = false := blk_frozen (HB.out.get 1 rfl) 2
          have tz3 : World.frozen? w12 ⟨b8, 3, none⟩ = false := blk_frozen (HB.out.get 1 rfl) 3
          have tz4 : World.frozen? w12 ⟨b8, 4, none⟩ = false := blk_frozen (HB.out.get 1 rfl) 4
          have tz5 : World.frozen? w12 ⟨b8, 5, none⟩ = false := blk_frozen (HB.out.get 1 rfl) 5
          go_wp2
          replace HB : Aside0 (Bx w ((((((w12.setCell ⟨b8, 0, none⟩ (.int .i64 0)).setCell ⟨b8, 1, none⟩ (.int .i64 0)).setCell ⟨b8, 2, none⟩ (.slice none 0 0)).setCell ⟨b8, 3, none⟩ (.slice none 0 0)).setCell ⟨b8, 4, none⟩ (.slice none 0 0)).setCell ⟨b8, 5, none⟩ (.int .i64 2)) [(b4, #[.int .i64 a0_0, .int .i64 a0_1, .slice (some ad) l0_2.length c0_2], 30), (b8, #[.int .i64 0, .int .i64 0, .slice none 0 0, .slice none 0 0, .slice none 0 0, .int .i64 2], 43), (b10, #[.int .i64 xi, .int .i64 xl, .int .i64 xh, .int .i64 xn], 82), (g11, #[.int .i64 xi, .int .i64 xl, .int .i64 xh, .int .i64 xn], 82), (g13, #[.int .i64 a0_1, .int .i64 xl, .int .i64 a3, .int .i64 xn, .int .i64 nx, .int .i64 a3, .int .i64 xh, .int .i64 xn], 82), (b13, #[.int .i64 e2, .int .i64 n2, .slice A5 out.length c5], 30)]) := ⟨((((((HB.out.set 1 0 (.int .i64 0) rfl).set 1 1 (.int .i64 0) rfl).set 1 2 (.slice none 0 0) rfl).set 1 3 (.slice none 0 0) rfl).set 1 4 (.slice none 0 0) rfl).set 1 5 (.int .i64 2) rfl)⟩
          generalize ((((((w12.setCell ⟨b8, 0, none⟩ (.int .i64 0)).setCell ⟨b8, 1, none⟩ (.int .i64 0)).setCell ⟨b8, 2, none⟩ (.slice none 0 0)).setCell ⟨b8, 3, none⟩ (.slice none 0 0)).setCell ⟨b8, 4, none⟩ (.slice none 0 0)).setCell ⟨b8, 5, none⟩ (.int .i64 2)) = w99 at HB ⊢
          refine bodyPost_ret (results_single rfl (.cell b8 43 #[.int .i64 0, .int .i64 0, .slice none 0 0, .slice none 0 0, .slice none 0 0, .int .i64 2] (0, 0) _ rfl (HB.out.get 1 rfl) Try.underlying43 rfl (by kernel_rfl) .nil)) rfl ?_
          exact ⟨_, _, _, rfl, Kd.R_nil _ _ _ _ _, Kd.R_nil _ _ _ _ _, Kd.R_nil _ _ _ _ _, HB.out.bel⟩
        | true =>
          rw [if_pos rfl] at h5
          simp only [Option.some.injEq, Prod.mk.injEq] at h5
          obtain ⟨rfl, rfl, rfl, rfl, rfl, rfl⟩ := h5
          go_upto_region 29 with (go_at_call 29; refine (spliceref08_Check.calls k e2 n2 A5 c5 out _ _ (Kd.R_reads' HO.out).2.2 (Kd.R_reads' HO.out).2.1 HC3.out).mono ?_; rintro e w12 ⟨rfl, hb⟩; replace HB := Aside0.mk (HB.out.below hb); replace HO := Aside0.mk (Kd.R_below HO.out hb); clear hb)
          clear y0 y1 y2
          have y0 : World.cell? w12 ⟨b13, 0, none⟩ = some (.int .i64 e2) := (blk_cell (HB.out.get 5 rfl) 0).trans rfl
          have y1 : World.cell? w12 ⟨b13, 1, none⟩ = some (.int .i64 n2) := (blk_cell (HB.out.get 5 rfl) 1).trans rfl
          have y2 : World.cell? w12 ⟨b13, 2, none⟩ = some (.slice A5 out.length c5) := (blk_cell (HB.out.get 5 rfl) 2).trans rfl
          have t0 : World.cell? w12 ⟨b8, 0, none⟩ = some (.int .i64 0) := (blk_cell (HB.out.get 1 rfl) 0).trans rfl
          have t1 : World.cell? w12 ⟨b8, 1, none⟩ = some (.int .i64 0) := (blk_cell (HB.out.get 1 rfl) 1).trans rfl
          have t2 : World.cell? w12 ⟨b8, 2, none⟩ = some (.slice none 0 0) := (blk_cell (HB.out.get 1 rfl) 2).trans rfl
          have t3 : World.cell? w12 ⟨b8, 3, none⟩ = some (.slice none 0 0) := (blk_cell (HB.out.get 1 rfl) 3).trans rfl
          have t4 : World.cell? w12 ⟨b8, 4, none⟩ = some (.slice none 0 0) := (blk_cell (HB.out.get 1 rfl) 4).trans rfl
          have t5 : World.cell? w12 ⟨b8, 5, none⟩ = some (.int .i64 0) := (blk_cell (HB.out.get 1 rfl) 5).trans rfl
          have tz0 : World.frozen? w12 ⟨b8, 0, none⟩ = false := blk_frozen (HB.out.get 1 rfl) 0
          have tz1 : World.frozen? w12 ⟨b8, 1, none⟩ = false := blk_frozen (HB.out.get 1 rfl) 1
          have tz2 : World.frozen? w12 ⟨b8, 2, none⟩ = false := blk_frozen (HB.out.get 1 rfl) 2
          have tz3 : World.frozen? w12 ⟨b8, 3, none⟩ = false := blk_frozen (HB.out.get 1 rfl) 3
          have tz4 : World.frozen? w12 ⟨b8, 4, none⟩ = false := blk_frozen (HB.out.get 1 rfl) 4
          have tz5 : World.frozen? w12 ⟨b8, 5, none⟩ = false := blk_frozen (HB.out.get 1 rfl) 5
          go_wp2
          replace HB : Aside0 (Bx w ((((((w12.setCell ⟨b8, 0, none⟩ (.int .i64 e2)).setCell ⟨b8, 1, none⟩ (.int .i64 n2)).setCell ⟨b8, 2, none⟩ (.slice A5 out.length c5)).setCell ⟨b8, 3, none⟩ (.slice (some ⟨g11, 0, none⟩) 1 1)).setCell ⟨b8, 4, none⟩ (.slice (some adf) 2 2)).setCell ⟨b8, 5, none⟩ (.int .i64 0)) [(b4, #[.int .i64 a0_0, .int .i64 a0_1, .slice (some ad) l0_2.length c0_2], 30), (b8, #[.int .i64 e2, .int .i64 n2, .slice A5 out.length c5, .slice (some ⟨g11, 0, none⟩) 1 1, .slice (some adf) 2 2, .int .i64 0], 43), (b10, #[.int .i64 xi, .int .i64 xl, .int .i64 xh, .int .i64 xn], 82), (g11, #[.int .i64 xi, .int .i64 xl, .int .i64 xh, .int .i64 xn], 82), (g13, #[.int .i64 a0_1, .int .i64 xl, .int .i64 a3, .int .i64 xn, .int .i64 nx, .int .i64 a3, .int .i64 xh, .int .i64 xn], 82), (b13, #[.int .i64 e2, .int .i64 n2, .slice A5 out.length c5], 30)]) := ⟨((((((HB.out.set 1 0 (.int .i64 e2) rfl).set 1 1 (.int .i64 n2) rfl).set 1 2 (.slice A5 out.length c5) rfl).set 1 3 (.slice (some ⟨g11, 0, none⟩) 1 1) rfl).set 1 4 (.slice (some adf) 2 2) rfl).set 1 5 (.int .i64 0) rfl)⟩
          replace HO := Aside0.mk (R_setB (R_setB (R_setB (R_setB (R_setB (R_setB HO.out (g := b8) (by simp) 0 (.int .i64 e2)) (g := b8) (by simp) 1 (.int .i64 n2)) (g := b8) (by simp) 2 (.slice A5 out.length c5)) (g := b8) (by simp) 3 (.slice (some ⟨g11, 0, none⟩) 1 1)) (g := b8) (by simp) 4 (.slice (some adf) 2 2)) (g := b8) (by simp) 5 (.int .i64 0))
          generalize ((((((w12.setCell ⟨b8, 0, none⟩ (.int .i64 e2)).setCell ⟨b8, 1, none⟩ (.int .i64 n2)).setCell ⟨b8, 2, none⟩ (.slice A5 out.length c5)).setCell ⟨b8, 3, none⟩ (.slice (some ⟨g11, 0, none⟩) 1 1)).setCell ⟨b8, 4, none⟩ (.slice (some adf) 2 2)).setCell ⟨b8, 5, none⟩ (.int .i64 0)) = w99 at HB HO ⊢
          refine bodyPost_ret (results_single rfl (.cell b8 43 #[.int .i64 e2, .int .i64 n2, .slice A5 out.length c5, .slice (some ⟨g11, 0, none⟩) 1 1, .slice (some adf) 2 2, .int .i64 0] (0, 0) _ rfl (HB.out.get 1 rfl) Try.underlying43 rfl (by kernel_rfl) .nil)) rfl ?_
          have hga := HGa.out
          subst hga
          have hnd := HB.out.nd
          have hne : g11 ≠ g13 := by intro e; subst e; simp at hnd
          have hO1 := HO.out.1
          refine ⟨_, _, _, rfl, Kd.R_mono HO.out (fun k_ hk => ⟨fun e => hk g11 (by simp) (by simpa [Value.ownBlock] using e), fun e => hk g13 (by simp) (by simpa [Value.ownBlock] using e)⟩), R_ofB (HB.out.get 3 rfl) (HB.out.ge 3 rfl) ⟨fun e => hO1 g11 e.symm g11 (by simp) rfl, fun e => hne (by simpa [Value.ownBlock] using e)⟩ (by rw [HOl.out]; rfl) (by rw [HOl.out]; simp) (by rw [HOl.out]; exact reps1 _), R_ofB (HB.out.get 4 rfl) (HB.out.ge 4 rfl) ⟨fun e => hO1 g13 e.symm g13 (by simp) rfl, fun e => hne.symm (by simpa [Value.ownBlock] using e)⟩ HFr.out.2.symm (by rw [HFr.out.2]; decide) (by rw [HFr.out.1]; exact reps2 _ _), HB.out.bel⟩
  · skip
    go_upto_region 3 with (go_at_call 29; refine (spliceref08_Check.calls k a0_0 a0_1 _ c0_2 l0_2 _ _ (Kd.C_below HR0.out HB.out.bel) HC0.out HCk.out).mono ?_; rintro e w3 ⟨rfl, hb⟩; replace HB := Aside0.mk (HB.out.below hb); clear hb)
    clear y0 y1 y2
    have y0 : World.cell? w3 ⟨b4, 0, none⟩ = some (.int .i64 a0_0) := (blk_cell (HB.out.get 0 rfl) 0).trans rfl
    have y1 : World.cell? w3 ⟨b4, 1, none⟩ = some (.int .i64 a0_1) := (blk_cell (HB.out.get 0 rfl) 1).trans rfl
    have y2 : World.cell? w3 ⟨b4, 2, none⟩ = some (.slice A0_2 l0_2.length c0_2) := (blk_cell (HB.out.get 0 rfl) 2).trans rfl
    by_cases hi0 : i < 0
    · rw [if_pos hi0] at h2
      simp only [Option.some.injEq, Prod.mk.injEq] at h2
      obtain ⟨rfl, rfl, rfl, rfl, rfl, rfl⟩ := h2
      have q1 : decide (i < 0) = true := decide_eq_true hi0
      clear hi0
      go_upto_region 5 with (go_at_call 28; refine (spliceref08_Find.calls k a0_0 a0_1 _ c0_2 l0_2 a2 _ _ (Kd.C_below HR0.out HB.out.bel) HC0.out HF.out).mono ?_; rintro e w4 ⟨rfl, hb⟩; replace HB := Aside0.mk (HB.out.below hb); clear hb)
      clear y0 y1 y2
      have t0 : World.cell? w4 ⟨b8, 0, none⟩ = some (.int .i64 0) := (blk_cell (HB.out.get 1 rfl) 0).trans rfl
      have t1 : World.cell? w4 ⟨b8, 1, none⟩ = some (.int .i64 0) := (blk_cell (HB.out.get 1 rfl) 1).trans rfl
      have t2 : World.cell? w4 ⟨b8, 2, none⟩ = some (.slice none 0 0) := (blk_cell (HB.out.get 1 rfl) 2).trans rfl
      have t3 : World.cell? w4 ⟨b8, 3, none⟩ = some (.slice none 0 0) := (blk_cell (HB.out.get 1 rfl) 3).trans rfl
      have t4 : World.cell? w4 ⟨b8, 4, none⟩ = some (.slice none 0 0) := (blk_cell (HB.out.get 1 rfl) 4).trans rfl
      have t5 : World.cell? w4 ⟨b8, 5, none⟩ = some (.int .i64 0) := (blk_cell (HB.out.get 1 rfl) 5).trans rfl
      have tz0 : World.frozen? w4 ⟨b8, 0, none⟩ = false := blk_frozen (HB.out.get 1 rfl) 0
      have tz1 : World.frozen? w4 ⟨b8, 1, none⟩ = false := blk_frozen (HB.out.get 1 rfl) 1
      have tz2 : World.frozen? w4 ⟨b8, 2, none⟩ = false := blk_frozen (HB.out.get 1 rfl) 2
      have tz3 : World.frozen? w4 ⟨b8, 3, none⟩ = false := blk_frozen (HB.out.get 1 rfl) 3
      have tz4 : World.frozen? w4 ⟨b8, 4, none⟩ = false := blk_frozen (HB.out.get 1 rfl) 4
      have tz5 : World.frozen? w4 ⟨b8, 5, none⟩ = false := blk_frozen (HB.out.get 1 rfl) 5
      go_wp2
      replace HB : Aside0 (Bx w ((((((w4.setCell ⟨b8, 0, none⟩ (.int .i64 0)).setCell ⟨b8, 1, none⟩ (.int .i64 0)).setCell ⟨b8, 2, none⟩ (.slice none 0 0)).setCell ⟨b8, 3, none⟩ (.slice none 0 0)).setCell ⟨b8, 4, none⟩ (.slice none 0 0)).setCell ⟨b8, 5, none⟩ (.int .i64 4)) [(b4, #[.int .i64 a0_0, .int .i64 a0_1, .slice A0_2 l0_2.length c0_2], 30), (b8, #[.int .i64 0, .int .i64 0, .slice none 0 0, .slice none 0 0, .slice none 0 0, .int .i64 4], 43)]) := ⟨((((((HB.out.set 1 0 (.int .i64 0) rfl).set 1 1 (.int .i64 0) rfl).set 1 2 (.slice none 0 0) rfl).set 1 3 (.slice none 0 0) rfl).set 1 4 (.slice none 0 0) rfl).set 1 5 (.int .i64 4) rfl)⟩
      generalize ((((((w4.setCell ⟨b8, 0, none⟩ (.int .i64 0)).setCell ⟨b8, 1, none⟩ (.int .i64 0)).setCell ⟨b8, 2, none⟩ (.slice none 0 0)).setCell ⟨b8, 3, none⟩ (.slice none 0 0)).setCell ⟨b8, 4, none⟩ (.slice none 0 0)).setCell ⟨b8, 5, none⟩ (.int .i64 4)) = w99 at HB ⊢
      refine bodyPost_ret (results_single rfl (.cell b8 43 #[.int .i64 0, .int .i64 0, .slice none 0 0, .slice none 0 0, .slice none 0 0, .int .i64 4] (0, 0) _ rfl (HB.out.get 1 rfl) Try.underlying43 rfl (by kernel_rfl) .nil)) rfl ?_
      exact ⟨_, _, _, rfl, Kd.R_nil _ _ _ _ _, Kd.R_nil _ _ _ _ _, Kd.R_nil _ _ _ _ _, HB.out.bel⟩
    rw [if_neg hi0] at h2
    by_cases hil : (l0_2.length : Int) ≤ i
    case pos => rw [if_pos hil] at h2; exact absurd h2 (by simp)
    rw [if_neg hil] at h2
    obtain ⟨i, rfl⟩ := Int.eq_ofNat_of_zero_le (show 0 ≤ i by omega)
    rw [Int.toNat_natCast] at h2
    have hi : i < l0_2.length := by omega
    have q1 : decide ((i : Int) < 0) = false := decide_eq_false hi0
    have hwi : IntKind.i64.wrap ((i : Int) + 1) = (i : Int) + 1 := IntWalk.i64_in _ (by omega)
    have u1 : 0 ≤ (i : Int) := by omega
    have u2 : (i : Int) < (l0_2.length : Int) := by omega
    have u3 : ¬ (i : Int) < 0 := by omega
    clear hi0 hil
    obtain ⟨ad, e0, x0, x1, x2, x3⟩ := at_T82 HR0.out (i : Int) u1 u2
    have hm := h2
    generalize hx : rd_T82 l0_2 (i : Int) = x at x0 x1 x2 x3 hm
    clear h2
    rw [Int.toNat_natCast] at x0 x1 x2 x3
    obtain ⟨xi, ⟨xl, xh⟩, xn⟩ := x
    dsimp only at x0 x1 x2 x3
    subst e0
    have HX := Aside0.mk (And.intro x0 (And.intro x1 (And.intro x2 x3)))
    have HXe := Aside0.mk hx
    clear x0 x1 x2 x3 hx
    unfold spliceref08_Apply.m at hm
    rw [if_neg (by decide), if_pos rfl] at hm
    by_cases hlast : i + 1 = l0_2.length
    · rw [if_pos hlast] at hm
      simp only [Option.some.injEq, Prod.mk.injEq] at hm
      obtain ⟨rfl, rfl, rfl, rfl, rfl, rfl⟩ := hm
      have q2 : ((i : Int) + 1 == (l0_2.length : Int)) = true := beq_iff_eq.mpr (by omega)
      have q3 : decide ((i : Int) + 1 = (l0_2.length : Int)) = true := decide_eq_true (by omega)
      have HLa := Aside0.mk hlast
      clear hlast
      go_upto_region 5 with (go_at_call 28; refine (spliceref08_Find.calls k a0_0 a0_1 _ c0_2 l0_2 a2 _ _ (Kd.C_below HR0.out HB.out.bel) HC0.out HF.out).mono ?_; rintro e w4 ⟨rfl, hb⟩; replace HB := Aside0.mk (HB.out.below hb); clear hb; clear y0 y1 y2; have y0 : World.cell? w4 ⟨b4, 0, none⟩ = some (.int .i64 a0_0) := (blk_cell (HB.out.get 0 rfl) 0).trans rfl; have y1 : World.cell? w4 ⟨b4, 1, none⟩ = some (.int .i64 a0_1) := (blk_cell (HB.out.get 0 rfl) 1).trans rfl; have y2 : World.cell? w4 ⟨b4, 2, none⟩ = some (.slice (some ad) l0_2.length c0_2) := (blk_cell (HB.out.get 0 rfl) 2).trans rfl)
      clear y0 y1 y2
      have t0 : World.cell? w4 ⟨b8, 0, none⟩ = some (.int .i64 0) := (blk_cell (HB.out.get 1 rfl) 0).trans rfl
      have t1 : World.cell? w4 ⟨b8, 1, none⟩ = some (.int .i64 0) := (blk_cell (HB.out.get 1 rfl) 1).trans rfl
      have t2 : World.cell? w4 ⟨b8, 2, none⟩ = some (.slice none 0 0) := (blk_cell (HB.out.get 1 rfl) 2).trans rfl
      have t3 : World.cell? w4 ⟨b8, 3, none⟩ = some (.slice none 0 0) := (blk_cell (HB.out.get 1 rfl) 3).trans rfl
      have t4 : World.cell? w4 ⟨b8, 4, none⟩ = some (.slice none 0 0) := (blk_cell (HB.out.get 1 rfl) 4).trans rfl
      have t5 : World.cell? w4 ⟨b8, 5, none⟩ = some (.int .i64 0) := (blk_cell (HB.out.get 1 rfl) 5).trans rfl
      have tz0 : World.frozen? w4 ⟨b8, 0, none⟩ = false := blk_frozen (HB.out.get 1 rfl) 0
      have tz1 : World.frozen? w4 ⟨b8, 1, none⟩ = false := blk_frozen (HB.out.get 1 rfl) 1
      have tz2 : World.frozen? w4 ⟨b8, 2, none⟩ = false := blk_frozen (HB.out.get 1 rfl) 2
      have tz3 : World.frozen? w4 ⟨b8, 3, none⟩ = false := blk_frozen (HB.out.get 1 rfl) 3
      have tz4 : World.frozen? w4 ⟨b8, 4, none⟩ = false := blk_frozen (HB.out.get 1 rfl) 4
      have tz5 : World.frozen? w4 ⟨b8, 5, none⟩ = false := blk_frozen (HB.out.get 1 rfl) 5
      go_wp2
      replace HB : Aside0 (Bx w ((((((w4.setCell ⟨b8, 0, none⟩ (.int .i64 0)).setCell ⟨b8, 1, none⟩ (.int .i64 0)).setCell ⟨b8, 2, none⟩ (.slice none 0 0)).setCell ⟨b8, 3, none⟩ (.slice none 0 0)).setCell ⟨b8, 4, none⟩ (.slice none 0 0)).setCell ⟨b8, 5, none⟩ (.int .i64 4)) [(b4, #[.int .i64 a0_0, .int .i64 a0_1, .slice (some ad) l0_2.length c0_2], 30), (b8, #[.int .i64 0, .int .i64 0, .slice none 0 0, .slice none 0 0, .slice none 0 0, .int .i64 4], 43)]) := ⟨((((((HB.out.set 1 0 (.int .i64 0) rfl).set 1 1 (.int .i64 0) rfl).set 1 2 (.slice none 0 0) rfl).set 1 3 (.slice none 0 0) rfl).set 1 4 (.slice none 0 0) rfl).set 1 5 (.int .i64 4) rfl)⟩
      generalize ((((((w4.setCell ⟨b8, 0, none⟩ (.int .i64 0)).setCell ⟨b8, 1, none⟩ (.int .i64 0)).setCell ⟨b8, 2, none⟩ (.slice none 0 0)).setCell ⟨b8, 3, none⟩ (.slice none 0 0)).setCell ⟨b8, 4, none⟩ (.slice none 0 0)).setCell ⟨b8, 5, none⟩ (.int .i64 4)) = w99 at HB ⊢
      refine bodyPost_ret (results_single rfl (.cell b8 43 #[.int .i64 0, .int .i64 0, .slice none 0 0, .slice none 0 0, .slice none 0 0, .int .i64 4] (0, 0) _ rfl (HB.out.get 1 rfl) Try.underlying43 rfl (by kernel_rfl) .nil)) rfl ?_
      exact ⟨_, _, _, rfl, Kd.R_nil _ _ _ _ _, Kd.R_nil _ _ _ _ _, Kd.R_nil _ _ _ _ _, HB.out.bel⟩
    rw [if_neg hlast] at hm
    obtain ⟨i1, hi1e⟩ : ∃ i1, i1 = i + 1 := ⟨_, rfl⟩
    rw [← hi1e] at hm
    have hi1 : i1 < l0_2.length := by omega
    have hwi1 : IntKind.i64.wrap ((i : Int) + 1) = (i1 : Int) := by rw [hwi]; omega
    clear hwi
    have q2 : ((i1 : Int) == (l0_2.length : Int)) = false := beq_eq_false_iff_ne.mpr (by omega)
    have q3 : decide ((i1 : Int) = (l0_2.length : Int)) = false := decide_eq_false (by omega)
    have v1 : 0 ≤ (i1 : Int) := by omega
    have v2 : (i1 : Int) < (l0_2.length : Int) := by omega
    have v3 : ¬ (i1 : Int) < 0 := by omega
    clear hlast hi1e
    obtain ⟨ad', e0, y0_, y1_, y2_, y3_⟩ := at_T82 HR0.out (i1 : Int) v1 v2
    generalize hy : rd_T82 l0_2 (i1 : Int) = yy at y0_ y1_ y2_ y3_ hm
    rw [Int.toNat_natCast] at y0_ y1_ y2_ y3_
    obtain ⟨yi, ⟨yl, yh⟩, yn⟩ := yy
    dsimp only at y0_ y1_ y2_ y3_ hm
    injection e0 with e0
    subst e0
    have HY := Aside0.mk (And.intro y0_ (And.intro y1_ (And.intro y2_ y3_)))
    clear y0_ y1_ y2_ y3_ hy
    have HM := Aside0.mk hm
    clear hm
    go_upto_region 6 with (go_at_call 28; refine (spliceref08_Find.calls k a0_0 a0_1 _ c0_2 l0_2 a2 _ _ (Kd.C_below HR0.out HB.out.bel) HC0.out HF.out).mono ?_; rintro e w4 ⟨rfl, hb⟩; replace HB := Aside0.mk (HB.out.below hb); clear hb; clear y0 y1 y2; have y0 : World.cell? w4 ⟨b4, 0, none⟩ = some (.int .i64 a0_0) := (blk_cell (HB.out.get 0 rfl) 0).trans rfl; have y1 : World.cell? w4 ⟨b4, 1, none⟩ = some (.int .i64 a0_1) := (blk_cell (HB.out.get 0 rfl) 1).trans rfl; have y2 : World.cell? w4 ⟨b4, 2, none⟩ = some (.slice (some ad) l0_2.length c0_2) := (blk_cell (HB.out.get 0 rfl) 2).trans rfl)
    clear q2 q3
    have x0 := cellB HB.out.bel HX.out.1
    have x1 := cellB HB.out.bel HX.out.2.1
    have x2 := cellB HB.out.bel HX.out.2.2.1
    have x3 := cellB HB.out.bel HX.out.2.2.2
    go_upto_region 7 with (fail)
    clear x0 x1 x2 x3
    replace HB := Aside0.mk (HB.out.push #[.int .i64 xi, .int .i64 xl, .int .i64 xh, .int .i64 xn] 82)
    simp only [List.nil_append, List.cons_append] at HB
    generalize w4.alloc (.cells #[.int .i64 xi, .int .i64 xl, .int .i64 xh, .int .i64 xn] 82) = w5 at HB ⊢
    generalize w4.heap.size = b10 at HB ⊢
    clear y0 y1 y2
    have s0 : World.cell? w5 ⟨b10, 0, none⟩ = some (.int .i64 xi) := (blk_cell (HB.out.get 2 rfl) 0).trans rfl
    have s1 : World.cell? w5 ⟨b10, 1, none⟩ = some (.int .i64 xl) := (blk_cell (HB.out.get 2 rfl) 1).trans rfl
    have s2 : World.cell? w5 ⟨b10, 2, none⟩ = some (.int .i64 xh) := (blk_cell (HB.out.get 2 rfl) 2).trans rfl
    have s3 : World.cell? w5 ⟨b10, 3, none⟩ = some (.int .i64 xn) := (blk_cell (HB.out.get 2 rfl) 3).trans rfl
    go_upto_region 8 with (fail)
    replace HB := Aside0.mk (HB.out.push #[.int .i64 xi, .int .i64 xl, .int .i64 xh, .int .i64 xn] 82)
    simp only [List.nil_append, List.cons_append] at HB
    generalize w5.alloc (.cells #[.int .i64 xi, .int .i64 xl, .int .i64 xh, .int .i64 xn] 82) = w6 at HB ⊢
    generalize w5.heap.size = g11 at HB ⊢
    clear s0 s1 s2 s3
    have s0 : World.cell? w6 ⟨b10, 0, none⟩ = some (.int .i64 xi) := (blk_cell (HB.out.get 2 rfl) 0).trans rfl
    have s1 : World.cell? w6 ⟨b10, 1, none⟩ = some (.int .i64 xl) := (blk_cell (HB.out.get 2 rfl) 1).trans rfl
    have s2 : World.cell? w6 ⟨b10, 2, none⟩ = some (.int .i64 xh) := (blk_cell (HB.out.get 2 rfl) 2).trans rfl
    have s3 : World.cell? w6 ⟨b10, 3, none⟩ = some (.int .i64 xn) := (blk_cell (HB.out.get 2 rfl) 3).trans rfl
    have s2_1_1 : World.cell? w6 ⟨b10, 1 + 1, none⟩ = some (.int .i64 xh) := s2
    have y0 : World.cell? w6 ⟨b4, 0, none⟩ = some (.int .i64 a0_0) := (blk_cell (HB.out.get 0 rfl) 0).trans rfl
    have y1 : World.cell? w6 ⟨b4, 1, none⟩ = some (.int .i64 a0_1) := (blk_cell (HB.out.get 0 rfl) 1).trans rfl
    have y2 : World.cell? w6 ⟨b4, 2, none⟩ = some (.slice (some ad) l0_2.length c0_2) := (blk_cell (HB.out.get 0 rfl) 2).trans rfl
    go_upto_region 9 with (fail)
    replace HB := Aside0.mk (HB.out.push #[.int .i64 a0_1, .int .i64 xl, .int .i64 xh, .int .i64 a3] 82)
    simp only [List.nil_append, List.cons_append] at HB
    generalize w6.alloc (.cells #[.int .i64 a0_1, .int .i64 xl, .int .i64 xh, .int .i64 a3] 82) = w7 at HB ⊢
    generalize w6.heap.size = g12 at HB ⊢
    clear s0 s1 s2 s3 s2_1_1
    clear y0 y1 y2
    go_upto_region 14 with (fail)
    replace HB := Aside0.mk (HB.out.below (below_drew (Below.refl _ _)))
    refine start_ (n := 9) (S := fun w' => w'.cell? ⟨b10, 0, none⟩ = some (.int .i64 xi) ∧ w'.cell? ⟨b10, 1, none⟩ = some (.int .i64 xl) ∧ w'.cell? ⟨b10, 2, none⟩ = some (.int .i64 xh) ∧ w'.cell? ⟨b10, 3, none⟩ = some (.int .i64 xn) ∧ w'.cell? ⟨b4, 2, none⟩ = some (.slice (some ad) l0_2.length c0_2) ∧ w'.cell? (ad.add (i1 * 4)) = some (.int .i64 yi) ∧ w'.cell? ⟨(ad.add (i1 * 4)).block, (ad.add (i1 * 4)).off + 1, none⟩ = some (.int .i64 yl) ∧ w'.cell? ⟨(ad.add (i1 * 4)).block, (ad.add (i1 * 4)).off + 2, none⟩ = some (.int .i64 yh) ∧ w'.cell? ⟨(ad.add (i1 * 4)).block, (ad.add (i1 * 4)).off + 3, none⟩ = some (.int .i64 yn)) (ds := [7]) (bAg 9 0) (by kernel_rfl) rfl rfl ⟨(blk_cell (HB.out.get 2 rfl) 0).trans rfl, (blk_cell (HB.out.get 2 rfl) 1).trans rfl, (blk_cell (HB.out.get 2 rfl) 2).trans rfl, (blk_cell (HB.out.get 2 rfl) 3).trans rfl, (blk_cell (HB.out.get 0 rfl) 2).trans rfl, cellB HB.out.bel HY.out.1, cellB HB.out.bel HY.out.2.1, cellB HB.out.bel HY.out.2.2.1, cellB HB.out.bel HY.out.2.2.2⟩ (fun hHeld => ?_); refine with_tabW apply14.tab apply14.bits (fun HT_ HW_ => ?_)
    generalize w7.drew = wd at HB hHeld ⊢
    refine take_ (i := 0) (N := some 111) (v := ?_) (a' := ?_) (bAg 9 1) rfl rfl (take_ofW HT_.out HW_.out (by kernel_rfl)) (fun _ _ _ h => h) (Or.inl ⟨by rfl, ?_⟩) hHeld ?_ ?_
    rotate_left
    · rintro w' ⟨s0_, s1_, s2_, s3_, s4_, s5_, s6_, s7_, s8_⟩
      go_simp
      with_reducible rfl
    rotate_left
    · simp only [Act.put, sg1, sg2, sg3, i64_w, i32_w]
      rfl
    refine pure_ (i := 1) (N := some 112) (v := ?_) (a' := ?_) (bAg 9 3) rfl rfl (any_of HT_.out (by kernel_rfl)) (fun _ _ _ h => h) (Or.inl ⟨by rfl, ?_⟩) ?_ ?_
    rotate_left
    · intro w'
      go_simp
      with_reducible rfl
    rotate_left
    · simp only [Act.put, sg1, sg2, sg3, i64_w, i32_w]
      rfl
    refine take_ (i := 2) (N := some 113) (v := ?_) (a' := ?_) (bAg 9 7) rfl rfl (take_ofW HT_.out HW_.out (by kernel_rfl)) (fun _ _ _ h => h) (Or.inl ⟨by rfl, ?_⟩) hHeld ?_ ?_
    rotate_left
    · rintro w' ⟨s0_, s1_, s2_, s3_, s4_, s5_, s6_, s7_, s8_⟩
      go_simp
      with_reducible rfl
    rotate_left
    · simp only [Act.put, sg1, sg2, sg3, i64_w, i32_w]
      rfl
    refine pure_ (i := 3) (N := some 114) (v := ?_) (a' := ?_) (bAg 9 15) rfl rfl (any_of HT_.out (by kernel_rfl)) (fun _ _ _ h => h) (Or.inl ⟨by rfl, ?_⟩) ?_ ?_
    rotate_left
    · intro w'
      go_simp
      with_reducible rfl
    rotate_left
    · simp only [Act.put, sg1, sg2, sg3, i64_w, i32_w]
      rfl
    refine pure_ (i := 4) (N := some 115) (v := ?_) (a' := ?_) (bAg 9 31) rfl rfl (any_of HT_.out (by kernel_rfl)) (fun _ _ _ h => h) (Or.inl ⟨by rfl, ?_⟩) ?_ ?_
    rotate_left
    · intro w'
      go_simp
      with_reducible rfl
    rotate_left
    · simp only [Act.put, sg1, sg2, sg3, i64_w, i32_w]
      rfl
    refine pure_ (i := 5) (N := some 116) (v := ?_) (a' := ?_) (bAg 9 63) rfl rfl (any_of HT_.out (by kernel_rfl)) (fun _ _ _ h => h) (Or.inl ⟨by rfl, ?_⟩) ?_ ?_
    rotate_left
    · intro w'
      go_simp
      with_reducible rfl
    rotate_left
    · simp only [Act.put, sg1, sg2, sg3, i64_w, i32_w]
      rfl
    refine take_ (i := 6) (N := some 117) (v := ?_) (a' := ?_) (bAg 9 127) rfl rfl (take_ofW HT_.out HW_.out (by kernel_rfl)) (fun _ _ _ h => h) (Or.inl ⟨by rfl, ?_⟩) hHeld ?_ ?_
    rotate_left
    · rintro w' ⟨s0_, s1_, s2_, s3_, s4_, s5_, s6_, s7_, s8_⟩
      go_simp
      with_reducible rfl
    rotate_left
    · simp only [Act.put, sg1, sg2, sg3, i64_w, i32_w]
      rfl
    refine last_ (i := 7) (N := some 118) (bAg 9 255) rfl rfl (one_of HT_.out (by kernel_rfl)) (by decide) (fun K hK => ?_)
    refine value_ (w1 := ?_) (v := ?_) (by rfl) rfl ?_ ?_
    rotate_left 2
    · go_simp
      constructor
      · rfl
      rfl
    refine hK.out _ _ ?_
    clear hK K
    replace HB := Aside0.mk (HB.out.push #[.int .i64 xi, .int .i64 xl, .int .i64 xh, .int .i64 xn, .int .i64 yi, .int .i64 yl, .int .i64 yh, .int .i64 yn] 82)
    simp only [List.nil_append, List.cons_append] at HB
    generalize wd.alloc (.cells #[.int .i64 xi, .int .i64 xl, .int .i64 xh, .int .i64 xn, .int .i64 yi, .int .i64 yl, .int .i64 yh, .int .i64 yn] 82) = w8 at HB ⊢
    generalize wd.heap.size = g14 at HB ⊢
    refine norm_ (a' := ?_) ?_ ?_
    rotate_left
    · show Act.put _ (some 118) _ = _
      simp only [Act.put, sg1, sg2, sg3, i64_w, i32_w]
      rfl
    refine pure_ (i := 8) (N := some 11) (v := ?_) (a' := ?_) (bAg 9 511) rfl rfl (any_of HT_.out (by kernel_rfl)) (fun _ _ _ h => h) (Or.inl ⟨by rfl, ?_⟩) ?_ ?_
    rotate_left
    · intro w'
      go_simp
      with_reducible rfl
    rotate_left
    · simp only [Act.put, sg1, sg2, sg3, i64_w, i32_w]
      rfl
    refine done_ (done_of HT_.out (by kernel_rfl)) ?_
    clear HT_ HW_
    try clear hHeld
    go_upto_region 15 with (fail)
    replace HB := Aside0.mk (HB.out.below (below_drew (Below.refl _ _)))
    refine start_ (n := 19) (S := fun w' => w'.cell? ⟨b10, 0, none⟩ = some (.int .i64 xi) ∧ w'.cell? ⟨b10, 1, none⟩ = some (.int .i64 xl) ∧ w'.cell? ⟨b10, 2, none⟩ = some (.int .i64 xh) ∧ w'.cell? ⟨b10, 3, none⟩ = some (.int .i64 xn) ∧ w'.cell? ⟨b10, 1 + 1, none⟩ = some (.int .i64 xh) ∧ w'.cell? ⟨b4, 1, none⟩ = some (.int .i64 a0_1) ∧ w'.cell? ⟨b4, 2, none⟩ = some (.slice (some ad) l0_2.length c0_2) ∧ w'.cell? (ad.add (i1 * 4)) = some (.int .i64 yi) ∧ w'.cell? ⟨(ad.add (i1 * 4)).block, (ad.add (i1 * 4)).off + 1, none⟩ = some (.int .i64 yl) ∧ w'.cell? ⟨(ad.add (i1 * 4)).block, (ad.add (i1 * 4)).off + 2, none⟩ = some (.int .i64 yh) ∧ w'.cell? ⟨(ad.add (i1 * 4)).block, (ad.add (i1 * 4)).off + 3, none⟩ = some (.int .i64 yn) ∧ w'.cell? ⟨(ad.add (i1 * 4)).block, (ad.add (i1 * 4)).off + 1 + 1, none⟩ = some (.int .i64 yh) ∧ w'.cell? ⟨(ad.add (i1 * 4)).block, (ad.add (i1 * 4)).off + (1 + 1), none⟩ = some (.int .i64 yh)) (ds := [17]) (bAg 19 0) (by kernel_rfl) rfl rfl ⟨(blk_cell (HB.out.get 2 rfl) 0).trans rfl, (blk_cell (HB.out.get 2 rfl) 1).trans rfl, (blk_cell (HB.out.get 2 rfl) 2).trans rfl, (blk_cell (HB.out.get 2 rfl) 3).trans rfl, (blk_cell (HB.out.get 2 rfl) 2).trans rfl, (blk_cell (HB.out.get 0 rfl) 1).trans rfl, (blk_cell (HB.out.get 0 rfl) 2).trans rfl, cellB HB.out.bel HY.out.1, cellB HB.out.bel HY.out.2.1, cellB HB.out.bel HY.out.2.2.1, cellB HB.out.bel HY.out.2.2.2, cellB HB.out.bel HY.out.2.2.1, cellB HB.out.bel HY.out.2.2.1⟩ (fun hHeld => ?_); refine with_tabW apply15.tab apply15.bits (fun HT_ HW_ => ?_)
    generalize w8.drew = wd at HB hHeld ⊢
    refine pure_ (i := 0) (N := some 119) (v := ?_) (a' := ?_) (bAg 19 1) rfl rfl (any_of HT_.out (by kernel_rfl)) (fun _ _ _ h => h) (Or.inl ⟨by rfl, ?_⟩) ?_ ?_
    rotate_left
    · intro w'
      go_simp
      with_reducible rfl
    rotate_left
    · simp only [Act.put, sg1, sg2, sg3, i64_w, i32_w]
      rfl
    refine take_ (i := 1) (N := some 120) (v := ?_) (a' := ?_) (bAg 19 3) rfl rfl (take_ofW HT_.out HW_.out (by kernel_rfl)) (fun _ _ _ h => h) (Or.inl ⟨by rfl, ?_⟩) hHeld ?_ ?_
    rotate_left
    · rintro w' ⟨s0_, s1_, s2_, s3_, s4_, s5_, s6_, s7_, s8_, s9_, s10_, s11_, s12_⟩
      go_simp
      with_reducible rfl
    rotate_left
    · simp only [Act.put, sg1, sg2, sg3, i64_w, i32_w]
      rfl
    refine pure_ (i := 2) (N := some 121) (v := ?_) (a' := ?_) (bAg 19 7) rfl rfl (any_of HT_.out (by kernel_rfl)) (fun _ _ _ h => h) (Or.inl ⟨by rfl, ?_⟩) ?_ ?_
    rotate_left
    · intro w'
      go_simp
      with_reducible rfl
    rotate_left
    · simp only [Act.put, sg1, sg2, sg3, i64_w, i32_w]
      rfl
    refine pure_ (i := 3) (N := some 122) (v := ?_) (a' := ?_) (bAg 19 15) rfl rfl (any_of HT_.out (by kernel_rfl)) (fun _ _ _ h => h) (Or.inl ⟨by rfl, ?_⟩) ?_ ?_
    rotate_left
    · intro w'
      go_simp
      with_reducible rfl
    rotate_left
    · simp only [Act.put, sg1, sg2, sg3, i64_w, i32_w]
      rfl
    refine take_ (i := 4) (N := some 123) (v := ?_) (a' := ?_) (bAg 19 31) rfl rfl (take_ofW HT_.out HW_.out (by kernel_rfl)) (fun _ _ _ h => h) (Or.inl ⟨by rfl, ?_⟩) hHeld ?_ ?_
    rotate_left
    · rintro w' ⟨s0_, s1_, s2_, s3_, s4_, s5_, s6_, s7_, s8_, s9_, s10_, s11_, s12_⟩
      go_simp
      with_reducible rfl
    rotate_left
    · simp only [Act.put, sg1, sg2, sg3, i64_w, i32_w]
      rfl
    refine pure_ (i := 5) (N := some 124) (v := ?_) (a' := ?_) (bAg 19 63) rfl rfl (any_of HT_.out (by kernel_rfl)) (fun _ _ _ h => h) (Or.inl ⟨by rfl, ?_⟩) ?_ ?_
    rotate_left
    · intro w'
      go_simp
      with_reducible rfl
    rotate_left
    · simp only [Act.put, sg1, sg2, sg3, i64_w, i32_w]
      rfl
    refine take_ (i := 6) (N := some 125) (v := ?_) (a' := ?_) (bAg 19 127) rfl rfl (take_ofW HT_.out HW_.out (by kernel_rfl)) (fun _ _ _ h => h) (Or.inl ⟨by rfl, ?_⟩) hHeld ?_ ?_
    rotate_left
    · rintro w' ⟨s0_, s1_, s2_, s3_, s4_, s5_, s6_, s7_, s8_, s9_, s10_, s11_, s12_⟩
      go_simp
      with_reducible rfl
    rotate_left
    · simp only [Act.put, sg1, sg2, sg3, i64_w, i32_w]
      rfl
    refine pure_ (i := 7) (N := some 126) (v := ?_) (a' := ?_) (bAg 19 255) rfl rfl (any_of HT_.out (by kernel_rfl)) (fun _ _ _ h => h) (Or.inl ⟨by rfl, ?_⟩) ?_ ?_
    rotate_left
    · intro w'
      go_simp
      with_reducible rfl
    rotate_left
    · simp only [Act.put, sg1, sg2, sg3, i64_w, i32_w]
      rfl
    refine pure_ (i := 8) (N := some 127) (v := ?_) (a' := ?_) (bAg 19 511) rfl rfl (any_of HT_.out (by kernel_rfl)) (fun _ _ _ h => h) (Or.inl ⟨by rfl, ?_⟩) ?_ ?_
    rotate_left
    · intro w'
      go_simp
      with_reducible rfl
    rotate_left
    · simp only [Act.put, sg1, sg2, sg3, i64_w, i32_w]
      rfl
    refine pure_ (i := 9) (N := some 128) (v := ?_) (a' := ?_) (bAg 19 1023) rfl rfl (any_of HT_.out (by kernel_rfl)) (fun _ _ _ h => h) (Or.inl ⟨by rfl, ?_⟩) ?_ ?_
    rotate_left
    · intro w'
      go_simp
      with_reducible rfl
    rotate_left
    · simp only [Act.put, sg1, sg2, sg3, i64_w, i32_w]
      rfl
    refine pure_ (i := 10) (N := some 129) (v := ?_) (a' := ?_) (bAg 19 2047) rfl rfl (any_of HT_.out (by kernel_rfl)) (fun _ _ _ h => h) (Or.inl ⟨by rfl, ?_⟩) ?_ ?_
    rotate_left
    · intro w'
      go_simp
      with_reducible rfl
    rotate_left
    · simp only [Act.put, sg1, sg2, sg3, i64_w, i32_w]
      rfl
    refine pure_ (i := 11) (N := some 130) (v := ?_) (a' := ?_) (bAg 19 4095) rfl rfl (any_of HT_.out (by kernel_rfl)) (fun _ _ _ h => h) (Or.inl ⟨by rfl, ?_⟩) ?_ ?_
    rotate_left
    · intro w'
      go_simp
      with_reducible rfl
    rotate_left
    · simp only [Act.put, sg1, sg2, sg3, i64_w, i32_w]
      rfl
    refine take_ (i := 12) (N := some 131) (v := ?_) (a' := ?_) (bAg 19 8191) rfl rfl (take_ofW HT_.out HW_.out (by kernel_rfl)) (fun _ _ _ h => h) (Or.inl ⟨by rfl, ?_⟩) hHeld ?_ ?_
    rotate_left
    · rintro w' ⟨s0_, s1_, s2_, s3_, s4_, s5_, s6_, s7_, s8_, s9_, s10_, s11_, s12_⟩
      go_simp
      with_reducible rfl
    rotate_left
    · simp only [Act.put, sg1, sg2, sg3, i64_w, i32_w]
      rfl
    refine pure_ (i := 13) (N := some 132) (v := ?_) (a' := ?_) (bAg 19 16383) rfl rfl (any_of HT_.out (by kernel_rfl)) (fun _ _ _ h => h) (Or.inl ⟨by rfl, ?_⟩) ?_ ?_
    rotate_left
    · intro w'
      go_simp
      with_reducible rfl
    rotate_left
    · simp only [Act.put, sg1, sg2, sg3, i64_w, i32_w]
      rfl
    refine pure_ (i := 14) (N := some 133) (v := ?_) (a' := ?_) (bAg 19 32767) rfl rfl (any_of HT_.out (by kernel_rfl)) (fun _ _ _ h => h) (Or.inl ⟨by rfl, ?_⟩) ?_ ?_
    rotate_left
    · intro w'
      go_simp
      with_reducible rfl
    rotate_left
    · simp only [Act.put, sg1, sg2, sg3, i64_w, i32_w]
      rfl
    refine take_ (i := 15) (N := some 134) (v := ?_) (a' := ?_) (bAg 19 65535) rfl rfl (take_ofW HT_.out HW_.out (by kernel_rfl)) (fun _ _ _ h => h) (Or.inl ⟨by rfl, ?_⟩) hHeld ?_ ?_
    rotate_left
    · rintro w' ⟨s0_, s1_, s2_, s3_, s4_, s5_, s6_, s7_, s8_, s9_, s10_, s11_, s12_⟩
      go_simp
      with_reducible rfl
    rotate_left
    · simp only [Act.put, sg1, sg2, sg3, i64_w, i32_w]
      rfl
    refine pure_ (i := 16) (N := some 135) (v := ?_) (a' := ?_) (bAg 19 131071) rfl rfl (any_of HT_.out (by kernel_rfl)) (fun _ _ _ h => h) (Or.inl ⟨by rfl, ?_⟩) ?_ ?_
    rotate_left
    · intro w'
      go_simp
      with_reducible rfl
    rotate_left
    · simp only [Act.put, sg1, sg2, sg3, i64_w, i32_w]
      rfl
    refine last_ (i := 17) (N := some 136) (bAg 19 262143) rfl rfl (one_of HT_.out (by kernel_rfl)) (by decide) (fun K hK => ?_)
    refine value_ (w1 := ?_) (v := ?_) (by rfl) rfl ?_ ?_
    rotate_left 2
    · go_simp
      constructor
      · rfl
      rfl
    refine hK.out _ _ ?_
    clear hK K
    replace HB := Aside0.mk (HB.out.push #[.int .i64 a0_1, .int .i64 xl, .int .i64 yh, .int .i64 xn] 82)
    simp only [List.nil_append, List.cons_append] at HB
    generalize wd.alloc (.cells #[.int .i64 a0_1, .int .i64 xl, .int .i64 yh, .int .i64 xn] 82) = w9 at HB ⊢
    generalize wd.heap.size = g15 at HB ⊢
    refine norm_ (a' := ?_) ?_ ?_
    rotate_left
    · show Act.put _ (some 136) _ = _
      simp only [Act.put, sg1, sg2, sg3, i64_w, i32_w]
      rfl
    refine pure_ (i := 18) (N := some 12) (v := ?_) (a' := ?_) (bAg 19 524287) rfl rfl (any_of HT_.out (by kernel_rfl)) (fun _ _ _ h => h) (Or.inl ⟨by rfl, ?_⟩) ?_ ?_
    rotate_left
    · intro w'
      go_simp
      with_reducible rfl
    rotate_left
    · simp only [Act.put, sg1, sg2, sg3, i64_w, i32_w]
      rfl
    refine done_ (done_of HT_.out (by kernel_rfl)) ?_
    clear HT_ HW_
    try clear hHeld
    replace HB : Aside0 (Bx w w9 [(b4, #[.int .i64 a0_0, .int .i64 a0_1, .slice (some ad) l0_2.length c0_2], 30), (b8, #[.int .i64 0, .int .i64 0, .slice none 0 0, .slice none 0 0, .slice none 0 0, .int .i64 0], 43), (b10, #[.int .i64 xi, .int .i64 xl, .int .i64 xh, .int .i64 xn], 82), (g14, #[.int .i64 xi, .int .i64 xl, .int .i64 xh, .int .i64 xn, .int .i64 yi, .int .i64 yl, .int .i64 yh, .int .i64 yn], 82), (g15, #[.int .i64 a0_1, .int .i64 xl, .int .i64 yh, .int .i64 xn], 82)]) := ⟨HB.out.sub (.cons_cons _ (.cons_cons _ (.cons_cons _ (.cons _ (.cons _ (.cons_cons _ (.cons_cons _ .slnil)))))))⟩
    clear HY hwi1
    obtain ⟨old, hold⟩ : ∃ old : List S82, old = [⟨xi, ⟨xl, xh⟩, xn⟩, ⟨yi, ⟨yl, yh⟩, yn⟩] := ⟨_, rfl⟩
    obtain ⟨fresh, hfresh⟩ : ∃ fresh : List S82, fresh = [⟨a0_1, ⟨xl, yh⟩, xn⟩] := ⟨_, rfl⟩
    have hm := HM.out
    rw [← hold, ← hfresh] at hm
    clear HM
    unfold spliceref08_Apply.t at hm
    obtain ⟨tt, hC2, h5⟩ := Option.bind_eq_some_iff.1 hm
    have hon : old.length = 2 := by rw [hold]; rfl
    have hfn : fresh.length = 1 := by rw [hfresh]; rfl
    rw [hon, hfn] at hC2 h5
    generalize he2 : wrap64 (a0_0 + 1) = e2 at hC2 h5
    generalize hn2 : wrap64 (a0_1 + ((1 : Nat) : Int)) = n2 at hC2 h5
    have hew : IntKind.i64.wrap (a0_0 + 1) = e2 := (i64_w _).trans he2
    have hnw : IntKind.i64.wrap (a0_1 + 1) = n2 := (i64_w _).trans hn2
    have HC2 := Aside0.mk hC2
    have H5 := Aside0.mk h5
    have HOl := Aside0.mk hold
    have HFr := Aside0.mk (And.intro hfresh hfn)
    clear hm hC2 h5 he2 hn2 hold hfresh hon hfn
    have y0 : World.cell? w9 ⟨b4, 0, none⟩ = some (.int .i64 a0_0) := (blk_cell (HB.out.get 0 rfl) 0).trans rfl
    have y1 : World.cell? w9 ⟨b4, 1, none⟩ = some (.int .i64 a0_1) := (blk_cell (HB.out.get 0 rfl) 1).trans rfl
    have y2 : World.cell? w9 ⟨b4, 2, none⟩ = some (.slice (some ad) l0_2.length c0_2) := (blk_cell (HB.out.get 0 rfl) 2).trans rfl
    go_upto_region 17 with (fail)
    clear y0 y1 y2
    clear hew hnw
    replace HB := Aside0.mk (HB.out.push #[.int .i64 e2, .int .i64 n2, .slice none 0 0] 30)
    simp only [List.nil_append, List.cons_append] at HB
    generalize w9.alloc (.cells #[.int .i64 e2, .int .i64 n2, .slice none 0 0] 30) = w10 at HB ⊢
    generalize w9.heap.size = b13 at HB ⊢
    have HO : Aside0 (Kd.R k82 82 w10 w.heap.size (Off [b4, b8, b10, g14, g15, b13]) (.slice none 0 0) []) := ⟨Kd.R_nil _ _ _ _ _⟩
    obtain ⟨adf, hga⟩ : ∃ adf : Addr, adf = ⟨g15, 0, none⟩ := ⟨_, rfl⟩
    rw [← hga]
    have HGa := Aside0.mk hga
    clear hga
    go_wp2
    go_loopw [14] (fun v14 wr => ∃ (m : Nat) (vl : Value), m ≤ l0_2.length ∧ v14 = .int .i64 m ∧ Aside0 (Bx w wr [(b4, #[.int .i64 a0_0, .int .i64 a0_1, .slice (some ad) l0_2.length c0_2], 30), (b8, #[.int .i64 0, .int .i64 0, .slice none 0 0, .slice none 0 0, .slice none 0 0, .int .i64 0], 43), (b10, #[.int .i64 xi, .int .i64 xl, .int .i64 xh, .int .i64 xn], 82), (g14, #[.int .i64 xi, .int .i64 xl, .int .i64 xh, .int .i64 xn, .int .i64 yi, .int .i64 yl, .int .i64 yh, .int .i64 yn], 82), (g15, #[.int .i64 a0_1, .int .i64 xl, .int .i64 yh, .int .i64 xn], 82), (b13, #[.int .i64 e2, .int .i64 n2, vl], 30)]) ∧ Aside0 (Kd.R k82 82 wr w.heap.size (Off [b4, b8, b10, g14, g15, b13]) vl (outAt l0_2 fresh i 2 m))) (fun v14 _ => l0_2.length - (intOf v14).toNat)
    case atStart => exact ⟨0, _, by omega, rfl, HB, ⟨by rw [outAt_0]; exact HO.out⟩⟩
    case round =>
      clear HB HO
      obtain ⟨m, vl, hml, rfl, HB, HO⟩ := hrel
      generalize hl : outAt l0_2 fresh i 2 m = out at HO
      have HL := Aside0.mk hl
      have hll := Aside0.mk (show out.length + 1 ≤ 3000000 from by rw [← hl]; have := outAt_len l0_2 fresh i 2 m hml; have := HFr.out.2; omega)
      clear hl
      obtain ⟨A5, c5, rfl⟩ := Kd.R_slice HO.out
      have y0 : World.cell? wr ⟨b4, 0, none⟩ = some (.int .i64 a0_0) := (blk_cell (HB.out.get 0 rfl) 0).trans rfl
      have y1 : World.cell? wr ⟨b4, 1, none⟩ = some (.int .i64 a0_1) := (blk_cell (HB.out.get 0 rfl) 1).trans rfl
      have y2 : World.cell? wr ⟨b4, 2, none⟩ = some (.slice (some ad) l0_2.length c0_2) := (blk_cell (HB.out.get 0 rfl) 2).trans rfl
      by_cases hlt : m < l0_2.length
      · have q0 : decide ((m : Int) < (l0_2.length : Int)) = true := decide_eq_true (by omega)
        have p0 : (m : Int) < (l0_2.length : Int) := by omega
        have p00 : 0 ≤ (m : Int) := by omega
        have p01 : ¬ (m : Int) < 0 := by omega
        rcases Nat.lt_trichotomy m i with hmi | hmi | hmi
        · have q1 : ((m : Int) == (i : Int)) = false := beq_eq_false_iff_ne.mpr (by omega)
          have q2 : decide ((m : Int) < (i : Int)) = true := decide_eq_true (by omega)
          have q3 : (m : Int) < (i : Int) := by omega
          obtain ⟨ad_, e0, z0, z1, z2, z3⟩ := at_T82 HR0.out (m : Int) p00 p0
          injection e0 with e0
          subst e0
          generalize hz : rd_T82 l0_2 (m : Int) = z at z0 z1 z2 z3
          obtain ⟨zi, ⟨zl, zh⟩, zn⟩ := z
          rw [Int.toNat_natCast] at z0 z1 z2 z3
          dsimp only at z0 z1 z2 z3
          have HZ := Aside0.mk (And.intro z0 (And.intro z1 (And.intro z2 z3)))
          have HZe := Aside0.mk hz
          clear z0 z1 z2 z3 hz
          go_upto_region 26 with (fail)
          clear y0 y1 y2
          clear q0 q1 q2 q3
          replace HB := Aside0.mk (HB.out.below (below_drew (Below.refl _ _)))
          replace HO := Aside0.mk (Kd.R_below HO.out (below_drew (Below.refl _ _)))
          refine start_ (n := 11) (S := fun w' => w'.cell? ⟨b13, 2, none⟩ = some (.slice A5 out.length c5) ∧ w'.cell? ⟨b4, 2, none⟩ = some (.slice (some ad) l0_2.length c0_2) ∧ w'.cell? (ad.add (m * 4)) = some (.int .i64 zi) ∧ w'.cell? ⟨(ad.add (m * 4)).block, (ad.add (m * 4)).off + 1, none⟩ = some (.int .i64 zl) ∧ w'.cell? ⟨(ad.add (m * 4)).block, (ad.add (m * 4)).off + 2, none⟩ = some (.int .i64 zh) ∧ w'.cell? ⟨(ad.add (m * 4)).block, (ad.add (m * 4)).off + 3, none⟩ = some (.int .i64 zn)) (ds := [10]) (bAg 11 0) (by kernel_rfl) rfl rfl ⟨(blk_cell (HB.out.get 5 rfl) 2).trans rfl, (blk_cell (HB.out.get 0 rfl) 2).trans rfl, cellB HB.out.bel HZ.out.1, cellB HB.out.bel HZ.out.2.1, cellB HB.out.bel HZ.out.2.2.1, cellB HB.out.bel HZ.out.2.2.2⟩ (fun hHeld => ?_); refine with_tabW apply26.tab apply26.bits (fun HT_ HW_ => ?_)
          generalize wr.drew = wd at HB HO hHeld ⊢
          refine pure_ (i := 0) (N := some 182) (v := ?_) (a' := ?_) (bAg 11 1) rfl rfl (any_of HT_.out (by kernel_rfl)) (fun _ _ _ h => h) (Or.inl ⟨by rfl, ?_⟩) ?_ ?_
          rotate_left
          · intro w'
            go_simp
            with_reducible rfl
          rotate_left
          · simp only [Act.put, sg1, sg2, sg3, i64_w, i32_w]
            rfl
          refine take_ (i := 1) (N := some 183) (v := ?_) (a' := ?_) (bAg 11 3) rfl rfl (take_ofW HT_.out HW_.out (by kernel_rfl)) (fun _ _ _ h => h) (Or.inl ⟨by rfl, ?_⟩) hHeld ?_ ?_
          rotate_left
          · rintro w' ⟨s0_, s1_, s2_, s3_, s4_, s5_⟩
            go_simp
            with_reducible rfl
          rotate_left
          · simp only [Act.put, sg1, sg2, sg3, i64_w, i32_w]
            rfl
          refine pure_ (i := 2) (N := some 184) (v := ?_) (a' := ?_) (bAg 11 7) rfl rfl (any_of HT_.out (by kernel_rfl)) (fun _ _ _ h => h) (Or.inl ⟨by rfl, ?_⟩) ?_ ?_
          rotate_left
          · intro w'
            go_simp
            with_reducible rfl
          rotate_left
          · simp only [Act.put, sg1, sg2, sg3, i64_w, i32_w]
            rfl
          refine take_ (i := 3) (N := some 185) (v := ?_) (a' := ?_) (bAg 11 15) rfl rfl (take_ofW HT_.out HW_.out (by kernel_rfl)) (fun _ _ _ h => h) (Or.inl ⟨by rfl, ?_⟩) hHeld ?_ ?_
          rotate_left
          · rintro w' ⟨s0_, s1_, s2_, s3_, s4_, s5_⟩
            go_simp
            with_reducible rfl
          rotate_left
          · simp only [Act.put, sg1, sg2, sg3, i64_w, i32_w]
            rfl
          refine pure_ (i := 4) (N := some 186) (v := ?_) (a' := ?_) (bAg 11 31) rfl rfl (any_of HT_.out (by kernel_rfl)) (fun _ _ _ h => h) (Or.inl ⟨by rfl, ?_⟩) ?_ ?_
          rotate_left
          · intro w'
            go_simp
            with_reducible rfl
          rotate_left
          · simp only [Act.put, sg1, sg2, sg3, i64_w, i32_w]
            rfl
          refine pure_ (i := 5) (N := some 187) (v := ?_) (a' := ?_) (bAg 11 63) rfl rfl (any_of HT_.out (by kernel_rfl)) (fun _ _ _ h => h) (Or.inl ⟨by rfl, ?_⟩) ?_ ?_
          rotate_left
          · intro w'
            go_simp
            with_reducible rfl
          rotate_left
          · simp only [Act.put, sg1, sg2, sg3, i64_w, i32_w]
            rfl
          refine take_ (i := 6) (N := some 188) (v := ?_) (a' := ?_) (bAg 11 127) rfl rfl (take_ofW HT_.out HW_.out (by kernel_rfl)) (fun _ _ _ h => h) (Or.inl ⟨by rfl, ?_⟩) hHeld ?_ ?_
          rotate_left
          · rintro w' ⟨s0_, s1_, s2_, s3_, s4_, s5_⟩
            go_simp
            with_reducible rfl
          rotate_left
          · simp only [Act.put, sg1, sg2, sg3, i64_w, i32_w]
            rfl
          refine one_ (i := 7) (N := some 189) (bAg 11 255) rfl rfl (one_of HT_.out (by kernel_rfl)) (by decide) (fun K hK => ?_)
          refine value_ (w1 := ?_) (v := ?_) (by rfl) rfl ?_ ?_
          rotate_left 2
          · go_simp
            constructor
            · rfl
            rfl
          refine hK.out _ _ ⟨(blk_cell (blk_alloc (HB.out.get 5 rfl) _) 2).trans rfl, (blk_cell (blk_alloc (HB.out.get 0 rfl) _) 2).trans rfl, cellA (cellB HB.out.bel HZ.out.1), cellA (cellB HB.out.bel HZ.out.2.1), cellA (cellB HB.out.bel HZ.out.2.2.1), cellA (cellB HB.out.bel HZ.out.2.2.2)⟩ (fun hHeld => ?_)
          clear hK K
          refine norm_ (a' := ?_) ?_ ?_
          rotate_left
          · show Act.put _ (some 189) _ = _
            simp only [Act.put, sg1, sg2, sg3, i64_w, i32_w]
            rfl
          refine one_ (i := 8) (N := some 190) (bAg 11 511) rfl rfl (one_of HT_.out (by kernel_rfl)) (by decide) (fun K hK => ?_)
          refine Kd.R_append_step k82 (w0 := w) w.heap.size (by rfl) (.tmp 183) (.tmp 189) 28 82 (.agg #[(.int .i64 0), (.int .i64 0), (.int .i64 0), (.int .i64 0)]) 32 rfl Try.underlying28 info82_ rfl (by decide) (by omega) (.slice A5 _ c5) out (⟨zi, ⟨zl, zh⟩, zn⟩ : S82) [.int .i64 zi, .int .i64 zl, .int .i64 zh, .int .i64 zn] (Off [b4, b8, b10, g14, g15, b13]) (fun _ => False) rfl rfl (k82_mkM _ _ _ _) (fun _ hk => hk.elim) (HB.out.fresh rfl) HO.out HB.out.bel HB.out.bel.size (by have := hll.out; omega) ?_
          intro v1 w9 ho hb hg hat
          replace HB := Aside0.mk (HB.out.grown rfl HO.out.1 hg hb)
          obtain ⟨out2, ho2⟩ : ∃ out2 : List S82, out2 = out ++ [⟨zi, ⟨zl, zh⟩, zn⟩] := ⟨_, rfl⟩
          rw [← ho2] at ho
          obtain ⟨A6, c6, rfl⟩ := Kd.R_slice ho
          replace HO := Aside0.mk ho
          have HO2 := Aside0.mk ho2
          clear ho ho2 hb hg hat
          refine hK.out _ _ ⟨(blk_cell (HB.out.get 5 rfl) 2).trans rfl, (blk_cell (HB.out.get 0 rfl) 2).trans rfl, cellB HB.out.bel HZ.out.1, cellB HB.out.bel HZ.out.2.1, cellB HB.out.bel HZ.out.2.2.1, cellB HB.out.bel HZ.out.2.2.2⟩ (fun hHeld => ?_)
          clear hK K
          refine norm_ (a' := ?_) ?_ ?_
          rotate_left
          · show Act.put _ (some 190) _ = _
            simp only [Act.put, sg1, sg2, sg3, i64_w, i32_w]
            rfl
          refine pure_ (i := 9) (N := some 191) (v := ?_) (a' := ?_) (bAg 11 1023) rfl rfl (any_of HT_.out (by kernel_rfl)) (fun _ _ _ h => h) (Or.inl ⟨by rfl, ?_⟩) ?_ ?_
          rotate_left
          · intro w'
            go_simp
            with_reducible rfl
          rotate_left
          · simp only [Act.put, sg1, sg2, sg3, i64_w, i32_w]
            rfl
          refine last_ (i := 10) (N := none) (bAg 11 2047) rfl rfl (one_of HT_.out (by kernel_rfl)) (by decide) (fun K hK => ?_)
          have t2 : World.cell? _ ⟨b13, 2, none⟩ = some (.slice A5 out.length c5) := (blk_cell (HB.out.get 5 rfl) 2).trans rfl
          have tz2 : World.frozen? _ ⟨b13, 2, none⟩ = false := blk_frozen (HB.out.get 5 rfl) 2
          refine skip_ (w1 := ?_) (by rfl) rfl ?_ ?_
          rotate_left
          · go_simp
            rfl
          refine hK.out _ _ ?_
          clear hK K t2 tz2
          replace HB : Aside0 (Bx w (w9.setCell ⟨b13, 2, none⟩ (.slice A6 out2.length c6)) [(b4, #[.int .i64 a0_0, .int .i64 a0_1, .slice (some ad) l0_2.length c0_2], 30), (b8, #[.int .i64 0, .int .i64 0, .slice none 0 0, .slice none 0 0, .slice none 0 0, .int .i64 0], 43), (b10, #[.int .i64 xi, .int .i64 xl, .int .i64 xh, .int .i64 xn], 82), (g14, #[.int .i64 xi, .int .i64 xl, .int .i64 xh, .int .i64 xn, .int .i64 yi, .int .i64 yl, .int .i64 yh, .int .i64 yn], 82), (g15, #[.int .i64 a0_1, .int .i64 xl, .int .i64 yh, .int .i64 xn], 82), (b13, #[.int .i64 e2, .int .i64 n2, .slice A6 out2.length c6], 30)]) := ⟨HB.out.set 5 2 (.slice A6 out2.length c6) rfl⟩
          replace HO := Aside0.mk (R_setB HO.out (g := b13) (by simp) 2 (.slice A6 out2.length c6))
          generalize w9.setCell ⟨b13, 2, none⟩ (.slice A6 out2.length c6) = w11 at HB HO ⊢
          refine done_ (done_of HT_.out (by kernel_rfl)) ?_
          clear HT_ HW_
          try clear hHeld
          go_wp2
          have hs := outAt_lt l0_2 fresh i 2 m hmi hlt
          exact ⟨⟨m + 1, _, by omega, by first | rfl | go_num, HB, ⟨by rw [hs, HL.out, HZe.out, ← HO2.out]; exact HO.out⟩⟩, by simp [intOf]; omega⟩
        · subst hmi
          have q1 : ((m : Int) == (m : Int)) = true := by simp
          have HLt := Aside0.mk hlt
          go_wp2
          go_loopw [15] (fun v15 wr => ∃ (j : Nat) (vl : Value), j ≤ 1 ∧ v15 = .int .i64 j ∧ Aside0 (Bx w wr [(b4, #[.int .i64 a0_0, .int .i64 a0_1, .slice (some ad) l0_2.length c0_2], 30), (b8, #[.int .i64 0, .int .i64 0, .slice none 0 0, .slice none 0 0, .slice none 0 0, .int .i64 0], 43), (b10, #[.int .i64 xi, .int .i64 xl, .int .i64 xh, .int .i64 xn], 82), (g14, #[.int .i64 xi, .int .i64 xl, .int .i64 xh, .int .i64 xn, .int .i64 yi, .int .i64 yl, .int .i64 yh, .int .i64 yn], 82), (g15, #[.int .i64 a0_1, .int .i64 xl, .int .i64 yh, .int .i64 xn], 82), (b13, #[.int .i64 e2, .int .i64 n2, vl], 30)]) ∧ Aside0 (Kd.R k82 82 wr w.heap.size (Off [b4, b8, b10, g14, g15, b13]) vl (l0_2.take m ++ fresh.take j))) (fun v15 _ => 1 - (intOf v15).toNat)
          case atStart => exact ⟨0, _, by omega, rfl, HB, ⟨by rw [List.take_zero, List.append_nil, ← outAt_i l0_2 fresh m 2, HL.out]; exact HO.out⟩⟩
          case round =>
            clear HB HO HL hll q0 y0 y1 y2
            obtain ⟨j, vl, hj, rfl, HB, HO⟩ := hrel
            generalize hl : l0_2.take m ++ fresh.take j = out at HO
            have HL := Aside0.mk hl
            have hll := Aside0.mk (show out.length + 1 ≤ 3000000 from by rw [← hl, List.length_append, List.length_take, List.length_take]; omega)
            clear hl
            obtain ⟨A5, c5, rfl⟩ := Kd.R_slice HO.out
            by_cases hjl : j < 1
            · have q0 : decide ((j : Int) < 1) = true := decide_eq_true (by omega)
              have p1 : (j : Int) < 1 := by omega
              have p2 : 0 ≤ (j : Int) := by omega
              have p3 : ¬ (j : Int) < 0 := by omega
              have hE : ∀ W' : World, W'.heap[g15]? = some (.cells #[.int .i64 a0_1, .int .i64 xl, .int .i64 yh, .int .i64 xn] 82 (0, 0)) → W'.cell? (adf.add (j * 4)) = some (.int .i64 (rd_T82 fresh (j : Int)).f0) ∧ W'.cell? ⟨(adf.add (j * 4)).block, (adf.add (j * 4)).off + 1, none⟩ = some (.int .i64 (rd_T82 fresh (j : Int)).f1.f0) ∧ W'.cell? ⟨(adf.add (j * 4)).block, (adf.add (j * 4)).off + 2, none⟩ = some (.int .i64 (rd_T82 fresh (j : Int)).f1.f1) ∧ W'.cell? ⟨(adf.add (j * 4)).block, (adf.add (j * 4)).off + 3, none⟩ = some (.int .i64 (rd_T82 fresh (j : Int)).f2) := by
                intro W' hW
                have hr := R_ofB (base := 0) (n := 1) (xs := fresh) (ok := fun _ => True) hW (Nat.zero_le _) trivial HFr.out.2.symm (by rw [HFr.out.2]; decide) (by rw [HFr.out.1]; exact reps1 _)
                rw [← HGa.out] at hr
                obtain ⟨ad_, e0, z0, z1, z2, z3⟩ := at_T82 (Kd.R_reads' hr).2.2 (j : Int) p2 (by rw [HFr.out.2]; exact_mod_cast p1)
                injection e0 with e0
                subst e0
                rw [Int.toNat_natCast] at z0 z1 z2 z3
                exact ⟨z0, z1, z2, z3⟩
              generalize hz : rd_T82 fresh (j : Int) = z at hE
              obtain ⟨zi, ⟨zl, zh⟩, zn⟩ := z
              dsimp only at hE
              have HE := Aside0.mk hE
              have HZe := Aside0.mk hz
              clear hE hz
              go_upto_region 24 with (fail)
              clear q0 q1
              replace HB := Aside0.mk (HB.out.below (below_drew (Below.refl _ _)))
              replace HO := Aside0.mk (Kd.R_below HO.out (below_drew (Below.refl _ _)))
              refine start_ (n := 10) (S := fun w' => w'.cell? ⟨b13, 2, none⟩ = some (.slice A5 out.length c5) ∧ w'.cell? (adf.add (j * 4)) = some (.int .i64 zi) ∧ w'.cell? ⟨(adf.add (j * 4)).block, (adf.add (j * 4)).off + 1, none⟩ = some (.int .i64 zl) ∧ w'.cell? ⟨(adf.add (j * 4)).block, (adf.add (j * 4)).off + 2, none⟩ = some (.int .i64 zh) ∧ w'.cell? ⟨(adf.add (j * 4)).block, (adf.add (j * 4)).off + 3, none⟩ = some (.int .i64 zn)) (ds := [9]) (bAg 10 0) (by kernel_rfl) rfl rfl ⟨(blk_cell (HB.out.get 5 rfl) 2).trans rfl, (HE.out _ (HB.out.get 4 rfl)).1, (HE.out _ (HB.out.get 4 rfl)).2.1, (HE.out _ (HB.out.get 4 rfl)).2.2.1, (HE.out _ (HB.out.get 4 rfl)).2.2.2⟩ (fun hHeld => ?_); refine with_tabW apply24.tab apply24.bits (fun HT_ HW_ => ?_)
              generalize wr.drew = wd at HB HO hHeld ⊢
              refine pure_ (i := 0) (N := some 162) (v := ?_) (a' := ?_) (bAg 10 1) rfl rfl (any_of HT_.out (by kernel_rfl)) (fun _ _ _ h => h) (Or.inl ⟨by rfl, ?_⟩) ?_ ?_
              rotate_left
              · intro w'
                go_simp
                with_reducible rfl
              rotate_left
              · simp only [Act.put, sg1, sg2, sg3, i64_w, i32_w]
                rfl
              refine take_ (i := 1) (N := some 163) (v := ?_) (a' := ?_) (bAg 10 3) rfl rfl (take_ofW HT_.out HW_.out (by kernel_rfl)) (fun _ _ _ h => h) (Or.inl ⟨by rfl, ?_⟩) hHeld ?_ ?_
              rotate_left
              · rintro w' ⟨s0_, s1_, s2_, s3_, s4_⟩
                go_simp
                with_reducible rfl
              rotate_left
              · simp only [Act.put, sg1, sg2, sg3, i64_w, i32_w]
                rfl
              refine pure_ (i := 2) (N := some 164) (v := ?_) (a' := ?_) (bAg 10 7) rfl rfl (any_of HT_.out (by kernel_rfl)) (fun _ _ _ h => h) (Or.inl ⟨by rfl, ?_⟩) ?_ ?_
              rotate_left
              · intro w'
                go_simp
                with_reducible rfl
              rotate_left
              · simp only [Act.put, sg1, sg2, sg3, i64_w, i32_w]
                rfl
              refine pure_ (i := 3) (N := some 165) (v := ?_) (a' := ?_) (bAg 10 15) rfl rfl (any_of HT_.out (by kernel_rfl)) (fun _ _ _ h => h) (Or.inl ⟨by rfl, ?_⟩) ?_ ?_
              rotate_left
              · intro w'
                go_simp
                with_reducible rfl
              rotate_left
              · simp only [Act.put, sg1, sg2, sg3, i64_w, i32_w]
                rfl
              refine pure_ (i := 4) (N := some 166) (v := ?_) (a' := ?_) (bAg 10 31) rfl rfl (any_of HT_.out (by kernel_rfl)) (fun _ _ _ h => h) (Or.inl ⟨by rfl, ?_⟩) ?_ ?_
              rotate_left
              · intro w'
                go_simp
                with_reducible rfl
              rotate_left
              · simp only [Act.put, sg1, sg2, sg3, i64_w, i32_w]
                rfl
              refine take_ (i := 5) (N := some 167) (v := ?_) (a' := ?_) (bAg 10 63) rfl rfl (take_ofW HT_.out HW_.out (by kernel_rfl)) (fun _ _ _ h => h) (Or.inl ⟨by rfl, ?_⟩) hHeld ?_ ?_
              rotate_left
              · rintro w' ⟨s0_, s1_, s2_, s3_, s4_⟩
                go_simp
                with_reducible rfl
              rotate_left
              · simp only [Act.put, sg1, sg2, sg3, i64_w, i32_w]
                rfl
              refine one_ (i := 6) (N := some 168) (bAg 10 127) rfl rfl (one_of HT_.out (by kernel_rfl)) (by decide) (fun K hK => ?_)
              refine value_ (w1 := ?_) (v := ?_) (by rfl) rfl ?_ ?_
              rotate_left 2
              · go_simp
                constructor
                · rfl
                rfl
              refine hK.out _ _ ⟨(blk_cell (blk_alloc (HB.out.get 5 rfl) _) 2).trans rfl, (HE.out _ (blk_alloc (HB.out.get 4 rfl) _)).1, (HE.out _ (blk_alloc (HB.out.get 4 rfl) _)).2.1, (HE.out _ (blk_alloc (HB.out.get 4 rfl) _)).2.2.1, (HE.out _ (blk_alloc (HB.out.get 4 rfl) _)).2.2.2⟩ (fun hHeld => ?_)
              clear hK K
              refine norm_ (a' := ?_) ?_ ?_
              rotate_left
              · show Act.put _ (some 168) _ = _
                simp only [Act.put, sg1, sg2, sg3, i64_w, i32_w]
                rfl
              refine one_ (i := 7) (N := some 169) (bAg 10 255) rfl rfl (one_of HT_.out (by kernel_rfl)) (by decide) (fun K hK => ?_)
              refine Kd.R_append_step k82 (w0 := w) w.heap.size (by rfl) (.tmp 163) (.tmp 168) 28 82 (.agg #[(.int .i64 0), (.int .i64 0), (.int .i64 0), (.int .i64 0)]) 32 rfl Try.underlying28 info82_ rfl (by decide) (by omega) (.slice A5 _ c5) out (⟨zi, ⟨zl, zh⟩, zn⟩ : S82) [.int .i64 zi, .int .i64 zl, .int .i64 zh, .int .i64 zn] (Off [b4, b8, b10, g14, g15, b13]) (fun _ => False) rfl rfl (k82_mkM _ _ _ _) (fun _ hk => hk.elim) (HB.out.fresh rfl) HO.out HB.out.bel HB.out.bel.size (by have := hll.out; omega) ?_
              intro v1 w9 ho hb hg hat
              replace HB := Aside0.mk (HB.out.grown rfl HO.out.1 hg hb)
              obtain ⟨out2, ho2⟩ : ∃ out2 : List S82, out2 = out ++ [⟨zi, ⟨zl, zh⟩, zn⟩] := ⟨_, rfl⟩
              rw [← ho2] at ho
              obtain ⟨A6, c6, rfl⟩ := Kd.R_slice ho
              replace HO := Aside0.mk ho
              have HO2 := Aside0.mk ho2
              clear ho ho2 hb hg hat
              refine hK.out _ _ ⟨(blk_cell (HB.out.get 5 rfl) 2).trans rfl, (HE.out _ (HB.out.get 4 rfl)).1, (HE.out _ (HB.out.get 4 rfl)).2.1, (HE.out _ (HB.out.get 4 rfl)).2.2.1, (HE.out _ (HB.out.get 4 rfl)).2.2.2⟩ (fun hHeld => ?_)
              clear hK K
              refine norm_ (a' := ?_) ?_ ?_
              rotate_left
              · show Act.put _ (some 169) _ = _
                simp only [Act.put, sg1, sg2, sg3, i64_w, i32_w]
                rfl
              refine pure_ (i := 8) (N := some 170) (v := ?_) (a' := ?_) (bAg 10 511) rfl rfl (any_of HT_.out (by kernel_rfl)) (fun _ _ _ h => h) (Or.inl ⟨by rfl, ?_⟩) ?_ ?_
              rotate_left
              · intro w'
                go_simp
                with_reducible rfl
              rotate_left
              · simp only [Act.put, sg1, sg2, sg3, i64_w, i32_w]
                rfl
              refine last_ (i := 9) (N := none) (bAg 10 1023) rfl rfl (one_of HT_.out (by kernel_rfl)) (by decide) (fun K hK => ?_)
              have t2 : World.cell? _ ⟨b13, 2, none⟩ = some (.slice A5 out.length c5) := (blk_cell (HB.out.get 5 rfl) 2).trans rfl
              have tz2 : World.frozen? _ ⟨b13, 2, none⟩ = false := blk_frozen (HB.out.get 5 rfl) 2
              refine skip_ (w1 := ?_) (by rfl) rfl ?_ ?_
              rotate_left
              · go_simp
                rfl
              refine hK.out _ _ ?_
              clear hK K t2 tz2
              replace HB : Aside0 (Bx w (w9.setCell ⟨b13, 2, none⟩ (.slice A6 out2.length c6)) [(b4, #[.int .i64 a0_0, .int .i64 a0_1, .slice (some ad) l0_2.length c0_2], 30), (b8, #[.int .i64 0, .int .i64 0, .slice none 0 0, .slice none 0 0, .slice none 0 0, .int .i64 0], 43), (b10, #[.int .i64 xi, .int .i64 xl, .int .i64 xh, .int .i64 xn], 82), (g14, #[.int .i64 xi, .int .i64 xl, .int .i64 xh, .int .i64 xn, .int .i64 yi, .int .i64 yl, .int .i64 yh, .int .i64 yn], 82), (g15, #[.int .i64 a0_1, .int .i64 xl, .int .i64 yh, .int .i64 xn], 82), (b13, #[.int .i64 e2, .int .i64 n2, .slice A6 out2.length c6], 30)]) := ⟨HB.out.set 5 2 (.slice A6 out2.length c6) rfl⟩
              replace HO := Aside0.mk (R_setB HO.out (g := b13) (by simp) 2 (.slice A6 out2.length c6))
              generalize w9.setCell ⟨b13, 2, none⟩ (.slice A6 out2.length c6) = w11 at HB HO ⊢
              refine done_ (done_of HT_.out (by kernel_rfl)) ?_
              clear HT_ HW_
              try clear hHeld
              go_wp2
              exact ⟨⟨j + 1, _, by omega, by first | rfl | go_num, HB, ⟨by rw [take_rd fresh j (by have := HFr.out.2; omega), HZe.out, ← List.append_assoc, HL.out, ← HO2.out]; exact HO.out⟩⟩, by simp [intOf]; omega⟩
            · obtain rfl : j = 1 := by omega
              have q0 : decide (((1 : Nat) : Int) < 1) = false := by decide
              have q2 : decide ((m : Int) < (m : Int)) = false := decide_eq_false (by omega)
              have hwo : IntKind.i64.wrap ((m : Int) + 2) = (m : Int) + 2 := IntWalk.i64_in _ (by omega)
              have q3 : decide ((m : Int) ≥ (m : Int) + 2) = false := decide_eq_false (by omega)
              have q4 : decide ((m : Int) + 2 ≤ (m : Int)) = false := decide_eq_false (by omega)
              have q5 : ¬ ((m : Int) + 2 ≤ (m : Int)) := by omega
              go_wp2
              have hs := outAt_at l0_2 fresh m 2 (by omega) (by have := HLt.out; omega)
              have hf := HL.out
              rw [show fresh.take 1 = fresh from List.take_of_length_le (by have := HFr.out.2; omega), ← hs] at hf
              have hm9 := HLt.out
              exact ⟨⟨m + 1, _, by omega, by first | rfl | go_num, HB, ⟨by rw [hf]; exact HO.out⟩⟩, by simp [intOf]; omega⟩
        · have q1 : ((m : Int) == (i : Int)) = false := beq_eq_false_iff_ne.mpr (by omega)
          have q2 : decide ((m : Int) < (i : Int)) = false := decide_eq_false (by omega)
          have q3 : ¬ (m : Int) < (i : Int) := by omega
          have hwo : IntKind.i64.wrap ((i : Int) + 2) = (i : Int) + 2 := IntWalk.i64_in _ (by omega)
          by_cases hmo : i + 2 ≤ m
          · have q4 : decide ((m : Int) ≥ (i : Int) + 2) = true := decide_eq_true (by omega)
            have q5 : decide ((i : Int) + 2 ≤ (m : Int)) = true := decide_eq_true (by omega)
            obtain ⟨ad_, e0, z0, z1, z2, z3⟩ := at_T82 HR0.out (m : Int) p00 p0
            injection e0 with e0
            subst e0
            generalize hz : rd_T82 l0_2 (m : Int) = z at z0 z1 z2 z3
            obtain ⟨zi, ⟨zl, zh⟩, zn⟩ := z
            rw [Int.toNat_natCast] at z0 z1 z2 z3
            dsimp only at z0 z1 z2 z3
            have HZ := Aside0.mk (And.intro z0 (And.intro z1 (And.intro z2 z3)))
            have HZe := Aside0.mk hz
            clear z0 z1 z2 z3 hz
            go_upto_region 26 with (fail)
            clear y0 y1 y2
            clear q0 q1 q2 q3 q4 q5 hwo
            replace HB := Aside0.mk (HB.out.below (below_drew (Below.refl _ _)))
            replace HO := Aside0.mk (Kd.R_below HO.out (below_drew (Below.refl _ _)))
            refine start_ (n := 11) (S := fun w' => w'.cell? ⟨b13, 2, none⟩ = some (.slice A5 out.length c5) ∧ w'.cell? ⟨b4, 2, none⟩ = some (.slice (some ad) l0_2.length c0_2) ∧ w'.cell? (ad.add (m * 4)) = some (.int .i64 zi) ∧ w'.cell? ⟨(ad.add (m * 4)).block, (ad.add (m * 4)).off + 1, none⟩ = some (.int .i64 zl) ∧ w'.cell? ⟨(ad.add (m * 4)).block, (ad.add (m * 4)).off + 2, none⟩ = some (.int .i64 zh) ∧ w'.cell? ⟨(ad.add (m * 4)).block, (ad.add (m * 4)).off + 3, none⟩ = some (.int .i64 zn)) (ds := [10]) (bAg 11 0) (by kernel_rfl) rfl rfl ⟨(blk_cell (HB.out.get 5 rfl) 2).trans rfl, (blk_cell (HB.out.get 0 rfl) 2).trans rfl, cellB HB.out.bel HZ.out.1, cellB HB.out.bel HZ.out.2.1, cellB HB.out.bel HZ.out.2.2.1, cellB HB.out.bel HZ.out.2.2.2⟩ (fun hHeld => ?_); refine with_tabW apply26.tab apply26.bits (fun HT_ HW_ => ?_)
            generalize wr.drew = wd at HB HO hHeld ⊢
            refine pure_ (i := 0) (N := some 182) (v := ?_) (a' := ?_) (bAg 11 1) rfl rfl (any_of HT_.out (by kernel_rfl)) (fun _ _ _ h => h) (Or.inl ⟨by rfl, ?_⟩) ?_ ?_
            rotate_left
            · intro w'
              go_simp
              with_reducible rfl
            rotate_left
            · simp only [Act.put, sg1, sg2, sg3, i64_w, i32_w]
              rfl
            refine take_ (i := 1) (N := some 183) (v := ?_) (a' := ?_) (bAg 11 3) rfl rfl (take_ofW HT_.out HW_.out (by kernel_rfl)) (fun _ _ _ h => h) (Or.inl ⟨by rfl, ?_⟩) hHeld ?_ ?_
            rotate_left
            · rintro w' ⟨s0_, s1_, s2_, s3_, s4_, s5_⟩
              go_simp
              with_reducible rfl
            rotate_left
            · simp only [Act.put, sg1, sg2, sg3, i64_w, i32_w]
              rfl
            refine pure_ (i := 2) (N := some 184) (v := ?_) (a' := ?_) (bAg 11 7) rfl rfl (any_of HT_.out (by kernel_rfl)) (fun _ _ _ h => h) (Or.inl ⟨by rfl, ?_⟩) ?_ ?_
            rotate_left
            · intro w'
              go_simp
              with_reducible rfl
            rotate_left
            · simp only [Act.put, sg1, sg2, sg3, i64_w, i32_w]
              rfl
            refine take_ (i := 3) (N := some 185) (v := ?_) (a' := ?_) (bAg 11 15) rfl rfl (take_ofW HT_.out HW_.out (by kernel_rfl)) (fun _ _ _ h => h) (Or.inl ⟨by rfl, ?_⟩) hHeld ?_ ?_
            rotate_left
            · rintro w' ⟨s0_, s1_, s2_, s3_, s4_, s5_⟩
              go_simp
              with_reducible rfl
            rotate_left
            · simp only [Act.put, sg1, sg2, sg3, i64_w, i32_w]
              rfl
            refine pure_ (i := 4) (N := some 186) (v := ?_) (a' := ?_) (bAg 11 31) rfl rfl (any_of HT_.out (by kernel_rfl)) (fun _ _ _ h => h) (Or.inl ⟨by rfl, ?_⟩) ?_ ?_
            rotate_left
            · intro w'
              go_simp
              with_reducible rfl
            rotate_left
            · simp only [Act.put, sg1, sg2, sg3, i64_w, i32_w]
              rfl
            refine pure_ (i := 5) (N := some 187) (v := ?_) (a' := ?_) (bAg 11 63) rfl rfl (any_of HT_.out (by kernel_rfl)) (fun _ _ _ h => h) (Or.inl ⟨by rfl, ?_⟩) ?_ ?_
            rotate_left
            · intro w'
              go_simp
              with_reducible rfl
            rotate_left
            · simp only [Act.put, sg1, sg2, sg3, i64_w, i32_w]
              rfl
            refine take_ (i := 6) (N := some 188) (v := ?_) (a' := ?_) (bAg 11 127) rfl rfl (take_ofW HT_.out HW_.out (by kernel_rfl)) (fun _ _ _ h => h) (Or.inl ⟨by rfl, ?_⟩) hHeld ?_ ?_
            rotate_left
            · rintro w' ⟨s0_, s1_, s2_, s3_, s4_, s5_⟩
              go_simp
              with_reducible rfl
            rotate_left
            · simp only [Act.put, sg1, sg2, sg3, i64_w, i32_w]
              rfl
            refine one_ (i := 7) (N := some 189) (bAg 11 255) rfl rfl (one_of HT_.out (by kernel_rfl)) (by decide) (fun K hK => ?_)
            refine value_ (w1 := ?_) (v := ?_) (by rfl) rfl ?_ ?_
            rotate_left 2
            · go_simp
              constructor
              · rfl
              rfl
            refine hK.out _ _ ⟨(blk_cell (blk_alloc (HB.out.get 5 rfl) _) 2).trans rfl, (blk_cell (blk_alloc (HB.out.get 0 rfl) _) 2).trans rfl, cellA (cellB HB.out.bel HZ.out.1), cellA (cellB HB.out.bel HZ.out.2.1), cellA (cellB HB.out.bel HZ.out.2.2.1), cellA (cellB HB.out.bel HZ.out.2.2.2)⟩ (fun hHeld => ?_)
            clear hK K
            refine norm_ (a' := ?_) ?_ ?_
            rotate_left
            · show Act.put _ (some 189) _ = _
              simp only [Act.put, sg1, sg2, sg3, i64_w, i32_w]
              rfl
            refine one_ (i := 8) (N := some 190) (bAg 11 511) rfl rfl (one_of HT_.out (by kernel_rfl)) (by decide) (fun K hK => ?_)
            refine Kd.R_append_step k82 (w0 := w) w.heap.size (by rfl) (.tmp 183) (.tmp 189) 28 82 (.agg #[(.int .i64 0), (.int .i64 0), (.int .i64 0), (.int .i64 0)]) 32 rfl Try.underlying28 info82_ rfl (by decide) (by omega) (.slice A5 _ c5) out (⟨zi, ⟨zl, zh⟩, zn⟩ : S82) [.int .i64 zi, .int .i64 zl, .int .i64 zh, .int .i64 zn] (Off [b4, b8, b10, g14, g15, b13]) (fun _ => False) rfl rfl (k82_mkM _ _ _ _) (fun _ hk => hk.elim) (HB.out.fresh rfl) HO.out HB.out.bel HB.out.bel.size (by have := hll.out; omega) ?_
            intro v1 w9 ho hb hg hat
            replace HB := Aside0.mk (HB.out.grown rfl HO.out.1 hg hb)
            obtain ⟨out2, ho2⟩ : ∃ out2 : List S82, out2 = out ++ [⟨zi, ⟨zl, zh⟩, zn⟩] := ⟨_, rfl⟩
            rw [← ho2] at ho
            obtain ⟨A6, c6, rfl⟩ := Kd.R_slice ho
            replace HO := Aside0.mk ho
            have HO2 := Aside0.mk ho2
            clear ho ho2 hb hg hat
            refine hK.out _ _ ⟨(blk_cell (HB.out.get 5 rfl) 2).trans rfl, (blk_cell (HB.out.get 0 rfl) 2).trans rfl, cellB HB.out.bel HZ.out.1, cellB HB.out.bel HZ.out.2.1, cellB HB.out.bel HZ.out.2.2.1, cellB HB.out.bel HZ.out.2.2.2⟩ (fun hHeld => ?_)
            clear hK K
            refine norm_ (a' := ?_) ?_ ?_
            rotate_left
            · show Act.put _ (some 190) _ = _
              simp only [Act.put, sg1, sg2, sg3, i64_w, i32_w]
              rfl
            refine pure_ (i := 9) (N := some 191) (v := ?_) (a' := ?_) (bAg 11 1023) rfl rfl (any_of HT_.out (by kernel_rfl)) (fun _ _ _ h => h) (Or.inl ⟨by rfl, ?_⟩) ?_ ?_
            rotate_left
            · intro w'
              go_simp
              with_reducible rfl
            rotate_left
            · simp only [Act.put, sg1, sg2, sg3, i64_w, i32_w]
              rfl
            refine last_ (i := 10) (N := none) (bAg 11 2047) rfl rfl (one_of HT_.out (by kernel_rfl)) (by decide) (fun K hK => ?_)
            have t2 : World.cell? _ ⟨b13, 2, none⟩ = some (.slice A5 out.length c5) := (blk_cell (HB.out.get 5 rfl) 2).trans rfl
            have tz2 : World.frozen? _ ⟨b13, 2, none⟩ = false := blk_frozen (HB.out.get 5 rfl) 2
            refine skip_ (w1 := ?_) (by rfl) rfl ?_ ?_
            rotate_left
            · go_simp
              rfl
            refine hK.out _ _ ?_
            clear hK K t2 tz2
            replace HB : Aside0 (Bx w (w9.setCell ⟨b13, 2, none⟩ (.slice A6 out2.length c6)) [(b4, #[.int .i64 a0_0, .int .i64 a0_1, .slice (some ad) l0_2.length c0_2], 30), (b8, #[.int .i64 0, .int .i64 0, .slice none 0 0, .slice none 0 0, .slice none 0 0, .int .i64 0], 43), (b10, #[.int .i64 xi, .int .i64 xl, .int .i64 xh, .int .i64 xn], 82), (g14, #[.int .i64 xi, .int .i64 xl, .int .i64 xh, .int .i64 xn, .int .i64 yi, .int .i64 yl, .int .i64 yh, .int .i64 yn], 82), (g15, #[.int .i64 a0_1, .int .i64 xl, .int .i64 yh, .int .i64 xn], 82), (b13, #[.int .i64 e2, .int .i64 n2, .slice A6 out2.length c6], 30)]) := ⟨HB.out.set 5 2 (.slice A6 out2.length c6) rfl⟩
            replace HO := Aside0.mk (R_setB HO.out (g := b13) (by simp) 2 (.slice A6 out2.length c6))
            generalize w9.setCell ⟨b13, 2, none⟩ (.slice A6 out2.length c6) = w11 at HB HO ⊢
            refine done_ (done_of HT_.out (by kernel_rfl)) ?_
            clear HT_ HW_
            try clear hHeld
            go_wp2
            have hs := outAt_gt l0_2 fresh i 2 m hmi hmo hlt
            exact ⟨⟨m + 1, _, by omega, by first | rfl | go_num, HB, ⟨by rw [hs, HL.out, HZe.out, ← HO2.out]; exact HO.out⟩⟩, by simp [intOf]; omega⟩
          · have q4 : decide ((m : Int) ≥ (i : Int) + 2) = false := decide_eq_false (by omega)
            have q5 : decide ((i : Int) + 2 ≤ (m : Int)) = false := decide_eq_false (by omega)
            go_wp2
            have hs := outAt_mid l0_2 fresh i 2 m hmi (by omega)
            exact ⟨⟨m + 1, _, by omega, by first | rfl | go_num, HB, ⟨by rw [hs, HL.out]; exact HO.out⟩⟩, by simp [intOf]; omega⟩
      · obtain rfl : m = l0_2.length := by omega
        have q0 : decide (((l0_2.length : Nat) : Int) < (l0_2.length : Int)) = false := decide_eq_false (by omega)
        have p0 : ¬ (((l0_2.length : Nat) : Int) < (l0_2.length : Int)) := by omega
        have hl := HL.out
        rw [outAt_end l0_2 fresh i 2 hi] at hl
        have hc2 := HC2.out
        have h5 := H5.out
        rw [hl] at hc2 h5
        have HC3 := Aside0.mk hc2
        clear HC2 H5 HL hl hc2
        go_upto_region 27 with (fail)
        clear y0 y1 y2
        clear q0 p0
        have y0 : World.cell? wr ⟨b13, 0, none⟩ = some (.int .i64 e2) := (blk_cell (HB.out.get 5 rfl) 0).trans rfl
        have y1 : World.cell? wr ⟨b13, 1, none⟩ = some (.int .i64 n2) := (blk_cell (HB.out.get 5 rfl) 1).trans rfl
        have y2 : World.cell? wr ⟨b13, 2, none⟩ = some (.slice A5 out.length c5) := (blk_cell (HB.out.get 5 rfl) 2).trans rfl
        cases tt with
        | false =>
          rw [if_neg (by decide)] at h5
          simp only [Option.some.injEq, Prod.mk.injEq] at h5
          obtain ⟨rfl, rfl, rfl, rfl, rfl, rfl⟩ := h5
          go_upto_region 28 with (go_at_call 29; refine (spliceref08_Check.calls k e2 n2 A5 c5 out _ _ (Kd.R_reads' HO.out).2.2 (Kd.R_reads' HO.out).2.1 HC3.out).mono ?_; rintro e w12 ⟨rfl, hb⟩; replace HB := Aside0.mk (HB.out.below hb); replace HO := Aside0.mk (Kd.R_below HO.out hb); clear hb)
          clear y0 y1 y2
          have t0 : World.cell? w12 ⟨b8, 0, none⟩ = some (.int .i64 0) := (blk_cell (HB.out.get 1 rfl) 0).trans rfl
          have t1 : World.cell? w12 ⟨b8, 1, none⟩ = some (.int .i64 0) := (blk_cell (HB.out.get 1 rfl) 1).trans rfl
          have t2 : World.cell? w12 ⟨b8, 2, none⟩ = some (.slice none 0 0) := (blk_cell (HB.out.get 1 rfl) 2).trans rfl
          have t3 : World.cell? w12 ⟨b8, 3, none⟩ = some (.slice none 0 0) := (blk_cell (HB.out.get 1 rfl) 3).trans rfl
          have t4 : World.cell? w12 ⟨b8, 4, none⟩ = some (.slice none 0 0) := (blk_cell (HB.out.get 1 rfl) 4).trans rfl
          have t5 : World.cell? w12 ⟨b8, 5, none⟩ = some (.int .i64 0) := (blk_cell (HB.out.get 1 rfl) 5).trans rfl
          have tz0 : World.frozen? w12 ⟨b8, 0, none⟩ = false := blk_frozen (HB.out.get 1 rfl) 0
          have tz1 : World.frozen? w12 ⟨b8, 1, none⟩ = false := blk_frozen (HB.out.get 1 rfl) 1
          have tz2 : World.frozen? w12 ⟨b8, 2, none⟩ = false := blk_frozen (HB.out.get 1 rfl) 2
          have tz3 : World.frozen? w12 ⟨b8, 3, none⟩ = false := blk_frozen (HB.out.get 1 rfl) 3
          have tz4 : World.frozen? w12 ⟨b8, 4, none⟩ = false := blk_frozen (HB.out.get 1 rfl) 4
          have tz5 : World.frozen? w12 ⟨b8, 5, none⟩ = false := blk_frozen (HB.out.get 1 rfl) 5
          go_wp2
          replace HB : Aside0 (Bx w ((((((w12.setCell ⟨b8, 0, none⟩ (.int .i64 0)).setCell ⟨b8, 1, none⟩ (.int .i64 0)).setCell ⟨b8, 2, none⟩ (.slice none 0 0)).setCell ⟨b8, 3, none⟩ (.slice none 0 0)).setCell ⟨b8, 4, none⟩ (.slice none 0 0)).setCell ⟨b8, 5, none⟩ (.int .i64 2)) [(b4, #[.int .i64 a0_0, .int .i64 a0_1, .slice (some ad) l0_2.length c0_2], 30), (b8, #[.int .i64 0, .int .i64 0, .slice none 0 0, .slice none 0 0, .slice none 0 0, .int .i64 2], 43), (b10, #[.int .i64 xi, .int .i64 xl, .int .i64 xh, .int .i64 xn], 82), (g14, #[.int .i64 xi, .int .i64 xl, .int .i64 xh, .int .i64 xn, .int .i64 yi, .int .i64 yl, .int .i64 yh, .int .i64 yn], 82), (g15, #[.int .i64 a0_1, .int .i64 xl, .int .i64 yh, .int .i64 xn], 82), (b13, #[.int .i64 e2, .int .i64 n2, .slice A5 out.length c5], 30)]) := ⟨((((((HB.out.set 1 0 (.int .i64 0) rfl).set 1 1 (.int .i64 0) rfl).set 1 2 (.slice none 0 0) rfl).set 1 3 (.slice none 0 0) rfl).set 1 4 (.slice none 0 0) rfl).set 1 5 (.int .i64 2) rfl)⟩
          generalize ((((((w12.setCell ⟨b8, 0, none⟩ (.int .i64 0)).setCell ⟨b8, 1, none⟩ (.int .i64 0)).setCell ⟨b8, 2, none⟩ (.slice none 0 0)).setCell ⟨b8, 3, none⟩ (.slice none 0 0)).setCell ⟨b8, 4, none⟩ (.slice none 0 0)).setCell ⟨b8, 5, none⟩ (.int .i64 2)) = w99 at HB ⊢
          refine bodyPost_ret (results_single rfl (.cell b8 43 #[.int .i64 0, .int .i64 0, .slice none 0 0, .slice none 0 0, .slice none 0 0, .int .i64 2] (0, 0) _ rfl (HB.out.get 1 rfl) Try.underlying43 rfl (by kernel_rfl) .nil)) rfl ?_
          exact ⟨_, _, _, rfl, Kd.R_nil _ _ _ _ _, Kd.R_nil _ _ _ _ _, Kd.R_nil _ _ _ _ _, HB.out.bel⟩
        | true =>
          rw [if_pos rfl] at h5
          simp only [Option.some.injEq, Prod.mk.injEq] at h5
          obtain ⟨rfl, rfl, rfl, rfl, rfl, rfl⟩ := h5
          go_upto_region 29 with (go_at_call 29; refine (spliceref08_Check.calls k e2 n2 A5 c5 out _ _ (Kd.R_reads' HO.out).2.2 (Kd.R_reads' HO.out).2.1 HC3.out).mono ?_; rintro e w12 ⟨rfl, hb⟩; replace HB := Aside0.mk (HB.out.below hb); replace HO := Aside0.mk (Kd.R_below HO.out hb); clear hb)
          clear y0 y1 y2
          have y0 : World.cell? w12 ⟨b13, 0, none⟩ = some (.int .i64 e2) := (blk_cell (HB.out.get 5 rfl) 0).trans rfl
          have y1 : World.cell? w12 ⟨b13, 1, none⟩ = some (.int .i64 n2) := (blk_cell (HB.out.get 5 rfl) 1).trans rfl
          have y2 : World.cell? w12 ⟨b13, 2, none⟩ = some (.slice A5 out.length c5) := (blk_cell (HB.out.get 5 rfl) 2).trans rfl
          have t0 : World.cell? w12 ⟨b8, 0, none⟩ = some (.int .i64 0) := (blk_cell (HB.out.get 1 rfl) 0).trans rfl
          have t1 : World.cell? w12 ⟨b8, 1, none⟩ = some (.int .i64 0) := (blk_cell (HB.out.get 1 rfl) 1).trans rfl
          have t2 : World.cell? w12 ⟨b8, 2, none⟩ = some (.slice none 0 0) := (blk_cell (HB.out.get 1 rfl) 2).trans rfl
          have t3 : World.cell? w12 ⟨b8, 3, none⟩ = some (.slice none 0 0) := (blk_cell (HB.out.get 1 rfl) 3).trans rfl
          have t4 : World.cell? w12 ⟨b8, 4, none⟩ = some (.slice none 0 0) := (blk_cell (HB.out.get 1 rfl) 4).trans rfl
          have t5 : World.cell? w12 ⟨b8, 5, none⟩ = some (.int .i64 0) := (blk_cell (HB.out.get 1 rfl) 5).trans rfl
          have tz0 : World.frozen? w12 ⟨b8, 0, none⟩ = false := blk_frozen (HB.out.get 1 rfl) 0
          have tz1 : World.frozen? w12 ⟨b8, 1, none⟩ = false := blk_frozen (HB.out.get 1 rfl) 1
          have tz2 : World.frozen? w12 ⟨b8, 2, none⟩ = false := blk_frozen (HB.out.get 1 rfl) 2
          have tz3 : World.frozen? w12 ⟨b8, 3, none⟩ = false := blk_frozen (HB.out.get 1 rfl) 3
          have tz4 : World.frozen? w12 ⟨b8, 4, none⟩ = false := blk_frozen (HB.out.get 1 rfl) 4
          have tz5 : World.frozen? w12 ⟨b8, 5, none⟩ = false := blk_frozen (HB.out.get 1 rfl) 5
          go_wp2
          replace HB : Aside0 (Bx w ((((((w12.setCell ⟨b8, 0, none⟩ (.int .i64 e2)).setCell ⟨b8, 1, none⟩ (.int .i64 n2)).setCell ⟨b8, 2, none⟩ (.slice A5 out.length c5)).setCell ⟨b8, 3, none⟩ (.slice (some ⟨g14, 0, none⟩) 2 2)).setCell ⟨b8, 4, none⟩ (.slice (some adf) 1 1)).setCell ⟨b8, 5, none⟩ (.int .i64 0)) [(b4, #[.int .i64 a0_0, .int .i64 a0_1, .slice (some ad) l0_2.length c0_2], 30), (b8, #[.int .i64 e2, .int .i64 n2, .slice A5 out.length c5, .slice (some ⟨g14, 0, none⟩) 2 2, .slice (some adf) 1 1, .int .i64 0], 43), (b10, #[.int .i64 xi, .int .i64 xl, .int .i64 xh, .int .i64 xn], 82), (g14, #[.int .i64 xi, .int .i64 xl, .int .i64 xh, .int .i64 xn, .int .i64 yi, .int .i64 yl, .int .i64 yh, .int .i64 yn], 82), (g15, #[.int .i64 a0_1, .int .i64 xl, .int .i64 yh, .int .i64 xn], 82), (b13, #[.int .i64 e2, .int .i64 n2, .slice A5 out.length c5], 30)]) := ⟨((((((HB.out.set 1 0 (.int .i64 e2) rfl).set 1 1 (.int .i64 n2) rfl).set 1 2 (.slice A5 out.length c5) rfl).set 1 3 (.slice (some ⟨g14, 0, none⟩) 2 2) rfl).set 1 4 (.slice (some adf) 1 1) rfl).set 1 5 (.int .i64 0) rfl)⟩
          replace HO := Aside0.mk (R_setB (R_setB (R_setB (R_setB (R_setB (R_setB HO.out (g := b8) (by simp) 0 (.int .i64 e2)) (g := b8) (by simp) 1 (.int .i64 n2)) (g := b8) (by simp) 2 (.slice A5 out.length c5)) (g := b8) (by simp) 3 (.slice (some ⟨g14, 0, none⟩) 2 2)) (g := b8) (by simp) 4 (.slice (some adf) 1 1)) (g := b8) (by simp) 5 (.int .i64 0))
          generalize ((((((w12.setCell ⟨b8, 0, none⟩ (.int .i64 e2)).setCell ⟨b8, 1, none⟩ (.int .i64 n2)).setCell ⟨b8, 2, none⟩ (.slice A5 out.length c5)).setCell ⟨b8, 3, none⟩ (.slice (some ⟨g14, 0, none⟩) 2 2)).setCell ⟨b8, 4, none⟩ (.slice (some adf) 1 1)).setCell ⟨b8, 5, none⟩ (.int .i64 0)) = w99 at HB HO ⊢
          refine bodyPost_ret (results_single rfl (.cell b8 43 #[.int .i64 e2, .int .i64 n2, .slice A5 out.length c5, .slice (some ⟨g14, 0, none⟩) 2 2, .slice (some adf) 1 1, .int .i64 0] (0, 0) _ rfl (HB.out.get 1 rfl) Try.underlying43 rfl (by kernel_rfl) .nil)) rfl ?_
          have hga := HGa.out
          subst hga
          have hnd := HB.out.nd
          have hne : g14 ≠ g15 := by intro e; subst e; simp at hnd
          have hO1 := HO.out.1
          refine ⟨_, _, _, rfl, Kd.R_mono HO.out (fun k_ hk => ⟨fun e => hk g14 (by simp) (by simpa [Value.ownBlock] using e), fun e => hk g15 (by simp) (by simpa [Value.ownBlock] using e)⟩), R_ofB (HB.out.get 3 rfl) (HB.out.ge 3 rfl) ⟨fun e => hO1 g14 e.symm g14 (by simp) rfl, fun e => hne (by simpa [Value.ownBlock] using e)⟩ (by rw [HOl.out]; rfl) (by rw [HOl.out]; simp) (by rw [HOl.out]; exact reps2 _ _), R_ofB (HB.out.get 4 rfl) (HB.out.ge 4 rfl) ⟨fun e => hO1 g15 e.symm g15 (by simp) rfl, fun e => hne.symm (by simpa [Value.ownBlock] using e)⟩ HFr.out.2.symm (by rw [HFr.out.2]; decide) (by rw [HFr.out.1]; exact reps1 _), HB.out.bel⟩
  · skip
    go_upto_region 3 with (go_at_call 29; refine (spliceref08_Check.calls k a0_0 a0_1 _ c0_2 l0_2 _ _ (Kd.C_below HR0.out HB.out.bel) HC0.out HCk.out).mono ?_; rintro e w3 ⟨rfl, hb⟩; replace HB := Aside0.mk (HB.out.below hb); clear hb)
    clear y0 y1 y2
    clear q1 q2 q3
    have y0 : World.cell? w3 ⟨b4, 0, none⟩ = some (.int .i64 a0_0) := (blk_cell (HB.out.get 0 rfl) 0).trans rfl
    have y1 : World.cell? w3 ⟨b4, 1, none⟩ = some (.int .i64 a0_1) := (blk_cell (HB.out.get 0 rfl) 1).trans rfl
    have y2 : World.cell? w3 ⟨b4, 2, none⟩ = some (.slice A0_2 l0_2.length c0_2) := (blk_cell (HB.out.get 0 rfl) 2).trans rfl
    by_cases hi0 : i < 0
    · rw [if_pos hi0] at h2
      simp only [Option.some.injEq, Prod.mk.injEq] at h2
      obtain ⟨rfl, rfl, rfl, rfl, rfl, rfl⟩ := h2
      have q1 : decide (i < 0) = true := decide_eq_true hi0
      clear hi0
      go_upto_region 5 with (go_at_call 28; refine (spliceref08_Find.calls k a0_0 a0_1 _ c0_2 l0_2 a2 _ _ (Kd.C_below HR0.out HB.out.bel) HC0.out HF.out).mono ?_; rintro e w4 ⟨rfl, hb⟩; replace HB := Aside0.mk (HB.out.below hb); clear hb)
      clear y0 y1 y2
      have t0 : World.cell? w4 ⟨b8, 0, none⟩ = some (.int .i64 0) := (blk_cell (HB.out.get 1 rfl) 0).trans rfl
      have t1 : World.cell? w4 ⟨b8, 1, none⟩ = some (.int .i64 0) := (blk_cell (HB.out.get 1 rfl) 1).trans rfl
      have t2 : World.cell? w4 ⟨b8, 2, none⟩ = some (.slice none 0 0) := (blk_cell (HB.out.get 1 rfl) 2).trans rfl
      have t3 : World.cell? w4 ⟨b8, 3, none⟩ = some (.slice none 0 0) := (blk_cell (HB.out.get 1 rfl) 3).trans rfl
      have t4 : World.cell? w4 ⟨b8, 4, none⟩ = some (.slice none 0 0) := (blk_cell (HB.out.get 1 rfl) 4).trans rfl
      have t5 : World.cell? w4 ⟨b8, 5, none⟩ = some (.int .i64 0) := (blk_cell (HB.out.get 1 rfl) 5).trans rfl
      have tz0 : World.frozen? w4 ⟨b8, 0, none⟩ = false := blk_frozen (HB.out.get 1 rfl) 0
      have tz1 : World.frozen? w4 ⟨b8, 1, none⟩ = false := blk_frozen (HB.out.get 1 rfl) 1
      have tz2 : World.frozen? w4 ⟨b8, 2, none⟩ = false := blk_frozen (HB.out.get 1 rfl) 2
      have tz3 : World.frozen? w4 ⟨b8, 3, none⟩ = false := blk_frozen (HB.out.get 1 rfl) 3
      have tz4 : World.frozen? w4 ⟨b8, 4, none⟩ = false := blk_frozen (HB.out.get 1 rfl) 4
      have tz5 : World.frozen? w4 ⟨b8, 5, none⟩ = false := blk_frozen (HB.out.get 1 rfl) 5
      go_wp2
      replace HB : Aside0 (Bx w ((((((w4.setCell ⟨b8, 0, none⟩ (.int .i64 0)).setCell ⟨b8, 1, none⟩ (.int .i64 0)).setCell ⟨b8, 2, none⟩ (.slice none 0 0)).setCell ⟨b8, 3, none⟩ (.slice none 0 0)).setCell ⟨b8, 4, none⟩ (.slice none 0 0)).setCell ⟨b8, 5, none⟩ (.int .i64 4)) [(b4, #[.int .i64 a0_0, .int .i64 a0_1, .slice A0_2 l0_2.length c0_2], 30), (b8, #[.int .i64 0, .int .i64 0, .slice none 0 0, .slice none 0 0, .slice none 0 0, .int .i64 4], 43)]) := ⟨((((((HB.out.set 1 0 (.int .i64 0) rfl).set 1 1 (.int .i64 0) rfl).set 1 2 (.slice none 0 0) rfl).set 1 3 (.slice none 0 0) rfl).set 1 4 (.slice none 0 0) rfl).set 1 5 (.int .i64 4) rfl)⟩
      generalize ((((((w4.setCell ⟨b8, 0, none⟩ (.int .i64 0)).setCell ⟨b8, 1, none⟩ (.int .i64 0)).setCell ⟨b8, 2, none⟩ (.slice none 0 0)).setCell ⟨b8, 3, none⟩ (.slice none 0 0)).setCell ⟨b8, 4, none⟩ (.slice none 0 0)).setCell ⟨b8, 5, none⟩ (.int .i64 4)) = w99 at HB ⊢
      refine bodyPost_ret (results_single rfl (.cell b8 43 #[.int .i64 0, .int .i64 0, .slice none 0 0, .slice none 0 0, .slice none 0 0, .int .i64 4] (0, 0) _ rfl (HB.out.get 1 rfl) Try.underlying43 rfl (by kernel_rfl) .nil)) rfl ?_
      exact ⟨_, _, _, rfl, Kd.R_nil _ _ _ _ _, Kd.R_nil _ _ _ _ _, Kd.R_nil _ _ _ _ _, HB.out.bel⟩
    rw [if_neg hi0] at h2
    by_cases hil : (l0_2.length : Int) ≤ i
    case pos => rw [if_pos hil] at h2; exact absurd h2 (by simp)
    rw [if_neg hil] at h2
    obtain ⟨i, rfl⟩ := Int.eq_ofNat_of_zero_le (show 0 ≤ i by omega)
    rw [Int.toNat_natCast] at h2
    have hi : i < l0_2.length := by omega
    have q1 : decide ((i : Int) < 0) = false := decide_eq_false hi0
    have hwi : IntKind.i64.wrap ((i : Int) + 1) = (i : Int) + 1 := IntWalk.i64_in _ (by omega)
    have u1 : 0 ≤ (i : Int) := by omega
    have u2 : (i : Int) < (l0_2.length : Int) := by omega
    have u3 : ¬ (i : Int) < 0 := by omega
    clear hi0 hil
    obtain ⟨ad, e0, x0, x1, x2, x3⟩ := at_T82 HR0.out (i : Int) u1 u2
    have hm := h2
    generalize hx : rd_T82 l0_2 (i : Int) = x at x0 x1 x2 x3 hm
    clear h2
    rw [Int.toNat_natCast] at x0 x1 x2 x3
    obtain ⟨xi, ⟨xl, xh⟩, xn⟩ := x
    dsimp only at x0 x1 x2 x3
    subst e0
    have HX := Aside0.mk (And.intro x0 (And.intro x1 (And.intro x2 x3)))
    have HXe := Aside0.mk hx
    clear x0 x1 x2 x3 hx
    unfold spliceref08_Apply.m at hm
    rw [if_neg (by decide), if_neg (by decide)] at hm
    dsimp only at hm
    have HM := Aside0.mk hm
    clear hm
    go_upto_region 6 with (go_at_call 28; refine (spliceref08_Find.calls k a0_0 a0_1 _ c0_2 l0_2 a2 _ _ (Kd.C_below HR0.out HB.out.bel) HC0.out HF.out).mono ?_; rintro e w4 ⟨rfl, hb⟩; replace HB := Aside0.mk (HB.out.below hb); clear hb; clear y0 y1 y2; have y0 : World.cell? w4 ⟨b4, 0, none⟩ = some (.int .i64 a0_0) := (blk_cell (HB.out.get 0 rfl) 0).trans rfl; have y1 : World.cell? w4 ⟨b4, 1, none⟩ = some (.int .i64 a0_1) := (blk_cell (HB.out.get 0 rfl) 1).trans rfl; have y2 : World.cell? w4 ⟨b4, 2, none⟩ = some (.slice (some ad) l0_2.length c0_2) := (blk_cell (HB.out.get 0 rfl) 2).trans rfl)
    have x0 := cellB HB.out.bel HX.out.1
    have x1 := cellB HB.out.bel HX.out.2.1
    have x2 := cellB HB.out.bel HX.out.2.2.1
    have x3 := cellB HB.out.bel HX.out.2.2.2
    go_upto_region 7 with (fail)
    clear x0 x1 x2 x3
    replace HB := Aside0.mk (HB.out.push #[.int .i64 xi, .int .i64 xl, .int .i64 xh, .int .i64 xn] 82)
    simp only [List.nil_append, List.cons_append] at HB
    generalize w4.alloc (.cells #[.int .i64 xi, .int .i64 xl, .int .i64 xh, .int .i64 xn] 82) = w5 at HB ⊢
    generalize w4.heap.size = b10 at HB ⊢
    clear y0 y1 y2
    have s0 : World.cell? w5 ⟨b10, 0, none⟩ = some (.int .i64 xi) := (blk_cell (HB.out.get 2 rfl) 0).trans rfl
    have s1 : World.cell? w5 ⟨b10, 1, none⟩ = some (.int .i64 xl) := (blk_cell (HB.out.get 2 rfl) 1).trans rfl
    have s2 : World.cell? w5 ⟨b10, 2, none⟩ = some (.int .i64 xh) := (blk_cell (HB.out.get 2 rfl) 2).trans rfl
    have s3 : World.cell? w5 ⟨b10, 3, none⟩ = some (.int .i64 xn) := (blk_cell (HB.out.get 2 rfl) 3).trans rfl
    go_upto_region 8 with (fail)
    replace HB := Aside0.mk (HB.out.push #[.int .i64 xi, .int .i64 xl, .int .i64 xh, .int .i64 xn] 82)
    simp only [List.nil_append, List.cons_append] at HB
    generalize w5.alloc (.cells #[.int .i64 xi, .int .i64 xl, .int .i64 xh, .int .i64 xn] 82) = w6 at HB ⊢
    generalize w5.heap.size = g11 at HB ⊢
    clear s0 s1 s2 s3
    have s0 : World.cell? w6 ⟨b10, 0, none⟩ = some (.int .i64 xi) := (blk_cell (HB.out.get 2 rfl) 0).trans rfl
    have s1 : World.cell? w6 ⟨b10, 1, none⟩ = some (.int .i64 xl) := (blk_cell (HB.out.get 2 rfl) 1).trans rfl
    have s2 : World.cell? w6 ⟨b10, 2, none⟩ = some (.int .i64 xh) := (blk_cell (HB.out.get 2 rfl) 2).trans rfl
    have s3 : World.cell? w6 ⟨b10, 3, none⟩ = some (.int .i64 xn) := (blk_cell (HB.out.get 2 rfl) 3).trans rfl
    have s2_1_1 : World.cell? w6 ⟨b10, 1 + 1, none⟩ = some (.int .i64 xh) := s2
    have y0 : World.cell? w6 ⟨b4, 0, none⟩ = some (.int .i64 a0_0) := (blk_cell (HB.out.get 0 rfl) 0).trans rfl
    have y1 : World.cell? w6 ⟨b4, 1, none⟩ = some (.int .i64 a0_1) := (blk_cell (HB.out.get 0 rfl) 1).trans rfl
    have y2 : World.cell? w6 ⟨b4, 2, none⟩ = some (.slice (some ad) l0_2.length c0_2) := (blk_cell (HB.out.get 0 rfl) 2).trans rfl
    go_upto_region 9 with (fail)
    replace HB := Aside0.mk (HB.out.push #[.int .i64 a0_1, .int .i64 xl, .int .i64 xh, .int .i64 a3] 82)
    simp only [List.nil_append, List.cons_append] at HB
    generalize w6.alloc (.cells #[.int .i64 a0_1, .int .i64 xl, .int .i64 xh, .int .i64 a3] 82) = w7 at HB ⊢
    generalize w6.heap.size = g12 at HB ⊢
    clear s0 s1 s2 s3 s2_1_1
    clear y0 y1 y2
    obtain ⟨old, hold⟩ : ∃ old : List S82, old = [⟨xi, ⟨xl, xh⟩, xn⟩] := ⟨_, rfl⟩
    obtain ⟨fresh, hfresh⟩ : ∃ fresh : List S82, fresh = [⟨a0_1, ⟨xl, xh⟩, a3⟩] := ⟨_, rfl⟩
    have hm := HM.out
    rw [← hold, ← hfresh] at hm
    clear HM
    unfold spliceref08_Apply.t at hm
    obtain ⟨tt, hC2, h5⟩ := Option.bind_eq_some_iff.1 hm
    have hon : old.length = 1 := by rw [hold]; rfl
    have hfn : fresh.length = 1 := by rw [hfresh]; rfl
    rw [hon, hfn] at hC2 h5
    generalize he2 : wrap64 (a0_0 + 1) = e2 at hC2 h5
    generalize hn2 : wrap64 (a0_1 + ((1 : Nat) : Int)) = n2 at hC2 h5
    have hew : IntKind.i64.wrap (a0_0 + 1) = e2 := (i64_w _).trans he2
    have hnw : IntKind.i64.wrap (a0_1 + 1) = n2 := (i64_w _).trans hn2
    have HC2 := Aside0.mk hC2
    have H5 := Aside0.mk h5
    have HOl := Aside0.mk hold
    have HFr := Aside0.mk (And.intro hfresh hfn)
    clear hm hC2 h5 he2 hn2 hold hfresh hon hfn
    have y0 : World.cell? w7 ⟨b4, 0, none⟩ = some (.int .i64 a0_0) := (blk_cell (HB.out.get 0 rfl) 0).trans rfl
    have y1 : World.cell? w7 ⟨b4, 1, none⟩ = some (.int .i64 a0_1) := (blk_cell (HB.out.get 0 rfl) 1).trans rfl
    have y2 : World.cell? w7 ⟨b4, 2, none⟩ = some (.slice (some ad) l0_2.length c0_2) := (blk_cell (HB.out.get 0 rfl) 2).trans rfl
    go_upto_region 17 with (fail)
    clear y0 y1 y2
    clear hew hnw
    replace HB := Aside0.mk (HB.out.push #[.int .i64 e2, .int .i64 n2, .slice none 0 0] 30)
    simp only [List.nil_append, List.cons_append] at HB
    generalize w7.alloc (.cells #[.int .i64 e2, .int .i64 n2, .slice none 0 0] 30) = w10 at HB ⊢
    generalize w7.heap.size = b13 at HB ⊢
    have HO : Aside0 (Kd.R k82 82 w10 w.heap.size (Off [b4, b8, b10, g11, g12, b13]) (.slice none 0 0) []) := ⟨Kd.R_nil _ _ _ _ _⟩
    obtain ⟨adf, hga⟩ : ∃ adf : Addr, adf = ⟨g12, 0, none⟩ := ⟨_, rfl⟩
    rw [← hga]
    have HGa := Aside0.mk hga
    clear hga
    go_wp2
    go_loopw [14] (fun v14 wr => ∃ (m : Nat) (vl : Value), m ≤ l0_2.length ∧ v14 = .int .i64 m ∧ Aside0 (Bx w wr [(b4, #[.int .i64 a0_0, .int .i64 a0_1, .slice (some ad) l0_2.length c0_2], 30), (b8, #[.int .i64 0, .int .i64 0, .slice none 0 0, .slice none 0 0, .slice none 0 0, .int .i64 0], 43), (b10, #[.int .i64 xi, .int .i64 xl, .int .i64 xh, .int .i64 xn], 82), (g11, #[.int .i64 xi, .int .i64 xl, .int .i64 xh, .int .i64 xn], 82), (g12, #[.int .i64 a0_1, .int .i64 xl, .int .i64 xh, .int .i64 a3], 82), (b13, #[.int .i64 e2, .int .i64 n2, vl], 30)]) ∧ Aside0 (Kd.R k82 82 wr w.heap.size (Off [b4, b8, b10, g11, g12, b13]) vl (outAt l0_2 fresh i 1 m))) (fun v14 _ => l0_2.length - (intOf v14).toNat)
    case atStart => exact ⟨0, _, by omega, rfl, HB, ⟨by rw [outAt_0]; exact HO.out⟩⟩
    case round =>
      clear HB HO
      obtain ⟨m, vl, hml, rfl, HB, HO⟩ := hrel
      generalize hl : outAt l0_2 fresh i 1 m = out at HO
      have HL := Aside0.mk hl
      have hll := Aside0.mk (show out.length + 1 ≤ 3000000 from by rw [← hl]; have := outAt_len l0_2 fresh i 1 m hml; have := HFr.out.2; omega)
      clear hl
      obtain ⟨A5, c5, rfl⟩ := Kd.R_slice HO.out
      have y0 : World.cell? wr ⟨b4, 0, none⟩ = some (.int .i64 a0_0) := (blk_cell (HB.out.get 0 rfl) 0).trans rfl
      have y1 : World.cell? wr ⟨b4, 1, none⟩ = some (.int .i64 a0_1) := (blk_cell (HB.out.get 0 rfl) 1).trans rfl
      have y2 : World.cell? wr ⟨b4, 2, none⟩ = some (.slice (some ad) l0_2.length c0_2) := (blk_cell (HB.out.get 0 rfl) 2).trans rfl
      by_cases hlt : m < l0_2.length
      · have q0 : decide ((m : Int) < (l0_2.length : Int)) = true := decide_eq_true (by omega)
        have p0 : (m : Int) < (l0_2.length : Int) := by omega
        have p00 : 0 ≤ (m : Int) := by omega
        have p01 : ¬ (m : Int) < 0 := by omega
        rcases Nat.lt_trichotomy m i with hmi | hmi | hmi
        · have q1 : ((m : Int) == (i : Int)) = false := beq_eq_false_iff_ne.mpr (by omega)
          have q2 : decide ((m : Int) < (i : Int)) = true := decide_eq_true (by omega)
          have q3 : (m : Int) < (i : Int) := by omega
          obtain ⟨ad_, e0, z0, z1, z2, z3⟩ := at_T82 HR0.out (m : Int) p00 p0
          injection e0 with e0
          subst e0
          generalize hz : rd_T82 l0_2 (m : Int) = z at z0 z1 z2 z3
          obtain ⟨zi, ⟨zl, zh⟩, zn⟩ := z
          rw [Int.toNat_natCast] at z0 z1 z2 z3
          dsimp only at z0 z1 z2 z3
          have HZ := Aside0.mk (And.intro z0 (And.intro z1 (And.intro z2 z3)))
          have HZe := Aside0.mk hz
          clear z0 z1 z2 z3 hz
          go_upto_region 26 with (fail)
          clear y0 y1 y2
          clear q0 q1 q2 q3
          replace HB := Aside0.mk (HB.out.below (below_drew (Below.refl _ _)))
          replace HO := Aside0.mk (Kd.R_below HO.out (below_drew (Below.refl _ _)))
          refine start_ (n := 11) (S := fun w' => w'.cell? ⟨b13, 2, none⟩ = some (.slice A5 out.length c5) ∧ w'.cell? ⟨b4, 2, none⟩ = some (.slice (some ad) l0_2.length c0_2) ∧ w'.cell? (ad.add (m * 4)) = some (.int .i64 zi) ∧ w'.cell? ⟨(ad.add (m * 4)).block, (ad.add (m * 4)).off + 1, none⟩ = some (.int .i64 zl) ∧ w'.cell? ⟨(ad.add (m * 4)).block, (ad.add (m * 4)).off + 2, none⟩ = some (.int .i64 zh) ∧ w'.cell? ⟨(ad.add (m * 4)).block, (ad.add (m * 4)).off + 3, none⟩ = some (.int .i64 zn)) (ds := [10]) (bAg 11 0) (by kernel_rfl) rfl rfl ⟨(blk_cell (HB.out.get 5 rfl) 2).trans rfl, (blk_cell (HB.out.get 0 rfl) 2).trans rfl, cellB HB.out.bel HZ.out.1, cellB HB.out.bel HZ.out.2.1, cellB HB.out.bel HZ.out.2.2.1, cellB HB.out.bel HZ.out.2.2.2⟩ (fun hHeld => ?_); refine with_tabW apply26.tab apply26.bits (fun HT_ HW_ => ?_)
          generalize wr.drew = wd at HB HO hHeld ⊢
          refine pure_ (i := 0) (N := some 182) (v := ?_) (a' := ?_) (bAg 11 1) rfl rfl (any_of HT_.out (by kernel_rfl)) (fun _ _ _ h => h) (Or.inl ⟨by rfl, ?_⟩) ?_ ?_
          rotate_left
          · intro w'
            go_simp
            with_reducible rfl
          rotate_left
          · simp only [Act.put, sg1, sg2, sg3, i64_w, i32_w]
            rfl
          refine take_ (i := 1) (N := some 183) (v := ?_) (a' := ?_) (bAg 11 3) rfl rfl (take_ofW HT_.out HW_.out (by kernel_rfl)) (fun _ _ _ h => h) (Or.inl ⟨by rfl, ?_⟩) hHeld ?_ ?_
          rotate_left
          · rintro w' ⟨s0_, s1_, s2_, s3_, s4_, s5_⟩
            go_simp
            with_reducible rfl
          rotate_left
          · simp only [Act.put, sg1, sg2, sg3, i64_w, i32_w]
            rfl
          refine pure_ (i := 2) (N := some 184) (v := ?_) (a' := ?_) (bAg 11 7) rfl rfl (any_of HT_.out (by kernel_rfl)) (fun _ _ _ h => h) (Or.inl ⟨by rfl, ?_⟩) ?_ ?_
          rotate_left
          · intro w'
            go_simp
            with_reducible rfl
          rotate_left
          · simp only [Act.put, sg1, sg2, sg3, i64_w, i32_w]
            rfl
          refine take_ (i := 3) (N := some 185) (v := ?_) (a' := ?_) (bAg 11 15) rfl rfl (take_ofW HT_.out HW_.out (by kernel_rfl)) (fun _ _ _ h => h) (Or.inl ⟨by rfl, ?_⟩) hHeld ?_ ?_
          rotate_left
          · rintro w' ⟨s0_, s1_, s2_, s3_, s4_, s5_⟩
            go_simp
            with_reducible rfl
          rotate_left
          · simp only [Act.put, sg1, sg2, sg3, i64_w, i32_w]
            rfl
          refine pure_ (i := 4) (N := some 186) (v := ?_) (a' := ?_) (bAg 11 31) rfl rfl (any_of HT_.out (by kernel_rfl)) (fun _ _ _ h => h) (Or.inl ⟨by rfl, ?_⟩) ?_ ?_
          rotate_left
          · intro w'
            go_simp
            with_reducible rfl
          rotate_left
          · simp only [Act.put, sg1, sg2, sg3, i64_w, i32_w]
            rfl
          refine pure_ (i := 5) (N := some 187) (v := ?_) (a' := ?_) (bAg 11 63) rfl rfl (any_of HT_.out (by kernel_rfl)) (fun _ _ _ h => h) (Or.inl ⟨by rfl, ?_⟩) ?_ ?_
          rotate_left
          · intro w'
            go_simp
            with_reducible rfl
          rotate_left
          · simp only [Act.put, sg1, sg2, sg3, i64_w, i32_w]
            rfl
          refine take_ (i := 6) (N := some 188) (v := ?_) (a' := ?_) (bAg 11 127) rfl rfl (take_ofW HT_.out HW_.out (by kernel_rfl)) (fun _ _ _ h => h) (Or.inl ⟨by rfl, ?_⟩) hHeld ?_ ?_
          rotate_left
          · rintro w' ⟨s0_, s1_, s2_, s3_, s4_, s5_⟩
            go_simp
            with_reducible rfl
          rotate_left
          · simp only [Act.put, sg1, sg2, sg3, i64_w, i32_w]
            rfl
          refine one_ (i := 7) (N := some 189) (bAg 11 255) rfl rfl (one_of HT_.out (by kernel_rfl)) (by decide) (fun K hK => ?_)
          refine value_ (w1 := ?_) (v := ?_) (by rfl) rfl ?_ ?_
          rotate_left 2
          · go_simp
            constructor
            · rfl
            rfl
          refine hK.out _ _ ⟨(blk_cell (blk_alloc (HB.out.get 5 rfl) _) 2).trans rfl, (blk_cell (blk_alloc (HB.out.get 0 rfl) _) 2).trans rfl, cellA (cellB HB.out.bel HZ.out.1), cellA (cellB HB.out.bel HZ.out.2.1), cellA (cellB HB.out.bel HZ.out.2.2.1), cellA (cellB HB.out.bel HZ.out.2.2.2)⟩ (fun hHeld => ?_)
          clear hK K
          refine norm_ (a' := ?_) ?_ ?_
          rotate_left
          · show Act.put _ (some 189) _ = _
            simp only [Act.put, sg1, sg2, sg3, i64_w, i32_w]
            rfl
          refine one_ (i := 8) (N := some 190) (bAg 11 511) rfl rfl (one_of HT_.out (by kernel_rfl)) (by decide) (fun K hK => ?_)
          refine Kd.R_append_step k82 (w0 := w) w.heap.size (by rfl) (.tmp 183) (.tmp 189) 28 82 (.agg #[(.int .i64 0), (.int .i64 0), (.int .i64 0), (.int .i64 0)]) 32 rfl Try.underlying28 info82_ rfl (by decide) (by omega) (.slice A5 _ c5) out (⟨zi, ⟨zl, zh⟩, zn⟩ : S82) [.int .i64 zi, .int .i64 zl, .int .i64 zh, .int .i64 zn] (Off [b4, b8, b10, g11, g12, b13]) (fun _ => False) rfl rfl (k82_mkM _ _ _ _) (fun _ hk => hk.elim) (HB.out.fresh rfl) HO.out HB.out.bel HB.out.bel.size (by have := hll.out; omega) ?_
          intro v1 w9 ho hb hg hat
          replace HB := Aside0.mk (HB.out.grown rfl HO.out.1 hg hb)
          obtain ⟨out2, ho2⟩ : ∃ out2 : List S82, out2 = out ++ [⟨zi, ⟨zl, zh⟩, zn⟩] := ⟨_, rfl⟩
          rw [← ho2] at ho
          obtain ⟨A6, c6, rfl⟩ := Kd.R_slice ho
          replace HO := Aside0.mk ho
          have HO2 := Aside0.mk ho2
          clear ho ho2 hb hg hat
          refine hK.out _ _ ⟨(blk_cell (HB.out.get 5 rfl) 2).trans rfl, (blk_cell (HB.out.get 0 rfl) 2).trans rfl, cellB HB.out.bel HZ.out.1, cellB HB.out.bel HZ.out.2.1, cellB HB.out.bel HZ.out.2.2.1, cellB HB.out.bel HZ.out.2.2.2⟩ (fun hHeld => ?_)
          clear hK K
          refine norm_ (a' := ?_) ?_ ?_
          rotate_left
          · show Act.put _ (some 190) _ = _
            simp only [Act.put, sg1, sg2, sg3, i64_w, i32_w]
            rfl
          refine pure_ (i := 9) (N := some 191) (v := ?_) (a' := ?_) (bAg 11 1023) rfl rfl (any_of HT_.out (by kernel_rfl)) (fun _ _ _ h => h) (Or.inl ⟨by rfl, ?_⟩) ?_ ?_
          rotate_left
          · intro w'
            go_simp
            with_reducible rfl
          rotate_left
          · simp only [Act.put, sg1, sg2, sg3, i64_w, i32_w]
            rfl
          refine last_ (i := 10) (N := none) (bAg 11 2047) rfl rfl (one_of HT_.out (by kernel_rfl)) (by decide) (fun K hK => ?_)
          have t2 : World.cell? _ ⟨b13, 2, none⟩ = some (.slice A5 out.length c5) := (blk_cell (HB.out.get 5 rfl) 2).trans rfl
          have tz2 : World.frozen? _ ⟨b13, 2, none⟩ = false := blk_frozen (HB.out.get 5 rfl) 2
          refine skip_ (w1 := ?_) (by rfl) rfl ?_ ?_
          rotate_left
          · go_simp
            rfl
          refine hK.out _ _ ?_
          clear hK K t2 tz2
          replace HB : Aside0 (Bx w (w9.setCell ⟨b13, 2, none⟩ (.slice A6 out2.length c6)) [(b4, #[.int .i64 a0_0, .int .i64 a0_1, .slice (some ad) l0_2.length c0_2], 30), (b8, #[.int .i64 0, .int .i64 0, .slice none 0 0, .slice none 0 0, .slice none 0 0, .int .i64 0], 43), (b10, #[.int .i64 xi, .int .i64 xl, .int .i64 xh, .int .i64 xn], 82), (g11, #[.int .i64 xi, .int .i64 xl, .int .i64 xh, .int .i64 xn], 82), (g12, #[.int .i64 a0_1, .int .i64 xl, .int .i64 xh, .int .i64 a3], 82), (b13, #[.int .i64 e2, .int .i64 n2, .slice A6 out2.length c6], 30)]) := ⟨HB.out.set 5 2 (.slice A6 out2.length c6) rfl⟩
          replace HO := Aside0.mk (R_setB HO.out (g := b13) (by simp) 2 (.slice A6 out2.length c6))
          generalize w9.setCell ⟨b13, 2, none⟩ (.slice A6 out2.length c6) = w11 at HB HO ⊢
          refine done_ (done_of HT_.out (by kernel_rfl)) ?_
          clear HT_ HW_
          try clear hHeld
          go_wp2
          have hs := outAt_lt l0_2 fresh i 1 m hmi hlt
          exact ⟨⟨m + 1, _, by omega, by first | rfl | go_num, HB, ⟨by rw [hs, HL.out, HZe.out, ← HO2.out]; exact HO.out⟩⟩, by simp [intOf]; omega⟩
        · subst hmi
          have q1 : ((m : Int) == (m : Int)) = true := by simp
          have HLt := Aside0.mk hlt
          go_wp2
          go_loopw [15] (fun v15 wr => ∃ (j : Nat) (vl : Value), j ≤ 1 ∧ v15 = .int .i64 j ∧ Aside0 (Bx w wr [(b4, #[.int .i64 a0_0, .int .i64 a0_1, .slice (some ad) l0_2.length c0_2], 30), (b8, #[.int .i64 0, .int .i64 0, .slice none 0 0, .slice none 0 0, .slice none 0 0, .int .i64 0], 43), (b10, #[.int .i64 xi, .int .i64 xl, .int .i64 xh, .int .i64 xn], 82), (g11, #[.int .i64 xi, .int .i64 xl, .int .i64 xh, .int .i64 xn], 82), (g12, #[.int .i64 a0_1, .int .i64 xl, .int .i64 xh, .int .i64 a3], 82), (b13, #[.int .i64 e2, .int .i64 n2, vl], 30)]) ∧ Aside0 (Kd.R k82 82 wr w.heap.size (Off [b4, b8, b10, g11, g12, b13]) vl (l0_2.take m ++ fresh.take j))) (fun v15 _ => 1 - (intOf v15).toNat)
          case atStart => exact ⟨0, _, by omega, rfl, HB, ⟨by rw [List.take_zero, List.append_nil, ← outAt_i l0_2 fresh m 1, HL.out]; exact HO.out⟩⟩
          case round =>
            clear HB HO HL hll q0 y0 y1 y2
            obtain ⟨j, vl, hj, rfl, HB, HO⟩ := hrel
            generalize hl : l0_2.take m ++ fresh.take j = out at HO
            have HL := Aside0.mk hl
            have hll := Aside0.mk (show out.length + 1 ≤ 3000000 from by rw [← hl, List.length_append, List.length_take, List.length_take]; omega)
            clear hl
            obtain ⟨A5, c5, rfl⟩ := Kd.R_slice HO.out
            by_cases hjl : j < 1
            · have q0 : decide ((j : Int) < 1) = true := decide_eq_true (by omega)
              have p1 : (j : Int) < 1 := by omega
              have p2 : 0 ≤ (j : Int) := by omega
              have p3 : ¬ (j : Int) < 0 := by omega
              have hE : ∀ W' : World, W'.heap[g12]? = some (.cells #[.int .i64 a0_1, .int .i64 xl, .int .i64 xh, .int .i64 a3] 82 (0, 0)) → W'.cell? (adf.add (j * 4)) = some (.int .i64 (rd_T82 fresh (j : Int)).f0) ∧ W'.cell? ⟨(adf.add (j * 4)).block, (adf.add (j * 4)).off + 1, none⟩ = some (.int .i64 (rd_T82 fresh (j : Int)).f1.f0) ∧ W'.cell? ⟨(adf.add (j * 4)).block, (adf.add (j * 4)).off + 2, none⟩ = some (.int .i64 (rd_T82 fresh (j : Int)).f1.f1) ∧ W'.cell? ⟨(adf.add (j * 4)).block, (adf.add (j * 4)).off + 3, none⟩ = some (.int .i64 (rd_T82 fresh (j : Int)).f2) := by
                intro W' hW
                have hr := R_ofB (base := 0) (n := 1) (xs := fresh) (ok := fun _ => True) hW (Nat.zero_le _) trivial HFr.out.2.symm (by rw [HFr.out.2]; decide) (by rw [HFr.out.1]; exact reps1 _)
                rw [← HGa.out] at hr
                obtain ⟨ad_, e0, z0, z1, z2, z3⟩ := at_T82 (Kd.R_reads' hr).2.2 (j : Int) p2 (by rw [HFr.out.2]; exact_mod_cast p1)
                injection e0 with e0
                subst e0
                rw [Int.toNat_natCast] at z0 z1 z2 z3
                exact ⟨z0, z1, z2, z3⟩
              generalize hz : rd_T82 fresh (j : Int) = z at hE
              obtain ⟨zi, ⟨zl, zh⟩, zn⟩ := z
              dsimp only at hE
              have HE := Aside0.mk hE
              have HZe := Aside0.mk hz
              clear hE hz
              go_upto_region 24 with (fail)
              clear q0 q1
              replace HB := Aside0.mk (HB.out.below (below_drew (Below.refl _ _)))
              replace HO := Aside0.mk (Kd.R_below HO.out (below_drew (Below.refl _ _)))
              refine start_ (n := 10) (S := fun w' => w'.cell? ⟨b13, 2, none⟩ = some (.slice A5 out.length c5) ∧ w'.cell? (adf.add (j * 4)) = some (.int .i64 zi) ∧ w'.cell? ⟨(adf.add (j * 4)).block, (adf.add (j * 4)).off + 1, none⟩ = some (.int .i64 zl) ∧ w'.cell? ⟨(adf.add (j * 4)).block, (adf.add (j * 4)).off + 2, none⟩ = some (.int .i64 zh) ∧ w'.cell? ⟨(adf.add (j * 4)).block, (adf.add (j * 4)).off + 3, none⟩ = some (.int .i64 zn)) (ds := [9]) (bAg 10 0) (by kernel_rfl) rfl rfl ⟨(blk_cell (HB.out.get 5 rfl) 2).trans rfl, (HE.out _ (HB.out.get 4 rfl)).1, (HE.out _ (HB.out.get 4 rfl)).2.1, (HE.out _ (HB.out.get 4 rfl)).2.2.1, (HE.out _ (HB.out.get 4 rfl)).2.2.2⟩ (fun hHeld => ?_); refine with_tabW apply24.tab apply24.bits (fun HT_ HW_ => ?_)
              generalize wr.drew = wd at HB HO hHeld ⊢
              refine pure_ (i := 0) (N := some 162) (v := ?_) (a' := ?_) (bAg 10 1) rfl rfl (any_of HT_.out (by kernel_rfl)) (fun _ _ _ h => h) (Or.inl ⟨by rfl, ?_⟩) ?_ ?_
              rotate_left
              · intro w'
                go_simp
                with_reducible rfl
              rotate_left
              · simp only [Act.put, sg1, sg2, sg3, i64_w, i32_w]
                rfl
              refine take_ (i := 1) (N := some 163) (v := ?_) (a' := ?_) (bAg 10 3) rfl rfl (take_ofW HT_.out HW_.out (by kernel_rfl)) (fun _ _ _ h => h) (Or.inl ⟨by rfl, ?_⟩) hHeld ?_ ?_
              rotate_left
              · rintro w' ⟨s0_, s1_, s2_, s3_, s4_⟩
                go_simp
                with_reducible rfl
              rotate_left
              · simp only [Act.put, sg1, sg2, sg3, i64_w, i32_w]
                rfl
              refine pure_ (i := 2) (N := some 164) (v := ?_) (a' := ?_) (bAg 10 7) rfl rfl (any_of HT_.out (by kernel_rfl)) (fun _ _ _ h => h) (Or.inl ⟨by rfl, ?_⟩) ?_ ?_
              rotate_left
              · intro w'
                go_simp
                with_reducible rfl
              rotate_left
              · simp only [Act.put, sg1, sg2, sg3, i64_w, i32_w]
                rfl
              refine pure_ (i := 3) (N := some 165) (v := ?_) (a' := ?_) (bAg 10 15) rfl rfl (any_of HT_.out (by kernel_rfl)) (fun _ _ _ h => h) (Or.inl ⟨by rfl, ?_⟩) ?_ ?_
              rotate_left
              · intro w'
                go_simp
                with_reducible rfl
              rotate_left
              · simp only [Act.put, sg1, sg2, sg3, i64_w, i32_w]
                rfl
              refine pure_ (i := 4) (N := some 166) (v := ?_) (a' := ?_) (bAg 10 31) rfl rfl (any_of HT_.out (by kernel_rfl)) (fun _ _ _ h => h) (Or.inl ⟨by rfl, ?_⟩) ?_ ?_
              rotate_left
              · intro w'
                go_simp
                with_reducible rfl
              rotate_left
              · simp only [Act.put, sg1, sg2, sg3, i64_w, i32_w]
                rfl
              refine take_ (i := 5) (N := some 167) (v := ?_) (a' := ?_) (bAg 10 63) rfl rfl (take_ofW HT_.out HW_.out (by kernel_rfl)) (fun _ _ _ h => h) (Or.inl ⟨by rfl, ?_⟩) hHeld ?_ ?_
              rotate_left
              · rintro w' ⟨s0_, s1_, s2_, s3_, s4_⟩
                go_simp
                with_reducible rfl
              rotate_left
              · simp only [Act.put, sg1, sg2, sg3, i64_w, i32_w]
                rfl
              refine one_ (i := 6) (N := some 168) (bAg 10 127) rfl rfl (one_of HT_.out (by kernel_rfl)) (by decide) (fun K hK => ?_)
              refine value_ (w1 := ?_) (v := ?_) (by rfl) rfl ?_ ?_
              rotate_left 2
              · go_simp
                constructor
                · rfl
                rfl
              refine hK.out _ _ ⟨(blk_cell (blk_alloc (HB.out.get 5 rfl) _) 2).trans rfl, (HE.out _ (blk_alloc (HB.out.get 4 rfl) _)).1, (HE.out _ (blk_alloc (HB.out.get 4 rfl) _)).2.1, (HE.out _ (blk_alloc (HB.out.get 4 rfl) _)).2.2.1, (HE.out _ (blk_alloc (HB.out.get 4 rfl) _)).2.2.2⟩ (fun hHeld => ?_)
              clear hK K
              refine norm_ (a' := ?_) ?_ ?_
              rotate_left
              · show Act.put _ (some 168) _ = _
                simp only [Act.put, sg1, sg2, sg3, i64_w, i32_w]
                rfl
              refine one_ (i := 7) (N := some 169) (bAg 10 255) rfl rfl (one_of HT_.out (by kernel_rfl)) (by decide) (fun K hK => ?_)
              refine Kd.R_append_step k82 (w0 := w) w.heap.size (by rfl) (.tmp 163) (.tmp 168) 28 82 (.agg #[(.int .i64 0), (.int .i64 0), (.int .i64 0), (.int .i64 0)]) 32 rfl Try.underlying28 info82_ rfl (by decide) (by omega) (.slice A5 _ c5) out (⟨zi, ⟨zl, zh⟩, zn⟩ : S82) [.int .i64 zi, .int .i64 zl, .int .i64 zh, .int .i64 zn] (Off [b4, b8, b10, g11, g12, b13]) (fun _ => False) rfl rfl (k82_mkM _ _ _ _) (fun _ hk => hk.elim) (HB.out.fresh rfl) HO.out HB.out.bel HB.out.bel.size (by have := hll.out; omega) ?_
              intro v1 w9 ho hb hg hat
              replace HB := Aside0.mk (HB.out.grown rfl HO.out.1 hg hb)
              obtain ⟨out2, ho2⟩ : ∃ out2 : List S82, out2 = out ++ [⟨zi, ⟨zl, zh⟩, zn⟩] := ⟨_, rfl⟩
              rw [← ho2] at ho
              obtain ⟨A6, c6, rfl⟩ := Kd.R_slice ho
              replace HO := Aside0.mk ho
              have HO2 := Aside0.mk ho2
              clear ho ho2 hb hg hat
              refine hK.out _ _ ⟨(blk_cell (HB.out.get 5 rfl) 2).trans rfl, (HE.out _ (HB.out.get 4 rfl)).1, (HE.out _ (HB.out.get 4 rfl)).2.1, (HE.out _ (HB.out.get 4 rfl)).2.2.1, (HE.out _ (HB.out.get 4 rfl)).2.2.2⟩ (fun hHeld => ?_)
              clear hK K
              refine norm_ (a' := ?_) ?_ ?_
              rotate_left
              · show Act.put _ (some 169) _ = _
                simp only [Act.put, sg1, sg2, sg3, i64_w, i32_w]
                rfl
              refine pure_ (i := 8) (N := some 170) (v := ?_) (a' := ?_) (bAg 10 511) rfl rfl (any_of HT_.out (by kernel_rfl)) (fun _ _ _ h => h) (Or.inl ⟨by rfl, ?_⟩) ?_ ?_
              rotate_left
              · intro w'
                go_simp
                with_reducible rfl
              rotate_left
              · simp only [Act.put, sg1, sg2, sg3, i64_w, i32_w]
                rfl
              refine last_ (i := 9) (N := none) (bAg 10 1023) rfl rfl (one_of HT_.out (by kernel_rfl)) (by decide) (fun K hK => ?_)
              have t2 : World.cell? _ ⟨b13, 2, none⟩ = some (.slice A5 out.length c5) := (blk_cell (HB.out.get 5 rfl) 2).trans rfl
              have tz2 : World.frozen? _ ⟨b13, 2, none⟩ = false := blk_frozen (HB.out.get 5 rfl) 2
              refine skip_ (w1 := ?_) (by rfl) rfl ?_ ?_
              rotate_left
              · go_simp
                rfl
              refine hK.out _ _ ?_
              clear hK K t2 tz2
              replace HB : Aside0 (Bx w (w9.setCell ⟨b13, 2, none⟩ (.slice A6 out2.length c6)) [(b4, #[.int .i64 a0_0, .int .i64 a0_1, .slice (some ad) l0_2.length c0_2], 30), (b8, #[.int .i64 0, .int .i64 0, .slice none 0 0, .slice none 0 0, .slice none 0 0, .int .i64 0], 43), (b10, #[.int .i64 xi, .int .i64 xl, .int .i64 xh, .int .i64 xn], 82), (g11, #[.int .i64 xi, .int .i64 xl, .int .i64 xh, .int .i64 xn], 82), (g12, #[.int .i64 a0_1, .int .i64 xl, .int .i64 xh, .int .i64 a3], 82), (b13, #[.int .i64 e2, .int .i64 n2, .slice A6 out2.length c6], 30)]) := ⟨HB.out.set 5 2 (.slice A6 out2.length c6) rfl⟩
              replace HO := Aside0.mk (R_setB HO.out (g := b13) (by simp) 2 (.slice A6 out2.length c6))
              generalize w9.setCell ⟨b13, 2, none⟩ (.slice A6 out2.length c6) = w11 at HB HO ⊢
              refine done_ (done_of HT_.out (by kernel_rfl)) ?_
              clear HT_ HW_
              try clear hHeld
              go_wp2
              exact ⟨⟨j + 1, _, by omega, by first | rfl | go_num, HB, ⟨by rw [take_rd fresh j (by have := HFr.out.2; omega), HZe.out, ← List.append_assoc, HL.out, ← HO2.out]; exact HO.out⟩⟩, by simp [intOf]; omega⟩
            · obtain rfl : j = 1 := by omega
              have q0 : decide (((1 : Nat) : Int) < 1) = false := by decide
              have q2 : decide ((m : Int) < (m : Int)) = false := decide_eq_false (by omega)
              have hwo : IntKind.i64.wrap ((m : Int) + 1) = (m : Int) + 1 := IntWalk.i64_in _ (by omega)
              have q3 : decide ((m : Int) ≥ (m : Int) + 1) = false := decide_eq_false (by omega)
              have q4 : decide ((m : Int) + 1 ≤ (m : Int)) = false := decide_eq_false (by omega)
              have q5 : ¬ ((m : Int) + 1 ≤ (m : Int)) := by omega
              go_wp2
              have hs := outAt_at l0_2 fresh m 1 (by omega) (by have := HLt.out; omega)
              have hf := HL.out
              rw [show fresh.take 1 = fresh from List.take_of_length_le (by have := HFr.out.2; omega), ← hs] at hf
              have hm9 := HLt.out
              exact ⟨⟨m + 1, _, by omega, by first | rfl | go_num, HB, ⟨by rw [hf]; exact HO.out⟩⟩, by simp [intOf]; omega⟩
        · have q1 : ((m : Int) == (i : Int)) = false := beq_eq_false_iff_ne.mpr (by omega)
          have q2 : decide ((m : Int) < (i : Int)) = false := decide_eq_false (by omega)
          have q3 : ¬ (m : Int) < (i : Int) := by omega
          have hwo : IntKind.i64.wrap ((i : Int) + 1) = (i : Int) + 1 := IntWalk.i64_in _ (by omega)
          by_cases hmo : i + 1 ≤ m
          · have q4 : decide ((m : Int) ≥ (i : Int) + 1) = true := decide_eq_true (by omega)
            have q5 : decide ((i : Int) + 1 ≤ (m : Int)) = true := decide_eq_true (by omega)
            obtain ⟨ad_, e0, z0, z1, z2, z3⟩ := at_T82 HR0.out (m : Int) p00 p0
            injection e0 with e0
            subst e0
            generalize hz : rd_T82 l0_2 (m : Int) = z at z0 z1 z2 z3
            obtain ⟨zi, ⟨zl, zh⟩, zn⟩ := z
            rw [Int.toNat_natCast] at z0 z1 z2 z3
            dsimp only at z0 z1 z2 z3
            have HZ := Aside0.mk (And.intro z0 (And.intro z1 (And.intro z2 z3)))
            have HZe := Aside0.mk hz
            clear z0 z1 z2 z3 hz
            go_upto_region 26 with (fail)
            clear y0 y1 y2
            clear q0 q1 q2 q3 q4 q5 hwo
            replace HB := Aside0.mk (HB.out.below (below_drew (Below.refl _ _)))
            replace HO := Aside0.mk (Kd.R_below HO.out (below_drew (Below.refl _ _)))
            refine start_ (n := 11) (S := fun w' => w'.cell? ⟨b13, 2, none⟩ = some (.slice A5 out.length c5) ∧ w'.cell? ⟨b4, 2, none⟩ = some (.slice (some ad) l0_2.length c0_2) ∧ w'.cell? (ad.add (m * 4)) = some (.int .i64 zi) ∧ w'.cell? ⟨(ad.add (m * 4)).block, (ad.add (m * 4)).off + 1, none⟩ = some (.int .i64 zl) ∧ w'.cell? ⟨(ad.add (m * 4)).block, (ad.add (m * 4)).off + 2, none⟩ = some (.int .i64 zh) ∧ w'.cell? ⟨(ad.add (m * 4)).block, (ad.add (m * 4)).off + 3, none⟩ = some (.int .i64 zn)) (ds := [10]) (bAg 11 0) (by kernel_rfl) rfl rfl ⟨(blk_cell (HB.out.get 5 rfl) 2).trans rfl, (blk_cell (HB.out.get 0 rfl) 2).trans rfl, cellB HB.out.bel HZ.out.1, cellB HB.out.bel HZ.out.2.1, cellB HB.out.bel HZ.out.2.2.1, cellB HB.out.bel HZ.out.2.2.2⟩ (fun hHeld => ?_); refine with_tabW apply26.tab apply26.bits (fun HT_ HW_ => ?_)
            generalize wr.drew = wd at HB HO hHeld ⊢
            refine pure_ (i := 0) (N := some 182) (v := ?_) (a' := ?_) (bAg 11 1) rfl rfl (any_of HT_.out (by kernel_rfl)) (fun _ _ _ h => h) (Or.inl ⟨by rfl, ?_⟩) ?_ ?_
            rotate_left
            · intro w'
              go_simp
              with_reducible rfl
            rotate_left
            · simp only [Act.put, sg1, sg2, sg3, i64_w, i32_w]
              rfl
            refine take_ (i := 1) (N := some 183) (v := ?_) (a' := ?_) (bAg 11 3) rfl rfl (take_ofW HT_.out HW_.out (by kernel_rfl)) (fun _ _ _ h => h) (Or.inl ⟨by rfl, ?_⟩) hHeld ?_ ?_
            rotate_left
            · rintro w' ⟨s0_, s1_, s2_, s3_, s4_, s5_⟩
              go_simp
              with_reducible rfl
            rotate_left
            · simp only [Act.put, sg1, sg2, sg3, i64_w, i32_w]
              rfl
            refine pure_ (i := 2) (N := some 184) (v := ?_) (a' := ?_) (bAg 11 7) rfl rfl (any_of HT_.out (by kernel_rfl)) (fun _ _ _ h => h) (Or.inl ⟨by rfl, ?_⟩) ?_ ?_
            rotate_left
            · intro w'
              go_simp
              with_reducible rfl
            rotate_left
            · simp only [Act.put, sg1, sg2, sg3, i64_w, i32_w]
              rfl
            refine take_ (i := 3) (N := some 185) (v := ?_) (a' := ?_) (bAg 11 15) rfl rfl (take_ofW HT_.out HW_.out (by kernel_rfl)) (fun _ _ _ h => h) (Or.inl ⟨by rfl, ?_⟩) hHeld ?_ ?_
            rotate_left
            · rintro w' ⟨s0_, s1_, s2_, s3_, s4_, s5_⟩
              go_simp
              with_reducible rfl
            rotate_left
            · simp only [Act.put, sg1, sg2, sg3, i64_w, i32_w]
              rfl
            refine pure_ (i := 4) (N := some 186) (v := ?_) (a' := ?_) (bAg 11 31) rfl rfl (any_of HT_.out (by kernel_rfl)) (fun _ _ _ h => h) (Or.inl ⟨by rfl, ?_⟩) ?_ ?_
            rotate_left
            · intro w'
              go_simp
              with_reducible rfl
            rotate_left
            · simp only [Act.put, sg1, sg2, sg3, i64_w, i32_w]
              rfl
            refine pure_ (i := 5) (N := some 187) (v := ?_) (a' := ?_) (bAg 11 63) rfl rfl (any_of HT_.out (by kernel_rfl)) (fun _ _ _ h => h) (Or.inl ⟨by rfl, ?_⟩) ?_ ?_
            rotate_left
            · intro w'
              go_simp
              with_reducible rfl
            rotate_left
            · simp only [Act.put, sg1, sg2, sg3, i64_w, i32_w]
              rfl
            refine take_ (i := 6) (N := some 188) (v := ?_) (a' := ?_) (bAg 11 127) rfl rfl (take_ofW HT_.out HW_.out (by kernel_rfl)) (fun _ _ _ h => h) (Or.inl ⟨by rfl, ?_⟩) hHeld ?_ ?_
            rotate_left
            · rintro w' ⟨s0_, s1_, s2_, s3_, s4_, s5_⟩
              go_simp
              with_reducible rfl
            rotate_left
            · simp only [Act.put, sg1, sg2, sg3, i64_w, i32_w]
              rfl
            refine one_ (i := 7) (N := some 189) (bAg 11 255) rfl rfl (one_of HT_.out (by kernel_rfl)) (by decide) (fun K hK => ?_)
            refine value_ (w1 := ?_) (v := ?_) (by rfl) rfl ?_ ?_
            rotate_left 2
            · go_simp
              constructor
              · rfl
              rfl
            refine hK.out _ _ ⟨(blk_cell (blk_alloc (HB.out.get 5 rfl) _) 2).trans rfl, (blk_cell (blk_alloc (HB.out.get 0 rfl) _) 2).trans rfl, cellA (cellB HB.out.bel HZ.out.1), cellA (cellB HB.out.bel HZ.out.2.1), cellA (cellB HB.out.bel HZ.out.2.2.1), cellA (cellB HB.out.bel HZ.out.2.2.2)⟩ (fun hHeld => ?_)
            clear hK K
            refine norm_ (a' := ?_) ?_ ?_
            rotate_left
            · show Act.put _ (some 189) _ = _
              simp only [Act.put, sg1, sg2, sg3, i64_w, i32_w]
              rfl
            refine one_ (i := 8) (N := some 190) (bAg 11 511) rfl rfl (one_of HT_.out (by kernel_rfl)) (by decide) (fun K hK => ?_)
            refine Kd.R_append_step k82 (w0 := w) w.heap.size (by rfl) (.tmp 183) (.tmp 189) 28 82 (.agg #[(.int .i64 0), (.int .i64 0), (.int .i64 0), (.int .i64 0)]) 32 rfl Try.underlying28 info82_ rfl (by decide) (by omega) (.slice A5 _ c5) out (⟨zi, ⟨zl, zh⟩, zn⟩ : S82) [.int .i64 zi, .int .i64 zl, .int .i64 zh, .int .i64 zn] (Off [b4, b8, b10, g11, g12, b13]) (fun _ => False) rfl rfl (k82_mkM _ _ _ _) (fun _ hk => hk.elim) (HB.out.fresh rfl) HO.out HB.out.bel HB.out.bel.size (by have := hll.out; omega) ?_
            intro v1 w9 ho hb hg hat
            replace HB := Aside0.mk (HB.out.grown rfl HO.out.1 hg hb)
            obtain ⟨out2, ho2⟩ : ∃ out2 : List S82, out2 = out ++ [⟨zi, ⟨zl, zh⟩, zn⟩] := ⟨_, rfl⟩
            rw [← ho2] at ho
            obtain ⟨A6, c6, rfl⟩ := Kd.R_slice ho
            replace HO := Aside0.mk ho
            have HO2 := Aside0.mk ho2
            clear ho ho2 hb hg hat
            refine hK.out _ _ ⟨(blk_cell (HB.out.get 5 rfl) 2).trans rfl, (blk_cell (HB.out.get 0 rfl) 2).trans rfl, cellB HB.out.bel HZ.out.1, cellB HB.out.bel HZ.out.2.1, cellB HB.out.bel HZ.out.2.2.1, cellB HB.out.bel HZ.out.2.2.2⟩ (fun hHeld => ?_)
            clear hK K
            refine norm_ (a' := ?_) ?_ ?_
            rotate_left
            · show Act.put _ (some 190) _ = _
              simp only [Act.put, sg1, sg2, sg3, i64_w, i32_w]
              rfl
            refine pure_ (i := 9) (N := some 191) (v := ?_) (a' := ?_) (bAg 11 1023) rfl rfl (any_of HT_.out (by kernel_rfl)) (fun _ _ _ h => h) (Or.inl ⟨by rfl, ?_⟩) ?_ ?_
            rotate_left
            · intro w'
              go_simp
              with_reducible rfl
            rotate_left
            · simp only [Act.put, sg1, sg2, sg3, i64_w, i32_w]
              rfl
            refine last_ (i := 10) (N := none) (bAg 11 2047) rfl rfl (one_of HT_.out (by kernel_rfl)) (by decide) (fun K hK => ?_)
            have t2 : World.cell? _ ⟨b13, 2, none⟩ = some (.slice A5 out.length c5) := (blk_cell (HB.out.get 5 rfl) 2).trans rfl
            have tz2 : World.frozen? _ ⟨b13, 2, none⟩ = false := blk_frozen (HB.out.get 5 rfl) 2
            refine skip_ (w1 := ?_) (by rfl) rfl ?_ ?_
            rotate_left
            · go_simp
              rfl
            refine hK.out _ _ ?_
            clear hK K t2 tz2
            replace HB : Aside0 (Bx w (w9.setCell ⟨b13, 2, none⟩ (.slice A6 out2.length c6)) [(b4, #[.int .i64 a0_0, .int .i64 a0_1, .slice (some ad) l0_2.length c0_2], 30), (b8, #[.int .i64 0, .int .i64 0, .slice none 0 0, .slice none 0 0, .slice none 0 0, .int .i64 0], 43), (b10, #[.int .i64 xi, .int .i64 xl, .int .i64 xh, .int .i64 xn], 82), (g11, #[.int .i64 xi, .int .i64 xl, .int .i64 xh, .int .i64 xn], 82), (g12, #[.int .i64 a0_1, .int .i64 xl, .int .i64 xh, .int .i64 a3], 82), (b13, #[.int .i64 e2, .int .i64 n2, .slice A6 out2.length c6], 30)]) := ⟨HB.out.set 5 2 (.slice A6 out2.length c6) rfl⟩
            replace HO := Aside0.mk (R_setB HO.out (g := b13) (by simp) 2 (.slice A6 out2.length c6))
            generalize w9.setCell ⟨b13, 2, none⟩ (.slice A6 out2.length c6) = w11 at HB HO ⊢
            refine done_ (done_of HT_.out (by kernel_rfl)) ?_
            clear HT_ HW_
            try clear hHeld
            go_wp2
            have hs := outAt_gt l0_2 fresh i 1 m hmi hmo hlt
            exact ⟨⟨m + 1, _, by omega, by first | rfl | go_num, HB, ⟨by rw [hs, HL.out, HZe.out, ← HO2.out]; exact HO.out⟩⟩, by simp [intOf]; omega⟩
          · exact absurd (show i + 1 ≤ m by omega) hmo
      · obtain rfl : m = l0_2.length := by omega
        have q0 : decide (((l0_2.length : Nat) : Int) < (l0_2.length : Int)) = false := decide_eq_false (by omega)
        have p0 : ¬ (((l0_2.length : Nat) : Int) < (l0_2.length : Int)) := by omega
        have hl := HL.out
        rw [outAt_end l0_2 fresh i 1 hi] at hl
        have hc2 := HC2.out
        have h5 := H5.out
        rw [hl] at hc2 h5
        have HC3 := Aside0.mk hc2
        clear HC2 H5 HL hl hc2
        go_upto_region 27 with (fail)
        clear y0 y1 y2
        clear q0 p0
        have y0 : World.cell? wr ⟨b13, 0, none⟩ = some (.int .i64 e2) := (blk_cell (HB.out.get 5 rfl) 0).trans rfl
        have y1 : World.cell? wr ⟨b13, 1, none⟩ = some (.int .i64 n2) := (blk_cell (HB.out.get 5 rfl) 1).trans rfl
        have y2 : World.cell? wr ⟨b13, 2, none⟩ = some (.slice A5 out.length c5) := (blk_cell (HB.out.get 5 rfl) 2).trans rfl
        cases tt with
        | false =>
          rw [if_neg (by decide)] at h5
          simp only [Option.some.injEq, Prod.mk.injEq] at h5
          obtain ⟨rfl, rfl, rfl, rfl, rfl, rfl⟩ := h5
          go_upto_region 28 with (go_at_call 29; refine (spliceref08_Check.calls k e2 n2 A5 c5 out _ _ (Kd.R_reads' HO.out).2.2 (Kd.R_reads' HO.out).2.1 HC3.out).mono ?_; rintro e w12 ⟨rfl, hb⟩; replace HB := Aside0.mk (HB.out.below hb); replace HO := Aside0.mk (Kd.R_below HO.out hb); clear hb)
          clear y0 y1 y2
          have t0 : World.cell? w12 ⟨b8, 0, none⟩ = some (.int .i64 0) := (blk_cell (HB.out.get 1 rfl) 0).trans rfl
          have t1 : World.cell? w12 ⟨b8, 1, none⟩ = some (.int .i64 0) := (blk_cell (HB.out.get 1 rfl) 1).trans rfl
          have t2 : World.cell? w12 ⟨b8, 2, none⟩ = some (.slice none 0 0) := (blk_cell (HB.out.get 1 rfl) 2).trans rfl
          have t3 : World.cell? w12 ⟨b8, 3, none⟩ = some (.slice none 0 0) := (blk_cell (HB.out.get 1 rfl) 3).trans rfl
          have t4 : World.cell? w12 ⟨b8, 4, none⟩ = some (.slice none 0 0) := (blk_cell (HB.out.get 1 rfl) 4).trans rfl
          have t5 : World.cell? w12 ⟨b8, 5, none⟩ = some (.int .i64 0) := (blk_cell (HB.out.get 1 rfl) 5).trans rfl
          have tz0 : World.frozen? w12 ⟨b8, 0, none⟩ = false := blk_frozen (HB.out.get 1 rfl) 0
          have tz1 : World.frozen? w12 ⟨b8, 1, none⟩ = false := blk_frozen (HB.out.get 1 rfl) 1
          have tz2 : World.frozen? w12 ⟨b8, 2, none⟩ = false := blk_frozen (HB.out.get 1 rfl) 2
          have tz3 : World.frozen? w12 ⟨b8, 3, none⟩ = false := blk_frozen (HB.out.get 1 rfl) 3
          have tz4 : World.frozen? w12 ⟨b8, 4, none⟩ = false := blk_frozen (HB.out.get 1 rfl) 4
          have tz5 : World.frozen? w12 ⟨b8, 5, none⟩ = false := blk_frozen (HB.out.get 1 rfl) 5
          go_wp2
          replace HB : Aside0 (Bx w ((((((w12.setCell ⟨b8, 0, none⟩ (.int .i64 0)).setCell ⟨b8, 1, none⟩ (.int .i64 0)).setCell ⟨b8, 2, none⟩ (.slice none 0 0)).setCell ⟨b8, 3, none⟩ (.slice none 0 0)).setCell ⟨b8, 4, none⟩ (.slice none 0 0)).setCell ⟨b8, 5, none⟩ (.int .i64 2)) [(b4, #[.int .i64 a0_0, .int .i64 a0_1, .slice (some ad) l0_2.length c0_2], 30), (b8, #[.int .i64 0, .int .i64 0, .slice none 0 0, .slice none 0 0, .slice none 0 0, .int .i64 2], 43), (b10, #[.int .i64 xi, .int .i64 xl, .int .i64 xh, .int .i64 xn], 82), (g11, #[.int .i64 xi, .int .i64 xl, .int .i64 xh, .int .i64 xn], 82), (g12, #[.int .i64 a0_1, .int .i64 xl, .int .i64 xh, .int .i64 a3], 82), (b13, #[.int .i64 e2, .int .i64 n2, .slice A5 out.length c5], 30)]) := ⟨((((((HB.out.set 1 0 (.int .i64 0) rfl).set 1 1 (.int .i64 0) rfl).set 1 2 (.slice none 0 0) rfl).set 1 3 (.slice none 0 0) rfl).set 1 4 (.slice none 0 0) rfl).set 1 5 (.int .i64 2) rfl)⟩
          generalize ((((((w12.setCell ⟨b8, 0, none⟩ (.int .i64 0)).setCell ⟨b8, 1, none⟩ (.int .i64 0)).setCell ⟨b8, 2, none⟩ (.slice none 0 0)).setCell ⟨b8, 3, none⟩ (.slice none 0 0)).setCell ⟨b8, 4, none⟩ (.slice none 0 0)).setCell ⟨b8, 5, none⟩ (.int .i64 2)) = w99 at HB ⊢
          refine bodyPost_ret (results_single rfl (.cell b8 43 #[.int .i64 0, .int .i64 0, .slice none 0 0, .slice none 0 0, .slice none 0 0, .int .i64 2] (0, 0) _ rfl (HB.out.get 1 rfl) Try.underlying43 rfl (by kernel_rfl) .nil)) rfl ?_
          exact ⟨_, _, _, rfl, Kd.R_nil _ _ _ _ _, Kd.R_nil _ _ _ _ _, Kd.R_nil _ _ _ _ _, HB.out.bel⟩
        | true =>
          rw [if_pos rfl] at h5
          simp only [Option.some.injEq, Prod.mk.injEq] at h5
          obtain ⟨rfl, rfl, rfl, rfl, rfl, rfl⟩ := h5
          go_upto_region 29 with (go_at_call 29; refine (spliceref08_Check.calls k e2 n2 A5 c5 out _ _ (Kd.R_reads' HO.out).2.2 (Kd.R_reads' HO.out).2.1 HC3.out).mono ?_; rintro e w12 ⟨rfl, hb⟩; replace HB := Aside0.mk (HB.out.below hb); replace HO := Aside0.mk (Kd.R_below HO.out hb); clear hb)
          clear y0 y1 y2
          have y0 : World.cell? w12 ⟨b13, 0, none⟩ = some (.int .i64 e2) := (blk_cell (HB.out.get 5 rfl) 0).trans rfl
          have y1 : World.cell? w12 ⟨b13, 1, none⟩ = some (.int .i64 n2) := (blk_cell (HB.out.get 5 rfl) 1).trans rfl
          have y2 : World.cell? w12 ⟨b13, 2, none⟩ = some (.slice A5 out.length c5) := (blk_cell (HB.out.get 5 rfl) 2).trans rfl
          have t0 : World.cell? w12 ⟨b8, 0, none⟩ = some (.int .i64 0) := (blk_cell (HB.out.get 1 rfl) 0).trans rfl
          have t1 : World.cell? w12 ⟨b8, 1, none⟩ = some (.int .i64 0) := (blk_cell (HB.out.get 1 rfl) 1).trans rfl
          have t2 : World.cell? w12 ⟨b8, 2, none⟩ = some (.slice none 0 0) := (blk_cell (HB.out.get 1 rfl) 2).trans rfl
          have t3 : World.cell? w12 ⟨b8, 3, none⟩ = some (.slice none 0 0) := (blk_cell (HB.out.get 1 rfl) 3).trans rfl
          have t4 : World.cell? w12 ⟨b8, 4, none⟩ = some (.slice none 0 0) := (blk_cell (HB.out.get 1 rfl) 4).trans rfl
          have t5 : World.cell? w12 ⟨b8, 5, none⟩ = some (.int .i64 0) := (blk_cell (HB.out.get 1 rfl) 5).trans rfl
          have tz0 : World.frozen? w12 ⟨b8, 0, none⟩ = false := blk_frozen (HB.out.get 1 rfl) 0
          have tz1 : World.frozen? w12 ⟨b8, 1, none⟩ = false := blk_frozen (HB.out.get 1 rfl) 1
          have tz2 : World.frozen? w12 ⟨b8, 2, none⟩ = false := blk_frozen (HB.out.get 1 rfl) 2
          have tz3 : World.frozen? w12 ⟨b8, 3, none⟩ = false := blk_frozen (HB.out.get 1 rfl) 3
          have tz4 : World.frozen? w12 ⟨b8, 4, none⟩ = false := blk_frozen (HB.out.get 1 rfl) 4
          have tz5 : World.frozen? w12 ⟨b8, 5, none⟩ = false := blk_frozen (HB.out.get 1 rfl) 5
          go_wp2
          replace HB : Aside0 (Bx w ((((((w12.setCell ⟨b8, 0, none⟩ (.int .i64 e2)).setCell ⟨b8, 1, none⟩ (.int .i64 n2)).setCell ⟨b8, 2, none⟩ (.slice A5 out.length c5)).setCell ⟨b8, 3, none⟩ (.slice (some ⟨g11, 0, none⟩) 1 1)).setCell ⟨b8, 4, none⟩ (.slice (some adf) 1 1)).setCell ⟨b8, 5, none⟩ (.int .i64 0)) [(b4, #[.int .i64 a0_0, .int .i64 a0_1, .slice (some ad) l0_2.length c0_2], 30), (b8, #[.int .i64 e2, .int .i64 n2, .slice A5 out.length c5, .slice (some ⟨g11, 0, none⟩) 1 1, .slice (some adf) 1 1, .int .i64 0], 43), (b10, #[.int .i64 xi, .int .i64 xl, .int .i64 xh, .int .i64 xn], 82), (g11, #[.int .i64 xi, .int .i64 xl, .int .i64 xh, .int .i64 xn], 82), (g12, #[.int .i64 a0_1, .int .i64 xl, .int .i64 xh, .int .i64 a3], 82), (b13, #[.int .i64 e2, .int .i64 n2, .slice A5 out.length c5], 30)]) := ⟨((((((HB.out.set 1 0 (.int .i64 e2) rfl).set 1 1 (.int .i64 n2) rfl).set 1 2 (.slice A5 out.length c5) rfl).set 1 3 (.slice (some ⟨g11, 0, none⟩) 1 1) rfl).set 1 4 (.slice (some adf) 1 1) rfl).set 1 5 (.int .i64 0) rfl)⟩
          replace HO := Aside0.mk (R_setB (R_setB (R_setB (R_setB (R_setB (R_setB HO.out (g := b8) (by simp) 0 (.int .i64 e2)) (g := b8) (by simp) 1 (.int .i64 n2)) (g := b8) (by simp) 2 (.slice A5 out.length c5)) (g := b8) (by simp) 3 (.slice (some ⟨g11, 0, none⟩) 1 1)) (g := b8) (by simp) 4 (.slice (some adf) 1 1)) (g := b8) (by simp) 5 (.int .i64 0))
          generalize ((((((w12.setCell ⟨b8, 0, none⟩ (.int .i64 e2)).setCell ⟨b8, 1, none⟩ (.int .i64 n2)).setCell ⟨b8, 2, none⟩ (.slice A5 out.length c5)).setCell ⟨b8, 3, none⟩ (.slice (some ⟨g11, 0, none⟩) 1 1)).setCell ⟨b8, 4, none⟩ (.slice (some adf) 1 1)).setCell ⟨b8, 5, none⟩ (.int .i64 0)) = w99 at HB HO ⊢
          refine bodyPost_ret (results_single rfl (.cell b8 43 #[.int .i64 e2, .int .i64 n2, .slice A5 out.length c5, .slice (some ⟨g11, 0, none⟩) 1 1, .slice (some adf) 1 1, .int .i64 0] (0, 0) _ rfl (HB.out.get 1 rfl) Try.underlying43 rfl (by kernel_rfl) .nil)) rfl ?_
          have hga := HGa.out
          subst hga
          have hnd := HB.out.nd
          have hne : g11 ≠ g12 := by intro e; subst e; simp at hnd
          have hO1 := HO.out.1
          refine ⟨_, _, _, rfl, Kd.R_mono HO.out (fun k_ hk => ⟨fun e => hk g11 (by simp) (by simpa [Value.ownBlock] using e), fun e => hk g12 (by simp) (by simpa [Value.ownBlock] using e)⟩), R_ofB (HB.out.get 3 rfl) (HB.out.ge 3 rfl) ⟨fun e => hO1 g11 e.symm g11 (by simp) rfl, fun e => hne (by simpa [Value.ownBlock] using e)⟩ (by rw [HOl.out]; rfl) (by rw [HOl.out]; simp) (by rw [HOl.out]; exact reps1 _), R_ofB (HB.out.get 4 rfl) (HB.out.ge 4 rfl) ⟨fun e => hO1 g12 e.symm g12 (by simp) rfl, fun e => hne.symm (by simpa [Value.ownBlock] using e)⟩ HFr.out.2.symm (by rw [HFr.out.2]; decide) (by rw [HFr.out.1]; exact reps1 _), HB.out.bel⟩

end Go.Proofs.Ytbhlphadcphapaa.PD
