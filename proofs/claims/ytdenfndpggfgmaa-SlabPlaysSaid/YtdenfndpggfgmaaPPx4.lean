-- written by a program of this session
import Derived.Test.YtdenfndpggfgmaaPPx0
import Derived.Test.YtdenfndpggfgmaaPPx2
import Derived.Test.YtdenfndpggfgmaaPPx3
namespace Go.Proofs.Ytdenfndpggfgmaa.PP
open Go.RowKit Go.Proofs.Ytdenfndpggfgmaa.Op Go.Proofs.YtdenfndpggfgmaaW.PrintWords Go.Proofs.YtdenfndpggfgmaaW.PrintLast Go.Proofs.YtdenfndpggfgmaaW.PrintMore
attribute [local go_sem] max2_int min2_int max_two min_two max_three min_three max_four min_four   -- for this text's walks alone
set_option linter.unusedVariables false
set_option linter.unusedSimpArgs false

/-! ### the slab: what is written -/
theorem IsSl.loss {w W : World} {g rb mb n : Nat} {s : Sl} (h : IsSl w W g rb mb n s) : ∃ A c, W.cell? ⟨g, 3, none⟩ = some (.slice A s.keep.length c) ∧ W.cell? ⟨g, 4, none⟩ = some (.int .i64 s.torn) ∧ W.cell? ⟨g, 5, none⟩ = some (.int .i64 s.at_) ∧ s.keep.length ≤ c ∧ ∀ W', SlKept W W' g rb mb → Kd.C (Kd.int .i64) W' A s.keep.length s.keep := by
  obtain ⟨vk, h1, h2⟩ := h.own
  obtain ⟨A, c, rfl⟩ := Kd.R_slice h2
  refine ⟨A, c, (blk_cell h1 3).trans rfl, (blk_cell h1 4).trans rfl, (blk_cell h1 5).trans rfl, (Kd.R_reads' h2).2.1, fun W' hk => ?_⟩
  exact (Kd.R_reads' (Kd.R_step h2 (fun i hi hlt => hk.2 i hlt (hi.1 g (by simp)) (hi.1 rb (by simp)) (hi.1 mb (by simp))))).2.2
def putB (b : List (ByteArray × Option ByteArray)) (i : Nat) (t : ByteArray) : List (ByteArray × Option ByteArray) := b.mapIdx (fun j x => if j = i then (x.1, some t) else x)
theorem putB_len (b : List (ByteArray × Option ByteArray)) (i : Nat) (t : ByteArray) : (putB b i t).length = b.length := by unfold putB; exact List.length_mapIdx
theorem putB_get (b : List (ByteArray × Option ByteArray)) (i : Nat) (t : ByteArray) (j : Nat) : (putB b i t)[j]? = b[j]?.map (fun x => if j = i then (x.1, some t) else x) := by unfold putB; rw [List.getElem?_mapIdx]
theorem putB_strs (b : List (ByteArray × Option ByteArray)) (i : Nat) (t : ByteArray) : strs (putB b i t) = strs b := by
  unfold strs
  congr 1
  refine List.ext_getElem? (fun j => ?_)
  rw [List.getElem?_map, putB_get, List.getElem?_map]
  cases b[j]? with
  | none => rfl
  | some x => simp only [Option.map_some]; split <;> rfl
theorem putB_small (b : List (ByteArray × Option ByteArray)) (i : Nat) (t : ByteArray) (ht : t.size ≤ 256) (h : ∀ x ∈ b, x.1.size ≤ 256 ∧ ∀ t, x.2 = some t → t.size ≤ 256) : ∀ x ∈ putB b i t, x.1.size ≤ 256 ∧ ∀ t, x.2 = some t → t.size ≤ 256 := by
  intro x hx
  unfold putB at hx
  obtain ⟨j, hj, rfl⟩ := List.mem_mapIdx.1 hx
  have hm := h b[j] (List.getElem_mem _)
  split
  · exact ⟨hm.1, fun u hu => by injection hu with hu; rw [← hu]; exact ht⟩
  · exact hm
theorem SlAs.put {D : DW} {b : List (ByteArray × Option ByteArray)} (h : SlAs D b) (hD : Maps.IsMap D) (i : Nat) (hi : i < b.length) (t : ByteArray) : SlAs (D.put (.int .i64 (i : Int)) (.lit (.string t.data.toList))) (putB b i t) := by
  have kk : WideAt.IsKeyLit (.int .i64 (i : Int)) := by simp [WideAt.IsKeyLit]
  have ne : ∀ j : Nat, j ≠ i → (Lit.int .i64 (j : Int)) ≠ .int .i64 (i : Int) := fun j hj e => hj (by injection e with _ e; omega)
  refine ⟨fun j x hx => ?_, fun j x u hx => ?_, fun kl hk => ?_⟩
  · rw [putB_get] at hx
    cases hb : b[j]? with
    | none => rw [hb] at hx; simp at hx
    | some y =>
      rw [hb, Option.map_some] at hx
      by_cases e : j = i
      · rw [if_pos e] at hx; simp at hx
      · rw [if_neg e] at hx
        injection hx with hx
        rw [Maps.has_put_other (ne j e)]
        exact h.none_ j x (hb.trans (by rw [hx]))
  · rw [putB_get] at hx
    cases hb : b[j]? with
    | none => rw [hb] at hx; simp at hx
    | some y =>
      rw [hb, Option.map_some] at hx
      by_cases e : j = i
      · rw [if_pos e] at hx
        subst e
        have eu : t = u := by simp at hx; exact hx.2
        subst eu
        exact ⟨Maps.has_put_same hD kk _, fun zd => Maps.atKey_put_same hD kk _ _⟩
      · rw [if_neg e] at hx
        injection hx with hx
        have h2 := h.some_ j x u (hb.trans (by rw [hx]))
        exact ⟨by rw [Maps.has_put_other (ne j e)]; exact h2.1, fun zd => by rw [Maps.atKey_put_other (ne j e)]; exact h2.2 zd⟩
  · by_cases e : kl = .int .i64 (i : Int)
    · exact ⟨i, by rw [putB_len]; exact hi, e⟩
    · rw [Maps.has_put_other e] at hk
      obtain ⟨j, hj, e2⟩ := h.in_ kl hk
      exact ⟨j, by rw [putB_len]; exact hj, e2⟩
theorem IsSl.put {w W w1 : World} {g rb mb n : Nat} {s : Sl} (h : IsSl w W g rb mb n s) {D : DW} (hown : W.ownsMap Try.prog 3 (plainElem Try.prog 9) mb n D) (hA : SlAs D s.b) (i : Nat) (hi : i < s.b.length) (t : ByteArray) (ht : t.size ≤ 256)
    (h1 : w1.ownsMap Try.prog 3 (plainElem Try.prog 9) mb (n + 1) (D.put (.int .i64 (i : Int)) (.lit (.string t.data.toList)))) (hg : W.grownBy w1 (some mb)) : IsSl w w1 g rb mb (n + 1) { s with b := putB s.b i t } ∧ SlKept W w1 g rb mb := by
  obtain ⟨vk, o1, o2⟩ := h.own
  have hk : SlKept W w1 g rb mb := ⟨hg.size, fun i hi _ _ h3 => hg.block i hi (by intro e; injection e with e; exact h3 e)⟩
  have hl := h.lts
  refine ⟨⟨⟨vk, ?_, ?_⟩, ?_, ⟨_, h1, hA.put hown.isMap i hi t⟩, by rw [putB_len]; exact h.len, putB_small _ _ _ ht h.small, h.wt, h.kl, h.g1, h.r1, h.m1, h.gr, h.gm, h.rm, ?_⟩, hk⟩
  · rw [hg.block g hl.1 (by intro e; injection e with e; exact h.gm e), o1]; simp only [putB_len]
  · exact Kd.R_step o2 (fun i hi hlt => hk.2 i hlt (hi.1 g (by simp)) (hi.1 rb (by simp)) (hi.1 mb (by simp)))
  · rw [hg.block rb hl.2.1 (by intro e; injection e with e; exact h.rm e), h.row]; simp only [putB_strs]
  · exact ⟨hg.os.trans h.bel.os, hg.tape.trans h.bel.tape, hg.output.trans h.bel.output, Nat.le_trans h.bel.size hg.size, fun i hi => (hg.block i (Nat.lt_of_lt_of_le hi h.bel.size) (by intro e; injection e with e; have := h.m1; omega)).trans (h.bel.block i hi)⟩
def Sl.write (s : Sl) (i : Int) (t : ByteArray) : Sl × Int :=
  if rdy s (hasB s i && decide ((t.size : Int) ≤ 256)) ≠ 0 then (s, rdy s (hasB s i && decide ((t.size : Int) ≤ 256))) else
  if ({ s with b := putB s.b i.toNat t } : Sl).tick.2 = true then (({ s with b := putB s.b i.toNat t } : Sl).tick.1.fail s.keep s.torn s.at_, 9) else (({ s with b := putB s.b i.toNat t } : Sl).tick.1, 0)
theorem IsSl.more {w W : World} {g rb mb n m : Nat} {s : Sl} (h : IsSl w W g rb mb n s) (hm : n ≤ m) : IsSl w W g rb mb m s := by
  obtain ⟨D, h1, h2⟩ := h.map
  exact { h with map := ⟨D, h1.mono hm, h2⟩ }
theorem tick_keep (s : Sl) : s.tick.1.keep = s.keep ∧ s.tick.1.torn = s.torn ∧ s.tick.1.at_ = s.at_ ∧ s.tick.1.b = s.b ∧ s.tick.1.down = s.down := by unfold Sl.tick; split <;> exact ⟨rfl, rfl, rfl, rfl, rfl⟩
theorem tests (q : Int) (h : q ≠ 0) : (q == 0) = false ∧ (q != 0) = true ∧ decide (q = 0) = false := ⟨beq_eq_false_iff_ne.mpr h, bne_iff_ne.mpr h, decide_eq_false h⟩
theorem rdy_false (s : Sl) : rdy s false ≠ 0 := by unfold rdy; split <;> decide
theorem rdy_down (s : Sl) (may : Bool) (h : s.down = true) : rdy s may = 9 := by unfold rdy; rw [if_pos h]
theorem rdy_up (s : Sl) (h : s.down = false) : rdy s true = 0 := by unfold rdy; rw [if_neg (by rw [h]; decide), if_pos rfl]
set_option maxRecDepth 100000 in
theorem slab_write_no {w W : World} {g rb mb n : Nat} {s : Sl} (h : IsSl w W g rb mb n s) (i : Int) (t : ByteArray) (hr : rdy s (hasB s i && decide ((t.size : Int) ≤ 256)) ≠ 0) :
    Calls Try.prog 12 #[.pointer (some ⟨g, 0, none⟩), .int .i64 i, .string t] W fun e W' => e = .returned (.int .i64 (rdy s (hasB s i && decide ((t.size : Int) ≤ 256)))) ∧ W = W' := by
  have HB := Aside0.mk (slab_block h i)
  have HR := Aside0.mk (slab_ready h (hasB s i && decide ((t.size : Int) ≤ 256)))
  generalize rdy s (hasB s i && decide ((t.size : Int) ≤ 256)) = q at hr HR ⊢
  obtain ⟨t1, t2, t3⟩ := tests q hr
  clear h hr
  cases hb : hasB s i
  · rw [hb] at HB HR
    rw [Bool.false_and] at HR
    clear hb
    go_enter Try.func12, Try.ntmps12
    go_wp2_with (first | (go_at_call 27; refine HB.out.mono ?_; rintro e w1 ⟨rfl, rfl⟩) | (go_at_call 26; refine HR.out.mono ?_; rintro e w1 ⟨rfl, rfl⟩))
    go_ret
    exact ⟨rfl, rfl⟩
  · rw [hb] at HB HR
    rw [Bool.true_and] at HR
    clear hb
    go_enter Try.func12, Try.ntmps12
    go_wp2_with (first | (go_at_call 27; refine HB.out.mono ?_; rintro e w1 ⟨rfl, rfl⟩) | (go_at_call 26; refine HR.out.mono ?_; rintro e w1 ⟨rfl, rfl⟩))
    go_ret
    exact ⟨rfl, rfl⟩
set_option maxRecDepth 100000 in
theorem slab_write_yes {w W : World} {g rb mb n : Nat} {s : Sl} (h : IsSl w W g rb mb n s) (hn : n < 1000000) (i : Int) (t : ByteArray) (hd : s.down = false) (hi : hasB s i = true) (ht : (t.size : Int) ≤ 256) :
    Calls Try.prog 12 #[.pointer (some ⟨g, 0, none⟩), .int .i64 i, .string t] W fun e W' => e = .returned (.int .i64 (s.write i t).2) ∧ IsSl w W' g rb mb (n + 1) (s.write i t).1 ∧ SlKept W W' g rb mb := by
  have e0 : rdy s (hasB s i && decide ((t.size : Int) ≤ 256)) = 0 := by rw [hi, decide_eq_true ht]; exact rdy_up s hd
  have HB := Aside0.mk (slab_block h i)
  have HR := Aside0.mk (slab_ready h true)
  rw [hi] at HB
  rw [rdy_up s hd] at HR
  unfold Sl.write
  rw [if_neg (by rw [e0]; simp)]
  have hi2 := hi
  simp only [hasB, Bool.and_eq_true, decide_eq_true_eq] at hi2
  obtain ⟨j, rfl⟩ : ∃ j : Nat, i = (j : Int) := ⟨i.toNat, by omega⟩
  obtain ⟨D, hown, hA⟩ := h.map
  obtain ⟨c0, c1, _, _⟩ := h.cells
  have hlen := h.len
  have hj : j < s.b.length := by omega
  have HP := Aside0.mk (fun (w1 : World) => h.put (w1 := w1) hown hA j hj t (by omega))
  have HO := Aside0.mk hown
  have HK := Aside0.mk (key64 (j : Int) (by omega) (by omega))
  have HT := Aside0.mk (plainElem_string (H := Unit) Try.underlying9 (s := t) (by unfold maxLen; omega))
  have q1 : decide ((t.size : Int) ≤ 256) = true := decide_eq_true ht
  have HN := Aside0.mk hn
  rw [Int.toNat_natCast]
  have hkp := tick_keep { s with b := putB s.b j t }
  obtain ⟨s1, hs1⟩ : ∃ s1 : Sl, s1 = { s with b := putB s.b j t } := ⟨_, rfl⟩
  rw [← hs1] at HP hkp ⊢
  have k1 : s1.keep = s.keep := by rw [hs1]
  have k2 : s1.torn = s.torn := by rw [hs1]
  have k3 : s1.at_ = s.at_ := by rw [hs1]
  rw [← k1, ← k2, ← k3]
  obtain ⟨p1, p2, p3, _, _⟩ := hkp
  rw [← p1, ← p2, ← p3]
  clear hs1 k1 k2 k3 p1 p2 p3
  clear hown hA h hi hi2 hlen hj hd e0 ht hn
  cases htk : s1.tick.2
  · rw [if_neg (by decide)]
    go_enter Try.func12, Try.ntmps12
    go_upto_region 5 with (first | (go_at_call 27; refine HB.out.mono ?_; rintro e w1 ⟨rfl, rfl⟩) | (go_at_call 26; refine HR.out.mono ?_; rintro e w1 ⟨rfl, rfl⟩) | (at_mapUpdate; have hown := HO.out; refine wpList_mapUpdate_own _ rfl _ _ _ 60 rfl 3 9 (Maps.int_keyed Try.underlying3) Try.underlying60 _ mb n D rfl hown (by have := HN.out; unfold maxLen; omega) _ _ (.int .i64 (j : Int)) rfl rfl HK.out _ [] HT.out ?_; intro w1 hown1 hgrow1; obtain ⟨hs1, hk1⟩ := HP.out w1 hown1 hgrow1; have HS := Aside0.mk hs1; have HK1 := Aside0.mk hk1; clear hown hown1 hgrow1 hs1 hk1))
    have HTr := Aside0.mk (slab_trips HS.out)
    rw [htk] at HTr
    clear c0 c1 htk
    go_wp2_with (go_at_call 28; refine HTr.out.mono ?_; rintro e w2 ⟨rfl, hs2, hk2⟩; have HS2 := Aside0.mk hs2; have HK2 := Aside0.mk hk2; clear hs2 hk2)
    go_ret
    exact ⟨rfl, HS2.out, HK1.out.trans HK2.out⟩
  · rw [if_pos rfl]
    go_enter Try.func12, Try.ntmps12
    go_upto_region 5 with (first | (go_at_call 27; refine HB.out.mono ?_; rintro e w1 ⟨rfl, rfl⟩) | (go_at_call 26; refine HR.out.mono ?_; rintro e w1 ⟨rfl, rfl⟩) | (at_mapUpdate; have hown := HO.out; refine wpList_mapUpdate_own _ rfl _ _ _ 60 rfl 3 9 (Maps.int_keyed Try.underlying3) Try.underlying60 _ mb n D rfl hown (by have := HN.out; unfold maxLen; omega) _ _ (.int .i64 (j : Int)) rfl rfl HK.out _ [] HT.out ?_; intro w1 hown1 hgrow1; obtain ⟨hs1, hk1⟩ := HP.out w1 hown1 hgrow1; have HS := Aside0.mk hs1; have HK1 := Aside0.mk hk1; clear hown hown1 hgrow1 hs1 hk1))
    have HTr := Aside0.mk (slab_trips HS.out)
    rw [htk] at HTr
    clear c0 c1 htk
    go_upto_region 6 with (go_at_call 28; refine HTr.out.mono ?_; rintro e w2 ⟨rfl, hs2, hk2⟩; have HS2 := Aside0.mk hs2; have HK2 := Aside0.mk hk2; clear hs2 hk2)
    obtain ⟨A, c, x3, x4, x5, hc, hkr⟩ := HS2.out.loss
    have HF := Aside0.mk (slab_fail HS2.out A c _ s1.tick.1.torn s1.tick.1.at_ hkr hc HS2.out.kl)
    clear hc hkr
    go_wp2_with (go_at_call 14; refine HF.out.mono ?_; rintro e w3 ⟨rfl, hs3, hk3⟩; have HS3 := Aside0.mk hs3; have HK3 := Aside0.mk hk3; clear hs3 hk3)
    go_ret
    exact ⟨rfl, HS3.out, (HK1.out.trans HK2.out).trans HK3.out⟩
theorem slab_write {w W : World} {g rb mb n : Nat} {s : Sl} (h : IsSl w W g rb mb n s) (hn : n < 1000000) (i : Int) (t : ByteArray) :
    Calls Try.prog 12 #[.pointer (some ⟨g, 0, none⟩), .int .i64 i, .string t] W fun e W' => e = .returned (.int .i64 (s.write i t).2) ∧ IsSl w W' g rb mb (n + 1) (s.write i t).1 ∧ SlKept W W' g rb mb := by
  by_cases hr : rdy s (hasB s i && decide ((t.size : Int) ≤ 256)) ≠ 0
  · refine (slab_write_no h i t hr).mono ?_
    rintro e W' ⟨rfl, rfl⟩
    unfold Sl.write
    rw [if_pos hr]
    exact ⟨rfl, h.more (by omega), SlKept.refl _ _ _ _⟩
  · have hd : s.down = false := by
      cases hd : s.down with
      | false => rfl
      | true => exact absurd (by rw [rdy_down s _ hd]; decide) hr
    have hm : (hasB s i && decide ((t.size : Int) ≤ 256)) = true := by
      cases hm : (hasB s i && decide ((t.size : Int) ≤ 256)) with
      | true => rfl
      | false => rw [hm] at hr; exact absurd (rdy_false s) hr
    rw [Bool.and_eq_true, decide_eq_true_eq] at hm
    exact slab_write_yes h hn i t hd hm.1 hm.2
theorem slab_write_nil (W : World) (i : Int) (t : ByteArray) :
    Calls Try.prog 12 #[.pointer none, .int .i64 i, .string t] W fun e W' => e = .returned (.int .i64 1) ∧ W = W' := by
  go_enter Try.func12, Try.ntmps12
  go_wp2_with (first | (go_at_call 27; refine (slab_block_nil _ _).mono ?_; rintro e w1 ⟨⟨b, rfl⟩, rfl⟩; cases b) | (go_at_call 26; refine (slab_ready_nil _ _).mono ?_; rintro e w1 ⟨rfl, rfl⟩))
  all_goals go_ret
  all_goals exact ⟨rfl, rfl⟩
def Sl.read (s : Sl) (i : Int) : ByteArray × Int :=
  if rdy s (hasB s i) ≠ 0 then (ByteArray.empty, rdy s (hasB s i)) else
  match s.b[i.toNat]? with
  | none => (ByteArray.empty, 1)
  | some (x, none) => (x, 0)
  | some (_, some t) => (t, 0)
set_option maxRecDepth 100000 in
theorem slab_read {w W : World} {g rb mb n : Nat} {s : Sl} (h : IsSl w W g rb mb n s) (i : Int) :
    Calls Try.prog 18 #[.pointer (some ⟨g, 0, none⟩), .int .i64 i] W fun e W' => e = .returned (.tuple #[.string (s.read i).1, .int .i64 (s.read i).2]) ∧ W = W' := by
  have HB := Aside0.mk (slab_block h i)
  have HR := Aside0.mk (slab_ready h (hasB s i))
  unfold Sl.read
  by_cases hr : rdy s (hasB s i) ≠ 0
  · rw [if_pos hr]
    generalize rdy s (hasB s i) = q at hr HR ⊢
    obtain ⟨t1, t2, t3⟩ := tests q hr
    clear h hr
    go_enter Try.func18, Try.ntmps18
    go_wp2_with (first | (go_at_call 27; refine HB.out.mono ?_; rintro e w1 ⟨rfl, rfl⟩) | (go_at_call 26; refine HR.out.mono ?_; rintro e w1 ⟨rfl, rfl⟩))
    go_ret2
    exact ⟨rfl, rfl⟩
  · rw [if_neg hr]
    have hr0 : rdy s (hasB s i) = 0 := Decidable.not_not.mp hr
    rw [hr0] at HR
    have hm : hasB s i = true := by
      cases hm : hasB s i with
      | true => rfl
      | false => rw [hm] at hr; exact absurd (rdy_false s) hr
    simp only [hasB, Bool.and_eq_true, decide_eq_true_eq] at hm
    obtain ⟨j, rfl⟩ : ∃ j : Nat, i = (j : Int) := ⟨i.toNat, by omega⟩
    have hj : j < s.b.length := by omega
    have hlen := h.len
    obtain ⟨D, hown, hA⟩ := h.map
    obtain ⟨c0, c1, _, _⟩ := h.cells
    have HK := Aside0.mk (key64 (j : Int) (by omega) (by omega))
    have HO := Aside0.mk hown
    rw [Int.toNat_natCast]
    obtain ⟨x, o, hx⟩ : ∃ x o, s.b[j]? = some (x, o) := ⟨_, _, List.getElem?_eq_getElem hj⟩
    have hrow : W.cell? ⟨rb, j, none⟩ = some (.string x) := (blk_cell h.row j).trans (by rw [strs_vals]; exact vals_get _ j x (by rw [List.getElem?_map, hx]; rfl))
    have zr : ∀ w : World, (zeroValue 9).run Try.prog w = .ok (.string ByteArray.empty) w := fun w => by kernel_rfl
    have HZ := Aside0.mk zr
    clear zr
    have HE := Aside0.mk (plainElem_string (H := Unit) Try.underlying9 (s := ByteArray.empty) (by decide))
    cases o with
    | none =>
      have hh := hA.none_ j x hx
      rw [hx]
      have HH := Aside0.mk hh
      clear hm hr hr0 hA hx hh h hown
      go_enter Try.func18, Try.ntmps18
      go_wp2_with (first | (go_at_call 27; refine HB.out.mono ?_; rintro e w1 ⟨rfl, rfl⟩) | (go_at_call 26; refine HR.out.mono ?_; rintro e w1 ⟨rfl, rfl⟩) | (at_lookup; have hown := HO.out; refine wpList_lookup_own_ok _ rfl _ _ 60 rfl 3 9 (Maps.int_keyed Try.underlying3) Try.underlying60 _ (HZ.out _) _ [] HE.out mb n D rfl hown _ (.int .i64 (j : Int)) rfl HK.out ?_; intro v ps hv; clear hown; rw [HH.out]; obtain ⟨t, rfl, _⟩ := plain_str Try.underlying9 hv; clear hv))
      go_ret2
      exact ⟨rfl, rfl⟩
    | some u =>
      obtain ⟨hh, hat⟩ := hA.some_ j x u hx
      rw [hx]
      have HH := Aside0.mk hh
      have HAt := Aside0.mk hat
      clear hm hr hr0 hA hx hh h hown hat
      go_enter Try.func18, Try.ntmps18
      go_wp2_with (first | (go_at_call 27; refine HB.out.mono ?_; rintro e w1 ⟨rfl, rfl⟩) | (go_at_call 26; refine HR.out.mono ?_; rintro e w1 ⟨rfl, rfl⟩) | (at_lookup; have hown := HO.out; refine wpList_lookup_own_ok _ rfl _ _ 60 rfl 3 9 (Maps.int_keyed Try.underlying3) Try.underlying60 _ (HZ.out _) _ [] HE.out mb n D rfl hown _ (.int .i64 (j : Int)) rfl HK.out ?_; intro v ps hv; clear hown; rw [HH.out]; rw [HAt.out] at hv; obtain ⟨t, rfl, ht⟩ := plain_str Try.underlying9 hv; obtain rfl := str_inj ht; clear hv ht))
      go_ret2
      exact ⟨rfl, rfl⟩
theorem slab_read_nil (W : World) (i : Int) :
    Calls Try.prog 18 #[.pointer none, .int .i64 i] W fun e W' => e = .returned (.tuple #[.string ByteArray.empty, .int .i64 1]) ∧ W = W' := by
  go_enter Try.func18, Try.ntmps18
  go_wp2_with (first | (go_at_call 27; refine (slab_block_nil _ _).mono ?_; rintro e w1 ⟨⟨b, rfl⟩, rfl⟩) | (go_at_call 26; refine (slab_ready_nil _ _).mono ?_; rintro e w1 ⟨rfl, rfl⟩))
  go_ret2
  exact ⟨rfl, rfl⟩
theorem slab_flush_nil (W : World) :
    Calls Try.prog 16 #[.pointer none] W fun e W' => e = .returned (.int .i64 1) ∧ W = W' := by
  go_enter Try.func16, Try.ntmps16
  go_wp2_with (go_at_call 26; refine (slab_ready_nil _ _).mono ?_; rintro e w1 ⟨rfl, rfl⟩)
  go_ret
  exact ⟨rfl, rfl⟩
def newF (i : Nat) (x t : ByteArray) : ByteArray := t
def Sl.flush (s : Sl) : Sl × Int :=
  if s.down = true then (s, 9) else if s.tick.2 = true then (s.tick.1.fail s.keep s.torn s.at_, 9) else ({ s.tick.1 with b := settle newF s.b }, 0)
set_option maxRecDepth 100000 in
theorem slab_flush_down {w W : World} {g rb mb n : Nat} {s : Sl} (h : IsSl w W g rb mb n s) (hd : s.down = true) :
    Calls Try.prog 16 #[.pointer (some ⟨g, 0, none⟩)] W fun e W' => e = .returned (.int .i64 9) ∧ W = W' := by
  have HR := Aside0.mk (slab_ready h true)
  rw [rdy_down s _ hd] at HR
  clear h hd
  go_enter Try.func16, Try.ntmps16
  go_wp2_with (go_at_call 26; refine HR.out.mono ?_; rintro e w1 ⟨rfl, rfl⟩)
  go_ret
  exact ⟨rfl, rfl⟩
set_option maxRecDepth 100000 in
theorem slab_flush_trip {w W : World} {g rb mb n : Nat} {s : Sl} (h : IsSl w W g rb mb n s) (hd : s.down = false) (ht : s.tick.2 = true) :
    Calls Try.prog 16 #[.pointer (some ⟨g, 0, none⟩)] W fun e W' => e = .returned (.int .i64 9) ∧ IsSl w W' g rb mb n (s.tick.1.fail s.keep s.torn s.at_) ∧ SlKept W W' g rb mb := by
  have HR := Aside0.mk (slab_ready h true)
  rw [rdy_up s hd] at HR
  have HTr := Aside0.mk (slab_trips h)
  rw [ht] at HTr
  obtain ⟨p1, p2, p3, _, _⟩ := tick_keep s
  rw [← p1, ← p2, ← p3]
  clear p1 p2 p3 h hd ht
  go_enter Try.func16, Try.ntmps16
  go_upto_region 5 with (first | (go_at_call 26; refine HR.out.mono ?_; rintro e w1 ⟨rfl, rfl⟩) | (go_at_call 28; refine HTr.out.mono ?_; rintro e w2 ⟨rfl, hs2, hk2⟩; have HS2 := Aside0.mk hs2; have HK2 := Aside0.mk hk2; clear hs2 hk2))
  obtain ⟨A, c, x3, x4, x5, hc, hkr⟩ := HS2.out.loss
  have HF := Aside0.mk (slab_fail HS2.out A c _ s.tick.1.torn s.tick.1.at_ hkr hc HS2.out.kl)
  clear hc hkr
  go_wp2_with (go_at_call 14; refine HF.out.mono ?_; rintro e w3 ⟨rfl, hs3, hk3⟩; have HS3 := Aside0.mk hs3; have HK3 := Aside0.mk hk3; clear hs3 hk3)
  go_ret
  exact ⟨rfl, HS3.out, HK2.out.trans HK3.out⟩
set_option maxRecDepth 100000 in
theorem slab_flush_ok {w W : World} {g rb mb n : Nat} {s : Sl} (h : IsSl w W g rb mb n s) (hd : s.down = false) (ht : s.tick.2 = false) :
    Calls Try.prog 16 #[.pointer (some ⟨g, 0, none⟩)] W fun e W' => e = .returned (.int .i64 0) ∧ IsSl w W' g rb mb n { s.tick.1 with b := settle newF s.b } ∧ SlKept W W' g rb mb := by
  have HR := Aside0.mk (slab_ready h true)
  rw [rdy_up s hd] at HR
  have HTr := Aside0.mk (slab_trips h)
  rw [ht] at HTr
  obtain ⟨p1, p2, p3, p4, _⟩ := tick_keep s
  rw [← p4]
  generalize s.tick.1 = s1 at HTr ⊢
  clear p1 p2 p3 p4 h hd ht
  go_enter Try.func16, Try.ntmps16
  go_upto_region 7 with (first | (go_at_call 26; refine HR.out.mono ?_; rintro e w1 ⟨rfl, rfl⟩) | (go_at_call 28; refine HTr.out.mono ?_; rintro e W0 ⟨rfl, hs2, hk2⟩; have HS := Aside0.mk hs2; have HB0 := Aside0.mk hk2; clear hs2 hk2))
  obtain ⟨c0, c1, c2, c6⟩ := HS.out.cells
  obtain ⟨D, hown, hAs⟩ := HS.out.map
  have HAs := Aside0.mk hAs
  have HO := Aside0.mk hown
  clear hAs hown
  go_wp2_with (first | (at_range; have hown := HO.out; refine wpList_range_own _ rfl _ 60 rfl 3 9 (Maps.int_keyed Try.underlying3) Try.underlying60 _ mb n D rfl hown ?_; intro w0 hrg0 hg0 hs0; clear hown) | go_in)
  go_frame
  have HR0 := Aside0.mk (Rg.start (F := newF) HS.out HAs.out hrg0 hg0)
  clear hrg0 hg0 hs0 c0 c1 c2 c6
  go_loopw [4, 5] (fun v4 v5 wr => ∃ left cnt, Aside0 (Rg w W0 wr g rb mb n W0.heap.size s1 D newF left left cnt) ∧ Aside0 (∀ kl, left kl = true → Maps.has D kl = true)) (fun _ _ wr => wr.rangeLeft mb W0.heap.size)
  case atStart => exact ⟨_, _, HR0, ⟨fun _ h => h⟩⟩
  case round =>
    obtain ⟨left, cnt, HR, HSub⟩ := hrel
    have hrg := HR.out.rg
    go_upto_if 25 with (at_next; refine wpList_next_ranges _ rfl _ rfl 3 (Maps.int_keyed Try.underlying3) (plainElem Try.prog 9) (Value.int .i64) Value.string (fun key kl h => by obtain ⟨x, rfl, _⟩ := Maps.keyOf_int_inv Try.underlying3 h; exact ⟨x, rfl⟩) (fun v y h => by obtain ⟨t, rfl, _⟩ := plain_str Try.underlying9 h; exact ⟨t, rfl⟩) mb W0.heap.size n D left cnt rfl hrg ?_ ?_; intro hz0 hl0; rotate_left; intro x c kl y w1 cnt1 hkey hlx hv hat hrg1 hlt hgr hsz hen; have HN := Aside0.mk (And.intro hkey (And.intro hlx (And.intro hv (And.intro hat (And.intro hrg1 (And.intro hlt (And.intro hgr hsz))))))); clear hkey hlx hv hat hrg1 hlt hgr hsz hrg)
    rotate_left
    · obtain ⟨c0, c1, c6, z6⟩ := HR.out.cells HS.out
      obtain ⟨w2, hrun, hm2, ht2⟩ := run_clear_map hrg.owns Try.underlying60 0
      obtain ⟨e1, e2⟩ := HR.out.done HS.out hl0 (fun _ _ _ _ h => h) hm2 ht2
      have HE := Aside0.mk e1
      have HE2 := Aside0.mk e2
      clear e1 e2 hm2 ht2 hl0 hz0 hrg
      go_wp2
      go_ret
      exact ⟨rfl, HE.out, HB0.out.trans HE2.out⟩
    · obtain ⟨hkey, hlx, hv, hat, hrg1, hlt, hgr, hsz⟩ := HN.out
      have hrg := HR.out.rg
      clear HN
      obtain ⟨x', ex, rfl, _⟩ := Maps.keyOf_int_inv Try.underlying3 hkey
      cases ex
      obtain ⟨i, o, rfl, hi, hb⟩ := HAs.out.entry (HSub.out _ hlx) hv hat
      have HR1 := Aside0.mk (HR.out.next HS.out (Nat.le_refl _) hrg1 hgr hsz)
      have HM := Aside0.mk hlt
      have HBi := Aside0.mk (And.intro hi hb)
      have HL := Aside0.mk hlx
      obtain ⟨c0, c1, c6, z6⟩ := HR1.out.cells HS.out
      obtain ⟨r0, r1⟩ := HR1.out.rowAt i o c hb hlx
      clear hb hlx hgr hsz hrg hrg1 hlt hat hv hkey
      go_wp2
      have h2 := HR1.out.store HS.out (Nat.le_refl _) i c (lr' := fun z => left z && !z.sameKey (.int .i64 (i : Int))) (by
        rw [← rowL_step newF s1.b left i o c HBi.out.2]; rfl)
      exact ⟨⟨_, _, ⟨h2⟩, ⟨fun kl h => HSub.out kl (by simp at h; exact h.1)⟩⟩, by rw [h2.left, HR.out.left]; exact HM.out⟩
theorem slab_flush {w W : World} {g rb mb n : Nat} {s : Sl} (h : IsSl w W g rb mb n s) :
    Calls Try.prog 16 #[.pointer (some ⟨g, 0, none⟩)] W fun e W' => e = .returned (.int .i64 s.flush.2) ∧ IsSl w W' g rb mb n s.flush.1 ∧ SlKept W W' g rb mb := by
  unfold Sl.flush
  by_cases hd : s.down = true
  · rw [if_pos hd]
    refine (slab_flush_down h hd).mono ?_
    rintro e W' ⟨rfl, rfl⟩
    exact ⟨rfl, h, SlKept.refl _ _ _ _⟩
  · rw [if_neg hd]
    replace hd := Bool.eq_false_iff.mpr hd
    by_cases ht : s.tick.2 = true
    · rw [if_pos ht]; exact slab_flush_trip h hd ht
    · rw [if_neg ht]; exact slab_flush_ok h hd (Bool.eq_false_iff.mpr ht)
/-! ### the slab: made, tripped -/
def Sl.new (n : Nat) : Sl := ⟨List.replicate n (ByteArray.empty, none), 0, [], 0, 0, false, 0⟩
theorem new_as (n : Nat) : SlAs (.map [] : DW) (Sl.new n).b :=
  ⟨fun _ _ _ => rfl, fun i x t h => by
    obtain ⟨h1, h2⟩ := List.getElem?_eq_some_iff.1 h
    simp [Sl.new] at h2, fun kl h => by simp [Maps.has] at h⟩
theorem info9 : (Try.prog.info? 9).map (fun i => (i.zero, i.size, i.bytes)) = some (some (.string ByteArray.empty), 1, 16) := by kernel_rfl
theorem made_strs (n : Nat) : madeCells (Value.string ByteArray.empty).cells (n * 1) = strs (Sl.new n).b := by
  rw [strs_vals]
  unfold madeCells Sl.new vals
  refine Array.ext ?_ ?_
  · simp
  · intro i h1 h2
    simp [Value.cells, Nat.mod_one]
theorem run_make_strs (W : World) (n : Int) (h0 : 0 ≤ n) (h1 : n ≤ 4096) : (Instr.makeSlice 22 (.int .i64 n) (.int .i64 n)).run Try.prog W = .ok (.slice (some ⟨W.heap.size, 0, none⟩) n.toNat n.toNat) (W.alloc (.cells (strs (Sl.new n.toNat).b) 9)) := by
  obtain ⟨i, hi, e1, e2, e3⟩ := info_parts info9
  have h := run_makeSlice (P := Try.prog) (w := W) 22 9 i (.string ByteArray.empty) Try.underlying22 hi e1 .i64 .i64 n n h0 (Int.le_refl _) (by rw [e2]; omega) (by rw [e3]; omega) (by omega)
  rw [e2, made_strs] at h
  exact h
set_option maxRecDepth 100000 in
theorem slab_new_no (W : World) (n : Int) (h : ¬ (1 ≤ n ∧ n ≤ 4096)) :
    Calls Try.prog 10 #[.int .i64 n] W fun e W' => e = .returned (.pointer none) ∧ W = W' := by
  by_cases h1 : n < 1
  · have q0 : decide (n < 1) = true := decide_eq_true h1
    clear h h1
    go_enter Try.func10, Try.ntmps10
    go_wp2
    go_ret
    exact ⟨rfl, rfl⟩
  · have q0 : decide (n < 1) = false := decide_eq_false h1
    have q1 : decide (n > 4096) = true := decide_eq_true (by omega)
    have q2 : decide (4096 < n) = true := decide_eq_true (by omega)
    clear h h1
    go_enter Try.func10, Try.ntmps10
    go_wp2
    go_ret
    exact ⟨rfl, rfl⟩
set_option maxRecDepth 100000 in
theorem slab_new_yes {w W : World} (hb : Below w.heap.size w W) (n : Int) (h1 : 1 ≤ n) (h2 : n ≤ 4096) :
    Calls Try.prog 10 #[.int .i64 n] W fun e W' => e = .returned (.pointer (some ⟨W.heap.size + 1 + 1, 0, none⟩)) ∧ IsSl w W' (W.heap.size + 1 + 1) W.heap.size (W.heap.size + 1) 0 (Sl.new n.toNat) ∧ Below W.heap.size W W' := by
  have q0 : decide (n < 1) = false := decide_eq_false (by omega)
  have q1 : decide (n > 4096) = false := decide_eq_false (by omega)
  have q2 : decide (4096 < n) = false := decide_eq_false (by omega)
  have hmk := run_make_strs W n (by omega) h2
  have hmm := @run_makeMap Try.prog
  have HI : Aside0 (IsSl w (((W.alloc (.cells (strs (Sl.new n.toNat).b) 9)).alloc (.map #[] 0)).alloc (.cells #[.slice (some ⟨W.heap.size, 0, none⟩) n.toNat n.toNat, .map (some (W.heap.size + 1)), .int .i64 0, .slice none 0 0, .int .i64 0, .int .i64 0, .bool false] 62)) (W.heap.size + 1 + 1) W.heap.size (W.heap.size + 1) 0 (Sl.new n.toNat) ∧ Below W.heap.size W (((W.alloc (.cells (strs (Sl.new n.toNat).b) 9)).alloc (.map #[] 0)).alloc (.cells #[.slice (some ⟨W.heap.size, 0, none⟩) n.toNat n.toNat, .map (some (W.heap.size + 1)), .int .i64 0, .slice none 0 0, .int .i64 0, .int .i64 0, .bool false] 62))) := ⟨by
    have s1 : (W.alloc (.cells (strs (Sl.new n.toNat).b) 9)).heap.size = W.heap.size + 1 := alloc_size _ _
    have s2 : ((W.alloc (.cells (strs (Sl.new n.toNat).b) 9)).alloc (.map #[] 0)).heap.size = W.heap.size + 1 + 1 := by rw [alloc_size, s1]
    have hz := hb.size
    have hbw : Below W.heap.size W (((W.alloc (.cells (strs (Sl.new n.toNat).b) 9)).alloc (.map #[] 0)).alloc (.cells #[.slice (some ⟨W.heap.size, 0, none⟩) n.toNat n.toNat, .map (some (W.heap.size + 1)), .int .i64 0, .slice none 0 0, .int .i64 0, .int .i64 0, .bool false] 62)) := below_alloc (below_alloc (below_alloc (Below.refl _ _) _) _) _
    have hl : (Sl.new n.toNat).b.length = n.toNat := by simp [Sl.new]
    have hmap := World.ownsMap_made (H := Unit) (W.alloc (.cells (strs (Sl.new n.toNat).b) 9)) Try.prog 3 (plainElem Try.prog 9)
    rw [s1] at hmap
    refine ⟨⟨⟨.slice none 0 0, ?_, Kd.R_nil _ _ _ _ _⟩, ?_, ⟨_, hmap.alloc _, new_as _⟩, by rw [hl]; omega, ?_, by simp [Sl.new], by simp [Sl.new], by omega, by omega, by omega, by omega, by omega, by omega, hb.trans (hbw.mono hz)⟩, hbw⟩
    · have := blk_new ((W.alloc (.cells (strs (Sl.new n.toNat).b) 9)).alloc (.map #[] 0)) (.cells #[.slice (some ⟨W.heap.size, 0, none⟩) n.toNat n.toNat, .map (some (W.heap.size + 1)), .int .i64 0, .slice none 0 0, .int .i64 0, .int .i64 0, .bool false] 62)
      rw [s2] at this
      rw [this, hl]; rfl
    · exact blk_alloc (blk_alloc (blk_new W _) _) _
    · intro x hx
      have := List.eq_of_mem_replicate hx
      subst this
      exact ⟨by decide, fun t h => by simp at h⟩⟩
  clear hb
  go_enter Try.func10, Try.ntmps10
  go_wp2
  go_ret
  exact ⟨rfl, HI.out⟩

theorem info3i : (Try.prog.info? 3).map (fun i => (i.zero, i.size, i.bytes)) = some (some (.int .i64 0), 1, 8) := by kernel_rfl
set_option maxRecDepth 100000 in
theorem clone_ints (A : Option Addr) (c : Nat) (l : List Int) (w : World) (hr : Kd.C (Kd.int .i64) w A l.length l) (hl : l.length ≤ 100000000) :
    Calls Try.prog 31 #[.slice A l.length c] w fun e w' => ∃ v, e = .returned v ∧ Kd.R (Kd.int .i64) 3 w' w.heap.size (fun _ => True) v l ∧ Below w.heap.size w w' := by
  cases A with
  | none =>
    have hl0 : l = [] := by
      cases l with
      | nil => rfl
      | cons x l => obtain ⟨_, _, h⟩ := hr; exact absurd (h (by simp)) (by simp)
    subst hl0
    have heq : ∀ W, (binOp .eql 27 (.slice none 0 c) (.slice none 0 0)).run Try.prog W = .ok (.bool true) W := fun W => Lib.run_eql_slice_nil W 27 3 none 0 c 0 0 Try.underlying27
    go_enter Try.func31, Try.ntmps31
    go_wp2
    go_ret
    exact ⟨_, rfl, Kd.R_nil _ _ _ _ _, Below.refl _ _⟩
  | some ad =>
    have HB0 := Aside0.mk (((Below.refl w.heap.size w).alloc (Nat.le_refl _) (.cells #[] 3)))
    have HO0 : Aside0 (Kd.R (Kd.int .i64) 3 (w.alloc (.cells #[] 3)) w.heap.size (fun _ => True) (.slice (some ⟨w.heap.size, 0, none⟩) 0 0) []) := ⟨fun _ _ => trivial, OwnRow.lit w w.heap.size (Reps.none _ _) (Nat.le_refl _) (by simp)⟩
    have HR := Aside0.mk hr
    have HL := Aside0.mk hl
    have heq : ∀ W, (binOp .eql 27 (.slice (some ad) l.length c) (.slice none 0 0)).run Try.prog W = .ok (.bool false) W := fun W => Lib.run_eql_slice_nil W 27 3 (some ad) l.length c 0 0 Try.underlying27
    clear hr hl
    go_enter Try.func31, Try.ntmps31
    go_wp2_with (at_builtin; refine Kd.R_append_rows (Kd.int .i64) (w0 := w) w.heap.size rfl (.tmp 5) (.tmp 6) 27 3 _ 8 rfl Try.underlying27 info3i rfl (by decide) (by decide) _ [] l (some ad) l.length c (fun _ => True) (fun _ => False) rfl rfl HO0.out (Kd.C_below HR.out HB0.out) (fun x cs hK => by exact hK) (fun _ h => h.elim) (fun _ _ => trivial) HB0.out (by simp) (by have := HL.out; simp; omega) ?_; intro v1 w1 ho hb hg_ hn_; clear hg_ hn_)
    go_ret
    exact ⟨_, rfl, by simpa using ho, hb⟩
theorem IsSl.setLoss {w W : World} {g rb mb n : Nat} {s : Sl} (h : IsSl w W g rb mb n s) (wv : Int) (hw : 0 ≤ wv ∧ wv ≤ 9223372036854775807) (v : Value) (l : List Int) (hl : l.length ≤ 100000000) (tr at_ : Int) {W0 : World} (hv : Kd.R (Kd.int .i64) 3 W W0.heap.size (fun _ => True) v l) (h0 : Below w.heap.size w W0) (hlt : g < W0.heap.size ∧ rb < W0.heap.size ∧ mb < W0.heap.size) :
    IsSl w ((((W.setCell ⟨g, 2, none⟩ (.int .i64 wv)).setCell ⟨g, 3, none⟩ v).setCell ⟨g, 4, none⟩ (.int .i64 tr)).setCell ⟨g, 5, none⟩ (.int .i64 at_)) g rb mb n { s with wait := wv, keep := l, torn := tr, at_ := at_, kb := W.heap.size } := by
  obtain ⟨vk, h1, h2⟩ := h.own
  obtain ⟨D, h3, h4⟩ := h.map
  have hR : Kd.R (Kd.int .i64) 3 W w.heap.size (fun k => Off [g, rb, mb] k ∧ k < W.heap.size) v l := Kd.R_lower (Kd.R_mono (Kd.R_bound hv) (fun k hk => ⟨fun m hm => by
    have := hk.2.1
    simp only [List.mem_cons, List.mem_nil_iff, or_false] at hm
    omega, hk.2.2.1⟩)) h0.size
  have hf : ∀ (j : Nat) (u : Value) (W2 : World), Kd.R (Kd.int .i64) 3 W2 w.heap.size (fun k => Off [g, rb, mb] k ∧ k < W.heap.size) v l → Kd.R (Kd.int .i64) 3 (W2.setCell ⟨g, j, none⟩ u) w.heap.size (fun k => Off [g, rb, mb] k ∧ k < W.heap.size) v l := fun j u W2 h => Kd.R_far (p := ⟨g, j, none⟩) h (fun k hk => hk.1 g (by simp)) u
  refine ⟨⟨v, blk_put (blk_put (blk_put (blk_put h1 2 _ rfl) 3 _ rfl) 4 _ rfl) 5 _ rfl, hf 5 _ _ (hf 4 _ _ (hf 3 _ _ (hf 2 _ _ hR)))⟩, ?_, ⟨D, (((h3.setCell (a := ⟨g, 2, none⟩) h.gm.symm _).setCell (a := ⟨g, 3, none⟩) h.gm.symm _).setCell (a := ⟨g, 4, none⟩) h.gm.symm _).setCell (a := ⟨g, 5, none⟩) h.gm.symm _, h4⟩, h.len, h.small, hw, hl, h.g1, h.r1, h.m1, h.gr, h.gm, h.rm, below_set (below_set (below_set (below_set h.bel h.g1) h.g1) h.g1) h.g1⟩
  exact blk_far (p := ⟨g, 5, none⟩) (blk_far (p := ⟨g, 4, none⟩) (blk_far (p := ⟨g, 3, none⟩) (blk_far (p := ⟨g, 2, none⟩) h.row h.gr.symm _) h.gr.symm _) h.gr.symm _) h.gr.symm _
def slab_Trip2.T : Bool × List (List Nat × List Nat) := (true, [([], []), ([], []), ([], []), ([2], [2]), ([], []), ([4], [4]), ([5], [5]), ([], []), ([7], [7]), ([], []), ([9], [9]), ([6, 8, 10], [6, 8, 10]), ([0, 0, 2, 3, 6], [0]), ([12, 0, 2, 3, 6], [12]), ([13, 3, 6, 0, 2, 3, 6], [3, 13]), ([1, 0, 1, 2, 3, 4, 5, 6, 7, 8, 9, 10, 11, 12, 13, 14], [1]), ([15, 0, 1, 2, 3, 4, 5, 6, 7, 8, 9, 10, 11, 12, 13, 14], [15]), ([16, 11, 14, 0, 1, 2, 3, 4, 5, 6, 7, 8, 9, 10, 11, 12, 13, 14], [11, 16])])
def slab_Trip2.B : List Nat := [0, 0, 0, 4, 0, 16, 48, 0, 128, 0, 512, 2032, 125, 4221, 12413, 32767, 65535, 131071]
theorem slab_Trip2.tab : rtab .any (opsOf Try.f20 2) = slab_Trip2.T := by kernel_rfl
theorem slab_Trip2.bits : waitsOk slab_Trip2.T.2 slab_Trip2.B = true := by kernel_rfl
set_option maxHeartbeats 4000000 in
set_option maxRecDepth 100000 in
theorem slab_trip {w W : World} {g rb mb n : Nat} {s : Sl} (h : IsSl w W g rb mb n s) (A : Option Addr) (kc : Nat) (l : List Int) (k tr at_ : Int) (hr : Kd.C (Kd.int .i64) W A l.length l) (hl : l.length ≤ 100000000) (hk : k ≤ 9223372036854775807) :
    Calls Try.prog 20 #[.pointer (some ⟨g, 0, none⟩), .int .i64 k, .agg #[.slice A l.length kc, .int .i64 tr, .int .i64 at_]] W fun e W' => e = .returned (.tuple #[]) ∧ (∃ kb, kb ≤ W'.heap.size ∧ IsSl w W' g rb mb n { s with wait := max k 0, keep := l, torn := tr, at_ := at_, kb := kb }) ∧ SlKept W W' g rb mb := by
  obtain ⟨m1, hm1⟩ : ∃ m : Int, m = max k 0 := ⟨_, rfl⟩
  have e1 : max k 0 = m1 := hm1.symm
  have e3 : (if k < 0 then (0 : Int) else k) = m1 := by split <;> omega
  rw [e1]
  have HS := Aside0.mk (h.below (below_alloc (Below.refl W.heap.size W) (.cells #[.slice A l.length kc, .int .i64 tr, .int .i64 at_] 33)))
  have HG : Aside0 (W.heap.size ≠ g) := ⟨by have := h.lts; omega⟩
  have HL := Aside0.mk hl
  have HK : Aside0 (0 ≤ m1 ∧ m1 ≤ 9223372036854775807) := ⟨by omega⟩
  have HLt : Aside0 (g < (W.alloc (.cells #[.slice A l.length kc, .int .i64 tr, .int .i64 at_] 33)).heap.size ∧ rb < (W.alloc (.cells #[.slice A l.length kc, .int .i64 tr, .int .i64 at_] 33)).heap.size ∧ mb < (W.alloc (.cells #[.slice A l.length kc, .int .i64 tr, .int .i64 at_] 33)).heap.size) := ⟨by have := h.lts; simp; omega⟩
  have HBl : Aside0 (Below w.heap.size w (W.alloc (.cells #[.slice A l.length kc, .int .i64 tr, .int .i64 at_] 33))) := ⟨below_alloc h.bel _⟩
  have HR := Aside0.mk (Kd.C_below hr (below_alloc (Below.refl W.heap.size W) (.cells #[.slice A l.length kc, .int .i64 tr, .int .i64 at_] 33)))
  have HB0 := Aside0.mk (SlKept.below (g := g) (rb := rb) (mb := mb) <| below_alloc (Below.refl W.heap.size W) (.cells #[.slice A l.length kc, .int .i64 tr, .int .i64 at_] 33))
  have HX := Aside0.mk (blk_new W (.cells #[.slice A l.length kc, .int .i64 tr, .int .i64 at_] 33))
  clear h hl hk hr hm1
  go_enter Try.func20, Try.ntmps20
  go_upto_region 2 with (fail)
  generalize W.alloc (.cells #[.slice A l.length kc, .int .i64 tr, .int .i64 at_] 33) = W0 at HR HB0 HX HS HBl HLt ⊢
  generalize W.heap.size = g0 at HX HG ⊢
  replace HR : Aside0 (Kd.C (Kd.int .i64) W0.drew A l.length l) := ⟨Kd.C_drew HR.out⟩
  replace HS : Aside0 (IsSl w W0.drew g rb mb n s) := ⟨HS.out.below (below_drew1 (Below.refl _ _))⟩
  replace HX : Aside0 (W0.drew.heap[g0]? = some (.cells #[.slice A l.length kc, .int .i64 tr, .int .i64 at_] 33 (0, 0))) := ⟨blk_drew HX.out⟩
  replace HB0 : Aside0 (SlKept W W0.drew g rb mb) := ⟨HB0.out.trans (SlKept.below (below_drew1 (Below.refl _ _)))⟩
  replace HBl : Aside0 (Below w.heap.size w W0.drew) := ⟨below_drew1 HBl.out⟩
  replace HLt : Aside0 (g < W0.drew.heap.size ∧ rb < W0.drew.heap.size ∧ mb < W0.drew.heap.size) := ⟨HLt.out⟩
  refine start_ (n := 18) (S := fun w' => w'.cell? ⟨g0, 0, none⟩ = some (.slice A l.length kc) ∧ w'.cell? ⟨g0, 1, none⟩ = some (.int .i64 tr) ∧ w'.cell? ⟨g0, 2, none⟩ = some (.int .i64 at_)) (ds := []) #[false, false, false, false, false, false, false, false, false, false, false, false, false, false, false, false, false, false] (by kernel_rfl) rfl rfl (⟨(blk_cell HX.out 0).trans rfl, (blk_cell HX.out 1).trans rfl, (blk_cell HX.out 2).trans rfl⟩) (fun hHeld => ?_); refine with_tabW slab_Trip2.tab slab_Trip2.bits (fun HT_ HW_ => ?_)
  refine pure_ (i := 0) (N := some 8) (v := ?_) (a' := ?_) #[true, false, false, false, false, false, false, false, false, false, false, false, false, false, false, false, false, false] rfl rfl (any_of HT_.out (by kernel_rfl)) (fun _ _ _ h => h) (Or.inl ⟨by rfl, ?_⟩) ?_ ?_
  rotate_left
  · intro w'
    go_simp
    with_reducible rfl
  rotate_left
  · simp only [Act.put, List.setIfInBounds_toArray, List.set_cons_zero, List.set_cons_succ, i64_w, i32_w]
    rfl
  refine pure_ (i := 1) (N := some 9) (v := ?_) (a' := ?_) #[true, true, false, false, false, false, false, false, false, false, false, false, false, false, false, false, false, false] rfl rfl (any_of HT_.out (by kernel_rfl)) (fun _ _ _ h => h) (Or.inl ⟨by rfl, ?_⟩) ?_ ?_
  rotate_left
  · intro w'
    go_simp
    with_reducible rfl
  rotate_left
  · simp only [Act.put, List.setIfInBounds_toArray, List.set_cons_zero, List.set_cons_succ, i64_w, i32_w]
    rfl
  refine pure_ (i := 2) (N := some 10) (v := ?_) (a' := ?_) #[true, true, true, false, false, false, false, false, false, false, false, false, false, false, false, false, false, false] rfl rfl (any_of HT_.out (by kernel_rfl)) (fun _ _ _ h => h) (Or.inl ⟨by rfl, ?_⟩) ?_ ?_
  rotate_left
  · intro w'
    go_simp
    with_reducible rfl
  rotate_left
  · simp only [Act.put, List.setIfInBounds_toArray, List.set_cons_zero, List.set_cons_succ, i64_w, i32_w]
    rfl
  refine pure_ (i := 3) (N := some 11) (v := ?_) (a' := ?_) #[true, true, true, true, false, false, false, false, false, false, false, false, false, false, false, false, false, false] rfl rfl (any_of HT_.out (by kernel_rfl)) (fun _ _ _ h => h) (Or.inl ⟨by rfl, ?_⟩) ?_ ?_
  rotate_left
  · intro w'
    go_simp
    with_reducible rfl
  rotate_left
  · simp only [Act.put, List.setIfInBounds_toArray, List.set_cons_zero, List.set_cons_succ, i64_w, i32_w]
    rfl
  refine pure_ (i := 4) (N := some 12) (v := ?_) (a' := ?_) #[true, true, true, true, true, false, false, false, false, false, false, false, false, false, false, false, false, false] rfl rfl (any_of HT_.out (by kernel_rfl)) (fun _ _ _ h => h) (Or.inl ⟨by rfl, ?_⟩) ?_ ?_
  rotate_left
  · intro w'
    go_simp
    with_reducible rfl
  rotate_left
  · simp only [Act.put, List.setIfInBounds_toArray, List.set_cons_zero, List.set_cons_succ, i64_w, i32_w]
    rfl
  refine take_ (i := 5) (N := some 13) (v := ?_) (a' := ?_) #[true, true, true, true, true, true, false, false, false, false, false, false, false, false, false, false, false, false] rfl rfl (take_ofW HT_.out HW_.out (by kernel_rfl)) (fun _ _ _ h => h) (Or.inl ⟨by rfl, ?_⟩) hHeld ?_ ?_
  rotate_left
  · rintro w' ⟨s0, s1, s2⟩
    go_simp
    with_reducible rfl
  rotate_left
  · simp only [Act.put, List.setIfInBounds_toArray, List.set_cons_zero, List.set_cons_succ, i64_w, i32_w]
    rfl
  refine pure_ (i := 7) (N := some 15) (v := ?_) (a' := ?_) #[true, true, true, true, true, true, false, true, false, false, false, false, false, false, false, false, false, false] rfl rfl (any_of HT_.out (by kernel_rfl)) (fun _ _ _ h => h) (Or.inl ⟨by rfl, ?_⟩) ?_ ?_
  rotate_left
  · intro w'
    go_simp
    with_reducible rfl
  rotate_left
  · simp only [Act.put, List.setIfInBounds_toArray, List.set_cons_zero, List.set_cons_succ, i64_w, i32_w]
    rfl
  refine take_ (i := 8) (N := some 16) (v := ?_) (a' := ?_) #[true, true, true, true, true, true, false, true, true, false, false, false, false, false, false, false, false, false] rfl rfl (take_ofW HT_.out HW_.out (by kernel_rfl)) (fun _ _ _ h => h) (Or.inl ⟨by rfl, ?_⟩) hHeld ?_ ?_
  rotate_left
  · rintro w' ⟨s0, s1, s2⟩
    go_simp
    with_reducible rfl
  rotate_left
  · simp only [Act.put, List.setIfInBounds_toArray, List.set_cons_zero, List.set_cons_succ, i64_w, i32_w]
    rfl
  refine pure_ (i := 9) (N := some 17) (v := ?_) (a' := ?_) #[true, true, true, true, true, true, false, true, true, true, false, false, false, false, false, false, false, false] rfl rfl (any_of HT_.out (by kernel_rfl)) (fun _ _ _ h => h) (Or.inl ⟨by rfl, ?_⟩) ?_ ?_
  rotate_left
  · intro w'
    go_simp
    with_reducible rfl
  rotate_left
  · simp only [Act.put, List.setIfInBounds_toArray, List.set_cons_zero, List.set_cons_succ, i64_w, i32_w]
    rfl
  refine take_ (i := 10) (N := some 18) (v := ?_) (a' := ?_) #[true, true, true, true, true, true, false, true, true, true, true, false, false, false, false, false, false, false] rfl rfl (take_ofW HT_.out HW_.out (by kernel_rfl)) (fun _ _ _ h => h) (Or.inl ⟨by rfl, ?_⟩) hHeld ?_ ?_
  rotate_left
  · rintro w' ⟨s0, s1, s2⟩
    go_simp
    with_reducible rfl
  rotate_left
  · simp only [Act.put, List.setIfInBounds_toArray, List.set_cons_zero, List.set_cons_succ, i64_w, i32_w]
    rfl
  refine one_ (i := 6) (N := some 14) #[true, true, true, true, true, true, true, true, true, true, true, false, false, false, false, false, false, false] rfl rfl (one_of HT_.out (by kernel_rfl)) (by decide) (fun K hK => ?_)
  refine goes_ Try.func31 (by kernel_rfl) rfl #[.slice A l.length kc] (by rfl) rfl rfl (by (try simp only [List.map_toArray, List.map_cons, List.map_nil]); first | done | rfl) ?_
  with_reducible refine (clone_ints A kc l _ HR.out HL.out).mono ?_
  rintro e w6 ⟨v1, rfl, ho1, hb⟩
  refine ⟨_, rfl, ?_⟩
  obtain ⟨A1, c1, rfl⟩ := Kd.R_slice ho1
  have HO := Aside0.mk ho1
  replace HS := Aside0.mk (HS.out.below hb)
  have HX6 := Aside0.mk (blk_below HX.out hb)
  have HB6 := Aside0.mk hb
  clear ho1 hb
  refine hK.out _ _ ⟨(blk_cell HX6.out 0).trans rfl, (blk_cell HX6.out 1).trans rfl, (blk_cell HX6.out 2).trans rfl⟩ (fun hHeld => ?_)
  clear hK K
  refine norm_ (a' := ?_) ?_ ?_
  rotate_left
  · show Act.put _ (some 14) _ = _
    simp only [Act.put, List.setIfInBounds_toArray, List.set_cons_zero, List.set_cons_succ, i64_w, i32_w]
    rfl
  refine pure_ (i := 11) (N := some 19) (v := ?_) (a' := ?_) #[true, true, true, true, true, true, true, true, true, true, true, true, false, false, false, false, false, false] rfl rfl (any_of HT_.out (by kernel_rfl)) (fun _ _ _ h => h) (Or.inl ⟨by rfl, ?_⟩) ?_ ?_
  rotate_left
  · intro w'
    go_simp
    with_reducible rfl
  rotate_left
  · simp only [Act.put, List.setIfInBounds_toArray, List.set_cons_zero, List.set_cons_succ, i64_w, i32_w]
    rfl
  refine pure_ (i := 12) (N := some 20) (v := ?_) (a' := ?_) #[true, true, true, true, true, true, true, true, true, true, true, true, true, false, false, false, false, false] rfl rfl (any_of HT_.out (by kernel_rfl)) (fun _ _ _ h => h) (Or.inl ⟨by rfl, ?_⟩) ?_ ?_
  rotate_left
  · intro w'
    go_simp
    with_reducible rfl
  rotate_left
  · simp only [Act.put, List.setIfInBounds_toArray, List.set_cons_zero, List.set_cons_succ, i64_w, i32_w]
    rfl
  refine pure_ (i := 13) (N := some 21) (v := ?_) (a' := ?_) #[true, true, true, true, true, true, true, true, true, true, true, true, true, true, false, false, false, false] rfl rfl (any_of HT_.out (by kernel_rfl)) (fun _ _ _ h => h) (Or.inl ⟨by rfl, ?_⟩) ?_ ?_
  rotate_left
  · intro w'
    go_simp
    with_reducible rfl
  rotate_left
  · simp only [Act.put, List.setIfInBounds_toArray, List.set_cons_zero, List.set_cons_succ, i64_w, i32_w]
    rfl
  refine one_ (i := 14) (N := none) #[true, true, true, true, true, true, true, true, true, true, true, true, true, true, true, false, false, false] rfl rfl (one_of HT_.out (by kernel_rfl)) (by decide) (fun K hK => ?_)
  obtain ⟨_, _, g2, _⟩ := HS.out.cells
  have f2 := HS.out.frz 2
  refine skip_ (w1 := ?_) (by rfl) rfl ?_ ?_
  rotate_left
  · go_simp
    rfl
  have HX7 := Aside0.mk (blk_far (p := ⟨g, 2, none⟩) HX6.out HG.out (.int .i64 m1))
  clear g2 f2
  refine hK.out _ _ ⟨(blk_cell HX7.out 0).trans rfl, (blk_cell HX7.out 1).trans rfl, (blk_cell HX7.out 2).trans rfl⟩ (fun hHeld => ?_)
  clear hK K
  refine pure_ (i := 15) (N := some 22) (v := ?_) (a' := ?_) #[true, true, true, true, true, true, true, true, true, true, true, true, true, true, true, true, false, false] rfl rfl (any_of HT_.out (by kernel_rfl)) (fun _ _ _ h => h) (Or.inl ⟨by rfl, ?_⟩) ?_ ?_
  rotate_left
  · intro w'
    go_simp
    with_reducible rfl
  rotate_left
  · simp only [Act.put, List.setIfInBounds_toArray, List.set_cons_zero, List.set_cons_succ, i64_w, i32_w]
    rfl
  refine pure_ (i := 16) (N := some 23) (v := ?_) (a' := ?_) #[true, true, true, true, true, true, true, true, true, true, true, true, true, true, true, true, true, false] rfl rfl (any_of HT_.out (by kernel_rfl)) (fun _ _ _ h => h) (Or.inl ⟨by rfl, ?_⟩) ?_ ?_
  rotate_left
  · intro w'
    go_simp
    with_reducible rfl
  rotate_left
  · simp only [Act.put, List.setIfInBounds_toArray, List.set_cons_zero, List.set_cons_succ, i64_w, i32_w]
    rfl
  refine one_ (i := 17) (N := none) #[true, true, true, true, true, true, true, true, true, true, true, true, true, true, true, true, true, true] rfl rfl (one_of HT_.out (by kernel_rfl)) (by decide) (fun K hK => ?_)
  obtain ⟨A3, c3, g3, g4, g5, _, _⟩ := HS.out.loss
  have f3 := HS.out.frz 3
  have f4 := HS.out.frz 4
  have f5 := HS.out.frz 5
  refine skip_ (w1 := ?_) (by rfl) rfl ?_ ?_
  rotate_left
  · go_simp
    rfl
  have HX8 := Aside0.mk (blk_far (p := ⟨g, 5, none⟩) (blk_far (p := ⟨g, 4, none⟩) (blk_far (p := ⟨g, 3, none⟩) HX7.out HG.out (.slice A1 l.length c1)) HG.out (.int .i64 tr)) HG.out (.int .i64 at_))
  clear g3 g4 g5 f3 f4 f5
  refine hK.out _ _ ⟨(blk_cell HX8.out 0).trans rfl, (blk_cell HX8.out 1).trans rfl, (blk_cell HX8.out 2).trans rfl⟩ (fun hHeld => ?_)
  clear hK K
  refine done_ (done_of HT_.out (by kernel_rfl)) ?_
  clear hHeld HT_ HW_
  go_wp2_with fail
  refine bodyPost_end (results_none rfl _ _ _) rfl ?_
  exact ⟨rfl, ⟨_, by simp, HS.out.setLoss m1 HK.out _ l HL.out tr at_ HO.out HBl.out HLt.out⟩, HB0.out.trans ((SlKept.below HB6.out).trans ((((SlKept.set (Or.inl rfl) _).trans (SlKept.set (Or.inl rfl) _)).trans (SlKept.set (Or.inl rfl) _)).trans (SlKept.set (Or.inl rfl) _)))⟩

theorem slab_trip_nil (W : World) (k : Int) (v : Value) (hv : ∃ a b c, v = .agg #[a, b, c]) :
    Calls Try.prog 20 #[.pointer none, .int .i64 k, v] W fun e W' => e = .returned (.tuple #[]) ∧ Below W.heap.size W W' := by
  obtain ⟨a, b, c, rfl⟩ := hv
  go_enter Try.func20, Try.ntmps20
  go_wp2
  refine bodyPost_end (results_none rfl _ _ _) rfl ?_
  exact ⟨rfl, below_alloc (Below.refl _ _) _⟩
theorem slab_loose_nil (W : World) :
    Calls Try.prog 21 #[.pointer none] W fun e W' => e = .returned (.slice none 0 0) ∧ W = W' := by
  go_enter Try.func21, Try.ntmps21
  go_wp2
  go_ret
  exact ⟨rfl, rfl⟩

theorem C_ints {W : World} {b : Nat} {t : TypeId} (l : List Int) (hl : l.length ≤ 1000000) (h : W.heap[b]? = some (.cells (l.map (Value.int .i64)).toArray t (0, 0))) : Kd.C (Kd.int .i64) W (some ⟨b, 0, none⟩) l.length l := by
  refine ⟨rfl, by omega, fun _ => ⟨_, rfl, fun j p hp => ⟨[.int .i64 p], rfl, rfl, fun i u hu => ?_⟩⟩⟩
  cases i with
  | succ i => simp at hu
  | zero =>
    injection hu with hu
    subst hu
    have e : (⟨b, 0, none⟩ : Addr).add (j * (Kd.int .i64).sz + 0) = ⟨b, j, none⟩ := by
      rw [show (Kd.int .i64).sz = 1 from rfl]; simp [Addr.add]; try omega
    rw [e, blk_cell h j]
    simp [hp]
/-- a row of whole numbers that was just laid stands whatever becomes of the slab -/
theorem kept_ints {W : World} {g rb mb : Nat} {t : TypeId} (l : List Int) (hl : l.length ≤ 1000000) {b : Nat} (h : W.heap[b]? = some (.cells (l.map (Value.int .i64)).toArray t (0, 0))) (hb : b ≠ g ∧ b ≠ rb ∧ b ≠ mb) : ∀ W', SlKept W W' g rb mb → Kd.C (Kd.int .i64) W' (some ⟨b, 0, none⟩) l.length l :=
  fun W' hk => C_ints l hl ((hk.2 b (blk_lt h) hb.1 hb.2.1 hb.2.2).trans h)
/-- what came in stands whatever becomes of the slab -/
theorem kept_arg {w W : World} {g rb mb n : Nat} {s : Sl} (h : IsSl w W g rb mb n s) {A : Option Addr} {m : Nat} {l : List Int} (hr : Kd.C (Kd.int .i64) w A m l) : ∀ W', SlKept W W' g rb mb → Kd.C (Kd.int .i64) W' A m l := fun W' hk =>
  Kd.Heap.C (Kd.heap_int .i64) (fun k hkk => (hk.2 k (Nat.lt_of_lt_of_le hkk h.bel.size) (by have := h.g1; omega) (by have := h.r1; omega) (by have := h.m1; omega)).trans (h.bel.block k hkk)) hr
/-! ### splicelaw07_awake: function 11 (by hand) -/
section
variable {w W : World} {g rb mb n : Nat} {s s' : Sl} {r : Int}
theorem slab_write' (h : IsSl w W g rb mb n s) (hn : n < 1000000) (i : Int) (t : ByteArray) (e : s.write i t = (s', r)) :
    Calls Try.prog 12 #[.pointer (some ⟨g, 0, none⟩), .int .i64 i, .string t] W fun e W' => e = .returned (.int .i64 r) ∧ IsSl w W' g rb mb (n + 1) s' ∧ SlKept W W' g rb mb := by
  have := slab_write h hn i t; rw [e] at this; exact this
theorem slab_flush' (h : IsSl w W g rb mb n s) (e : s.flush = (s', r)) :
    Calls Try.prog 16 #[.pointer (some ⟨g, 0, none⟩)] W fun e W' => e = .returned (.int .i64 r) ∧ IsSl w W' g rb mb n s' ∧ SlKept W W' g rb mb := by
  have := slab_flush h; rw [e] at this; exact this
theorem slab_read' (h : IsSl w W g rb mb n s) (i : Int) {t : ByteArray} (e : s.read i = (t, r)) :
    Calls Try.prog 18 #[.pointer (some ⟨g, 0, none⟩), .int .i64 i] W fun e W' => e = .returned (.tuple #[.string t, .int .i64 r]) ∧ W = W' := by
  have := slab_read h i; rw [e] at this; exact this
end
set_option maxRecDepth 100000 in
set_option maxHeartbeats 2000000 in
theorem awake07 (W : World) : Calls Try.prog 11 #[] W fun e W' => e = .returned (.bool true) ∧ Below W.heap.size W W' := by
  have HN := Aside0.mk (slab_new_yes (Below.refl W.heap.size W) 2 (by omega) (by omega))
  go_enter Try.func11, Try.ntmps11
  go_upto_region 2 with (go_at_call 10; refine HN.out.mono ?_; rintro e w1 ⟨rfl, hs, hb⟩; have HS := Aside0.mk hs; clear hs hb)
  clear HN
  generalize W.heap.size + 1 + 1 = g at HS ⊢
  generalize W.heap.size + 1 = mb at HS ⊢
  generalize hrb : W.heap.size = rb at HS
  clear hrb
  have HC := Aside0.mk (slab_write' HS.out (by omega) 0 ⟨#[97, 98, 99]⟩ (s' := ⟨[(ByteArray.empty, some ⟨#[97, 98, 99]⟩), (ByteArray.empty, none)], 0, [], 0, 0, false, 0⟩) (r := 0) rfl)
  go_upto_region 3 with (go_at_call 12; refine HC.out.mono ?_; rintro e w2 ⟨rfl, hs, hb⟩; replace HS := Aside0.mk hs; clear hs hb)
  clear HC
  have HC := Aside0.mk (slab_flush' HS.out (s' := ⟨[(⟨#[97, 98, 99]⟩, none), (ByteArray.empty, none)], 0, [], 0, 0, false, 0⟩) (r := 0) rfl)
  go_upto_region 4 with (go_at_call 16; refine HC.out.mono ?_; rintro e w3 ⟨rfl, hs, hb⟩; replace HS := Aside0.mk hs; clear hs hb)
  clear HC
  have HC := Aside0.mk (slab_write' HS.out (by omega) 0 ⟨#[120, 121, 122]⟩ (s' := ⟨[(⟨#[97, 98, 99]⟩, some ⟨#[120, 121, 122]⟩), (ByteArray.empty, none)], 0, [], 0, 0, false, 0⟩) (r := 0) rfl)
  go_upto_region 5 with (go_at_call 12; refine HC.out.mono ?_; rintro e w4 ⟨rfl, hs, hb⟩; replace HS := Aside0.mk hs; clear hs hb)
  clear HC
  have HC := Aside0.mk (slab_write' HS.out (by omega) 1 ⟨#[113]⟩ (s' := ⟨[(⟨#[97, 98, 99]⟩, some ⟨#[120, 121, 122]⟩), (ByteArray.empty, some ⟨#[113]⟩)], 0, [], 0, 0, false, 0⟩) (r := 0) rfl)
  go_upto_region 6 with (go_at_call 12; refine HC.out.mono ?_; rintro e w5 ⟨rfl, hs, hb⟩; replace HS := Aside0.mk hs; clear hs hb)
  clear HC
  have hb5 := below_alloc (Below.refl w5.heap.size w5) (.cells #[.int .i64 1] 3)
  have hlt := HS.out.lts
  have HC := Aside0.mk (slab_fail (HS.out.below hb5) (some ⟨w5.heap.size, 0, none⟩) 1 [1] 0 1 (kept_ints (t := 3) [1] (by decide) (blk_new w5 _) ⟨by omega, by omega, by omega⟩) (by decide) (by decide))
  clear hb5 hlt
  go_upto_region 7 with (go_at_call 14; refine HC.out.mono ?_; rintro e w6 ⟨rfl, hs, hb⟩; have HF := Aside0.mk hs; clear hs hb)
  replace HS : Aside0 (IsSl W w6 g rb mb (0 + 1 + 1 + 1) ⟨[(⟨#[120]⟩, none), (⟨#[113]⟩, none)], 0, [], 0, 0, true, 0⟩) := ⟨HF.out⟩
  clear HF
  go_upto_region 9 with (first | (go_at_call 19; refine (slab_down HS.out).mono ?_; rintro e w7 ⟨rfl, rfl⟩) | (go_at_call 15; refine (slab_wake HS.out).mono ?_; rintro e w8 ⟨rfl, hs, hb⟩; replace HS := Aside0.mk hs; clear hs hb))
  replace HS : Aside0 (IsSl W w8 g rb mb (0 + 1 + 1 + 1) ⟨[(⟨#[120]⟩, none), (⟨#[113]⟩, none)], 0, [], 0, 0, false, 0⟩) := ⟨HS.out⟩
  have HC0 := Aside0.mk (slab_read' HS.out 0 (t := ⟨#[120]⟩) (r := 0) rfl)
  have HC1 := Aside0.mk (slab_read' HS.out 1 (t := ⟨#[113]⟩) (r := 0) rfl)
  go_upto_region 10 with (go_at_call 18; refine HC0.out.mono ?_; rintro e w9 ⟨rfl, rfl⟩)
  go_wp2_with (go_at_call 18; refine HC1.out.mono ?_; rintro e w9 ⟨rfl, rfl⟩)
  go_ret
  exact ⟨rfl, HS.out.bel⟩

/-! ### splicelaw07_read: the first eight blocks (by hand) -/
def read8 (s : Sl) (k : Nat) : List ByteArray := (List.range 8).map (fun i => if i < k then (s.read (i : Int)).1 else ByteArray.empty)
theorem read8_len (s : Sl) (k : Nat) : (read8 s k).length = 8 := by simp [read8]
theorem read8_set (s : Sl) (k : Nat) (hk : k < 8) : (read8 s k).set k (s.read (k : Int)).1 = read8 s (k + 1) := by
  unfold read8
  refine List.ext_getElem? (fun j => ?_)
  rw [List.getElem?_set, List.getElem?_map, List.getElem?_map, List.length_map, List.length_range]
  by_cases e : k = j
  · subst e; rw [if_pos rfl, if_pos hk, List.getElem?_range hk, Option.map_some, if_pos (by omega)]
  · rw [if_neg e]
    by_cases hj : j < 8
    · rw [List.getElem?_range hj, Option.map_some, Option.map_some]
      by_cases h : j < k
      · rw [if_pos h, if_pos (by omega)]
      · rw [if_neg h, if_neg (by omega)]
    · rw [List.getElem?_eq_none (by simpa using hj)]; rfl
theorem eight (l : List ByteArray) (h : l.length = 8) : ∃ a0 a1 a2 a3 a4 a5 a6 a7, l = [a0, a1, a2, a3, a4, a5, a6, a7] := by
  match l, h with
  | [a0, a1, a2, a3, a4, a5, a6, a7], _ => exact ⟨a0, a1, a2, a3, a4, a5, a6, a7, rfl⟩
structure Rd8 (W wr : World) (l : List ByteArray) : Prop where
  ba : wr.heap[W.heap.size]? = some (.cells (vals (List.replicate 8 ByteArray.empty)) 26 (0, 0))
  bb : wr.heap[W.heap.size + 1]? = some (.cells (vals l) 26 (0, 0))
  bel : Below W.heap.size W wr
theorem Rd8.start (W : World) : Rd8 W ((W.alloc (.cells (vals (List.replicate 8 ByteArray.empty)) 26)).alloc (.cells (vals (List.replicate 8 ByteArray.empty)) 26)) (List.replicate 8 ByteArray.empty) := by
  have s1 := alloc_size W (.cells (vals (List.replicate 8 ByteArray.empty)) 26)
  refine ⟨blk_alloc (blk_new W _) _, ?_, below_alloc (below_alloc (Below.refl _ _) _) _⟩
  have := blk_new (W.alloc (.cells (vals (List.replicate 8 ByteArray.empty)) 26)) (.cells (vals (List.replicate 8 ByteArray.empty)) 26)
  rw [s1] at this; exact this
theorem Rd8.set {W wr : World} {l : List ByteArray} (h : Rd8 W wr l) (i : Nat) (t : ByteArray) : Rd8 W (wr.setCell ⟨W.heap.size + 1, i, none⟩ (.string t)) (l.set i t) :=
  ⟨blk_far (p := ⟨W.heap.size + 1, i, none⟩) h.ba (by show W.heap.size ≠ W.heap.size + 1; omega) _, blk_put h.bb i _ (vals_set l i t), below_set h.bel (by omega)⟩
set_option maxRecDepth 100000 in
set_option maxHeartbeats 2000000 in
theorem slab_read8 {w W : World} {g rb mb n : Nat} {s : Sl} (h : IsSl w W g rb mb n s) :
    Calls Try.prog 13 #[.pointer (some ⟨g, 0, none⟩)] W fun e W' => e = .returned (.agg (vals (read8 s 8))) ∧ Below W.heap.size W W' := by
  have HS := Aside0.mk h
  clear h
  go_enter Try.func13, Try.ntmps13
  go_upto_region 2 with (fail)
  have HR0 : Aside0 (Rd8 W ((W.alloc (.cells #[.string ⟨#[]⟩, .string ⟨#[]⟩, .string ⟨#[]⟩, .string ⟨#[]⟩, .string ⟨#[]⟩, .string ⟨#[]⟩, .string ⟨#[]⟩, .string ⟨#[]⟩] 26)).alloc (.cells #[.string ⟨#[]⟩, .string ⟨#[]⟩, .string ⟨#[]⟩, .string ⟨#[]⟩, .string ⟨#[]⟩, .string ⟨#[]⟩, .string ⟨#[]⟩, .string ⟨#[]⟩] 26)) (read8 s 0)) := ⟨Rd8.start W⟩
  generalize ((W.alloc (.cells #[.string ⟨#[]⟩, .string ⟨#[]⟩, .string ⟨#[]⟩, .string ⟨#[]⟩, .string ⟨#[]⟩, .string ⟨#[]⟩, .string ⟨#[]⟩, .string ⟨#[]⟩] 26)).alloc (.cells #[.string ⟨#[]⟩, .string ⟨#[]⟩, .string ⟨#[]⟩, .string ⟨#[]⟩, .string ⟨#[]⟩, .string ⟨#[]⟩, .string ⟨#[]⟩, .string ⟨#[]⟩] 26)) = w0 at HR0 ⊢
  go_wp2
  go_loopw [4] (fun v4 wr => ∃ k : Nat, k ≤ 8 ∧ v4 = .int .i64 k ∧ Aside0 (Rd8 W wr (read8 s k))) (fun v4 _ => 8 - (intOf v4).toNat)
  case atStart => exact ⟨0, by omega, rfl, HR0⟩
  case round =>
    obtain ⟨k, hk, rfl, HR⟩ := hrel
    by_cases hlt : k < 8
    · have HC := Aside0.mk (slab_read (HS.out.below HR.out.bel) (k : Int))
      have hw : IntKind.i64.wrap ((k : Int) + 1) = (k : Int) + 1 := IntWalk.i64_in _ (by omega)
      have hl := read8_len s k
      have z0 := blk_frozen HR.out.bb k
      obtain ⟨x, hx⟩ : ∃ x, (read8 s k)[k]? = some x := ⟨_, List.getElem?_eq_getElem (by omega)⟩
      have z1 : wr.cell? ⟨W.heap.size + 1, k, none⟩ = some (.string x) := (blk_cell HR.out.bb k).trans (vals_get _ k x hx)
      clear hl hx
      go_wp2_with (go_at_call 18; refine HC.out.mono ?_; rintro e w1 ⟨rfl, rfl⟩)
      exact ⟨⟨k + 1, by omega, by go_num, ⟨read8_set s k hlt ▸ HR.out.set k _⟩⟩, by simp [intOf]; omega⟩
    · obtain rfl : k = 8 := by omega
      obtain ⟨a0, a1, a2, a3, a4, a5, a6, a7, e8⟩ := eight (read8 s 8) (read8_len s 8)
      have HE := Aside0.mk e8
      have hbb := HR.out.bb
      rw [e8] at hbb
      have hba := HR.out.ba
      have y0 : wr.cell? ⟨W.heap.size + 1, 0, none⟩ = some (.string a0) := (blk_cell hbb 0).trans rfl
      have y1 : wr.cell? ⟨W.heap.size + 1, 1, none⟩ = some (.string a1) := (blk_cell hbb 1).trans rfl
      have y2 : wr.cell? ⟨W.heap.size + 1, 2, none⟩ = some (.string a2) := (blk_cell hbb 2).trans rfl
      have y3 : wr.cell? ⟨W.heap.size + 1, 3, none⟩ = some (.string a3) := (blk_cell hbb 3).trans rfl
      have y4 : wr.cell? ⟨W.heap.size + 1, 4, none⟩ = some (.string a4) := (blk_cell hbb 4).trans rfl
      have y5 : wr.cell? ⟨W.heap.size + 1, 5, none⟩ = some (.string a5) := (blk_cell hbb 5).trans rfl
      have y6 : wr.cell? ⟨W.heap.size + 1, 6, none⟩ = some (.string a6) := (blk_cell hbb 6).trans rfl
      have y7 : wr.cell? ⟨W.heap.size + 1, 7, none⟩ = some (.string a7) := (blk_cell hbb 7).trans rfl
      have x0 : wr.cell? ⟨W.heap.size, 0, none⟩ = some (.string ByteArray.empty) := (blk_cell hba 0).trans rfl
      have x1 : wr.cell? ⟨W.heap.size, 1, none⟩ = some (.string ByteArray.empty) := (blk_cell hba 1).trans rfl
      have x2 : wr.cell? ⟨W.heap.size, 2, none⟩ = some (.string ByteArray.empty) := (blk_cell hba 2).trans rfl
      have x3 : wr.cell? ⟨W.heap.size, 3, none⟩ = some (.string ByteArray.empty) := (blk_cell hba 3).trans rfl
      have x4 : wr.cell? ⟨W.heap.size, 4, none⟩ = some (.string ByteArray.empty) := (blk_cell hba 4).trans rfl
      have x5 : wr.cell? ⟨W.heap.size, 5, none⟩ = some (.string ByteArray.empty) := (blk_cell hba 5).trans rfl
      have x6 : wr.cell? ⟨W.heap.size, 6, none⟩ = some (.string ByteArray.empty) := (blk_cell hba 6).trans rfl
      have x7 : wr.cell? ⟨W.heap.size, 7, none⟩ = some (.string ByteArray.empty) := (blk_cell hba 7).trans rfl
      have f0 := blk_frozen hba 0
      have f1 := blk_frozen hba 1
      have f2 := blk_frozen hba 2
      have f3 := blk_frozen hba 3
      have f4 := blk_frozen hba 4
      have f5 := blk_frozen hba 5
      have f6 := blk_frozen hba 6
      have f7 := blk_frozen hba 7
      have HBA := Aside0.mk hba
      clear e8 hbb hba hlt hk
      go_wp2
      refine bodyPost_ret (results_cell_row rfl _ _ W.heap.size 26 #[.string a0, .string a1, .string a2, .string a3, .string a4, .string a5, .string a6, .string a7] (0, 0) _ rfl (blk_put (blk_put (blk_put (blk_put (blk_put (blk_put (blk_put (blk_put HBA.out 0 _ rfl) 1 _ rfl) 2 _ rfl) 3 _ rfl) 4 _ rfl) 5 _ rfl) 6 _ rfl) 7 _ rfl) Try.underlying26 rfl (by kernel_rfl)) rfl ?_
      exact ⟨by rw [HE.out]; rfl, below_set (below_set (below_set (below_set (below_set (below_set (below_set (below_set HR.out.bel (Nat.le_refl _)) (Nat.le_refl _)) (Nat.le_refl _)) (Nat.le_refl _)) (Nat.le_refl _)) (Nat.le_refl _)) (Nat.le_refl _)) (Nat.le_refl _)⟩
theorem cells9 : Try.prog.cellsOf 9 = 1 := by kernel_rfl
theorem eq8 (W : World) (a1 a2 a3 a4 a5 a6 a7 a8 b1 b2 b3 b4 b5 b6 b7 b8 : ByteArray) (h : [a1, a2, a3, a4, a5, a6, a7, a8] = [b1, b2, b3, b4, b5, b6, b7, b8]) : (Op.equalIn 10000 26 (.agg #[.string a1, .string a2, .string a3, .string a4, .string a5, .string a6, .string a7, .string a8]) (.agg #[.string b1, .string b2, .string b3, .string b4, .string b5, .string b6, .string b7, .string b8])).run Try.prog W = .ok true W := by
  obtain ⟨rfl, rfl, rfl, rfl, rfl, rfl, rfl, rfl⟩ : a1 = b1 ∧ a2 = b2 ∧ a3 = b3 ∧ a4 = b4 ∧ a5 = b5 ∧ a6 = b6 ∧ a7 = b7 ∧ a8 = b8 := by simpa using h
  obtain ⟨i, hi, e1, e2, e3⟩ := info_parts info9
  refine (run_equalIn_array W 9999 _ _ Try.underlying26 hi).trans ?_
  rw [cells9]
  have he : ∀ (a : ByteArray) (w : World), (Op.equalIn 9999 9 (.string a) (.string a)).run Try.prog w = .ok true w := fun a w => by
    rw [run_equalIn_string w 9998 9 a a Try.underlying9]; simp
  simp [Op.eqItems, List.range, List.range.loop, part, he]

end Go.Proofs.Ytdenfndpggfgmaa.PP
