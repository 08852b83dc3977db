-- written by a program of this session
import Derived.Test.YtdenfndpggfgmaaPFx0
import Derived.Test.YtdenfndpggfgmaaPFx1
import Derived.Test.YtdenfndpggfgmaaPFx2
namespace Go.Proofs.Ytdenfndpggfgmaa.PF
open Go.RowKit Go.Proofs.Ytdenfndpggfgmaa.Op Go.Proofs.YtdenfndpggfgmaaW.PrintWords Go.Proofs.YtdenfndpggfgmaaW.PrintLast Go.Proofs.YtdenfndpggfgmaaW.PrintMore
attribute [local go_sem] max2_int min2_int max_two min_two max_three min_three max_four min_four   -- for this text's walks alone
set_option linter.unusedVariables false
set_option linter.unusedSimpArgs false

/-! ### splicelaw07_SlabLast: function 3 (by hand) -/
def wantOf (b : List (ByteArray × Option ByteArray)) : List ByteArray := b.map (fun x => match x.2 with | none => x.1 | some t => t)
structure LastS (s : Sl) : Prop where
  len : s.b.length = 8
  emp : ∀ x ∈ s.b, x.1 = ByteArray.empty
  up : s.down = false
  wait : s.wait = 0
theorem LastS.new : LastS (Sl.new 8) := ⟨by simp [Sl.new], fun x hx => by have := List.eq_of_mem_replicate hx; rw [this], rfl, rfl⟩
theorem write_up (s : Sl) (hd : s.down = false) (hw : s.wait = 0) (i : Nat) (hi : i < s.b.length) (t : ByteArray) (ht : t.size ≤ 256) : s.write (i : Int) t = ({ s with b := putB s.b i t }, 0) := by
  have e0 : rdy s (hasB s (i : Int) && decide ((t.size : Int) ≤ 256)) = 0 := by
    have : (hasB s (i : Int) && decide ((t.size : Int) ≤ 256)) = true := by simp [hasB]; omega
    rw [this]; exact rdy_up s hd
  unfold Sl.write
  rw [if_neg (by rw [e0]; simp), Int.toNat_natCast]
  have et : ({ s with b := putB s.b i t } : Sl).tick = ({ s with b := putB s.b i t }, false) := by unfold Sl.tick; rw [if_neg (by show ¬ 0 < s.wait; omega)]
  rw [et]; rfl
theorem LastS.put {s : Sl} (h : LastS s) (i : Nat) (t : ByteArray) : LastS { s with b := putB s.b i t } :=
  ⟨by rw [putB_len]; exact h.len, fun x hx => by
    unfold putB at hx
    obtain ⟨j, hj, rfl⟩ := List.mem_mapIdx.1 hx
    have := h.emp _ (List.getElem_mem hj)
    split <;> exact this, h.up, h.wait⟩
theorem wantOf_put (b : List (ByteArray × Option ByteArray)) (i : Nat) (hi : i < b.length) (t : ByteArray) : wantOf (putB b i t) = (wantOf b).set i t := by
  unfold wantOf
  refine List.ext_getElem? (fun j => ?_)
  rw [List.getElem?_map, putB_get, List.getElem?_set, List.getElem?_map, List.length_map]
  by_cases e : i = j
  · subst e; rw [if_pos rfl, if_pos hi, List.getElem?_eq_getElem hi]; simp
  · rw [if_neg e]
    cases b[j]? with
    | none => rfl
    | some x => simp [Ne.symm e]
theorem read_up (s : Sl) (hd : s.down = false) (i : Nat) (hi : i < s.b.length) : (s.read (i : Int)).1 = (wantOf s.b)[i]'(by simpa [wantOf] using hi) := by
  have e0 : rdy s (hasB s (i : Int)) = 0 := by
    have : hasB s (i : Int) = true := by simp [hasB]; omega
    rw [this]; exact rdy_up s hd
  unfold Sl.read
  rw [if_neg (by rw [e0]; simp), Int.toNat_natCast, List.getElem?_eq_getElem hi]
  simp only [wantOf, List.getElem_map]
  cases h : s.b[i] with
  | mk x o => cases o <;> rfl
theorem read8_want (s : Sl) (hd : s.down = false) (hl : s.b.length = 8) : read8 s 8 = wantOf s.b := by
  unfold read8
  refine List.ext_getElem (by simp [wantOf, hl]) (fun i h1 h2 => ?_)
  simp only [List.length_map, List.length_range] at h1
  rw [List.getElem_map, List.getElem_range, if_pos h1, read_up s hd i (by omega)]
theorem fail_up (s : Sl) (hd : s.down = false) (ks : List Int) (tr at_ : Int) : s.fail ks tr at_ = { s with b := settle (failF ks tr at_) s.b, down := true } := by
  unfold Sl.fail; rw [if_neg (by rw [hd]; decide)]
theorem wantOf_settle (F) (b : List (ByteArray × Option ByteArray)) : wantOf (settle F b) = b.mapIdx (finB F (fun _ => false)) := by
  unfold wantOf settle
  refine List.ext_getElem? (fun j => ?_)
  rw [List.getElem?_map, List.getElem?_mapIdx, List.getElem?_mapIdx]
  cases b[j]? <;> rfl
theorem last_keep {s : Sl} (h : LastS s) (ks : List Int) (hk : ∀ i : Nat, i < 8 → ks.contains (i : Int) = true) : wantOf (settle (failF ks (-1) 0) s.b) = wantOf s.b := by
  rw [wantOf_settle]
  unfold wantOf
  refine List.ext_getElem? (fun j => ?_)
  rw [List.getElem?_map, List.getElem?_mapIdx]
  cases e : s.b[j]? with
  | none => rfl
  | some x =>
    have hj := (List.getElem?_eq_some_iff.1 e).1
    obtain ⟨x, o⟩ := x
    cases o with
    | none => rfl
    | some t =>
      have := hk j (by have := h.len; omega)
      simp only [Option.map_some, finB, failF, this]; rfl
theorem last_lost {s : Sl} (h : LastS s) : wantOf (settle (failF [] (-1) 0) s.b) = List.replicate 8 ByteArray.empty := by
  rw [wantOf_settle]
  refine List.ext_getElem? (fun j => ?_)
  rw [List.getElem?_mapIdx]
  cases e : s.b[j]? with
  | none => rw [List.getElem?_eq_none (by have := List.getElem?_eq_none_iff.1 e; have := h.len; simp; omega)]; rfl
  | some x =>
    obtain ⟨hj, hx⟩ := List.getElem?_eq_some_iff.1 e
    have he := h.emp x (hx ▸ List.getElem_mem hj)
    rw [List.getElem?_replicate, if_pos (by have := h.len; omega)]
    obtain ⟨x, o⟩ := x
    dsimp only at he
    subst he
    cases o with
    | none => rfl
    | some t =>
      simp only [Option.map_some, finB, failF]
      rw [if_neg (by decide), if_neg (by simp), if_neg (by omega)]

section
open Go.Maps Go.Sort Go.Shelf
/-! ### the slab: what is loose -/
def isLoose (b : List (ByteArray × Option ByteArray)) (i : Nat) : Bool := match b[i]? with | some (_, some _) => true | _ => false
def looseL (b : List (ByteArray × Option ByteArray)) : List Int := ((List.range b.length).filter (isLoose b)).map (fun i : Nat => (i : Int))
theorem mem_looseL (b : List (ByteArray × Option ByteArray)) (x : Int) : x ∈ looseL b ↔ ∃ i : Nat, x = (i : Int) ∧ i < b.length ∧ isLoose b i = true := by
  unfold looseL
  rw [List.mem_map]
  constructor
  · rintro ⟨i, hi, rfl⟩
    rw [List.mem_filter, List.mem_range] at hi
    exact ⟨i, rfl, hi.1, hi.2⟩
  · rintro ⟨i, rfl, h1, h2⟩
    exact ⟨i, List.mem_filter.2 ⟨List.mem_range.2 h1, h2⟩, rfl⟩
theorem looseL_lt (b : List (ByteArray × Option ByteArray)) : (looseL b).Pairwise (· < ·) := by
  unfold looseL
  rw [List.pairwise_map]
  exact (List.pairwise_lt_range.filter _).imp (fun h => by omega)
theorem isLoose_has {D : DW} {b : List (ByteArray × Option ByteArray)} (h : SlAs D b) (x : Int) : x ∈ looseL b ↔ Maps.has D (.int .i64 x) = true := by
  rw [mem_looseL]
  constructor
  · rintro ⟨i, rfl, hi, hl⟩
    unfold isLoose at hl
    cases hb : b[i]? with
    | none => rw [hb] at hl; simp at hl
    | some y =>
      obtain ⟨y, o⟩ := y
      cases o with
      | none => rw [hb] at hl; simp at hl
      | some t => exact (h.some_ i y t hb).1
  · intro hh
    obtain ⟨i, hi, e⟩ := h.in_ _ hh
    have ex : x = (i : Int) := by injection e
    subst ex
    refine ⟨i, rfl, hi, ?_⟩
    unfold isLoose
    cases hb : b[i]? with
    | none => rw [List.getElem?_eq_getElem hi] at hb; simp at hb
    | some y =>
      obtain ⟨y, o⟩ := y
      cases o with
      | none => rw [h.none_ i y hb] at hh; simp at hh
      | some t => rfl
theorem looseL_perm {D : DW} {b : List (ByteArray × Option ByteArray)} (h : SlAs D b) {es : List (Lit × DW)} (e : D = .map es) (hp : es.Pairwise (fun p q => p.1 ≠ q.1)) (hk : ∀ p ∈ es, WideAt.IsKeyLit p.1) : (looseL b).Perm (intKeys D) := by
  subst e
  refine perm_intKeys hp (fun p hp2 => ?_) ((looseL_lt b).imp (fun h => by omega)) (isLoose_has h)
  have hh : Maps.has (.map es : DW) p.1 = true := by
    rw [Maps.has_eq, List.any_eq_true]
    exact ⟨p, hp2, WideAt.sameKey_self (hk p hp2)⟩
  obtain ⟨i, _, e⟩ := h.in_ _ hh
  exact ⟨_, e⟩
theorem looseL_sort {b : List (ByteArray × Option ByteArray)} {ss : List Int} (h : ss.Perm (looseL b)) : ss.mergeSort (fun x y => decide (x ≤ y)) = looseL b := by
  have tr : ∀ a b c : Int, decide (a ≤ b) = true → decide (b ≤ c) = true → decide (a ≤ c) = true := fun a b c h1 h2 => by simp only [decide_eq_true_eq] at *; omega
  have tot : ∀ a b : Int, (decide (a ≤ b) || decide (b ≤ a)) = true := fun a b => by simp only [Bool.or_eq_true, decide_eq_true_eq]; omega
  refine List.Perm.eq_of_pairwise (le := fun a b => decide (a ≤ b) = true) (fun a b _ _ h1 h2 => ?_) (List.pairwise_mergeSort tr tot ss) ((looseL_lt b).imp (fun h => decide_eq_true (by omega))) ((List.mergeSort_perm ss _).trans h)
  simp only [decide_eq_true_eq] at h1 h2
  omega
theorem reps_ints (l : List Int) : Reps (fun (x : Int) cs => cs = [Value.int .i64 x]) 1 l (l.map (Value.int .i64)) := by
  refine ⟨by simp, fun j p hp => ?_⟩
  rw [Nat.mul_one]
  obtain ⟨hj, hx⟩ := List.getElem?_eq_some_iff.1 hp
  rw [List.drop_eq_getElem_cons (by simpa using hj)]
  simp [hx]
theorem R_ints {W : World} {base : Nat} {v : Value} {l : List Int} {m : Nat} (hm : m = l.length) (h : W.ownsRow base 3 1 v m (l.map encZ)) : Kd.R (Kd.int .i64) 3 W base (fun _ => True) v l := by
  subst hm
  exact ⟨fun _ _ => trivial, l.map encZ, h, reps_ints l⟩
theorem Try.sortsA (m : Nat) : AnyZI.SortsIn Try.prog Go.Proofs.Try.sortedA_ren Fence.wide m :=
  ⟨fun blk off cap ss W hH hblk hsz => callsIn_wide.2 (AnyM.slices_Sort_int Go.Proofs.Try.sortA blk off cap ss W hH hblk hsz),
   fun p cap W => callsIn_wide.2 (AnyM.slices_Sort_int_none Go.Proofs.Try.sortA p cap W)⟩
set_option maxHeartbeats 1000000 in
theorem slab_loose {w W : World} {g rb mb n : Nat} {s : Sl} (h : IsSl w W g rb mb n s) (hn : n ≤ 1000000) :
    Calls Try.prog 21 #[.pointer (some ⟨g, 0, none⟩)] W fun e W' => ∃ v, e = .returned v ∧ Kd.R (Kd.int .i64) 3 W' W.heap.size (fun _ => True) v (looseL s.b) ∧ Below W.heap.size W W' := by
  obtain ⟨D, hown, hA⟩ := h.map
  obtain ⟨c0, c1, _, _⟩ := h.cells
  obtain ⟨es, eD, hp, hk⟩ := hown.entries (Maps.int_keyed Try.underlying3)
  have hperm := looseL_perm hA eD hp hk
  have hsz := hown.size_le
  refine (callsIn_wide (n := 6)).1 ?_
  have hbl := hown.lt
  have hseq : SeqGives Fence.wide 2 Try.prog 44 #[.pointer (some ⟨W.heap.size, 0, none⟩)] encZ (fun ss => ss.Perm (intKeys D)) (Maps.size D) (W.alloc (.cells #[.map (some mb)] 60)) :=
    AnyZI.keys_gives (ρ := Go.Proofs.Try.keysA_ren) { Go.Proofs.Try.keysA with } Fence.wide _ trivial rfl (by omega) W.heap.size mb n D _ (by simp) (by simp) (by
      obtain ⟨es, clock, hb, Ft, hs, hD⟩ := hown
      exact ⟨es, clock, (Below.heap_alloc _ _ mb hbl).trans hb, Ft, hs, hD⟩)
  have cK : ∀ mb W, CallsIn Fence.wide 5 Try.prog 33 #[.map mb] W fun e w' => e = .returned (.func (.func 44) #[] #[.pointer (some ⟨W.heap.size, 0, none⟩)]) ∧ w' = W.alloc (.cells #[.map mb] 60) := fun mb W => AnyZI.keys_in Go.Proofs.Try.keysA Fence.wide 5 trivial rfl mb W
  have cS := AnyZI.sorted_in Go.Proofs.Try.sortedA Fence.wide 5 trivial trivial trivial trivial rfl (by omega) (Try.sortsA _) (enters_of Try.func43 (by kernel_rfl) rfl) 44 #[.pointer (some ⟨W.heap.size, 0, none⟩)] trivial (enters_of Try.func44 (by kernel_rfl) rfl) _ _ (by unfold maxLen; omega) (by omega) _ hseq
  change CallsIn _ _ Try.prog 32 _ _ _ at cS
  have hfK : Fence.wide.fn 33 := trivial
  have hfS : Fence.wide.fn 32 := trivial
  refine callsIn_of_wp Try.func21 rfl trivial ?_ rfl
  have HP := Aside0.mk hperm
  clear hperm hp hk eD hA hown hsz hseq h
  simp only [Try.ntmps21, List.size_toArray, List.length_cons, List.length_nil, Nat.reduceAdd, Nat.reduceSub, Array.replicate_succ, Array.replicate_zero, List.push_toArray, List.append_toArray, List.nil_append, List.cons_append]
  gi_wp2_with (first
    | (gi_at_call 33; refine (cK _ _).mono ?_; rintro e w' ⟨rfl, rfl⟩)
    | (gi_at_call 32; refine cS.mono ?_; rintro e w' ⟨v, ss, rfl, hS, hrow, hnil, hb⟩))
  go_ret
  have hp2 := hS.trans HP.out.symm
  have hrow2 := ownsRow_base_a (base' := W.heap.size) hrow (by simp)
  rw [show (ss.mergeSort leI) = looseL s.b from looseL_sort hp2] at hrow2
  exact ⟨v, rfl, R_ints hp2.length_eq hrow2, ((Below.refl _ W).alloc (Nat.le_refl _) _).trans (hb.mono (by simp))⟩
end

theorem flush_up (s : Sl) (hd : s.down = false) (hw : s.wait = 0) : s.flush = ({ s with b := settle newF s.b }, 0) := by
  unfold Sl.flush
  have et : s.tick = (s, false) := by unfold Sl.tick; rw [if_neg (by omega)]
  rw [if_neg (by rw [hd]; decide), et]; rfl
def okAct (x : S38) : Prop := -9223372036854775808 ≤ x.f1 ∧ x.f1 ≤ 9223372036854775807
instance (x : S38) : Decidable (okAct x) := by unfold okAct; infer_instance
theorem read_down (s : Sl) (hd : s.down = true) (i : Int) : s.read i = (ByteArray.empty, 9) := by
  unfold Sl.read; rw [rdy_down s _ hd]; rfl
theorem cell_below {W W' : World} (hb : Below W.heap.size W W') {a : Addr} {v : Value} (h : W.cell? a = some v) : W'.cell? a = some v := (hb.cell (World.block_lt_of_cell? W a h)).trans h
section
variable {w W : World} {g rb mb n : Nat} {s : Sl}
theorem IsSl.drewN (h : IsSl w W g rb mb n s) (m : Nat) : IsSl w (W.drewN m) g rb mb n s := h.below (pw_below_drewN (Below.refl _ _) m)
theorem slab_write_q (h : IsSl w W g rb mb n s) (hd : s.down = true) (m : Nat) (i : Int) (t : ByteArray) :
    Calls Try.prog 12 #[.pointer (some ⟨g, 0, none⟩), .int .i64 i, .string t] (W.drewN m) fun e W' => e = .returned (.int .i64 9) ∧ W' = W.drewN m := by
  have e9 := rdy_down s (hasB s i && decide ((t.size : Int) ≤ 256)) hd
  have := slab_write_no (h.drewN m) i t (by rw [e9]; decide)
  rw [e9] at this
  exact this.mono fun e W' h => ⟨h.1, h.2.symm⟩
theorem slab_flush_q (h : IsSl w W g rb mb n s) (hd : s.down = true) (m : Nat) :
    Calls Try.prog 16 #[.pointer (some ⟨g, 0, none⟩)] (W.drewN m) fun e W' => e = .returned (.int .i64 9) ∧ W' = W.drewN m :=
  (slab_flush_down (h.drewN m) hd).mono fun e W' h => ⟨h.1, h.2.symm⟩
theorem slab_down_q (h : IsSl w W g rb mb n s) (m : Nat) :
    Calls Try.prog 19 #[.pointer (some ⟨g, 0, none⟩)] (W.drewN m) fun e W' => e = .returned (.bool s.down) ∧ W' = W.drewN m :=
  (slab_down (h.drewN m)).mono fun e W' h => ⟨h.1, h.2.symm⟩
end
/-! ### a slab that is up, with nothing to trip; acts in a row -/
structure UpS (s : Sl) : Prop where
  len : s.b.length = 8
  up : s.down = false
  wait : s.wait = 0
  kb : s.kb = 0
theorem UpS.new : UpS (Sl.new 8) := ⟨by simp [Sl.new], rfl, rfl, rfl⟩
def canW (i : Int) (t : ByteArray) : Bool := decide (0 ≤ i) && decide (i < 8) && decide ((t.size : Int) ≤ 256)
def putI (s : Sl) (i : Int) (t : ByteArray) : Sl := if canW i t = true then { s with b := putB s.b i.toNat t } else s
theorem write_any (s : Sl) (h : UpS s) (i : Int) (t : ByteArray) : s.write i t = (putI s i t, if canW i t = true then 0 else 1) := by
  have e : (hasB s i && decide ((t.size : Int) ≤ 256)) = canW i t := by unfold hasB canW; rw [h.len]; rfl
  unfold putI
  by_cases hc : canW i t = true
  · rw [if_pos hc, if_pos hc]
    have hc2 := hc
    simp only [canW, Bool.and_eq_true, decide_eq_true_eq] at hc2
    obtain ⟨j, rfl⟩ : ∃ j : Nat, i = (j : Int) := ⟨i.toNat, by omega⟩
    rw [write_up s h.up h.wait j (by rw [h.len]; omega) t (by omega), Int.toNat_natCast]
  · rw [if_neg hc, if_neg hc]
    have e1 : rdy s (hasB s i && decide ((t.size : Int) ≤ 256)) = 1 := by
      rw [e]; unfold rdy; rw [if_neg (by rw [h.up]; decide), if_neg hc]
    unfold Sl.write
    rw [if_pos (by rw [e1]; decide), e1]
theorem UpS.put_ {s : Sl} (h : UpS s) (i : Int) (t : ByteArray) : UpS (putI s i t) := by
  unfold putI; split
  · exact ⟨by rw [putB_len]; exact h.len, h.up, h.wait, h.kb⟩
  · exact h
theorem act_at {w W : World} {A : Option Addr} {n : Nat} {l : List S38} (hr : Kd.C k38 w A n l) (hb : Below w.heap.size w W) (k : Nat) (hk : k < n) : ∃ ad A3 c3 x, A = some ad ∧ x = rd_T38 l (k : Int) ∧
    W.cell? (ad.add (k * 6)) = some (.int .i64 x.f0) ∧ W.cell? ⟨(ad.add (k * 6)).block, (ad.add (k * 6)).off + 1, none⟩ = some (.int .i64 x.f1) ∧ W.cell? ⟨(ad.add (k * 6)).block, (ad.add (k * 6)).off + 2, none⟩ = some (.string x.f2) ∧ W.cell? ⟨(ad.add (k * 6)).block, (ad.add (k * 6)).off + 3, none⟩ = some (.slice A3 x.f3.f0.length c3) ∧
    W.cell? ⟨(ad.add (k * 6)).block, (ad.add (k * 6)).off + 4, none⟩ = some (.int .i64 x.f3.f1) ∧ W.cell? ⟨(ad.add (k * 6)).block, (ad.add (k * 6)).off + 5, none⟩ = some (.int .i64 x.f3.f2) ∧ x.f3.f0.length ≤ c3 ∧ (Kd.int .i64).C w A3 x.f3.f0.length x.f3.f0 := by
  obtain ⟨ad, A3, c3, e, x0, x1, x2, x3, x4, x5, hc3, hC3⟩ := at_T38 hr (k : Int) (by omega) (by omega)
  rw [Int.toNat_natCast] at x0 x1 x2 x3 x4 x5
  exact ⟨ad, A3, c3, _, e, rfl, cell_below hb x0, cell_below hb x1, cell_below hb x2, cell_below hb x3, cell_below hb x4, cell_below hb x5, hc3, hC3⟩
theorem act_at2 {w W : World} {ad : Addr} {n : Nat} {l : List S38} (hr : Kd.C k38 w (some ad) n l) (hb : Below w.heap.size w W) (k : Nat) (hk : k < n) {x : S38} (hx : x = rd_T38 l (k : Int)) :
    W.cell? (ad.add (k * 6)) = some (.int .i64 x.f0) ∧ W.cell? ⟨(ad.add (k * 6)).block, (ad.add (k * 6)).off + 1, none⟩ = some (.int .i64 x.f1) ∧ W.cell? ⟨(ad.add (k * 6)).block, (ad.add (k * 6)).off + 2, none⟩ = some (.string x.f2) := by
  obtain ⟨ad', A3, c3, y, e, rfl, x0, x1, x2, _⟩ := act_at hr hb k hk
  injection e with e
  subst e hx
  exact ⟨x0, x1, x2⟩
/-- nothing is loose -/
def Sure (b : List (ByteArray × Option ByteArray)) : Prop := ∀ x ∈ b, x.2 = none
theorem settle_sure (F) (b) : Sure (settle F b) := by
  intro x hx
  unfold settle at hx
  obtain ⟨i, hi, rfl⟩ := List.mem_mapIdx.1 hx
  rfl
theorem sure_loose {b : List (ByteArray × Option ByteArray)} (h : Sure b) : looseL b = [] := by
  rw [List.eq_nil_iff_forall_not_mem]
  intro x hx
  obtain ⟨i, _, hi, hl⟩ := (mem_looseL b x).1 hx
  unfold isLoose at hl
  cases hb : b[i]? with
  | none => rw [hb] at hl; simp at hl
  | some y =>
    have := h y (List.mem_of_getElem? hb)
    obtain ⟨y, o⟩ := y
    dsimp only at this
    subst this
    rw [hb] at hl; simp at hl
/-- what was not written to stands -/
def Stood (on : List Bool) (b0 b : List (ByteArray × Option ByteArray)) : Prop := ∀ i : Nat, on[i]? = some false → b[i]? = b0[i]?
theorem Stood.put {on : List Bool} {b0 b : List (ByteArray × Option ByteArray)} (h : Stood on b0 b) (i : Nat) (hi : i < on.length) (t : ByteArray) : Stood (on.set i true) b0 (putB b i t) := by
  intro j hj
  rw [List.getElem?_set] at hj
  by_cases e : i = j
  · rw [if_pos e, if_pos hi] at hj; simp at hj
  · rw [if_neg e] at hj
    rw [putB_get, ← h j hj]
    cases b[j]? with
    | none => rfl
    | some x => simp [Ne.symm e]
theorem stood_fail {on : List Bool} {b0 b : List (ByteArray × Option ByteArray)} (h : Stood on b0 b) (h0 : Sure b0) (F) (i : Nat) (hi : on[i]? = some false) (hb : i < b.length) : (wantOf (settle F b))[i]? = (wantOf b0)[i]? := by
  have e := h i hi
  rw [wantOf_settle]
  unfold wantOf
  rw [List.getElem?_mapIdx, List.getElem?_map, ← e]
  cases hx : b[i]? with
  | none => rfl
  | some x =>
    have := h0 x (List.mem_of_getElem? (e.symm.trans hx))
    obtain ⟨x, o⟩ := x
    dsimp only at this
    subst this
    rfl
theorem IsSl.setFar {w W : World} {g rb mb n b : Nat} {s : Sl} (h : IsSl w W g rb mb n s) (hk : s.kb ≤ b) (hb : w.heap.size ≤ b) (hn : b ≠ g ∧ b ≠ rb ∧ b ≠ mb) (j : Nat) (v : Value) : IsSl w (W.setCell ⟨b, j, none⟩ v) g rb mb n s := by
  obtain ⟨vk, h1, h2⟩ := h.own
  obtain ⟨D, h3, h4⟩ := h.map
  exact ⟨⟨vk, blk_far (p := ⟨b, j, none⟩) h1 hn.1.symm v, Kd.R_far (p := ⟨b, j, none⟩) h2 (fun k hk2 => by have := hk2.2; show k ≠ b; omega) v⟩, blk_far (p := ⟨b, j, none⟩) h.row hn.2.1.symm v, ⟨D, h3.setCell (a := ⟨b, j, none⟩) hn.2.2.symm v, h4⟩, h.len, h.small, h.wt, h.kl, h.g1, h.r1, h.m1, h.gr, h.gm, h.rm, below_set h.bel hb⟩
theorem cells8 {W : World} {gw : Nat} {a1 a2 a3 a4 a5 a6 a7 a8 : ByteArray} (h : W.heap[gw]? = some (.cells (vals [a1, a2, a3, a4, a5, a6, a7, a8]) 26 (0, 0))) :
    (W.cell? ⟨gw, 0, none⟩ = some (.string a1) ∧ W.cell? ⟨gw, 1, none⟩ = some (.string a2) ∧ W.cell? ⟨gw, 2, none⟩ = some (.string a3) ∧ W.cell? ⟨gw, 3, none⟩ = some (.string a4) ∧ W.cell? ⟨gw, 4, none⟩ = some (.string a5) ∧ W.cell? ⟨gw, 5, none⟩ = some (.string a6) ∧ W.cell? ⟨gw, 6, none⟩ = some (.string a7) ∧ W.cell? ⟨gw, 7, none⟩ = some (.string a8)) ∧
    W.frozen? ⟨gw, 0, none⟩ = false ∧ W.frozen? ⟨gw, 1, none⟩ = false ∧ W.frozen? ⟨gw, 2, none⟩ = false ∧ W.frozen? ⟨gw, 3, none⟩ = false ∧ W.frozen? ⟨gw, 4, none⟩ = false ∧ W.frozen? ⟨gw, 5, none⟩ = false ∧ W.frozen? ⟨gw, 6, none⟩ = false ∧ W.frozen? ⟨gw, 7, none⟩ = false :=
  ⟨⟨(blk_cell h 0).trans rfl, (blk_cell h 1).trans rfl, (blk_cell h 2).trans rfl, (blk_cell h 3).trans rfl, (blk_cell h 4).trans rfl, (blk_cell h 5).trans rfl, (blk_cell h 6).trans rfl, (blk_cell h 7).trans rfl⟩, blk_frozen h 0, blk_frozen h 1, blk_frozen h 2, blk_frozen h 3, blk_frozen h 4, blk_frozen h 5, blk_frozen h 6, blk_frozen h 7⟩

/-! ### splicelaw07_SlabAll: function 6 (by hand) -/
theorem IsSl.other {w W W' : World} {g rb mb n g' rb' mb' : Nat} {s : Sl} (h : IsSl w W g rb mb n s) (hk0 : s.kb = 0) (hk : SlKept W W' g' rb' mb') (hb : Below w.heap.size w W') (d : (g ≠ g' ∧ g ≠ rb' ∧ g ≠ mb') ∧ (rb ≠ g' ∧ rb ≠ rb' ∧ rb ≠ mb') ∧ (mb ≠ g' ∧ mb ≠ rb' ∧ mb ≠ mb')) : IsSl w W' g rb mb n s := by
  obtain ⟨vk, h1, h2⟩ := h.own
  obtain ⟨D, ⟨es, clock, h3, h3r⟩, h4⟩ := h.map
  have hl := h.lts
  refine ⟨⟨vk, (hk.2 g hl.1 d.1.1 d.1.2.1 d.1.2.2).trans h1, Kd.R_step h2 (fun i hi hlt => absurd hi.2 (by rw [hk0]; omega))⟩, (hk.2 rb hl.2.1 d.2.1.1 d.2.1.2.1 d.2.1.2.2).trans h.row, ⟨D, ⟨es, clock, (hk.2 mb hl.2.2 d.2.2.1 d.2.2.2.1 d.2.2.2.2).trans h3, h3r⟩, h4⟩, h.len, h.small, h.wt, h.kl, h.g1, h.r1, h.m1, h.gr, h.gm, h.rm, hb⟩
/-- three slabs, and an array -/
structure T3 (w wr : World) (ga ra ma gb rb mb gc rc mc n gs : Nat) (sa sb sc : Sl) (su : List ByteArray) : Prop where
  a : IsSl w wr ga ra ma n sa
  b : IsSl w wr gb rb mb n sb
  c : IsSl w wr gc rc mc n sc
  ua : sa.kb = 0
  ub : sb.kb = 0
  uc : sc.kb = 0
  nd : ra < ma ∧ ma < ga ∧ ga < rb ∧ rb < mb ∧ mb < gb ∧ gb < rc ∧ rc < mc ∧ mc < gc ∧ gc < gs
  ar : wr.heap[gs]? = some (.cells (vals su) 26 (0, 0))
  gs1 : w.heap.size ≤ gs
section
variable {w wr w2 : World} {ga ra ma gb rb mb gc rc mc n m gs : Nat} {sa sb sc s2 : Sl} {su : List ByteArray}
theorem T3.below (h : T3 w wr ga ra ma gb rb mb gc rc mc n gs sa sb sc su) (hb : Below wr.heap.size wr w2) : T3 w w2 ga ra ma gb rb mb gc rc mc n gs sa sb sc su :=
  ⟨h.a.below hb, h.b.below hb, h.c.below hb, h.ua, h.ub, h.uc, h.nd, blk_below h.ar hb, h.gs1⟩
theorem T3.more (h : T3 w wr ga ra ma gb rb mb gc rc mc n gs sa sb sc su) (hm : n ≤ m) : T3 w wr ga ra ma gb rb mb gc rc mc m gs sa sb sc su := { h with a := h.a.more hm, b := h.b.more hm, c := h.c.more hm }
theorem T3.turnA (h : T3 w wr ga ra ma gb rb mb gc rc mc n gs sa sb sc su) (hm : n ≤ m) (h2 : IsSl w w2 ga ra ma m s2) (hk : SlKept wr w2 ga ra ma) (hu : s2.kb = 0) : T3 w w2 ga ra ma gb rb mb gc rc mc m gs s2 sb sc su := by
  have nd := h.nd
  exact ⟨h2, (h.b.other h.ub hk h2.bel ⟨⟨by omega, by omega, by omega⟩, ⟨by omega, by omega, by omega⟩, by omega, by omega, by omega⟩).more hm, (h.c.other h.uc hk h2.bel ⟨⟨by omega, by omega, by omega⟩, ⟨by omega, by omega, by omega⟩, by omega, by omega, by omega⟩).more hm, hu, h.ub, h.uc, h.nd, (hk.2 gs (blk_lt h.ar) (by omega) (by omega) (by omega)).trans h.ar, h.gs1⟩
theorem T3.turnB (h : T3 w wr ga ra ma gb rb mb gc rc mc n gs sa sb sc su) (hm : n ≤ m) (h2 : IsSl w w2 gb rb mb m s2) (hk : SlKept wr w2 gb rb mb) (hu : s2.kb = 0) : T3 w w2 ga ra ma gb rb mb gc rc mc m gs sa s2 sc su := by
  have nd := h.nd
  exact ⟨(h.a.other h.ua hk h2.bel ⟨⟨by omega, by omega, by omega⟩, ⟨by omega, by omega, by omega⟩, by omega, by omega, by omega⟩).more hm, h2, (h.c.other h.uc hk h2.bel ⟨⟨by omega, by omega, by omega⟩, ⟨by omega, by omega, by omega⟩, by omega, by omega, by omega⟩).more hm, h.ua, hu, h.uc, h.nd, (hk.2 gs (blk_lt h.ar) (by omega) (by omega) (by omega)).trans h.ar, h.gs1⟩
theorem T3.turnC (h : T3 w wr ga ra ma gb rb mb gc rc mc n gs sa sb sc su) (hm : n ≤ m) (h2 : IsSl w w2 gc rc mc m s2) (hk : SlKept wr w2 gc rc mc) (hu : s2.kb = 0) : T3 w w2 ga ra ma gb rb mb gc rc mc m gs sa sb s2 su := by
  have nd := h.nd
  exact ⟨(h.a.other h.ua hk h2.bel ⟨⟨by omega, by omega, by omega⟩, ⟨by omega, by omega, by omega⟩, by omega, by omega, by omega⟩).more hm, (h.b.other h.ub hk h2.bel ⟨⟨by omega, by omega, by omega⟩, ⟨by omega, by omega, by omega⟩, by omega, by omega, by omega⟩).more hm, h2, h.ua, h.ub, hu, h.nd, (hk.2 gs (blk_lt h.ar) (by omega) (by omega) (by omega)).trans h.ar, h.gs1⟩
theorem T3.arr (h : T3 w wr ga ra ma gb rb mb gc rc mc n gs sa sb sc su) (j : Nat) (t : ByteArray) : T3 w (wr.setCell ⟨gs, j, none⟩ (.string t)) ga ra ma gb rb mb gc rc mc n gs sa sb sc (su.set j t) := by
  have nd := h.nd
  exact ⟨h.a.setFar (by rw [h.ua]; omega) h.gs1 ⟨by omega, by omega, by omega⟩ j _, h.b.setFar (by rw [h.ub]; omega) h.gs1 ⟨by omega, by omega, by omega⟩ j _, h.c.setFar (by rw [h.uc]; omega) h.gs1 ⟨by omega, by omega, by omega⟩ j _, h.ua, h.ub, h.uc, h.nd, blk_put h.ar j _ (vals_set su j t), h.gs1⟩
end
/-- all three have the same blocks; the array has what is sure -/
structure Alike (sa sb sc : Sl) (su : List ByteArray) : Prop where
  a : UpS sa
  b : UpS sb
  c : UpS sc
  ab : sb.b = sa.b
  ac : sc.b = sa.b
  su : su = sa.b.map (fun x => x.1)
theorem putB_twice (b : List (ByteArray × Option ByteArray)) (i : Nat) (t : ByteArray) : putB (putB b i t) i t = putB b i t := by
  refine List.ext_getElem? (fun j => ?_)
  rw [putB_get, putB_get]
  cases b[j]? with
  | none => rfl
  | some x => simp only [Option.map_some]; split <;> rfl
theorem putB_fst (b : List (ByteArray × Option ByteArray)) (i : Nat) (t : ByteArray) : (putB b i t).map (fun x => x.1) = b.map (fun x => x.1) := by
  refine List.ext_getElem? (fun j => ?_)
  rw [List.getElem?_map, putB_get, List.getElem?_map]
  cases b[j]? with
  | none => rfl
  | some x => simp only [Option.map_some]; split <;> rfl
theorem putI_b (s : Sl) (i : Int) (t : ByteArray) : (putI s i t).b = if canW i t = true then putB s.b i.toNat t else s.b := by unfold putI; split <;> rfl
theorem Alike.write {sa sb sc : Sl} {su : List ByteArray} (h : Alike sa sb sc su) (i : Int) (t : ByteArray) : Alike (putI (putI sa i t) i t) (putI sb i t) (putI sc i t) su := by
  refine ⟨(h.a.put_ i t).put_ i t, h.b.put_ i t, h.c.put_ i t, ?_, ?_, ?_⟩
  · rw [putI_b, putI_b, putI_b, h.ab]; split
    · rw [putB_twice]
    · rfl
  · rw [putI_b, putI_b, putI_b, h.ac]; split
    · rw [putB_twice]
    · rfl
  · rw [putI_b, putI_b]; split
    · rw [putB_twice, putB_fst]; exact h.su
    · exact h.su
def flS (s : Sl) : Sl := { s with b := settle newF s.b }
theorem UpS.fl {s : Sl} (h : UpS s) : UpS (flS s) := ⟨by show (settle _ s.b).length = 8; rw [settle_len]; exact h.len, h.up, h.wait, h.kb⟩
theorem settle_new (b : List (ByteArray × Option ByteArray)) : wantOf (settle newF b) = wantOf b := by
  rw [wantOf_settle]; unfold wantOf
  refine List.ext_getElem? (fun j => ?_)
  rw [List.getElem?_mapIdx, List.getElem?_map]
  cases b[j]? with
  | none => rfl
  | some x => obtain ⟨x, o⟩ := x; cases o <;> rfl
theorem want_fst {b : List (ByteArray × Option ByteArray)} (h : Sure b) : wantOf b = b.map (fun x => x.1) := by
  unfold wantOf
  refine List.map_congr_left (fun x hx => ?_)
  have := h x hx
  obtain ⟨x, o⟩ := x
  dsimp only at this
  subst this
  rfl
theorem Alike.flush {sa sb sc : Sl} {su : List ByteArray} (h : Alike sa sb sc su) : Alike (flS sa) (flS sb) (flS sc) (wantOf (flS sc).b) :=
  ⟨h.a.fl, h.b.fl, h.c.fl, by show settle newF sb.b = settle newF sa.b; rw [h.ab], by show settle newF sc.b = settle newF sa.b; rw [h.ac], by
    show wantOf (settle newF sc.b) = (settle newF sa.b).map _
    rw [want_fst (settle_sure newF sc.b), h.ac]⟩
theorem keep_all (b : List (ByteArray × Option ByteArray)) (tr at_ : Int) : wantOf (settle (failF (looseL b) tr at_) b) = wantOf b := by
  rw [wantOf_settle]; unfold wantOf
  refine List.ext_getElem? (fun j => ?_)
  rw [List.getElem?_mapIdx, List.getElem?_map]
  cases hb : b[j]? with
  | none => rfl
  | some x =>
    obtain ⟨x, o⟩ := x
    cases o with
    | none => rfl
    | some t =>
      have : (looseL b).contains (j : Int) = true := by
        rw [List.contains_iff_mem, mem_looseL]
        exact ⟨j, rfl, (List.getElem?_eq_some_iff.1 hb).1, by unfold isLoose; rw [hb]⟩
      simp only [Option.map_some, finB, failF, this]; rfl
theorem keep_none (b : List (ByteArray × Option ByteArray)) (at_ : Int) : wantOf (settle (failF [] (-1) at_) b) = b.map (fun x => x.1) := by
  rw [wantOf_settle]
  refine List.ext_getElem? (fun j => ?_)
  rw [List.getElem?_mapIdx, List.getElem?_map]
  cases hb : b[j]? with
  | none => rfl
  | some x =>
    obtain ⟨x, o⟩ := x
    cases o with
    | none => rfl
    | some t =>
      simp only [Option.map_some, finB, failF]
      rw [if_neg (by decide), if_neg (by simp), if_neg (by omega)]
theorem fail_sure {b : List (ByteArray × Option ByteArray)} (h : Sure b) (F) : wantOf (settle F b) = wantOf b := by
  rw [wantOf_settle]; unfold wantOf
  refine List.ext_getElem? (fun j => ?_)
  rw [List.getElem?_mapIdx, List.getElem?_map]
  cases hb : b[j]? with
  | none => rfl
  | some x =>
    have := h x (List.mem_of_getElem? hb)
    obtain ⟨x, o⟩ := x
    dsimp only at this
    subst this
    rfl

/-! ### what a slab and two rows of what was written know of each other (SlabFalls) -/
def FellB (tr at_ : Int) (b : List (ByteArray × Option ByteArray)) (su la : List ByteArray) : Prop :=
  ∀ (i : Nat) (x : ByteArray) (o : Option ByteArray), b[i]? = some (x, o) → o = none ∧ (su[i]? = some x ∨ la[i]? = some x ∨ ((i : Int) = tr ∧ ∃ t, la[i]? = some t ∧ x = tornS t at_))
def UpB (b : List (ByteArray × Option ByteArray)) (su la : List ByteArray) : Prop :=
  ∀ (i : Nat) (x : ByteArray) (o : Option ByteArray), b[i]? = some (x, o) → su[i]? = some x ∧ la[i]? = some (o.getD x)
structure FallS (K : Nat) (kl : List Int) (tr at_ : Int) (s : Sl) (su la : List ByteArray) : Prop where
  len : s.b.length = 8
  ls : su.length = 8
  ll : la.length = 8
  keep : s.keep = kl
  torn : s.torn = tr
  at1 : s.at_ = at_
  kb : s.kb = K
  up : s.down = false → UpB s.b su la
  dn : s.down = true → FellB tr at_ s.b su la
theorem UpB.fell {b : List (ByteArray × Option ByteArray)} {su la : List ByteArray} (h : UpB b su la) (kl : List Int) (tr at_ : Int) : FellB tr at_ (settle (failF kl tr at_) b) su la := by
  intro i x o e
  unfold settle at e
  rw [List.getElem?_mapIdx] at e
  cases hb : b[i]? with
  | none => rw [hb] at e; cases e
  | some y =>
    obtain ⟨y, p⟩ := y
    rw [hb] at e
    obtain ⟨h1, h2⟩ := h i y p hb
    simp only [Option.map_some, Option.some.injEq, Prod.mk.injEq] at e
    obtain ⟨e1, e2⟩ := e
    refine ⟨e2.symm, ?_⟩
    cases p with
    | none => exact Or.inl (by rw [← e1]; exact h1)
    | some t =>
      have h3 : la[i]? = some t := h2
      have e3 : failF kl tr at_ i y t = x := by rw [← e1]; simp [finB]
      unfold failF at e3
      by_cases c1 : kl.contains (i : Int) = true
      · rw [if_pos c1] at e3; exact Or.inr (Or.inl (by rw [← e3]; exact h3))
      · rw [if_neg c1] at e3
        by_cases c2 : (i : Int) = tr
        · rw [if_pos c2] at e3; exact Or.inr (Or.inr ⟨c2, t, h3, e3.symm⟩)
        · rw [if_neg c2] at e3; exact Or.inl (by rw [← e3]; exact h1)
theorem UpB.put {b : List (ByteArray × Option ByteArray)} {su la : List ByteArray} (h : UpB b su la) (j : Nat) (t : ByteArray) : UpB (putB b j t) su (la.set j t) := by
  intro i x o e
  rw [putB_get] at e
  cases hb : b[i]? with
  | none => rw [hb] at e; cases e
  | some y =>
    obtain ⟨y, p⟩ := y
    rw [hb] at e
    obtain ⟨h1, h2⟩ := h i y p hb
    simp only [Option.map_some, Option.some.injEq] at e
    by_cases c : i = j
    · rw [if_pos c] at e
      injection e with e1 e2
      subst e1 e2 c
      refine ⟨h1, ?_⟩
      have hl := (List.getElem?_eq_some_iff.mp h2).1
      rw [List.getElem?_set_self hl]; rfl
    · rw [if_neg c] at e
      injection e with e1 e2
      subst e1 e2
      exact ⟨h1, by rw [List.getElem?_set_ne (fun q => c q.symm)]; exact h2⟩
theorem UpB.flush {b : List (ByteArray × Option ByteArray)} {su la : List ByteArray} (h : UpB b su la) : UpB (settle newF b) la la := by
  intro i x o e
  unfold settle at e
  rw [List.getElem?_mapIdx] at e
  cases hb : b[i]? with
  | none => rw [hb] at e; cases e
  | some y =>
    obtain ⟨y, p⟩ := y
    rw [hb] at e
    obtain ⟨h1, h2⟩ := h i y p hb
    simp only [Option.map_some, Option.some.injEq, Prod.mk.injEq] at e
    obtain ⟨e1, e2⟩ := e
    subst e2
    cases p with
    | none => exact ⟨by rw [← e1]; exact h2, by rw [← e1]; exact h2⟩
    | some t =>
      have e3 : t = x := by rw [← e1]; simp [finB, newF]
      subst e3
      exact ⟨h2, h2⟩
theorem tick_wait (s : Sl) : s.tick.1 = { s with wait := s.tick.1.wait } := by unfold Sl.tick; split <;> rfl
theorem FallS.writes {K : Nat} {kl : List Int} {tr at_ : Int} {s : Sl} {su la : List ByteArray} (h : FallS K kl tr at_ s su la) (hd : s.down = false) (i : Int) (t : ByteArray) (h0 : 0 ≤ i) (h8 : i < 8) (ht : (t.size : Int) ≤ 256) : FallS K kl tr at_ (s.write i t).1 su (la.set i.toNat t) := by
  have hr : rdy s (hasB s i && decide ((t.size : Int) ≤ 256)) = 0 := by
    have h1 : hasB s i = true := by unfold hasB; rw [h.len]; simp [h0]; omega
    rw [h1, decide_eq_true ht]; exact rdy_up s hd
  have hU := (h.up hd).put i.toNat t
  obtain ⟨k1, k2, k3, k4, k5⟩ := tick_keep ({ s with b := putB s.b i.toNat t } : Sl)
  obtain ⟨wv, kw⟩ : ∃ wv, ({ s with b := putB s.b i.toNat t } : Sl).tick.1 = { s with b := putB s.b i.toNat t, wait := wv } := ⟨_, tick_wait _⟩
  unfold Sl.write
  rw [if_neg (by rw [hr]; decide)]
  by_cases c : ({ s with b := putB s.b i.toNat t } : Sl).tick.2 = true
  · rw [if_pos c, kw]
    dsimp only
    rw [fail_up _ (show (Sl.mk (putB s.b i.toNat t) wv s.keep s.torn s.at_ s.down s.kb).down = false from hd)]
    exact ⟨by show (settle _ (putB s.b i.toNat t)).length = 8; rw [settle_len, putB_len]; exact h.len, h.ls, by rw [List.length_set]; exact h.ll, h.keep, h.torn, h.at1, h.kb, fun q => (by cases q), fun _ => by rw [h.torn, h.at1]; exact hU.fell _ _ _⟩
  · rw [if_neg c, kw]
    exact ⟨by show (putB s.b i.toNat t).length = 8; rw [putB_len]; exact h.len, h.ls, by rw [List.length_set]; exact h.ll, h.keep, h.torn, h.at1, h.kb, fun _ => hU, fun q => by rw [show s.down = true from q] at hd; cases hd⟩
theorem FallS.flushes {K : Nat} {kl : List Int} {tr at_ : Int} {s : Sl} {su la : List ByteArray} (h : FallS K kl tr at_ s su la) (hd : s.down = false) : (s.flush.2 = 0 ∧ FallS K kl tr at_ s.flush.1 la la) ∨ (s.flush.2 = 9 ∧ FallS K kl tr at_ s.flush.1 su la) := by
  obtain ⟨wv, kw⟩ : ∃ wv, s.tick.1 = { s with wait := wv } := ⟨_, tick_wait s⟩
  unfold Sl.flush
  rw [if_neg (by rw [hd]; decide)]
  by_cases c : s.tick.2 = true
  · right
    rw [if_pos c, kw]
    refine ⟨rfl, ?_⟩
    dsimp only
    rw [fail_up _ (show (Sl.mk s.b wv s.keep s.torn s.at_ s.down s.kb).down = false from hd)]
    exact ⟨by show (settle _ s.b).length = 8; rw [settle_len]; exact h.len, h.ls, h.ll, h.keep, h.torn, h.at1, h.kb, fun q => (by cases q), fun _ => by rw [h.torn, h.at1]; exact (h.up hd).fell _ _ _⟩
  · left
    rw [if_neg c, kw]
    refine ⟨rfl, ?_⟩
    exact ⟨by show (settle _ s.b).length = 8; rw [settle_len]; exact h.len, h.ll, h.ll, h.keep, h.torn, h.at1, h.kb, fun _ => (h.up hd).flush, fun q => by rw [show s.down = true from q] at hd; cases hd⟩
theorem UpB.new {s : Sl} (h : s.b = (Sl.new 8).b) : UpB s.b (List.replicate 8 ByteArray.empty) (List.replicate 8 ByteArray.empty) := by
  rw [h]
  intro i x o e
  simp only [Sl.new] at e
  rw [List.getElem?_replicate] at e ⊢
  split at e
  · injection e with e; injection e with e1 e2; subst e1 e2; rename_i c; rw [if_pos c]; exact ⟨rfl, rfl⟩
  · cases e
theorem FellB.sure {tr at_ : Int} {b : List (ByteArray × Option ByteArray)} {su la : List ByteArray} (h : FellB tr at_ b su la) : Sure b := by
  intro x hx
  obtain ⟨i, hi, rfl⟩ := List.mem_iff_getElem.mp hx
  exact (h i b[i].1 b[i].2 (by rw [List.getElem?_eq_getElem hi])).1
theorem FellB.want {tr at_ : Int} {b : List (ByteArray × Option ByteArray)} {su la : List ByteArray} (h : FellB tr at_ b su la) (i : Nat) (x : ByteArray) (hx : (wantOf b)[i]? = some x) : su[i]? = some x ∨ la[i]? = some x ∨ ((i : Int) = tr ∧ ∃ t, la[i]? = some t ∧ x = tornS t at_) := by
  rw [want_fst h.sure, List.getElem?_map] at hx
  cases hb : b[i]? with
  | none => rw [hb] at hx; cases hx
  | some y =>
    obtain ⟨y, p⟩ := y
    rw [hb] at hx
    injection hx with hx
    exact (h i x p (by rw [hb, ← hx])).2
theorem torn_pre (t : ByteArray) (a : Int) : t.extract 0 (tornS t a).size = tornS t a := by
  have e : (tornS t a).size = (min (max a 0) (t.size : Int)).toNat := by unfold tornS; rw [ByteArray.size_extract]; omega
  rw [e]; rfl

end Go.Proofs.Ytdenfndpggfgmaa.PF
