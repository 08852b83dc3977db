-- written by a program of this session
import Derived.Test.YtdenfndpggfgmaaPPx0
import Derived.Test.YtdenfndpggfgmaaPPx1
import Derived.Test.YtdenfndpggfgmaaPPx2
import Derived.Test.YtdenfndpggfgmaaPPx3
import Derived.Test.YtdenfndpggfgmaaPPx4
namespace Go.Proofs.Ytdenfndpggfgmaa.PP
open Go.RowKit Go.Proofs.Ytdenfndpggfgmaa.Op Go.Proofs.YtdenfndpggfgmaaW.PrintWords Go.Proofs.YtdenfndpggfgmaaW.PrintLast Go.Proofs.YtdenfndpggfgmaaW.PrintMore
attribute [local go_sem] max2_int min2_int max_two min_two max_three min_three max_four min_four   -- for this text's walks alone
set_option linter.unusedVariables false
set_option linter.unusedSimpArgs false

section
open Go.Maps Go.Sort Go.Shelf
/-! ### the slab: what is loose -/
def isLoose (b : List (ByteArray × Option ByteArray)) (i : Nat) : Bool := match b[i]? with | some (_, some _) => true | _ => false
def looseL (b : List (ByteArray × Option ByteArray)) : List Int := ((List.range b.length).filter (isLoose b)).map (fun i : Nat => (i : Int))
theorem mem_looseL (b : List (ByteArray × Option ByteArray)) (x : Int) : x ∈ looseL b ↔ ∃ i : Nat, x = (i : Int) ∧ i < b.length ∧ isLoose b i = true := by
  unfold looseL
  rw [List.mem_map]
  constructor
  · rintro ⟨i, hi, rfl⟩
    rw [List.mem_filter, List.mem_range] at hi
    exact ⟨i, rfl, hi.1, hi.2⟩
  · rintro ⟨i, rfl, h1, h2⟩
    exact ⟨i, List.mem_filter.2 ⟨List.mem_range.2 h1, h2⟩, rfl⟩
theorem looseL_lt (b : List (ByteArray × Option ByteArray)) : (looseL b).Pairwise (· < ·) := by
  unfold looseL
  rw [List.pairwise_map]
  exact (List.pairwise_lt_range.filter _).imp (fun h => by omega)
theorem isLoose_has {D : DW} {b : List (ByteArray × Option ByteArray)} (h : SlAs D b) (x : Int) : x ∈ looseL b ↔ Maps.has D (.int .i64 x) = true := by
  rw [mem_looseL]
  constructor
  · rintro ⟨i, rfl, hi, hl⟩
    unfold isLoose at hl
    cases hb : b[i]? with
    | none => rw [hb] at hl; simp at hl
    | some y =>
      obtain ⟨y, o⟩ := y
      cases o with
      | none => rw [hb] at hl; simp at hl
      | some t => exact (h.some_ i y t hb).1
  · intro hh
    obtain ⟨i, hi, e⟩ := h.in_ _ hh
    have ex : x = (i : Int) := by injection e
    subst ex
    refine ⟨i, rfl, hi, ?_⟩
    unfold isLoose
    cases hb : b[i]? with
    | none => rw [List.getElem?_eq_getElem hi] at hb; simp at hb
    | some y =>
      obtain ⟨y, o⟩ := y
      cases o with
      | none => rw [h.none_ i y hb] at hh; simp at hh
      | some t => rfl
theorem looseL_perm {D : DW} {b : List (ByteArray × Option ByteArray)} (h : SlAs D b) {es : List (Lit × DW)} (e : D = .map es) (hp : es.Pairwise (fun p q => p.1 ≠ q.1)) (hk : ∀ p ∈ es, WideAt.IsKeyLit p.1) : (looseL b).Perm (intKeys D) := by
  subst e
  refine perm_intKeys hp (fun p hp2 => ?_) ((looseL_lt b).imp (fun h => by omega)) (isLoose_has h)
  have hh : Maps.has (.map es : DW) p.1 = true := by
    rw [Maps.has_eq, List.any_eq_true]
    exact ⟨p, hp2, WideAt.sameKey_self (hk p hp2)⟩
  obtain ⟨i, _, e⟩ := h.in_ _ hh
  exact ⟨_, e⟩
theorem looseL_sort {b : List (ByteArray × Option ByteArray)} {ss : List Int} (h : ss.Perm (looseL b)) : ss.mergeSort (fun x y => decide (x ≤ y)) = looseL b := by
  have tr : ∀ a b c : Int, decide (a ≤ b) = true → decide (b ≤ c) = true → decide (a ≤ c) = true := fun a b c h1 h2 => by simp only [decide_eq_true_eq] at *; omega
  have tot : ∀ a b : Int, (decide (a ≤ b) || decide (b ≤ a)) = true := fun a b => by simp only [Bool.or_eq_true, decide_eq_true_eq]; omega
  refine List.Perm.eq_of_pairwise (le := fun a b => decide (a ≤ b) = true) (fun a b _ _ h1 h2 => ?_) (List.pairwise_mergeSort tr tot ss) ((looseL_lt b).imp (fun h => decide_eq_true (by omega))) ((List.mergeSort_perm ss _).trans h)
  simp only [decide_eq_true_eq] at h1 h2
  omega
theorem reps_ints (l : List Int) : Reps (fun (x : Int) cs => cs = [Value.int .i64 x]) 1 l (l.map (Value.int .i64)) := by
  refine ⟨by simp, fun j p hp => ?_⟩
  rw [Nat.mul_one]
  obtain ⟨hj, hx⟩ := List.getElem?_eq_some_iff.1 hp
  rw [List.drop_eq_getElem_cons (by simpa using hj)]
  simp [hx]
theorem R_ints {W : World} {base : Nat} {v : Value} {l : List Int} {m : Nat} (hm : m = l.length) (h : W.ownsRow base 3 1 v m (l.map encZ)) : Kd.R (Kd.int .i64) 3 W base (fun _ => True) v l := by
  subst hm
  exact ⟨fun _ _ => trivial, l.map encZ, h, reps_ints l⟩
theorem Try.sortsA (m : Nat) : AnyZI.SortsIn Try.prog Go.Proofs.Try.sortedA_ren Fence.wide m :=
  ⟨fun blk off cap ss W hH hblk hsz => callsIn_wide.2 (AnyM.slices_Sort_int Go.Proofs.Try.sortA blk off cap ss W hH hblk hsz),
   fun p cap W => callsIn_wide.2 (AnyM.slices_Sort_int_none Go.Proofs.Try.sortA p cap W)⟩
set_option maxHeartbeats 1000000 in
theorem slab_loose {w W : World} {g rb mb n : Nat} {s : Sl} (h : IsSl w W g rb mb n s) (hn : n ≤ 1000000) :
    Calls Try.prog 21 #[.pointer (some ⟨g, 0, none⟩)] W fun e W' => ∃ v, e = .returned v ∧ Kd.R (Kd.int .i64) 3 W' W.heap.size (fun _ => True) v (looseL s.b) ∧ Below W.heap.size W W' := by
  obtain ⟨D, hown, hA⟩ := h.map
  obtain ⟨c0, c1, _, _⟩ := h.cells
  obtain ⟨es, eD, hp, hk⟩ := hown.entries (Maps.int_keyed Try.underlying3)
  have hperm := looseL_perm hA eD hp hk
  have hsz := hown.size_le
  refine (callsIn_wide (n := 6)).1 ?_
  have hbl := hown.lt
  have hseq : SeqGives Fence.wide 2 Try.prog 44 #[.pointer (some ⟨W.heap.size, 0, none⟩)] encZ (fun ss => ss.Perm (intKeys D)) (Maps.size D) (W.alloc (.cells #[.map (some mb)] 60)) :=
    AnyZI.keys_gives (ρ := Go.Proofs.Try.keysA_ren) { Go.Proofs.Try.keysA with } Fence.wide _ trivial rfl (by omega) W.heap.size mb n D _ (by simp) (by simp) (by
      obtain ⟨es, clock, hb, Ft, hs, hD⟩ := hown
      exact ⟨es, clock, (Below.heap_alloc _ _ mb hbl).trans hb, Ft, hs, hD⟩)
  have cK : ∀ mb W, CallsIn Fence.wide 5 Try.prog 33 #[.map mb] W fun e w' => e = .returned (.func (.func 44) #[] #[.pointer (some ⟨W.heap.size, 0, none⟩)]) ∧ w' = W.alloc (.cells #[.map mb] 60) := fun mb W => AnyZI.keys_in Go.Proofs.Try.keysA Fence.wide 5 trivial rfl mb W
  have cS := AnyZI.sorted_in Go.Proofs.Try.sortedA Fence.wide 5 trivial trivial trivial trivial rfl (by omega) (Try.sortsA _) (enters_of Try.func43 (by kernel_rfl) rfl) 44 #[.pointer (some ⟨W.heap.size, 0, none⟩)] trivial (enters_of Try.func44 (by kernel_rfl) rfl) _ _ (by unfold maxLen; omega) (by omega) _ hseq
  change CallsIn _ _ Try.prog 32 _ _ _ at cS
  have hfK : Fence.wide.fn 33 := trivial
  have hfS : Fence.wide.fn 32 := trivial
  refine callsIn_of_wp Try.func21 rfl trivial ?_ rfl
  have HP := Aside0.mk hperm
  clear hperm hp hk eD hA hown hsz hseq h
  simp only [Try.ntmps21, List.size_toArray, List.length_cons, List.length_nil, Nat.reduceAdd, Nat.reduceSub, Array.replicate_succ, Array.replicate_zero, List.push_toArray, List.append_toArray, List.nil_append, List.cons_append]
  gi_wp2_with (first
    | (gi_at_call 33; refine (cK _ _).mono ?_; rintro e w' ⟨rfl, rfl⟩)
    | (gi_at_call 32; refine cS.mono ?_; rintro e w' ⟨v, ss, rfl, hS, hrow, hnil, hb⟩))
  go_ret
  have hp2 := hS.trans HP.out.symm
  have hrow2 := ownsRow_base_a (base' := W.heap.size) hrow (by simp)
  rw [show (ss.mergeSort leI) = looseL s.b from looseL_sort hp2] at hrow2
  exact ⟨v, rfl, R_ints hp2.length_eq hrow2, ((Below.refl _ W).alloc (Nat.le_refl _) _).trans (hb.mono (by simp))⟩
end

/-! ### the document's slab, in plain words: its printed functions answer as the model -/
def bk74 (x : ByteArray × Option ByteArray) : S74 := ⟨x.1, x.2.getD ⟨#[]⟩, x.2.isSome⟩
def lsS (s : Sl) : List S74 := s.b.map bk74
theorem rd74s (l : List (ByteArray × Option ByteArray)) (i : Nat) (x : ByteArray × Option ByteArray) (h : l[i]? = some x) : rd_T74 (l.map bk74) (i : Int) = bk74 x := by
  unfold rd_T74
  rw [Int.toNat_natCast, List.getD_eq_getElem?_getD, List.getElem?_map, h]; rfl
theorem w1s (i : Nat) (h : i < 1000000000) : wrap64 ((i : Int) + 1) = ((i + 1 : Nat) : Int) := by unfold wrap64; omega
theorem drop_at {α : Type} {l : List α} {i : Nat} {x : α} (h : l[i]? = some x) : l.drop i = x :: l.drop (i + 1) := by
  obtain ⟨hi, e⟩ := List.getElem?_eq_some_iff.1 h
  rw [List.drop_eq_getElem_cons hi, e]
theorem has_l0 (l : List Int) (hl : l.length ≤ 100000000) (x : Int) : ∀ (d k i : Nat), i + d = l.length → d < k → spliceref07_has.l0 k l x (i : Int) = some ((l.drop i).contains x) := by
  intro d
  induction d with
  | zero =>
    intro k i hi hk
    obtain ⟨k, rfl⟩ : ∃ k', k = k' + 1 := ⟨k - 1, by omega⟩
    rw [spliceref07_has.l0, if_neg (by omega), List.drop_eq_nil_of_le (by omega)]; rfl
  | succ d ih =>
    intro k i hi hk
    obtain ⟨k, rfl⟩ : ∃ k', k = k' + 1 := ⟨k - 1, by omega⟩
    obtain ⟨y, hy⟩ : ∃ y, l[i]? = some y := ⟨_, List.getElem?_eq_getElem (by omega)⟩
    have hr : rd l (i : Int) = y := by
      unfold rd
      rw [Int.toNat_natCast, List.getD_eq_getElem?_getD, hy]; rfl
    rw [spliceref07_has.l0, if_pos (by omega), if_pos (by omega), hr, drop_at hy, w1s i (by omega), ih k (i + 1) (by omega) (by omega), List.contains_cons]
    by_cases e : y = x
    · subst e; simp
    · rw [if_neg e, beq_eq_false_iff_ne.mpr (fun q => e q.symm), Bool.false_or]
theorem has_f (l : List Int) (hl : l.length ≤ 100000000) (x : Int) (k : Nat) (hk : l.length < k) : spliceref07_has.f k l x = some (l.contains x) := by
  have := has_l0 l hl x l.length k 0 (by omega) hk
  rw [show ((0 : Nat) : Int) = 0 from rfl, List.drop_zero] at this
  exact this
theorem read_f (s : Sl) (kl : List Int) (tr a : Int) (i : Int) (k : Nat) (hk : 0 < k) : spliceref07_Slab_Read.f k (lsS s) s.wait kl tr a s.down i = some (s.read i) := by
  obtain ⟨k, rfl⟩ : ∃ k', k = k' + 1 := ⟨k - 1, by omega⟩
  have hlen : (lsS s).length = s.b.length := by unfold lsS; rw [List.length_map]
  unfold spliceref07_Slab_Read.f Sl.read rdy hasB
  by_cases hd : s.down = true
  · rw [if_pos hd, if_pos (by rw [if_pos hd]; decide), if_pos hd]; rfl
  rw [if_neg hd, if_neg hd]
  by_cases h1 : i < 0
  · rw [if_pos h1, spliceref07_Slab_Read.j0, if_pos rfl]
    have e : (decide (0 ≤ i) && decide (i < (s.b.length : Int))) = false := by simp; omega
    rw [e]; rfl
  rw [if_neg h1, spliceref07_Slab_Read.j0, hlen]
  by_cases h2 : i ≥ (s.b.length : Int)
  · have e : (decide (0 ≤ i) && decide (i < (s.b.length : Int))) = false := by simp; omega
    rw [decide_eq_true h2, if_pos rfl, e]; rfl
  · have e : (decide (0 ≤ i) && decide (i < (s.b.length : Int))) = true := by simp; omega
    obtain ⟨j, rfl⟩ := Int.eq_ofNat_of_zero_le (show 0 ≤ i by omega)
    obtain ⟨x, hx⟩ : ∃ x, s.b[j]? = some x := ⟨_, List.getElem?_eq_getElem (by omega)⟩
    have hr : rd_T74 (lsS s) (j : Int) = bk74 x := rd74s s.b j x hx
    rw [decide_eq_false h2, if_neg (by decide), if_pos (by omega), if_pos (by omega), hr, e, Int.toNat_natCast, hx]
    obtain ⟨y, t⟩ := x
    cases t <;> simp [bk74]
theorem torn_f (t : ByteArray) (a : Int) (ht : t.size ≤ 1000000) : spliceref07_torn.f t a = some (tornS t a) := by
  unfold spliceref07_torn.f tornS
  by_cases h : a < 0
  · have e : (min (max a 0) (t.size : Int)).toNat = 0 := by omega
    rw [if_pos h, if_neg (by omega), if_pos (by omega), if_pos (by omega), e]
  · rw [if_neg h]
    by_cases h2 : a > (t.size : Int)
    · have e : (min (max a 0) (t.size : Int)).toNat = t.size := by omega
      rw [if_pos h2, if_pos (by omega), if_pos (by omega), e]; rfl
    · have e : (min (max a 0) (t.size : Int)).toNat = a.toNat := by omega
      rw [if_neg h2, if_pos (by omega), if_pos (by omega), e]
theorem loose_l0 (s : Sl) (hl : s.b.length ≤ 1000000) (wt : Int) (kl : List Int) (tr a : Int) (dn : Bool) : ∀ (d k i : Nat) (acc : List Int), i + d = s.b.length → d < k → acc.length ≤ i → spliceref07_Slab_Loose.l0 k acc (i : Int) (lsS s) wt kl tr a dn = some (acc ++ (((List.range s.b.length).drop i).filter (isLoose s.b)).map (fun i : Nat => (i : Int))) := by
  have hlen : (lsS s).length = s.b.length := by unfold lsS; rw [List.length_map]
  intro d
  induction d with
  | zero =>
    intro k i acc hi hk ha
    obtain ⟨k, rfl⟩ : ∃ k', k = k' + 1 := ⟨k - 1, by omega⟩
    rw [spliceref07_Slab_Loose.l0, if_neg (by omega), List.drop_eq_nil_of_le (by simp; omega)]; simp
  | succ d ih =>
    intro k i acc hi hk ha
    obtain ⟨k, rfl⟩ : ∃ k', k = k' + 1 := ⟨k - 1, by omega⟩
    obtain ⟨x, hx⟩ : ∃ x, s.b[i]? = some x := ⟨_, List.getElem?_eq_getElem (by omega)⟩
    have hr : rd_T74 (lsS s) (i : Int) = bk74 x := rd74s s.b i x hx
    have hd : (List.range s.b.length).drop i = i :: (List.range s.b.length).drop (i + 1) := drop_at (by rw [List.getElem?_range (by omega)])
    have hq : isLoose s.b i = x.2.isSome := by
      unfold isLoose; rw [hx]; obtain ⟨y, t⟩ := x; cases t <;> rfl
    rw [spliceref07_Slab_Loose.l0, if_pos (by omega), if_pos (by omega), hr, hd, List.filter_cons, hq, w1s i (by omega)]
    show (if x.2.isSome = true then _ else _) = _
    by_cases e : x.2.isSome = true
    · rw [if_pos e, if_pos (by omega), ih k (i + 1) _ (by omega) (by omega) (by simp; omega), if_pos e]; simp
    · rw [if_neg e, ih k (i + 1) _ (by omega) (by omega) (by omega), if_neg e]
theorem loose_f (s : Sl) (hl : s.b.length ≤ 1000000) (kl : List Int) (tr a : Int) (k : Nat) (hk : s.b.length < k) : spliceref07_Slab_Loose.f k (lsS s) s.wait kl tr a s.down = some (looseL s.b) := by
  have := loose_l0 s hl s.wait kl tr a s.down s.b.length k 0 [] (by omega) hk (by simp)
  rw [show ((0 : Nat) : Int) = 0 from rfl] at this
  unfold spliceref07_Slab_Loose.f
  rw [this]; rfl

/-! ### the document's trips -/
def tickR (wt : Int) : Int × Bool := if wt < 1 then (wt, false) else (wt - 1, wt - 1 == 0)
def trips4.T : Bool × List (List Nat × List Nat) := (true, [([], []), ([], []), ([1], [1]), ([2], [2]), ([0, 0], [0]), ([3, 4, 0, 1, 2, 3, 4], [3])])
def trips4.B : List Nat := [0, 0, 2, 6, 1, 31]
theorem trips4.tab : rtab .any (opsOf Try.f45 4) = trips4.T := by kernel_rfl
theorem trips4.bits : waitsOk trips4.T.2 trips4.B = true := by kernel_rfl
set_option maxRecDepth 100000 in
set_option maxHeartbeats 16000000 in
theorem ref_trips (W : World) (A0 A2 : Option Addr) (n0 c0 n2 c2 : Nat) (wt tr a : Int) (dn : Bool) (hw : wt ≤ 9223372036854775807) :
    Calls Try.prog 45 #[.agg #[.slice A0 n0 c0, .int .i64 wt, .slice A2 n2 c2, .int .i64 tr, .int .i64 a, .bool dn]] W fun e W' => e = .returned (.tuple #[.agg #[.slice A0 n0 c0, .int .i64 (tickR wt).1, .slice A2 n2 c2, .int .i64 tr, .int .i64 a, .bool dn], .bool (tickR wt).2]) ∧ Below W.heap.size W W' := by
  have HB := Aside0.mk (((Bx.start W).push #[.slice A0 n0 c0, .int .i64 wt, .slice A2 n2 c2, .int .i64 tr, .int .i64 a, .bool dn] 51).push #[.slice none 0 0, .int .i64 0, .slice none 0 0, .int .i64 0, .int .i64 0, .bool false] 51)
  unfold tickR
  by_cases h1 : wt < 1
  · have q1 : decide (wt < 1) = true := decide_eq_true h1
    rw [if_pos h1]
    go_enter Try.func45, Try.ntmps45
    go_upto_region 1 with (fail)
    simp only [alloc_size, List.nil_append, List.cons_append] at HB
    generalize (W.alloc (.cells #[.slice A0 n0 c0, .int .i64 wt, .slice A2 n2 c2, .int .i64 tr, .int .i64 a, .bool dn] 51)).alloc (.cells #[.slice none 0 0, .int .i64 0, .slice none 0 0, .int .i64 0, .int .i64 0, .bool false] 51) = w2 at HB ⊢
    generalize W.heap.size + 1 = b2 at HB ⊢
    generalize hb1 : W.heap.size = b1 at HB ⊢
    have y0 : World.cell? _ ⟨b1, 0, none⟩ = some (.slice A0 n0 c0) := (blk_cell (HB.out.get 0 rfl) 0).trans rfl
    have y1 : World.cell? _ ⟨b1, 1, none⟩ = some (.int .i64 wt) := (blk_cell (HB.out.get 0 rfl) 1).trans rfl
    have y2 : World.cell? _ ⟨b1, 2, none⟩ = some (.slice A2 n2 c2) := (blk_cell (HB.out.get 0 rfl) 2).trans rfl
    have y3 : World.cell? _ ⟨b1, 3, none⟩ = some (.int .i64 tr) := (blk_cell (HB.out.get 0 rfl) 3).trans rfl
    have y4 : World.cell? _ ⟨b1, 4, none⟩ = some (.int .i64 a) := (blk_cell (HB.out.get 0 rfl) 4).trans rfl
    have y5 : World.cell? _ ⟨b1, 5, none⟩ = some (.bool dn) := (blk_cell (HB.out.get 0 rfl) 5).trans rfl
    have t0 : World.cell? _ ⟨b2, 0, none⟩ = some (.slice none 0 0) := (blk_cell (HB.out.get 1 rfl) 0).trans rfl
    have t1 : World.cell? _ ⟨b2, 1, none⟩ = some (.int .i64 0) := (blk_cell (HB.out.get 1 rfl) 1).trans rfl
    have t2 : World.cell? _ ⟨b2, 2, none⟩ = some (.slice none 0 0) := (blk_cell (HB.out.get 1 rfl) 2).trans rfl
    have t3 : World.cell? _ ⟨b2, 3, none⟩ = some (.int .i64 0) := (blk_cell (HB.out.get 1 rfl) 3).trans rfl
    have t4 : World.cell? _ ⟨b2, 4, none⟩ = some (.int .i64 0) := (blk_cell (HB.out.get 1 rfl) 4).trans rfl
    have t5 : World.cell? _ ⟨b2, 5, none⟩ = some (.bool false) := (blk_cell (HB.out.get 1 rfl) 5).trans rfl
    have tz0 : World.frozen? _ ⟨b2, 0, none⟩ = false := blk_frozen (HB.out.get 1 rfl) 0
    have tz1 : World.frozen? _ ⟨b2, 1, none⟩ = false := blk_frozen (HB.out.get 1 rfl) 1
    have tz2 : World.frozen? _ ⟨b2, 2, none⟩ = false := blk_frozen (HB.out.get 1 rfl) 2
    have tz3 : World.frozen? _ ⟨b2, 3, none⟩ = false := blk_frozen (HB.out.get 1 rfl) 3
    have tz4 : World.frozen? _ ⟨b2, 4, none⟩ = false := blk_frozen (HB.out.get 1 rfl) 4
    have tz5 : World.frozen? _ ⟨b2, 5, none⟩ = false := blk_frozen (HB.out.get 1 rfl) 5
    go_wp2
    replace HB : Aside0 (Bx W ((((((w2.setCell ⟨b2, 0, none⟩ (.slice A0 n0 c0)).setCell ⟨b2, 1, none⟩ (.int .i64 wt)).setCell ⟨b2, 2, none⟩ (.slice A2 n2 c2)).setCell ⟨b2, 3, none⟩ (.int .i64 tr)).setCell ⟨b2, 4, none⟩ (.int .i64 a)).setCell ⟨b2, 5, none⟩ (.bool dn)) [(b1, #[.slice A0 n0 c0, .int .i64 wt, .slice A2 n2 c2, .int .i64 tr, .int .i64 a, .bool dn], 51), (b2, #[.slice A0 n0 c0, .int .i64 wt, .slice A2 n2 c2, .int .i64 tr, .int .i64 a, .bool dn], 51)]) := ⟨((((((HB.out.set 1 0 (.slice A0 n0 c0) rfl).set 1 1 (.int .i64 wt) rfl).set 1 2 (.slice A2 n2 c2) rfl).set 1 3 (.int .i64 tr) rfl).set 1 4 (.int .i64 a) rfl).set 1 5 (.bool dn) rfl)⟩
    generalize ((((((w2.setCell ⟨b2, 0, none⟩ (.slice A0 n0 c0)).setCell ⟨b2, 1, none⟩ (.int .i64 wt)).setCell ⟨b2, 2, none⟩ (.slice A2 n2 c2)).setCell ⟨b2, 3, none⟩ (.int .i64 tr)).setCell ⟨b2, 4, none⟩ (.int .i64 a)).setCell ⟨b2, 5, none⟩ (.bool dn)) = w9 at HB ⊢
    refine bodyPost_ret (results_ct rfl _ _ b2 51 #[.slice A0 n0 c0, .int .i64 wt, .slice A2 n2 c2, .int .i64 tr, .int .i64 a, .bool dn] (0, 0) _ rfl (HB.out.get 1 rfl) Try.underlying51 rfl (by kernel_rfl)) rfl ?_
    first | exact ⟨rfl, HB.out.bel⟩ | exact ⟨rfl, hb1 ▸ HB.out.bel⟩
  · have q1 : decide (wt < 1) = false := decide_eq_false h1
    have hwr : IntKind.i64.wrap (wt - 1) = wt - 1 := IntWalk.i64_in _ (by omega)
    rw [if_neg h1]
    go_enter Try.func45, Try.ntmps45
    go_upto_region 1 with (fail)
    simp only [alloc_size, List.nil_append, List.cons_append] at HB
    generalize (W.alloc (.cells #[.slice A0 n0 c0, .int .i64 wt, .slice A2 n2 c2, .int .i64 tr, .int .i64 a, .bool dn] 51)).alloc (.cells #[.slice none 0 0, .int .i64 0, .slice none 0 0, .int .i64 0, .int .i64 0, .bool false] 51) = w2 at HB ⊢
    generalize W.heap.size + 1 = b2 at HB ⊢
    generalize hb1 : W.heap.size = b1 at HB ⊢
    have y0 : World.cell? _ ⟨b1, 0, none⟩ = some (.slice A0 n0 c0) := (blk_cell (HB.out.get 0 rfl) 0).trans rfl
    have y1 : World.cell? _ ⟨b1, 1, none⟩ = some (.int .i64 wt) := (blk_cell (HB.out.get 0 rfl) 1).trans rfl
    have y2 : World.cell? _ ⟨b1, 2, none⟩ = some (.slice A2 n2 c2) := (blk_cell (HB.out.get 0 rfl) 2).trans rfl
    have y3 : World.cell? _ ⟨b1, 3, none⟩ = some (.int .i64 tr) := (blk_cell (HB.out.get 0 rfl) 3).trans rfl
    have y4 : World.cell? _ ⟨b1, 4, none⟩ = some (.int .i64 a) := (blk_cell (HB.out.get 0 rfl) 4).trans rfl
    have y5 : World.cell? _ ⟨b1, 5, none⟩ = some (.bool dn) := (blk_cell (HB.out.get 0 rfl) 5).trans rfl
    have yz0 : World.frozen? _ ⟨b1, 0, none⟩ = false := blk_frozen (HB.out.get 0 rfl) 0
    have yz1 : World.frozen? _ ⟨b1, 1, none⟩ = false := blk_frozen (HB.out.get 0 rfl) 1
    have yz2 : World.frozen? _ ⟨b1, 2, none⟩ = false := blk_frozen (HB.out.get 0 rfl) 2
    have yz3 : World.frozen? _ ⟨b1, 3, none⟩ = false := blk_frozen (HB.out.get 0 rfl) 3
    have yz4 : World.frozen? _ ⟨b1, 4, none⟩ = false := blk_frozen (HB.out.get 0 rfl) 4
    have yz5 : World.frozen? _ ⟨b1, 5, none⟩ = false := blk_frozen (HB.out.get 0 rfl) 5
    go_upto_region 4 with (fail)
    clear y0 yz0 y1 yz1 y2 yz2 y3 yz3 y4 yz4 y5 yz5
    replace HB : Aside0 (Bx W (w2.setCell ⟨b1, 1, none⟩ (.int .i64 (wt - 1))) [(b1, #[.slice A0 n0 c0, .int .i64 (wt - 1), .slice A2 n2 c2, .int .i64 tr, .int .i64 a, .bool dn], 51), (b2, #[.slice none 0 0, .int .i64 0, .slice none 0 0, .int .i64 0, .int .i64 0, .bool false], 51)]) := ⟨HB.out.set 0 1 _ rfl⟩
    generalize w2.setCell ⟨b1, 1, none⟩ (.int .i64 (wt - 1)) = w2 at HB ⊢
    replace HB := Aside0.mk (HB.out.below (below_drew (Below.refl _ _)))
    refine start_ (n := 6) (S := fun w' => w'.cell? ⟨b1, 0, none⟩ = some (.slice A0 n0 c0) ∧ w'.cell? ⟨b1, 1, none⟩ = some (.int .i64 (wt - 1)) ∧ w'.cell? ⟨b1, 2, none⟩ = some (.slice A2 n2 c2) ∧ w'.cell? ⟨b1, 3, none⟩ = some (.int .i64 tr) ∧ w'.cell? ⟨b1, 4, none⟩ = some (.int .i64 a) ∧ w'.cell? ⟨b1, 5, none⟩ = some (.bool dn)) (ds := []) #[false, false, false, false, false, false] (by kernel_rfl) rfl rfl ⟨(blk_cell (HB.out.get 0 rfl) 0).trans rfl, (blk_cell (HB.out.get 0 rfl) 1).trans rfl, (blk_cell (HB.out.get 0 rfl) 2).trans rfl, (blk_cell (HB.out.get 0 rfl) 3).trans rfl, (blk_cell (HB.out.get 0 rfl) 4).trans rfl, (blk_cell (HB.out.get 0 rfl) 5).trans rfl⟩ (fun hHeld => ?_); refine with_tabW trips4.tab trips4.bits (fun HT_ HW_ => ?_)
    generalize w2.drew = wd at HB hHeld ⊢
    refine take_ (i := 0) (N := some 12) (v := ?_) (a' := ?_) #[true, false, false, false, false, false] rfl rfl (take_ofW HT_.out HW_.out (by kernel_rfl)) (fun _ _ _ h => h) (Or.inl ⟨by rfl, ?_⟩) hHeld ?_ ?_
    rotate_left
    · rintro w' ⟨s0, s1, s2, s3, s4, s5⟩
      go_simp
      with_reducible rfl
    rotate_left
    · simp only [Act.put, List.setIfInBounds_toArray, List.set_cons_zero, List.set_cons_succ, i64_w, i32_w]
      rfl
    refine pure_ (i := 1) (N := some 13) (v := ?_) (a' := ?_) #[true, true, false, false, false, false] rfl rfl (any_of HT_.out (by kernel_rfl)) (fun _ _ _ h => h) (Or.inl ⟨by rfl, ?_⟩) ?_ ?_
    rotate_left
    · intro w'
      go_simp
      with_reducible rfl
    rotate_left
    · simp only [Act.put, List.setIfInBounds_toArray, List.set_cons_zero, List.set_cons_succ, i64_w, i32_w]
      rfl
    refine take_ (i := 2) (N := some 14) (v := ?_) (a' := ?_) #[true, true, true, false, false, false] rfl rfl (take_ofW HT_.out HW_.out (by kernel_rfl)) (fun _ _ _ h => h) (Or.inl ⟨by rfl, ?_⟩) hHeld ?_ ?_
    rotate_left
    · rintro w' ⟨s0, s1, s2, s3, s4, s5⟩
      go_simp
      with_reducible rfl
    rotate_left
    · simp only [Act.put, List.setIfInBounds_toArray, List.set_cons_zero, List.set_cons_succ, i64_w, i32_w]
      rfl
    refine pure_ (i := 3) (N := some 15) (v := ?_) (a' := ?_) #[true, true, true, true, false, false] rfl rfl (any_of HT_.out (by kernel_rfl)) (fun _ _ _ h => h) (Or.inl ⟨by rfl, ?_⟩) ?_ ?_
    rotate_left
    · intro w'
      go_simp
      with_reducible rfl
    rotate_left
    · simp only [Act.put, List.setIfInBounds_toArray, List.set_cons_zero, List.set_cons_succ, i64_w, i32_w]
      rfl
    refine one_ (i := 4) (N := none) #[true, true, true, true, true, false] rfl rfl (one_of HT_.out (by kernel_rfl)) (by decide) (fun K hK => ?_)
    have t0 : World.cell? _ ⟨b2, 0, none⟩ = some (.slice none 0 0) := (blk_cell (HB.out.get 1 rfl) 0).trans rfl
    have t1 : World.cell? _ ⟨b2, 1, none⟩ = some (.int .i64 0) := (blk_cell (HB.out.get 1 rfl) 1).trans rfl
    have t2 : World.cell? _ ⟨b2, 2, none⟩ = some (.slice none 0 0) := (blk_cell (HB.out.get 1 rfl) 2).trans rfl
    have t3 : World.cell? _ ⟨b2, 3, none⟩ = some (.int .i64 0) := (blk_cell (HB.out.get 1 rfl) 3).trans rfl
    have t4 : World.cell? _ ⟨b2, 4, none⟩ = some (.int .i64 0) := (blk_cell (HB.out.get 1 rfl) 4).trans rfl
    have t5 : World.cell? _ ⟨b2, 5, none⟩ = some (.bool false) := (blk_cell (HB.out.get 1 rfl) 5).trans rfl
    have tz0 : World.frozen? _ ⟨b2, 0, none⟩ = false := blk_frozen (HB.out.get 1 rfl) 0
    have tz1 : World.frozen? _ ⟨b2, 1, none⟩ = false := blk_frozen (HB.out.get 1 rfl) 1
    have tz2 : World.frozen? _ ⟨b2, 2, none⟩ = false := blk_frozen (HB.out.get 1 rfl) 2
    have tz3 : World.frozen? _ ⟨b2, 3, none⟩ = false := blk_frozen (HB.out.get 1 rfl) 3
    have tz4 : World.frozen? _ ⟨b2, 4, none⟩ = false := blk_frozen (HB.out.get 1 rfl) 4
    have tz5 : World.frozen? _ ⟨b2, 5, none⟩ = false := blk_frozen (HB.out.get 1 rfl) 5
    refine skip_ (w1 := ?_) (by rfl) rfl ?_ ?_
    rotate_left
    · go_simp
      rfl
    replace HB : Aside0 (Bx W ((((((wd.setCell ⟨b2, 0, none⟩ (.slice A0 n0 c0)).setCell ⟨b2, 1, none⟩ (.int .i64 (wt - 1))).setCell ⟨b2, 2, none⟩ (.slice A2 n2 c2)).setCell ⟨b2, 3, none⟩ (.int .i64 tr)).setCell ⟨b2, 4, none⟩ (.int .i64 a)).setCell ⟨b2, 5, none⟩ (.bool dn)) [(b1, #[.slice A0 n0 c0, .int .i64 (wt - 1), .slice A2 n2 c2, .int .i64 tr, .int .i64 a, .bool dn], 51), (b2, #[.slice A0 n0 c0, .int .i64 (wt - 1), .slice A2 n2 c2, .int .i64 tr, .int .i64 a, .bool dn], 51)]) := ⟨((((((HB.out.set 1 0 (.slice A0 n0 c0) rfl).set 1 1 (.int .i64 (wt - 1)) rfl).set 1 2 (.slice A2 n2 c2) rfl).set 1 3 (.int .i64 tr) rfl).set 1 4 (.int .i64 a) rfl).set 1 5 (.bool dn) rfl)⟩
    generalize ((((((wd.setCell ⟨b2, 0, none⟩ (.slice A0 n0 c0)).setCell ⟨b2, 1, none⟩ (.int .i64 (wt - 1))).setCell ⟨b2, 2, none⟩ (.slice A2 n2 c2)).setCell ⟨b2, 3, none⟩ (.int .i64 tr)).setCell ⟨b2, 4, none⟩ (.int .i64 a)).setCell ⟨b2, 5, none⟩ (.bool dn)) = w9 at HB ⊢
    refine hK.out _ _ ⟨(blk_cell (HB.out.get 0 rfl) 0).trans rfl, (blk_cell (HB.out.get 0 rfl) 1).trans rfl, (blk_cell (HB.out.get 0 rfl) 2).trans rfl, (blk_cell (HB.out.get 0 rfl) 3).trans rfl, (blk_cell (HB.out.get 0 rfl) 4).trans rfl, (blk_cell (HB.out.get 0 rfl) 5).trans rfl⟩ (fun hHeld => ?_)
    clear hK K t0 tz0 t1 tz1 t2 tz2 t3 tz3 t4 tz4 t5 tz5
    refine pure_ (i := 5) (N := some 3) (v := ?_) (a' := ?_) #[true, true, true, true, true, true] rfl rfl (any_of HT_.out (by kernel_rfl)) (fun _ _ _ h => h) (Or.inl ⟨by rfl, ?_⟩) ?_ ?_
    rotate_left
    · intro w'
      go_simp
      with_reducible rfl
    rotate_left
    · simp only [Act.put, List.setIfInBounds_toArray, List.set_cons_zero, List.set_cons_succ, i64_w, i32_w]
      rfl
    refine done_ (done_of HT_.out (by kernel_rfl)) ?_
    clear HT_ HW_ hHeld
    go_wp2
    refine bodyPost_ret (results_ct rfl _ _ b2 51 #[.slice A0 n0 c0, .int .i64 (wt - 1), .slice A2 n2 c2, .int .i64 tr, .int .i64 a, .bool dn] (0, 0) _ rfl (HB.out.get 1 rfl) Try.underlying51 rfl (by kernel_rfl)) rfl ?_
    first | exact ⟨rfl, HB.out.bel⟩ | exact ⟨rfl, hb1 ▸ HB.out.bel⟩

/-! ### the document's slab, in plain words: rows that are built block by block -/
theorem settle_step (F : Nat → ByteArray → ByteArray → ByteArray) (b : List (ByteArray × Option ByteArray)) (i : Nat) (x : ByteArray × Option ByteArray) (hx : b[i]? = some x) :
    ((settle F b).take (i + 1)).map bk74 = ((settle F b).take i).map bk74 ++ [⟨finB F (fun _ => false) i x, ⟨#[]⟩, false⟩] := by
  have e : (settle F b)[i]? = some (finB F (fun _ => false) i x, none) := by
    unfold settle; rw [List.getElem?_mapIdx, hx]; rfl
  rw [List.take_add_one, e, List.map_append]; rfl
theorem put_step (b : List (ByteArray × Option ByteArray)) (i : Nat) (x : ByteArray × Option ByteArray) (hx : b[i]? = some x) :
    ((b.take (i + 1)).map bk74) = (b.take i).map bk74 ++ [bk74 x] := by
  rw [List.take_add_one, hx, List.map_append]; rfl

/-! ### the document's Fail -/
theorem ref_has (W : World) (A : Option Addr) (c : Nat) (l : List Int) (x : Int) (h : Kd.C (Kd.int .i64) W A l.length l) (hc : l.length ≤ c) (hl : l.length ≤ 100000000) :
    Calls Try.prog 46 #[.slice A l.length c, .int .i64 x] W fun e W' => e = .returned (.bool (l.contains x)) ∧ Below W.heap.size W W' :=
  (spliceref07_has.calls (l.length + 1) A c l x _ W h hc (has_f l hl x _ (by omega))).mono fun e W' h => ⟨h.1, by obtain ⟨m, e⟩ := h.2.out; rw [e]; exact pw_below_drewN (Below.refl _ _) m⟩
theorem ref_torn (W : World) (t : ByteArray) (a : Int) (ht : t.size ≤ 1000000) :
    Calls Try.prog 47 #[.string t, .int .i64 a] W fun e W' => e = .returned (.string (tornS t a)) ∧ Below W.heap.size W W' :=
  (spliceref07_torn.calls t a _ W (torn_f t a ht)).mono fun e W' h => ⟨h.1, by obtain ⟨m, e⟩ := h.2.out; rw [e]; exact pw_below_drewN (Below.refl _ _) m⟩
set_option maxRecDepth 100000 in
set_option maxHeartbeats 16000000 in
theorem ref_fail_up (W : World) (s : Sl) (A0 A1 A2 : Option Addr) (c0 c1 n2 c2 : Nat) (wt tr a tr1 at1 : Int) (l1 : List Int) (hr : Kd.C k74 W A0 (lsS s).length (lsS s)) (hb : s.b.length ≤ 4096) (hsm : ∀ x ∈ s.b, x.1.size ≤ 256 ∧ ∀ t, x.2 = some t → t.size ≤ 256) (h1 : Kd.C (Kd.int .i64) W A1 l1.length l1) (hc1 : l1.length ≤ c1) (hl1 : l1.length ≤ 100000000) :
    Calls Try.prog 38 #[.agg #[.slice A0 (lsS s).length c0, .int .i64 wt, .slice A2 n2 c2, .int .i64 tr, .int .i64 a, .bool false], .agg #[.slice A1 l1.length c1, .int .i64 tr1, .int .i64 at1]] W fun e W' => ∃ v : Value, e = .returned (.agg #[v, .int .i64 wt, .slice A2 n2 c2, .int .i64 tr, .int .i64 a, .bool true]) ∧ Kd.R k74 74 W' W.heap.size (fun _ => True) v ((settle (failF l1 tr1 at1) s.b).map bk74) ∧ Below W.heap.size W W' := by
  have HB := Aside0.mk ((((Bx.start W).push #[.slice A0 (lsS s).length c0, .int .i64 wt, .slice A2 n2 c2, .int .i64 tr, .int .i64 a, .bool false] 51).push #[.slice A1 l1.length c1, .int .i64 tr1, .int .i64 at1] 49).push #[.slice none 0 0, .int .i64 0, .slice none 0 0, .int .i64 0, .int .i64 0, .bool false] 51)
  have HR := Aside0.mk hr
  have H1 := Aside0.mk (And.intro h1 (And.intro hc1 hl1))
  have HLen := Aside0.mk (show (lsS s).length = s.b.length from by unfold lsS; rw [List.length_map])
  clear hr h1 hc1 hl1
  go_enter Try.func38, Try.ntmps38
  go_upto_region 1 with (fail)
  simp only [alloc_size, List.nil_append, List.cons_append] at HB
  generalize ((W.alloc (.cells #[.slice A0 (lsS s).length c0, .int .i64 wt, .slice A2 n2 c2, .int .i64 tr, .int .i64 a, .bool false] 51)).alloc (.cells #[.slice A1 l1.length c1, .int .i64 tr1, .int .i64 at1] 49)).alloc (.cells #[.slice none 0 0, .int .i64 0, .slice none 0 0, .int .i64 0, .int .i64 0, .bool false] 51) = w2 at HB ⊢
  generalize W.heap.size + 1 + 1 = b4 at HB ⊢
  generalize W.heap.size + 1 = b3 at HB ⊢
  generalize hb1 : W.heap.size = b2 at HB ⊢
  have y5 : w2.cell? ⟨b2, 3 + 2, none⟩ = some (.bool false) := (blk_cell (HB.out.get 0 rfl) 5).trans rfl
  have y5' : w2.cell? ⟨b2, 5, none⟩ = some (.bool false) := y5
  go_upto_region 3 with (fail)
  clear y5 y5'
  go_wp2
  go_loopw [5, 6] (fun v5 v6 wr => ∃ (i : Nat), i ≤ s.b.length ∧ v6 = .int .i64 i ∧ Aside0 (Bx W wr [(b2, #[.slice A0 (lsS s).length c0, .int .i64 wt, .slice A2 n2 c2, .int .i64 tr, .int .i64 a, .bool false], 51), (b3, #[.slice A1 l1.length c1, .int .i64 tr1, .int .i64 at1], 49), (b4, #[.slice none 0 0, .int .i64 0, .slice none 0 0, .int .i64 0, .int .i64 0, .bool false], 51)]) ∧ Aside0 (Kd.R k74 74 wr W.heap.size (Off [b2, b3, b4]) v5 (((settle (failF l1 tr1 at1) s.b).take i).map bk74))) (fun v5 v6 _ => s.b.length - (intOf v6).toNat)
  case atStart => exact ⟨0, by omega, rfl, HB, ⟨Kd.R_nil _ _ _ _ _⟩⟩
  case round =>
    clear HB
    obtain ⟨i, hi, rfl, HB, HO⟩ := hrel
    generalize hl : ((settle (failF l1 tr1 at1) s.b).take i).map bk74 = lst at HO
    have HL := Aside0.mk hl
    have hll := Aside0.mk (show lst.length + 1 ≤ 1000000 from by rw [← hl]; simp; omega)
    clear hl
    obtain ⟨A5, c5, rfl⟩ := Kd.R_slice HO.out
    have y0 : wr.cell? ⟨b2, 0, none⟩ = some (.slice A0 (lsS s).length c0) := (blk_cell (HB.out.get 0 rfl) 0).trans rfl
    by_cases hlt : i < s.b.length
    · have q0 : decide ((i : Int) < ((lsS s).length : Int)) = true := decide_eq_true (by rw [HLen.out]; omega)
      have p1 : (i : Int) < ((lsS s).length : Int) := by rw [HLen.out]; omega
      obtain ⟨x, hx⟩ : ∃ x, s.b[i]? = some x := ⟨_, List.getElem?_eq_getElem hlt⟩
      obtain ⟨ad, e0, h0, h1, h2⟩ := at_T74 (Kd.C_below HR.out HB.out.bel) (i : Int) (by omega) p1
      rw [show rd_T74 (lsS s) (i : Int) = bk74 x from rd74s s.b i x hx, Int.toNat_natCast] at h0 h1 h2
      subst e0
      dsimp only [bk74] at h0 h1 h2
      go_upto_region 8 with (fail)
      clear y0 q0 p1 h0 h1 h2
      replace HO := Aside0.mk (R_pushB HO.out (g := wr.heap.size) rfl (below_alloc (Below.refl _ _) (.cells #[.string x.1, .string (x.2.getD ⟨#[]⟩), .bool x.2.isSome] 74)))
      replace HB := Aside0.mk (HB.out.push #[.string x.1, .string (x.2.getD ⟨#[]⟩), .bool x.2.isSome] 74)
      simp only [List.nil_append, List.cons_append] at HB HO
      generalize wr.alloc (.cells #[.string x.1, .string (x.2.getD ⟨#[]⟩), .bool x.2.isSome] 74) = w3 at HB HO ⊢
      generalize wr.heap.size = b7 at HB HO ⊢
      rcases x with ⟨y, _ | t⟩
      · dsimp only [Option.getD, Option.isSome] at HB ⊢
        have z0 : w3.cell? ⟨b7, 0, none⟩ = some (.string y) := (blk_cell (HB.out.get 3 rfl) 0).trans rfl
        have z1 : w3.cell? ⟨b7, 1, none⟩ = some (.string ⟨#[]⟩) := (blk_cell (HB.out.get 3 rfl) 1).trans rfl
        have z2 : w3.cell? ⟨b7, 2, none⟩ = some (.bool false) := (blk_cell (HB.out.get 3 rfl) 2).trans rfl
        have f1 : w3.frozen? ⟨b7, 1, none⟩ = false := blk_frozen (HB.out.get 3 rfl) 1
        have f2 : w3.frozen? ⟨b7, 2, none⟩ = false := blk_frozen (HB.out.get 3 rfl) 2
        go_upto_region 14 with (fail)
        clear z0 z1 z2 f1 f2
        replace HB := Aside0.mk ((HB.out.set 3 1 (.string ⟨#[]⟩) rfl).set 3 2 (.bool false) rfl)
        replace HO := Aside0.mk (R_setB (R_setB HO.out (g := b7) (by simp) 1 (.string ⟨#[]⟩)) (g := b7) (by simp) 2 (.bool false))
        generalize (w3.setCell ⟨b7, 1, none⟩ (.string ⟨#[]⟩)).setCell ⟨b7, 2, none⟩ (.bool false) = w4 at HB HO ⊢
        have z0 : w4.cell? ⟨b7, 0, none⟩ = some (.string y) := (blk_cell (HB.out.get 3 rfl) 0).trans rfl
        have z1 : w4.cell? ⟨b7, 1, none⟩ = some (.string ⟨#[]⟩) := (blk_cell (HB.out.get 3 rfl) 1).trans rfl
        have z2 : w4.cell? ⟨b7, 2, none⟩ = some (.bool false) := (blk_cell (HB.out.get 3 rfl) 2).trans rfl
        go_wp2_with (at_builtin; refine Kd.R_append k74 (w0 := W) W.heap.size rfl (.tmp 50) (.tmp 52) 48 74 (.agg #[(.string ⟨#[]⟩), (.string ⟨#[]⟩), (.bool false)]) 40 rfl Try.underlying48 info74 rfl (by decide) (by omega) (.slice A5 _ c5) _ (⟨y, ⟨#[]⟩, false⟩ : S74) [.string y, .string (⟨#[]⟩ : ByteArray), .bool false] (Off [b2, b3, b4, b7]) (fun _ => False) rfl rfl (k74_mkM _ _ _ _) (fun _ hk => hk.elim) (HB.out.fresh rfl) HO.out HB.out.bel HB.out.bel.size (by have := hll.out; omega) ?_; intro v5 w5 ho hb hg hat)
        have e1 := settle_step (failF l1 tr1 at1) s.b i (y, none) hx
        exact ⟨⟨i + 1, by omega, by first | rfl | go_num, ⟨(HB.out.grown rfl HO.out.1 hg hb).take 3⟩, ⟨by rw [e1, HL.out]; exact R_offB ho _ (by simp)⟩⟩, by simp [intOf]; omega⟩
      · dsimp only [Option.getD, Option.isSome] at HB ⊢
        have z0 : w3.cell? ⟨b7, 0, none⟩ = some (.string y) := (blk_cell (HB.out.get 3 rfl) 0).trans rfl
        have z1 : w3.cell? ⟨b7, 1, none⟩ = some (.string t) := (blk_cell (HB.out.get 3 rfl) 1).trans rfl
        have z2 : w3.cell? ⟨b7, 2, none⟩ = some (.bool true) := (blk_cell (HB.out.get 3 rfl) 2).trans rfl
        have l0 : w3.cell? ⟨b3, 0, none⟩ = some (.slice A1 l1.length c1) := (blk_cell (HB.out.get 1 rfl) 0).trans rfl
        have l1' : w3.cell? ⟨b3, 1, none⟩ = some (.int .i64 tr1) := (blk_cell (HB.out.get 1 rfl) 1).trans rfl
        have l2 : w3.cell? ⟨b3, 2, none⟩ = some (.int .i64 at1) := (blk_cell (HB.out.get 1 rfl) 2).trans rfl
        have ht : t.size ≤ 1000000 := by have := (hsm _ (List.mem_of_getElem? hx)).2 t rfl; omega
        rcases hc : l1.contains (i : Int) with _ | _
        · by_cases htr : (i : Int) = tr1
          · have hfin : failF l1 tr1 at1 i y t = tornS t at1 := by unfold failF; rw [if_neg (by rw [hc]; decide), if_pos htr]
            subst htr
            have q2 : ((i : Int) == (i : Int)) = true := by simp
            go_upto_region 11 with (go_at_call 46; refine (ref_has _ _ _ _ _ (Kd.C_below H1.out.1 HB.out.bel) H1.out.2.1 H1.out.2.2).mono ?_; rintro e w4 ⟨rfl, hb⟩; rw [hc]; replace HB := Aside0.mk (HB.out.below hb); replace HO := Aside0.mk (Kd.R_below HO.out hb); clear z0 z1 z2 l0 l1' l2 hb; have z0 : w4.cell? ⟨b7, 0, none⟩ = some (.string y) := (blk_cell (HB.out.get 3 rfl) 0).trans rfl; have z1 : w4.cell? ⟨b7, 1, none⟩ = some (.string t) := (blk_cell (HB.out.get 3 rfl) 1).trans rfl; have z2 : w4.cell? ⟨b7, 2, none⟩ = some (.bool true) := (blk_cell (HB.out.get 3 rfl) 2).trans rfl; have f0 : w4.frozen? ⟨b7, 0, none⟩ = false := blk_frozen (HB.out.get 3 rfl) 0; have l0 : w4.cell? ⟨b3, 0, none⟩ = some (.slice A1 l1.length c1) := (blk_cell (HB.out.get 1 rfl) 0).trans rfl; have l1' : w4.cell? ⟨b3, 1, none⟩ = some (.int .i64 (i : Int)) := (blk_cell (HB.out.get 1 rfl) 1).trans rfl; have l2 : w4.cell? ⟨b3, 2, none⟩ = some (.int .i64 at1) := (blk_cell (HB.out.get 1 rfl) 2).trans rfl)
            clear q2
            go_upto_region 12 with (go_at_call 47; refine (ref_torn _ _ _ ht).mono ?_; rintro e w5 ⟨rfl, hb⟩; replace HB := Aside0.mk (HB.out.below hb); replace HO := Aside0.mk (Kd.R_below HO.out hb); clear z0 z1 z2 f0 l0 l1' l2 hb; have f0 : w5.frozen? ⟨b7, 0, none⟩ = false := blk_frozen (HB.out.get 3 rfl) 0; have z0 : w5.cell? ⟨b7, 0, none⟩ = some (.string y) := (blk_cell (HB.out.get 3 rfl) 0).trans rfl)
            clear f0 z0
            replace HB := Aside0.mk (HB.out.set 3 0 (.string (tornS t at1)) rfl)
            replace HO := Aside0.mk (R_setB HO.out (g := b7) (by simp) 0 (.string (tornS t at1)))
            generalize w5.setCell ⟨b7, 0, none⟩ (.string (tornS t at1)) = w6 at HB HO ⊢
            generalize tornS t at1 = fin at HB HO hfin ⊢
            have z0 : w6.cell? ⟨b7, 0, none⟩ = some (.string fin) := (blk_cell (HB.out.get 3 rfl) 0).trans rfl
            have z1 : w6.cell? ⟨b7, 1, none⟩ = some (.string t) := (blk_cell (HB.out.get 3 rfl) 1).trans rfl
            have z2 : w6.cell? ⟨b7, 2, none⟩ = some (.bool true) := (blk_cell (HB.out.get 3 rfl) 2).trans rfl
            have f1 : w6.frozen? ⟨b7, 1, none⟩ = false := blk_frozen (HB.out.get 3 rfl) 1
            have f2 : w6.frozen? ⟨b7, 2, none⟩ = false := blk_frozen (HB.out.get 3 rfl) 2
            go_upto_region 14 with (fail)
            clear z0 z1 z2 f1 f2
            replace HB := Aside0.mk ((HB.out.set 3 1 (.string ⟨#[]⟩) rfl).set 3 2 (.bool false) rfl)
            replace HO := Aside0.mk (R_setB (R_setB HO.out (g := b7) (by simp) 1 (.string ⟨#[]⟩)) (g := b7) (by simp) 2 (.bool false))
            generalize (w6.setCell ⟨b7, 1, none⟩ (.string ⟨#[]⟩)).setCell ⟨b7, 2, none⟩ (.bool false) = w8 at HB HO ⊢
            have z0 : w8.cell? ⟨b7, 0, none⟩ = some (.string fin) := (blk_cell (HB.out.get 3 rfl) 0).trans rfl
            have z1 : w8.cell? ⟨b7, 1, none⟩ = some (.string ⟨#[]⟩) := (blk_cell (HB.out.get 3 rfl) 1).trans rfl
            have z2 : w8.cell? ⟨b7, 2, none⟩ = some (.bool false) := (blk_cell (HB.out.get 3 rfl) 2).trans rfl
            go_wp2_with (at_builtin; refine Kd.R_append k74 (w0 := W) W.heap.size rfl (.tmp 50) (.tmp 52) 48 74 (.agg #[(.string ⟨#[]⟩), (.string ⟨#[]⟩), (.bool false)]) 40 rfl Try.underlying48 info74 rfl (by decide) (by omega) (.slice A5 _ c5) _ (⟨fin, ⟨#[]⟩, false⟩ : S74) [.string fin, .string (⟨#[]⟩ : ByteArray), .bool false] (Off [b2, b3, b4, b7]) (fun _ => False) rfl rfl (k74_mkM _ _ _ _) (fun _ hk => hk.elim) (HB.out.fresh rfl) HO.out HB.out.bel HB.out.bel.size (by have := hll.out; omega) ?_; intro v5 w9 ho hb hg hat)
            have e1 := settle_step (failF l1 (i : Int) at1) s.b i (y, some t) hx
            rw [show finB (failF l1 (i : Int) at1) (fun _ => false) i (y, some t) = fin from hfin] at e1
            exact ⟨⟨i + 1, by omega, by first | rfl | go_num, ⟨(HB.out.grown rfl HO.out.1 hg hb).take 3⟩, ⟨by rw [e1, HL.out]; exact R_offB ho _ (by simp)⟩⟩, by simp [intOf]; omega⟩
          · have hfin : failF l1 tr1 at1 i y t = y := by unfold failF; rw [if_neg (by rw [hc]; decide), if_neg htr]
            have q2 : ((i : Int) == tr1) = false := beq_eq_false_iff_ne.mpr htr
            clear htr
            go_upto_region 12 with (go_at_call 46; refine (ref_has _ _ _ _ _ (Kd.C_below H1.out.1 HB.out.bel) H1.out.2.1 H1.out.2.2).mono ?_; rintro e w4 ⟨rfl, hb⟩; rw [hc]; replace HB := Aside0.mk (HB.out.below hb); replace HO := Aside0.mk (Kd.R_below HO.out hb); clear z0 z1 z2 l0 l1' l2 hb; have z0 : w4.cell? ⟨b7, 0, none⟩ = some (.string y) := (blk_cell (HB.out.get 3 rfl) 0).trans rfl; have z1 : w4.cell? ⟨b7, 1, none⟩ = some (.string t) := (blk_cell (HB.out.get 3 rfl) 1).trans rfl; have z2 : w4.cell? ⟨b7, 2, none⟩ = some (.bool true) := (blk_cell (HB.out.get 3 rfl) 2).trans rfl; have f0 : w4.frozen? ⟨b7, 0, none⟩ = false := blk_frozen (HB.out.get 3 rfl) 0; have l0 : w4.cell? ⟨b3, 0, none⟩ = some (.slice A1 l1.length c1) := (blk_cell (HB.out.get 1 rfl) 0).trans rfl; have l1' : w4.cell? ⟨b3, 1, none⟩ = some (.int .i64 tr1) := (blk_cell (HB.out.get 1 rfl) 1).trans rfl; have l2 : w4.cell? ⟨b3, 2, none⟩ = some (.int .i64 at1) := (blk_cell (HB.out.get 1 rfl) 2).trans rfl)
            clear q2 z0 z1 z2 f0 l0 l1' l2
            have z0 : w4.cell? ⟨b7, 0, none⟩ = some (.string y) := (blk_cell (HB.out.get 3 rfl) 0).trans rfl
            have z1 : w4.cell? ⟨b7, 1, none⟩ = some (.string t) := (blk_cell (HB.out.get 3 rfl) 1).trans rfl
            have z2 : w4.cell? ⟨b7, 2, none⟩ = some (.bool true) := (blk_cell (HB.out.get 3 rfl) 2).trans rfl
            have f1 : w4.frozen? ⟨b7, 1, none⟩ = false := blk_frozen (HB.out.get 3 rfl) 1
            have f2 : w4.frozen? ⟨b7, 2, none⟩ = false := blk_frozen (HB.out.get 3 rfl) 2
            go_upto_region 14 with (fail)
            clear z0 z1 z2 f1 f2
            replace HB := Aside0.mk ((HB.out.set 3 1 (.string ⟨#[]⟩) rfl).set 3 2 (.bool false) rfl)
            replace HO := Aside0.mk (R_setB (R_setB HO.out (g := b7) (by simp) 1 (.string ⟨#[]⟩)) (g := b7) (by simp) 2 (.bool false))
            generalize (w4.setCell ⟨b7, 1, none⟩ (.string ⟨#[]⟩)).setCell ⟨b7, 2, none⟩ (.bool false) = w8 at HB HO ⊢
            have z0 : w8.cell? ⟨b7, 0, none⟩ = some (.string y) := (blk_cell (HB.out.get 3 rfl) 0).trans rfl
            have z1 : w8.cell? ⟨b7, 1, none⟩ = some (.string ⟨#[]⟩) := (blk_cell (HB.out.get 3 rfl) 1).trans rfl
            have z2 : w8.cell? ⟨b7, 2, none⟩ = some (.bool false) := (blk_cell (HB.out.get 3 rfl) 2).trans rfl
            go_wp2_with (at_builtin; refine Kd.R_append k74 (w0 := W) W.heap.size rfl (.tmp 50) (.tmp 52) 48 74 (.agg #[(.string ⟨#[]⟩), (.string ⟨#[]⟩), (.bool false)]) 40 rfl Try.underlying48 info74 rfl (by decide) (by omega) (.slice A5 _ c5) _ (⟨y, ⟨#[]⟩, false⟩ : S74) [.string y, .string (⟨#[]⟩ : ByteArray), .bool false] (Off [b2, b3, b4, b7]) (fun _ => False) rfl rfl (k74_mkM _ _ _ _) (fun _ hk => hk.elim) (HB.out.fresh rfl) HO.out HB.out.bel HB.out.bel.size (by have := hll.out; omega) ?_; intro v5 w9 ho hb hg hat)
            have e1 := settle_step (failF l1 tr1 at1) s.b i (y, some t) hx
            rw [show finB (failF l1 tr1 at1) (fun _ => false) i (y, some t) = y from hfin] at e1
            exact ⟨⟨i + 1, by omega, by first | rfl | go_num, ⟨(HB.out.grown rfl HO.out.1 hg hb).take 3⟩, ⟨by rw [e1, HL.out]; exact R_offB ho _ (by simp)⟩⟩, by simp [intOf]; omega⟩
        · have hfin : failF l1 tr1 at1 i y t = t := by unfold failF; rw [if_pos hc]
          go_upto_region 12 with (go_at_call 46; refine (ref_has _ _ _ _ _ (Kd.C_below H1.out.1 HB.out.bel) H1.out.2.1 H1.out.2.2).mono ?_; rintro e w4 ⟨rfl, hb⟩; rw [hc]; replace HB := Aside0.mk (HB.out.below hb); replace HO := Aside0.mk (Kd.R_below HO.out hb); clear z0 z1 z2 l0 l1' l2 hb; have z0 : w4.cell? ⟨b7, 0, none⟩ = some (.string y) := (blk_cell (HB.out.get 3 rfl) 0).trans rfl; have z1 : w4.cell? ⟨b7, 1, none⟩ = some (.string t) := (blk_cell (HB.out.get 3 rfl) 1).trans rfl; have z2 : w4.cell? ⟨b7, 2, none⟩ = some (.bool true) := (blk_cell (HB.out.get 3 rfl) 2).trans rfl; have f0 : w4.frozen? ⟨b7, 0, none⟩ = false := blk_frozen (HB.out.get 3 rfl) 0; have l0 : w4.cell? ⟨b3, 0, none⟩ = some (.slice A1 l1.length c1) := (blk_cell (HB.out.get 1 rfl) 0).trans rfl; have l1' : w4.cell? ⟨b3, 1, none⟩ = some (.int .i64 tr1) := (blk_cell (HB.out.get 1 rfl) 1).trans rfl; have l2 : w4.cell? ⟨b3, 2, none⟩ = some (.int .i64 at1) := (blk_cell (HB.out.get 1 rfl) 2).trans rfl)
          clear z0 z1 z2 f0 l0 l1' l2
          replace HB := Aside0.mk (HB.out.set 3 0 (.string t) rfl)
          replace HO := Aside0.mk (R_setB HO.out (g := b7) (by simp) 0 (.string t))
          generalize w4.setCell ⟨b7, 0, none⟩ (.string t) = w6 at HB HO ⊢
          have z0 : w6.cell? ⟨b7, 0, none⟩ = some (.string t) := (blk_cell (HB.out.get 3 rfl) 0).trans rfl
          have z1 : w6.cell? ⟨b7, 1, none⟩ = some (.string t) := (blk_cell (HB.out.get 3 rfl) 1).trans rfl
          have z2 : w6.cell? ⟨b7, 2, none⟩ = some (.bool true) := (blk_cell (HB.out.get 3 rfl) 2).trans rfl
          have f1 : w6.frozen? ⟨b7, 1, none⟩ = false := blk_frozen (HB.out.get 3 rfl) 1
          have f2 : w6.frozen? ⟨b7, 2, none⟩ = false := blk_frozen (HB.out.get 3 rfl) 2
          go_upto_region 14 with (fail)
          clear z0 z1 z2 f1 f2
          replace HB := Aside0.mk ((HB.out.set 3 1 (.string ⟨#[]⟩) rfl).set 3 2 (.bool false) rfl)
          replace HO := Aside0.mk (R_setB (R_setB HO.out (g := b7) (by simp) 1 (.string ⟨#[]⟩)) (g := b7) (by simp) 2 (.bool false))
          generalize (w6.setCell ⟨b7, 1, none⟩ (.string ⟨#[]⟩)).setCell ⟨b7, 2, none⟩ (.bool false) = w8 at HB HO ⊢
          have z0 : w8.cell? ⟨b7, 0, none⟩ = some (.string t) := (blk_cell (HB.out.get 3 rfl) 0).trans rfl
          have z1 : w8.cell? ⟨b7, 1, none⟩ = some (.string ⟨#[]⟩) := (blk_cell (HB.out.get 3 rfl) 1).trans rfl
          have z2 : w8.cell? ⟨b7, 2, none⟩ = some (.bool false) := (blk_cell (HB.out.get 3 rfl) 2).trans rfl
          go_wp2_with (at_builtin; refine Kd.R_append k74 (w0 := W) W.heap.size rfl (.tmp 50) (.tmp 52) 48 74 (.agg #[(.string ⟨#[]⟩), (.string ⟨#[]⟩), (.bool false)]) 40 rfl Try.underlying48 info74 rfl (by decide) (by omega) (.slice A5 _ c5) _ (⟨t, ⟨#[]⟩, false⟩ : S74) [.string t, .string (⟨#[]⟩ : ByteArray), .bool false] (Off [b2, b3, b4, b7]) (fun _ => False) rfl rfl (k74_mkM _ _ _ _) (fun _ hk => hk.elim) (HB.out.fresh rfl) HO.out HB.out.bel HB.out.bel.size (by have := hll.out; omega) ?_; intro v5 w9 ho hb hg hat)
          have e1 := settle_step (failF l1 tr1 at1) s.b i (y, some t) hx
          rw [show finB (failF l1 tr1 at1) (fun _ => false) i (y, some t) = t from hfin] at e1
          exact ⟨⟨i + 1, by omega, by first | rfl | go_num, ⟨(HB.out.grown rfl HO.out.1 hg hb).take 3⟩, ⟨by rw [e1, HL.out]; exact R_offB ho _ (by simp)⟩⟩, by simp [intOf]; omega⟩
    · obtain rfl : i = s.b.length := by omega
      have q0 : decide (((s.b.length : Nat) : Int) < ((lsS s).length : Int)) = false := decide_eq_false (by rw [HLen.out]; omega)
      have p1 : ¬ (((s.b.length : Nat) : Int) < ((lsS s).length : Int)) := by rw [HLen.out]; omega
      have hl := HL.out
      rw [List.take_of_length_le (by rw [settle_len]; omega)] at hl
      replace HL := Aside0.mk hl
      clear hl hll
      have f0 : wr.frozen? ⟨b2, 0, none⟩ = false := blk_frozen (HB.out.get 0 rfl) 0
      go_upto_region 16 with (fail)
      clear y0 f0 q0
      replace HO := Aside0.mk (R_setB HO.out (g := b2) (by simp) 0 (.slice A5 lst.length c5))
      replace HB := Aside0.mk (HB.out.set 0 0 (.slice A5 lst.length c5) rfl)
      generalize wr.setCell ⟨b2, 0, none⟩ (.slice A5 lst.length c5) = u1 at HB HO ⊢
      have f5 : u1.frozen? ⟨b2, 5, none⟩ = false := blk_frozen (HB.out.get 0 rfl) 5
      have c5' : u1.cell? ⟨b2, 5, none⟩ = some (.bool false) := (blk_cell (HB.out.get 0 rfl) 5).trans rfl
      have c5'' : u1.cell? ⟨b2, 3 + 2, none⟩ = some (.bool false) := c5'
      have f5' : u1.frozen? ⟨b2, 3 + 2, none⟩ = false := f5
      go_upto_region 17 with (fail)
      clear f5 f5' c5' c5''
      replace HO := Aside0.mk (R_setB HO.out (g := b2) (by simp) 5 (.bool true))
      replace HB := Aside0.mk (HB.out.set 0 5 (.bool true) rfl)
      dsimp only [List.set_cons_zero] at HB
      generalize hu2 : u1.setCell ⟨b2, 5, none⟩ (.bool true) = u2 at HB HO ⊢
      replace HB : Aside0 (Bx W u2 [(b2, #[.slice A5 lst.length c5, .int .i64 wt, .slice A2 n2 c2, .int .i64 tr, .int .i64 a, .bool true], 51), (b3, #[.slice A1 l1.length c1, .int .i64 tr1, .int .i64 at1], 49), (b4, #[.slice none 0 0, .int .i64 0, .slice none 0 0, .int .i64 0, .int .i64 0, .bool false], 51)]) := HB
      have y0 : u2.cell? ⟨b2, 0, none⟩ = some (.slice A5 lst.length c5) := (blk_cell (HB.out.get 0 rfl) 0).trans rfl
      have y1 : u2.cell? ⟨b2, 1, none⟩ = some (.int .i64 wt) := (blk_cell (HB.out.get 0 rfl) 1).trans rfl
      have y2 : u2.cell? ⟨b2, 2, none⟩ = some (.slice A2 n2 c2) := (blk_cell (HB.out.get 0 rfl) 2).trans rfl
      have y3 : u2.cell? ⟨b2, 3, none⟩ = some (.int .i64 tr) := (blk_cell (HB.out.get 0 rfl) 3).trans rfl
      have y4 : u2.cell? ⟨b2, 4, none⟩ = some (.int .i64 a) := (blk_cell (HB.out.get 0 rfl) 4).trans rfl
      have y5 : u2.cell? ⟨b2, 5, none⟩ = some (.bool true) := (blk_cell (HB.out.get 0 rfl) 5).trans rfl
      have t0 : u2.cell? ⟨b4, 0, none⟩ = some (.slice none 0 0) := (blk_cell (HB.out.get 2 rfl) 0).trans rfl
      have t1 : u2.cell? ⟨b4, 1, none⟩ = some (.int .i64 0) := (blk_cell (HB.out.get 2 rfl) 1).trans rfl
      have t2 : u2.cell? ⟨b4, 2, none⟩ = some (.slice none 0 0) := (blk_cell (HB.out.get 2 rfl) 2).trans rfl
      have t3 : u2.cell? ⟨b4, 3, none⟩ = some (.int .i64 0) := (blk_cell (HB.out.get 2 rfl) 3).trans rfl
      have t4 : u2.cell? ⟨b4, 4, none⟩ = some (.int .i64 0) := (blk_cell (HB.out.get 2 rfl) 4).trans rfl
      have t5 : u2.cell? ⟨b4, 5, none⟩ = some (.bool false) := (blk_cell (HB.out.get 2 rfl) 5).trans rfl
      have tz0 : u2.frozen? ⟨b4, 0, none⟩ = false := blk_frozen (HB.out.get 2 rfl) 0
      have tz1 : u2.frozen? ⟨b4, 1, none⟩ = false := blk_frozen (HB.out.get 2 rfl) 1
      have tz2 : u2.frozen? ⟨b4, 2, none⟩ = false := blk_frozen (HB.out.get 2 rfl) 2
      have tz3 : u2.frozen? ⟨b4, 3, none⟩ = false := blk_frozen (HB.out.get 2 rfl) 3
      have tz4 : u2.frozen? ⟨b4, 4, none⟩ = false := blk_frozen (HB.out.get 2 rfl) 4
      have tz5 : u2.frozen? ⟨b4, 5, none⟩ = false := blk_frozen (HB.out.get 2 rfl) 5
      go_wp2
      have HX : Aside0 (Bx W ((((((u2.setCell ⟨b4, 0, none⟩ (.slice A5 lst.length c5)).setCell ⟨b4, 1, none⟩ (.int .i64 wt)).setCell ⟨b4, 2, none⟩ (.slice A2 n2 c2)).setCell ⟨b4, 3, none⟩ (.int .i64 tr)).setCell ⟨b4, 4, none⟩ (.int .i64 a)).setCell ⟨b4, 5, none⟩ (.bool true)) [(b2, #[.slice A5 lst.length c5, .int .i64 wt, .slice A2 n2 c2, .int .i64 tr, .int .i64 a, .bool true], 51), (b3, #[.slice A1 l1.length c1, .int .i64 tr1, .int .i64 at1], 49), (b4, #[.slice A5 lst.length c5, .int .i64 wt, .slice A2 n2 c2, .int .i64 tr, .int .i64 a, .bool true], 51)]) := ⟨((((((HB.out.set 2 0 (.slice A5 lst.length c5) rfl).set 2 1 (.int .i64 wt) rfl).set 2 2 (.slice A2 n2 c2) rfl).set 2 3 (.int .i64 tr) rfl).set 2 4 (.int .i64 a) rfl).set 2 5 (.bool true) rfl)⟩
      replace HO := Aside0.mk (R_setB (R_setB (R_setB (R_setB (R_setB (R_setB HO.out (g := b4) (by simp) 0 (.slice A5 lst.length c5)) (g := b4) (by simp) 1 (.int .i64 wt)) (g := b4) (by simp) 2 (.slice A2 n2 c2)) (g := b4) (by simp) 3 (.int .i64 tr)) (g := b4) (by simp) 4 (.int .i64 a)) (g := b4) (by simp) 5 (.bool true))
      clear HB y0 y1 y2 y3 y4 y5 t0 t1 t2 t3 t4 t5 tz0 tz1 tz2 tz3 tz4 tz5 hu2
      generalize ((((((u2.setCell ⟨b4, 0, none⟩ (.slice A5 lst.length c5)).setCell ⟨b4, 1, none⟩ (.int .i64 wt)).setCell ⟨b4, 2, none⟩ (.slice A2 n2 c2)).setCell ⟨b4, 3, none⟩ (.int .i64 tr)).setCell ⟨b4, 4, none⟩ (.int .i64 a)).setCell ⟨b4, 5, none⟩ (.bool true)) = w9 at HX HO ⊢
      refine bodyPost_ret (results_single rfl (.cell b4 51 #[.slice A5 lst.length c5, .int .i64 wt, .slice A2 n2 c2, .int .i64 tr, .int .i64 a, .bool true] (0, 0) _ rfl (HX.out.get 2 rfl) Try.underlying51 rfl (by kernel_rfl) .nil)) rfl ?_
      rw [HL.out]
      subst hb1
      exact ⟨_, rfl, Kd.R_mono HO.out (fun _ _ => trivial), HX.out.bel⟩

end Go.Proofs.Ytdenfndpggfgmaa.PP
