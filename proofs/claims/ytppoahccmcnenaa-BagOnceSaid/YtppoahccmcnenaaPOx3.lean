-- written by a program of this session
import Derived.Test.YtppoahccmcnenaaPOx0
import Derived.Test.YtppoahccmcnenaaPOx1
import Derived.Test.YtppoahccmcnenaaPOx2
namespace Go.Proofs.Ytppoahccmcnenaa.PO
open Go.RowKit Go.Proofs.Ytppoahccmcnenaa.Op Go.Proofs.YtppoahccmcnenaaW.PrintWords Go.Proofs.YtppoahccmcnenaaW.PrintLast Go.Proofs.YtppoahccmcnenaaW.PrintMore
attribute [local go_sem] max2_int min2_int max_two min_two max_three min_three max_four min_four   -- for this text's walks alone
set_option linter.unusedVariables false
set_option linter.unusedSimpArgs false

/-! ### the bag: all of it, as a law's walk wants it -/
section
variable {w W : World} {g mb cb n : Nat} {s s' : Bg} {i q : Int} {m : Ml} {b : Bool}
theorem bag_take (h : IsBg w W g mb cb n s) (id : Int) (hid : (Lit.int .i64 id).wf = true) :
    Calls Try.prog 12 #[.pointer (some ⟨g, 0, none⟩), .int .i64 id] W fun e W' => e = .returned (.tuple #[mailV (takeB s id).2.1, .int .i64 (takeB s id).2.2]) ∧ IsBg w W' g mb cb n (takeB s id).1 ∧ BgKept W W' g mb cb := by
  unfold takeB
  cases hf : findM s.l id with
  | none => exact bag_take_none h id hid hf
  | some m =>
    dsimp only
    cases hc : s.cuts.contains (ofP m.fr m.too)
    · rw [if_neg (by decide)]; exact bag_take_yes h id hid m hf hc
    · rw [if_pos rfl]; exact bag_take_cut h id hid m hf hc
theorem bag_send' (h : IsBg w W g mb cb n s) (hn : n < 1000000) (f t : Int) (x : ByteArray) (e : sendB s f t x = (s', i, q)) :
    Calls Try.prog 11 #[.pointer (some ⟨g, 0, none⟩), .int .i64 f, .int .i64 t, .string x] W fun e W' => e = .returned (.tuple #[.int .i64 i, .int .i64 q]) ∧ IsBg w W' g mb cb (n + 2) s' ∧ BgKept W W' g mb cb := by
  have := bag_send h hn f t x; rw [e] at this; exact this
theorem bag_twice' (h : IsBg w W g mb cb n s) (hn : n < 1000000) (id : Int) (hid : (Lit.int .i64 id).wf = true) (e : twiceB s id = (s', i, q)) :
    Calls Try.prog 14 #[.pointer (some ⟨g, 0, none⟩), .int .i64 id] W fun e W' => e = .returned (.tuple #[.int .i64 i, .int .i64 q]) ∧ IsBg w W' g mb cb (n + 2) s' ∧ BgKept W W' g mb cb := by
  have := bag_twice h hn id hid; rw [e] at this; exact this
theorem bag_lose' (h : IsBg w W g mb cb n s) (id : Int) (hid : (Lit.int .i64 id).wf = true) (e : loseB s id = (s', q)) :
    Calls Try.prog 13 #[.pointer (some ⟨g, 0, none⟩), .int .i64 id] W fun e W' => e = .returned (.int .i64 q) ∧ IsBg w W' g mb cb n s' ∧ BgKept W W' g mb cb := by
  have := bag_lose h id hid; rw [e] at this; exact this
theorem bag_take' (h : IsBg w W g mb cb n s) (id : Int) (hid : (Lit.int .i64 id).wf = true) (e : takeB s id = (s', m, q)) :
    Calls Try.prog 12 #[.pointer (some ⟨g, 0, none⟩), .int .i64 id] W fun e W' => e = .returned (.tuple #[.agg #[.int .i64 m.id, .int .i64 m.fr, .int .i64 m.too, .string m.t], .int .i64 q]) ∧ IsBg w W' g mb cb n s' ∧ BgKept W W' g mb cb := by
  have := bag_take h id hid; rw [e] at this; exact this
theorem bag_apart' (h : IsBg w W g mb cb n s) (hn : n < 1000000) (x y : Int) (on : Bool) (e : setB s x y on = (s', q)) :
    Calls Try.prog 16 #[.pointer (some ⟨g, 0, none⟩), .int .i64 x, .int .i64 y, .bool on] W fun e W' => e = .returned (.int .i64 q) ∧ IsBg w W' g mb cb (n + 1) s' ∧ BgKept W W' g mb cb := by
  have := bag_apart h hn x y on; rw [e] at this; exact this
theorem bag_find' (h : IsBg w W g mb cb n s) (id : Int) (hid : (Lit.int .i64 id).wf = true) (e : findB s id = (m, b)) :
    Calls Try.prog 21 #[.pointer (some ⟨g, 0, none⟩), .int .i64 id] W fun e W' => e = .returned (.tuple #[.agg #[.int .i64 m.id, .int .i64 m.fr, .int .i64 m.too, .string m.t], .bool b]) ∧ Below W.heap.size W W' := by
  have := bag_find h id hid; rw [e] at this; exact this
end
/-! ### splicelaw10_awake: function 10 (by hand) -/
set_option maxRecDepth 100000 in
set_option maxHeartbeats 4000000 in
theorem awake10 (W : World) : Calls Try.prog 10 #[] W fun e W' => e = .returned (.bool true) ∧ Below W.heap.size W W' := by
  have HN := Aside0.mk (bag_new (Below.refl W.heap.size W))
  go_enter Try.func10, Try.ntmps10
  go_upto_region 2 with (go_at_call 9; refine HN.out.mono ?_; rintro e w1 ⟨rfl, hs, hb⟩; have HS := Aside0.mk hs; clear hs hb)
  clear HN
  generalize W.heap.size + 1 + 1 = g at HS ⊢
  generalize W.heap.size + 1 = cb at HS
  generalize hrb : W.heap.size = mb at HS
  clear hrb
  have HC := Aside0.mk (bag_send' HS.out (by omega) 1 2 ⟨#[97]⟩ (s' := ⟨[⟨1, 1, 2, ⟨#[97]⟩⟩], 1, []⟩) (i := 1) (q := 0) rfl)
  go_upto_region 3 with (go_at_call 11; refine HC.out.mono ?_; rintro e w2 ⟨rfl, hs, hb⟩; replace HS := Aside0.mk hs; clear hs hb)
  clear HC
  have HC := Aside0.mk (bag_twice' HS.out (by omega) 1 (by decide) (s' := ⟨[⟨1, 1, 2, ⟨#[97]⟩⟩, ⟨2, 1, 2, ⟨#[97]⟩⟩], 2, []⟩) (i := 2) (q := 0) rfl)
  go_upto_region 4 with (go_at_call 14; refine HC.out.mono ?_; rintro e w3 ⟨rfl, hs, hb⟩; replace HS := Aside0.mk hs; clear hs hb)
  clear HC
  have HC := Aside0.mk (bag_apart' HS.out (by omega) 2 1 true (s' := ⟨[⟨1, 1, 2, ⟨#[97]⟩⟩, ⟨2, 1, 2, ⟨#[97]⟩⟩], 2, [(1, 2)]⟩) (q := 0) rfl)
  go_upto_region 5 with (go_at_call 16; refine HC.out.mono ?_; rintro e w4 ⟨rfl, hs, hb⟩; replace HS := Aside0.mk hs; clear hs hb)
  clear HC
  have HC := Aside0.mk (bag_take' HS.out 1 (by decide) (s' := ⟨[⟨1, 1, 2, ⟨#[97]⟩⟩, ⟨2, 1, 2, ⟨#[97]⟩⟩], 2, [(1, 2)]⟩) (m := ⟨0, 0, 0, ⟨#[]⟩⟩) (q := 50) rfl)
  go_upto_region 6 with (go_at_call 12; refine HC.out.mono ?_; rintro e w5 ⟨rfl, hs, hb⟩; replace HS := Aside0.mk hs; clear hs hb)
  clear HC
  replace HS := Aside0.mk (HS.out.below (below_alloc (Below.refl _ _) (.cells #[.int .i64 0, .int .i64 0, .int .i64 0, .string ⟨#[]⟩] 34)))
  generalize w5.alloc (.cells #[.int .i64 0, .int .i64 0, .int .i64 0, .string ⟨#[]⟩] 34) = w6 at HS ⊢
  have HC := Aside0.mk (bag_apart' HS.out (by omega) 1 2 false (s' := ⟨[⟨1, 1, 2, ⟨#[97]⟩⟩, ⟨2, 1, 2, ⟨#[97]⟩⟩], 2, []⟩) (q := 0) rfl)
  go_upto_region 7 with (go_at_call 16; refine HC.out.mono ?_; rintro e w7 ⟨rfl, hs, hb⟩; replace HS := Aside0.mk hs; clear hs hb)
  clear HC
  have HC := Aside0.mk (bag_take' HS.out 1 (by decide) (s' := ⟨[⟨2, 1, 2, ⟨#[97]⟩⟩], 2, []⟩) (m := ⟨1, 1, 2, ⟨#[97]⟩⟩) (q := 0) rfl)
  go_upto_region 8 with (go_at_call 12; refine HC.out.mono ?_; rintro e w8 ⟨rfl, hs, hb⟩; replace HS := Aside0.mk hs; clear hs hb)
  clear HC
  have HG8 : Aside0 (w8.heap.size ≠ g ∧ w8.heap.size ≠ mb ∧ w8.heap.size ≠ cb) := ⟨by have := HS.out.lts; omega⟩
  have HX := Aside0.mk (blk_new w8 (.cells #[.int .i64 1, .int .i64 1, .int .i64 2, .string ⟨#[97]⟩] 34))
  replace HS := Aside0.mk (HS.out.below (below_alloc (Below.refl _ _) (.cells #[.int .i64 1, .int .i64 1, .int .i64 2, .string ⟨#[97]⟩] 34)))
  generalize w8.alloc (.cells #[.int .i64 1, .int .i64 1, .int .i64 2, .string ⟨#[97]⟩] 34) = w9 at HS HX ⊢
  generalize w8.heap.size = g8 at HX HG8 ⊢
  have HC := Aside0.mk (bag_take' HS.out 1 (by decide) (s' := ⟨[⟨2, 1, 2, ⟨#[97]⟩⟩], 2, []⟩) (m := ⟨0, 0, 0, ⟨#[]⟩⟩) (q := 4) rfl)
  go_upto_region 9 with (go_at_call 12; refine HC.out.mono ?_; rintro e w10 ⟨rfl, hs, hb⟩; replace HS := Aside0.mk hs; have HKt := Aside0.mk hb; clear hs hb)
  clear HC
  replace HX := Aside0.mk (blk_below ((HKt.out.2 g8 (blk_lt HX.out) HG8.out.1 HG8.out.2.1 HG8.out.2.2).trans HX.out) (below_alloc (Below.refl _ _) (.cells #[.int .i64 0, .int .i64 0, .int .i64 0, .string ⟨#[]⟩] 34)))
  replace HS := Aside0.mk (HS.out.below (below_alloc (Below.refl _ _) (.cells #[.int .i64 0, .int .i64 0, .int .i64 0, .string ⟨#[]⟩] 34)))
  generalize w10.alloc (.cells #[.int .i64 0, .int .i64 0, .int .i64 0, .string ⟨#[]⟩] 34) = w11 at HS HX ⊢
  have x3 : w11.cell? ⟨g8, 3, none⟩ = some (.string ⟨#[97]⟩) := (blk_cell HX.out 3).trans rfl
  go_wp2
  go_ret
  exact ⟨rfl, HS.out.bel⟩

/-! ### slices.IndexFunc, slices.DeleteFunc at ints, with a predicate that may lay blocks of its own: by hand -/
/-- a block that holds ints -/
structure IntB (W : World) (blk cap : Nat) (l : List Int) (cur : Array Value) : Prop where
  at_ : W.heap[blk]? = some (.cells cur 3 (0, 0))
  size : cur.size = cap
  len : l.length ≤ cap
  cap1 : cap ≤ maxLen
  val : ∀ (k : Nat) (x : Int), l[k]? = some x → cur[k]? = some (.int .i64 x)
structure PredI (g : Nat) (lb : Array Value) (p : Int → Bool) (I : World → Prop) (blk : Nat) (l : List Int) : Prop where
  call : ∀ (W : World) (x : Int), x ∈ l → I W → Calls Try.prog g (#[.int .i64 x] ++ lb) W fun e w' => e = .returned (.bool (p x)) ∧ Below W.heap.size W w'
  below : ∀ (W W' : World), I W → Below W.heap.size W W' → I W'
  set : ∀ (W : World) (k : Nat) (v : Value), I W → I (W.setCell ⟨blk, k, none⟩ v)
def ixI (p : Int → Bool) : List Int → Nat → Int
  | [], _ => -1
  | x :: l, i => if p x = true then (i : Int) else ixI p l (i + 1)
theorem ixI_spec (p : Int → Bool) : ∀ (l : List Int) (i : Nat), (ixI p l i = -1 ∧ l.filter (fun x => !p x) = l) ∨ ∃ k : Nat, ∃ x, ixI p l i = ((i + k : Nat) : Int) ∧ l[k]? = some x ∧ p x = true ∧ (l.take k).filter (fun x => !p x) = l.take k := by
  intro l
  induction l with
  | nil => intro i; exact Or.inl ⟨rfl, rfl⟩
  | cons x l ih =>
    intro i
    simp only [ixI]
    by_cases h : p x = true
    · rw [if_pos h]
      exact Or.inr ⟨0, x, by simp, rfl, h, rfl⟩
    · rw [if_neg h]
      have h' : (!p x) = true := by simpa using h
      rcases ih (i + 1) with ⟨h1, h2⟩ | ⟨k, y, h1, h2, h3, h4⟩
      · exact Or.inl ⟨h1, by rw [List.filter_cons, if_pos h', h2]⟩
      · exact Or.inr ⟨k + 1, y, by rw [h1]; congr 1; omega, h2, h3, by rw [List.take_succ_cons, List.filter_cons, if_pos h', h4]⟩
theorem IntB.below {W W' : World} {blk cap : Nat} {l : List Int} {cur : Array Value} (h : IntB W blk cap l cur) (hb : Below W.heap.size W W') : IntB W' blk cap l cur := { h with at_ := blk_below h.at_ hb }
theorem IntB.read {W : World} {blk cap : Nat} {l : List Int} {cur : Array Value} (h : IntB W blk cap l cur) (k : Nat) (x : Int) (hx : l[k]? = some x) : W.cell? ⟨blk, k, none⟩ = some (.int .i64 x) := (blk_cell h.at_ k).trans (h.val k x hx)
set_option maxHeartbeats 4000000 in
set_option maxRecDepth 100000 in
theorem ixfuncI (p : Int → Bool) (g : Nat) (lb : Array Value) (eg : ∀ args w, (callFunc g args).run Try.prog w = .ok (.enter g args) w) (I : World → Prop) (blk cap : Nat) (l : List Int) (cur : Array Value) (w : World)
    (hp : PredI g lb p I blk l) (hI : I w) (hl : IntB w blk cap l cur) (hbig : l.length ≤ 1000000) :
    Calls Try.prog 40 #[.slice (some ⟨blk, 0, none⟩) l.length cap, .func (.func g) #[] lb] w fun e w' => e = .returned (.int .i64 (ixI p l 0)) ∧ I w' ∧ Below w.heap.size w w' := by
  have HL := Aside0.mk hl
  have HI0 := Aside0.mk hI
  have HP := Aside0.mk hp
  clear hl hI hp
  go_enter Try.func40, Try.ntmps40
  go_wp2
  go_loopg [5, 8] l.length (fun gg _ s8 wr => ∃ kk : Nat, kk ≤ l.length ∧ l.length - kk ≤ gg ∧ s8 = .int .i64 kk ∧ Aside0 (Below w.heap.size w wr) ∧ Aside0 (I wr) ∧ Aside0 (ixI p l 0 = ixI p (l.drop kk) kk))
  case atStart => exact ⟨0, Nat.zero_le _, by omega, rfl, ⟨Below.refl _ w⟩, HI0, ⟨by rw [List.drop_zero]⟩⟩
  case round =>
    obtain ⟨kk, hkk, hg, rfl, HB, HI, HX⟩ := hrel
    by_cases hlt : kk < l.length
    · have hltz : (kk : Int) < (l.length : Int) := by omega
      obtain ⟨x, hx⟩ : ∃ x, l[kk]? = some x := ⟨_, List.getElem?_eq_getElem hlt⟩
      have y0 : wr.cell? ⟨blk, kk, none⟩ = some (.int .i64 x) := (HB.out.cell (World.block_lt_of_cell? w _ (HL.out.read kk x hx))).trans (HL.out.read kk x hx)
      have hd := HX.out
      have hdr : l.drop kk = x :: l.drop (kk + 1) := by
        rw [List.drop_eq_getElem_cons hlt]
        congr 1
        exact (List.getElem?_eq_some_iff.1 hx).2
      rw [hdr] at hd
      have hcall := HP.out.call wr x (List.mem_of_getElem? hx) HI.out
      have hd2 := Aside0.mk hd
      clear hd hdr hx
      cases hq : p x with
      | true =>
        rw [hq] at hcall
        have HC := Aside0.mk hcall
        have HQ := Aside0.mk hq
        clear hcall hq
        go_wp2_with (go_at_fn g; refine HC.out.mono ?_; rintro e w' ⟨rfl, hb'⟩; have HB' := Aside0.mk hb'; clear hb')
        go_ret
        refine ⟨?_, HP.out.below _ _ HI.out HB'.out, HB.out.trans (HB'.out.mono HB.out.size)⟩
        rw [hd2.out]
        simp [ixI, HQ.out]
      | false =>
        rw [hq] at hcall
        have HC := Aside0.mk hcall
        have HQ := Aside0.mk hq
        clear hcall hq
        go_wp2_with (go_at_fn g; refine HC.out.mono ?_; rintro e w' ⟨rfl, hb'⟩; have HB' := Aside0.mk hb'; clear hb')
        go_roundg (l.length - (kk + 1))
        case measure => omega
        case rel => exact ⟨kk + 1, by omega, by omega, by go_num, ⟨HB.out.trans (HB'.out.mono HB.out.size)⟩, ⟨HP.out.below _ _ HI.out HB'.out⟩, ⟨by rw [hd2.out]; simp [ixI, HQ.out]⟩⟩
    · have hltz : ¬ (kk : Int) < (l.length : Int) := by omega
      obtain rfl : kk = l.length := by omega
      go_wp2
      go_ret
      refine ⟨?_, HI.out, HB.out⟩
      rw [HX.out, List.drop_length]
      rfl

def keepI (p : Int → Bool) (l : List Int) : List Int := l.filter (fun x => !p x)
theorem zero_i64 (w : World) : (zeroValue 3).run Try.prog w = .ok (.int .i64 0) w := by kernel_rfl
structure DfR (W wr : World) (blk cap : Nat) (p : Int → Bool) (l : List Int) (I : World → Prop) (i j : Nat) (cur : Array Value) : Prop where
  at_ : wr.heap[blk]? = some (.cells cur 3 (0, 0))
  size : cur.size = cap
  pre : ∀ (k : Nat) (x : Int), (keepI p (l.take j))[k]? = some x → cur[k]? = some (.int .i64 x)
  cnt : (keepI p (l.take j)).length = i
  post : ∀ (k : Nat) (x : Int), j ≤ k → l[k]? = some x → cur[k]? = some (.int .i64 x)
  gr : W.grownBy wr (some blk)
  inv : I wr
theorem keepI_take (p : Int → Bool) (l : List Int) (j : Nat) (x : Int) (hx : l[j]? = some x) : keepI p (l.take (j + 1)) = keepI p (l.take j) ++ (if p x = true then [] else [x]) := by
  unfold keepI
  have e : l.take (j + 1) = l.take j ++ [x] := by
    obtain ⟨hj, he⟩ := List.getElem?_eq_some_iff.1 hx
    rw [List.take_succ_eq_append_getElem hj, he]
  rw [e, List.filter_append]
  congr 1
  cases h : p x <;> simp [h]
theorem grown_below_at {W wr w' : World} {blk : Nat} (h : W.grownBy wr (some blk)) (hb : Below wr.heap.size wr w') : W.grownBy w' (some blk) :=
  ⟨hb.os.trans h.os, hb.tape.trans h.tape, hb.output.trans h.output, Nat.le_trans h.size hb.size, fun k hk hn => (hb.block k (Nat.lt_of_lt_of_le hk h.size)).trans (h.block k hk hn)⟩
theorem grown_set_at {W wr : World} {blk : Nat} (h : W.grownBy wr (some blk)) (k : Nat) (v : Value) : W.grownBy (wr.setCell ⟨blk, k, none⟩ v) (some blk) :=
  ⟨h.os, h.tape, h.output, by simpa using h.size, fun j hj hn => (Below.heap_setCell wr ⟨blk, k, none⟩ v j (fun e => hn (by rw [e]))).trans (h.block j hj hn)⟩
theorem DfR.below {W wr w' : World} {blk cap : Nat} {p : Int → Bool} {l : List Int} {I : World → Prop} {i j : Nat} {cur : Array Value} (h : DfR W wr blk cap p l I i j cur) (hI : I w') (hb : Below wr.heap.size wr w') : DfR W w' blk cap p l I i j cur :=
  { h with at_ := blk_below h.at_ hb, gr := grown_below_at h.gr hb, inv := hI }
theorem DfR.skip {W wr : World} {blk cap : Nat} {p : Int → Bool} {l : List Int} {I : World → Prop} {i j : Nat} {cur : Array Value} (h : DfR W wr blk cap p l I i j cur) {x : Int} (hx : l[j]? = some x) (hp : p x = true) : DfR W wr blk cap p l I i (j + 1) cur := by
  have e := keepI_take p l j x hx
  rw [if_pos hp, List.append_nil] at e
  exact { h with pre := by rw [e]; exact h.pre, cnt := by rw [e]; exact h.cnt, post := fun k y hk hy => h.post k y (by omega) hy }
theorem DfR.put {W wr : World} {blk cap : Nat} {p : Int → Bool} {l : List Int} {I : World → Prop} {i j : Nat} {cur : Array Value} (h : DfR W wr blk cap p l I i j cur) (hI : ∀ (W : World) (k : Nat) (v : Value), I W → I (W.setCell ⟨blk, k, none⟩ v)) {x : Int} (hx : l[j]? = some x) (hp : p x = false) (hij : i ≤ j) (hc : i < cap) :
    DfR W (wr.setCell ⟨blk, i, none⟩ (.int .i64 x)) blk cap p l I (i + 1) (j + 1) (cur.setIfInBounds i (.int .i64 x)) := by
  have e := keepI_take p l j x hx
  rw [if_neg (by rw [hp]; decide)] at e
  have hs := h.size
  have hcnt := h.cnt
  refine ⟨blk_put h.at_ i _ rfl, by simp [h.size], fun k y hk => ?_, by rw [e, List.length_append, h.cnt]; rfl, fun k y hk hy => ?_, grown_set_at h.gr i _, hI _ _ _ h.inv⟩
  · rw [e, List.getElem?_append] at hk
    by_cases hki : k < (keepI p (l.take j)).length
    · rw [if_pos hki] at hk
      rw [Array.getElem?_setIfInBounds_ne (by omega)]
      exact h.pre k y hk
    · rw [if_neg hki, hcnt] at hk
      have hk0 : k = i := by
        obtain ⟨h1, _⟩ := List.getElem?_eq_some_iff.1 hk
        simp at h1
        omega
      subst hk0
      rw [Nat.sub_self] at hk
      have hxy : x = y := by simpa using hk
      subst hxy
      rw [Array.getElem?_setIfInBounds_self_of_lt (by omega)]
  · rw [Array.getElem?_setIfInBounds_ne (by omega)]
    exact h.post k y (by omega) hy
set_option maxHeartbeats 4000000 in
set_option maxRecDepth 100000 in
theorem delfuncI (p : Int → Bool) (g : Nat) (lb : Array Value) (eg : ∀ args w, (callFunc g args).run Try.prog w = .ok (.enter g args) w) (I : World → Prop) (blk cap : Nat) (l : List Int) (cur : Array Value) (w : World)
    (hp : PredI g lb p I blk l) (hI : I w) (hl : IntB w blk cap l cur) (hbig : l.length ≤ 1000000) :
    Calls Try.prog 28 #[.slice (some ⟨blk, 0, none⟩) l.length cap, .func (.func g) #[] lb] w fun e w' => e = .returned (.slice (some ⟨blk, 0, none⟩) (keepI p l).length cap) ∧ w.grownBy w' (some blk) ∧ ∃ cur', IntB w' blk cap (keepI p l) cur' := by
  have HC0 := Aside0.mk (ixfuncI p g lb eg I blk cap l cur w hp hI hl hbig)
  have HL := Aside0.mk hl
  have HP := Aside0.mk hp
  rcases ixI_spec p l 0 with ⟨hix, hk⟩ | ⟨i0, x0, hix, hx0, hpx0, hk⟩
  · rw [hix] at HC0
    rw [show keepI p l = l from hk]
    clear hl hI hp hix hk
    go_enter Try.func28, Try.ntmps28
    go_wp2_with (go_at_call 40; refine HC0.out.mono ?_; rintro e w1 ⟨rfl, hi, hb⟩; have HB := Aside0.mk hb; clear hi hb)
    go_ret
    exact ⟨rfl, grown_below_at ⟨rfl, rfl, rfl, Nat.le_refl _, fun _ _ _ => rfl⟩ HB.out, cur, HL.out.below HB.out⟩
  · rw [hix, Nat.zero_add] at HC0
    have hi0 := (List.getElem?_eq_some_iff.1 hx0).1
    have t1 : ((i0 : Int) == -1) = false := beq_eq_false_iff_ne.mpr (by omega)
    have t2 : decide ((i0 : Int) = -1) = false := decide_eq_false (by omega)
    have hwk0 : IntKind.i64.wrap ((i0 : Int) + 1) = (i0 : Int) + 1 := IntWalk.i64_in _ (by omega)
    have HK := Aside0.mk hk
    have HX0 := Aside0.mk (And.intro hx0 hpx0)
    clear hl hI hp hix hk hx0 hpx0
    go_enter Try.func28, Try.ntmps28
    go_upto_region 4 with (go_at_call 40; refine HC0.out.mono ?_; rintro e w1 ⟨rfl, hi, hb⟩; have HB := Aside0.mk hb; have HI1 := Aside0.mk hi; clear hi hb)
    have HD : Aside0 (DfR w w1 blk cap p l I i0 (i0 + 1) cur) := ⟨by
      have h0 : DfR w w1 blk cap p l I i0 i0 cur := ⟨blk_below HL.out.at_ HB.out, HL.out.size, fun k x hx => HL.out.val k x (by
          rw [show keepI p (l.take i0) = l.take i0 from HK.out] at hx
          rw [List.getElem?_take] at hx
          split at hx
          · exact hx
          · cases hx), by rw [show keepI p (l.take i0) = l.take i0 from HK.out, List.length_take]; omega, fun k x _ hx => HL.out.val k x hx, grown_below_at ⟨rfl, rfl, rfl, Nat.le_refl _, fun _ _ _ => rfl⟩ HB.out, HI1.out⟩
      exact h0.skip HX0.out.1 HX0.out.2⟩
    clear HC0 HK HX0 HB HI1
    go_wp2
    go_loopg [5, 6, 7] (l.length - (i0 + 1)) (fun gg s5 s6 s7 wr => ∃ (i j : Nat) (cur : Array Value), i < j ∧ j ≤ l.length ∧ l.length - j ≤ gg ∧ s5 = .int .i64 i ∧ s6 = .int .i64 j ∧ Aside0 (DfR w wr blk cap p l I i j cur))
    case atStart => exact ⟨i0, i0 + 1, cur, by omega, by omega, by omega, rfl, by go_num, HD⟩
    case round =>
      clear HD
      obtain ⟨i, j, cur, hij, hj, hg, rfl, rfl, HD⟩ := hrel
      by_cases hlt : j < l.length
      · have hltz : (j : Int) < (l.length : Int) := by omega
        obtain ⟨x, hx⟩ : ∃ x, l[j]? = some x := ⟨_, List.getElem?_eq_getElem hlt⟩
        have y0 : wr.cell? ⟨blk, j, none⟩ = some (.int .i64 x) := (blk_cell HD.out.at_ j).trans (HD.out.post j x (Nat.le_refl _) hx)
        have hcall := HP.out.call wr x (List.mem_of_getElem? hx) HD.out.inv
        have HX := Aside0.mk hx
        have hwk : IntKind.i64.wrap ((j : Int) + 1) = (j : Int) + 1 := IntWalk.i64_in _ (by omega)
        have hwi : IntKind.i64.wrap ((i : Int) + 1) = (i : Int) + 1 := IntWalk.i64_in _ (by omega)
        clear hx
        cases hq : p x with
        | true =>
          rw [hq] at hcall
          have HC := Aside0.mk hcall
          have HQ := Aside0.mk hq
          clear hcall hq
          go_wp2_with (go_at_fn g; refine HC.out.mono ?_; rintro e w' ⟨rfl, hb'⟩; have HB' := Aside0.mk hb'; clear hb')
          go_roundg (l.length - (j + 1))
          case measure => omega
          case rel => exact ⟨i, j + 1, cur, by omega, by omega, by omega, rfl, by go_num, ⟨(HD.out.below (HP.out.below _ _ HD.out.inv HB'.out) HB'.out).skip HX.out HQ.out⟩⟩
        | false =>
          rw [hq] at hcall
          have HC := Aside0.mk hcall
          have HQ := Aside0.mk hq
          clear hcall hq
          go_upto_region 9 with (go_at_fn g; refine HC.out.mono ?_; rintro e w' ⟨rfl, hb'⟩; have HB' := Aside0.mk hb'; clear hb')
          replace HD := Aside0.mk (HD.out.below (HP.out.below _ _ HD.out.inv HB'.out) HB'.out)
          clear y0
          have hcs := HD.out.size
          have hlc := HL.out.len
          obtain ⟨u, hu⟩ : ∃ u, cur[i]? = some u := ⟨_, Array.getElem?_eq_getElem (by omega)⟩
          have y1 : w'.cell? ⟨blk, i, none⟩ = some u := (blk_cell HD.out.at_ i).trans hu
          have y2 : w'.frozen? ⟨blk, i, none⟩ = false := blk_frozen HD.out.at_ i
          have hic : i < cap := by omega
          have hin : (i : Int) < (l.length : Int) := by omega
          clear hu hcs
          go_wp2
          go_roundg (l.length - (j + 1))
          case measure => omega
          case rel => exact ⟨i + 1, j + 1, _, by omega, by omega, by omega, by go_num, by go_num, ⟨HD.out.put HP.out.set HX.out HQ.out (by omega) hic⟩⟩
      · have hltz : ¬ (j : Int) < (l.length : Int) := by omega
        obtain rfl : j = l.length := by omega
        have hcs := HD.out.size
        have hlc := HL.out.len
        have hcl : ∀ ty, (Builtin.clear_ #[27] ty #[.slice (some ⟨blk, i, none⟩) (l.length - i) (cap - i)]).run Try.prog wr = .ok (.tuple #[]) (wr.setCells blk i (List.replicate (l.length - i) (.int .i64 0))) :=
          fun ty => Lib.run_clear_slice wr _ _ ty _ Try.underlying27 zero_i64 rfl rfl blk i _ _ (by omega) (fun t ht => by
            rw [blk_cell HD.out.at_ (i + t), Array.getElem?_eq_getElem (by omega)]; rfl) (fun t ht => blk_frozen HD.out.at_ (i + t))
        have hci : ¬ cap = i := by omega
        have hci2 : ¬ i = cap := by omega
        have hil : i ≤ l.length := by omega
        have hic : i ≤ cap := by omega
        have hil2 : (i : Int) ≤ (l.length : Int) := by omega
        have hic2 : (i : Int) ≤ (cap : Int) := by omega
        have hlc2 : (l.length : Int) ≤ (cap : Int) := by omega
        go_wp2
        go_ret
        have hcnt := HD.out.cnt
        rw [List.take_length] at hcnt
        obtain ⟨cur2, h1, h2, h3⟩ := setCells_row (List.replicate (l.length - i) (.int .i64 0)) i wr cur HD.out.at_ (by rw [List.length_replicate]; omega)
        obtain ⟨m1, m2, m3, m4⟩ := setCells_same blk (List.replicate (l.length - i) (.int .i64 0)) i wr
        refine ⟨by rw [hcnt]; rfl, ⟨m1.trans HD.out.gr.os, m2.trans HD.out.gr.tape, m3.trans HD.out.gr.output, by rw [m4]; exact HD.out.gr.size, fun k hk hn => (setCells_far _ _ k (fun e => hn (by rw [e]))).trans (HD.out.gr.block k hk hn)⟩, cur2, h1, h2.trans hcs, by rw [hcnt]; omega, HL.out.cap1, fun k x hk => ?_⟩
        have hki : k < i := by
          have := (List.getElem?_eq_some_iff.1 hk).1
          omega
        have hp2 := HD.out.pre k x (by rw [List.take_length]; exact hk)
        rw [← Array.getElem?_toList, h3, List.append_assoc, List.getElem?_append_left (by rw [List.length_take, Array.length_toList]; omega), List.getElem?_take, if_pos hki, Array.getElem?_toList]
        exact hp2

/-! ### the bag: Ready -/
def bagReady2.T : Bool × List (List Nat × List Nat) := (true, [([], []), ([0], [0]), ([1], [1]), ([2], [2]), ([], []), ([4], [4]), ([], []), ([6], [6]), ([5, 7], [5, 7]), ([3, 8], [3, 8]), ([9, 8, 0, 1, 2, 3, 4, 5, 6, 7, 8, 9], [9])])
def bagReady2.B : List Nat := [0, 1, 3, 7, 0, 16, 0, 64, 240, 511, 1023]
theorem bagReady2.tab : rtab .any (opsOf Try.f29 2) = bagReady2.T := by kernel_rfl
theorem bagReady2.bits : waitsOk bagReady2.T.2 bagReady2.B = true := by kernel_rfl
def apM (s : Bg) (id : Int) : Bool := s.cuts.contains (ofP ((findM s.l id).getD noMail).fr ((findM s.l id).getD noMail).too)
theorem IsBg.lookAt {w W : World} {g mb cb n : Nat} {s : Bg} (h : IsBg w W g mb cb n s) (id : Int) (hid : (Lit.int .i64 id).wf = true) :
    (Instr.lookup 58 (.map (some mb)) (.int .i64 id) false).run Try.prog W = .ok (mailV ((findM s.l id).getD noMail)) W := by
  obtain ⟨D, hown, hA⟩ := h.map
  obtain ⟨v, ps, hrun, hv⟩ := hown.lookup (Maps.int_keyed Try.underlying3) Try.underlying58 (zero_mail W) (mailE_mk noMail) (Maps.keyOf_int_mk Try.underlying3 hid)
  rw [hrun]
  obtain ⟨m, rfl, hm⟩ := mailE_inv hv
  have hm1 := (Prod.mk.inj hm).1
  have hh := hA.has id
  cases hf : findM s.l id with
  | none =>
    rw [hf] at hh
    rw [Maps.atKey_of_not_has hh] at hm1
    rw [mailD_inj hm1]; rfl
  | some k =>
    rw [hA.at_ id k hf] at hm1
    rw [mailD_inj hm1]; rfl
set_option maxHeartbeats 4000000 in
set_option maxRecDepth 100000 in
theorem bag_ready1 {w W : World} {g mb cb n : Nat} {s : Bg} (h : IsBg w W g mb cb n s) (gp : Nat) (hp : W.heap[gp]? = some (.cells #[.pointer (some ⟨g, 0, none⟩)] 23 (0, 0))) (id : Int) (hid : (Lit.int .i64 id).wf = true) :
    Calls Try.prog 29 #[.int .i64 id, .pointer (some ⟨gp, 0, none⟩)] W fun e W' => e = .returned (.bool (apM s id)) ∧ Below W.heap.size W W' := by
  unfold apM
  have hlk := h.lookAt id hid
  have hM : Adr ((findM s.l id).getD noMail).fr ∧ Adr ((findM s.l id).getD noMail).too ∧ True := by
    cases hf : findM s.l id with
    | none => exact ⟨⟨by decide, by decide⟩, ⟨by decide, by decide⟩, trivial⟩
    | some k => have := (h.ids k (findM_some hf).1).2.2; exact ⟨this.1, this.2.1, trivial⟩
  generalize (findM s.l id).getD noMail = m at hlk hM ⊢
  unfold mailV at hlk
  have HM := Aside0.mk hM
  have HS := Aside0.mk h
  obtain ⟨b, hb⟩ : ∃ b, s.cuts.contains (ofP m.fr m.too) = b := ⟨_, rfl⟩
  have HC := Aside0.mk hb
  rw [hb]
  have HP := Aside0.mk hp
  have p0 : W.cell? ⟨gp, 0, none⟩ = some (.pointer (some ⟨g, 0, none⟩)) := (blk_cell hp 0).trans rfl
  obtain ⟨c0, c1, c2, f1⟩ := h.cells
  clear h hM hb hp
  go_enter Try.func29, Try.ntmps29
  go_upto_region 2 with (fail)
  clear p0 c0 c1 c2 f1 hlk
  have HB := Aside0.mk ((Bx.start W).push #[.int .i64 m.id, .int .i64 m.fr, .int .i64 m.too, .string m.t] 34)
  replace HS := Aside0.mk (HS.out.below (below_alloc (Below.refl _ _) (.cells #[.int .i64 m.id, .int .i64 m.fr, .int .i64 m.too, .string m.t] 34)))
  replace HP := Aside0.mk (blk_alloc HP.out (.cells #[.int .i64 m.id, .int .i64 m.fr, .int .i64 m.too, .string m.t] 34))
  generalize W.alloc (.cells #[.int .i64 m.id, .int .i64 m.fr, .int .i64 m.too, .string m.t] 34) = W1 at HB HS HP ⊢
  generalize W.heap.size = g4 at HB ⊢
  replace HS := Aside0.mk (HS.out.below (below_drew1 (Below.refl _ _)))
  replace HB := Aside0.mk (HB.out.below (below_drew1 (Below.refl _ _)))
  replace HP := Aside0.mk (blk_below HP.out (below_drew1 (Below.refl _ _)))
  obtain ⟨c0, c1, c2, f1⟩ := HS.out.cells
  have p0 : World.cell? _ ⟨gp, 0, none⟩ = some (.pointer (some ⟨g, 0, none⟩)) := (blk_cell HP.out 0).trans rfl
  have y1 : World.cell? _ ⟨g4, 1, none⟩ = some (.int .i64 m.fr) := (blk_cell (HB.out.get 0 rfl) 1).trans rfl
  have y2 : World.cell? _ ⟨g4, 2, none⟩ = some (.int .i64 m.too) := (blk_cell (HB.out.get 0 rfl) 2).trans rfl
  refine start_ (n := 11) (S := fun w' => w'.cell? ⟨gp, 0, none⟩ = some (.pointer (some ⟨g, 0, none⟩)) ∧ w'.cell? ⟨g, 2, none⟩ = some (.map (some cb)) ∧ w'.cell? ⟨g4, 1, none⟩ = some (.int .i64 m.fr) ∧ w'.cell? ⟨g4, 2, none⟩ = some (.int .i64 m.too)) (ds := []) #[false, false, false, false, false, false, false, false, false, false, false] (by kernel_rfl) rfl rfl ⟨p0, c2, y1, y2⟩ (fun hHeld => ?_); refine with_tabW bagReady2.tab bagReady2.bits (fun HT_ HW_ => ?_)
  refine take_ (i := 0) (N := some 11) (v := ?_) (a' := ?_) #[true, false, false, false, false, false, false, false, false, false, false] rfl rfl (take_ofW HT_.out HW_.out (by kernel_rfl)) (fun _ _ _ h => h) (Or.inl ⟨by rfl, ?_⟩) hHeld ?_ ?_
  rotate_left
  · rintro w' ⟨s0, s1, s2, s3⟩
    go_simp
    with_reducible rfl
  rotate_left
  · simp only [Act.put, List.setIfInBounds_toArray, List.set_cons_zero, List.set_cons_succ, i64_w, i32_w]
    rfl
  refine pure_ (i := 1) (N := some 12) (v := ?_) (a' := ?_) #[true, true, false, false, false, false, false, false, false, false, false] rfl rfl (any_of HT_.out (by kernel_rfl)) (fun _ _ _ h => h) (Or.inl ⟨by rfl, ?_⟩) ?_ ?_
  rotate_left
  · intro w'
    go_simp
    with_reducible rfl
  rotate_left
  · simp only [Act.put, List.setIfInBounds_toArray, List.set_cons_zero, List.set_cons_succ, i64_w, i32_w]
    rfl
  refine pure_ (i := 2) (N := some 13) (v := ?_) (a' := ?_) #[true, true, true, false, false, false, false, false, false, false, false] rfl rfl (any_of HT_.out (by kernel_rfl)) (fun _ _ _ h => h) (Or.inl ⟨by rfl, ?_⟩) ?_ ?_
  rotate_left
  · intro w'
    go_simp
    with_reducible rfl
  rotate_left
  · simp only [Act.put, List.setIfInBounds_toArray, List.set_cons_zero, List.set_cons_succ, i64_w, i32_w]
    rfl
  refine take_ (i := 3) (N := some 14) (v := ?_) (a' := ?_) #[true, true, true, true, false, false, false, false, false, false, false] rfl rfl (take_ofW HT_.out HW_.out (by kernel_rfl)) (fun _ _ _ h => h) (Or.inl ⟨by rfl, ?_⟩) hHeld ?_ ?_
  rotate_left
  · rintro w' ⟨s0, s1, s2, s3⟩
    go_simp
    with_reducible rfl
  rotate_left
  · simp only [Act.put, List.setIfInBounds_toArray, List.set_cons_zero, List.set_cons_succ, i64_w, i32_w]
    rfl
  refine pure_ (i := 4) (N := some 15) (v := ?_) (a' := ?_) #[true, true, true, true, true, false, false, false, false, false, false] rfl rfl (any_of HT_.out (by kernel_rfl)) (fun _ _ _ h => h) (Or.inl ⟨by rfl, ?_⟩) ?_ ?_
  rotate_left
  · intro w'
    go_simp
    with_reducible rfl
  rotate_left
  · simp only [Act.put, List.setIfInBounds_toArray, List.set_cons_zero, List.set_cons_succ, i64_w, i32_w]
    rfl
  refine take_ (i := 5) (N := some 16) (v := ?_) (a' := ?_) #[true, true, true, true, true, true, false, false, false, false, false] rfl rfl (take_ofW HT_.out HW_.out (by kernel_rfl)) (fun _ _ _ h => h) (Or.inl ⟨by rfl, ?_⟩) hHeld ?_ ?_
  rotate_left
  · rintro w' ⟨s0, s1, s2, s3⟩
    go_simp
    with_reducible rfl
  rotate_left
  · simp only [Act.put, List.setIfInBounds_toArray, List.set_cons_zero, List.set_cons_succ, i64_w, i32_w]
    rfl
  refine pure_ (i := 6) (N := some 17) (v := ?_) (a' := ?_) #[true, true, true, true, true, true, true, false, false, false, false] rfl rfl (any_of HT_.out (by kernel_rfl)) (fun _ _ _ h => h) (Or.inl ⟨by rfl, ?_⟩) ?_ ?_
  rotate_left
  · intro w'
    go_simp
    with_reducible rfl
  rotate_left
  · simp only [Act.put, List.setIfInBounds_toArray, List.set_cons_zero, List.set_cons_succ, i64_w, i32_w]
    rfl
  refine take_ (i := 7) (N := some 18) (v := ?_) (a' := ?_) #[true, true, true, true, true, true, true, true, false, false, false] rfl rfl (take_ofW HT_.out HW_.out (by kernel_rfl)) (fun _ _ _ h => h) (Or.inl ⟨by rfl, ?_⟩) hHeld ?_ ?_
  rotate_left
  · rintro w' ⟨s0, s1, s2, s3⟩
    go_simp
    with_reducible rfl
  rotate_left
  · simp only [Act.put, List.setIfInBounds_toArray, List.set_cons_zero, List.set_cons_succ, i64_w, i32_w]
    rfl
  refine one_ (i := 8) (N := some 19) #[true, true, true, true, true, true, true, true, true, false, false] rfl rfl (one_of HT_.out (by kernel_rfl)) (by decide) (fun K hK => ?_)
  refine goes_ Try.func25 (by kernel_rfl) rfl #[.int .i64 m.fr, .int .i64 m.too] (by rfl) rfl rfl (by (try simp only [List.map_toArray, List.map_cons, List.map_nil]); first | done | rfl) ?_
  with_reducible refine (bag_of m.fr m.too _).mono ?_
  rintro e w6 ⟨rfl, hb⟩
  refine ⟨_, rfl, ?_⟩
  replace HS := Aside0.mk (HS.out.below hb)
  replace HB := Aside0.mk (HB.out.below hb)
  refine hK.out _ _ ⟨cell_below hb (hHeld.1), cell_below hb (hHeld.2.1), cell_below hb (hHeld.2.2.1), cell_below hb (hHeld.2.2.2)⟩ (fun hHeld => ?_)
  clear hK K hb
  refine norm_ (a' := ?_) ?_ ?_
  rotate_left
  · show Act.put _ (some 19) _ = _
    simp only [Act.put, List.setIfInBounds_toArray, List.set_cons_zero, List.set_cons_succ, i64_w, i32_w]
    rfl
  refine one_ (i := 9) (N := some 20) #[true, true, true, true, true, true, true, true, true, true, false] rfl rfl (one_of HT_.out (by kernel_rfl)) (by decide) (fun K hK => ?_)
  have hcut := HS.out.cutAt HM.out.1 HM.out.2.1
  rw [HC.out] at hcut
  refine look_ _ _ _ _ (by rfl) rfl rfl _ _ _ rfl rfl hcut ?_
  refine hK.out _ _ hHeld (fun hHeld => ?_)
  clear hK K hcut
  refine norm_ (a' := ?_) ?_ ?_
  rotate_left
  · show Act.put _ (some 20) _ = _
    simp only [Act.put, List.setIfInBounds_toArray, List.set_cons_zero, List.set_cons_succ, i64_w, i32_w]
    rfl
  refine pure_ (i := 10) (N := some 3) (v := ?_) (a' := ?_) #[true, true, true, true, true, true, true, true, true, true, true] rfl rfl (any_of HT_.out (by kernel_rfl)) (fun _ _ _ h => h) (Or.inl ⟨by rfl, ?_⟩) ?_ ?_
  rotate_left
  · intro w'
    go_simp
    with_reducible rfl
  rotate_left
  · simp only [Act.put, List.setIfInBounds_toArray, List.set_cons_zero, List.set_cons_succ, i64_w, i32_w]
    rfl
  refine done_ (done_of HT_.out (by kernel_rfl)) ?_
  clear HT_ HW_ hHeld
  go_wp2
  go_ret
  exact ⟨rfl, HB.out.bel⟩
section
open Go.Maps Go.Sort
theorem R_of_B {W : World} {base blk cap : Nat} {l : List Int} {cur : Array Value} (h : IntB W blk cap l cur) (hb : base ≤ blk) : Kd.R (Kd.int .i64) 3 W base (fun _ => True) (.slice (some ⟨blk, 0, none⟩) l.length cap) l := by
  refine R_ints rfl ⟨by simp, Or.inr ⟨blk, cap, cur, rfl, hb, h.at_, h.len, h.cap1, by rw [h.size, Nat.mul_one], ?_⟩⟩
  rw [Nat.mul_one]
  refine List.ext_getElem? (fun k => ?_)
  have hl := h.len
  have hs := h.size
  by_cases hk : k < l.length
  · rw [List.getElem?_take, if_pos hk, Array.getElem?_toList, h.val k _ (List.getElem?_eq_getElem hk), List.getElem?_map, List.getElem?_eq_getElem hk]; rfl
  · rw [List.getElem?_eq_none (by rw [List.length_take]; omega), List.getElem?_eq_none (by rw [List.length_map]; omega)]
theorem B_of_row {W : World} {base : Nat} {v : Value} {l : List Int} (h : W.ownsRow base 3 1 v l.length (l.map encZ)) : (v = .slice none 0 0 ∧ l = []) ∨ ∃ blk cap cur, v = .slice (some ⟨blk, 0, none⟩) l.length cap ∧ base ≤ blk ∧ IntB W blk cap l cur := by
  obtain ⟨_, ⟨h1, h2⟩ | ⟨blk, cap, cur, h1, h2, h3, h4, h5, h6, h7⟩⟩ := h
  · exact Or.inl ⟨h1, List.eq_nil_of_length_eq_zero h2⟩
  · refine Or.inr ⟨blk, cap, cur, h1, h2, h3, by rw [h6, Nat.mul_one], h4, h5, fun k x hx => ?_⟩
    obtain ⟨hk, _⟩ := List.getElem?_eq_some_iff.1 hx
    have h8 : (cur.toList.take (l.length * 1))[k]? = some (.int .i64 x) := by rw [h7, List.getElem?_map, hx]; rfl
    rw [List.getElem?_take, if_pos (by omega), Array.getElem?_toList] at h8
    exact h8
end
set_option maxRecDepth 100000 in
theorem ixfunc_nil (g : Nat) (lb : Array Value) (w : World) : Calls Try.prog 40 #[.slice none 0 0, .func (.func g) #[] lb] w fun e w' => e = .returned (.int .i64 (-1)) ∧ w = w' := by
  go_enter Try.func40, Try.ntmps40
  go_wp2
  go_loopg [5, 8] 0 (fun gg _ s8 wr => s8 = .int .i64 0 ∧ w = wr)
  case atStart => exact ⟨rfl, rfl⟩
  case round =>
    obtain ⟨rfl, rfl⟩ := hrel
    go_wp2
    go_ret
    exact ⟨rfl, rfl⟩
set_option maxRecDepth 100000 in
theorem delfunc_nil (g : Nat) (lb : Array Value) (w : World) : Calls Try.prog 28 #[.slice none 0 0, .func (.func g) #[] lb] w fun e w' => e = .returned (.slice none 0 0) ∧ w = w' := by
  have HC0 := Aside0.mk (ixfunc_nil g lb w)
  go_enter Try.func28, Try.ntmps28
  go_wp2_with (go_at_call 40; refine HC0.out.mono ?_; rintro e w1 ⟨rfl, rfl⟩)
  go_ret
  exact ⟨rfl, rfl⟩
def readyL (s : Bg) : List Int := keepI (apM s) (idsL s.l)
set_option maxRecDepth 100000 in
theorem bag_ready_nil (W : World) :
    Calls Try.prog 18 #[.pointer none] W fun e W' => e = .returned (.slice none 0 0) ∧ Below W.heap.size W W' := by
  have HX := Aside0.mk (blk_new W (.cells #[.pointer none] 23))
  have HB := Aside0.mk (below_alloc (Below.refl W.heap.size W) (.cells #[.pointer none] 23))
  go_enter Try.func18, Try.ntmps18
  go_upto_region 1 with (fail)
  generalize W.alloc (.cells #[.pointer none] 23) = W1 at HX HB ⊢
  obtain ⟨gp, hgp⟩ : ∃ gp, gp = W.heap.size := ⟨_, rfl⟩
  rw [← hgp] at HX ⊢
  clear hgp
  have p0 : W1.cell? ⟨gp, 0, none⟩ = some (.pointer none) := (blk_cell HX.out 0).trans rfl
  have HC := Aside0.mk (delfunc_nil 29 #[.pointer (some ⟨gp, 0, none⟩)] W1)
  have HI := Aside0.mk (bag_ids_nil W1)
  go_wp2_with (first | (go_at_call 15; refine HI.out.mono ?_; rintro e w1 ⟨rfl, rfl⟩) | (go_at_call 28; refine HC.out.mono ?_; rintro e w1 ⟨rfl, rfl⟩))
  go_ret
  exact ⟨rfl, HB.out⟩
set_option maxHeartbeats 4000000 in
set_option maxRecDepth 100000 in
theorem bag_ready {w W : World} {g mb cb n : Nat} {s : Bg} (h : IsBg w W g mb cb n s) (hn : n ≤ 1000000) :
    Calls Try.prog 18 #[.pointer (some ⟨g, 0, none⟩)] W fun e W' => ∃ v, e = .returned v ∧ Kd.R (Kd.int .i64) 3 W' W.heap.size (fun _ => True) v (readyL s) ∧ Below W.heap.size W W' := by
  unfold readyL
  have hb0 := below_alloc (Below.refl W.heap.size W) (.cells #[.pointer (some ⟨g, 0, none⟩)] 23)
  have HS := Aside0.mk (h.below hb0)
  have HX := Aside0.mk (blk_new W (.cells #[.pointer (some ⟨g, 0, none⟩)] 23))
  have HB := Aside0.mk hb0
  have HZ := Aside0.mk (alloc_size W (.cells #[.pointer (some ⟨g, 0, none⟩)] 23))
  have HN := Aside0.mk hn
  have HI := Aside0.mk (bag_idsW (h.below hb0) hn)
  have HW := Aside0.mk h.bel.size
  clear h hb0 hn
  go_enter Try.func18, Try.ntmps18
  go_upto_region 1 with (fail)
  have eg : ∀ args w, (callFunc 29 args).run Try.prog w = .ok (.enter 29 args) w := enters_of Try.func29 (by kernel_rfl) rfl
  have HE := Aside0.mk eg
  clear eg
  generalize W.alloc (.cells #[.pointer (some ⟨g, 0, none⟩)] 23) = W1 at HS HX HB HI HZ ⊢
  obtain ⟨gp, hgp⟩ : ∃ gp, gp = W.heap.size := ⟨_, rfl⟩
  rw [← hgp] at HX HZ ⊢
  have HGp := Aside0.mk (Nat.le_of_eq hgp.symm)
  clear hgp
  have p0 : W1.cell? ⟨gp, 0, none⟩ = some (.pointer (some ⟨g, 0, none⟩)) := (blk_cell HX.out 0).trans rfl
  have HD : ∀ (W2 : World) (v : Value), W2.ownsRow W1.heap.size 3 1 v (idsL s.l).length ((idsL s.l).map (Value.int .i64)) → Below W1.heap.size W1 W2 → Calls Try.prog 28 #[v, .func (.func 29) #[] #[.pointer (some ⟨gp, 0, none⟩)]] W2 fun e W' => ∃ v', e = .returned v' ∧ Kd.R (Kd.int .i64) 3 W' W.heap.size (fun _ => True) v' (keepI (apM s) (idsL s.l)) ∧ Below W.heap.size W W' := by
    intro W2 v hr hb
    have hz := HB.out.size
    rcases B_of_row hr with ⟨rfl, hl⟩ | ⟨blk, cap, cur, rfl, hbl, hB⟩
    · refine (delfunc_nil _ _ _).mono ?_
      rintro e W' ⟨rfl, rfl⟩
      rw [hl]
      exact ⟨_, rfl, Kd.R_nil _ _ _ _ _, HB.out.trans (hb.mono hz)⟩
    · have hlt := HS.out.lts
      have hgx := blk_lt HX.out
      have hw := HW.out
      refine (delfuncI (apM s) _ _ HE.out (fun W => IsBg w W g mb cb n s ∧ W.heap[gp]? = some (.cells #[.pointer (some ⟨g, 0, none⟩)] 23 (0, 0))) blk cap (idsL s.l) cur W2 ⟨fun W x hx hI => ?_, fun W W' hI hb => ⟨hI.1.below hb, blk_below hI.2 hb⟩, fun W k v hI => ⟨hI.1.setFar (by omega) ⟨by omega, by omega, by omega⟩ k v, blk_far (p := ⟨blk, k, none⟩) hI.2 (by show gp ≠ blk; omega) v⟩⟩ ⟨HS.out.below hb, blk_below HX.out hb⟩ hB ?_).mono ?_
      · obtain ⟨m, hm, rfl⟩ := List.mem_map.1 hx
        have hi := hI.1.ids m hm
        have hl := hI.1.lst
        have hn := HN.out
        exact bag_ready1 hI.1 gp hI.2 _ (wf_of (by omega))
      · have := HS.out.len
        unfold idsL; rw [List.length_map]; omega
      · rintro e W' ⟨rfl, hg, cur', hB'⟩
        exact ⟨_, rfl, R_of_B hB' (by omega), grown_below (by omega) (HB.out.trans (hb.mono hz)) hg⟩
  have HD' := Aside0.mk HD
  clear HD
  go_wp2_with (first | (go_at_call 15; refine HI.out.mono ?_; rintro e w1 ⟨v, rfl, hr, hb⟩; have HD2 := Aside0.mk (HD'.out w1 v hr hb); clear hr hb) | (go_at_call 28; refine HD2.out.mono ?_; rintro e w2 ⟨v', rfl, hr, hb⟩; have HR := Aside0.mk hr; have HB2 := Aside0.mk hb; clear hr hb))
  go_ret
  exact ⟨_, rfl, HR.out, HB2.out⟩

/-! ### two mails are the same -/
def eqMl (a b : Ml) : Bool := a.id == b.id && (a.fr == b.fr && (a.too == b.too && (a.t.toList == b.t.toList)))
theorem eqMail (d : Nat) (w : World) (a b : Ml) : (Op.equalIn (d + 2) 34 (.agg #[.int .i64 a.id, .int .i64 a.fr, .int .i64 a.too, .string a.t]) (.agg #[.int .i64 b.id, .int .i64 b.fr, .int .i64 b.too, .string b.t])).run Try.prog w = .ok (eqMl a b) w := by
  refine eqA_of Try.underlying34 (by kernel_rfl) ?_
  refine eqf_cons (by rfl) (by go_simp; rfl) (by go_simp; rfl) (by go_simp) ?_
  refine eqf_cons (by rfl) (by go_simp; rfl) (by go_simp; rfl) (by go_simp) ?_
  refine eqf_cons (by rfl) (by go_simp; rfl) (by go_simp; rfl) (by go_simp) ?_
  exact eqf_last (by rfl) (by go_simp; rfl) (by go_simp; rfl) (by go_simp)
theorem eqMl_self (a : Ml) : eqMl a a = true := by simp [eqMl]

/-! ### the bag, a row of texts and a row of numbers at once -/
abbrev encS : ByteArray → Value := Value.string
abbrev encN : Int → Value := Value.int .i64
theorem row_step {W W' : World} {base : Nat} {e : TypeId} {v : Value} {n : Nat} {xs : List Value} (h : W.ownsRow base e 1 v n xs) (hk : ∀ k, v.ownBlock = some k → W'.heap[k]? = W.heap[k]?) : W'.ownsRow base e 1 v n xs := by
  obtain ⟨h0, ⟨h1, h2⟩ | ⟨b, cap, cur, h1, h2, h3, h4⟩⟩ := h
  · exact ⟨h0, Or.inl ⟨h1, h2⟩⟩
  · exact ⟨h0, Or.inr ⟨b, cap, cur, h1, h2, (hk b (by rw [h1]; rfl)).trans h3, h4⟩⟩
theorem row_lt {W : World} {base : Nat} {e : TypeId} {v : Value} {n : Nat} {xs : List Value} (h : W.ownsRow base e 1 v n xs) (k : Nat) (hk : v.ownBlock = some k) : base ≤ k ∧ k < W.heap.size := by
  obtain ⟨h0, ⟨h1, h2⟩ | ⟨b, cap, cur, h1, h2, h3, h4⟩⟩ := h
  · rw [h1] at hk; cases hk
  · rw [h1] at hk
    have : b = k := by injection hk
    subst this
    exact ⟨h2, blk_lt h3⟩
theorem row_nil (W : World) (base : Nat) (e : TypeId) : W.ownsRow base e 1 (.slice none 0 0) 0 [] := ⟨rfl, Or.inl ⟨rfl, rfl⟩⟩
theorem row_at {W : World} {base : Nat} {e : TypeId} {α : Type} {enc : α → Value} {v : Value} {l : List α} (h : W.ownsRow base e 1 v l.length (l.map enc)) (hn : 0 < l.length) : ∃ b cap, v = .slice (some ⟨b, 0, none⟩) l.length cap ∧ ∀ (i : Nat) (x : α), l[i]? = some x → W.cell? ⟨b, i, none⟩ = some (enc x) := by
  obtain ⟨h0, ⟨h1, h2⟩ | ⟨b, cap, cur, h1, h2, h3, h4, h5, h6, h7⟩⟩ := h
  · omega
  · refine ⟨b, cap, h1, fun i x hx => ?_⟩
    obtain ⟨hi, _⟩ := List.getElem?_eq_some_iff.1 hx
    have h8 : (cur.toList.take (l.length * 1))[i]? = some (enc x) := by rw [h7, List.getElem?_map, hx]; rfl
    rw [List.getElem?_take, if_pos (by omega), Array.getElem?_toList] at h8
    exact (blk_cell h3 i).trans h8
theorem row_cell {W : World} {base : Nat} {e : TypeId} {α : Type} {enc : α → Value} {b c : Nat} {l : List α} (h : W.ownsRow base e 1 (.slice (some ⟨b, 0, none⟩) l.length c) l.length (l.map enc)) (i : Nat) (x : α) (hx : l[i]? = some x) : W.cell? ⟨b, i, none⟩ = some (enc x) := by
  obtain ⟨hi, _⟩ := List.getElem?_eq_some_iff.1 hx
  obtain ⟨b2, c2, e2, h2⟩ := row_at h (by omega)
  injection e2 with e2
  injection e2 with e2
  injection e2 with e2
  rw [e2]
  exact h2 i x hx
theorem row_slice {W : World} {base : Nat} {e : TypeId} {v : Value} {n : Nat} {xs : List Value} (h : W.ownsRow base e 1 v n xs) : ∃ A c, v = .slice A n c := by
  obtain ⟨h0, ⟨h1, h2⟩ | ⟨b, cap, cur, h1, h2, h3, h4⟩⟩ := h
  · exact ⟨none, 0, by rw [h1, h2]⟩
  · exact ⟨_, _, h1⟩
theorem IsBg.grownO {w W w1 : World} {g mb cb n : Nat} {s : Bg} (h : IsBg w W g mb cb n s) {vo : Option Nat} (hg : W.grownBy w1 vo) (ho : ∀ k, vo = some k → k ≠ g ∧ k ≠ mb ∧ k ≠ cb) (hb : Below w.heap.size w w1) : IsBg w w1 g mb cb n s := by
  obtain ⟨D, h3, h4⟩ := h.map
  obtain ⟨E, h5, h6⟩ := h.cut
  have hl := h.lts
  exact ⟨(hg.block g hl.1 (fun q => (ho g q.symm).1 rfl)).trans h.own, ⟨D, World.ownsMap.kept h3 hg (fun q => (ho mb (by first | exact q | exact q.symm)).2.1 rfl), h4⟩, ⟨E, World.ownsMap.kept h5 hg (fun q => (ho cb (by first | exact q | exact q.symm)).2.2 rfl), h6⟩, h.asc, h.ids, h.lst, h.len, h.g1, h.m1, h.c1, h.gm, h.gc, h.mc, hb⟩
structure OnW (w wr : World) (g mb cb n : Nat) (s : Bg) (vs vg : Value) (sd : List ByteArray) (gn : List Int) : Prop where
  hs : IsBg w wr g mb cb n s
  sd : wr.ownsRow w.heap.size 9 1 vs sd.length (sd.map encS)
  gn : wr.ownsRow w.heap.size 3 1 vg gn.length (gn.map encN)
  os : ∀ k, vs.ownBlock = some k → k ≠ g ∧ k ≠ mb ∧ k ≠ cb
  og : ∀ k, vg.ownBlock = some k → k ≠ g ∧ k ≠ mb ∧ k ≠ cb
  ap : ∀ k, vs.ownBlock = some k → vg.ownBlock = some k → False
section
variable {w wr w2 : World} {g mb cb n m : Nat} {s s2 : Bg} {vs vg v1 : Value} {sd : List ByteArray} {gn : List Int}
theorem OnW.below (h : OnW w wr g mb cb n s vs vg sd gn) (hb : Below wr.heap.size wr w2) : OnW w w2 g mb cb n s vs vg sd gn :=
  ⟨h.hs.below hb, row_step h.sd (fun k hk => hb.block k (row_lt h.sd k hk).2), row_step h.gn (fun k hk => hb.block k (row_lt h.gn k hk).2), h.os, h.og, h.ap⟩
theorem OnW.more (h : OnW w wr g mb cb n s vs vg sd gn) (hm : n ≤ m) : OnW w wr g mb cb m s vs vg sd gn := { h with hs := h.hs.more hm }
theorem OnW.bag (h : OnW w wr g mb cb n s vs vg sd gn) (h2 : IsBg w w2 g mb cb m s2) (hk : BgKept wr w2 g mb cb) : OnW w w2 g mb cb m s2 vs vg sd gn :=
  ⟨h2, row_step h.sd (fun k q => hk.2 k (row_lt h.sd k q).2 (h.os k q).1 (h.os k q).2.1 (h.os k q).2.2), row_step h.gn (fun k q => hk.2 k (row_lt h.gn k q).2 (h.og k q).1 (h.og k q).2.1 (h.og k q).2.2), h.os, h.og, h.ap⟩
theorem OnW.said (h : OnW w wr g mb cb n s vs vg sd gn) (x : ByteArray) (h1 : w2.ownsRow w.heap.size 9 1 v1 (sd ++ [x]).length ((sd ++ [x]).map encS)) (hb : Below w.heap.size w w2) (hg : wr.grownBy w2 vs.ownBlock) (ho : v1.ownBlock = vs.ownBlock ∨ ∃ b, v1.ownBlock = some b ∧ wr.heap.size ≤ b) : OnW w w2 g mb cb n s v1 vg (sd ++ [x]) gn := by
  have hl := h.hs.lts
  refine ⟨h.hs.grownO hg h.os hb, h1, row_step h.gn (fun k q => hg.block k (row_lt h.gn k q).2 (fun e => h.ap k e.symm q)), fun k q => ?_, h.og, fun k q q2 => ?_⟩
  · rcases ho with e | ⟨b, e, hbb⟩
    · exact h.os k (e ▸ q)
    · rw [e] at q
      injection q with q
      omega
  · rcases ho with e | ⟨b, e, hbb⟩
    · exact h.ap k (e ▸ q) q2
    · rw [e] at q
      injection q with q
      have := (row_lt h.gn k q2).2
      omega
theorem OnW.gone (h : OnW w wr g mb cb n s vs vg sd gn) (x : Int) (h1 : w2.ownsRow w.heap.size 3 1 v1 (gn ++ [x]).length ((gn ++ [x]).map encN)) (hb : Below w.heap.size w w2) (hg : wr.grownBy w2 vg.ownBlock) (ho : v1.ownBlock = vg.ownBlock ∨ ∃ b, v1.ownBlock = some b ∧ wr.heap.size ≤ b) : OnW w w2 g mb cb n s vs v1 sd (gn ++ [x]) := by
  have hl := h.hs.lts
  refine ⟨h.hs.grownO hg h.og hb, row_step h.sd (fun k q => hg.block k (row_lt h.sd k q).2 (fun e => h.ap k q e.symm)), h1, h.os, fun k q => ?_, fun k q2 q => ?_⟩
  · rcases ho with e | ⟨b, e, hbb⟩
    · exact h.og k (e ▸ q)
    · rw [e] at q
      injection q with q
      omega
  · rcases ho with e | ⟨b, e, hbb⟩
    · exact h.ap k q2 (e ▸ q)
    · rw [e] at q
      injection q with q
      have := (row_lt h.sd k q2).2
      omega
end
theorem info9 : (Try.prog.info? 9).map (fun i => (i.zero, i.size, i.bytes)) = some (some (.string ByteArray.empty), 1, 16) := by kernel_rfl
theorem info3i : (Try.prog.info? 3).map (fun i => (i.zero, i.size, i.bytes)) = some (some (.int .i64 0), 1, 8) := by kernel_rfl
theorem onw_lit {w W : World} {g mb cb n : Nat} {s : Bg} (h : IsBg w W g mb cb n s) (x : ByteArray) : OnW w (W.alloc (.cells #[.string x] 9)) g mb cb n s (.slice (some ⟨W.heap.size, 0, none⟩) 1 1) (.slice none 0 0) [x] [] := by
  have hl := h.lts
  refine ⟨h.below (below_alloc (Below.refl _ _) _), ⟨rfl, Or.inr ⟨W.heap.size, 1, #[.string x], rfl, h.bel.size, blk_new W _, Nat.le_refl _, by decide, rfl, rfl⟩⟩, row_nil _ _ _, fun k q => ?_, fun k q => (by cases q), fun k _ q => (by cases q)⟩
  injection q with q
  have q2 : W.heap.size = k := q
  omega

end Go.Proofs.Ytppoahccmcnenaa.PO
