import Derived.SizedLaws
import Derived.ChangeSlices
import Derived.ChangeArms
import Derived.OpenShut
import Derived.Deep.Slices
import Derived.Test.YteclhjhnbolkmaaWWords
namespace Go.Proofs.Yteclhjhnbolkmaa.Op
open Go.ChangeShapes Go.WideShapes Go.RowKit Go.Proofs.YteclhjhnbolkmaaW.PrintWords
set_option linter.unusedVariables false
/-- What a reading of type t says of the cells: a value of the kind d, of which ok is known. -/
def Op {α : Type} (P : Program) (d : Kd α) (t : TypeId) (ok : α → Prop) : Prop :=
  P.cellsOf t = d.sz ∧ ∀ (H : Type) (enc : TypeId × Value → H) (W : World) (fuel : Nat) (cs : List Value) (x : DataW H × List MemPlace),
    DataW.trod enc P W 0 (fun _ => true) true fuel t cs = some x → (∀ n ∈ x.1.weights P t, n ≤ reachBytes) → ∃ y, d.K W y cs ∧ ok y
theorem op_int {P : Program} {t : TypeId} {k : IntKind} (h : P.underlying t = some (.int k)) (hc : P.cellsOf t = 1) : Op P (Kd.int k) t (fun n => (Lit.int k n).wf = true) := by
  refine ⟨hc, fun H enc W fuel cs x hx _ => ?_⟩
  obtain ⟨n, rfl, rfl, hw⟩ := DataW.trod_int h hx
  exact ⟨n, rfl, hw⟩
theorem op_bool {P : Program} {t : TypeId} (h : P.underlying t = some .bool) (hc : P.cellsOf t = 1) : Op P Kd.bool t (fun _ => True) := by
  refine ⟨hc, fun H enc W fuel cs x hx _ => ?_⟩
  obtain ⟨n, rfl, rfl⟩ := DataW.trod_bool h hx
  exact ⟨n, rfl, trivial⟩
theorem op_string {P : Program} {t : TypeId} (h : P.underlying t = some .string) (hc : P.cellsOf t = 1) : Op P Kd.string t (fun s => s.size ≤ 140737488351232) := by
  refine ⟨hc, fun H enc W fuel cs x hx hw => ?_⟩
  obtain ⟨s, rfl, rfl, _⟩ := DataW.trod_string h hx
  have := hw s.data.toList.length (by simp [DataW.weights])
  exact ⟨s, rfl, by simpa [reachBytes] using this⟩
theorem op_mono {α : Type} {P : Program} {d : Kd α} {t : TypeId} {ok ok' : α → Prop} (h : Op P d t ok) (hk : ∀ x, ok x → ok' x) : Op P d t ok' :=
  ⟨h.1, fun H enc W fuel cs x hx hw => by obtain ⟨y, h1, h2⟩ := h.2 H enc W fuel cs x hx hw; exact ⟨y, h1, hk y h2⟩⟩
theorem op_slice {α : Type} {P : Program} {d : Kd α} {t e : TypeId} {ok : α → Prop} {B : Nat} (h : P.underlying t = some (.slice e)) (hc : P.cellsOf t = 1) (hB : P.bytesOf e = B) (ho : Op P d e ok) (hz : 0 < d.sz) :
    Op P (Kd.slice e d) t (fun xs => xs.length * B ≤ 140737488351232 ∧ xs.length ≤ maxLen ∧ ∀ x ∈ xs, ok x) := by
  refine ⟨hc, fun H enc W fuel cs x hx hw => ?_⟩
  rcases DataW.trod_slice h hx with ⟨rfl, rfl⟩ | ⟨a, len, cap, elems, rest, n, rfl, rfl, rfl, hb, hl, hm, hlen, hel, hsp, hns⟩
  · exact ⟨[], ⟨none, 0, rfl, Nat.le_refl _, Kd.C_nil _ _⟩, by simp⟩
  · have hwt : ∀ i (hi : i < len), ∃ c y, W.cells? 0 (a.add (i * P.cellsOf e)) (P.cellsOf e) = some c ∧ d.K W y c ∧ ok y := by
      intro i hi
      have h1 := hel i hi
      have hi2 : i < elems.length := by omega
      rw [List.getElem?_eq_getElem hi2] at h1
      obtain ⟨c, h2, h3⟩ := Option.bind_eq_some_iff.1 h1
      obtain ⟨y, h4, h5⟩ := ho.2 H enc W n c _ h3 (fun m hm => hw m (by
        simp only [DataW.weights, h]
        refine List.mem_cons_of_mem _ (List.mem_append_left _ ?_)
        have : ∀ (l : List (DataW H)) (dd : DataW H), dd ∈ l → m ∈ dd.weights P e → m ∈ DataW.weightsAll P e l := by
          intro l dd hd hm
          induction l with
          | nil => cases hd
          | cons q l ih =>
            simp only [DataW.weightsAll]
            rcases List.mem_cons.1 hd with rfl | hd
            · exact List.mem_append_left _ hm
            · exact List.mem_append_right _ (ih hd)
        exact this _ _ (List.mem_map_of_mem (List.getElem_mem hi2)) hm))
      exact ⟨c, y, h2, h4, h5⟩
    have hne : ∀ i : Fin len, ∃ y, (∃ c, W.cells? 0 (a.add (i.val * P.cellsOf e)) (P.cellsOf e) = some c ∧ d.K W y c) ∧ ok y := fun i => by
      obtain ⟨c, y, h1, h2, h3⟩ := hwt i.val i.isLt
      exact ⟨y, ⟨c, h1, h2⟩, h3⟩
    let f : Fin len → α := fun i => Classical.choose (hne i)
    have hf : ∀ i, (∃ c, W.cells? 0 (a.add (i.val * P.cellsOf e)) (P.cellsOf e) = some c ∧ d.K W (f i) c) ∧ ok (f i) := fun i => Classical.choose_spec (hne i)
    have hll : (List.ofFn f).length = len := by simp
    have hbytes : len * B ≤ 140737488351232 := by
      have := hw ((elems.length + rest.length) * P.bytesOf e) (by simp [DataW.weights, h])
      rw [hB, hlen] at this
      refine Nat.le_trans (Nat.mul_le_mul_right B (Nat.le_add_right len rest.length)) ?_
      simpa [reachBytes] using this
    refine ⟨List.ofFn f, ⟨some a, cap, by rw [hll], by rw [hll]; exact hl, ?_⟩, by rw [hll]; exact hbytes, by rw [hll]; exact Nat.le_trans hl hm, ?_⟩
    · rw [hll]
      refine ⟨hll, by unfold maxLen at hm; omega, fun hp => ⟨a, rfl, fun j p hj => ?_⟩⟩
      have hj2 : j < len := by have := (List.getElem?_eq_some_iff.1 hj).1; rwa [hll] at this
      obtain ⟨⟨c, hc1, hc2⟩, _⟩ := hf ⟨j, hj2⟩
      have hp2 : p = f ⟨j, hj2⟩ := by
        rw [List.getElem?_ofFn] at hj
        simpa [hj2] using hj.symm
      subst hp2
      refine ⟨c, d.K_len hc2, hc2, fun i u hu => ?_⟩
      unfold World.cells? at hc1
      rw [if_pos (Nat.zero_le _)] at hc1
      have hi : i < P.cellsOf e := by
        have := (List.getElem?_eq_some_iff.1 hu).1
        have h2 := d.K_len hc2
        rw [ho.1]; omega
      have h3 := mapM_some_get hc1 i i (by simp [hi])
      rw [hu, Deep.add_add, ho.1] at h3
      exact h3
    · intro x hx
      rw [List.mem_ofFn] at hx
      obtain ⟨i, rfl⟩ := hx
      exact (hf i).2
/-- .. of a struct's fields, from one on. -/
def OpFs {α : Type} (P : Program) (d : Kd α) (fs : List Field) (off : Nat) (ok : α → Prop) : Prop :=
  ∀ (H : Type) (enc : TypeId × Value → H) (W : World) (n : Nat) (cs : List Value) (xs : List (DataW H × List MemPlace)), cs.length = off + d.sz → xs.length = fs.length →
    (∀ (i : Nat) (f : Field), fs[i]? = some f → DataW.trod enc P W 0 (fun _ => true) true n f.type ((cs.drop f.offset).take (P.cellsOf f.type)) = xs[i]?) →
    (∀ m ∈ DataW.weightsEach P (fs.map (·.type)) (xs.map (·.1)), m ≤ reachBytes) → ∃ y, d.K W y (cs.drop off) ∧ ok y
theorem opfs_last {α : Type} {P : Program} {d : Kd α} {f : Field} {off : Nat} {ok : α → Prop} (ho : Op P d f.type ok) (hoff : f.offset = off) : OpFs P d [f] off ok := by
  intro H enc W n cs xs hl hx ht hw
  obtain ⟨x, rfl⟩ : ∃ x, xs = [x] := by
    match xs, hx with
    | [x], _ => exact ⟨x, rfl⟩
  have h1 := ht 0 f rfl
  rw [hoff, ho.1, List.take_of_length_le (by rw [List.length_drop]; omega)] at h1
  exact ho.2 H enc W n _ x h1 (fun m hm => hw m (by simpa [DataW.weightsEach] using hm))
theorem opfs_cons {α β : Type} {P : Program} {d1 : Kd α} {d2 : Kd β} {f : Field} {fs : List Field} {off : Nat} {ok1 : α → Prop} {ok2 : β → Prop} (ho : Op P d1 f.type ok1) (hoff : f.offset = off) (hr : OpFs P d2 fs (off + d1.sz) ok2) :
    OpFs P (Kd.pair d1 d2) (f :: fs) off (fun x => ok1 x.1 ∧ ok2 x.2) := by
  intro H enc W n cs xs hl hx ht hw
  have hl2 : cs.length = off + (d1.sz + d2.sz) := hl
  obtain ⟨x, xs, rfl⟩ : ∃ x r, xs = x :: r := by
    match xs, hx with
    | x :: r, _ => exact ⟨x, r, rfl⟩
  have h1 := ht 0 f rfl
  rw [hoff, ho.1] at h1
  have e1 : DataW.weightsEach P ((f :: fs).map (·.type)) ((x :: xs).map (·.1)) = x.1.weights P f.type ++ DataW.weightsEach P (fs.map (·.type)) (xs.map (·.1)) := rfl
  rw [e1] at hw
  obtain ⟨y1, k1, o1⟩ := ho.2 H enc W n _ x h1 (fun m hm => hw m (List.mem_append_left _ hm))
  obtain ⟨y2, k2, o2⟩ := hr H enc W n cs xs (by omega) (by simpa using hx) (fun i g hg => ht (i + 1) g hg) (fun m hm => hw m (List.mem_append_right _ hm))
  refine ⟨(y1, y2), ⟨_, _, ?_, k1, k2⟩, o1, o2⟩
  rw [← List.drop_drop, List.take_append_drop]
theorem op_struct {α : Type} {P : Program} {d : Kd α} {t : TypeId} {fs : Array Field} {ok : α → Prop} (h : P.underlying t = some (.struct fs)) (hc : P.cellsOf t = d.sz) (hf : OpFs P d fs.toList 0 ok) : Op P d t ok := by
  refine ⟨hc, fun H enc W fuel cs x hx hw => ?_⟩
  obtain ⟨xs, n, rfl, rfl, hl, hxl, ht⟩ := DataW.trod_struct h hx
  have := hf H enc W n cs xs (by rw [hl, hc, Nat.zero_add]) (by simpa using hxl) (fun i f hi => ht i f (by simpa using hi)) (fun m hm => hw m (by simpa [DataW.weights, h] using hm))
  simpa using this
theorem op_iso {α β : Type} {P : Program} {d : Kd α} {t : TypeId} {ok : α → Prop} (h : Op P d t ok) (f : β → α) (g : α → β) (hfg : ∀ a, f (g a) = a) : Op P (Kd.iso d f) t (fun b => ok (f b)) := by
  refine ⟨h.1, fun H enc W fuel cs x hx hw => ?_⟩
  obtain ⟨y, h1, h2⟩ := h.2 H enc W fuel cs x hx hw
  exact ⟨g y, by show d.K W (f (g y)) cs; rw [hfg]; exact h1, by show ok (f (g y)); rw [hfg]; exact h2⟩
/-- A row's argument, opened. -/
theorem op_arg {H : Type} {enc : TypeId × Value → H} {α : Type} {P : Program} {d : Kd α} {t : TypeId} {ok : α → Prop} {W : World} {v : Value} {dat : DataW H} {ps : List MemPlace} {ts : List TypeId} {ds : List (DataW H)} {j : Nat} (ho : Op P d t ok)
    (hsz : (DataW.weightsEach P ts ds).all (· ≤ reachBytes) = true) (ht : ts[j]? = some t) (hd : ds[j]? = some dat) (h : DataW.Trod enc P W 0 (fun _ => true) true t v dat ps) : ∃ y, d.K W y v.cells.toList ∧ ok y := by
  obtain ⟨fuel, hf⟩ := h
  refine ho.2 H enc W fuel _ _ hf (fun n hn => ?_)
  have := List.all_eq_true.1 hsz _ (DataW.weights_mem_each ht hd n hn)
  simpa using this
/-- A struct's value is its cells. -/
theorem agg_of {P : Program} {W : World} {r : Reach} {base : Nat} {t : TypeId} {v : Value} {fs : Array Field} (h : P.underlying t = some (.struct fs)) (hv : Value.okWide P W r base t v) {cs : List Value} (hc : v.cells.toList = cs) : v = .agg cs.toArray := by
  unfold Value.okWide at hv
  rw [h] at hv
  obtain ⟨c, rfl, _⟩ := hv
  subst hc
  simp [Value.cells]
theorem slice_of {α : Type} {e : Nat} {d : Kd α} {W : World} {a : Option Addr} {len cap : Nat} {y : List α} (h : (Kd.slice e d).K W y (Value.slice a len cap).cells.toList) : len = y.length ∧ y.length ≤ cap ∧ d.C W a y.length y := by
  obtain ⟨A, c, hcs, hl, hc⟩ := h
  simp [Value.cells] at hcs
  obtain ⟨rfl, rfl, rfl⟩ := hcs
  exact ⟨rfl, hl, hc⟩
end Go.Proofs.Yteclhjhnbolkmaa.Op
