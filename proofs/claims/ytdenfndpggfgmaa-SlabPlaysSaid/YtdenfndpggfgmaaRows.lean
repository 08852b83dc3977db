/-
  No cell of these rows narrows 'for every input' (looked for: loops, veiled, ifaces, maps, wideKeys, modest, calm, conditions, laid).
  DERIVED. THE GIVEN ROWS OF THIS SEAT. 7 by the template 'for every input the law returns true; each argument reads behind the call as it read before'; 0 by the template 'total and deterministic' (their statements: YtdenfndpggfgmaaTotals.lean).
  GIVEN WITH THE SEED: the statements are not yours to turn. If you find one false, say at which input.
  Laid BY PROGRAM, IN A SANDBOX (cutbox-rows.mjs): the forced cells as the released guide's own fill.sh prints them over the translation dc97314a5620d397… (all of the seat's roots in one cut). By AI agents, Wed Nov 11 2026. No macro, syntax, notation, axiom, sorry.
-/
import Derived.Test.YtdenfndpggfgmaaChecked
import GoSem.Claim
import GoSem.ClaimJoined
import GoSem.ClaimMapViews
import Derived.JoinedTies
import Derived.KernelRfl
namespace Go.Proofs.Ytdenfndpggfgmaa
/- THE CELL 'sum', in the pinned program and in every row, IS THE sha256 OF THE DUMP (.gsa) THAT YtdenfndpggfgmaaProg.lean LOADS. Nothing in Lean hashes anything: it is a label: what it is worth is what the hold of that sum in a sandbox is worth. -/
noncomputable def Try.pinned : Pinned := { name := "ytdenfndpggfgmaa", sum := "dc97314a5620d3979624368b6c1babc3b05cd24f6431b870a3980f7a9990242a", checked := Try.checked }
namespace Rows
def none {H : Type} : Left H := { results := [], args := [] }

/-- 'splicelaw07.SlabLast': WHATEVER THE INPUT: true; the input reads as it did. -/
def slabLastSpec : ChangeSpec := { name := "slabLast", fn := fun _ => fun
  | [d1, d2, d3] => { results := [.lit (.bool true)], args := [d1, d2, d3] }
  | _ => none }
def slabLastRow : OpenClaim := { program := "ytdenfndpggfgmaa", sum := "dc97314a5620d3979624368b6c1babc3b05cd24f6431b870a3980f7a9990242a", func := "splice/splicelaw07.SlabLast", spec := "slabLast", apart := false }
def SlabLastSaid : Prop := slabLastRow.holds Try.pinned (OpenSpec.ofChange slabLastSpec)

/-- ITS FALSE NEIGHBOUR: 'it returns false'. Refute it at one input. -/
def slabLastWrong : ChangeSpec := { name := "slabLast", fn := fun _ => fun
  | [d1, d2, d3] => { results := [.lit (.bool false)], args := [d1, d2, d3] }
  | _ => none }
def SlabLastWrongFalsely : Prop := slabLastRow.holds Try.pinned (OpenSpec.ofChange slabLastWrong)

/-- 'splicelaw07.SlabDown': WHATEVER THE INPUT: true; the input reads as it did. -/
def slabDownSpec : ChangeSpec := { name := "slabDown", fn := fun _ => fun
  | [d1, d2] => { results := [.lit (.bool true)], args := [d1, d2] }
  | _ => none }
def slabDownRow : OpenClaim := { program := "ytdenfndpggfgmaa", sum := "dc97314a5620d3979624368b6c1babc3b05cd24f6431b870a3980f7a9990242a", func := "splice/splicelaw07.SlabDown", spec := "slabDown", apart := false }
def SlabDownSaid : Prop := slabDownRow.holds Try.pinned (OpenSpec.ofChange slabDownSpec)

/-- ITS FALSE NEIGHBOUR: 'it returns false'. Refute it at one input. -/
def slabDownWrong : ChangeSpec := { name := "slabDown", fn := fun _ => fun
  | [d1, d2] => { results := [.lit (.bool false)], args := [d1, d2] }
  | _ => none }
def SlabDownWrongFalsely : Prop := slabDownRow.holds Try.pinned (OpenSpec.ofChange slabDownWrong)

/-- 'splicelaw07.SlabSure': WHATEVER THE INPUT: true; the input reads as it did. -/
def slabSureSpec : ChangeSpec := { name := "slabSure", fn := fun _ => fun
  | [d1, d2, d3] => { results := [.lit (.bool true)], args := [d1, d2, d3] }
  | _ => none }
def slabSureRow : OpenClaim := { program := "ytdenfndpggfgmaa", sum := "dc97314a5620d3979624368b6c1babc3b05cd24f6431b870a3980f7a9990242a", func := "splice/splicelaw07.SlabSure", spec := "slabSure", unfollowed := true, recurses := true, apart := false }
def SlabSureSaid : Prop := slabSureRow.holds Try.pinned (OpenSpec.ofChange slabSureSpec)

/-- ITS FALSE NEIGHBOUR: 'it returns false'. Refute it at one input. -/
def slabSureWrong : ChangeSpec := { name := "slabSure", fn := fun _ => fun
  | [d1, d2, d3] => { results := [.lit (.bool false)], args := [d1, d2, d3] }
  | _ => none }
def SlabSureWrongFalsely : Prop := slabSureRow.holds Try.pinned (OpenSpec.ofChange slabSureWrong)

/-- 'splicelaw07.SlabAll': WHATEVER THE INPUT: true; the input reads as it did. -/
def slabAllSpec : ChangeSpec := { name := "slabAll", fn := fun _ => fun
  | [d] => { results := [.lit (.bool true)], args := [d] }
  | _ => none }
def slabAllRow : OpenClaim := { program := "ytdenfndpggfgmaa", sum := "dc97314a5620d3979624368b6c1babc3b05cd24f6431b870a3980f7a9990242a", func := "splice/splicelaw07.SlabAll", spec := "slabAll", unfollowed := true, recurses := true, apart := false }
def SlabAllSaid : Prop := slabAllRow.holds Try.pinned (OpenSpec.ofChange slabAllSpec)

/-- ITS FALSE NEIGHBOUR: 'it returns false'. Refute it at one input. -/
def slabAllWrong : ChangeSpec := { name := "slabAll", fn := fun _ => fun
  | [d] => { results := [.lit (.bool false)], args := [d] }
  | _ => none }
def SlabAllWrongFalsely : Prop := slabAllRow.holds Try.pinned (OpenSpec.ofChange slabAllWrong)

/-- 'splicelaw07.SlabPlays': WHATEVER THE INPUT: true; the input reads as it did. -/
def slabPlaysSpec : ChangeSpec := { name := "slabPlays", fn := fun _ => fun
  | [d1, d2] => { results := [.lit (.bool true)], args := [d1, d2] }
  | _ => none }
def slabPlaysRow : OpenClaim := { program := "ytdenfndpggfgmaa", sum := "dc97314a5620d3979624368b6c1babc3b05cd24f6431b870a3980f7a9990242a", func := "splice/splicelaw07.SlabPlays", spec := "slabPlays", unfollowed := true, recurses := true, apart := false }
def SlabPlaysSaid : Prop := slabPlaysRow.holds Try.pinned (OpenSpec.ofChange slabPlaysSpec)

/-- ITS FALSE NEIGHBOUR: 'it returns false'. Refute it at one input. -/
def slabPlaysWrong : ChangeSpec := { name := "slabPlays", fn := fun _ => fun
  | [d1, d2] => { results := [.lit (.bool false)], args := [d1, d2] }
  | _ => none }
def SlabPlaysWrongFalsely : Prop := slabPlaysRow.holds Try.pinned (OpenSpec.ofChange slabPlaysWrong)

/-- 'splicelaw07.SlabFalls': WHATEVER THE INPUT: true; the input reads as it did. -/
def slabFallsSpec : ChangeSpec := { name := "slabFalls", fn := fun _ => fun
  | [d1, d2, d3] => { results := [.lit (.bool true)], args := [d1, d2, d3] }
  | _ => none }
def slabFallsRow : OpenClaim := { program := "ytdenfndpggfgmaa", sum := "dc97314a5620d3979624368b6c1babc3b05cd24f6431b870a3980f7a9990242a", func := "splice/splicelaw07.SlabFalls", spec := "slabFalls", unfollowed := true, recurses := true, apart := false }
def SlabFallsSaid : Prop := slabFallsRow.holds Try.pinned (OpenSpec.ofChange slabFallsSpec)

/-- ITS FALSE NEIGHBOUR: 'it returns false'. Refute it at one input. -/
def slabFallsWrong : ChangeSpec := { name := "slabFalls", fn := fun _ => fun
  | [d1, d2, d3] => { results := [.lit (.bool false)], args := [d1, d2, d3] }
  | _ => none }
def SlabFallsWrongFalsely : Prop := slabFallsRow.holds Try.pinned (OpenSpec.ofChange slabFallsWrong)

/-- 'splicelaw07.SlabNil': WHATEVER THE INPUT: true; the input reads as it did. -/
def slabNilSpec : ChangeSpec := { name := "slabNil", fn := fun _ => fun
  | [d1, d2, d3] => { results := [.lit (.bool true)], args := [d1, d2, d3] }
  | _ => none }
def slabNilRow : OpenClaim := { program := "ytdenfndpggfgmaa", sum := "dc97314a5620d3979624368b6c1babc3b05cd24f6431b870a3980f7a9990242a", func := "splice/splicelaw07.SlabNil", spec := "slabNil", unfollowed := true, recurses := true, apart := false }
def SlabNilSaid : Prop := slabNilRow.holds Try.pinned (OpenSpec.ofChange slabNilSpec)

/-- ITS FALSE NEIGHBOUR: 'it returns false'. Refute it at one input. -/
def slabNilWrong : ChangeSpec := { name := "slabNil", fn := fun _ => fun
  | [d1, d2, d3] => { results := [.lit (.bool false)], args := [d1, d2, d3] }
  | _ => none }
def SlabNilWrongFalsely : Prop := slabNilRow.holds Try.pinned (OpenSpec.ofChange slabNilWrong)

/- THE SECOND FORM. 'bulk': how many values and letters a reading holds, each counted each time it is reached (what is shared counts as often as it is met; a slice's spare places count too). A statement '..UptoSaid' is the law's where the arguments, and the package variables that the reading takes, are together of bulk at most 1048576: NARROWER than '..Said'. Prove '..Said' where nothing that the law and all that it calls make is longer than what came in: it says more and counts as full. Else prove '..UptoSaid'. A law counts once. -/
mutual
def uptoBulk {H : Type} : DataW H → Nat
  | .lit (.string bytes) => bytes.length + 1
  | .lit _ => 1
  | .nil => 1
  | .ptr d => uptoBulk d + 1
  | .slice elems spare => uptoBulkAll elems + uptoBulkAll spare + 1
  | .agg parts => uptoBulkAll parts + 1
  | .iface _ d => uptoBulk d + 1
  | .map entries => uptoBulkEntries entries + 1
  | .held _ => 1
def uptoBulkAll {H : Type} : List (DataW H) → Nat
  | [] => 0
  | d :: r => uptoBulk d + uptoBulkAll r
def uptoBulkEntries {H : Type} : List (Lit × DataW H) → Nat
  | [] => 0
  | x :: r => uptoBulkEntry x + uptoBulkEntries r
def uptoBulkEntry {H : Type} : Lit × DataW H → Nat
  | (.string bytes, d) => bytes.length + uptoBulk d + 1
  | (_, d) => uptoBulk d + 1
 end
def uptoSmall : (H : Type) → List (DataW H) → Bool := fun _ ds => decide (uptoBulkAll ds ≤ 1048576)
def OpenSpec.upto (s : _root_.Go.ChangeSpec) : _root_.Go.OpenSpec := { _root_.Go.OpenSpec.ofChange s with cond := some uptoSmall }

/-- 'splicelaw07.SlabLast', WHERE WHAT IT READS IS OF BULK AT MOST 1048576: true; the input reads as it did. -/
def slabLastUptoRow : OpenClaim := { program := "ytdenfndpggfgmaa", sum := "dc97314a5620d3979624368b6c1babc3b05cd24f6431b870a3980f7a9990242a", func := "splice/splicelaw07.SlabLast", spec := "slabLast", apart := false, narrowed := true }
def SlabLastUptoSaid : Prop := slabLastUptoRow.holds Try.pinned (OpenSpec.upto slabLastSpec)

/-- 'splicelaw07.SlabDown', WHERE WHAT IT READS IS OF BULK AT MOST 1048576: true; the input reads as it did. -/
def slabDownUptoRow : OpenClaim := { program := "ytdenfndpggfgmaa", sum := "dc97314a5620d3979624368b6c1babc3b05cd24f6431b870a3980f7a9990242a", func := "splice/splicelaw07.SlabDown", spec := "slabDown", apart := false, narrowed := true }
def SlabDownUptoSaid : Prop := slabDownUptoRow.holds Try.pinned (OpenSpec.upto slabDownSpec)

/-- 'splicelaw07.SlabSure', WHERE WHAT IT READS IS OF BULK AT MOST 1048576: true; the input reads as it did. -/
def slabSureUptoRow : OpenClaim := { program := "ytdenfndpggfgmaa", sum := "dc97314a5620d3979624368b6c1babc3b05cd24f6431b870a3980f7a9990242a", func := "splice/splicelaw07.SlabSure", spec := "slabSure", unfollowed := true, recurses := true, apart := false, narrowed := true }
def SlabSureUptoSaid : Prop := slabSureUptoRow.holds Try.pinned (OpenSpec.upto slabSureSpec)

/-- 'splicelaw07.SlabAll', WHERE WHAT IT READS IS OF BULK AT MOST 1048576: true; the input reads as it did. -/
def slabAllUptoRow : OpenClaim := { program := "ytdenfndpggfgmaa", sum := "dc97314a5620d3979624368b6c1babc3b05cd24f6431b870a3980f7a9990242a", func := "splice/splicelaw07.SlabAll", spec := "slabAll", unfollowed := true, recurses := true, apart := false, narrowed := true }
def SlabAllUptoSaid : Prop := slabAllUptoRow.holds Try.pinned (OpenSpec.upto slabAllSpec)

/-- 'splicelaw07.SlabPlays', WHERE WHAT IT READS IS OF BULK AT MOST 1048576: true; the input reads as it did. -/
def slabPlaysUptoRow : OpenClaim := { program := "ytdenfndpggfgmaa", sum := "dc97314a5620d3979624368b6c1babc3b05cd24f6431b870a3980f7a9990242a", func := "splice/splicelaw07.SlabPlays", spec := "slabPlays", unfollowed := true, recurses := true, apart := false, narrowed := true }
def SlabPlaysUptoSaid : Prop := slabPlaysUptoRow.holds Try.pinned (OpenSpec.upto slabPlaysSpec)

/-- 'splicelaw07.SlabFalls', WHERE WHAT IT READS IS OF BULK AT MOST 1048576: true; the input reads as it did. -/
def slabFallsUptoRow : OpenClaim := { program := "ytdenfndpggfgmaa", sum := "dc97314a5620d3979624368b6c1babc3b05cd24f6431b870a3980f7a9990242a", func := "splice/splicelaw07.SlabFalls", spec := "slabFalls", unfollowed := true, recurses := true, apart := false, narrowed := true }
def SlabFallsUptoSaid : Prop := slabFallsUptoRow.holds Try.pinned (OpenSpec.upto slabFallsSpec)

/-- 'splicelaw07.SlabNil', WHERE WHAT IT READS IS OF BULK AT MOST 1048576: true; the input reads as it did. -/
def slabNilUptoRow : OpenClaim := { program := "ytdenfndpggfgmaa", sum := "dc97314a5620d3979624368b6c1babc3b05cd24f6431b870a3980f7a9990242a", func := "splice/splicelaw07.SlabNil", spec := "slabNil", unfollowed := true, recurses := true, apart := false, narrowed := true }
def SlabNilUptoSaid : Prop := slabNilUptoRow.holds Try.pinned (OpenSpec.upto slabNilSpec)

end Rows
end Go.Proofs.Ytdenfndpggfgmaa
