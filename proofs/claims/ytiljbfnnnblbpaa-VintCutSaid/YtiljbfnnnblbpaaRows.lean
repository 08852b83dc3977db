/-
  No cell of these rows narrows 'for every input' (looked for: loops, veiled, ifaces, maps, wideKeys, modest, calm, conditions, laid).
  DERIVED. THE GIVEN ROWS OF THIS SEAT. 10 by the template 'for every input the law returns true; each argument reads behind the call as it read before'; 0 by the template 'total and deterministic' (their statements: YtiljbfnnnblbpaaTotals.lean).
  GIVEN WITH THE SEED: the statements are not yours to turn. If you find one false, say at which input.
  Laid BY PROGRAM, IN A SANDBOX (cutbox-rows.mjs): the forced cells as the released guide's own fill.sh prints them over the translation 3ec5a0f84361329a… (all of the seat's roots in one cut). By AI agents, Wed Nov 11 2026. No macro, syntax, notation, axiom, sorry.
-/
import Derived.Test.YtiljbfnnnblbpaaChecked
import GoSem.Claim
import GoSem.ClaimJoined
import GoSem.ClaimMapViews
import Derived.JoinedTies
import Derived.KernelRfl
namespace Go.Proofs.Ytiljbfnnnblbpaa
/- THE CELL 'sum', in the pinned program and in every row, IS THE sha256 OF THE DUMP (.gsa) THAT YtiljbfnnnblbpaaProg.lean LOADS. Nothing in Lean hashes anything: it is a label: what it is worth is what the hold of that sum in a sandbox is worth. -/
noncomputable def Try.pinned : Pinned := { name := "ytiljbfnnnblbpaa", sum := "3ec5a0f84361329a49ce03ba37f66f40cbe311c5c29664d8602df98eca30a9ae", checked := Try.checked }
namespace Rows
def none {H : Type} : Left H := { results := [], args := [] }

/-- 'splicelaw01.VintTexts': WHATEVER THE INPUT: true; the input reads as it did. -/
def vintTextsSpec : ChangeSpec := { name := "vintTexts", fn := fun _ => fun
  | [d1, d2] => { results := [.lit (.bool true)], args := [d1, d2] }
  | _ => none }
def vintTextsRow : OpenClaim := { program := "ytiljbfnnnblbpaa", sum := "3ec5a0f84361329a49ce03ba37f66f40cbe311c5c29664d8602df98eca30a9ae", func := "splice/splicelaw01.VintTexts", spec := "vintTexts", inPlace := ["internal/abi.NoEscape"], apart := false }
def VintTextsSaid : Prop := vintTextsRow.holds Try.pinned (OpenSpec.ofChange vintTextsSpec)

/-- ITS FALSE NEIGHBOUR: 'it returns false'. Refute it at one input. -/
def vintTextsWrong : ChangeSpec := { name := "vintTexts", fn := fun _ => fun
  | [d1, d2] => { results := [.lit (.bool false)], args := [d1, d2] }
  | _ => none }
def VintTextsWrongFalsely : Prop := vintTextsRow.holds Try.pinned (OpenSpec.ofChange vintTextsWrong)

/-- 'splicelaw01.VintRises': WHATEVER THE INPUT: true; the input reads as it did. -/
def vintRisesSpec : ChangeSpec := { name := "vintRises", fn := fun _ => fun
  | [d1, d2] => { results := [.lit (.bool true)], args := [d1, d2] }
  | _ => none }
def vintRisesRow : OpenClaim := { program := "ytiljbfnnnblbpaa", sum := "3ec5a0f84361329a49ce03ba37f66f40cbe311c5c29664d8602df98eca30a9ae", func := "splice/splicelaw01.VintRises", spec := "vintRises", inPlace := ["internal/abi.NoEscape"], apart := false }
def VintRisesSaid : Prop := vintRisesRow.holds Try.pinned (OpenSpec.ofChange vintRisesSpec)

/-- ITS FALSE NEIGHBOUR: 'it returns false'. Refute it at one input. -/
def vintRisesWrong : ChangeSpec := { name := "vintRises", fn := fun _ => fun
  | [d1, d2] => { results := [.lit (.bool false)], args := [d1, d2] }
  | _ => none }
def VintRisesWrongFalsely : Prop := vintRisesRow.holds Try.pinned (OpenSpec.ofChange vintRisesWrong)

/-- 'splicelaw01.VintFolds': WHATEVER THE INPUT: true; the input reads as it did. -/
def vintFoldsSpec : ChangeSpec := { name := "vintFolds", fn := fun _ => fun
  | [d1, d2] => { results := [.lit (.bool true)], args := [d1, d2] }
  | _ => none }
def vintFoldsRow : OpenClaim := { program := "ytiljbfnnnblbpaa", sum := "3ec5a0f84361329a49ce03ba37f66f40cbe311c5c29664d8602df98eca30a9ae", func := "splice/splicelaw01.VintFolds", spec := "vintFolds", inPlace := ["internal/abi.NoEscape"], apart := false }
def VintFoldsSaid : Prop := vintFoldsRow.holds Try.pinned (OpenSpec.ofChange vintFoldsSpec)

/-- ITS FALSE NEIGHBOUR: 'it returns false'. Refute it at one input. -/
def vintFoldsWrong : ChangeSpec := { name := "vintFolds", fn := fun _ => fun
  | [d1, d2] => { results := [.lit (.bool false)], args := [d1, d2] }
  | _ => none }
def VintFoldsWrongFalsely : Prop := vintFoldsRow.holds Try.pinned (OpenSpec.ofChange vintFoldsWrong)

/-- 'splicelaw01.VintNums': WHATEVER THE INPUT: true; the input reads as it did. -/
def vintNumsSpec : ChangeSpec := { name := "vintNums", fn := fun _ => fun
  | [d1, d2, d3] => { results := [.lit (.bool true)], args := [d1, d2, d3] }
  | _ => none }
def vintNumsRow : OpenClaim := { program := "ytiljbfnnnblbpaa", sum := "3ec5a0f84361329a49ce03ba37f66f40cbe311c5c29664d8602df98eca30a9ae", func := "splice/splicelaw01.VintNums", spec := "vintNums", inPlace := ["internal/abi.NoEscape"], apart := false }
def VintNumsSaid : Prop := vintNumsRow.holds Try.pinned (OpenSpec.ofChange vintNumsSpec)

/-- ITS FALSE NEIGHBOUR: 'it returns false'. Refute it at one input. -/
def vintNumsWrong : ChangeSpec := { name := "vintNums", fn := fun _ => fun
  | [d1, d2, d3] => { results := [.lit (.bool false)], args := [d1, d2, d3] }
  | _ => none }
def VintNumsWrongFalsely : Prop := vintNumsRow.holds Try.pinned (OpenSpec.ofChange vintNumsWrong)

/-- 'splicelaw01.VintRows': WHATEVER THE INPUT: true; the input reads as it did. -/
def vintRowsSpec : ChangeSpec := { name := "vintRows", fn := fun _ => fun
  | [d] => { results := [.lit (.bool true)], args := [d] }
  | _ => none }
def vintRowsRow : OpenClaim := { program := "ytiljbfnnnblbpaa", sum := "3ec5a0f84361329a49ce03ba37f66f40cbe311c5c29664d8602df98eca30a9ae", func := "splice/splicelaw01.VintRows", spec := "vintRows", inPlace := ["internal/abi.NoEscape"], apart := false }
def VintRowsSaid : Prop := vintRowsRow.holds Try.pinned (OpenSpec.ofChange vintRowsSpec)

/-- ITS FALSE NEIGHBOUR: 'it returns false'. Refute it at one input. -/
def vintRowsWrong : ChangeSpec := { name := "vintRows", fn := fun _ => fun
  | [d] => { results := [.lit (.bool false)], args := [d] }
  | _ => none }
def VintRowsWrongFalsely : Prop := vintRowsRow.holds Try.pinned (OpenSpec.ofChange vintRowsWrong)

/-- 'splicelaw01.VintCut': WHATEVER THE INPUT: true; the input reads as it did. -/
def vintCutSpec : ChangeSpec := { name := "vintCut", fn := fun _ => fun
  | [d1, d2, d3] => { results := [.lit (.bool true)], args := [d1, d2, d3] }
  | _ => none }
def vintCutRow : OpenClaim := { program := "ytiljbfnnnblbpaa", sum := "3ec5a0f84361329a49ce03ba37f66f40cbe311c5c29664d8602df98eca30a9ae", func := "splice/splicelaw01.VintCut", spec := "vintCut", inPlace := ["internal/abi.NoEscape"], apart := false }
def VintCutSaid : Prop := vintCutRow.holds Try.pinned (OpenSpec.ofChange vintCutSpec)

/-- ITS FALSE NEIGHBOUR: 'it returns false'. Refute it at one input. -/
def vintCutWrong : ChangeSpec := { name := "vintCut", fn := fun _ => fun
  | [d1, d2, d3] => { results := [.lit (.bool false)], args := [d1, d2, d3] }
  | _ => none }
def VintCutWrongFalsely : Prop := vintCutRow.holds Try.pinned (OpenSpec.ofChange vintCutWrong)

/-- 'splicelaw01.VintOnce': WHATEVER THE INPUT: true; the input reads as it did. -/
def vintOnceSpec : ChangeSpec := { name := "vintOnce", fn := fun _ => fun
  | [d] => { results := [.lit (.bool true)], args := [d] }
  | _ => none }
def vintOnceRow : OpenClaim := { program := "ytiljbfnnnblbpaa", sum := "3ec5a0f84361329a49ce03ba37f66f40cbe311c5c29664d8602df98eca30a9ae", func := "splice/splicelaw01.VintOnce", spec := "vintOnce", inPlace := ["internal/abi.NoEscape"], apart := false }
def VintOnceSaid : Prop := vintOnceRow.holds Try.pinned (OpenSpec.ofChange vintOnceSpec)

/-- ITS FALSE NEIGHBOUR: 'it returns false'. Refute it at one input. -/
def vintOnceWrong : ChangeSpec := { name := "vintOnce", fn := fun _ => fun
  | [d] => { results := [.lit (.bool false)], args := [d] }
  | _ => none }
def VintOnceWrongFalsely : Prop := vintOnceRow.holds Try.pinned (OpenSpec.ofChange vintOnceWrong)

/-- 'splicelaw01.VintReads': WHATEVER THE INPUT: true; the input reads as it did. -/
def vintReadsSpec : ChangeSpec := { name := "vintReads", fn := fun _ => fun
  | [d1, d2] => { results := [.lit (.bool true)], args := [d1, d2] }
  | _ => none }
def vintReadsRow : OpenClaim := { program := "ytiljbfnnnblbpaa", sum := "3ec5a0f84361329a49ce03ba37f66f40cbe311c5c29664d8602df98eca30a9ae", func := "splice/splicelaw01.VintReads", spec := "vintReads", inPlace := ["internal/abi.NoEscape"], apart := false }
def VintReadsSaid : Prop := vintReadsRow.holds Try.pinned (OpenSpec.ofChange vintReadsSpec)

/-- ITS FALSE NEIGHBOUR: 'it returns false'. Refute it at one input. -/
def vintReadsWrong : ChangeSpec := { name := "vintReads", fn := fun _ => fun
  | [d1, d2] => { results := [.lit (.bool false)], args := [d1, d2] }
  | _ => none }
def VintReadsWrongFalsely : Prop := vintReadsRow.holds Try.pinned (OpenSpec.ofChange vintReadsWrong)

/-- 'splicelaw01.VintBack': WHATEVER THE INPUT: true; the input reads as it did. -/
def vintBackSpec : ChangeSpec := { name := "vintBack", fn := fun _ => fun
  | [d1, d2, d3] => { results := [.lit (.bool true)], args := [d1, d2, d3] }
  | _ => none }
def vintBackRow : OpenClaim := { program := "ytiljbfnnnblbpaa", sum := "3ec5a0f84361329a49ce03ba37f66f40cbe311c5c29664d8602df98eca30a9ae", func := "splice/splicelaw01.VintBack", spec := "vintBack", inPlace := ["internal/abi.NoEscape"], apart := false }
def VintBackSaid : Prop := vintBackRow.holds Try.pinned (OpenSpec.ofChange vintBackSpec)

/-- ITS FALSE NEIGHBOUR: 'it returns false'. Refute it at one input. -/
def vintBackWrong : ChangeSpec := { name := "vintBack", fn := fun _ => fun
  | [d1, d2, d3] => { results := [.lit (.bool false)], args := [d1, d2, d3] }
  | _ => none }
def VintBackWrongFalsely : Prop := vintBackRow.holds Try.pinned (OpenSpec.ofChange vintBackWrong)

/-- 'splicelaw01.VintFirst': WHATEVER THE INPUT: true; the input reads as it did. -/
def vintFirstSpec : ChangeSpec := { name := "vintFirst", fn := fun _ => fun
  | [d1, d2] => { results := [.lit (.bool true)], args := [d1, d2] }
  | _ => none }
def vintFirstRow : OpenClaim := { program := "ytiljbfnnnblbpaa", sum := "3ec5a0f84361329a49ce03ba37f66f40cbe311c5c29664d8602df98eca30a9ae", func := "splice/splicelaw01.VintFirst", spec := "vintFirst", inPlace := ["internal/abi.NoEscape"], apart := false }
def VintFirstSaid : Prop := vintFirstRow.holds Try.pinned (OpenSpec.ofChange vintFirstSpec)

/-- ITS FALSE NEIGHBOUR: 'it returns false'. Refute it at one input. -/
def vintFirstWrong : ChangeSpec := { name := "vintFirst", fn := fun _ => fun
  | [d1, d2] => { results := [.lit (.bool false)], args := [d1, d2] }
  | _ => none }
def VintFirstWrongFalsely : Prop := vintFirstRow.holds Try.pinned (OpenSpec.ofChange vintFirstWrong)

/- THE SECOND FORM. 'bulk': how many values and letters a reading holds, each counted each time it is reached (what is shared counts as often as it is met; a slice's spare places count too). A statement '..UptoSaid' is the law's where the arguments, and the package variables that the reading takes, are together of bulk at most 1048576: NARROWER than '..Said'. Prove '..Said' where nothing that the law and all that it calls make is longer than what came in: it says more and counts as full. Else prove '..UptoSaid'. A law counts once. -/
mutual
def uptoBulk {H : Type} : DataW H → Nat
  | .lit (.string bytes) => bytes.length + 1
  | .lit _ => 1
  | .nil => 1
  | .ptr d => uptoBulk d + 1
  | .slice elems spare => uptoBulkAll elems + uptoBulkAll spare + 1
  | .agg parts => uptoBulkAll parts + 1
  | .iface _ d => uptoBulk d + 1
  | .map entries => uptoBulkEntries entries + 1
  | .held _ => 1
def uptoBulkAll {H : Type} : List (DataW H) → Nat
  | [] => 0
  | d :: r => uptoBulk d + uptoBulkAll r
def uptoBulkEntries {H : Type} : List (Lit × DataW H) → Nat
  | [] => 0
  | x :: r => uptoBulkEntry x + uptoBulkEntries r
def uptoBulkEntry {H : Type} : Lit × DataW H → Nat
  | (.string bytes, d) => bytes.length + uptoBulk d + 1
  | (_, d) => uptoBulk d + 1
 end
def uptoSmall : (H : Type) → List (DataW H) → Bool := fun _ ds => decide (uptoBulkAll ds ≤ 1048576)
def OpenSpec.upto (s : _root_.Go.ChangeSpec) : _root_.Go.OpenSpec := { _root_.Go.OpenSpec.ofChange s with cond := some uptoSmall }

/-- 'splicelaw01.VintTexts', WHERE WHAT IT READS IS OF BULK AT MOST 1048576: true; the input reads as it did. -/
def vintTextsUptoRow : OpenClaim := { program := "ytiljbfnnnblbpaa", sum := "3ec5a0f84361329a49ce03ba37f66f40cbe311c5c29664d8602df98eca30a9ae", func := "splice/splicelaw01.VintTexts", spec := "vintTexts", inPlace := ["internal/abi.NoEscape"], apart := false, narrowed := true }
def VintTextsUptoSaid : Prop := vintTextsUptoRow.holds Try.pinned (OpenSpec.upto vintTextsSpec)

/-- 'splicelaw01.VintRises', WHERE WHAT IT READS IS OF BULK AT MOST 1048576: true; the input reads as it did. -/
def vintRisesUptoRow : OpenClaim := { program := "ytiljbfnnnblbpaa", sum := "3ec5a0f84361329a49ce03ba37f66f40cbe311c5c29664d8602df98eca30a9ae", func := "splice/splicelaw01.VintRises", spec := "vintRises", inPlace := ["internal/abi.NoEscape"], apart := false, narrowed := true }
def VintRisesUptoSaid : Prop := vintRisesUptoRow.holds Try.pinned (OpenSpec.upto vintRisesSpec)

/-- 'splicelaw01.VintFolds', WHERE WHAT IT READS IS OF BULK AT MOST 1048576: true; the input reads as it did. -/
def vintFoldsUptoRow : OpenClaim := { program := "ytiljbfnnnblbpaa", sum := "3ec5a0f84361329a49ce03ba37f66f40cbe311c5c29664d8602df98eca30a9ae", func := "splice/splicelaw01.VintFolds", spec := "vintFolds", inPlace := ["internal/abi.NoEscape"], apart := false, narrowed := true }
def VintFoldsUptoSaid : Prop := vintFoldsUptoRow.holds Try.pinned (OpenSpec.upto vintFoldsSpec)

/-- 'splicelaw01.VintNums', WHERE WHAT IT READS IS OF BULK AT MOST 1048576: true; the input reads as it did. -/
def vintNumsUptoRow : OpenClaim := { program := "ytiljbfnnnblbpaa", sum := "3ec5a0f84361329a49ce03ba37f66f40cbe311c5c29664d8602df98eca30a9ae", func := "splice/splicelaw01.VintNums", spec := "vintNums", inPlace := ["internal/abi.NoEscape"], apart := false, narrowed := true }
def VintNumsUptoSaid : Prop := vintNumsUptoRow.holds Try.pinned (OpenSpec.upto vintNumsSpec)

/-- 'splicelaw01.VintRows', WHERE WHAT IT READS IS OF BULK AT MOST 1048576: true; the input reads as it did. -/
def vintRowsUptoRow : OpenClaim := { program := "ytiljbfnnnblbpaa", sum := "3ec5a0f84361329a49ce03ba37f66f40cbe311c5c29664d8602df98eca30a9ae", func := "splice/splicelaw01.VintRows", spec := "vintRows", inPlace := ["internal/abi.NoEscape"], apart := false, narrowed := true }
def VintRowsUptoSaid : Prop := vintRowsUptoRow.holds Try.pinned (OpenSpec.upto vintRowsSpec)

/-- 'splicelaw01.VintCut', WHERE WHAT IT READS IS OF BULK AT MOST 1048576: true; the input reads as it did. -/
def vintCutUptoRow : OpenClaim := { program := "ytiljbfnnnblbpaa", sum := "3ec5a0f84361329a49ce03ba37f66f40cbe311c5c29664d8602df98eca30a9ae", func := "splice/splicelaw01.VintCut", spec := "vintCut", inPlace := ["internal/abi.NoEscape"], apart := false, narrowed := true }
def VintCutUptoSaid : Prop := vintCutUptoRow.holds Try.pinned (OpenSpec.upto vintCutSpec)

/-- 'splicelaw01.VintOnce', WHERE WHAT IT READS IS OF BULK AT MOST 1048576: true; the input reads as it did. -/
def vintOnceUptoRow : OpenClaim := { program := "ytiljbfnnnblbpaa", sum := "3ec5a0f84361329a49ce03ba37f66f40cbe311c5c29664d8602df98eca30a9ae", func := "splice/splicelaw01.VintOnce", spec := "vintOnce", inPlace := ["internal/abi.NoEscape"], apart := false, narrowed := true }
def VintOnceUptoSaid : Prop := vintOnceUptoRow.holds Try.pinned (OpenSpec.upto vintOnceSpec)

/-- 'splicelaw01.VintReads', WHERE WHAT IT READS IS OF BULK AT MOST 1048576: true; the input reads as it did. -/
def vintReadsUptoRow : OpenClaim := { program := "ytiljbfnnnblbpaa", sum := "3ec5a0f84361329a49ce03ba37f66f40cbe311c5c29664d8602df98eca30a9ae", func := "splice/splicelaw01.VintReads", spec := "vintReads", inPlace := ["internal/abi.NoEscape"], apart := false, narrowed := true }
def VintReadsUptoSaid : Prop := vintReadsUptoRow.holds Try.pinned (OpenSpec.upto vintReadsSpec)

/-- 'splicelaw01.VintBack', WHERE WHAT IT READS IS OF BULK AT MOST 1048576: true; the input reads as it did. -/
def vintBackUptoRow : OpenClaim := { program := "ytiljbfnnnblbpaa", sum := "3ec5a0f84361329a49ce03ba37f66f40cbe311c5c29664d8602df98eca30a9ae", func := "splice/splicelaw01.VintBack", spec := "vintBack", inPlace := ["internal/abi.NoEscape"], apart := false, narrowed := true }
def VintBackUptoSaid : Prop := vintBackUptoRow.holds Try.pinned (OpenSpec.upto vintBackSpec)

/-- 'splicelaw01.VintFirst', WHERE WHAT IT READS IS OF BULK AT MOST 1048576: true; the input reads as it did. -/
def vintFirstUptoRow : OpenClaim := { program := "ytiljbfnnnblbpaa", sum := "3ec5a0f84361329a49ce03ba37f66f40cbe311c5c29664d8602df98eca30a9ae", func := "splice/splicelaw01.VintFirst", spec := "vintFirst", inPlace := ["internal/abi.NoEscape"], apart := false, narrowed := true }
def VintFirstUptoSaid : Prop := vintFirstUptoRow.holds Try.pinned (OpenSpec.upto vintFirstSpec)

end Rows
end Go.Proofs.Ytiljbfnnnblbpaa
