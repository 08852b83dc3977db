/-
  No cell of these rows narrows 'for every input' (looked for: loops, veiled, ifaces, maps, wideKeys, modest, calm, conditions, laid).
  DERIVED. THE GIVEN ROWS OF THIS SEAT. 9 by the template 'for every input the law returns true; each argument reads behind the call as it read before'; 0 by the template 'total and deterministic' (their statements: YtbhlphadcphapaaTotals.lean).
  GIVEN WITH THE SEED: the statements are not yours to turn. If you find one false, say at which input.
  Laid BY PROGRAM, IN A SANDBOX (cutbox-rows.mjs): the forced cells as the released guide's own fill.sh prints them over the translation b9a7de906e6bc534… (all of the seat's roots in one cut). By AI agents, Wed Nov 11 2026. No macro, syntax, notation, axiom, sorry.
-/
import Derived.Test.YtbhlphadcphapaaChecked
import GoSem.Claim
import GoSem.ClaimJoined
import GoSem.ClaimMapViews
import Derived.JoinedTies
import Derived.KernelRfl
namespace Go.Proofs.Ytbhlphadcphapaa
/- THE CELL 'sum', in the pinned program and in every row, IS THE sha256 OF THE DUMP (.gsa) THAT YtbhlphadcphapaaProg.lean LOADS. Nothing in Lean hashes anything: it is a label: what it is worth is what the hold of that sum in a sandbox is worth. -/
noncomputable def Try.pinned : Pinned := { name := "ytbhlphadcphapaa", sum := "b9a7de906e6bc534c2cbfa76b515b988e8e92fdd6b15fce032a728e460da13a5", checked := Try.checked }
namespace Rows
def none {H : Type} : Left H := { results := [], args := [] }

/-- 'splicelaw08.ChartFirsts': WHATEVER THE INPUT: true; the input reads as it did. -/
def chartFirstsSpec : ChangeSpec := { name := "chartFirsts", fn := fun _ => fun
  | [d1, d2] => { results := [.lit (.bool true)], args := [d1, d2] }
  | _ => none }
def chartFirstsRow : OpenClaim := { program := "ytbhlphadcphapaa", sum := "b9a7de906e6bc534c2cbfa76b515b988e8e92fdd6b15fce032a728e460da13a5", func := "splice/splicelaw08.ChartFirsts", spec := "chartFirsts", unfollowed := true, recurses := true, apart := false }
def ChartFirstsSaid : Prop := chartFirstsRow.holds Try.pinned (OpenSpec.ofChange chartFirstsSpec)

/-- ITS FALSE NEIGHBOUR: 'it returns false'. Refute it at one input. -/
def chartFirstsWrong : ChangeSpec := { name := "chartFirsts", fn := fun _ => fun
  | [d1, d2] => { results := [.lit (.bool false)], args := [d1, d2] }
  | _ => none }
def ChartFirstsWrongFalsely : Prop := chartFirstsRow.holds Try.pinned (OpenSpec.ofChange chartFirstsWrong)

/-- 'splicelaw08.ChartApplies': WHATEVER THE INPUT: true; the input reads as it did. -/
def chartAppliesSpec : ChangeSpec := { name := "chartApplies", fn := fun _ => fun
  | [d1, d2] => { results := [.lit (.bool true)], args := [d1, d2] }
  | _ => none }
def chartAppliesRow : OpenClaim := { program := "ytbhlphadcphapaa", sum := "b9a7de906e6bc534c2cbfa76b515b988e8e92fdd6b15fce032a728e460da13a5", func := "splice/splicelaw08.ChartApplies", spec := "chartApplies", unfollowed := true, recurses := true, apart := false }
def ChartAppliesSaid : Prop := chartAppliesRow.holds Try.pinned (OpenSpec.ofChange chartAppliesSpec)

/-- ITS FALSE NEIGHBOUR: 'it returns false'. Refute it at one input. -/
def chartAppliesWrong : ChangeSpec := { name := "chartApplies", fn := fun _ => fun
  | [d1, d2] => { results := [.lit (.bool false)], args := [d1, d2] }
  | _ => none }
def ChartAppliesWrongFalsely : Prop := chartAppliesRow.holds Try.pinned (OpenSpec.ofChange chartAppliesWrong)

/-- 'splicelaw08.ChartWhole': WHATEVER THE INPUT: true; the input reads as it did. -/
def chartWholeSpec : ChangeSpec := { name := "chartWhole", fn := fun _ => fun
  | [d1, d2, d3] => { results := [.lit (.bool true)], args := [d1, d2, d3] }
  | _ => none }
def chartWholeRow : OpenClaim := { program := "ytbhlphadcphapaa", sum := "b9a7de906e6bc534c2cbfa76b515b988e8e92fdd6b15fce032a728e460da13a5", func := "splice/splicelaw08.ChartWhole", spec := "chartWhole", unfollowed := true, recurses := true, apart := false }
def ChartWholeSaid : Prop := chartWholeRow.holds Try.pinned (OpenSpec.ofChange chartWholeSpec)

/-- ITS FALSE NEIGHBOUR: 'it returns false'. Refute it at one input. -/
def chartWholeWrong : ChangeSpec := { name := "chartWhole", fn := fun _ => fun
  | [d1, d2, d3] => { results := [.lit (.bool false)], args := [d1, d2, d3] }
  | _ => none }
def ChartWholeWrongFalsely : Prop := chartWholeRow.holds Try.pinned (OpenSpec.ofChange chartWholeWrong)

/-- 'splicelaw08.ChartNumbers': WHATEVER THE INPUT: true; the input reads as it did. -/
def chartNumbersSpec : ChangeSpec := { name := "chartNumbers", fn := fun _ => fun
  | [d1, d2, d3] => { results := [.lit (.bool true)], args := [d1, d2, d3] }
  | _ => none }
def chartNumbersRow : OpenClaim := { program := "ytbhlphadcphapaa", sum := "b9a7de906e6bc534c2cbfa76b515b988e8e92fdd6b15fce032a728e460da13a5", func := "splice/splicelaw08.ChartNumbers", spec := "chartNumbers", unfollowed := true, recurses := true, apart := false }
def ChartNumbersSaid : Prop := chartNumbersRow.holds Try.pinned (OpenSpec.ofChange chartNumbersSpec)

/-- ITS FALSE NEIGHBOUR: 'it returns false'. Refute it at one input. -/
def chartNumbersWrong : ChangeSpec := { name := "chartNumbers", fn := fun _ => fun
  | [d1, d2, d3] => { results := [.lit (.bool false)], args := [d1, d2, d3] }
  | _ => none }
def ChartNumbersWrongFalsely : Prop := chartNumbersRow.holds Try.pinned (OpenSpec.ofChange chartNumbersWrong)

/-- 'splicelaw08.ChartLocal': WHATEVER THE INPUT: true; the input reads as it did. -/
def chartLocalSpec : ChangeSpec := { name := "chartLocal", fn := fun _ => fun
  | [d1, d2, d3] => { results := [.lit (.bool true)], args := [d1, d2, d3] }
  | _ => none }
def chartLocalRow : OpenClaim := { program := "ytbhlphadcphapaa", sum := "b9a7de906e6bc534c2cbfa76b515b988e8e92fdd6b15fce032a728e460da13a5", func := "splice/splicelaw08.ChartLocal", spec := "chartLocal", unfollowed := true, recurses := true, apart := false }
def ChartLocalSaid : Prop := chartLocalRow.holds Try.pinned (OpenSpec.ofChange chartLocalSpec)

/-- ITS FALSE NEIGHBOUR: 'it returns false'. Refute it at one input. -/
def chartLocalWrong : ChangeSpec := { name := "chartLocal", fn := fun _ => fun
  | [d1, d2, d3] => { results := [.lit (.bool false)], args := [d1, d2, d3] }
  | _ => none }
def ChartLocalWrongFalsely : Prop := chartLocalRow.holds Try.pinned (OpenSpec.ofChange chartLocalWrong)

/-- 'splicelaw08.ChartOwners': WHATEVER THE INPUT: true; the input reads as it did. -/
def chartOwnersSpec : ChangeSpec := { name := "chartOwners", fn := fun _ => fun
  | [d1, d2, d3] => { results := [.lit (.bool true)], args := [d1, d2, d3] }
  | _ => none }
def chartOwnersRow : OpenClaim := { program := "ytbhlphadcphapaa", sum := "b9a7de906e6bc534c2cbfa76b515b988e8e92fdd6b15fce032a728e460da13a5", func := "splice/splicelaw08.ChartOwners", spec := "chartOwners", unfollowed := true, recurses := true, apart := false }
def ChartOwnersSaid : Prop := chartOwnersRow.holds Try.pinned (OpenSpec.ofChange chartOwnersSpec)

/-- ITS FALSE NEIGHBOUR: 'it returns false'. Refute it at one input. -/
def chartOwnersWrong : ChangeSpec := { name := "chartOwners", fn := fun _ => fun
  | [d1, d2, d3] => { results := [.lit (.bool false)], args := [d1, d2, d3] }
  | _ => none }
def ChartOwnersWrongFalsely : Prop := chartOwnersRow.holds Try.pinned (OpenSpec.ofChange chartOwnersWrong)

/-- 'splicelaw08.ChartSets': WHATEVER THE INPUT: true; the input reads as it did. -/
def chartSetsSpec : ChangeSpec := { name := "chartSets", fn := fun _ => fun
  | [d1, d2, d3] => { results := [.lit (.bool true)], args := [d1, d2, d3] }
  | _ => none }
def chartSetsRow : OpenClaim := { program := "ytbhlphadcphapaa", sum := "b9a7de906e6bc534c2cbfa76b515b988e8e92fdd6b15fce032a728e460da13a5", func := "splice/splicelaw08.ChartSets", spec := "chartSets", unfollowed := true, recurses := true, apart := false }
def ChartSetsSaid : Prop := chartSetsRow.holds Try.pinned (OpenSpec.ofChange chartSetsSpec)

/-- ITS FALSE NEIGHBOUR: 'it returns false'. Refute it at one input. -/
def chartSetsWrong : ChangeSpec := { name := "chartSets", fn := fun _ => fun
  | [d1, d2, d3] => { results := [.lit (.bool false)], args := [d1, d2, d3] }
  | _ => none }
def ChartSetsWrongFalsely : Prop := chartSetsRow.holds Try.pinned (OpenSpec.ofChange chartSetsWrong)

/-- 'splicelaw08.ChartReads': WHATEVER THE INPUT: true; the input reads as it did. -/
def chartReadsSpec : ChangeSpec := { name := "chartReads", fn := fun _ => fun
  | [d1, d2] => { results := [.lit (.bool true)], args := [d1, d2] }
  | _ => none }
def chartReadsRow : OpenClaim := { program := "ytbhlphadcphapaa", sum := "b9a7de906e6bc534c2cbfa76b515b988e8e92fdd6b15fce032a728e460da13a5", func := "splice/splicelaw08.ChartReads", spec := "chartReads", inPlace := ["internal/abi.NoEscape"], unfollowed := true, recurses := true, apart := false }
def ChartReadsSaid : Prop := chartReadsRow.holds Try.pinned (OpenSpec.ofChange chartReadsSpec)

/-- ITS FALSE NEIGHBOUR: 'it returns false'. Refute it at one input. -/
def chartReadsWrong : ChangeSpec := { name := "chartReads", fn := fun _ => fun
  | [d1, d2] => { results := [.lit (.bool false)], args := [d1, d2] }
  | _ => none }
def ChartReadsWrongFalsely : Prop := chartReadsRow.holds Try.pinned (OpenSpec.ofChange chartReadsWrong)

/-- 'splicelaw08.ChartBack': WHATEVER THE INPUT: true; the input reads as it did. -/
def chartBackSpec : ChangeSpec := { name := "chartBack", fn := fun _ => fun
  | [d1, d2] => { results := [.lit (.bool true)], args := [d1, d2] }
  | _ => none }
def chartBackRow : OpenClaim := { program := "ytbhlphadcphapaa", sum := "b9a7de906e6bc534c2cbfa76b515b988e8e92fdd6b15fce032a728e460da13a5", func := "splice/splicelaw08.ChartBack", spec := "chartBack", inPlace := ["internal/abi.NoEscape"], unfollowed := true, recurses := true, apart := false }
def ChartBackSaid : Prop := chartBackRow.holds Try.pinned (OpenSpec.ofChange chartBackSpec)

/-- ITS FALSE NEIGHBOUR: 'it returns false'. Refute it at one input. -/
def chartBackWrong : ChangeSpec := { name := "chartBack", fn := fun _ => fun
  | [d1, d2] => { results := [.lit (.bool false)], args := [d1, d2] }
  | _ => none }
def ChartBackWrongFalsely : Prop := chartBackRow.holds Try.pinned (OpenSpec.ofChange chartBackWrong)

/- THE SECOND FORM. 'bulk': how many values and letters a reading holds, each counted each time it is reached (what is shared counts as often as it is met; a slice's spare places count too). A statement '..UptoSaid' is the law's where the arguments, and the package variables that the reading takes, are together of bulk at most 1048576: NARROWER than '..Said'. Prove '..Said' where nothing that the law and all that it calls make is longer than what came in: it says more and counts as full. Else prove '..UptoSaid'. A law counts once. -/
mutual
def uptoBulk {H : Type} : DataW H → Nat
  | .lit (.string bytes) => bytes.length + 1
  | .lit _ => 1
  | .nil => 1
  | .ptr d => uptoBulk d + 1
  | .slice elems spare => uptoBulkAll elems + uptoBulkAll spare + 1
  | .agg parts => uptoBulkAll parts + 1
  | .iface _ d => uptoBulk d + 1
  | .map entries => uptoBulkEntries entries + 1
  | .held _ => 1
def uptoBulkAll {H : Type} : List (DataW H) → Nat
  | [] => 0
  | d :: r => uptoBulk d + uptoBulkAll r
def uptoBulkEntries {H : Type} : List (Lit × DataW H) → Nat
  | [] => 0
  | x :: r => uptoBulkEntry x + uptoBulkEntries r
def uptoBulkEntry {H : Type} : Lit × DataW H → Nat
  | (.string bytes, d) => bytes.length + uptoBulk d + 1
  | (_, d) => uptoBulk d + 1
 end
def uptoSmall : (H : Type) → List (DataW H) → Bool := fun _ ds => decide (uptoBulkAll ds ≤ 1048576)
def OpenSpec.upto (s : _root_.Go.ChangeSpec) : _root_.Go.OpenSpec := { _root_.Go.OpenSpec.ofChange s with cond := some uptoSmall }

/-- 'splicelaw08.ChartFirsts', WHERE WHAT IT READS IS OF BULK AT MOST 1048576: true; the input reads as it did. -/
def chartFirstsUptoRow : OpenClaim := { program := "ytbhlphadcphapaa", sum := "b9a7de906e6bc534c2cbfa76b515b988e8e92fdd6b15fce032a728e460da13a5", func := "splice/splicelaw08.ChartFirsts", spec := "chartFirsts", unfollowed := true, recurses := true, apart := false, narrowed := true }
def ChartFirstsUptoSaid : Prop := chartFirstsUptoRow.holds Try.pinned (OpenSpec.upto chartFirstsSpec)

/-- 'splicelaw08.ChartApplies', WHERE WHAT IT READS IS OF BULK AT MOST 1048576: true; the input reads as it did. -/
def chartAppliesUptoRow : OpenClaim := { program := "ytbhlphadcphapaa", sum := "b9a7de906e6bc534c2cbfa76b515b988e8e92fdd6b15fce032a728e460da13a5", func := "splice/splicelaw08.ChartApplies", spec := "chartApplies", unfollowed := true, recurses := true, apart := false, narrowed := true }
def ChartAppliesUptoSaid : Prop := chartAppliesUptoRow.holds Try.pinned (OpenSpec.upto chartAppliesSpec)

/-- 'splicelaw08.ChartWhole', WHERE WHAT IT READS IS OF BULK AT MOST 1048576: true; the input reads as it did. -/
def chartWholeUptoRow : OpenClaim := { program := "ytbhlphadcphapaa", sum := "b9a7de906e6bc534c2cbfa76b515b988e8e92fdd6b15fce032a728e460da13a5", func := "splice/splicelaw08.ChartWhole", spec := "chartWhole", unfollowed := true, recurses := true, apart := false, narrowed := true }
def ChartWholeUptoSaid : Prop := chartWholeUptoRow.holds Try.pinned (OpenSpec.upto chartWholeSpec)

/-- 'splicelaw08.ChartNumbers', WHERE WHAT IT READS IS OF BULK AT MOST 1048576: true; the input reads as it did. -/
def chartNumbersUptoRow : OpenClaim := { program := "ytbhlphadcphapaa", sum := "b9a7de906e6bc534c2cbfa76b515b988e8e92fdd6b15fce032a728e460da13a5", func := "splice/splicelaw08.ChartNumbers", spec := "chartNumbers", unfollowed := true, recurses := true, apart := false, narrowed := true }
def ChartNumbersUptoSaid : Prop := chartNumbersUptoRow.holds Try.pinned (OpenSpec.upto chartNumbersSpec)

/-- 'splicelaw08.ChartLocal', WHERE WHAT IT READS IS OF BULK AT MOST 1048576: true; the input reads as it did. -/
def chartLocalUptoRow : OpenClaim := { program := "ytbhlphadcphapaa", sum := "b9a7de906e6bc534c2cbfa76b515b988e8e92fdd6b15fce032a728e460da13a5", func := "splice/splicelaw08.ChartLocal", spec := "chartLocal", unfollowed := true, recurses := true, apart := false, narrowed := true }
def ChartLocalUptoSaid : Prop := chartLocalUptoRow.holds Try.pinned (OpenSpec.upto chartLocalSpec)

/-- 'splicelaw08.ChartOwners', WHERE WHAT IT READS IS OF BULK AT MOST 1048576: true; the input reads as it did. -/
def chartOwnersUptoRow : OpenClaim := { program := "ytbhlphadcphapaa", sum := "b9a7de906e6bc534c2cbfa76b515b988e8e92fdd6b15fce032a728e460da13a5", func := "splice/splicelaw08.ChartOwners", spec := "chartOwners", unfollowed := true, recurses := true, apart := false, narrowed := true }
def ChartOwnersUptoSaid : Prop := chartOwnersUptoRow.holds Try.pinned (OpenSpec.upto chartOwnersSpec)

/-- 'splicelaw08.ChartSets', WHERE WHAT IT READS IS OF BULK AT MOST 1048576: true; the input reads as it did. -/
def chartSetsUptoRow : OpenClaim := { program := "ytbhlphadcphapaa", sum := "b9a7de906e6bc534c2cbfa76b515b988e8e92fdd6b15fce032a728e460da13a5", func := "splice/splicelaw08.ChartSets", spec := "chartSets", unfollowed := true, recurses := true, apart := false, narrowed := true }
def ChartSetsUptoSaid : Prop := chartSetsUptoRow.holds Try.pinned (OpenSpec.upto chartSetsSpec)

/-- 'splicelaw08.ChartReads', WHERE WHAT IT READS IS OF BULK AT MOST 1048576: true; the input reads as it did. -/
def chartReadsUptoRow : OpenClaim := { program := "ytbhlphadcphapaa", sum := "b9a7de906e6bc534c2cbfa76b515b988e8e92fdd6b15fce032a728e460da13a5", func := "splice/splicelaw08.ChartReads", spec := "chartReads", inPlace := ["internal/abi.NoEscape"], unfollowed := true, recurses := true, apart := false, narrowed := true }
def ChartReadsUptoSaid : Prop := chartReadsUptoRow.holds Try.pinned (OpenSpec.upto chartReadsSpec)

/-- 'splicelaw08.ChartBack', WHERE WHAT IT READS IS OF BULK AT MOST 1048576: true; the input reads as it did. -/
def chartBackUptoRow : OpenClaim := { program := "ytbhlphadcphapaa", sum := "b9a7de906e6bc534c2cbfa76b515b988e8e92fdd6b15fce032a728e460da13a5", func := "splice/splicelaw08.ChartBack", spec := "chartBack", inPlace := ["internal/abi.NoEscape"], unfollowed := true, recurses := true, apart := false, narrowed := true }
def ChartBackUptoSaid : Prop := chartBackUptoRow.holds Try.pinned (OpenSpec.upto chartBackSpec)

end Rows
end Go.Proofs.Ytbhlphadcphapaa
