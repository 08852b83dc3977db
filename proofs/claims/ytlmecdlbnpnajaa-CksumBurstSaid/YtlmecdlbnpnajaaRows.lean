/-
  No cell of these rows narrows 'for every input' (looked for: loops, veiled, ifaces, maps, wideKeys, modest, calm, conditions, laid).
  DERIVED. THE GIVEN ROWS OF THIS SEAT. 7 by the template 'for every input the law returns true; each argument reads behind the call as it read before'; 0 by the template 'total and deterministic' (their statements: YtlmecdlbnpnajaaTotals.lean).
  GIVEN WITH THE SEED: the statements are not yours to turn. If you find one false, say at which input.
  Laid BY PROGRAM, IN A SANDBOX (cutbox-rows.mjs): the forced cells as the released guide's own fill.sh prints them over the translation 5791ec1708e08ff9… (all of the seat's roots in one cut). By AI agents, Wed Nov 11 2026. No macro, syntax, notation, axiom, sorry.
-/
import Derived.Test.YtlmecdlbnpnajaaChecked
import GoSem.Claim
import GoSem.ClaimJoined
import GoSem.ClaimMapViews
import Derived.JoinedTies
import Derived.KernelRfl
namespace Go.Proofs.Ytlmecdlbnpnajaa
/- THE CELL 'sum', in the pinned program and in every row, IS THE sha256 OF THE DUMP (.gsa) THAT YtlmecdlbnpnajaaProg.lean LOADS. Nothing in Lean hashes anything: it is a label: what it is worth is what the hold of that sum in a sandbox is worth. -/
noncomputable def Try.pinned : Pinned := { name := "ytlmecdlbnpnajaa", sum := "5791ec1708e08ff9468add31003cb8ea1a94aa7b892f303786db1d4ad2f73ca4", checked := Try.checked }
namespace Rows
def none {H : Type} : Left H := { results := [], args := [] }

/-- 'splicelaw02.CksumSums': WHATEVER THE INPUT: true; the input reads as it did. -/
def cksumSumsSpec : ChangeSpec := { name := "cksumSums", fn := fun _ => fun
  | [d] => { results := [.lit (.bool true)], args := [d] }
  | _ => none }
def cksumSumsRow : OpenClaim := { program := "ytlmecdlbnpnajaa", sum := "5791ec1708e08ff9468add31003cb8ea1a94aa7b892f303786db1d4ad2f73ca4", func := "splice/splicelaw02.CksumSums", spec := "cksumSums", apart := false }
def CksumSumsSaid : Prop := cksumSumsRow.holds Try.pinned (OpenSpec.ofChange cksumSumsSpec)

/-- ITS FALSE NEIGHBOUR: 'it returns false'. Refute it at one input. -/
def cksumSumsWrong : ChangeSpec := { name := "cksumSums", fn := fun _ => fun
  | [d] => { results := [.lit (.bool false)], args := [d] }
  | _ => none }
def CksumSumsWrongFalsely : Prop := cksumSumsRow.holds Try.pinned (OpenSpec.ofChange cksumSumsWrong)

/-- 'splicelaw02.CksumFrames': WHATEVER THE INPUT: true; the input reads as it did. -/
def cksumFramesSpec : ChangeSpec := { name := "cksumFrames", fn := fun _ => fun
  | [d] => { results := [.lit (.bool true)], args := [d] }
  | _ => none }
def cksumFramesRow : OpenClaim := { program := "ytlmecdlbnpnajaa", sum := "5791ec1708e08ff9468add31003cb8ea1a94aa7b892f303786db1d4ad2f73ca4", func := "splice/splicelaw02.CksumFrames", spec := "cksumFrames", apart := false }
def CksumFramesSaid : Prop := cksumFramesRow.holds Try.pinned (OpenSpec.ofChange cksumFramesSpec)

/-- ITS FALSE NEIGHBOUR: 'it returns false'. Refute it at one input. -/
def cksumFramesWrong : ChangeSpec := { name := "cksumFrames", fn := fun _ => fun
  | [d] => { results := [.lit (.bool false)], args := [d] }
  | _ => none }
def CksumFramesWrongFalsely : Prop := cksumFramesRow.holds Try.pinned (OpenSpec.ofChange cksumFramesWrong)

/-- 'splicelaw02.CksumMixes': WHATEVER THE INPUT: true; the input reads as it did. -/
def cksumMixesSpec : ChangeSpec := { name := "cksumMixes", fn := fun _ => fun
  | [d1, d2, d3] => { results := [.lit (.bool true)], args := [d1, d2, d3] }
  | _ => none }
def cksumMixesRow : OpenClaim := { program := "ytlmecdlbnpnajaa", sum := "5791ec1708e08ff9468add31003cb8ea1a94aa7b892f303786db1d4ad2f73ca4", func := "splice/splicelaw02.CksumMixes", spec := "cksumMixes", apart := false }
def CksumMixesSaid : Prop := cksumMixesRow.holds Try.pinned (OpenSpec.ofChange cksumMixesSpec)

/-- ITS FALSE NEIGHBOUR: 'it returns false'. Refute it at one input. -/
def cksumMixesWrong : ChangeSpec := { name := "cksumMixes", fn := fun _ => fun
  | [d1, d2, d3] => { results := [.lit (.bool false)], args := [d1, d2, d3] }
  | _ => none }
def CksumMixesWrongFalsely : Prop := cksumMixesRow.holds Try.pinned (OpenSpec.ofChange cksumMixesWrong)

/-- 'splicelaw02.CksumApart': WHATEVER THE INPUT: true; the input reads as it did. -/
def cksumApartSpec : ChangeSpec := { name := "cksumApart", fn := fun _ => fun
  | [d1, d2] => { results := [.lit (.bool true)], args := [d1, d2] }
  | _ => none }
def cksumApartRow : OpenClaim := { program := "ytlmecdlbnpnajaa", sum := "5791ec1708e08ff9468add31003cb8ea1a94aa7b892f303786db1d4ad2f73ca4", func := "splice/splicelaw02.CksumApart", spec := "cksumApart", apart := false }
def CksumApartSaid : Prop := cksumApartRow.holds Try.pinned (OpenSpec.ofChange cksumApartSpec)

/-- ITS FALSE NEIGHBOUR: 'it returns false'. Refute it at one input. -/
def cksumApartWrong : ChangeSpec := { name := "cksumApart", fn := fun _ => fun
  | [d1, d2] => { results := [.lit (.bool false)], args := [d1, d2] }
  | _ => none }
def CksumApartWrongFalsely : Prop := cksumApartRow.holds Try.pinned (OpenSpec.ofChange cksumApartWrong)

/-- 'splicelaw02.CksumBack': WHATEVER THE INPUT: true; the input reads as it did. -/
def cksumBackSpec : ChangeSpec := { name := "cksumBack", fn := fun _ => fun
  | [d1, d2] => { results := [.lit (.bool true)], args := [d1, d2] }
  | _ => none }
def cksumBackRow : OpenClaim := { program := "ytlmecdlbnpnajaa", sum := "5791ec1708e08ff9468add31003cb8ea1a94aa7b892f303786db1d4ad2f73ca4", func := "splice/splicelaw02.CksumBack", spec := "cksumBack", apart := false }
def CksumBackSaid : Prop := cksumBackRow.holds Try.pinned (OpenSpec.ofChange cksumBackSpec)

/-- ITS FALSE NEIGHBOUR: 'it returns false'. Refute it at one input. -/
def cksumBackWrong : ChangeSpec := { name := "cksumBack", fn := fun _ => fun
  | [d1, d2] => { results := [.lit (.bool false)], args := [d1, d2] }
  | _ => none }
def CksumBackWrongFalsely : Prop := cksumBackRow.holds Try.pinned (OpenSpec.ofChange cksumBackWrong)

/-- 'splicelaw02.CksumOpens': WHATEVER THE INPUT: true; the input reads as it did. -/
def cksumOpensSpec : ChangeSpec := { name := "cksumOpens", fn := fun _ => fun
  | [d] => { results := [.lit (.bool true)], args := [d] }
  | _ => none }
def cksumOpensRow : OpenClaim := { program := "ytlmecdlbnpnajaa", sum := "5791ec1708e08ff9468add31003cb8ea1a94aa7b892f303786db1d4ad2f73ca4", func := "splice/splicelaw02.CksumOpens", spec := "cksumOpens", apart := false }
def CksumOpensSaid : Prop := cksumOpensRow.holds Try.pinned (OpenSpec.ofChange cksumOpensSpec)

/-- ITS FALSE NEIGHBOUR: 'it returns false'. Refute it at one input. -/
def cksumOpensWrong : ChangeSpec := { name := "cksumOpens", fn := fun _ => fun
  | [d] => { results := [.lit (.bool false)], args := [d] }
  | _ => none }
def CksumOpensWrongFalsely : Prop := cksumOpensRow.holds Try.pinned (OpenSpec.ofChange cksumOpensWrong)

/-- 'splicelaw02.CksumBurst': WHATEVER THE INPUT: true; the input reads as it did. -/
def cksumBurstSpec : ChangeSpec := { name := "cksumBurst", fn := fun _ => fun
  | [d1, d2, d3] => { results := [.lit (.bool true)], args := [d1, d2, d3] }
  | _ => none }
def cksumBurstRow : OpenClaim := { program := "ytlmecdlbnpnajaa", sum := "5791ec1708e08ff9468add31003cb8ea1a94aa7b892f303786db1d4ad2f73ca4", func := "splice/splicelaw02.CksumBurst", spec := "cksumBurst", apart := false }
def CksumBurstSaid : Prop := cksumBurstRow.holds Try.pinned (OpenSpec.ofChange cksumBurstSpec)

/-- ITS FALSE NEIGHBOUR: 'it returns false'. Refute it at one input. -/
def cksumBurstWrong : ChangeSpec := { name := "cksumBurst", fn := fun _ => fun
  | [d1, d2, d3] => { results := [.lit (.bool false)], args := [d1, d2, d3] }
  | _ => none }
def CksumBurstWrongFalsely : Prop := cksumBurstRow.holds Try.pinned (OpenSpec.ofChange cksumBurstWrong)

/- THE SECOND FORM. 'bulk': how many values and letters a reading holds, each counted each time it is reached (what is shared counts as often as it is met; a slice's spare places count too). A statement '..UptoSaid' is the law's where the arguments, and the package variables that the reading takes, are together of bulk at most 1048576: NARROWER than '..Said'. Prove '..Said' where nothing that the law and all that it calls make is longer than what came in: it says more and counts as full. Else prove '..UptoSaid'. A law counts once. -/
mutual
def uptoBulk {H : Type} : DataW H → Nat
  | .lit (.string bytes) => bytes.length + 1
  | .lit _ => 1
  | .nil => 1
  | .ptr d => uptoBulk d + 1
  | .slice elems spare => uptoBulkAll elems + uptoBulkAll spare + 1
  | .agg parts => uptoBulkAll parts + 1
  | .iface _ d => uptoBulk d + 1
  | .map entries => uptoBulkEntries entries + 1
  | .held _ => 1
def uptoBulkAll {H : Type} : List (DataW H) → Nat
  | [] => 0
  | d :: r => uptoBulk d + uptoBulkAll r
def uptoBulkEntries {H : Type} : List (Lit × DataW H) → Nat
  | [] => 0
  | x :: r => uptoBulkEntry x + uptoBulkEntries r
def uptoBulkEntry {H : Type} : Lit × DataW H → Nat
  | (.string bytes, d) => bytes.length + uptoBulk d + 1
  | (_, d) => uptoBulk d + 1
 end
def uptoSmall : (H : Type) → List (DataW H) → Bool := fun _ ds => decide (uptoBulkAll ds ≤ 1048576)
def OpenSpec.upto (s : _root_.Go.ChangeSpec) : _root_.Go.OpenSpec := { _root_.Go.OpenSpec.ofChange s with cond := some uptoSmall }

/-- 'splicelaw02.CksumSums', WHERE WHAT IT READS IS OF BULK AT MOST 1048576: true; the input reads as it did. -/
def cksumSumsUptoRow : OpenClaim := { program := "ytlmecdlbnpnajaa", sum := "5791ec1708e08ff9468add31003cb8ea1a94aa7b892f303786db1d4ad2f73ca4", func := "splice/splicelaw02.CksumSums", spec := "cksumSums", apart := false, narrowed := true }
def CksumSumsUptoSaid : Prop := cksumSumsUptoRow.holds Try.pinned (OpenSpec.upto cksumSumsSpec)

/-- 'splicelaw02.CksumFrames', WHERE WHAT IT READS IS OF BULK AT MOST 1048576: true; the input reads as it did. -/
def cksumFramesUptoRow : OpenClaim := { program := "ytlmecdlbnpnajaa", sum := "5791ec1708e08ff9468add31003cb8ea1a94aa7b892f303786db1d4ad2f73ca4", func := "splice/splicelaw02.CksumFrames", spec := "cksumFrames", apart := false, narrowed := true }
def CksumFramesUptoSaid : Prop := cksumFramesUptoRow.holds Try.pinned (OpenSpec.upto cksumFramesSpec)

/-- 'splicelaw02.CksumMixes', WHERE WHAT IT READS IS OF BULK AT MOST 1048576: true; the input reads as it did. -/
def cksumMixesUptoRow : OpenClaim := { program := "ytlmecdlbnpnajaa", sum := "5791ec1708e08ff9468add31003cb8ea1a94aa7b892f303786db1d4ad2f73ca4", func := "splice/splicelaw02.CksumMixes", spec := "cksumMixes", apart := false, narrowed := true }
def CksumMixesUptoSaid : Prop := cksumMixesUptoRow.holds Try.pinned (OpenSpec.upto cksumMixesSpec)

/-- 'splicelaw02.CksumApart', WHERE WHAT IT READS IS OF BULK AT MOST 1048576: true; the input reads as it did. -/
def cksumApartUptoRow : OpenClaim := { program := "ytlmecdlbnpnajaa", sum := "5791ec1708e08ff9468add31003cb8ea1a94aa7b892f303786db1d4ad2f73ca4", func := "splice/splicelaw02.CksumApart", spec := "cksumApart", apart := false, narrowed := true }
def CksumApartUptoSaid : Prop := cksumApartUptoRow.holds Try.pinned (OpenSpec.upto cksumApartSpec)

/-- 'splicelaw02.CksumBack', WHERE WHAT IT READS IS OF BULK AT MOST 1048576: true; the input reads as it did. -/
def cksumBackUptoRow : OpenClaim := { program := "ytlmecdlbnpnajaa", sum := "5791ec1708e08ff9468add31003cb8ea1a94aa7b892f303786db1d4ad2f73ca4", func := "splice/splicelaw02.CksumBack", spec := "cksumBack", apart := false, narrowed := true }
def CksumBackUptoSaid : Prop := cksumBackUptoRow.holds Try.pinned (OpenSpec.upto cksumBackSpec)

/-- 'splicelaw02.CksumOpens', WHERE WHAT IT READS IS OF BULK AT MOST 1048576: true; the input reads as it did. -/
def cksumOpensUptoRow : OpenClaim := { program := "ytlmecdlbnpnajaa", sum := "5791ec1708e08ff9468add31003cb8ea1a94aa7b892f303786db1d4ad2f73ca4", func := "splice/splicelaw02.CksumOpens", spec := "cksumOpens", apart := false, narrowed := true }
def CksumOpensUptoSaid : Prop := cksumOpensUptoRow.holds Try.pinned (OpenSpec.upto cksumOpensSpec)

/-- 'splicelaw02.CksumBurst', WHERE WHAT IT READS IS OF BULK AT MOST 1048576: true; the input reads as it did. -/
def cksumBurstUptoRow : OpenClaim := { program := "ytlmecdlbnpnajaa", sum := "5791ec1708e08ff9468add31003cb8ea1a94aa7b892f303786db1d4ad2f73ca4", func := "splice/splicelaw02.CksumBurst", spec := "cksumBurst", apart := false, narrowed := true }
def CksumBurstUptoSaid : Prop := cksumBurstUptoRow.holds Try.pinned (OpenSpec.upto cksumBurstSpec)

end Rows
end Go.Proofs.Ytlmecdlbnpnajaa
