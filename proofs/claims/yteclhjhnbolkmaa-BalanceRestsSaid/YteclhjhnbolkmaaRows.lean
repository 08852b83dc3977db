/-
  No cell of these rows narrows 'for every input' (looked for: loops, veiled, ifaces, maps, wideKeys, modest, calm, conditions, laid).
  DERIVED. THE GIVEN ROWS OF THIS SEAT. 5 by the template 'for every input the law returns true; each argument reads behind the call as it read before'; 0 by the template 'total and deterministic' (their statements: YteclhjhnbolkmaaTotals.lean).
  GIVEN WITH THE SEED: the statements are not yours to turn. If you find one false, say at which input.
  Laid BY PROGRAM, IN A SANDBOX (cutbox-rows.mjs): the forced cells as the released guide's own fill.sh prints them over the translation cf2cccf15945eb1e… (all of the seat's roots in one cut). By AI agents, Wed Nov 11 2026. No macro, syntax, notation, axiom, sorry.
-/
import Derived.Test.YteclhjhnbolkmaaChecked
import GoSem.Claim
import GoSem.ClaimJoined
import GoSem.ClaimMapViews
import Derived.JoinedTies
import Derived.KernelRfl
namespace Go.Proofs.Yteclhjhnbolkmaa
/- THE CELL 'sum', in the pinned program and in every row, IS THE sha256 OF THE DUMP (.gsa) THAT YteclhjhnbolkmaaProg.lean LOADS. Nothing in Lean hashes anything: it is a label: what it is worth is what the hold of that sum in a sandbox is worth. -/
noncomputable def Try.pinned : Pinned := { name := "yteclhjhnbolkmaa", sum := "cf2cccf15945eb1edae5ff538282e4391f290059dbe0308fdf0cd18e244ce8ea", checked := Try.checked }
namespace Rows
def none {H : Type} : Left H := { results := [], args := [] }

/-- 'splicelaw25.BalanceLoads': WHATEVER THE INPUT: true; the input reads as it did. -/
def balanceLoadsSpec : ChangeSpec := { name := "balanceLoads", fn := fun _ => fun
  | [d] => { results := [.lit (.bool true)], args := [d] }
  | _ => none }
def balanceLoadsRow : OpenClaim := { program := "yteclhjhnbolkmaa", sum := "cf2cccf15945eb1edae5ff538282e4391f290059dbe0308fdf0cd18e244ce8ea", func := "splice/splicelaw25.BalanceLoads", spec := "balanceLoads", unfollowed := true, recurses := true, apart := false }
def BalanceLoadsSaid : Prop := balanceLoadsRow.holds Try.pinned (OpenSpec.ofChange balanceLoadsSpec)

/-- ITS FALSE NEIGHBOUR: 'it returns false'. Refute it at one input. -/
def balanceLoadsWrong : ChangeSpec := { name := "balanceLoads", fn := fun _ => fun
  | [d] => { results := [.lit (.bool false)], args := [d] }
  | _ => none }
def BalanceLoadsWrongFalsely : Prop := balanceLoadsRow.holds Try.pinned (OpenSpec.ofChange balanceLoadsWrong)

/-- 'splicelaw25.BalanceSuggests': WHATEVER THE INPUT: true; the input reads as it did. -/
def balanceSuggestsSpec : ChangeSpec := { name := "balanceSuggests", fn := fun _ => fun
  | [d] => { results := [.lit (.bool true)], args := [d] }
  | _ => none }
def balanceSuggestsRow : OpenClaim := { program := "yteclhjhnbolkmaa", sum := "cf2cccf15945eb1edae5ff538282e4391f290059dbe0308fdf0cd18e244ce8ea", func := "splice/splicelaw25.BalanceSuggests", spec := "balanceSuggests", unfollowed := true, recurses := true, apart := false }
def BalanceSuggestsSaid : Prop := balanceSuggestsRow.holds Try.pinned (OpenSpec.ofChange balanceSuggestsSpec)

/-- ITS FALSE NEIGHBOUR: 'it returns false'. Refute it at one input. -/
def balanceSuggestsWrong : ChangeSpec := { name := "balanceSuggests", fn := fun _ => fun
  | [d] => { results := [.lit (.bool false)], args := [d] }
  | _ => none }
def BalanceSuggestsWrongFalsely : Prop := balanceSuggestsRow.holds Try.pinned (OpenSpec.ofChange balanceSuggestsWrong)

/-- 'splicelaw25.BalanceBetter': WHATEVER THE INPUT: true; the input reads as it did. -/
def balanceBetterSpec : ChangeSpec := { name := "balanceBetter", fn := fun _ => fun
  | [d] => { results := [.lit (.bool true)], args := [d] }
  | _ => none }
def balanceBetterRow : OpenClaim := { program := "yteclhjhnbolkmaa", sum := "cf2cccf15945eb1edae5ff538282e4391f290059dbe0308fdf0cd18e244ce8ea", func := "splice/splicelaw25.BalanceBetter", spec := "balanceBetter", unfollowed := true, recurses := true, apart := false }
def BalanceBetterSaid : Prop := balanceBetterRow.holds Try.pinned (OpenSpec.ofChange balanceBetterSpec)

/-- ITS FALSE NEIGHBOUR: 'it returns false'. Refute it at one input. -/
def balanceBetterWrong : ChangeSpec := { name := "balanceBetter", fn := fun _ => fun
  | [d] => { results := [.lit (.bool false)], args := [d] }
  | _ => none }
def BalanceBetterWrongFalsely : Prop := balanceBetterRow.holds Try.pinned (OpenSpec.ofChange balanceBetterWrong)

/-- 'splicelaw25.BalanceRests': WHATEVER THE INPUT: true; the input reads as it did. -/
def balanceRestsSpec : ChangeSpec := { name := "balanceRests", fn := fun _ => fun
  | [d] => { results := [.lit (.bool true)], args := [d] }
  | _ => none }
def balanceRestsRow : OpenClaim := { program := "yteclhjhnbolkmaa", sum := "cf2cccf15945eb1edae5ff538282e4391f290059dbe0308fdf0cd18e244ce8ea", func := "splice/splicelaw25.BalanceRests", spec := "balanceRests", unfollowed := true, recurses := true, apart := false }
def BalanceRestsSaid : Prop := balanceRestsRow.holds Try.pinned (OpenSpec.ofChange balanceRestsSpec)

/-- ITS FALSE NEIGHBOUR: 'it returns false'. Refute it at one input. -/
def balanceRestsWrong : ChangeSpec := { name := "balanceRests", fn := fun _ => fun
  | [d] => { results := [.lit (.bool false)], args := [d] }
  | _ => none }
def BalanceRestsWrongFalsely : Prop := balanceRestsRow.holds Try.pinned (OpenSpec.ofChange balanceRestsWrong)

/-- 'splicelaw25.BalanceRuns': WHATEVER THE INPUT: true; the input reads as it did. -/
def balanceRunsSpec : ChangeSpec := { name := "balanceRuns", fn := fun _ => fun
  | [d1, d2] => { results := [.lit (.bool true)], args := [d1, d2] }
  | _ => none }
def balanceRunsRow : OpenClaim := { program := "yteclhjhnbolkmaa", sum := "cf2cccf15945eb1edae5ff538282e4391f290059dbe0308fdf0cd18e244ce8ea", func := "splice/splicelaw25.BalanceRuns", spec := "balanceRuns", unfollowed := true, recurses := true, apart := false }
def BalanceRunsSaid : Prop := balanceRunsRow.holds Try.pinned (OpenSpec.ofChange balanceRunsSpec)

/-- ITS FALSE NEIGHBOUR: 'it returns false'. Refute it at one input. -/
def balanceRunsWrong : ChangeSpec := { name := "balanceRuns", fn := fun _ => fun
  | [d1, d2] => { results := [.lit (.bool false)], args := [d1, d2] }
  | _ => none }
def BalanceRunsWrongFalsely : Prop := balanceRunsRow.holds Try.pinned (OpenSpec.ofChange balanceRunsWrong)

/- THE SECOND FORM. 'bulk': how many values and letters a reading holds, each counted each time it is reached (what is shared counts as often as it is met; a slice's spare places count too). A statement '..UptoSaid' is the law's where the arguments, and the package variables that the reading takes, are together of bulk at most 1048576: NARROWER than '..Said'. Prove '..Said' where nothing that the law and all that it calls make is longer than what came in: it says more and counts as full. Else prove '..UptoSaid'. A law counts once. -/
mutual
def uptoBulk {H : Type} : DataW H → Nat
  | .lit (.string bytes) => bytes.length + 1
  | .lit _ => 1
  | .nil => 1
  | .ptr d => uptoBulk d + 1
  | .slice elems spare => uptoBulkAll elems + uptoBulkAll spare + 1
  | .agg parts => uptoBulkAll parts + 1
  | .iface _ d => uptoBulk d + 1
  | .map entries => uptoBulkEntries entries + 1
  | .held _ => 1
def uptoBulkAll {H : Type} : List (DataW H) → Nat
  | [] => 0
  | d :: r => uptoBulk d + uptoBulkAll r
def uptoBulkEntries {H : Type} : List (Lit × DataW H) → Nat
  | [] => 0
  | x :: r => uptoBulkEntry x + uptoBulkEntries r
def uptoBulkEntry {H : Type} : Lit × DataW H → Nat
  | (.string bytes, d) => bytes.length + uptoBulk d + 1
  | (_, d) => uptoBulk d + 1
 end
def uptoSmall : (H : Type) → List (DataW H) → Bool := fun _ ds => decide (uptoBulkAll ds ≤ 1048576)
def OpenSpec.upto (s : _root_.Go.ChangeSpec) : _root_.Go.OpenSpec := { _root_.Go.OpenSpec.ofChange s with cond := some uptoSmall }

/-- 'splicelaw25.BalanceLoads', WHERE WHAT IT READS IS OF BULK AT MOST 1048576: true; the input reads as it did. -/
def balanceLoadsUptoRow : OpenClaim := { program := "yteclhjhnbolkmaa", sum := "cf2cccf15945eb1edae5ff538282e4391f290059dbe0308fdf0cd18e244ce8ea", func := "splice/splicelaw25.BalanceLoads", spec := "balanceLoads", unfollowed := true, recurses := true, apart := false, narrowed := true }
def BalanceLoadsUptoSaid : Prop := balanceLoadsUptoRow.holds Try.pinned (OpenSpec.upto balanceLoadsSpec)

/-- 'splicelaw25.BalanceSuggests', WHERE WHAT IT READS IS OF BULK AT MOST 1048576: true; the input reads as it did. -/
def balanceSuggestsUptoRow : OpenClaim := { program := "yteclhjhnbolkmaa", sum := "cf2cccf15945eb1edae5ff538282e4391f290059dbe0308fdf0cd18e244ce8ea", func := "splice/splicelaw25.BalanceSuggests", spec := "balanceSuggests", unfollowed := true, recurses := true, apart := false, narrowed := true }
def BalanceSuggestsUptoSaid : Prop := balanceSuggestsUptoRow.holds Try.pinned (OpenSpec.upto balanceSuggestsSpec)

/-- 'splicelaw25.BalanceBetter', WHERE WHAT IT READS IS OF BULK AT MOST 1048576: true; the input reads as it did. -/
def balanceBetterUptoRow : OpenClaim := { program := "yteclhjhnbolkmaa", sum := "cf2cccf15945eb1edae5ff538282e4391f290059dbe0308fdf0cd18e244ce8ea", func := "splice/splicelaw25.BalanceBetter", spec := "balanceBetter", unfollowed := true, recurses := true, apart := false, narrowed := true }
def BalanceBetterUptoSaid : Prop := balanceBetterUptoRow.holds Try.pinned (OpenSpec.upto balanceBetterSpec)

/-- 'splicelaw25.BalanceRests', WHERE WHAT IT READS IS OF BULK AT MOST 1048576: true; the input reads as it did. -/
def balanceRestsUptoRow : OpenClaim := { program := "yteclhjhnbolkmaa", sum := "cf2cccf15945eb1edae5ff538282e4391f290059dbe0308fdf0cd18e244ce8ea", func := "splice/splicelaw25.BalanceRests", spec := "balanceRests", unfollowed := true, recurses := true, apart := false, narrowed := true }
def BalanceRestsUptoSaid : Prop := balanceRestsUptoRow.holds Try.pinned (OpenSpec.upto balanceRestsSpec)

/-- 'splicelaw25.BalanceRuns', WHERE WHAT IT READS IS OF BULK AT MOST 1048576: true; the input reads as it did. -/
def balanceRunsUptoRow : OpenClaim := { program := "yteclhjhnbolkmaa", sum := "cf2cccf15945eb1edae5ff538282e4391f290059dbe0308fdf0cd18e244ce8ea", func := "splice/splicelaw25.BalanceRuns", spec := "balanceRuns", unfollowed := true, recurses := true, apart := false, narrowed := true }
def BalanceRunsUptoSaid : Prop := balanceRunsUptoRow.holds Try.pinned (OpenSpec.upto balanceRunsSpec)

end Rows
end Go.Proofs.Yteclhjhnbolkmaa
