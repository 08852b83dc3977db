-- words that the kit's print wrote for this claim, cut to what is used by a program of this session
import Derived.Test.YteclhjhnbolkmaaWTab
namespace Go.Proofs.YteclhjhnbolkmaaW.PrintLast
section
variable {P : Program} {ops : Array Oper} {Q : Exit → Act → World → Prop} {md : Region.Mode} {S : World → Prop} {ds : List Nat} {T : Bool × List (List Nat × List Nat)}
end
end Go.Proofs.YteclhjhnbolkmaaW.PrintLast
