-- words that the kit's print wrote for this claim, cut to what is used by a program of this session
import Derived.Test.YteclhjhnbolkmaaWInv
import Derived.Test.YteclhjhnbolkmaaWFootNe
namespace Go.Proofs.YteclhjhnbolkmaaW.PrintWords
open Go.RowKit
end Go.Proofs.YteclhjhnbolkmaaW.PrintWords
namespace Go.Proofs.YteclhjhnbolkmaaW.PrintLast
section
variable {ops : Array Oper} {a : Act} {o og : Oper} {g : Nat} {t : Tmp} {u : Bool}
end
end Go.Proofs.YteclhjhnbolkmaaW.PrintLast
