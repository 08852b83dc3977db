-- words that the kit's print wrote for this claim, cut to what is used by a program of this session
import Derived.Test.YtbhlphadcphapaaWInv
import Derived.Test.YtbhlphadcphapaaWFootNe
namespace Go.Proofs.YtbhlphadcphapaaW.PrintWords
open Go.RowKit
end Go.Proofs.YtbhlphadcphapaaW.PrintWords
namespace Go.Proofs.YtbhlphadcphapaaW.PrintLast
section
variable {ops : Array Oper} {a : Act} {o og : Oper} {g : Nat} {t : Tmp} {u : Bool}
end
end Go.Proofs.YtbhlphadcphapaaW.PrintLast
