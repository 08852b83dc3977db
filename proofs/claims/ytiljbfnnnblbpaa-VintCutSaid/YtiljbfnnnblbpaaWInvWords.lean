-- words that the kit's print wrote for this claim, cut to what is used by a program of this session
import Derived.Test.YtiljbfnnnblbpaaWInv
import Derived.Test.YtiljbfnnnblbpaaWFootNe
namespace Go.Proofs.YtiljbfnnnblbpaaW.PrintWords
open Go.RowKit
end Go.Proofs.YtiljbfnnnblbpaaW.PrintWords
namespace Go.Proofs.YtiljbfnnnblbpaaW.PrintLast
section
variable {ops : Array Oper} {a : Act} {o og : Oper} {g : Nat} {t : Tmp} {u : Bool}
end
end Go.Proofs.YtiljbfnnnblbpaaW.PrintLast
