-- words that the kit's print wrote for this claim, cut to what is used by a program of this session
import Derived.Test.YtlmecdlbnpnajaaWInv
import Derived.Test.YtlmecdlbnpnajaaWFootNe
namespace Go.Proofs.YtlmecdlbnpnajaaW.PrintWords
open Go.RowKit
end Go.Proofs.YtlmecdlbnpnajaaW.PrintWords
namespace Go.Proofs.YtlmecdlbnpnajaaW.PrintLast
section
variable {ops : Array Oper} {a : Act} {o og : Oper} {g : Nat} {t : Tmp} {u : Bool}
end
end Go.Proofs.YtlmecdlbnpnajaaW.PrintLast
