-- words that the kit's print wrote for this claim, cut to what is used by a program of this session
import Derived.Test.YtlmecdlbnpnajaaWWords
namespace Go.Proofs.YtlmecdlbnpnajaaW.PrintWords
open Go.RowKit
section
variable {P : Program} {ops : Array Oper} {rest : List Oper} {o : Oper} {a : Act} {Q : Exit → Act → World → Prop} {W : World}
end
end Go.Proofs.YtlmecdlbnpnajaaW.PrintWords
