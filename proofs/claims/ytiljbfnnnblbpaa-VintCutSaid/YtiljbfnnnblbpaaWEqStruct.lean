-- words that the kit's print wrote for this claim, cut to what is used by a program of this session
import Derived.Test.YtiljbfnnnblbpaaWWords
import Derived.Laws.StructEq
namespace Go.Proofs.YtiljbfnnnblbpaaW.PrintWords
open Go.RowKit
section
variable {P : Program} {d : Nat} {xs ys : Array Value} {f : Field} {fs : List Field} {a b : Value} {r s : Bool} {w : World}
end
end Go.Proofs.YtiljbfnnnblbpaaW.PrintWords
