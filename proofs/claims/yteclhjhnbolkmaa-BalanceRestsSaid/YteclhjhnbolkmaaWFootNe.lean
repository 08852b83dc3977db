-- words that the kit's print wrote for this claim, cut to what is used by a program of this session
import Derived.Test.YteclhjhnbolkmaaWN
namespace Go.Proofs.YteclhjhnbolkmaaW.PrintWords
open Go.RowKit
namespace Kd
section
variable {α : Type} {d : Kd α} {W : World} {g n : Nat} {S ok : Nat → Prop} {A : Option Addr} {ad : Addr} {xs : List α}
end
end Kd
end Go.Proofs.YteclhjhnbolkmaaW.PrintWords
