/- Words that the printed texts of this claim use (lists, memory, orders), out of the print's own, less what nothing here names. -/
import Derived.Test.YtbalmnkbodcigaaGreatDoorWInv
import Derived.Test.YtbalmnkbodcigaaGreatDoorWFootNe
namespace Go.Proofs.YtbalmnkbodcigaaGreatDoorW.PrintWords
open Go.RowKit
end Go.Proofs.YtbalmnkbodcigaaGreatDoorW.PrintWords
namespace Go.Proofs.YtbalmnkbodcigaaGreatDoorW.PrintLast
section
variable {ops : Array Oper} {a : Act} {o og : Oper} {g : Nat} {t : Tmp} {u : Bool}
end
end Go.Proofs.YtbalmnkbodcigaaGreatDoorW.PrintLast
