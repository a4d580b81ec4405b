/- Words that the printed texts of this claim use (lists, memory, orders), out of the print's own, less what nothing here names. -/
import Derived.Test.YtilobbjnmnnmnaaGreatDoorWInv
import Derived.Test.YtilobbjnmnnmnaaGreatDoorWFootNe
namespace Go.Proofs.YtilobbjnmnnmnaaGreatDoorW.PrintWords
open Go.RowKit
end Go.Proofs.YtilobbjnmnnmnaaGreatDoorW.PrintWords
namespace Go.Proofs.YtilobbjnmnnmnaaGreatDoorW.PrintLast
section
variable {ops : Array Oper} {a : Act} {o og : Oper} {g : Nat} {t : Tmp} {u : Bool}
end
end Go.Proofs.YtilobbjnmnnmnaaGreatDoorW.PrintLast
