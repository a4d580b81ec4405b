/- Words that the printed texts of this claim use (lists, memory, orders), out of the print's own, less what nothing here names. -/
import Derived.Test.YtilobbjnmnnmnaaDoorWInv
import Derived.Test.YtilobbjnmnnmnaaDoorWFootNe
namespace Go.Proofs.YtilobbjnmnnmnaaDoorW.PrintWords
open Go.RowKit
end Go.Proofs.YtilobbjnmnnmnaaDoorW.PrintWords
namespace Go.Proofs.YtilobbjnmnnmnaaDoorW.PrintLast
section
variable {ops : Array Oper} {a : Act} {o og : Oper} {g : Nat} {t : Tmp} {u : Bool}
end
end Go.Proofs.YtilobbjnmnnmnaaDoorW.PrintLast
