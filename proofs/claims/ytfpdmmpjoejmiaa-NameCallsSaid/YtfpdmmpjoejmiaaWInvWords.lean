/- Words that the printed texts of this claim use (lists, memory, orders), out of the print's own, less what nothing here names. -/
import Derived.Test.YtfpdmmpjoejmiaaWInv
import Derived.Test.YtfpdmmpjoejmiaaWFootNe
namespace Go.Proofs.YtfpdmmpjoejmiaaW.PrintWords
open Go.RowKit
end Go.Proofs.YtfpdmmpjoejmiaaW.PrintWords
namespace Go.Proofs.YtfpdmmpjoejmiaaW.PrintLast
section
variable {ops : Array Oper} {a : Act} {o og : Oper} {g : Nat} {t : Tmp} {u : Bool}
end
end Go.Proofs.YtfpdmmpjoejmiaaW.PrintLast
