/- Words that the printed texts of this claim use (lists, memory, orders), out of the print's own, less what nothing here names. -/
import Derived.Test.YtilobbjnmnnmnaaGreatDoorWWords
/-! ### 58. A guarded operation whose guard is known to want it: the same goal without the guard -/
namespace Go.Proofs.YtilobbjnmnnmnaaGreatDoorW.PrintWords
open Go.RowKit
section
variable {P : Program} {ops : Array Oper} {rest : List Oper} {o : Oper} {a : Act} {Q : Exit → Act → World → Prop} {W : World}
end
end Go.Proofs.YtilobbjnmnnmnaaGreatDoorW.PrintWords
