/- Words that the printed texts of this claim use (lists, memory, orders), out of the print's own, less what nothing here names. -/
import Derived.Test.YtilobbjnmnnmnaaDoorWWords
import Derived.Laws.StructEq
/-! ### 53. '==' of structs as_ one Bool -/
namespace Go.Proofs.YtilobbjnmnnmnaaDoorW.PrintWords
open Go.RowKit
section
variable {P : Program} {d : Nat} {xs ys : Array Value} {f : Field} {fs : List Field} {a b : Value} {r s : Bool} {w : World}
end
end Go.Proofs.YtilobbjnmnnmnaaDoorW.PrintWords
