/- Words that the printed texts of this claim use (lists, memory, orders), out of the print's own, less what nothing here names. -/
import Derived.Test.YtbalmnkbodcigaaGreatDoorWTab
/-! ### 56. Four, five, six operations that may come up next, in any order -/
namespace Go.Proofs.YtbalmnkbodcigaaGreatDoorW.PrintLast
section
variable {P : Program} {ops : Array Oper} {Q : Exit → Act → World → Prop} {md : Region.Mode} {S : World → Prop} {ds : List Nat} {T : Bool × List (List Nat × List Nat)}
end
end Go.Proofs.YtbalmnkbodcigaaGreatDoorW.PrintLast
