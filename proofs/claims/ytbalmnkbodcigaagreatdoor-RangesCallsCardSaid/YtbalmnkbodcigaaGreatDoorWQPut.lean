/- Words that the printed texts of this claim use (lists, memory, orders), out of the print's own, less what nothing here names. -/
import Derived.Test.YtbalmnkbodcigaaGreatDoorWWords
import Derived.Test.YtbalmnkbodcigaaGreatDoorWLast
/-! ### 39. Stores into a row that may begin inside its block (Q): Q_form, Q_elem, Q_seg; scalars: Q_cell, Q_putg -/
namespace Go.Proofs.YtbalmnkbodcigaaGreatDoorW.PrintWords
open Go.RowKit
namespace Kd
section
variable {α : Type} {d : Kd α} {e base g o n cap : Nat} {ok okp : Nat → Prop} {w W : World} {v : Value} {xs : List α}
end
section
variable {α : Type} {enc : α → Value} {h1 : ∀ x, (enc x).oneCell' = true} {e base g o n cap : Nat} {ok : Nat → Prop} {W : World} {xs : List α}
end
end Kd
end Go.Proofs.YtbalmnkbodcigaaGreatDoorW.PrintWords
