/- Words that the printed texts of this claim use (lists, memory, orders), out of the print's own, less what nothing here names. -/
/- Plain laws on bytes, texts of labels and their folding, without any program: what the proofs of the label's and the name's laws share. -/
import Derived.Test.YtilobbjnmnnmnaaGreatDoorHandWords
import Derived.Lib.Bytealg
namespace Go.Proofs.YtilobbjnmnnmnaaGreatDoorW.PrintWords
open Go.RowKit

/-! ### Strings and their bytes -/
/-! ### Texts of labels -/
/-! ### Names -/
/-! ### Folding -/
/-! ### Comparing -/
end Go.Proofs.YtilobbjnmnnmnaaGreatDoorW.PrintWords
