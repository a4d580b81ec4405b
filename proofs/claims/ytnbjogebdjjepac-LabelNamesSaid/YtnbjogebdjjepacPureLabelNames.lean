/- This text proves what the law LabelNames asks, which takes no argument: the chapter's examples come out as it tells; the kernel computes the printed functions. -/
import Derived.Test.YtnbjogebdjjepacOLabelNamesx3
namespace Go.Proofs.Ytnbjogebdjjepac.Pure
open Go.RowKit Go.Proofs.Ytnbjogebdjjepac.OLabelNames Go.Proofs.YtnbjogebdjjepacW.PrintWords Go.Proofs.YtnbjogebdjjepacW.PrintLast

theorem LabelNames : nameplatelaw01_LabelNames.Pure := ⟨400, by decide +kernel⟩

end Go.Proofs.Ytnbjogebdjjepac.Pure
