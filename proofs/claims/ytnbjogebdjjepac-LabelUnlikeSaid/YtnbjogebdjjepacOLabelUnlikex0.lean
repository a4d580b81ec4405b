/- This text proves, for each Go function named below, which plain Lean function its call computes, in whatever memory; a program of this session has written it. -/
import Derived.Test.YtnbjogebdjjepacProg
import Derived.Below
import Derived.Deep.Draws
import Derived.Deep.AppendLies
import Derived.Maps.AppendAt
import Derived.OwnWalk
import Derived.Laws.BytesArg
import Derived.Laws.MakeOwn
import Derived.Laws.OwnMore
import Derived.Deep.OwnRows
import Derived.Tactics
import Derived.Lib.ConvBytes
import Derived.Laws.Slices
import Derived.WalkKit
import Derived.KernelRfl
import Derived.RowKit3
import Derived.Deep.LoopGhost
import Derived.Deep.QuietTactic
import Derived.BigQuiet
import Derived.WideLaws
import Derived.Deep.DeepCutAuto
import Derived.Deep.CutBlock
import Derived.Deep.RegionHeld3
import Derived.Laws.Rows
import Derived.Lib.AppendStr
import Derived.ArgAppend
import Derived.Laws.IdiomCopy
import Derived.OrdersHeld
import Derived.Laws.BitsLemmas
import Derived.RowKit
import Derived.Test.YtnbjogebdjjepacHandWords
import Derived.Test.YtnbjogebdjjepacShelf
import Derived.Test.YtnbjogebdjjepacWWords
import Derived.Test.YtnbjogebdjjepacWLast
import Derived.Test.YtnbjogebdjjepacWTab
import Derived.Test.YtnbjogebdjjepacWFour
import Derived.Test.YtnbjogebdjjepacWQPut
import Derived.Test.YtnbjogebdjjepacWApart
import Derived.Test.YtnbjogebdjjepacWArr
import Derived.Test.YtnbjogebdjjepacWZeros
import Derived.Test.YtnbjogebdjjepacWFoot
import Derived.Test.YtnbjogebdjjepacWKept
import Derived.Test.YtnbjogebdjjepacWShare
import Derived.Test.YtnbjogebdjjepacWN
import Derived.Test.YtnbjogebdjjepacWFootNe
import Derived.Test.YtnbjogebdjjepacWAt
import Derived.Test.YtnbjogebdjjepacWEqStruct
import Derived.Test.YtnbjogebdjjepacWRepsOne
import Derived.Test.YtnbjogebdjjepacWInv
import Derived.Test.YtnbjogebdjjepacWInvWords
import Derived.Test.YtnbjogebdjjepacWGuard
import Derived.Test.YtnbjogebdjjepacWNEv
import Derived.Test.YtnbjogebdjjepacWMore
namespace Go.Proofs.Ytnbjogebdjjepac.OLabelUnlike
open Go.RowKit Go.Proofs.YtnbjogebdjjepacW.PrintWords Go.Proofs.YtnbjogebdjjepacW.PrintLast Go.Proofs.YtnbjogebdjjepacW.PrintMore
attribute [local go_sem] max2_int min2_int max_two min_two max_three min_three max_four min_four   -- for this text's walks alone
set_option linter.unusedVariables false
set_option linter.unusedSimpArgs false



def errW : Option Int → Value
  | none => .nilIface
  | some c => .iface 0 (.int .i64 c)
theorem errW_none : errW none = .nilIface := rfl
theorem errW_some (c : Int) : errW (some c) = .iface 0 (.int .i64 c) := rfl

theorem info5 : (Try.prog.info? 5).map (fun i => (i.zero, i.size, i.bytes)) = some (some (.int .u8 0), 1, 1) := by kernel_rfl
-- the values' own types

end Go.Proofs.Ytnbjogebdjjepac.OLabelUnlike
