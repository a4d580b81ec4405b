/- This text proves, for each Go function named below, which plain Lean function its call computes, in whatever memory; a program of this session has written it. -/
import Derived.Test.YtnbjogebdjjepaaProg
import Derived.Below
import Derived.Deep.Draws
import Derived.Deep.AppendLies
import Derived.Maps.AppendAt
import Derived.OwnWalk
import Derived.Laws.BytesArg
import Derived.Laws.MakeOwn
import Derived.Laws.OwnMore
import Derived.Deep.OwnRows
import Derived.Tactics
import Derived.Lib.ConvBytes
import Derived.Laws.Slices
import Derived.WalkKit
import Derived.KernelRfl
import Derived.RowKit3
import Derived.Deep.LoopGhost
import Derived.Deep.QuietTactic
import Derived.BigQuiet
import Derived.WideLaws
import Derived.Deep.DeepCutAuto
import Derived.Deep.CutBlock
import Derived.Deep.RegionHeld3
import Derived.Laws.Rows
import Derived.Lib.AppendStr
import Derived.ArgAppend
import Derived.Laws.IdiomCopy
import Derived.OrdersHeld
import Derived.Laws.BitsLemmas
import Derived.RowKit
import Derived.Test.YtnbjogebdjjepaaHandWords
import Derived.Test.YtnbjogebdjjepaaWWords
import Derived.Test.YtnbjogebdjjepaaWLast
import Derived.Test.YtnbjogebdjjepaaWTab
import Derived.Test.YtnbjogebdjjepaaWFour
import Derived.Test.YtnbjogebdjjepaaWQPut
import Derived.Test.YtnbjogebdjjepaaWApart
import Derived.Test.YtnbjogebdjjepaaWArr
import Derived.Test.YtnbjogebdjjepaaWZeros
import Derived.Test.YtnbjogebdjjepaaWFoot
import Derived.Test.YtnbjogebdjjepaaWKept
import Derived.Test.YtnbjogebdjjepaaWShare
import Derived.Test.YtnbjogebdjjepaaWN
import Derived.Test.YtnbjogebdjjepaaWFootNe
import Derived.Test.YtnbjogebdjjepaaWAt
import Derived.Test.YtnbjogebdjjepaaWEqStruct
import Derived.Test.YtnbjogebdjjepaaWRepsOne
import Derived.Test.YtnbjogebdjjepaaWInv
import Derived.Test.YtnbjogebdjjepaaWInvWords
import Derived.Test.YtnbjogebdjjepaaWGuard
import Derived.Test.YtnbjogebdjjepaaWNEv
import Derived.Test.YtnbjogebdjjepaaWMore
namespace Go.Proofs.Ytnbjogebdjjepaa.OClockFirst
open Go.RowKit Go.Proofs.YtnbjogebdjjepaaW.PrintWords Go.Proofs.YtnbjogebdjjepaaW.PrintLast Go.Proofs.YtnbjogebdjjepaaW.PrintMore
attribute [local go_sem] max2_int min2_int max_two min_two max_three min_three max_four min_four   -- for this text's walks alone
set_option linter.unusedVariables false
set_option linter.unusedSimpArgs false



def errW : Option Int → Value
  | none => .nilIface
  | some c => .iface 0 (.int .i64 c)
theorem errW_none : errW none = .nilIface := rfl
theorem errW_some (c : Int) : errW (some c) = .iface 0 (.int .i64 c) := rfl

-- the values' own types

end Go.Proofs.Ytnbjogebdjjepaa.OClockFirst
