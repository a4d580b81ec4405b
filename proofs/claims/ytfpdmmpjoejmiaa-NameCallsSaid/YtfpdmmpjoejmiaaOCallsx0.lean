/- This text proves, for each Go function named below, which plain Lean function its call computes, in whatever memory; a program of this session has written it. -/
import Derived.Test.YtfpdmmpjoejmiaaProg
import Derived.Below
import Derived.Deep.Draws
import Derived.Deep.AppendLies
import Derived.Maps.AppendAt
import Derived.OwnWalk
import Derived.Laws.BytesArg
import Derived.Laws.MakeOwn
import Derived.Laws.OwnMore
import Derived.Deep.OwnRows
import Derived.Tactics
import Derived.Lib.ConvBytes
import Derived.Laws.Slices
import Derived.WalkKit
import Derived.KernelRfl
import Derived.RowKit3
import Derived.Deep.LoopGhost
import Derived.Deep.QuietTactic
import Derived.BigQuiet
import Derived.WideLaws
import Derived.Deep.DeepCutAuto
import Derived.Deep.CutBlock
import Derived.Deep.RegionHeld3
import Derived.Laws.Rows
import Derived.Lib.AppendStr
import Derived.ArgAppend
import Derived.Laws.IdiomCopy
import Derived.OrdersHeld
import Derived.Laws.BitsLemmas
import Derived.RowKit
import Derived.Test.YtfpdmmpjoejmiaaHandWords
import Derived.Test.YtfpdmmpjoejmiaaHandUp
import Derived.Test.YtfpdmmpjoejmiaaWWords
import Derived.Test.YtfpdmmpjoejmiaaWLast
import Derived.Test.YtfpdmmpjoejmiaaWTab
import Derived.Test.YtfpdmmpjoejmiaaWFour
import Derived.Test.YtfpdmmpjoejmiaaWQPut
import Derived.Test.YtfpdmmpjoejmiaaWApart
import Derived.Test.YtfpdmmpjoejmiaaWArr
import Derived.Test.YtfpdmmpjoejmiaaWZeros
import Derived.Test.YtfpdmmpjoejmiaaWFoot
import Derived.Test.YtfpdmmpjoejmiaaWKept
import Derived.Test.YtfpdmmpjoejmiaaWShare
import Derived.Test.YtfpdmmpjoejmiaaWN
import Derived.Test.YtfpdmmpjoejmiaaWFootNe
import Derived.Test.YtfpdmmpjoejmiaaWAt
import Derived.Test.YtfpdmmpjoejmiaaWEqStruct
import Derived.Test.YtfpdmmpjoejmiaaWRepsOne
import Derived.Test.YtfpdmmpjoejmiaaWInv
import Derived.Test.YtfpdmmpjoejmiaaWInvWords
import Derived.Test.YtfpdmmpjoejmiaaWGuard
import Derived.Test.YtfpdmmpjoejmiaaWNEv
import Derived.Test.YtfpdmmpjoejmiaaWMore
namespace Go.Proofs.Ytfpdmmpjoejmiaa.OCalls
open Go.RowKit Go.Proofs.YtfpdmmpjoejmiaaW.PrintWords Go.Proofs.YtfpdmmpjoejmiaaW.PrintLast Go.Proofs.YtfpdmmpjoejmiaaW.PrintMore
attribute [local go_sem] max2_int min2_int max_two min_two max_three min_three max_four min_four   -- for this text's walks alone
set_option linter.unusedVariables false
set_option linter.unusedSimpArgs false



def errW : Option Int → Value
  | none => .nilIface
  | some c => .iface 0 (.int .i64 c)
theorem errW_none : errW none = .nilIface := rfl
theorem errW_some (c : Int) : errW (some c) = .iface 0 (.int .i64 c) := rfl

theorem info5 : (Try.prog.info? 5).map (fun i => (i.zero, i.size, i.bytes)) = some (some (.int .u8 0), 1, 1) := by kernel_rfl
theorem info9 : (Try.prog.info? 9).map (fun i => (i.zero, i.size, i.bytes)) = some (some (.string ⟨#[]⟩), 1, 16) := by kernel_rfl
theorem info25 : (Try.prog.info? 25).map (fun i => (i.zero, i.size, i.bytes)) = some (some (.int .i64 0), 1, 8) := by kernel_rfl
-- the values' own types

end Go.Proofs.Ytfpdmmpjoejmiaa.OCalls
