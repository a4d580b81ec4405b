/-
  No cell of these rows narrows 'for every input' (looked for: loops, veiled, ifaces, maps, wideKeys, modest, calm, conditions, laid).
  DERIVED. THE GIVEN ROWS OF THIS SEAT. 6 by the template 'for every input the law returns true; each argument reads behind the call as it read before'; 0 by the template 'total and deterministic' (their statements: YtnbjogebdjjepacTotals.lean).
  GIVEN WITH THE SEED: the statements are not yours to turn. If you find one false, say at which input.
  Laid BY PROGRAM, IN A SANDBOX (cutbox-rows.mjs): the forced cells as the released guide's own fill.sh prints them over the translation cde1e4ec3d61a0cd… (all of the seat's roots in one cut). By AI agents, Wed Nov 11 2026. No macro, syntax, notation, axiom, sorry.
-/
import Derived.Test.YtnbjogebdjjepacChecked
import GoSem.Claim
import GoSem.ClaimJoined
import GoSem.ClaimMapViews
import Derived.JoinedTies
import Derived.KernelRfl
namespace Go.Proofs.Ytnbjogebdjjepac
/- THE CELL 'sum', in the pinned program and in every row, IS THE sha256 OF THE DUMP (.gsa) THAT YtnbjogebdjjepacProg.lean LOADS. Nothing in Lean hashes anything: it is a label: what it is worth is what the hold of that sum in a sandbox is worth. -/
noncomputable def Try.pinned : Pinned := { name := "ytnbjogebdjjepac", sum := "cde1e4ec3d61a0cdb9575d2f6ea1a53bb57a811e2b1fc2502d56df127208cdca", checked := Try.checked }
namespace Rows
def none {H : Type} : Left H := { results := [], args := [] }

/-- 'nameplatelaw01.LabelBack': WHATEVER THE INPUT: true; the input reads as it did. -/
def labelBackSpec : ChangeSpec := { name := "labelBack", fn := fun _ => fun
  | [d1, d2] => { results := [.lit (.bool true)], args := [d1, d2] }
  | _ => none }
def labelBackRow : OpenClaim := { program := "ytnbjogebdjjepac", sum := "cde1e4ec3d61a0cdb9575d2f6ea1a53bb57a811e2b1fc2502d56df127208cdca", func := "nameplate/nameplatelaw01.LabelBack", spec := "labelBack", apart := false }
def LabelBackSaid : Prop := labelBackRow.holds Try.pinned (OpenSpec.ofChange labelBackSpec)

/-- ITS FALSE NEIGHBOUR: 'it returns false'. Refute it at one input. -/
def labelBackWrong : ChangeSpec := { name := "labelBack", fn := fun _ => fun
  | [d1, d2] => { results := [.lit (.bool false)], args := [d1, d2] }
  | _ => none }
def LabelBackWrongFalsely : Prop := labelBackRow.holds Try.pinned (OpenSpec.ofChange labelBackWrong)

/-- 'nameplatelaw01.LabelUnlike': WHATEVER THE INPUT: true; the input reads as it did. -/
def labelUnlikeSpec : ChangeSpec := { name := "labelUnlike", fn := fun _ => fun
  | [d1, d2] => { results := [.lit (.bool true)], args := [d1, d2] }
  | _ => none }
def labelUnlikeRow : OpenClaim := { program := "ytnbjogebdjjepac", sum := "cde1e4ec3d61a0cdb9575d2f6ea1a53bb57a811e2b1fc2502d56df127208cdca", func := "nameplate/nameplatelaw01.LabelUnlike", spec := "labelUnlike", apart := false }
def LabelUnlikeSaid : Prop := labelUnlikeRow.holds Try.pinned (OpenSpec.ofChange labelUnlikeSpec)

/-- ITS FALSE NEIGHBOUR: 'it returns false'. Refute it at one input. -/
def labelUnlikeWrong : ChangeSpec := { name := "labelUnlike", fn := fun _ => fun
  | [d1, d2] => { results := [.lit (.bool false)], args := [d1, d2] }
  | _ => none }
def LabelUnlikeWrongFalsely : Prop := labelUnlikeRow.holds Try.pinned (OpenSpec.ofChange labelUnlikeWrong)

/-- 'nameplatelaw01.LabelRows': WHATEVER THE INPUT: true; the input reads as it did. -/
def labelRowsSpec : ChangeSpec := { name := "labelRows", fn := fun _ => fun
  | [d1, d2] => { results := [.lit (.bool true)], args := [d1, d2] }
  | _ => none }
def labelRowsRow : OpenClaim := { program := "ytnbjogebdjjepac", sum := "cde1e4ec3d61a0cdb9575d2f6ea1a53bb57a811e2b1fc2502d56df127208cdca", func := "nameplate/nameplatelaw01.LabelRows", spec := "labelRows", apart := false }
def LabelRowsSaid : Prop := labelRowsRow.holds Try.pinned (OpenSpec.ofChange labelRowsSpec)

/-- ITS FALSE NEIGHBOUR: 'it returns false'. Refute it at one input. -/
def labelRowsWrong : ChangeSpec := { name := "labelRows", fn := fun _ => fun
  | [d1, d2] => { results := [.lit (.bool false)], args := [d1, d2] }
  | _ => none }
def LabelRowsWrongFalsely : Prop := labelRowsRow.holds Try.pinned (OpenSpec.ofChange labelRowsWrong)

/-- 'nameplatelaw01.LabelNames': WHATEVER THE INPUT: true; the input reads as it did. -/
def labelNamesSpec : ChangeSpec := { name := "labelNames", fn := fun _ => fun
  | [] => { results := [.lit (.bool true)], args := [] }
  | _ => none }
def labelNamesRow : OpenClaim := { program := "ytnbjogebdjjepac", sum := "cde1e4ec3d61a0cdb9575d2f6ea1a53bb57a811e2b1fc2502d56df127208cdca", func := "nameplate/nameplatelaw01.LabelNames", spec := "labelNames", inPlace := ["internal/bytealg.abigen_runtime_cmpstring"], unfollowed := true, recurses := true, apart := false }
def LabelNamesSaid : Prop := labelNamesRow.holds Try.pinned (OpenSpec.ofChange labelNamesSpec)

/-- ITS FALSE NEIGHBOUR: 'it returns false'. Refute it at one input. -/
def labelNamesWrong : ChangeSpec := { name := "labelNames", fn := fun _ => fun
  | [] => { results := [.lit (.bool false)], args := [] }
  | _ => none }
def LabelNamesWrongFalsely : Prop := labelNamesRow.holds Try.pinned (OpenSpec.ofChange labelNamesWrong)

/-- 'nameplatelaw01.LabelCalls': WHATEVER THE INPUT: true; the input reads as it did. -/
def labelCallsSpec : ChangeSpec := { name := "labelCalls", fn := fun _ => fun
  | [d1, d2, d3] => { results := [.lit (.bool true)], args := [d1, d2, d3] }
  | _ => none }
def labelCallsRow : OpenClaim := { program := "ytnbjogebdjjepac", sum := "cde1e4ec3d61a0cdb9575d2f6ea1a53bb57a811e2b1fc2502d56df127208cdca", func := "nameplate/nameplatelaw01.LabelCalls", spec := "labelCalls", inPlace := ["internal/bytealg.abigen_runtime_cmpstring"], unfollowed := true, recurses := true, apart := false }
def LabelCallsSaid : Prop := labelCallsRow.holds Try.pinned (OpenSpec.ofChange labelCallsSpec)

/-- ITS FALSE NEIGHBOUR: 'it returns false'. Refute it at one input. -/
def labelCallsWrong : ChangeSpec := { name := "labelCalls", fn := fun _ => fun
  | [d1, d2, d3] => { results := [.lit (.bool false)], args := [d1, d2, d3] }
  | _ => none }
def LabelCallsWrongFalsely : Prop := labelCallsRow.holds Try.pinned (OpenSpec.ofChange labelCallsWrong)

/-- 'nameplatelaw01.LabelOrder': WHATEVER THE INPUT: true; the input reads as it did. -/
def labelOrderSpec : ChangeSpec := { name := "labelOrder", fn := fun _ => fun
  | [d1, d2, d3] => { results := [.lit (.bool true)], args := [d1, d2, d3] }
  | _ => none }
def labelOrderRow : OpenClaim := { program := "ytnbjogebdjjepac", sum := "cde1e4ec3d61a0cdb9575d2f6ea1a53bb57a811e2b1fc2502d56df127208cdca", func := "nameplate/nameplatelaw01.LabelOrder", spec := "labelOrder", inPlace := ["internal/bytealg.abigen_runtime_cmpstring"], unfollowed := true, recurses := true, apart := false }
def LabelOrderSaid : Prop := labelOrderRow.holds Try.pinned (OpenSpec.ofChange labelOrderSpec)

/-- ITS FALSE NEIGHBOUR: 'it returns false'. Refute it at one input. -/
def labelOrderWrong : ChangeSpec := { name := "labelOrder", fn := fun _ => fun
  | [d1, d2, d3] => { results := [.lit (.bool false)], args := [d1, d2, d3] }
  | _ => none }
def LabelOrderWrongFalsely : Prop := labelOrderRow.holds Try.pinned (OpenSpec.ofChange labelOrderWrong)

/- THE SECOND FORM. 'bulk': how many values and letters a reading holds, each counted each time it is reached (what is shared counts as often as it is met; a slice's spare places count too). A statement '..UptoSaid' is the law's where the arguments, and the package variables that the reading takes, are together of bulk at most 1048576: NARROWER than '..Said'. Prove '..Said' where nothing that the law and all that it calls make is longer than what came in: it says more and counts as full. Else prove '..UptoSaid'. A law counts once. -/
mutual
def uptoBulk {H : Type} : DataW H → Nat
  | .lit (.string bytes) => bytes.length + 1
  | .lit _ => 1
  | .nil => 1
  | .ptr d => uptoBulk d + 1
  | .slice elems spare => uptoBulkAll elems + uptoBulkAll spare + 1
  | .agg parts => uptoBulkAll parts + 1
  | .iface _ d => uptoBulk d + 1
  | .map entries => uptoBulkEntries entries + 1
  | .held _ => 1
def uptoBulkAll {H : Type} : List (DataW H) → Nat
  | [] => 0
  | d :: r => uptoBulk d + uptoBulkAll r
def uptoBulkEntries {H : Type} : List (Lit × DataW H) → Nat
  | [] => 0
  | x :: r => uptoBulkEntry x + uptoBulkEntries r
def uptoBulkEntry {H : Type} : Lit × DataW H → Nat
  | (.string bytes, d) => bytes.length + uptoBulk d + 1
  | (_, d) => uptoBulk d + 1
 end
def uptoSmall : (H : Type) → List (DataW H) → Bool := fun _ ds => decide (uptoBulkAll ds ≤ 1048576)
def OpenSpec.upto (s : _root_.Go.ChangeSpec) : _root_.Go.OpenSpec := { _root_.Go.OpenSpec.ofChange s with cond := some uptoSmall }

/-- 'nameplatelaw01.LabelBack', WHERE WHAT IT READS IS OF BULK AT MOST 1048576: true; the input reads as it did. -/
def labelBackUptoRow : OpenClaim := { program := "ytnbjogebdjjepac", sum := "cde1e4ec3d61a0cdb9575d2f6ea1a53bb57a811e2b1fc2502d56df127208cdca", func := "nameplate/nameplatelaw01.LabelBack", spec := "labelBack", apart := false, narrowed := true }
def LabelBackUptoSaid : Prop := labelBackUptoRow.holds Try.pinned (OpenSpec.upto labelBackSpec)

/-- 'nameplatelaw01.LabelUnlike', WHERE WHAT IT READS IS OF BULK AT MOST 1048576: true; the input reads as it did. -/
def labelUnlikeUptoRow : OpenClaim := { program := "ytnbjogebdjjepac", sum := "cde1e4ec3d61a0cdb9575d2f6ea1a53bb57a811e2b1fc2502d56df127208cdca", func := "nameplate/nameplatelaw01.LabelUnlike", spec := "labelUnlike", apart := false, narrowed := true }
def LabelUnlikeUptoSaid : Prop := labelUnlikeUptoRow.holds Try.pinned (OpenSpec.upto labelUnlikeSpec)

/-- 'nameplatelaw01.LabelRows', WHERE WHAT IT READS IS OF BULK AT MOST 1048576: true; the input reads as it did. -/
def labelRowsUptoRow : OpenClaim := { program := "ytnbjogebdjjepac", sum := "cde1e4ec3d61a0cdb9575d2f6ea1a53bb57a811e2b1fc2502d56df127208cdca", func := "nameplate/nameplatelaw01.LabelRows", spec := "labelRows", apart := false, narrowed := true }
def LabelRowsUptoSaid : Prop := labelRowsUptoRow.holds Try.pinned (OpenSpec.upto labelRowsSpec)

/-- 'nameplatelaw01.LabelNames', WHERE WHAT IT READS IS OF BULK AT MOST 1048576: true; the input reads as it did. -/
def labelNamesUptoRow : OpenClaim := { program := "ytnbjogebdjjepac", sum := "cde1e4ec3d61a0cdb9575d2f6ea1a53bb57a811e2b1fc2502d56df127208cdca", func := "nameplate/nameplatelaw01.LabelNames", spec := "labelNames", inPlace := ["internal/bytealg.abigen_runtime_cmpstring"], unfollowed := true, recurses := true, apart := false, narrowed := true }
def LabelNamesUptoSaid : Prop := labelNamesUptoRow.holds Try.pinned (OpenSpec.upto labelNamesSpec)

/-- 'nameplatelaw01.LabelCalls', WHERE WHAT IT READS IS OF BULK AT MOST 1048576: true; the input reads as it did. -/
def labelCallsUptoRow : OpenClaim := { program := "ytnbjogebdjjepac", sum := "cde1e4ec3d61a0cdb9575d2f6ea1a53bb57a811e2b1fc2502d56df127208cdca", func := "nameplate/nameplatelaw01.LabelCalls", spec := "labelCalls", inPlace := ["internal/bytealg.abigen_runtime_cmpstring"], unfollowed := true, recurses := true, apart := false, narrowed := true }
def LabelCallsUptoSaid : Prop := labelCallsUptoRow.holds Try.pinned (OpenSpec.upto labelCallsSpec)

/-- 'nameplatelaw01.LabelOrder', WHERE WHAT IT READS IS OF BULK AT MOST 1048576: true; the input reads as it did. -/
def labelOrderUptoRow : OpenClaim := { program := "ytnbjogebdjjepac", sum := "cde1e4ec3d61a0cdb9575d2f6ea1a53bb57a811e2b1fc2502d56df127208cdca", func := "nameplate/nameplatelaw01.LabelOrder", spec := "labelOrder", inPlace := ["internal/bytealg.abigen_runtime_cmpstring"], unfollowed := true, recurses := true, apart := false, narrowed := true }
def LabelOrderUptoSaid : Prop := labelOrderUptoRow.holds Try.pinned (OpenSpec.upto labelOrderSpec)

end Rows
end Go.Proofs.Ytnbjogebdjjepac
