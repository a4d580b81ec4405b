/-
  No cell of these rows narrows 'for every input' (looked for: loops, veiled, ifaces, maps, wideKeys, modest, calm, conditions, laid).
  DERIVED. THE GIVEN ROWS OF THIS SEAT. 6 by the template 'for every input the law returns true; each argument reads behind the call as it read before'; 0 by the template 'total and deterministic' (their statements: YtnbjogebdjjepaaTotals.lean).
  GIVEN WITH THE SEED: the statements are not yours to turn. If you find one false, say at which input.
  Laid BY PROGRAM, IN A SANDBOX (cutbox-rows.mjs): the forced cells as the released guide's own fill.sh prints them over the translation b472393e811e9f36… (all of the seat's roots in one cut). By AI agents, Wed Nov 11 2026. No macro, syntax, notation, axiom, sorry.
-/
import Derived.Test.YtnbjogebdjjepaaChecked
import GoSem.Claim
import GoSem.ClaimJoined
import GoSem.ClaimMapViews
import Derived.JoinedTies
import Derived.KernelRfl
namespace Go.Proofs.Ytnbjogebdjjepaa
/- THE CELL 'sum', in the pinned program and in every row, IS THE sha256 OF THE DUMP (.gsa) THAT YtnbjogebdjjepaaProg.lean LOADS. Nothing in Lean hashes anything: it is a label: what it is worth is what the hold of that sum in a sandbox is worth. -/
noncomputable def Try.pinned : Pinned := { name := "ytnbjogebdjjepaa", sum := "b472393e811e9f36f5947955c5e06fd437ee0bf88351861227d7393a618831fc", checked := Try.checked }
namespace Rows
def none {H : Type} : Left H := { results := [], args := [] }

/-- 'nameplatelaw12.ClockClamps': WHATEVER THE INPUT: true; the input reads as it did. -/
def clockClampsSpec : ChangeSpec := { name := "clockClamps", fn := fun _ => fun
  | [d1, d2, d3] => { results := [.lit (.bool true)], args := [d1, d2, d3] }
  | _ => none }
def clockClampsRow : OpenClaim := { program := "ytnbjogebdjjepaa", sum := "b472393e811e9f36f5947955c5e06fd437ee0bf88351861227d7393a618831fc", func := "nameplate/nameplatelaw12.ClockClamps", spec := "clockClamps", apart := false }
def ClockClampsSaid : Prop := clockClampsRow.holds Try.pinned (OpenSpec.ofChange clockClampsSpec)

/-- ITS FALSE NEIGHBOUR: 'it returns false'. Refute it at one input. -/
def clockClampsWrong : ChangeSpec := { name := "clockClamps", fn := fun _ => fun
  | [d1, d2, d3] => { results := [.lit (.bool false)], args := [d1, d2, d3] }
  | _ => none }
def ClockClampsWrongFalsely : Prop := clockClampsRow.holds Try.pinned (OpenSpec.ofChange clockClampsWrong)

/-- 'nameplatelaw12.ClockFalls': WHATEVER THE INPUT: true; the input reads as it did. -/
def clockFallsSpec : ChangeSpec := { name := "clockFalls", fn := fun _ => fun
  | [d1, d2, d3] => { results := [.lit (.bool true)], args := [d1, d2, d3] }
  | _ => none }
def clockFallsRow : OpenClaim := { program := "ytnbjogebdjjepaa", sum := "b472393e811e9f36f5947955c5e06fd437ee0bf88351861227d7393a618831fc", func := "nameplate/nameplatelaw12.ClockFalls", spec := "clockFalls", apart := false }
def ClockFallsSaid : Prop := clockFallsRow.holds Try.pinned (OpenSpec.ofChange clockFallsSpec)

/-- ITS FALSE NEIGHBOUR: 'it returns false'. Refute it at one input. -/
def clockFallsWrong : ChangeSpec := { name := "clockFalls", fn := fun _ => fun
  | [d1, d2, d3] => { results := [.lit (.bool false)], args := [d1, d2, d3] }
  | _ => none }
def ClockFallsWrongFalsely : Prop := clockFallsRow.holds Try.pinned (OpenSpec.ofChange clockFallsWrong)

/-- 'nameplatelaw12.ClockFirst': WHATEVER THE INPUT: true; the input reads as it did. -/
def clockFirstSpec : ChangeSpec := { name := "clockFirst", fn := fun _ => fun
  | [d] => { results := [.lit (.bool true)], args := [d] }
  | _ => none }
def clockFirstRow : OpenClaim := { program := "ytnbjogebdjjepaa", sum := "b472393e811e9f36f5947955c5e06fd437ee0bf88351861227d7393a618831fc", func := "nameplate/nameplatelaw12.ClockFirst", spec := "clockFirst", apart := false }
def ClockFirstSaid : Prop := clockFirstRow.holds Try.pinned (OpenSpec.ofChange clockFirstSpec)

/-- ITS FALSE NEIGHBOUR: 'it returns false'. Refute it at one input. -/
def clockFirstWrong : ChangeSpec := { name := "clockFirst", fn := fun _ => fun
  | [d] => { results := [.lit (.bool false)], args := [d] }
  | _ => none }
def ClockFirstWrongFalsely : Prop := clockFirstRow.holds Try.pinned (OpenSpec.ofChange clockFirstWrong)

/-- 'nameplatelaw12.ClockAdds': WHATEVER THE INPUT: true; the input reads as it did. -/
def clockAddsSpec : ChangeSpec := { name := "clockAdds", fn := fun _ => fun
  | [d1, d2, d3] => { results := [.lit (.bool true)], args := [d1, d2, d3] }
  | _ => none }
def clockAddsRow : OpenClaim := { program := "ytnbjogebdjjepaa", sum := "b472393e811e9f36f5947955c5e06fd437ee0bf88351861227d7393a618831fc", func := "nameplate/nameplatelaw12.ClockAdds", spec := "clockAdds", apart := false }
def ClockAddsSaid : Prop := clockAddsRow.holds Try.pinned (OpenSpec.ofChange clockAddsSpec)

/-- ITS FALSE NEIGHBOUR: 'it returns false'. Refute it at one input. -/
def clockAddsWrong : ChangeSpec := { name := "clockAdds", fn := fun _ => fun
  | [d1, d2, d3] => { results := [.lit (.bool false)], args := [d1, d2, d3] }
  | _ => none }
def ClockAddsWrongFalsely : Prop := clockAddsRow.holds Try.pinned (OpenSpec.ofChange clockAddsWrong)

/-- 'nameplatelaw12.ClockNames': WHATEVER THE INPUT: true; the input reads as it did. -/
def clockNamesSpec : ChangeSpec := { name := "clockNames", fn := fun _ => fun
  | [] => { results := [.lit (.bool true)], args := [] }
  | _ => none }
def clockNamesRow : OpenClaim := { program := "ytnbjogebdjjepaa", sum := "b472393e811e9f36f5947955c5e06fd437ee0bf88351861227d7393a618831fc", func := "nameplate/nameplatelaw12.ClockNames", spec := "clockNames", apart := false }
def ClockNamesSaid : Prop := clockNamesRow.holds Try.pinned (OpenSpec.ofChange clockNamesSpec)

/-- ITS FALSE NEIGHBOUR: 'it returns false'. Refute it at one input. -/
def clockNamesWrong : ChangeSpec := { name := "clockNames", fn := fun _ => fun
  | [] => { results := [.lit (.bool false)], args := [] }
  | _ => none }
def ClockNamesWrongFalsely : Prop := clockNamesRow.holds Try.pinned (OpenSpec.ofChange clockNamesWrong)

/-- 'nameplatelaw12.ClockCalls': WHATEVER THE INPUT: true; the input reads as it did. -/
def clockCallsSpec : ChangeSpec := { name := "clockCalls", fn := fun _ => fun
  | [d1, d2, d3, d4, d5, d6] => { results := [.lit (.bool true)], args := [d1, d2, d3, d4, d5, d6] }
  | _ => none }
def clockCallsRow : OpenClaim := { program := "ytnbjogebdjjepaa", sum := "b472393e811e9f36f5947955c5e06fd437ee0bf88351861227d7393a618831fc", func := "nameplate/nameplatelaw12.ClockCalls", spec := "clockCalls", apart := false }
def ClockCallsSaid : Prop := clockCallsRow.holds Try.pinned (OpenSpec.ofChange clockCallsSpec)

/-- ITS FALSE NEIGHBOUR: 'it returns false'. Refute it at one input. -/
def clockCallsWrong : ChangeSpec := { name := "clockCalls", fn := fun _ => fun
  | [d1, d2, d3, d4, d5, d6] => { results := [.lit (.bool false)], args := [d1, d2, d3, d4, d5, d6] }
  | _ => none }
def ClockCallsWrongFalsely : Prop := clockCallsRow.holds Try.pinned (OpenSpec.ofChange clockCallsWrong)

/- THE SECOND FORM. 'bulk': how many values and letters a reading holds, each counted each time it is reached (what is shared counts as often as it is met; a slice's spare places count too). A statement '..UptoSaid' is the law's where the arguments, and the package variables that the reading takes, are together of bulk at most 1048576: NARROWER than '..Said'. Prove '..Said' where nothing that the law and all that it calls make is longer than what came in: it says more and counts as full. Else prove '..UptoSaid'. A law counts once. -/
mutual
def uptoBulk {H : Type} : DataW H → Nat
  | .lit (.string bytes) => bytes.length + 1
  | .lit _ => 1
  | .nil => 1
  | .ptr d => uptoBulk d + 1
  | .slice elems spare => uptoBulkAll elems + uptoBulkAll spare + 1
  | .agg parts => uptoBulkAll parts + 1
  | .iface _ d => uptoBulk d + 1
  | .map entries => uptoBulkEntries entries + 1
  | .held _ => 1
def uptoBulkAll {H : Type} : List (DataW H) → Nat
  | [] => 0
  | d :: r => uptoBulk d + uptoBulkAll r
def uptoBulkEntries {H : Type} : List (Lit × DataW H) → Nat
  | [] => 0
  | x :: r => uptoBulkEntry x + uptoBulkEntries r
def uptoBulkEntry {H : Type} : Lit × DataW H → Nat
  | (.string bytes, d) => bytes.length + uptoBulk d + 1
  | (_, d) => uptoBulk d + 1
 end
def uptoSmall : (H : Type) → List (DataW H) → Bool := fun _ ds => decide (uptoBulkAll ds ≤ 1048576)
def OpenSpec.upto (s : _root_.Go.ChangeSpec) : _root_.Go.OpenSpec := { _root_.Go.OpenSpec.ofChange s with cond := some uptoSmall }

/-- 'nameplatelaw12.ClockClamps', WHERE WHAT IT READS IS OF BULK AT MOST 1048576: true; the input reads as it did. -/
def clockClampsUptoRow : OpenClaim := { program := "ytnbjogebdjjepaa", sum := "b472393e811e9f36f5947955c5e06fd437ee0bf88351861227d7393a618831fc", func := "nameplate/nameplatelaw12.ClockClamps", spec := "clockClamps", apart := false, narrowed := true }
def ClockClampsUptoSaid : Prop := clockClampsUptoRow.holds Try.pinned (OpenSpec.upto clockClampsSpec)

/-- 'nameplatelaw12.ClockFalls', WHERE WHAT IT READS IS OF BULK AT MOST 1048576: true; the input reads as it did. -/
def clockFallsUptoRow : OpenClaim := { program := "ytnbjogebdjjepaa", sum := "b472393e811e9f36f5947955c5e06fd437ee0bf88351861227d7393a618831fc", func := "nameplate/nameplatelaw12.ClockFalls", spec := "clockFalls", apart := false, narrowed := true }
def ClockFallsUptoSaid : Prop := clockFallsUptoRow.holds Try.pinned (OpenSpec.upto clockFallsSpec)

/-- 'nameplatelaw12.ClockFirst', WHERE WHAT IT READS IS OF BULK AT MOST 1048576: true; the input reads as it did. -/
def clockFirstUptoRow : OpenClaim := { program := "ytnbjogebdjjepaa", sum := "b472393e811e9f36f5947955c5e06fd437ee0bf88351861227d7393a618831fc", func := "nameplate/nameplatelaw12.ClockFirst", spec := "clockFirst", apart := false, narrowed := true }
def ClockFirstUptoSaid : Prop := clockFirstUptoRow.holds Try.pinned (OpenSpec.upto clockFirstSpec)

/-- 'nameplatelaw12.ClockAdds', WHERE WHAT IT READS IS OF BULK AT MOST 1048576: true; the input reads as it did. -/
def clockAddsUptoRow : OpenClaim := { program := "ytnbjogebdjjepaa", sum := "b472393e811e9f36f5947955c5e06fd437ee0bf88351861227d7393a618831fc", func := "nameplate/nameplatelaw12.ClockAdds", spec := "clockAdds", apart := false, narrowed := true }
def ClockAddsUptoSaid : Prop := clockAddsUptoRow.holds Try.pinned (OpenSpec.upto clockAddsSpec)

/-- 'nameplatelaw12.ClockNames', WHERE WHAT IT READS IS OF BULK AT MOST 1048576: true; the input reads as it did. -/
def clockNamesUptoRow : OpenClaim := { program := "ytnbjogebdjjepaa", sum := "b472393e811e9f36f5947955c5e06fd437ee0bf88351861227d7393a618831fc", func := "nameplate/nameplatelaw12.ClockNames", spec := "clockNames", apart := false, narrowed := true }
def ClockNamesUptoSaid : Prop := clockNamesUptoRow.holds Try.pinned (OpenSpec.upto clockNamesSpec)

/-- 'nameplatelaw12.ClockCalls', WHERE WHAT IT READS IS OF BULK AT MOST 1048576: true; the input reads as it did. -/
def clockCallsUptoRow : OpenClaim := { program := "ytnbjogebdjjepaa", sum := "b472393e811e9f36f5947955c5e06fd437ee0bf88351861227d7393a618831fc", func := "nameplate/nameplatelaw12.ClockCalls", spec := "clockCalls", apart := false, narrowed := true }
def ClockCallsUptoSaid : Prop := clockCallsUptoRow.holds Try.pinned (OpenSpec.upto clockCallsSpec)

end Rows
end Go.Proofs.Ytnbjogebdjjepaa
