/-
  DERIVED. GIVEN WITH THE SEED: THE CARDS: each row of YtbalmnkbodcigaaGreatDoorRows.lean that lists a variable, with what it lists TIED to the program's text (the seventh form; the later family's looks); each row that meets fmt, with fmt's text TOLD by the authors' own Lean function (tested against real Go, not proved from fmt's source: count such statements apart). THE CARD IS WHAT COUNTS. Prove the row's statement (the work); the ties are given (YtbalmnkbodcigaaGreatDoorTie.lean); close each card by the builder's one call (the guide's Derived/Test/ToyasCard.lean, 'card_holds'). Laid BY PROGRAM, IN A SANDBOX (cutbox-door.mjs). By AI agents, Wed Nov 11 2026. No macro, syntax, notation, axiom, sorry.
-/
import Derived.Test.YtbalmnkbodcigaaGreatDoorRows
import GoSem.ClaimSeven
namespace Go.Proofs.YtbalmnkbodcigaaGreatDoor
namespace Rows

/-- THE TIED CARD OF 'nameplatelaw05.RangesCalls'. -/
def rangesCallsCard : Claim7 := { stood := { row := rangesCallsRow, standIns := [], harness := (true, "538878efa2131aed6ca2809c1039023431fb4fb863ed0c9e2e46e0e8bd4ad071"), looks := true }, kinds := [], alts := [], laidByText := true, laidKinds := [.data, .data, .data, .data, .sentinel, .sentinel, .pinned, .pinned], laidTests := true, laidLooks := .later }
def RangesCallsCardSaid : Prop := Claim7.holds Tryz.pinned (.plain (OpenSpec.ofChange rangesCallsSpec)) rangesCallsCard

/-- THE SECOND FORM's CARD OF 'nameplatelaw05.RangesCalls'. -/
def rangesCallsUptoCard : Claim7 := { stood := { row := rangesCallsUptoRow, standIns := [], harness := (true, "538878efa2131aed6ca2809c1039023431fb4fb863ed0c9e2e46e0e8bd4ad071"), looks := true }, kinds := [], alts := [], laidByText := true, laidKinds := [.data, .data, .data, .data, .sentinel, .sentinel, .pinned, .pinned], laidTests := true, laidLooks := .later }
def RangesCallsUptoCardSaid : Prop := Claim7.holds Tryz.pinned (.plain (OpenSpec.upto rangesCallsSpec)) rangesCallsUptoCard
end Rows
end Go.Proofs.YtbalmnkbodcigaaGreatDoor
