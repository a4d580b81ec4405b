/-
  DERIVED. GIVEN WITH THE SEED: THE CARDS: each row of YtilobbjnmnnmnaaGreatDoorRows.lean that lists a variable, with what it lists TIED to the program's text (the seventh form; the later family's looks); each row that meets fmt, with fmt's text TOLD by the authors' own Lean function (tested against real Go, not proved from fmt's source: count such statements apart). THE CARD IS WHAT COUNTS. Prove the row's statement (the work); the ties are given (YtilobbjnmnnmnaaGreatDoorTie.lean); close each card by the builder's one call (the guide's Derived/Test/ToyasCard.lean, 'card_holds'). Laid BY PROGRAM, IN A SANDBOX (cutbox-door.mjs). By AI agents, Wed Nov 11 2026. No macro, syntax, notation, axiom, sorry.
-/
import Derived.Test.YtilobbjnmnnmnaaGreatDoorRows
import GoSem.ClaimSeven
namespace Go.Proofs.YtilobbjnmnnmnaaGreatDoor
namespace Rows

/-- THE TIED CARD OF 'nameplatelaw05.RangesFree'. -/
def rangesFreeCard : Claim7 := { stood := { row := rangesFreeRow, standIns := [], harness := (true, "dc1db9fd7855f0792e11684efd5e72d0e347d8426c08a81858de443ebdfcabce"), looks := true }, kinds := [], alts := [], laidByText := true, laidKinds := [.data, .data, .data, .data, .sentinel, .sentinel, .pinned, .pinned], laidTests := true, laidLooks := .later }
def RangesFreeCardSaid : Prop := Claim7.holds Tryz.pinned (.plain (OpenSpec.ofChange rangesFreeSpec)) rangesFreeCard

/-- THE TIED CARD OF 'nameplatelaw05.RangesNest'. -/
def rangesNestCard : Claim7 := { stood := { row := rangesNestRow, standIns := [], harness := (true, "dc1db9fd7855f0792e11684efd5e72d0e347d8426c08a81858de443ebdfcabce"), looks := true }, kinds := [], alts := [], laidByText := true, laidKinds := [.data, .data, .data, .data, .sentinel, .sentinel, .pinned, .pinned], laidTests := true, laidLooks := .later }
def RangesNestCardSaid : Prop := Claim7.holds Tryz.pinned (.plain (OpenSpec.ofChange rangesNestSpec)) rangesNestCard

/-- THE TIED CARD OF 'nameplatelaw05.RangesBack'. -/
def rangesBackCard : Claim7 := { stood := { row := rangesBackRow, standIns := [], harness := (true, "dc1db9fd7855f0792e11684efd5e72d0e347d8426c08a81858de443ebdfcabce"), looks := true }, kinds := [], alts := [], laidByText := true, laidKinds := [.data, .data, .data, .data, .sentinel, .sentinel, .pinned, .pinned], laidTests := true, laidLooks := .later }
def RangesBackCardSaid : Prop := Claim7.holds Tryz.pinned (.plain (OpenSpec.ofChange rangesBackSpec)) rangesBackCard

/-- THE TIED CARD OF 'nameplatelaw05.RangesNames'. -/
def rangesNamesCard : Claim7 := { stood := { row := rangesNamesRow, standIns := [], harness := (true, "dc1db9fd7855f0792e11684efd5e72d0e347d8426c08a81858de443ebdfcabce"), looks := true }, kinds := [], alts := [], laidByText := true, laidKinds := [.data, .data, .data, .data, .sentinel, .sentinel, .pinned, .pinned], laidTests := true, laidLooks := .later }
def RangesNamesCardSaid : Prop := Claim7.holds Tryz.pinned (.plain (OpenSpec.ofChange rangesNamesSpec)) rangesNamesCard

/-- THE TIED CARD OF 'nameplatelaw05.RangesCalls'. -/
def rangesCallsCard : Claim7 := { stood := { row := rangesCallsRow, standIns := [], harness := (true, "dc1db9fd7855f0792e11684efd5e72d0e347d8426c08a81858de443ebdfcabce"), looks := true }, kinds := [], alts := [], laidByText := true, laidKinds := [.data, .data, .data, .data, .sentinel, .sentinel, .pinned, .pinned], laidTests := true, laidLooks := .later }
def RangesCallsCardSaid : Prop := Claim7.holds Tryz.pinned (.plain (OpenSpec.ofChange rangesCallsSpec)) rangesCallsCard

/-- THE TIED CARD OF 'nameplatelaw04.AddrReverses'. -/
def addrReversesCard : Claim7 := { stood := { row := addrReversesRow, standIns := [], harness := (true, "dc1db9fd7855f0792e11684efd5e72d0e347d8426c08a81858de443ebdfcabce"), looks := true }, kinds := [], alts := [], laidByText := true, laidKinds := [.data, .data, .data, .data, .sentinel, .sentinel, .pinned, .pinned], laidTests := true, laidLooks := .later }
def AddrReversesCardSaid : Prop := Claim7.holds Tryz.pinned (.plain (OpenSpec.ofChange addrReversesSpec)) addrReversesCard

/-- THE TIED CARD OF 'nameplatelaw04.AddrBack'. -/
def addrBackCard : Claim7 := { stood := { row := addrBackRow, standIns := [], harness := (true, "dc1db9fd7855f0792e11684efd5e72d0e347d8426c08a81858de443ebdfcabce"), looks := true }, kinds := [], alts := [], laidByText := true, laidKinds := [.data, .data, .data, .data, .sentinel, .sentinel, .pinned, .pinned], laidTests := true, laidLooks := .later }
def AddrBackCardSaid : Prop := Claim7.holds Tryz.pinned (.plain (OpenSpec.ofChange addrBackSpec)) addrBackCard

/-- THE SECOND FORM's CARD OF 'nameplatelaw05.RangesFree'. -/
def rangesFreeUptoCard : Claim7 := { stood := { row := rangesFreeUptoRow, standIns := [], harness := (true, "dc1db9fd7855f0792e11684efd5e72d0e347d8426c08a81858de443ebdfcabce"), looks := true }, kinds := [], alts := [], laidByText := true, laidKinds := [.data, .data, .data, .data, .sentinel, .sentinel, .pinned, .pinned], laidTests := true, laidLooks := .later }
def RangesFreeUptoCardSaid : Prop := Claim7.holds Tryz.pinned (.plain (OpenSpec.upto rangesFreeSpec)) rangesFreeUptoCard

/-- THE SECOND FORM's CARD OF 'nameplatelaw05.RangesNest'. -/
def rangesNestUptoCard : Claim7 := { stood := { row := rangesNestUptoRow, standIns := [], harness := (true, "dc1db9fd7855f0792e11684efd5e72d0e347d8426c08a81858de443ebdfcabce"), looks := true }, kinds := [], alts := [], laidByText := true, laidKinds := [.data, .data, .data, .data, .sentinel, .sentinel, .pinned, .pinned], laidTests := true, laidLooks := .later }
def RangesNestUptoCardSaid : Prop := Claim7.holds Tryz.pinned (.plain (OpenSpec.upto rangesNestSpec)) rangesNestUptoCard

/-- THE SECOND FORM's CARD OF 'nameplatelaw05.RangesBack'. -/
def rangesBackUptoCard : Claim7 := { stood := { row := rangesBackUptoRow, standIns := [], harness := (true, "dc1db9fd7855f0792e11684efd5e72d0e347d8426c08a81858de443ebdfcabce"), looks := true }, kinds := [], alts := [], laidByText := true, laidKinds := [.data, .data, .data, .data, .sentinel, .sentinel, .pinned, .pinned], laidTests := true, laidLooks := .later }
def RangesBackUptoCardSaid : Prop := Claim7.holds Tryz.pinned (.plain (OpenSpec.upto rangesBackSpec)) rangesBackUptoCard

/-- THE SECOND FORM's CARD OF 'nameplatelaw05.RangesNames'. -/
def rangesNamesUptoCard : Claim7 := { stood := { row := rangesNamesUptoRow, standIns := [], harness := (true, "dc1db9fd7855f0792e11684efd5e72d0e347d8426c08a81858de443ebdfcabce"), looks := true }, kinds := [], alts := [], laidByText := true, laidKinds := [.data, .data, .data, .data, .sentinel, .sentinel, .pinned, .pinned], laidTests := true, laidLooks := .later }
def RangesNamesUptoCardSaid : Prop := Claim7.holds Tryz.pinned (.plain (OpenSpec.upto rangesNamesSpec)) rangesNamesUptoCard

/-- THE SECOND FORM's CARD OF 'nameplatelaw05.RangesCalls'. -/
def rangesCallsUptoCard : Claim7 := { stood := { row := rangesCallsUptoRow, standIns := [], harness := (true, "dc1db9fd7855f0792e11684efd5e72d0e347d8426c08a81858de443ebdfcabce"), looks := true }, kinds := [], alts := [], laidByText := true, laidKinds := [.data, .data, .data, .data, .sentinel, .sentinel, .pinned, .pinned], laidTests := true, laidLooks := .later }
def RangesCallsUptoCardSaid : Prop := Claim7.holds Tryz.pinned (.plain (OpenSpec.upto rangesCallsSpec)) rangesCallsUptoCard

/-- THE SECOND FORM's CARD OF 'nameplatelaw04.AddrReverses'. -/
def addrReversesUptoCard : Claim7 := { stood := { row := addrReversesUptoRow, standIns := [], harness := (true, "dc1db9fd7855f0792e11684efd5e72d0e347d8426c08a81858de443ebdfcabce"), looks := true }, kinds := [], alts := [], laidByText := true, laidKinds := [.data, .data, .data, .data, .sentinel, .sentinel, .pinned, .pinned], laidTests := true, laidLooks := .later }
def AddrReversesUptoCardSaid : Prop := Claim7.holds Tryz.pinned (.plain (OpenSpec.upto addrReversesSpec)) addrReversesUptoCard

/-- THE SECOND FORM's CARD OF 'nameplatelaw04.AddrBack'. -/
def addrBackUptoCard : Claim7 := { stood := { row := addrBackUptoRow, standIns := [], harness := (true, "dc1db9fd7855f0792e11684efd5e72d0e347d8426c08a81858de443ebdfcabce"), looks := true }, kinds := [], alts := [], laidByText := true, laidKinds := [.data, .data, .data, .data, .sentinel, .sentinel, .pinned, .pinned], laidTests := true, laidLooks := .later }
def AddrBackUptoCardSaid : Prop := Claim7.holds Tryz.pinned (.plain (OpenSpec.upto addrBackSpec)) addrBackUptoCard
end Rows
end Go.Proofs.YtilobbjnmnnmnaaGreatDoor
