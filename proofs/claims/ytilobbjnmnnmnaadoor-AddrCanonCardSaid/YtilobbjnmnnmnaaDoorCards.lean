/-
  DERIVED. GIVEN WITH THE SEED: THE CARDS: each row of YtilobbjnmnnmnaaDoorRows.lean that lists a variable, with what it lists TIED to the program's text (the seventh form; the later family's looks); each row that meets fmt, with fmt's text TOLD by the authors' own Lean function (tested against real Go, not proved from fmt's source: count such statements apart). THE CARD IS WHAT COUNTS. Prove the row's statement (the work); the ties are given (YtilobbjnmnnmnaaDoorTie.lean); close each card by the builder's one call (the guide's Derived/Test/ToyasCard.lean, 'card_holds'). Laid BY PROGRAM, IN A SANDBOX (cutbox-door.mjs). By AI agents, Wed Nov 11 2026. No macro, syntax, notation, axiom, sorry.
-/
import Derived.Test.YtilobbjnmnnmnaaDoorRows
import GoSem.ClaimSeven
namespace Go.Proofs.YtilobbjnmnnmnaaDoor
namespace Rows

/-- THE TIED CARD OF 'nameplatelaw05.RangesMeet'. -/
def rangesMeetCard : Claim7 := { stood := { row := rangesMeetRow, standIns := [], harness := (true, "97f7614a82db22cb6ede67584eed7ff3ecd74d359286df33eed419397b467975"), looks := true }, kinds := [], alts := [], laidByText := true, laidKinds := [.data, .data, .data, .data, .sentinel, .sentinel, .pinned, .pinned], laidTests := true, laidLooks := .later }
def RangesMeetCardSaid : Prop := Claim7.holds Tryd.pinned (.plain (OpenSpec.ofChange rangesMeetSpec)) rangesMeetCard

/-- THE TIED CARD OF 'nameplatelaw04.AddrCanon'. -/
def addrCanonCard : Claim7 := { stood := { row := addrCanonRow, standIns := [], harness := (true, "97f7614a82db22cb6ede67584eed7ff3ecd74d359286df33eed419397b467975"), looks := true }, kinds := [], alts := [], laidByText := true, laidKinds := [.data, .data, .data, .data, .sentinel, .sentinel, .pinned, .pinned], laidTests := true, laidLooks := .later }
def AddrCanonCardSaid : Prop := Claim7.holds Tryd.pinned (.plain (OpenSpec.ofChange addrCanonSpec)) addrCanonCard

/-- THE TIED CARD OF 'nameplatelaw04.AddrGroups'. -/
def addrGroupsCard : Claim7 := { stood := { row := addrGroupsRow, standIns := [], harness := (true, "97f7614a82db22cb6ede67584eed7ff3ecd74d359286df33eed419397b467975"), looks := true }, kinds := [], alts := [], laidByText := true, laidKinds := [.data, .data, .data, .data, .sentinel, .sentinel, .pinned, .pinned], laidTests := true, laidLooks := .later }
def AddrGroupsCardSaid : Prop := Claim7.holds Tryd.pinned (.plain (OpenSpec.ofChange addrGroupsSpec)) addrGroupsCard

/-- THE SECOND FORM's CARD OF 'nameplatelaw05.RangesMeet'. -/
def rangesMeetUptoCard : Claim7 := { stood := { row := rangesMeetUptoRow, standIns := [], harness := (true, "97f7614a82db22cb6ede67584eed7ff3ecd74d359286df33eed419397b467975"), looks := true }, kinds := [], alts := [], laidByText := true, laidKinds := [.data, .data, .data, .data, .sentinel, .sentinel, .pinned, .pinned], laidTests := true, laidLooks := .later }
def RangesMeetUptoCardSaid : Prop := Claim7.holds Tryd.pinned (.plain (OpenSpec.upto rangesMeetSpec)) rangesMeetUptoCard

/-- THE SECOND FORM's CARD OF 'nameplatelaw04.AddrCanon'. -/
def addrCanonUptoCard : Claim7 := { stood := { row := addrCanonUptoRow, standIns := [], harness := (true, "97f7614a82db22cb6ede67584eed7ff3ecd74d359286df33eed419397b467975"), looks := true }, kinds := [], alts := [], laidByText := true, laidKinds := [.data, .data, .data, .data, .sentinel, .sentinel, .pinned, .pinned], laidTests := true, laidLooks := .later }
def AddrCanonUptoCardSaid : Prop := Claim7.holds Tryd.pinned (.plain (OpenSpec.upto addrCanonSpec)) addrCanonUptoCard

/-- THE SECOND FORM's CARD OF 'nameplatelaw04.AddrGroups'. -/
def addrGroupsUptoCard : Claim7 := { stood := { row := addrGroupsUptoRow, standIns := [], harness := (true, "97f7614a82db22cb6ede67584eed7ff3ecd74d359286df33eed419397b467975"), looks := true }, kinds := [], alts := [], laidByText := true, laidKinds := [.data, .data, .data, .data, .sentinel, .sentinel, .pinned, .pinned], laidTests := true, laidLooks := .later }
def AddrGroupsUptoCardSaid : Prop := Claim7.holds Tryd.pinned (.plain (OpenSpec.upto addrGroupsSpec)) addrGroupsUptoCard
end Rows
end Go.Proofs.YtilobbjnmnnmnaaDoor
