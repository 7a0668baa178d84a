/-
  DERIVED. GIVEN WITH THE SEED: THE CARDS: each row of YtkeegnhjemhblaaGreatDoorRows.lean that lists a variable, with what it lists TIED to the program's text (the seventh form; the later family's looks); each row that meets fmt, with fmt's text TOLD by the authors' own Lean function (tested against real Go, not proved from fmt's source: count such statements apart). THE CARD IS WHAT COUNTS. Prove the row's statement (the work); the ties are given (YtkeegnhjemhblaaGreatDoorTie.lean); close each card by the builder's one call (the guide's Derived/Test/ToyasCard.lean, 'card_holds'). Laid BY PROGRAM, IN A SANDBOX (cutbox-door.mjs). By AI agents, Wed Nov 11 2026. No macro, syntax, notation, axiom, sorry.
-/
import Derived.Test.YtkeegnhjemhblaaGreatDoorRows
import GoSem.ClaimSeven
namespace Go.Proofs.YtkeegnhjemhblaaGreatDoor
namespace Rows

/-- THE TIED CARD OF 'munimentlaw20.RefsBytes'. -/
def refsBytesCard : Claim7 := { stood := { row := refsBytesRow, standIns := [], harness := (true, "6c854e63bda0caf69740826f291c1774e3ecc5b5efdd9b9582bcdb4264fb72e2"), looks := true }, kinds := [], alts := [], laidByText := true, laidKinds := [.data, .pinned], laidTests := true, laidLooks := .later }
def RefsBytesCardSaid : Prop := Claim7.holds Tryz.pinned (.plain (OpenSpec.ofChange refsBytesSpec)) refsBytesCard

/-- THE TIED CARD OF 'munimentlaw20.RefsPlays'. -/
def refsPlaysCard : Claim7 := { stood := { row := refsPlaysRow, standIns := [], harness := (true, "6c854e63bda0caf69740826f291c1774e3ecc5b5efdd9b9582bcdb4264fb72e2"), looks := true }, kinds := [], alts := [], laidByText := true, laidKinds := [.data, .pinned], laidTests := true, laidLooks := .later }
def RefsPlaysCardSaid : Prop := Claim7.holds Tryz.pinned (.plain (OpenSpec.ofChange refsPlaysSpec)) refsPlaysCard

/-- THE TIED CARD OF 'munimentlaw20.RefsFalls'. -/
def refsFallsCard : Claim7 := { stood := { row := refsFallsRow, standIns := [], harness := (true, "6c854e63bda0caf69740826f291c1774e3ecc5b5efdd9b9582bcdb4264fb72e2"), looks := true }, kinds := [], alts := [], laidByText := true, laidKinds := [.data, .data, .data, .data, .sentinel, .sentinel, .pinned], laidTests := true, laidLooks := .later }
def RefsFallsCardSaid : Prop := Claim7.holds Tryz.pinned (.plain (OpenSpec.ofChange refsFallsSpec)) refsFallsCard

/-- THE TIED CARD OF 'munimentlaw20.RefsDisks'. -/
def refsDisksCard : Claim7 := { stood := { row := refsDisksRow, standIns := [], harness := (true, "6c854e63bda0caf69740826f291c1774e3ecc5b5efdd9b9582bcdb4264fb72e2"), looks := true }, kinds := [], alts := [], laidByText := true, laidKinds := [.data, .data, .data, .data, .sentinel, .sentinel, .pinned], laidTests := true, laidLooks := .later }
def RefsDisksCardSaid : Prop := Claim7.holds Tryz.pinned (.plain (OpenSpec.ofChange refsDisksSpec)) refsDisksCard

/-- THE SECOND FORM's CARD OF 'munimentlaw20.RefsBytes'. -/
def refsBytesUptoCard : Claim7 := { stood := { row := refsBytesUptoRow, standIns := [], harness := (true, "6c854e63bda0caf69740826f291c1774e3ecc5b5efdd9b9582bcdb4264fb72e2"), looks := true }, kinds := [], alts := [], laidByText := true, laidKinds := [.data, .pinned], laidTests := true, laidLooks := .later }
def RefsBytesUptoCardSaid : Prop := Claim7.holds Tryz.pinned (.plain (OpenSpec.upto refsBytesSpec)) refsBytesUptoCard

/-- THE SECOND FORM's CARD OF 'munimentlaw20.RefsPlays'. -/
def refsPlaysUptoCard : Claim7 := { stood := { row := refsPlaysUptoRow, standIns := [], harness := (true, "6c854e63bda0caf69740826f291c1774e3ecc5b5efdd9b9582bcdb4264fb72e2"), looks := true }, kinds := [], alts := [], laidByText := true, laidKinds := [.data, .pinned], laidTests := true, laidLooks := .later }
def RefsPlaysUptoCardSaid : Prop := Claim7.holds Tryz.pinned (.plain (OpenSpec.upto refsPlaysSpec)) refsPlaysUptoCard

/-- THE SECOND FORM's CARD OF 'munimentlaw20.RefsFalls'. -/
def refsFallsUptoCard : Claim7 := { stood := { row := refsFallsUptoRow, standIns := [], harness := (true, "6c854e63bda0caf69740826f291c1774e3ecc5b5efdd9b9582bcdb4264fb72e2"), looks := true }, kinds := [], alts := [], laidByText := true, laidKinds := [.data, .data, .data, .data, .sentinel, .sentinel, .pinned], laidTests := true, laidLooks := .later }
def RefsFallsUptoCardSaid : Prop := Claim7.holds Tryz.pinned (.plain (OpenSpec.upto refsFallsSpec)) refsFallsUptoCard

/-- THE SECOND FORM's CARD OF 'munimentlaw20.RefsDisks'. -/
def refsDisksUptoCard : Claim7 := { stood := { row := refsDisksUptoRow, standIns := [], harness := (true, "6c854e63bda0caf69740826f291c1774e3ecc5b5efdd9b9582bcdb4264fb72e2"), looks := true }, kinds := [], alts := [], laidByText := true, laidKinds := [.data, .data, .data, .data, .sentinel, .sentinel, .pinned], laidTests := true, laidLooks := .later }
def RefsDisksUptoCardSaid : Prop := Claim7.holds Tryz.pinned (.plain (OpenSpec.upto refsDisksSpec)) refsDisksUptoCard
end Rows
end Go.Proofs.YtkeegnhjemhblaaGreatDoor
