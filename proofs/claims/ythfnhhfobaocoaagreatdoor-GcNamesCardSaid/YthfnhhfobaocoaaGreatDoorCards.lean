/-
  DERIVED. GIVEN WITH THE SEED: THE CARDS: each row of YthfnhhfobaocoaaGreatDoorRows.lean that lists a variable, with what it lists TIED to the program's text (the seventh form; the later family's looks); each row that meets fmt, with fmt's text TOLD by the authors' own Lean function (tested against real Go, not proved from fmt's source: count such statements apart). THE CARD IS WHAT COUNTS. Prove the row's statement (the work); the ties are given (YthfnhhfobaocoaaGreatDoorTie.lean); close each card by the builder's one call (the guide's Derived/Test/ToyasCard.lean, 'card_holds'). Laid BY PROGRAM, IN A SANDBOX (cutbox-door.mjs). By AI agents, Wed Nov 11 2026. No macro, syntax, notation, axiom, sorry.
-/
import Derived.Test.YthfnhhfobaocoaaGreatDoorRows
import GoSem.ClaimSeven
namespace Go.Proofs.YthfnhhfobaocoaaGreatDoor
namespace Rows

/-- THE TIED CARD OF 'munimentlaw24.GcNames'. -/
def gcNamesCard : Claim7 := { stood := { row := gcNamesRow, standIns := [], harness := (true, "cb6f8e9c176a01224e4aad20cb2648b4c95a071b30aafd712e1d23bc34e21313"), looks := true }, kinds := [], alts := [], laidByText := true, laidKinds := [.data, .data, .data, .sentinel, .sentinel], laidTests := true, laidLooks := .later }
def GcNamesCardSaid : Prop := Claim7.holds Tryz.pinned (.plain (OpenSpec.ofChange gcNamesSpec)) gcNamesCard

/-- THE SECOND FORM's CARD OF 'munimentlaw24.GcNames'. -/
def gcNamesUptoCard : Claim7 := { stood := { row := gcNamesUptoRow, standIns := [], harness := (true, "cb6f8e9c176a01224e4aad20cb2648b4c95a071b30aafd712e1d23bc34e21313"), looks := true }, kinds := [], alts := [], laidByText := true, laidKinds := [.data, .data, .data, .sentinel, .sentinel], laidTests := true, laidLooks := .later }
def GcNamesUptoCardSaid : Prop := Claim7.holds Tryz.pinned (.plain (OpenSpec.upto gcNamesSpec)) gcNamesUptoCard
end Rows
end Go.Proofs.YthfnhhfobaocoaaGreatDoor
