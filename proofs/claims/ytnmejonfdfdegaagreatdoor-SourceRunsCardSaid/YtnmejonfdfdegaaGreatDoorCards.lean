/-
  DERIVED. GIVEN WITH THE SEED: THE CARDS: each row of YtnmejonfdfdegaaGreatDoorRows.lean that lists a variable, with what it lists TIED to the program's text (the seventh form; the later family's looks); each row that meets fmt, with fmt's text TOLD by the authors' own Lean function (tested against real Go, not proved from fmt's source: count such statements apart). THE CARD IS WHAT COUNTS. Prove the row's statement (the work); the ties are given (YtnmejonfdfdegaaGreatDoorTie.lean); close each card by the builder's one call (the guide's Derived/Test/ToyasCard.lean, 'card_holds'). Laid BY PROGRAM, IN A SANDBOX (cutbox-door.mjs). By AI agents, Wed Nov 11 2026. No macro, syntax, notation, axiom, sorry.
-/
import Derived.Test.YtnmejonfdfdegaaGreatDoorRows
import GoSem.ClaimSeven
namespace Go.Proofs.YtnmejonfdfdegaaGreatDoor
namespace Rows

/-- THE TIED CARD OF 'munimentlaw19.StatixChanged'. -/
def statixChangedCard : Claim7 := { stood := { row := statixChangedRow, standIns := [], harness := (true, "fffa654a446dfa6527fbaafb3bab8178112d7021e518836d3352dc1a7ed3d8cb"), looks := false }, kinds := [], alts := [], laidByText := true, laidKinds := [.data, .pinned], laidTests := true, laidLooks := .later }
def StatixChangedCardSaid : Prop := Claim7.holds Tryz.pinned (.plain (OpenSpec.ofChange statixChangedSpec)) statixChangedCard

/-- THE TIED CARD OF 'munimentlaw18.SourceRuns'. -/
def sourceRunsCard : Claim7 := { stood := { row := sourceRunsRow, standIns := [], harness := (true, "fffa654a446dfa6527fbaafb3bab8178112d7021e518836d3352dc1a7ed3d8cb"), looks := false }, kinds := [], alts := [], laidByText := true, laidKinds := [.data, .pinned], laidTests := true, laidLooks := .later }
def SourceRunsCardSaid : Prop := Claim7.holds Tryz.pinned (.plain (OpenSpec.ofChange sourceRunsSpec)) sourceRunsCard

/-- THE SECOND FORM's CARD OF 'munimentlaw19.StatixChanged'. -/
def statixChangedUptoCard : Claim7 := { stood := { row := statixChangedUptoRow, standIns := [], harness := (true, "fffa654a446dfa6527fbaafb3bab8178112d7021e518836d3352dc1a7ed3d8cb"), looks := false }, kinds := [], alts := [], laidByText := true, laidKinds := [.data, .pinned], laidTests := true, laidLooks := .later }
def StatixChangedUptoCardSaid : Prop := Claim7.holds Tryz.pinned (.plain (OpenSpec.upto statixChangedSpec)) statixChangedUptoCard

/-- THE SECOND FORM's CARD OF 'munimentlaw18.SourceRuns'. -/
def sourceRunsUptoCard : Claim7 := { stood := { row := sourceRunsUptoRow, standIns := [], harness := (true, "fffa654a446dfa6527fbaafb3bab8178112d7021e518836d3352dc1a7ed3d8cb"), looks := false }, kinds := [], alts := [], laidByText := true, laidKinds := [.data, .pinned], laidTests := true, laidLooks := .later }
def SourceRunsUptoCardSaid : Prop := Claim7.holds Tryz.pinned (.plain (OpenSpec.upto sourceRunsSpec)) sourceRunsUptoCard
end Rows
end Go.Proofs.YtnmejonfdfdegaaGreatDoor
