/-
  DERIVED. GIVEN WITH THE SEED: THE CARDS: each row of YtkdkifciajfpnaaDoorRows.lean that lists a variable, with what it lists TIED to the program's text (the seventh form; the later family's looks); each row that meets fmt, with fmt's text TOLD by the authors' own Lean function (tested against real Go, not proved from fmt's source: count such statements apart). THE CARD IS WHAT COUNTS. Prove the row's statement (the work); the ties are given (YtkdkifciajfpnaaDoorTie.lean); close each card by the builder's one call (the guide's Derived/Test/ToyasCard.lean, 'card_holds'). Laid BY PROGRAM, IN A SANDBOX (cutbox-door.mjs). By AI agents, Wed Nov 11 2026. No macro, syntax, notation, axiom, sorry.
-/
import Derived.Test.YtkdkifciajfpnaaDoorRows
import GoSem.ClaimSeven
namespace Go.Proofs.YtkdkifciajfpnaaDoor
namespace Rows

/-- THE TIED CARD OF 'munimentlaw18.SourceTwins'. -/
def sourceTwinsCard : Claim7 := { stood := { row := sourceTwinsRow, standIns := [], harness := (true, "4640c684a0e7220750c0646eae82e6e9cbda585f3458139b25619df0ba58c6c4"), looks := false }, kinds := [], alts := [], laidByText := true, laidKinds := [.data, .pinned], laidTests := true, laidLooks := .later }
def SourceTwinsCardSaid : Prop := Claim7.holds Tryd.pinned (.plain (OpenSpec.ofChange sourceTwinsSpec)) sourceTwinsCard

/-- THE SECOND FORM's CARD OF 'munimentlaw18.SourceTwins'. -/
def sourceTwinsUptoCard : Claim7 := { stood := { row := sourceTwinsUptoRow, standIns := [], harness := (true, "4640c684a0e7220750c0646eae82e6e9cbda585f3458139b25619df0ba58c6c4"), looks := false }, kinds := [], alts := [], laidByText := true, laidKinds := [.data, .pinned], laidTests := true, laidLooks := .later }
def SourceTwinsUptoCardSaid : Prop := Claim7.holds Tryd.pinned (.plain (OpenSpec.upto sourceTwinsSpec)) sourceTwinsUptoCard
end Rows
end Go.Proofs.YtkdkifciajfpnaaDoor
