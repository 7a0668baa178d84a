/-
  DERIVED. GIVEN WITH THE SEED: THE CARDS: each row of YthcjjekkjbidlaaDoorRows.lean that lists a variable, with what it lists TIED to the program's text (the seventh form; the later family's looks); each row that meets fmt, with fmt's text TOLD by the authors' own Lean function (tested against real Go, not proved from fmt's source: count such statements apart). THE CARD IS WHAT COUNTS. Prove the row's statement (the work); the ties are given (YthcjjekkjbidlaaDoorTie.lean); close each card by the builder's one call (the guide's Derived/Test/ToyasCard.lean, 'card_holds'). Laid BY PROGRAM, IN A SANDBOX (cutbox-door.mjs). By AI agents, Wed Nov 11 2026. No macro, syntax, notation, axiom, sorry.
-/
import Derived.Test.YthcjjekkjbidlaaDoorRows
import GoSem.ClaimSeven
namespace Go.Proofs.YthcjjekkjbidlaaDoor
namespace Rows

/-- THE TIED CARD OF 'munimentlaw18.SourceNames'. -/
def sourceNamesCard : Claim7 := { stood := { row := sourceNamesRow, standIns := [], harness := (true, "3bc950bceba4aca4ba443921c225e6521e296fd9c4d3d7d58f1c061542c12f15"), looks := false }, kinds := [], alts := [], laidByText := true, laidKinds := [.data, .pinned], laidTests := true, laidLooks := .later }
def SourceNamesCardSaid : Prop := Claim7.holds Tryd.pinned (.plain (OpenSpec.ofChange sourceNamesSpec)) sourceNamesCard

/-- THE TIED CARD OF 'munimentlaw19.StatixHonest'. -/
def statixHonestCard : Claim7 := { stood := { row := statixHonestRow, standIns := [], harness := (true, "3bc950bceba4aca4ba443921c225e6521e296fd9c4d3d7d58f1c061542c12f15"), looks := false }, kinds := [], alts := [], laidByText := true, laidKinds := [.data, .pinned], laidTests := true, laidLooks := .later }
def StatixHonestCardSaid : Prop := Claim7.holds Tryd.pinned (.plain (OpenSpec.ofChange statixHonestSpec)) statixHonestCard

/-- THE TIED CARD OF 'munimentlaw19.StatixSwept'. -/
def statixSweptCard : Claim7 := { stood := { row := statixSweptRow, standIns := [], harness := (true, "3bc950bceba4aca4ba443921c225e6521e296fd9c4d3d7d58f1c061542c12f15"), looks := false }, kinds := [], alts := [], laidByText := true, laidKinds := [.data, .pinned], laidTests := true, laidLooks := .later }
def StatixSweptCardSaid : Prop := Claim7.holds Tryd.pinned (.plain (OpenSpec.ofChange statixSweptSpec)) statixSweptCard

/-- THE TIED CARD OF 'munimentlaw18.SourceWhole'. -/
def sourceWholeCard : Claim7 := { stood := { row := sourceWholeRow, standIns := [], harness := (true, "3bc950bceba4aca4ba443921c225e6521e296fd9c4d3d7d58f1c061542c12f15"), looks := false }, kinds := [], alts := [], laidByText := true, laidKinds := [.data, .pinned], laidTests := true, laidLooks := .later }
def SourceWholeCardSaid : Prop := Claim7.holds Tryd.pinned (.plain (OpenSpec.ofChange sourceWholeSpec)) sourceWholeCard

/-- THE TIED CARD OF 'munimentlaw18.SourceHonest'. -/
def sourceHonestCard : Claim7 := { stood := { row := sourceHonestRow, standIns := [], harness := (true, "3bc950bceba4aca4ba443921c225e6521e296fd9c4d3d7d58f1c061542c12f15"), looks := false }, kinds := [], alts := [], laidByText := true, laidKinds := [.data, .pinned], laidTests := true, laidLooks := .later }
def SourceHonestCardSaid : Prop := Claim7.holds Tryd.pinned (.plain (OpenSpec.ofChange sourceHonestSpec)) sourceHonestCard

/-- THE TIED CARD OF 'munimentlaw18.SourceTwins'. -/
def sourceTwinsCard : Claim7 := { stood := { row := sourceTwinsRow, standIns := [], harness := (true, "3bc950bceba4aca4ba443921c225e6521e296fd9c4d3d7d58f1c061542c12f15"), looks := false }, kinds := [], alts := [], laidByText := true, laidKinds := [.data, .pinned], laidTests := true, laidLooks := .later }
def SourceTwinsCardSaid : Prop := Claim7.holds Tryd.pinned (.plain (OpenSpec.ofChange sourceTwinsSpec)) sourceTwinsCard

/-- THE SECOND FORM's CARD OF 'munimentlaw18.SourceNames'. -/
def sourceNamesUptoCard : Claim7 := { stood := { row := sourceNamesUptoRow, standIns := [], harness := (true, "3bc950bceba4aca4ba443921c225e6521e296fd9c4d3d7d58f1c061542c12f15"), looks := false }, kinds := [], alts := [], laidByText := true, laidKinds := [.data, .pinned], laidTests := true, laidLooks := .later }
def SourceNamesUptoCardSaid : Prop := Claim7.holds Tryd.pinned (.plain (OpenSpec.upto sourceNamesSpec)) sourceNamesUptoCard

/-- THE SECOND FORM's CARD OF 'munimentlaw19.StatixHonest'. -/
def statixHonestUptoCard : Claim7 := { stood := { row := statixHonestUptoRow, standIns := [], harness := (true, "3bc950bceba4aca4ba443921c225e6521e296fd9c4d3d7d58f1c061542c12f15"), looks := false }, kinds := [], alts := [], laidByText := true, laidKinds := [.data, .pinned], laidTests := true, laidLooks := .later }
def StatixHonestUptoCardSaid : Prop := Claim7.holds Tryd.pinned (.plain (OpenSpec.upto statixHonestSpec)) statixHonestUptoCard

/-- THE SECOND FORM's CARD OF 'munimentlaw19.StatixSwept'. -/
def statixSweptUptoCard : Claim7 := { stood := { row := statixSweptUptoRow, standIns := [], harness := (true, "3bc950bceba4aca4ba443921c225e6521e296fd9c4d3d7d58f1c061542c12f15"), looks := false }, kinds := [], alts := [], laidByText := true, laidKinds := [.data, .pinned], laidTests := true, laidLooks := .later }
def StatixSweptUptoCardSaid : Prop := Claim7.holds Tryd.pinned (.plain (OpenSpec.upto statixSweptSpec)) statixSweptUptoCard

/-- THE SECOND FORM's CARD OF 'munimentlaw18.SourceWhole'. -/
def sourceWholeUptoCard : Claim7 := { stood := { row := sourceWholeUptoRow, standIns := [], harness := (true, "3bc950bceba4aca4ba443921c225e6521e296fd9c4d3d7d58f1c061542c12f15"), looks := false }, kinds := [], alts := [], laidByText := true, laidKinds := [.data, .pinned], laidTests := true, laidLooks := .later }
def SourceWholeUptoCardSaid : Prop := Claim7.holds Tryd.pinned (.plain (OpenSpec.upto sourceWholeSpec)) sourceWholeUptoCard

/-- THE SECOND FORM's CARD OF 'munimentlaw18.SourceHonest'. -/
def sourceHonestUptoCard : Claim7 := { stood := { row := sourceHonestUptoRow, standIns := [], harness := (true, "3bc950bceba4aca4ba443921c225e6521e296fd9c4d3d7d58f1c061542c12f15"), looks := false }, kinds := [], alts := [], laidByText := true, laidKinds := [.data, .pinned], laidTests := true, laidLooks := .later }
def SourceHonestUptoCardSaid : Prop := Claim7.holds Tryd.pinned (.plain (OpenSpec.upto sourceHonestSpec)) sourceHonestUptoCard

/-- THE SECOND FORM's CARD OF 'munimentlaw18.SourceTwins'. -/
def sourceTwinsUptoCard : Claim7 := { stood := { row := sourceTwinsUptoRow, standIns := [], harness := (true, "3bc950bceba4aca4ba443921c225e6521e296fd9c4d3d7d58f1c061542c12f15"), looks := false }, kinds := [], alts := [], laidByText := true, laidKinds := [.data, .pinned], laidTests := true, laidLooks := .later }
def SourceTwinsUptoCardSaid : Prop := Claim7.holds Tryd.pinned (.plain (OpenSpec.upto sourceTwinsSpec)) sourceTwinsUptoCard
end Rows
end Go.Proofs.YthcjjekkjbidlaaDoor
