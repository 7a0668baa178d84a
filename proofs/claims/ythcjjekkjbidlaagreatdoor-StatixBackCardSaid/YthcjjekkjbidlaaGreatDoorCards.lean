/-
  DERIVED. GIVEN WITH THE SEED: THE CARDS: each row of YthcjjekkjbidlaaGreatDoorRows.lean that lists a variable, with what it lists TIED to the program's text (the seventh form; the later family's looks); each row that meets fmt, with fmt's text TOLD by the authors' own Lean function (tested against real Go, not proved from fmt's source: count such statements apart). THE CARD IS WHAT COUNTS. Prove the row's statement (the work); the ties are given (YthcjjekkjbidlaaGreatDoorTie.lean); close each card by the builder's one call (the guide's Derived/Test/ToyasCard.lean, 'card_holds'). Laid BY PROGRAM, IN A SANDBOX (cutbox-door.mjs). By AI agents, Wed Nov 11 2026. No macro, syntax, notation, axiom, sorry.
-/
import Derived.Test.YthcjjekkjbidlaaGreatDoorRows
import GoSem.ClaimSeven
namespace Go.Proofs.YthcjjekkjbidlaaGreatDoor
namespace Rows

/-- THE TIED CARD OF 'munimentlaw19.StatixRuns'. -/
def statixRunsCard : Claim7 := { stood := { row := statixRunsRow, standIns := [], harness := (true, "5fac58bf0f2896f5a6193648fa090943c68c65a1c2347d14d9393670e28a776a"), looks := false }, kinds := [], alts := [], laidByText := true, laidKinds := [.data, .pinned], laidTests := true, laidLooks := .later }
def StatixRunsCardSaid : Prop := Claim7.holds Tryz.pinned (.plain (OpenSpec.ofChange statixRunsSpec)) statixRunsCard

/-- THE TIED CARD OF 'munimentlaw19.StatixChanged'. -/
def statixChangedCard : Claim7 := { stood := { row := statixChangedRow, standIns := [], harness := (true, "5fac58bf0f2896f5a6193648fa090943c68c65a1c2347d14d9393670e28a776a"), looks := false }, kinds := [], alts := [], laidByText := true, laidKinds := [.data, .pinned], laidTests := true, laidLooks := .later }
def StatixChangedCardSaid : Prop := Claim7.holds Tryz.pinned (.plain (OpenSpec.ofChange statixChangedSpec)) statixChangedCard

/-- THE TIED CARD OF 'munimentlaw19.StatixDecodes'. -/
def statixDecodesCard : Claim7 := { stood := { row := statixDecodesRow, standIns := [], harness := (true, "5fac58bf0f2896f5a6193648fa090943c68c65a1c2347d14d9393670e28a776a"), looks := false }, kinds := [], alts := [], laidByText := true, laidKinds := [.data, .pinned], laidTests := true, laidLooks := .later }
def StatixDecodesCardSaid : Prop := Claim7.holds Tryz.pinned (.plain (OpenSpec.ofChange statixDecodesSpec)) statixDecodesCard

/-- THE TIED CARD OF 'munimentlaw19.StatixNames'. -/
def statixNamesCard : Claim7 := { stood := { row := statixNamesRow, standIns := [], harness := (true, "5fac58bf0f2896f5a6193648fa090943c68c65a1c2347d14d9393670e28a776a"), looks := false }, kinds := [], alts := [], laidByText := true, laidKinds := [.data, .pinned], laidTests := true, laidLooks := .later }
def StatixNamesCardSaid : Prop := Claim7.holds Tryz.pinned (.plain (OpenSpec.ofChange statixNamesSpec)) statixNamesCard

/-- THE TIED CARD OF 'munimentlaw18.SourceRuns'. -/
def sourceRunsCard : Claim7 := { stood := { row := sourceRunsRow, standIns := [], harness := (true, "5fac58bf0f2896f5a6193648fa090943c68c65a1c2347d14d9393670e28a776a"), looks := false }, kinds := [], alts := [], laidByText := true, laidKinds := [.data, .pinned], laidTests := true, laidLooks := .later }
def SourceRunsCardSaid : Prop := Claim7.holds Tryz.pinned (.plain (OpenSpec.ofChange sourceRunsSpec)) sourceRunsCard

/-- THE TIED CARD OF 'munimentlaw19.StatixBack'. -/
def statixBackCard : Claim7 := { stood := { row := statixBackRow, standIns := [], harness := (true, "5fac58bf0f2896f5a6193648fa090943c68c65a1c2347d14d9393670e28a776a"), looks := false }, kinds := [], alts := [], laidByText := true, laidKinds := [.data, .pinned], laidTests := true, laidLooks := .later }
def StatixBackCardSaid : Prop := Claim7.holds Tryz.pinned (.plain (OpenSpec.ofChange statixBackSpec)) statixBackCard

/-- THE SECOND FORM's CARD OF 'munimentlaw19.StatixRuns'. -/
def statixRunsUptoCard : Claim7 := { stood := { row := statixRunsUptoRow, standIns := [], harness := (true, "5fac58bf0f2896f5a6193648fa090943c68c65a1c2347d14d9393670e28a776a"), looks := false }, kinds := [], alts := [], laidByText := true, laidKinds := [.data, .pinned], laidTests := true, laidLooks := .later }
def StatixRunsUptoCardSaid : Prop := Claim7.holds Tryz.pinned (.plain (OpenSpec.upto statixRunsSpec)) statixRunsUptoCard

/-- THE SECOND FORM's CARD OF 'munimentlaw19.StatixChanged'. -/
def statixChangedUptoCard : Claim7 := { stood := { row := statixChangedUptoRow, standIns := [], harness := (true, "5fac58bf0f2896f5a6193648fa090943c68c65a1c2347d14d9393670e28a776a"), looks := false }, kinds := [], alts := [], laidByText := true, laidKinds := [.data, .pinned], laidTests := true, laidLooks := .later }
def StatixChangedUptoCardSaid : Prop := Claim7.holds Tryz.pinned (.plain (OpenSpec.upto statixChangedSpec)) statixChangedUptoCard

/-- THE SECOND FORM's CARD OF 'munimentlaw19.StatixDecodes'. -/
def statixDecodesUptoCard : Claim7 := { stood := { row := statixDecodesUptoRow, standIns := [], harness := (true, "5fac58bf0f2896f5a6193648fa090943c68c65a1c2347d14d9393670e28a776a"), looks := false }, kinds := [], alts := [], laidByText := true, laidKinds := [.data, .pinned], laidTests := true, laidLooks := .later }
def StatixDecodesUptoCardSaid : Prop := Claim7.holds Tryz.pinned (.plain (OpenSpec.upto statixDecodesSpec)) statixDecodesUptoCard

/-- THE SECOND FORM's CARD OF 'munimentlaw19.StatixNames'. -/
def statixNamesUptoCard : Claim7 := { stood := { row := statixNamesUptoRow, standIns := [], harness := (true, "5fac58bf0f2896f5a6193648fa090943c68c65a1c2347d14d9393670e28a776a"), looks := false }, kinds := [], alts := [], laidByText := true, laidKinds := [.data, .pinned], laidTests := true, laidLooks := .later }
def StatixNamesUptoCardSaid : Prop := Claim7.holds Tryz.pinned (.plain (OpenSpec.upto statixNamesSpec)) statixNamesUptoCard

/-- THE SECOND FORM's CARD OF 'munimentlaw18.SourceRuns'. -/
def sourceRunsUptoCard : Claim7 := { stood := { row := sourceRunsUptoRow, standIns := [], harness := (true, "5fac58bf0f2896f5a6193648fa090943c68c65a1c2347d14d9393670e28a776a"), looks := false }, kinds := [], alts := [], laidByText := true, laidKinds := [.data, .pinned], laidTests := true, laidLooks := .later }
def SourceRunsUptoCardSaid : Prop := Claim7.holds Tryz.pinned (.plain (OpenSpec.upto sourceRunsSpec)) sourceRunsUptoCard

/-- THE SECOND FORM's CARD OF 'munimentlaw19.StatixBack'. -/
def statixBackUptoCard : Claim7 := { stood := { row := statixBackUptoRow, standIns := [], harness := (true, "5fac58bf0f2896f5a6193648fa090943c68c65a1c2347d14d9393670e28a776a"), looks := false }, kinds := [], alts := [], laidByText := true, laidKinds := [.data, .pinned], laidTests := true, laidLooks := .later }
def StatixBackUptoCardSaid : Prop := Claim7.holds Tryz.pinned (.plain (OpenSpec.upto statixBackSpec)) statixBackUptoCard
end Rows
end Go.Proofs.YthcjjekkjbidlaaGreatDoor
