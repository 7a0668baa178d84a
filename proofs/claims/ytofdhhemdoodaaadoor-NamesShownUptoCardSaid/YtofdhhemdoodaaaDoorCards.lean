/-
  DERIVED. GIVEN WITH THE SEED: THE CARDS: each row of YtofdhhemdoodaaaDoorRows.lean that lists a variable, with what it lists TIED to the program's text (the seventh form; the later family's looks); each row that meets fmt, with fmt's text TOLD by the authors' own Lean function (tested against real Go, not proved from fmt's source: count such statements apart). THE CARD IS WHAT COUNTS. Prove the row's statement (the work); the ties are given (YtofdhhemdoodaaaDoorTie.lean); close each card by the builder's one call (the guide's Derived/Test/ToyasCard.lean, 'card_holds'). Laid BY PROGRAM, IN A SANDBOX (cutbox-door.mjs). By AI agents, Wed Nov 11 2026. No macro, syntax, notation, axiom, sorry.
-/
import Derived.Test.YtofdhhemdoodaaaDoorRows
import GoSem.ClaimSeven
namespace Go.Proofs.YtofdhhemdoodaaaDoor
namespace Rows

/-- THE TIED CARD OF 'munimentlaw04.NamesLike'. -/
def namesLikeCard : Claim7 := { stood := { row := namesLikeRow, standIns := [], harness := (true, "321c093e3b8e08b4793f3a044dceb9480e9f5fece49fd57213e3c42136b7b70c"), looks := true }, kinds := [], alts := [], laidByText := true, laidKinds := [.data, .pinned], laidTests := true, laidLooks := .later }
def NamesLikeCardSaid : Prop := Claim7.holds Tryd.pinned (.plain (OpenSpec.ofChange namesLikeSpec)) namesLikeCard

/-- THE TIED CARD OF 'munimentlaw04.NamesAre'. -/
def namesAreCard : Claim7 := { stood := { row := namesAreRow, standIns := [], harness := (true, "321c093e3b8e08b4793f3a044dceb9480e9f5fece49fd57213e3c42136b7b70c"), looks := true }, kinds := [], alts := [], laidByText := true, laidKinds := [.data, .pinned], laidTests := true, laidLooks := .later }
def NamesAreCardSaid : Prop := Claim7.holds Tryd.pinned (.plain (OpenSpec.ofChange namesAreSpec)) namesAreCard

/-- THE TIED CARD OF 'munimentlaw04.NamesShown'. -/
def namesShownCard : Claim7 := { stood := { row := namesShownRow, standIns := [], harness := (true, "321c093e3b8e08b4793f3a044dceb9480e9f5fece49fd57213e3c42136b7b70c"), looks := true }, kinds := [], alts := [], laidByText := true, laidKinds := [.data, .data, .data, .data, .sentinel, .sentinel, .pinned], laidTests := true, laidLooks := .later }
def NamesShownCardSaid : Prop := Claim7.holds Tryd.pinned (.plain (OpenSpec.ofChange namesShownSpec)) namesShownCard

/-- THE TIED CARD OF 'munimentlaw04.NamesBack'. -/
def namesBackCard : Claim7 := { stood := { row := namesBackRow, standIns := [], harness := (true, "321c093e3b8e08b4793f3a044dceb9480e9f5fece49fd57213e3c42136b7b70c"), looks := true }, kinds := [], alts := [], laidByText := true, laidKinds := [.data, .data, .data, .data, .sentinel, .sentinel, .pinned], laidTests := true, laidLooks := .later }
def NamesBackCardSaid : Prop := Claim7.holds Tryd.pinned (.plain (OpenSpec.ofChange namesBackSpec)) namesBackCard

/-- THE TIED CARD OF 'munimentlaw04.NamesNone'. -/
def namesNoneCard : Claim7 := { stood := { row := namesNoneRow, standIns := [], harness := (true, "321c093e3b8e08b4793f3a044dceb9480e9f5fece49fd57213e3c42136b7b70c"), looks := true }, kinds := [], alts := [], laidByText := true, laidKinds := [.data, .data, .data, .data, .sentinel, .sentinel, .pinned], laidTests := true, laidLooks := .later }
def NamesNoneCardSaid : Prop := Claim7.holds Tryd.pinned (.plain (OpenSpec.ofChange namesNoneSpec)) namesNoneCard

/-- THE SECOND FORM's CARD OF 'munimentlaw04.NamesLike'. -/
def namesLikeUptoCard : Claim7 := { stood := { row := namesLikeUptoRow, standIns := [], harness := (true, "321c093e3b8e08b4793f3a044dceb9480e9f5fece49fd57213e3c42136b7b70c"), looks := true }, kinds := [], alts := [], laidByText := true, laidKinds := [.data, .pinned], laidTests := true, laidLooks := .later }
def NamesLikeUptoCardSaid : Prop := Claim7.holds Tryd.pinned (.plain (OpenSpec.upto namesLikeSpec)) namesLikeUptoCard

/-- THE SECOND FORM's CARD OF 'munimentlaw04.NamesAre'. -/
def namesAreUptoCard : Claim7 := { stood := { row := namesAreUptoRow, standIns := [], harness := (true, "321c093e3b8e08b4793f3a044dceb9480e9f5fece49fd57213e3c42136b7b70c"), looks := true }, kinds := [], alts := [], laidByText := true, laidKinds := [.data, .pinned], laidTests := true, laidLooks := .later }
def NamesAreUptoCardSaid : Prop := Claim7.holds Tryd.pinned (.plain (OpenSpec.upto namesAreSpec)) namesAreUptoCard

/-- THE SECOND FORM's CARD OF 'munimentlaw04.NamesShown'. -/
def namesShownUptoCard : Claim7 := { stood := { row := namesShownUptoRow, standIns := [], harness := (true, "321c093e3b8e08b4793f3a044dceb9480e9f5fece49fd57213e3c42136b7b70c"), looks := true }, kinds := [], alts := [], laidByText := true, laidKinds := [.data, .data, .data, .data, .sentinel, .sentinel, .pinned], laidTests := true, laidLooks := .later }
def NamesShownUptoCardSaid : Prop := Claim7.holds Tryd.pinned (.plain (OpenSpec.upto namesShownSpec)) namesShownUptoCard

/-- THE SECOND FORM's CARD OF 'munimentlaw04.NamesBack'. -/
def namesBackUptoCard : Claim7 := { stood := { row := namesBackUptoRow, standIns := [], harness := (true, "321c093e3b8e08b4793f3a044dceb9480e9f5fece49fd57213e3c42136b7b70c"), looks := true }, kinds := [], alts := [], laidByText := true, laidKinds := [.data, .data, .data, .data, .sentinel, .sentinel, .pinned], laidTests := true, laidLooks := .later }
def NamesBackUptoCardSaid : Prop := Claim7.holds Tryd.pinned (.plain (OpenSpec.upto namesBackSpec)) namesBackUptoCard

/-- THE SECOND FORM's CARD OF 'munimentlaw04.NamesNone'. -/
def namesNoneUptoCard : Claim7 := { stood := { row := namesNoneUptoRow, standIns := [], harness := (true, "321c093e3b8e08b4793f3a044dceb9480e9f5fece49fd57213e3c42136b7b70c"), looks := true }, kinds := [], alts := [], laidByText := true, laidKinds := [.data, .data, .data, .data, .sentinel, .sentinel, .pinned], laidTests := true, laidLooks := .later }
def NamesNoneUptoCardSaid : Prop := Claim7.holds Tryd.pinned (.plain (OpenSpec.upto namesNoneSpec)) namesNoneUptoCard
end Rows
end Go.Proofs.YtofdhhemdoodaaaDoor
