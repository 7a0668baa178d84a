/-
  NARROWER THAN 'FOR EVERY INPUT', by the rows' own cells (each row's printed sentence says how): SourceNames: laid · StatixHonest: laid · StatixSwept: laid · SourceWhole: laid · SourceHonest: laid · SourceTwins: laid.
  DERIVED. THE GIVEN ROWS OF THIS SEAT. 6 by the template 'for every input the law returns true; each argument reads behind the call as it read before'; 0 by the template 'total and deterministic' (their statements: YthcjjekkjbidlaaDoorTotals.lean).
  GIVEN WITH THE SEED: the statements are not yours to turn. If you find one false, say at which input.
  Laid BY PROGRAM, IN A SANDBOX (cutbox-rows.mjs): the forced cells as the released guide's own fill.sh prints them over the translation 0df0599ae13b35ab… (all of the seat's roots in one cut). By AI agents, Wed Nov 11 2026. No macro, syntax, notation, axiom, sorry.
-/
import Derived.Test.YthcjjekkjbidlaaDoorChecked
import GoSem.PinnedTables
import GoSem.Claim
import GoSem.ClaimJoined
import GoSem.ClaimMapViews
import Derived.JoinedTies
import Derived.KernelRfl
namespace Go.Proofs.YthcjjekkjbidlaaDoor
/- THE CELL 'sum', in the pinned program and in every row, IS THE sha256 OF THE DUMP (.gsa) THAT YthcjjekkjbidlaaDoorProg.lean LOADS. Nothing in Lean hashes anything: it is a label: what it is worth is what the hold of that sum in a sandbox is worth. -/
noncomputable def Tryd.pinned : Pinned := { name := "ythcjjekkjbidlaadoor", sum := "0df0599ae13b35abad038b6fa18a20f3ce667bfac1408398283132b29e61e98d", checked := Tryd.checked }
namespace Rows
def none {H : Type} : Left H := { results := [], args := [] }

/- WHAT THE LISTED PACKAGE-LEVEL VARIABLES READ AS WHEN THE CALL BEGINS. Each datum BY PROGRAM (the guide's laid-datum.mjs) off the statement by which the dump's own 'gosem.cut.vars' lays the variable. In a bare row this is a premise. The card (YthcjjekkjbidlaaDoorCards.lean) ties it to the program's text. -/
def laid_unicode_utf8_acceptRanges {H : Type} : DataW H := .agg [.agg [.lit (.int .u8 128), .lit (.int .u8 191)], .agg [.lit (.int .u8 160), .lit (.int .u8 191)], .agg [.lit (.int .u8 128), .lit (.int .u8 159)], .agg [.lit (.int .u8 144), .lit (.int .u8 191)], .agg [.lit (.int .u8 128), .lit (.int .u8 143)], .agg [.lit (.int .u8 0), .lit (.int .u8 0)], .agg [.lit (.int .u8 0), .lit (.int .u8 0)], .agg [.lit (.int .u8 0), .lit (.int .u8 0)], .agg [.lit (.int .u8 0), .lit (.int .u8 0)], .agg [.lit (.int .u8 0), .lit (.int .u8 0)], .agg [.lit (.int .u8 0), .lit (.int .u8 0)], .agg [.lit (.int .u8 0), .lit (.int .u8 0)], .agg [.lit (.int .u8 0), .lit (.int .u8 0)], .agg [.lit (.int .u8 0), .lit (.int .u8 0)], .agg [.lit (.int .u8 0), .lit (.int .u8 0)], .agg [.lit (.int .u8 0), .lit (.int .u8 0)]]
/-- One of Go's own tables, pinned by name: the form's constant. -/
def laid_unicode_utf8_first : DataW Unit := Go.Pinned.utf8First

/-- 'munimentlaw18.SourceNames': WHATEVER THE INPUT: true; the input reads as it did. -/
def sourceNamesSpec : ChangeSpec := { name := "sourceNames", fn := fun _ => fun
  | [] => { results := [.lit (.bool true)], args := [] }
  | _ => none }
def sourceNamesRow : OpenClaim := { program := "ythcjjekkjbidlaadoor", sum := "0df0599ae13b35abad038b6fa18a20f3ce667bfac1408398283132b29e61e98d", func := "muniment/munimentlaw18.SourceNames", spec := "sourceNames", inPlace := ["internal/bytealg.CountString", "internal/bytealg.IndexByteString", "internal/bytealg.IndexString"], unfollowed := true, recurses := true, named := ["internal/bytealg.MaxLen", "unicode/utf8.first", "unicode/utf8.acceptRanges"], apart := false, laid := [("unicode/utf8.acceptRanges", laid_unicode_utf8_acceptRanges), ("unicode/utf8.first", laid_unicode_utf8_first)] }
def SourceNamesSaid : Prop := sourceNamesRow.holds Tryd.pinned (OpenSpec.ofChange sourceNamesSpec)

/-- ITS FALSE NEIGHBOUR: 'it returns false'. Refute it at one input. -/
def sourceNamesWrong : ChangeSpec := { name := "sourceNames", fn := fun _ => fun
  | [] => { results := [.lit (.bool false)], args := [] }
  | _ => none }
def SourceNamesWrongFalsely : Prop := sourceNamesRow.holds Tryd.pinned (OpenSpec.ofChange sourceNamesWrong)

/-- 'munimentlaw19.StatixHonest': WHATEVER THE INPUT: true; the input reads as it did. -/
def statixHonestSpec : ChangeSpec := { name := "statixHonest", fn := fun _ => fun
  | [d] => { results := [.lit (.bool true)], args := [d] }
  | _ => none }
def statixHonestRow : OpenClaim := { program := "ythcjjekkjbidlaadoor", sum := "0df0599ae13b35abad038b6fa18a20f3ce667bfac1408398283132b29e61e98d", func := "muniment/munimentlaw19.StatixHonest", spec := "statixHonest", inPlace := ["internal/bytealg.CountString", "internal/bytealg.IndexByteString", "internal/bytealg.IndexString"], unfollowed := true, recurses := true, named := ["internal/bytealg.MaxLen", "unicode/utf8.first", "unicode/utf8.acceptRanges"], apart := false, laid := [("unicode/utf8.acceptRanges", laid_unicode_utf8_acceptRanges), ("unicode/utf8.first", laid_unicode_utf8_first)] }
def StatixHonestSaid : Prop := statixHonestRow.holds Tryd.pinned (OpenSpec.ofChange statixHonestSpec)

/-- ITS FALSE NEIGHBOUR: 'it returns false'. Refute it at one input. -/
def statixHonestWrong : ChangeSpec := { name := "statixHonest", fn := fun _ => fun
  | [d] => { results := [.lit (.bool false)], args := [d] }
  | _ => none }
def StatixHonestWrongFalsely : Prop := statixHonestRow.holds Tryd.pinned (OpenSpec.ofChange statixHonestWrong)

/-- 'munimentlaw19.StatixSwept': WHATEVER THE INPUT: true; the input reads as it did. -/
def statixSweptSpec : ChangeSpec := { name := "statixSwept", fn := fun _ => fun
  | [d1, d2, d3] => { results := [.lit (.bool true)], args := [d1, d2, d3] }
  | _ => none }
def statixSweptRow : OpenClaim := { program := "ythcjjekkjbidlaadoor", sum := "0df0599ae13b35abad038b6fa18a20f3ce667bfac1408398283132b29e61e98d", func := "muniment/munimentlaw19.StatixSwept", spec := "statixSwept", inPlace := ["internal/bytealg.CountString", "internal/bytealg.IndexByteString", "internal/bytealg.IndexString"], unfollowed := true, recurses := true, named := ["internal/bytealg.MaxLen", "unicode/utf8.first", "unicode/utf8.acceptRanges"], apart := false, laid := [("unicode/utf8.acceptRanges", laid_unicode_utf8_acceptRanges), ("unicode/utf8.first", laid_unicode_utf8_first)] }
def StatixSweptSaid : Prop := statixSweptRow.holds Tryd.pinned (OpenSpec.ofChange statixSweptSpec)

/-- ITS FALSE NEIGHBOUR: 'it returns false'. Refute it at one input. -/
def statixSweptWrong : ChangeSpec := { name := "statixSwept", fn := fun _ => fun
  | [d1, d2, d3] => { results := [.lit (.bool false)], args := [d1, d2, d3] }
  | _ => none }
def StatixSweptWrongFalsely : Prop := statixSweptRow.holds Tryd.pinned (OpenSpec.ofChange statixSweptWrong)

/-- 'munimentlaw18.SourceWhole': WHATEVER THE INPUT: true; the input reads as it did. -/
def sourceWholeSpec : ChangeSpec := { name := "sourceWhole", fn := fun _ => fun
  | [d1, d2, d3] => { results := [.lit (.bool true)], args := [d1, d2, d3] }
  | _ => none }
def sourceWholeRow : OpenClaim := { program := "ythcjjekkjbidlaadoor", sum := "0df0599ae13b35abad038b6fa18a20f3ce667bfac1408398283132b29e61e98d", func := "muniment/munimentlaw18.SourceWhole", spec := "sourceWhole", inPlace := ["internal/bytealg.CountString", "internal/bytealg.IndexByteString", "internal/bytealg.IndexString", "slices.overlaps[muniment/attrs.Xattr]"], unfollowed := true, recurses := true, named := ["internal/bytealg.MaxLen", "unicode/utf8.first", "unicode/utf8.acceptRanges"], apart := false, laid := [("unicode/utf8.acceptRanges", laid_unicode_utf8_acceptRanges), ("unicode/utf8.first", laid_unicode_utf8_first)] }
def SourceWholeSaid : Prop := sourceWholeRow.holds Tryd.pinned (OpenSpec.ofChange sourceWholeSpec)

/-- ITS FALSE NEIGHBOUR: 'it returns false'. Refute it at one input. -/
def sourceWholeWrong : ChangeSpec := { name := "sourceWhole", fn := fun _ => fun
  | [d1, d2, d3] => { results := [.lit (.bool false)], args := [d1, d2, d3] }
  | _ => none }
def SourceWholeWrongFalsely : Prop := sourceWholeRow.holds Tryd.pinned (OpenSpec.ofChange sourceWholeWrong)

/-- 'munimentlaw18.SourceHonest': WHATEVER THE INPUT: true; the input reads as it did. -/
def sourceHonestSpec : ChangeSpec := { name := "sourceHonest", fn := fun _ => fun
  | [d] => { results := [.lit (.bool true)], args := [d] }
  | _ => none }
def sourceHonestRow : OpenClaim := { program := "ythcjjekkjbidlaadoor", sum := "0df0599ae13b35abad038b6fa18a20f3ce667bfac1408398283132b29e61e98d", func := "muniment/munimentlaw18.SourceHonest", spec := "sourceHonest", inPlace := ["internal/bytealg.CountString", "internal/bytealg.IndexByteString", "internal/bytealg.IndexString", "slices.overlaps[muniment/attrs.Xattr]"], unfollowed := true, recurses := true, named := ["internal/bytealg.MaxLen", "unicode/utf8.first", "unicode/utf8.acceptRanges"], apart := false, laid := [("unicode/utf8.acceptRanges", laid_unicode_utf8_acceptRanges), ("unicode/utf8.first", laid_unicode_utf8_first)] }
def SourceHonestSaid : Prop := sourceHonestRow.holds Tryd.pinned (OpenSpec.ofChange sourceHonestSpec)

/-- ITS FALSE NEIGHBOUR: 'it returns false'. Refute it at one input. -/
def sourceHonestWrong : ChangeSpec := { name := "sourceHonest", fn := fun _ => fun
  | [d] => { results := [.lit (.bool false)], args := [d] }
  | _ => none }
def SourceHonestWrongFalsely : Prop := sourceHonestRow.holds Tryd.pinned (OpenSpec.ofChange sourceHonestWrong)

/-- 'munimentlaw18.SourceTwins': WHATEVER THE INPUT: true; the input reads as it did. -/
def sourceTwinsSpec : ChangeSpec := { name := "sourceTwins", fn := fun _ => fun
  | [d1, d2, d3] => { results := [.lit (.bool true)], args := [d1, d2, d3] }
  | _ => none }
def sourceTwinsRow : OpenClaim := { program := "ythcjjekkjbidlaadoor", sum := "0df0599ae13b35abad038b6fa18a20f3ce667bfac1408398283132b29e61e98d", func := "muniment/munimentlaw18.SourceTwins", spec := "sourceTwins", inPlace := ["internal/bytealg.CountString", "internal/bytealg.IndexByteString", "internal/bytealg.IndexString", "slices.overlaps[muniment/attrs.Xattr]"], unfollowed := true, recurses := true, named := ["internal/bytealg.MaxLen", "unicode/utf8.first", "unicode/utf8.acceptRanges"], apart := false, laid := [("unicode/utf8.acceptRanges", laid_unicode_utf8_acceptRanges), ("unicode/utf8.first", laid_unicode_utf8_first)] }
def SourceTwinsSaid : Prop := sourceTwinsRow.holds Tryd.pinned (OpenSpec.ofChange sourceTwinsSpec)

/-- ITS FALSE NEIGHBOUR: 'it returns false'. Refute it at one input. -/
def sourceTwinsWrong : ChangeSpec := { name := "sourceTwins", fn := fun _ => fun
  | [d1, d2, d3] => { results := [.lit (.bool false)], args := [d1, d2, d3] }
  | _ => none }
def SourceTwinsWrongFalsely : Prop := sourceTwinsRow.holds Tryd.pinned (OpenSpec.ofChange sourceTwinsWrong)

/- THE SECOND FORM. 'bulk': how many values and letters a reading holds, each counted each time it is reached (what is shared counts as often as it is met; a slice's spare places count too). A statement '..UptoSaid' is the law's where the arguments, and the package variables that the reading takes, are together of bulk at most 1048576: NARROWER than '..Said'. Prove '..Said' where nothing that the law and all that it calls make is longer than what came in: it says more and counts as full. Else prove '..UptoSaid'. A law counts once. -/
mutual
def uptoBulk {H : Type} : DataW H → Nat
  | .lit (.string bytes) => bytes.length + 1
  | .lit _ => 1
  | .nil => 1
  | .ptr d => uptoBulk d + 1
  | .slice elems spare => uptoBulkAll elems + uptoBulkAll spare + 1
  | .agg parts => uptoBulkAll parts + 1
  | .iface _ d => uptoBulk d + 1
  | .map entries => uptoBulkEntries entries + 1
  | .held _ => 1
def uptoBulkAll {H : Type} : List (DataW H) → Nat
  | [] => 0
  | d :: r => uptoBulk d + uptoBulkAll r
def uptoBulkEntries {H : Type} : List (Lit × DataW H) → Nat
  | [] => 0
  | x :: r => uptoBulkEntry x + uptoBulkEntries r
def uptoBulkEntry {H : Type} : Lit × DataW H → Nat
  | (.string bytes, d) => bytes.length + uptoBulk d + 1
  | (_, d) => uptoBulk d + 1
 end
def uptoSmall : (H : Type) → List (DataW H) → Bool := fun _ ds => decide (uptoBulkAll ds ≤ 1048576)
def OpenSpec.upto (s : _root_.Go.ChangeSpec) : _root_.Go.OpenSpec := { _root_.Go.OpenSpec.ofChange s with cond := some uptoSmall }

/-- 'munimentlaw18.SourceNames', WHERE WHAT IT READS IS OF BULK AT MOST 1048576: true; the input reads as it did. -/
def sourceNamesUptoRow : OpenClaim := { program := "ythcjjekkjbidlaadoor", sum := "0df0599ae13b35abad038b6fa18a20f3ce667bfac1408398283132b29e61e98d", func := "muniment/munimentlaw18.SourceNames", spec := "sourceNames", inPlace := ["internal/bytealg.CountString", "internal/bytealg.IndexByteString", "internal/bytealg.IndexString"], unfollowed := true, recurses := true, named := ["internal/bytealg.MaxLen", "unicode/utf8.first", "unicode/utf8.acceptRanges"], apart := false, laid := [("unicode/utf8.acceptRanges", laid_unicode_utf8_acceptRanges), ("unicode/utf8.first", laid_unicode_utf8_first)], narrowed := true }
def SourceNamesUptoSaid : Prop := sourceNamesUptoRow.holds Tryd.pinned (OpenSpec.upto sourceNamesSpec)

/-- 'munimentlaw19.StatixHonest', WHERE WHAT IT READS IS OF BULK AT MOST 1048576: true; the input reads as it did. -/
def statixHonestUptoRow : OpenClaim := { program := "ythcjjekkjbidlaadoor", sum := "0df0599ae13b35abad038b6fa18a20f3ce667bfac1408398283132b29e61e98d", func := "muniment/munimentlaw19.StatixHonest", spec := "statixHonest", inPlace := ["internal/bytealg.CountString", "internal/bytealg.IndexByteString", "internal/bytealg.IndexString"], unfollowed := true, recurses := true, named := ["internal/bytealg.MaxLen", "unicode/utf8.first", "unicode/utf8.acceptRanges"], apart := false, laid := [("unicode/utf8.acceptRanges", laid_unicode_utf8_acceptRanges), ("unicode/utf8.first", laid_unicode_utf8_first)], narrowed := true }
def StatixHonestUptoSaid : Prop := statixHonestUptoRow.holds Tryd.pinned (OpenSpec.upto statixHonestSpec)

/-- 'munimentlaw19.StatixSwept', WHERE WHAT IT READS IS OF BULK AT MOST 1048576: true; the input reads as it did. -/
def statixSweptUptoRow : OpenClaim := { program := "ythcjjekkjbidlaadoor", sum := "0df0599ae13b35abad038b6fa18a20f3ce667bfac1408398283132b29e61e98d", func := "muniment/munimentlaw19.StatixSwept", spec := "statixSwept", inPlace := ["internal/bytealg.CountString", "internal/bytealg.IndexByteString", "internal/bytealg.IndexString"], unfollowed := true, recurses := true, named := ["internal/bytealg.MaxLen", "unicode/utf8.first", "unicode/utf8.acceptRanges"], apart := false, laid := [("unicode/utf8.acceptRanges", laid_unicode_utf8_acceptRanges), ("unicode/utf8.first", laid_unicode_utf8_first)], narrowed := true }
def StatixSweptUptoSaid : Prop := statixSweptUptoRow.holds Tryd.pinned (OpenSpec.upto statixSweptSpec)

/-- 'munimentlaw18.SourceWhole', WHERE WHAT IT READS IS OF BULK AT MOST 1048576: true; the input reads as it did. -/
def sourceWholeUptoRow : OpenClaim := { program := "ythcjjekkjbidlaadoor", sum := "0df0599ae13b35abad038b6fa18a20f3ce667bfac1408398283132b29e61e98d", func := "muniment/munimentlaw18.SourceWhole", spec := "sourceWhole", inPlace := ["internal/bytealg.CountString", "internal/bytealg.IndexByteString", "internal/bytealg.IndexString", "slices.overlaps[muniment/attrs.Xattr]"], unfollowed := true, recurses := true, named := ["internal/bytealg.MaxLen", "unicode/utf8.first", "unicode/utf8.acceptRanges"], apart := false, laid := [("unicode/utf8.acceptRanges", laid_unicode_utf8_acceptRanges), ("unicode/utf8.first", laid_unicode_utf8_first)], narrowed := true }
def SourceWholeUptoSaid : Prop := sourceWholeUptoRow.holds Tryd.pinned (OpenSpec.upto sourceWholeSpec)

/-- 'munimentlaw18.SourceHonest', WHERE WHAT IT READS IS OF BULK AT MOST 1048576: true; the input reads as it did. -/
def sourceHonestUptoRow : OpenClaim := { program := "ythcjjekkjbidlaadoor", sum := "0df0599ae13b35abad038b6fa18a20f3ce667bfac1408398283132b29e61e98d", func := "muniment/munimentlaw18.SourceHonest", spec := "sourceHonest", inPlace := ["internal/bytealg.CountString", "internal/bytealg.IndexByteString", "internal/bytealg.IndexString", "slices.overlaps[muniment/attrs.Xattr]"], unfollowed := true, recurses := true, named := ["internal/bytealg.MaxLen", "unicode/utf8.first", "unicode/utf8.acceptRanges"], apart := false, laid := [("unicode/utf8.acceptRanges", laid_unicode_utf8_acceptRanges), ("unicode/utf8.first", laid_unicode_utf8_first)], narrowed := true }
def SourceHonestUptoSaid : Prop := sourceHonestUptoRow.holds Tryd.pinned (OpenSpec.upto sourceHonestSpec)

/-- 'munimentlaw18.SourceTwins', WHERE WHAT IT READS IS OF BULK AT MOST 1048576: true; the input reads as it did. -/
def sourceTwinsUptoRow : OpenClaim := { program := "ythcjjekkjbidlaadoor", sum := "0df0599ae13b35abad038b6fa18a20f3ce667bfac1408398283132b29e61e98d", func := "muniment/munimentlaw18.SourceTwins", spec := "sourceTwins", inPlace := ["internal/bytealg.CountString", "internal/bytealg.IndexByteString", "internal/bytealg.IndexString", "slices.overlaps[muniment/attrs.Xattr]"], unfollowed := true, recurses := true, named := ["internal/bytealg.MaxLen", "unicode/utf8.first", "unicode/utf8.acceptRanges"], apart := false, laid := [("unicode/utf8.acceptRanges", laid_unicode_utf8_acceptRanges), ("unicode/utf8.first", laid_unicode_utf8_first)], narrowed := true }
def SourceTwinsUptoSaid : Prop := sourceTwinsUptoRow.holds Tryd.pinned (OpenSpec.upto sourceTwinsSpec)

end Rows
end Go.Proofs.YthcjjekkjbidlaaDoor
