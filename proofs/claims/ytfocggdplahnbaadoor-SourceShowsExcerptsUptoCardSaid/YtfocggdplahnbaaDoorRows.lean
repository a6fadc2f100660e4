/-
  NARROWER THAN 'FOR EVERY INPUT', by the rows' own cells (each row's printed sentence says how): SourcePlacesLeadBack: laid · SourceTellsPlaces: laid · SourceShowsExcerpts: laid.
  DERIVED. THE GIVEN ROWS OF THIS SEAT. 3 by the template 'for every input the law returns true; each argument reads behind the call as it read before'; 0 by the template 'total and deterministic' (their statements: YtfocggdplahnbaaDoorTotals.lean).
  GIVEN WITH THE SEED: the statements are not yours to turn. If you find one false, say at which input.
  Laid BY PROGRAM, IN A SANDBOX (cutbox-rows.mjs): the forced cells as the released guide's own fill.sh prints them over the translation 4ed92d6c86d4c4cc… (all of the seat's roots in one cut). By AI agents, Wed Nov 11 2026. No macro, syntax, notation, axiom, sorry.
-/
import Derived.Test.YtfocggdplahnbaaDoorChecked
import GoSem.PinnedTables
import GoSem.Claim
import GoSem.ClaimJoined
import GoSem.ClaimMapViews
import Derived.JoinedTies
import Derived.KernelRfl
namespace Go.Proofs.YtfocggdplahnbaaDoor
/- THE CELL 'sum', in the pinned program and in every row, IS THE sha256 OF THE DUMP (.gsa) THAT YtfocggdplahnbaaDoorProg.lean LOADS. Nothing in Lean hashes anything: it is a label: what it is worth is what the hold of that sum in a sandbox is worth. -/
noncomputable def Tryd.pinned : Pinned := { name := "ytfocggdplahnbaadoor", sum := "4ed92d6c86d4c4cce87bd5b90ac81229ff9db6393102e774ceece7b4caa0c957", checked := Tryd.checked }
namespace Rows
def none {H : Type} : Left H := { results := [], args := [] }

/- WHAT THE LISTED PACKAGE-LEVEL VARIABLES READ AS WHEN THE CALL BEGINS. Each datum BY PROGRAM (the guide's laid-datum.mjs) off the statement by which the dump's own 'gosem.cut.vars' lays the variable. In a bare row this is a premise. The card (YtfocggdplahnbaaDoorCards.lean) ties it to the program's text. -/
def laid_unicode_utf8_acceptRanges {H : Type} : DataW H := .agg [.agg [.lit (.int .u8 128), .lit (.int .u8 191)], .agg [.lit (.int .u8 160), .lit (.int .u8 191)], .agg [.lit (.int .u8 128), .lit (.int .u8 159)], .agg [.lit (.int .u8 144), .lit (.int .u8 191)], .agg [.lit (.int .u8 128), .lit (.int .u8 143)], .agg [.lit (.int .u8 0), .lit (.int .u8 0)], .agg [.lit (.int .u8 0), .lit (.int .u8 0)], .agg [.lit (.int .u8 0), .lit (.int .u8 0)], .agg [.lit (.int .u8 0), .lit (.int .u8 0)], .agg [.lit (.int .u8 0), .lit (.int .u8 0)], .agg [.lit (.int .u8 0), .lit (.int .u8 0)], .agg [.lit (.int .u8 0), .lit (.int .u8 0)], .agg [.lit (.int .u8 0), .lit (.int .u8 0)], .agg [.lit (.int .u8 0), .lit (.int .u8 0)], .agg [.lit (.int .u8 0), .lit (.int .u8 0)], .agg [.lit (.int .u8 0), .lit (.int .u8 0)]]
/-- One of Go's own tables, pinned by name: the form's constant. -/
def laid_unicode_utf8_first : DataW Unit := Go.Pinned.utf8First

/-- 'brindlewoodlaw1.SourcePlacesLeadBack': WHATEVER THE INPUT: true; the input reads as it did. -/
def sourcePlacesLeadBackSpec : ChangeSpec := { name := "sourcePlacesLeadBack", fn := fun _ => fun
  | [d1, d2, d3] => { results := [.lit (.bool true)], args := [d1, d2, d3] }
  | _ => none }
def sourcePlacesLeadBackRow : OpenClaim := { program := "ytfocggdplahnbaadoor", sum := "4ed92d6c86d4c4cce87bd5b90ac81229ff9db6393102e774ceece7b4caa0c957", func := "brindlewood/brindlewoodlaw1.SourcePlacesLeadBack", spec := "sourcePlacesLeadBack", inPlace := ["internal/bytealg.CountString", "internal/bytealg.IndexByteString", "internal/bytealg.IndexString", "internal/abi.NoEscape", "internal/bytealg.MakeNoZero"], unfollowed := true, recurses := true, named := ["unicode/utf8.first", "unicode/utf8.acceptRanges", "internal/bytealg.MaxLen"], apart := false, laid := [("unicode/utf8.acceptRanges", laid_unicode_utf8_acceptRanges), ("unicode/utf8.first", laid_unicode_utf8_first)] }
def SourcePlacesLeadBackSaid : Prop := sourcePlacesLeadBackRow.holds Tryd.pinned (OpenSpec.ofChange sourcePlacesLeadBackSpec)

/-- ITS FALSE NEIGHBOUR: 'it returns false'. Refute it at one input. -/
def sourcePlacesLeadBackWrong : ChangeSpec := { name := "sourcePlacesLeadBack", fn := fun _ => fun
  | [d1, d2, d3] => { results := [.lit (.bool false)], args := [d1, d2, d3] }
  | _ => none }
def SourcePlacesLeadBackWrongFalsely : Prop := sourcePlacesLeadBackRow.holds Tryd.pinned (OpenSpec.ofChange sourcePlacesLeadBackWrong)

/-- 'brindlewoodlaw1.SourceTellsPlaces': WHATEVER THE INPUT: true; the input reads as it did. -/
def sourceTellsPlacesSpec : ChangeSpec := { name := "sourceTellsPlaces", fn := fun _ => fun
  | [d1, d2, d3, d4] => { results := [.lit (.bool true)], args := [d1, d2, d3, d4] }
  | _ => none }
def sourceTellsPlacesRow : OpenClaim := { program := "ytfocggdplahnbaadoor", sum := "4ed92d6c86d4c4cce87bd5b90ac81229ff9db6393102e774ceece7b4caa0c957", func := "brindlewood/brindlewoodlaw1.SourceTellsPlaces", spec := "sourceTellsPlaces", inPlace := ["internal/bytealg.CountString", "internal/bytealg.IndexByteString", "internal/bytealg.IndexString", "internal/abi.NoEscape", "internal/bytealg.MakeNoZero"], unfollowed := true, recurses := true, named := ["unicode/utf8.first", "unicode/utf8.acceptRanges", "internal/bytealg.MaxLen"], apart := false, laid := [("unicode/utf8.acceptRanges", laid_unicode_utf8_acceptRanges), ("unicode/utf8.first", laid_unicode_utf8_first)] }
def SourceTellsPlacesSaid : Prop := sourceTellsPlacesRow.holds Tryd.pinned (OpenSpec.ofChange sourceTellsPlacesSpec)

/-- ITS FALSE NEIGHBOUR: 'it returns false'. Refute it at one input. -/
def sourceTellsPlacesWrong : ChangeSpec := { name := "sourceTellsPlaces", fn := fun _ => fun
  | [d1, d2, d3, d4] => { results := [.lit (.bool false)], args := [d1, d2, d3, d4] }
  | _ => none }
def SourceTellsPlacesWrongFalsely : Prop := sourceTellsPlacesRow.holds Tryd.pinned (OpenSpec.ofChange sourceTellsPlacesWrong)

/-- 'brindlewoodlaw1.SourceShowsExcerpts': WHATEVER THE INPUT: true; the input reads as it did. -/
def sourceShowsExcerptsSpec : ChangeSpec := { name := "sourceShowsExcerpts", fn := fun _ => fun
  | [d1, d2, d3, d4] => { results := [.lit (.bool true)], args := [d1, d2, d3, d4] }
  | _ => none }
def sourceShowsExcerptsRow : OpenClaim := { program := "ytfocggdplahnbaadoor", sum := "4ed92d6c86d4c4cce87bd5b90ac81229ff9db6393102e774ceece7b4caa0c957", func := "brindlewood/brindlewoodlaw1.SourceShowsExcerpts", spec := "sourceShowsExcerpts", inPlace := ["internal/bytealg.CountString", "internal/bytealg.IndexByteString", "internal/bytealg.IndexString", "internal/abi.NoEscape", "internal/bytealg.MakeNoZero"], unfollowed := true, recurses := true, named := ["unicode/utf8.first", "unicode/utf8.acceptRanges", "internal/bytealg.MaxLen"], apart := false, laid := [("unicode/utf8.acceptRanges", laid_unicode_utf8_acceptRanges), ("unicode/utf8.first", laid_unicode_utf8_first)] }
def SourceShowsExcerptsSaid : Prop := sourceShowsExcerptsRow.holds Tryd.pinned (OpenSpec.ofChange sourceShowsExcerptsSpec)

/-- ITS FALSE NEIGHBOUR: 'it returns false'. Refute it at one input. -/
def sourceShowsExcerptsWrong : ChangeSpec := { name := "sourceShowsExcerpts", fn := fun _ => fun
  | [d1, d2, d3, d4] => { results := [.lit (.bool false)], args := [d1, d2, d3, d4] }
  | _ => none }
def SourceShowsExcerptsWrongFalsely : Prop := sourceShowsExcerptsRow.holds Tryd.pinned (OpenSpec.ofChange sourceShowsExcerptsWrong)

/- THE SECOND FORM. 'bulk': how many values and letters a reading holds, each counted each time it is reached (what is shared counts as often as it is met; a slice's spare places count too). A statement '..UptoSaid' is the law's where the arguments, and the package variables that the reading takes, are together of bulk at most 1048576: NARROWER than '..Said'. Prove '..Said' where nothing that the law and all that it calls make is longer than what came in: it says more and counts as full. Else prove '..UptoSaid'. A law counts once. -/
mutual
def uptoBulk {H : Type} : DataW H → Nat
  | .lit (.string bytes) => bytes.length + 1
  | .lit _ => 1
  | .nil => 1
  | .ptr d => uptoBulk d + 1
  | .slice elems spare => uptoBulkAll elems + uptoBulkAll spare + 1
  | .agg parts => uptoBulkAll parts + 1
  | .iface _ d => uptoBulk d + 1
  | .map entries => uptoBulkEntries entries + 1
  | .held _ => 1
def uptoBulkAll {H : Type} : List (DataW H) → Nat
  | [] => 0
  | d :: r => uptoBulk d + uptoBulkAll r
def uptoBulkEntries {H : Type} : List (Lit × DataW H) → Nat
  | [] => 0
  | x :: r => uptoBulkEntry x + uptoBulkEntries r
def uptoBulkEntry {H : Type} : Lit × DataW H → Nat
  | (.string bytes, d) => bytes.length + uptoBulk d + 1
  | (_, d) => uptoBulk d + 1
 end
def uptoSmall : (H : Type) → List (DataW H) → Bool := fun _ ds => decide (uptoBulkAll ds ≤ 1048576)
def OpenSpec.upto (s : _root_.Go.ChangeSpec) : _root_.Go.OpenSpec := { _root_.Go.OpenSpec.ofChange s with cond := some uptoSmall }

/-- 'brindlewoodlaw1.SourcePlacesLeadBack', WHERE WHAT IT READS IS OF BULK AT MOST 1048576: true; the input reads as it did. -/
def sourcePlacesLeadBackUptoRow : OpenClaim := { program := "ytfocggdplahnbaadoor", sum := "4ed92d6c86d4c4cce87bd5b90ac81229ff9db6393102e774ceece7b4caa0c957", func := "brindlewood/brindlewoodlaw1.SourcePlacesLeadBack", spec := "sourcePlacesLeadBack", inPlace := ["internal/bytealg.CountString", "internal/bytealg.IndexByteString", "internal/bytealg.IndexString", "internal/abi.NoEscape", "internal/bytealg.MakeNoZero"], unfollowed := true, recurses := true, named := ["unicode/utf8.first", "unicode/utf8.acceptRanges", "internal/bytealg.MaxLen"], apart := false, laid := [("unicode/utf8.acceptRanges", laid_unicode_utf8_acceptRanges), ("unicode/utf8.first", laid_unicode_utf8_first)], narrowed := true }
def SourcePlacesLeadBackUptoSaid : Prop := sourcePlacesLeadBackUptoRow.holds Tryd.pinned (OpenSpec.upto sourcePlacesLeadBackSpec)

/-- 'brindlewoodlaw1.SourceTellsPlaces', WHERE WHAT IT READS IS OF BULK AT MOST 1048576: true; the input reads as it did. -/
def sourceTellsPlacesUptoRow : OpenClaim := { program := "ytfocggdplahnbaadoor", sum := "4ed92d6c86d4c4cce87bd5b90ac81229ff9db6393102e774ceece7b4caa0c957", func := "brindlewood/brindlewoodlaw1.SourceTellsPlaces", spec := "sourceTellsPlaces", inPlace := ["internal/bytealg.CountString", "internal/bytealg.IndexByteString", "internal/bytealg.IndexString", "internal/abi.NoEscape", "internal/bytealg.MakeNoZero"], unfollowed := true, recurses := true, named := ["unicode/utf8.first", "unicode/utf8.acceptRanges", "internal/bytealg.MaxLen"], apart := false, laid := [("unicode/utf8.acceptRanges", laid_unicode_utf8_acceptRanges), ("unicode/utf8.first", laid_unicode_utf8_first)], narrowed := true }
def SourceTellsPlacesUptoSaid : Prop := sourceTellsPlacesUptoRow.holds Tryd.pinned (OpenSpec.upto sourceTellsPlacesSpec)

/-- 'brindlewoodlaw1.SourceShowsExcerpts', WHERE WHAT IT READS IS OF BULK AT MOST 1048576: true; the input reads as it did. -/
def sourceShowsExcerptsUptoRow : OpenClaim := { program := "ytfocggdplahnbaadoor", sum := "4ed92d6c86d4c4cce87bd5b90ac81229ff9db6393102e774ceece7b4caa0c957", func := "brindlewood/brindlewoodlaw1.SourceShowsExcerpts", spec := "sourceShowsExcerpts", inPlace := ["internal/bytealg.CountString", "internal/bytealg.IndexByteString", "internal/bytealg.IndexString", "internal/abi.NoEscape", "internal/bytealg.MakeNoZero"], unfollowed := true, recurses := true, named := ["unicode/utf8.first", "unicode/utf8.acceptRanges", "internal/bytealg.MaxLen"], apart := false, laid := [("unicode/utf8.acceptRanges", laid_unicode_utf8_acceptRanges), ("unicode/utf8.first", laid_unicode_utf8_first)], narrowed := true }
def SourceShowsExcerptsUptoSaid : Prop := sourceShowsExcerptsUptoRow.holds Tryd.pinned (OpenSpec.upto sourceShowsExcerptsSpec)

end Rows
end Go.Proofs.YtfocggdplahnbaaDoor
