/-
  NARROWER THAN 'FOR EVERY INPUT', by the rows' own cells (each row's printed sentence says how): TokenWordsMatchesReference: laid · TokenCountMatchesReference: laid · TokenWordsShape: laid · TokenNormalAgain: laid · TokenNormalTells: laid · TokenJoined: laid · TokenCase: laid · TokenCounts: laid.
  DERIVED. THE GIVEN ROWS OF THIS SEAT. 8 by the template 'for every input the law returns true; each argument reads behind the call as it read before'; 0 by the template 'total and deterministic' (their statements: YtgiajodcempniaaDoorTotals.lean).
  GIVEN WITH THE SEED: the statements are not yours to turn. If you find one false, say at which input.
  Laid BY PROGRAM, IN A SANDBOX (cutbox-rows.mjs): the forced cells as the released guide's own fill.sh prints them over the translation 1127d0be5df28611… (all of the seat's roots in one cut). By AI agents, Wed Nov 11 2026. No macro, syntax, notation, axiom, sorry.
-/
import Derived.Test.YtgiajodcempniaaDoorChecked
import GoSem.PinnedTables
import GoSem.Claim
import GoSem.ClaimJoined
import GoSem.ClaimMapViews
import Derived.JoinedTies
import Derived.KernelRfl
namespace Go.Proofs.YtgiajodcempniaaDoor
/- THE CELL 'sum', in the pinned program and in every row, IS THE sha256 OF THE DUMP (.gsa) THAT YtgiajodcempniaaDoorProg.lean LOADS. Nothing in Lean hashes anything: it is a label: what it is worth is what the hold of that sum in a sandbox is worth. -/
noncomputable def Tryd.pinned : Pinned := { name := "ytgiajodcempniaadoor", sum := "1127d0be5df2861166c74e660f017b90724ecb4f6841533fb68f350cf1ab0b58", checked := Tryd.checked }
namespace Rows
def none {H : Type} : Left H := { results := [], args := [] }

/- WHAT THE LISTED PACKAGE-LEVEL VARIABLES READ AS WHEN THE CALL BEGINS. Each datum BY PROGRAM (the guide's laid-datum.mjs) off the statement by which the dump's own 'gosem.cut.vars' lays the variable. In a bare row this is a premise. The card (YtgiajodcempniaaDoorCards.lean) ties it to the program's text. -/
def laid_unicode_utf8_acceptRanges {H : Type} : DataW H := .agg [.agg [.lit (.int .u8 128), .lit (.int .u8 191)], .agg [.lit (.int .u8 160), .lit (.int .u8 191)], .agg [.lit (.int .u8 128), .lit (.int .u8 159)], .agg [.lit (.int .u8 144), .lit (.int .u8 191)], .agg [.lit (.int .u8 128), .lit (.int .u8 143)], .agg [.lit (.int .u8 0), .lit (.int .u8 0)], .agg [.lit (.int .u8 0), .lit (.int .u8 0)], .agg [.lit (.int .u8 0), .lit (.int .u8 0)], .agg [.lit (.int .u8 0), .lit (.int .u8 0)], .agg [.lit (.int .u8 0), .lit (.int .u8 0)], .agg [.lit (.int .u8 0), .lit (.int .u8 0)], .agg [.lit (.int .u8 0), .lit (.int .u8 0)], .agg [.lit (.int .u8 0), .lit (.int .u8 0)], .agg [.lit (.int .u8 0), .lit (.int .u8 0)], .agg [.lit (.int .u8 0), .lit (.int .u8 0)], .agg [.lit (.int .u8 0), .lit (.int .u8 0)]]
/-- One of Go's own tables, pinned by name: the form's constant. -/
def laid_unicode_utf8_first : DataW Unit := Go.Pinned.utf8First

/-- 'copydesklaw16.TokenWordsMatchesReference': WHATEVER THE INPUT: true; the input reads as it did. -/
def tokenWordsMatchesReferenceSpec : ChangeSpec := { name := "tokenWordsMatchesReference", fn := fun _ => fun
  | [d] => { results := [.lit (.bool true)], args := [d] }
  | _ => none }
def tokenWordsMatchesReferenceRow : OpenClaim := { program := "ytgiajodcempniaadoor", sum := "1127d0be5df2861166c74e660f017b90724ecb4f6841533fb68f350cf1ab0b58", func := "copydesk/copydesklaw16.TokenWordsMatchesReference", spec := "tokenWordsMatchesReference", inPlace := ["internal/abi.NoEscape", "internal/bytealg.MakeNoZero"], unfollowed := true, recurses := true, named := ["unicode/utf8.first", "unicode/utf8.acceptRanges"], apart := false, laid := [("unicode/utf8.acceptRanges", laid_unicode_utf8_acceptRanges), ("unicode/utf8.first", laid_unicode_utf8_first)] }
def TokenWordsMatchesReferenceSaid : Prop := tokenWordsMatchesReferenceRow.holds Tryd.pinned (OpenSpec.ofChange tokenWordsMatchesReferenceSpec)

/-- ITS FALSE NEIGHBOUR: 'it returns false'. Refute it at one input. -/
def tokenWordsMatchesReferenceWrong : ChangeSpec := { name := "tokenWordsMatchesReference", fn := fun _ => fun
  | [d] => { results := [.lit (.bool false)], args := [d] }
  | _ => none }
def TokenWordsMatchesReferenceWrongFalsely : Prop := tokenWordsMatchesReferenceRow.holds Tryd.pinned (OpenSpec.ofChange tokenWordsMatchesReferenceWrong)

/-- 'copydesklaw16.TokenCountMatchesReference': WHATEVER THE INPUT: true; the input reads as it did. -/
def tokenCountMatchesReferenceSpec : ChangeSpec := { name := "tokenCountMatchesReference", fn := fun _ => fun
  | [d1, d2] => { results := [.lit (.bool true)], args := [d1, d2] }
  | _ => none }
def tokenCountMatchesReferenceRow : OpenClaim := { program := "ytgiajodcempniaadoor", sum := "1127d0be5df2861166c74e660f017b90724ecb4f6841533fb68f350cf1ab0b58", func := "copydesk/copydesklaw16.TokenCountMatchesReference", spec := "tokenCountMatchesReference", inPlace := ["internal/abi.NoEscape", "internal/bytealg.MakeNoZero"], unfollowed := true, recurses := true, named := ["unicode/utf8.first", "unicode/utf8.acceptRanges"], apart := false, laid := [("unicode/utf8.acceptRanges", laid_unicode_utf8_acceptRanges), ("unicode/utf8.first", laid_unicode_utf8_first)] }
def TokenCountMatchesReferenceSaid : Prop := tokenCountMatchesReferenceRow.holds Tryd.pinned (OpenSpec.ofChange tokenCountMatchesReferenceSpec)

/-- ITS FALSE NEIGHBOUR: 'it returns false'. Refute it at one input. -/
def tokenCountMatchesReferenceWrong : ChangeSpec := { name := "tokenCountMatchesReference", fn := fun _ => fun
  | [d1, d2] => { results := [.lit (.bool false)], args := [d1, d2] }
  | _ => none }
def TokenCountMatchesReferenceWrongFalsely : Prop := tokenCountMatchesReferenceRow.holds Tryd.pinned (OpenSpec.ofChange tokenCountMatchesReferenceWrong)

/-- 'copydesklaw16.TokenWordsShape': WHATEVER THE INPUT: true; the input reads as it did. -/
def tokenWordsShapeSpec : ChangeSpec := { name := "tokenWordsShape", fn := fun _ => fun
  | [d] => { results := [.lit (.bool true)], args := [d] }
  | _ => none }
def tokenWordsShapeRow : OpenClaim := { program := "ytgiajodcempniaadoor", sum := "1127d0be5df2861166c74e660f017b90724ecb4f6841533fb68f350cf1ab0b58", func := "copydesk/copydesklaw16.TokenWordsShape", spec := "tokenWordsShape", inPlace := ["internal/abi.NoEscape", "internal/bytealg.MakeNoZero"], unfollowed := true, recurses := true, named := ["unicode/utf8.first", "unicode/utf8.acceptRanges"], apart := false, laid := [("unicode/utf8.acceptRanges", laid_unicode_utf8_acceptRanges), ("unicode/utf8.first", laid_unicode_utf8_first)] }
def TokenWordsShapeSaid : Prop := tokenWordsShapeRow.holds Tryd.pinned (OpenSpec.ofChange tokenWordsShapeSpec)

/-- ITS FALSE NEIGHBOUR: 'it returns false'. Refute it at one input. -/
def tokenWordsShapeWrong : ChangeSpec := { name := "tokenWordsShape", fn := fun _ => fun
  | [d] => { results := [.lit (.bool false)], args := [d] }
  | _ => none }
def TokenWordsShapeWrongFalsely : Prop := tokenWordsShapeRow.holds Tryd.pinned (OpenSpec.ofChange tokenWordsShapeWrong)

/-- 'copydesklaw16.TokenNormalAgain': WHATEVER THE INPUT: true; the input reads as it did. -/
def tokenNormalAgainSpec : ChangeSpec := { name := "tokenNormalAgain", fn := fun _ => fun
  | [d] => { results := [.lit (.bool true)], args := [d] }
  | _ => none }
def tokenNormalAgainRow : OpenClaim := { program := "ytgiajodcempniaadoor", sum := "1127d0be5df2861166c74e660f017b90724ecb4f6841533fb68f350cf1ab0b58", func := "copydesk/copydesklaw16.TokenNormalAgain", spec := "tokenNormalAgain", inPlace := ["internal/abi.NoEscape", "internal/bytealg.MakeNoZero"], unfollowed := true, recurses := true, named := ["unicode/utf8.first", "unicode/utf8.acceptRanges"], apart := false, laid := [("unicode/utf8.acceptRanges", laid_unicode_utf8_acceptRanges), ("unicode/utf8.first", laid_unicode_utf8_first)] }
def TokenNormalAgainSaid : Prop := tokenNormalAgainRow.holds Tryd.pinned (OpenSpec.ofChange tokenNormalAgainSpec)

/-- ITS FALSE NEIGHBOUR: 'it returns false'. Refute it at one input. -/
def tokenNormalAgainWrong : ChangeSpec := { name := "tokenNormalAgain", fn := fun _ => fun
  | [d] => { results := [.lit (.bool false)], args := [d] }
  | _ => none }
def TokenNormalAgainWrongFalsely : Prop := tokenNormalAgainRow.holds Tryd.pinned (OpenSpec.ofChange tokenNormalAgainWrong)

/-- 'copydesklaw16.TokenNormalTells': WHATEVER THE INPUT: true; the input reads as it did. -/
def tokenNormalTellsSpec : ChangeSpec := { name := "tokenNormalTells", fn := fun _ => fun
  | [d1, d2] => { results := [.lit (.bool true)], args := [d1, d2] }
  | _ => none }
def tokenNormalTellsRow : OpenClaim := { program := "ytgiajodcempniaadoor", sum := "1127d0be5df2861166c74e660f017b90724ecb4f6841533fb68f350cf1ab0b58", func := "copydesk/copydesklaw16.TokenNormalTells", spec := "tokenNormalTells", inPlace := ["internal/abi.NoEscape", "internal/bytealg.MakeNoZero"], unfollowed := true, recurses := true, named := ["unicode/utf8.first", "unicode/utf8.acceptRanges"], apart := false, laid := [("unicode/utf8.acceptRanges", laid_unicode_utf8_acceptRanges), ("unicode/utf8.first", laid_unicode_utf8_first)] }
def TokenNormalTellsSaid : Prop := tokenNormalTellsRow.holds Tryd.pinned (OpenSpec.ofChange tokenNormalTellsSpec)

/-- ITS FALSE NEIGHBOUR: 'it returns false'. Refute it at one input. -/
def tokenNormalTellsWrong : ChangeSpec := { name := "tokenNormalTells", fn := fun _ => fun
  | [d1, d2] => { results := [.lit (.bool false)], args := [d1, d2] }
  | _ => none }
def TokenNormalTellsWrongFalsely : Prop := tokenNormalTellsRow.holds Tryd.pinned (OpenSpec.ofChange tokenNormalTellsWrong)

/-- 'copydesklaw16.TokenJoined': WHATEVER THE INPUT: true; the input reads as it did. -/
def tokenJoinedSpec : ChangeSpec := { name := "tokenJoined", fn := fun _ => fun
  | [d1, d2, d3] => { results := [.lit (.bool true)], args := [d1, d2, d3] }
  | _ => none }
def tokenJoinedRow : OpenClaim := { program := "ytgiajodcempniaadoor", sum := "1127d0be5df2861166c74e660f017b90724ecb4f6841533fb68f350cf1ab0b58", func := "copydesk/copydesklaw16.TokenJoined", spec := "tokenJoined", inPlace := ["internal/abi.NoEscape", "internal/bytealg.MakeNoZero"], unfollowed := true, recurses := true, named := ["unicode/utf8.first", "unicode/utf8.acceptRanges"], apart := false, laid := [("unicode/utf8.acceptRanges", laid_unicode_utf8_acceptRanges), ("unicode/utf8.first", laid_unicode_utf8_first)] }
def TokenJoinedSaid : Prop := tokenJoinedRow.holds Tryd.pinned (OpenSpec.ofChange tokenJoinedSpec)

/-- ITS FALSE NEIGHBOUR: 'it returns false'. Refute it at one input. -/
def tokenJoinedWrong : ChangeSpec := { name := "tokenJoined", fn := fun _ => fun
  | [d1, d2, d3] => { results := [.lit (.bool false)], args := [d1, d2, d3] }
  | _ => none }
def TokenJoinedWrongFalsely : Prop := tokenJoinedRow.holds Tryd.pinned (OpenSpec.ofChange tokenJoinedWrong)

/-- 'copydesklaw16.TokenCase': WHATEVER THE INPUT: true; the input reads as it did. -/
def tokenCaseSpec : ChangeSpec := { name := "tokenCase", fn := fun _ => fun
  | [d1, d2] => { results := [.lit (.bool true)], args := [d1, d2] }
  | _ => none }
def tokenCaseRow : OpenClaim := { program := "ytgiajodcempniaadoor", sum := "1127d0be5df2861166c74e660f017b90724ecb4f6841533fb68f350cf1ab0b58", func := "copydesk/copydesklaw16.TokenCase", spec := "tokenCase", inPlace := ["internal/abi.NoEscape", "internal/bytealg.MakeNoZero"], unfollowed := true, recurses := true, named := ["unicode/utf8.first", "unicode/utf8.acceptRanges"], apart := false, laid := [("unicode/utf8.acceptRanges", laid_unicode_utf8_acceptRanges), ("unicode/utf8.first", laid_unicode_utf8_first)] }
def TokenCaseSaid : Prop := tokenCaseRow.holds Tryd.pinned (OpenSpec.ofChange tokenCaseSpec)

/-- ITS FALSE NEIGHBOUR: 'it returns false'. Refute it at one input. -/
def tokenCaseWrong : ChangeSpec := { name := "tokenCase", fn := fun _ => fun
  | [d1, d2] => { results := [.lit (.bool false)], args := [d1, d2] }
  | _ => none }
def TokenCaseWrongFalsely : Prop := tokenCaseRow.holds Tryd.pinned (OpenSpec.ofChange tokenCaseWrong)

/-- 'copydesklaw16.TokenCounts': WHATEVER THE INPUT: true; the input reads as it did. -/
def tokenCountsSpec : ChangeSpec := { name := "tokenCounts", fn := fun _ => fun
  | [d] => { results := [.lit (.bool true)], args := [d] }
  | _ => none }
def tokenCountsRow : OpenClaim := { program := "ytgiajodcempniaadoor", sum := "1127d0be5df2861166c74e660f017b90724ecb4f6841533fb68f350cf1ab0b58", func := "copydesk/copydesklaw16.TokenCounts", spec := "tokenCounts", inPlace := ["internal/abi.NoEscape", "internal/bytealg.MakeNoZero"], unfollowed := true, recurses := true, named := ["unicode/utf8.first", "unicode/utf8.acceptRanges"], apart := false, laid := [("unicode/utf8.acceptRanges", laid_unicode_utf8_acceptRanges), ("unicode/utf8.first", laid_unicode_utf8_first)] }
def TokenCountsSaid : Prop := tokenCountsRow.holds Tryd.pinned (OpenSpec.ofChange tokenCountsSpec)

/-- ITS FALSE NEIGHBOUR: 'it returns false'. Refute it at one input. -/
def tokenCountsWrong : ChangeSpec := { name := "tokenCounts", fn := fun _ => fun
  | [d] => { results := [.lit (.bool false)], args := [d] }
  | _ => none }
def TokenCountsWrongFalsely : Prop := tokenCountsRow.holds Tryd.pinned (OpenSpec.ofChange tokenCountsWrong)

/- THE SECOND FORM. 'bulk': how many values and letters a reading holds, each counted each time it is reached (what is shared counts as often as it is met; a slice's spare places count too). A statement '..UptoSaid' is the law's where the arguments, and the package variables that the reading takes, are together of bulk at most 1048576: NARROWER than '..Said'. Prove '..Said' where nothing that the law and all that it calls make is longer than what came in: it says more and counts as full. Else prove '..UptoSaid'. A law counts once. -/
mutual
def uptoBulk {H : Type} : DataW H → Nat
  | .lit (.string bytes) => bytes.length + 1
  | .lit _ => 1
  | .nil => 1
  | .ptr d => uptoBulk d + 1
  | .slice elems spare => uptoBulkAll elems + uptoBulkAll spare + 1
  | .agg parts => uptoBulkAll parts + 1
  | .iface _ d => uptoBulk d + 1
  | .map entries => uptoBulkEntries entries + 1
  | .held _ => 1
def uptoBulkAll {H : Type} : List (DataW H) → Nat
  | [] => 0
  | d :: r => uptoBulk d + uptoBulkAll r
def uptoBulkEntries {H : Type} : List (Lit × DataW H) → Nat
  | [] => 0
  | x :: r => uptoBulkEntry x + uptoBulkEntries r
def uptoBulkEntry {H : Type} : Lit × DataW H → Nat
  | (.string bytes, d) => bytes.length + uptoBulk d + 1
  | (_, d) => uptoBulk d + 1
 end
def uptoSmall : (H : Type) → List (DataW H) → Bool := fun _ ds => decide (uptoBulkAll ds ≤ 1048576)
def OpenSpec.upto (s : _root_.Go.ChangeSpec) : _root_.Go.OpenSpec := { _root_.Go.OpenSpec.ofChange s with cond := some uptoSmall }

/-- 'copydesklaw16.TokenWordsMatchesReference', WHERE WHAT IT READS IS OF BULK AT MOST 1048576: true; the input reads as it did. -/
def tokenWordsMatchesReferenceUptoRow : OpenClaim := { program := "ytgiajodcempniaadoor", sum := "1127d0be5df2861166c74e660f017b90724ecb4f6841533fb68f350cf1ab0b58", func := "copydesk/copydesklaw16.TokenWordsMatchesReference", spec := "tokenWordsMatchesReference", inPlace := ["internal/abi.NoEscape", "internal/bytealg.MakeNoZero"], unfollowed := true, recurses := true, named := ["unicode/utf8.first", "unicode/utf8.acceptRanges"], apart := false, laid := [("unicode/utf8.acceptRanges", laid_unicode_utf8_acceptRanges), ("unicode/utf8.first", laid_unicode_utf8_first)], narrowed := true }
def TokenWordsMatchesReferenceUptoSaid : Prop := tokenWordsMatchesReferenceUptoRow.holds Tryd.pinned (OpenSpec.upto tokenWordsMatchesReferenceSpec)

/-- 'copydesklaw16.TokenCountMatchesReference', WHERE WHAT IT READS IS OF BULK AT MOST 1048576: true; the input reads as it did. -/
def tokenCountMatchesReferenceUptoRow : OpenClaim := { program := "ytgiajodcempniaadoor", sum := "1127d0be5df2861166c74e660f017b90724ecb4f6841533fb68f350cf1ab0b58", func := "copydesk/copydesklaw16.TokenCountMatchesReference", spec := "tokenCountMatchesReference", inPlace := ["internal/abi.NoEscape", "internal/bytealg.MakeNoZero"], unfollowed := true, recurses := true, named := ["unicode/utf8.first", "unicode/utf8.acceptRanges"], apart := false, laid := [("unicode/utf8.acceptRanges", laid_unicode_utf8_acceptRanges), ("unicode/utf8.first", laid_unicode_utf8_first)], narrowed := true }
def TokenCountMatchesReferenceUptoSaid : Prop := tokenCountMatchesReferenceUptoRow.holds Tryd.pinned (OpenSpec.upto tokenCountMatchesReferenceSpec)

/-- 'copydesklaw16.TokenWordsShape', WHERE WHAT IT READS IS OF BULK AT MOST 1048576: true; the input reads as it did. -/
def tokenWordsShapeUptoRow : OpenClaim := { program := "ytgiajodcempniaadoor", sum := "1127d0be5df2861166c74e660f017b90724ecb4f6841533fb68f350cf1ab0b58", func := "copydesk/copydesklaw16.TokenWordsShape", spec := "tokenWordsShape", inPlace := ["internal/abi.NoEscape", "internal/bytealg.MakeNoZero"], unfollowed := true, recurses := true, named := ["unicode/utf8.first", "unicode/utf8.acceptRanges"], apart := false, laid := [("unicode/utf8.acceptRanges", laid_unicode_utf8_acceptRanges), ("unicode/utf8.first", laid_unicode_utf8_first)], narrowed := true }
def TokenWordsShapeUptoSaid : Prop := tokenWordsShapeUptoRow.holds Tryd.pinned (OpenSpec.upto tokenWordsShapeSpec)

/-- 'copydesklaw16.TokenNormalAgain', WHERE WHAT IT READS IS OF BULK AT MOST 1048576: true; the input reads as it did. -/
def tokenNormalAgainUptoRow : OpenClaim := { program := "ytgiajodcempniaadoor", sum := "1127d0be5df2861166c74e660f017b90724ecb4f6841533fb68f350cf1ab0b58", func := "copydesk/copydesklaw16.TokenNormalAgain", spec := "tokenNormalAgain", inPlace := ["internal/abi.NoEscape", "internal/bytealg.MakeNoZero"], unfollowed := true, recurses := true, named := ["unicode/utf8.first", "unicode/utf8.acceptRanges"], apart := false, laid := [("unicode/utf8.acceptRanges", laid_unicode_utf8_acceptRanges), ("unicode/utf8.first", laid_unicode_utf8_first)], narrowed := true }
def TokenNormalAgainUptoSaid : Prop := tokenNormalAgainUptoRow.holds Tryd.pinned (OpenSpec.upto tokenNormalAgainSpec)

/-- 'copydesklaw16.TokenNormalTells', WHERE WHAT IT READS IS OF BULK AT MOST 1048576: true; the input reads as it did. -/
def tokenNormalTellsUptoRow : OpenClaim := { program := "ytgiajodcempniaadoor", sum := "1127d0be5df2861166c74e660f017b90724ecb4f6841533fb68f350cf1ab0b58", func := "copydesk/copydesklaw16.TokenNormalTells", spec := "tokenNormalTells", inPlace := ["internal/abi.NoEscape", "internal/bytealg.MakeNoZero"], unfollowed := true, recurses := true, named := ["unicode/utf8.first", "unicode/utf8.acceptRanges"], apart := false, laid := [("unicode/utf8.acceptRanges", laid_unicode_utf8_acceptRanges), ("unicode/utf8.first", laid_unicode_utf8_first)], narrowed := true }
def TokenNormalTellsUptoSaid : Prop := tokenNormalTellsUptoRow.holds Tryd.pinned (OpenSpec.upto tokenNormalTellsSpec)

/-- 'copydesklaw16.TokenJoined', WHERE WHAT IT READS IS OF BULK AT MOST 1048576: true; the input reads as it did. -/
def tokenJoinedUptoRow : OpenClaim := { program := "ytgiajodcempniaadoor", sum := "1127d0be5df2861166c74e660f017b90724ecb4f6841533fb68f350cf1ab0b58", func := "copydesk/copydesklaw16.TokenJoined", spec := "tokenJoined", inPlace := ["internal/abi.NoEscape", "internal/bytealg.MakeNoZero"], unfollowed := true, recurses := true, named := ["unicode/utf8.first", "unicode/utf8.acceptRanges"], apart := false, laid := [("unicode/utf8.acceptRanges", laid_unicode_utf8_acceptRanges), ("unicode/utf8.first", laid_unicode_utf8_first)], narrowed := true }
def TokenJoinedUptoSaid : Prop := tokenJoinedUptoRow.holds Tryd.pinned (OpenSpec.upto tokenJoinedSpec)

/-- 'copydesklaw16.TokenCase', WHERE WHAT IT READS IS OF BULK AT MOST 1048576: true; the input reads as it did. -/
def tokenCaseUptoRow : OpenClaim := { program := "ytgiajodcempniaadoor", sum := "1127d0be5df2861166c74e660f017b90724ecb4f6841533fb68f350cf1ab0b58", func := "copydesk/copydesklaw16.TokenCase", spec := "tokenCase", inPlace := ["internal/abi.NoEscape", "internal/bytealg.MakeNoZero"], unfollowed := true, recurses := true, named := ["unicode/utf8.first", "unicode/utf8.acceptRanges"], apart := false, laid := [("unicode/utf8.acceptRanges", laid_unicode_utf8_acceptRanges), ("unicode/utf8.first", laid_unicode_utf8_first)], narrowed := true }
def TokenCaseUptoSaid : Prop := tokenCaseUptoRow.holds Tryd.pinned (OpenSpec.upto tokenCaseSpec)

/-- 'copydesklaw16.TokenCounts', WHERE WHAT IT READS IS OF BULK AT MOST 1048576: true; the input reads as it did. -/
def tokenCountsUptoRow : OpenClaim := { program := "ytgiajodcempniaadoor", sum := "1127d0be5df2861166c74e660f017b90724ecb4f6841533fb68f350cf1ab0b58", func := "copydesk/copydesklaw16.TokenCounts", spec := "tokenCounts", inPlace := ["internal/abi.NoEscape", "internal/bytealg.MakeNoZero"], unfollowed := true, recurses := true, named := ["unicode/utf8.first", "unicode/utf8.acceptRanges"], apart := false, laid := [("unicode/utf8.acceptRanges", laid_unicode_utf8_acceptRanges), ("unicode/utf8.first", laid_unicode_utf8_first)], narrowed := true }
def TokenCountsUptoSaid : Prop := tokenCountsUptoRow.holds Tryd.pinned (OpenSpec.upto tokenCountsSpec)

end Rows
end Go.Proofs.YtgiajodcempniaaDoor
