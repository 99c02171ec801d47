/-
  DERIVED. GIVEN WITH THE SEED: THE CARDS: each row of YtgiajodcempniaaDoorRows.lean that lists a variable, with what it lists TIED to the program's text (the seventh form; the later family's looks); each row that meets fmt, with fmt's text TOLD by the authors' own Lean function (tested against real Go, not proved from fmt's source: count such statements apart). THE CARD IS WHAT COUNTS. Prove the row's statement (the work); the ties are given (YtgiajodcempniaaDoorTie.lean); close each card by the builder's one call (the guide's Derived/Test/ToyasCard.lean, 'card_holds'). Laid BY PROGRAM, IN A SANDBOX (cutbox-door.mjs). By AI agents, Wed Nov 11 2026. No macro, syntax, notation, axiom, sorry.
-/
import Derived.Test.YtgiajodcempniaaDoorRows
import GoSem.ClaimSeven
namespace Go.Proofs.YtgiajodcempniaaDoor
namespace Rows

/-- THE TIED CARD OF 'copydesklaw16.TokenWordsMatchesReference'. -/
def tokenWordsMatchesReferenceCard : Claim7 := { stood := { row := tokenWordsMatchesReferenceRow, standIns := [], harness := (true, "f9099d33c8eef4a202c40c75bb83cc9258f0eb5314d1babefdda30296d2f93bd"), looks := false }, kinds := [], alts := [], laidByText := true, laidKinds := [.data, .pinned], laidTests := true, laidLooks := .later }
def TokenWordsMatchesReferenceCardSaid : Prop := Claim7.holds Tryd.pinned (.plain (OpenSpec.ofChange tokenWordsMatchesReferenceSpec)) tokenWordsMatchesReferenceCard

/-- THE TIED CARD OF 'copydesklaw16.TokenCountMatchesReference'. -/
def tokenCountMatchesReferenceCard : Claim7 := { stood := { row := tokenCountMatchesReferenceRow, standIns := [], harness := (true, "f9099d33c8eef4a202c40c75bb83cc9258f0eb5314d1babefdda30296d2f93bd"), looks := false }, kinds := [], alts := [], laidByText := true, laidKinds := [.data, .pinned], laidTests := true, laidLooks := .later }
def TokenCountMatchesReferenceCardSaid : Prop := Claim7.holds Tryd.pinned (.plain (OpenSpec.ofChange tokenCountMatchesReferenceSpec)) tokenCountMatchesReferenceCard

/-- THE TIED CARD OF 'copydesklaw16.TokenWordsShape'. -/
def tokenWordsShapeCard : Claim7 := { stood := { row := tokenWordsShapeRow, standIns := [], harness := (true, "f9099d33c8eef4a202c40c75bb83cc9258f0eb5314d1babefdda30296d2f93bd"), looks := false }, kinds := [], alts := [], laidByText := true, laidKinds := [.data, .pinned], laidTests := true, laidLooks := .later }
def TokenWordsShapeCardSaid : Prop := Claim7.holds Tryd.pinned (.plain (OpenSpec.ofChange tokenWordsShapeSpec)) tokenWordsShapeCard

/-- THE TIED CARD OF 'copydesklaw16.TokenNormalAgain'. -/
def tokenNormalAgainCard : Claim7 := { stood := { row := tokenNormalAgainRow, standIns := [], harness := (true, "f9099d33c8eef4a202c40c75bb83cc9258f0eb5314d1babefdda30296d2f93bd"), looks := false }, kinds := [], alts := [], laidByText := true, laidKinds := [.data, .pinned], laidTests := true, laidLooks := .later }
def TokenNormalAgainCardSaid : Prop := Claim7.holds Tryd.pinned (.plain (OpenSpec.ofChange tokenNormalAgainSpec)) tokenNormalAgainCard

/-- THE TIED CARD OF 'copydesklaw16.TokenNormalTells'. -/
def tokenNormalTellsCard : Claim7 := { stood := { row := tokenNormalTellsRow, standIns := [], harness := (true, "f9099d33c8eef4a202c40c75bb83cc9258f0eb5314d1babefdda30296d2f93bd"), looks := false }, kinds := [], alts := [], laidByText := true, laidKinds := [.data, .pinned], laidTests := true, laidLooks := .later }
def TokenNormalTellsCardSaid : Prop := Claim7.holds Tryd.pinned (.plain (OpenSpec.ofChange tokenNormalTellsSpec)) tokenNormalTellsCard

/-- THE TIED CARD OF 'copydesklaw16.TokenJoined'. -/
def tokenJoinedCard : Claim7 := { stood := { row := tokenJoinedRow, standIns := [], harness := (true, "f9099d33c8eef4a202c40c75bb83cc9258f0eb5314d1babefdda30296d2f93bd"), looks := false }, kinds := [], alts := [], laidByText := true, laidKinds := [.data, .pinned], laidTests := true, laidLooks := .later }
def TokenJoinedCardSaid : Prop := Claim7.holds Tryd.pinned (.plain (OpenSpec.ofChange tokenJoinedSpec)) tokenJoinedCard

/-- THE TIED CARD OF 'copydesklaw16.TokenCase'. -/
def tokenCaseCard : Claim7 := { stood := { row := tokenCaseRow, standIns := [], harness := (true, "f9099d33c8eef4a202c40c75bb83cc9258f0eb5314d1babefdda30296d2f93bd"), looks := false }, kinds := [], alts := [], laidByText := true, laidKinds := [.data, .pinned], laidTests := true, laidLooks := .later }
def TokenCaseCardSaid : Prop := Claim7.holds Tryd.pinned (.plain (OpenSpec.ofChange tokenCaseSpec)) tokenCaseCard

/-- THE TIED CARD OF 'copydesklaw16.TokenCounts'. -/
def tokenCountsCard : Claim7 := { stood := { row := tokenCountsRow, standIns := [], harness := (true, "f9099d33c8eef4a202c40c75bb83cc9258f0eb5314d1babefdda30296d2f93bd"), looks := false }, kinds := [], alts := [], laidByText := true, laidKinds := [.data, .pinned], laidTests := true, laidLooks := .later }
def TokenCountsCardSaid : Prop := Claim7.holds Tryd.pinned (.plain (OpenSpec.ofChange tokenCountsSpec)) tokenCountsCard

/-- THE SECOND FORM's CARD OF 'copydesklaw16.TokenWordsMatchesReference'. -/
def tokenWordsMatchesReferenceUptoCard : Claim7 := { stood := { row := tokenWordsMatchesReferenceUptoRow, standIns := [], harness := (true, "f9099d33c8eef4a202c40c75bb83cc9258f0eb5314d1babefdda30296d2f93bd"), looks := false }, kinds := [], alts := [], laidByText := true, laidKinds := [.data, .pinned], laidTests := true, laidLooks := .later }
def TokenWordsMatchesReferenceUptoCardSaid : Prop := Claim7.holds Tryd.pinned (.plain (OpenSpec.upto tokenWordsMatchesReferenceSpec)) tokenWordsMatchesReferenceUptoCard

/-- THE SECOND FORM's CARD OF 'copydesklaw16.TokenCountMatchesReference'. -/
def tokenCountMatchesReferenceUptoCard : Claim7 := { stood := { row := tokenCountMatchesReferenceUptoRow, standIns := [], harness := (true, "f9099d33c8eef4a202c40c75bb83cc9258f0eb5314d1babefdda30296d2f93bd"), looks := false }, kinds := [], alts := [], laidByText := true, laidKinds := [.data, .pinned], laidTests := true, laidLooks := .later }
def TokenCountMatchesReferenceUptoCardSaid : Prop := Claim7.holds Tryd.pinned (.plain (OpenSpec.upto tokenCountMatchesReferenceSpec)) tokenCountMatchesReferenceUptoCard

/-- THE SECOND FORM's CARD OF 'copydesklaw16.TokenWordsShape'. -/
def tokenWordsShapeUptoCard : Claim7 := { stood := { row := tokenWordsShapeUptoRow, standIns := [], harness := (true, "f9099d33c8eef4a202c40c75bb83cc9258f0eb5314d1babefdda30296d2f93bd"), looks := false }, kinds := [], alts := [], laidByText := true, laidKinds := [.data, .pinned], laidTests := true, laidLooks := .later }
def TokenWordsShapeUptoCardSaid : Prop := Claim7.holds Tryd.pinned (.plain (OpenSpec.upto tokenWordsShapeSpec)) tokenWordsShapeUptoCard

/-- THE SECOND FORM's CARD OF 'copydesklaw16.TokenNormalAgain'. -/
def tokenNormalAgainUptoCard : Claim7 := { stood := { row := tokenNormalAgainUptoRow, standIns := [], harness := (true, "f9099d33c8eef4a202c40c75bb83cc9258f0eb5314d1babefdda30296d2f93bd"), looks := false }, kinds := [], alts := [], laidByText := true, laidKinds := [.data, .pinned], laidTests := true, laidLooks := .later }
def TokenNormalAgainUptoCardSaid : Prop := Claim7.holds Tryd.pinned (.plain (OpenSpec.upto tokenNormalAgainSpec)) tokenNormalAgainUptoCard

/-- THE SECOND FORM's CARD OF 'copydesklaw16.TokenNormalTells'. -/
def tokenNormalTellsUptoCard : Claim7 := { stood := { row := tokenNormalTellsUptoRow, standIns := [], harness := (true, "f9099d33c8eef4a202c40c75bb83cc9258f0eb5314d1babefdda30296d2f93bd"), looks := false }, kinds := [], alts := [], laidByText := true, laidKinds := [.data, .pinned], laidTests := true, laidLooks := .later }
def TokenNormalTellsUptoCardSaid : Prop := Claim7.holds Tryd.pinned (.plain (OpenSpec.upto tokenNormalTellsSpec)) tokenNormalTellsUptoCard

/-- THE SECOND FORM's CARD OF 'copydesklaw16.TokenJoined'. -/
def tokenJoinedUptoCard : Claim7 := { stood := { row := tokenJoinedUptoRow, standIns := [], harness := (true, "f9099d33c8eef4a202c40c75bb83cc9258f0eb5314d1babefdda30296d2f93bd"), looks := false }, kinds := [], alts := [], laidByText := true, laidKinds := [.data, .pinned], laidTests := true, laidLooks := .later }
def TokenJoinedUptoCardSaid : Prop := Claim7.holds Tryd.pinned (.plain (OpenSpec.upto tokenJoinedSpec)) tokenJoinedUptoCard

/-- THE SECOND FORM's CARD OF 'copydesklaw16.TokenCase'. -/
def tokenCaseUptoCard : Claim7 := { stood := { row := tokenCaseUptoRow, standIns := [], harness := (true, "f9099d33c8eef4a202c40c75bb83cc9258f0eb5314d1babefdda30296d2f93bd"), looks := false }, kinds := [], alts := [], laidByText := true, laidKinds := [.data, .pinned], laidTests := true, laidLooks := .later }
def TokenCaseUptoCardSaid : Prop := Claim7.holds Tryd.pinned (.plain (OpenSpec.upto tokenCaseSpec)) tokenCaseUptoCard

/-- THE SECOND FORM's CARD OF 'copydesklaw16.TokenCounts'. -/
def tokenCountsUptoCard : Claim7 := { stood := { row := tokenCountsUptoRow, standIns := [], harness := (true, "f9099d33c8eef4a202c40c75bb83cc9258f0eb5314d1babefdda30296d2f93bd"), looks := false }, kinds := [], alts := [], laidByText := true, laidKinds := [.data, .pinned], laidTests := true, laidLooks := .later }
def TokenCountsUptoCardSaid : Prop := Claim7.holds Tryd.pinned (.plain (OpenSpec.upto tokenCountsSpec)) tokenCountsUptoCard
end Rows
end Go.Proofs.YtgiajodcempniaaDoor
