/-
  DERIVED. GIVEN WITH THE SEED: THE CARDS: each row of YtmncmboeddlcmaaDoorRows.lean that lists a variable, with what it lists TIED to the program's text (the seventh form; the later family's looks); each row that meets fmt, with fmt's text TOLD by the authors' own Lean function (tested against real Go, not proved from fmt's source: count such statements apart). THE CARD IS WHAT COUNTS. Prove the row's statement (the work); the ties are given (YtmncmboeddlcmaaDoorTie.lean); close each card by the builder's one call (the guide's Derived/Test/ToyasCard.lean, 'card_holds'). Laid BY PROGRAM, IN A SANDBOX (cutbox-door.mjs). By AI agents, Wed Nov 11 2026. No macro, syntax, notation, axiom, sorry.
-/
import Derived.Test.YtmncmboeddlcmaaDoorRows
import GoSem.ClaimSeven
namespace Go.Proofs.YtmncmboeddlcmaaDoor
namespace Rows

/-- THE TIED CARD OF 'finesselaw19.ImpTells'. -/
def impTellsCard : Claim7 := { stood := { row := impTellsRow, standIns := [], harness := (true, "62d63e875f06aa6201a8a60e9b6d97dee89b982016360e075f99d00f54d63222"), looks := false }, kinds := [], alts := [], laidByText := true, laidKinds := [.data], laidTests := true, laidLooks := .later }
def ImpTellsCardSaid : Prop := Claim7.holds Tryd.pinned (.plain (OpenSpec.ofChange impTellsSpec)) impTellsCard

/-- THE TIED CARD OF 'finesselaw19.ImpMatches'. -/
def impMatchesCard : Claim7 := { stood := { row := impMatchesRow, standIns := [], harness := (true, "62d63e875f06aa6201a8a60e9b6d97dee89b982016360e075f99d00f54d63222"), looks := false }, kinds := [], alts := [], laidByText := true, laidKinds := [.data], laidTests := true, laidLooks := .later }
def ImpMatchesCardSaid : Prop := Claim7.holds Tryd.pinned (.plain (OpenSpec.ofChange impMatchesSpec)) impMatchesCard

/-- THE TIED CARD OF 'finesselaw19.ImpSmall'. -/
def impSmallCard : Claim7 := { stood := { row := impSmallRow, standIns := [], harness := (true, "62d63e875f06aa6201a8a60e9b6d97dee89b982016360e075f99d00f54d63222"), looks := false }, kinds := [], alts := [], laidByText := true, laidKinds := [.data], laidTests := true, laidLooks := .later }
def ImpSmallCardSaid : Prop := Claim7.holds Tryd.pinned (.plain (OpenSpec.ofChange impSmallSpec)) impSmallCard

/-- THE TIED CARD OF 'finesselaw19.ImpTwo'. -/
def impTwoCard : Claim7 := { stood := { row := impTwoRow, standIns := [], harness := (true, "62d63e875f06aa6201a8a60e9b6d97dee89b982016360e075f99d00f54d63222"), looks := false }, kinds := [], alts := [], laidByText := true, laidKinds := [.data], laidTests := true, laidLooks := .later }
def ImpTwoCardSaid : Prop := Claim7.holds Tryd.pinned (.plain (OpenSpec.ofChange impTwoSpec)) impTwoCard

/-- THE TIED CARD OF 'finesselaw19.ImpLeast'. -/
def impLeastCard : Claim7 := { stood := { row := impLeastRow, standIns := [], harness := (true, "62d63e875f06aa6201a8a60e9b6d97dee89b982016360e075f99d00f54d63222"), looks := false }, kinds := [], alts := [], laidByText := true, laidKinds := [.data], laidTests := true, laidLooks := .later }
def ImpLeastCardSaid : Prop := Claim7.holds Tryd.pinned (.plain (OpenSpec.ofChange impLeastSpec)) impLeastCard

/-- THE TIED CARD OF 'finesselaw19.ImpTeams'. -/
def impTeamsCard : Claim7 := { stood := { row := impTeamsRow, standIns := [], harness := (true, "62d63e875f06aa6201a8a60e9b6d97dee89b982016360e075f99d00f54d63222"), looks := false }, kinds := [], alts := [], laidByText := true, laidKinds := [.data], laidTests := true, laidLooks := .later }
def ImpTeamsCardSaid : Prop := Claim7.holds Tryd.pinned (.plain (OpenSpec.ofChange impTeamsSpec)) impTeamsCard

/-- THE TIED CARD OF 'finesselaw19.ImpParts'. -/
def impPartsCard : Claim7 := { stood := { row := impPartsRow, standIns := [], harness := (true, "62d63e875f06aa6201a8a60e9b6d97dee89b982016360e075f99d00f54d63222"), looks := false }, kinds := [], alts := [], laidByText := true, laidKinds := [.data], laidTests := true, laidLooks := .later }
def ImpPartsCardSaid : Prop := Claim7.holds Tryd.pinned (.plain (OpenSpec.ofChange impPartsSpec)) impPartsCard

/-- THE TIED CARD OF 'finesselaw19.ImpWrong'. -/
def impWrongCard : Claim7 := { stood := { row := impWrongRow, standIns := [], harness := (true, "62d63e875f06aa6201a8a60e9b6d97dee89b982016360e075f99d00f54d63222"), looks := false }, kinds := [], alts := [], laidByText := true, laidKinds := [.data], laidTests := true, laidLooks := .later }
def ImpWrongCardSaid : Prop := Claim7.holds Tryd.pinned (.plain (OpenSpec.ofChange impWrongSpec)) impWrongCard

/-- THE SECOND FORM's CARD OF 'finesselaw19.ImpTells'. -/
def impTellsUptoCard : Claim7 := { stood := { row := impTellsUptoRow, standIns := [], harness := (true, "62d63e875f06aa6201a8a60e9b6d97dee89b982016360e075f99d00f54d63222"), looks := false }, kinds := [], alts := [], laidByText := true, laidKinds := [.data], laidTests := true, laidLooks := .later }
def ImpTellsUptoCardSaid : Prop := Claim7.holds Tryd.pinned (.plain (OpenSpec.upto impTellsSpec)) impTellsUptoCard

/-- THE SECOND FORM's CARD OF 'finesselaw19.ImpMatches'. -/
def impMatchesUptoCard : Claim7 := { stood := { row := impMatchesUptoRow, standIns := [], harness := (true, "62d63e875f06aa6201a8a60e9b6d97dee89b982016360e075f99d00f54d63222"), looks := false }, kinds := [], alts := [], laidByText := true, laidKinds := [.data], laidTests := true, laidLooks := .later }
def ImpMatchesUptoCardSaid : Prop := Claim7.holds Tryd.pinned (.plain (OpenSpec.upto impMatchesSpec)) impMatchesUptoCard

/-- THE SECOND FORM's CARD OF 'finesselaw19.ImpSmall'. -/
def impSmallUptoCard : Claim7 := { stood := { row := impSmallUptoRow, standIns := [], harness := (true, "62d63e875f06aa6201a8a60e9b6d97dee89b982016360e075f99d00f54d63222"), looks := false }, kinds := [], alts := [], laidByText := true, laidKinds := [.data], laidTests := true, laidLooks := .later }
def ImpSmallUptoCardSaid : Prop := Claim7.holds Tryd.pinned (.plain (OpenSpec.upto impSmallSpec)) impSmallUptoCard

/-- THE SECOND FORM's CARD OF 'finesselaw19.ImpTwo'. -/
def impTwoUptoCard : Claim7 := { stood := { row := impTwoUptoRow, standIns := [], harness := (true, "62d63e875f06aa6201a8a60e9b6d97dee89b982016360e075f99d00f54d63222"), looks := false }, kinds := [], alts := [], laidByText := true, laidKinds := [.data], laidTests := true, laidLooks := .later }
def ImpTwoUptoCardSaid : Prop := Claim7.holds Tryd.pinned (.plain (OpenSpec.upto impTwoSpec)) impTwoUptoCard

/-- THE SECOND FORM's CARD OF 'finesselaw19.ImpLeast'. -/
def impLeastUptoCard : Claim7 := { stood := { row := impLeastUptoRow, standIns := [], harness := (true, "62d63e875f06aa6201a8a60e9b6d97dee89b982016360e075f99d00f54d63222"), looks := false }, kinds := [], alts := [], laidByText := true, laidKinds := [.data], laidTests := true, laidLooks := .later }
def ImpLeastUptoCardSaid : Prop := Claim7.holds Tryd.pinned (.plain (OpenSpec.upto impLeastSpec)) impLeastUptoCard

/-- THE SECOND FORM's CARD OF 'finesselaw19.ImpTeams'. -/
def impTeamsUptoCard : Claim7 := { stood := { row := impTeamsUptoRow, standIns := [], harness := (true, "62d63e875f06aa6201a8a60e9b6d97dee89b982016360e075f99d00f54d63222"), looks := false }, kinds := [], alts := [], laidByText := true, laidKinds := [.data], laidTests := true, laidLooks := .later }
def ImpTeamsUptoCardSaid : Prop := Claim7.holds Tryd.pinned (.plain (OpenSpec.upto impTeamsSpec)) impTeamsUptoCard

/-- THE SECOND FORM's CARD OF 'finesselaw19.ImpParts'. -/
def impPartsUptoCard : Claim7 := { stood := { row := impPartsUptoRow, standIns := [], harness := (true, "62d63e875f06aa6201a8a60e9b6d97dee89b982016360e075f99d00f54d63222"), looks := false }, kinds := [], alts := [], laidByText := true, laidKinds := [.data], laidTests := true, laidLooks := .later }
def ImpPartsUptoCardSaid : Prop := Claim7.holds Tryd.pinned (.plain (OpenSpec.upto impPartsSpec)) impPartsUptoCard

/-- THE SECOND FORM's CARD OF 'finesselaw19.ImpWrong'. -/
def impWrongUptoCard : Claim7 := { stood := { row := impWrongUptoRow, standIns := [], harness := (true, "62d63e875f06aa6201a8a60e9b6d97dee89b982016360e075f99d00f54d63222"), looks := false }, kinds := [], alts := [], laidByText := true, laidKinds := [.data], laidTests := true, laidLooks := .later }
def ImpWrongUptoCardSaid : Prop := Claim7.holds Tryd.pinned (.plain (OpenSpec.upto impWrongSpec)) impWrongUptoCard
end Rows
end Go.Proofs.YtmncmboeddlcmaaDoor
