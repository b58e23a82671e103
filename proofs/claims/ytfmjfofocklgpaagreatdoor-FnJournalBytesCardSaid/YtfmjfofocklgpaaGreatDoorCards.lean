/-
  DERIVED. GIVEN WITH THE SEED: THE CARDS: each row of YtfmjfofocklgpaaGreatDoorRows.lean that lists a variable, with what it lists TIED to the program's text (the seventh form; the later family's looks); each row that meets fmt, with fmt's text TOLD by the authors' own Lean function (tested against real Go, not proved from fmt's source: count such statements apart). THE CARD IS WHAT COUNTS. Prove the row's statement (the work); the ties are given (YtfmjfofocklgpaaGreatDoorTie.lean); close each card by the builder's one call (the guide's Derived/Test/ToyasCard.lean, 'card_holds'). Laid BY PROGRAM, IN A SANDBOX (cutbox-door.mjs). By AI agents, Wed Nov 11 2026. No macro, syntax, notation, axiom, sorry.
-/
import Derived.Test.YtfmjfofocklgpaaGreatDoorRows
import GoSem.ClaimSeven
namespace Go.Proofs.YtfmjfofocklgpaaGreatDoor
namespace Rows

/-- THE TIED CARD OF 'laws.FnExactCheckCertificate'. -/
def fnExactCheckCertificateCard : Claim7 := { stood := { row := fnExactCheckCertificateRow, standIns := [], harness := (true, "80c07b2a22029fdb28d8525440bf48ba33cf421e6faedad4e798d33a2bc9b429"), looks := true }, kinds := [], alts := [], laidByText := true, laidKinds := [.data, .data, .data, .data, .sentinel, .sentinel, .pinned], laidTests := true, laidLooks := .later }
def FnExactCheckCertificateCardSaid : Prop := Claim7.holds Tryz.pinned (.plain (OpenSpec.ofChange fnExactCheckCertificateSpec)) fnExactCheckCertificateCard

/-- THE TIED CARD OF 'laws.FnExactCheckBundle'. -/
def fnExactCheckBundleCard : Claim7 := { stood := { row := fnExactCheckBundleRow, standIns := [], harness := (true, "80c07b2a22029fdb28d8525440bf48ba33cf421e6faedad4e798d33a2bc9b429"), looks := true }, kinds := [], alts := [], laidByText := true, laidKinds := [.data, .data, .data, .data, .sentinel, .sentinel, .pinned], laidTests := true, laidLooks := .later }
def FnExactCheckBundleCardSaid : Prop := Claim7.holds Tryz.pinned (.plain (OpenSpec.ofChange fnExactCheckBundleSpec)) fnExactCheckBundleCard

/-- THE TIED CARD OF 'laws.FnExactCompactJournal'. -/
def fnExactCompactJournalCard : Claim7 := { stood := { row := fnExactCompactJournalRow, standIns := [], harness := (true, "80c07b2a22029fdb28d8525440bf48ba33cf421e6faedad4e798d33a2bc9b429"), looks := true }, kinds := [], alts := [], laidByText := true, laidKinds := [.data, .data, .data, .data, .sentinel, .sentinel, .pinned], laidTests := true, laidLooks := .later }
def FnExactCompactJournalCardSaid : Prop := Claim7.holds Tryz.pinned (.plain (OpenSpec.ofChange fnExactCompactJournalSpec)) fnExactCompactJournalCard

/-- THE TIED CARD OF 'laws.FnExactAppendCommand'. -/
def fnExactAppendCommandCard : Claim7 := { stood := { row := fnExactAppendCommandRow, standIns := [], harness := (true, "80c07b2a22029fdb28d8525440bf48ba33cf421e6faedad4e798d33a2bc9b429"), looks := true }, kinds := [], alts := [], laidByText := true, laidKinds := [.data, .data, .data, .data, .sentinel, .sentinel, .pinned], laidTests := true, laidLooks := .later }
def FnExactAppendCommandCardSaid : Prop := Claim7.holds Tryz.pinned (.plain (OpenSpec.ofChange fnExactAppendCommandSpec)) fnExactAppendCommandCard

/-- THE TIED CARD OF 'laws.FnExactReplayJournal'. -/
def fnExactReplayJournalCard : Claim7 := { stood := { row := fnExactReplayJournalRow, standIns := [], harness := (true, "80c07b2a22029fdb28d8525440bf48ba33cf421e6faedad4e798d33a2bc9b429"), looks := true }, kinds := [], alts := [], laidByText := true, laidKinds := [.data, .data, .data, .data, .sentinel, .sentinel, .pinned], laidTests := true, laidLooks := .later }
def FnExactReplayJournalCardSaid : Prop := Claim7.holds Tryz.pinned (.plain (OpenSpec.ofChange fnExactReplayJournalSpec)) fnExactReplayJournalCard

/-- THE TIED CARD OF 'laws.FnJournalCuts'. -/
def fnJournalCutsCard : Claim7 := { stood := { row := fnJournalCutsRow, standIns := [], harness := (true, "80c07b2a22029fdb28d8525440bf48ba33cf421e6faedad4e798d33a2bc9b429"), looks := true }, kinds := [], alts := [], laidByText := true, laidKinds := [.data, .data, .data, .data, .sentinel, .sentinel, .pinned], laidTests := true, laidLooks := .later }
def FnJournalCutsCardSaid : Prop := Claim7.holds Tryz.pinned (.plain (OpenSpec.ofChange fnJournalCutsSpec)) fnJournalCutsCard

/-- THE TIED CARD OF 'laws.FnJournalBytes'. -/
def fnJournalBytesCard : Claim7 := { stood := { row := fnJournalBytesRow, standIns := [], harness := (true, "80c07b2a22029fdb28d8525440bf48ba33cf421e6faedad4e798d33a2bc9b429"), looks := true }, kinds := [], alts := [], laidByText := true, laidKinds := [.data, .data, .data, .data, .sentinel, .sentinel, .pinned], laidTests := true, laidLooks := .later }
def FnJournalBytesCardSaid : Prop := Claim7.holds Tryz.pinned (.plain (OpenSpec.ofChange fnJournalBytesSpec)) fnJournalBytesCard

/-- THE TIED CARD OF 'laws.FnCertificateTexts'. -/
def fnCertificateTextsCard : Claim7 := { stood := { row := fnCertificateTextsRow, standIns := [], harness := (true, "80c07b2a22029fdb28d8525440bf48ba33cf421e6faedad4e798d33a2bc9b429"), looks := true }, kinds := [], alts := [], laidByText := true, laidKinds := [.data, .data, .data, .data, .sentinel, .sentinel, .pinned], laidTests := true, laidLooks := .later }
def FnCertificateTextsCardSaid : Prop := Claim7.holds Tryz.pinned (.plain (OpenSpec.ofChange fnCertificateTextsSpec)) fnCertificateTextsCard

/-- THE SECOND FORM's CARD OF 'laws.FnExactCheckCertificate'. -/
def fnExactCheckCertificateUptoCard : Claim7 := { stood := { row := fnExactCheckCertificateUptoRow, standIns := [], harness := (true, "80c07b2a22029fdb28d8525440bf48ba33cf421e6faedad4e798d33a2bc9b429"), looks := true }, kinds := [], alts := [], laidByText := true, laidKinds := [.data, .data, .data, .data, .sentinel, .sentinel, .pinned], laidTests := true, laidLooks := .later }
def FnExactCheckCertificateUptoCardSaid : Prop := Claim7.holds Tryz.pinned (.plain (OpenSpec.upto fnExactCheckCertificateSpec)) fnExactCheckCertificateUptoCard

/-- THE SECOND FORM's CARD OF 'laws.FnExactCheckBundle'. -/
def fnExactCheckBundleUptoCard : Claim7 := { stood := { row := fnExactCheckBundleUptoRow, standIns := [], harness := (true, "80c07b2a22029fdb28d8525440bf48ba33cf421e6faedad4e798d33a2bc9b429"), looks := true }, kinds := [], alts := [], laidByText := true, laidKinds := [.data, .data, .data, .data, .sentinel, .sentinel, .pinned], laidTests := true, laidLooks := .later }
def FnExactCheckBundleUptoCardSaid : Prop := Claim7.holds Tryz.pinned (.plain (OpenSpec.upto fnExactCheckBundleSpec)) fnExactCheckBundleUptoCard

/-- THE SECOND FORM's CARD OF 'laws.FnExactCompactJournal'. -/
def fnExactCompactJournalUptoCard : Claim7 := { stood := { row := fnExactCompactJournalUptoRow, standIns := [], harness := (true, "80c07b2a22029fdb28d8525440bf48ba33cf421e6faedad4e798d33a2bc9b429"), looks := true }, kinds := [], alts := [], laidByText := true, laidKinds := [.data, .data, .data, .data, .sentinel, .sentinel, .pinned], laidTests := true, laidLooks := .later }
def FnExactCompactJournalUptoCardSaid : Prop := Claim7.holds Tryz.pinned (.plain (OpenSpec.upto fnExactCompactJournalSpec)) fnExactCompactJournalUptoCard

/-- THE SECOND FORM's CARD OF 'laws.FnExactAppendCommand'. -/
def fnExactAppendCommandUptoCard : Claim7 := { stood := { row := fnExactAppendCommandUptoRow, standIns := [], harness := (true, "80c07b2a22029fdb28d8525440bf48ba33cf421e6faedad4e798d33a2bc9b429"), looks := true }, kinds := [], alts := [], laidByText := true, laidKinds := [.data, .data, .data, .data, .sentinel, .sentinel, .pinned], laidTests := true, laidLooks := .later }
def FnExactAppendCommandUptoCardSaid : Prop := Claim7.holds Tryz.pinned (.plain (OpenSpec.upto fnExactAppendCommandSpec)) fnExactAppendCommandUptoCard

/-- THE SECOND FORM's CARD OF 'laws.FnExactReplayJournal'. -/
def fnExactReplayJournalUptoCard : Claim7 := { stood := { row := fnExactReplayJournalUptoRow, standIns := [], harness := (true, "80c07b2a22029fdb28d8525440bf48ba33cf421e6faedad4e798d33a2bc9b429"), looks := true }, kinds := [], alts := [], laidByText := true, laidKinds := [.data, .data, .data, .data, .sentinel, .sentinel, .pinned], laidTests := true, laidLooks := .later }
def FnExactReplayJournalUptoCardSaid : Prop := Claim7.holds Tryz.pinned (.plain (OpenSpec.upto fnExactReplayJournalSpec)) fnExactReplayJournalUptoCard

/-- THE SECOND FORM's CARD OF 'laws.FnJournalCuts'. -/
def fnJournalCutsUptoCard : Claim7 := { stood := { row := fnJournalCutsUptoRow, standIns := [], harness := (true, "80c07b2a22029fdb28d8525440bf48ba33cf421e6faedad4e798d33a2bc9b429"), looks := true }, kinds := [], alts := [], laidByText := true, laidKinds := [.data, .data, .data, .data, .sentinel, .sentinel, .pinned], laidTests := true, laidLooks := .later }
def FnJournalCutsUptoCardSaid : Prop := Claim7.holds Tryz.pinned (.plain (OpenSpec.upto fnJournalCutsSpec)) fnJournalCutsUptoCard

/-- THE SECOND FORM's CARD OF 'laws.FnJournalBytes'. -/
def fnJournalBytesUptoCard : Claim7 := { stood := { row := fnJournalBytesUptoRow, standIns := [], harness := (true, "80c07b2a22029fdb28d8525440bf48ba33cf421e6faedad4e798d33a2bc9b429"), looks := true }, kinds := [], alts := [], laidByText := true, laidKinds := [.data, .data, .data, .data, .sentinel, .sentinel, .pinned], laidTests := true, laidLooks := .later }
def FnJournalBytesUptoCardSaid : Prop := Claim7.holds Tryz.pinned (.plain (OpenSpec.upto fnJournalBytesSpec)) fnJournalBytesUptoCard

/-- THE SECOND FORM's CARD OF 'laws.FnCertificateTexts'. -/
def fnCertificateTextsUptoCard : Claim7 := { stood := { row := fnCertificateTextsUptoRow, standIns := [], harness := (true, "80c07b2a22029fdb28d8525440bf48ba33cf421e6faedad4e798d33a2bc9b429"), looks := true }, kinds := [], alts := [], laidByText := true, laidKinds := [.data, .data, .data, .data, .sentinel, .sentinel, .pinned], laidTests := true, laidLooks := .later }
def FnCertificateTextsUptoCardSaid : Prop := Claim7.holds Tryz.pinned (.plain (OpenSpec.upto fnCertificateTextsSpec)) fnCertificateTextsUptoCard
end Rows
end Go.Proofs.YtfmjfofocklgpaaGreatDoor
