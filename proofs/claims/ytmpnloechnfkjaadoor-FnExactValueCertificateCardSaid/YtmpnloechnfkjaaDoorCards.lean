/-
  DERIVED. GIVEN WITH THE SEED: THE CARDS: each row of YtmpnloechnfkjaaDoorRows.lean that lists a variable, with what it lists TIED to the program's text (the seventh form; the later family's looks); each row that meets fmt, with fmt's text TOLD by the authors' own Lean function (tested against real Go, not proved from fmt's source: count such statements apart). THE CARD IS WHAT COUNTS. Prove the row's statement (the work); the ties are given (YtmpnloechnfkjaaDoorTie.lean); close each card by the builder's one call (the guide's Derived/Test/ToyasCard.lean, 'card_holds'). Laid BY PROGRAM, IN A SANDBOX (cutbox-door.mjs). By AI agents, Wed Nov 11 2026. No macro, syntax, notation, axiom, sorry.
-/
import Derived.Test.YtmpnloechnfkjaaDoorRows
import GoSem.ClaimSeven
namespace Go.Proofs.YtmpnloechnfkjaaDoor
namespace Rows

/-- THE TIED CARD OF 'laws.FnExactRootCertificates'. -/
def fnExactRootCertificatesCard : Claim7 := { stood := { row := fnExactRootCertificatesRow, standIns := [], harness := (true, "86aaaf60269f5b1f7c6f974c8265af1bf8f13b7f1693713c490cafc8ead4dc7e"), looks := false }, kinds := [], alts := [], laidByText := true, laidKinds := [.data, .data, .data], laidTests := true, laidLooks := .later }
def FnExactRootCertificatesCardSaid : Prop := Claim7.holds Tryd.pinned (.plain (OpenSpec.ofChange fnExactRootCertificatesSpec)) fnExactRootCertificatesCard

/-- THE TIED CARD OF 'laws.FnExactObstructionCertificate'. -/
def fnExactObstructionCertificateCard : Claim7 := { stood := { row := fnExactObstructionCertificateRow, standIns := [], harness := (true, "86aaaf60269f5b1f7c6f974c8265af1bf8f13b7f1693713c490cafc8ead4dc7e"), looks := false }, kinds := [], alts := [], laidByText := true, laidKinds := [.data, .data, .data], laidTests := true, laidLooks := .later }
def FnExactObstructionCertificateCardSaid : Prop := Claim7.holds Tryd.pinned (.plain (OpenSpec.ofChange fnExactObstructionCertificateSpec)) fnExactObstructionCertificateCard

/-- THE TIED CARD OF 'laws.FnExactDifferenceCertificate'. -/
def fnExactDifferenceCertificateCard : Claim7 := { stood := { row := fnExactDifferenceCertificateRow, standIns := [], harness := (true, "86aaaf60269f5b1f7c6f974c8265af1bf8f13b7f1693713c490cafc8ead4dc7e"), looks := false }, kinds := [], alts := [], laidByText := true, laidKinds := [.data, .data, .data], laidTests := true, laidLooks := .later }
def FnExactDifferenceCertificateCardSaid : Prop := Claim7.holds Tryd.pinned (.plain (OpenSpec.ofChange fnExactDifferenceCertificateSpec)) fnExactDifferenceCertificateCard

/-- THE TIED CARD OF 'laws.FnExactEquivalenceCertificate'. -/
def fnExactEquivalenceCertificateCard : Claim7 := { stood := { row := fnExactEquivalenceCertificateRow, standIns := [], harness := (true, "86aaaf60269f5b1f7c6f974c8265af1bf8f13b7f1693713c490cafc8ead4dc7e"), looks := false }, kinds := [], alts := [], laidByText := true, laidKinds := [.data, .data, .data], laidTests := true, laidLooks := .later }
def FnExactEquivalenceCertificateCardSaid : Prop := Claim7.holds Tryd.pinned (.plain (OpenSpec.ofChange fnExactEquivalenceCertificateSpec)) fnExactEquivalenceCertificateCard

/-- THE TIED CARD OF 'laws.FnExactValueCertificate'. -/
def fnExactValueCertificateCard : Claim7 := { stood := { row := fnExactValueCertificateRow, standIns := [], harness := (true, "86aaaf60269f5b1f7c6f974c8265af1bf8f13b7f1693713c490cafc8ead4dc7e"), looks := false }, kinds := [], alts := [], laidByText := true, laidKinds := [.data, .data, .data], laidTests := true, laidLooks := .later }
def FnExactValueCertificateCardSaid : Prop := Claim7.holds Tryd.pinned (.plain (OpenSpec.ofChange fnExactValueCertificateSpec)) fnExactValueCertificateCard

/-- THE TIED CARD OF 'laws.FnExactAutomorphCertificates'. -/
def fnExactAutomorphCertificatesCard : Claim7 := { stood := { row := fnExactAutomorphCertificatesRow, standIns := [], harness := (true, "86aaaf60269f5b1f7c6f974c8265af1bf8f13b7f1693713c490cafc8ead4dc7e"), looks := false }, kinds := [], alts := [], laidByText := true, laidKinds := [.data, .data, .data], laidTests := true, laidLooks := .later }
def FnExactAutomorphCertificatesCardSaid : Prop := Claim7.holds Tryd.pinned (.plain (OpenSpec.ofChange fnExactAutomorphCertificatesSpec)) fnExactAutomorphCertificatesCard

/-- THE TIED CARD OF 'laws.FnExactPellCertificate'. -/
def fnExactPellCertificateCard : Claim7 := { stood := { row := fnExactPellCertificateRow, standIns := [], harness := (true, "86aaaf60269f5b1f7c6f974c8265af1bf8f13b7f1693713c490cafc8ead4dc7e"), looks := false }, kinds := [], alts := [], laidByText := true, laidKinds := [.data, .data, .data], laidTests := true, laidLooks := .later }
def FnExactPellCertificateCardSaid : Prop := Claim7.holds Tryd.pinned (.plain (OpenSpec.ofChange fnExactPellCertificateSpec)) fnExactPellCertificateCard

/-- THE TIED CARD OF 'laws.FnExactOrderCertificate'. -/
def fnExactOrderCertificateCard : Claim7 := { stood := { row := fnExactOrderCertificateRow, standIns := [], harness := (true, "86aaaf60269f5b1f7c6f974c8265af1bf8f13b7f1693713c490cafc8ead4dc7e"), looks := false }, kinds := [], alts := [], laidByText := true, laidKinds := [.data, .data, .data], laidTests := true, laidLooks := .later }
def FnExactOrderCertificateCardSaid : Prop := Claim7.holds Tryd.pinned (.plain (OpenSpec.ofChange fnExactOrderCertificateSpec)) fnExactOrderCertificateCard

/-- THE TIED CARD OF 'laws.FnExactCompositeCertificate'. -/
def fnExactCompositeCertificateCard : Claim7 := { stood := { row := fnExactCompositeCertificateRow, standIns := [], harness := (true, "86aaaf60269f5b1f7c6f974c8265af1bf8f13b7f1693713c490cafc8ead4dc7e"), looks := false }, kinds := [], alts := [], laidByText := true, laidKinds := [.data, .data, .data], laidTests := true, laidLooks := .later }
def FnExactCompositeCertificateCardSaid : Prop := Claim7.holds Tryd.pinned (.plain (OpenSpec.ofChange fnExactCompositeCertificateSpec)) fnExactCompositeCertificateCard

/-- THE SECOND FORM's CARD OF 'laws.FnExactRootCertificates'. -/
def fnExactRootCertificatesUptoCard : Claim7 := { stood := { row := fnExactRootCertificatesUptoRow, standIns := [], harness := (true, "86aaaf60269f5b1f7c6f974c8265af1bf8f13b7f1693713c490cafc8ead4dc7e"), looks := false }, kinds := [], alts := [], laidByText := true, laidKinds := [.data, .data, .data], laidTests := true, laidLooks := .later }
def FnExactRootCertificatesUptoCardSaid : Prop := Claim7.holds Tryd.pinned (.plain (OpenSpec.upto fnExactRootCertificatesSpec)) fnExactRootCertificatesUptoCard

/-- THE SECOND FORM's CARD OF 'laws.FnExactObstructionCertificate'. -/
def fnExactObstructionCertificateUptoCard : Claim7 := { stood := { row := fnExactObstructionCertificateUptoRow, standIns := [], harness := (true, "86aaaf60269f5b1f7c6f974c8265af1bf8f13b7f1693713c490cafc8ead4dc7e"), looks := false }, kinds := [], alts := [], laidByText := true, laidKinds := [.data, .data, .data], laidTests := true, laidLooks := .later }
def FnExactObstructionCertificateUptoCardSaid : Prop := Claim7.holds Tryd.pinned (.plain (OpenSpec.upto fnExactObstructionCertificateSpec)) fnExactObstructionCertificateUptoCard

/-- THE SECOND FORM's CARD OF 'laws.FnExactDifferenceCertificate'. -/
def fnExactDifferenceCertificateUptoCard : Claim7 := { stood := { row := fnExactDifferenceCertificateUptoRow, standIns := [], harness := (true, "86aaaf60269f5b1f7c6f974c8265af1bf8f13b7f1693713c490cafc8ead4dc7e"), looks := false }, kinds := [], alts := [], laidByText := true, laidKinds := [.data, .data, .data], laidTests := true, laidLooks := .later }
def FnExactDifferenceCertificateUptoCardSaid : Prop := Claim7.holds Tryd.pinned (.plain (OpenSpec.upto fnExactDifferenceCertificateSpec)) fnExactDifferenceCertificateUptoCard

/-- THE SECOND FORM's CARD OF 'laws.FnExactEquivalenceCertificate'. -/
def fnExactEquivalenceCertificateUptoCard : Claim7 := { stood := { row := fnExactEquivalenceCertificateUptoRow, standIns := [], harness := (true, "86aaaf60269f5b1f7c6f974c8265af1bf8f13b7f1693713c490cafc8ead4dc7e"), looks := false }, kinds := [], alts := [], laidByText := true, laidKinds := [.data, .data, .data], laidTests := true, laidLooks := .later }
def FnExactEquivalenceCertificateUptoCardSaid : Prop := Claim7.holds Tryd.pinned (.plain (OpenSpec.upto fnExactEquivalenceCertificateSpec)) fnExactEquivalenceCertificateUptoCard

/-- THE SECOND FORM's CARD OF 'laws.FnExactValueCertificate'. -/
def fnExactValueCertificateUptoCard : Claim7 := { stood := { row := fnExactValueCertificateUptoRow, standIns := [], harness := (true, "86aaaf60269f5b1f7c6f974c8265af1bf8f13b7f1693713c490cafc8ead4dc7e"), looks := false }, kinds := [], alts := [], laidByText := true, laidKinds := [.data, .data, .data], laidTests := true, laidLooks := .later }
def FnExactValueCertificateUptoCardSaid : Prop := Claim7.holds Tryd.pinned (.plain (OpenSpec.upto fnExactValueCertificateSpec)) fnExactValueCertificateUptoCard

/-- THE SECOND FORM's CARD OF 'laws.FnExactAutomorphCertificates'. -/
def fnExactAutomorphCertificatesUptoCard : Claim7 := { stood := { row := fnExactAutomorphCertificatesUptoRow, standIns := [], harness := (true, "86aaaf60269f5b1f7c6f974c8265af1bf8f13b7f1693713c490cafc8ead4dc7e"), looks := false }, kinds := [], alts := [], laidByText := true, laidKinds := [.data, .data, .data], laidTests := true, laidLooks := .later }
def FnExactAutomorphCertificatesUptoCardSaid : Prop := Claim7.holds Tryd.pinned (.plain (OpenSpec.upto fnExactAutomorphCertificatesSpec)) fnExactAutomorphCertificatesUptoCard

/-- THE SECOND FORM's CARD OF 'laws.FnExactPellCertificate'. -/
def fnExactPellCertificateUptoCard : Claim7 := { stood := { row := fnExactPellCertificateUptoRow, standIns := [], harness := (true, "86aaaf60269f5b1f7c6f974c8265af1bf8f13b7f1693713c490cafc8ead4dc7e"), looks := false }, kinds := [], alts := [], laidByText := true, laidKinds := [.data, .data, .data], laidTests := true, laidLooks := .later }
def FnExactPellCertificateUptoCardSaid : Prop := Claim7.holds Tryd.pinned (.plain (OpenSpec.upto fnExactPellCertificateSpec)) fnExactPellCertificateUptoCard

/-- THE SECOND FORM's CARD OF 'laws.FnExactOrderCertificate'. -/
def fnExactOrderCertificateUptoCard : Claim7 := { stood := { row := fnExactOrderCertificateUptoRow, standIns := [], harness := (true, "86aaaf60269f5b1f7c6f974c8265af1bf8f13b7f1693713c490cafc8ead4dc7e"), looks := false }, kinds := [], alts := [], laidByText := true, laidKinds := [.data, .data, .data], laidTests := true, laidLooks := .later }
def FnExactOrderCertificateUptoCardSaid : Prop := Claim7.holds Tryd.pinned (.plain (OpenSpec.upto fnExactOrderCertificateSpec)) fnExactOrderCertificateUptoCard

/-- THE SECOND FORM's CARD OF 'laws.FnExactCompositeCertificate'. -/
def fnExactCompositeCertificateUptoCard : Claim7 := { stood := { row := fnExactCompositeCertificateUptoRow, standIns := [], harness := (true, "86aaaf60269f5b1f7c6f974c8265af1bf8f13b7f1693713c490cafc8ead4dc7e"), looks := false }, kinds := [], alts := [], laidByText := true, laidKinds := [.data, .data, .data], laidTests := true, laidLooks := .later }
def FnExactCompositeCertificateUptoCardSaid : Prop := Claim7.holds Tryd.pinned (.plain (OpenSpec.upto fnExactCompositeCertificateSpec)) fnExactCompositeCertificateUptoCard
end Rows
end Go.Proofs.YtmpnloechnfkjaaDoor
