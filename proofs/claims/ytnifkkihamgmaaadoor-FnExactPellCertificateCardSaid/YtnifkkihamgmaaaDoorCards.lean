/-
  DERIVED. GIVEN WITH THE SEED: THE CARDS: each row of YtnifkkihamgmaaaDoorRows.lean that lists a variable, with what it lists TIED to the program's text (the seventh form; the later family's looks); each row that meets fmt, with fmt's text TOLD by the authors' own Lean function (tested against real Go, not proved from fmt's source: count such statements apart). THE CARD IS WHAT COUNTS. Prove the row's statement (the work); the ties are given (YtnifkkihamgmaaaDoorTie.lean); close each card by the builder's one call (the guide's Derived/Test/ToyasCard.lean, 'card_holds'). Laid BY PROGRAM, IN A SANDBOX (cutbox-door.mjs). By AI agents, Wed Nov 11 2026. No macro, syntax, notation, axiom, sorry.
-/
import Derived.Test.YtnifkkihamgmaaaDoorRows
import GoSem.ClaimSeven
namespace Go.Proofs.YtnifkkihamgmaaaDoor
namespace Rows

/-- THE TIED CARD OF 'laws.FnExactAutomorphCertificates'. -/
def fnExactAutomorphCertificatesCard : Claim7 := { stood := { row := fnExactAutomorphCertificatesRow, standIns := [], harness := (true, "7d9bca74625fc61385873c15a865970bc8da7c05a17cbd4fc9c881a94ce37990"), looks := false }, kinds := [], alts := [], laidByText := true, laidKinds := [.data, .data, .data], laidTests := true, laidLooks := .later }
def FnExactAutomorphCertificatesCardSaid : Prop := Claim7.holds Tryd.pinned (.plain (OpenSpec.ofChange fnExactAutomorphCertificatesSpec)) fnExactAutomorphCertificatesCard

/-- THE TIED CARD OF 'laws.FnExactPellCertificate'. -/
def fnExactPellCertificateCard : Claim7 := { stood := { row := fnExactPellCertificateRow, standIns := [], harness := (true, "7d9bca74625fc61385873c15a865970bc8da7c05a17cbd4fc9c881a94ce37990"), looks := false }, kinds := [], alts := [], laidByText := true, laidKinds := [.data, .data, .data], laidTests := true, laidLooks := .later }
def FnExactPellCertificateCardSaid : Prop := Claim7.holds Tryd.pinned (.plain (OpenSpec.ofChange fnExactPellCertificateSpec)) fnExactPellCertificateCard

/-- THE TIED CARD OF 'laws.FnExactOrderCertificate'. -/
def fnExactOrderCertificateCard : Claim7 := { stood := { row := fnExactOrderCertificateRow, standIns := [], harness := (true, "7d9bca74625fc61385873c15a865970bc8da7c05a17cbd4fc9c881a94ce37990"), looks := false }, kinds := [], alts := [], laidByText := true, laidKinds := [.data, .data, .data], laidTests := true, laidLooks := .later }
def FnExactOrderCertificateCardSaid : Prop := Claim7.holds Tryd.pinned (.plain (OpenSpec.ofChange fnExactOrderCertificateSpec)) fnExactOrderCertificateCard

/-- THE TIED CARD OF 'laws.FnExactCompositeCertificate'. -/
def fnExactCompositeCertificateCard : Claim7 := { stood := { row := fnExactCompositeCertificateRow, standIns := [], harness := (true, "7d9bca74625fc61385873c15a865970bc8da7c05a17cbd4fc9c881a94ce37990"), looks := false }, kinds := [], alts := [], laidByText := true, laidKinds := [.data, .data, .data], laidTests := true, laidLooks := .later }
def FnExactCompositeCertificateCardSaid : Prop := Claim7.holds Tryd.pinned (.plain (OpenSpec.ofChange fnExactCompositeCertificateSpec)) fnExactCompositeCertificateCard

/-- THE SECOND FORM's CARD OF 'laws.FnExactAutomorphCertificates'. -/
def fnExactAutomorphCertificatesUptoCard : Claim7 := { stood := { row := fnExactAutomorphCertificatesUptoRow, standIns := [], harness := (true, "7d9bca74625fc61385873c15a865970bc8da7c05a17cbd4fc9c881a94ce37990"), looks := false }, kinds := [], alts := [], laidByText := true, laidKinds := [.data, .data, .data], laidTests := true, laidLooks := .later }
def FnExactAutomorphCertificatesUptoCardSaid : Prop := Claim7.holds Tryd.pinned (.plain (OpenSpec.upto fnExactAutomorphCertificatesSpec)) fnExactAutomorphCertificatesUptoCard

/-- THE SECOND FORM's CARD OF 'laws.FnExactPellCertificate'. -/
def fnExactPellCertificateUptoCard : Claim7 := { stood := { row := fnExactPellCertificateUptoRow, standIns := [], harness := (true, "7d9bca74625fc61385873c15a865970bc8da7c05a17cbd4fc9c881a94ce37990"), looks := false }, kinds := [], alts := [], laidByText := true, laidKinds := [.data, .data, .data], laidTests := true, laidLooks := .later }
def FnExactPellCertificateUptoCardSaid : Prop := Claim7.holds Tryd.pinned (.plain (OpenSpec.upto fnExactPellCertificateSpec)) fnExactPellCertificateUptoCard

/-- THE SECOND FORM's CARD OF 'laws.FnExactOrderCertificate'. -/
def fnExactOrderCertificateUptoCard : Claim7 := { stood := { row := fnExactOrderCertificateUptoRow, standIns := [], harness := (true, "7d9bca74625fc61385873c15a865970bc8da7c05a17cbd4fc9c881a94ce37990"), looks := false }, kinds := [], alts := [], laidByText := true, laidKinds := [.data, .data, .data], laidTests := true, laidLooks := .later }
def FnExactOrderCertificateUptoCardSaid : Prop := Claim7.holds Tryd.pinned (.plain (OpenSpec.upto fnExactOrderCertificateSpec)) fnExactOrderCertificateUptoCard

/-- THE SECOND FORM's CARD OF 'laws.FnExactCompositeCertificate'. -/
def fnExactCompositeCertificateUptoCard : Claim7 := { stood := { row := fnExactCompositeCertificateUptoRow, standIns := [], harness := (true, "7d9bca74625fc61385873c15a865970bc8da7c05a17cbd4fc9c881a94ce37990"), looks := false }, kinds := [], alts := [], laidByText := true, laidKinds := [.data, .data, .data], laidTests := true, laidLooks := .later }
def FnExactCompositeCertificateUptoCardSaid : Prop := Claim7.holds Tryd.pinned (.plain (OpenSpec.upto fnExactCompositeCertificateSpec)) fnExactCompositeCertificateUptoCard
end Rows
end Go.Proofs.YtnifkkihamgmaaaDoor
