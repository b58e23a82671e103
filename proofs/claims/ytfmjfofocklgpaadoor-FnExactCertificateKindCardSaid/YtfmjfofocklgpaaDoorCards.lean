/-
  DERIVED. GIVEN WITH THE SEED: THE CARDS: each row of YtfmjfofocklgpaaDoorRows.lean that lists a variable, with what it lists TIED to the program's text (the seventh form; the later family's looks); each row that meets fmt, with fmt's text TOLD by the authors' own Lean function (tested against real Go, not proved from fmt's source: count such statements apart). THE CARD IS WHAT COUNTS. Prove the row's statement (the work); the ties are given (YtfmjfofocklgpaaDoorTie.lean); close each card by the builder's one call (the guide's Derived/Test/ToyasCard.lean, 'card_holds'). Laid BY PROGRAM, IN A SANDBOX (cutbox-door.mjs). By AI agents, Wed Nov 11 2026. No macro, syntax, notation, axiom, sorry.
-/
import Derived.Test.YtfmjfofocklgpaaDoorRows
import GoSem.ClaimSeven
namespace Go.Proofs.YtfmjfofocklgpaaDoor
namespace Rows

/-- THE TIED CARD OF 'laws.FnExactCertificateKind'. -/
def fnExactCertificateKindCard : Claim7 := { stood := { row := fnExactCertificateKindRow, standIns := [], harness := (true, "f8c948d3d601fbe3af68d58b14cbac3855b01d17ed14b12bf3b964e9b824f26f"), looks := true }, kinds := [], alts := [], laidByText := true, laidKinds := [.data, .data, .data, .data, .sentinel, .sentinel, .pinned], laidTests := true, laidLooks := .later }
def FnExactCertificateKindCardSaid : Prop := Claim7.holds Tryd.pinned (.plain (OpenSpec.ofChange fnExactCertificateKindSpec)) fnExactCertificateKindCard

/-- THE SECOND FORM's CARD OF 'laws.FnExactCertificateKind'. -/
def fnExactCertificateKindUptoCard : Claim7 := { stood := { row := fnExactCertificateKindUptoRow, standIns := [], harness := (true, "f8c948d3d601fbe3af68d58b14cbac3855b01d17ed14b12bf3b964e9b824f26f"), looks := true }, kinds := [], alts := [], laidByText := true, laidKinds := [.data, .data, .data, .data, .sentinel, .sentinel, .pinned], laidTests := true, laidLooks := .later }
def FnExactCertificateKindUptoCardSaid : Prop := Claim7.holds Tryd.pinned (.plain (OpenSpec.upto fnExactCertificateKindSpec)) fnExactCertificateKindUptoCard
end Rows
end Go.Proofs.YtfmjfofocklgpaaDoor
