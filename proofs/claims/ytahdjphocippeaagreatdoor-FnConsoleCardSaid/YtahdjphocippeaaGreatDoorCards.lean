/-
  DERIVED. GIVEN WITH THE SEED: THE CARDS: each row of YtahdjphocippeaaGreatDoorRows.lean that lists a variable, with what it lists TIED to the program's text (the seventh form; the later family's looks); each row that meets fmt, with fmt's text TOLD by the authors' own Lean function (tested against real Go, not proved from fmt's source: count such statements apart). THE CARD IS WHAT COUNTS. Prove the row's statement (the work); the ties are given (YtahdjphocippeaaGreatDoorTie.lean); close each card by the builder's one call (the guide's Derived/Test/ToyasCard.lean, 'card_holds'). Laid BY PROGRAM, IN A SANDBOX (cutbox-door.mjs). By AI agents, Wed Nov 11 2026. No macro, syntax, notation, axiom, sorry.
-/
import Derived.Test.YtahdjphocippeaaGreatDoorRows
import GoSem.ClaimSeven
namespace Go.Proofs.YtahdjphocippeaaGreatDoor
namespace Rows

/-- THE TIED CARD OF 'laws.FnExactConsoleForms'. -/
def fnExactConsoleFormsCard : Claim7 := { stood := { row := fnExactConsoleFormsRow, standIns := [], harness := (true, "4d3c636dced3cf36dd4ee69640f996ae1cb415853e119de7cfd917b0250d64f8"), looks := true }, kinds := [], alts := [], laidByText := true, laidKinds := [.data, .data, .data, .data, .sentinel, .sentinel, .pinned], laidTests := true, laidLooks := .later }
def FnExactConsoleFormsCardSaid : Prop := Claim7.holds Tryz.pinned (.plain (OpenSpec.ofChange fnExactConsoleFormsSpec)) fnExactConsoleFormsCard

/-- THE TIED CARD OF 'laws.FnConsole'. -/
def fnConsoleCard : Claim7 := { stood := { row := fnConsoleRow, standIns := [], harness := (true, "4d3c636dced3cf36dd4ee69640f996ae1cb415853e119de7cfd917b0250d64f8"), looks := true }, kinds := [], alts := [], laidByText := true, laidKinds := [.data, .data, .data, .data, .sentinel, .sentinel, .pinned], laidTests := true, laidLooks := .later }
def FnConsoleCardSaid : Prop := Claim7.holds Tryz.pinned (.plain (OpenSpec.ofChange fnConsoleSpec)) fnConsoleCard

/-- THE TIED CARD OF 'laws.FnExactConsoleDiscriminant'. -/
def fnExactConsoleDiscriminantCard : Claim7 := { stood := { row := fnExactConsoleDiscriminantRow, standIns := [], harness := (true, "4d3c636dced3cf36dd4ee69640f996ae1cb415853e119de7cfd917b0250d64f8"), looks := true }, kinds := [], alts := [], laidByText := true, laidKinds := [.data, .data, .data, .data, .sentinel, .sentinel, .pinned], laidTests := true, laidLooks := .later }
def FnExactConsoleDiscriminantCardSaid : Prop := Claim7.holds Tryz.pinned (.plain (OpenSpec.ofChange fnExactConsoleDiscriminantSpec)) fnExactConsoleDiscriminantCard

/-- THE TIED CARD OF 'laws.FnExactRunConsole'. -/
def fnExactRunConsoleCard : Claim7 := { stood := { row := fnExactRunConsoleRow, standIns := [], harness := (true, "4d3c636dced3cf36dd4ee69640f996ae1cb415853e119de7cfd917b0250d64f8"), looks := true }, kinds := [], alts := [], laidByText := true, laidKinds := [.data, .data, .data, .data, .sentinel, .sentinel, .pinned], laidTests := true, laidLooks := .later }
def FnExactRunConsoleCardSaid : Prop := Claim7.holds Tryz.pinned (.plain (OpenSpec.ofChange fnExactRunConsoleSpec)) fnExactRunConsoleCard

/-- THE TIED CARD OF 'laws.FnExactCountReplies'. -/
def fnExactCountRepliesCard : Claim7 := { stood := { row := fnExactCountRepliesRow, standIns := [], harness := (true, "4d3c636dced3cf36dd4ee69640f996ae1cb415853e119de7cfd917b0250d64f8"), looks := true }, kinds := [], alts := [], laidByText := true, laidKinds := [.data, .data, .data, .data, .sentinel, .sentinel, .pinned], laidTests := true, laidLooks := .later }
def FnExactCountRepliesCardSaid : Prop := Claim7.holds Tryz.pinned (.plain (OpenSpec.ofChange fnExactCountRepliesSpec)) fnExactCountRepliesCard

/-- THE TIED CARD OF 'laws.FnExactFailedLines'. -/
def fnExactFailedLinesCard : Claim7 := { stood := { row := fnExactFailedLinesRow, standIns := [], harness := (true, "4d3c636dced3cf36dd4ee69640f996ae1cb415853e119de7cfd917b0250d64f8"), looks := true }, kinds := [], alts := [], laidByText := true, laidKinds := [.data, .data, .data, .data, .sentinel, .sentinel, .pinned], laidTests := true, laidLooks := .later }
def FnExactFailedLinesCardSaid : Prop := Claim7.holds Tryz.pinned (.plain (OpenSpec.ofChange fnExactFailedLinesSpec)) fnExactFailedLinesCard

/-- THE SECOND FORM's CARD OF 'laws.FnExactConsoleForms'. -/
def fnExactConsoleFormsUptoCard : Claim7 := { stood := { row := fnExactConsoleFormsUptoRow, standIns := [], harness := (true, "4d3c636dced3cf36dd4ee69640f996ae1cb415853e119de7cfd917b0250d64f8"), looks := true }, kinds := [], alts := [], laidByText := true, laidKinds := [.data, .data, .data, .data, .sentinel, .sentinel, .pinned], laidTests := true, laidLooks := .later }
def FnExactConsoleFormsUptoCardSaid : Prop := Claim7.holds Tryz.pinned (.plain (OpenSpec.upto fnExactConsoleFormsSpec)) fnExactConsoleFormsUptoCard

/-- THE SECOND FORM's CARD OF 'laws.FnConsole'. -/
def fnConsoleUptoCard : Claim7 := { stood := { row := fnConsoleUptoRow, standIns := [], harness := (true, "4d3c636dced3cf36dd4ee69640f996ae1cb415853e119de7cfd917b0250d64f8"), looks := true }, kinds := [], alts := [], laidByText := true, laidKinds := [.data, .data, .data, .data, .sentinel, .sentinel, .pinned], laidTests := true, laidLooks := .later }
def FnConsoleUptoCardSaid : Prop := Claim7.holds Tryz.pinned (.plain (OpenSpec.upto fnConsoleSpec)) fnConsoleUptoCard

/-- THE SECOND FORM's CARD OF 'laws.FnExactConsoleDiscriminant'. -/
def fnExactConsoleDiscriminantUptoCard : Claim7 := { stood := { row := fnExactConsoleDiscriminantUptoRow, standIns := [], harness := (true, "4d3c636dced3cf36dd4ee69640f996ae1cb415853e119de7cfd917b0250d64f8"), looks := true }, kinds := [], alts := [], laidByText := true, laidKinds := [.data, .data, .data, .data, .sentinel, .sentinel, .pinned], laidTests := true, laidLooks := .later }
def FnExactConsoleDiscriminantUptoCardSaid : Prop := Claim7.holds Tryz.pinned (.plain (OpenSpec.upto fnExactConsoleDiscriminantSpec)) fnExactConsoleDiscriminantUptoCard

/-- THE SECOND FORM's CARD OF 'laws.FnExactRunConsole'. -/
def fnExactRunConsoleUptoCard : Claim7 := { stood := { row := fnExactRunConsoleUptoRow, standIns := [], harness := (true, "4d3c636dced3cf36dd4ee69640f996ae1cb415853e119de7cfd917b0250d64f8"), looks := true }, kinds := [], alts := [], laidByText := true, laidKinds := [.data, .data, .data, .data, .sentinel, .sentinel, .pinned], laidTests := true, laidLooks := .later }
def FnExactRunConsoleUptoCardSaid : Prop := Claim7.holds Tryz.pinned (.plain (OpenSpec.upto fnExactRunConsoleSpec)) fnExactRunConsoleUptoCard

/-- THE SECOND FORM's CARD OF 'laws.FnExactCountReplies'. -/
def fnExactCountRepliesUptoCard : Claim7 := { stood := { row := fnExactCountRepliesUptoRow, standIns := [], harness := (true, "4d3c636dced3cf36dd4ee69640f996ae1cb415853e119de7cfd917b0250d64f8"), looks := true }, kinds := [], alts := [], laidByText := true, laidKinds := [.data, .data, .data, .data, .sentinel, .sentinel, .pinned], laidTests := true, laidLooks := .later }
def FnExactCountRepliesUptoCardSaid : Prop := Claim7.holds Tryz.pinned (.plain (OpenSpec.upto fnExactCountRepliesSpec)) fnExactCountRepliesUptoCard

/-- THE SECOND FORM's CARD OF 'laws.FnExactFailedLines'. -/
def fnExactFailedLinesUptoCard : Claim7 := { stood := { row := fnExactFailedLinesUptoRow, standIns := [], harness := (true, "4d3c636dced3cf36dd4ee69640f996ae1cb415853e119de7cfd917b0250d64f8"), looks := true }, kinds := [], alts := [], laidByText := true, laidKinds := [.data, .data, .data, .data, .sentinel, .sentinel, .pinned], laidTests := true, laidLooks := .later }
def FnExactFailedLinesUptoCardSaid : Prop := Claim7.holds Tryz.pinned (.plain (OpenSpec.upto fnExactFailedLinesSpec)) fnExactFailedLinesUptoCard
end Rows
end Go.Proofs.YtahdjphocippeaaGreatDoor
