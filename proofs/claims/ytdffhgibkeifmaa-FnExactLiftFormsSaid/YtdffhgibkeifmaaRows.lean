/-
  No cell of these rows narrows 'for every input' (looked for: loops, veiled, ifaces, maps, wideKeys, modest, calm, conditions, laid).
  DERIVED. THE GIVEN ROWS OF THIS SEAT. 11 by the template 'for every input the law returns true; each argument reads behind the call as it read before'; 0 by the template 'total and deterministic' (their statements: YtdffhgibkeifmaaTotals.lean).
  GIVEN WITH THE SEED: the statements are not yours to turn. If you find one false, say at which input.
  Laid BY PROGRAM, IN A SANDBOX (cutbox-rows.mjs): the forced cells as the released guide's own fill.sh prints them over the translation d175b89cf855ae39… (all of the seat's roots in one cut). By AI agents, Wed Nov 11 2026. No macro, syntax, notation, axiom, sorry.
-/
import Derived.Test.YtdffhgibkeifmaaChecked
import GoSem.Claim
import GoSem.ClaimJoined
import GoSem.ClaimMapViews
import Derived.JoinedTies
import Derived.KernelRfl
namespace Go.Proofs.Ytdffhgibkeifmaa
/- THE CELL 'sum', in the pinned program and in every row, IS THE sha256 OF THE DUMP (.gsa) THAT YtdffhgibkeifmaaProg.lean LOADS. Nothing in Lean hashes anything: it is a label: what it is worth is what the hold of that sum in a sandbox is worth. -/
noncomputable def Try.pinned : Pinned := { name := "ytdffhgibkeifmaa", sum := "d175b89cf855ae39d2d39eba2021376ae575333e772cd30b16a772c8d81454d7", checked := Try.checked }
namespace Rows
def none {H : Type} : Left H := { results := [], args := [] }

/-- 'laws.FnExactUnitIndex': WHATEVER THE INPUT: true; the input reads as it did. -/
def fnExactUnitIndexSpec : ChangeSpec := { name := "fnExactUnitIndex", fn := fun _ => fun
  | [d] => { results := [.lit (.bool true)], args := [d] }
  | _ => none }
def fnExactUnitIndexRow : OpenClaim := { program := "ytdffhgibkeifmaa", sum := "d175b89cf855ae39d2d39eba2021376ae575333e772cd30b16a772c8d81454d7", func := "loop.example/g01066/laws.FnExactUnitIndex", spec := "fnExactUnitIndex", apart := false }
def FnExactUnitIndexSaid : Prop := fnExactUnitIndexRow.holds Try.pinned (OpenSpec.ofChange fnExactUnitIndexSpec)

/-- ITS FALSE NEIGHBOUR: 'it returns false'. Refute it at one input. -/
def fnExactUnitIndexWrong : ChangeSpec := { name := "fnExactUnitIndex", fn := fun _ => fun
  | [d] => { results := [.lit (.bool false)], args := [d] }
  | _ => none }
def FnExactUnitIndexWrongFalsely : Prop := fnExactUnitIndexRow.holds Try.pinned (OpenSpec.ofChange fnExactUnitIndexWrong)

/-- 'laws.FnExactOverDiscriminants': WHATEVER THE INPUT: true; the input reads as it did. -/
def fnExactOverDiscriminantsSpec : ChangeSpec := { name := "fnExactOverDiscriminants", fn := fun _ => fun
  | [d] => { results := [.lit (.bool true)], args := [d] }
  | _ => none }
def fnExactOverDiscriminantsRow : OpenClaim := { program := "ytdffhgibkeifmaa", sum := "d175b89cf855ae39d2d39eba2021376ae575333e772cd30b16a772c8d81454d7", func := "loop.example/g01066/laws.FnExactOverDiscriminants", spec := "fnExactOverDiscriminants", apart := false }
def FnExactOverDiscriminantsSaid : Prop := fnExactOverDiscriminantsRow.holds Try.pinned (OpenSpec.ofChange fnExactOverDiscriminantsSpec)

/-- ITS FALSE NEIGHBOUR: 'it returns false'. Refute it at one input. -/
def fnExactOverDiscriminantsWrong : ChangeSpec := { name := "fnExactOverDiscriminants", fn := fun _ => fun
  | [d] => { results := [.lit (.bool false)], args := [d] }
  | _ => none }
def FnExactOverDiscriminantsWrongFalsely : Prop := fnExactOverDiscriminantsRow.holds Try.pinned (OpenSpec.ofChange fnExactOverDiscriminantsWrong)

/-- 'laws.FnExactIsDescent': WHATEVER THE INPUT: true; the input reads as it did. -/
def fnExactIsDescentSpec : ChangeSpec := { name := "fnExactIsDescent", fn := fun _ => fun
  | [d1, d2, d3, d4] => { results := [.lit (.bool true)], args := [d1, d2, d3, d4] }
  | _ => none }
def fnExactIsDescentRow : OpenClaim := { program := "ytdffhgibkeifmaa", sum := "d175b89cf855ae39d2d39eba2021376ae575333e772cd30b16a772c8d81454d7", func := "loop.example/g01066/laws.FnExactIsDescent", spec := "fnExactIsDescent", apart := false }
def FnExactIsDescentSaid : Prop := fnExactIsDescentRow.holds Try.pinned (OpenSpec.ofChange fnExactIsDescentSpec)

/-- ITS FALSE NEIGHBOUR: 'it returns false'. Refute it at one input. -/
def fnExactIsDescentWrong : ChangeSpec := { name := "fnExactIsDescent", fn := fun _ => fun
  | [d1, d2, d3, d4] => { results := [.lit (.bool false)], args := [d1, d2, d3, d4] }
  | _ => none }
def FnExactIsDescentWrongFalsely : Prop := fnExactIsDescentRow.holds Try.pinned (OpenSpec.ofChange fnExactIsDescentWrong)

/-- 'laws.FnHurwitzSquares': WHATEVER THE INPUT: true; the input reads as it did. -/
def fnHurwitzSquaresSpec : ChangeSpec := { name := "fnHurwitzSquares", fn := fun _ => fun
  | [d1, d2] => { results := [.lit (.bool true)], args := [d1, d2] }
  | _ => none }
def fnHurwitzSquaresRow : OpenClaim := { program := "ytdffhgibkeifmaa", sum := "d175b89cf855ae39d2d39eba2021376ae575333e772cd30b16a772c8d81454d7", func := "loop.example/g01066/laws.FnHurwitzSquares", spec := "fnHurwitzSquares", apart := false }
def FnHurwitzSquaresSaid : Prop := fnHurwitzSquaresRow.holds Try.pinned (OpenSpec.ofChange fnHurwitzSquaresSpec)

/-- ITS FALSE NEIGHBOUR: 'it returns false'. Refute it at one input. -/
def fnHurwitzSquaresWrong : ChangeSpec := { name := "fnHurwitzSquares", fn := fun _ => fun
  | [d1, d2] => { results := [.lit (.bool false)], args := [d1, d2] }
  | _ => none }
def FnHurwitzSquaresWrongFalsely : Prop := fnHurwitzSquaresRow.holds Try.pinned (OpenSpec.ofChange fnHurwitzSquaresWrong)

/-- 'laws.FnExactRelativeClassNumber': WHATEVER THE INPUT: true; the input reads as it did. -/
def fnExactRelativeClassNumberSpec : ChangeSpec := { name := "fnExactRelativeClassNumber", fn := fun _ => fun
  | [d] => { results := [.lit (.bool true)], args := [d] }
  | _ => none }
def fnExactRelativeClassNumberRow : OpenClaim := { program := "ytdffhgibkeifmaa", sum := "d175b89cf855ae39d2d39eba2021376ae575333e772cd30b16a772c8d81454d7", func := "loop.example/g01066/laws.FnExactRelativeClassNumber", spec := "fnExactRelativeClassNumber", apart := false }
def FnExactRelativeClassNumberSaid : Prop := fnExactRelativeClassNumberRow.holds Try.pinned (OpenSpec.ofChange fnExactRelativeClassNumberSpec)

/-- ITS FALSE NEIGHBOUR: 'it returns false'. Refute it at one input. -/
def fnExactRelativeClassNumberWrong : ChangeSpec := { name := "fnExactRelativeClassNumber", fn := fun _ => fun
  | [d] => { results := [.lit (.bool false)], args := [d] }
  | _ => none }
def FnExactRelativeClassNumberWrongFalsely : Prop := fnExactRelativeClassNumberRow.holds Try.pinned (OpenSpec.ofChange fnExactRelativeClassNumberWrong)

/-- 'laws.FnExactFibreSize': WHATEVER THE INPUT: true; the input reads as it did. -/
def fnExactFibreSizeSpec : ChangeSpec := { name := "fnExactFibreSize", fn := fun _ => fun
  | [d1, d2] => { results := [.lit (.bool true)], args := [d1, d2] }
  | _ => none }
def fnExactFibreSizeRow : OpenClaim := { program := "ytdffhgibkeifmaa", sum := "d175b89cf855ae39d2d39eba2021376ae575333e772cd30b16a772c8d81454d7", func := "loop.example/g01066/laws.FnExactFibreSize", spec := "fnExactFibreSize", apart := false }
def FnExactFibreSizeSaid : Prop := fnExactFibreSizeRow.holds Try.pinned (OpenSpec.ofChange fnExactFibreSizeSpec)

/-- ITS FALSE NEIGHBOUR: 'it returns false'. Refute it at one input. -/
def fnExactFibreSizeWrong : ChangeSpec := { name := "fnExactFibreSize", fn := fun _ => fun
  | [d1, d2] => { results := [.lit (.bool false)], args := [d1, d2] }
  | _ => none }
def FnExactFibreSizeWrongFalsely : Prop := fnExactFibreSizeRow.holds Try.pinned (OpenSpec.ofChange fnExactFibreSizeWrong)

/-- 'laws.FnExactDescendForm': WHATEVER THE INPUT: true; the input reads as it did. -/
def fnExactDescendFormSpec : ChangeSpec := { name := "fnExactDescendForm", fn := fun _ => fun
  | [d1, d2] => { results := [.lit (.bool true)], args := [d1, d2] }
  | _ => none }
def fnExactDescendFormRow : OpenClaim := { program := "ytdffhgibkeifmaa", sum := "d175b89cf855ae39d2d39eba2021376ae575333e772cd30b16a772c8d81454d7", func := "loop.example/g01066/laws.FnExactDescendForm", spec := "fnExactDescendForm", apart := false }
def FnExactDescendFormSaid : Prop := fnExactDescendFormRow.holds Try.pinned (OpenSpec.ofChange fnExactDescendFormSpec)

/-- ITS FALSE NEIGHBOUR: 'it returns false'. Refute it at one input. -/
def fnExactDescendFormWrong : ChangeSpec := { name := "fnExactDescendForm", fn := fun _ => fun
  | [d1, d2] => { results := [.lit (.bool false)], args := [d1, d2] }
  | _ => none }
def FnExactDescendFormWrongFalsely : Prop := fnExactDescendFormRow.holds Try.pinned (OpenSpec.ofChange fnExactDescendFormWrong)

/-- 'laws.FnExactDescendTo': WHATEVER THE INPUT: true; the input reads as it did. -/
def fnExactDescendToSpec : ChangeSpec := { name := "fnExactDescendTo", fn := fun _ => fun
  | [d1, d2] => { results := [.lit (.bool true)], args := [d1, d2] }
  | _ => none }
def fnExactDescendToRow : OpenClaim := { program := "ytdffhgibkeifmaa", sum := "d175b89cf855ae39d2d39eba2021376ae575333e772cd30b16a772c8d81454d7", func := "loop.example/g01066/laws.FnExactDescendTo", spec := "fnExactDescendTo", apart := false }
def FnExactDescendToSaid : Prop := fnExactDescendToRow.holds Try.pinned (OpenSpec.ofChange fnExactDescendToSpec)

/-- ITS FALSE NEIGHBOUR: 'it returns false'. Refute it at one input. -/
def fnExactDescendToWrong : ChangeSpec := { name := "fnExactDescendTo", fn := fun _ => fun
  | [d1, d2] => { results := [.lit (.bool false)], args := [d1, d2] }
  | _ => none }
def FnExactDescendToWrongFalsely : Prop := fnExactDescendToRow.holds Try.pinned (OpenSpec.ofChange fnExactDescendToWrong)

/-- 'laws.FnExactDescentMatrix': WHATEVER THE INPUT: true; the input reads as it did. -/
def fnExactDescentMatrixSpec : ChangeSpec := { name := "fnExactDescentMatrix", fn := fun _ => fun
  | [d1, d2] => { results := [.lit (.bool true)], args := [d1, d2] }
  | _ => none }
def fnExactDescentMatrixRow : OpenClaim := { program := "ytdffhgibkeifmaa", sum := "d175b89cf855ae39d2d39eba2021376ae575333e772cd30b16a772c8d81454d7", func := "loop.example/g01066/laws.FnExactDescentMatrix", spec := "fnExactDescentMatrix", apart := false }
def FnExactDescentMatrixSaid : Prop := fnExactDescentMatrixRow.holds Try.pinned (OpenSpec.ofChange fnExactDescentMatrixSpec)

/-- ITS FALSE NEIGHBOUR: 'it returns false'. Refute it at one input. -/
def fnExactDescentMatrixWrong : ChangeSpec := { name := "fnExactDescentMatrix", fn := fun _ => fun
  | [d1, d2] => { results := [.lit (.bool false)], args := [d1, d2] }
  | _ => none }
def FnExactDescentMatrixWrongFalsely : Prop := fnExactDescentMatrixRow.holds Try.pinned (OpenSpec.ofChange fnExactDescentMatrixWrong)

/-- 'laws.FnExactKernelClasses': WHATEVER THE INPUT: true; the input reads as it did. -/
def fnExactKernelClassesSpec : ChangeSpec := { name := "fnExactKernelClasses", fn := fun _ => fun
  | [d1, d2] => { results := [.lit (.bool true)], args := [d1, d2] }
  | _ => none }
def fnExactKernelClassesRow : OpenClaim := { program := "ytdffhgibkeifmaa", sum := "d175b89cf855ae39d2d39eba2021376ae575333e772cd30b16a772c8d81454d7", func := "loop.example/g01066/laws.FnExactKernelClasses", spec := "fnExactKernelClasses", unfollowed := true, recurses := true, apart := false }
def FnExactKernelClassesSaid : Prop := fnExactKernelClassesRow.holds Try.pinned (OpenSpec.ofChange fnExactKernelClassesSpec)

/-- ITS FALSE NEIGHBOUR: 'it returns false'. Refute it at one input. -/
def fnExactKernelClassesWrong : ChangeSpec := { name := "fnExactKernelClasses", fn := fun _ => fun
  | [d1, d2] => { results := [.lit (.bool false)], args := [d1, d2] }
  | _ => none }
def FnExactKernelClassesWrongFalsely : Prop := fnExactKernelClassesRow.holds Try.pinned (OpenSpec.ofChange fnExactKernelClassesWrong)

/-- 'laws.FnExactLiftForms': WHATEVER THE INPUT: true; the input reads as it did. -/
def fnExactLiftFormsSpec : ChangeSpec := { name := "fnExactLiftForms", fn := fun _ => fun
  | [d1, d2] => { results := [.lit (.bool true)], args := [d1, d2] }
  | _ => none }
def fnExactLiftFormsRow : OpenClaim := { program := "ytdffhgibkeifmaa", sum := "d175b89cf855ae39d2d39eba2021376ae575333e772cd30b16a772c8d81454d7", func := "loop.example/g01066/laws.FnExactLiftForms", spec := "fnExactLiftForms", unfollowed := true, recurses := true, apart := false }
def FnExactLiftFormsSaid : Prop := fnExactLiftFormsRow.holds Try.pinned (OpenSpec.ofChange fnExactLiftFormsSpec)

/-- ITS FALSE NEIGHBOUR: 'it returns false'. Refute it at one input. -/
def fnExactLiftFormsWrong : ChangeSpec := { name := "fnExactLiftForms", fn := fun _ => fun
  | [d1, d2] => { results := [.lit (.bool false)], args := [d1, d2] }
  | _ => none }
def FnExactLiftFormsWrongFalsely : Prop := fnExactLiftFormsRow.holds Try.pinned (OpenSpec.ofChange fnExactLiftFormsWrong)

/- THE SECOND FORM. 'bulk': how many values and letters a reading holds, each counted each time it is reached (what is shared counts as often as it is met; a slice's spare places count too). A statement '..UptoSaid' is the law's where the arguments, and the package variables that the reading takes, are together of bulk at most 1048576: NARROWER than '..Said'. Prove '..Said' where nothing that the law and all that it calls make is longer than what came in: it says more and counts as full. Else prove '..UptoSaid'. A law counts once. -/
mutual
def uptoBulk {H : Type} : DataW H → Nat
  | .lit (.string bytes) => bytes.length + 1
  | .lit _ => 1
  | .nil => 1
  | .ptr d => uptoBulk d + 1
  | .slice elems spare => uptoBulkAll elems + uptoBulkAll spare + 1
  | .agg parts => uptoBulkAll parts + 1
  | .iface _ d => uptoBulk d + 1
  | .map entries => uptoBulkEntries entries + 1
  | .held _ => 1
def uptoBulkAll {H : Type} : List (DataW H) → Nat
  | [] => 0
  | d :: r => uptoBulk d + uptoBulkAll r
def uptoBulkEntries {H : Type} : List (Lit × DataW H) → Nat
  | [] => 0
  | x :: r => uptoBulkEntry x + uptoBulkEntries r
def uptoBulkEntry {H : Type} : Lit × DataW H → Nat
  | (.string bytes, d) => bytes.length + uptoBulk d + 1
  | (_, d) => uptoBulk d + 1
 end
def uptoSmall : (H : Type) → List (DataW H) → Bool := fun _ ds => decide (uptoBulkAll ds ≤ 1048576)
def OpenSpec.upto (s : _root_.Go.ChangeSpec) : _root_.Go.OpenSpec := { _root_.Go.OpenSpec.ofChange s with cond := some uptoSmall }

/-- 'laws.FnExactUnitIndex', WHERE WHAT IT READS IS OF BULK AT MOST 1048576: true; the input reads as it did. -/
def fnExactUnitIndexUptoRow : OpenClaim := { program := "ytdffhgibkeifmaa", sum := "d175b89cf855ae39d2d39eba2021376ae575333e772cd30b16a772c8d81454d7", func := "loop.example/g01066/laws.FnExactUnitIndex", spec := "fnExactUnitIndex", apart := false, narrowed := true }
def FnExactUnitIndexUptoSaid : Prop := fnExactUnitIndexUptoRow.holds Try.pinned (OpenSpec.upto fnExactUnitIndexSpec)

/-- 'laws.FnExactOverDiscriminants', WHERE WHAT IT READS IS OF BULK AT MOST 1048576: true; the input reads as it did. -/
def fnExactOverDiscriminantsUptoRow : OpenClaim := { program := "ytdffhgibkeifmaa", sum := "d175b89cf855ae39d2d39eba2021376ae575333e772cd30b16a772c8d81454d7", func := "loop.example/g01066/laws.FnExactOverDiscriminants", spec := "fnExactOverDiscriminants", apart := false, narrowed := true }
def FnExactOverDiscriminantsUptoSaid : Prop := fnExactOverDiscriminantsUptoRow.holds Try.pinned (OpenSpec.upto fnExactOverDiscriminantsSpec)

/-- 'laws.FnExactIsDescent', WHERE WHAT IT READS IS OF BULK AT MOST 1048576: true; the input reads as it did. -/
def fnExactIsDescentUptoRow : OpenClaim := { program := "ytdffhgibkeifmaa", sum := "d175b89cf855ae39d2d39eba2021376ae575333e772cd30b16a772c8d81454d7", func := "loop.example/g01066/laws.FnExactIsDescent", spec := "fnExactIsDescent", apart := false, narrowed := true }
def FnExactIsDescentUptoSaid : Prop := fnExactIsDescentUptoRow.holds Try.pinned (OpenSpec.upto fnExactIsDescentSpec)

/-- 'laws.FnHurwitzSquares', WHERE WHAT IT READS IS OF BULK AT MOST 1048576: true; the input reads as it did. -/
def fnHurwitzSquaresUptoRow : OpenClaim := { program := "ytdffhgibkeifmaa", sum := "d175b89cf855ae39d2d39eba2021376ae575333e772cd30b16a772c8d81454d7", func := "loop.example/g01066/laws.FnHurwitzSquares", spec := "fnHurwitzSquares", apart := false, narrowed := true }
def FnHurwitzSquaresUptoSaid : Prop := fnHurwitzSquaresUptoRow.holds Try.pinned (OpenSpec.upto fnHurwitzSquaresSpec)

/-- 'laws.FnExactRelativeClassNumber', WHERE WHAT IT READS IS OF BULK AT MOST 1048576: true; the input reads as it did. -/
def fnExactRelativeClassNumberUptoRow : OpenClaim := { program := "ytdffhgibkeifmaa", sum := "d175b89cf855ae39d2d39eba2021376ae575333e772cd30b16a772c8d81454d7", func := "loop.example/g01066/laws.FnExactRelativeClassNumber", spec := "fnExactRelativeClassNumber", apart := false, narrowed := true }
def FnExactRelativeClassNumberUptoSaid : Prop := fnExactRelativeClassNumberUptoRow.holds Try.pinned (OpenSpec.upto fnExactRelativeClassNumberSpec)

/-- 'laws.FnExactFibreSize', WHERE WHAT IT READS IS OF BULK AT MOST 1048576: true; the input reads as it did. -/
def fnExactFibreSizeUptoRow : OpenClaim := { program := "ytdffhgibkeifmaa", sum := "d175b89cf855ae39d2d39eba2021376ae575333e772cd30b16a772c8d81454d7", func := "loop.example/g01066/laws.FnExactFibreSize", spec := "fnExactFibreSize", apart := false, narrowed := true }
def FnExactFibreSizeUptoSaid : Prop := fnExactFibreSizeUptoRow.holds Try.pinned (OpenSpec.upto fnExactFibreSizeSpec)

/-- 'laws.FnExactDescendForm', WHERE WHAT IT READS IS OF BULK AT MOST 1048576: true; the input reads as it did. -/
def fnExactDescendFormUptoRow : OpenClaim := { program := "ytdffhgibkeifmaa", sum := "d175b89cf855ae39d2d39eba2021376ae575333e772cd30b16a772c8d81454d7", func := "loop.example/g01066/laws.FnExactDescendForm", spec := "fnExactDescendForm", apart := false, narrowed := true }
def FnExactDescendFormUptoSaid : Prop := fnExactDescendFormUptoRow.holds Try.pinned (OpenSpec.upto fnExactDescendFormSpec)

/-- 'laws.FnExactDescendTo', WHERE WHAT IT READS IS OF BULK AT MOST 1048576: true; the input reads as it did. -/
def fnExactDescendToUptoRow : OpenClaim := { program := "ytdffhgibkeifmaa", sum := "d175b89cf855ae39d2d39eba2021376ae575333e772cd30b16a772c8d81454d7", func := "loop.example/g01066/laws.FnExactDescendTo", spec := "fnExactDescendTo", apart := false, narrowed := true }
def FnExactDescendToUptoSaid : Prop := fnExactDescendToUptoRow.holds Try.pinned (OpenSpec.upto fnExactDescendToSpec)

/-- 'laws.FnExactDescentMatrix', WHERE WHAT IT READS IS OF BULK AT MOST 1048576: true; the input reads as it did. -/
def fnExactDescentMatrixUptoRow : OpenClaim := { program := "ytdffhgibkeifmaa", sum := "d175b89cf855ae39d2d39eba2021376ae575333e772cd30b16a772c8d81454d7", func := "loop.example/g01066/laws.FnExactDescentMatrix", spec := "fnExactDescentMatrix", apart := false, narrowed := true }
def FnExactDescentMatrixUptoSaid : Prop := fnExactDescentMatrixUptoRow.holds Try.pinned (OpenSpec.upto fnExactDescentMatrixSpec)

/-- 'laws.FnExactKernelClasses', WHERE WHAT IT READS IS OF BULK AT MOST 1048576: true; the input reads as it did. -/
def fnExactKernelClassesUptoRow : OpenClaim := { program := "ytdffhgibkeifmaa", sum := "d175b89cf855ae39d2d39eba2021376ae575333e772cd30b16a772c8d81454d7", func := "loop.example/g01066/laws.FnExactKernelClasses", spec := "fnExactKernelClasses", unfollowed := true, recurses := true, apart := false, narrowed := true }
def FnExactKernelClassesUptoSaid : Prop := fnExactKernelClassesUptoRow.holds Try.pinned (OpenSpec.upto fnExactKernelClassesSpec)

/-- 'laws.FnExactLiftForms', WHERE WHAT IT READS IS OF BULK AT MOST 1048576: true; the input reads as it did. -/
def fnExactLiftFormsUptoRow : OpenClaim := { program := "ytdffhgibkeifmaa", sum := "d175b89cf855ae39d2d39eba2021376ae575333e772cd30b16a772c8d81454d7", func := "loop.example/g01066/laws.FnExactLiftForms", spec := "fnExactLiftForms", unfollowed := true, recurses := true, apart := false, narrowed := true }
def FnExactLiftFormsUptoSaid : Prop := fnExactLiftFormsUptoRow.holds Try.pinned (OpenSpec.upto fnExactLiftFormsSpec)

end Rows
end Go.Proofs.Ytdffhgibkeifmaa
