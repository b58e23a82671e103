/-
  No cell of these rows narrows 'for every input' (looked for: loops, veiled, ifaces, maps, wideKeys, modest, calm, conditions, laid).
  DERIVED. THE GIVEN ROWS OF THIS SEAT. 5 by the template 'for every input the law returns true; each argument reads behind the call as it read before'; 0 by the template 'total and deterministic' (their statements: YtgeajejmikaniaaTotals.lean).
  GIVEN WITH THE SEED: the statements are not yours to turn. If you find one false, say at which input.
  Laid BY PROGRAM, IN A SANDBOX (cutbox-rows.mjs): the forced cells as the released guide's own fill.sh prints them over the translation ceac16c991472623… (all of the seat's roots in one cut). By AI agents, Wed Nov 11 2026. No macro, syntax, notation, axiom, sorry.
-/
import Derived.Test.YtgeajejmikaniaaChecked
import GoSem.Claim
import GoSem.ClaimJoined
import GoSem.ClaimMapViews
import Derived.JoinedTies
import Derived.KernelRfl
namespace Go.Proofs.Ytgeajejmikaniaa
/- THE CELL 'sum', in the pinned program and in every row, IS THE sha256 OF THE DUMP (.gsa) THAT YtgeajejmikaniaaProg.lean LOADS. Nothing in Lean hashes anything: it is a label: what it is worth is what the hold of that sum in a sandbox is worth. -/
noncomputable def Try.pinned : Pinned := { name := "ytgeajejmikaniaa", sum := "ceac16c99147262348f483913a0e424dcec037eef2fd3984a8ae409619307c67", checked := Try.checked }
namespace Rows
def none {H : Type} : Left H := { results := [], args := [] }

/-- 'laws.FnLattices': WHATEVER THE INPUT: true; the input reads as it did. -/
def fnLatticesSpec : ChangeSpec := { name := "fnLattices", fn := fun _ => fun
  | [d1, d2] => { results := [.lit (.bool true)], args := [d1, d2] }
  | _ => none }
def fnLatticesRow : OpenClaim := { program := "ytgeajejmikaniaa", sum := "ceac16c99147262348f483913a0e424dcec037eef2fd3984a8ae409619307c67", func := "loop.example/g01066/laws.FnLattices", spec := "fnLattices", apart := false }
def FnLatticesSaid : Prop := fnLatticesRow.holds Try.pinned (OpenSpec.ofChange fnLatticesSpec)

/-- ITS FALSE NEIGHBOUR: 'it returns false'. Refute it at one input. -/
def fnLatticesWrong : ChangeSpec := { name := "fnLattices", fn := fun _ => fun
  | [d1, d2] => { results := [.lit (.bool false)], args := [d1, d2] }
  | _ => none }
def FnLatticesWrongFalsely : Prop := fnLatticesRow.holds Try.pinned (OpenSpec.ofChange fnLatticesWrong)

/-- 'laws.FnFundamentalParts': WHATEVER THE INPUT: true; the input reads as it did. -/
def fnFundamentalPartsSpec : ChangeSpec := { name := "fnFundamentalParts", fn := fun _ => fun
  | [d1, d2] => { results := [.lit (.bool true)], args := [d1, d2] }
  | _ => none }
def fnFundamentalPartsRow : OpenClaim := { program := "ytgeajejmikaniaa", sum := "ceac16c99147262348f483913a0e424dcec037eef2fd3984a8ae409619307c67", func := "loop.example/g01066/laws.FnFundamentalParts", spec := "fnFundamentalParts", apart := false }
def FnFundamentalPartsSaid : Prop := fnFundamentalPartsRow.holds Try.pinned (OpenSpec.ofChange fnFundamentalPartsSpec)

/-- ITS FALSE NEIGHBOUR: 'it returns false'. Refute it at one input. -/
def fnFundamentalPartsWrong : ChangeSpec := { name := "fnFundamentalParts", fn := fun _ => fun
  | [d1, d2] => { results := [.lit (.bool false)], args := [d1, d2] }
  | _ => none }
def FnFundamentalPartsWrongFalsely : Prop := fnFundamentalPartsRow.holds Try.pinned (OpenSpec.ofChange fnFundamentalPartsWrong)

/-- 'laws.FnSeriesProducts': WHATEVER THE INPUT: true; the input reads as it did. -/
def fnSeriesProductsSpec : ChangeSpec := { name := "fnSeriesProducts", fn := fun _ => fun
  | [d1, d2] => { results := [.lit (.bool true)], args := [d1, d2] }
  | _ => none }
def fnSeriesProductsRow : OpenClaim := { program := "ytgeajejmikaniaa", sum := "ceac16c99147262348f483913a0e424dcec037eef2fd3984a8ae409619307c67", func := "loop.example/g01066/laws.FnSeriesProducts", spec := "fnSeriesProducts", apart := false }
def FnSeriesProductsSaid : Prop := fnSeriesProductsRow.holds Try.pinned (OpenSpec.ofChange fnSeriesProductsSpec)

/-- ITS FALSE NEIGHBOUR: 'it returns false'. Refute it at one input. -/
def fnSeriesProductsWrong : ChangeSpec := { name := "fnSeriesProducts", fn := fun _ => fun
  | [d1, d2] => { results := [.lit (.bool false)], args := [d1, d2] }
  | _ => none }
def FnSeriesProductsWrongFalsely : Prop := fnSeriesProductsRow.holds Try.pinned (OpenSpec.ofChange fnSeriesProductsWrong)

/-- 'laws.FnLevelClasses': WHATEVER THE INPUT: true; the input reads as it did. -/
def fnLevelClassesSpec : ChangeSpec := { name := "fnLevelClasses", fn := fun _ => fun
  | [d1, d2] => { results := [.lit (.bool true)], args := [d1, d2] }
  | _ => none }
def fnLevelClassesRow : OpenClaim := { program := "ytgeajejmikaniaa", sum := "ceac16c99147262348f483913a0e424dcec037eef2fd3984a8ae409619307c67", func := "loop.example/g01066/laws.FnLevelClasses", spec := "fnLevelClasses", apart := false }
def FnLevelClassesSaid : Prop := fnLevelClassesRow.holds Try.pinned (OpenSpec.ofChange fnLevelClassesSpec)

/-- ITS FALSE NEIGHBOUR: 'it returns false'. Refute it at one input. -/
def fnLevelClassesWrong : ChangeSpec := { name := "fnLevelClasses", fn := fun _ => fun
  | [d1, d2] => { results := [.lit (.bool false)], args := [d1, d2] }
  | _ => none }
def FnLevelClassesWrongFalsely : Prop := fnLevelClassesRow.holds Try.pinned (OpenSpec.ofChange fnLevelClassesWrong)

/-- 'laws.FnIndefiniteValues': WHATEVER THE INPUT: true; the input reads as it did. -/
def fnIndefiniteValuesSpec : ChangeSpec := { name := "fnIndefiniteValues", fn := fun _ => fun
  | [d1, d2] => { results := [.lit (.bool true)], args := [d1, d2] }
  | _ => none }
def fnIndefiniteValuesRow : OpenClaim := { program := "ytgeajejmikaniaa", sum := "ceac16c99147262348f483913a0e424dcec037eef2fd3984a8ae409619307c67", func := "loop.example/g01066/laws.FnIndefiniteValues", spec := "fnIndefiniteValues", apart := false }
def FnIndefiniteValuesSaid : Prop := fnIndefiniteValuesRow.holds Try.pinned (OpenSpec.ofChange fnIndefiniteValuesSpec)

/-- ITS FALSE NEIGHBOUR: 'it returns false'. Refute it at one input. -/
def fnIndefiniteValuesWrong : ChangeSpec := { name := "fnIndefiniteValues", fn := fun _ => fun
  | [d1, d2] => { results := [.lit (.bool false)], args := [d1, d2] }
  | _ => none }
def FnIndefiniteValuesWrongFalsely : Prop := fnIndefiniteValuesRow.holds Try.pinned (OpenSpec.ofChange fnIndefiniteValuesWrong)

/- THE SECOND FORM. 'bulk': how many values and letters a reading holds, each counted each time it is reached (what is shared counts as often as it is met; a slice's spare places count too). A statement '..UptoSaid' is the law's where the arguments, and the package variables that the reading takes, are together of bulk at most 1048576: NARROWER than '..Said'. Prove '..Said' where nothing that the law and all that it calls make is longer than what came in: it says more and counts as full. Else prove '..UptoSaid'. A law counts once. -/
mutual
def uptoBulk {H : Type} : DataW H → Nat
  | .lit (.string bytes) => bytes.length + 1
  | .lit _ => 1
  | .nil => 1
  | .ptr d => uptoBulk d + 1
  | .slice elems spare => uptoBulkAll elems + uptoBulkAll spare + 1
  | .agg parts => uptoBulkAll parts + 1
  | .iface _ d => uptoBulk d + 1
  | .map entries => uptoBulkEntries entries + 1
  | .held _ => 1
def uptoBulkAll {H : Type} : List (DataW H) → Nat
  | [] => 0
  | d :: r => uptoBulk d + uptoBulkAll r
def uptoBulkEntries {H : Type} : List (Lit × DataW H) → Nat
  | [] => 0
  | x :: r => uptoBulkEntry x + uptoBulkEntries r
def uptoBulkEntry {H : Type} : Lit × DataW H → Nat
  | (.string bytes, d) => bytes.length + uptoBulk d + 1
  | (_, d) => uptoBulk d + 1
 end
def uptoSmall : (H : Type) → List (DataW H) → Bool := fun _ ds => decide (uptoBulkAll ds ≤ 1048576)
def OpenSpec.upto (s : _root_.Go.ChangeSpec) : _root_.Go.OpenSpec := { _root_.Go.OpenSpec.ofChange s with cond := some uptoSmall }

/-- 'laws.FnLattices', WHERE WHAT IT READS IS OF BULK AT MOST 1048576: true; the input reads as it did. -/
def fnLatticesUptoRow : OpenClaim := { program := "ytgeajejmikaniaa", sum := "ceac16c99147262348f483913a0e424dcec037eef2fd3984a8ae409619307c67", func := "loop.example/g01066/laws.FnLattices", spec := "fnLattices", apart := false, narrowed := true }
def FnLatticesUptoSaid : Prop := fnLatticesUptoRow.holds Try.pinned (OpenSpec.upto fnLatticesSpec)

/-- 'laws.FnFundamentalParts', WHERE WHAT IT READS IS OF BULK AT MOST 1048576: true; the input reads as it did. -/
def fnFundamentalPartsUptoRow : OpenClaim := { program := "ytgeajejmikaniaa", sum := "ceac16c99147262348f483913a0e424dcec037eef2fd3984a8ae409619307c67", func := "loop.example/g01066/laws.FnFundamentalParts", spec := "fnFundamentalParts", apart := false, narrowed := true }
def FnFundamentalPartsUptoSaid : Prop := fnFundamentalPartsUptoRow.holds Try.pinned (OpenSpec.upto fnFundamentalPartsSpec)

/-- 'laws.FnSeriesProducts', WHERE WHAT IT READS IS OF BULK AT MOST 1048576: true; the input reads as it did. -/
def fnSeriesProductsUptoRow : OpenClaim := { program := "ytgeajejmikaniaa", sum := "ceac16c99147262348f483913a0e424dcec037eef2fd3984a8ae409619307c67", func := "loop.example/g01066/laws.FnSeriesProducts", spec := "fnSeriesProducts", apart := false, narrowed := true }
def FnSeriesProductsUptoSaid : Prop := fnSeriesProductsUptoRow.holds Try.pinned (OpenSpec.upto fnSeriesProductsSpec)

/-- 'laws.FnLevelClasses', WHERE WHAT IT READS IS OF BULK AT MOST 1048576: true; the input reads as it did. -/
def fnLevelClassesUptoRow : OpenClaim := { program := "ytgeajejmikaniaa", sum := "ceac16c99147262348f483913a0e424dcec037eef2fd3984a8ae409619307c67", func := "loop.example/g01066/laws.FnLevelClasses", spec := "fnLevelClasses", apart := false, narrowed := true }
def FnLevelClassesUptoSaid : Prop := fnLevelClassesUptoRow.holds Try.pinned (OpenSpec.upto fnLevelClassesSpec)

/-- 'laws.FnIndefiniteValues', WHERE WHAT IT READS IS OF BULK AT MOST 1048576: true; the input reads as it did. -/
def fnIndefiniteValuesUptoRow : OpenClaim := { program := "ytgeajejmikaniaa", sum := "ceac16c99147262348f483913a0e424dcec037eef2fd3984a8ae409619307c67", func := "loop.example/g01066/laws.FnIndefiniteValues", spec := "fnIndefiniteValues", apart := false, narrowed := true }
def FnIndefiniteValuesUptoSaid : Prop := fnIndefiniteValuesUptoRow.holds Try.pinned (OpenSpec.upto fnIndefiniteValuesSpec)

end Rows
end Go.Proofs.Ytgeajejmikaniaa
