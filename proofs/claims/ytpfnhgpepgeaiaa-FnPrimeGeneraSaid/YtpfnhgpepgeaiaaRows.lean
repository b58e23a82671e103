/-
  No cell of these rows narrows 'for every input' (looked for: loops, veiled, ifaces, maps, wideKeys, modest, calm, conditions, laid).
  DERIVED. THE GIVEN ROWS OF THIS SEAT. 3 by the template 'for every input the law returns true; each argument reads behind the call as it read before'; 0 by the template 'total and deterministic' (their statements: YtpfnhgpepgeaiaaTotals.lean).
  GIVEN WITH THE SEED: the statements are not yours to turn. If you find one false, say at which input.
  Laid BY PROGRAM, IN A SANDBOX (cutbox-rows.mjs): the forced cells as the released guide's own fill.sh prints them over the translation ad6fa06b301908e9… (all of the seat's roots in one cut). By AI agents, Wed Nov 11 2026. No macro, syntax, notation, axiom, sorry.
-/
import Derived.Test.YtpfnhgpepgeaiaaChecked
import GoSem.Claim
import GoSem.ClaimJoined
import GoSem.ClaimMapViews
import Derived.JoinedTies
import Derived.KernelRfl
namespace Go.Proofs.Ytpfnhgpepgeaiaa
/- THE CELL 'sum', in the pinned program and in every row, IS THE sha256 OF THE DUMP (.gsa) THAT YtpfnhgpepgeaiaaProg.lean LOADS. Nothing in Lean hashes anything: it is a label: what it is worth is what the hold of that sum in a sandbox is worth. -/
noncomputable def Try.pinned : Pinned := { name := "ytpfnhgpepgeaiaa", sum := "ad6fa06b301908e9c087169fd6c66dc206547808bf641f775b115012305c1a54", checked := Try.checked }
namespace Rows
def none {H : Type} : Left H := { results := [], args := [] }

/-- 'laws.FnSquareResidues': WHATEVER THE INPUT: true; the input reads as it did. -/
def fnSquareResiduesSpec : ChangeSpec := { name := "fnSquareResidues", fn := fun _ => fun
  | [d1, d2] => { results := [.lit (.bool true)], args := [d1, d2] }
  | _ => none }
def fnSquareResiduesRow : OpenClaim := { program := "ytpfnhgpepgeaiaa", sum := "ad6fa06b301908e9c087169fd6c66dc206547808bf641f775b115012305c1a54", func := "loop.example/g01066/laws.FnSquareResidues", spec := "fnSquareResidues", apart := false }
def FnSquareResiduesSaid : Prop := fnSquareResiduesRow.holds Try.pinned (OpenSpec.ofChange fnSquareResiduesSpec)

/-- ITS FALSE NEIGHBOUR: 'it returns false'. Refute it at one input. -/
def fnSquareResiduesWrong : ChangeSpec := { name := "fnSquareResidues", fn := fun _ => fun
  | [d1, d2] => { results := [.lit (.bool false)], args := [d1, d2] }
  | _ => none }
def FnSquareResiduesWrongFalsely : Prop := fnSquareResiduesRow.holds Try.pinned (OpenSpec.ofChange fnSquareResiduesWrong)

/-- 'laws.FnThetaSums': WHATEVER THE INPUT: true; the input reads as it did. -/
def fnThetaSumsSpec : ChangeSpec := { name := "fnThetaSums", fn := fun _ => fun
  | [d1, d2] => { results := [.lit (.bool true)], args := [d1, d2] }
  | _ => none }
def fnThetaSumsRow : OpenClaim := { program := "ytpfnhgpepgeaiaa", sum := "ad6fa06b301908e9c087169fd6c66dc206547808bf641f775b115012305c1a54", func := "loop.example/g01066/laws.FnThetaSums", spec := "fnThetaSums", apart := false }
def FnThetaSumsSaid : Prop := fnThetaSumsRow.holds Try.pinned (OpenSpec.ofChange fnThetaSumsSpec)

/-- ITS FALSE NEIGHBOUR: 'it returns false'. Refute it at one input. -/
def fnThetaSumsWrong : ChangeSpec := { name := "fnThetaSums", fn := fun _ => fun
  | [d1, d2] => { results := [.lit (.bool false)], args := [d1, d2] }
  | _ => none }
def FnThetaSumsWrongFalsely : Prop := fnThetaSumsRow.holds Try.pinned (OpenSpec.ofChange fnThetaSumsWrong)

/-- 'laws.FnPrimeGenera': WHATEVER THE INPUT: true; the input reads as it did. -/
def fnPrimeGeneraSpec : ChangeSpec := { name := "fnPrimeGenera", fn := fun _ => fun
  | [d1, d2] => { results := [.lit (.bool true)], args := [d1, d2] }
  | _ => none }
def fnPrimeGeneraRow : OpenClaim := { program := "ytpfnhgpepgeaiaa", sum := "ad6fa06b301908e9c087169fd6c66dc206547808bf641f775b115012305c1a54", func := "loop.example/g01066/laws.FnPrimeGenera", spec := "fnPrimeGenera", apart := false }
def FnPrimeGeneraSaid : Prop := fnPrimeGeneraRow.holds Try.pinned (OpenSpec.ofChange fnPrimeGeneraSpec)

/-- ITS FALSE NEIGHBOUR: 'it returns false'. Refute it at one input. -/
def fnPrimeGeneraWrong : ChangeSpec := { name := "fnPrimeGenera", fn := fun _ => fun
  | [d1, d2] => { results := [.lit (.bool false)], args := [d1, d2] }
  | _ => none }
def FnPrimeGeneraWrongFalsely : Prop := fnPrimeGeneraRow.holds Try.pinned (OpenSpec.ofChange fnPrimeGeneraWrong)

/- THE SECOND FORM. 'bulk': how many values and letters a reading holds, each counted each time it is reached (what is shared counts as often as it is met; a slice's spare places count too). A statement '..UptoSaid' is the law's where the arguments, and the package variables that the reading takes, are together of bulk at most 1048576: NARROWER than '..Said'. Prove '..Said' where nothing that the law and all that it calls make is longer than what came in: it says more and counts as full. Else prove '..UptoSaid'. A law counts once. -/
mutual
def uptoBulk {H : Type} : DataW H → Nat
  | .lit (.string bytes) => bytes.length + 1
  | .lit _ => 1
  | .nil => 1
  | .ptr d => uptoBulk d + 1
  | .slice elems spare => uptoBulkAll elems + uptoBulkAll spare + 1
  | .agg parts => uptoBulkAll parts + 1
  | .iface _ d => uptoBulk d + 1
  | .map entries => uptoBulkEntries entries + 1
  | .held _ => 1
def uptoBulkAll {H : Type} : List (DataW H) → Nat
  | [] => 0
  | d :: r => uptoBulk d + uptoBulkAll r
def uptoBulkEntries {H : Type} : List (Lit × DataW H) → Nat
  | [] => 0
  | x :: r => uptoBulkEntry x + uptoBulkEntries r
def uptoBulkEntry {H : Type} : Lit × DataW H → Nat
  | (.string bytes, d) => bytes.length + uptoBulk d + 1
  | (_, d) => uptoBulk d + 1
 end
def uptoSmall : (H : Type) → List (DataW H) → Bool := fun _ ds => decide (uptoBulkAll ds ≤ 1048576)
def OpenSpec.upto (s : _root_.Go.ChangeSpec) : _root_.Go.OpenSpec := { _root_.Go.OpenSpec.ofChange s with cond := some uptoSmall }

/-- 'laws.FnSquareResidues', WHERE WHAT IT READS IS OF BULK AT MOST 1048576: true; the input reads as it did. -/
def fnSquareResiduesUptoRow : OpenClaim := { program := "ytpfnhgpepgeaiaa", sum := "ad6fa06b301908e9c087169fd6c66dc206547808bf641f775b115012305c1a54", func := "loop.example/g01066/laws.FnSquareResidues", spec := "fnSquareResidues", apart := false, narrowed := true }
def FnSquareResiduesUptoSaid : Prop := fnSquareResiduesUptoRow.holds Try.pinned (OpenSpec.upto fnSquareResiduesSpec)

/-- 'laws.FnThetaSums', WHERE WHAT IT READS IS OF BULK AT MOST 1048576: true; the input reads as it did. -/
def fnThetaSumsUptoRow : OpenClaim := { program := "ytpfnhgpepgeaiaa", sum := "ad6fa06b301908e9c087169fd6c66dc206547808bf641f775b115012305c1a54", func := "loop.example/g01066/laws.FnThetaSums", spec := "fnThetaSums", apart := false, narrowed := true }
def FnThetaSumsUptoSaid : Prop := fnThetaSumsUptoRow.holds Try.pinned (OpenSpec.upto fnThetaSumsSpec)

/-- 'laws.FnPrimeGenera', WHERE WHAT IT READS IS OF BULK AT MOST 1048576: true; the input reads as it did. -/
def fnPrimeGeneraUptoRow : OpenClaim := { program := "ytpfnhgpepgeaiaa", sum := "ad6fa06b301908e9c087169fd6c66dc206547808bf641f775b115012305c1a54", func := "loop.example/g01066/laws.FnPrimeGenera", spec := "fnPrimeGenera", apart := false, narrowed := true }
def FnPrimeGeneraUptoSaid : Prop := fnPrimeGeneraUptoRow.holds Try.pinned (OpenSpec.upto fnPrimeGeneraSpec)

end Rows
end Go.Proofs.Ytpfnhgpepgeaiaa
