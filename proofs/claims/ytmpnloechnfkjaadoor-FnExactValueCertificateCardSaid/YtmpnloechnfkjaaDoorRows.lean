/-
  NARROWER THAN 'FOR EVERY INPUT', by the rows' own cells (each row's printed sentence says how): FnExactRootCertificates: laid · FnExactObstructionCertificate: laid · FnExactDifferenceCertificate: laid · FnExactEquivalenceCertificate: laid · FnExactValueCertificate: laid · FnExactAutomorphCertificates: laid · FnExactPellCertificate: laid · FnExactOrderCertificate: laid · FnExactCompositeCertificate: laid.
  DERIVED. THE GIVEN ROWS OF THIS SEAT. 9 by the template 'for every input the law returns true; each argument reads behind the call as it read before'; 0 by the template 'total and deterministic' (their statements: YtmpnloechnfkjaaDoorTotals.lean).
  GIVEN WITH THE SEED: the statements are not yours to turn. If you find one false, say at which input.
  Laid BY PROGRAM, IN A SANDBOX (cutbox-rows.mjs): the forced cells as the released guide's own fill.sh prints them over the translation f3773ce82b4c9875… (all of the seat's roots in one cut). By AI agents, Wed Nov 11 2026. No macro, syntax, notation, axiom, sorry.
-/
import Derived.Test.YtmpnloechnfkjaaDoorChecked
import GoSem.Claim
import GoSem.ClaimJoined
import GoSem.ClaimMapViews
import Derived.JoinedTies
import Derived.KernelRfl
namespace Go.Proofs.YtmpnloechnfkjaaDoor
/- THE CELL 'sum', in the pinned program and in every row, IS THE sha256 OF THE DUMP (.gsa) THAT YtmpnloechnfkjaaDoorProg.lean LOADS. Nothing in Lean hashes anything: it is a label: what it is worth is what the hold of that sum in a sandbox is worth. -/
noncomputable def Tryd.pinned : Pinned := { name := "ytmpnloechnfkjaadoor", sum := "f3773ce82b4c9875ec858abf466d4e9d8d9ce0e39333159b10817d1fd5fe0950", checked := Tryd.checked }
namespace Rows
def none {H : Type} : Left H := { results := [], args := [] }

/- WHAT THE LISTED PACKAGE-LEVEL VARIABLES READ AS WHEN THE CALL BEGINS. Each datum BY PROGRAM (the guide's laid-datum.mjs) off the statement by which the dump's own 'gosem.cut.vars' lays the variable. In a bare row this is a premise. The card (YtmpnloechnfkjaaDoorCards.lean) ties it to the program's text. -/
def laid_math_bits_deBruijn32tab {H : Type} : DataW H := .agg [.lit (.int .u8 0), .lit (.int .u8 1), .lit (.int .u8 28), .lit (.int .u8 2), .lit (.int .u8 29), .lit (.int .u8 14), .lit (.int .u8 24), .lit (.int .u8 3), .lit (.int .u8 30), .lit (.int .u8 22), .lit (.int .u8 20), .lit (.int .u8 15), .lit (.int .u8 25), .lit (.int .u8 17), .lit (.int .u8 4), .lit (.int .u8 8), .lit (.int .u8 31), .lit (.int .u8 27), .lit (.int .u8 13), .lit (.int .u8 23), .lit (.int .u8 21), .lit (.int .u8 19), .lit (.int .u8 16), .lit (.int .u8 7), .lit (.int .u8 26), .lit (.int .u8 12), .lit (.int .u8 18), .lit (.int .u8 6), .lit (.int .u8 11), .lit (.int .u8 5), .lit (.int .u8 10), .lit (.int .u8 9)]
def laid_math_bits_deBruijn64tab {H : Type} : DataW H := .agg [.lit (.int .u8 0), .lit (.int .u8 1), .lit (.int .u8 56), .lit (.int .u8 2), .lit (.int .u8 57), .lit (.int .u8 49), .lit (.int .u8 28), .lit (.int .u8 3), .lit (.int .u8 61), .lit (.int .u8 58), .lit (.int .u8 42), .lit (.int .u8 50), .lit (.int .u8 38), .lit (.int .u8 29), .lit (.int .u8 17), .lit (.int .u8 4), .lit (.int .u8 62), .lit (.int .u8 47), .lit (.int .u8 59), .lit (.int .u8 36), .lit (.int .u8 45), .lit (.int .u8 43), .lit (.int .u8 51), .lit (.int .u8 22), .lit (.int .u8 53), .lit (.int .u8 39), .lit (.int .u8 33), .lit (.int .u8 30), .lit (.int .u8 24), .lit (.int .u8 18), .lit (.int .u8 12), .lit (.int .u8 5), .lit (.int .u8 63), .lit (.int .u8 55), .lit (.int .u8 48), .lit (.int .u8 27), .lit (.int .u8 60), .lit (.int .u8 41), .lit (.int .u8 37), .lit (.int .u8 16), .lit (.int .u8 46), .lit (.int .u8 35), .lit (.int .u8 44), .lit (.int .u8 21), .lit (.int .u8 52), .lit (.int .u8 32), .lit (.int .u8 23), .lit (.int .u8 11), .lit (.int .u8 54), .lit (.int .u8 26), .lit (.int .u8 40), .lit (.int .u8 15), .lit (.int .u8 34), .lit (.int .u8 20), .lit (.int .u8 31), .lit (.int .u8 10), .lit (.int .u8 25), .lit (.int .u8 14), .lit (.int .u8 19), .lit (.int .u8 9), .lit (.int .u8 13), .lit (.int .u8 8), .lit (.int .u8 7), .lit (.int .u8 6)]
def laid_internal_strconv_uint64pow10 {H : Type} : DataW H := .agg [.lit (.int .u64 1), .lit (.int .u64 10), .lit (.int .u64 100), .lit (.int .u64 1000), .lit (.int .u64 10000), .lit (.int .u64 100000), .lit (.int .u64 1000000), .lit (.int .u64 10000000), .lit (.int .u64 100000000), .lit (.int .u64 1000000000), .lit (.int .u64 10000000000), .lit (.int .u64 100000000000), .lit (.int .u64 1000000000000), .lit (.int .u64 10000000000000), .lit (.int .u64 100000000000000), .lit (.int .u64 1000000000000000), .lit (.int .u64 10000000000000000), .lit (.int .u64 100000000000000000), .lit (.int .u64 1000000000000000000), .lit (.int .u64 10000000000000000000)]

/-- 'laws.FnExactRootCertificates': WHATEVER THE INPUT: true; the input reads as it did. -/
def fnExactRootCertificatesSpec : ChangeSpec := { name := "fnExactRootCertificates", fn := fun _ => fun
  | [d1, d2] => { results := [.lit (.bool true)], args := [d1, d2] }
  | _ => none }
def fnExactRootCertificatesRow : OpenClaim := { program := "ytmpnloechnfkjaadoor", sum := "f3773ce82b4c9875ec858abf466d4e9d8d9ce0e39333159b10817d1fd5fe0950", func := "loop.example/g01066/laws.FnExactRootCertificates", spec := "fnExactRootCertificates", inPlace := ["internal/abi.NoEscape", "internal/bytealg.MakeNoZero"], recurses := true, named := ["internal/strconv.uint64pow10", "math/bits.deBruijn32tab", "math/bits.deBruijn64tab"], apart := false, laid := [("math/bits.deBruijn32tab", laid_math_bits_deBruijn32tab), ("math/bits.deBruijn64tab", laid_math_bits_deBruijn64tab), ("internal/strconv.uint64pow10", laid_internal_strconv_uint64pow10)] }
def FnExactRootCertificatesSaid : Prop := fnExactRootCertificatesRow.holds Tryd.pinned (OpenSpec.ofChange fnExactRootCertificatesSpec)

/-- ITS FALSE NEIGHBOUR: 'it returns false'. Refute it at one input. -/
def fnExactRootCertificatesWrong : ChangeSpec := { name := "fnExactRootCertificates", fn := fun _ => fun
  | [d1, d2] => { results := [.lit (.bool false)], args := [d1, d2] }
  | _ => none }
def FnExactRootCertificatesWrongFalsely : Prop := fnExactRootCertificatesRow.holds Tryd.pinned (OpenSpec.ofChange fnExactRootCertificatesWrong)

/-- 'laws.FnExactObstructionCertificate': WHATEVER THE INPUT: true; the input reads as it did. -/
def fnExactObstructionCertificateSpec : ChangeSpec := { name := "fnExactObstructionCertificate", fn := fun _ => fun
  | [d1, d2] => { results := [.lit (.bool true)], args := [d1, d2] }
  | _ => none }
def fnExactObstructionCertificateRow : OpenClaim := { program := "ytmpnloechnfkjaadoor", sum := "f3773ce82b4c9875ec858abf466d4e9d8d9ce0e39333159b10817d1fd5fe0950", func := "loop.example/g01066/laws.FnExactObstructionCertificate", spec := "fnExactObstructionCertificate", inPlace := ["internal/abi.NoEscape", "internal/bytealg.MakeNoZero"], recurses := true, named := ["internal/strconv.uint64pow10", "math/bits.deBruijn32tab", "math/bits.deBruijn64tab"], apart := false, laid := [("math/bits.deBruijn32tab", laid_math_bits_deBruijn32tab), ("math/bits.deBruijn64tab", laid_math_bits_deBruijn64tab), ("internal/strconv.uint64pow10", laid_internal_strconv_uint64pow10)] }
def FnExactObstructionCertificateSaid : Prop := fnExactObstructionCertificateRow.holds Tryd.pinned (OpenSpec.ofChange fnExactObstructionCertificateSpec)

/-- ITS FALSE NEIGHBOUR: 'it returns false'. Refute it at one input. -/
def fnExactObstructionCertificateWrong : ChangeSpec := { name := "fnExactObstructionCertificate", fn := fun _ => fun
  | [d1, d2] => { results := [.lit (.bool false)], args := [d1, d2] }
  | _ => none }
def FnExactObstructionCertificateWrongFalsely : Prop := fnExactObstructionCertificateRow.holds Tryd.pinned (OpenSpec.ofChange fnExactObstructionCertificateWrong)

/-- 'laws.FnExactDifferenceCertificate': WHATEVER THE INPUT: true; the input reads as it did. -/
def fnExactDifferenceCertificateSpec : ChangeSpec := { name := "fnExactDifferenceCertificate", fn := fun _ => fun
  | [d1, d2] => { results := [.lit (.bool true)], args := [d1, d2] }
  | _ => none }
def fnExactDifferenceCertificateRow : OpenClaim := { program := "ytmpnloechnfkjaadoor", sum := "f3773ce82b4c9875ec858abf466d4e9d8d9ce0e39333159b10817d1fd5fe0950", func := "loop.example/g01066/laws.FnExactDifferenceCertificate", spec := "fnExactDifferenceCertificate", inPlace := ["internal/abi.NoEscape", "internal/bytealg.MakeNoZero"], recurses := true, named := ["internal/strconv.uint64pow10", "math/bits.deBruijn32tab", "math/bits.deBruijn64tab"], apart := false, laid := [("math/bits.deBruijn32tab", laid_math_bits_deBruijn32tab), ("math/bits.deBruijn64tab", laid_math_bits_deBruijn64tab), ("internal/strconv.uint64pow10", laid_internal_strconv_uint64pow10)] }
def FnExactDifferenceCertificateSaid : Prop := fnExactDifferenceCertificateRow.holds Tryd.pinned (OpenSpec.ofChange fnExactDifferenceCertificateSpec)

/-- ITS FALSE NEIGHBOUR: 'it returns false'. Refute it at one input. -/
def fnExactDifferenceCertificateWrong : ChangeSpec := { name := "fnExactDifferenceCertificate", fn := fun _ => fun
  | [d1, d2] => { results := [.lit (.bool false)], args := [d1, d2] }
  | _ => none }
def FnExactDifferenceCertificateWrongFalsely : Prop := fnExactDifferenceCertificateRow.holds Tryd.pinned (OpenSpec.ofChange fnExactDifferenceCertificateWrong)

/-- 'laws.FnExactEquivalenceCertificate': WHATEVER THE INPUT: true; the input reads as it did. -/
def fnExactEquivalenceCertificateSpec : ChangeSpec := { name := "fnExactEquivalenceCertificate", fn := fun _ => fun
  | [d1, d2] => { results := [.lit (.bool true)], args := [d1, d2] }
  | _ => none }
def fnExactEquivalenceCertificateRow : OpenClaim := { program := "ytmpnloechnfkjaadoor", sum := "f3773ce82b4c9875ec858abf466d4e9d8d9ce0e39333159b10817d1fd5fe0950", func := "loop.example/g01066/laws.FnExactEquivalenceCertificate", spec := "fnExactEquivalenceCertificate", inPlace := ["internal/abi.NoEscape", "internal/bytealg.MakeNoZero"], recurses := true, named := ["internal/strconv.uint64pow10", "math/bits.deBruijn32tab", "math/bits.deBruijn64tab"], apart := false, laid := [("math/bits.deBruijn32tab", laid_math_bits_deBruijn32tab), ("math/bits.deBruijn64tab", laid_math_bits_deBruijn64tab), ("internal/strconv.uint64pow10", laid_internal_strconv_uint64pow10)] }
def FnExactEquivalenceCertificateSaid : Prop := fnExactEquivalenceCertificateRow.holds Tryd.pinned (OpenSpec.ofChange fnExactEquivalenceCertificateSpec)

/-- ITS FALSE NEIGHBOUR: 'it returns false'. Refute it at one input. -/
def fnExactEquivalenceCertificateWrong : ChangeSpec := { name := "fnExactEquivalenceCertificate", fn := fun _ => fun
  | [d1, d2] => { results := [.lit (.bool false)], args := [d1, d2] }
  | _ => none }
def FnExactEquivalenceCertificateWrongFalsely : Prop := fnExactEquivalenceCertificateRow.holds Tryd.pinned (OpenSpec.ofChange fnExactEquivalenceCertificateWrong)

/-- 'laws.FnExactValueCertificate': WHATEVER THE INPUT: true; the input reads as it did. -/
def fnExactValueCertificateSpec : ChangeSpec := { name := "fnExactValueCertificate", fn := fun _ => fun
  | [d1, d2] => { results := [.lit (.bool true)], args := [d1, d2] }
  | _ => none }
def fnExactValueCertificateRow : OpenClaim := { program := "ytmpnloechnfkjaadoor", sum := "f3773ce82b4c9875ec858abf466d4e9d8d9ce0e39333159b10817d1fd5fe0950", func := "loop.example/g01066/laws.FnExactValueCertificate", spec := "fnExactValueCertificate", inPlace := ["internal/abi.NoEscape", "internal/bytealg.MakeNoZero"], recurses := true, named := ["internal/strconv.uint64pow10", "math/bits.deBruijn32tab", "math/bits.deBruijn64tab"], apart := false, laid := [("math/bits.deBruijn32tab", laid_math_bits_deBruijn32tab), ("math/bits.deBruijn64tab", laid_math_bits_deBruijn64tab), ("internal/strconv.uint64pow10", laid_internal_strconv_uint64pow10)] }
def FnExactValueCertificateSaid : Prop := fnExactValueCertificateRow.holds Tryd.pinned (OpenSpec.ofChange fnExactValueCertificateSpec)

/-- ITS FALSE NEIGHBOUR: 'it returns false'. Refute it at one input. -/
def fnExactValueCertificateWrong : ChangeSpec := { name := "fnExactValueCertificate", fn := fun _ => fun
  | [d1, d2] => { results := [.lit (.bool false)], args := [d1, d2] }
  | _ => none }
def FnExactValueCertificateWrongFalsely : Prop := fnExactValueCertificateRow.holds Tryd.pinned (OpenSpec.ofChange fnExactValueCertificateWrong)

/-- 'laws.FnExactAutomorphCertificates': WHATEVER THE INPUT: true; the input reads as it did. -/
def fnExactAutomorphCertificatesSpec : ChangeSpec := { name := "fnExactAutomorphCertificates", fn := fun _ => fun
  | [d] => { results := [.lit (.bool true)], args := [d] }
  | _ => none }
def fnExactAutomorphCertificatesRow : OpenClaim := { program := "ytmpnloechnfkjaadoor", sum := "f3773ce82b4c9875ec858abf466d4e9d8d9ce0e39333159b10817d1fd5fe0950", func := "loop.example/g01066/laws.FnExactAutomorphCertificates", spec := "fnExactAutomorphCertificates", inPlace := ["internal/abi.NoEscape", "internal/bytealg.MakeNoZero"], recurses := true, named := ["internal/strconv.uint64pow10", "math/bits.deBruijn32tab", "math/bits.deBruijn64tab"], apart := false, laid := [("math/bits.deBruijn32tab", laid_math_bits_deBruijn32tab), ("math/bits.deBruijn64tab", laid_math_bits_deBruijn64tab), ("internal/strconv.uint64pow10", laid_internal_strconv_uint64pow10)] }
def FnExactAutomorphCertificatesSaid : Prop := fnExactAutomorphCertificatesRow.holds Tryd.pinned (OpenSpec.ofChange fnExactAutomorphCertificatesSpec)

/-- ITS FALSE NEIGHBOUR: 'it returns false'. Refute it at one input. -/
def fnExactAutomorphCertificatesWrong : ChangeSpec := { name := "fnExactAutomorphCertificates", fn := fun _ => fun
  | [d] => { results := [.lit (.bool false)], args := [d] }
  | _ => none }
def FnExactAutomorphCertificatesWrongFalsely : Prop := fnExactAutomorphCertificatesRow.holds Tryd.pinned (OpenSpec.ofChange fnExactAutomorphCertificatesWrong)

/-- 'laws.FnExactPellCertificate': WHATEVER THE INPUT: true; the input reads as it did. -/
def fnExactPellCertificateSpec : ChangeSpec := { name := "fnExactPellCertificate", fn := fun _ => fun
  | [d] => { results := [.lit (.bool true)], args := [d] }
  | _ => none }
def fnExactPellCertificateRow : OpenClaim := { program := "ytmpnloechnfkjaadoor", sum := "f3773ce82b4c9875ec858abf466d4e9d8d9ce0e39333159b10817d1fd5fe0950", func := "loop.example/g01066/laws.FnExactPellCertificate", spec := "fnExactPellCertificate", inPlace := ["math.sqrt", "internal/abi.NoEscape", "internal/bytealg.MakeNoZero"], recurses := true, named := ["internal/strconv.uint64pow10", "math/bits.deBruijn32tab", "math/bits.deBruijn64tab"], apart := false, laid := [("math/bits.deBruijn32tab", laid_math_bits_deBruijn32tab), ("math/bits.deBruijn64tab", laid_math_bits_deBruijn64tab), ("internal/strconv.uint64pow10", laid_internal_strconv_uint64pow10)] }
def FnExactPellCertificateSaid : Prop := fnExactPellCertificateRow.holds Tryd.pinned (OpenSpec.ofChange fnExactPellCertificateSpec)

/-- ITS FALSE NEIGHBOUR: 'it returns false'. Refute it at one input. -/
def fnExactPellCertificateWrong : ChangeSpec := { name := "fnExactPellCertificate", fn := fun _ => fun
  | [d] => { results := [.lit (.bool false)], args := [d] }
  | _ => none }
def FnExactPellCertificateWrongFalsely : Prop := fnExactPellCertificateRow.holds Tryd.pinned (OpenSpec.ofChange fnExactPellCertificateWrong)

/-- 'laws.FnExactOrderCertificate': WHATEVER THE INPUT: true; the input reads as it did. -/
def fnExactOrderCertificateSpec : ChangeSpec := { name := "fnExactOrderCertificate", fn := fun _ => fun
  | [d] => { results := [.lit (.bool true)], args := [d] }
  | _ => none }
def fnExactOrderCertificateRow : OpenClaim := { program := "ytmpnloechnfkjaadoor", sum := "f3773ce82b4c9875ec858abf466d4e9d8d9ce0e39333159b10817d1fd5fe0950", func := "loop.example/g01066/laws.FnExactOrderCertificate", spec := "fnExactOrderCertificate", inPlace := ["internal/abi.NoEscape", "internal/bytealg.MakeNoZero"], recurses := true, named := ["internal/strconv.uint64pow10", "math/bits.deBruijn32tab", "math/bits.deBruijn64tab"], apart := false, laid := [("math/bits.deBruijn32tab", laid_math_bits_deBruijn32tab), ("math/bits.deBruijn64tab", laid_math_bits_deBruijn64tab), ("internal/strconv.uint64pow10", laid_internal_strconv_uint64pow10)] }
def FnExactOrderCertificateSaid : Prop := fnExactOrderCertificateRow.holds Tryd.pinned (OpenSpec.ofChange fnExactOrderCertificateSpec)

/-- ITS FALSE NEIGHBOUR: 'it returns false'. Refute it at one input. -/
def fnExactOrderCertificateWrong : ChangeSpec := { name := "fnExactOrderCertificate", fn := fun _ => fun
  | [d] => { results := [.lit (.bool false)], args := [d] }
  | _ => none }
def FnExactOrderCertificateWrongFalsely : Prop := fnExactOrderCertificateRow.holds Tryd.pinned (OpenSpec.ofChange fnExactOrderCertificateWrong)

/-- 'laws.FnExactCompositeCertificate': WHATEVER THE INPUT: true; the input reads as it did. -/
def fnExactCompositeCertificateSpec : ChangeSpec := { name := "fnExactCompositeCertificate", fn := fun _ => fun
  | [d1, d2] => { results := [.lit (.bool true)], args := [d1, d2] }
  | _ => none }
def fnExactCompositeCertificateRow : OpenClaim := { program := "ytmpnloechnfkjaadoor", sum := "f3773ce82b4c9875ec858abf466d4e9d8d9ce0e39333159b10817d1fd5fe0950", func := "loop.example/g01066/laws.FnExactCompositeCertificate", spec := "fnExactCompositeCertificate", inPlace := ["internal/abi.NoEscape", "internal/bytealg.MakeNoZero"], recurses := true, named := ["internal/strconv.uint64pow10", "math/bits.deBruijn32tab", "math/bits.deBruijn64tab"], apart := false, laid := [("math/bits.deBruijn32tab", laid_math_bits_deBruijn32tab), ("math/bits.deBruijn64tab", laid_math_bits_deBruijn64tab), ("internal/strconv.uint64pow10", laid_internal_strconv_uint64pow10)] }
def FnExactCompositeCertificateSaid : Prop := fnExactCompositeCertificateRow.holds Tryd.pinned (OpenSpec.ofChange fnExactCompositeCertificateSpec)

/-- ITS FALSE NEIGHBOUR: 'it returns false'. Refute it at one input. -/
def fnExactCompositeCertificateWrong : ChangeSpec := { name := "fnExactCompositeCertificate", fn := fun _ => fun
  | [d1, d2] => { results := [.lit (.bool false)], args := [d1, d2] }
  | _ => none }
def FnExactCompositeCertificateWrongFalsely : Prop := fnExactCompositeCertificateRow.holds Tryd.pinned (OpenSpec.ofChange fnExactCompositeCertificateWrong)

/- THE SECOND FORM. 'bulk': how many values and letters a reading holds, each counted each time it is reached (what is shared counts as often as it is met; a slice's spare places count too). A statement '..UptoSaid' is the law's where the arguments, and the package variables that the reading takes, are together of bulk at most 1048576: NARROWER than '..Said'. Prove '..Said' where nothing that the law and all that it calls make is longer than what came in: it says more and counts as full. Else prove '..UptoSaid'. A law counts once. -/
mutual
def uptoBulk {H : Type} : DataW H → Nat
  | .lit (.string bytes) => bytes.length + 1
  | .lit _ => 1
  | .nil => 1
  | .ptr d => uptoBulk d + 1
  | .slice elems spare => uptoBulkAll elems + uptoBulkAll spare + 1
  | .agg parts => uptoBulkAll parts + 1
  | .iface _ d => uptoBulk d + 1
  | .map entries => uptoBulkEntries entries + 1
  | .held _ => 1
def uptoBulkAll {H : Type} : List (DataW H) → Nat
  | [] => 0
  | d :: r => uptoBulk d + uptoBulkAll r
def uptoBulkEntries {H : Type} : List (Lit × DataW H) → Nat
  | [] => 0
  | x :: r => uptoBulkEntry x + uptoBulkEntries r
def uptoBulkEntry {H : Type} : Lit × DataW H → Nat
  | (.string bytes, d) => bytes.length + uptoBulk d + 1
  | (_, d) => uptoBulk d + 1
 end
def uptoSmall : (H : Type) → List (DataW H) → Bool := fun _ ds => decide (uptoBulkAll ds ≤ 1048576)
def OpenSpec.upto (s : _root_.Go.ChangeSpec) : _root_.Go.OpenSpec := { _root_.Go.OpenSpec.ofChange s with cond := some uptoSmall }

/-- 'laws.FnExactRootCertificates', WHERE WHAT IT READS IS OF BULK AT MOST 1048576: true; the input reads as it did. -/
def fnExactRootCertificatesUptoRow : OpenClaim := { program := "ytmpnloechnfkjaadoor", sum := "f3773ce82b4c9875ec858abf466d4e9d8d9ce0e39333159b10817d1fd5fe0950", func := "loop.example/g01066/laws.FnExactRootCertificates", spec := "fnExactRootCertificates", inPlace := ["internal/abi.NoEscape", "internal/bytealg.MakeNoZero"], recurses := true, named := ["internal/strconv.uint64pow10", "math/bits.deBruijn32tab", "math/bits.deBruijn64tab"], apart := false, laid := [("math/bits.deBruijn32tab", laid_math_bits_deBruijn32tab), ("math/bits.deBruijn64tab", laid_math_bits_deBruijn64tab), ("internal/strconv.uint64pow10", laid_internal_strconv_uint64pow10)], narrowed := true }
def FnExactRootCertificatesUptoSaid : Prop := fnExactRootCertificatesUptoRow.holds Tryd.pinned (OpenSpec.upto fnExactRootCertificatesSpec)

/-- 'laws.FnExactObstructionCertificate', WHERE WHAT IT READS IS OF BULK AT MOST 1048576: true; the input reads as it did. -/
def fnExactObstructionCertificateUptoRow : OpenClaim := { program := "ytmpnloechnfkjaadoor", sum := "f3773ce82b4c9875ec858abf466d4e9d8d9ce0e39333159b10817d1fd5fe0950", func := "loop.example/g01066/laws.FnExactObstructionCertificate", spec := "fnExactObstructionCertificate", inPlace := ["internal/abi.NoEscape", "internal/bytealg.MakeNoZero"], recurses := true, named := ["internal/strconv.uint64pow10", "math/bits.deBruijn32tab", "math/bits.deBruijn64tab"], apart := false, laid := [("math/bits.deBruijn32tab", laid_math_bits_deBruijn32tab), ("math/bits.deBruijn64tab", laid_math_bits_deBruijn64tab), ("internal/strconv.uint64pow10", laid_internal_strconv_uint64pow10)], narrowed := true }
def FnExactObstructionCertificateUptoSaid : Prop := fnExactObstructionCertificateUptoRow.holds Tryd.pinned (OpenSpec.upto fnExactObstructionCertificateSpec)

/-- 'laws.FnExactDifferenceCertificate', WHERE WHAT IT READS IS OF BULK AT MOST 1048576: true; the input reads as it did. -/
def fnExactDifferenceCertificateUptoRow : OpenClaim := { program := "ytmpnloechnfkjaadoor", sum := "f3773ce82b4c9875ec858abf466d4e9d8d9ce0e39333159b10817d1fd5fe0950", func := "loop.example/g01066/laws.FnExactDifferenceCertificate", spec := "fnExactDifferenceCertificate", inPlace := ["internal/abi.NoEscape", "internal/bytealg.MakeNoZero"], recurses := true, named := ["internal/strconv.uint64pow10", "math/bits.deBruijn32tab", "math/bits.deBruijn64tab"], apart := false, laid := [("math/bits.deBruijn32tab", laid_math_bits_deBruijn32tab), ("math/bits.deBruijn64tab", laid_math_bits_deBruijn64tab), ("internal/strconv.uint64pow10", laid_internal_strconv_uint64pow10)], narrowed := true }
def FnExactDifferenceCertificateUptoSaid : Prop := fnExactDifferenceCertificateUptoRow.holds Tryd.pinned (OpenSpec.upto fnExactDifferenceCertificateSpec)

/-- 'laws.FnExactEquivalenceCertificate', WHERE WHAT IT READS IS OF BULK AT MOST 1048576: true; the input reads as it did. -/
def fnExactEquivalenceCertificateUptoRow : OpenClaim := { program := "ytmpnloechnfkjaadoor", sum := "f3773ce82b4c9875ec858abf466d4e9d8d9ce0e39333159b10817d1fd5fe0950", func := "loop.example/g01066/laws.FnExactEquivalenceCertificate", spec := "fnExactEquivalenceCertificate", inPlace := ["internal/abi.NoEscape", "internal/bytealg.MakeNoZero"], recurses := true, named := ["internal/strconv.uint64pow10", "math/bits.deBruijn32tab", "math/bits.deBruijn64tab"], apart := false, laid := [("math/bits.deBruijn32tab", laid_math_bits_deBruijn32tab), ("math/bits.deBruijn64tab", laid_math_bits_deBruijn64tab), ("internal/strconv.uint64pow10", laid_internal_strconv_uint64pow10)], narrowed := true }
def FnExactEquivalenceCertificateUptoSaid : Prop := fnExactEquivalenceCertificateUptoRow.holds Tryd.pinned (OpenSpec.upto fnExactEquivalenceCertificateSpec)

/-- 'laws.FnExactValueCertificate', WHERE WHAT IT READS IS OF BULK AT MOST 1048576: true; the input reads as it did. -/
def fnExactValueCertificateUptoRow : OpenClaim := { program := "ytmpnloechnfkjaadoor", sum := "f3773ce82b4c9875ec858abf466d4e9d8d9ce0e39333159b10817d1fd5fe0950", func := "loop.example/g01066/laws.FnExactValueCertificate", spec := "fnExactValueCertificate", inPlace := ["internal/abi.NoEscape", "internal/bytealg.MakeNoZero"], recurses := true, named := ["internal/strconv.uint64pow10", "math/bits.deBruijn32tab", "math/bits.deBruijn64tab"], apart := false, laid := [("math/bits.deBruijn32tab", laid_math_bits_deBruijn32tab), ("math/bits.deBruijn64tab", laid_math_bits_deBruijn64tab), ("internal/strconv.uint64pow10", laid_internal_strconv_uint64pow10)], narrowed := true }
def FnExactValueCertificateUptoSaid : Prop := fnExactValueCertificateUptoRow.holds Tryd.pinned (OpenSpec.upto fnExactValueCertificateSpec)

/-- 'laws.FnExactAutomorphCertificates', WHERE WHAT IT READS IS OF BULK AT MOST 1048576: true; the input reads as it did. -/
def fnExactAutomorphCertificatesUptoRow : OpenClaim := { program := "ytmpnloechnfkjaadoor", sum := "f3773ce82b4c9875ec858abf466d4e9d8d9ce0e39333159b10817d1fd5fe0950", func := "loop.example/g01066/laws.FnExactAutomorphCertificates", spec := "fnExactAutomorphCertificates", inPlace := ["internal/abi.NoEscape", "internal/bytealg.MakeNoZero"], recurses := true, named := ["internal/strconv.uint64pow10", "math/bits.deBruijn32tab", "math/bits.deBruijn64tab"], apart := false, laid := [("math/bits.deBruijn32tab", laid_math_bits_deBruijn32tab), ("math/bits.deBruijn64tab", laid_math_bits_deBruijn64tab), ("internal/strconv.uint64pow10", laid_internal_strconv_uint64pow10)], narrowed := true }
def FnExactAutomorphCertificatesUptoSaid : Prop := fnExactAutomorphCertificatesUptoRow.holds Tryd.pinned (OpenSpec.upto fnExactAutomorphCertificatesSpec)

/-- 'laws.FnExactPellCertificate', WHERE WHAT IT READS IS OF BULK AT MOST 1048576: true; the input reads as it did. -/
def fnExactPellCertificateUptoRow : OpenClaim := { program := "ytmpnloechnfkjaadoor", sum := "f3773ce82b4c9875ec858abf466d4e9d8d9ce0e39333159b10817d1fd5fe0950", func := "loop.example/g01066/laws.FnExactPellCertificate", spec := "fnExactPellCertificate", inPlace := ["math.sqrt", "internal/abi.NoEscape", "internal/bytealg.MakeNoZero"], recurses := true, named := ["internal/strconv.uint64pow10", "math/bits.deBruijn32tab", "math/bits.deBruijn64tab"], apart := false, laid := [("math/bits.deBruijn32tab", laid_math_bits_deBruijn32tab), ("math/bits.deBruijn64tab", laid_math_bits_deBruijn64tab), ("internal/strconv.uint64pow10", laid_internal_strconv_uint64pow10)], narrowed := true }
def FnExactPellCertificateUptoSaid : Prop := fnExactPellCertificateUptoRow.holds Tryd.pinned (OpenSpec.upto fnExactPellCertificateSpec)

/-- 'laws.FnExactOrderCertificate', WHERE WHAT IT READS IS OF BULK AT MOST 1048576: true; the input reads as it did. -/
def fnExactOrderCertificateUptoRow : OpenClaim := { program := "ytmpnloechnfkjaadoor", sum := "f3773ce82b4c9875ec858abf466d4e9d8d9ce0e39333159b10817d1fd5fe0950", func := "loop.example/g01066/laws.FnExactOrderCertificate", spec := "fnExactOrderCertificate", inPlace := ["internal/abi.NoEscape", "internal/bytealg.MakeNoZero"], recurses := true, named := ["internal/strconv.uint64pow10", "math/bits.deBruijn32tab", "math/bits.deBruijn64tab"], apart := false, laid := [("math/bits.deBruijn32tab", laid_math_bits_deBruijn32tab), ("math/bits.deBruijn64tab", laid_math_bits_deBruijn64tab), ("internal/strconv.uint64pow10", laid_internal_strconv_uint64pow10)], narrowed := true }
def FnExactOrderCertificateUptoSaid : Prop := fnExactOrderCertificateUptoRow.holds Tryd.pinned (OpenSpec.upto fnExactOrderCertificateSpec)

/-- 'laws.FnExactCompositeCertificate', WHERE WHAT IT READS IS OF BULK AT MOST 1048576: true; the input reads as it did. -/
def fnExactCompositeCertificateUptoRow : OpenClaim := { program := "ytmpnloechnfkjaadoor", sum := "f3773ce82b4c9875ec858abf466d4e9d8d9ce0e39333159b10817d1fd5fe0950", func := "loop.example/g01066/laws.FnExactCompositeCertificate", spec := "fnExactCompositeCertificate", inPlace := ["internal/abi.NoEscape", "internal/bytealg.MakeNoZero"], recurses := true, named := ["internal/strconv.uint64pow10", "math/bits.deBruijn32tab", "math/bits.deBruijn64tab"], apart := false, laid := [("math/bits.deBruijn32tab", laid_math_bits_deBruijn32tab), ("math/bits.deBruijn64tab", laid_math_bits_deBruijn64tab), ("internal/strconv.uint64pow10", laid_internal_strconv_uint64pow10)], narrowed := true }
def FnExactCompositeCertificateUptoSaid : Prop := fnExactCompositeCertificateUptoRow.holds Tryd.pinned (OpenSpec.upto fnExactCompositeCertificateSpec)

end Rows
end Go.Proofs.YtmpnloechnfkjaaDoor
