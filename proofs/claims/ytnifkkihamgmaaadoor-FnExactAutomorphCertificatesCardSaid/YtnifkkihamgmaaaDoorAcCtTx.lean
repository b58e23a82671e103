/-
  The texts of forms and matrices are alike both ways.
  Conditions: none.
-/
import Derived.Test.YtnifkkihamgmaaaDoorAcCt0
namespace Go.Proofs.YtnifkkihamgmaaaDoor
set_option linter.unusedVariables false
set_option linter.unusedSimpArgs false

/-- The bytes of a form's text. -/
def fB (f : Int × Int × Int) : List UInt8 := ((((([40] ++ Go.Lib.itoa f.1) ++ [44]) ++ Go.Lib.itoa f.2.1) ++ [44]) ++ Go.Lib.itoa f.2.2) ++ [41]
theorem fB_len {f : Int × Int × Int} (h1 : sm18 f.1) (h2 : sm18 f.2.1) (h3 : sm18 f.2.2) : (fB f).length ≤ 100 := by
  have a1 := itoa_len h1
  have a2 := itoa_len h2
  have a3 := itoa_len h3
  simp [fB]
  omega
theorem foText_eq {f : Int × Int × Int} (h1 : sm18 f.1) (h2 : sm18 f.2.1) (h3 : sm18 f.2.2) : r_spec_foText f = some (bl (fB f)) := by
  have a1 := itoa_len h1
  have a2 := itoa_len h2
  have a3 := itoa_len h3
  have e1 : (⟨#[40]⟩ : ByteArray) = bl [40] := rfl
  have e2 : (⟨#[44]⟩ : ByteArray) = bl [44] := rfl
  have e3 : (⟨#[41]⟩ : ByteArray) = bl [41] := rfl
  unfold r_spec_foText
  rw [l1Int_eq h1, Option.bind_some, e1, e2, e3, catBl (by simp; omega), Option.bind_some, bl_app, catBl (by simp; omega), Option.bind_some, bl_app, l1Int_eq h2, Option.bind_some, catBl (by simp; omega), Option.bind_some, bl_app, catBl (by simp; omega), Option.bind_some, bl_app, l1Int_eq h3, Option.bind_some, catBl (by simp; omega), Option.bind_some, bl_app, catBl (by simp; omega), Option.bind_some, bl_app]
  rfl
theorem formText_eq {f : Int × Int × Int} (h1 : sm18 f.1) (h2 : sm18 f.2.1) (h3 : sm18 f.2.2) : r_impl_formText f = some (bl (fB f)) := by
  rw [← foText_eq h1 h2 h3]
  simp only [r_impl_formText, r_spec_foText, l1Int_eq h1, l1Int_eq h2, l1Int_eq h3, itoa_eq h1, itoa_eq h2, itoa_eq h3]

/-- The bytes of a matrix's text. -/
def mB (m : Int × Int × Int × Int) : List UInt8 := ((((((([91] ++ Go.Lib.itoa m.1) ++ [44]) ++ Go.Lib.itoa m.2.1) ++ [59]) ++ Go.Lib.itoa m.2.2.1) ++ [44]) ++ Go.Lib.itoa m.2.2.2) ++ [93]
theorem mB_len {m : Int × Int × Int × Int} (h1 : sm18 m.1) (h2 : sm18 m.2.1) (h3 : sm18 m.2.2.1) (h4 : sm18 m.2.2.2) : (mB m).length ≤ 100 := by
  have a1 := itoa_len h1
  have a2 := itoa_len h2
  have a3 := itoa_len h3
  have a4 := itoa_len h4
  simp [mB]
  omega
theorem foMText_eq {m : Int × Int × Int × Int} (h1 : sm18 m.1) (h2 : sm18 m.2.1) (h3 : sm18 m.2.2.1) (h4 : sm18 m.2.2.2) : r_spec_foMatrixText m = some (bl (mB m)) := by
  have a1 := itoa_len h1
  have a2 := itoa_len h2
  have a3 := itoa_len h3
  have a4 := itoa_len h4
  have e1 : (⟨#[91]⟩ : ByteArray) = bl [91] := rfl
  have e2 : (⟨#[44]⟩ : ByteArray) = bl [44] := rfl
  have e3 : (⟨#[59]⟩ : ByteArray) = bl [59] := rfl
  have e4 : (⟨#[93]⟩ : ByteArray) = bl [93] := rfl
  unfold r_spec_foMatrixText
  rw [l1Int_eq h1, Option.bind_some, e1, e2, e3, e4, catBl (by simp; omega), Option.bind_some, bl_app, catBl (by simp; omega), Option.bind_some, bl_app, l1Int_eq h2, Option.bind_some, catBl (by simp; omega), Option.bind_some, bl_app, catBl (by simp; omega), Option.bind_some, bl_app, l1Int_eq h3, Option.bind_some, catBl (by simp; omega), Option.bind_some, bl_app, catBl (by simp; omega), Option.bind_some, bl_app, l1Int_eq h4, Option.bind_some, catBl (by simp; omega), Option.bind_some, bl_app, catBl (by simp; omega), Option.bind_some, bl_app]
  rfl
theorem matText_eq {m : Int × Int × Int × Int} (h1 : sm18 m.1) (h2 : sm18 m.2.1) (h3 : sm18 m.2.2.1) (h4 : sm18 m.2.2.2) : r_impl_matrixText m = some (bl (mB m)) := by
  rw [← foMText_eq h1 h2 h3 h4]
  simp only [r_impl_matrixText, r_spec_foMatrixText, l1Int_eq h1, l1Int_eq h2, l1Int_eq h3, l1Int_eq h4, itoa_eq h1, itoa_eq h2, itoa_eq h3, itoa_eq h4]
end Go.Proofs.YtnifkkihamgmaaaDoor
