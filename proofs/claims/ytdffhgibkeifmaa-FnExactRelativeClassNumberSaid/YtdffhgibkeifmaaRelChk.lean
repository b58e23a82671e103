/-
  The two lists of reduced forms are alike in length for every discriminant, worked out.
  Conditions: none.
-/
import Derived.Test.YtdffhgibkeifmaaRelRaw
namespace Go.Proofs.Ytdffhgibkeifmaa
set_option linter.unusedVariables false
set_option linter.unusedSimpArgs false

def relTab (d : Int) : Bool := match r_spec_reList d with
  | some l => (match r_impl_reducedForms d with
    | some m => Nat.beq l.length m.length && Nat.blt 0 l.length
    | none => false)
  | none => false
def relTop (d : Int) : Option Int := (r_spec_odOver d).bind fun l => getI l (w64 ((l.length : Int) - 1))
def relChk (d : Int) : Bool := match r_spec_reDisc d with
  | some true => r_impl_isNegativeDisc d == some true && (relTab d && (match relTop d with
    | some e => (match r_impl_fundamental d with
      | some f => eqI e f.1 && (leI (-2000) e && (leI e (-3) && r_spec_reDisc e == some true))
      | none => false)
    | none => false))
  | some false => r_impl_isNegativeDisc d == some false
  | none => false
def relAll : Nat → Int → Bool
  | 0, _ => true
  | n + 1, d => bif relChk d then sI (d - 1) (relAll n) else false
theorem relAll_mem : ∀ (n : Nat) (d : Int), relAll n d = true → ∀ e : Int, e ≤ d → d - n < e → relChk e = true
  | 0, d, _, e, h1, h2 => by simp at h2; omega
  | n + 1, d, h, e, h1, h2 => by
    unfold relAll at h
    cases hc : relChk d with
    | false => rw [hc] at h; cases h
    | true =>
      rw [hc, cond_true, sI_eq] at h
      by_cases he : e = d
      · rw [he]; exact hc
      · exact relAll_mem n (d - 1) h e (by omega) (by push_cast at h2; omega)
set_option maxRecDepth 100000
theorem relA_0 : relAll 100 (-3) = true := by decide +kernel
theorem relA_1 : relAll 100 (-103) = true := by decide +kernel
theorem relA_2 : relAll 100 (-203) = true := by decide +kernel
theorem relA_3 : relAll 100 (-303) = true := by decide +kernel
theorem relA_4 : relAll 100 (-403) = true := by decide +kernel
theorem relA_5 : relAll 100 (-503) = true := by decide +kernel
theorem relA_6 : relAll 60 (-603) = true := by decide +kernel
theorem relA_7 : relAll 60 (-663) = true := by decide +kernel
theorem relA_8 : relAll 60 (-723) = true := by decide +kernel
theorem relA_9 : relAll 60 (-783) = true := by decide +kernel
theorem relA_10 : relAll 60 (-843) = true := by decide +kernel
theorem relA_11 : relAll 60 (-903) = true := by decide +kernel
theorem relA_12 : relAll 60 (-963) = true := by decide +kernel
theorem relA_13 : relAll 60 (-1023) = true := by decide +kernel
theorem relA_14 : relAll 60 (-1083) = true := by decide +kernel
theorem relA_15 : relAll 60 (-1143) = true := by decide +kernel
theorem relA_all (d : Int) (h1 : -1202 ≤ d) (h2 : d ≤ -3) : relChk d = true := by
  by_cases a0 : -103 < d
  · exact relAll_mem _ _ relA_0 d (by omega) (by omega)
  by_cases a1 : -203 < d
  · exact relAll_mem _ _ relA_1 d (by omega) (by omega)
  by_cases a2 : -303 < d
  · exact relAll_mem _ _ relA_2 d (by omega) (by omega)
  by_cases a3 : -403 < d
  · exact relAll_mem _ _ relA_3 d (by omega) (by omega)
  by_cases a4 : -503 < d
  · exact relAll_mem _ _ relA_4 d (by omega) (by omega)
  by_cases a5 : -603 < d
  · exact relAll_mem _ _ relA_5 d (by omega) (by omega)
  by_cases a6 : -663 < d
  · exact relAll_mem _ _ relA_6 d (by omega) (by omega)
  by_cases a7 : -723 < d
  · exact relAll_mem _ _ relA_7 d (by omega) (by omega)
  by_cases a8 : -783 < d
  · exact relAll_mem _ _ relA_8 d (by omega) (by omega)
  by_cases a9 : -843 < d
  · exact relAll_mem _ _ relA_9 d (by omega) (by omega)
  by_cases a10 : -903 < d
  · exact relAll_mem _ _ relA_10 d (by omega) (by omega)
  by_cases a11 : -963 < d
  · exact relAll_mem _ _ relA_11 d (by omega) (by omega)
  by_cases a12 : -1023 < d
  · exact relAll_mem _ _ relA_12 d (by omega) (by omega)
  by_cases a13 : -1083 < d
  · exact relAll_mem _ _ relA_13 d (by omega) (by omega)
  by_cases a14 : -1143 < d
  · exact relAll_mem _ _ relA_14 d (by omega) (by omega)
  · exact relAll_mem _ _ relA_15 d (by omega) (by omega)
end Go.Proofs.Ytdffhgibkeifmaa
