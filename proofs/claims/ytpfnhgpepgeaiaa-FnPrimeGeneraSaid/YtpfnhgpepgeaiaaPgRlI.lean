/-
  The program's list of the primitive reduced forms is the reference's.
  Conditions: none.
-/
import Derived.Test.YtpfnhgpepgeaiaaPgRlG
namespace Go.Proofs.Ytpfnhgpepgeaiaa
set_option linter.unusedVariables false
set_option linter.unusedSimpArgs false

theorem irowR_run {d a : Int} (ha1 : 1 ≤ a) (ha : a ≤ 1000) (hd1 : -2000 ≤ d) (hd2 : d ≤ -3) : ∀ (m fu : Nat) (b : Int) (acc : List (Int × Int × Int)), b + m = a + 1 → -1000 ≤ b → m < fu → acc.length + m ≤ 100000000 →
    r_impl_allReduced_L10 a d fu b acc = some (acc ++ rowR d a m b)
  | m, 0, b, acc, _, _, h, _ => by omega
  | 0, fu + 1, b, acc, hb, hb0, hf, hl => by
    rw [r_impl_allReduced_L10, leI_eq, decide_eq_false (by omega), cond_false]
    simp [rowR, upz]
  | m + 1, fu + 1, b, acc, hb, hb0, hf, hl => by
    rw [r_impl_allReduced_L10, leI_eq, decide_eq_true (by omega), cond_true]
    have b1 := abs_mul (x := b) (y := b) (A := 1000) (B := 1000) (by omega) (by omega)
    have e4 : w64 (4 * a) = 4 * a := w64_in (by omega)
    have e5 : w64 (w64 (b * b) - d) = b * b - d := by rw [w64_abs (n := b * b) (by omega), w64_abs (by omega)]
    have q1 := tdiv_le (x := b * b - d) (m := 4 * a) (by omega)
    have q2 := Int.tmod_add_mul_tdiv (b * b - d) (4 * a)
    generalize hc : Int.tdiv (b * b - d) (4 * a) = c at q1 q2
    generalize hr : Int.tmod (b * b - d) (4 * a) = r at q2
    have ew : w64 (b + 1) = b + 1 := w64_in (by omega)
    have hcf : cfR d a b = (a, b, c) := by unfold cfR; rw [hc]
    have hrow : rowR d a (m + 1) b = (if okR d (a, b, c) then [(a, b, c)] else []) ++ rowR d a m (b + 1) := by
      unfold rowR
      rw [upz, List.map_cons, List.filter_cons, hcf]
      cases okR d (a, b, c) <;> simp
    have hdis : eqI (b * b - 4 * a * c) d = eqI r 0 := by
      rw [eqI_eq, eqI_eq, Bool.eq_iff_iff, beq_iff_eq, beq_iff_eq]
      omega
    rw [e4, nzOk (by omega), e5, hr, hc, w64_abs (n := c) (by omega), hrow]
    simp only [Option.bind_some, sI_eq, red_is ha1 (show a ≤ 1000000 by omega), ew]
    unfold okR
    dsimp only
    rw [hdis]
    cases h1 : eqI r 0 with
    | true =>
      simp only [Bool.not_true, cond_false, Bool.true_and]
      cases h2 : decide (IsRed a b c) with
      | true =>
        rw [cond_true, roomOk (by simp; omega)]
        simp only [Option.bind_some]
        rw [irowR_run ha1 ha hd1 hd2 m fu (b + 1) _ (by omega) (by omega) (by omega) (by simp; omega)]
        simp
      | false =>
        rw [cond_false]
        rw [irowR_run ha1 ha hd1 hd2 m fu (b + 1) _ (by omega) (by omega) (by omega) (by omega)]
        simp
    | false =>
      simp only [Bool.not_false, cond_true, Bool.false_and]
      rw [irowR_run ha1 ha hd1 hd2 m fu (b + 1) _ (by omega) (by omega) (by omega) (by omega)]
      simp
end Go.Proofs.Ytpfnhgpepgeaiaa
