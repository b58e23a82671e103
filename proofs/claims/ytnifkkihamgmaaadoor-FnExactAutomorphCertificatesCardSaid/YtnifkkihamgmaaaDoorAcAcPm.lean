/-
  The program's automorphs: the same.
  Conditions: none.
-/
import Derived.Test.YtnifkkihamgmaaaDoorAcAcPl
namespace Go.Proofs.YtnifkkihamgmaaaDoor
set_option linter.unusedVariables false
set_option linter.unusedSimpArgs false

theorem isMat_val' (m : M4) : r_impl_IsMatrix m = some (inN m.1 && (inN m.2.1 && (inN m.2.2.1 && inN m.2.2.2))) := by
  simp only [r_impl_IsMatrix, num_val _ (show [m.1, m.2.1, m.2.2.1, m.2.2.2].length < 1000000 by simp), List.all_cons, List.all_nil, Bool.and_true, Option.bind_some]
theorem slcOk {n : Nat} {l h : Int} (h0 : 0 ≤ l) (h1 : l ≤ h) (h2 : h ≤ n) : slc n l h = some () := by
  unfold slc
  rw [leI_eq, leI_eq, leI_eq, decide_eq_true h0, decide_eq_true h1, decide_eq_true h2]
  rfl
theorem step8 {y4 : (Int × Int × Int) × M4} {Ts : List M4} {k : Nat} (hk : k < Ts.length) (hkb : Ts.length ≤ 100) {A Z V : M4} (h1 : r_impl_Matrix_times y4.2 Ts[k] = some Z) (h2 : r_impl_Matrix_inverse y4.2 = some V) (h3 : r_impl_Matrix_times Z V = some A) (h4 : r_impl_IsMatrix A = some true) {l : List M4} (hs : SrtM l) (hl : l.length ≤ 100) (n : Nat) :
    r_impl_Automorphs_L8 y4 Ts (n + 1) (k : Int) l = r_impl_Automorphs_L8 y4 Ts n ((k + 1 : Nat) : Int) (insR A l) := by
  conv => lhs; unfold r_impl_Automorphs_L8
  have hp := posM_len A l
  rw [ltI_eq, decide_eq_true (by omega), cond_true, getNat hk]
  simp only [Option.bind_some, h1, h2, h3, h4, Bool.not_true, cond_false, L19_run A l (by omega) (k : Int) y4 Ts FU l.length (Nat.le_refl _) (by have := FUge; omega)]
  rw [← insM_eq _ _ hs]
  unfold insM
  generalize posM A l l.length = p at *
  have hn : (l ++ [((0, 0, 0, 0) : M4)]).length = l.length + 1 := by simp
  obtain ⟨x, hx⟩ := copy_mid hp ((0, 0, 0, 0) : M4)
  have hg : getI (l.take p ++ x :: l.drop p) (p : Int) = some x := by
    rw [getNat (by simp; omega)]
    congr 1
    rw [List.getElem_append_right (by simp; omega)]
    simp [show p - min p l.length = 0 by omega]
  rw [roomOk (by simp; omega), wsucc (show p < 1000000000 by omega), wsucc (show k < 1000000000 by omega)]
  simp only [Option.bind_some]
  rw [slcOk (by omega) (by rw [hn]; omega) (by omega), slcOk (by omega) (by rw [hn]; omega) (by omega)]
  simp only [Option.bind_some, Int.toNat_natCast, hx, hg, sI_eq, set_mid hp]
theorem L8_run {y4 : (Int × Int × Int) × M4} {Ts As : List M4} (hkb : Ts.length ≤ 50) {V : M4} (h2 : r_impl_Matrix_inverse y4.2 = some V) (hlen : As.length = Ts.length) (hT : ∀ k (hk : k < Ts.length) (hk2 : k < As.length), ∃ Z, r_impl_Matrix_times y4.2 Ts[k] = some Z ∧ r_impl_Matrix_times Z V = some As[k] ∧ r_impl_IsMatrix As[k] = some true) :
    ∀ (n k : Nat) (l : List M4), SrtM l → l.length ≤ k → k ≤ Ts.length → Ts.length - k < n → r_impl_Automorphs_L8 y4 Ts n (k : Int) l = some (.inl ((As.drop k).foldl (fun l A => insR A l) l))
  | 0, k, l, _, _, _, h => by omega
  | n + 1, k, l, hs, hl, h0, h1 => by
    by_cases hk : k < Ts.length
    · obtain ⟨Z, z1, z2, z3⟩ := hT k hk (by omega)
      rw [step8 hk (by omega) z1 h2 z2 z3 hs (by omega), L8_run hkb h2 hlen hT n (k + 1) _ (insR_srt hs) (by rw [insR_len]; omega) (by omega) (by omega), List.drop_eq_getElem_cons (show k < As.length by omega), List.foldl_cons]
    · unfold r_impl_Automorphs_L8
      rw [ltI_eq, decide_eq_false (by omega), cond_false, List.drop_eq_nil_of_le (by omega)]
      rfl
theorem times_val {x y : M4} {X Y : Nat} (hx : x.1.natAbs ≤ X ∧ x.2.1.natAbs ≤ X ∧ x.2.2.1.natAbs ≤ X ∧ x.2.2.2.natAbs ≤ X) (hy : y.1.natAbs ≤ Y ∧ y.2.1.natAbs ≤ Y ∧ y.2.2.1.natAbs ≤ Y ∧ y.2.2.2.natAbs ≤ Y) (hXY : X * Y ≤ 1000000000000) :
    r_impl_Matrix_times x y = some (x.1 * y.1 + x.2.1 * y.2.2.1, x.1 * y.2.1 + x.2.1 * y.2.2.2, x.2.2.1 * y.1 + x.2.2.2 * y.2.2.1, x.2.2.1 * y.2.1 + x.2.2.2 * y.2.2.2) := by
  obtain ⟨x1, x2, x3, x4⟩ := hx
  obtain ⟨y1, y2, y3, y4⟩ := hy
  have a1 := ab (Nat.le_trans (abs_mul x1 y1) hXY)
  have a2 := ab (Nat.le_trans (abs_mul x2 y3) hXY)
  have a3 := ab (Nat.le_trans (abs_mul x1 y2) hXY)
  have a4 := ab (Nat.le_trans (abs_mul x2 y4) hXY)
  have a5 := ab (Nat.le_trans (abs_mul x3 y1) hXY)
  have a6 := ab (Nat.le_trans (abs_mul x4 y3) hXY)
  have a7 := ab (Nat.le_trans (abs_mul x3 y2) hXY)
  have a8 := ab (Nat.le_trans (abs_mul x4 y4) hXY)
  clear x1 x2 x3 x4 y1 y2 y3 y4
  simp only [r_impl_Matrix_times, sI_eq]
  rw [w64_in (n := x.1 * y.1) (by omega), w64_in (n := x.2.1 * y.2.2.1) (by omega), w64_in (n := x.1 * y.2.1) (by omega), w64_in (n := x.2.1 * y.2.2.2) (by omega), w64_in (n := x.2.2.1 * y.1) (by omega), w64_in (n := x.2.2.2 * y.2.2.1) (by omega), w64_in (n := x.2.2.1 * y.2.1) (by omega), w64_in (n := x.2.2.2 * y.2.2.2) (by omega),
    w64_in (n := x.1 * y.1 + x.2.1 * y.2.2.1) (by omega), w64_in (n := x.1 * y.2.1 + x.2.1 * y.2.2.2) (by omega), w64_in (n := x.2.2.1 * y.1 + x.2.2.2 * y.2.2.1) (by omega), w64_in (n := x.2.2.1 * y.2.1 + x.2.2.2 * y.2.2.2) (by omega)]
theorem inverse_val1 {m1 m2 m3 m4 : Int} (h1 : m1.natAbs ≤ 2000) (h2 : m2.natAbs ≤ 2000) (h3 : m3.natAbs ≤ 2000) (h4 : m4.natAbs ≤ 2000) (hd : m1 * m4 - m2 * m3 = 1) : r_impl_Matrix_inverse (m1, m2, m3, m4) = some (m4, -m2, -m3, m1) := by
  have a1 := ab (abs_mul h1 h4)
  have a2 := ab (abs_mul h2 h3)
  have c1 := ab h1
  have c2 := ab h2
  have c3 := ab h3
  have c4 := ab h4
  clear h1 h2 h3 h4
  simp only [r_impl_Matrix_inverse, r_impl_Matrix_det, sI_eq, Option.bind_some]
  rw [w64_in (n := m1 * m4) (by omega), w64_in (n := m2 * m3) (by omega), hd, w64_in (n := (1 : Int)) (by omega), show (0 - 1 : Int) = -1 from rfl, w64_in (n := (-1 : Int)) (by omega), Int.one_mul, Int.one_mul, Int.neg_one_mul, Int.neg_one_mul, w64_in (n := m4) (by omega), w64_in (n := -m2) (by omega), w64_in (n := -m3) (by omega), w64_in (n := m1) (by omega)]
theorem matU_eq {a b c t u P Q R S : Int} (e1 : t - b * u = 2 * P) (e2 : -c * u = Q) (e3 : a * u = R) (e4 : t + b * u = 2 * S) : matU a b c t u = (P, Q, R, S) := by
  unfold matU
  rw [e1, e2, e3, e4, Int.mul_tdiv_cancel_left _ (by decide), Int.mul_tdiv_cancel_left _ (by decide)]
theorem conjT {m1 m2 m3 m4 x1 x2 x3 x4 a b c t u : Int} (h1 : m1.natAbs ≤ 2000) (h2 : m2.natAbs ≤ 2000) (h3 : m3.natAbs ≤ 2000) (h4 : m4.natAbs ≤ 2000) (y1 : x1.natAbs ≤ 1) (y2 : x2.natAbs ≤ 1) (y3 : x3.natAbs ≤ 1) (y4 : x4.natAbs ≤ 1)
    (ha : a.natAbs ≤ 1000000) (hb : b.natAbs ≤ 1000000) (hc : c.natAbs ≤ 1000000) (ht : t.natAbs ≤ 2) (hu : u.natAbs ≤ 1)
    (e1 : t - b * u = 2 * ((m1 * x1 + m2 * x3) * m4 + (m1 * x2 + m2 * x4) * (-m3))) (e2 : -c * u = (m1 * x1 + m2 * x3) * (-m2) + (m1 * x2 + m2 * x4) * m1) (e3 : a * u = (m3 * x1 + m4 * x3) * m4 + (m3 * x2 + m4 * x4) * (-m3)) (e4 : t + b * u = 2 * ((m3 * x1 + m4 * x3) * (-m2) + (m3 * x2 + m4 * x4) * m1)) :
    ∃ Z, r_impl_Matrix_times (m1, m2, m3, m4) (x1, x2, x3, x4) = some Z ∧ r_impl_Matrix_times Z (m4, -m2, -m3, m1) = some (matU a b c t u) ∧ r_impl_IsMatrix (matU a b c t u) = some true := by
  have q1 := times_val (x := (m1, m2, m3, m4)) (y := (x1, x2, x3, x4)) (X := 2000) (Y := 1) ⟨h1, h2, h3, h4⟩ ⟨y1, y2, y3, y4⟩ (by decide)
  have s : ∀ {p q r s : Int}, p.natAbs ≤ 2000 → q.natAbs ≤ 2000 → r.natAbs ≤ 1 → s.natAbs ≤ 1 → (p * r + q * s).natAbs ≤ 4000 := by
    intro p q r s p1 p2 p3 p4
    have a1 := ab (abs_mul p1 p3)
    have a2 := ab (abs_mul p2 p4)
    omega
  have q2 := times_val (x := (m1 * x1 + m2 * x3, m1 * x2 + m2 * x4, m3 * x1 + m4 * x3, m3 * x2 + m4 * x4)) (y := (m4, -m2, -m3, m1)) (X := 4000) (Y := 2000) ⟨s h1 h2 y1 y3, s h1 h2 y2 y4, s h3 h4 y1 y3, s h3 h4 y2 y4⟩ ⟨h4, by rw [Int.natAbs_neg]; exact h2, by rw [Int.natAbs_neg]; exact h3, h1⟩ (by decide)
  refine ⟨_, q1, ?_, ?_⟩
  · rw [matU_eq e1 e2 e3 e4]
    exact q2
  · rw [isMat_val']
    have b4 := ab (abs_mul hb hu)
    have b5 := ab (abs_mul (x := -c) (A := 1000000) (by rw [Int.natAbs_neg]; exact hc) hu)
    have b6 := ab (abs_mul ha hu)
    have b7 := ab (half_abs (t - b * u))
    have b8 := ab (half_abs (t + b * u))
    have c2 := ab ht
    have k1 : inN (matU a b c t u).1 = true := by
      rw [inN_iff]
      show _ ≤ (t - b * u).tdiv 2 ∧ (t - b * u).tdiv 2 ≤ _
      have : (t - b * u).tdiv 2 = (m1 * x1 + m2 * x3) * m4 + (m1 * x2 + m2 * x4) * (-m3) := by rw [e1, Int.mul_tdiv_cancel_left _ (by decide)]
      rw [this]
      omega
    have k4 : inN (matU a b c t u).2.2.2 = true := by
      rw [inN_iff]
      show _ ≤ (t + b * u).tdiv 2 ∧ (t + b * u).tdiv 2 ≤ _
      have : (t + b * u).tdiv 2 = (m3 * x1 + m4 * x3) * (-m2) + (m3 * x2 + m4 * x4) * m1 := by rw [e4, Int.mul_tdiv_cancel_left _ (by decide)]
      rw [this]
      omega
    have k2 : inN (matU a b c t u).2.1 = true := by
      rw [inN_iff]
      show _ ≤ -c * u ∧ -c * u ≤ _
      omega
    have k3 : inN (matU a b c t u).2.2.1 = true := by
      rw [inN_iff]
      show _ ≤ a * u ∧ a * u ≤ _
      omega
    rw [k1, k2, k3, k4]
    rfl
theorem MatInv.back {A B C p q r s a b c : Int} (h : MatInv A B C p q r s a b c) : A = a * s * s - b * r * s + c * r * r ∧ B = -2 * a * q * s + b * (p * s + q * r) - 2 * c * p * r ∧ C = a * q * q - b * p * q + c * p * p := by
  obtain ⟨e1, e2, e3, dt⟩ := h
  subst e1 e2 e3
  have k1 : (A * p * p + B * p * r + C * r * r) * s * s - (2 * A * p * q + B * (p * s + q * r) + 2 * C * r * s) * r * s + (A * q * q + B * q * s + C * s * s) * r * r = A * ((p * s - q * r) * (p * s - q * r)) := by grind
  have k2 : -2 * (A * p * p + B * p * r + C * r * r) * q * s + (2 * A * p * q + B * (p * s + q * r) + 2 * C * r * s) * (p * s + q * r) - 2 * (A * q * q + B * q * s + C * s * s) * p * r = B * ((p * s - q * r) * (p * s - q * r)) := by grind
  have k3 : (A * p * p + B * p * r + C * r * r) * q * q - (2 * A * p * q + B * (p * s + q * r) + 2 * C * r * s) * p * q + (A * q * q + B * q * s + C * s * s) * p * p = C * ((p * s - q * r) * (p * s - q * r)) := by grind
  rw [k1, k2, k3, dt]
  simp
def tI : M4 := (1, 0, 0, 1)
theorem tv1 : r_impl_Form_turns_V ([(1, 0, 0, 1)]) FU 0 [] = some [(-1, 0, 0, -1)] := by decide +kernel
theorem tv2 : r_impl_Form_turns_V ([(1, 0, 0, 1)] ++ [(0, -1, 1, 0)]) FU 0 [] = some [(-1, 0, 0, -1), (0, 1, -1, 0)] := by decide +kernel
theorem tv3 : r_impl_Form_turns_V ([(1, 0, 0, 1)] ++ [(0, -1, 1, 1), (1, 1, -1, 0)]) FU 0 [] = some [(-1, 0, 0, -1), (0, 1, -1, -1), (-1, -1, 1, 0)] := by decide +kernel
theorem turns_far {a b c : Int} (h1 : ¬ (a = c ∧ b = 0)) (h2 : ¬ (a = c ∧ b = a)) : r_impl_Form_turns (a, b, c) = some [(1, 0, 0, 1), (-1, 0, 0, -1)] := by
  simp only [r_impl_Form_turns, r_impl_one, Option.bind_some]
  have e1 : (bif eqI a c then eqI b 0 else false) = false := by
    by_cases h : a = c
    · rw [h, eqSelf, cond_true, eqNe (fun k => h1 ⟨h, k⟩)]
    · rw [eqNe h]; rfl
  have e2 : (bif eqI a c then eqI b a else false) = false := by
    by_cases h : a = c
    · rw [h, eqSelf, cond_true, eqNe (fun k => h2 ⟨h, k.trans h.symm⟩)]
    · rw [eqNe h]; rfl
  rw [e1, e2, cond_false, cond_false, tv1]
  rfl
theorem turns_4 (a : Int) : r_impl_Form_turns (a, 0, a) = some [(1, 0, 0, 1), (0, -1, 1, 0), (-1, 0, 0, -1), (0, 1, -1, 0)] := by
  simp only [r_impl_Form_turns, r_impl_one, Option.bind_some, eqSelf, cond_true]
  rw [roomOk (by decide), Option.bind_some, tv2]
  rfl
theorem turns_3 {a : Int} (h : a ≠ 0) : r_impl_Form_turns (a, a, a) = some [(1, 0, 0, 1), (0, -1, 1, 1), (1, 1, -1, 0), (-1, 0, 0, -1), (0, 1, -1, -1), (-1, -1, 1, 0)] := by
  simp only [r_impl_Form_turns, r_impl_one, Option.bind_some, eqSelf, cond_true, eqNe h, cond_false]
  rw [roomOk (by decide), Option.bind_some, tv3]
  rfl
end Go.Proofs.YtnifkkihamgmaaaDoor
