/-
  Classes at a level: as many as classes times roots, and two different ones are not level equivalent.
  Conditions: none.
-/
import Derived.Test.YtgeajejmikaniaaLvLvD
import Derived.Test.YtgeajejmikaniaaLvCur2
namespace Go.Proofs.Ytgeajejmikaniaa
set_option linter.unusedVariables false
set_option linter.unusedSimpArgs false

abbrev F3 := Int × Int × Int
/-! ### Matrices -/
theorem MatInv.comp {A B C p q r s a b c p' q' r' s' x y z : Int} (h : MatInv A B C p q r s a b c) (k : MatInv a b c p' q' r' s' x y z) : MatInv A B C (p * p' + q * r') (p * q' + q * s') (r * p' + s * r') (r * q' + s * s') x y z := by
  obtain ⟨e1, e2, e3, dt⟩ := h
  obtain ⟨f1, f2, f3, du⟩ := k
  subst e1 e2 e3
  subst f1 f2 f3
  refine ⟨by grind, by grind, by grind, ?_⟩
  have : (p * p' + q * r') * (r * q' + s * s') - (p * q' + q * s') * (r * p' + s * r') = (p * s - q * r) * (p' * s' - q' * r') := by grind
  rw [this, dt, du]; rfl
theorem MatInv.inv {A B C p q r s a b c : Int} (h : MatInv A B C p q r s a b c) : MatInv a b c s (-q) (-r) p A B C := by
  obtain ⟨k1, k2, k3⟩ := h.back
  have dt := h.dt
  refine ⟨by rw [k1]; grind, by rw [k2]; grind, by rw [k3]; grind, by grind⟩
/-- A matrix whose entry R the level divides keeps the residue of the second coefficient. -/
theorem mat_res {n A B C p q r s a b c : Int} (hn : n ∣ A) (hr : n ∣ r) (h : MatInv A B C p q r s a b c) : 2 * n ∣ b - B := by
  obtain ⟨i, rfl⟩ := hn
  obtain ⟨j, rfl⟩ := hr
  have dt := h.dt
  have e2 := h.e2
  refine ⟨i * p * q + B * q * j + C * j * s, ?_⟩
  have k : p * s = 1 + q * (n * j) := by omega
  rw [← e2, k]
  grind
theorem times_big {x y : M4} {X Y : Nat} (hx : x.1.natAbs ≤ X ∧ x.2.1.natAbs ≤ X ∧ x.2.2.1.natAbs ≤ X ∧ x.2.2.2.natAbs ≤ X) (hy : y.1.natAbs ≤ Y ∧ y.2.1.natAbs ≤ Y ∧ y.2.2.1.natAbs ≤ Y ∧ y.2.2.2.natAbs ≤ Y) (hXY : X * Y ≤ 1000000000000000000) :
    r_impl_Matrix_times x y = some (x.1 * y.1 + x.2.1 * y.2.2.1, x.1 * y.2.1 + x.2.1 * y.2.2.2, x.2.2.1 * y.1 + x.2.2.2 * y.2.2.1, x.2.2.1 * y.2.1 + x.2.2.2 * y.2.2.2) := by
  obtain ⟨x1, x2, x3, x4⟩ := hx
  obtain ⟨y1, y2, y3, y4⟩ := hy
  have a1 := ab (Nat.le_trans (abs_mul x1 y1) hXY)
  have a2 := ab (Nat.le_trans (abs_mul x2 y3) hXY)
  have a3 := ab (Nat.le_trans (abs_mul x1 y2) hXY)
  have a4 := ab (Nat.le_trans (abs_mul x2 y4) hXY)
  have a5 := ab (Nat.le_trans (abs_mul x3 y1) hXY)
  have a6 := ab (Nat.le_trans (abs_mul x4 y3) hXY)
  have a7 := ab (Nat.le_trans (abs_mul x3 y2) hXY)
  have a8 := ab (Nat.le_trans (abs_mul x4 y4) hXY)
  clear x1 x2 x3 x4 y1 y2 y3 y4
  simp only [r_impl_Matrix_times, sI_eq]
  rw [w64_in (n := x.1 * y.1) (by omega), w64_in (n := x.2.1 * y.2.2.1) (by omega), w64_in (n := x.1 * y.2.1) (by omega), w64_in (n := x.2.1 * y.2.2.2) (by omega), w64_in (n := x.2.2.1 * y.1) (by omega), w64_in (n := x.2.2.2 * y.2.2.1) (by omega), w64_in (n := x.2.2.1 * y.2.1) (by omega), w64_in (n := x.2.2.2 * y.2.2.2) (by omega),
    w64_in (n := x.1 * y.1 + x.2.1 * y.2.2.1) (by omega), w64_in (n := x.1 * y.2.1 + x.2.1 * y.2.2.2) (by omega), w64_in (n := x.2.2.1 * y.1 + x.2.2.2 * y.2.2.1) (by omega), w64_in (n := x.2.2.1 * y.2.1 + x.2.2.2 * y.2.2.2) (by omega)]
/-! ### One form of a level -/
/-- What the law wants to know of a form of a level. -/
structure LvI (D n r : Int) (f h : F3) : Prop where
  lv : LvF D n r f h
  cls : r_impl_isClassForm h = some true
  dsc : r_impl_Form_disc h = some D
  def1 : r_impl_isDefinite h = some true
  inn : inN h.1 = true ∧ inN h.2.1 = true ∧ inN h.2.2 = true
  red : ∃ m1 m2 m3 m4, r_impl_reduce h = some (f, (m1, m2, m3, m4)) ∧ MatInv h.1 h.2.1 h.2.2 m1 m2 m3 m4 f.1 f.2.1 f.2.2 ∧ m1.natAbs ≤ 2000 ∧ m2.natAbs ≤ 2000 ∧ m3.natAbs ≤ 2000 ∧ m4.natAbs ≤ 2000
  aut : ∃ l, r_impl_Automorphs h = some (l, true) ∧ l.length ≤ 50 ∧ tI ∈ l ∧ ∀ m ∈ l, r_impl_IsMatrix m = some true ∧ AutM h.1 h.2.1 h.2.2 m
theorem lvi_of {D n r : Int} {f h : F3} (hD1 : -2000 ≤ D) (hD2 : D < 0) (hf : PrRc D f) (hL : LvF D n r f h) (hin : (inN h.1 && (inN h.2.1 && inN h.2.2)) = true) : LvI D n r f h := by
  obtain ⟨a, b, c⟩ := h
  simp only [Bool.and_eq_true] at hin
  obtain ⟨ia, ib, ic⟩ := hin
  obtain ⟨⟨p, q, r', s, hM⟩, hdv, hrt, hpos, hdis⟩ := hL
  simp only [] at hM hdv hrt hpos hdis ia ib ic
  have ha : 0 < a := by
    rcases Int.lt_or_le 0 a with h | h
    · exact h
    · have k1 : 4 * c * a ≤ 4 * c * 0 := Int.mul_le_mul_of_nonneg_left h (by omega)
      have k2 : 0 ≤ b * b := sq_nonneg b
      have k3 : 4 * a * c = 4 * c * a := by grind
      omega
  have hdv1 := disc_val ia ib ic
  rw [hdis] at hdv1
  have hdef : r_impl_isDefinite (a, b, c) = some true := by
    simp only [r_impl_isDefinite, form_val, ia, ib, ic, Bool.and_true, Option.bind_some, hdv1, cond_true, ltI_eq, decide_eq_true hD2, decide_eq_true ha]
  have hgcd : Int.gcd a (Int.gcd b c) = 1 := by
    have g1 : (Int.gcd a (Int.gcd b c) : Int) ∣ a := Int.gcd_dvd_left _ _
    have g2 : (Int.gcd a (Int.gcd b c) : Int) ∣ b := Int.dvd_trans (Int.gcd_dvd_right _ _) (Int.gcd_dvd_left _ _)
    have g3 : (Int.gcd a (Int.gcd b c) : Int) ∣ c := Int.dvd_trans (Int.gcd_dvd_right _ _) (Int.gcd_dvd_right _ _)
    generalize hg : (Int.gcd a (Int.gcd b c) : Int) = g at *
    obtain ⟨k1, k2, k3⟩ := hM.back
    obtain ⟨x, rfl⟩ := g1
    obtain ⟨y, rfl⟩ := g2
    obtain ⟨z, rfl⟩ := g3
    have h1 := hf.2.2.2 g ⟨x * s * s - y * r' * s + z * r' * r', by rw [k1]; grind⟩ ⟨-2 * x * q * s + y * (p * s + q * r') - 2 * z * p * r', by rw [k2]; grind⟩ ⟨x * q * q - y * p * q + z * p * p, by rw [k3]; grind⟩
    have h2 := Int.eq_one_of_dvd_one (by omega) h1
    omega
  have hcls : r_impl_isClassForm (a, b, c) = some true := by
    have hsh : r_impl_isShownForm (a, b, c) = some true := by
      simp only [r_impl_isShownForm, hdef, Option.bind_some, cond_true, hdv1, leI_eq, decide_eq_true hD1]
    simp only [r_impl_isClassForm, hsh, Option.bind_some, cond_true, content_val ia ib ic, hgcd]
    rfl
  have hi := red_of_class hcls
  have hcM : c ≤ 1000000 := (inN_iff.1 ic).2
  obtain ⟨m1, m2, m3, m4, a2, b2, c2, k1, k2, k3, k4, k5⟩ := red_imp hi hcM
  have hcomp := hM.comp k4
  obtain ⟨u1, u2, u3⟩ := red_uniq hf.1 hf.2.1 k2.a1 k3 hcomp.dt hcomp.e1.symm hcomp.e2.symm hcomp.e3.symm
  obtain ⟨f1, f2, f3⟩ := f
  simp only [] at u1 u2 u3
  subst u1 u2 u3
  exact ⟨⟨⟨p, q, r', s, hM⟩, hdv, hrt, hpos, hdis⟩, hcls, hdv1, hdef, ⟨ia, ib, ic⟩, ⟨m1, m2, m3, m4, k1, k4, k5⟩, lv_auto hdef hi hcM ia ib ic⟩
theorem isLevel_val {D n : Int} (hD : D.natAbs ≤ 2000) (hn : 1 ≤ n) (hn2 : n ≤ 30) (hg : Int.gcd D n = 1) : r_impl_isLevel D n = some true := by
  simp only [r_impl_isLevel, leI_eq, decide_eq_true hn, decide_eq_true hn2, cond_true, gcd_val (a := D) (b := n) (by omega) (by omega), hg, Option.bind_some]
  rfl
theorem has_val {D n r : Int} {f h : F3} (hD1 : -2000 ≤ D) (hD2 : D < 0) (hn : 1 ≤ n) (hn2 : n ≤ 30) (hg : Int.gcd D n = 1) (hL : LvI D n r f h) : r_impl_hasLevel h n = some true ∧ r_impl_isLevelForm h n = some true := by
  have h1 : r_impl_hasLevel h n = some true := by
    simp only [r_impl_hasLevel, hL.cls, hL.dsc, isLevel_val (by omega) hn hn2 hg, Option.bind_some, cond_true]
  refine ⟨h1, ?_⟩
  simp only [r_impl_isLevelForm, h1, nz_ne (show n ≠ 0 by omega), Option.bind_some, cond_true, tz (show n ≠ 0 by omega), decide_eq_true hL.lv.dvd]
/-! ### Level equivalence -/
theorem step_val {D n r r2 : Int} {f f2 h h2 : F3} {m1 m2 m3 m4 k1 k2 k3 k4 : Int} {t : M4} (ht : r_impl_IsMatrix t = some true) (b1 : m1.natAbs ≤ 2000) (b2 : m2.natAbs ≤ 2000) (b3 : m3.natAbs ≤ 2000) (b4 : m4.natAbs ≤ 2000)
    (c1 : k1.natAbs ≤ 2000) (c2 : k2.natAbs ≤ 2000) (c3 : k3.natAbs ≤ 2000) (c4 : k4.natAbs ≤ 2000) (hdet : k1 * k4 - k2 * k3 = 1) : ∃ Z, r_impl_Matrix_times t (m1, m2, m3, m4) = some Z ∧ r_impl_Matrix_inverse (k1, k2, k3, k4) = some (k4, -k2, -k3, k1) ∧
      r_impl_Matrix_times Z (k4, -k2, -k3, k1) = some ((t.1 * m1 + t.2.1 * m3) * k4 + (t.1 * m2 + t.2.1 * m4) * -k3, (t.1 * m1 + t.2.1 * m3) * -k2 + (t.1 * m2 + t.2.1 * m4) * k1, (t.2.2.1 * m1 + t.2.2.2 * m3) * k4 + (t.2.2.1 * m2 + t.2.2.2 * m4) * -k3, (t.2.2.1 * m1 + t.2.2.2 * m3) * -k2 + (t.2.2.1 * m2 + t.2.2.2 * m4) * k1) := by
  rw [isMat_val'] at ht
  have ht := some_inj ht
  simp only [Bool.and_eq_true, inN_iff] at ht
  obtain ⟨⟨t1, t1'⟩, ⟨t2, t2'⟩, ⟨t3, t3'⟩, t4, t4'⟩ := ht
  obtain ⟨x1, x2, x3, x4⟩ := t
  simp only [] at t1 t1' t2 t2' t3 t3' t4 t4'
  have q1 := times_big (x := (x1, x2, x3, x4)) (y := (m1, m2, m3, m4)) (X := 1000000) (Y := 2000) ⟨by simp only []; omega, by simp only []; omega, by simp only []; omega, by simp only []; omega⟩ ⟨b1, b2, b3, b4⟩ (by decide)
  have s : ∀ {p q r s : Int}, p.natAbs ≤ 1000000 → q.natAbs ≤ 1000000 → r.natAbs ≤ 2000 → s.natAbs ≤ 2000 → (p * r + q * s).natAbs ≤ 4000000000 := by
    intro p q r s p1 p2 p3 p4
    have a1 := ab (abs_mul p1 p3)
    have a2 := ab (abs_mul p2 p4)
    omega
  have y1 : x1.natAbs ≤ 1000000 := by omega
  have y2 : x2.natAbs ≤ 1000000 := by omega
  have y3 : x3.natAbs ≤ 1000000 := by omega
  have y4 : x4.natAbs ≤ 1000000 := by omega
  have q2 := times_big (x := (x1 * m1 + x2 * m3, x1 * m2 + x2 * m4, x3 * m1 + x4 * m3, x3 * m2 + x4 * m4)) (y := (k4, -k2, -k3, k1)) (X := 4000000000) (Y := 2000) ⟨s y1 y2 b1 b3, s y1 y2 b2 b4, s y3 y4 b1 b3, s y3 y4 b2 b4⟩ ⟨c4, by rw [Int.natAbs_neg]; exact c2, by rw [Int.natAbs_neg]; exact c3, c1⟩ (by decide)
  exact ⟨_, q1, inverse_val1 c1 c2 c3 c4 hdet, q2⟩
/-- The search for a level matrix. -/
theorem lvm_run {n : Int} (hn : n ≠ 0) {y4 y5 : F3 × M4} {ls : List M4} {b : Bool} (hl : ls.length ≤ 50) (W : M4 → M4) (V : M4) (hV : r_impl_Matrix_inverse y5.2 = some V) (hW : ∀ t ∈ ls, ∃ Z, r_impl_Matrix_times t y4.2 = some Z ∧ r_impl_Matrix_times Z V = some (W t)) : ∀ (fu k : Nat), k ≤ ls.length → ls.length - k < fu →
    ((∀ t ∈ ls.drop k, ¬ n ∣ (W t).2.2.1) → r_impl_levelMatrix_L10 n y4 y5 (ls, b) fu (k : Int) = some (.inl ())) ∧ ((∃ t ∈ ls.drop k, n ∣ (W t).2.2.1) → ∃ M, r_impl_levelMatrix_L10 n y4 y5 (ls, b) fu (k : Int) = some (.inr (M, true)))
  | 0, k, h0, h1 => by omega
  | fu + 1, k, h0, h1 => by
    rw [r_impl_levelMatrix_L10]
    simp only []
    by_cases hk : k < ls.length
    · obtain ⟨Z, z1, z2⟩ := hW _ (List.getElem_mem hk)
      have ih := lvm_run (b := b) hn hl W V hV hW fu (k + 1) (by omega) (by omega)
      rw [ltI_eq, decide_eq_true (by omega), cond_true, getNat hk, List.drop_eq_getElem_cons hk]
      simp only [Option.bind_some, z1, hV, z2, nz_ne hn, tz hn, sI_eq, wsucc (show k < 1000000000 by omega)]
      by_cases hd : n ∣ (W ls[k]).2.2.1
      · rw [decide_eq_true hd, cond_true]
        exact ⟨fun h => absurd hd (h _ List.mem_cons_self), fun _ => ⟨_, rfl⟩⟩
      · rw [decide_eq_false hd, cond_false]
        refine ⟨fun h => ih.1 fun t ht => h t (List.mem_cons_of_mem _ ht), fun ⟨t, ht, htd⟩ => ih.2 ?_⟩
        rcases List.mem_cons.1 ht with e | e
        · rw [e] at htd; exact absurd htd hd
        · exact ⟨t, e, htd⟩
    · rw [ltI_eq, decide_eq_false (by omega), cond_false, List.drop_eq_nil_of_le (by omega)]
      exact ⟨fun _ => rfl, fun ⟨t, ht, _⟩ => by cases ht⟩
theorem eq_of_res {n r r2 : Int} (h : 2 * n ∣ r - r2) (h1 : 0 ≤ r) (h2 : r < 2 * n) (h3 : 0 ≤ r2) (h4 : r2 < 2 * n) : r = r2 := by
  have := small_dvd h (by omega) (by omega)
  omega
/-- Two forms of a level are level equivalent exactly if they are of one class and one root. -/
theorem are_val {D n r r2 : Int} {f f2 h h2 : F3} (hD1 : -2000 ≤ D) (hD2 : D < 0) (hn : 1 ≤ n) (hn2 : n ≤ 30) (hg : Int.gcd D n = 1) (hL : LvI D n r f h) (hL2 : LvI D n r2 f2 h2) (hr0 : 0 ≤ r) (hr1 : r < 2 * n) (hs0 : 0 ≤ r2) (hs1 : r2 < 2 * n) (hsame : f = f2 → r = r2 → h = h2) :
    r_impl_AreLevelEquivalent h h2 n = some (decide (f = f2 ∧ r = r2), true) := by
  have v1 := (has_val hD1 hD2 hn hn2 hg hL).2
  have v2 := (has_val hD1 hD2 hn hn2 hg hL2).2
  obtain ⟨m1, m2, m3, m4, w1, w2, b1, b2, b3, b4⟩ := hL.red
  obtain ⟨k1, k2, k3, k4, x1, x2, c1, c2, c3, c4⟩ := hL2.red
  obtain ⟨l, l1, l2, l3, l4⟩ := hL.aut
  have key : ∃ M, r_impl_levelMatrix h h2 n = some (M, decide (f = f2 ∧ r = r2)) := by
    simp only [r_impl_levelMatrix, w1, x1, l1, Option.bind_some]
    by_cases hf : f = f2
    · subst hf
      have hbeq : ((f.1 == f.1) && ((f.2.1 == f.2.1) && (f.2.2 == f.2.2))) = true := by simp
      rw [hbeq]
      simp only [Bool.not_true, cond_false]
      obtain ⟨W, hWd⟩ : ∃ W : M4 → M4, ∀ t, W t = ((t.1 * m1 + t.2.1 * m3) * k4 + (t.1 * m2 + t.2.1 * m4) * -k3, (t.1 * m1 + t.2.1 * m3) * -k2 + (t.1 * m2 + t.2.1 * m4) * k1, (t.2.2.1 * m1 + t.2.2.2 * m3) * k4 + (t.2.2.1 * m2 + t.2.2.2 * m4) * -k3, (t.2.2.1 * m1 + t.2.2.2 * m3) * -k2 + (t.2.2.1 * m2 + t.2.2.2 * m4) * k1) := ⟨fun t => _, fun t => rfl⟩
      have hW : ∀ t ∈ l, ∃ Z, r_impl_Matrix_times t (m1, m2, m3, m4) = some Z ∧ r_impl_Matrix_times Z (k4, -k2, -k3, k1) = some (W t) := by
        intro t ht
        obtain ⟨Z, z1, _, z3⟩ := step_val (D := D) (n := n) (r := r) (r2 := r2) (f := f) (f2 := f) (h := h) (h2 := h2) (l4 t ht).1 b1 b2 b3 b4 c1 c2 c3 c4 x2.dt
        exact ⟨Z, z1, by rw [z3, hWd]⟩
      have run := lvm_run (n := n) (by omega) (y4 := (f, (m1, m2, m3, m4))) (y5 := (f, (k1, k2, k3, k4))) (b := true) l2 W _ (inverse_val1 c1 c2 c3 c4 x2.dt) hW FU 0 (by omega) (by have := FUge; omega)
      rw [List.drop_zero] at run
      have e0 : ((0 : Nat) : Int) = 0 := rfl
      rw [e0] at run
      by_cases hr : r = r2
      · subst hr
        have hh := hsame rfl rfl
        subst hh
        rw [w1] at x1
        have x3 := some_inj x1
        simp only [Prod.mk.injEq, true_and] at x3
        obtain ⟨rfl, rfl, rfl, rfl⟩ := x3
        obtain ⟨M, hM⟩ := run.2 ⟨tI, l3, by
          rw [hWd]
          have : (0 * m1 + 1 * m3) * m4 + (0 * m2 + 1 * m4) * -m3 = 0 := by grind
          show n ∣ (0 * m1 + 1 * m3) * m4 + (0 * m2 + 1 * m4) * -m3
          rw [this]
          exact Int.dvd_zero n⟩
        rw [hM]
        simp only [Option.bind_some]
        exact ⟨M, by simp⟩
      · have hno : ∀ t ∈ l, ¬ n ∣ (W t).2.2.1 := by
          intro t ht hd
          have ha := (l4 t ht).2
          have hc := (ha.comp w2).comp x2.inv
          rw [hWd] at hd
          have hres := mat_res hL.lv.dvd hd hc
          have d1 := hL.lv.root
          have d2 := hL2.lv.root
          refine hr (eq_of_res ?_ hr0 hr1 hs0 hs1)
          obtain ⟨i, hi⟩ := hres
          obtain ⟨j, hj⟩ := d1
          obtain ⟨k, hk⟩ := d2
          exact ⟨k - j - i, by rw [Int.mul_sub, Int.mul_sub]; omega⟩
        rw [run.1 hno]
        simp only [Option.bind_some]
        exact ⟨_, by simp [hr]; rfl⟩
    · have hbeq : ((f.1 == f2.1) && ((f.2.1 == f2.2.1) && (f.2.2 == f2.2.2))) = false := by
        rw [Bool.eq_false_iff]
        intro he
        simp only [Bool.and_eq_true, beq_iff_eq] at he
        exact hf (Prod.ext he.1 (Prod.ext he.2.1 he.2.2))
      rw [hbeq]
      simp only [Bool.not_false, cond_true]
      exact ⟨_, by simp [hf]; rfl⟩
  obtain ⟨M, hM⟩ := key
  simp only [r_impl_AreLevelEquivalent, v1, v2, hM, Option.bind_some, Bool.not_true, cond_false]
theorem rootOf_val {D n r : Int} {f h : F3} (hD1 : -2000 ≤ D) (hD2 : D < 0) (hn : 1 ≤ n) (hn2 : n ≤ 30) (hg : Int.gcd D n = 1) (hL : LvI D n r f h) (hr0 : 0 ≤ r) (hr1 : r < 2 * n) : r_impl_LevelRootOf h n = some (r, true) := by
  have v1 := (has_val hD1 hD2 hn hn2 hg hL).2
  have hm : h.2.1 % (2 * n) = r := by
    obtain ⟨j, hj⟩ := hL.lv.root
    have : h.2.1 = r + 2 * n * j := by omega
    rw [this, Int.add_mul_emod_self_left, Int.emod_eq_of_lt hr0 hr1]
  simp only [r_impl_LevelRootOf, v1, Option.bind_some, Bool.not_true, cond_false, w64_in (n := 2 * n) (by omega), dsc_mod_val (show 1 ≤ 2 * n by omega) (show 2 * n ≤ 9223372036854775807 by omega), hm]
/-! ### The lists -/
theorem ints_run (l : List Int) (hl : l.length ≤ 1000000) : ∀ (k fu i : Nat), i + k = l.length → k < fu → r_laws_sameInts_L5 l l fu (i : Int) = some (.inl ())
  | k, 0, i, hi, hf => by omega
  | 0, fu + 1, i, hi, hf => by rw [r_laws_sameInts_L5, ltI_eq, decide_eq_false (by omega), cond_false]
  | k + 1, fu + 1, i, hi, hf => by
    rw [r_laws_sameInts_L5, ltI_eq, decide_eq_true (by omega), cond_true, getNat (show i < l.length by omega)]
    simp only [Option.bind_some, eqSelf, Bool.not_true, cond_false, sI_eq, wsucc (show i < 1000000000 by omega)]
    exact ints_run l hl k fu (i + 1) (by omega) (by omega)
theorem ints_self (l : List Int) (hl : l.length < 1000000) : r_laws_sameInts l l = some true := by
  have h := ints_run l (by omega) l.length FU 0 (by omega) (by have := FUge; omega)
  have h : r_laws_sameInts_L5 l l FU 0 = _ := h
  simp only [r_laws_sameInts, eqSelf, Bool.not_true, cond_false, h, Option.bind_some]
theorem forms_run (l : List F3) (hl : l.length ≤ 10000000) : ∀ (k fu i : Nat), i + k = l.length → k < fu → r_laws_pSameForms_L5 l l fu (i : Int) = some (.inl ())
  | k, 0, i, hi, hf => by omega
  | 0, fu + 1, i, hi, hf => by rw [r_laws_pSameForms_L5, ltI_eq, decide_eq_false (by omega), cond_false]
  | k + 1, fu + 1, i, hi, hf => by
    rw [r_laws_pSameForms_L5, ltI_eq, decide_eq_true (by omega), cond_true, getNat (show i < l.length by omega)]
    simp only [Option.bind_some, beq_self_eq_true, Bool.and_self, Bool.not_true, cond_false, sI_eq, wsucc (show i < 1000000000 by omega)]
    exact forms_run l hl k fu (i + 1) (by omega) (by omega)
theorem FUbig : (1000000000 : Nat) = FU := rfl
theorem forms_self (l : List F3) (hl : l.length < 10000000) : r_laws_pSameForms l l = some true := by
  have h := forms_run l (by omega) l.length FU 0 (by omega) (by have := FUbig; omega)
  have h : r_laws_pSameForms_L5 l l FU 0 = _ := h
  simp only [r_laws_pSameForms, eqSelf, Bool.not_true, cond_false, h, Option.bind_some]
def lvH (n r : Int) (f : F3) : F3 := (r_spec_lvMake f n r).getD (0, 0, 0)
def okH (h : F3) : Bool := inN h.1 && (inN h.2.1 && inN h.2.2)
theorem in_run {D n r : Int} (hD1 : -2000 ≤ D) (hD2 : D < 0) (hn : 1 ≤ n) (hn2 : n ≤ 30) (hr0 : 0 ≤ r) (hr1 : r < 2 * n) (hr : 4 * n ∣ r * r - D) {L : List F3} (hL : ∀ f ∈ L, PrRc D f) (hlen : L.length ≤ 27000) (t5 : Int) {ys : List Int × Bool} {zs : List Int} : ∀ (fu k : Nat) (acc : List F3), k ≤ L.length → L.length - k < fu → acc.length + (L.length - k) ≤ 100000000 →
    (r_impl_LevelClasses_L15 D r t5 n L ys fu (k : Int) acc = some (.inl (acc ++ (L.drop k).map (lvH n r))) ∧ r_spec_LevelClasses_L19 D r t5 n L zs fu (k : Int) acc = some (.inl (acc ++ (L.drop k).map (lvH n r))) ∧ ∀ f ∈ L.drop k, okH (lvH n r f) = true) ∨
    (r_impl_LevelClasses_L15 D r t5 n L ys fu (k : Int) acc = some (.inr ([], false)) ∧ r_spec_LevelClasses_L19 D r t5 n L zs fu (k : Int) acc = some (.inr ([], false)))
  | 0, k, acc, h0, h1, h2 => by omega
  | fu + 1, k, acc, h0, h1, h2 => by
    rw [r_impl_LevelClasses_L15, r_spec_LevelClasses_L19]
    by_cases hk : k < L.length
    · obtain ⟨h, e1, e2, e3⟩ := level_both hD1 hD2 (hL _ (List.getElem_mem hk)) hn hn2 hr0 hr1 hr
      have eH : lvH n r L[k] = h := by unfold lvH; rw [e3]; rfl
      rw [ltI_eq, decide_eq_true (by omega), cond_true, cond_true, getNat hk, List.drop_eq_getElem_cons hk, List.map_cons, eH]
      simp only [Option.bind_some, e2, e3, sform_val]
      cases hok : (inN h.1 && (inN h.2.1 && inN h.2.2)) with
      | false => exact .inr ⟨rfl, rfl⟩
      | true =>
        simp only [Bool.not_true, cond_false]
        rw [roomOk (by simp; omega), Option.bind_some]
        simp only [sI_eq, wsucc (show k < 1000000000 by omega)]
        rcases in_run hD1 hD2 hn hn2 hr0 hr1 hr hL hlen t5 (ys := ys) (zs := zs) fu (k + 1) (acc ++ [h]) (by omega) (by omega) (by simp; omega) with ⟨a1, a2, a3⟩ | ⟨a1, a2⟩
        · refine .inl ⟨by rw [a1]; simp, by rw [Option.bind_some, a2]; simp, fun f hf => ?_⟩
          rcases List.mem_cons.1 hf with e | e
          · rw [e, eH]; exact hok
          · exact a3 f e
        · exact .inr ⟨a1, by rw [Option.bind_some, a2]⟩
    · rw [ltI_eq, decide_eq_false (by omega), cond_false, cond_false, List.drop_eq_nil_of_le (by omega)]
      exact .inl ⟨by simp, by simp, fun f hf => by cases hf⟩
theorem out_run {D n : Int} (hD1 : -2000 ≤ D) (hD2 : D < 0) (hn : 1 ≤ n) (hn2 : n ≤ 30) {L : List F3} (hL : ∀ f ∈ L, PrRc D f) (hlen : L.length ≤ 27000) (l1 : r_impl_reducedForms D = some L) (l2 : r_spec_reList D = some L) {R : List Int} (hR : ∀ r ∈ R, 0 ≤ r ∧ r < 2 * n ∧ 4 * n ∣ r * r - D) (hRl : R.length ≤ 60) {b : Bool} : ∀ (fu k : Nat) (acc : List F3), k ≤ R.length → R.length - k < fu → acc.length ≤ 27000 * k →
    (r_impl_LevelClasses_L7 D n (R, b) fu (k : Int) acc = some (.inl (acc ++ (R.drop k).flatMap fun r => L.map (lvH n r))) ∧ r_spec_LevelClasses_L11 D n R fu (k : Int) acc = some (.inl (acc ++ (R.drop k).flatMap fun r => L.map (lvH n r))) ∧ ∀ r ∈ R.drop k, ∀ f ∈ L, okH (lvH n r f) = true) ∨
    (r_impl_LevelClasses_L7 D n (R, b) fu (k : Int) acc = some (.inr ([], false)) ∧ r_spec_LevelClasses_L11 D n R fu (k : Int) acc = some (.inr ([], false)))
  | 0, k, acc, h0, h1, h2 => by omega
  | fu + 1, k, acc, h0, h1, h2 => by
    rw [r_impl_LevelClasses_L7, r_spec_LevelClasses_L11]
    simp only []
    by_cases hk : k < R.length
    · obtain ⟨r0, r1, r2⟩ := hR _ (List.getElem_mem hk)
      rw [ltI_eq, decide_eq_true (by omega), cond_true, cond_true, getNat hk, List.drop_eq_getElem_cons hk, List.flatMap_cons]
      simp only [Option.bind_some, l1, l2]
      rcases in_run hD1 hD2 hn hn2 r0 r1 r2 hL hlen (k : Int) (ys := (R, b)) (zs := R) FU 0 acc (by omega) (by have := FUge; omega) (by omega) with ⟨a1, a2, a3⟩ | ⟨a1, a2⟩
      · have e0 : ((0 : Nat) : Int) = 0 := rfl
        rw [e0] at a1 a2
        rw [List.drop_zero] at a1 a2 a3
        rw [a1, a2]
        simp only [Option.bind_some, sI_eq, wsucc (show k < 1000000000 by omega)]
        rcases out_run hD1 hD2 hn hn2 hL hlen l1 l2 hR hRl (b := b) fu (k + 1) (acc ++ L.map (lvH n R[k])) (by omega) (by omega) (by simp; omega) with ⟨c1, c2, c3⟩ | ⟨c1, c2⟩
        · refine .inl ⟨by rw [c1, List.append_assoc], by rw [c2, List.append_assoc], fun r hr f hf => ?_⟩
          rcases List.mem_cons.1 hr with e | e
          · rw [e]; exact a3 f hf
          · exact c3 r e f hf
        · exact .inr ⟨c1, c2⟩
      · have e0 : ((0 : Nat) : Int) = 0 := rfl
        rw [e0] at a1 a2
        rw [a1, a2]
        exact .inr ⟨rfl, rfl⟩
    · rw [ltI_eq, decide_eq_false (by omega), cond_false, cond_false, List.drop_eq_nil_of_le (by omega)]
      exact .inl ⟨by simp, by simp, fun f hf => by cases hf⟩
theorem flat_len {α β γ : Type} (L : List β) (H : α → β → γ) : ∀ R : List α, (R.flatMap fun r => L.map (H r)).length = R.length * L.length
  | [] => by simp
  | r :: R => by rw [List.flatMap_cons, List.length_append, List.length_map, flat_len L H R, List.length_cons, Nat.succ_mul]; omega
theorem flat_get {α β γ : Type} (L : List β) (H : α → β → γ) : ∀ (R : List α) (i : Nat) (hi : i < R.length * L.length), ∃ (h1 : i / L.length < R.length) (h2 : i % L.length < L.length), (R.flatMap fun r => L.map (H r))[i]? = some (H R[i / L.length] L[i % L.length])
  | [], i, hi => by simp at hi
  | r :: R, i, hi => by
    have hpos : 0 < L.length := by
      rcases Nat.eq_zero_or_pos L.length with h | h
      · rw [h] at hi; simp at hi
      · exact h
    have h2 := Nat.mod_lt i hpos
    rw [List.flatMap_cons]
    by_cases h : i < L.length
    · have e1 : i / L.length = 0 := Nat.div_eq_of_lt h
      have e2 : i % L.length = i := Nat.mod_eq_of_lt h
      refine ⟨by rw [e1]; simp, h2, ?_⟩
      rw [List.getElem?_append_left (by simpa using h)]
      simp only [e1, e2, List.getElem?_map, List.getElem?_eq_getElem h, Option.map_some, List.getElem_cons_zero]
    · obtain ⟨j, rfl⟩ := Nat.exists_eq_add_of_le (Nat.le_of_not_lt h)
      have hj : j < R.length * L.length := by rw [List.length_cons, Nat.succ_mul] at hi; omega
      obtain ⟨k1, k2, k3⟩ := flat_get L H R j hj
      have e1 : (L.length + j) / L.length = j / L.length + 1 := by rw [Nat.add_comm, Nat.add_div_right _ hpos]
      have e2 : (L.length + j) % L.length = j % L.length := by rw [Nat.add_comm, Nat.add_mod_right]
      refine ⟨by rw [e1]; simpa using k1, h2, ?_⟩
      rw [List.getElem?_append_right (by simp), List.length_map, Nat.add_sub_cancel_left, k3]
      simp only [e1, e2, List.getElem_cons_succ]
theorem nod_inj {α : Type} {L : List α} (h : L.Nodup) {i j : Nat} (hi : i < L.length) (hj : j < L.length) (e : L[i] = L[j]) : i = j := by
  have h := List.pairwise_iff_getElem.1 h
  rcases Nat.lt_trichotomy i j with k | k | k
  · exact absurd e (h i j hi hj k)
  · exact k
  · exact absurd e.symm (h j i hj hi k)
/-! ### The drawn discriminant and level -/
theorem lroots_some {d n : Int} (hd : OkD d) (hn : 1 ≤ n) (hn2 : n ≤ 30) : ∃ l, r_spec_lvRoots d n = some l := by
  obtain ⟨N, rfl⟩ := Int.eq_ofNat_of_zero_le (show 0 ≤ n by omega)
  obtain ⟨d1, d2, _⟩ := hd
  exact ⟨_, (roots_val (d := d) (N := N) (by omega) (by omega) (by omega)).2⟩
theorem lev_run {d : Int} (hd : OkD d) {y9 : Int × List Int × Int × Int} : ∀ (m fu : Nat) (n k : Int), 1 ≤ n → n ≤ 30 → 0 ≤ k → (60 - k).toNat ≤ m → m < fu → ∃ r, r_spec_l1Cur_level_L13 d y9 fu n k = some r
  | m, 0, n, k, _, _, _, _, h => by omega
  | m, fu + 1, n, k, h1, h2, h3, h4, h5 => by
    rw [r_spec_l1Cur_level_L13, ltI_eq]
    by_cases hk : k < 60
    · obtain ⟨m', rfl⟩ : ∃ m', m = m' + 1 := ⟨m - 1, by omega⟩
      obtain ⟨l, hl⟩ := lroots_some hd h1 h2
      obtain ⟨d1, d2, _⟩ := hd
      have hb : ∃ b, (bif ltI 1 (Int.gcd n d : Int) then some true else (r_spec_lvRoots d n).bind fun y18 => some (eqI (y18.length : Int) 0)) = some b := by
        rw [hl]
        cases ltI 1 (Int.gcd n d : Int) <;> exact ⟨_, rfl⟩
      obtain ⟨b, hb⟩ := hb
      have t1 := tmod_range (x := n) (n := 30) (by omega) (by decide)
      rw [decide_eq_true hk, cond_true, tgcd_val (by omega) (by omega)]
      simp only [Option.bind_some, hb]
      cases b with
      | false => exact ⟨n, rfl⟩
      | true =>
        simp only [cond_true, sI_eq]
        rw [w64_in (n := n.tmod 30 + 1) (by omega), w64_in (n := k + 1) (by omega)]
        cases ltI 30 k with
        | true => exact lev_run ⟨d1, d2, by assumption⟩ m' fu 1 (k + 1) (by decide) (by decide) (by omega) (by omega) (by omega)
        | false => exact lev_run ⟨d1, d2, by assumption⟩ m' fu _ (k + 1) (by omega) (by omega) (by omega) (by omega) (by omega)
    · rw [decide_eq_false hk]
      exact ⟨n, rfl⟩
theorem level_ok {k : Nat} {c : List Int × Int × Int} (d : Int) (h : CurB k c) (hk : k ≤ 1000000) : ∃ n c', r_spec_l1Cur_level c d = some (n, c') := by
  obtain ⟨b, c1, e1, h1⟩ := one_ok 12 h (by omega)
  simp only [r_spec_l1Cur_level, e1, Option.bind_some]
  have oth : ∃ n c', ((r_spec_l1Cur_among c1 [0, 1, 30, 31, -1, 2, 4611686018427387904]).bind fun y8 => some (y8.1, y8.2)) = some (n, c') := by
    obtain ⟨n, c2, e2, _, h2⟩ := among_ok (l := [0, 1, 30, 31, -1, 2, 4611686018427387904]) (by simp) h1 (by omega)
    exact ⟨n, c2, by rw [e2]; rfl⟩
  cases b with
  | true => simpa using oth
  | false =>
    rw [okd_val]
    by_cases hd : OkD d
    · obtain ⟨x, c2, e2, x0, x1, x2, h2⟩ := pick_ok 30 h1 (by omega)
      have x3 := x2 (by decide)
      obtain ⟨r, hr⟩ := lev_run hd (y9 := (x, c2)) 60 FU (1 + x) 0 (by omega) (by omega) (by omega) (by decide) (by have := FUge; omega)
      obtain ⟨b2, c3, e3, h3⟩ := one_ok 8 h2 (by omega)
      obtain ⟨z, c4, e4, _, _, _, h4⟩ := pick_ok 30 h3 (by omega)
      rw [decide_eq_true hd]
      simp only [cond_false, Option.bind_some, Bool.not_true, e2, sI_eq]
      rw [w64_in (n := 1 + x) (by omega), hr]
      simp only [Option.bind_some, e3]
      cases b2 with
      | true => simp only [cond_true, e4, Option.bind_some]; exact ⟨_, _, rfl⟩
      | false => exact ⟨_, _, rfl⟩
    · rw [decide_eq_false hd]
      simpa using oth
theorem lv_draw {code : List Int} (hc : code.length ≤ 1048576) (hc8 : ∀ x ∈ code, 0 ≤ x ∧ x ≤ 255) : ∃ d n, r_spec_DrawLevelClasses code = some (d, n) := by
  obtain ⟨d, c1, e1, h1⟩ := disc_ok (CurB.start hc hc8) (by omega)
  obtain ⟨n, c2, e2⟩ := level_ok d h1 (by omega)
  exact ⟨d, n, by simp only [r_spec_DrawLevelClasses, r_spec_DrawLevelRoots, e1, e2, Option.bind_some]⟩
/-! ### The law -/
def OkN (d n : Int) : Prop := OkD d ∧ 1 ≤ n ∧ n ≤ 30 ∧ Int.gcd d n = 1
theorem lvl_both {d n : Int} (hd : OkD d) : ∃ b, r_impl_isLevel d n = some b ∧ r_spec_lvGood d n = some b ∧ (b = true → 1 ≤ n ∧ n ≤ 30 ∧ Int.gcd d n = 1) := by
  obtain ⟨d1, d2, _⟩ := hd
  by_cases hn : 1 ≤ n ∧ n ≤ 30
  · refine ⟨eqI (Int.gcd d n : Int) 1, ?_, ?_, fun h => ⟨hn.1, hn.2, ?_⟩⟩
    · simp only [r_impl_isLevel, leI_eq, decide_eq_true hn.1, decide_eq_true hn.2, cond_true, gcd_val (a := d) (b := n) (by omega) (by omega), Option.bind_some]
    · simp only [r_spec_lvGood, r_spec_l1In, leI_eq, decide_eq_true hn.1, decide_eq_true hn.2, cond_true, tgcd_val (a := d) (b := n) (by omega) (by omega), Option.bind_some]
    · rw [eqI_eq] at h
      have := eq_of_beq h
      omega
  · have h1 : (bif leI 1 n then leI n 30 else false) = false := by
      rw [leI_eq, leI_eq]
      rcases Int.lt_or_le n 1 with h | h
      · rw [decide_eq_false (by omega)]; rfl
      · rw [decide_eq_false (show ¬ n ≤ 30 by omega)]; cases decide (1 ≤ n) <;> rfl
    refine ⟨false, ?_, ?_, fun h => by cases h⟩
    · simp only [r_impl_isLevel, h1, cond_false, Option.bind_some]
    · simp only [r_spec_lvGood, r_spec_l1In, h1, cond_false, Option.bind_some]
theorem raw_FnLevelClasses (code more : List Int) (hc8 : ∀ x ∈ code, 0 ≤ x ∧ x ≤ 255) (hm8 : ∀ x ∈ more, 0 ≤ x ∧ x ≤ 255) : r_laws_FnLevelClasses code more = some true := by
  rcases big_cases code more with hb | ⟨hb, hc, hm⟩
  · simp only [r_laws_FnLevelClasses, hb, Option.bind_some, cond_true]
  obtain ⟨d, n, ed⟩ := lv_draw hc hc8
  have hF := FUge
  have hnil : r_laws_pSameForms [] [] = some true := forms_self [] (by simp)
  simp only [r_laws_FnLevelClasses, hb, ed, Option.bind_some, cond_false]
  by_cases hd : OkD d
  · obtain ⟨b, g1, g2, g3⟩ := lvl_both (n := n) hd
    have hneg : r_impl_isNegativeDisc d = some true := by rw [negdisc_val]; exact congrArg some (decide_eq_true hd)
    have hnegs : r_spec_reDisc d = some true := by rw [okd_val, decide_eq_true hd]
    cases b with
    | false => simp [r_impl_LevelClasses, r_impl_LevelRoots, r_spec_LevelClasses, hneg, hnegs, g1, g2, hnil]
    | true =>
      obtain ⟨hn, hn2, hg⟩ := g3 rfl
      obtain ⟨N, rfl⟩ := Int.eq_ofNat_of_zero_le (show 0 ≤ n by omega)
      have hD1 := hd.1
      have hD2 := hd.2.1
      obtain ⟨rv1, rv2⟩ := roots_val (d := d) (N := N) (by omega) (by omega) (by omega)
      have hRm : ∀ r ∈ rts d N 0 (2 * N), 0 ≤ r ∧ r < 2 * (N : Int) ∧ 4 * (N : Int) ∣ r * r - d := fun r hr => roots_mem (by omega) hr
      have hRn := roots_nodup d N (2 * N)
      have hRl := roots_len d N (2 * N)
      generalize rts d N 0 (2 * N) = R at *
      obtain ⟨L, l1, l2, l3, l4⟩ := relist_val hD1 hD2
      have l1' : r_impl_reducedForms d = some L := by rw [iforms_eq hD1 hD2, l1]
      have hLp : ∀ f ∈ L, PrRc d f := fun f hf => prc_of_prr ((l3 f).1 hf)
      have lr : r_impl_LevelRoots d (N : Int) = some (R, true) := by
        simp only [r_impl_LevelRoots, hneg, g1, rv1, Option.bind_some, Bool.not_true, cond_false]
      have hnum : r_impl_areNumbers [d] = some true := by
        rw [num_val _ (by simp)]
        simp only [List.all_cons, List.all_nil, Bool.and_true]
        exact congrArg some (inN_iff.2 (by omega))
      have rd : r_impl_RootsOfDiscriminant d (N : Int) = some (R, true) := by
        simp only [r_impl_RootsOfDiscriminant, hnum, rv1, Option.bind_some, Bool.not_true, cond_false, ltI_eq, decide_eq_false (show ¬ (N : Int) < 1 by omega), decide_eq_false (show ¬ (2500 : Int) < (N : Int) by omega)]
      have cn : r_impl_ClassNumber d = some ((L.length : Int), true) := by
        simp only [r_impl_ClassNumber, r_impl_ReducedForms, hneg, l1', Option.bind_some, Bool.not_true, cond_false]
      rcases out_run hD1 (by omega) hn hn2 hLp l2 l1' l1 hRm (by omega) (b := true) FU 0 [] (by omega) (by omega) (by simp) with ⟨a1, a2, a3⟩ | ⟨a1, a2⟩
      · have e0 : ((0 : Nat) : Int) = 0 := rfl
        rw [e0, List.drop_zero, List.nil_append] at a1 a2
        rw [List.drop_zero] at a3
        have i1 : r_impl_LevelClasses d (N : Int) = some (R.flatMap fun r => L.map (lvH (N : Int) r), true) := by
          simp only [r_impl_LevelClasses, lr, a1, Option.bind_some, Bool.not_true, cond_false]
        have i2 : r_spec_LevelClasses d (N : Int) = some (R.flatMap fun r => L.map (lvH (N : Int) r), true) := by
          simp only [r_spec_LevelClasses, hnegs, g2, rv2, a2, Option.bind_some, Bool.not_true, cond_false]
        have hlen := flat_len L (lvH (N : Int)) R
        have hlen2 : R.length * L.length ≤ 60 * 27000 := Nat.mul_le_mul (by omega) l2
        have hget := flat_get L (lvH (N : Int)) R
        generalize hA : (R.flatMap fun r => L.map (lvH (N : Int) r)) = A at *
        have hself : r_laws_pSameForms A A = some true := forms_self A (by omega)
        have hints : r_laws_sameInts R R = some true := ints_self R (by omega)
        have hcount : eqI (A.length : Int) (w64 ((L.length : Int) * (R.length : Int))) = true := by
          rw [← Int.natCast_mul, Nat.mul_comm, ← hlen, w64_in (by omega), eqI_true]
        simp only [i1, i2, hself, cn, lr, rd, hcount, hints, Option.bind_some, bne_self_eq_false, Bool.not_true, cond_false]
        by_cases hz : A.length = 0
        · rw [hz]; rfl
        · obtain ⟨z, ez, z0, z1⟩ := numberOf_ok hm hm8
          have hA0 : (0 : Int) < (A.length : Int) := by omega
          have t1 := tmod_range z0 hA0
          have q0 : 0 ≤ Int.tdiv z (A.length : Int) := Int.tdiv_nonneg z0 (by omega)
          have q1 : Int.tdiv z (A.length : Int) ≤ z := by
            rw [Int.tdiv_eq_ediv_of_nonneg z0]
            exact Int.ediv_le_self _ z0
          have t2 := tmod_range (x := Int.tdiv z (A.length : Int)) q0 hA0
          rw [eqI_false (show (A.length : Int) ≠ 0 by omega)]
          simp only [cond_false, ez, Option.bind_some, nz_ne (show (A.length : Int) ≠ 0 by omega), sI_eq]
          rw [w64_in (n := Int.tdiv z (A.length : Int)) (by omega)]
          obtain ⟨i, hi⟩ := Int.eq_ofNat_of_zero_le t1.1
          obtain ⟨j, hj⟩ := Int.eq_ofNat_of_zero_le t2.1
          rw [hi] at t1
          rw [hj] at t2
          rw [hi, hj]
          obtain ⟨pi, pi2, gi⟩ := hget i (by omega)
          obtain ⟨pj, pj2, gj⟩ := hget j (by omega)
          have gI : ∀ {x : F3} {k : Nat}, A[k]? = some x → getI A (k : Int) = some x := by
            intro x k h
            obtain ⟨h1, h2⟩ := List.getElem?_eq_some_iff.1 h
            rw [getNat h1, h2]
          have mk : ∀ {r : Int} {f : F3}, r ∈ R → f ∈ L → LvI d (N : Int) r f (lvH (N : Int) r f) := by
            intro r f hr hf
            obtain ⟨r0, r1, r2⟩ := hRm r hr
            obtain ⟨h, e1, e2, e3⟩ := level_both hD1 (by omega) (hLp f hf) hn hn2 r0 r1 r2
            have eH : lvH (N : Int) r f = h := by unfold lvH; rw [e3]; rfl
            rw [eH]
            have := a3 r hr f hf
            rw [eH] at this
            exact lvi_of hD1 (by omega) (hLp f hf) e1 this
          have mi := mk (List.getElem_mem pi) (List.getElem_mem pi2)
          have mj := mk (List.getElem_mem pj) (List.getElem_mem pj2)
          obtain ⟨ri0, ri1, _⟩ := hRm _ (List.getElem_mem pi)
          obtain ⟨rj0, rj1, _⟩ := hRm _ (List.getElem_mem pj)
          have av := are_val hD1 (by omega) hn hn2 hg mi mj ri0 ri1 rj0 rj1 (fun e1 e2 => by rw [e1, e2])
          have rv := rootOf_val hD1 (by omega) hn hn2 hg mi ri0 ri1
          obtain ⟨hs1, hs2⟩ := has_val hD1 (by omega) hn hn2 hg mi
          have hdec : decide (L[i % L.length] = L[j % L.length] ∧ R[i / L.length] = R[j / L.length]) = eqI (i : Int) (j : Int) := by
            rw [eqI_eq, Bool.eq_iff_iff, decide_eq_true_iff, beq_iff_eq]
            constructor
            · rintro ⟨e1, e2⟩
              have e3 := nod_inj l4 pi2 pj2 e1
              have e4 := nod_inj hRn pi pj e2
              have e5 := Nat.div_add_mod i L.length
              have e6 := Nat.div_add_mod j L.length
              rw [e3, e4] at e5
              omega
            · intro e
              have e : i = j := by omega
              subst e
              exact ⟨rfl, rfl⟩
          have hLp0 : 0 < L.length := by omega
          have hidx : w64 (Int.tdiv (i : Int) (L.length : Int)) = ((i / L.length : Nat) : Int) := by
            rw [Int.tdiv_eq_ediv_of_nonneg (by omega), ← Int.natCast_ediv]
            have h := Nat.div_le_self i L.length
            generalize i / L.length = q at h ⊢
            exact w64_in (by omega)
          have isl : r_impl_IsLevelForm (lvH (N : Int) R[i / L.length] L[i % L.length]) (N : Int) = some (true, true) := by
            simp only [r_impl_IsLevelForm, hs1, hs2, Option.bind_some]
          simp only [gI gi, gI gj, av, rv, isl, Option.bind_some, cond_true, hdec, beq_self_eq_true, nz_ne (show (L.length : Int) ≠ 0 by omega), hidx, getNat pi, eqI_true]
      · have e0 : ((0 : Nat) : Int) = 0 := rfl
        rw [e0] at a1 a2
        have i1 : r_impl_LevelClasses d (N : Int) = some ([], false) := by
          simp only [r_impl_LevelClasses, lr, a1, Option.bind_some, Bool.not_true, cond_false]
        have i2 : r_spec_LevelClasses d (N : Int) = some ([], false) := by
          simp only [r_spec_LevelClasses, hnegs, g2, rv2, a2, Option.bind_some, Bool.not_true, cond_false]
        simp [i1, i2, hnil]
  · have hneg : r_impl_isNegativeDisc d = some false := by rw [negdisc_val]; exact congrArg some (decide_eq_false hd)
    have hnegs : r_spec_reDisc d = some false := by rw [okd_val, decide_eq_false hd]
    simp [r_impl_LevelClasses, r_impl_LevelRoots, r_spec_LevelClasses, hneg, hnegs, hnil]
end Go.Proofs.Ytgeajejmikaniaa
