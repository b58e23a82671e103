/-
  Indefinite forms: neighbours, ways to a cycle and cycles, both ways.
  Conditions: none.
-/
import Derived.Test.YtgeajejmikaniaaIvRiv
import Derived.Test.YtgeajejmikaniaaIvVlPt
import Derived.Test.YtgeajejmikaniaaIvW64
import Derived.Test.YtgeajejmikaniaaIvInv
namespace Go.Proofs.Ytgeajejmikaniaa
set_option linter.unusedVariables false
set_option linter.unusedSimpArgs false

abbrev F3 := Int × Int × Int
abbrev M4 := Int × Int × Int × Int
/-! ### Discriminants -/
/-- A positive discriminant with its root. -/
structure Pd (D r : Int) : Prop where
  d5 : 5 ≤ D
  dM : D ≤ 1000
  d4 : D % 4 ≤ 1
  sq : Sq D r
  r31 : r ≤ 31
  rt : r_impl_root D = some r
  srt : r_spec_nuRoot D = some r
theorem roots_same {q r t : Int} (r0 : 0 ≤ r) (r2 : r * r ≤ q) (r3 : q < (r + 1) * (r + 1)) (t0 : 0 ≤ t) (t2 : t * t ≤ q) (t3 : q < (t + 1) * (t + 1)) : t = r := by
  rcases Int.lt_trichotomy t r with h1 | h1 | h1
  · have : (t + 1) * (t + 1) ≤ r * r := Int.mul_le_mul (by omega) (by omega) (by omega) (by omega)
    omega
  · exact h1
  · have : (r + 1) * (r + 1) ≤ t * t := Int.mul_le_mul (by omega) (by omega) (by omega) (by omega)
    omega
theorem pd_val (d : Int) : ∃ b, r_impl_isPositiveDisc d = some b ∧ r_spec_cyDisc d = some b ∧ (b = true → ∃ r, Pd d r) := by
  by_cases h : 5 ≤ d ∧ d ≤ 1000
  · obtain ⟨h1, h2⟩ := h
    obtain ⟨r, e1, r0, r1, r2, r3⟩ := root_val (q := d) (by omega) (by omega)
    obtain ⟨t, e2, t0, t1, t2, t3⟩ := sroot_val (q := d) (by omega) (by omega)
    have ht := roots_same r0 r2 r3 t0 t2 t3
    subst ht
    have hr : t ≤ 31 := by
      rcases Int.lt_or_le 31 t with h | h
      · have : 32 * 32 ≤ t * t := Int.mul_le_mul (by omega) (by omega) (by omega) (by omega)
        omega
      · exact h
    have htt : t * t ≤ 31 * 31 := Int.mul_le_mul hr hr t0 (by omega)
    have htt0 := sqn t
    refine ⟨decide (d % 4 ≤ 1) && !eqI (t * t) d, ?_, ?_, fun hb => ?_⟩
    · simp only [r_impl_isPositiveDisc, r_impl_isSquare, leI_eq, decide_eq_true h1, decide_eq_true h2, decide_eq_true (show 0 ≤ d by omega), cond_true, dsc_mod_val (a := d) (m := 4) (by omega) (by omega), e1, Option.bind_some]
      rw [w64_in (n := t * t) (by omega)]
      cases decide (d % 4 ≤ 1) <;> rfl
    · have el : ltI (d % 4) 2 = decide (d % 4 ≤ 1) := by
        rw [ltI_eq, decide_eq_decide]; omega
      simp only [r_spec_cyDisc, r_spec_l1In, r_spec_nuSquare, leI_eq, ltI_eq, decide_eq_true h1, decide_eq_true h2, decide_eq_false (show ¬ d < 0 by omega), cond_true, cond_false, dsc_mod, dsc_mod_val (a := d) (m := 4) (by omega) (by omega), e2, Option.bind_some]
      rw [w64_in (n := t * t) (by omega)]
      rw [ltI_eq] at el
      rw [el]
      cases decide (d % 4 ≤ 1) <;> rfl
    · simp only [Bool.and_eq_true, decide_eq_true_eq, Bool.not_eq_true', eqI_eq, beq_eq_false_iff_ne] at hb
      have h1t : 1 ≤ t := by
        rcases Int.lt_or_le 0 t with h | h
        · exact h
        · have : t = 0 := by omega
          subst this
          omega
      exact ⟨t, h1, h2, hb.1, ⟨h1t, by omega, t3⟩, hr, e1, e2⟩
  · have h1 : (bif leI 5 d then leI d 1000 else false) = false := by
      rw [leI_eq, leI_eq]
      by_cases h5 : 5 ≤ d
      · rw [decide_eq_false (show ¬ d ≤ 1000 by omega)]; cases decide (5 ≤ d) <;> rfl
      · rw [decide_eq_false h5]; rfl
    refine ⟨false, ?_, ?_, fun h => by cases h⟩
    · simp only [r_impl_isPositiveDisc, h1, cond_false, Option.bind_some]
    · simp only [r_spec_cyDisc, r_spec_l1In, h1, cond_false, Option.bind_some]
/-- A form of the discriminant with coefficients in range. -/
structure Fm (D : Int) (f : F3) : Prop where
  ia : inN f.1 = true
  ib : inN f.2.1 = true
  ic : inN f.2.2 = true
  dis : f.2.1 * f.2.1 - 4 * f.1 * f.2.2 = D
theorem Fm.disc {D : Int} {f : F3} (h : Fm D f) : r_impl_Form_disc f = some D := by
  obtain ⟨a, b, c⟩ := f
  have := disc_val h.ia h.ib h.ic
  rw [this, h.dis]
theorem Fm.sdisc {D : Int} {f : F3} (h : Fm D f) : r_spec_foDisc f = some D := by rw [disc_eq]; exact h.disc
theorem ind_val (f : F3) : ∃ b, r_impl_isIndefinite f = some b ∧ r_spec_cyGood f = some b ∧ (b = true → ∃ D r, Pd D r ∧ Fm D f) := by
  simp only [r_impl_isIndefinite, r_spec_cyGood, form_val, sform_val, Option.bind_some]
  cases h : (inN f.1 && (inN f.2.1 && inN f.2.2)) with
  | false => exact ⟨false, rfl, rfl, fun h => by cases h⟩
  | true =>
    simp only [Bool.and_eq_true] at h
    have hF : Fm (f.2.1 * f.2.1 - 4 * f.1 * f.2.2) f := ⟨h.1, h.2.1, h.2.2, rfl⟩
    obtain ⟨b, e1, e2, e3⟩ := pd_val (f.2.1 * f.2.1 - 4 * f.1 * f.2.2)
    refine ⟨b, by simp only [cond_true, hF.disc, e1, Option.bind_some], by simp only [cond_true, hF.sdisc, e2, Option.bind_some], fun hb => ?_⟩
    obtain ⟨r, hr⟩ := e3 hb
    exact ⟨_, r, hr, hF⟩
theorem ind_of {D r : Int} (h : Pd D r) {f : F3} (hf : Fm D f) : r_impl_isIndefinite f = some true ∧ r_spec_cyGood f = some true := by
  have hin : (inN f.1 && (inN f.2.1 && inN f.2.2)) = true := by rw [hf.ia, hf.ib, hf.ic]; rfl
  have hp : r_impl_isPositiveDisc D = some true ∧ r_spec_cyDisc D = some true := by
    obtain ⟨h5, hM, h4, hs, h31, rt, srt⟩ := h
    have htt : r * r ≤ 31 * 31 := Int.mul_le_mul h31 h31 (by have := hs.r1; omega) (by omega)
    have hne : eqI (r * r) D = false := eqI_false (hs.ns r)
    have h0 := hs.r1
    have hrr : 0 ≤ r * r := sqn r
    constructor
    · simp only [r_impl_isPositiveDisc, r_impl_isSquare, leI_eq, decide_eq_true h5, decide_eq_true hM, decide_eq_true (show 0 ≤ D by omega), cond_true, dsc_mod_val (a := D) (m := 4) (by omega) (by omega), rt, Option.bind_some, decide_eq_true h4]
      rw [w64_in (n := r * r) (by omega), hne]
      rfl
    · simp only [r_spec_cyDisc, r_spec_l1In, r_spec_nuSquare, leI_eq, ltI_eq, decide_eq_true h5, decide_eq_true hM, decide_eq_false (show ¬ D < 0 by omega), cond_true, cond_false, dsc_mod, dsc_mod_val (a := D) (m := 4) (by omega) (by omega), srt, Option.bind_some, decide_eq_true (show D % 4 < 2 by omega)]
      rw [w64_in (n := r * r) (by omega), hne]
      rfl
  simp only [r_impl_isIndefinite, r_spec_cyGood, form_val, sform_val, Option.bind_some, hin, cond_true, hf.disc, hf.sdisc, hp.1, hp.2, and_self]
theorem fm_c {D r a b c : Int} (h : Pd D r) (hf : Fm D (a, b, c)) : c ≠ 0 ∧ a ≠ 0 := by
  have hd := hf.dis
  simp only [] at hd
  constructor
  · intro e
    subst e
    exact h.sq.ns b (by rw [← hd]; grind)
  · intro e
    subst e
    exact h.sq.ns b (by rw [← hd]; grind)
instance (r : Int) (f : F3) : Decidable (Cy r f) := inferInstanceAs (Decidable (_ ∧ _))
theorem cyc_val {D r : Int} (h : Pd D r) {f : F3} (hf : Fm D f) : r_impl_Form_isCyclic f = some (decide (Cy r f)) ∧ r_spec_cyIs f = some (decide (Cy r f)) := by
  obtain ⟨a, b, c⟩ := f
  have ia := inN_iff.1 hf.ia
  have ib := inN_iff.1 hf.ib
  simp only [] at ia ib
  have h1 := h.sq.r1
  have h31 := h.r31
  have hab := abs_val (n := a) (by omega)
  have sab := sabs_val (n := a) (by omega)
  constructor
  · simp only [r_impl_Form_isCyclic, hf.disc, h.rt, hab, Option.bind_some, leI_eq, ltI_eq]
    rw [w64_in (n := r - b) (by omega), w64_in (n := 2 * (a.natAbs : Int)) (by omega), w64_in (n := r + b) (by omega)]
    by_cases c1 : 0 < b
    · by_cases c2 : b ≤ r
      · by_cases c3 : r - b < 2 * (a.natAbs : Int)
        · by_cases c4 : 2 * (a.natAbs : Int) ≤ r + b
          · simp [Cy, c1, c2, c3, c4]
          · simp [Cy, c1, c2, c3, c4]
        · simp [Cy, c1, c2, c3]
      · simp [Cy, c1, c2]
    · simp [Cy, c1]
  · simp only [r_spec_cyIs, hf.sdisc, h.srt, sab, Option.bind_some, leI_eq, ltI_eq, sI_eq]
    rw [w64_in (n := r - b) (by omega), w64_in (n := 2 * (a.natAbs : Int)) (by omega), w64_in (n := r + b) (by omega)]
    by_cases c1 : 0 < b
    · by_cases c2 : b ≤ r
      · by_cases c3 : r - b < 2 * (a.natAbs : Int)
        · by_cases c4 : 2 * (a.natAbs : Int) ≤ r + b
          · simp [Cy, c1, c2, c3, c4]
          · simp [Cy, c1, c2, c3, c4]
        · simp [Cy, c1, c2, c3]
      · simp [Cy, c1, c2]
    · simp [Cy, c1]
/-! ### Neighbours -/
def hiN (r c : Int) : Int := if (c.natAbs : Int) ≤ r then r else c.natAbs
theorem spolar_w (a b c x y u v : Int) : r_spec_foPolar (a, b, c) x y u v = some (w64 (2 * a * x * u + b * (x * v + y * u) + 2 * c * y * v)) := by
  simp only [r_spec_foPolar, sI_eq, wml, wmr, wal, war, wsl, wsr]
theorem sact_w (a b c p q r s : Int) : r_spec_foAct (a, b, c) (p, q, r, s) = some (w64 (a * p * p + b * p * r + c * r * r), w64 (2 * a * p * q + b * (p * s + r * q) + 2 * c * r * s), w64 (a * q * q + b * q * s + c * s * s)) := by
  have e : ∀ x y, r_spec_foValue (a, b, c) x y = some (w64 (a * x * x + b * x * y + c * y * y)) := fun x y => at_w a b c x y
  simp only [r_spec_foAct, e, spolar_w, Option.bind_some]
theorem isMat_val' (m : M4) : r_impl_IsMatrix m = some (inN m.1 && (inN m.2.1 && (inN m.2.2.1 && inN m.2.2.2))) := by
  simp only [r_impl_IsMatrix, num_val _ (show [m.1, m.2.1, m.2.2.1, m.2.2.2].length < 1000000 by simp), List.all_cons, List.all_nil, Bool.and_true, Option.bind_some]
theorem smat_val (m : M4) : r_spec_foMatrix m = some (inN m.1 && (inN m.2.1 && (inN m.2.2.1 && inN m.2.2.2))) := by
  simp only [r_spec_foMatrix, good_val, Option.bind_some]
  cases inN m.1 <;> cases inN m.2.1 <;> cases inN m.2.2.1 <;> cases inN m.2.2.2 <;> rfl
/-- The neighbour of any form, both ways. -/
theorem nb_both {D r a b c : Int} (h : Pd D r) (hf : Fm D (a, b, c)) : ∃ t a', nb (hiN r c) (a, b, c) = (c, nbB (hiN r c) (a, b, c), a') ∧ r_impl_Form_neighbour (a, b, c) = some ((c, nbB (hiN r c) (a, b, c), a'), (0, -1, 1, t)) ∧ r_spec_cyMove (a, b, c) = some (0, -1, 1, t) ∧ r_spec_foAct (a, b, c) (0, -1, 1, t) = some (c, nbB (hiN r c) (a, b, c), a') ∧
    Mv a b c 0 (-1) 1 t c (nbB (hiN r c) (a, b, c)) a' ∧ inN t = true ∧ Fm D (c, nbB (hiN r c) (a, b, c), a') ∧ hiN r c - 2 * c.natAbs < nbB (hiN r c) (a, b, c) ∧ nbB (hiN r c) (a, b, c) ≤ hiN r c := by
  obtain ⟨hc0, ha0⟩ := fm_c h hf
  have ia := inN_iff.1 hf.ia
  have ib := inN_iff.1 hf.ib
  have ic := inN_iff.1 hf.ic
  simp only [] at ia ib ic
  have h1 := h.sq.r1
  have h31 := h.r31
  obtain ⟨k, k1, k2, k3, k4, kM⟩ := nb_mk (r := hiN r c) (a := a) (b := b) hc0
  have hh : r ≤ hiN r c ∧ (c.natAbs : Int) ≤ hiN r c ∧ hiN r c ≤ 1000000 ∧ (hiN r c = r ∨ hiN r c = (c.natAbs : Int)) := by
    unfold hiN
    split <;> omega
  have hbe : nbB (hiN r c) (a, b, c) = hiN r c - (hiN r c + b) % (2 * (c.natAbs : Int)) := rfl
  have hab := abs_val (n := c) (by omega)
  have sab := sabs_val (n := c) (by omega)
  have hdis := hf.dis
  simp only [] at hdis
  have hdm := kM.disc
  rw [hdis] at hdm
  have hik : ((if 0 < c then k else -k) : Int) = k ∨ ((if 0 < c then k else -k) : Int) = -k := by split <;> simp
  have ht2 : b + nbB (hiN r c) (a, b, c) = 2 * c * (if 0 < c then k else -k) := by
    rw [k1]
    split
    · rw [show (c.natAbs : Int) = c by omega]
    · rw [show (c.natAbs : Int) = -c by omega]; grind
  have hd4 : nbB (hiN r c) (a, b, c) * nbB (hiN r c) (a, b, c) - D = 4 * c * (if 0 < c then a - k * b + k * k * c else a + k * b + k * k * c) := by omega
  generalize hT : (if 0 < c then k else -k : Int) = t at *
  generalize hA : (if 0 < c then a - k * b + k * k * c else a + k * b + k * k * c : Int) = a' at *
  generalize hB : nbB (hiN r c) (a, b, c) = b' at *
  have hhi := hh.2.2.2
  have hc1 : 1 ≤ (c.natAbs : Int) := by omega
  -- bounds
  have hb' : b'.natAbs ≤ 1000000 := by omega
  have hbb := abs_mul hb' hb'
  have hDM := h.dM
  have hD5 := h.d5
  have htb : t.natAbs ≤ 1000000 := by
    have e : (2 * c * t).natAbs = 2 * c.natAbs * t.natAbs := by rw [Int.natAbs_mul, Int.natAbs_mul]; rfl
    have : t.natAbs * 2 ≤ 2 * c.natAbs * t.natAbs := by
      rw [Nat.mul_comm]
      exact Nat.mul_le_mul_right _ (by omega)
    omega
  have hab' : a'.natAbs ≤ 1000000 := by
    have e : (4 * c * a').natAbs = 4 * c.natAbs * a'.natAbs := by rw [Int.natAbs_mul, Int.natAbs_mul]; rfl
    rcases hhi with h2 | h2
    · have hb2 : b'.natAbs ≤ 62 := by omega
      have := abs_mul hb2 hb2
      have h3 : a'.natAbs * 4 ≤ 4 * c.natAbs * a'.natAbs := by
        rw [Nat.mul_comm]
        exact Nat.mul_le_mul_right _ (by omega)
      omega
    · have hb2 : b'.natAbs ≤ c.natAbs := by omega
      have h3 := abs_mul hb2 hb2
      have h4 : (b' * b' - D).natAbs ≤ c.natAbs * c.natAbs + 1000 := by omega
      rw [hd4, e] at h4
      rcases Nat.lt_or_ge 1000000 a'.natAbs with h5 | h5
      · have h6 : 4 * c.natAbs * 1000001 ≤ 4 * c.natAbs * a'.natAbs := Nat.mul_le_mul_left _ h5
        have h7 : c.natAbs * c.natAbs ≤ c.natAbs * 1000000 := Nat.mul_le_mul_left _ (by omega)
        omega
      · exact h5
  have hin1 : inN b' = true := inN_iff.2 (by omega)
  have hin2 : inN a' = true := inN_iff.2 (by omega)
  have htn : inN t = true := inN_iff.2 (by omega)
  have hmod : r_impl_mod (hiN r c + b) (2 * (c.natAbs : Int)) = some ((hiN r c + b) % (2 * (c.natAbs : Int))) := dsc_mod_val (by omega) (by omega)
  have hmod0 := Int.emod_nonneg (hiN r c + b) (b := 2 * (c.natAbs : Int)) (by omega)
  have hmod1 := Int.emod_lt_of_pos (hiN r c + b) (b := 2 * (c.natAbs : Int)) (by omega)
  have q1 : Int.tdiv (b + b') (2 * c) = t := tdv (by omega) ht2.symm
  have q2 : Int.tdiv (b' * b' - D) (4 * c) = a' := tdv (by omega) hd4.symm
  refine ⟨t, a', k4, ?_, ?_, ?_, kM, htn, ⟨hf.ic, hin1, hin2, hdm⟩, by omega, by omega⟩
  · have hj : (r_impl_root D).bind (fun y5 => bif leI (c.natAbs : Int) y5 then some y5 else some (c.natAbs : Int)) = some (hiN r c) := by
      rw [h.rt, Option.bind_some, leI_eq]
      unfold hiN
      by_cases hc : (c.natAbs : Int) ≤ r
      · rw [decide_eq_true hc, if_pos hc]; rfl
      · rw [decide_eq_false hc, if_neg hc]; rfl
    simp only [r_impl_Form_neighbour, hf.disc, hab, hj, Option.bind_some, sI_eq]
    rw [w64_in (n := hiN r c + b) (by omega), w64_in (n := 2 * (c.natAbs : Int)) (by omega), hmod, Option.bind_some, ← hbe, w64_in (n := b') (by omega), w64_in (n := 4 * c) (by omega), w64_in (n := 2 * c) (by omega), nz_ne (show 4 * c ≠ 0 by omega), nz_ne (show 2 * c ≠ 0 by omega), Option.bind_some, Option.bind_some, w64_in (n := b + b') (by omega), q1, w64_in (n := t) (by omega), w64_in (n := b' * b') (by omega), w64_in (n := b' * b' - D) (by omega), q2, w64_in (n := a') (by omega)]
  · have hj : (bif ltI r (c.natAbs : Int) then some (c.natAbs : Int) else some r) = some (hiN r c) := by
      rw [ltI_eq]
      unfold hiN
      by_cases hc : (c.natAbs : Int) ≤ r
      · rw [decide_eq_false (by omega), if_pos hc]; rfl
      · rw [decide_eq_true (by omega), if_neg hc]; rfl
    simp only [r_spec_cyMove, hf.sdisc, h.srt, sab, hj, Option.bind_some, sI_eq, dsc_mod]
    rw [w64_in (n := hiN r c + b) (by omega), w64_in (n := 2 * (c.natAbs : Int)) (by omega), hmod, Option.bind_some, ← hbe, w64_in (n := b') (by omega), w64_in (n := 2 * c) (by omega), nz_ne (show 2 * c ≠ 0 by omega), Option.bind_some, w64_in (n := b + b') (by omega), q1, w64_in (n := t) (by omega)]
  · rw [sact_w]
    have e2 : 2 * a * 0 * -1 + b * (0 * t + 1 * -1) + 2 * c * 1 * t = b' := by rw [← kM.e2]; grind
    rw [kM.e1, kM.e3, e2, w64_in (n := c) (by omega), w64_in (n := b') (by omega), w64_in (n := a') (by omega)]
/-- On a cycle. -/
theorem cy_fm {D r : Int} (h : Pd D r) {f : F3} (hf : CyD D r f) : Fm D f ∧ hiN r f.2.2 = r := by
  obtain ⟨a, b, c⟩ := f
  obtain ⟨_, _, _, l4, _, l6⟩ := cy_last (a := a) (b := b) (c := c) h.sq hf.2 hf.1
  have h1 := hf.1.1
  have h2 := hf.1.2.1
  have h31 := h.r31
  simp only [] at h1 h2 ⊢
  refine ⟨⟨inN_iff.2 (by simp only []; omega), inN_iff.2 (by simp only []; omega), inN_iff.2 (by simp only []; omega), hf.2⟩, ?_⟩
  unfold hiN
  rw [if_pos l4]
/-! ### The way to the cycle -/
def rankC (r c : Int) : Nat := if 2 * (c.natAbs : Int) ≤ r then 0 else if (c.natAbs : Int) ≤ r then 1 else c.natAbs + 2
theorem rank_step {D r a b c a' : Int} (h : Pd D r) (hf : Fm D (a, b, c)) (hf' : Fm D (c, nbB (hiN r c) (a, b, c), a')) (w1 : hiN r c - 2 * c.natAbs < nbB (hiN r c) (a, b, c)) (w2 : nbB (hiN r c) (a, b, c) ≤ hiN r c) : Cy r (c, nbB (hiN r c) (a, b, c), a') ∨ rankC r a' < rankC r c := by
  obtain ⟨hc0, ha0⟩ := fm_c h hf
  have hd := hf'.dis
  simp only [] at hd
  have h1 := h.sq.r1
  have hlo := h.sq.lo
  have hhi := h.sq.hi
  generalize nbB (hiN r c) (a, b, c) = b' at *
  have e : (4 * c * a').natAbs = 4 * c.natAbs * a'.natAbs := by rw [Int.natAbs_mul, Int.natAbs_mul]; rfl
  have hd2 : 4 * c * a' = b' * b' - D := by omega
  by_cases c1 : 2 * (c.natAbs : Int) ≤ r
  · left
    have hr : hiN r c = r := by unfold hiN; rw [if_pos (by omega)]
    rw [hr] at w1 w2
    exact ⟨by simp only []; omega, by simp only []; omega, by simp only []; omega, by simp only []; omega⟩
  · by_cases c2 : (c.natAbs : Int) ≤ r
    · have hr : hiN r c = r := by unfold hiN; rw [if_pos (by omega)]
      rw [hr] at w1 w2
      by_cases c3 : Cy r (c, b', a')
      · exact .inl c3
      · right
        have hk : r + b' < 2 * c.natAbs := by
          rcases Int.lt_or_le (r + b') (2 * c.natAbs) with h | h
          · exact h
          · exfalso
            refine c3 ⟨?_, w2, ?_, h⟩ <;> simp only [] <;> omega
        have h2a : 2 * (a'.natAbs : Int) ≤ r := by
          rcases Int.lt_or_le r (2 * (a'.natAbs : Int)) with h2 | h2
          · exfalso
            have hbabs : r + b'.natAbs + 1 ≤ 2 * (c.natAbs : Int) := by omega
            have k1 : (r + b'.natAbs + 1) * (r + 1) ≤ 2 * (c.natAbs : Int) * (2 * (a'.natAbs : Int)) := Int.mul_le_mul hbabs h2 (by omega) (by omega)
            have k2 : 2 * (c.natAbs : Int) * (2 * (a'.natAbs : Int)) = ((4 * c * a').natAbs : Int) := by rw [e]; push_cast; grind
            have k3 := sq_lt h.sq (x := b') (by omega) w2
            have k4 : (r + b'.natAbs + 1) * (r + 1) = (r + 1) * (r + 1) + (b'.natAbs : Int) * (r + 1) := by grind
            have k5 : 0 ≤ (b'.natAbs : Int) * (r + 1) := Int.mul_nonneg (by omega) (by omega)
            have k6 := sqn b'
            omega
          · exact h2
        unfold rankC
        rw [if_pos h2a, if_neg c1, if_pos c2]
        decide
    · right
      have hr : hiN r c = c.natAbs := by unfold hiN; rw [if_neg c2]
      rw [hr] at w1 w2
      have hb2 : b'.natAbs ≤ c.natAbs := by omega
      have h3 := abs_mul hb2 hb2
      have h6 := sqn b'
      have h7 : (r + 1) * (r + 1) ≤ (c.natAbs : Int) * (c.natAbs : Int) := Int.mul_le_mul (by omega) (by omega) (by omega) (by omega)
      have hD0 := h.d5
      have h4 : (4 * c * a').natAbs ≤ c.natAbs * c.natAbs := by
        rw [hd2]
        have : ((c.natAbs * c.natAbs : Nat) : Int) = (c.natAbs : Int) * (c.natAbs : Int) := by push_cast; rfl
        omega
      rw [e] at h4
      have h5 : a'.natAbs < c.natAbs := by
        rcases Nat.lt_or_ge a'.natAbs c.natAbs with h | h
        · exact h
        · have : 4 * c.natAbs * c.natAbs ≤ 4 * c.natAbs * a'.natAbs := Nat.mul_le_mul_left _ h
          have e3 : 4 * c.natAbs * c.natAbs = 4 * (c.natAbs * c.natAbs) := Nat.mul_assoc ..
          have : 0 < c.natAbs * c.natAbs := Nat.mul_pos (by omega) (by omega)
          omega
      unfold rankC
      rw [if_neg c1, if_neg c2]
      split
      · omega
      · split <;> omega
/-- The product with a neighbour's matrix. -/
theorem times_nb {p q s u t : Int} (h1 : inN p = true) (h2 : inN q = true) (h3 : inN s = true) (h4 : inN u = true) (ht : inN t = true) : r_impl_Matrix_times (p, q, s, u) (0, -1, 1, t) = some (p * 0 + q * 1, p * -1 + q * t, s * 0 + u * 1, s * -1 + u * t) := by
  rw [inN_iff] at h1 h2 h3 h4 ht
  have m1 := abs_mul (x := q) (y := t) (A := 1000000) (B := 1000000) (by omega) (by omega)
  have m2 := abs_mul (x := u) (y := t) (A := 1000000) (B := 1000000) (by omega) (by omega)
  rw [times_w, w64_in (n := p * 0 + q * 1) (by omega), w64_in (n := p * -1 + q * t) (by omega), w64_in (n := s * 0 + u * 1) (by omega), w64_in (n := s * -1 + u * t) (by omega)]
theorem stimes_eq : r_spec_foMul = r_impl_Matrix_times := rfl
def okM (m : M4) : Bool := inN m.1 && (inN m.2.1 && (inN m.2.2.1 && inN m.2.2.2))
theorem okM_iff {m : M4} (h : okM m = true) : inN m.1 = true ∧ inN m.2.1 = true ∧ inN m.2.2.1 = true ∧ inN m.2.2.2 = true := by
  unfold okM at h
  simp only [Bool.and_eq_true] at h
  exact ⟨h.1, h.2.1, h.2.2.1, h.2.2.2⟩
theorem next_val {D r a b c : Int} (h : Pd D r) (hf : Fm D (a, b, c)) : ∃ t a', r_impl_NextForm (a, b, c) = some ((c, nbB (hiN r c) (a, b, c), a'), (0, -1, 1, t), true) ∧ r_spec_NextForm (a, b, c) = some ((c, nbB (hiN r c) (a, b, c), a'), (0, -1, 1, t), true) ∧
    Mv a b c 0 (-1) 1 t c (nbB (hiN r c) (a, b, c)) a' ∧ inN t = true ∧ Fm D (c, nbB (hiN r c) (a, b, c), a') ∧ hiN r c - 2 * c.natAbs < nbB (hiN r c) (a, b, c) ∧ nbB (hiN r c) (a, b, c) ≤ hiN r c := by
  obtain ⟨t, a', n1, n2, n3, n4, n5, n6, n7, n8, n9⟩ := nb_both h hf
  obtain ⟨g1, g2⟩ := ind_of h hf
  have i0 : inN 0 = true := by decide
  have i1 : inN (-1) = true := by decide
  have i2 : inN 1 = true := by decide
  refine ⟨t, a', ?_, ?_, n5, n6, n7, n8, n9⟩
  · have hfo : r_impl_IsForm (c, nbB (hiN r c) (a, b, c), a') = some true := by rw [form_val, n7.ia, n7.ib, n7.ic]; rfl
    simp only [r_impl_NextForm, g1, n2, hfo, isMat_val', i0, i1, i2, n6, Option.bind_some, Bool.not_true, cond_false, Bool.and_self]
  · have hfo : r_spec_foGood (c, nbB (hiN r c) (a, b, c), a') = some true := by rw [sform_val, n7.ia, n7.ib, n7.ic]; rfl
    simp only [r_spec_NextForm, g2, n3, n4, hfo, smat_val, i0, i1, i2, n6, Option.bind_some, Bool.not_true, cond_false, Bool.and_self]
theorem way_run {D r A B C : Int} (h : Pd D r) : ∀ (n fu : Nat) (p q s u a b c : Int), Fm D (a, b, c) → Mv A B C p q s u a b c → okM (p, q, s, u) = true → rankC r c + 1 ≤ n → n < fu →
    (r_impl_Form_toCycle_L10 fu p q s u a b c = some (.inr ((0, 0, 0), (0, 0, 0, 0), false)) ∧ r_spec_cyReduce_L9 fu p q s u a b c = some (.inr ((0, 0, 0), (0, 0, 0, 0), false))) ∨
    ∃ p' q' s' u' a' b' c', r_impl_Form_toCycle_L10 fu p q s u a b c = some (.inl (p', q', s', u', a', b', c')) ∧ r_spec_cyReduce_L9 fu p q s u a b c = some (.inl (p', q', s', u', a', b', c')) ∧ CyD D r (a', b', c') ∧ Mv A B C p' q' s' u' a' b' c' ∧ okM (p', q', s', u') = true
  | n, 0, p, q, s, u, a, b, c, _, _, _, _, hf => by omega
  | n, fu + 1, p, q, s, u, a, b, c, hF, hM, hok, hn, hf => by
    obtain ⟨e1, e2⟩ := cyc_val h hF
    rw [r_impl_Form_toCycle_L10, r_spec_cyReduce_L9, e1, e2]
    simp only [Option.bind_some]
    by_cases hc : Cy r (a, b, c)
    · rw [decide_eq_true hc]
      simp only [Bool.not_true, cond_false]
      exact .inr ⟨_, _, _, _, _, _, _, rfl, rfl, ⟨hc, hF.dis⟩, hM, hok⟩
    · rw [decide_eq_false hc]
      simp only [Bool.not_false, cond_true]
      obtain ⟨t, a', n1, n2, n3, n4, n5, n6, n7⟩ := next_val h hF
      obtain ⟨o1, o2, o3, o4⟩ := okM_iff hok
      have ht := times_nb o1 o2 o3 o4 n4
      rw [n1, n2]
      simp only [Option.bind_some, Bool.not_true, cond_false, stimes_eq, ht, r_impl_checked, isMat_val', smat_val]
      have hM2 := hM.comp n3
      cases hk : (inN (p * 0 + q * 1) && (inN (p * -1 + q * t) && (inN (s * 0 + u * 1) && inN (s * -1 + u * t)))) with
      | false =>
        simp only [Bool.not_false, cond_true, Option.bind_some]
        exact .inl ⟨by first | trivial | rfl, by first | trivial | rfl⟩
      | true =>
        simp only [Bool.not_true, cond_false, Option.bind_some]
        rcases rank_step h hF n5 n6 n7 with hcy | hrk
        · cases fu with
          | zero => omega
          | succ fu =>
            obtain ⟨x1, x2⟩ := cyc_val h n5
            rw [r_impl_Form_toCycle_L10, r_spec_cyReduce_L9, x1, x2]
            simp only [Option.bind_some]
            rw [decide_eq_true hcy]
            simp only [Bool.not_true, cond_false]
            exact .inr ⟨_, _, _, _, _, _, _, rfl, rfl, ⟨hcy, n5.dis⟩, hM2, hk⟩
        · exact way_run h (n - 1) fu _ _ _ _ _ _ _ n5 hM2 hk (by omega) (by omega)
theorem rank_le {r c : Int} (h : inN c = true) : rankC r c ≤ 1000002 := by
  have := inN_iff.1 h
  unfold rankC
  split
  · omega
  · split <;> omega
theorem FUbig : (1000000000 : Nat) = FU := rfl
/-- A form is led to its cycle, both ways. -/
theorem way_val {D r : Int} (h : Pd D r) {f : F3} (hf : Fm D f) :
    (r_impl_ReduceIndefinite f = some ((0, 0, 0), (0, 0, 0, 0), false) ∧ r_spec_cyReduce f = some ((0, 0, 0), (0, 0, 0, 0), false)) ∨
    ∃ x m, r_impl_ReduceIndefinite f = some (x, m, true) ∧ r_spec_cyReduce f = some (x, m, true) ∧ CyD D r x ∧ Mv f.1 f.2.1 f.2.2 m.1 m.2.1 m.2.2.1 m.2.2.2 x.1 x.2.1 x.2.2 ∧ okM m = true := by
  obtain ⟨a, b, c⟩ := f
  have hrk := rank_le (r := r) hf.ic
  have g1 := (ind_of h hf).1
  rcases way_run h (A := a) (B := b) (C := c) 1000003 FU 1 0 0 1 a b c hf (Mv.one a b c) (by decide) (by simp only [] at hrk ⊢; omega) (by have := FUbig; omega) with ⟨k1, k2⟩ | ⟨p, q, s, u, a', b', c', k1, k2, k3, k4, k5⟩
  · left
    simp only [r_impl_ReduceIndefinite, g1, r_impl_Form_toCycle, r_impl_one, r_spec_cyReduce, k1, k2, Option.bind_some, Bool.not_true, cond_false, and_self]
  · right
    refine ⟨(a', b', c'), (p, q, s, u), ?_, ?_, k3, k4, k5⟩
    · simp only [r_impl_ReduceIndefinite, g1, r_impl_Form_toCycle, r_impl_one, k1, Option.bind_some, Bool.not_true, cond_false]
    · simp only [r_spec_cyReduce, k2, Option.bind_some]
/-! ### The cycle -/
theorem cy_nb {D r : Int} (h : Pd D r) {f : F3} (hf : CyD D r f) : ∃ t, r_impl_Form_neighbour f = some (nb r f, (0, -1, 1, t)) ∧ r_spec_cyMove f = some (0, -1, 1, t) ∧ r_spec_foAct f (0, -1, 1, t) = some (nb r f) ∧ Mv f.1 f.2.1 f.2.2 0 (-1) 1 t (nb r f).1 (nb r f).2.1 (nb r f).2.2 ∧ inN t = true := by
  obtain ⟨hF, hr⟩ := cy_fm h hf
  obtain ⟨a, b, c⟩ := f
  obtain ⟨t, a', n1, n2, n3, n4, n5, n6, _⟩ := nb_both h hF
  simp only [] at hr
  rw [hr] at n1 n2 n4 n5
  rw [n1]
  exact ⟨t, n2, n3, n4, n5, n6⟩
theorem beq3 (f g : F3) : ((f.1 == g.1) && ((f.2.1 == g.2.1) && (f.2.2 == g.2.2))) = decide (f = g) := by
  rw [Bool.eq_iff_iff]
  simp only [Bool.and_eq_true, beq_iff_eq, decide_eq_true_eq]
  constructor
  · rintro ⟨h1, h2, h3⟩; exact Prod.ext h1 (Prod.ext h2 h3)
  · rintro rfl; exact ⟨rfl, rfl, rfl⟩
def cycL (r : Int) (n : Nat) (f : F3) : List F3 := (List.range n).map fun i => itN r i f
theorem ring_run {D r : Int} (h : Pd D r) {f : F3} (hf : CyD D r f) {n : Nat} (hn : 1 ≤ n) (hn2 : n ≤ 10000) (hback : itN r n f = f) (hne : ∀ i, 0 < i → i < n → itN r i f ≠ f) {y2 : F3 × M4} : ∀ (k fu i : Nat), 1 ≤ i → i ≤ n → n - i = k → k < fu →
    r_impl_Form_cycle_L7 f y2 fu (itN r i f).1 (itN r i f).2.1 (itN r i f).2.2 (cycL r i f) = some (cycL r n f) ∧ r_spec_cyCycle_L8 f fu (itN r i f).1 (itN r i f).2.1 (itN r i f).2.2 (cycL r i f) = some (cycL r n f)
  | k, 0, i, _, _, _, hf => by omega
  | k, fu + 1, i, i1, i2, hk, hfu => by
    rw [r_impl_Form_cycle_L7, r_spec_cyCycle_L8]
    have eb := beq3 (itN r i f) f
    rw [eb]
    by_cases hi : i = n
    · subst hi
      rw [hback]
      simp
    · have hx := hne i (by omega) (by omega)
      rw [decide_eq_false hx]
      simp only [Bool.not_false, cond_true]
      obtain ⟨t, n1, n2, n3, _⟩ := cy_nb h (hf.itN h.sq i)
      have e3 : ((itN r i f).1, (itN r i f).2.1, (itN r i f).2.2) = itN r i f := rfl
      have hl : (cycL r i f).length = i := by simp [cycL]
      rw [e3, roomOk (by rw [hl]; simp; omega), n1, n2]
      simp only [Option.bind_some]
      rw [n3]
      simp only [Option.bind_some]
      have es : cycL r i f ++ [itN r i f] = cycL r (i + 1) f := by
        unfold cycL
        rw [List.range_succ, List.map_append]
        rfl
      rw [es, ← itN_succ]
      exact ring_run h hf hn hn2 hback hne (k - 1) fu (i + 1) (by omega) (by omega) (by omega) (by omega)
theorem ring_val {D r : Int} (h : Pd D r) {f : F3} (hf : CyD D r f) : ∃ n, 1 ≤ n ∧ n ≤ 10000 ∧ r_impl_Form_cycle f = some (cycL r n f) ∧ r_spec_cyCycle f = some (cycL r n f) ∧ (∀ g, g ∈ cycL r n f ↔ ∃ j, itN r j f = g) := by
  obtain ⟨n, n1, n2, n3, n4, n5⟩ := cyc_list h.sq h.r31 hf
  obtain ⟨t, m1, m2, m3, _⟩ := cy_nb h hf
  have e1 : nb r f = itN r 1 f := rfl
  have e2 : [f] = cycL r 1 f := rfl
  obtain ⟨r1, r2⟩ := ring_run h hf n1 n2 n3 n4 (y2 := (nb r f, (0, -1, 1, t))) (n - 1) FU 1 (Nat.le_refl _) n1 rfl (by have := FUge; omega)
  refine ⟨n, n1, n2, ?_, ?_, fun g => ?_⟩
  · simp only [r_impl_Form_cycle, m1, Option.bind_some]
    rw [e2, e1] at *
    rw [r1]
    rfl
  · simp only [r_spec_cyCycle, m2, m3, Option.bind_some]
    rw [e2, e1] at *
    rw [r2]
    rfl
  · unfold cycL
    rw [List.mem_map]
    constructor
    · rintro ⟨i, _, rfl⟩; exact ⟨i, rfl⟩
    · rintro ⟨j, rfl⟩
      obtain ⟨i, i1, i2⟩ := n5 j
      exact ⟨i, List.mem_range.2 i1, i2.symm⟩
theorem has_run (g : F3) (l : List F3) (hl : l.length ≤ 100000) : ∀ (fu k : Nat), k ≤ l.length → l.length - k < fu →
    r_impl_hasForm_L4 g l fu (k : Int) = some (if g ∈ l.drop k then .inr true else .inl ()) ∧ r_spec_cyHas_L4 g l fu (k : Int) = some (if g ∈ l.drop k then .inr true else .inl ())
  | 0, k, _, h => by omega
  | fu + 1, k, h0, h1 => by
    rw [r_impl_hasForm_L4, r_spec_cyHas_L4]
    by_cases hk : k < l.length
    · rw [ltI_eq, decide_eq_true (by omega), cond_true, cond_true, getNat hk, List.drop_eq_getElem_cons hk]
      simp only [Option.bind_some, beq3]
      by_cases he : g = l[k]
      · rw [decide_eq_true he, decide_eq_true he.symm, if_pos (by rw [← he]; exact List.mem_cons_self)]
        exact ⟨rfl, rfl⟩
      · rw [decide_eq_false he, decide_eq_false (fun e => he e.symm)]
        simp only [cond_false, sI_eq, wsucc (show k < 1000000000 by omega)]
        obtain ⟨i1, i2⟩ := has_run g l hl fu (k + 1) (by omega) (by omega)
        rw [i1, i2]
        have : (g ∈ l[k] :: l.drop (k + 1)) ↔ g ∈ l.drop (k + 1) := ⟨fun x => (List.mem_cons.1 x).resolve_left he, fun x => List.mem_cons_of_mem _ x⟩
        by_cases hm : g ∈ l.drop (k + 1)
        · rw [if_pos hm, if_pos (this.2 hm)]; exact ⟨rfl, rfl⟩
        · rw [if_neg hm, if_neg (fun x => hm (this.1 x))]; exact ⟨rfl, rfl⟩
    · rw [ltI_eq, decide_eq_false (by omega), cond_false, cond_false, List.drop_eq_nil_of_le (by omega)]
      simp
theorem has_val (g : F3) (l : List F3) (hl : l.length ≤ 100000) : r_impl_hasForm l g = some (decide (g ∈ l)) ∧ r_spec_cyHas l g = some (decide (g ∈ l)) := by
  obtain ⟨h1, h2⟩ := has_run g l hl FU 0 (by omega) (by have := FUge; omega)
  rw [List.drop_zero] at h1 h2
  have e0 : ((0 : Nat) : Int) = 0 := rfl
  rw [e0] at h1 h2
  simp only [r_impl_hasForm, r_spec_cyHas, h1, h2, Option.bind_some]
  by_cases h : g ∈ l
  · simp [h]
  · simp [h]
/-- Along the cycle. -/
theorem along_run {D r A B C : Int} (h : Pd D r) {y : F3} {bk : M4} {ok : Bool} : ∀ (j fu : Nat) (p q s u a b c : Int), CyD D r (a, b, c) → Mv A B C p q s u a b c → okM (p, q, s, u) = true → itN r j (a, b, c) = y → j < fu →
    (r_impl_CycleMatrix_L18 (y, bk, ok) fu p q s u a b c = some (.inr ((0, 0, 0, 0), false)) ∧ r_spec_CycleMatrix_L27 (y, bk, ok) fu p q s u a b c = some (.inr ((0, 0, 0, 0), false))) ∨
    ∃ p' q' s' u', r_impl_CycleMatrix_L18 (y, bk, ok) fu p q s u a b c = some (.inl (p', q', s', u')) ∧ r_spec_CycleMatrix_L27 (y, bk, ok) fu p q s u a b c = some (.inl (p', q', s', u')) ∧ Mv A B C p' q' s' u' y.1 y.2.1 y.2.2 ∧ okM (p', q', s', u') = true
  | j, 0, p, q, s, u, a, b, c, _, _, _, _, hf => by omega
  | j, fu + 1, p, q, s, u, a, b, c, hF, hM, hok, hj, hf => by
    rw [r_impl_CycleMatrix_L18, r_spec_CycleMatrix_L27]
    have eb := beq3 (a, b, c) y
    simp only [] at eb
    simp only [eb, Option.bind_some]
    by_cases hy : (a, b, c) = y
    · rw [decide_eq_true hy]
      simp only [Bool.not_true, cond_false]
      refine .inr ⟨_, _, _, _, rfl, rfl, ?_, hok⟩
      rw [← hy]
      exact hM
    · rw [decide_eq_false hy]
      simp only [Bool.not_false, cond_true]
      obtain ⟨t, n1, n2, n3, n4, n5⟩ := cy_nb h hF
      obtain ⟨o1, o2, o3, o4⟩ := okM_iff hok
      have ht := times_nb o1 o2 o3 o4 n5
      rw [n1, n2]
      simp only [Option.bind_some, n3, stimes_eq, ht, isMat_val', smat_val]
      have hM2 := hM.comp n4
      cases hk : (inN (p * 0 + q * 1) && (inN (p * -1 + q * t) && (inN (s * 0 + u * 1) && inN (s * -1 + u * t)))) with
      | false =>
        simp only [Bool.not_false, cond_true]
        exact .inl ⟨by first | trivial | rfl, by first | trivial | rfl⟩
      | true =>
        simp only [Bool.not_true, cond_false]
        obtain ⟨j', rfl⟩ : ∃ j', j = j' + 1 := by
          cases j with
          | zero => exact absurd hj hy
          | succ j' => exact ⟨j', rfl⟩
        exact along_run h j' fu _ _ _ _ _ _ _ (hF.nb h.sq) hM2 hk hj (by omega)
theorem inv_val2 {p q s u : Int} (hok : okM (p, q, s, u) = true) (hd : p * u - q * s = 1) : r_impl_Matrix_inverse (p, q, s, u) = some (u, -q, -s, p) ∧ r_spec_foInverse (p, q, s, u) = some (u, -q, -s, p) := by
  obtain ⟨o1, o2, o3, o4⟩ := okM_iff hok
  simp only [] at o1 o2 o3 o4
  rw [inN_iff] at o1 o2 o3 o4
  have m1 := abs_mul (x := p) (y := u) (A := 1000000) (B := 1000000) (by omega) (by omega)
  have m2 := abs_mul (x := q) (y := s) (A := 1000000) (B := 1000000) (by omega) (by omega)
  constructor
  · simp only [r_impl_Matrix_inverse, r_impl_Matrix_det, sI_eq, Option.bind_some]
    rw [w64_in (n := p * u) (by omega), w64_in (n := q * s) (by omega), hd, w64_in (n := (1 : Int)) (by omega), show (0 - 1 : Int) = -1 from rfl, w64_in (n := (-1 : Int)) (by omega), Int.one_mul, Int.one_mul, Int.neg_one_mul, Int.neg_one_mul, w64_in (n := u) (by omega), w64_in (n := -q) (by omega), w64_in (n := -s) (by omega), w64_in (n := p) (by omega)]
  · simp only [r_spec_foInverse, r_spec_foDet, sI_eq, Option.bind_some]
    rw [w64_in (n := p * u) (by omega), w64_in (n := q * s) (by omega), hd, w64_in (n := (1 : Int)) (by omega), show (0 - 1 : Int) = -1 from rfl, w64_in (n := (-1 : Int)) (by omega), Int.one_mul, Int.one_mul, Int.neg_one_mul, Int.neg_one_mul, w64_in (n := u) (by omega), w64_in (n := -q) (by omega), w64_in (n := -s) (by omega), w64_in (n := p) (by omega)]
/-! ### Pairs of forms -/
/-- Two forms of one discriminant: one cycle, and the matrix from one to the other, both ways. -/
theorem pair_val {D r : Int} (h : Pd D r) {f g : F3} (hf : Fm D f) (hg : Fm D g) : ∃ u : Bool × Bool, r_impl_SameCycle f g = some u ∧ r_spec_SameCycle f g = some u ∧
    (u.2 = true → (∃ p q s t, Mv f.1 f.2.1 f.2.2 p q s t g.1 g.2.1 g.2.2) → u.1 = true) ∧
    (u = (true, true) → ∃ M b, r_impl_CycleMatrix f g = some (M, b) ∧ r_spec_CycleMatrix f g = some (M, b) ∧ (b = true → okM M = true ∧ Mv f.1 f.2.1 f.2.2 M.1 M.2.1 M.2.2.1 M.2.2.2 g.1 g.2.1 g.2.2)) := by
  have i1 := (ind_of h hf).2
  have i2 := (ind_of h hg).2
  have d1 := hf.sdisc
  have d2 := hg.sdisc
  rcases way_val h hf with ⟨a1, a2⟩ | ⟨x, m, a1, a2, a3, a4, a5⟩
  · have hs : (r_spec_cyReduce g).bind (fun y9 => bif (bif (!false) then true else (!y9.2.2)) then (some (false, false) : Option (Bool × Bool)) else none) = some (false, false) := by
      rcases way_val h hg with ⟨b1, b2⟩ | ⟨y, k, b1, b2, _⟩
      · rw [b2]; rfl
      · rw [b2]; rfl
    refine ⟨(false, false), ?_, ?_, (fun e => by cases e), (fun e => by cases e)⟩
    · rcases way_val h hg with ⟨b1, b2⟩ | ⟨y, k, b1, b2, _⟩ <;> simp only [r_impl_SameCycle, a1, b1, Option.bind_some, Bool.not_false, cond_true]
    · rcases way_val h hg with ⟨b1, b2⟩ | ⟨y, k, b1, b2, _⟩ <;> simp only [r_spec_SameCycle, i1, i2, a2, b2, Option.bind_some, Bool.not_false, Bool.not_true, cond_true, cond_false]
  · rcases way_val h hg with ⟨b1, b2⟩ | ⟨y, k, b1, b2, b3, b4, b5⟩
    · refine ⟨(false, false), ?_, ?_, (fun e => by cases e), (fun e => by cases e)⟩
      · simp only [r_impl_SameCycle, a1, b1, Option.bind_some, Bool.not_false, Bool.not_true, cond_true, cond_false]
      · simp only [r_spec_SameCycle, i1, i2, a2, b2, Option.bind_some, Bool.not_false, Bool.not_true, cond_true, cond_false]
    · obtain ⟨n, n1, n2, c1, c2, c3⟩ := ring_val h a3
      obtain ⟨v1, v2⟩ := has_val y (cycL r n x) (by simp [cycL]; omega)
      refine ⟨(decide (y ∈ cycL r n x), true), ?_, ?_, fun _ => ?_, fun e => ?_⟩
      · simp only [r_impl_SameCycle, a1, b1, c1, v1, Option.bind_some, Bool.not_true, cond_false]
      · simp only [r_spec_SameCycle, i1, i2, a2, b2, d1, d2, c2, v2, Option.bind_some, Bool.not_true, cond_false, eqI_true, cond_true]
      · rintro ⟨p, q, s, t, hM⟩
        exact decide_eq_true ((c3 y).2 (cyc_same h.sq h.r31 a3 b3 ((a4.inv.comp hM).comp b4)))
      · simp only [Prod.mk.injEq, and_true] at e
        obtain ⟨j, hj⟩ := (c3 y).1 (of_decide_eq_true e)
        obtain ⟨i, hi, hji⟩ : ∃ i, i < 10000 ∧ itN r i x = y := by
          have := (c3 y).2 ⟨j, hj⟩
          unfold cycL at this
          obtain ⟨i, i1, i2⟩ := List.mem_map.1 this
          have := List.mem_range.1 i1
          exact ⟨i, by omega, i2⟩
        obtain ⟨x1, x2, x3⟩ := x
        obtain ⟨m1, m2, m3, m4⟩ := m
        obtain ⟨k1, k2, k3, k4⟩ := k
        obtain ⟨w1, w2⟩ := inv_val2 b5 b4.dt
        rcases along_run h (y := y) (bk := (k1, k2, k3, k4)) (ok := true) i FU m1 m2 m3 m4 x1 x2 x3 a3 a4 a5 hji (by have := FUge; omega) with ⟨l1, l2⟩ | ⟨p, q, s, u, l1, l2, l3, l4⟩
        · refine ⟨(0, 0, 0, 0), false, ?_, ?_, (fun e => by cases e)⟩
          · simp only [r_impl_CycleMatrix, a1, b1, c1, v1, e, l1, Option.bind_some, Bool.not_true, cond_false]
          · simp only [r_spec_CycleMatrix, i1, i2, a2, b2, d1, d2, c2, v2, e, l2, Option.bind_some, Bool.not_true, cond_false, eqI_true]
        · have hM := l3.comp b4.inv
          obtain ⟨o1, o2, o3, o4⟩ := okM_iff l4
          obtain ⟨r1, r2, r3, r4⟩ := okM_iff b5
          simp only [] at o1 o2 o3 o4 r1 r2 r3 r4
          have hT : r_impl_Matrix_times (p, q, s, u) (k4, -k2, -k3, k1) = some (p * k4 + q * -k3, p * -k2 + q * k1, s * k4 + u * -k3, s * -k2 + u * k1) := by
            rw [inN_iff] at o1 o2 o3 o4 r1 r2 r3 r4
            have z : ∀ {x y : Int}, -1000000 ≤ x ∧ x ≤ 1000000 → -1000000 ≤ y ∧ y ≤ 1000000 → -1000000000000 ≤ x * y ∧ x * y ≤ 1000000000000 := by
              intro x y hx hy
              have := abs_mul (x := x) (y := y) (A := 1000000) (B := 1000000) (by omega) (by omega)
              omega
            have z1 := z o1 r4
            have z2 := z o2 (show -1000000 ≤ -k3 ∧ -k3 ≤ 1000000 by omega)
            have z3 := z o1 (show -1000000 ≤ -k2 ∧ -k2 ≤ 1000000 by omega)
            have z4 := z o2 r1
            have z5 := z o3 r4
            have z6 := z o4 (show -1000000 ≤ -k3 ∧ -k3 ≤ 1000000 by omega)
            have z7 := z o3 (show -1000000 ≤ -k2 ∧ -k2 ≤ 1000000 by omega)
            have z8 := z o4 r1
            rw [times_w, w64_in (n := p * k4 + q * -k3) (by omega), w64_in (n := p * -k2 + q * k1) (by omega), w64_in (n := s * k4 + u * -k3) (by omega), w64_in (n := s * -k2 + u * k1) (by omega)]
          generalize hP : (p * k4 + q * -k3, p * -k2 + q * k1, s * k4 + u * -k3, s * -k2 + u * k1) = P at *
          have hM' : Mv f.1 f.2.1 f.2.2 P.1 P.2.1 P.2.2.1 P.2.2.2 g.1 g.2.1 g.2.2 := by rw [← hP]; exact hM
          have hm1 : r_impl_IsMatrix P = some (okM P) := isMat_val' P
          have hm2 : r_spec_foMatrix P = some (okM P) := smat_val P
          cases hok : okM P with
          | true =>
            rw [hok] at hm1 hm2
            refine ⟨P, true, ?_, ?_, fun _ => ⟨hok, hM'⟩⟩
            · simp only [r_impl_CycleMatrix, a1, b1, c1, v1, e, l1, w1, hT, r_impl_checked, hm1, Option.bind_some, Bool.not_true, cond_false]
            · simp only [r_spec_CycleMatrix, i1, i2, a2, b2, d1, d2, c2, v2, e, l2, w2, stimes_eq, hT, hm2, Option.bind_some, Bool.not_true, cond_false, eqI_true]
          | false =>
            rw [hok] at hm1 hm2
            refine ⟨(0, 0, 0, 0), false, ?_, ?_, (fun e => by cases e)⟩
            · simp only [r_impl_CycleMatrix, a1, b1, c1, v1, e, l1, w1, hT, r_impl_checked, hm1, Option.bind_some, Bool.not_true, Bool.not_false, cond_false, cond_true]
            · simp only [r_spec_CycleMatrix, i1, i2, a2, b2, d1, d2, c2, v2, e, l2, w2, stimes_eq, hT, hm2, Option.bind_some, Bool.not_true, Bool.not_false, cond_false, cond_true, eqI_true]
end Go.Proofs.Ytgeajejmikaniaa
