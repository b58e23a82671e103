/-
  The group of classes of forms of a negative discriminant.
  Conditions: none.
-/
import Derived.Test.YtnheekadeflecaaGreatUpCoB
namespace Go.Proofs.YtnheekadeflecaaGreat
set_option linter.unusedVariables false
set_option linter.unusedSimpArgs false

def gS (D : Int) (hD : D < 0) : Setoid (List El) := ⟨Cl D, cl_refl D, cl_symm, cl_trans hD⟩
def GG (D : Int) (hD : D < 0) : Type := Quotient (gS D hD)
def gM {D : Int} {hD : D < 0} (x y : GG D hD) : GG D hD := Quotient.lift₂ (s₁ := gS D hD) (s₂ := gS D hD) (fun l m => (Quotient.mk (gS D hD) (eP D l m) : GG D hD)) (fun _ _ _ _ h k => Quotient.sound (s := gS D hD) (cl_prod hD h k)) x y
def gC (D : Int) (hD : D < 0) (f : F3) : GG D hD := Quotient.mk (gS D hD) (fL f)
theorem gM_comm {D : Int} {hD : D < 0} (x y : GG D hD) : gM x y = gM y x := by
  induction x using Quotient.inductionOn with | _ x
  induction y using Quotient.inductionOn with | _ y
  exact Quotient.sound (s := gS D hD) (cl_comm D x y)
theorem gM_assoc {D : Int} {hD : D < 0} (x y z : GG D hD) : gM (gM x y) z = gM x (gM y z) := by
  induction x using Quotient.inductionOn with | _ x
  induction y using Quotient.inductionOn with | _ y
  induction z using Quotient.inductionOn with | _ z
  exact Quotient.sound (s := gS D hD) (cl_assoc D x y z)
theorem gC_eq {D : Int} {hD : D < 0} {f g : F3} : gC D hD f = gC D hD g ↔ Cl D (fL f) (fL g) := ⟨fun h => Quotient.exact h, fun h => Quotient.sound h⟩
theorem gM_of {D : Int} {hD : D < 0} {f g h : F3} (k : Cl D (eP D (fL f) (fL g)) (fL h)) : gM (gC D hD f) (gC D hD g) = gC D hD h := Quotient.sound (s := gS D hD) k
/-- The identity form. -/
def pF (D : Int) : F3 := (1, D % 2, (D % 2 - D) / 4)
def g1 (D : Int) (hD : D < 0) : GG D hD := gC D hD (pF D)
theorem disc_par {D a b c : Int} (h : b * b - 4 * a * c = D) : D % 4 ≤ 1 ∧ D % 2 = b % 2 := by
  have e : 4 * a * c = 4 * (a * c) := Int.mul_assoc ..
  obtain ⟨t, ht | ht⟩ : ∃ t, b = 2 * t ∨ b = 2 * t + 1 := ⟨b / 2, by omega⟩
  · rw [ht, show 2 * t * (2 * t) = 4 * (t * t) by grind] at h; omega
  · rw [ht, show (2 * t + 1) * (2 * t + 1) = 4 * (t * t + t) + 1 by grind] at h; omega
theorem gone_mul {D : Int} {hD : D < 0} {f : F3} (hf : fD f = D) : gM (g1 D hD) (gC D hD f) = gC D hD f := by
  obtain ⟨a, b, c⟩ := f
  have hp := disc_par (a := a) (b := b) (c := c) hf
  exact gM_of (cl_one (m := (b + D % 2) / 2) hf.symm (by omega))
theorem pf_prc {D : Int} (hD1 : -2000 ≤ D) (hD2 : D < 0) (h4 : D % 4 ≤ 1) : PrRc D (pF D) := by
  have e : (D % 2) * (D % 2) = D % 2 := by
    rcases (by omega : D % 2 = 0 ∨ D % 2 = 1) with h | h <;> rw [h] <;> rfl
  refine ⟨Int.le_refl 1, ⟨⟨?_, ?_⟩, ?_⟩, ?_, fun k h _ _ => h⟩
  · show -1 < D % 2; omega
  · show D % 2 ≤ 1; omega
  · show 1 < (D % 2 - D) / 4 ∨ (1 = (D % 2 - D) / 4 ∧ 0 ≤ D % 2)
    omega
  · show D % 2 * (D % 2) - 4 * 1 * ((D % 2 - D) / 4) = D
    rw [e]
    omega
theorem cf_of_prc {D : Int} (hD1 : -2000 ≤ D) (hD2 : D < 0) {f : F3} (h : PrRc D f) : CF D f := by
  obtain ⟨r, ra⟩ := prr_rb hD1 h
  obtain ⟨h1, h2, h3, h4⟩ := h
  obtain ⟨r1, r2, r3, r4, r5, r6⟩ := r
  refine ⟨⟨h1, by omega, by omega, by omega, r5, by omega, h3, hD2, .inr (by omega), fun k => ⟨fun ⟨a, b, c⟩ => h4 k a b c, fun t => ?_⟩⟩, by omega⟩
  exact ⟨Int.dvd_trans t (Int.one_dvd _), Int.dvd_trans t (Int.one_dvd _), Int.dvd_trans t (Int.one_dvd _)⟩
theorem cf_pos {D : Int} {f : F3} (h : CF D f) : 0 < f.1 := by have := h.1.a1; omega
theorem cf_disc {D : Int} {f : F3} (h : CF D f) : fD f = D := h.1.dis
theorem cf_4 {D : Int} {f : F3} (h : CF D f) : D % 4 ≤ 1 := (disc_par (cf_disc h)).1
theorem prc_eq {D : Int} {hD : D < 0} {f g : F3} (hf : PrRc D f) (hg : PrRc D g) (h : gC D hD f = gC D hD g) : f = g := prc_uniq hD hf hg (gC_eq.1 h)
theorem redG {D : Int} (hD : D < 0) {f : F3} (hf : CF D f) : ∃ g, r_impl_reduced f = some g ∧ r_spec_reClass f = some g ∧ PrRc D g ∧ CF D g ∧ gC D hD g = gC D hD f := by
  obtain ⟨g, m1, m2, m3, m4, k1, k2, k3, k4, k5, k6, k7, k8, k9, k10⟩ := red_cf hf
  exact ⟨g, by simp only [r_impl_reduced, k1, Option.bind_some], by simp only [r_spec_reClass, k2, Option.bind_some], k3, k10, gC_eq.2 (cl_red (cf_pos hf) (cf_disc hf) k4 (prc_pos k3))⟩
/-- Reducing a reduced form. -/
theorem red_self {D : Int} (hD1 : -2000 ≤ D) (hD : D < 0) {f : F3} (hf : PrRc D f) : r_impl_reduced f = some f ∧ r_spec_reClass f = some f := by
  obtain ⟨g, h1, h2, h3, h4, h5⟩ := redG hD (cf_of_prc hD1 hD hf)
  have := prc_eq h3 hf h5
  rw [this] at h1 h2
  exact ⟨h1, h2⟩
def opF (f : F3) : F3 := (f.1, -f.2.1, f.2.2)
theorem cf_opp {D : Int} {f : F3} (h : CF D f) : CF D (opF f) := by
  obtain ⟨⟨a1, aM, b1, b2, c1, cM, dis, neg, nrm, con⟩, h2⟩ := h
  refine ⟨⟨a1, aM, by show -1900000 ≤ -f.2.1; omega, by show -f.2.1 ≤ 1900000; omega, c1, cM, ?_, neg, .inr h2, fun k => ?_⟩, h2⟩
  · show -f.2.1 * -f.2.1 - 4 * f.1 * f.2.2 = D
    rw [← dis]; grind
  · rw [← con k]
    constructor
    · rintro ⟨x, y, z⟩; exact ⟨x, (Int.dvd_neg).1 y, z⟩
    · rintro ⟨x, y, z⟩; exact ⟨x, (Int.dvd_neg).2 y, z⟩
theorem gC_inv {D : Int} {hD : D < 0} {f : F3} (h : CF D f) : gM (gC D hD f) (gC D hD (opF f)) = g1 D hD := by
  obtain ⟨x, y, z, hx⟩ := bez3 (con_one h.1)
  have hp := disc_par (a := f.1) (b := f.2.1) (c := f.2.2) h.1.dis
  exact gM_of (cl_inv (a := f.1) (b := f.2.1) (c := f.2.2) (m := (f.2.1 + D % 2) / 2) (cf_pos h) h.1.dis.symm (by omega) hx)

/-! ### Powers -/
def gP {D : Int} {hD : D < 0} (x : GG D hD) : Nat → GG D hD
  | 0 => g1 D hD
  | n + 1 => gM (gP x n) x
/-- Classes of forms. -/
def gF {D : Int} {hD : D < 0} (x : GG D hD) : Prop := gM (g1 D hD) x = x
theorem gF_of {D : Int} {hD : D < 0} {f : F3} (h : CF D f) : gF (gC D hD f) := gone_mul (cf_disc h)
theorem gF_mul {D : Int} {hD : D < 0} {x y : GG D hD} (h : gF x) : gF (gM x y) := by
  unfold gF at h ⊢
  rw [← gM_assoc, h]
theorem gF_one {D : Int} (hD : D < 0) (h4 : D % 4 ≤ 1) (hD1 : -2000 ≤ D) : gF (g1 D hD) := gF_of (cf_of_prc hD1 hD (pf_prc hD1 hD h4))
theorem gP_F {D : Int} {hD : D < 0} {x : GG D hD} (h1 : gF (g1 D hD)) : ∀ n, gF (gP x n)
  | 0 => h1
  | n + 1 => gF_mul (gP_F h1 n)
theorem gP_add {D : Int} {hD : D < 0} {x : GG D hD} (h1 : gF (g1 D hD)) (m : Nat) : ∀ n, gP x (m + n) = gM (gP x m) (gP x n)
  | 0 => by rw [gM_comm]; exact (gP_F h1 m).symm
  | n + 1 => by
    show gM (gP x (m + n)) x = gM (gP x m) (gM (gP x n) x)
    rw [gP_add h1 m n, gM_assoc]
theorem gP_sq {D : Int} {hD : D < 0} {x : GG D hD} (h1 : gF (g1 D hD)) : ∀ n, gP (gM x x) n = gP x (2 * n)
  | 0 => rfl
  | n + 1 => by
    show gM (gP (gM x x) n) (gM x x) = gM (gM (gP x (2 * n)) x) x
    rw [gP_sq h1 n, gM_assoc]
theorem gP_inv {D : Int} {hD : D < 0} {x y : GG D hD} (h1 : gF (g1 D hD)) (h : gM x y = g1 D hD) : ∀ n, gM (gP x n) (gP y n) = g1 D hD
  | 0 => h1
  | n + 1 => by
    show gM (gM (gP x n) x) (gM (gP y n) y) = _
    have e : gM (gM (gP x n) x) (gM (gP y n) y) = gM (gM (gP x n) (gP y n)) (gM x y) := by
      rw [gM_assoc, gM_assoc]
      congr 1
      rw [← gM_assoc, gM_comm x, gM_assoc]
    rw [e, gP_inv h1 h n, h]; exact h1
/-- Cancelling. -/
theorem gM_canc {D : Int} {hD : D < 0} {x y z w : GG D hD} (hy : gF y) (hz : gF z) (h : gM x w = g1 D hD) (e : gM x y = gM x z) : y = z := by
  have e2 : gM w (gM x y) = gM w (gM x z) := by rw [e]
  rw [← gM_assoc, ← gM_assoc, gM_comm w x, h, hy, hz] at e2
  exact e2
end Go.Proofs.YtnheekadeflecaaGreat
namespace Go.Proofs.YtnheekadeflecaaGreat
set_option linter.unusedVariables false
set_option linter.unusedSimpArgs false

theorem cf_disc_val {D : Int} (hD1 : -2000 ≤ D) {f : F3} (h : CF D f) : r_impl_Form_disc f = some D := by
  obtain ⟨a, b, c⟩ := f
  have := h.1.dis
  have hn := h.1.neg
  simp only [] at this
  rw [disc_w, this, w64_in (by omega)]
theorem class_of_prc {D : Int} (hD1 : -2000 ≤ D) (hD : D < 0) {f : F3} (h : PrRc D f) : r_impl_isClassForm f = some true ∧ r_impl_Form_disc f = some D := by
  obtain ⟨r, ra⟩ := prr_rb hD1 h
  have hdv := cf_disc_val hD1 (cf_of_prc hD1 hD h)
  obtain ⟨a, b, c⟩ := f
  obtain ⟨h1, h2, h3, h4⟩ := h
  obtain ⟨r1, r2, r3, r4, r5, r6⟩ := r
  dsimp only at h1 h2 h3 h4 r1 r2 r3 r4 r5 r6
  have ha : inN a = true := inN_iff.2 (by omega)
  have hb : inN b = true := inN_iff.2 (by omega)
  have hc : inN c = true := inN_iff.2 (by omega)
  have hg : Int.gcd a (Int.gcd b c) = 1 := by
    have h5 : ((Int.gcd a (Int.gcd b c) : Nat) : Int) ∣ 1 := h4 _ (Int.gcd_dvd_left _ _) (Int.dvd_trans (Int.gcd_dvd_right _ _) (Int.gcd_dvd_left _ _)) (Int.dvd_trans (Int.gcd_dvd_right _ _) (Int.gcd_dvd_right _ _))
    have h6 := Int.eq_one_of_dvd_one (by omega) h5
    omega
  refine ⟨?_, hdv⟩
  simp only [r_impl_isClassForm, r_impl_isShownForm, r_impl_isDefinite, form_val, ha, hb, hc, Bool.and_true, Option.bind_some, hdv, cond_true, content_val ha hb hc, hg, ltI_eq, leI_eq, decide_eq_true (show D < 0 by omega), decide_eq_true (show 0 < a by omega), decide_eq_true hD1]
  rfl
/-- Class forms with a discriminant. -/
def CFc (D : Int) (f : F3) : Prop := r_impl_isClassForm f = some true ∧ r_impl_Form_disc f = some D ∧ CF D f ∧ -2000 ≤ D ∧ D < 0
theorem cfc_of {f : F3} (h : r_impl_isClassForm f = some true) : CFc (f.2.1 * f.2.1 - 4 * f.1 * f.2.2) f := by
  have h1 := cf_of_class h
  obtain ⟨_, _, _, k1, k2, _⟩ := class_true (a := f.1) (b := f.2.1) (c := f.2.2) h
  exact ⟨h, cf_disc_val k2 h1, h1, k2, k1⟩
theorem cfc_prc {D : Int} (hD1 : -2000 ≤ D) (hD : D < 0) {f : F3} (h : PrRc D f) : CFc D f := ⟨(class_of_prc hD1 hD h).1, (class_of_prc hD1 hD h).2, cf_of_prc hD1 hD h, hD1, hD⟩
theorem gM_one {D : Int} {hD : D < 0} {x : GG D hD} (h : gF x) : gM x (g1 D hD) = x := by rw [gM_comm]; exact h
/-- Powers with any exponent. -/
def gZ {D : Int} {hD : D < 0} (x y : GG D hD) (k : Int) : GG D hD := if k < 0 then gP y (-k).toNat else gP x k.toNat
/-- Exponents add up. -/
theorem gZ_add {D : Int} {hD : D < 0} {x y : GG D hD} (h1 : gF (g1 D hD)) (h : gM x y = g1 D hD) (i : Int) (k : Nat) : gM (gZ x y i) (gZ x y k) = gZ x y (i + k) := by
  have ek : gZ x y (k : Int) = gP x k := by
    unfold gZ
    rw [if_neg (by omega)]
    rfl
  rw [ek]
  unfold gZ
  by_cases hi : i < 0
  · rw [if_pos hi]
    by_cases hik : i + k < 0
    · rw [if_pos hik]
      have e : (-i).toNat = (-(i + k)).toNat + k := by omega
      rw [e, gP_add h1, gM_assoc, gM_comm (gP y k), gP_inv h1 h]
      exact gM_one (gP_F h1 _)
    · rw [if_neg hik]
      have e : k = (-i).toNat + (i + k).toNat := by omega
      rw [e, gP_add h1, ← gM_assoc, gM_comm (gP y _), gP_inv h1 h, ← e]
      exact gP_F h1 _
  · rw [if_neg hi, if_neg (by omega), ← gP_add h1]
    congr 1
    omega
/-! ### Orders -/
theorem nodup_sub {α : Type} [DecidableEq α] : ∀ (l L : List α), l.Nodup → (∀ x ∈ l, x ∈ L) → l.length ≤ L.length
  | [], L, _, _ => Nat.zero_le _
  | a :: t, L, h, hs => by
    have ha : a ∈ L := hs a (by simp)
    obtain ⟨h1, h2⟩ := List.nodup_cons.1 h
    have := nodup_sub t (L.erase a) h2 fun x hx => (List.mem_erase_of_ne (by intro e; rw [e] at hx; exact h1 hx)).2 (hs x (by simp [hx]))
    rw [List.length_erase_of_mem ha] at this
    have hl : 0 < L.length := List.length_pos_of_mem ha
    simp only [List.length_cons]
    omega
def boxL : List (Int × Int) := (List.range 26).flatMap fun (a : Nat) => (List.range 60).map fun (b : Nat) => (Int.ofNat a, Int.ofNat b - 30)
theorem boxL_len : boxL.length = 1560 := by decide +kernel
theorem boxL_mem {a b : Int} (h1 : 0 ≤ a) (h2 : a ≤ 25) (h3 : -26 ≤ b) (h4 : b ≤ 26) : (a, b) ∈ boxL := by
  unfold boxL
  refine List.mem_flatMap.2 ⟨a.toNat, List.mem_range.2 (by omega), List.mem_map.2 ⟨(b + 30).toNat, List.mem_range.2 (by omega), ?_⟩⟩
  refine Prod.ext ?_ ?_
  · show ((a.toNat : Nat) : Int) = a; omega
  · show (((b + 30).toNat : Nat) : Int) - 30 = b; omega
theorem gP_oneth {D : Int} {hD : D < 0} {x : GG D hD} (h : gF x) : gP x 1 = x := h
end Go.Proofs.YtnheekadeflecaaGreat
