/-
  Products and inverses of matrices, and values of forms after them.
  Conditions: none.
-/
import Derived.Test.YtnheekadeflecaaGreatUpCoX
namespace Go.Proofs.YtnheekadeflecaaGreat
set_option linter.unusedVariables false
set_option linter.unusedSimpArgs false

abbrev M4 := Int × Int × Int × Int
def FV (f : F3) (x y : Int) : Int := f.1 * x * x + f.2.1 * x * y + f.2.2 * y * y
theorem mat_val {A B C p q r s a b c : Int} (h : MatInv A B C p q r s a b c) (X Y : Int) : FV (a, b, c) X Y = FV (A, B, C) (p * X + q * Y) (r * X + s * Y) := by
  obtain ⟨e1, e2, e3, _⟩ := h
  simp only [FV]
  rw [← e1, ← e2, ← e3]; grind
theorem inv_undo {p q r s : Int} (h : p * s - q * r = 1) (x y : Int) : p * (s * x - q * y) + q * (-(r * x) + p * y) = x ∧ r * (s * x - q * y) + s * (-(r * x) + p * y) = y := by
  constructor
  · have : p * (s * x - q * y) + q * (-(r * x) + p * y) = (p * s - q * r) * x := by grind
    rw [this, h]; omega
  · have : r * (s * x - q * y) + s * (-(r * x) + p * y) = (p * s - q * r) * y := by grind
    rw [this, h]; omega
theorem bv_0 : bv 0 = 0 := rfl
theorem mat_pol (A B C p q r s p' q' r' s' : Int) : 2 * (A * p * p + B * p * r + C * r * r) * p' * q' + (2 * A * p * q + B * (p * s + q * r) + 2 * C * r * s) * (p' * s' + q' * r') + 2 * (A * q * q + B * q * s + C * s * s) * r' * s' = 2 * A * (p * p' + q * r') * (p * q' + q * s') + B * ((p * p' + q * r') * (r * q' + s * s') + (p * q' + q * s') * (r * p' + s * r')) + 2 * C * (r * p' + s * r') * (r * q' + s * s') := by grind
theorem mat_mul {A B C p q r s a b c p' q' r' s' a' b' c' : Int} (h : MatInv A B C p q r s a b c) (k : MatInv a b c p' q' r' s' a' b' c') : MatInv A B C (p * p' + q * r') (p * q' + q * s') (r * p' + s * r') (r * q' + s * s') a' b' c' := by
  have v1 := mat_val h p' r'
  have v2 := mat_val h q' s'
  obtain ⟨e1, e2, e3, e4⟩ := k
  simp only [FV] at v1 v2
  refine ⟨by rw [← e1, v1], ?_, by rw [← e3, v2], ?_⟩
  · rw [← e2, ← h.e1, ← h.e2, ← h.e3]
    exact (mat_pol A B C p q r s p' q' r' s').symm
  · have : (p * p' + q * r') * (r * q' + s * s') - (p * q' + q * s') * (r * p' + s * r') = (p * s - q * r) * (p' * s' - q' * r') := by grind
    rw [this, h.dt, e4]; rfl
end Go.Proofs.YtnheekadeflecaaGreat
namespace Go.Proofs.YtnheekadeflecaaGreat
set_option linter.unusedVariables false
set_option linter.unusedSimpArgs false

/-- u + v * sqrt (p * p * D) in the greater ring. -/
def fi (p : Int) (x : El) : El := (x.1, p * x.2)
def fiL (p : Int) (L : List El) : List El := L.map (fi p)
theorem fi_mul (p D : Int) (x y : El) : fi p (eM (p * p * D) x y) = eM D (fi p x) (fi p y) := el_ext (by simp only [fi, eM]; grind) (by simp only [fi, eM]; grind)
theorem fi_sub (p : Int) (x y : El) : fi p (eS x y) = eS (fi p x) (fi p y) := el_ext (by simp only [fi, eS]) (by simp only [fi, eS]; grind)
theorem fi_zero (p : Int) : fi p (0, 0) = (0, 0) := el_ext (by simp [fi]) (by simp [fi])
theorem fi_ne {p : Int} (hp : p ≠ 0) {x : El} (h : x ≠ (0, 0)) : fi p x ≠ (0, 0) := by
  intro e
  have e1 : x.1 = 0 := congrArg Prod.fst e
  have e2 : p * x.2 = 0 := congrArg Prod.snd e
  have e3 : x.2 = 0 := by
    rcases Int.mul_eq_zero.1 e2 with h1 | h1
    · exact absurd h1 hp
    · exact h1
  exact h (el_ext e1 e3)
theorem sp_fi {p : Int} {L : List El} {x : El} : Sp (fiL p L) x ↔ ∃ y, Sp L y ∧ x = fi p y := by
  constructor
  · intro h
    refine h (fun x => ∃ y, Sp L y ∧ x = fi p y) ⟨(0, 0), sp_zero L, (fi_zero p).symm⟩ ?_ ?_
    · rintro x y ⟨x', h1, e1⟩ ⟨y', h2, e2⟩
      exact ⟨eS x' y', sp_sub h1 h2, by rw [e1, e2, fi_sub]⟩
    · intro l hl
      obtain ⟨m, hm, e⟩ := List.mem_map.1 hl
      exact ⟨m, sp_mem hm, e.symm⟩
  · rintro ⟨y, hy, e⟩
    subst e
    refine hy (fun y => Sp (fiL p L) (fi p y)) (by rw [fi_zero]; exact sp_zero _) ?_ ?_
    · intro x y h1 h2
      rw [fi_sub]; exact sp_sub h1 h2
    · exact fun l hl => sp_mem (List.mem_map.2 ⟨l, hl, rfl⟩)
theorem fi_eL (p D : Int) (a : El) (L : List El) : fiL p (eL (p * p * D) a L) = eL D (fi p a) (fiL p L) := by
  simp only [fiL, eL, List.map_map]
  refine List.map_congr_left fun x _ => ?_
  exact fi_mul p D a x
theorem fi_eP (p D : Int) (L M : List El) : fiL p (eP (p * p * D) L M) = eP D (fiL p L) (fiL p M) := by
  simp only [fiL, eP, List.map_flatMap, List.flatMap_map, List.map_map]
  refine congrArg (fun f => L.flatMap f) (funext fun x => ?_)
  refine List.map_congr_left fun y _ => ?_
  exact fi_mul p D x y
theorem cl_fi {p D : Int} (hp : p ≠ 0) {L M : List El} (h : Cl (p * p * D) L M) : Cl D (fiL p L) (fiL p M) := by
  obtain ⟨a, b, ha, hb, h⟩ := h
  refine ⟨fi p a, fi p b, fi_ne hp ha, fi_ne hp hb, fun x => ?_⟩
  rw [← fi_eL, ← fi_eL, sp_fi, sp_fi]
  constructor
  · rintro ⟨y, hy, e⟩; exact ⟨y, (h y).1 hy, e⟩
  · rintro ⟨y, hy, e⟩; exact ⟨y, (h y).2 hy, e⟩
theorem pp_neg {p D : Int} (hp : 2 ≤ p) (hD : D < 0) : p * p * D < 0 := by
  have h1 : 0 < p * p := Int.mul_pos (by omega) (by omega)
  exact Int.mul_neg_of_pos_of_neg h1 hD
/-- The class in the greater order. -/
def gDn {p D : Int} (hp : 2 ≤ p) (hD : D < 0) (x : GG (p * p * D) (pp_neg hp hD)) : GG D hD := Quotient.lift (s := gS (p * p * D) (pp_neg hp hD)) (fun l => (Quotient.mk (gS D hD) (eP D (fiL p l) (fL (pF D))) : GG D hD)) (fun _ _ h => Quotient.sound (s := gS D hD) (cl_left hD (cl_fi (show p ≠ 0 by omega) h))) x
theorem gDn_mul {p D : Int} (hp : 2 ≤ p) (hD1 : -2000 ≤ D) (hD : D < 0) (h4 : D % 4 ≤ 1) (x y : GG (p * p * D) (pp_neg hp hD)) : gDn hp hD (gM x y) = gM (gDn hp hD x) (gDn hp hD y) := by
  induction x using Quotient.inductionOn with | _ x
  induction y using Quotient.inductionOn with | _ y
  have h1 := gF_one hD h4 hD1
  have e1 : gDn hp hD (gM (Quotient.mk (gS (p * p * D) (pp_neg hp hD)) x) (Quotient.mk (gS (p * p * D) (pp_neg hp hD)) y)) = gM (gM (Quotient.mk (gS D hD) (fiL p x) : GG D hD) (Quotient.mk (gS D hD) (fiL p y))) (g1 D hD) := by
    show (Quotient.mk (gS D hD) (eP D (fiL p (eP (p * p * D) x y)) (fL (pF D))) : GG D hD) = Quotient.mk (gS D hD) (eP D (eP D (fiL p x) (fiL p y)) (fL (pF D)))
    rw [fi_eP]
  have e2 : ∀ z : List El, gDn hp hD (Quotient.mk (gS (p * p * D) (pp_neg hp hD)) z) = gM (Quotient.mk (gS D hD) (fiL p z) : GG D hD) (g1 D hD) := fun z => rfl
  rw [e1, e2, e2]
  have h1' : gM (g1 D hD) (g1 D hD) = g1 D hD := h1
  have key : ∀ X Y : GG D hD, gM (gM X Y) (g1 D hD) = gM (gM X (g1 D hD)) (gM Y (g1 D hD)) := by
    intro X Y
    rw [gM_assoc, gM_assoc, ← gM_assoc (g1 D hD) Y, gM_comm (g1 D hD) Y, gM_assoc, h1']
  exact key _ _
/-- The class of a form whose last coefficients p and its square divide. -/
theorem gDn_low {p D : Int} (hp : 2 ≤ p) (hD1 : -2000 ≤ D) (hD : D < 0) {v B C : Int} (hv : 0 < v) (hlow : B * B - 4 * v * C = D) {s t : Int} (hst : s * v + t * p = 1) : gDn hp hD (gC (p * p * D) (pp_neg hp hD) (v, p * B, p * p * C)) = gC D hD (v, B, C) := by
  obtain ⟨h4, hpar⟩ := disc_par (a := v) (c := C) hlow
  obtain ⟨m, hm⟩ : ∃ m, D % 2 - B = 2 * m := ⟨(D % 2 - B) / 2, by omega⟩
  refine Quotient.sound (s := gS D hD) ?_
  show Cl D (eP D (fiL p (fL (v, p * B, p * p * C))) (fL (pF D))) (fL (v, B, C))
  generalize hβ : D % 2 = β at *
  have hpF : fL (pF D) = [(2, 0), (β, 1)] := by simp only [fL, pF, hβ]; rfl
  have mem : ∀ x, x ∈ eP D (fiL p (fL (v, p * B, p * p * C))) (fL (pF D)) ↔ x = (4 * v, 0) ∨ x = (2 * v * β, 2 * v) ∨ x = (2 * p * B, 2 * p) ∨ x = (p * B * β + D * p, p * B + p * β) := by
    intro x
    rw [mem_eP, hpF]
    simp only [fiL, fL, List.map_cons, List.map_nil, List.mem_cons, List.not_mem_nil, or_false, fi]
    constructor
    · rintro ⟨l, hl, m, hm, e⟩
      rcases hl with e1 | e1 <;> rcases hm with e2 | e2 <;> subst e1 e2
      · left; rw [e]; exact el_ext (by simp only [eM]; grind) (by simp only [eM]; grind)
      · right; left; rw [e]; exact el_ext (by simp only [eM]; grind) (by simp only [eM]; grind)
      · right; right; left; rw [e]; exact el_ext (by simp only [eM]; grind) (by simp only [eM]; grind)
      · right; right; right; rw [e]; exact el_ext (by simp only [eM]; grind) (by simp only [eM]; grind)
    · rintro (e | e | e | e)
      · exact ⟨_, .inl rfl, _, .inl rfl, by rw [e]; exact el_ext (by simp only [eM]; grind) (by simp only [eM]; grind)⟩
      · exact ⟨_, .inl rfl, _, .inr rfl, by rw [e]; exact el_ext (by simp only [eM]; grind) (by simp only [eM]; grind)⟩
      · exact ⟨_, .inr rfl, _, .inl rfl, by rw [e]; exact el_ext (by simp only [eM]; grind) (by simp only [eM]; grind)⟩
      · exact ⟨_, .inr rfl, _, .inr rfl, by rw [e]; exact el_ext (by simp only [eM]; grind) (by simp only [eM]; grind)⟩
  refine cl_mk (a := (1, 0)) (b := (2, 0)) (by simp) (by simp) ?_ ?_
  · intro l hl
    rw [eM_k]
    rcases (mem l).1 hl with h | h | h | h
    · subst h; exact eMk_in (fS v B C 1 0 (2 * v) 0 (by grind) rfl) (el_ext (by simp only [eK]; grind) (by simp only [eK]; grind))
    · subst h; exact eMk_in (fS v B C m v (v * β) v (by grind) rfl) (el_ext (by simp only [eK]; grind) (by simp only [eK]; grind))
    · subst h; exact eMk_in (fS v B C 0 p (p * B) p (by grind) rfl) (el_ext (by simp only [eK]; grind) (by simp only [eK]; grind))
    · subst h
      refine eMk_in (fS v B C (-(p * C)) (p * (B + m)) (-(2 * v * (p * C)) + B * (p * (B + m))) (p * (B + m)) (by grind) rfl) (el_ext ?_ ?_)
      · simp only [eK]
        have e1 : β = B + 2 * m := by omega
        rw [← hlow, e1]; grind
      · simp only [eK]
        have e1 : β = B + 2 * m := by omega
        rw [e1]; grind
  · intro l hl
    rw [eM_k]
    have k1 : Sp (eP D (fiL p (fL (v, p * B, p * p * C))) (fL (pF D))) (4 * v, 0) := sp_mem ((mem _).2 (.inl rfl))
    have k2 : Sp (eP D (fiL p (fL (v, p * B, p * p * C))) (fL (pF D))) (2 * v * β, 2 * v) := sp_mem ((mem _).2 (.inr (.inl rfl)))
    have k3 : Sp (eP D (fiL p (fL (v, p * B, p * p * C))) (fL (pF D))) (2 * p * B, 2 * p) := sp_mem ((mem _).2 (.inr (.inr (.inl rfl))))
    simp only [fL, List.mem_cons, List.not_mem_nil, or_false] at hl
    rcases hl with h | h
    · subst h; exact eMk_in k1 (el_ext (by simp only [eK]; grind) (by simp only [eK]; grind))
    · subst h
      refine eMk_in (sp_add (sp_add (sp_mul k2 s) (sp_mul k3 t)) (sp_mul k1 (-(s * m)))) (el_ext ?_ ?_)
      · simp only [eK, eA]
        have e1 : β = B + 2 * m := by omega
        have e2 : 1 * (s * (2 * v * β) + t * (2 * p * B) + -(s * m) * (4 * v)) = 2 * B * (s * v + t * p) := by rw [e1]; grind
        rw [e2, hst]; try omega
      · simp only [eK, eA]
        have e2 : 1 * (s * (2 * v) + t * (2 * p) + -(s * m) * 0) = 2 * (s * v + t * p) := by grind
        rw [e2, hst]
end Go.Proofs.YtnheekadeflecaaGreat
namespace Go.Proofs.YtnheekadeflecaaGreat
set_option linter.unusedVariables false
set_option linter.unusedSimpArgs false

structure Pd (p D : Int) : Prop where
  p2 : 2 ≤ p
  p25 : p ≤ 25
  odd : p = 2 ∨ p % 2 = 1
  D1 : -2000 ≤ p * p * D
  D0 : -2000 ≤ D
  hD : D < 0
  h4 : D % 4 ≤ 1
theorem ds_odd {p v B C D u w : Int} (hp : p % 2 = 1) (hp2 : 2 ≤ p) (huw : u * v + w * p = 1) (hd : B * B - 4 * v * C = p * p * D) : ∃ t0, 0 ≤ t0 ∧ t0 < p ∧ p ∣ 2 * v * t0 + B ∧ p * p ∣ v * t0 * t0 + B * t0 + C := by
  obtain ⟨h, hh⟩ : ∃ h, 2 * h = p + 1 := ⟨(p + 1) / 2, by omega⟩
  have t1 := Int.emod_nonneg (-(B * u * h)) (b := p) (by omega)
  have t2 := Int.emod_lt_of_pos (-(B * u * h)) (b := p) (by omega)
  have t3 := Int.emod_add_mul_ediv (-(B * u * h)) p
  generalize (-(B * u * h)) / p = k at *
  generalize hq : (-(B * u * h)) % p = t0 at *
  have d1 : 2 * v * t0 + B = p * (-(2 * v * k) - B + B * w * (p + 1)) := by
    have e1 : t0 = -(B * u * h) - p * k := by omega
    have e2 : 2 * v * (-(B * u * h) - p * k) + B = B - B * (u * v) * (2 * h) - 2 * v * p * k := by grind
    have e3 : u * v = 1 - w * p := by omega
    rw [e1, e2, hh, e3]; grind
  generalize -(2 * v * k) - B + B * w * (p + 1) = b at d1
  refine ⟨t0, t1, t2, ⟨b, d1⟩, ?_⟩
  have d2 : 4 * v * (v * t0 * t0 + B * t0 + C) = p * p * (b * b - D) := by
    have e1 : 4 * v * (v * t0 * t0 + B * t0 + C) = (2 * v * t0 + B) * (2 * v * t0 + B) - (B * B - 4 * v * C) := by grind
    rw [e1, hd, d1]; grind
  generalize v * t0 * t0 + B * t0 + C = Ct at *
  generalize b * b - D = z at *
  -- 4 * v has an inverse
  have r1 : u * h * h * (4 * v) = 1 + p * (p + 2 - w * (p + 1) * (p + 1)) := by
    have e1 : u * h * h * (4 * v) = (u * v) * ((2 * h) * (2 * h)) := by grind
    have e3 : u * v = 1 - w * p := by omega
    rw [e1, hh, e3]; grind
  generalize u * h * h = r at *
  generalize p + 2 - w * (p + 1) * (p + 1) = m at *
  refine ⟨r * (2 - r * (4 * v)) * z + m * m * Ct, ?_⟩
  have e1 : p * p * (r * (2 - r * (4 * v)) * z + m * m * Ct) = r * (2 - r * (4 * v)) * (p * p * z) + (p * m) * (p * m) * Ct := by grind
  have e2 : p * m = r * (4 * v) - 1 := by omega
  rw [e1, ← d2, e2]; grind
theorem ds_two {v B C D u w : Int} (huw : u * v + w * 2 = 1) (h4 : D % 4 ≤ 1) (hd : B * B - 4 * v * C = 2 * 2 * D) : ∃ t0, 0 ≤ t0 ∧ t0 < 2 ∧ 2 ∣ 2 * v * t0 + B ∧ 2 * 2 ∣ v * t0 * t0 + B * t0 + C := by
  have hB : ∃ b, B = 2 * b := by
    obtain ⟨t, ht | ht⟩ : ∃ t, B = 2 * t ∨ B = 2 * t + 1 := ⟨B / 2, by omega⟩
    · exact ⟨t, ht⟩
    · exfalso
      rw [ht, show (2 * t + 1) * (2 * t + 1) = 4 * (t * t + t) + 1 by grind, show 4 * v * C = 4 * (v * C) from Int.mul_assoc ..] at hd
      omega
  obtain ⟨b, rfl⟩ := hB
  have hd2 : b * b - v * C = D := by
    have e1 : 2 * b * (2 * b) - 4 * v * C = 4 * (b * b - v * C) := by grind
    omega
  have key : ∀ t, (b + v * t) % 2 = D % 2 → 2 * 2 ∣ v * t * t + 2 * b * t + C := by
    intro t ht
    have e1 : v * (v * t * t + 2 * b * t + C) = (b + v * t) * (b + v * t) - D := by rw [← hd2]; grind
    have e2 : ∃ k, (b + v * t) * (b + v * t) - D = 4 * k := by
      generalize b + v * t = c at *
      obtain ⟨m, hm | hm⟩ : ∃ m, c = 2 * m ∨ c = 2 * m + 1 := ⟨c / 2, by omega⟩
      · refine ⟨m * m - D / 4, ?_⟩
        rw [hm, show 2 * m * (2 * m) = 4 * (m * m) by grind]; omega
      · refine ⟨m * m + m - D / 4, ?_⟩
        rw [hm, show (2 * m + 1) * (2 * m + 1) = 4 * (m * m + m) + 1 by grind]; omega
    obtain ⟨k, hk⟩ := e2
    rw [hk] at e1
    generalize v * t * t + 2 * b * t + C = Ct at *
    have e3 : Ct = (u * v + w * 2) * (u * v + w * 2) * Ct := by rw [huw]; omega
    have e4 : (u * v + w * 2) * (u * v + w * 2) * Ct = u * u * v * (v * Ct) + 4 * u * w * (v * Ct) + 4 * (w * w * Ct) := by grind
    have e5 := e3.trans e4
    rw [e1] at e5
    exact ⟨u * u * v * k + 4 * u * w * k + w * w * Ct, e5.trans (by grind)⟩
  have hv : v % 2 = 1 := by
    rcases (by omega : v % 2 = 0 ∨ v % 2 = 1) with h | h
    · exfalso
      have : u * v = 2 * (u * (v / 2)) := by
        have e : v = 2 * (v / 2) := by omega
        calc u * v = u * (2 * (v / 2)) := by rw [← e]
          _ = 2 * (u * (v / 2)) := by grind
      omega
    · exact h
  by_cases h : b % 2 = D % 2
  · exact ⟨0, by omega, by omega, ⟨b, by omega⟩, key 0 (by rw [Int.mul_zero, Int.add_zero]; exact h)⟩
  · exact ⟨1, by omega, by omega, ⟨v + b, by omega⟩, key 1 (by rw [Int.mul_one]; omega)⟩
theorem ds_ex {p v B C D u w : Int} (hP : Pd p D) (huw : u * v + w * p = 1) (hd : B * B - 4 * v * C = p * p * D) : ∃ t0, 0 ≤ t0 ∧ t0 < p ∧ p ∣ 2 * v * t0 + B ∧ p * p ∣ v * t0 * t0 + B * t0 + C := by
  rcases hP.odd with h | h
  · subst h; exact ds_two huw hP.h4 hd
  · exact ds_odd h hP.p2 huw hd
theorem ds_cond {p x y : Int} (hp : 2 ≤ p) (hp2 : p ≤ 25) : (bif (!eqI (Int.tmod x p) 0) then some true else ((nz (w64 (p * p))).bind fun z15 => some (!eqI (Int.tmod y (w64 (p * p))) 0))) = some (!(decide (p ∣ x) && decide (p * p ∣ y))) := by
  have m1 : p * p ≤ 25 * 25 := Int.mul_le_mul hp2 hp2 (by omega) (by omega)
  have m2 : 2 * 2 ≤ p * p := Int.mul_le_mul hp hp (by omega) (by omega)
  rw [w64_in (n := p * p) (by omega), nz_ne (show p * p ≠ 0 by omega), tz (show p ≠ 0 by omega), Option.bind_some, tz (show p * p ≠ 0 by omega)]
  cases decide (p ∣ x) <;> cases decide (p * p ∣ y) <;> rfl
end Go.Proofs.YtnheekadeflecaaGreat
namespace Go.Proofs.YtnheekadeflecaaGreat
set_option linter.unusedVariables false
set_option linter.unusedSimpArgs false

theorem ww (a : Int) : w64 (w64 a) = w64 a := w64_congr (bv_w64 a)
theorem ds_bnd {p v B C t b c : Int} (hp : 2 ≤ p) (hp2 : p ≤ 25) (hv : 1 ≤ v) (hv2 : v ≤ 10000) (hB : B.natAbs ≤ 20000) (hC : C.natAbs ≤ 20000) (t0 : 0 ≤ t) (t1 : t < p) (hb : 2 * v * t + B = p * b) (hc : v * t * t + B * t + C = p * p * c) : b.natAbs ≤ 60000 ∧ c ≤ 60000 := by
  have m1 : 2 * v * t ≤ 2 * 10000 * p := Int.mul_le_mul (by omega) (by omega) t0 (by omega)
  have m0 : 0 ≤ 2 * v * t := Int.mul_nonneg (by omega) t0
  constructor
  · have u1 : b ≤ 60000 := by
      rcases Int.lt_or_le 60000 b with h | h
      · have : p * 60001 ≤ p * b := Int.mul_le_mul_of_nonneg_left (by omega) (by omega)
        omega
      · exact h
    have u2 : -60000 ≤ b := by
      rcases Int.lt_or_le b (-60000) with h | h
      · have : p * b ≤ p * (-60001) := Int.mul_le_mul_of_nonneg_left (by omega) (by omega)
        omega
      · exact h
    omega
  · have m2 : v * t ≤ 10000 * p := Int.mul_le_mul hv2 (by omega) t0 (by omega)
    have m3 : v * t * t ≤ 10000 * p * p := Int.mul_le_mul m2 (by omega) t0 (by omega)
    have m4 : (B * t).natAbs ≤ 20000 * 25 := abs_mul hB (by omega)
    have m6 : B * t ≤ 20000 * p := by
      rcases Int.le_total 0 B with h | h
      · exact Int.mul_le_mul (by omega) (by omega) t0 (by omega)
      · have : B * t ≤ 0 := Int.mul_nonpos_of_nonpos_of_nonneg h t0
        omega
    have m5 : p * 2 ≤ p * p := Int.mul_le_mul_of_nonneg_left hp (by omega)
    have e1 : 10000 * p * p = 10000 * (p * p) := Int.mul_assoc ..
    rcases Int.lt_or_le 60000 c with h | h
    · have : p * p * 60001 ≤ p * p * c := Int.mul_le_mul_of_nonneg_left (by omega) (by omega)
      omega
    · exact h
end Go.Proofs.YtnheekadeflecaaGreat
