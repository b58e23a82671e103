/-
  Products and inverses of matrices, and values of forms after them.
  Conditions: none.
-/
import Derived.Test.YtafomkclmkfjeaaGreatIsCoX
namespace Go.Proofs.YtafomkclmkfjeaaGreat
set_option linter.unusedVariables false
set_option linter.unusedSimpArgs false

abbrev M4 := Int × Int × Int × Int
def FV (f : F3) (x y : Int) : Int := f.1 * x * x + f.2.1 * x * y + f.2.2 * y * y
theorem mat_val {A B C p q r s a b c : Int} (h : MatInv A B C p q r s a b c) (X Y : Int) : FV (a, b, c) X Y = FV (A, B, C) (p * X + q * Y) (r * X + s * Y) := by
  obtain ⟨e1, e2, e3, _⟩ := h
  simp only [FV]
  rw [← e1, ← e2, ← e3]; grind
theorem inv_undo {p q r s : Int} (h : p * s - q * r = 1) (x y : Int) : p * (s * x - q * y) + q * (-(r * x) + p * y) = x ∧ r * (s * x - q * y) + s * (-(r * x) + p * y) = y := by
  constructor
  · have : p * (s * x - q * y) + q * (-(r * x) + p * y) = (p * s - q * r) * x := by grind
    rw [this, h]; omega
  · have : r * (s * x - q * y) + s * (-(r * x) + p * y) = (p * s - q * r) * y := by grind
    rw [this, h]; omega
theorem inv_w {p q r s : Int} (h : p * s - q * r = 1) : r_impl_Matrix_inverse (w64 p, w64 q, w64 r, w64 s) = some (w64 s, w64 (-q), w64 (-r), w64 p) := by
  simp only [r_impl_Matrix_inverse, r_impl_Matrix_det, sI_eq, wml, wmr, wal, war, wsl, wsr, Option.bind_some, h]
  have e : ∀ z : Int, w64 (1 * z) = w64 z := fun z => by rw [Int.one_mul]
  have e2 : ∀ z : Int, w64 (w64 (0 - w64 1) * z) = w64 (-z) := fun z => by rw [show w64 (0 - w64 1) = -1 from rfl]; congr 1; omega
  have e3 : ∀ z : Int, w64 ((0 - w64 1) * z) = w64 (-z) := fun z => by rw [show w64 1 = 1 from rfl]; congr 1; omega
  simp only [e, e3]
theorem bv_0 : bv 0 = 0 := rfl
theorem inv_e {p q r s : Int} (h : p * s - q * r = 1) : r_impl_Matrix_inverse (p, q, r, s) = some (w64 s, w64 (-q), w64 (-r), w64 p) := by
  simp only [r_impl_Matrix_inverse, r_impl_Matrix_det, sI_eq, wml, wmr, wal, war, wsl, wsr, Option.bind_some, h]
  have e : ∀ z : Int, w64 (1 * z) = w64 z := fun z => by rw [Int.one_mul]
  have e3 : ∀ z : Int, w64 ((0 - w64 1) * z) = w64 (-z) := fun z => by rw [show w64 1 = 1 from rfl]; congr 1; omega
  simp only [e, e3]
theorem mat_pol (A B C p q r s p' q' r' s' : Int) : 2 * (A * p * p + B * p * r + C * r * r) * p' * q' + (2 * A * p * q + B * (p * s + q * r) + 2 * C * r * s) * (p' * s' + q' * r') + 2 * (A * q * q + B * q * s + C * s * s) * r' * s' = 2 * A * (p * p' + q * r') * (p * q' + q * s') + B * ((p * p' + q * r') * (r * q' + s * s') + (p * q' + q * s') * (r * p' + s * r')) + 2 * C * (r * p' + s * r') * (r * q' + s * s') := by grind
theorem mat_mul {A B C p q r s a b c p' q' r' s' a' b' c' : Int} (h : MatInv A B C p q r s a b c) (k : MatInv a b c p' q' r' s' a' b' c') : MatInv A B C (p * p' + q * r') (p * q' + q * s') (r * p' + s * r') (r * q' + s * s') a' b' c' := by
  have v1 := mat_val h p' r'
  have v2 := mat_val h q' s'
  obtain ⟨e1, e2, e3, e4⟩ := k
  simp only [FV] at v1 v2
  refine ⟨by rw [← e1, v1], ?_, by rw [← e3, v2], ?_⟩
  · rw [← e2, ← h.e1, ← h.e2, ← h.e3]
    exact (mat_pol A B C p q r s p' q' r' s').symm
  · have : (p * p' + q * r') * (r * q' + s * s') - (p * q' + q * s') * (r * p' + s * r') = (p * s - q * r) * (p' * s' - q' * r') := by grind
    rw [this, h.dt, e4]; rfl
end Go.Proofs.YtafomkclmkfjeaaGreat
namespace Go.Proofs.YtafomkclmkfjeaaGreat
set_option linter.unusedVariables false
set_option linter.unusedSimpArgs false

/-- u + v * sqrt (p * p * D) in the greater ring. -/
def fi (p : Int) (x : El) : El := (x.1, p * x.2)
def fiL (p : Int) (L : List El) : List El := L.map (fi p)
theorem fi_mul (p D : Int) (x y : El) : fi p (eM (p * p * D) x y) = eM D (fi p x) (fi p y) := el_ext (by simp only [fi, eM]; grind) (by simp only [fi, eM]; grind)
theorem fi_sub (p : Int) (x y : El) : fi p (eS x y) = eS (fi p x) (fi p y) := el_ext (by simp only [fi, eS]) (by simp only [fi, eS]; grind)
theorem fi_zero (p : Int) : fi p (0, 0) = (0, 0) := el_ext (by simp [fi]) (by simp [fi])
theorem fi_ne {p : Int} (hp : p ≠ 0) {x : El} (h : x ≠ (0, 0)) : fi p x ≠ (0, 0) := by
  intro e
  have e1 : x.1 = 0 := congrArg Prod.fst e
  have e2 : p * x.2 = 0 := congrArg Prod.snd e
  have e3 : x.2 = 0 := by
    rcases Int.mul_eq_zero.1 e2 with h1 | h1
    · exact absurd h1 hp
    · exact h1
  exact h (el_ext e1 e3)
theorem sp_fi {p : Int} {L : List El} {x : El} : Sp (fiL p L) x ↔ ∃ y, Sp L y ∧ x = fi p y := by
  constructor
  · intro h
    refine h (fun x => ∃ y, Sp L y ∧ x = fi p y) ⟨(0, 0), sp_zero L, (fi_zero p).symm⟩ ?_ ?_
    · rintro x y ⟨x', h1, e1⟩ ⟨y', h2, e2⟩
      exact ⟨eS x' y', sp_sub h1 h2, by rw [e1, e2, fi_sub]⟩
    · intro l hl
      obtain ⟨m, hm, e⟩ := List.mem_map.1 hl
      exact ⟨m, sp_mem hm, e.symm⟩
  · rintro ⟨y, hy, e⟩
    subst e
    refine hy (fun y => Sp (fiL p L) (fi p y)) (by rw [fi_zero]; exact sp_zero _) ?_ ?_
    · intro x y h1 h2
      rw [fi_sub]; exact sp_sub h1 h2
    · exact fun l hl => sp_mem (List.mem_map.2 ⟨l, hl, rfl⟩)
theorem fi_eL (p D : Int) (a : El) (L : List El) : fiL p (eL (p * p * D) a L) = eL D (fi p a) (fiL p L) := by
  simp only [fiL, eL, List.map_map]
  refine List.map_congr_left fun x _ => ?_
  exact fi_mul p D a x
theorem fi_eP (p D : Int) (L M : List El) : fiL p (eP (p * p * D) L M) = eP D (fiL p L) (fiL p M) := by
  simp only [fiL, eP, List.map_flatMap, List.flatMap_map, List.map_map]
  refine congrArg (fun f => L.flatMap f) (funext fun x => ?_)
  refine List.map_congr_left fun y _ => ?_
  exact fi_mul p D x y
theorem cl_fi {p D : Int} (hp : p ≠ 0) {L M : List El} (h : Cl (p * p * D) L M) : Cl D (fiL p L) (fiL p M) := by
  obtain ⟨a, b, ha, hb, h⟩ := h
  refine ⟨fi p a, fi p b, fi_ne hp ha, fi_ne hp hb, fun x => ?_⟩
  rw [← fi_eL, ← fi_eL, sp_fi, sp_fi]
  constructor
  · rintro ⟨y, hy, e⟩; exact ⟨y, (h y).1 hy, e⟩
  · rintro ⟨y, hy, e⟩; exact ⟨y, (h y).2 hy, e⟩
theorem pp_neg {p D : Int} (hp : 2 ≤ p) (hD : D < 0) : p * p * D < 0 := by
  have h1 : 0 < p * p := Int.mul_pos (by omega) (by omega)
  exact Int.mul_neg_of_pos_of_neg h1 hD
/-- The class in the greater order. -/
def gDn {p D : Int} (hp : 2 ≤ p) (hD : D < 0) (x : GG (p * p * D) (pp_neg hp hD)) : GG D hD := Quotient.lift (s := gS (p * p * D) (pp_neg hp hD)) (fun l => (Quotient.mk (gS D hD) (eP D (fiL p l) (fL (pF D))) : GG D hD)) (fun _ _ h => Quotient.sound (s := gS D hD) (cl_left hD (cl_fi (show p ≠ 0 by omega) h))) x
theorem gDn_mul {p D : Int} (hp : 2 ≤ p) (hD1 : -2000 ≤ D) (hD : D < 0) (h4 : D % 4 ≤ 1) (x y : GG (p * p * D) (pp_neg hp hD)) : gDn hp hD (gM x y) = gM (gDn hp hD x) (gDn hp hD y) := by
  induction x using Quotient.inductionOn with | _ x
  induction y using Quotient.inductionOn with | _ y
  have h1 := gF_one hD h4 hD1
  have e1 : gDn hp hD (gM (Quotient.mk (gS (p * p * D) (pp_neg hp hD)) x) (Quotient.mk (gS (p * p * D) (pp_neg hp hD)) y)) = gM (gM (Quotient.mk (gS D hD) (fiL p x) : GG D hD) (Quotient.mk (gS D hD) (fiL p y))) (g1 D hD) := by
    show (Quotient.mk (gS D hD) (eP D (fiL p (eP (p * p * D) x y)) (fL (pF D))) : GG D hD) = Quotient.mk (gS D hD) (eP D (eP D (fiL p x) (fiL p y)) (fL (pF D)))
    rw [fi_eP]
  have e2 : ∀ z : List El, gDn hp hD (Quotient.mk (gS (p * p * D) (pp_neg hp hD)) z) = gM (Quotient.mk (gS D hD) (fiL p z) : GG D hD) (g1 D hD) := fun z => rfl
  rw [e1, e2, e2]
  have h1' : gM (g1 D hD) (g1 D hD) = g1 D hD := h1
  have key : ∀ X Y : GG D hD, gM (gM X Y) (g1 D hD) = gM (gM X (g1 D hD)) (gM Y (g1 D hD)) := by
    intro X Y
    rw [gM_assoc, gM_assoc, ← gM_assoc (g1 D hD) Y, gM_comm (g1 D hD) Y, gM_assoc, h1']
  exact key _ _
/-- The class of a form whose last coefficients p and its square divide. -/
theorem gDn_low {p D : Int} (hp : 2 ≤ p) (hD1 : -2000 ≤ D) (hD : D < 0) {v B C : Int} (hv : 0 < v) (hlow : B * B - 4 * v * C = D) {s t : Int} (hst : s * v + t * p = 1) : gDn hp hD (gC (p * p * D) (pp_neg hp hD) (v, p * B, p * p * C)) = gC D hD (v, B, C) := by
  obtain ⟨h4, hpar⟩ := disc_par (a := v) (c := C) hlow
  obtain ⟨m, hm⟩ : ∃ m, D % 2 - B = 2 * m := ⟨(D % 2 - B) / 2, by omega⟩
  refine Quotient.sound (s := gS D hD) ?_
  show Cl D (eP D (fiL p (fL (v, p * B, p * p * C))) (fL (pF D))) (fL (v, B, C))
  generalize hβ : D % 2 = β at *
  have hpF : fL (pF D) = [(2, 0), (β, 1)] := by simp only [fL, pF, hβ]; rfl
  have mem : ∀ x, x ∈ eP D (fiL p (fL (v, p * B, p * p * C))) (fL (pF D)) ↔ x = (4 * v, 0) ∨ x = (2 * v * β, 2 * v) ∨ x = (2 * p * B, 2 * p) ∨ x = (p * B * β + D * p, p * B + p * β) := by
    intro x
    rw [mem_eP, hpF]
    simp only [fiL, fL, List.map_cons, List.map_nil, List.mem_cons, List.not_mem_nil, or_false, fi]
    constructor
    · rintro ⟨l, hl, m, hm, e⟩
      rcases hl with e1 | e1 <;> rcases hm with e2 | e2 <;> subst e1 e2
      · left; rw [e]; exact el_ext (by simp only [eM]; grind) (by simp only [eM]; grind)
      · right; left; rw [e]; exact el_ext (by simp only [eM]; grind) (by simp only [eM]; grind)
      · right; right; left; rw [e]; exact el_ext (by simp only [eM]; grind) (by simp only [eM]; grind)
      · right; right; right; rw [e]; exact el_ext (by simp only [eM]; grind) (by simp only [eM]; grind)
    · rintro (e | e | e | e)
      · exact ⟨_, .inl rfl, _, .inl rfl, by rw [e]; exact el_ext (by simp only [eM]; grind) (by simp only [eM]; grind)⟩
      · exact ⟨_, .inl rfl, _, .inr rfl, by rw [e]; exact el_ext (by simp only [eM]; grind) (by simp only [eM]; grind)⟩
      · exact ⟨_, .inr rfl, _, .inl rfl, by rw [e]; exact el_ext (by simp only [eM]; grind) (by simp only [eM]; grind)⟩
      · exact ⟨_, .inr rfl, _, .inr rfl, by rw [e]; exact el_ext (by simp only [eM]; grind) (by simp only [eM]; grind)⟩
  refine cl_mk (a := (1, 0)) (b := (2, 0)) (by simp) (by simp) ?_ ?_
  · intro l hl
    rw [eM_k]
    rcases (mem l).1 hl with h | h | h | h
    · subst h; exact eMk_in (fS v B C 1 0 (2 * v) 0 (by grind) rfl) (el_ext (by simp only [eK]; grind) (by simp only [eK]; grind))
    · subst h; exact eMk_in (fS v B C m v (v * β) v (by grind) rfl) (el_ext (by simp only [eK]; grind) (by simp only [eK]; grind))
    · subst h; exact eMk_in (fS v B C 0 p (p * B) p (by grind) rfl) (el_ext (by simp only [eK]; grind) (by simp only [eK]; grind))
    · subst h
      refine eMk_in (fS v B C (-(p * C)) (p * (B + m)) (-(2 * v * (p * C)) + B * (p * (B + m))) (p * (B + m)) (by grind) rfl) (el_ext ?_ ?_)
      · simp only [eK]
        have e1 : β = B + 2 * m := by omega
        rw [← hlow, e1]; grind
      · simp only [eK]
        have e1 : β = B + 2 * m := by omega
        rw [e1]; grind
  · intro l hl
    rw [eM_k]
    have k1 : Sp (eP D (fiL p (fL (v, p * B, p * p * C))) (fL (pF D))) (4 * v, 0) := sp_mem ((mem _).2 (.inl rfl))
    have k2 : Sp (eP D (fiL p (fL (v, p * B, p * p * C))) (fL (pF D))) (2 * v * β, 2 * v) := sp_mem ((mem _).2 (.inr (.inl rfl)))
    have k3 : Sp (eP D (fiL p (fL (v, p * B, p * p * C))) (fL (pF D))) (2 * p * B, 2 * p) := sp_mem ((mem _).2 (.inr (.inr (.inl rfl))))
    simp only [fL, List.mem_cons, List.not_mem_nil, or_false] at hl
    rcases hl with h | h
    · subst h; exact eMk_in k1 (el_ext (by simp only [eK]; grind) (by simp only [eK]; grind))
    · subst h
      refine eMk_in (sp_add (sp_add (sp_mul k2 s) (sp_mul k3 t)) (sp_mul k1 (-(s * m)))) (el_ext ?_ ?_)
      · simp only [eK, eA]
        have e1 : β = B + 2 * m := by omega
        have e2 : 1 * (s * (2 * v * β) + t * (2 * p * B) + -(s * m) * (4 * v)) = 2 * B * (s * v + t * p) := by rw [e1]; grind
        rw [e2, hst]; try omega
      · simp only [eK, eA]
        have e2 : 1 * (s * (2 * v) + t * (2 * p) + -(s * m) * 0) = 2 * (s * v + t * p) := by grind
        rw [e2, hst]
end Go.Proofs.YtafomkclmkfjeaaGreat
namespace Go.Proofs.YtafomkclmkfjeaaGreat
set_option linter.unusedVariables false
set_option linter.unusedSimpArgs false

structure Pd (p D : Int) : Prop where
  p2 : 2 ≤ p
  p25 : p ≤ 25
  odd : p = 2 ∨ p % 2 = 1
  D1 : -2000 ≤ p * p * D
  D0 : -2000 ≤ D
  hD : D < 0
  h4 : D % 4 ≤ 1
theorem ds_odd {p v B C D u w : Int} (hp : p % 2 = 1) (hp2 : 2 ≤ p) (huw : u * v + w * p = 1) (hd : B * B - 4 * v * C = p * p * D) : ∃ t0, 0 ≤ t0 ∧ t0 < p ∧ p ∣ 2 * v * t0 + B ∧ p * p ∣ v * t0 * t0 + B * t0 + C := by
  obtain ⟨h, hh⟩ : ∃ h, 2 * h = p + 1 := ⟨(p + 1) / 2, by omega⟩
  have t1 := Int.emod_nonneg (-(B * u * h)) (b := p) (by omega)
  have t2 := Int.emod_lt_of_pos (-(B * u * h)) (b := p) (by omega)
  have t3 := Int.emod_add_mul_ediv (-(B * u * h)) p
  generalize (-(B * u * h)) / p = k at *
  generalize hq : (-(B * u * h)) % p = t0 at *
  have d1 : 2 * v * t0 + B = p * (-(2 * v * k) - B + B * w * (p + 1)) := by
    have e1 : t0 = -(B * u * h) - p * k := by omega
    have e2 : 2 * v * (-(B * u * h) - p * k) + B = B - B * (u * v) * (2 * h) - 2 * v * p * k := by grind
    have e3 : u * v = 1 - w * p := by omega
    rw [e1, e2, hh, e3]; grind
  generalize -(2 * v * k) - B + B * w * (p + 1) = b at d1
  refine ⟨t0, t1, t2, ⟨b, d1⟩, ?_⟩
  have d2 : 4 * v * (v * t0 * t0 + B * t0 + C) = p * p * (b * b - D) := by
    have e1 : 4 * v * (v * t0 * t0 + B * t0 + C) = (2 * v * t0 + B) * (2 * v * t0 + B) - (B * B - 4 * v * C) := by grind
    rw [e1, hd, d1]; grind
  generalize v * t0 * t0 + B * t0 + C = Ct at *
  generalize b * b - D = z at *
  -- 4 * v has an inverse
  have r1 : u * h * h * (4 * v) = 1 + p * (p + 2 - w * (p + 1) * (p + 1)) := by
    have e1 : u * h * h * (4 * v) = (u * v) * ((2 * h) * (2 * h)) := by grind
    have e3 : u * v = 1 - w * p := by omega
    rw [e1, hh, e3]; grind
  generalize u * h * h = r at *
  generalize p + 2 - w * (p + 1) * (p + 1) = m at *
  refine ⟨r * (2 - r * (4 * v)) * z + m * m * Ct, ?_⟩
  have e1 : p * p * (r * (2 - r * (4 * v)) * z + m * m * Ct) = r * (2 - r * (4 * v)) * (p * p * z) + (p * m) * (p * m) * Ct := by grind
  have e2 : p * m = r * (4 * v) - 1 := by omega
  rw [e1, ← d2, e2]; grind
theorem ds_two {v B C D u w : Int} (huw : u * v + w * 2 = 1) (h4 : D % 4 ≤ 1) (hd : B * B - 4 * v * C = 2 * 2 * D) : ∃ t0, 0 ≤ t0 ∧ t0 < 2 ∧ 2 ∣ 2 * v * t0 + B ∧ 2 * 2 ∣ v * t0 * t0 + B * t0 + C := by
  have hB : ∃ b, B = 2 * b := by
    obtain ⟨t, ht | ht⟩ : ∃ t, B = 2 * t ∨ B = 2 * t + 1 := ⟨B / 2, by omega⟩
    · exact ⟨t, ht⟩
    · exfalso
      rw [ht, show (2 * t + 1) * (2 * t + 1) = 4 * (t * t + t) + 1 by grind, show 4 * v * C = 4 * (v * C) from Int.mul_assoc ..] at hd
      omega
  obtain ⟨b, rfl⟩ := hB
  have hd2 : b * b - v * C = D := by
    have e1 : 2 * b * (2 * b) - 4 * v * C = 4 * (b * b - v * C) := by grind
    omega
  have key : ∀ t, (b + v * t) % 2 = D % 2 → 2 * 2 ∣ v * t * t + 2 * b * t + C := by
    intro t ht
    have e1 : v * (v * t * t + 2 * b * t + C) = (b + v * t) * (b + v * t) - D := by rw [← hd2]; grind
    have e2 : ∃ k, (b + v * t) * (b + v * t) - D = 4 * k := by
      generalize b + v * t = c at *
      obtain ⟨m, hm | hm⟩ : ∃ m, c = 2 * m ∨ c = 2 * m + 1 := ⟨c / 2, by omega⟩
      · refine ⟨m * m - D / 4, ?_⟩
        rw [hm, show 2 * m * (2 * m) = 4 * (m * m) by grind]; omega
      · refine ⟨m * m + m - D / 4, ?_⟩
        rw [hm, show (2 * m + 1) * (2 * m + 1) = 4 * (m * m + m) + 1 by grind]; omega
    obtain ⟨k, hk⟩ := e2
    rw [hk] at e1
    generalize v * t * t + 2 * b * t + C = Ct at *
    have e3 : Ct = (u * v + w * 2) * (u * v + w * 2) * Ct := by rw [huw]; omega
    have e4 : (u * v + w * 2) * (u * v + w * 2) * Ct = u * u * v * (v * Ct) + 4 * u * w * (v * Ct) + 4 * (w * w * Ct) := by grind
    have e5 := e3.trans e4
    rw [e1] at e5
    exact ⟨u * u * v * k + 4 * u * w * k + w * w * Ct, e5.trans (by grind)⟩
  have hv : v % 2 = 1 := by
    rcases (by omega : v % 2 = 0 ∨ v % 2 = 1) with h | h
    · exfalso
      have : u * v = 2 * (u * (v / 2)) := by
        have e : v = 2 * (v / 2) := by omega
        calc u * v = u * (2 * (v / 2)) := by rw [← e]
          _ = 2 * (u * (v / 2)) := by grind
      omega
    · exact h
  by_cases h : b % 2 = D % 2
  · exact ⟨0, by omega, by omega, ⟨b, by omega⟩, key 0 (by rw [Int.mul_zero, Int.add_zero]; exact h)⟩
  · exact ⟨1, by omega, by omega, ⟨v + b, by omega⟩, key 1 (by rw [Int.mul_one]; omega)⟩
theorem ds_ex {p v B C D u w : Int} (hP : Pd p D) (huw : u * v + w * p = 1) (hd : B * B - 4 * v * C = p * p * D) : ∃ t0, 0 ≤ t0 ∧ t0 < p ∧ p ∣ 2 * v * t0 + B ∧ p * p ∣ v * t0 * t0 + B * t0 + C := by
  rcases hP.odd with h | h
  · subst h; exact ds_two huw hP.h4 hd
  · exact ds_odd h hP.p2 huw hd
theorem ds_cond {p x y : Int} (hp : 2 ≤ p) (hp2 : p ≤ 25) : (bif (!eqI (Int.tmod x p) 0) then some true else ((nz (w64 (p * p))).bind fun z15 => some (!eqI (Int.tmod y (w64 (p * p))) 0))) = some (!(decide (p ∣ x) && decide (p * p ∣ y))) := by
  have m1 : p * p ≤ 25 * 25 := Int.mul_le_mul hp2 hp2 (by omega) (by omega)
  have m2 : 2 * 2 ≤ p * p := Int.mul_le_mul hp hp (by omega) (by omega)
  rw [w64_in (n := p * p) (by omega), nz_ne (show p * p ≠ 0 by omega), tz (show p ≠ 0 by omega), Option.bind_some, tz (show p * p ≠ 0 by omega)]
  cases decide (p ∣ x) <;> cases decide (p * p ∣ y) <;> rfl
theorem ds_run {p v B C t0 : Int} {y3 : F3 × M4} {n : M4} (hp : 2 ≤ p) (hp2 : p ≤ 25) (hv : v.natAbs ≤ 10000) (hB : B.natAbs ≤ 20000) (hC : C.natAbs ≤ 20000) (h0 : t0 < p) (hok : p ∣ 2 * v * t0 + B ∧ p * p ∣ v * t0 * t0 + B * t0 + C) :
    ∀ (k fu fs : Nat) (t : Int), 0 ≤ t → t ≤ t0 → (t0 - t).toNat ≤ k → k < fu → k < fs → ∃ t1, t ≤ t1 ∧ t1 ≤ t0 ∧ (p ∣ 2 * v * t1 + B ∧ p * p ∣ v * t1 * t1 + B * t1 + C) ∧
      r_impl_descend_L11 p y3 ((v, B, C), n) (1, 0, 0, 1) fu t v (2 * v * t + B) (v * t * t + B * t + C) = some (t1, v, 2 * v * t1 + B, v * t1 * t1 + B * t1 + C) ∧
      ∀ y6, r_spec_odDescend_L8 p ((v, B, C), n) y6 fs t = ((nz p).bind fun z19 =>
            (nz (w64 (p * p))).bind fun z20 =>
            (r_spec_reReduce ((v, w64 (Int.tdiv (2 * v * t1 + B) p), w64 (Int.tdiv (v * t1 * t1 + B * t1 + C) (w64 (p * p)))))).bind fun y21 =>
            (r_spec_coShift t1).bind fun y22 =>
            (r_spec_foMul y6 y22).bind fun y23 =>
            (r_spec_foInverse y21.2).bind fun y24 =>
            (r_spec_foMul y24 ((1, 0, 0, p))).bind fun y25 =>
            (r_spec_foInverse y23).bind fun y26 =>
            (r_spec_foMul y25 y26).bind fun y27 =>
            some (.inr (((y21.1, y27)))))
  | k, 0, fs, t, _, _, _, hf, _ => by omega
  | k, fu + 1, 0, t, _, _, _, _, hf => by omega
  | k, fu + 1, fs + 1, t, g1, g2, g3, g4, g5 => by
    have hact : ∀ s : Int, s.natAbs ≤ 1000 → r_impl_Form_substitute (v, B, C) (1, s, 0, 1) = some (v, 2 * v * s + B, v * s * s + B * s + C) := fun s hs => dsc_act_norm (by omega) (by omega) (by omega) (by omega)
    have hsh : r_spec_coShift t = some (1, t, 0, 1) := rfl
    rw [r_impl_descend_L11]
    have spec_unf : ∀ y6, r_spec_odDescend_L8 p ((v, B, C), n) y6 (fs + 1) t = (bif (!(decide (p ∣ 2 * v * t + B) && decide (p * p ∣ v * t * t + B * t + C))) then r_spec_odDescend_L8 p ((v, B, C), n) y6 fs (t + 1) else ((nz p).bind fun z19 =>
            (nz (w64 (p * p))).bind fun z20 =>
            (r_spec_reReduce ((v, w64 (Int.tdiv (2 * v * t + B) p), w64 (Int.tdiv (v * t * t + B * t + C) (w64 (p * p)))))).bind fun y21 =>
            (r_spec_coShift t).bind fun y22 =>
            (r_spec_foMul y6 y22).bind fun y23 =>
            (r_spec_foInverse y21.2).bind fun y24 =>
            (r_spec_foMul y24 ((1, 0, 0, p))).bind fun y25 =>
            (r_spec_foInverse y23).bind fun y26 =>
            (r_spec_foMul y25 y26).bind fun y27 =>
            some (.inr (((y21.1, y27)))))) := by
      intro y6
      rw [r_spec_odDescend_L8, ltI_eq, decide_eq_true (show t < p by omega), cond_true, hsh, Option.bind_some, dsc_act]
      simp only []
      rw [hact t (by omega), Option.bind_some, nz_ne (show p ≠ 0 by omega), Option.bind_some]
      simp only []
      rw [ds_cond hp hp2, Option.bind_some]
      simp only [sI_eq]
      rw [w64_in (n := t + 1) (by omega)]
    by_cases hc : p ∣ 2 * v * t + B ∧ p * p ∣ v * t * t + B * t + C
    · refine ⟨t, Int.le_refl _, g2, hc, ?_, fun y6 => ?_⟩
      · rw [nz_ne (show p ≠ 0 by omega), Option.bind_some, ds_cond hp hp2, decide_eq_true hc.1, decide_eq_true hc.2]
        rfl
      · rw [spec_unf, decide_eq_true hc.1, decide_eq_true hc.2]
        rfl
    · have hne : t ≠ t0 := fun e => hc (e ▸ hok)
      have hb : (!(decide (p ∣ 2 * v * t + B) && decide (p * p ∣ v * t * t + B * t + C))) = true := by
        by_cases e1 : p ∣ 2 * v * t + B
        · by_cases e2 : p * p ∣ v * t * t + B * t + C
          · exact absurd ⟨e1, e2⟩ hc
          · rw [decide_eq_false e2]; cases decide (p ∣ 2 * v * t + B) <;> rfl
        · rw [decide_eq_false e1]; rfl
      obtain ⟨k', rfl⟩ : ∃ k', k = k' + 1 := ⟨k - 1, by omega⟩
      obtain ⟨t1, j1, j2, j3, j4, j5⟩ := ds_run (y3 := y3) (n := n) hp hp2 hv hB hC h0 hok k' fu fs (t + 1) (by omega) (by omega) (by omega) (by omega) (by omega)
      refine ⟨t1, by omega, j2, j3, ?_, fun y6 => ?_⟩
      · rw [nz_ne (show p ≠ 0 by omega), Option.bind_some, ds_cond hp hp2, hb, Option.bind_some, cond_true]
        simp only [sI_eq]
        rw [w64_in (n := t + 1) (by omega), hact (t + 1) (by omega), Option.bind_some]
        exact j4
      · rw [spec_unf, hb, cond_true]
        exact j5 y6
end Go.Proofs.YtafomkclmkfjeaaGreat
namespace Go.Proofs.YtafomkclmkfjeaaGreat
set_option linter.unusedVariables false
set_option linter.unusedSimpArgs false

theorem ww (a : Int) : w64 (w64 a) = w64 a := w64_congr (bv_w64 a)
theorem ds_bnd {p v B C t b c : Int} (hp : 2 ≤ p) (hp2 : p ≤ 25) (hv : 1 ≤ v) (hv2 : v ≤ 10000) (hB : B.natAbs ≤ 20000) (hC : C.natAbs ≤ 20000) (t0 : 0 ≤ t) (t1 : t < p) (hb : 2 * v * t + B = p * b) (hc : v * t * t + B * t + C = p * p * c) : b.natAbs ≤ 60000 ∧ c ≤ 60000 := by
  have m1 : 2 * v * t ≤ 2 * 10000 * p := Int.mul_le_mul (by omega) (by omega) t0 (by omega)
  have m0 : 0 ≤ 2 * v * t := Int.mul_nonneg (by omega) t0
  constructor
  · have u1 : b ≤ 60000 := by
      rcases Int.lt_or_le 60000 b with h | h
      · have : p * 60001 ≤ p * b := Int.mul_le_mul_of_nonneg_left (by omega) (by omega)
        omega
      · exact h
    have u2 : -60000 ≤ b := by
      rcases Int.lt_or_le b (-60000) with h | h
      · have : p * b ≤ p * (-60001) := Int.mul_le_mul_of_nonneg_left (by omega) (by omega)
        omega
      · exact h
    omega
  · have m2 : v * t ≤ 10000 * p := Int.mul_le_mul hv2 (by omega) t0 (by omega)
    have m3 : v * t * t ≤ 10000 * p * p := Int.mul_le_mul m2 (by omega) t0 (by omega)
    have m4 : (B * t).natAbs ≤ 20000 * 25 := abs_mul hB (by omega)
    have m6 : B * t ≤ 20000 * p := by
      rcases Int.le_total 0 B with h | h
      · exact Int.mul_le_mul (by omega) (by omega) t0 (by omega)
      · have : B * t ≤ 0 := Int.mul_nonpos_of_nonpos_of_nonneg h t0
        omega
    have m5 : p * 2 ≤ p * p := Int.mul_le_mul_of_nonneg_left hp (by omega)
    have e1 : 10000 * p * p = 10000 * (p * p) := Int.mul_assoc ..
    rcases Int.lt_or_le 60000 c with h | h
    · have : p * p * 60001 ≤ p * p * c := Int.mul_le_mul_of_nonneg_left (by omega) (by omega)
      omega
    · exact h
/-- What descending gives. -/
structure Dsc (p D : Int) (f g : F3) (n1 n2 n3 n4 : Int) : Prop where
  i : r_impl_descend f p = some (g, (w64 n1, w64 n2, w64 n3, w64 n4))
  s : r_spec_odDescend f p = some (g, (w64 n1, w64 n2, w64 n3, w64 n4))
  prc : PrRc D g
  val : ∀ X Y, FV g (n1 * X + n2 * Y) (n3 * X + n4 * Y) = FV f X Y
  det : n1 * n4 - n2 * n3 = p
  cls : ∀ (hp : 2 ≤ p) (hD : D < 0), gC D hD g = gDn hp hD (gC (p * p * D) (pp_neg hp hD) f)
theorem dsc_mk {p D : Int} (hP : Pd p D) {f : F3} (hf : CF (p * p * D) f) : ∃ g n1 n2 n3 n4, Dsc p D f g n1 n2 n3 n4 := by
  have hF := FUge
  have hp := hP.p2
  have hp2 := hP.p25
  have hDp := pp_neg hP.p2 hP.hD
  obtain ⟨⟨A0, B0, C0⟩, m1, m2, m3, m4, i1, i2, i3, i4, i5, i6, i7, i8, i9, i10⟩ := red_cf hf
  obtain ⟨rb, ra⟩ := prr_rb hP.D1 i3
  obtain ⟨g1, g2, g3, g4⟩ := i3
  simp only [] at rb ra g1 g2 g3 g4 i5
  obtain ⟨⟨x, y⟩, p1, p2, p3, p4⟩ := point_both rb (show 1 ≤ p by omega) hp2 g4
  simp only [] at p3 p4
  have hxy : x ≠ 0 ∨ y ≠ 0 := by
    simp only [ptL, List.mem_cons, Prod.mk.injEq, List.not_mem_nil, or_false] at p3
    omega
  obtain ⟨⟨u1, u2⟩, u3⟩ := g2
  have hv1 : 1 ≤ Vl A0 B0 C0 x y := by
    have := uq_a g1 (show -A0 ≤ B0 by omega) u2 (show A0 ≤ C0 by omega) hxy
    unfold Vl
    omega
  obtain ⟨q, s, B, C, c1, c2, em, t1, t2, v2, qb, sb, x1, x2, y1, y2⟩ := complete_both rb g3 hP.D1 (by omega) p3 rfl hv1
  generalize he : Vl A0 B0 C0 x y = v at *
  have hh : B * B - 4 * v * C = p * p * D := by rw [cmp_dis em, g3]
  obtain ⟨bb, cb⟩ := cmp_c hv1 v2 hP.D1 (by omega) t1 t2 hh
  obtain ⟨u, w, huw⟩ := bez_int v p
  rw [p4] at huw
  obtain ⟨t0, e1, e2, e3⟩ := ds_ex hP huw hh
  obtain ⟨t, j1, j2, ⟨⟨b, hb⟩, ⟨c, hc⟩⟩, j4, j5⟩ := ds_run (p := p) (v := v) (B := B) (C := C) (t0 := t0) (y3 := ((A0, B0, C0), (m1, m2, m3, m4))) (n := (x, q, y, s)) hp hp2 (by omega) (by omega) (by omega) e2 e3 t0.toNat FU FU 0 (by omega) e1 (by omega) (by omega) (by omega)
  obtain ⟨bb1, bc1⟩ := ds_bnd hp hp2 hv1 v2 (by omega) cb (by omega) (by omega) hb hc
  have hpp : 0 < p * p := Int.mul_pos (by omega) (by omega)
  have hpp2 : p * p ≤ 25 * 25 := Int.mul_le_mul hp2 hp2 (by omega) (by omega)
  -- the matrix of the whole
  have W := (mat_mul i5 em).norm t
  rw [hb, hc] at W
  generalize hw1 : m1 * x + m2 * y = w1 at *
  generalize hw2 : w1 * t + (m1 * q + m2 * s) = w2 at *
  generalize hw3 : m3 * x + m4 * y = w3 at *
  generalize hw4 : w3 * t + (m3 * q + m4 * s) = w4 at *
  have hdis : b * b - 4 * v * c = D := by
    have h1 := cmp_dis W
    rw [hf.1.dis] at h1
    have h2 : p * b * (p * b) - 4 * v * (p * p * c) = p * p * (b * b - 4 * v * c) := by grind
    rw [h2] at h1
    exact Int.eq_of_mul_eq_mul_left (by omega) h1
  have hc1 : 1 ≤ c := by
    have hbb : 0 ≤ b * b := sq_nonneg b
    have hD := hP.hD
    rcases Int.lt_or_le 0 c with h | h
    · exact h
    · have : 4 * v * c ≤ 4 * v * 0 := Int.mul_le_mul_of_nonneg_left h (by omega)
      omega
  have E1 : Eqf (v, p * b, p * p * c) f := ⟨w1, w2, w3, w4, W.dt, W.e1.symm, W.e2.symm, W.e3.symm⟩
  have P1 := prim_eqf E1 (con_one hf.1)
  have hcf : CF D (v, b, c) := by
    refine ⟨⟨hv1, by simp only []; omega, by simp only []; omega, by simp only []; omega, hc1, by simp only []; omega, hdis, hP.hD, .inr (by simp only []; omega), fun k => ?_⟩, by simp only []; omega⟩
    constructor
    · rintro ⟨z1, z2, z3⟩
      exact P1 k z1 (Int.dvd_trans z2 ⟨p, Int.mul_comm ..⟩) (Int.dvd_trans z3 ⟨p * p, Int.mul_comm ..⟩)
    · intro z
      exact ⟨Int.dvd_trans z (Int.one_dvd _), Int.dvd_trans z (Int.one_dvd _), Int.dvd_trans z (Int.one_dvd _)⟩
  obtain ⟨g, l1, l2, l3, l4, k1, k2, k3, k4, k5, k6, k7, k8, k9, k10⟩ := red_cf hcf
  simp only [] at k5
  have wpp : w64 (p * p) = p * p := w64_in (by omega)
  have hlow : (v, w64 (Int.tdiv (2 * v * t + B) p), w64 (Int.tdiv (v * t * t + B * t + C) (w64 (p * p)))) = (v, b, c) := by
    rw [wpp, tdv (a := 2 * v * t + B) (b := p) (c := b) (by omega) hb.symm, tdv (a := v * t * t + B * t + C) (b := p * p) (c := c) (by omega) hc.symm, w64_in (n := b) (by omega), w64_in (n := c) (by omega)]
  have z1 : ∀ a b c : Int, w64 (w64 a * c + w64 b) = w64 (a * c + b) := fun a b c => w64_congr (by simp only [bv_add, bv_mul, bv_w64])
  have z2 : ∀ a b c d : Int, w64 (w64 a * w64 b + w64 c * w64 d) = w64 (a * b + c * d) := fun a b c d => w64_congr (by simp only [bv_add, bv_mul, bv_w64])
  have z3 : ∀ a c : Int, w64 (w64 a * c) = w64 (a * c) := fun a c => w64_congr (by simp only [bv_mul, bv_w64])
  have mn : r_impl_Matrix_times (m1, m2, m3, m4) (x, q, y, s) = some (w64 w1, w64 (m1 * q + m2 * s), w64 w3, w64 (m3 * q + m4 * s)) := by rw [times_w, hw1, hw3]
  have mnt : r_impl_Matrix_times (w64 w1, w64 (m1 * q + m2 * s), w64 w3, w64 (m3 * q + m4 * s)) (1, t, 0, 1) = some (w64 w1, w64 w2, w64 w3, w64 w4) := by
    rw [times_w]
    simp only [Int.mul_one, Int.mul_zero, Int.add_zero, z1, ww, hw2, hw4]
  have inv1 := inv_e k5.dt
  have inv2 : r_impl_Matrix_inverse (w64 w1, w64 w2, w64 w3, w64 w4) = some (w64 w4, w64 (-w2), w64 (-w3), w64 w1) := inv_w W.dt
  have ld : r_impl_Matrix_times (w64 l4, w64 (-l2), w64 (-l3), w64 l1) (1, 0, 0, p) = some (w64 l4, w64 (-l2 * p), w64 (-l3), w64 (l1 * p)) := by
    rw [times_w]
    simp only [Int.mul_one, Int.mul_zero, Int.add_zero, Int.zero_add, z3, ww]
  have fin : r_impl_Matrix_times (w64 l4, w64 (-l2 * p), w64 (-l3), w64 (l1 * p)) (w64 w4, w64 (-w2), w64 (-w3), w64 w1) = some (w64 (l4 * w4 + -l2 * p * -w3), w64 (l4 * -w2 + -l2 * p * w1), w64 (-l3 * w4 + l1 * p * -w3), w64 (-l3 * -w2 + l1 * p * w1)) := by
    rw [times_w]
    simp only [z2]
  refine ⟨g, l4 * w4 + -l2 * p * -w3, l4 * -w2 + -l2 * p * w1, -l3 * w4 + l1 * p * -w3, -l3 * -w2 + l1 * p * w1, ⟨?_, ?_, k3, fun X Y => ?_, ?_, fun hp' hD' => ?_⟩⟩
  · unfold r_impl_descend
    rw [i1, Option.bind_some]
    simp only []
    rw [p1, Option.bind_some]
    simp only []
    rw [c1, Option.bind_some]
    simp only [r_impl_one, Option.bind_some]
    have j4' : r_impl_descend_L11 p ((A0, B0, C0), (m1, m2, m3, m4)) ((v, B, C), (x, q, y, s)) (1, 0, 0, 1) FU 0 v B C = some (t, v, 2 * v * t + B, v * t * t + B * t + C) := by
      have e : 2 * v * 0 + B = B := by omega
      have e' : v * 0 * 0 + B * 0 + C = C := by simp
      rw [e, e'] at j4
      exact j4
    rw [j4', Option.bind_some]
    simp only []
    rw [nz_ne (show p ≠ 0 by omega), Option.bind_some, wpp, nz_ne (show p * p ≠ 0 by omega), Option.bind_some]
    rw [wpp] at hlow
    rw [hlow, k1, Option.bind_some]
    simp only []
    rw [mn, Option.bind_some, mnt, Option.bind_some, inv1, Option.bind_some, ld, Option.bind_some, inv2, Option.bind_some, fin, Option.bind_some]
  · unfold r_spec_odDescend
    rw [i2, Option.bind_some]
    simp only []
    rw [p2, Option.bind_some]
    simp only []
    rw [c2, Option.bind_some]
    simp only []
    rw [dsc_mul, mn, Option.bind_some, j5, nz_ne (show p ≠ 0 by omega), Option.bind_some]
    rw [wpp] at hlow ⊢
    rw [nz_ne (show p * p ≠ 0 by omega), Option.bind_some, hlow, k2, Option.bind_some]
    simp only [r_spec_coShift, Option.bind_some]
    rw [dsc_mul, dsc_inv, mnt, Option.bind_some, inv1, Option.bind_some, ld, Option.bind_some, inv2, Option.bind_some, fin, Option.bind_some, Option.bind_some]
  · have h1 := mat_val k5 (l4 * (w4 * X - w2 * Y) - l2 * (p * (-(w3 * X) + w1 * Y))) (-(l3 * (w4 * X - w2 * Y)) + l1 * (p * (-(w3 * X) + w1 * Y)))
    obtain ⟨v1, v2⟩ := inv_undo k5.dt (w4 * X - w2 * Y) (p * (-(w3 * X) + w1 * Y))
    rw [v1, v2] at h1
    have h2 := mat_val W (w4 * X - w2 * Y) (-(w3 * X) + w1 * Y)
    obtain ⟨v3, v4⟩ := inv_undo W.dt X Y
    rw [v3, v4] at h2
    have e1 : (l4 * w4 + -l2 * p * -w3) * X + (l4 * -w2 + -l2 * p * w1) * Y = l4 * (w4 * X - w2 * Y) - l2 * (p * (-(w3 * X) + w1 * Y)) := by grind
    have e2 : (-l3 * w4 + l1 * p * -w3) * X + (-l3 * -w2 + l1 * p * w1) * Y = -(l3 * (w4 * X - w2 * Y)) + l1 * (p * (-(w3 * X) + w1 * Y)) := by grind
    rw [e1, e2]
    refine Eq.trans h1 (Eq.trans ?_ h2)
    simp only [FV]
    grind
  · have : (l4 * w4 + -l2 * p * -w3) * (-l3 * -w2 + l1 * p * w1) - (l4 * -w2 + -l2 * p * w1) * (-l3 * w4 + l1 * p * -w3) = p * ((l1 * l4 - l2 * l3) * (w1 * w4 - w2 * w3)) := by grind
    rw [this, k5.dt, W.dt]; omega
  · have hfp := cf_pos hf
    have e1 : gC D hD' g = gC D hD' (v, b, c) := gC_eq.2 (cl_red (cf_pos hcf) (cf_disc hcf) k4 (prc_pos k3))
    have e2 : gC (p * p * D) (pp_neg hp' hD') (v, p * b, p * p * c) = gC (p * p * D) (pp_neg hp' hD') f := gC_eq.2 (cl_red hfp (cf_disc hf) E1 (by show 0 < v; omega))
    rw [e1, ← e2]
    exact (gDn_low hp' hP.D0 hD' (by omega) hdis huw).symm
end Go.Proofs.YtafomkclmkfjeaaGreat
