/-
  Modules in the order of a negative discriminant: spans, products, classes, and forms that have one class.
  Conditions: none.
-/
import Derived.Test.YtnheekadeflecaaGreatUpDscRed
namespace Go.Proofs.YtnheekadeflecaaGreat
set_option linter.unusedVariables false
set_option linter.unusedSimpArgs false

/-- The element u + v * sqrt D is the pair u, v. -/
abbrev El := Int × Int
def eM (D : Int) (x y : El) : El := (x.1 * y.1 + D * x.2 * y.2, x.1 * y.2 + x.2 * y.1)
def eA (x y : El) : El := (x.1 + y.1, x.2 + y.2)
def eS (x y : El) : El := (x.1 - y.1, x.2 - y.2)
def eK (k : Int) (x : El) : El := (k * x.1, k * x.2)
def eN (D : Int) (x : El) : Int := x.1 * x.1 - D * x.2 * x.2
def eT (D : Int) (x y : El) : Int := x.1 * y.1 - D * x.2 * y.2
def eW (x y : El) : Int := x.1 * y.2 - x.2 * y.1
/-- The least module with the elements of a list. -/
def Sp (L : List El) (x : El) : Prop := ∀ P : El → Prop, P (0, 0) → (∀ a b, P a → P b → P (eS a b)) → (∀ l, l ∈ L → P l) → P x
theorem sp_zero (L : List El) : Sp L (0, 0) := fun P h _ _ => h
theorem sp_sub {L : List El} {x y : El} (h1 : Sp L x) (h2 : Sp L y) : Sp L (eS x y) := fun P a b c => b _ _ (h1 P a b c) (h2 P a b c)
theorem sp_mem {L : List El} {x : El} (h : x ∈ L) : Sp L x := fun P a b c => c _ h
theorem el_ext {x y : El} (h1 : x.1 = y.1) (h2 : x.2 = y.2) : x = y := Prod.ext h1 h2
theorem sp_neg {L : List El} {x : El} (h : Sp L x) : Sp L (eK (-1) x) := by
  have := sp_sub (sp_zero L) h
  have e : eS (0, 0) x = eK (-1) x := el_ext (by simp [eS, eK]) (by simp [eS, eK])
  rwa [e] at this
theorem sp_add {L : List El} {x y : El} (h1 : Sp L x) (h2 : Sp L y) : Sp L (eA x y) := by
  have := sp_sub h1 (sp_neg h2)
  have e : eS x (eK (-1) y) = eA x y := el_ext (by simp [eS, eK, eA]) (by simp [eS, eK, eA])
  rwa [e] at this
theorem sp_nat {L : List El} {x : El} (h : Sp L x) (n : Nat) : Sp L (eK n x) := by
  induction n with
  | zero => have e : eK ((0 : Nat) : Int) x = (0, 0) := el_ext (by simp [eK]) (by simp [eK])
            rw [e]; exact sp_zero L
  | succ n ih =>
    have e : eK ((n + 1 : Nat) : Int) x = eA (eK n x) x := el_ext (by simp [eK, eA, Int.add_mul]) (by simp [eK, eA, Int.add_mul])
    rw [e]; exact sp_add ih h
theorem sp_mul {L : List El} {x : El} (h : Sp L x) (k : Int) : Sp L (eK k x) := by
  rcases Int.le_total 0 k with hk | hk
  · have e : k = (k.toNat : Int) := by omega
    rw [e]; exact sp_nat h _
  · have e : eK k x = eK (-1) (eK ((-k).toNat : Nat) x) := by
      have e1 : (((-k).toNat : Nat) : Int) = -k := by omega
      rw [e1]
      exact el_ext (by simp only [eK]; grind) (by simp only [eK]; grind)
    rw [e]; exact sp_neg (sp_nat h _)
theorem sp_le {L M : List El} (h : ∀ l, l ∈ L → Sp M l) {x : El} (hx : Sp L x) : Sp M x := hx (Sp M) (sp_zero M) (fun _ _ => sp_sub) h
theorem sp_two {u v x : El} (h : Sp [u, v] x) : ∃ p q : Int, x = eA (eK p u) (eK q v) := by
  refine h (fun x => ∃ p q : Int, x = eA (eK p u) (eK q v)) ⟨0, 0, el_ext (by simp [eA, eK]) (by simp [eA, eK])⟩ ?_ ?_
  · rintro a b ⟨p, q, e1⟩ ⟨p', q', e2⟩
    refine ⟨p - p', q - q', ?_⟩
    subst e1 e2
    exact el_ext (by simp only [eS, eA, eK]; grind) (by simp only [eS, eA, eK]; grind)
  · intro l hl
    simp only [List.mem_cons, List.not_mem_nil, or_false] at hl
    rcases hl with e | e
    · exact ⟨1, 0, by subst e; exact el_ext (by simp [eA, eK]) (by simp [eA, eK])⟩
    · exact ⟨0, 1, by subst e; exact el_ext (by simp [eA, eK]) (by simp [eA, eK])⟩
theorem sp_comb {u v : El} (p q : Int) : Sp [u, v] (eA (eK p u) (eK q v)) := sp_add (sp_mul (sp_mem (by simp)) p) (sp_mul (sp_mem (by simp)) q)

/-- A multiple of a list. -/
def eL (D : Int) (a : El) (L : List El) : List El := L.map (eM D a)
def eP (D : Int) (L M : List El) : List El := L.flatMap fun l => M.map (eM D l)
theorem eM_comm (D : Int) (x y : El) : eM D x y = eM D y x := el_ext (by simp only [eM]; grind) (by simp only [eM]; grind)
theorem eM_assoc (D : Int) (x y z : El) : eM D (eM D x y) z = eM D x (eM D y z) := el_ext (by simp only [eM]; grind) (by simp only [eM]; grind)
theorem eM_sub (D : Int) (x y z : El) : eM D x (eS y z) = eS (eM D x y) (eM D x z) := el_ext (by simp only [eM, eS]; grind) (by simp only [eM, eS]; grind)
theorem eM_subl (D : Int) (x y z : El) : eM D (eS x y) z = eS (eM D x z) (eM D y z) := el_ext (by simp only [eM, eS]; grind) (by simp only [eM, eS]; grind)
theorem eM_zero (D : Int) (x : El) : eM D x (0, 0) = (0, 0) := el_ext (by simp [eM]) (by simp [eM])
theorem eM_zerol (D : Int) (x : El) : eM D (0, 0) x = (0, 0) := el_ext (by simp [eM]) (by simp [eM])
theorem eN_mul (D : Int) (x y : El) : eN D (eM D x y) = eN D x * eN D y := by simp only [eN, eM]; grind
theorem eN_pos {D : Int} (hD : D < 0) {x : El} (hx : x ≠ (0, 0)) : 0 < eN D x := by
  simp only [eN]
  have h1 : 0 ≤ x.1 * x.1 := by rcases Int.le_total 0 x.1 with h | h; exact Int.mul_nonneg h h; exact Int.mul_nonneg_of_nonpos_of_nonpos h h
  have h2 : 0 ≤ x.2 * x.2 := by rcases Int.le_total 0 x.2 with h | h; exact Int.mul_nonneg h h; exact Int.mul_nonneg_of_nonpos_of_nonpos h h
  have h3 : 0 ≤ (-D) * (x.2 * x.2) := Int.mul_nonneg (by omega) h2
  have e : D * x.2 * x.2 = -((-D) * (x.2 * x.2)) := by grind
  rw [e]
  rcases Decidable.em (x.1 = 0) with h | h
  · have h4 : x.2 ≠ 0 := fun h5 => hx (el_ext h h5)
    have h5 : x.2 * x.2 ≠ 0 := fun h6 => by rcases Int.mul_eq_zero.1 h6 with h7 | h7 <;> exact h4 h7
    have h6 : 0 < (-D) * (x.2 * x.2) := Int.mul_pos (by omega) (by omega)
    omega
  · have h5 : x.1 * x.1 ≠ 0 := fun h6 => by rcases Int.mul_eq_zero.1 h6 with h7 | h7 <;> exact h h7
    omega
theorem eM_ne {D : Int} (hD : D < 0) {x y : El} (hx : x ≠ (0, 0)) (hy : y ≠ (0, 0)) : eM D x y ≠ (0, 0) := by
  intro h
  have h1 := Int.mul_pos (eN_pos hD hx) (eN_pos hD hy)
  rw [← eN_mul, h] at h1
  simp [eN] at h1
theorem sp_eL {D : Int} {a : El} {L : List El} {x : El} : Sp (eL D a L) x ↔ ∃ y, Sp L y ∧ x = eM D a y := by
  constructor
  · intro h
    refine h (fun x => ∃ y, Sp L y ∧ x = eM D a y) ⟨(0, 0), sp_zero L, (eM_zero D a).symm⟩ ?_ ?_
    · rintro x y ⟨x', h1, e1⟩ ⟨y', h2, e2⟩
      exact ⟨eS x' y', sp_sub h1 h2, by rw [e1, e2, eM_sub]⟩
    · intro l hl
      obtain ⟨m, hm, e⟩ := List.mem_map.1 hl
      exact ⟨m, sp_mem hm, e.symm⟩
  · rintro ⟨y, hy, e⟩
    subst e
    refine hy (fun y => Sp (eL D a L) (eM D a y)) (by rw [eM_zero]; exact sp_zero _) ?_ ?_
    · intro x y h1 h2
      rw [eM_sub]; exact sp_sub h1 h2
    · exact fun l hl => sp_mem (List.mem_map.2 ⟨l, hl, rfl⟩)
theorem mem_eP {D : Int} {L M : List El} {x : El} : x ∈ eP D L M ↔ ∃ l, l ∈ L ∧ ∃ m, m ∈ M ∧ x = eM D l m := by
  simp only [eP, List.mem_flatMap, List.mem_map]
  constructor
  · rintro ⟨l, hl, m, hm, e⟩; exact ⟨l, hl, m, hm, e.symm⟩
  · rintro ⟨l, hl, m, hm, e⟩; exact ⟨l, hl, m, hm, e.symm⟩
theorem sp_eP {D : Int} {L M : List El} {x y : El} (hx : Sp L x) (hy : Sp M y) : Sp (eP D L M) (eM D x y) := by
  refine hx (fun x => Sp (eP D L M) (eM D x y)) (by rw [eM_zerol]; exact sp_zero _) ?_ ?_
  · intro a b h1 h2
    rw [eM_subl]; exact sp_sub h1 h2
  · intro l hl
    refine hy (fun y => Sp (eP D L M) (eM D l y)) (by rw [eM_zero]; exact sp_zero _) ?_ ?_
    · intro a b h1 h2
      rw [eM_sub]; exact sp_sub h1 h2
    · exact fun m hm => sp_mem (mem_eP.2 ⟨l, hl, m, hm, rfl⟩)

/-- Two modules are in one class. -/
def Cl (D : Int) (L M : List El) : Prop := ∃ a b : El, a ≠ (0, 0) ∧ b ≠ (0, 0) ∧ ∀ x, Sp (eL D a L) x ↔ Sp (eL D b M) x
theorem cl_refl (D : Int) (L : List El) : Cl D L L := ⟨(1, 0), (1, 0), by simp, by simp, fun _ => Iff.rfl⟩
theorem cl_symm {D : Int} {L M : List El} (h : Cl D L M) : Cl D M L := by
  obtain ⟨a, b, h1, h2, h3⟩ := h
  exact ⟨b, a, h2, h1, fun x => (h3 x).symm⟩
theorem eL_cong {D : Int} {c a b : El} {L M : List El} (h : ∀ x, Sp (eL D a L) x ↔ Sp (eL D b M) x) (x : El) : Sp (eL D (eM D c a) L) x ↔ Sp (eL D (eM D c b) M) x := by
  simp only [sp_eL] at h ⊢
  constructor
  · rintro ⟨y, hy, e⟩
    obtain ⟨z, hz, e2⟩ := (h (eM D a y)).1 ⟨y, hy, rfl⟩
    exact ⟨z, hz, by rw [e, eM_assoc, e2, eM_assoc]⟩
  · rintro ⟨y, hy, e⟩
    obtain ⟨z, hz, e2⟩ := (h (eM D b y)).2 ⟨y, hy, rfl⟩
    exact ⟨z, hz, by rw [e, eM_assoc, e2, eM_assoc]⟩
theorem cl_trans {D : Int} (hD : D < 0) {L M N : List El} (h1 : Cl D L M) (h2 : Cl D M N) : Cl D L N := by
  obtain ⟨a, b, ha, hb, h⟩ := h1
  obtain ⟨c, d, hc, hd, k⟩ := h2
  refine ⟨eM D c a, eM D b d, eM_ne hD hc ha, eM_ne hD hb hd, fun x => ?_⟩
  rw [eL_cong h x, eM_comm D c b, eL_cong k x]
theorem cl_of_sp {D : Int} {L M : List El} (h : ∀ x, Sp L x ↔ Sp M x) : Cl D L M := by
  refine ⟨(1, 0), (1, 0), by simp, by simp, fun x => ?_⟩
  rw [sp_eL, sp_eL]
  constructor
  · rintro ⟨y, hy, e⟩; exact ⟨y, (h y).1 hy, e⟩
  · rintro ⟨y, hy, e⟩; exact ⟨y, (h y).2 hy, e⟩
theorem sp_iff {L M : List El} (h1 : ∀ l, l ∈ L → Sp M l) (h2 : ∀ l, l ∈ M → Sp L l) (x : El) : Sp L x ↔ Sp M x := ⟨sp_le h1, sp_le h2⟩
/-- Multiples that are equal: a list M of which a multiple spans what a multiple of L spans. -/
theorem cl_mk {D : Int} {a b : El} {L M : List El} (ha : a ≠ (0, 0)) (hb : b ≠ (0, 0)) (h1 : ∀ l, l ∈ L → Sp (eL D b M) (eM D a l)) (h2 : ∀ m, m ∈ M → Sp (eL D a L) (eM D b m)) : Cl D L M := by
  refine ⟨a, b, ha, hb, sp_iff ?_ ?_⟩
  · intro l hl
    obtain ⟨m, hm, e⟩ := List.mem_map.1 hl
    rw [← e]; exact h1 m hm
  · intro l hl
    obtain ⟨m, hm, e⟩ := List.mem_map.1 hl
    rw [← e]; exact h2 m hm
theorem cl_prod_half {D : Int} {a b c d : El} {L L' M M' : List El} (h : ∀ x, Sp (eL D a L) x ↔ Sp (eL D b L') x) (k : ∀ x, Sp (eL D c M) x ↔ Sp (eL D d M') x) : ∀ l, l ∈ eP D L M → Sp (eL D (eM D b d) (eP D L' M')) (eM D (eM D a c) l) := by
  intro l hl
  obtain ⟨l1, h1, m1, h2, e⟩ := mem_eP.1 hl
  obtain ⟨y, hy, e1⟩ := sp_eL.1 ((h (eM D a l1)).1 (sp_eL.2 ⟨l1, sp_mem h1, rfl⟩))
  obtain ⟨z, hz, e2⟩ := sp_eL.1 ((k (eM D c m1)).1 (sp_eL.2 ⟨m1, sp_mem h2, rfl⟩))
  refine sp_eL.2 ⟨eM D y z, sp_eP hy hz, ?_⟩
  have e3 : eM D (eM D a c) l = eM D (eM D a l1) (eM D c m1) := by
    rw [e]; exact el_ext (by simp only [eM]; grind) (by simp only [eM]; grind)
  rw [e3, e1, e2]
  exact el_ext (by simp only [eM]; grind) (by simp only [eM]; grind)
theorem cl_prod {D : Int} (hD : D < 0) {L L' M M' : List El} (h1 : Cl D L L') (h2 : Cl D M M') : Cl D (eP D L M) (eP D L' M') := by
  obtain ⟨a, b, ha, hb, h⟩ := h1
  obtain ⟨c, d, hc, hd, k⟩ := h2
  exact cl_mk (eM_ne hD ha hc) (eM_ne hD hb hd) (cl_prod_half h k) (cl_prod_half (fun x => (h x).symm) (fun x => (k x).symm))
theorem cl_comm (D : Int) (L M : List El) : Cl D (eP D L M) (eP D M L) := by
  refine cl_of_sp (sp_iff ?_ ?_)
  · intro l hl
    obtain ⟨x, hx, y, hy, e⟩ := mem_eP.1 hl
    rw [e, eM_comm]
    exact sp_mem (mem_eP.2 ⟨y, hy, x, hx, rfl⟩)
  · intro l hl
    obtain ⟨x, hx, y, hy, e⟩ := mem_eP.1 hl
    rw [e, eM_comm]
    exact sp_mem (mem_eP.2 ⟨y, hy, x, hx, rfl⟩)
theorem cl_assoc (D : Int) (L M N : List El) : Cl D (eP D (eP D L M) N) (eP D L (eP D M N)) := by
  refine cl_of_sp (sp_iff ?_ ?_)
  · intro l hl
    obtain ⟨x, hx, y, hy, e⟩ := mem_eP.1 hl
    obtain ⟨z, hz, w, hw, e2⟩ := mem_eP.1 hx
    rw [e, e2, eM_assoc]
    exact sp_mem (mem_eP.2 ⟨z, hz, _, mem_eP.2 ⟨w, hw, y, hy, rfl⟩, rfl⟩)
  · intro l hl
    obtain ⟨x, hx, y, hy, e⟩ := mem_eP.1 hl
    obtain ⟨z, hz, w, hw, e2⟩ := mem_eP.1 hy
    rw [e, e2, ← eM_assoc]
    exact sp_mem (mem_eP.2 ⟨_, mem_eP.2 ⟨x, hx, z, hz, rfl⟩, w, hw, rfl⟩)

/-- The module of a form. -/
def fL (f : Int × Int × Int) : List El := [(2 * f.1, 0), (f.2.1, 1)]
def fD (f : Int × Int × Int) : Int := f.2.1 * f.2.1 - 4 * f.1 * f.2.2
/-- One form is the other one after a substitution of determinant 1. -/
def Eqf (f g : Int × Int × Int) : Prop := ∃ p q r s : Int, p * s - q * r = 1 ∧ f.1 = g.1 * p * p + g.2.1 * p * r + g.2.2 * r * r ∧ f.2.1 = 2 * g.1 * p * q + g.2.1 * (p * s + q * r) + 2 * g.2.2 * r * s ∧ f.2.2 = g.1 * q * q + g.2.1 * q * s + g.2.2 * s * s
theorem eqf_disc {f g : Int × Int × Int} (h : Eqf f g) : fD f = fD g := by
  obtain ⟨p, q, r, s, hdet, e1, e2, e3⟩ := h
  simp only [fD]
  have : p * s = 1 + q * r := by omega
  rw [e1, e2, e3]
  grind
theorem cl_of_eqf {f g : Int × Int × Int} (hf : 0 < f.1) (hg : 0 < g.1) (h : Eqf f g) : Cl (fD g) (fL f) (fL g) := by
  have hd := eqf_disc h
  obtain ⟨p, q, r, s, hdet, e1, e2, e3⟩ := h
  obtain ⟨a, b, c⟩ := f
  obtain ⟨a', b', c'⟩ := g
  simp only [fD] at hd hf hg e1 e2 e3 ⊢
  have hps : p * s = 1 + q * r := by omega
  have hne : ((2 * a' * p + b' * r, r) : El) ≠ (0, 0) := by
    intro h0
    have h1 : r = 0 := congrArg Prod.snd h0
    have h2 : 2 * a' * p + b' * r = 0 := congrArg Prod.fst h0
    subst h1
    have h3 : p = 0 := by
      have : 2 * a' * p = 0 := by omega
      rcases Int.mul_eq_zero.1 this with h4 | h4
      · omega
      · exact h4
    subst h3
    omega
  have hne2 : ((2 * a, 0) : El) ≠ (0, 0) := by
    intro h0
    have h1 : 2 * a = 0 := congrArg Prod.fst h0
    omega
  have k1 : eM (b' * b' - 4 * a' * c') (2 * a' * p + b' * r, r) (2 * a, 0) = eM (b' * b' - 4 * a' * c') (2 * a, 0) (eA (eK p (2 * a', 0)) (eK r (b', 1))) := el_ext (by simp only [eM, eA, eK]; grind) (by simp only [eM, eA, eK]; grind)
  have k2 : eM (b' * b' - 4 * a' * c') (2 * a' * p + b' * r, r) (b, 1) = eM (b' * b' - 4 * a' * c') (2 * a, 0) (eA (eK q (2 * a', 0)) (eK s (b', 1))) := by
    refine el_ext ?_ ?_
    · simp only [eM, eA, eK]
      rw [e1, e2]
      have : (2 * a' * p + b' * r) * (2 * a' * p * q + b' * (p * s + q * r) + 2 * c' * r * s) + (b' * b' - 4 * a' * c') * r * 1 - (2 * (a' * p * p + b' * p * r + c' * r * r) * (q * (2 * a') + s * b') + (b' * b' - 4 * a' * c') * 0 * (q * 0 + s * 1)) = (b' * b' - 4 * a' * c') * r * (1 - (p * s - q * r)) := by grind
      rw [hdet] at this
      omega
    · simp only [eM, eA, eK]
      rw [e1, e2]
      have : (2 * a' * p + b' * r) * 1 + r * (2 * a' * p * q + b' * (p * s + q * r) + 2 * c' * r * s) - (2 * (a' * p * p + b' * p * r + c' * r * r) * (q * 0 + s * 1) + 0 * (q * (2 * a') + s * b')) = (2 * a' * p + b' * r) * (1 - (p * s - q * r)) := by grind
      rw [hdet] at this
      omega
  refine cl_mk hne hne2 ?_ ?_
  · intro l hl
    simp only [fL, List.mem_cons, List.not_mem_nil, or_false] at hl
    rcases hl with e | e
    · subst e; rw [k1]; exact sp_eL.2 ⟨_, sp_comb p r, rfl⟩
    · subst e; rw [k2]; exact sp_eL.2 ⟨_, sp_comb q s, rfl⟩
  · intro l hl
    have j1 : eA (eK s (eA (eK p (2 * a', 0)) (eK r (b', 1)))) (eK (-r) (eA (eK q (2 * a', 0)) (eK s (b', 1)))) = ((2 * a', 0) : El) := by
      refine el_ext ?_ ?_
      · simp only [eA, eK]
        have : s * (p * (2 * a') + r * b') + -r * (q * (2 * a') + s * b') = 2 * a' * (p * s - q * r) := by grind
        rw [hdet] at this
        omega
      · simp only [eA, eK]; grind
    have j2 : eA (eK (-q) (eA (eK p (2 * a', 0)) (eK r (b', 1)))) (eK p (eA (eK q (2 * a', 0)) (eK s (b', 1)))) = ((b', 1) : El) := by
      refine el_ext ?_ ?_
      · simp only [eA, eK]
        have : -q * (p * (2 * a') + r * b') + p * (q * (2 * a') + s * b') = b' * (p * s - q * r) := by grind
        rw [hdet] at this
        omega
      · simp only [eA, eK]; grind
    have m1 : ∀ x y : Int, eM (b' * b' - 4 * a' * c') (2 * a, 0) (eA (eK x (eA (eK p (2 * a', 0)) (eK r (b', 1)))) (eK y (eA (eK q (2 * a', 0)) (eK s (b', 1))))) = eA (eK x (eM (b' * b' - 4 * a' * c') (2 * a, 0) (eA (eK p (2 * a', 0)) (eK r (b', 1))))) (eK y (eM (b' * b' - 4 * a' * c') (2 * a, 0) (eA (eK q (2 * a', 0)) (eK s (b', 1))))) := by
      intro x y
      exact el_ext (by simp only [eM, eA, eK]; grind) (by simp only [eM, eA, eK]; grind)
    have m2 : ∀ x y : Int, Sp (eL (b' * b' - 4 * a' * c') (2 * a' * p + b' * r, r) (fL (a, b, c))) (eA (eK x (eM (b' * b' - 4 * a' * c') (2 * a, 0) (eA (eK p (2 * a', 0)) (eK r (b', 1))))) (eK y (eM (b' * b' - 4 * a' * c') (2 * a, 0) (eA (eK q (2 * a', 0)) (eK s (b', 1)))))) := by
      intro x y
      rw [← k1, ← k2]
      exact sp_add (sp_mul (sp_eL.2 ⟨_, sp_mem (by simp [fL]), rfl⟩) x) (sp_mul (sp_eL.2 ⟨_, sp_mem (by simp [fL]), rfl⟩) y)
    simp only [fL, List.mem_cons, List.not_mem_nil, or_false] at hl
    rcases hl with e | e
    · subst e; rw [← j1, m1]; exact m2 _ _
    · subst e; rw [← j2, m1]; exact m2 _ _

theorem eN_comb (D : Int) (p r : Int) (u v : El) : eN D (eA (eK p u) (eK r v)) = p * p * eN D u + 2 * p * r * eT D u v + r * r * eN D v := by
  simp only [eN, eA, eK, eT]; grind
theorem eT_comb (D : Int) (p r q s : Int) (u v : El) : eT D (eA (eK p u) (eK r v)) (eA (eK q u) (eK s v)) = p * q * eN D u + (p * s + q * r) * eT D u v + r * s * eN D v := by
  simp only [eN, eA, eK, eT]; grind
theorem eW_comb (p r q s : Int) (u v : El) : eW (eA (eK p u) (eK r v)) (eA (eK q u) (eK s v)) = (p * s - q * r) * eW u v := by
  simp only [eW, eA, eK]; grind
theorem eT_mul (D : Int) (a x y : El) : eT D (eM D a x) (eM D a y) = eN D a * eT D x y := by simp only [eN, eM, eT]; grind
theorem eW_mul (D : Int) (a x y : El) : eW (eM D a x) (eM D a y) = eN D a * eW x y := by simp only [eN, eM, eW]; grind
/-- Forms whose modules are in one class are equivalent. -/
theorem eqf_of_cl {f g : Int × Int × Int} (hf : 0 < f.1) (hg : 0 < g.1) (hD : fD g < 0) (hd : fD f = fD g) (h : Cl (fD g) (fL f) (fL g)) : Eqf f g := by
  obtain ⟨α, β, hα, hβ, hs⟩ := h
  have hNα := eN_pos hD hα
  have hNβ := eN_pos hD hβ
  have half : ∀ {f g : Int × Int × Int} {α β : El}, (∀ x, Sp (eL (fD g) α (fL f)) x ↔ Sp (eL (fD g) β (fL g)) x) → ∃ p q r s : Int, eM (fD g) α (2 * f.1, 0) = eM (fD g) β (eA (eK p (2 * g.1, 0)) (eK r (g.2.1, 1))) ∧ eM (fD g) α (f.2.1, 1) = eM (fD g) β (eA (eK q (2 * g.1, 0)) (eK s (g.2.1, 1))) := by
    intro f g α β hs
    obtain ⟨y, hy, e1⟩ := sp_eL.1 ((hs _).1 (sp_eL.2 ⟨(2 * f.1, 0), sp_mem (by simp [fL]), rfl⟩))
    obtain ⟨z, hz, e2⟩ := sp_eL.1 ((hs _).1 (sp_eL.2 ⟨(f.2.1, 1), sp_mem (by simp [fL]), rfl⟩))
    obtain ⟨p, r, e3⟩ := sp_two hy
    obtain ⟨q, s, e4⟩ := sp_two hz
    exact ⟨p, q, r, s, by rw [e1, e3], by rw [e2, e4]⟩
  obtain ⟨p, q, r, s, e1, e2⟩ := half hs
  obtain ⟨p', q', r', s', e3, e4⟩ := half (f := g) (g := f) (by rw [hd]; exact fun x => (hs x).symm)
  rw [hd] at e3 e4
  have w1 : eN (fD g) α * (2 * f.1) = eN (fD g) β * ((p * s - q * r) * (2 * g.1)) := by
    have h1 := eW_mul (fD g) α (2 * f.1, 0) (f.2.1, 1)
    rw [e1, e2, eW_mul, eW_comb] at h1
    simpa [eW] using h1.symm
  have w2 : eN (fD g) β * (2 * g.1) = eN (fD g) α * ((p' * s' - q' * r') * (2 * f.1)) := by
    have h1 := eW_mul (fD g) β (2 * g.1, 0) (g.2.1, 1)
    rw [e3, e4, eW_mul, eW_comb] at h1
    simpa [eW] using h1.symm
  have hX : 0 < eN (fD g) α * (2 * f.1) := Int.mul_pos hNα (by omega)
  have hY : 0 < eN (fD g) β * (2 * g.1) := Int.mul_pos hNβ (by omega)
  have hdet : p * s - q * r = 1 := by
    have x1 : eN (fD g) α * (2 * f.1) = (eN (fD g) β * (2 * g.1)) * (p * s - q * r) := by rw [w1]; grind
    have x2 : eN (fD g) β * (2 * g.1) = (eN (fD g) α * (2 * f.1)) * (p' * s' - q' * r') := by
      have : eN (fD g) α * ((p' * s' - q' * r') * (2 * f.1)) = (eN (fD g) α * (2 * f.1)) * (p' * s' - q' * r') := by grind
      rw [← this]; exact w2
    generalize hXX : eN (fD g) α * (2 * f.1) = X at *
    generalize hYY : eN (fD g) β * (2 * g.1) = Y at *
    generalize p * s - q * r = t at *
    generalize p' * s' - q' * r' = t' at *
    have ht : 0 < t := by
      rcases Int.lt_or_le 0 t with h | h
      · exact h
      · have : Y * t ≤ 0 := Int.mul_nonpos_of_nonneg_of_nonpos (by omega) h
        omega
    have ht' : 0 < t' := by
      rcases Int.lt_or_le 0 t' with h | h
      · exact h
      · have : X * t' ≤ 0 := Int.mul_nonpos_of_nonneg_of_nonpos (by omega) h
        omega
    have h1 : X * 1 = X * (t' * t) := by
      have : X = X * t' * t := by rw [← x2]; exact x1
      rw [Int.mul_one, ← Int.mul_assoc]; exact this
    have h2 : 1 = t' * t := Int.eq_of_mul_eq_mul_left (by omega) h1
    have h3 : 1 * t ≤ t' * t := Int.mul_le_mul_of_nonneg_right (by omega) (by omega)
    omega
  have key : eN (fD g) α * f.1 = eN (fD g) β * g.1 := by
    rw [hdet] at w1
    have : 2 * (eN (fD g) α * f.1) = 2 * (eN (fD g) β * g.1) := by grind
    omega
  have hK : 0 < eN (fD g) α * f.1 := Int.mul_pos hNα hf
  have n1 : eN (fD g) (2 * g.1, 0) = 4 * g.1 * g.1 := by simp only [eN]; grind
  have n2 : eN (fD g) (g.2.1, 1) = 4 * g.1 * g.2.2 := by simp only [eN, fD]; grind
  have n3 : eT (fD g) (2 * g.1, 0) (g.2.1, 1) = 2 * g.1 * g.2.1 := by simp only [eT]; grind
  have m1 : eN (fD g) (2 * f.1, 0) = 4 * f.1 * f.1 := by simp only [eN]; grind
  have m2 : eN (fD g) (f.2.1, 1) = 4 * f.1 * f.2.2 := by rw [← hd]; simp only [eN, fD]; grind
  have m3 : eT (fD g) (2 * f.1, 0) (f.2.1, 1) = 2 * f.1 * f.2.1 := by simp only [eT]; grind
  have v1 : eN (fD g) α * (4 * f.1 * f.1) = eN (fD g) β * (p * p * (4 * g.1 * g.1) + 2 * p * r * (2 * g.1 * g.2.1) + r * r * (4 * g.1 * g.2.2)) := by
    rw [← m1, ← n1, ← n2, ← n3, ← eN_comb, ← eN_mul, ← eN_mul, e1]
  have v2 : eN (fD g) α * (4 * f.1 * f.2.2) = eN (fD g) β * (q * q * (4 * g.1 * g.1) + 2 * q * s * (2 * g.1 * g.2.1) + s * s * (4 * g.1 * g.2.2)) := by
    rw [← m2, ← n1, ← n2, ← n3, ← eN_comb, ← eN_mul, ← eN_mul, e2]
  have v3 : eN (fD g) α * (2 * f.1 * f.2.1) = eN (fD g) β * (p * q * (4 * g.1 * g.1) + (p * s + q * r) * (2 * g.1 * g.2.1) + r * s * (4 * g.1 * g.2.2)) := by
    rw [← m3, ← n1, ← n2, ← n3, ← eT_comb, ← eT_mul, ← eT_mul, e1, e2]
  have canc : ∀ x y : Int, (eN (fD g) α * f.1) * x = (eN (fD g) β * g.1) * y → x = y := by
    intro x y h
    rw [← key] at h
    exact Int.eq_of_mul_eq_mul_left (by omega) h
  generalize eN (fD g) α = A at *
  generalize eN (fD g) β = B at *
  refine ⟨p, q, r, s, hdet, canc _ _ ?_, canc _ _ ?_, canc _ _ ?_⟩
  · have e1 : 4 * (A * f.1 * f.1) = A * (4 * f.1 * f.1) := by grind
    have e2 : 4 * (B * g.1 * (g.1 * p * p + g.2.1 * p * r + g.2.2 * r * r)) = B * (p * p * (4 * g.1 * g.1) + 2 * p * r * (2 * g.1 * g.2.1) + r * r * (4 * g.1 * g.2.2)) := by grind
    omega
  · have e1 : 2 * (A * f.1 * f.2.1) = A * (2 * f.1 * f.2.1) := by grind
    have e2 : 2 * (B * g.1 * (2 * g.1 * p * q + g.2.1 * (p * s + q * r) + 2 * g.2.2 * r * s)) = B * (p * q * (4 * g.1 * g.1) + (p * s + q * r) * (2 * g.1 * g.2.1) + r * s * (4 * g.1 * g.2.2)) := by grind
    omega
  · have e1 : 4 * (A * f.1 * f.2.2) = A * (4 * f.1 * f.2.2) := by grind
    have e2 : 4 * (B * g.1 * (g.1 * q * q + g.2.1 * q * s + g.2.2 * s * s)) = B * (q * q * (4 * g.1 * g.1) + 2 * q * s * (2 * g.1 * g.2.1) + s * s * (4 * g.1 * g.2.2)) := by grind
    omega
end Go.Proofs.YtnheekadeflecaaGreat
namespace Go.Proofs.YtnheekadeflecaaGreat
set_option linter.unusedVariables false
set_option linter.unusedSimpArgs false

theorem mem_fP {D : Int} {a b a' b' : Int} {x : El} {c c' : Int} (h : x ∈ eP D (fL (a, b, c)) (fL (a', b', c'))) : x = (4 * a * a', 0) ∨ x = (2 * a * b', 2 * a) ∨ x = (2 * a' * b, 2 * a') ∨ x = (b * b' + D, b + b') := by
  obtain ⟨l, hl, m, hm, e⟩ := mem_eP.1 h
  simp only [fL, List.mem_cons, List.not_mem_nil, or_false] at hl hm
  rcases hl with e1 | e1 <;> rcases hm with e2 | e2 <;> subst e1 e2
  · left; rw [e]; exact el_ext (by simp only [eM]; grind) (by simp only [eM]; grind)
  · right; left; rw [e]; exact el_ext (by simp only [eM]; grind) (by simp only [eM]; grind)
  · right; right; left; rw [e]; exact el_ext (by simp only [eM]; grind) (by simp only [eM]; grind)
  · right; right; right; rw [e]; exact el_ext (by simp only [eM]; grind) (by simp only [eM]; grind)
theorem fP_1 (D a b c a' b' c' : Int) : Sp (eP D (fL (a, b, c)) (fL (a', b', c'))) (4 * a * a', 0) := by
  have : eM D (2 * a, 0) (2 * a', 0) = (4 * a * a', 0) := el_ext (by simp only [eM]; grind) (by simp only [eM]; grind)
  rw [← this]; exact sp_eP (sp_mem (by simp [fL])) (sp_mem (by simp [fL]))
theorem fP_2 (D a b c a' b' c' : Int) : Sp (eP D (fL (a, b, c)) (fL (a', b', c'))) (2 * a * b', 2 * a) := by
  have : eM D (2 * a, 0) (b', 1) = (2 * a * b', 2 * a) := el_ext (by simp only [eM]; grind) (by simp only [eM]; grind)
  rw [← this]; exact sp_eP (sp_mem (by simp [fL])) (sp_mem (by simp [fL]))
theorem fP_3 (D a b c a' b' c' : Int) : Sp (eP D (fL (a, b, c)) (fL (a', b', c'))) (2 * a' * b, 2 * a') := by
  have : eM D (b, 1) (2 * a', 0) = (2 * a' * b, 2 * a') := el_ext (by simp only [eM]; grind) (by simp only [eM]; grind)
  rw [← this]; exact sp_eP (sp_mem (by simp [fL])) (sp_mem (by simp [fL]))
theorem fP_4 (D a b c a' b' c' : Int) : Sp (eP D (fL (a, b, c)) (fL (a', b', c'))) (b * b' + D, b + b') := by
  have : eM D (b, 1) (b', 1) = (b * b' + D, b + b') := el_ext (by simp only [eM]; grind) (by simp only [eM]; grind)
  rw [← this]; exact sp_eP (sp_mem (by simp [fL])) (sp_mem (by simp [fL]))
theorem sp_in {L : List El} {x y : El} (h : Sp L x) (e : x = y) : Sp L y := e ▸ h
/-- A multiple by a whole number, as one by an element. -/
theorem eM_k (D k : Int) (x : El) : eM D (k, 0) x = eK k x := el_ext (by simp only [eM, eK]; grind) (by simp only [eM, eK]; grind)
theorem fS (a b c : Int) (p q x y : Int) (hx : x = 2 * a * p + b * q) (hy : y = q) : Sp (fL (a, b, c)) (x, y) := by
  have := sp_comb (u := (2 * a, 0)) (v := (b, 1)) p q
  exact sp_in this (el_ext (by simp only [eA, eK]; rw [hx]; grind) (by simp only [eA, eK]; rw [hy]; grind))
theorem eMk_in {D k : Int} {L : List El} {x y : El} (h : Sp L x) (e : eK k x = y) : Sp (eL D (k, 0) L) y := sp_eL.2 ⟨x, h, by rw [eM_k]; exact e.symm⟩
/-- The product of united forms. -/
theorem cl_united {D a e b c s t : Int} (hD : D = b * b - 4 * a * e * c) (hst : s * a + t * e = 1) : Cl D (eP D (fL (a, b, e * c)) (fL (e, b, a * c))) (fL (a * e, b, c)) := by
  refine cl_mk (a := (1, 0)) (b := (2, 0)) (by simp) (by simp) ?_ ?_
  · intro l hl
    rw [eM_k]
    rcases mem_fP hl with h | h | h | h
    · subst h; exact eMk_in (fS _ _ _ 1 0 (2 * a * e) 0 (by grind) rfl) (el_ext (by simp only [eK]; grind) (by simp only [eK]; grind))
    · subst h; exact eMk_in (fS _ _ _ 0 a (a * b) a (by grind) rfl) (el_ext (by simp only [eK]; grind) (by simp only [eK]; grind))
    · subst h; exact eMk_in (fS _ _ _ 0 e (e * b) e (by grind) rfl) (el_ext (by simp only [eK]; grind) (by simp only [eK]; grind))
    · subst h; exact eMk_in (fS _ _ _ (-c) b (b * b - 2 * a * e * c) b (by grind) rfl) (el_ext (by simp only [eK]; grind) (by simp only [eK]; grind))
  · intro l hl
    rw [eM_k]
    simp only [fL, List.mem_cons, List.not_mem_nil, or_false] at hl
    rcases hl with h | h
    · subst h; exact eMk_in (fP_1 D a b (e * c) e b (a * c)) (el_ext (by simp only [eK]; grind) (by simp only [eK]; grind))
    · subst h
      refine eMk_in (sp_add (sp_mul (fP_2 D a b (e * c) e b (a * c)) s) (sp_mul (fP_3 D a b (e * c) e b (a * c)) t)) (el_ext ?_ ?_)
      · simp only [eK, eA]
        have : 1 * (s * (2 * a * b) + t * (2 * e * b)) = 2 * b * (s * a + t * e) := by grind
        rw [this, hst]; omega
      · simp only [eK, eA]
        have : 1 * (s * (2 * a) + t * (2 * e)) = 2 * (s * a + t * e) := by grind
        rw [this, hst]; try omega
/-- The identity. -/
theorem cl_one {D a b c p c0 m : Int} (hD : D = b * b - 4 * a * c) (hm : b + p = 2 * m) : Cl D (eP D (fL (1, p, c0)) (fL (a, b, c))) (fL (a, b, c)) := by
  refine cl_mk (a := (1, 0)) (b := (2, 0)) (by simp) (by simp) ?_ ?_
  · intro l hl
    rw [eM_k]
    rcases mem_fP hl with h | h | h | h
    · subst h; exact eMk_in (fS _ _ _ 1 0 (2 * a) 0 (by grind) rfl) (el_ext (by simp only [eK]; grind) (by simp only [eK]; grind))
    · subst h; exact eMk_in (fS _ _ _ 0 1 b 1 (by grind) rfl) (el_ext (by simp only [eK]; grind) (by simp only [eK]; grind))
    · subst h; exact eMk_in (fS _ _ _ (p - m) a (a * p) a (by grind) rfl) (el_ext (by simp only [eK]; grind) (by simp only [eK]; grind))
    · subst h; exact eMk_in (fS _ _ _ (-c) m (b * m - 2 * a * c) m (by grind) rfl) (el_ext (by simp only [eK]; grind) (by simp only [eK]; grind))
  · intro l hl
    rw [eM_k]
    simp only [fL, List.mem_cons, List.not_mem_nil, or_false] at hl
    rcases hl with h | h
    · subst h; exact eMk_in (fP_1 D 1 p c0 a b c) (el_ext (by simp only [eK]; grind) (by simp only [eK]; grind))
    · subst h; exact eMk_in (fP_2 D 1 p c0 a b c) (el_ext (by simp only [eK]; grind) (by simp only [eK]; grind))
/-- The inverse. -/
theorem cl_inv {D a b c p c0 m x y z : Int} (ha : 0 < a) (hD : D = b * b - 4 * a * c) (hm : b + p = 2 * m) (hx : x * a + y * b + z * c = 1) : Cl D (eP D (fL (a, b, c)) (fL (a, -b, c))) (fL (1, p, c0)) := by
  refine cl_mk (a := (1, 0)) (b := (2 * a, 0)) (by simp) (by intro h; have h0 : 2 * a = 0 := congrArg Prod.fst h; omega) ?_ ?_
  · intro l hl
    rw [eM_k]
    rcases mem_fP hl with h | h | h | h
    · subst h; exact eMk_in (fS _ _ _ a 0 (2 * a) 0 (by grind) rfl) (el_ext (by simp only [eK]; grind) (by simp only [eK]; grind))
    · subst h; exact eMk_in (fS _ _ _ (-m) 1 (-b) 1 (by grind) rfl) (el_ext (by simp only [eK]; grind) (by simp only [eK]; grind))
    · subst h; exact eMk_in (fS _ _ _ (m - p) 1 b 1 (by grind) rfl) (el_ext (by simp only [eK]; grind) (by simp only [eK]; grind))
    · subst h; exact eMk_in (fS _ _ _ (-c) 0 (-2 * c) 0 (by grind) rfl) (el_ext (by simp only [eK]; grind) (by simp only [eK]; grind))
  · intro l hl
    rw [eM_k]
    have k1 : Sp (eP D (fL (a, b, c)) (fL (a, -b, c))) (4 * a * a, 0) := fP_1 D a b c a (-b) c
    have k2 : Sp (eP D (fL (a, b, c)) (fL (a, -b, c))) (2 * a * b, 2 * a) := fP_3 D a b c a (-b) c
    have k3 : Sp (eP D (fL (a, b, c)) (fL (a, -b, c))) (-(4 * a * c), 0) := sp_in (fP_4 D a b c a (-b) c) (el_ext (by simp only []; grind) (by simp only []; omega))
    have k4 : Sp (eP D (fL (a, b, c)) (fL (a, -b, c))) (4 * a * b, 0) := sp_in (sp_sub k2 (fP_2 D a b c a (-b) c)) (el_ext (by simp only [eS]; grind) (by simp only [eS]; omega))
    have k5 : Sp (eP D (fL (a, b, c)) (fL (a, -b, c))) (4 * a, 0) := by
      refine sp_in (sp_add (sp_add (sp_mul k1 x) (sp_mul k4 y)) (sp_mul k3 (-z))) (el_ext ?_ (by simp only [eA, eK]; grind))
      simp only [eA, eK]
      have : x * (4 * a * a) + y * (4 * a * b) + -z * -(4 * a * c) = 4 * a * (x * a + y * b + z * c) := by grind
      rw [this, hx]; omega
    simp only [fL, List.mem_cons, List.not_mem_nil, or_false] at hl
    rcases hl with h | h
    · subst h; exact eMk_in k5 (el_ext (by simp only [eK]; grind) (by simp only [eK]; grind))
    · subst h
      exact eMk_in (sp_add k2 (sp_mul k5 (p - m))) (el_ext (by simp only [eK, eA]; grind) (by simp only [eK, eA]; grind))
theorem cl_right {D : Int} (hD : D < 0) {L M N : List El} (h : Cl D M N) : Cl D (eP D L M) (eP D L N) := cl_prod hD (cl_refl D L) h
theorem cl_left {D : Int} (hD : D < 0) {L M N : List El} (h : Cl D M N) : Cl D (eP D M L) (eP D N L) := cl_prod hD h (cl_refl D L)
/-- Cancelling, by an inverse. -/
theorem cl_cancel {D : Int} (hD : D < 0) {L M N I E : List El} (hi : Cl D (eP D N I) E) (hL : Cl D (eP D E L) L) (hM : Cl D (eP D E M) M) (h : Cl D (eP D N L) (eP D N M)) : Cl D L M := by
  have side : ∀ {L : List El}, Cl D (eP D E L) L → Cl D (eP D I (eP D N L)) L := by
    intro L hL
    refine cl_trans hD (cl_symm (cl_assoc D I N L)) (cl_trans hD (cl_left hD (cl_trans hD (cl_comm D I N) hi)) hL)
  exact cl_trans hD (cl_symm (side hL)) (cl_trans hD (cl_right hD h) (side hM))
end Go.Proofs.YtnheekadeflecaaGreat
