/-
  Neighbours of a class at a prime: zeros of the form modulo the prime, and the classes above them.
  Conditions: none.
-/
import Derived.Test.YtafomkclmkfjeaaGreatNbIsM
namespace Go.Proofs.YtafomkclmkfjeaaGreat
set_option linter.unusedVariables false
set_option linter.unusedSimpArgs false

/-- The product of united forms, where the three numbers have no common divisor. -/
theorem cl_united3 {D a e b c s t u : Int} (hD : D = b * b - 4 * a * e * c) (hst : s * a + t * e + u * b = 1) : Cl D (eP D (fL (a, b, e * c)) (fL (e, b, a * c))) (fL (a * e, b, c)) := by
  refine cl_mk (a := (1, 0)) (b := (2, 0)) (by simp) (by simp) ?_ ?_
  · intro l hl
    rw [eM_k]
    rcases mem_fP hl with h | h | h | h
    · subst h; exact eMk_in (fS _ _ _ 1 0 (2 * a * e) 0 (by grind) rfl) (el_ext (by simp only [eK]; grind) (by simp only [eK]; grind))
    · subst h; exact eMk_in (fS _ _ _ 0 a (a * b) a (by grind) rfl) (el_ext (by simp only [eK]; grind) (by simp only [eK]; grind))
    · subst h; exact eMk_in (fS _ _ _ 0 e (e * b) e (by grind) rfl) (el_ext (by simp only [eK]; grind) (by simp only [eK]; grind))
    · subst h; exact eMk_in (fS _ _ _ (-c) b (b * b - 2 * a * e * c) b (by grind) rfl) (el_ext (by simp only [eK]; grind) (by simp only [eK]; grind))
  · intro l hl
    rw [eM_k]
    simp only [fL, List.mem_cons, List.not_mem_nil, or_false] at hl
    rcases hl with h | h
    · subst h; exact eMk_in (fP_1 D a b (e * c) e b (a * c)) (el_ext (by simp only [eK]; grind) (by simp only [eK]; grind))
    · subst h
      refine eMk_in (sp_add (sp_add (sp_mul (fP_2 D a b (e * c) e b (a * c)) s) (sp_mul (fP_3 D a b (e * c) e b (a * c)) t)) (sp_add (sp_mul (fP_4 D a b (e * c) e b (a * c)) u) (sp_mul (fP_1 D a b (e * c) e b (a * c)) (u * c)))) (el_ext ?_ ?_)
      · simp only [eK, eA]
        have : 1 * (s * (2 * a * b) + t * (2 * e * b) + (u * (b * b + D) + u * c * (4 * a * e))) = 2 * b * (s * a + t * e + u * b) := by rw [hD]; grind
        rw [this, hst]; omega
      · simp only [eK, eA]
        have : 1 * (s * (2 * a) + t * (2 * e) + (u * (b + b) + u * c * 0)) = 2 * (s * a + t * e + u * b) := by grind
        rw [this, hst]; try omega
/-! ### Zeros -/
def Fz (a b c : Int) (n : Nat) : Option Nat → F3
  | some k => gk a b c n k
  | none => gp a b c n
def Iz (n : Nat) : List (Option Nat) := (List.range n).map some ++ [none]
def Zr (a b c : Int) (n : Nat) : Option Nat → Prop
  | some k => (n : Int) ∣ a + b * k + c * k * k
  | none => (n : Int) ∣ c
def Bz (b c : Int) : Option Nat → Int
  | some k => b + 2 * c * k
  | none => -b
theorem subs_Iz (a b c : Int) (n : Nat) : subs a b c n = (Iz n).map (Fz a b c n) := by
  unfold subs Iz
  rw [List.map_append, List.map_map]
  rfl
theorem Iz_mem {n : Nat} {z : Option Nat} : z ∈ Iz n ↔ ∀ k, z = some k → k < n := by
  unfold Iz
  cases z with
  | none => simp
  | some k => simp
theorem Iz_nodup (n : Nat) : (Iz n).Nodup := by
  unfold Iz
  rw [List.nodup_append]
  refine ⟨?_, by simp, ?_⟩
  · exact List.Pairwise.map _ (fun x y h e => h (Option.some.inj e)) List.nodup_range
  · intro x hx y hy e
    obtain ⟨k, _, rfl⟩ := List.mem_map.1 hx
    rw [List.mem_singleton] at hy
    subst hy
    cases e
structure Pz (a b c D : Int) (n : Nat) : Prop where
  rr : Rr a b c D
  prim : ∀ k : Int, k ∣ a → k ∣ b → k ∣ c → k ∣ 1
  np : n ∈ pN
theorem pdvd {n : Nat} (hn : n ∈ pN) {x y : Int} (h : (n : Int) ∣ x * y) : (n : Int) ∣ x ∨ (n : Int) ∣ y := by
  by_cases hx : (n : Int) ∣ x
  · exact .inl hx
  · right
    obtain ⟨s, t, e⟩ := pN_bez hn hx
    obtain ⟨w, hw⟩ := h
    refine ⟨s * w + t * y, ?_⟩
    have : y = (s * x + t * n) * y := by rw [e, Int.one_mul]
    rw [this]
    have e2 : (s * x + t * n) * y = s * (x * y) + t * n * y := by grind
    rw [e2, hw]
    grind
theorem n_ne {n : Nat} (hn : n ∈ pN) : ¬ (n : Int) ∣ 1 := by
  intro h
  obtain ⟨h2, _⟩ := pN_bd hn
  have := Int.eq_one_of_dvd_one (by omega) h
  omega
/-- A zero is a form that is the prime times another, with the same middle root. -/
theorem zr_form {a b c D : Int} {n : Nat} (h : Pz a b c D n) {z : Option Nat} (hz : z ∈ Iz n) (hr : Zr a b c n z) : ∃ A C : Int, Eqf ((n : Int) * A, Bz b c z, C) (a, b, c) ∧ Fz a b c n z = ((n : Int) * A, (n : Int) * Bz b c z, (n : Int) * n * C) ∨ Eqf ((n : Int) * A, Bz b c z, C) (a, b, c) ∧ Fz a b c n z = ((n : Int) * n * C, -((n : Int) * Bz b c z), (n : Int) * A) := by
  cases z with
  | some k =>
    obtain ⟨A, hA⟩ := hr
    refine ⟨A, c, .inl ⟨⟨1, 0, (k : Int), 1, by omega, ?_, ?_, ?_⟩, ?_⟩⟩
    · show (n : Int) * A = a * 1 * 1 + b * 1 * k + c * k * k
      rw [← hA]; grind
    · show b + 2 * c * k = 2 * a * 1 * 0 + b * (1 * 1 + 0 * k) + 2 * c * k * 1
      grind
    · show c = a * 0 * 0 + b * 0 * 1 + c * 1 * 1
      grind
    · show gk a b c n k = _
      unfold gk
      rw [hA]; rfl
  | none =>
    obtain ⟨A, hA⟩ := hr
    refine ⟨A, a, .inr ⟨⟨0, -1, 1, 0, by omega, ?_, ?_, ?_⟩, ?_⟩⟩
    · show (n : Int) * A = a * 0 * 0 + b * 0 * 1 + c * 1 * 1
      rw [← hA]; grind
    · show -b = 2 * a * 0 * -1 + b * (0 * 0 + -1 * 1) + 2 * c * 1 * 0
      grind
    · show a = a * -1 * -1 + b * -1 * 0 + c * 0 * 0
      grind
    · show gp a b c n = _
      unfold gp
      rw [hA]
      show ((n : Int) * n * a, (n : Int) * b, _) = ((n : Int) * n * a, -((n : Int) * -b), _)
      rw [Int.mul_neg, Int.neg_neg]
def cg (g : F3) : Nat := Int.gcd g.1 (Int.gcd g.2.1 g.2.2)
theorem cg_dvd (g : F3) : (cg g : Int) ∣ g.1 ∧ (cg g : Int) ∣ g.2.1 ∧ (cg g : Int) ∣ g.2.2 := ⟨Int.gcd_dvd_left _ _, Int.dvd_trans (Int.gcd_dvd_right _ _) (Int.gcd_dvd_left _ _), Int.dvd_trans (Int.gcd_dvd_right _ _) (Int.gcd_dvd_right _ _)⟩
theorem cg_gr {g : F3} {k : Int} (h1 : k ∣ g.1) (h2 : k ∣ g.2.1) (h3 : k ∣ g.2.2) : k ∣ (cg g : Int) := Int.dvd_coe_gcd h1 (Int.dvd_coe_gcd h2 h3)
def Out (D : Int) (n : Nat) : Prop := ¬ ((n : Int) * n ∣ D ∧ D / ((n : Int) * n) % 4 ≤ 1)
theorem out_of {D : Int} {n : Nat} (hn : n ∈ pN) (ho : Out D n) {A B C : Int} (hd : B * B - 4 * (n * A) * C = D) : ¬ ((n : Int) ∣ A ∧ (n : Int) ∣ B) := by
  rintro ⟨⟨x, rfl⟩, ⟨y, rfl⟩⟩
  obtain ⟨n2, _⟩ := pN_bd hn
  apply ho
  have e : D = (n : Int) * n * (y * y - 4 * x * C) := by rw [← hd]; grind
  refine ⟨⟨_, e⟩, ?_⟩
  have hne : (n : Int) * n ≠ 0 := by
    intro h
    rcases Int.mul_eq_zero.1 h with h | h <;> omega
  rw [e, Int.mul_ediv_cancel_left _ hne]
  exact (disc_par (D := y * y - 4 * x * C) rfl).1
/-- The content of a form below that is the prime times one with no common divisor. -/
theorem cg_zero {D : Int} {n : Nat} (hn : n ∈ pN) (ho : Out D n) {A B C : Int} (hd : B * B - 4 * (n * A) * C = D) (hp : ∀ k : Int, k ∣ n * A → k ∣ B → k ∣ C → k ∣ 1) {g : F3} (h1 : ∀ k : Int, k ∣ g.1 → k ∣ g.2.1 → k ∣ g.2.2 → k ∣ n * A ∧ k ∣ n * B ∧ k ∣ n * n * C) (h2 : (n : Int) ∣ g.1 ∧ (n : Int) ∣ g.2.1 ∧ (n : Int) ∣ g.2.2) : cg g = n := by
  obtain ⟨n2, _⟩ := pN_bd hn
  have hnc : (n : Int) ∣ (cg g : Int) := cg_gr h2.1 h2.2.1 h2.2.2
  obtain ⟨u1, u2, u3⟩ := cg_dvd g
  obtain ⟨k1, k2, k3⟩ := h1 _ u1 u2 u3
  obtain ⟨e, he⟩ := hnc
  rw [he] at k1 k2 k3
  have hn0 : (n : Int) ≠ 0 := by omega
  have e1 : e ∣ A := Int.dvd_of_mul_dvd_mul_left hn0 k1
  have e2 : e ∣ B := Int.dvd_of_mul_dvd_mul_left hn0 k2
  have e3 : e ∣ n * C := Int.dvd_of_mul_dvd_mul_left hn0 (by rw [← Int.mul_assoc]; exact k3)
  have e0 : 0 ≤ e := by
    rcases Int.lt_or_le e 0 with h | h
    · have : (n : Int) * e < 0 := Int.mul_neg_of_pos_of_neg (by omega) h
      omega
    · exact h
  by_cases hne : (n : Int) ∣ e
  · exact absurd ⟨Int.dvd_trans hne e1, Int.dvd_trans hne e2⟩ (out_of hn ho hd)
  · obtain ⟨s, t, hst⟩ := pN_bez hn hne
    have e4 : e ∣ C := by
      obtain ⟨w, hw⟩ := e3
      refine ⟨s * C + t * w, ?_⟩
      have : C = (s * e + t * n) * C := by rw [hst, Int.one_mul]
      rw [this]
      have e5 : (s * e + t * n) * C = s * e * C + t * (n * C) := by grind
      rw [e5, hw]
      grind
    have := Int.eq_one_of_dvd_one e0 (hp e (Int.dvd_trans e1 ⟨n, Int.mul_comm _ _⟩) e2 e4)
    subst this
    omega
theorem zero_iff {a b c D : Int} {n : Nat} (h : Pz a b c D n) (ho : Out D n) {z : Option Nat} (hz : z ∈ Iz n) : cg (Fz a b c n z) = n ↔ Zr a b c n z := by
  constructor
  · intro hc
    obtain ⟨u1, u2, u3⟩ := cg_dvd (Fz a b c n z)
    rw [hc] at u1 u2 u3
    cases z with
    | some k => exact u1
    | none => exact u3
  · intro hr
    obtain ⟨A, C, hh⟩ := zr_form h hz hr
    have hq : Eqf ((n : Int) * A, Bz b c z, C) (a, b, c) := by rcases hh with hh | hh <;> exact hh.1
    have hdd : Bz b c z * Bz b c z - 4 * (n * A) * C = D := by
      have := eqf_disc hq
      unfold fD at this
      simp only [] at this
      rw [this]
      exact h.rr.dis
    have hp := fun k h1 h2 h3 => prim_eqf hq h.prim k h1 h2 h3
    rcases hh with ⟨_, e⟩ | ⟨_, e⟩
    · refine cg_zero h.np ho hdd hp (g := Fz a b c n z) ?_ ?_
      · rw [e]; exact fun k k1 k2 k3 => ⟨k1, k2, k3⟩
      · rw [e]; exact ⟨⟨_, rfl⟩, ⟨_, rfl⟩, ⟨_, Int.mul_assoc _ _ _⟩⟩
    · refine cg_zero h.np ho hdd hp (g := Fz a b c n z) ?_ ?_
      · rw [e]; exact fun k k1 k2 k3 => ⟨k3, Int.dvd_neg.1 k2, k1⟩
      · rw [e]; exact ⟨⟨_, Int.mul_assoc _ _ _⟩, ⟨-Bz b c z, (Int.mul_neg _ _).symm⟩, ⟨_, rfl⟩⟩
/-! ### What stands above a form below -/
def dv (n : Nat) (g : F3) : F3 := (Int.tdiv g.1 n, Int.tdiv g.2.1 n, Int.tdiv g.2.2 n)
theorem dv_mul {n : Nat} (hn : n ≠ 0) {x y z : Int} : dv n ((n : Int) * x, (n : Int) * y, (n : Int) * z) = (x, y, z) := by
  unfold dv
  simp only []
  rw [Int.mul_tdiv_cancel_left _ (show (n : Int) ≠ 0 by omega), Int.mul_tdiv_cancel_left _ (show (n : Int) ≠ 0 by omega), Int.mul_tdiv_cancel_left _ (show (n : Int) ≠ 0 by omega)]
theorem sb_dv {D : Int} {n : Nat} (hn : 2 ≤ n) {g : F3} (h : Sb ((n : Int) * n * D) g) (hc : cg g = n) : Sb D (dv n g) ∧ (∀ k : Int, k ∣ (dv n g).1 → k ∣ (dv n g).2.1 → k ∣ (dv n g).2.2 → k ∣ 1) ∧ g = ((n : Int) * (dv n g).1, (n : Int) * (dv n g).2.1, (n : Int) * (dv n g).2.2) := by
  obtain ⟨u1, u2, u3⟩ := cg_dvd g
  rw [hc] at u1 u2 u3
  obtain ⟨a, b, c⟩ := g
  obtain ⟨a1, aM, b1, b2, c1, cM, dis⟩ := h
  simp only [] at *
  obtain ⟨x, rfl⟩ := u1
  obtain ⟨y, rfl⟩ := u2
  obtain ⟨z, rfl⟩ := u3
  have hn0 : (n : Int) ≠ 0 := by omega
  rw [dv_mul (by omega)]
  have pos : ∀ t : Int, 1 ≤ n * t → 1 ≤ t := by
    intro t ht
    rcases Int.lt_or_le 0 t with h | h
    · exact h
    · have : (n : Int) * t ≤ n * 0 := Int.mul_le_mul_of_nonneg_left h (by omega)
      omega
  have le : ∀ t M : Int, 0 ≤ t → n * t ≤ M → t ≤ M := by
    intro t M h0 ht
    have : 1 * t ≤ n * t := Int.mul_le_mul_of_nonneg_right (by omega) h0
    omega
  refine ⟨⟨pos x a1, le x _ (by have := pos x a1; omega) aM, ?_, ?_, pos z c1, le z _ (by have := pos z c1; omega) cM, ?_⟩, ?_, rfl⟩
  · show -1900000 ≤ y
    rcases Int.le_total 0 y with h | h
    · omega
    · have := le (-y) 1900000 (by omega) (by rw [Int.mul_neg]; omega)
      omega
  · show y ≤ 1900000
    rcases Int.le_total 0 y with h | h
    · exact le y _ h b2
    · omega
  · show y * y - 4 * x * z = D
    have e : (n : Int) * n * (y * y - 4 * x * z) = n * n * D := by rw [← dis]; grind
    exact Int.eq_of_mul_eq_mul_left (by
      intro h
      rcases Int.mul_eq_zero.1 h with h | h <;> omega) e
  · intro k k1 k2 k3
    have h1 : (n : Int) * k ∣ (cg ((n : Int) * x, (n : Int) * y, (n : Int) * z) : Int) := cg_gr (Int.mul_dvd_mul_left _ k1) (Int.mul_dvd_mul_left _ k2) (Int.mul_dvd_mul_left _ k3)
    rw [hc] at h1
    have h2 : (n : Int) * k ∣ n * 1 := by rw [Int.mul_one]; exact h1
    exact Int.dvd_of_mul_dvd_mul_left hn0 h2
theorem rd_cls {D : Int} (hD : D < 0) {g : F3} (h : Sb D g) (hp : ∀ k : Int, k ∣ g.1 → k ∣ g.2.1 → k ∣ g.2.2 → k ∣ 1) : PrRc D (rd g) ∧ gC D hD (rd g) = gC D hD g := by
  obtain ⟨_, _, ⟨r1, r2⟩, r3, r4, _, _⟩ := rd_ok h hD
  have ha := h.a1
  refine ⟨⟨r1, r2, r3, fun k k1 k2 k3 => prim_eqf r4 hp k k1 k2 k3⟩, gC_eq.2 ?_⟩
  have := cl_of_eqf (show 0 < (rd g).1 by omega) (show 0 < g.1 by omega) r4
  rw [show fD g = D from h.dis] at this
  exact this
theorem eqf_cls {D : Int} (hD : D < 0) {f g : F3} (hf : 0 < f.1) (hg : 0 < g.1) (hd : fD g = D) (h : Eqf f g) : gC D hD f = gC D hD g := by
  have := cl_of_eqf hf hg h
  rw [hd] at this
  exact gC_eq.2 this
theorem eqf_shift {D n b b0 c c0 m : Int} (hn : 0 < n) (h1 : b * b - 4 * n * c = D) (h0 : b0 * b0 - 4 * n * c0 = D) (hm : b = b0 + 2 * n * m) : Eqf (n, b, c) (n, b0, c0) := by
  refine ⟨1, m, 0, 1, by omega, by grind, ?_, ?_⟩
  · show b = 2 * n * 1 * m + b0 * (1 * 1 + m * 0) + 2 * c0 * 0 * 1
    rw [hm]; grind
  · show c = n * m * m + b0 * m * 1 + c0 * 1 * 1
    have e : 4 * n * c = 4 * n * (n * m * m + b0 * m * 1 + c0 * 1 * 1) := by
      have : 4 * n * c = b * b - D := by omega
      rw [this, hm, ← h0]; grind
    exact Int.eq_of_mul_eq_mul_left (by omega) e
/-- The class above a zero: it times the class of the prime, or of its opposite, is the form's. -/
theorem zero_cls {a b c D : Int} {n : Nat} (h : Pz a b c D n) (ho : Out D n) {z : Option Nat} (hz : z ∈ Iz n) (hr : Zr a b c n z) {B0 C0 : Int} (h0 : B0 * B0 - 4 * n * C0 = D) (hB : 2 * (n : Int) ∣ Bz b c z - B0) :
    PrRc D (rd (dv n (Fz a b c n z))) ∧ gM (gC D h.rr.D2 (rd (dv n (Fz a b c n z)))) (gC D h.rr.D2 ((n : Int), B0, C0)) = gC D h.rr.D2 (a, b, c) := by
  obtain ⟨n2, n3⟩ := pN_bd h.np
  have hD := h.rr.D2
  obtain ⟨A, C, hh⟩ := zr_form h hz hr
  have hq : Eqf ((n : Int) * A, Bz b c z, C) (a, b, c) := by rcases hh with hh | hh <;> exact hh.1
  have hdd : Bz b c z * Bz b c z - 4 * (n * A) * C = D := by
    have := eqf_disc hq
    unfold fD at this
    simp only [] at this
    rw [this]
    exact h.rr.dis
  have hsb : Sb ((n : Int) * n * D) (Fz a b c n z) := subs_sb h.rr n2 n3 _ (by rw [subs_Iz]; exact List.mem_map_of_mem hz)
  have hc := (zero_iff h ho hz).2 hr
  obtain ⟨s1, s2, s3⟩ := sb_dv n2 hsb hc
  obtain ⟨k1, k2⟩ := rd_cls hD s1 s2
  refine ⟨k1, ?_⟩
  have hdv : dv n (Fz a b c n z) = (A, Bz b c z, (n : Int) * C) ∨ dv n (Fz a b c n z) = ((n : Int) * C, -Bz b c z, A) := by
    rcases hh with ⟨_, e⟩ | ⟨_, e⟩
    · left
      rw [e, Int.mul_assoc]
      exact dv_mul (by omega)
    · right
      rw [e, Int.mul_assoc, ← Int.mul_neg]
      exact dv_mul (by omega)
  have hA : 1 ≤ A := by
    have q1 := s1.a1
    have q2 := s1.c1
    rcases hdv with e | e <;> rw [e] at q1 q2 <;> assumption
  have hC : 1 ≤ (n : Int) * C := by
    have q1 := s1.a1
    have q2 := s1.c1
    rcases hdv with e | e <;> rw [e] at q1 q2 <;> assumption
  have hcl : gC D hD (dv n (Fz a b c n z)) = gC D hD (A, Bz b c z, (n : Int) * C) := by
    rcases hdv with e | e
    · rw [e]
    · rw [e]
      refine eqf_cls hD (show 0 < (n : Int) * C by omega) (show 0 < A by omega) ?_ ⟨0, -1, 1, 0, by omega, by grind, by grind, by grind⟩
      unfold fD
      simp only []
      rw [← hdd]; grind
  rw [k2, hcl]
  obtain ⟨m, hm⟩ := hB
  have hP : gC D hD ((n : Int), Bz b c z, A * C) = gC D hD ((n : Int), B0, C0) := by
    refine eqf_cls hD (show (0 : Int) < n by omega) (show (0 : Int) < n by omega) h0 (eqf_shift (D := D) (m := m) (by omega) ?_ h0 (by omega))
    rw [← hdd]; grind
  rw [← hP, gM_comm]
  have hbz : ∃ s t u : Int, s * n + t * A + u * Bz b c z = 1 := by
    by_cases hA' : (n : Int) ∣ A
    · have : ¬ (n : Int) ∣ Bz b c z := fun hB' => out_of h.np ho hdd ⟨hA', hB'⟩
      obtain ⟨s, t, e⟩ := pN_bez h.np this
      exact ⟨t, 0, s, by omega⟩
    · obtain ⟨s, t, e⟩ := pN_bez h.np hA'
      exact ⟨t, s, 0, by omega⟩
  obtain ⟨s, t, u, e⟩ := hbz
  have hu := gM_of (hD := hD) (cl_united3 (D := D) (a := (n : Int)) (e := A) (b := Bz b c z) (c := C) (s := s) (t := t) (u := u) (by rw [← hdd]; grind) e)
  rw [hu]
  refine eqf_cls hD ?_ (show 0 < a from by have := h.rr.a1; omega) h.rr.dis hq
  have : (n : Int) * 1 ≤ n * A := Int.mul_le_mul_of_nonneg_left hA (by omega)
  show 0 < (n : Int) * A
  omega
theorem zero_root {a b c D : Int} {n : Nat} (h : Pz a b c D n) {z : Option Nat} (hz : z ∈ Iz n) (hr : Zr a b c n z) : ∃ C, Bz b c z * Bz b c z - 4 * n * C = D := by
  obtain ⟨A, C, hh⟩ := zr_form h hz hr
  have hq : Eqf ((n : Int) * A, Bz b c z, C) (a, b, c) := by rcases hh with hh | hh <;> exact hh.1
  refine ⟨A * C, ?_⟩
  have := eqf_disc hq
  unfold fD at this
  simp only [] at this
  rw [← h.rr.dis]
  show _ = b * b - 4 * a * c
  rw [← this]; grind
theorem root_sign {n : Nat} (hn : n ∈ pN) {B C B0 C0 D : Int} (h : B * B - 4 * n * C = D) (h0 : B0 * B0 - 4 * n * C0 = D) : 2 * (n : Int) ∣ B - B0 ∨ 2 * (n : Int) ∣ B + B0 := by
  have par : B % 2 = B0 % 2 := by
    have e1 := (disc_par (D := D) (a := (n : Int)) (b := B) (c := C) h).2
    have e2 := (disc_par (D := D) (a := (n : Int)) (b := B0) (c := C0) h0).2
    omega
  obtain ⟨X, hX⟩ : ∃ X, B - B0 = 2 * X := ⟨(B - B0) / 2, by omega⟩
  obtain ⟨Y, hY⟩ : ∃ Y, B + B0 = 2 * Y := ⟨(B + B0) / 2, by omega⟩
  have e : X * Y = n * (C - C0) := by
    have h1 : (B - B0) * (B + B0) = 4 * (n * (C - C0)) := by
      have : (B - B0) * (B + B0) = B * B - B0 * B0 := by grind
      rw [this]
      have e1 : B * B = D + 4 * n * C := by omega
      have e2 : B0 * B0 = D + 4 * n * C0 := by omega
      rw [e1, e2]; grind
    rw [hX, hY] at h1
    have h2 : 2 * X * (2 * Y) = 4 * (X * Y) := by grind
    omega
  rcases pdvd hn ⟨_, e⟩ with ⟨w, hw⟩ | ⟨w, hw⟩
  · exact .inl ⟨w, by rw [hX, hw]; grind⟩
  · exact .inr ⟨w, by rw [hY, hw]; grind⟩
theorem half_dvd {n : Nat} {x : Int} (h : 2 * (n : Int) ∣ 2 * x) : (n : Int) ∣ x := Int.dvd_of_mul_dvd_mul_left (by decide) h
/-- Two zeros with one root are one. -/
theorem zero_inj {a b c D : Int} {n : Nat} (h : Pz a b c D n) {z w : Option Nat} (hz : z ∈ Iz n) (hw : w ∈ Iz n) (rz : Zr a b c n z) (rw' : Zr a b c n w) (hB : 2 * (n : Int) ∣ Bz b c z - Bz b c w) : z = w := by
  obtain ⟨n2, n3⟩ := pN_bd h.np
  have fin : ∀ (k : Nat), (n : Int) ∣ a + b * k + c * k * k → (n : Int) ∣ c → (n : Int) ∣ b → False := by
    intro k h1 h2 h3
    apply n_ne h.np
    refine h.prim _ ?_ h3 h2
    obtain ⟨x, hx⟩ := h1
    obtain ⟨y, rfl⟩ := h2
    obtain ⟨v, rfl⟩ := h3
    exact ⟨x - v * k - y * k * k, by grind⟩
  have mix : ∀ (k : Nat), (n : Int) ∣ a + b * k + c * k * k → (n : Int) ∣ c → 2 * (n : Int) ∣ b + 2 * c * k + b → False := by
    intro k h1 h2 h3
    refine fin k h1 h2 ?_
    have h4 : (n : Int) ∣ b + c * k := half_dvd (by have : 2 * (b + c * k) = b + 2 * c * k + b := by grind
                                                    rw [this]; exact h3)
    obtain ⟨y, rfl⟩ := h2
    obtain ⟨x, hx⟩ := h4
    exact ⟨x - y * k, by grind⟩
  cases z with
  | none =>
    cases w with
    | none => rfl
    | some k =>
      exfalso
      refine mix k rw' rz ?_
      have : b + 2 * c * k + b = -(Bz b c none - Bz b c (some k)) := by show _ = -(-b - (b + 2 * c * k)); omega
      rw [this]; exact Int.dvd_neg.2 hB
  | some j =>
    cases w with
    | none =>
      exfalso
      refine mix j rz rw' ?_
      have : b + 2 * c * j + b = Bz b c (some j) - Bz b c none := by show _ = (b + 2 * c * j) - -b; omega
      rw [this]; exact hB
    | some k =>
      have hj := Iz_mem.1 hz j rfl
      have hk := Iz_mem.1 hw k rfl
      have h1 : (n : Int) ∣ c * ((j : Int) - k) := half_dvd (by
        have : 2 * (c * ((j : Int) - k)) = Bz b c (some j) - Bz b c (some k) := by show _ = (b + 2 * c * j) - (b + 2 * c * k); grind
        rw [this]; exact hB)
      rcases pdvd h.np h1 with h2 | h2
      · by_cases he : j = k
        · rw [he]
        · exfalso
          have rz' : (n : Int) ∣ a + b * j + c * j * j := rz
          have rw2 : (n : Int) ∣ a + b * k + c * k * k := rw'
          have h3 : (n : Int) ∣ b * ((j : Int) - k) := by
            obtain ⟨x, hx⟩ := rz'
            obtain ⟨y, hy⟩ := rw2
            obtain ⟨v, hv⟩ := h2
            refine ⟨x - y - v * j * j + v * k * k, ?_⟩
            have e1 : b * ((j : Int) - k) = (a + b * j + c * j * j) - (a + b * k + c * k * k) - c * j * j + c * k * k := by grind
            rw [e1, hx, hy, hv]; grind
          rcases pdvd h.np h3 with h4 | h4
          · exact fin j rz' h2 h4
          · have := small_dvd h4 (by omega) (by omega)
            omega
      · have := small_dvd h2 (by omega) (by omega)
        have e : j = k := by omega
        rw [e]
/-- Each root has a zero. -/
theorem zero_ex {a b c D : Int} {n : Nat} (h : Pz a b c D n) {B0 C0 : Int} (h0 : B0 * B0 - 4 * n * C0 = D) : ∃ z ∈ Iz n, Zr a b c n z ∧ 2 * (n : Int) ∣ Bz b c z - B0 := by
  obtain ⟨n2, n3⟩ := pN_bd h.np
  have hdis := h.rr.dis
  have par : b % 2 = B0 % 2 := by
    have e1 := (disc_par (D := D) hdis).2
    have e2 := (disc_par (D := D) (a := (n : Int)) (b := B0) (c := C0) h0).2
    omega
  obtain ⟨X, hX⟩ : ∃ X, B0 - b = 2 * X := ⟨(B0 - b) / 2, by omega⟩
  have hn0 : (n : Int) ≠ 0 := by omega
  have pick : ∀ x : Int, ∃ k : Nat, k < n ∧ ∃ m : Int, (k : Int) = x + n * m := by
    intro x
    have q1 := Int.emod_nonneg x hn0
    have q2 := Int.emod_lt_of_pos x (show (0 : Int) < n by omega)
    have q3 := Int.emod_add_mul_ediv x n
    exact ⟨(x % n).toNat, by omega, -(x / n), by rw [Int.toNat_of_nonneg q1, Int.mul_neg]; omega⟩
  by_cases hc : (n : Int) ∣ c
  · -- the roots are b and -b
    obtain ⟨w, hw⟩ := hc
    rcases root_sign h.np h0 (show b * b - 4 * n * (a * w) = D by rw [← hdis, hw]; grind) with h1 | h1
    · by_cases hb : (n : Int) ∣ b
      · refine ⟨none, Iz_mem.2 (by intro k e; cases e), ⟨w, hw⟩, ?_⟩
        obtain ⟨x, hx⟩ := h1
        obtain ⟨y, hy⟩ := hb
        exact ⟨-x - y, by show -b - B0 = _; have e : B0 = b + 2 * n * x := by omega
                          rw [e, hy]; grind⟩
      · obtain ⟨s, t, e⟩ := pN_bez h.np hb
        obtain ⟨k, hk, m, hm⟩ := pick (-(a * s))
        refine ⟨some k, Iz_mem.2 (by intro k' e; cases e; exact hk), ?_, ?_⟩
        · show (n : Int) ∣ a + b * k + c * k * k
          have e1 : a = a * (s * b + t * n) := by rw [e, Int.mul_one]
          refine ⟨a * t + b * m + w * k * k, ?_⟩
          have e2 : a + b * k = a * t * n + b * (n * m) := by
            rw [hm]
            have : a + b * (-(a * s) + n * m) = a * (s * b + t * n) - a * (s * b) + b * (n * m) := by
              rw [e]; grind
            rw [this]; grind
          rw [e2, hw]; grind
        · show 2 * (n : Int) ∣ b + 2 * c * k - B0
          obtain ⟨x, hx⟩ := h1
          exact ⟨w * k - x, by rw [hw]; have e : B0 = b + 2 * n * x := by omega
                               rw [e]; grind⟩
    · refine ⟨none, Iz_mem.2 (by intro k e; cases e), ⟨w, hw⟩, ?_⟩
      obtain ⟨x, hx⟩ := h1
      exact ⟨-x, by show -b - B0 = _; have e : B0 = 2 * n * x - b := by omega
                    rw [e]; grind⟩
  · obtain ⟨s, t, e⟩ := pN_bez h.np hc
    obtain ⟨k, hk, m, hm⟩ := pick (s * X)
    have hB : 2 * (n : Int) ∣ b + 2 * c * k - B0 := by
      refine ⟨c * m - t * X, ?_⟩
      have e1 : c * k = X * (s * c + t * n) - n * (t * X) + c * (n * m) := by rw [hm]; grind
      rw [e, Int.mul_one] at e1
      have e2 : 2 * c * k = 2 * (c * k) := Int.mul_assoc ..
      rw [e2, e1]
      have e3 : B0 = b + 2 * X := by omega
      rw [e3]; grind
    refine ⟨some k, Iz_mem.2 (by intro k' e; cases e; exact hk), ?_, hB⟩
    have h1 : (n : Int) ∣ c * (a + b * k + c * k * k) := by
      obtain ⟨x, hx⟩ := hB
      refine ⟨C0 + B0 * x + n * x * x, ?_⟩
      have e1 : 4 * (c * (a + b * k + c * k * k)) = (b + 2 * c * k) * (b + 2 * c * k) - D := by rw [← hdis]; grind
      have e2 : b + 2 * c * k = B0 + 2 * n * x := by omega
      rw [e2, ← h0] at e1
      have e3 : 4 * (c * (a + b * k + c * k * k)) = 4 * (n * (C0 + B0 * x + n * x * x)) := by rw [e1]; grind
      omega
    exact (pdvd h.np h1).resolve_left hc
end Go.Proofs.YtafomkclmkfjeaaGreat
