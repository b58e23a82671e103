/-
  The substitution that proves a composite: what both ways work out, and that it is one.
  Conditions: none.
-/
import Derived.Test.YtnifkkihamgmaaaDoorCcCoX
namespace Go.Proofs.YtnifkkihamgmaaaDoor
set_option linter.unusedVariables false
set_option linter.unusedSimpArgs false

abbrev M4 := Int × Int × Int × Int
def FV (f : F3) (x y : Int) : Int := f.1 * x * x + f.2.1 * x * y + f.2.2 * y * y
theorem mat_val {A B C p q r s a b c : Int} (h : MatInv A B C p q r s a b c) (X Y : Int) : FV (a, b, c) X Y = FV (A, B, C) (p * X + q * Y) (r * X + s * Y) := by
  obtain ⟨e1, e2, e3, _⟩ := h
  simp only [FV]
  rw [← e1, ← e2, ← e3]; grind
theorem dirichlet (a e b c X Y U V : Int) : FV (a, b, e * c) X Y * FV (e, b, a * c) U V = FV (a * e, b, c) (X * U - c * (Y * V)) (a * (X * V) + e * (Y * U) + b * (Y * V)) := by
  simp only [FV]; grind
/-- The eight coefficients. -/
def kP (c : Int) (i j : M4) : M4 := (i.1 * j.1 - c * (i.2.2.1 * j.2.2.1), i.1 * j.2.1 - c * (i.2.2.1 * j.2.2.2), i.2.1 * j.1 - c * (i.2.2.2 * j.2.2.1), i.2.1 * j.2.1 - c * (i.2.2.2 * j.2.2.2))
def kQ (a e b : Int) (i j : M4) : M4 := (a * (i.1 * j.2.2.1) + e * (i.2.2.1 * j.1) + b * (i.2.2.1 * j.2.2.1), a * (i.1 * j.2.2.2) + e * (i.2.2.1 * j.2.1) + b * (i.2.2.1 * j.2.2.2), a * (i.2.1 * j.2.2.1) + e * (i.2.2.2 * j.1) + b * (i.2.2.2 * j.2.2.1), a * (i.2.1 * j.2.2.2) + e * (i.2.2.2 * j.2.1) + b * (i.2.2.2 * j.2.2.2))
def kL (x y : Int) (p q : M4) : M4 := (x * p.1 + y * q.1, x * p.2.1 + y * q.2.1, x * p.2.2.1 + y * q.2.2.1, x * p.2.2.2 + y * q.2.2.2)
def bil (k : M4) (x y u v : Int) : Int := k.1 * (x * u) + k.2.1 * (x * v) + k.2.2.1 * (y * u) + k.2.2.2 * (y * v)
def w4 (k : M4) : M4 := (w64 k.1, w64 k.2.1, w64 k.2.2.1, w64 k.2.2.2)
def k8 (p q : M4) : List Int := [w64 p.1, w64 p.2.1, w64 p.2.2.1, w64 p.2.2.2, w64 q.1, w64 q.2.1, w64 q.2.2.1, w64 q.2.2.2]
theorem bil_P (c : Int) (i j : M4) (x y u v : Int) : bil (kP c i j) x y u v = (i.1 * x + i.2.1 * y) * (j.1 * u + j.2.1 * v) - c * ((i.2.2.1 * x + i.2.2.2 * y) * (j.2.2.1 * u + j.2.2.2 * v)) := by
  simp only [bil, kP]; grind
theorem bil_Q (a e b : Int) (i j : M4) (x y u v : Int) : bil (kQ a e b i j) x y u v = a * ((i.1 * x + i.2.1 * y) * (j.2.2.1 * u + j.2.2.2 * v)) + e * ((i.2.2.1 * x + i.2.2.2 * y) * (j.1 * u + j.2.1 * v)) + b * ((i.2.2.1 * x + i.2.2.2 * y) * (j.2.2.1 * u + j.2.2.2 * v)) := by
  simp only [bil, kQ]; grind
theorem bil_L (l m : Int) (p q : M4) (x y u v : Int) : bil (kL l m p q) x y u v = l * bil p x y u v + m * bil q x y u v := by
  simp only [bil, kL]; grind
/-- The inverse of a matrix with determinant 1 undoes it. -/
theorem inv_undo {p q r s : Int} (h : p * s - q * r = 1) (x y : Int) : p * (s * x - q * y) + q * (-(r * x) + p * y) = x ∧ r * (s * x - q * y) + s * (-(r * x) + p * y) = y := by
  constructor
  · have : p * (s * x - q * y) + q * (-(r * x) + p * y) = (p * s - q * r) * x := by grind
    rw [this, h]; omega
  · have : r * (s * x - q * y) + s * (-(r * x) + p * y) = (p * s - q * r) * y := by grind
    rw [this, h]; omega
/-- The composite's value at the point of the substitution. -/
theorem comp_ident {f g h : F3} {a e b c : Int} {p1 p2 p3 p4 n1 n2 n3 n4 l1 l2 l3 l4 : Int} (hf : MatInv f.1 f.2.1 f.2.2 p1 p2 p3 p4 a b (e * c)) (hg : MatInv g.1 g.2.1 g.2.2 n1 n2 n3 n4 e b (a * c)) (hh : MatInv (a * e) b c l1 l2 l3 l4 h.1 h.2.1 h.2.2) (x y u v : Int) :
    FV h (bil (kL l4 (-l2) (kP c (p4, -p2, -p3, p1) (n4, -n2, -n3, n1)) (kQ a e b (p4, -p2, -p3, p1) (n4, -n2, -n3, n1))) x y u v) (bil (kL (-l3) l1 (kP c (p4, -p2, -p3, p1) (n4, -n2, -n3, n1)) (kQ a e b (p4, -p2, -p3, p1) (n4, -n2, -n3, n1))) x y u v) = FV f x y * FV g u v := by
  have h1 := mat_val hh
  have h2 := mat_val hf (p4 * x - p2 * y) (-(p3 * x) + p1 * y)
  have h3 := mat_val hg (n4 * u - n2 * v) (-(n3 * u) + n1 * v)
  obtain ⟨u1, u2⟩ := inv_undo hf.dt x y
  obtain ⟨v1, v2⟩ := inv_undo hg.dt u v
  rw [u1, u2] at h2
  rw [v1, v2] at h3
  have h4 : FV h (bil (kL l4 (-l2) (kP c (p4, -p2, -p3, p1) (n4, -n2, -n3, n1)) (kQ a e b (p4, -p2, -p3, p1) (n4, -n2, -n3, n1))) x y u v) (bil (kL (-l3) l1 (kP c (p4, -p2, -p3, p1) (n4, -n2, -n3, n1)) (kQ a e b (p4, -p2, -p3, p1) (n4, -n2, -n3, n1))) x y u v) = FV (a * e, b, c) (bil (kP c (p4, -p2, -p3, p1) (n4, -n2, -n3, n1)) x y u v) (bil (kQ a e b (p4, -p2, -p3, p1) (n4, -n2, -n3, n1)) x y u v) := by
    rw [bil_L, bil_L]
    generalize bil (kP c (p4, -p2, -p3, p1) (n4, -n2, -n3, n1)) x y u v = P
    generalize bil (kQ a e b (p4, -p2, -p3, p1) (n4, -n2, -n3, n1)) x y u v = Q
    obtain ⟨w1, w2⟩ := inv_undo hh.dt P Q
    have h5 := h1 (l4 * P + -l2 * Q) (-l3 * P + l1 * Q)
    have e1 : l4 * P + -l2 * Q = l4 * P - l2 * Q := by rw [Int.neg_mul]; omega
    have e2 : -l3 * P + l1 * Q = -(l3 * P) + l1 * Q := by rw [Int.neg_mul]
    rw [e1, e2, w1, w2] at h5
    rw [e1, e2]; exact h5
  rw [h4, bil_P, bil_Q, ← dirichlet]
  simp only []
  have e1 : p4 * x + -p2 * y = p4 * x - p2 * y := by rw [Int.neg_mul]; omega
  have e2 : -p3 * x + p1 * y = -(p3 * x) + p1 * y := by rw [Int.neg_mul]
  have e3 : n4 * u + -n2 * v = n4 * u - n2 * v := by rw [Int.neg_mul]; omega
  have e4 : -n3 * u + n1 * v = -(n3 * u) + n1 * v := by rw [Int.neg_mul]
  rw [e1, e2, e3, e4, h2, h3]
theorem inv_w {p q r s : Int} (h : p * s - q * r = 1) : r_impl_Matrix_inverse (w64 p, w64 q, w64 r, w64 s) = some (w4 (s, -q, -r, p)) := by
  simp only [r_impl_Matrix_inverse, r_impl_Matrix_det, sI_eq, wml, wmr, wal, war, wsl, wsr, Option.bind_some, h, w4]
  have e : ∀ z : Int, w64 (1 * z) = w64 z := fun z => by rw [Int.one_mul]
  have e2 : ∀ z : Int, w64 (w64 (0 - w64 1) * z) = w64 (-z) := fun z => by rw [show w64 (0 - w64 1) = -1 from rfl]; congr 1; omega
  have e3 : ∀ z : Int, w64 ((0 - w64 1) * z) = w64 (-z) := fun z => by rw [show w64 1 = 1 from rfl]; congr 1; omega
  simp only [e, e3]
theorem outer_w (x y u v : Int) : r_impl_outer (w64 x) (w64 y) (w64 u) (w64 v) = some (w4 (x * u, x * v, y * u, y * v)) := by
  simp only [r_impl_outer, sI_eq, wml, wmr, w4]
theorem plus_w (b : M4) (k : Int) (c : M4) : r_impl_bilinear_plus (w4 b) (w64 k) (w4 c) = some (w4 (b.1 + k * c.1, b.2.1 + k * c.2.1, b.2.2.1 + k * c.2.2.1, b.2.2.2 + k * c.2.2.2)) := by
  simp only [r_impl_bilinear_plus, sI_eq, wml, wmr, wal, war, w4]
end Go.Proofs.YtnifkkihamgmaaaDoor
