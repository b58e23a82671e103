/-
  Substituting: laws of the 64-bit whole numbers, and that the draws give something.
  Conditions: none.
-/
import Derived.Test.YtelefcfmbpdomaaSubCur
namespace Go.Proofs.Ytelefcfmbpdomaa
set_option linter.unusedVariables false
set_option linter.unusedSimpArgs false

def bv (x : Int) : BitVec 64 := BitVec.ofInt 64 x
theorem w64_bv (x : Int) : w64 x = (bv x).toInt := by
  rw [w64_eq, bv, BitVec.toInt_ofInt, IntKind.wrap_i64, Int.bmod_def]
  omega
theorem bv_w64 (x : Int) : bv (w64 x) = bv x := by
  rw [w64_bv]
  unfold bv
  rw [BitVec.ofInt_toInt]
theorem w64_congr {x y : Int} (h : bv x = bv y) : w64 x = w64 y := by rw [w64_bv, w64_bv, h]
theorem bv_add (x y : Int) : bv (x + y) = bv x + bv y := BitVec.ofInt_add x y
theorem bv_mul (x y : Int) : bv (x * y) = bv x * bv y := BitVec.ofInt_mul x y
theorem bv_sub (x y : Int) : bv (x - y) = bv x - bv y := by
  rw [Int.sub_eq_add_neg, bv_add]
  unfold bv
  rw [BitVec.ofInt_neg, BitVec.sub_eq_add_neg]
theorem bv_2 : bv 2 = 2 := rfl
theorem bv_4 : bv 4 = 4 := rfl
abbrev Fm := Int × Int × Int
abbrev Mx := Int × Int × Int × Int
def vAt (f : Fm) (x y : Int) : Int := w64 ((w64 ((w64 ((w64 (f.1 * x)) * x)) + (w64 ((w64 (f.2.1 * x)) * y)))) + (w64 ((w64 (f.2.2 * y)) * y)))
def vPo (f : Fm) (x y u v : Int) : Int := w64 ((w64 ((w64 ((w64 ((w64 (2 * f.1)) * x)) * u)) + (w64 (f.2.1 * (w64 ((w64 (x * v)) + (w64 (y * u)))))))) + (w64 ((w64 ((w64 (2 * f.2.2)) * y)) * v)))
def vSu (f : Fm) (m : Mx) : Fm := (vAt f m.1 m.2.2.1, vPo f m.1 m.2.2.1 m.2.1 m.2.2.2, vAt f m.2.1 m.2.2.2)
def vTi (m n : Mx) : Mx := (w64 ((w64 (m.1 * n.1)) + (w64 (m.2.1 * n.2.2.1))), w64 ((w64 (m.1 * n.2.1)) + (w64 (m.2.1 * n.2.2.2))), w64 ((w64 (m.2.2.1 * n.1)) + (w64 (m.2.2.2 * n.2.2.1))), w64 ((w64 (m.2.2.1 * n.2.1)) + (w64 (m.2.2.2 * n.2.2.2))))
def vDi (f : Fm) : Int := w64 ((w64 (f.2.1 * f.2.1)) - (w64 ((w64 (4 * f.1)) * f.2.2)))
def vDe (m : Mx) : Int := w64 ((w64 (m.1 * m.2.2.2)) - (w64 (m.2.1 * m.2.2.1)))
theorem bvAt (f : Fm) (x y : Int) : bv (vAt f x y) = bv f.1 * bv x * bv x + bv f.2.1 * bv x * bv y + bv f.2.2 * bv y * bv y := by
  simp only [vAt, bv_w64, bv_add, bv_mul]
theorem bvPo (f : Fm) (x y u v : Int) : bv (vPo f x y u v) = 2 * bv f.1 * bv x * bv u + bv f.2.1 * (bv x * bv v + bv y * bv u) + 2 * bv f.2.2 * bv y * bv v := by
  simp only [vPo, bv_w64, bv_add, bv_mul, bv_2]
/-- Values at the transformed point. -/
theorem at_su (f : Fm) (m : Mx) (x y : Int) : vAt (vSu f m) x y = vAt f (w64 ((w64 (m.1 * x)) + (w64 (m.2.1 * y)))) (w64 ((w64 (m.2.2.1 * x)) + (w64 (m.2.2.2 * y)))) := by
  obtain ⟨a, b, c⟩ := f
  obtain ⟨p, q, r, s⟩ := m
  unfold vAt
  refine w64_congr ?_
  simp only [vSu, bv_w64, bv_add, bv_mul, bvAt, bvPo]
  generalize bv a = a; generalize bv b = b; generalize bv c = c; generalize bv p = p; generalize bv q = q; generalize bv r = r; generalize bv s = s; generalize bv x = x; generalize bv y = y
  grind
theorem po_su (f : Fm) (m : Mx) (x y u v : Int) : vPo (vSu f m) x y u v = vPo f (w64 ((w64 (m.1 * x)) + (w64 (m.2.1 * y)))) (w64 ((w64 (m.2.2.1 * x)) + (w64 (m.2.2.2 * y)))) (w64 ((w64 (m.1 * u)) + (w64 (m.2.1 * v)))) (w64 ((w64 (m.2.2.1 * u)) + (w64 (m.2.2.2 * v)))) := by
  obtain ⟨a, b, c⟩ := f
  obtain ⟨p, q, r, s⟩ := m
  unfold vPo
  refine w64_congr ?_
  simp only [vSu, bv_w64, bv_add, bv_mul, bvAt, bvPo, bv_2]
  generalize bv a = a; generalize bv b = b; generalize bv c = c; generalize bv p = p; generalize bv q = q; generalize bv r = r; generalize bv s = s; generalize bv x = x; generalize bv y = y; generalize bv u = u; generalize bv v = v
  grind
theorem su_su (f : Fm) (m n : Mx) : vSu (vSu f m) n = vSu f (vTi m n) := by
  show (vAt (vSu f m) _ _, vPo (vSu f m) _ _ _ _, vAt (vSu f m) _ _) = _
  rw [at_su, at_su, po_su]
  rfl
theorem di_su (f : Fm) (m : Mx) : vDi (vSu f m) = w64 (w64 (vDi f * vDe m) * vDe m) := by
  obtain ⟨a, b, c⟩ := f
  obtain ⟨p, q, r, s⟩ := m
  conv => lhs; unfold vDi
  refine w64_congr ?_
  simp only [vSu, vDi, vDe, bv_w64, bv_add, bv_sub, bv_mul, bvAt, bvPo, bv_2, bv_4]
  generalize bv a = a; generalize bv b = b; generalize bv c = c; generalize bv p = p; generalize bv q = q; generalize bv r = r; generalize bv s = s
  grind
theorem r_at (f : Fm) (x y : Int) : r_impl_Form_at f x y = some (vAt f x y) := by simp only [r_impl_Form_at, sI_eq, vAt]
theorem r_su (f : Fm) (m : Mx) : r_impl_Form_substitute f m = some (vSu f m) := by simp only [r_impl_Form_substitute, r_at, r_impl_Form_polar, sI_eq, Option.bind_some, vSu, vPo]
theorem rs_su (f : Fm) (m : Mx) : r_spec_foAct f m = some (vSu f m) := by simp only [r_spec_foAct, r_spec_foValue, r_spec_foPolar, sI_eq, Option.bind_some, vSu, vPo, vAt]
theorem r_di (f : Fm) : r_impl_Form_disc f = some (vDi f) := by simp only [r_impl_Form_disc, sI_eq, vDi]
theorem r_de (m : Mx) : r_impl_Matrix_det m = some (vDe m) := by simp only [r_impl_Matrix_det, sI_eq, vDe]
theorem r_ti (m n : Mx) : r_impl_Matrix_times m n = some (vTi m n) := by simp only [r_impl_Matrix_times, sI_eq, vTi]
def okF (f : Fm) : Bool := inN f.1 && (inN f.2.1 && inN f.2.2)
def okM (m : Mx) : Bool := inN m.1 && (inN m.2.1 && (inN m.2.2.1 && inN m.2.2.2))
theorem r_okF (f : Fm) : r_impl_IsForm f = some (okF f) := form_val f
theorem rs_okF (f : Fm) : r_spec_foGood f = some (okF f) := sform_val f
theorem r_okM (m : Mx) : r_impl_IsMatrix m = some (okM m) := by
  simp only [r_impl_IsMatrix, num_val _ (show [m.1, m.2.1, m.2.2.1, m.2.2.2].length < 1000000 by simp), Option.bind_some, List.all_cons, List.all_nil, Bool.and_true, okM]
theorem rs_okM (m : Mx) : r_spec_foMatrix m = some (okM m) := by
  simp only [r_spec_foMatrix, good_val, Option.bind_some, okM]
  cases inN m.1 <;> cases inN m.2.1 <;> cases inN m.2.2.1 <;> cases inN m.2.2.2 <;> rfl
def vSub (f : Fm) (m : Mx) : Fm × Bool := bif okF f && (okM m && okF (vSu f m)) then (vSu f m, true) else ((0, 0, 0), false)
theorem r_Sub (f : Fm) (m : Mx) : r_impl_Substitute f m = some (vSub f m) := by
  simp only [r_impl_Substitute, r_okF, r_okM, r_su, Option.bind_some, vSub]
  cases okF f <;> cases okM m <;> cases h : okF (vSu f m) <;> simp [h]
theorem rs_Sub (f : Fm) (m : Mx) : r_spec_Substitute f m = some (vSub f m) := by
  simp only [r_spec_Substitute, rs_okF, rs_okM, rs_su, Option.bind_some, vSub]
  cases okF f <;> cases okM m <;> cases h : okF (vSu f m) <;> simp [h]
/-! The draws -/
theorem number_ok {k : Nat} {c : List Int × Int × Int} (h : CurB k c) (hk : k ≤ 999999999900) : ∃ x c', r_spec_l1Cur_number c = some (x, c') ∧ CurB (k + 8) c' := by
  unfold r_spec_l1Cur_number
  obtain ⟨x, c1, e1, _, _, _, h1⟩ := pick_ok 12 h (by omega)
  rw [e1, Option.bind_some]
  cases eqI x 0 with
  | true =>
    rw [cond_true]
    obtain ⟨y, c2, e2, _, h2⟩ := among_ok (l := [0, 1, -1, 1000000, -1000000, 1000001, -1000001, -9223372036854775808, 9223372036854775807, 999983, 999999, 1000]) (by simp) h1 (by omega)
    rw [e2, Option.bind_some]
    exact ⟨_, _, rfl, h2.up (by omega)⟩
  | false =>
    rw [cond_false]
    have e : ∀ b : Bool, ∀ f : Bool → Option (Int × (List Int × Int × Int)), (bif b then some b else some (eqI x 2)).bind f = f (bif b then true else eqI x 2) := fun b f => by cases b <;> rfl
    simp only [e]
    cases (bif eqI x 1 then true else eqI x 2) with
    | true =>
      rw [cond_true]
      obtain ⟨y, c2, e2, _, _, _, h2⟩ := pick_ok 50000 h1 (by omega)
      rw [e2, Option.bind_some]
      obtain ⟨z, c3, e3, _, _, _, h3⟩ := pick_ok 20 h2 (by omega)
      rw [e3, Option.bind_some]
      obtain ⟨u, c4, e4, _, _, _, h4⟩ := pick_ok 2 h3 (by omega)
      rw [e4, Option.bind_some, sI_eq]
      exact ⟨_, _, rfl, h4.up (by omega)⟩
    | false =>
      rw [cond_false]
      have e' : ∀ b : Bool, ∀ f : Bool → Option (Int × (List Int × Int × Int)), (bif b then some b else some (eqI x 4)).bind f = f (bif b then true else eqI x 4) := fun b f => by cases b <;> rfl
      simp only [e']
      cases (bif eqI x 3 then true else eqI x 4) with
      | true =>
        rw [cond_true]
        obtain ⟨y, c2, e2, _, _, _, h2⟩ := pick_ok 2000 h1 (by omega)
        rw [e2, Option.bind_some]
        exact ⟨_, _, rfl, h2.up (by omega)⟩
      | false =>
        rw [cond_false]
        obtain ⟨y, c2, e2, _, _, _, h2⟩ := pick_ok 121 h1 (by omega)
        rw [e2, Option.bind_some, sI_eq]
        exact ⟨_, _, rfl, h2.up (by omega)⟩
theorem form_ok {k : Nat} {c : List Int × Int × Int} (h : CurB k c) (hk : k ≤ 999999999800) : ∃ x c', r_spec_l1Cur_form c = some (x, c') ∧ CurB (k + 30) c' := by
  unfold r_spec_l1Cur_form
  obtain ⟨x, c1, e1, _, _, _, h1⟩ := pick_ok 14 h (by omega)
  rw [e1, Option.bind_some]
  cases eqI x 0 with
  | true =>
    rw [cond_true]
    obtain ⟨y, c2, e2, h2⟩ := number_ok h1 (by omega)
    rw [e2, Option.bind_some]
    obtain ⟨z, c3, e3, h3⟩ := number_ok h2 (by omega)
    rw [e3, Option.bind_some]
    obtain ⟨u, c4, e4, h4⟩ := number_ok h3 (by omega)
    rw [e4, Option.bind_some]
    exact ⟨_, _, rfl, h4.up (by omega)⟩
  | false =>
    rw [cond_false]
    cases eqI x 1 with
    | true =>
      rw [cond_true]
      obtain ⟨y, c2, e2, _, h2⟩ := among_ok (l := [2, 3, -1, 0, 1000]) (by simp) h1 (by omega)
      rw [e2, Option.bind_some]
      obtain ⟨z, c3, e3, _, _, _, h3⟩ := pick_ok 20 h2 (by omega)
      rw [e3, Option.bind_some]
      obtain ⟨u, c4, e4, _, _, _, h4⟩ := pick_ok 21 h3 (by omega)
      rw [e4, Option.bind_some]
      obtain ⟨v, c5, e5, _, _, _, h5⟩ := pick_ok 20 h4 (by omega)
      simp only [e5, Option.bind_some, sI_eq]
      exact ⟨_, _, rfl, h5.up (by omega)⟩
    | false =>
      rw [cond_false]
      cases eqI x 2 with
      | true =>
        rw [cond_true]
        obtain ⟨z, c3, e3, _, _, _, h3⟩ := pick_ok 2000 h1 (by omega)
        rw [e3, Option.bind_some]
        obtain ⟨u, c4, e4, _, _, _, h4⟩ := pick_ok 3000 h3 (by omega)
        rw [e4, Option.bind_some]
        obtain ⟨v, c5, e5, _, _, _, h5⟩ := pick_ok 2000 h4 (by omega)
        simp only [e5, Option.bind_some, sI_eq]
        exact ⟨_, _, rfl, h5.up (by omega)⟩
      | false =>
        rw [cond_false]
        cases eqI x 3 with
        | true =>
          rw [cond_true]
          obtain ⟨z, c3, e3, _, _, _, h3⟩ := pick_ok 21 h1 (by omega)
          rw [e3, Option.bind_some]
          obtain ⟨u, c4, e4, _, _, _, h4⟩ := pick_ok 21 h3 (by omega)
          rw [e4, Option.bind_some]
          obtain ⟨v, c5, e5, _, _, _, h5⟩ := pick_ok 21 h4 (by omega)
          simp only [e5, Option.bind_some, sI_eq]
          exact ⟨_, _, rfl, h5.up (by omega)⟩
        | false =>
          rw [cond_false]
          obtain ⟨z, c3, e3, z1, _, z2, h3⟩ := pick_ok 25 h1 (by omega)
          rw [e3, Option.bind_some]
          obtain ⟨u, c4, e4, _, _, _, h4⟩ := pick_ok 40 h3 (by omega)
          have z3 := z2 (by omega)
          rw [e4, Option.bind_some, sI_eq]
          simp only [w64_in (n := 1 + z) (by omega)]
          obtain ⟨v, c5, e5, _, _, _, h5⟩ := pick_ok (w64 (2 * (1 + z))) h4 (by omega)
          rw [e5, Option.bind_some, sI_eq, nz_ne (b := w64 (4 * (1 + z))) (by rw [w64_in (by omega)]; omega), Option.bind_some, sI_eq]
          exact ⟨_, _, rfl, h5.up (by omega)⟩
theorem fomul_ok (m n : Mx) : ∃ y, r_spec_foMul m n = some y := by
  simp only [r_spec_foMul, sI_eq]
  exact ⟨_, rfl⟩
theorem proper_run : ∀ (j n k : Nat) (m : Mx) (c : List Int × Int × Int), j < n → CurB k c → k + 4 * j ≤ 999999999990 → ∃ (m' : Mx) (c' : List Int × Int × Int), r_spec_l1Cur_proper_L11 n (j : Int) m.1 m.2.1 m.2.2.1 m.2.2.2 c.1 c.2.1 c.2.2 = some (m'.1, m'.2.1, m'.2.2.1, m'.2.2.2, c') ∧ CurB (k + 4 * j) c'
  | j, 0, k, m, c, h, _, _ => by omega
  | 0, n + 1, k, m, c, _, hc, _ => by
    unfold r_spec_l1Cur_proper_L11
    rw [show ltI 0 ((0 : Nat) : Int) = false from rfl, cond_false]
    exact ⟨m, c, rfl, hc⟩
  | j + 1, n + 1, k, m, c, h, hc, hk => by
    unfold r_spec_l1Cur_proper_L11
    rw [ltI_eq, decide_eq_true (show (0 : Int) < ((j + 1 : Nat) : Int) by omega), cond_true]
    obtain ⟨x, c1, e1, _, _, _, h1⟩ := pick_ok 9 hc (by omega)
    obtain ⟨y, c2, e2, _, _, _, h2⟩ := pick_ok 3 h1 (by omega)
    simp only [e1, Option.bind_some, sI_eq, e2]
    have ek : w64 (((j + 1 : Nat) : Int) - 1) = (j : Int) := by rw [w64_in (by omega)]; omega
    have fin : ∀ m' : Mx, ∃ (m2 : Mx) (c' : List Int × Int × Int), r_spec_l1Cur_proper_L11 n (j : Int) m'.1 m'.2.1 m'.2.2.1 m'.2.2.2 c2.1 c2.2.1 c2.2.2 = some (m2.1, m2.2.1, m2.2.2.1, m2.2.2.2, c') ∧ CurB (k + 4 * (j + 1)) c' := by
      intro m'
      obtain ⟨m2, c', e, h'⟩ := proper_run j n (k + 4) m' c2 (by omega) (h2.up (by omega)) (by omega)
      exact ⟨m2, c', e, h'.up (by omega)⟩
    cases eqI y 0 with
    | true =>
      rw [cond_true]
      obtain ⟨z, ez⟩ := fomul_ok (m.1, m.2.1, m.2.2.1, m.2.2.2) (1, w64 (x - 4), 0, 1)
      rw [ez, Option.bind_some, ek]
      exact fin z
    | false =>
      rw [cond_false]
      cases eqI y 1 with
      | true =>
        rw [cond_true]
        obtain ⟨z, ez⟩ := fomul_ok (m.1, m.2.1, m.2.2.1, m.2.2.2) (1, 0, w64 (x - 4), 1)
        rw [ez, Option.bind_some, ek]
        exact fin z
      | false =>
        rw [cond_false]
        obtain ⟨z, ez⟩ := fomul_ok (m.1, m.2.1, m.2.2.1, m.2.2.2) (0, -1, 1, 0)
        rw [ez, Option.bind_some, ek]
        exact fin z
theorem proper_ok {k : Nat} {c : List Int × Int × Int} (h : CurB k c) (hk : k ≤ 999999999900) : ∃ x c', r_spec_l1Cur_proper c = some (x, c') ∧ CurB (k + 30) c' := by
  unfold r_spec_l1Cur_proper
  obtain ⟨x, c1, e1, x1, _, x2, h1⟩ := pick_ok 6 h (by omega)
  rw [e1, Option.bind_some]
  have x2 := x2 (by omega)
  obtain ⟨j, rfl⟩ := Int.eq_ofNat_of_zero_le x1
  obtain ⟨m, c', e, h'⟩ := proper_run j FU (k + 2) (1, 0, 0, 1) c1 (by have : (10 : Nat) ≤ FU := by decide
                                                                       omega) h1 (by omega)
  simp only at e ⊢
  rw [e, Option.bind_some]
  exact ⟨_, _, rfl, h'.up (by omega)⟩
theorem matrix_ok {k : Nat} {c : List Int × Int × Int} (h : CurB k c) (hk : k ≤ 999999999800) : ∃ x c', r_spec_l1Cur_matrix c = some (x, c') ∧ CurB (k + 70) c' := by
  unfold r_spec_l1Cur_matrix
  obtain ⟨m, c1, e1, h1⟩ := proper_ok h (by omega)
  obtain ⟨x, c2, e2, _, _, _, h2⟩ := pick_ok 10 h1 (by omega)
  simp only [e1, Option.bind_some, e2]
  cases eqI x 0 with
  | true =>
    rw [cond_true]
    obtain ⟨y, c3, e3, h3⟩ := number_ok h2 (by omega)
    rw [e3, Option.bind_some]
    obtain ⟨z, c4, e4, h4⟩ := number_ok h3 (by omega)
    rw [e4, Option.bind_some]
    obtain ⟨u, c5, e5, h5⟩ := number_ok h4 (by omega)
    rw [e5, Option.bind_some]
    obtain ⟨v, c6, e6, h6⟩ := number_ok h5 (by omega)
    rw [e6, Option.bind_some]
    exact ⟨_, _, rfl, h6.up (by omega)⟩
  | false =>
    rw [cond_false]
    cases eqI x 1 with
    | true => exact ⟨_, _, rfl, h2.up (by omega)⟩
    | false =>
      rw [cond_false]
      cases eqI x 2 with
      | true =>
        rw [cond_true]
        obtain ⟨y, c3, e3, _, _, _, h3⟩ := pick_ok 3 h2 (by omega)
        simp only [e3, Option.bind_some, sI_eq]
        exact ⟨_, _, rfl, h3.up (by omega)⟩
      | false => exact ⟨_, _, rfl, h2.up (by omega)⟩
theorem draw_ok {code : List Int} (h1 : code.length ≤ 1048576) (h2 : ∀ x ∈ code, 0 ≤ x ∧ x ≤ 255) : ∃ f m, r_spec_DrawSubstitute code = some (f, m) := by
  unfold r_spec_DrawSubstitute
  obtain ⟨f, c1, e1, hc1⟩ := form_ok (CurB.start h1 h2) (by omega)
  rw [e1, Option.bind_some]
  obtain ⟨m, c2, e2, _⟩ := matrix_ok hc1 (by omega)
  rw [e2, Option.bind_some]
  exact ⟨_, _, rfl⟩
end Go.Proofs.Ytelefcfmbpdomaa
