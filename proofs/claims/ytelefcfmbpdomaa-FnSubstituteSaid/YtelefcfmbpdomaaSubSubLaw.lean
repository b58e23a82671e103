/-
  For all drawn forms and matrices, substituting two matrices is substituting their product, values are those at the transformed point, and the discriminant is multiplied by the square of the determinant.
  Conditions: none.
-/
import Derived.Test.YtelefcfmbpdomaaSubSnd
import Derived.Test.YtelefcfmbpdomaaSubSubPl
import Derived.Test.YtelefcfmbpdomaaShW
import Derived.ProofKit
import Derived.OpenShut
import Derived.ShutString
import Derived.Lib.SmallJoins
namespace Go.Proofs.Ytelefcfmbpdomaa
open Go.RowKit
set_option linter.unusedSimpArgs false
set_option linter.unusedVariables false

theorem okF_of {f : Fm} {m : Mx} (h : (vSub f m).2 = true) : okF f = true ∧ okM m = true ∧ okF (vSu f m) = true ∧ vSub f m = (vSu f m, true) := by
  unfold vSub at *
  cases h1 : okF f <;> cases h2 : okM m <;> cases h3 : okF (vSu f m) <;> simp [h1, h2, h3] at h ⊢
theorem inN_small {x : Int} (h : -1000 ≤ x ∧ x ≤ 1000) : inN x = true := inN_iff.2 (by omega)
theorem vSub_of {f : Fm} {m : Mx} (h1 : okF f = true) (h2 : okM m = true) (h3 : okF (vSu f m) = true) : vSub f m = (vSu f m, true) := by
  unfold vSub
  rw [h1, h2, h3]
  rfl
theorem r_val (f : Fm) (x y : Int) (h : okF f = true) (hx : inN x = true) (hy : inN y = true) : r_impl_ValueAt f x y = some (vAt f x y, true) := by
  simp only [r_impl_ValueAt, r_okF, h, num_val _ (show [x, y].length < 1000000 by simp), List.all_cons, List.all_nil, hx, hy, Bool.and_true, Option.bind_some, Bool.not_true, cond_false, r_at]
theorem eqF_self (f : Fm) : ((f.1 == f.1) && ((f.2.1 == f.2.1) && (f.2.2 == f.2.2))) = true := by simp
theorem raw_FnSubstitute (code more : List Int) (h1 : ∀ x ∈ code, 0 ≤ x ∧ x ≤ 255) (h2 : ∀ x ∈ more, 0 ≤ x ∧ x ≤ 255) : r_laws_FnSubstitute code more = some true := by
  rcases big_cases code more with hb | ⟨hb, l1, l2⟩
  · simp only [r_laws_FnSubstitute, hb, Option.bind_some, cond_true]
  obtain ⟨f, m, e1⟩ := draw_ok l1 h1
  obtain ⟨f', n, e2⟩ := draw_ok l2 h2
  obtain ⟨u, e3, u1, u2⟩ := numberOf_ok l2 h2
  have hx := tmod_range (x := u) (n := 7) u1 (by omega)
  have hy := tmod_range (x := (more.length : Int)) (n := 5) (by omega) (by omega)
  have ex : w64 (u.tmod 7 - 3) = u.tmod 7 - 3 := w64_in (by omega)
  have ey : w64 ((more.length : Int).tmod 5 - 2) = (more.length : Int).tmod 5 - 2 := w64_in (by omega)
  unfold r_laws_FnSubstitute
  simp only [hb, Option.bind_some, cond_false, e1, e2, r_Sub, rs_Sub, bne_self_eq_false, eqF_self, Bool.not_true]
  cases hs : (vSub f m).2 with
  | false => simp only [Bool.not_false, cond_true]
  | true =>
    obtain ⟨a1, a2, a3, a4⟩ := okF_of hs
    rw [a4]
    have d1 : r_impl_Discriminant f = some (vDi f, true) := by simp only [r_impl_Discriminant, r_okF, a1, Option.bind_some, Bool.not_true, cond_false, r_di]
    have d2 : r_impl_Discriminant (vSu f m) = some (vDi (vSu f m), true) := by simp only [r_impl_Discriminant, r_okF, a3, Option.bind_some, Bool.not_true, cond_false, r_di]
    have d3 : r_impl_Determinant m = some (vDe m, true) := by simp only [r_impl_Determinant, r_okM, a2, Option.bind_some, Bool.not_true, cond_false, r_de]
    have dd : eqI (vDi (vSu f m)) (w64 (w64 (vDi f * vDe m) * vDe m)) = true := by rw [di_su, eqI_eq]; exact beq_self_eq_true _
    simp only [Bool.not_true, cond_false, d1, d2, d3, Option.bind_some, dd]
    have e0 : ∀ b : Bool, (bif b then false else false) = false := fun b => by cases b <;> rfl
    simp only [e0, cond_false]
    have tail : ∀ (x y : Int), inN x = true → inN y = true → ((r_impl_ValueAt (vSu f m) x y).bind fun y34 =>
                          sI (w64 ((w64 (m.1 * x)) + (w64 (m.2.1 * y)))) fun p35 =>
                          sI (w64 ((w64 (m.2.2.1 * x)) + (w64 (m.2.2.2 * y)))) fun q36 =>
                          (r_impl_IsNumber p35).bind fun y37 =>
                          (bif y37 then ((r_impl_IsNumber q36).bind fun y39 => some y39) else some false).bind fun b40 =>
                          bif b40 then
                            (
                              (r_impl_ValueAt f p35 q36).bind fun y42 =>
                              (some (bif (bif (!y34.2) then true else (!y42.2)) then true else (!eqI y34.1 y42.1))).bind fun t45 =>
                              bif t45 then (some false) else (some true)
                            )
                          else (some true)) = some true := by
      intro x y ix iy
      simp only [r_val (vSu f m) x y a3 ix iy, Option.bind_some, sI_eq, r_impl_IsNumber, num_val _ (show [w64 ((w64 (m.1 * x)) + (w64 (m.2.1 * y)))].length < 1000000 by simp), num_val _ (show [w64 ((w64 (m.2.2.1 * x)) + (w64 (m.2.2.2 * y)))].length < 1000000 by simp), List.all_cons, List.all_nil, Bool.and_true]
      cases g1 : inN (w64 ((w64 (m.1 * x)) + (w64 (m.2.1 * y)))) with
      | false => rfl
      | true =>
        simp only [cond_true, Option.bind_some]
        cases g2 : inN (w64 ((w64 (m.2.2.1 * x)) + (w64 (m.2.2.2 * y)))) with
        | false => rfl
        | true =>
          have g3 : eqI (vAt (vSu f m) x y) (vAt f (w64 ((w64 (m.1 * x)) + (w64 (m.2.1 * y)))) (w64 ((w64 (m.2.2.1 * x)) + (w64 (m.2.2.2 * y))))) = true := by rw [at_su, eqI_eq]; exact beq_self_eq_true _
          simp only [cond_true, r_val f _ _ a1 g1 g2, Option.bind_some, Bool.not_true, cond_false, g3]
    have p1 : r_impl_MatrixProduct m n = some (bif okM n && okM (vTi m n) then (vTi m n, true) else ((0, 0, 0, 0), false)) := by
      simp only [r_impl_MatrixProduct, r_okM, a2, Option.bind_some, Bool.not_true, cond_false, r_ti, r_impl_checked]
      cases okM n <;> cases okM (vTi m n) <;> rfl
    have ix := inN_small (x := u.tmod 7 - 3) (by omega)
    have iy := inN_small (x := (more.length : Int).tmod 5 - 2) (by omega)
    simp only [p1, Option.bind_some, e3, sI_eq, ex, ey]
    cases hq : ((vSub (vSu f m) n).2 && (okM n && okM (vTi m n))) with
    | true =>
      obtain ⟨q1, q2⟩ := Bool.and_eq_true_iff.1 hq
      obtain ⟨b1, b2, b3, b4⟩ := okF_of q1
      have q3 := q2
      rw [b2, Bool.true_and] at q3
      have c1 : vSub f (vTi m n) = (vSu (vSu f m) n, true) := by
        rw [su_su] at b3 ⊢
        exact vSub_of a1 q3 b3
      simp only [b4, q2, cond_true, c1, Bool.not_true, cond_false, eqF_self, Option.bind_some]
      have t := tail _ _ ix iy
      simp only [sI_eq, Option.bind_some] at t
      exact t
    | false =>
      have : (bif (vSub (vSu f m) n).2 then (bif (okM n && okM (vTi m n)) then (vTi m n, true) else ((0, 0, 0, 0), false)).2 else false) = false := by
        cases g1 : (vSub (vSu f m) n).2 with
        | false => rfl
        | true =>
          rw [g1, Bool.true_and] at hq
          rw [hq]
          rfl
      simp only [this, cond_false]
      have t := tail _ _ ix iy
      simp only [sI_eq, Option.bind_some] at t
      exact t
theorem law_FnSubstitute (a0 : Option Addr) (len0 cap0 : Nat) (z0 : List Int) (a1 : Option Addr) (len1 cap1 : Nat) (z1 : List Int) (w : World) (w0 : IsRow .u8 w a0 len0 cap0 z0) (w1 : IsRow .u8 w a1 len1 cap1 z1) :
    Calls Try.prog 3 #[.slice a0 len0 cap0, .slice a1 len1 cap1] w fun e w' => e = .returned (.bool true) ∧ Below w.heap.size w w' :=
  calls_law (vs := [.slice a0 len0 cap0, .slice a1 len1 cap1]) (s_laws_FnSubstitute (raw_FnSubstitute (z0.take len0) (z1.take len1) (row_u8 w0) (row_u8 w1))) (relA_row w0 _ (fun _ => rfl) (relA_row w1 _ (fun _ => rfl) .nil))

namespace fnSubstitute
open Go.ChangeShapes Go.WideShapes Go.ChangeAt Go.RowKit Go.Joins
open Go.ChangeMaps (open_string shut_string)
theorem own : ownKnob Try.prog.godebug = none := by kernel_rfl
theorem laidOut : laidOutB Try.prog = true := by kernel_rfl
set_option maxRecDepth 100000 in
theorem lifted (os : Os) (started : os.Started) (H : Type) (enc : TypeId × Value → H) :
    ReturnsInHanded {} Try.checked os 3 .any (Rows.fnSubstituteSpec.pre6 enc Try.prog Try.f3 Rows.fnSubstituteRow.domain false) (Rows.fnSubstituteSpec.post enc Try.prog Try.f3 false true false false) := by
  refine returnsInHanded_of_change (C := Try.checked) own started (by kernel_rfl) Try.func3
    (ChangeSpec.witness6 (enc := enc) (C := Try.checked) false ⟨#[], #[.slice none 0 0, .slice none 0 0], []⟩ 8 (by kernel_rfl) (by kernel_rfl) (by kernel_rfl) (by kernel_rfl)) ?_
  intro W base args ds gs before hval0 hW hcnd _
  have hval : ∀ (j : Nat) t v, Try.f3.params[j]? = some t → args[j]? = some v → Value.okWide Try.prog W .any base t v := hval0
  have hW' := hW
  obtain ⟨p, q, hA0, hV, rfl, hfz, hnd⟩ := hW
  have hA : DataW.TrodAll enc Try.prog W 0 (fun _ => true) true Try.f3.params.toList args.toList ds p := hA0
  rw [Try.params3] at hA hval
  obtain ⟨v0, vs0, d0, ds0, p0, q0, hargs, rfl, rfl, h0, r0⟩ := trodAll_cons hA
  obtain ⟨v1, vs1, d1, ds1, p1, q1, rfl, rfl, rfl, h1, r1⟩ := trodAll_cons r0
  obtain ⟨rfl, rfl, rfl⟩ := trodAll_nil r1
  obtain rfl : args = #[v0, v1] := by cases args; simp_all
  obtain ⟨rfl, rfl⟩ := trodVars_none hV
  have k0 := h0
  have lt0 : ∀ x ∈ p0, x.block < W.heap.size := by obtain ⟨m, hm⟩ := k0; exact DataW.trod_lt m _ _ _ hm
  obtain ⟨a0, len0, cap0, rfl⟩ := okWide_slice Try.underlying22 (hval 0 22 v0 rfl rfl)
  obtain ⟨z0, w0⟩ : ∃ zs, IsRow .u8 W a0 len0 cap0 zs := by
    obtain ⟨fuel, hf⟩ := h0
    rcases open_ints Try.underlying22 Try.underlying5 (by kernel_rfl) hf with ⟨hcs, _⟩ | ⟨x, l, c, zs, hcs, _, hl, hm, hz, _, hcell, hwz⟩
    · simp [Value.cells] at hcs
      obtain ⟨rfl, rfl, rfl⟩ := hcs
      exact ⟨[], .inl ⟨rfl, rfl, rfl, rfl⟩⟩
    · simp [Value.cells] at hcs
      obtain ⟨rfl, rfl, rfl⟩ := hcs
      exact ⟨zs, .inr ⟨_, rfl, hl, hm, by simpa using hz, hcell, hwz⟩⟩
  have k1 := h1
  have lt1 : ∀ x ∈ p1, x.block < W.heap.size := by obtain ⟨m, hm⟩ := k1; exact DataW.trod_lt m _ _ _ hm
  obtain ⟨a1, len1, cap1, rfl⟩ := okWide_slice Try.underlying22 (hval 1 22 v1 rfl rfl)
  obtain ⟨z1, w1⟩ : ∃ zs, IsRow .u8 W a1 len1 cap1 zs := by
    obtain ⟨fuel, hf⟩ := h1
    rcases open_ints Try.underlying22 Try.underlying5 (by kernel_rfl) hf with ⟨hcs, _⟩ | ⟨x, l, c, zs, hcs, _, hl, hm, hz, _, hcell, hwz⟩
    · simp [Value.cells] at hcs
      obtain ⟨rfl, rfl, rfl⟩ := hcs
      exact ⟨[], .inl ⟨rfl, rfl, rfl, rfl⟩⟩
    · simp [Value.cells] at hcs
      obtain ⟨rfl, rfl, rfl⟩ := hcs
      exact ⟨zs, .inr ⟨_, rfl, hl, hm, by simpa using hz, hcell, hwz⟩⟩
  clear hA0 hval0
  refine (law_FnSubstitute a0 len0 cap0 z0 a1 len1 cap1 z1 W w0 w1).mono fun e W' ⟨he, bel⟩ => ?_
  subst he
  exact ⟨_, rfl, _, _, _, [], _, [], hW', trodAll_mk1 (shut_bool Try.underlying4 _), (trodAll_cons_mk (Below.trod laidOut (by kernel_rfl) (of_decide_eq_true (by kernel_rfl)) k0 bel lt0) (trodAll_cons_mk (Below.trod laidOut (by kernel_rfl) (of_decide_eq_true (by kernel_rfl)) k1 bel lt1) trodAll_mk0)), rfl, bel.frame _, fun h => by cases h⟩
set_option maxRecDepth 100000 in
set_option maxHeartbeats 4000000 in
theorem closed : joinedFacts Try.pinned.checked.prog 3 Try.f3 Rows.fnSubstituteSpec Rows.fnSubstituteRow = true := by
  simp only [joinedFacts, Bool.and_eq_true]
  repeat' apply And.intro
  all_goals as_aux_lemma => kernel_rfl
theorem over : Rows.fnSubstituteRow.holds Try.pinned (OpenSpec.ofChange Rows.fnSubstituteSpec) :=
  OpenClaim.holds_of_wide 3 Try.f3 rfl rfl rfl rfl rfl rfl rfl ⟨rfl, rfl, rfl, rfl, rfl⟩ rfl rfl rfl rfl rfl (by kernel_rfl) Try.func3 closed
    (of_decide_eq_true (by kernel_rfl)) (by unfold Func.isWrapper; first | (rw [if_pos (by decide +kernel)]; kernel_rfl) | (rw [if_neg (by decide +kernel)]; exact ⟨rfl, rfl⟩))
    (fun os started H enc _ => lifted os started H enc)
theorem proved : Rows.FnSubstituteSaid := over
#print axioms proved
end fnSubstitute

end Go.Proofs.Ytelefcfmbpdomaa
