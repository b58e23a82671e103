/-
  The lifts of a form: both sides list the same forms above it.
  Conditions: none.
-/
import Derived.Test.YtdffhgibkeifmaaKcSnd
import Derived.Test.YtdffhgibkeifmaaKcLfTab
import Derived.Test.YtdffhgibkeifmaaKcLfPl
import Derived.ProofKit
import Derived.OpenShut
import Derived.ShutString
import Derived.Lib.SmallJoins
namespace Go.Proofs.Ytdffhgibkeifmaa
open Go.RowKit
set_option linter.unusedSimpArgs false
set_option linter.unusedVariables false

theorem sq_mod (b : Int) : b * b % 4 ≤ 1 := by
  have h : b % 2 = 0 ∨ b % 2 = 1 := by omega
  obtain ⟨k, hk⟩ : ∃ k, k = b / 2 := ⟨_, rfl⟩
  rcases h with h | h
  · have e : b = 2 * k := by omega
    have e2 : b * b = 4 * (k * k) := by rw [e]; grind
    omega
  · have e : b = 2 * k + 1 := by omega
    have e2 : b * b = 4 * (k * k + k) + 1 := by rw [e]; grind
    omega
theorem red_small {a b c d g : Int} (h : RedInv a b c d g) (hr : IsRed a b c) (hd : -2000 ≤ d) : inN a = true ∧ inN b = true ∧ inN c = true := by
  have h1 := h.a1
  have h2 := h.dis
  have h3 := h.c1
  unfold IsRed at hr
  have k1 : b * b ≤ a * a := by
    rcases Int.le_total 0 b with hb | hb
    · exact Int.mul_le_mul (by omega) (by omega) hb (by omega)
    · have := Int.mul_le_mul (a := -b) (b := -b) (c := a) (d := a) (by omega) (by omega) (by omega) (by omega)
      have e : -b * -b = b * b := by grind
      omega
  have k2 : a * a ≤ a * c := Int.mul_le_mul_of_nonneg_left (by omega) (by omega)
  have k3 : 1 * c ≤ a * c := Int.mul_le_mul_of_nonneg_right (by omega) (by omega)
  have k4 : 4 * a * c = 4 * (a * c) := by grind
  refine ⟨inN_iff.2 ?_, inN_iff.2 ?_, inN_iff.2 ?_⟩ <;> omega
theorem law_same {f : Int × Int × Int} {p : Int} {l : List (Int × Int × Int)} {b : Bool} (hl : l.length ≤ 1000) (e1 : r_spec_LiftForms f p = some (l, b)) (e2 : r_impl_LiftForms f p = some (l, b)) : r_laws_FnExactLiftForms f p = some true := by
  obtain ⟨r, g1, g2⟩ := mark_held l hl
  simp only [r_laws_FnExactLiftForms, r_laws_toForm, Option.bind_some, e1, e2, eqFormS_self l hl, Bool.not_true, cond_false, bne_self_eq_false, g1, g2, ltI_eq, decide_eq_false (show ¬ (1 + 3 * (l.length : Int) < 0) by omega), eqI_true]
theorem raw_LiftForms (f : Int × Int × Int) (p : Int) : r_laws_FnExactLiftForms f p = some true := by
  obtain ⟨a, b, c⟩ := f
  obtain ⟨cb, hcb⟩ := class_some (a, b, c)
  cases cb with
  | false =>
    refine law_same (l := []) (b := false) (by simp) ?_ ?_
    · simp only [r_spec_LiftForms, class_val, hcb, Option.bind_some, Bool.not_false, cond_true]
    · simp only [r_impl_LiftForms, hcb, Option.bind_some, Bool.not_false, cond_true]
  | true =>
    obtain ⟨ha, hb, hc, hneg, hbig, hpos, _⟩ := class_true hcb
    have hm : (b * b - 4 * a * c) % 4 ≤ 1 := by
      have := sq_mod b
      have k4 : 4 * a * c = 4 * (a * c) := by grind
      omega
    have hdis := disc_val ha hb hc
    rcases lf_cases (b * b - 4 * a * c) p ⟨hbig, by omega, hm⟩ with ⟨u1, u2⟩ | ⟨u1, u2, u3, u4, u5, u6, u7⟩
    · refine law_same (l := []) (b := false) (by simp) ?_ ?_
      · simp only [r_spec_LiftForms, class_val, hcb, Option.bind_some, Bool.not_true, Bool.not_false, cond_true, cond_false, disc_eq, hdis, u1]
      · simp only [r_impl_LiftForms, hcb, Option.bind_some, Bool.not_true, Bool.not_false, cond_true, cond_false, hdis, u2]
    · obtain ⟨m, a2, b2, c2, g1, g2, g3, g4⟩ := red_both (red_of_class hcb)
      obtain ⟨na, nb, nc⟩ := red_small g3 g4 hbig
      have hdis2 := disc_val na nb nc
      rw [g3.dis] at hdis2
      obtain ⟨l, q1, q2, q3, q4⟩ := lfOk_eq (lf_tab (b * b - 4 * a * c) p (by omega) hm u5 u6 u3 u7)
      have hf : (1002 : Nat) ≤ FU := by decide
      obtain ⟨r, v1, v2, v3⟩ := loop_both (g := (a2, b2, c2)) q3 q4 FU 0 [] (by omega) (by omega) (by simp)
      have v1 : r_spec_odLifts_L7 (a2, b2, c2) p l FU 0 [] = some r := v1
      have v2 : r_impl_formsLike_L6 (fun x0 => r_impl_above_1 x0 p (a2, b2, c2)) l FU 0 [] = some r := v2
      refine law_same (l := r) (b := true) v3 ?_ ?_
      · simp only [r_spec_LiftForms, class_val, hcb, Option.bind_some, Bool.not_true, Bool.not_false, cond_true, cond_false, disc_eq, hdis, u1, r_spec_reClass, g2, r_spec_odLifts, hdis2, u4, q1, v1]
      · simp only [r_impl_LiftForms, hcb, Option.bind_some, Bool.not_true, Bool.not_false, cond_true, cond_false, hdis, u2, r_impl_reduced, g1, r_impl_above, hdis2, r_impl_formsLike, u4, q2, v2]
theorem law_LiftForms (a0 a1 a2 a3 : Int) (w : World) :
    Calls Try.prog 13 #[.agg #[.int .i64 a0, .int .i64 a1, .int .i64 a2], .int .i64 a3] w fun e w' => e = .returned (.bool true) ∧ Below w.heap.size w w' :=
  calls_law (vs := [.agg #[.int .i64 a0, .int .i64 a1, .int .i64 a2], .int .i64 a3]) (s_laws_FnExactLiftForms (raw_LiftForms (a0, a1, a2) a3)) (.cons ⟨_, rfl, (.cons (rd_int _ _ _ _) (.cons (rd_int _ _ _ _) (.cons (rd_int _ _ _ _) .nil)))⟩ (relA_int a3 .nil))

namespace fnExactLiftForms
open Go.ChangeShapes Go.WideShapes Go.ChangeAt Go.RowKit Go.Joins
open Go.ChangeMaps (open_string shut_string)
theorem own : ownKnob Try.prog.godebug = none := by kernel_rfl
theorem laidOut : laidOutB Try.prog = true := by kernel_rfl
set_option maxRecDepth 100000 in
theorem lifted (os : Os) (started : os.Started) (H : Type) (enc : TypeId × Value → H) :
    ReturnsInHanded {} Try.checked os 13 .any (Rows.fnExactLiftFormsSpec.pre6 enc Try.prog Try.f13 Rows.fnExactLiftFormsRow.domain false) (Rows.fnExactLiftFormsSpec.post enc Try.prog Try.f13 false true false false) := by
  refine returnsInHanded_of_change (C := Try.checked) own started (by kernel_rfl) Try.func13
    (ChangeSpec.witness6 (enc := enc) (C := Try.checked) false ⟨#[], #[.agg #[.int .i64 0, .int .i64 0, .int .i64 0], .int .i64 0], []⟩ 8 (by kernel_rfl) (by kernel_rfl) (by kernel_rfl) (by kernel_rfl)) ?_
  intro W base args ds gs before hval0 hW hcnd _
  have hval : ∀ (j : Nat) t v, Try.f13.params[j]? = some t → args[j]? = some v → Value.okWide Try.prog W .any base t v := hval0
  have hW' := hW
  obtain ⟨p, q, hA0, hV, rfl, hfz, hnd⟩ := hW
  have hA : DataW.TrodAll enc Try.prog W 0 (fun _ => true) true Try.f13.params.toList args.toList ds p := hA0
  rw [Try.params13] at hA hval
  obtain ⟨v0, vs0, d0, ds0, p0, q0, hargs, rfl, rfl, h0, r0⟩ := trodAll_cons hA
  obtain ⟨v1, vs1, d1, ds1, p1, q1, rfl, rfl, rfl, h1, r1⟩ := trodAll_cons r0
  obtain ⟨rfl, rfl, rfl⟩ := trodAll_nil r1
  obtain rfl : args = #[v0, v1] := by cases args; simp_all
  obtain ⟨rfl, rfl⟩ := trodVars_none hV
  have k0 := h0
  have lt0 : ∀ x ∈ p0, x.block < W.heap.size := by obtain ⟨m, hm⟩ := k0; exact DataW.trod_lt m _ _ _ hm
  obtain ⟨c0_0, c0_1, c0_2, y0_0, y0_1, y0_2, m0, rfl, _, _, hy0_0, hy0_1, hy0_2⟩ := open_agg3 Try.underlying31 (by kernel_rfl) (by kernel_rfl) (hval 0 31 v0 rfl rfl) h0
  obtain ⟨a0_0, e0_0, _, w0_0⟩ := DataW.trod_int Try.underlying3 hy0_0
  obtain rfl : c0_0 = .int .i64 a0_0 := by simpa using e0_0
  obtain ⟨a0_1, e0_1, _, w0_1⟩ := DataW.trod_int Try.underlying3 hy0_1
  obtain rfl : c0_1 = .int .i64 a0_1 := by simpa using e0_1
  obtain ⟨a0_2, e0_2, _, w0_2⟩ := DataW.trod_int Try.underlying3 hy0_2
  obtain rfl : c0_2 = .int .i64 a0_2 := by simpa using e0_2
  have k1 := h1
  have lt1 : ∀ x ∈ p1, x.block < W.heap.size := by obtain ⟨m, hm⟩ := k1; exact DataW.trod_lt m _ _ _ hm
  obtain ⟨a1, rfl, _, _, w1⟩ := open_int Try.underlying3 (hval 1 3 v1 rfl rfl) h1
  clear hA0 hval0
  refine (law_LiftForms a0_0 a0_1 a0_2 a1 W).mono fun e W' ⟨he, bel⟩ => ?_
  subst he
  exact ⟨_, rfl, _, _, _, [], _, [], hW', trodAll_mk1 (shut_bool Try.underlying4 _), (trodAll_cons_mk (Below.trod laidOut (by kernel_rfl) (of_decide_eq_true (by kernel_rfl)) k0 bel lt0) (trodAll_cons_mk (Below.trod laidOut (by kernel_rfl) (of_decide_eq_true (by kernel_rfl)) k1 bel lt1) trodAll_mk0)), rfl, bel.frame _, fun h => by cases h⟩
set_option maxRecDepth 100000 in
set_option maxHeartbeats 4000000 in
theorem closed : joinedFacts Try.pinned.checked.prog 13 Try.f13 Rows.fnExactLiftFormsSpec Rows.fnExactLiftFormsRow = true := by
  simp only [joinedFacts, Bool.and_eq_true]
  repeat' apply And.intro
  all_goals as_aux_lemma => kernel_rfl
theorem over : Rows.fnExactLiftFormsRow.holds Try.pinned (OpenSpec.ofChange Rows.fnExactLiftFormsSpec) :=
  OpenClaim.holds_of_wide 13 Try.f13 rfl rfl rfl rfl rfl rfl rfl ⟨rfl, rfl, rfl, rfl, rfl⟩ rfl rfl rfl rfl rfl (by kernel_rfl) Try.func13 closed
    (of_decide_eq_true (by kernel_rfl)) (by unfold Func.isWrapper; first | (rw [if_pos (by decide +kernel)]; kernel_rfl) | (rw [if_neg (by decide +kernel)]; exact ⟨rfl, rfl⟩))
    (fun os started H enc _ => lifted os started H enc)
theorem proved : Rows.FnExactLiftFormsSaid := over
#print axioms proved
end fnExactLiftForms

end Go.Proofs.Ytdffhgibkeifmaa
