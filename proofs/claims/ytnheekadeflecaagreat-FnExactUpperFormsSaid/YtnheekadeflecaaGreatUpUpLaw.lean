/-
  The forms on the lattices of a prime index: both sides list the same forms in the same order.
  Conditions: none.
-/
import Derived.Test.YtnheekadeflecaaGreatUpSnd
import Derived.Test.YtnheekadeflecaaGreatUpUpX
import Derived.Test.YtnheekadeflecaaGreatUpMkF
import Derived.ProofKit
import Derived.OpenShut
import Derived.ShutString
import Derived.Lib.SmallJoins
namespace Go.Proofs.YtnheekadeflecaaGreat
open Go.RowKit
set_option linter.unusedSimpArgs false
set_option linter.unusedVariables false

theorem law_same {f : Int × Int × Int} {p : Int} {l : List (Int × Int × Int)} {b : Bool} (hl : l.length ≤ 1000) (e1 : r_spec_UpperForms f p = some (l, b)) (e2 : r_impl_UpperForms f p = some (l, b)) : r_laws_FnExactUpperForms f p = some true := by
  obtain ⟨r, g1, g2⟩ := mark_held l hl
  simp only [r_laws_FnExactUpperForms, r_laws_toForm, Option.bind_some, e1, e2, eqFormS_self l hl, Bool.not_true, cond_false, bne_self_eq_false, g1, g2, ltI_eq, decide_eq_false (show ¬ (1 + 3 * (l.length : Int) < 0) by omega), eqI_true]
theorem raw_UpperForms (f : Int × Int × Int) (p : Int) : r_laws_FnExactUpperForms f p = some true := by
  rcases upd_cases f p with h | ⟨D, a, b, c, n, h⟩
  · obtain ⟨h1, h2⟩ := upper_not h
    exact law_same (by simp) h2 h1
  · obtain ⟨u, h1, h2, h3, _⟩ := upper_up h
    exact law_same h3 h2 h1
theorem law_UpperForms (a0 a1 a2 a3 : Int) (w : World) :
    Calls Tryz.prog 3 #[.agg #[.int .i64 a0, .int .i64 a1, .int .i64 a2], .int .i64 a3] w fun e w' => e = .returned (.bool true) ∧ Below w.heap.size w w' :=
  calls_law (vs := [.agg #[.int .i64 a0, .int .i64 a1, .int .i64 a2], .int .i64 a3]) (s_laws_FnExactUpperForms (raw_UpperForms (a0, a1, a2) a3)) (.cons ⟨_, rfl, (.cons (rd_int _ _ _ _) (.cons (rd_int _ _ _ _) (.cons (rd_int _ _ _ _) .nil)))⟩ (relA_int a3 .nil))

namespace fnExactUpperForms
open Go.ChangeShapes Go.WideShapes Go.ChangeAt Go.RowKit Go.Joins
open Go.ChangeMaps (open_string shut_string)
theorem own : ownKnob Tryz.prog.godebug = none := by kernel_rfl
theorem laidOut : laidOutB Tryz.prog = true := by kernel_rfl
set_option maxRecDepth 100000 in
theorem lifted (os : Os) (started : os.Started) (H : Type) (enc : TypeId × Value → H) :
    ReturnsInHanded {} Tryz.checked os 3 .any (Rows.fnExactUpperFormsSpec.pre6 enc Tryz.prog Tryz.f3 Rows.fnExactUpperFormsRow.domain false) (Rows.fnExactUpperFormsSpec.post enc Tryz.prog Tryz.f3 false true false false) := by
  refine returnsInHanded_of_change (C := Tryz.checked) own started (by kernel_rfl) Tryz.func3
    (ChangeSpec.witness6 (enc := enc) (C := Tryz.checked) false ⟨#[], #[.agg #[.int .i64 0, .int .i64 0, .int .i64 0], .int .i64 0], []⟩ 8 (by kernel_rfl) (by kernel_rfl) (by kernel_rfl) (by kernel_rfl)) ?_
  intro W base args ds gs before hval0 hW hcnd _
  have hval : ∀ (j : Nat) t v, Tryz.f3.params[j]? = some t → args[j]? = some v → Value.okWide Tryz.prog W .any base t v := hval0
  have hW' := hW
  obtain ⟨p, q, hA0, hV, rfl, hfz, hnd⟩ := hW
  have hA : DataW.TrodAll enc Tryz.prog W 0 (fun _ => true) true Tryz.f3.params.toList args.toList ds p := hA0
  rw [Tryz.params3] at hA hval
  obtain ⟨v0, vs0, d0, ds0, p0, q0, hargs, rfl, rfl, h0, r0⟩ := trodAll_cons hA
  obtain ⟨v1, vs1, d1, ds1, p1, q1, rfl, rfl, rfl, h1, r1⟩ := trodAll_cons r0
  obtain ⟨rfl, rfl, rfl⟩ := trodAll_nil r1
  obtain rfl : args = #[v0, v1] := by cases args; simp_all
  obtain ⟨rfl, rfl⟩ := trodVars_none hV
  have k0 := h0
  have lt0 : ∀ x ∈ p0, x.block < W.heap.size := by obtain ⟨m, hm⟩ := k0; exact DataW.trod_lt m _ _ _ hm
  obtain ⟨c0_0, c0_1, c0_2, y0_0, y0_1, y0_2, m0, rfl, _, _, hy0_0, hy0_1, hy0_2⟩ := open_agg3 Tryz.underlying23 (by kernel_rfl) (by kernel_rfl) (hval 0 23 v0 rfl rfl) h0
  obtain ⟨a0_0, e0_0, _, w0_0⟩ := DataW.trod_int Tryz.underlying3 hy0_0
  obtain rfl : c0_0 = .int .i64 a0_0 := by simpa using e0_0
  obtain ⟨a0_1, e0_1, _, w0_1⟩ := DataW.trod_int Tryz.underlying3 hy0_1
  obtain rfl : c0_1 = .int .i64 a0_1 := by simpa using e0_1
  obtain ⟨a0_2, e0_2, _, w0_2⟩ := DataW.trod_int Tryz.underlying3 hy0_2
  obtain rfl : c0_2 = .int .i64 a0_2 := by simpa using e0_2
  have k1 := h1
  have lt1 : ∀ x ∈ p1, x.block < W.heap.size := by obtain ⟨m, hm⟩ := k1; exact DataW.trod_lt m _ _ _ hm
  obtain ⟨a1, rfl, _, _, w1⟩ := open_int Tryz.underlying3 (hval 1 3 v1 rfl rfl) h1
  clear hA0 hval0
  refine (law_UpperForms a0_0 a0_1 a0_2 a1 W).mono fun e W' ⟨he, bel⟩ => ?_
  subst he
  exact ⟨_, rfl, _, _, _, [], _, [], hW', trodAll_mk1 (shut_bool Tryz.underlying4 _), (trodAll_cons_mk (Below.trod laidOut (by kernel_rfl) (of_decide_eq_true (by kernel_rfl)) k0 bel lt0) (trodAll_cons_mk (Below.trod laidOut (by kernel_rfl) (of_decide_eq_true (by kernel_rfl)) k1 bel lt1) trodAll_mk0)), rfl, bel.frame _, fun h => by cases h⟩
set_option maxRecDepth 100000 in
set_option maxHeartbeats 4000000 in
theorem closed : joinedFacts Tryz.pinned.checked.prog 3 Tryz.f3 Rows.fnExactUpperFormsSpec Rows.fnExactUpperFormsRow = true := by
  simp only [joinedFacts, Bool.and_eq_true]
  repeat' apply And.intro
  all_goals as_aux_lemma => kernel_rfl
theorem over : Rows.fnExactUpperFormsRow.holds Tryz.pinned (OpenSpec.ofChange Rows.fnExactUpperFormsSpec) :=
  OpenClaim.holds_of_wide 3 Tryz.f3 rfl rfl rfl rfl rfl rfl rfl ⟨rfl, rfl, rfl, rfl, rfl⟩ rfl rfl rfl rfl rfl (by kernel_rfl) Tryz.func3 closed
    (of_decide_eq_true (by kernel_rfl)) (by unfold Func.isWrapper; first | (rw [if_pos (by decide +kernel)]; kernel_rfl) | (rw [if_neg (by decide +kernel)]; exact ⟨rfl, rfl⟩))
    (fun os started H enc _ => lifted os started H enc)
theorem proved : Rows.FnExactUpperFormsSaid := over
#print axioms proved
end fnExactUpperForms

end Go.Proofs.YtnheekadeflecaaGreat
