/-
  The program's RelativeClassNumber returns what the reference's returns, for every argument.
  Conditions: none.
-/
import Derived.Test.YtdffhgibkeifmaaRelSnd
import Derived.Test.YtdffhgibkeifmaaRelBig
import Derived.ProofKit
import Derived.OpenShut
import Derived.ShutString
import Derived.Lib.SmallJoins
namespace Go.Proofs.Ytdffhgibkeifmaa
open Go.RowKit
set_option linter.unusedSimpArgs false
set_option linter.unusedVariables false

theorem andT {a b : Bool} (h : (a && b) = true) : a = true ∧ b = true := by simpa using h
theorem rel_tab {d : Int} (h : relTab d = true) : ∃ l m, r_spec_reList d = some l ∧ r_impl_reducedForms d = some m ∧ l.length = m.length ∧ 0 < l.length := by
  unfold relTab at h
  cases h1 : r_spec_reList d with
  | none => rw [h1] at h; cases h
  | some l =>
    rw [h1] at h
    cases h2 : r_impl_reducedForms d with
    | none => rw [h2] at h; cases h
    | some m =>
      rw [h2] at h
      obtain ⟨h3, h4⟩ := andT h
      exact ⟨l, m, rfl, rfl, Nat.eq_of_beq_eq_true h3, Nat.le_of_ble_eq_true h4⟩
theorem rel_raw (d : Int) : r_laws_FnExactRelativeClassNumber d = some true := by
  have out : (bif leI (-2000) d then leI d (-3) else false) = false → r_laws_FnExactRelativeClassNumber d = some true := by
    intro h
    have h1 : r_spec_reDisc d = some false := by simp only [r_spec_reDisc, r_spec_l1In, Option.bind_some, h, cond_false]
    have h2 : r_impl_isNegativeDisc d = some false := by simp only [r_impl_isNegativeDisc, Option.bind_some, h, cond_false]
    simp only [r_laws_FnExactRelativeClassNumber, r_spec_RelativeClassNumber, r_impl_RelativeClassNumber, h1, h2, Option.bind_some]
    rfl
  by_cases a : -2000 ≤ d
  case neg => exact out (by rw [leI_eq, decide_eq_false a]; rfl)
  by_cases b : d ≤ -3
  case neg => exact out (by rw [leI_eq, leI_eq, decide_eq_true a, decide_eq_false b]; rfl)
  have hc := relChk_all d a b
  unfold relChk at hc
  cases h1 : r_spec_reDisc d with
  | none => rw [h1] at hc; cases hc
  | some y =>
    rw [h1] at hc
    cases y with
    | false =>
      have h2 : r_impl_isNegativeDisc d = some false := eq_of_beq hc
      simp only [r_laws_FnExactRelativeClassNumber, r_spec_RelativeClassNumber, r_impl_RelativeClassNumber, h1, h2, Option.bind_some]
      rfl
    | true =>
      obtain ⟨h2, hc⟩ := andT hc
      have h2 : r_impl_isNegativeDisc d = some true := eq_of_beq h2
      obtain ⟨h3, hc⟩ := andT hc
      obtain ⟨l, m, hl, hm, hlm, h0⟩ := rel_tab h3
      cases h4 : relTop d with
      | none => rw [h4] at hc; cases hc
      | some e =>
        rw [h4] at hc
        cases h5 : r_impl_fundamental d with
        | none => rw [h5] at hc; cases hc
        | some f =>
          rw [h5] at hc
          obtain ⟨h6, hc⟩ := andT hc
          obtain ⟨h7, hc⟩ := andT hc
          obtain ⟨h8, h9⟩ := andT hc
          have h6 : e = f.1 := by rw [eqI_eq] at h6; exact eq_of_beq h6
          rw [leI_eq] at h7 h8
          have hc2 := relChk_all e (of_decide_eq_true h7) (of_decide_eq_true h8)
          have h9 : r_spec_reDisc e = some true := eq_of_beq h9
          unfold relChk at hc2
          rw [h9] at hc2
          obtain ⟨l2, m2, hl2, hm2, hlm2, h02⟩ := rel_tab (andT (andT hc2).2).1
          unfold relTop at h4
          cases h10 : r_spec_odOver d with
          | none => rw [h10] at h4; cases h4
          | some L =>
            rw [h10] at h4
            have h4 : getI L (w64 ((L.length : Int) - 1)) = some e := h4
            have n1 : nz (m2.length : Int) = some () := by
              unfold nz
              rw [eqI_eq]
              have : ((m2.length : Int) == 0) = false := by simp; intro h; rw [h] at hlm2; rw [hlm2] at h02; simp at h02
              rw [this]
              rfl
            rw [hlm] at h0
            simp only [r_laws_FnExactRelativeClassNumber, r_spec_RelativeClassNumber, r_impl_RelativeClassNumber, h1, h2, Option.bind_some, h10, hl, h4, hl2, hm, h5, ← h6, hm2, hlm, hlm2, n1, sI_eq, Bool.not_true, Bool.not_false, cond_false, cond_true, eqI_eq, beq_self_eq_true, bne_self_eq_false]
theorem law_Rel (d : Int) (w : World) :
    Calls Try.prog 7 #[.int .i64 d] w fun e w' => e = .returned (.bool true) ∧ Below w.heap.size w w' :=
  calls_law (vs := [.int .i64 d]) (s_laws_FnExactRelativeClassNumber (rel_raw d)) (relA_int d .nil)

namespace fnExactRelativeClassNumber
open Go.ChangeShapes Go.WideShapes Go.ChangeAt Go.RowKit Go.Joins
open Go.ChangeMaps (open_string shut_string)
theorem own : ownKnob Try.prog.godebug = none := by kernel_rfl
theorem laidOut : laidOutB Try.prog = true := by kernel_rfl
set_option maxRecDepth 100000 in
theorem lifted (os : Os) (started : os.Started) (H : Type) (enc : TypeId × Value → H) :
    ReturnsInHanded {} Try.checked os 7 .any (Rows.fnExactRelativeClassNumberSpec.pre6 enc Try.prog Try.f7 Rows.fnExactRelativeClassNumberRow.domain false) (Rows.fnExactRelativeClassNumberSpec.post enc Try.prog Try.f7 false true false false) := by
  refine returnsInHanded_of_change (C := Try.checked) own started (by kernel_rfl) Try.func7
    (ChangeSpec.witness6 (enc := enc) (C := Try.checked) false ⟨#[], #[.int .i64 0], []⟩ 8 (by kernel_rfl) (by kernel_rfl) (by kernel_rfl) (by kernel_rfl)) ?_
  intro W base args ds gs before hval0 hW hcnd _
  have hval : ∀ (j : Nat) t v, Try.f7.params[j]? = some t → args[j]? = some v → Value.okWide Try.prog W .any base t v := hval0
  have hW' := hW
  obtain ⟨p, q, hA0, hV, rfl, hfz, hnd⟩ := hW
  have hA : DataW.TrodAll enc Try.prog W 0 (fun _ => true) true Try.f7.params.toList args.toList ds p := hA0
  rw [Try.params7] at hA hval
  obtain ⟨v0, vs0, d0, ds0, p0, q0, hargs, rfl, rfl, h0, r0⟩ := trodAll_cons hA
  obtain ⟨rfl, rfl, rfl⟩ := trodAll_nil r0
  obtain rfl : args = #[v0] := by cases args; simp_all
  obtain ⟨rfl, rfl⟩ := trodVars_none hV
  have k0 := h0
  have lt0 : ∀ x ∈ p0, x.block < W.heap.size := by obtain ⟨m, hm⟩ := k0; exact DataW.trod_lt m _ _ _ hm
  obtain ⟨a0, rfl, _, _, w0⟩ := open_int Try.underlying3 (hval 0 3 v0 rfl rfl) h0
  clear hA0 hval0
  refine (law_Rel a0 W).mono fun e W' ⟨he, bel⟩ => ?_
  subst he
  exact ⟨_, rfl, _, _, _, [], _, [], hW', trodAll_mk1 (shut_bool Try.underlying4 _), (trodAll_cons_mk (Below.trod laidOut (by kernel_rfl) (of_decide_eq_true (by kernel_rfl)) k0 bel lt0) trodAll_mk0), rfl, bel.frame _, fun h => by cases h⟩
theorem over : Rows.fnExactRelativeClassNumberRow.holds Try.pinned (OpenSpec.ofChange Rows.fnExactRelativeClassNumberSpec) :=
  OpenClaim.holds_of_wide 7 Try.f7 rfl rfl rfl rfl rfl rfl rfl ⟨rfl, rfl, rfl, rfl, rfl⟩ rfl rfl rfl rfl rfl (by kernel_rfl) Try.func7 (by kernel_rfl)
    (of_decide_eq_true (by kernel_rfl)) (by unfold Func.isWrapper; first | (rw [if_pos (by decide +kernel)]; kernel_rfl) | (rw [if_neg (by decide +kernel)]; exact ⟨rfl, rfl⟩))
    (fun os started H enc _ => lifted os started H enc)
theorem proved : Rows.FnExactRelativeClassNumberSaid := over
#print axioms proved
end fnExactRelativeClassNumber

end Go.Proofs.Ytdffhgibkeifmaa
