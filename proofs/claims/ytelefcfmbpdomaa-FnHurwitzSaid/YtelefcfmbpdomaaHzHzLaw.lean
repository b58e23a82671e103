/-
  For every drawn integer, the sum of Hurwitz numbers is the divisor side, its terms are Hurwitz numbers, and those are counted by conductors.
  Conditions: none.
-/
import Derived.Test.YtelefcfmbpdomaaHzSnd
import Derived.Test.YtelefcfmbpdomaaHzHTab0
import Derived.Test.YtelefcfmbpdomaaHzHTab1
import Derived.Test.YtelefcfmbpdomaaHzHTab2
import Derived.Test.YtelefcfmbpdomaaHzHzPl
import Derived.Test.YtelefcfmbpdomaaShX
import Derived.ProofKit
import Derived.OpenShut
import Derived.ShutString
import Derived.Lib.SmallJoins
namespace Go.Proofs.Ytelefcfmbpdomaa
open Go.RowKit
set_option linter.unusedSimpArgs false
set_option linter.unusedVariables false

theorem hOk_all {m : Int} (h1 : 0 ≤ m) (h2 : m ≤ 2000) : hOk m = true := by
  by_cases a : m < 1040
  · exact hPart0 m h1 a
  by_cases b : m < 1520
  · exact hPart1 m (by omega) b
  · exact hPart2 m (by omega) (by omega)
theorem hVal {m : Int} (h1 : 0 ≤ m) (h2 : m ≤ 2000) : ∃ v, hTab m = some v ∧ r_impl_hurwitz m = some v ∧ r_spec_huTwelve m = some v ∧ (1 ≤ m → r_impl_HurwitzByConductors m = some (v, true)) := by
  have h := hOk_all h1 h2
  unfold hOk at h
  cases hv : hTab m with
  | none => rw [hv] at h; cases h
  | some v =>
    rw [hv] at h
    simp only at h
    cases e1 : isO (r_impl_hurwitz m) v with
    | false => rw [e1] at h; cases h
    | true =>
      cases e2 : isO (r_spec_huTwelve m) v with
      | false => rw [e1, e2] at h; cases h
      | true =>
        rw [e1, e2] at h
        have h : hCon m v = true := h
        refine ⟨v, rfl, isO_eq e1, isO_eq e2, fun h3 => ?_⟩
        unfold hCon at h
        have e0 : eqI m 0 = false := by rw [eqI_eq, beq_eq_false_iff_ne]; omega
        rw [e0, cond_false] at h
        cases e4 : r_impl_HurwitzByConductors m with
        | none => rw [e4] at h; cases h
        | some p =>
          obtain ⟨y, b⟩ := p
          rw [e4] at h
          cases b with
          | false => cases h
          | true =>
            have h : eqI y v = true := h
            rw [eqI_eq] at h
            rw [eq_of_beq h]
theorem hIn {v t : Int} (h1 : 1 ≤ v) (h2 : v ≤ 500) (t1 : 0 ≤ t) (t2 : t ≤ 45) (h : leI (w64 (t * t)) (w64 (4 * v)) = true) : ∃ m, w64 ((w64 (4 * v)) - (w64 (t * t))) = m ∧ 0 ≤ m ∧ m ≤ 2000 ∧ t ≤ 44 := by
  have m1 : t * t ≤ 45 * 45 := Int.mul_le_mul t2 t2 t1 (by omega)
  have m2 : 0 ≤ t * t := Int.mul_nonneg t1 t1
  rw [w64_in (n := t * t) (by omega), w64_in (n := 4 * v) (by omega)] at h ⊢
  rw [leI_eq] at h
  have h := of_decide_eq_true h
  refine ⟨_, w64_in (by omega), by omega, by omega, ?_⟩
  rcases Int.lt_or_le 44 t with h5 | h5
  · have : t = 45 := by omega
    subst this
    omega
  · exact h5
theorem tm_impl {v : Int} (h1 : 1 ≤ v) (h2 : v ≤ 500) : ∀ (n : Nat) (t : Int) (l : List Int), 0 ≤ t → t ≤ 45 → r_impl_RelationTerms_L6 v n t l = tm v n t l
  | 0, t, l, _, _ => rfl
  | n + 1, t, l, t1, t2 => by
    unfold r_impl_RelationTerms_L6 tm
    cases hc : leI (w64 (t * t)) (w64 (4 * v)) with
    | false => rfl
    | true =>
      obtain ⟨m, e, m1, m2, m3⟩ := hIn h1 h2 t1 t2 hc
      obtain ⟨x, x1, x2, x3, _⟩ := hVal m1 m2
      simp only [cond_true, e, x1, x2, Option.bind_some, sI_eq]
      rw [w64_in (n := t + 1) (by omega), tm_impl h1 h2 n (t + 1) _ (by omega) (by omega)]
theorem tm_spec {v : Int} (h1 : 1 ≤ v) (h2 : v ≤ 500) : ∀ (n : Nat) (t : Int) (l : List Int), 0 ≤ t → t ≤ 45 → r_spec_huTerms_L4 v n t l = tm v n t l
  | 0, t, l, _, _ => rfl
  | n + 1, t, l, t1, t2 => by
    unfold r_spec_huTerms_L4 tm
    cases hc : leI (w64 (t * t)) (w64 (4 * v)) with
    | false => rfl
    | true =>
      obtain ⟨m, e, m1, m2, m3⟩ := hIn h1 h2 t1 t2 hc
      obtain ⟨x, x1, x2, x3, _⟩ := hVal m1 m2
      simp only [cond_true, e, x1, x3, Option.bind_some, sI_eq]
      rw [w64_in (n := t + 1) (by omega), tm_spec h1 h2 n (t + 1) _ (by omega) (by omega)]
theorem hNum_eq (m : Int) : r_impl_HurwitzNumber m = hNum m := by
  unfold r_impl_HurwitzNumber hNum
  rw [ltI_eq, ltI_eq]
  by_cases h1 : m < 0
  · rw [decide_eq_true h1]; rfl
  · by_cases h2 : 2000 < m
    · rw [decide_eq_false h1, decide_eq_true h2]; rfl
    · obtain ⟨x, x1, x2, _, _⟩ := hVal (m := m) (by omega) (by omega)
      rw [decide_eq_false h1, decide_eq_false h2, x1, x2]
theorem lL_eq (more ts : List Int) (v : Int) : ∀ (n : Nat) (t : Int), r_laws_FnHurwitz_L23 more (ts, true) v n t = lL ts v n t
  | 0, t => rfl
  | n + 1, t => by
    unfold r_laws_FnHurwitz_L23 lL
    simp only [hNum_eq, sI_eq, lL_eq more ts v n]
theorem hz_tail (more : List Int) (l2 : more.length ≤ 1048576) (h2 : ∀ x ∈ more, 0 ≤ x ∧ x ≤ 255) : ((r_laws_numberOf more).bind fun y42 =>
              sI (w64 (1 + (Int.tmod y42 2000))) fun vm43 =>
              (r_impl_HurwitzNumber vm43).bind fun y44 =>
              (r_spec_HurwitzNumber vm43).bind fun y45 =>
              (r_impl_HurwitzByConductors vm43).bind fun y46 =>
              (some (bif (bif (bif (bif y44.2 then y45.2 else false) then (eqI y44.1 y45.1) else false) then y46.2 else false) then (eqI y46.1 y44.1) else false)).bind fun t51 =>
              some t51) = some true := by
  obtain ⟨u, e3, u1, u2⟩ := numberOf_ok l2 h2
  have hx := tmod_range (x := u) (n := 2000) u1 (by omega)
  have ex : w64 (1 + u.tmod 2000) = 1 + u.tmod 2000 := w64_in (by omega)
  obtain ⟨v, x1, x2, x3, x4⟩ := hVal (m := 1 + u.tmod 2000) (by omega) (by omega)
  have s1 : r_spec_HurwitzNumber (1 + u.tmod 2000) = some (v, true) := by
    simp only [r_spec_HurwitzNumber, r_spec_l1In, Option.bind_some, leI_eq, decide_eq_true (show 0 ≤ 1 + u.tmod 2000 by omega), decide_eq_true (show 1 + u.tmod 2000 ≤ 2000 by omega), cond_true, Bool.not_true, cond_false, x3]
  have s2 : r_impl_HurwitzNumber (1 + u.tmod 2000) = some (v, true) := by
    simp only [r_impl_HurwitzNumber, ltI_eq, decide_eq_false (show ¬ 1 + u.tmod 2000 < 0 by omega), decide_eq_false (show ¬ 2000 < 1 + u.tmod 2000 by omega), cond_false, x2, Option.bind_some]
  simp only [e3, Option.bind_some, sI_eq, ex, s1, s2, x4 (by omega), cond_true, eqI_eq, beq_self_eq_true]
theorem draw_ok {code : List Int} (h1 : code.length ≤ 1048576) (h2 : ∀ x ∈ code, 0 ≤ x ∧ x ≤ 255) : ∃ n, r_spec_DrawRelationSum code = some n := by
  unfold r_spec_DrawRelationSum r_spec_DrawRelationTerms
  obtain ⟨x, c1, e1, _, _, _, k1⟩ := pick_ok 200 (CurB.start h1 h2) (by omega)
  obtain ⟨y, c2, e2, _, _, _, k2⟩ := pick_ok 200 k1 (by omega)
  obtain ⟨z, c3, e3, _, k3⟩ := among_ok (l := [0, 1, 2, 3, 4, 9, 16, 500, 501, -1, w64 (1 + x), w64 (1 + y)]) (by simp) k2 (by omega)
  simp only [e1, e2, e3, Option.bind_some]
  exact ⟨_, rfl⟩
theorem raw_FnHurwitz (code more : List Int) (h1 : ∀ x ∈ code, 0 ≤ x ∧ x ≤ 255) (h2 : ∀ x ∈ more, 0 ≤ x ∧ x ≤ 255) : r_laws_FnHurwitz code more = some true := by
  rcases big_cases code more with hb | ⟨hb, l1, l2⟩
  · simp only [r_laws_FnHurwitz, hb, Option.bind_some, cond_true]
  obtain ⟨v, e1⟩ := draw_ok l1 h1
  have ht := hz_tail more l2 h2
  unfold r_laws_FnHurwitz
  simp only [hb, Option.bind_some, cond_false, e1]
  by_cases hv : 1 ≤ v ∧ v ≤ 500
  · obtain ⟨v1, v2⟩ := hv
    have f1 : leI 1 v = true := by rw [leI_eq, decide_eq_true v1]
    have f2 : leI v 500 = true := by rw [leI_eq, decide_eq_true v2]
    have hc := hCore_all v1 v2
    unfold hCore at hc
    cases ht1 : tm v FU 0 [] with
    | none => rw [ht1] at hc; cases hc
    | some ts =>
      rw [ht1] at hc
      simp only at hc
      cases ha : rsI ts with
      | none => rw [ha] at hc; cases hc
      | some a =>
        rw [ha] at hc
        simp only at hc
        cases g1 : isO (r_spec_RelationSum_L7 ts FU 0 0) a with
        | false => rw [g1] at hc; cases hc
        | true =>
          cases g2 : isP (r_impl_DivisorSide v) a with
          | false => rw [g1, g2] at hc; cases hc
          | true =>
            rw [g1, g2] at hc
            simp only [cond_true] at hc
            cases q1 : r_laws_qSum ts with
            | none => rw [q1] at hc; cases hc
            | some q =>
              cases q2 : getI ts 0 with
              | none => rw [q1, q2] at hc; cases hc
              | some e =>
                rw [q1, q2] at hc
                simp only at hc
                cases g3 : eqI (w64 ((w64 (2 * q)) - e)) a with
                | false => rw [g3] at hc; cases hc
                | true =>
                  cases g4 : eqI ((ts.length : Int)) 0 with
                  | true => rw [g3, g4] at hc; cases hc
                  | false =>
                    rw [g3, g4] at hc
                    simp only [cond_true, cond_false] at hc
                    have t1 : r_impl_RelationTerms v = some (ts, true) := by
                      simp only [r_impl_RelationTerms, r_impl_isRelation, f1, f2, cond_true, Option.bind_some, Bool.not_true, cond_false, tm_impl v1 v2 FU 0 [] (by omega) (by omega), ht1]
                    have t2 : r_impl_RelationSum v = some (a, true) := by
                      unfold rsI at ha
                      simp only [r_impl_RelationSum, t1, Option.bind_some, Bool.not_true, cond_false]
                      obtain ⟨e4, u1, ha⟩ := of_bind ha
                      obtain ⟨e5, u2, ha⟩ := of_bind ha
                      obtain ⟨u6, u3, ha⟩ := of_bind ha
                      simp only [sI_eq] at ha ⊢
                      rw [u2, Option.bind_some, Option.bind_some, u3, Option.bind_some, ha, Option.bind_some]
                    have t3 : r_spec_RelationSum v = some (a, true) := by
                      simp only [r_spec_RelationSum, r_spec_l1In, r_spec_huTerms, f1, f2, cond_true, Option.bind_some, Bool.not_true, cond_false, tm_spec v1 v2 FU 0 [] (by omega) (by omega), ht1, isO_eq g1]
                    have t4 : r_impl_DivisorSide v = some (a, true) := by
                      cases hd : r_impl_DivisorSide v with
                      | none => rw [hd] at g2; cases g2
                      | some p =>
                        obtain ⟨y, b⟩ := p
                        rw [hd] at g2
                        cases b with
                        | false => cases g2
                        | true =>
                          have g2 : eqI y a = true := g2
                          rw [eqI_eq] at g2
                          rw [eq_of_beq g2]
                    have t5 : ∃ u, r_laws_FnHurwitz_L23 more (ts, true) v FU 0 = some (.inl u) := by
                      rw [lL_eq]
                      cases hl : lL ts v FU 0 with
                      | none => rw [hl] at hc; cases hc
                      | some z =>
                        cases z with
                        | inl u => exact ⟨u, rfl⟩
                        | inr b => rw [hl] at hc; cases hc
                    obtain ⟨u, t5⟩ := t5
                    have ea : eqI a a = true := by rw [eqI_eq]; exact beq_self_eq_true a
                    simp only [t1, t2, t3, t4, Option.bind_some, bne_self_eq_false, cond_true, cond_false, ea, Bool.not_true, q1, q2, g3, g4, t5]
                    exact ht
  · have f : (bif leI 1 v then leI v 500 else false) = false := by
      rw [leI_eq, leI_eq]
      by_cases a : 1 ≤ v
      · rw [decide_eq_true a, decide_eq_false (by omega)]; rfl
      · rw [decide_eq_false a]; rfl
    have t1 : r_impl_RelationTerms v = some ([], false) := by simp only [r_impl_RelationTerms, r_impl_isRelation, f, Option.bind_some, Bool.not_false, cond_true]
    have t2 : r_impl_RelationSum v = some (0, false) := by simp only [r_impl_RelationSum, t1, Option.bind_some, Bool.not_false, cond_true]
    have t3 : r_spec_RelationSum v = some (0, false) := by simp only [r_spec_RelationSum, r_spec_l1In, f, Option.bind_some, Bool.not_false, cond_true]
    simp only [t2, t3, Option.bind_some, bne_self_eq_false, cond_false, show eqI 0 0 = true from rfl, Bool.not_true]
    exact ht
theorem law_FnHurwitz (a0 : Option Addr) (len0 cap0 : Nat) (z0 : List Int) (a1 : Option Addr) (len1 cap1 : Nat) (z1 : List Int) (w : World) (w0 : IsRow .u8 w a0 len0 cap0 z0) (w1 : IsRow .u8 w a1 len1 cap1 z1) :
    Calls Try.prog 5 #[.slice a0 len0 cap0, .slice a1 len1 cap1] w fun e w' => e = .returned (.bool true) ∧ Below w.heap.size w w' :=
  calls_law (vs := [.slice a0 len0 cap0, .slice a1 len1 cap1]) (s_laws_FnHurwitz (raw_FnHurwitz (z0.take len0) (z1.take len1) (row_u8 w0) (row_u8 w1))) (relA_row w0 _ (fun _ => rfl) (relA_row w1 _ (fun _ => rfl) .nil))

namespace fnHurwitz
open Go.ChangeShapes Go.WideShapes Go.ChangeAt Go.RowKit Go.Joins
open Go.ChangeMaps (open_string shut_string)
theorem own : ownKnob Try.prog.godebug = none := by kernel_rfl
theorem laidOut : laidOutB Try.prog = true := by kernel_rfl
set_option maxRecDepth 100000 in
theorem lifted (os : Os) (started : os.Started) (H : Type) (enc : TypeId × Value → H) :
    ReturnsInHanded {} Try.checked os 5 .any (Rows.fnHurwitzSpec.pre6 enc Try.prog Try.f5 Rows.fnHurwitzRow.domain false) (Rows.fnHurwitzSpec.post enc Try.prog Try.f5 false true false false) := by
  refine returnsInHanded_of_change (C := Try.checked) own started (by kernel_rfl) Try.func5
    (ChangeSpec.witness6 (enc := enc) (C := Try.checked) false ⟨#[], #[.slice none 0 0, .slice none 0 0], []⟩ 8 (by kernel_rfl) (by kernel_rfl) (by kernel_rfl) (by kernel_rfl)) ?_
  intro W base args ds gs before hval0 hW hcnd _
  have hval : ∀ (j : Nat) t v, Try.f5.params[j]? = some t → args[j]? = some v → Value.okWide Try.prog W .any base t v := hval0
  have hW' := hW
  obtain ⟨p, q, hA0, hV, rfl, hfz, hnd⟩ := hW
  have hA : DataW.TrodAll enc Try.prog W 0 (fun _ => true) true Try.f5.params.toList args.toList ds p := hA0
  rw [Try.params5] at hA hval
  obtain ⟨v0, vs0, d0, ds0, p0, q0, hargs, rfl, rfl, h0, r0⟩ := trodAll_cons hA
  obtain ⟨v1, vs1, d1, ds1, p1, q1, rfl, rfl, rfl, h1, r1⟩ := trodAll_cons r0
  obtain ⟨rfl, rfl, rfl⟩ := trodAll_nil r1
  obtain rfl : args = #[v0, v1] := by cases args; simp_all
  obtain ⟨rfl, rfl⟩ := trodVars_none hV
  have k0 := h0
  have lt0 : ∀ x ∈ p0, x.block < W.heap.size := by obtain ⟨m, hm⟩ := k0; exact DataW.trod_lt m _ _ _ hm
  obtain ⟨a0, len0, cap0, rfl⟩ := okWide_slice Try.underlying22 (hval 0 22 v0 rfl rfl)
  obtain ⟨z0, w0⟩ : ∃ zs, IsRow .u8 W a0 len0 cap0 zs := by
    obtain ⟨fuel, hf⟩ := h0
    rcases open_ints Try.underlying22 Try.underlying5 (by kernel_rfl) hf with ⟨hcs, _⟩ | ⟨x, l, c, zs, hcs, _, hl, hm, hz, _, hcell, hwz⟩
    · simp [Value.cells] at hcs
      obtain ⟨rfl, rfl, rfl⟩ := hcs
      exact ⟨[], .inl ⟨rfl, rfl, rfl, rfl⟩⟩
    · simp [Value.cells] at hcs
      obtain ⟨rfl, rfl, rfl⟩ := hcs
      exact ⟨zs, .inr ⟨_, rfl, hl, hm, by simpa using hz, hcell, hwz⟩⟩
  have k1 := h1
  have lt1 : ∀ x ∈ p1, x.block < W.heap.size := by obtain ⟨m, hm⟩ := k1; exact DataW.trod_lt m _ _ _ hm
  obtain ⟨a1, len1, cap1, rfl⟩ := okWide_slice Try.underlying22 (hval 1 22 v1 rfl rfl)
  obtain ⟨z1, w1⟩ : ∃ zs, IsRow .u8 W a1 len1 cap1 zs := by
    obtain ⟨fuel, hf⟩ := h1
    rcases open_ints Try.underlying22 Try.underlying5 (by kernel_rfl) hf with ⟨hcs, _⟩ | ⟨x, l, c, zs, hcs, _, hl, hm, hz, _, hcell, hwz⟩
    · simp [Value.cells] at hcs
      obtain ⟨rfl, rfl, rfl⟩ := hcs
      exact ⟨[], .inl ⟨rfl, rfl, rfl, rfl⟩⟩
    · simp [Value.cells] at hcs
      obtain ⟨rfl, rfl, rfl⟩ := hcs
      exact ⟨zs, .inr ⟨_, rfl, hl, hm, by simpa using hz, hcell, hwz⟩⟩
  clear hA0 hval0
  refine (law_FnHurwitz a0 len0 cap0 z0 a1 len1 cap1 z1 W w0 w1).mono fun e W' ⟨he, bel⟩ => ?_
  subst he
  exact ⟨_, rfl, _, _, _, [], _, [], hW', trodAll_mk1 (shut_bool Try.underlying4 _), (trodAll_cons_mk (Below.trod laidOut (by kernel_rfl) (of_decide_eq_true (by kernel_rfl)) k0 bel lt0) (trodAll_cons_mk (Below.trod laidOut (by kernel_rfl) (of_decide_eq_true (by kernel_rfl)) k1 bel lt1) trodAll_mk0)), rfl, bel.frame _, fun h => by cases h⟩
set_option maxRecDepth 100000 in
set_option maxHeartbeats 4000000 in
theorem closed : joinedFacts Try.pinned.checked.prog 5 Try.f5 Rows.fnHurwitzSpec Rows.fnHurwitzRow = true := by
  simp only [joinedFacts, Bool.and_eq_true]
  repeat' apply And.intro
  all_goals as_aux_lemma => kernel_rfl
theorem over : Rows.fnHurwitzRow.holds Try.pinned (OpenSpec.ofChange Rows.fnHurwitzSpec) :=
  OpenClaim.holds_of_wide 5 Try.f5 rfl rfl rfl rfl rfl rfl rfl ⟨rfl, rfl, rfl, rfl, rfl⟩ rfl rfl rfl rfl rfl (by kernel_rfl) Try.func5 closed
    (of_decide_eq_true (by kernel_rfl)) (by unfold Func.isWrapper; first | (rw [if_pos (by decide +kernel)]; kernel_rfl) | (rw [if_neg (by decide +kernel)]; exact ⟨rfl, rfl⟩))
    (fun os started H enc _ => lifted os started H enc)
theorem proved : Rows.FnHurwitzSaid := over
#print axioms proved
end fnHurwitz

end Go.Proofs.Ytelefcfmbpdomaa
