/-
  The certificates of automorphs are alike.
  Conditions: none.
-/
import Derived.Test.YtnifkkihamgmaaaDoorAcAcPn
import Derived.Test.YtnifkkihamgmaaaDoorAcCtTx
import Derived.Test.YtnifkkihamgmaaaDoorAcCtMk
namespace Go.Proofs.YtnifkkihamgmaaaDoor
set_option linter.unusedVariables false
set_option linter.unusedSimpArgs false

theorem sm_in {n : Int} (h : inN n = true) : sm18 n := by
  rw [inN_iff] at h
  unfold sm18
  omega
theorem ac_run {f : Int × Int × Int} (h1 : sm18 f.1) (h2 : sm18 f.2.1) (h3 : sm18 f.2.2) {l : List M4} (hl : l.length ≤ 50) (hx : ∀ m ∈ l, r_impl_IsMatrix m = some true) : ∀ (fu k : Nat) (acc : List ByteArray), k ≤ l.length → l.length - k < fu → acc.length ≤ k →
    ∃ r, r_spec_AutomorphCertificates_L7 f l fu (k : Int) acc = some r ∧ r_impl_AutomorphCertificates_L5 f (l, true) fu (k : Int) acc = some r ∧ r.length ≤ 50
  | 0, k, acc, h0, h1, h2 => by omega
  | fu + 1, k, acc, g0, g1, g2 => by
    unfold r_spec_AutomorphCertificates_L7 r_impl_AutomorphCertificates_L5
    dsimp only
    rw [ltI_eq]
    by_cases hk : k < l.length
    · have hm := hx (l[k]) (List.getElem_mem hk)
      have gm := getNat hk
      rw [isMat_val'] at hm
      obtain ⟨m, hmm⟩ : ∃ m, m = l[k] := ⟨_, rfl⟩
      rw [← hmm] at hm gm
      clear hmm
      have hm := some_inj hm
      rw [Bool.and_eq_true, Bool.and_eq_true, Bool.and_eq_true] at hm
      obtain ⟨i1, i2, i3, i4⟩ := hm
      have e1 : (⟨#[97, 117, 116, 111, 109, 111, 114, 112, 104]⟩ : ByteArray) = bl [97, 117, 116, 111, 109, 111, 114, 112, 104] := rfl
      have hL : ∀ y ∈ [97, 117, 116, 111, 109, 111, 114, 112, 104] :: [fB f, mB m], y.length ≤ 1000 := by
        have a1 := fB_len h1 h2 h3
        have a2 := mB_len (sm_in i1) (sm_in i2) (sm_in i3) (sm_in i4)
        intro y hy
        simp only [List.mem_cons, List.not_mem_nil, or_false] at hy
        rcases hy with rfl | rfl | rfl
        · decide
        · omega
        · omega
      have t1 := prText_eq [97, 117, 116, 111, 109, 111, 114, 112, 104] [fB f, mB m] (by simp) hL
      have t2 := cert_eq [97, 117, 116, 111, 109, 111, 114, 112, 104] [fB f, mB m] (by simp) (by simp) hL
      simp only [List.map_cons, List.map_nil] at t1 t2
      rw [decide_eq_true (by omega), cond_true, cond_true]
      simp only [gm, Option.bind_some, foText_eq h1 h2 h3, formText_eq h1 h2 h3, foMText_eq (sm_in i1) (sm_in i2) (sm_in i3) (sm_in i4), matText_eq (sm_in i1) (sm_in i2) (sm_in i3) (sm_in i4), e1, t1, t2, sI_eq, wsucc (show k < 1000000000 by omega)]
      rw [roomOk (by simp; omega)]
      simp only [Option.bind_some]
      exact ac_run h1 h2 h3 hl hx fu (k + 1) _ (by omega) (by omega) (by simp; omega)
    · rw [decide_eq_false (by omega), cond_false, cond_false]
      exact ⟨acc, rfl, rfl, by omega⟩
theorem ac_both (f : Int × Int × Int) : ∃ r b, r_spec_AutomorphCertificates f = some (r, b) ∧ r_impl_AutomorphCertificates f = some (r, b) ∧ r.length ≤ 50 := by
  obtain ⟨bf, hf⟩ := def_some f
  obtain ⟨A, B, C⟩ := f
  cases bf with
  | false =>
    refine ⟨[], false, ?_, ?_, by simp⟩
    · simp only [r_spec_AutomorphCertificates, def_val, hf, Option.bind_some, Bool.not_false, cond_true]
    · simp only [r_impl_AutomorphCertificates, r_impl_Automorphs, hf, Option.bind_some, Bool.not_false, cond_true]
      obtain ⟨m, hm⟩ : ∃ m, FU = m + 1 := ⟨FU - 1, by have := FUge; omega⟩
      rw [hm]
      rfl
  | true =>
    obtain ⟨i1, i2, i3⟩ := in_of_def' hf
    obtain ⟨l, p1, p2, p3, p4⟩ := auto_both hf
    obtain ⟨r, q1, q2, q3⟩ := ac_run (f := (A, B, C)) (sm_in i1) (sm_in i2) (sm_in i3) p3 p4 FU 0 [] (by omega) (by have := FUge; omega) (by simp)
    have q1 : r_spec_AutomorphCertificates_L7 (A, B, C) l FU 0 [] = some r := q1
    have q2 : r_impl_AutomorphCertificates_L5 (A, B, C) (l, true) FU 0 [] = some r := q2
    refine ⟨r, true, ?_, ?_, q3⟩
    · simp only [r_spec_AutomorphCertificates, def_val, hf, p1, q1, Option.bind_some, Bool.not_true, cond_false]
    · simp only [r_impl_AutomorphCertificates, p2, q2, Option.bind_some]
theorem raw_AutomorphCertificates (f : Int × Int × Int) : r_laws_FnExactAutomorphCertificates f = some true := by
  obtain ⟨r, b, h1, h2, h3⟩ := ac_both f
  obtain ⟨q, m1, m2⟩ := markS_held r (by omega)
  have hlt : ltI ((r.length + 1 : Nat) : Int) 0 = false := by rw [ltI_eq, decide_eq_false (by omega)]
  have hb : (b != b) = false := by cases b <;> rfl
  have e : ∀ x : Int × Int × Int, r_laws_toForm x = some x := fun x => rfl
  simp only [r_laws_FnExactAutomorphCertificates, e, h1, h2, Option.bind_some, eqStr_self r (by omega), Bool.not_true, cond_false, hb, m1, m2, hlt, eqSelf]
end Go.Proofs.YtnifkkihamgmaaaDoor
