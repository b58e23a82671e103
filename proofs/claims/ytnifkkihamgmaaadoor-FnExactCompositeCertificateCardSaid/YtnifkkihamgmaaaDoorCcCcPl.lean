/-
  Certificates of composites, both ways.
  Conditions: none.
-/
import Derived.Test.YtnifkkihamgmaaaDoorCcCmC0
import Derived.Test.YtnifkkihamgmaaaDoorCcCtTx
namespace Go.Proofs.YtnifkkihamgmaaaDoor
set_option linter.unusedVariables false
set_option linter.unusedSimpArgs false

theorem sm_in {n : Int} (h : inN n = true) : sm18 n := by
  rw [inN_iff] at h
  exact ⟨by omega, by omega⟩
theorem cc_run {h : F3} {l : List Int} {b : Bool} (hl : l.length ≤ 8) (hin : ∀ x ∈ l, inN x = true) : ∀ (k fu i : Nat) (acc : List ByteArray), i + k = l.length → k < fu → acc.length ≤ 100 + i →
    r_impl_CompositeCertificate_L10 (h, l, b) fu (i : Int) acc = some (acc ++ (l.drop i).map fun x => bl (Go.Lib.itoa x)) ∧ r_spec_CompositeCertificate_L11 (h, l, b) fu (i : Int) acc = some (acc ++ (l.drop i).map fun x => bl (Go.Lib.itoa x))
  | k, 0, i, acc, _, hf, _ => by omega
  | k, fu + 1, i, acc, hi, hf, ha => by
    rw [r_impl_CompositeCertificate_L10, r_spec_CompositeCertificate_L11]
    simp only []
    rw [ltI_eq]
    by_cases h1 : i < l.length
    · rw [decide_eq_true (by omega), cond_true, cond_true, getNat h1]
      simp only [Option.bind_some]
      have hs := sm_in (hin _ (List.getElem_mem h1))
      rw [itoa_eq hs, l1Int_eq hs]
      simp only [Option.bind_some, sI_eq]
      rw [roomOk (by simp; omega), Option.bind_some, Option.bind_some, wsucc (by omega), List.drop_eq_getElem_cons h1]
      obtain ⟨k', rfl⟩ : ∃ k', k = k' + 1 := ⟨k - 1, by omega⟩
      obtain ⟨j1, j2⟩ := cc_run (h := h) (b := b) hl hin k' fu (i + 1) (acc ++ [bl (Go.Lib.itoa l[i])]) (by omega) (by omega) (by simp; omega)
      rw [j1, j2]
      simp only [List.map_cons, List.append_assoc, List.cons_append, List.nil_append, and_self]
    · rw [decide_eq_false (by omega), cond_false, cond_false, List.drop_eq_nil_of_le (by omega)]
      simp
theorem cc_both (f g : F3) : ∃ t b, r_spec_CompositeCertificate f g = some (t, b) ∧ r_impl_CompositeCertificate f g = some (t, b) := by
  have hF := FUge
  obtain ⟨pb, p1, p2, p3⟩ := pair_val f g
  cases pb with
  | false => exact ⟨(⟨#[]⟩ : ByteArray), false, by simp [r_spec_CompositeCertificate, r_spec_CompositionProof, p2], by simp [r_impl_CompositeCertificate, r_impl_CompositionProof, p1]⟩
  | true =>
    obtain ⟨D, hf, hg⟩ := p3 rfl
    obtain ⟨h, p, q, e1, e2, e4, e5⟩ := cp_val0 hf hg
    cases hall : (k8 p q).all inN with
    | false =>
      have ecp : cpR h (k8 p q) = ((0, 0, 0), [], false) := by unfold cpR; rw [hall]; rfl
      rw [ecp] at e1 e2
      exact ⟨(⟨#[]⟩ : ByteArray), false, by simp [r_spec_CompositeCertificate, e2], by simp [r_impl_CompositeCertificate, e1]⟩
    | true =>
      have ecp : cpR h (k8 p q) = (h, k8 p q, true) := by unfold cpR; rw [hall]; rfl
      rw [ecp] at e1 e2
      have hh := cfc_prc hf.2.2.2.1 hf.2.2.2.2 e4
      obtain ⟨fa, fb, fc, _⟩ := class_true (a := f.1) (b := f.2.1) (c := f.2.2) hf.1
      obtain ⟨ga, gb, gc, _⟩ := class_true (a := g.1) (b := g.2.1) (c := g.2.2) hg.1
      obtain ⟨ha, hb, hc, _⟩ := class_true (a := h.1) (b := h.2.1) (c := h.2.2) hh.1
      have hin : ∀ x ∈ k8 p q, inN x = true := List.all_eq_true.1 hall
      have hlen : (k8 p q).length = 8 := rfl
      have e9 : (⟨#[99, 111, 109, 112, 111, 115, 105, 116, 101]⟩ : ByteArray) = bl [99, 111, 109, 112, 111, 115, 105, 116, 101] := rfl
      obtain ⟨a1, _⟩ := cc_run (h := h) (b := true) (l := k8 p q) (by omega) hin 8 FU 0 [bl (fB f), bl (fB g), bl (fB h)] (by omega) (by omega) (by simp)
      obtain ⟨_, a2⟩ := cc_run (h := h) (b := true) (l := k8 p q) (by omega) hin 8 FU 0 [bl [99, 111, 109, 112, 111, 115, 105, 116, 101], bl (fB f), bl (fB g), bl (fB h)] (by omega) (by omega) (by simp)
      have e0 : (((0 : Nat) : Int)) = 0 := rfl
      rw [e0, List.drop_zero] at a1 a2
      have hL : ∀ y ∈ [99, 111, 109, 112, 111, 115, 105, 116, 101] :: (fB f :: fB g :: fB h :: (k8 p q).map Go.Lib.itoa), y.length ≤ 1000 := by
        intro y hy
        rcases List.mem_cons.1 hy with rfl | hy
        · decide
        rcases List.mem_cons.1 hy with rfl | hy
        · exact Nat.le_trans (fB_len (sm_in fa) (sm_in fb) (sm_in fc)) (by omega)
        rcases List.mem_cons.1 hy with rfl | hy
        · exact Nat.le_trans (fB_len (sm_in ga) (sm_in gb) (sm_in gc)) (by omega)
        rcases List.mem_cons.1 hy with rfl | hy
        · exact Nat.le_trans (fB_len (sm_in ha) (sm_in hb) (sm_in hc)) (by omega)
        obtain ⟨x, hx, rfl⟩ := List.mem_map.1 hy
        have := itoa_len (sm_in (hin x hx))
        omega
      have t1 := prText_eq [99, 111, 109, 112, 111, 115, 105, 116, 101] (fB f :: fB g :: fB h :: (k8 p q).map Go.Lib.itoa) (by simp [k8]) hL
      have t2 := cert_eq [99, 111, 109, 112, 111, 115, 105, 116, 101] (fB f :: fB g :: fB h :: (k8 p q).map Go.Lib.itoa) (by simp) (by simp [k8]) hL
      simp only [List.map_cons, List.map_map] at t1 t2
      have em : ∀ l : List Int, l.map (fun x => bl (Go.Lib.itoa x)) = l.map (bl ∘ Go.Lib.itoa) := fun l => rfl
      rw [em] at a1 a2
      simp only [List.cons_append, List.nil_append] at a1 a2
      refine ⟨bl ([99, 111, 109, 112, 111, 115, 105, 116, 101] ++ Go.Lib.joinTail [32] (fB f :: fB g :: fB h :: (k8 p q).map Go.Lib.itoa)), true, ?_, ?_⟩
      · simp only [r_spec_CompositeCertificate, e2, Option.bind_some, Bool.not_true, cond_false, foText_eq (sm_in fa) (sm_in fb) (sm_in fc), foText_eq (sm_in ga) (sm_in gb) (sm_in gc), foText_eq (sm_in ha) (sm_in hb) (sm_in hc), e9, a2, t1]
      · simp only [r_impl_CompositeCertificate, e1, Option.bind_some, Bool.not_true, cond_false, formText_eq (sm_in fa) (sm_in fb) (sm_in fc), formText_eq (sm_in ga) (sm_in gb) (sm_in gc), formText_eq (sm_in ha) (sm_in hb) (sm_in hc), e9, a1, t2]
theorem raw_CompositeCertificate (f g : F3) : r_laws_FnExactCompositeCertificate f g = some true := by
  obtain ⟨t, b, h1, h2⟩ := cc_both f g
  have hb : (b != b) = false := by cases b <;> rfl
  have ht : (t.toList == t.toList) = true := beq_self_eq_true _
  have e : ∀ x : Int × Int × Int, r_laws_toForm x = some x := fun x => rfl
  simp only [r_laws_FnExactCompositeCertificate, e, h1, h2, Option.bind_some, ht, hb, Bool.not_true, cond_false]
end Go.Proofs.YtnifkkihamgmaaaDoor
