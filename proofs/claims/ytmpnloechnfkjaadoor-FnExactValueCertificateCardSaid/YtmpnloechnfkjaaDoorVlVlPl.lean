/-
  The certificate of a value is alike both ways.
  Conditions: none.
-/
import Derived.Test.YtmpnloechnfkjaaDoorVlVlIm
import Derived.Test.YtmpnloechnfkjaaDoorVlVlSp
import Derived.Test.YtmpnloechnfkjaaDoorVlCtTx
namespace Go.Proofs.YtmpnloechnfkjaaDoor
set_option linter.unusedVariables false
set_option linter.unusedSimpArgs false

theorem sm_of_in {n : Int} (h : inN n = true) : sm18 n := by
  rw [inN_iff] at h
  unfold sm18
  omega
theorem shown_n (n : Int) : r_spec_vaShown n = r_impl_isShown n := by
  simp only [r_spec_vaShown, r_spec_l1In, r_impl_isShown, Option.bind_some]
theorem prim_run {l : List (Int × Int)} (hl : l.length ≤ 1000000) (hb : ∀ p ∈ l, p.1.natAbs ≤ 100000000000000 ∧ p.2.natAbs ≤ 100000000000000) : ∀ (fu k : Nat) (acc : List (Int × Int)), k ≤ l.length → l.length - k < fu → acc.length ≤ k → (∀ p ∈ acc, p ∈ l) →
    ∃ r, r_spec_vaPrimitive_L4 l fu (k : Int) acc = some r ∧ r_impl_PrimitivePoints_L6 (l, true) fu (k : Int) acc = some r ∧ (∀ p ∈ r, p ∈ l)
  | 0, k, acc, h0, h1, h2, h3 => by omega
  | fu + 1, k, acc, h0, h1, h2, h3 => by
    unfold r_spec_vaPrimitive_L4 r_impl_PrimitivePoints_L6
    dsimp only
    rw [ltI_eq]
    by_cases hk : k < l.length
    · obtain ⟨c1, c2⟩ := hb (l[k]) (List.getElem_mem hk)
      rw [decide_eq_true (by omega), cond_true, cond_true, getNat hk]
      simp only [Option.bind_some, gcd_val (a := l[k].1) (b := l[k].2) (by omega) (by omega), sgcd_val (a := l[k].1) (b := l[k].2) (by omega) (by omega), sI_eq, wsucc (show k < 1000000000 by omega)]
      cases eqI (Int.gcd l[k].1 l[k].2 : Int) 1 with
      | true =>
        rw [cond_true, cond_true, roomOk (by simp; omega)]
        simp only [Option.bind_some]
        refine prim_run hl hb fu (k + 1) _ (by omega) (by omega) (by simp; omega) fun p hp => ?_
        rw [List.mem_append, List.mem_singleton] at hp
        rcases hp with hp | hp
        · exact h3 p hp
        · rw [hp]; exact List.getElem_mem hk
      | false =>
        rw [cond_false, cond_false]
        exact prim_run hl hb fu (k + 1) acc (by omega) (by omega) (by omega) h3
    · rw [decide_eq_false (by omega), cond_false, cond_false]
      exact ⟨acc, rfl, rfl, h3⟩
theorem sol_bd {A B C d n : Int} (hA1 : 1 ≤ A) (hA : A ≤ 1000000) (hC1 : 1 ≤ C) (hC : C ≤ 1000000) (hd : B * B - 4 * A * C = d) (hd2 : d ≤ -3) (hn1 : 1 ≤ n) (hn : n ≤ 10000) {p : Int × Int} (h : Sol A B C n p) : p.1.natAbs ≤ 100000000 ∧ p.2.natAbs ≤ 100000000 := by
  obtain ⟨x, y⟩ := p
  have aux : ∀ {E z w : Int}, 1 ≤ E → E ≤ 1000000 → w * w = d * z * z + 4 * E * n → z.natAbs ≤ 100000000 := by
    intro E z w h1 h2 h3
    have h4 := sqn w
    have h5 := sqn z
    have e1 : (-d) * (z * z) = -(d * z * z) := by grind
    have h6 : 1 * (z * z) ≤ (-d) * (z * z) := Int.mul_le_mul_of_nonneg_right (by omega) h5
    have b3 := abs_mul (x := 4 * E) (y := n) (A := 4000000) (B := 10000) (by omega) (by omega)
    rcases Nat.lt_or_ge 100000000 z.natAbs with h | h
    · have h7 : 100000001 * 100000001 ≤ z.natAbs * z.natAbs := Nat.mul_le_mul h h
      have h8 : z * z = ((z.natAbs * z.natAbs : Nat) : Int) := Int.natAbs_mul_self.symm
      omega
    · exact h
  exact ⟨aux hC1 hC ((sol_y hC1 hd).1 h), aux hA1 hA ((sol_x hA1 hd).1 h)⟩
theorem prim_both (f : Int × Int × Int) (n : Int) : ∃ l b, r_spec_PrimitivePoints f n = some (l, b) ∧ r_impl_PrimitivePoints f n = some (l, b) ∧ (b = true → (inN f.1 = true ∧ inN f.2.1 = true ∧ inN f.2.2 = true) ∧ (1 ≤ n ∧ n ≤ 10000) ∧ ∀ p ∈ l, p.1.natAbs ≤ 100000000 ∧ p.2.natAbs ≤ 100000000) := by
  have hF : FU = 1000000000 := rfl
  have hz : r_impl_PrimitivePoints_L6 ([], false) FU 0 [] = some [] := by
    obtain ⟨m, hm⟩ : ∃ m, FU = m + 1 := ⟨FU - 1, by omega⟩
    rw [hm]
    rfl
  obtain ⟨A, B, C⟩ := f
  obtain ⟨b, hb⟩ := shown_some (A, B, C)
  have hn0 : r_impl_isShown n = some (bif decide (1 ≤ n) then decide (n ≤ 10000) else false) := by simp only [r_impl_isShown, leI_eq]
  cases b with
  | false =>
    refine ⟨[], false, ?_, ?_, fun h => by cases h⟩
    · simp only [r_spec_PrimitivePoints, shown_val, hb, Option.bind_some]; rfl
    · simp only [r_impl_PrimitivePoints, r_impl_Representations, hb, Option.bind_some, Bool.not_false, cond_true, hz]
  | true =>
    obtain ⟨i1, i2, i3, d1, d2, a1⟩ := shown_true hb
    have hdv := disc_val i1 i2 i3
    have j1 := inN_iff.1 i1
    have j2 := inN_iff.1 i2
    have j3 := inN_iff.1 i3
    by_cases hn : 1 ≤ n ∧ n ≤ 10000
    · have hc1 : 1 ≤ C := by
        rcases Int.lt_or_le 0 C with h | h
        · exact h
        · have h1 : 4 * A * C ≤ 4 * A * 0 := Int.mul_le_mul_of_nonneg_left h (by omega)
          have h2 := sqn B
          omega
      have d3 : B * B - 4 * A * C ≤ -3 := by
        have e1 : B * B % 4 = 0 ∨ B * B % 4 = 1 := by
          rcases Int.emod_two_eq B with h | h
          · left
            obtain ⟨k, hk⟩ : ∃ k, B = 2 * k := ⟨B / 2, by omega⟩
            rw [hk, show 2 * k * (2 * k) = 4 * (k * k) by grind]
            omega
          · right
            obtain ⟨k, hk⟩ : ∃ k, B = 2 * k + 1 := ⟨B / 2, by omega⟩
            rw [hk, show (2 * k + 1) * (2 * k + 1) = 4 * (k * k + k) + 1 by grind]
            omega
        have e2 : 4 * A * C = 4 * (A * C) := by grind
        omega
      obtain ⟨l, k1, k2, k3, k4⟩ := points_val (A := A) (B := B) (C := C) (n := n) (by omega) hc1 (by omega) (by omega) (by omega) hdv (by omega) d3 hn.1 hn.2
      obtain ⟨l', m1, m2, m3, m4⟩ := at_val (A := A) (B := B) (C := C) (n := n) (by omega) (by omega) (by omega) (by omega) hdv (by omega) d3 hn.1 hn.2
      have hll : l' = l := srt_ext m2 k2 fun p => by rw [m4, k4]
      subst hll
      have hbd : ∀ p ∈ l', p.1.natAbs ≤ 100000000 ∧ p.2.natAbs ≤ 100000000 := fun p hp => sol_bd (by omega) (by omega) hc1 (by omega) rfl d3 hn.1 hn.2 ((m4 p).1 hp)
      obtain ⟨r, q1, q2, q3⟩ := prim_run (l := l') k3 (fun p hp => by have := hbd p hp; omega) FU 0 [] (by omega) (by omega) (by simp) (by simp)
      have q1 : r_spec_vaPrimitive_L4 l' FU 0 [] = some r := q1
      have q2 : r_impl_PrimitivePoints_L6 (l', true) FU 0 [] = some r := q2
      refine ⟨r, true, ?_, ?_, fun _ => ⟨⟨i1, i2, i3⟩, hn, fun p hp => hbd p (q3 p hp)⟩⟩
      · simp only [r_spec_PrimitivePoints, shown_val, hb, shown_n, hn0, decide_eq_true hn.1, decide_eq_true hn.2, cond_true, Option.bind_some, Bool.not_true, cond_false, m1, r_spec_vaPrimitive, q1]
      · simp only [r_impl_PrimitivePoints, r_impl_Representations, hb, hn0, decide_eq_true hn.1, decide_eq_true hn.2, cond_true, Option.bind_some, Bool.not_true, cond_false, k1, q2]
    · have hc : (bif decide (1 ≤ n) then decide (n ≤ 10000) else false) = false := by
        by_cases a : 1 ≤ n
        · rw [decide_eq_true a, cond_true, decide_eq_false (fun c => hn ⟨a, c⟩)]
        · rw [decide_eq_false a, cond_false]
      refine ⟨[], false, ?_, ?_, fun h => by cases h⟩
      · simp only [r_spec_PrimitivePoints, shown_val, hb, shown_n, hn0, hc, Option.bind_some]; rfl
      · simp only [r_impl_PrimitivePoints, r_impl_Representations, hb, hn0, hc, Option.bind_some, Bool.not_true, Bool.not_false, cond_false, cond_true, hz]
theorem vl_both (f : Int × Int × Int) (n : Int) : ∃ t b, r_spec_ValueCertificate f n = some (t, b) ∧ r_impl_ValueCertificate f n = some (t, b) := by
  obtain ⟨l, b, h1, h2, h3⟩ := prim_both f n
  simp only [r_spec_ValueCertificate, r_impl_ValueCertificate, h1, h2, Option.bind_some]
  cases b with
  | false => exact ⟨_, _, rfl, rfl⟩
  | true =>
    obtain ⟨⟨a1, a2, a3⟩, ⟨n1, n2⟩, hp⟩ := h3 rfl
    cases l with
    | nil => exact ⟨_, _, rfl, rfl⟩
    | cons p l =>
      obtain ⟨p1, p2⟩ := hp p List.mem_cons_self
      have hn : sm18 n := by unfold sm18; omega
      have hx : sm18 p.1 := by unfold sm18; omega
      have hy : sm18 p.2 := by unfold sm18; omega
      have e0 : eqI (((p :: l).length : Nat) : Int) 0 = false := eqNe (by simp; omega)
      have eg : getI (p :: l) 0 = some p := rfl
      have e1 : (⟨#[118, 97, 108, 117, 101]⟩ : ByteArray) = bl [118, 97, 108, 117, 101] := rfl
      have hL : ∀ y ∈ [118, 97, 108, 117, 101] :: [fB f, Go.Lib.itoa n, Go.Lib.itoa p.1, Go.Lib.itoa p.2], y.length ≤ 1000 := by
        have b1 := fB_len (sm_of_in a1) (sm_of_in a2) (sm_of_in a3)
        have b2 := itoa_len hn
        have b3 := itoa_len hx
        have b4 := itoa_len hy
        intro y hy
        simp only [List.mem_cons, List.not_mem_nil, or_false] at hy
        rcases hy with rfl | rfl | rfl | rfl | rfl
        · decide
        · omega
        · omega
        · omega
        · omega
      have t1 := prText_eq [118, 97, 108, 117, 101] [fB f, Go.Lib.itoa n, Go.Lib.itoa p.1, Go.Lib.itoa p.2] (by simp) hL
      have t2 := cert_eq [118, 97, 108, 117, 101] [fB f, Go.Lib.itoa n, Go.Lib.itoa p.1, Go.Lib.itoa p.2] (by simp) (by simp) hL
      simp only [List.map_cons, List.map_nil] at t1 t2
      simp only [e0, eg, Bool.not_true, cond_false, foText_eq (sm_of_in a1) (sm_of_in a2) (sm_of_in a3), formText_eq (sm_of_in a1) (sm_of_in a2) (sm_of_in a3), l1Int_eq hn, l1Int_eq hx, l1Int_eq hy, itoa_eq hn, itoa_eq hx, itoa_eq hy, Option.bind_some, e1, t1, t2]
      exact ⟨_, _, rfl, rfl⟩
theorem raw_ValueCertificate (f : Int × Int × Int) (n : Int) : r_laws_FnExactValueCertificate f n = some true := by
  obtain ⟨t, b, h1, h2⟩ := vl_both f n
  have hb : (b != b) = false := by cases b <;> rfl
  have ht : (t.toList == t.toList) = true := beq_self_eq_true _
  have e : ∀ x : Int × Int × Int, r_laws_toForm x = some x := fun x => rfl
  simp only [r_laws_FnExactValueCertificate, e, h1, h2, Option.bind_some, ht, hb, Bool.not_true, cond_false]
end Go.Proofs.YtmpnloechnfkjaaDoor
