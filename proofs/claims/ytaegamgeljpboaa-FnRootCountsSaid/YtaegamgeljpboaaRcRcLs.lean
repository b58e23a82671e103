/-
  The primitive forms with a first coefficient: the program's list and the reference's are one list.
  Conditions: none.
-/
import Derived.Test.YtaegamgeljpboaaRcRcDg
namespace Go.Proofs.Ytaegamgeljpboaa
set_option linter.unusedVariables false
set_option linter.unusedSimpArgs false

/-- Is b a root? -/
def rT (d : Int) (N : Nat) (b : Int) : Bool := eqI (Int.tmod (b * b - d) (4 * (N : Int))) 0
def rts (d : Int) (N : Nat) (k m : Nat) : List Int := ((List.range' k m).map (fun x : Nat => (x : Int))).filter (rT d N)
theorem roots_eq (d n : Int) : ∀ (fu : Nat) (b : Int) (acc : List Int), r_spec_roDisc_L5 d n fu b acc = r_impl_rootsOfDiscriminant_L5 d n fu b acc
  | 0, b, acc => rfl
  | fu + 1, b, acc => by
    rw [r_spec_roDisc_L5, r_impl_rootsOfDiscriminant_L5]
    simp only [sI_eq, roots_eq d n fu]
theorem forms_eq (d n : Int) (y : List Int) : ∀ (fu : Nat) (t : Int) (acc : List (Int × Int × Int)), r_spec_roForms_L6 d n y fu t acc = r_impl_formsWithLeading_L6 d n y fu t acc
  | 0, b, acc => rfl
  | fu + 1, b, acc => by
    rw [r_spec_roForms_L6, r_impl_formsWithLeading_L6]
    simp only [sI_eq, forms_eq d n y fu]
theorem roots_run {d : Int} {N : Nat} (hd : d.natAbs ≤ 1000000) (hN1 : 1 ≤ N) (hN : N ≤ 2500) : ∀ (m fu k : Nat) (acc : List Int), k + m = 2 * N → m < fu → acc.length ≤ k → r_impl_rootsOfDiscriminant_L5 d (N : Int) fu (k : Int) acc = some (acc ++ rts d N k m)
  | m, 0, k, acc, h1, h2, h3 => by omega
  | 0, fu + 1, k, acc, h1, h2, h3 => by
    rw [r_impl_rootsOfDiscriminant_L5, ltI_eq, w64_in (by omega), decide_eq_false (by omega), cond_false]
    simp [rts]
  | m + 1, fu + 1, k, acc, h1, h2, h3 => by
    have hkk := abs_mul (x := (k : Int)) (y := k) (A := 5000) (B := 5000) (by omega) (by omega)
    rw [r_impl_rootsOfDiscriminant_L5, ltI_eq, w64_in (n := 2 * (N : Int)) (by omega), decide_eq_true (by omega), cond_true]
    rw [w64_in (n := 4 * (N : Int)) (by omega), nzOk (by omega), w64_abs (n := (k : Int) * k) (by omega), w64_abs (n := (k : Int) * k - d) (by omega)]
    have e : rts d N k (m + 1) = if rT d N k then (k : Int) :: rts d N (k + 1) m else rts d N (k + 1) m := by
      unfold rts
      rw [List.range'_succ, List.map_cons, List.filter_cons]
    have et : eqI (Int.tmod ((k : Int) * k - d) (4 * (N : Int))) 0 = rT d N k := rfl
    rw [e, et]
    simp only [Option.bind_some, sI_eq, wsucc (show k < 1000000000 by omega)]
    cases rT d N k with
    | true =>
      rw [cond_true, if_pos rfl, roomOk (by simp; omega), Option.bind_some, roots_run hd hN1 hN m fu (k + 1) _ (by omega) (by omega) (by simp; omega)]
      simp
    | false =>
      rw [cond_false, if_neg (by simp), roots_run hd hN1 hN m fu (k + 1) _ (by omega) (by omega) (by omega)]
def gF (d : Int) (N : Nat) (b : Int) : Int × Int × Int := ((N : Int), b, Int.tdiv (b * b - d) (4 * (N : Int)))
theorem tdiv_bd {a b : Int} {M : Nat} (h : a.natAbs ≤ M) : (Int.tdiv a b).natAbs ≤ M := by
  rw [Int.natAbs_tdiv]
  exact Nat.le_trans (Nat.div_le_self _ _) h
theorem forms_run {d : Int} {N : Nat} (hd : d.natAbs ≤ 1000000) (hN1 : 1 ≤ N) (hN : N ≤ 2500) (y : List Int) (hy : ∀ b ∈ y, b.natAbs ≤ 5000) (hl : y.length ≤ 5000) : ∀ (fu k : Nat) (acc : List (Int × Int × Int)), k ≤ y.length → y.length - k < fu → acc.length ≤ k → r_impl_formsWithLeading_L6 d (N : Int) y fu (k : Int) acc = some (acc ++ (y.drop k).map (gF d N))
  | 0, k, acc, h1, h2, h3 => by omega
  | fu + 1, k, acc, h1, h2, h3 => by
    rw [r_impl_formsWithLeading_L6, ltI_eq]
    by_cases hk : k < y.length
    · have hb := hy (y[k]) (List.getElem_mem hk)
      have hkk := abs_mul (x := y[k]) (y := y[k]) (A := 5000) (B := 5000) hb hb
      have ht := tdiv_bd (a := y[k] * y[k] - d) (b := 4 * (N : Int)) (M := 26000000) (by omega)
      rw [decide_eq_true (by omega), cond_true, getNat hk]
      simp only [Option.bind_some, sI_eq, wsucc (show k < 1000000000 by omega)]
      rw [w64_in (n := 4 * (N : Int)) (by omega), nzOk (by omega), w64_abs (n := y[k] * y[k]) (by omega), w64_abs (n := y[k] * y[k] - d) (by omega), w64_abs (n := Int.tdiv _ _) (by omega), roomOk (by simp; omega)]
      simp only [Option.bind_some]
      rw [forms_run hd hN1 hN y hy hl fu (k + 1) _ (by omega) (by omega) (by simp; omega), List.drop_eq_getElem_cons hk, List.map_cons, List.append_assoc]
      rfl
    · rw [decide_eq_false (by omega), cond_false, List.drop_eq_nil_of_le (by omega)]
      simp
/-- The form is primitive. -/
def prF (f : Int × Int × Int) : Bool := eqI (Int.gcd f.1 (Int.gcd f.2.1 f.2.2) : Int) 1
theorem prim_l {l : List (Int × Int × Int)} (hl : l.length ≤ 1000000) (hb : ∀ f ∈ l, inN f.1 = true ∧ inN f.2.1 = true ∧ inN f.2.2 = true) : ∀ (fu k : Nat) (acc : List (Int × Int × Int)), k ≤ l.length → l.length - k < fu → acc.length ≤ k →
    r_spec_PrimitiveFormsWithLeading_L11 l fu (k : Int) acc = some (acc ++ (l.drop k).filter prF) ∧ r_impl_primitiveOf_L4 l fu (k : Int) acc = some (acc ++ (l.drop k).filter prF)
  | 0, k, acc, h0, h1, h2 => by omega
  | fu + 1, k, acc, h0, h1, h2 => by
    rw [r_spec_PrimitiveFormsWithLeading_L11, r_impl_primitiveOf_L4, ltI_eq]
    by_cases hk : k < l.length
    · obtain ⟨c1, c2, c3⟩ := hb (l[k]) (List.getElem_mem hk)
      have e1 : r_spec_foContent l[k] = some (Int.gcd l[k].1 (Int.gcd l[k].2.1 l[k].2.2) : Int) := scontent_val c1 c2 c3
      have e2 : r_impl_Form_content l[k] = some (Int.gcd l[k].1 (Int.gcd l[k].2.1 l[k].2.2) : Int) := content_val c1 c2 c3
      have e3 : eqI (Int.gcd l[k].1 (Int.gcd l[k].2.1 l[k].2.2) : Int) 1 = prF l[k] := rfl
      rw [decide_eq_true (by omega), cond_true, cond_true, getNat hk, List.drop_eq_getElem_cons hk, List.filter_cons]
      simp only [Option.bind_some, e1, e2, e3, sI_eq, wsucc (show k < 1000000000 by omega)]
      cases prF l[k] with
      | true =>
        obtain ⟨i1, i2⟩ := prim_l hl hb fu (k + 1) (acc ++ [l[k]]) (by omega) (by omega) (by simp; omega)
        rw [cond_true, cond_true, roomOk (by simp; omega), if_pos rfl]
        simp only [Option.bind_some]
        rw [i1, i2]
        simp
      | false =>
        obtain ⟨i1, i2⟩ := prim_l hl hb fu (k + 1) acc (by omega) (by omega) (by omega)
        rw [cond_false, cond_false, if_neg (by simp)]
        exact ⟨i1, i2⟩
    · rw [decide_eq_false (by omega), cond_false, cond_false, List.drop_eq_nil_of_le (by omega)]
      simp
def fl (d : Int) (N : Nat) : List (Int × Int × Int) := ((rts d N 0 (2 * N)).map (gF d N)).filter prF
theorem rts_le {d : Int} {N k m : Nat} {b : Int} (h : b ∈ rts d N k m) : (k : Int) ≤ b ∧ b < k + m := by
  unfold rts at h
  have h := (List.mem_filter.1 h).1
  obtain ⟨x, hx, rfl⟩ := List.mem_map.1 h
  have := List.mem_range'_1.1 hx
  omega
theorem rts_len (d : Int) (N k m : Nat) : (rts d N k m).length ≤ m := by
  unfold rts
  refine Nat.le_trans (List.length_filter_le _ _) ?_
  rw [List.length_map, List.length_range']
  exact Nat.le_refl _
theorem fl_len (d : Int) (N : Nat) : (fl d N).length ≤ 2 * N := by
  unfold fl
  refine Nat.le_trans (List.length_filter_le _ _) ?_
  rw [List.length_map]
  exact rts_len _ _ _ _
theorem gF_in {d : Int} {N : Nat} (hd : d.natAbs ≤ 1000000) (hN1 : 1 ≤ N) (hN : N ≤ 200) {b : Int} (hb1 : 0 ≤ b) (hb : b < 2 * N) : inN (gF d N b).1 = true ∧ inN (gF d N b).2.1 = true ∧ inN (gF d N b).2.2 = true := by
  have hbb := abs_mul (x := b) (y := b) (A := 400) (B := 400) (by omega) (by omega)
  have hn : (b * b - d).natAbs ≤ 1160000 := by omega
  have h4 : (Int.tdiv (b * b - d) (4 * (N : Int))).natAbs ≤ 290000 := by
    rw [Int.natAbs_tdiv]
    have : (4 * (N : Int)).natAbs = 4 * N := by omega
    rw [this]
    show (b * b - d).natAbs / (4 * N) ≤ 290000
    have h5 : (b * b - d).natAbs / (4 * N) ≤ (b * b - d).natAbs / 4 := Nat.div_le_div_left (by omega) (by omega)
    omega
  simp only [inN_iff, gF]
  omega
theorem fl_both {d : Int} {N : Nat} (hN1 : 1 ≤ N) (hN : N ≤ 200) (hd : inN d = true) : r_impl_PrimitiveFormsWithLeading d (N : Int) = some (fl d N, true) ∧ r_spec_PrimitiveFormsWithLeading d (N : Int) = some (fl d N, true) := by
  have hF := FUge
  have hd' := inN_iff.1 hd
  have k1 := roots_run (d := d) (N := N) (by omega) hN1 (by omega) (2 * N) FU 0 [] (by omega) (by omega) (by simp)
  rw [List.nil_append] at k1
  have k1 : r_impl_rootsOfDiscriminant_L5 d (N : Int) FU 0 [] = some (rts d N 0 (2 * N)) := k1
  have hlen := rts_len d N 0 (2 * N)
  have k2 := forms_run (d := d) (N := N) (by omega) hN1 (by omega) (rts d N 0 (2 * N)) (fun b hb => by have := rts_le hb; omega) (by omega) FU 0 [] (by omega) (by omega) (by simp)
  rw [List.nil_append, List.drop_zero] at k2
  have k2 : r_impl_formsWithLeading_L6 d (N : Int) (rts d N 0 (2 * N)) FU 0 [] = some ((rts d N 0 (2 * N)).map (gF d N)) := k2
  obtain ⟨k3, k4⟩ := prim_l (l := (rts d N 0 (2 * N)).map (gF d N)) (by rw [List.length_map]; omega) (fun f hf => by
    obtain ⟨b, hb, rfl⟩ := List.mem_map.1 hf
    have := rts_le hb
    exact gF_in (by omega) hN1 hN (by omega) (by omega)) FU 0 [] (by omega) (by rw [List.length_map]; omega) (by simp)
  rw [List.nil_append, List.drop_zero] at k3 k4
  have k3 : r_spec_PrimitiveFormsWithLeading_L11 ((rts d N 0 (2 * N)).map (gF d N)) FU 0 [] = some (fl d N) := k3
  have k4 : r_impl_primitiveOf_L4 ((rts d N 0 (2 * N)).map (gF d N)) FU 0 [] = some (fl d N) := k4
  have hnum : r_impl_areNumbers [d] = some true := by rw [num_val [d] (by simp)]; simp [hd]
  constructor
  · simp only [r_impl_PrimitiveFormsWithLeading, r_impl_FormsWithLeading, hnum, Option.bind_some, ltI_eq, Bool.not_true, cond_false, r_impl_formsWithLeading, r_impl_rootsOfDiscriminant, k1, k2, r_impl_primitiveOf]
    rw [decide_eq_false (by omega), decide_eq_false (by omega)]
    simp only [cond_false, Option.bind_some, k4]
  · simp only [r_spec_PrimitiveFormsWithLeading, good_val, hd, r_spec_l1In, leI_eq, Option.bind_some, Bool.not_true, cond_false, r_spec_roForms, r_spec_roDisc, roots_eq, k1, forms_eq, k2]
    rw [decide_eq_true (by omega), decide_eq_true (by omega)]
    simp only [cond_true, cond_false, Option.bind_some, Bool.not_true, k3]
theorem fl_none {d n : Int} (hd : inN d = false) : r_impl_PrimitiveFormsWithLeading d n = some ([], false) ∧ r_spec_PrimitiveFormsWithLeading d n = some ([], false) := by
  have hnum : r_impl_areNumbers [d] = some false := by rw [num_val [d] (by simp)]; simp [hd]
  have hz : r_impl_primitiveOf [] = some [] := by
    have hF : FU = 999999999 + 1 := rfl
    rw [r_impl_primitiveOf, hF, r_impl_primitiveOf_L4]
    rfl
  constructor
  · simp only [r_impl_PrimitiveFormsWithLeading, r_impl_FormsWithLeading, hnum, Option.bind_some, Bool.not_false, cond_true, hz]
  · simp only [r_spec_PrimitiveFormsWithLeading, good_val, hd, Option.bind_some, Bool.not_false, cond_true]
theorem qf_run (l : List (Int × Int × Int)) (hl : l.length ≤ 1000000) : ∀ (fu k : Nat), k ≤ l.length → l.length - k < fu → r_laws_qForms_L5 l l fu (k : Int) = some (.inl ())
  | 0, k, h1, h2 => by omega
  | fu + 1, k, h1, h2 => by
    rw [r_laws_qForms_L5, ltI_eq]
    by_cases hk : k < l.length
    · rw [decide_eq_true (by omega), cond_true, getNat hk]
      simp only [Option.bind_some, beq_self_eq_true, Bool.and_self, Bool.not_true, cond_false, sI_eq, wsucc (show k < 1000000000 by omega)]
      exact qf_run l hl fu (k + 1) (by omega) (by omega)
    · rw [decide_eq_false (by omega), cond_false]
theorem qf_self (l : List (Int × Int × Int)) (hl : l.length ≤ 100000) : r_laws_qForms l l = some true := by
  have hF := FUge
  have h : r_laws_qForms_L5 l l FU 0 = some (.inl ()) := qf_run l (by omega) FU 0 (by omega) (by omega)
  simp only [r_laws_qForms, eqSelf, Bool.not_true, cond_false, h, Option.bind_some]
end Go.Proofs.Ytaegamgeljpboaa
