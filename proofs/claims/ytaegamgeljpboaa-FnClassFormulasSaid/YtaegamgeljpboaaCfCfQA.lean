/-
  From the quick class numbers to those of the program.
  Conditions: none.
-/
import Derived.Test.YtaegamgeljpboaaCfCfS
namespace Go.Proofs.Ytaegamgeljpboaa
set_option linter.unusedVariables false
set_option linter.unusedSimpArgs false

theorem cfA_of {D : Nat} (hD : 3 ≤ D) (hD2 : D ≤ 2000) (h : cfQ D = true) : cfA (-(D : Int)) = true := by
  have hFe : FU = 1000000000 := rfl
  unfold cfQ at h
  cases ha : r_impl_isFundamentalNegative (-(D : Int)) with
  | none => rw [ha] at h; cases h
  | some a =>
    cases hb : r_spec_huFundamental (-(D : Int)) with
    | none => rw [ha, hb] at h; cases h
    | some b =>
      rw [ha, hb] at h
      cases a with
      | false =>
        cases b with
        | true => cases h
        | false =>
          have e1 : r_impl_ClassNumberBySum (-(D : Int)) = some (0, false) := by simp only [r_impl_ClassNumberBySum, ha, Option.bind_some, Bool.not_false, cond_true]
          have e2 : r_spec_ClassNumberBySum (-(D : Int)) = some (0, false) := by simp only [r_spec_ClassNumberBySum, hb, Option.bind_some, Bool.not_false, cond_true]
          unfold cfA
          rw [hb, e1, e2]
          rfl
      | true =>
        cases b with
        | false => cases h
        | true =>
          cases hq : bq 3000 D 1 0 0 0 0 with
          | none =>
            rw [hq] at h
            cases h
          | some q =>
            rw [hq] at h
            cases hw : r_impl_automorphCount (-(D : Int)) with
            | none => rw [hw] at h; cases h
            | some w =>
              cases hu : r_spec_reUnits (-(D : Int)) with
              | none => rw [hw, hu] at h; cases h
              | some u =>
                cases hc : r_impl_ClassNumber (-(D : Int)) with
                | none => rw [hw, hu, hc] at h; cases h
                | some c =>
                  rw [hw, hu, hc] at h
                  have h9 : (bif eqI w u then (bif c.2 then (bif eqI c.1 (w64 (Int.tdiv (w64 (w * ((q.1 : Int) - q.2.1))) (w64 (2 * -(D : Int))))) then
                    (bif leI (-4) (-(D : Int)) then true else (bif Nat.beq (kN 100 D 2 false false) 3 then false else (bif eqI (w64 (2 - vl (kN 100 D 2 false false))) 0 then false else
                      eqI (w64 (Int.tdiv ((q.2.2.1 : Int) - q.2.2.2) (w64 (2 - vl (kN 100 D 2 false false))))) c.1))) else false) else false) else false) = true := h
                  clear h
                  cases hwu : eqI w u with
                  | false => rw [hwu] at h9; cases h9
                  | true =>
                    cases hc2 : c.2 with
                    | false => rw [hwu, hc2] at h9; cases h9
                    | true =>
                      cases hc1 : eqI c.1 (w64 (Int.tdiv (w64 (w * ((q.1 : Int) - q.2.1))) (w64 (2 * -(D : Int))))) with
                      | false => rw [hwu, hc2, hc1] at h9; cases h9
                      | true =>
                        rw [hwu, hc2, hc1, cond_true, cond_true, cond_true] at h9
                        have ewu : w = u := by rw [eqI_eq] at hwu; exact eq_of_beq hwu
                        have ec1 : c.1 = w64 (Int.tdiv (w64 (w * ((q.1 : Int) - q.2.1))) (w64 (2 * -(D : Int)))) := by rw [eqI_eq] at hc1; exact eq_of_beq hc1
                        have hs := bq_sum hD hD2 3000 1 0 0 0 0 q hq (by omega) (by omega) (by omega) (by omega) FU (by omega)
                        have hs1 : r_impl_ClassNumberBySum_L6 (-(D : Int)) FU 0 1 = some ((q.1 : Int) - q.2.1) := hs.1
                        have hs2 : r_spec_ClassNumberBySum_L6 (-(D : Int)) FU 0 1 = some ((q.1 : Int) - q.2.1) := hs.2
                        have hh : r_impl_ClassNumberByHalf_L7 (-(D : Int)) FU 0 1 = some ((q.2.2.1 : Int) - q.2.2.2) := bq_half hD hD2 3000 1 0 0 0 0 q hq (by omega) (by omega) (by omega) (by omega) FU (by omega)
                        have hz : nz (w64 (2 * -(D : Int))) = some () := nzP (by rw [w64_in (by omega)]; omega)
                        have e1 : r_impl_ClassNumberBySum (-(D : Int)) = some (c.1, true) := by
                          simp only [r_impl_ClassNumberBySum, ha, Option.bind_some, Bool.not_true, cond_false, hs1, hw, hz, sI_eq, ← ec1]
                        have e2 : r_spec_ClassNumberBySum (-(D : Int)) = some (c.1, true) := by
                          simp only [r_spec_ClassNumberBySum, hb, Option.bind_some, Bool.not_true, cond_false, hs2, hu, hz, sI_eq, ← ewu, ← ec1]
                        have e4 : ltI (-(D : Int)) (-4) = !leI (-4) (-(D : Int)) := by
                          rw [ltI_eq, leI_eq]
                          by_cases hx : -4 ≤ -(D : Int)
                          · rw [decide_eq_true hx, decide_eq_false (by omega)]; rfl
                          · rw [decide_eq_false hx, decide_eq_true (by omega)]; rfl
                        have eself : eqI c.1 c.1 = true := by rw [eqI_eq]; exact beq_self_eq_true _
                        cases h4 : leI (-4) (-(D : Int)) with
                        | true =>
                          have e3 : r_impl_ClassNumberByHalf (-(D : Int)) = some (0, false) := by
                            simp only [r_impl_ClassNumberByHalf, ha, Option.bind_some, Bool.not_true, cond_false, h4, cond_true]
                          unfold cfA
                          rw [hb, e1, e2, hc, e3]
                          simp only [isSm, cond_true, bne_self_eq_false, cond_false, eself, Bool.not_true, Bool.not_false, hc2, e4, h4]
                        | false =>
                          rw [h4, cond_false] at h9
                          cases h5 : Nat.beq (kN 100 D 2 false false) 3 with
                          | true => rw [h5] at h9; cases h9
                          | false =>
                            cases h6 : eqI (w64 (2 - vl (kN 100 D 2 false false))) 0 with
                            | true => rw [h5, h6] at h9; cases h9
                            | false =>
                              rw [h5, h6, cond_false, cond_false, eqI_eq] at h9
                              have h9 := eq_of_beq h9
                              have hk3 : kN 100 D 2 false false ≠ 3 := by
                                intro e
                                rw [e] at h5
                                cases h5
                              obtain ⟨k1, _⟩ := kron_both (k := 2) hD hD2 (by omega) (by omega) rfl hk3
                              have k1 : r_impl_kronecker (-(D : Int)) 2 = some (vl (kN 100 D 2 false false)) := k1
                              have hz2 : nz (w64 (2 - vl (kN 100 D 2 false false))) = some () := nzP (by
                                intro e
                                rw [e] at h6
                                cases h6)
                              have e3 : r_impl_ClassNumberByHalf (-(D : Int)) = some (c.1, true) := by
                                simp only [r_impl_ClassNumberByHalf, ha, Option.bind_some, Bool.not_true, cond_false, h4, hh, k1, hz2, sI_eq, h9]
                              unfold cfA
                              rw [hb, e1, e2, hc, e3]
                              simp only [isSm, cond_true, bne_self_eq_false, cond_false, eself, Bool.not_true, hc2, e4, h4, Bool.not_false]
end Go.Proofs.Ytaegamgeljpboaa
