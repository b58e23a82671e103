/-
  The sums of three squares up to 500 against the Hurwitz table.
  Conditions: none.
-/
import Derived.Test.YtdffhgibkeifmaaHsHsT0
namespace Go.Proofs.Ytdffhgibkeifmaa
set_option linter.unusedVariables false
set_option linter.unusedSimpArgs false
set_option maxRecDepth 100000

def anyI (v : Int) : List Int → Bool
  | [] => false
  | a :: as => bif eqI v a then true else anyI v as
def sqB (v : Int) : Bool := anyI v [0, 1, 4, 9, 16, 25, 36, 49, 64, 81, 100, 121, 144, 169, 196, 225, 256, 289, 324, 361, 400, 441, 484]
def aOk (v : Int) : Bool := match r_spec_nuSquare v with
  | some b => bif b then sqB v else !sqB v
  | none => false
theorem aOk_eq {v : Int} (h : aOk v = true) : r_spec_nuSquare v = some (sqB v) := by
  unfold aOk at h
  cases e : r_spec_nuSquare v with
  | none => rw [e] at h; cases h
  | some b =>
    rw [e] at h
    simp only at h
    cases b with
    | true => rw [cond_true] at h; rw [h]
    | false => rw [cond_false] at h; cases q : sqB v with
      | true => rw [q] at h; cases h
      | false => rfl
def two' (v : Int) : Nat → Int → Int → Option Int
  | 0, _, _ => none
  | n + 1, x2, count3 =>
    bif (leI (w64 (x2 * x2)) v) then
      (
        (some (sqB (w64 (v - (w64 (x2 * x2)))))).bind fun y7 =>
        bif (!y7) then
          (
            sI (w64 (x2 + 1)) fun x9 =>
            two' v n x9 count3
          )
        else
          (
            (
              bif (eqI x2 0) then
                (
                  sI (w64 (Int.tdiv 4 2)) fun times12 =>
                  some times12
                )
              else
                (
                  some 4
                )
            ).bind fun j10 =>
            bif (eqI (w64 (x2 * x2)) v) then
              (
                sI (w64 (Int.tdiv j10 2)) fun times14 =>
                sI (w64 (count3 + times14)) fun count15 =>
                sI (w64 (x2 + 1)) fun x16 =>
                two' v n x16 count15
              )
            else
              (
                sI (w64 (count3 + j10)) fun count17 =>
                sI (w64 (x2 + 1)) fun x18 =>
                two' v n x18 count17
              )
          )
      )
    else
      (
        some count3
      )
def three' (v : Int) : Nat → Int → Int → Option Int
  | 0, _, _ => none
  | n + 1, count3, x4 =>
    bif (leI (w64 (x4 * x4)) v) then
      (
        (getI sq2 (w64 (v - (w64 (x4 * x4))))).bind fun y8 =>
        sI (w64 (count3 + (w64 (2 * y8)))) fun count9 =>
        sI (w64 (x4 + 1)) fun x10 =>
        three' v n count9 x10
      )
    else
      (
        some count3
      )
def bOk (v : Int) : Bool := match getI sq2 v with
  | some x => isO (two' v FU 0 0) x
  | none => false
def cOk (m : Int) : Bool := match getI sq3 m, hTab (4 * m), hTab m, getI sq2 m with
  | some x, some a, some b, some c => (match r_spec_sqGood m with
    | some true => bif isO (three' m FU c 1) x then eqI x (w64 (a - w64 (2 * b))) else false
    | _ => false)
  | _, _, _, _ => false
def allI (P : Int → Bool) : Nat → Int → Bool
  | 0, _ => true
  | n + 1, m => bif P m then sI (m + 1) (allI P n) else false
theorem allI_at {P : Int → Bool} : ∀ (n : Nat) (m0 : Int), allI P n m0 = true → ∀ m, m0 ≤ m → m < m0 + n → P m = true
  | 0, m0, _, m, h1, h2 => by simp at h2; omega
  | n + 1, m0, h, m, h1, h2 => by
    unfold allI at h
    cases h3 : P m0 with
    | false => rw [h3] at h; cases h
    | true =>
      rw [h3, cond_true, sI_eq] at h
      by_cases h4 : m = m0
      · subst h4; exact h3
      · exact allI_at n (m0 + 1) h m (by omega) (by push_cast at h2; omega)
theorem sq_small {x v : Int} (h0 : 0 ≤ x) (h : x * x ≤ v) (hv : v ≤ 500) : x ≤ 22 := by
  by_cases a : x ≤ 22
  · exact a
  · have : 23 * 23 ≤ x * x := Int.mul_le_mul (by omega) (by omega) (by omega) (by omega)
    omega
theorem sq_w {x : Int} (h0 : 0 ≤ x) (h1 : x ≤ 500) : w64 (x * x) = x * x := by
  have a : x * x ≤ 500 * 500 := Int.mul_le_mul h1 h1 h0 (by omega)
  have b : 0 ≤ x * x := Int.mul_nonneg h0 h0
  exact w64_in (by omega)
theorem aA_0 : allI aOk 50 0 = true := by decide +kernel
theorem aA_1 : allI aOk 50 50 = true := by decide +kernel
theorem aA_2 : allI aOk 50 100 = true := by decide +kernel
theorem aA_3 : allI aOk 50 150 = true := by decide +kernel
theorem aA_4 : allI aOk 50 200 = true := by decide +kernel
theorem aA_5 : allI aOk 50 250 = true := by decide +kernel
theorem aA_6 : allI aOk 50 300 = true := by decide +kernel
theorem aA_7 : allI aOk 50 350 = true := by decide +kernel
theorem aA_8 : allI aOk 50 400 = true := by decide +kernel
theorem aA_9 : allI aOk 50 450 = true := by decide +kernel
theorem aA_10 : allI aOk 1 500 = true := by decide +kernel
theorem aA_all (v : Int) (h1 : 0 ≤ v) (h2 : v ≤ 500) : aOk v = true := by
  by_cases a0 : v < 50
  · exact allI_at _ _ aA_0 v (by omega) (by omega)
  by_cases a1 : v < 100
  · exact allI_at _ _ aA_1 v (by omega) (by omega)
  by_cases a2 : v < 150
  · exact allI_at _ _ aA_2 v (by omega) (by omega)
  by_cases a3 : v < 200
  · exact allI_at _ _ aA_3 v (by omega) (by omega)
  by_cases a4 : v < 250
  · exact allI_at _ _ aA_4 v (by omega) (by omega)
  by_cases a5 : v < 300
  · exact allI_at _ _ aA_5 v (by omega) (by omega)
  by_cases a6 : v < 350
  · exact allI_at _ _ aA_6 v (by omega) (by omega)
  by_cases a7 : v < 400
  · exact allI_at _ _ aA_7 v (by omega) (by omega)
  by_cases a8 : v < 450
  · exact allI_at _ _ aA_8 v (by omega) (by omega)
  by_cases a9 : v < 500
  · exact allI_at _ _ aA_9 v (by omega) (by omega)
  exact allI_at _ _ aA_10 v (by omega) (by omega)
theorem bA_0 : allI bOk 50 0 = true := by decide +kernel
theorem bA_1 : allI bOk 50 50 = true := by decide +kernel
theorem bA_2 : allI bOk 50 100 = true := by decide +kernel
theorem bA_3 : allI bOk 50 150 = true := by decide +kernel
theorem bA_4 : allI bOk 50 200 = true := by decide +kernel
theorem bA_5 : allI bOk 50 250 = true := by decide +kernel
theorem bA_6 : allI bOk 50 300 = true := by decide +kernel
theorem bA_7 : allI bOk 50 350 = true := by decide +kernel
theorem bA_8 : allI bOk 50 400 = true := by decide +kernel
theorem bA_9 : allI bOk 50 450 = true := by decide +kernel
theorem bA_10 : allI bOk 1 500 = true := by decide +kernel
theorem bA_all (v : Int) (h1 : 0 ≤ v) (h2 : v ≤ 500) : bOk v = true := by
  by_cases a0 : v < 50
  · exact allI_at _ _ bA_0 v (by omega) (by omega)
  by_cases a1 : v < 100
  · exact allI_at _ _ bA_1 v (by omega) (by omega)
  by_cases a2 : v < 150
  · exact allI_at _ _ bA_2 v (by omega) (by omega)
  by_cases a3 : v < 200
  · exact allI_at _ _ bA_3 v (by omega) (by omega)
  by_cases a4 : v < 250
  · exact allI_at _ _ bA_4 v (by omega) (by omega)
  by_cases a5 : v < 300
  · exact allI_at _ _ bA_5 v (by omega) (by omega)
  by_cases a6 : v < 350
  · exact allI_at _ _ bA_6 v (by omega) (by omega)
  by_cases a7 : v < 400
  · exact allI_at _ _ bA_7 v (by omega) (by omega)
  by_cases a8 : v < 450
  · exact allI_at _ _ bA_8 v (by omega) (by omega)
  by_cases a9 : v < 500
  · exact allI_at _ _ bA_9 v (by omega) (by omega)
  exact allI_at _ _ bA_10 v (by omega) (by omega)
theorem two_eq {v : Int} (hv0 : 0 ≤ v) (hv : v ≤ 500) : ∀ (n : Nat) (x c : Int), 0 ≤ x → x ≤ 500 → r_spec_sqTwo_L4 v n x c = two' v n x c
  | 0, x, c, _, _ => rfl
  | n + 1, x, c, h0, h1 => by
    unfold r_spec_sqTwo_L4 two'
    have hw := sq_w h0 h1
    rw [hw, leI_eq]
    by_cases hc : x * x ≤ v
    · have hx := sq_small h0 hc hv
      have hp : 0 ≤ x * x := Int.mul_nonneg h0 h0
      rw [decide_eq_true hc, cond_true, cond_true, w64_in (n := v - x * x) (by omega), aOk_eq (aA_all (v - x * x) (by omega) (by omega)), w64_in (n := x + 1) (by omega)]
      simp only [sI_eq, fun d => two_eq hv0 hv n (x + 1) d (by omega) (by omega)]
    · rw [decide_eq_false hc, cond_false, cond_false]
theorem isO_of {v x : Int} (h : getI sq2 v = some x) (hb : bOk v = true) : two' v FU 0 0 = some x := by
  unfold bOk at hb
  rw [h] at hb
  exact isO_eq hb
theorem sqTwo_val {v : Int} (h0 : 0 ≤ v) (h : v ≤ 500) : ∃ x, getI sq2 v = some x ∧ r_spec_sqTwo v = some x := by
  have hb := bA_all v h0 h
  cases e : getI sq2 v with
  | none => unfold bOk at hb; rw [e] at hb; cases hb
  | some x =>
    refine ⟨x, rfl, ?_⟩
    simp only [r_spec_sqTwo, two_eq h0 h FU 0 0 (by omega) (by omega), isO_of e hb, Option.bind_some]
theorem three_eq {v : Int} (hv0 : 0 ≤ v) (hv : v ≤ 500) : ∀ (n : Nat) (c x : Int), 0 ≤ x → x ≤ 500 → r_spec_sqThree_L5 v n c x = three' v n c x
  | 0, c, x, _, _ => rfl
  | n + 1, c, x, h0, h1 => by
    unfold r_spec_sqThree_L5 three'
    have hw := sq_w h0 h1
    rw [hw, leI_eq]
    by_cases hc : x * x ≤ v
    · have hx := sq_small h0 hc hv
      have hp : 0 ≤ x * x := Int.mul_nonneg h0 h0
      obtain ⟨y, g1, g2⟩ := sqTwo_val (v := v - x * x) (by omega) (by omega)
      rw [decide_eq_true hc, cond_true, cond_true, w64_in (n := v - x * x) (by omega), g1, g2, w64_in (n := x + 1) (by omega)]
      simp only [sI_eq, Option.bind_some, fun d => three_eq hv0 hv n d (x + 1) (by omega) (by omega)]
    · rw [decide_eq_false hc, cond_false, cond_false]
theorem cA_0 : allI cOk 50 1 = true := by decide +kernel
theorem cA_1 : allI cOk 50 51 = true := by decide +kernel
theorem cA_2 : allI cOk 50 101 = true := by decide +kernel
theorem cA_3 : allI cOk 50 151 = true := by decide +kernel
theorem cA_4 : allI cOk 50 201 = true := by decide +kernel
theorem cA_5 : allI cOk 50 251 = true := by decide +kernel
theorem cA_6 : allI cOk 50 301 = true := by decide +kernel
theorem cA_7 : allI cOk 50 351 = true := by decide +kernel
theorem cA_8 : allI cOk 50 401 = true := by decide +kernel
theorem cA_9 : allI cOk 50 451 = true := by decide +kernel
theorem cA_all (v : Int) (h1 : 1 ≤ v) (h2 : v ≤ 500) : cOk v = true := by
  by_cases a0 : v < 51
  · exact allI_at _ _ cA_0 v (by omega) (by omega)
  by_cases a1 : v < 101
  · exact allI_at _ _ cA_1 v (by omega) (by omega)
  by_cases a2 : v < 151
  · exact allI_at _ _ cA_2 v (by omega) (by omega)
  by_cases a3 : v < 201
  · exact allI_at _ _ cA_3 v (by omega) (by omega)
  by_cases a4 : v < 251
  · exact allI_at _ _ cA_4 v (by omega) (by omega)
  by_cases a5 : v < 301
  · exact allI_at _ _ cA_5 v (by omega) (by omega)
  by_cases a6 : v < 351
  · exact allI_at _ _ cA_6 v (by omega) (by omega)
  by_cases a7 : v < 401
  · exact allI_at _ _ cA_7 v (by omega) (by omega)
  by_cases a8 : v < 451
  · exact allI_at _ _ cA_8 v (by omega) (by omega)
  exact allI_at _ _ cA_9 v (by omega) (by omega)
theorem sq_all (v : Int) (h1 : 1 ≤ v) (h2 : v ≤ 500) : sqOk v = true := by
  have hc := cA_all v h1 h2
  unfold cOk at hc
  unfold sqOk
  obtain ⟨c, e0, e1⟩ := sqTwo_val (v := v) (by omega) h2
  cases q1 : getI sq3 v with
  | none => rw [q1] at hc; cases hc
  | some x =>
  cases q2 : hTab (4 * v) with
  | none => rw [q1, q2] at hc; cases hc
  | some a =>
  cases q3 : hTab v with
  | none => rw [q1, q2, q3] at hc; cases hc
  | some b =>
  rw [q1, q2, q3, e0] at hc
  simp only at hc ⊢
  cases q4 : r_spec_sqGood v with
  | none => rw [q4] at hc; cases hc
  | some g =>
  cases g with
  | false => rw [q4] at hc; cases hc
  | true =>
  rw [q4] at hc
  simp only at hc
  cases q5 : isO (three' v FU c 1) x with
  | false => rw [q5] at hc; cases hc
  | true =>
  rw [q5, cond_true] at hc
  have e2 := isO_eq q5
  have exx : eqI x x = true := by rw [eqI_eq]; exact beq_self_eq_true x
  simp only [r_spec_CountThree, q4, Option.bind_some, Bool.not_true, cond_false, r_spec_sqThree, e1, three_eq (v := v) (by omega) h2 FU c 1 (by omega) (by omega), e2, exx, cond_true, hc]
end Go.Proofs.Ytdffhgibkeifmaa
