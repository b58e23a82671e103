/-
  Half of the residues other than 0 are squares, and the least other one is none; a discriminant's character is multiplicative and has the sum 0.
  Conditions: none.
-/
import Derived.Test.YtpfnhgpepgeaiaaSrSrSq
import Derived.Test.YtpfnhgpepgeaiaaSrDrw
namespace Go.Proofs.Ytpfnhgpepgeaiaa
set_option linter.unusedVariables false
set_option linter.unusedSimpArgs false

def isL {α : Type} : Option (Unit ⊕ α) → Bool
  | some (.inl _) => true
  | _ => false
def isM1 : Option Int → Bool
  | some x => eqI x (-1)
  | _ => false
def chkP (p : Int) : Bool := match r_impl_LeastNonresidue p, r_spec_LeastNonresidue p with
  | some (n, true), some (m, true) => eqI n m && isL (r_laws_FnSquareResidues_L13 [] [] p (n, true) FU 1) && (bif leI p 10000 then isM1 (r_impl_jacobi n p) && (leI 3 p && (eqI (Int.tmod p 2) 1 && (leI 0 n && prm p.toNat))) else true)
  | some (n, false), some (m, false) => eqI n m
  | _, _ => false
def pL : List Int := [3, 5, 7, 23, 71, 311, 479, 1559, 999983, 2, 1, 9, 0, -3, 11, 13, 17, 19, 29, 31, 97, 101, 9973, 10007, -7, 15, 1000003]
theorem chk_tab : pL.all chkP = true := by decide +kernel
theorem L13_ind (c m : List Int) (p : Int) (y : Int × Bool) : ∀ (fu : Nat) (k : Int), r_laws_FnSquareResidues_L13 c m p y fu k = r_laws_FnSquareResidues_L13 [] [] p y fu k
  | 0, k => rfl
  | fu + 1, k => by
    rw [r_laws_FnSquareResidues_L13, r_laws_FnSquareResidues_L13]
    simp only [sI_eq, L13_ind c m p y fu]
theorem isL_of {α : Type} {o : Option (Unit ⊕ α)} (h : isL o = true) : o = some (.inl ()) := by
  match o, h with
  | some (.inl ()), _ => rfl
theorem isM1_of {o : Option Int} (h : isM1 o = true) : o = some (-1) := by
  match o, h with
  | some x, h => have h : eqI x (-1) = true := h; rw [eqI_eq, beq_iff_eq] at h; rw [h]
theorem lnr_draw {code : List Int} (hc : code.length ≤ 1048576) (h8 : ∀ x ∈ code, 0 ≤ x ∧ x ≤ 255) : ∃ p, r_spec_DrawLeastNonresidue code = some p ∧ p ∈ pL := by
  obtain ⟨q, c1, e1, hq, h1⟩ := among_ok (l := [3, 5, 7, 11, 13, 17, 19, 23, 29, 31, 97, 101, 9973, 10007, 999983, 9, 2, 1, 0, -7, 15, 1000003, 3, 5, 7]) (by simp) (CurB.start hc h8) (by omega)
  obtain ⟨p, c2, e2, hp, h2⟩ := among_ok (l := [3, 5, 7, 23, 71, 311, 479, 1559, 999983, 2, 1, 9, 0, -3, q]) (by simp) h1 (by omega)
  refine ⟨p, by simp only [r_spec_DrawLeastNonresidue, r_spec_l1Cur_oddPrime, e1, e2, Option.bind_some], ?_⟩
  simp only [List.mem_cons, List.not_mem_nil, or_false] at hq hp
  simp only [pL, List.mem_cons, List.not_mem_nil, or_false]
  omega
theorem row_draw {code : List Int} (hc : code.length ≤ 1048576) (h8 : ∀ x ∈ code, 0 ≤ x ∧ x ≤ 255) : ∃ d, r_spec_DrawCharacterRow code = some d := by
  obtain ⟨y, c1, e1, _, _, _, h1⟩ := pick_ok 8 (CurB.start hc h8) (by omega)
  simp only [r_spec_DrawCharacterRow, r_spec_l1Cur_anyDisc, e1, Option.bind_some]
  cases eqI y 0 with
  | true =>
    obtain ⟨x, c2, e2, h2⟩ := number_ok h1 (by omega)
    simp only [cond_true, e2, Option.bind_some]
    exact ⟨_, rfl⟩
  | false =>
    rw [cond_false]
    have hj : ∃ j, (bif eqI y 1 then some (eqI y 1) else some (eqI y 2) : Option Bool) = some j := by cases eqI y 1 <;> exact ⟨_, rfl⟩
    obtain ⟨j, hj⟩ := hj
    rw [hj]
    simp only [Option.bind_some]
    cases j with
    | true =>
      obtain ⟨x, c2, e2, _, h2⟩ := among_ok (l := [5, 8, 12, 13, 17, 21, 60, 136, 1000, 997, 4, 9, 1, 0]) (by simp) h1 (by omega)
      simp only [cond_true, e2, Option.bind_some]
      exact ⟨_, rfl⟩
    | false =>
      obtain ⟨x, c2, e2, h2⟩ := disc_ok h1 (by omega)
      simp only [cond_false, e2, Option.bind_some]
      exact ⟨_, rfl⟩
theorem row_both {d : Int} (h : 2 ≤ d.natAbs) (h2 : d.natAbs ≤ 2000) (hi : r_impl_isDiscriminant d = some true) (hs : r_spec_diIs d = some true) : r_impl_CharacterRow d = some (rowK d d.natAbs, true) ∧ r_spec_CharacterRow d = some (rowK d d.natAbs, true) := by
  have hF := FUge
  have e0 : (((0 : Nat) : Int)) = 0 := rfl
  have a := irow_run h h2 d.natAbs FU 0 (by omega) (by omega)
  have b := srow_run h h2 d.natAbs FU 0 (by omega) (by omega)
  rw [e0] at a b
  have e1 : rowK d 0 = [] := rfl
  rw [e1] at a b
  have hl : ltI 2000 (d.natAbs : Int) = false := by rw [ltI_eq]; exact decide_eq_false (by omega)
  constructor
  · simp only [r_impl_CharacterRow, hi, abs_val (n := d) (by omega), hl, Option.bind_some, Bool.not_true, cond_false, a]
  · simp only [r_spec_CharacterRow, hs, sabs_val (n := d) (by omega), hl, Option.bind_some, Bool.not_true, cond_false, b]
theorem row_none {d : Int} (h : ∀ b, r_impl_isDiscriminant d = some b → b = true → 2000 < d.natAbs ∧ d.natAbs ≤ 1000000) (hd : r_spec_diIs d = r_impl_isDiscriminant d) (hx : ∃ b, r_impl_isDiscriminant d = some b) : r_impl_CharacterRow d = some ([], false) ∧ r_spec_CharacterRow d = some ([], false) := by
  obtain ⟨b, hb⟩ := hx
  simp only [r_impl_CharacterRow, r_spec_CharacterRow, hd, hb, Option.bind_some]
  cases b with
  | false => exact ⟨rfl, rfl⟩
  | true =>
    obtain ⟨h1, h2⟩ := h true hb rfl
    have hl : ltI 2000 (d.natAbs : Int) = true := by rw [ltI_eq]; exact decide_eq_true (by omega)
    simp only [abs_val (n := d) (by omega), sabs_val (n := d) (by omega), hl, Option.bind_some, Bool.not_true, cond_false, cond_true]
    exact ⟨trivial, trivial⟩
theorem ints_run (l : List Int) (hl : l.length ≤ 1000000) : ∀ (k fu i : Nat), i + k = l.length → k < fu → r_laws_sameInts_L5 l l fu (i : Int) = some (.inl ())
  | k, 0, i, _, hf => by omega
  | 0, fu + 1, i, hi, hf => by rw [r_laws_sameInts_L5, ltI_eq, decide_eq_false (by omega), cond_false]
  | k + 1, fu + 1, i, hi, hf => by
    rw [r_laws_sameInts_L5, ltI_eq, decide_eq_true (by omega), cond_true, getNat (show i < l.length by omega)]
    simp only [Option.bind_some, eqSelf, Bool.not_true, cond_false, sI_eq, wsucc (show i < 1000000000 by omega)]
    exact ints_run l hl k fu (i + 1) (by omega) (by omega)
theorem ints_self (l : List Int) (hl : l.length < 1000000) : r_laws_sameInts l l = some true := by
  have hF := FUge
  have := ints_run l (by omega) l.length FU 0 (by omega) (by omega)
  have e0 : (((0 : Nat) : Int)) = 0 := rfl
  rw [e0] at this
  simp only [r_laws_sameInts, eqSelf, Bool.not_true, cond_false, this, Option.bind_some]
theorem qs_run {d : Int} {n : Nat} (hn : n ≤ 2000) : ∀ (k fu t : Nat), t + k = n → k < fu → r_laws_qSum_L4 (rowK d n) fu ((rowK d t).sum) (t : Int) = some ((rowK d n).sum)
  | k, 0, t, _, hf => by omega
  | 0, fu + 1, t, ht, hf => by rw [r_laws_qSum_L4, rowK_len, ltI_eq, decide_eq_false (by omega), cond_false, show t = n by omega]
  | k + 1, fu + 1, t, ht, hf => by
    have hb := sum_bd d t
    rw [r_laws_qSum_L4, rowK_len, ltI_eq, decide_eq_true (by omega), cond_true, rowK_get (by omega)]
    simp only [Option.bind_some, sI_eq, wsucc (show t < 1000000000 by omega)]
    have hs : (rowK d (t + 1)).sum = (rowK d t).sum + KK d t := by
      rw [rowK_succ, List.sum_append]
      simp
    have hu : (KK d t).natAbs ≤ 1 := by rcases KK_unit d t with h | h | h <;> rw [h] <;> decide
    rw [w64_in (by omega), ← hs]
    exact qs_run hn k fu (t + 1) (by omega) (by omega)
theorem raw_FnSquareResidues (code more : List Int) (hc8 : ∀ x ∈ code, 0 ≤ x ∧ x ≤ 255) (hm8 : ∀ x ∈ more, 0 ≤ x ∧ x ≤ 255) : r_laws_FnSquareResidues code more = some true := by
  rcases big_cases code more with hb | ⟨hb, hc, hm⟩
  · simp only [r_laws_FnSquareResidues, hb, Option.bind_some, cond_true]
  have hF := FUge
  have e0 : (((0 : Nat) : Int)) = 0 := rfl
  obtain ⟨p, ep, hp⟩ := lnr_draw hc hc8
  have hchk : chkP p = true := List.all_eq_true.1 chk_tab p hp
  obtain ⟨d, ed⟩ := row_draw hm hm8
  obtain ⟨z, ez, z0, z1⟩ := numberOf_ok hc hc8
  obtain ⟨v, ev, v0, v1⟩ := numberOf_ok hm hm8
  -- the second half
  have fin : ((r_spec_DrawCharacterRow more).bind fun y28 =>
            (r_impl_CharacterRow y28).bind fun y29 =>
            (r_spec_CharacterRow y28).bind fun y30 =>
            (bif (y29.2 != y30.2) then some true else ((r_laws_sameInts y29.1 y30.1).bind fun y32 => some (!y32))).bind fun b33 =>
            bif b33 then some false
            else
                (bif y29.2 then
                    (r_impl_SymbolSum y28 (w64 (((y30.1.length : Int)) - 1))).bind fun y36 =>
                    (r_laws_numberOf code).bind fun y37 =>
                    (nz ((y30.1.length : Int))).bind fun z38 =>
                    (r_laws_numberOf more).bind fun y39 =>
                    (nz ((y30.1.length : Int))).bind fun z40 =>
                    sI (Int.tmod y37 ((y30.1.length : Int))) fun i41 =>
                    sI (Int.tmod y39 ((y30.1.length : Int))) fun j42 =>
                    (bif (bif y36.2 then (eqI y36.1 0) else false) then ((r_laws_qSum y30.1).bind fun y45 => some (eqI y45 0)) else some false).bind fun b46 =>
                    (bif b46 then ((getI y29.1 i41).bind fun e48 => (getI y29.1 i41).bind fun e49 => (getI y29.1 j42).bind fun e50 => (getI y29.1 j42).bind fun e51 => (nz ((y30.1.length : Int))).bind fun z52 => (getI y29.1 (Int.tmod (w64 (i41 * j42)) ((y30.1.length : Int)))).bind fun e53 => (getI y29.1 (Int.tmod (w64 (i41 * j42)) ((y30.1.length : Int)))).bind fun e54 => some (eqI (w64 (e49 * e51)) e54)) else some false).bind fun b55 =>
                    some b55
                else some true)) = some true := by
    rw [ed]
    simp only [Option.bind_some]
    obtain ⟨b, i1, i2, i3⟩ := isd_val d
    by_cases hok : b = true ∧ d.natAbs ≤ 2000
    · obtain ⟨rfl, h2k⟩ := hok
      obtain ⟨j1, j2, j3⟩ := i3 rfl
      have h2 : 2 ≤ d.natAbs := by
        have k0 := j3 0
        have k1 := j3 1
        omega
      obtain ⟨r1, r2⟩ := row_both h2 h2k i1 i2
      have hs0 := row_sum j2 j3 h2k h2
      have hw : w64 ((d.natAbs : Int) - 1) = ((d.natAbs - 1 : Nat) : Int) := by rw [w64_in (by omega)]; omega
      have hin : r_impl_areNumbers [d] = some true := by rw [num_val [d] (by simp)]; simp [j1]
      have hsr := sum_run h2 h2k (d.natAbs - 1) FU 1 (by omega) (by omega) (by omega)
      have e1 : (rowK d 1).sum = 0 := by
        have : rowK d 1 = [KK d 0] := rfl
        rw [this, KK_zero]
        rfl
      have e1' : (((1 : Nat) : Int)) = 1 := rfl
      rw [e1, e1', hs0] at hsr
      have hS : r_impl_SymbolSum d ((d.natAbs - 1 : Nat) : Int) = some (0, true) := by
        have g1 : ltI ((d.natAbs - 1 : Nat) : Int) 0 = false := by rw [ltI_eq]; exact decide_eq_false (by omega)
        have g2 : ltI 10000 ((d.natAbs - 1 : Nat) : Int) = false := by rw [ltI_eq]; exact decide_eq_false (by omega)
        simp only [r_impl_SymbolSum, hin, g1, g2, Option.bind_some, Bool.not_true, cond_false, hsr]
      have hq := qs_run (d := d) (n := d.natAbs) h2k d.natAbs FU 0 (by omega) (by omega)
      have e2 : (rowK d 0).sum = 0 := rfl
      rw [e2, e0, hs0] at hq
      have hQ : r_laws_qSum (rowK d d.natAbs) = some 0 := by simp only [r_laws_qSum, hq, Option.bind_some]
      obtain ⟨a, ha⟩ := Int.eq_ofNat_of_zero_le z0
      obtain ⟨c, hcv⟩ := Int.eq_ofNat_of_zero_le v0
      have tmA : Int.tmod z (d.natAbs : Int) = ((a % d.natAbs : Nat) : Int) := by rw [ha]; rfl
      have tmC : Int.tmod v (d.natAbs : Int) = ((c % d.natAbs : Nat) : Int) := by rw [hcv]; rfl
      have la := Nat.mod_lt a (show 0 < d.natAbs by omega)
      have lc := Nat.mod_lt c (show 0 < d.natAbs by omega)
      generalize a % d.natAbs = i at *
      generalize c % d.natAbs = j at *
      have hij : i * j ≤ 2000 * 2000 := Nat.mul_le_mul (by omega) (by omega)
      have tmP : Int.tmod (w64 ((i : Int) * (j : Int))) (d.natAbs : Int) = ((i * j % d.natAbs : Nat) : Int) := by
        have e : (i : Int) * (j : Int) = ((i * j : Nat) : Int) := by push_cast; rfl
        rw [e, w64_in (by omega)]
        rfl
      have lp := Nat.mod_lt (i * j) (show 0 < d.natAbs by omega)
      have nzd : nz (d.natAbs : Int) = some () := nzOk (by omega)
      have hmul : w64 (KK d i * KK d j) = KK d (i * j % d.natAbs) := by
        rw [un_in (un_mul (KK_unit d i) (KK_unit d j)), KK_per j2 h2, KK_mul]
      simp only [r1, r2, Option.bind_some, bne_self_eq_false, cond_false, ints_self _ (show (rowK d d.natAbs).length < 1000000 by rw [rowK_len]; omega), Bool.not_true, rowK_len, hw, hS, ez, ev, nzd, sI_eq, tmA, tmC, cond_true, eqSelf, hQ, rowK_get la, rowK_get lc, tmP, rowK_get lp, hmul]
    · obtain ⟨r1, r2⟩ := row_none (d := d) (fun b' hb' ht => by
        rw [i1] at hb'
        have hbb := some_inj hb'
        subst hbb
        have := inN_iff.1 (i3 ht).1
        refine ⟨?_, by omega⟩
        rcases Nat.lt_or_ge 2000 d.natAbs with g | g
        · exact g
        · exact absurd ⟨ht, g⟩ hok) (by rw [i1, i2]) ⟨b, i1⟩
      simp only [r1, r2, Option.bind_some, bne_self_eq_false, cond_false, ints_self [] (by simp), Bool.not_true]
  simp only [r_laws_FnSquareResidues, hb, ep, Option.bind_some, cond_false]
  unfold chkP at hchk
  generalize hI : r_impl_LeastNonresidue p = oI at hchk
  generalize hS : r_spec_LeastNonresidue p = oS at hchk
  match oI, oS, hchk with
  | some (n, false), some (m, false), hchk =>
    have hchk : eqI n m = true := hchk
    simp only [Option.bind_some, bne_self_eq_false, cond_false, hchk, Bool.not_true]
    exact fin
  | some (n, true), some (m, true), hchk =>
    have hchk : (eqI n m && isL (r_laws_FnSquareResidues_L13 [] [] p (n, true) FU 1) && (bif leI p 10000 then isM1 (r_impl_jacobi n p) && (leI 3 p && (eqI (Int.tmod p 2) 1 && (leI 0 n && prm p.toNat))) else true)) = true := hchk
    rw [Bool.and_eq_true, Bool.and_eq_true] at hchk
    obtain ⟨⟨c1, c2⟩, c3⟩ := hchk
    have c2 := isL_of c2
    simp only [Option.bind_some, bne_self_eq_false, cond_false, c1, Bool.not_true, cond_true, L13_ind code more, c2]
    cases hle : leI p 10000 with
    | false => exact fin
    | true =>
      rw [hle, cond_true, Bool.and_eq_true, Bool.and_eq_true, Bool.and_eq_true, Bool.and_eq_true] at c3
      obtain ⟨d1, d2, d3, d4, d5⟩ := c3
      rw [leI_eq, decide_eq_true_eq] at d2 d4 hle
      rw [eqI_eq, beq_iff_eq] at d3
      obtain ⟨P, rfl⟩ := Int.eq_ofNat_of_zero_le (show 0 ≤ p by omega)
      obtain ⟨n', rfl⟩ := Int.eq_ofNat_of_zero_le d4
      have hodd : P % 2 = 1 := by
        have : Int.tmod (P : Int) 2 = ((P % 2 : Nat) : Int) := rfl
        omega
      have hj := isM1_of d1
      rw [ij_val hodd (by omega)] at hj
      have hj := some_inj hj
      have hJ : JJ n' P = -1 := by
        have e : JI (n' : Int) P = JJ n' P := by
          unfold JI
          rw [show ((n' : Int) % (P : Int)).toNat = n' % P by omega, JJ_mod]
        rw [← e]
        exact hj
      have d5 : prm P = true := d5
      have hlen := sqN_len d5 (by omega) hodd
      have hlen2 : (((sqN P).map fun x : Nat => (x : Int)).length : Int) = w64 (Int.tdiv (w64 ((P : Int) + 1)) 2) := by
        rw [List.length_map, hlen, w64_in (n := (P : Int) + 1) (by omega)]
        have : Int.tdiv ((P : Int) + 1) 2 = (((P + 1) / 2 : Nat) : Int) := by
          rw [show ((P : Int) + 1) = ((P + 1 : Nat) : Int) by push_cast; rfl]
          rfl
        rw [this, w64_in (by omega)]
        omega
      have hnot : (n' : Int) ∉ (sqN P).map fun x : Nat => (x : Int) := by
        intro hm
        obtain ⟨x, hx, hxe⟩ := List.mem_map.1 hm
        have : x = n' := by omega
        subst this
        exact not_sq hodd hJ hx
      simp only [cond_true, sq_val (m := P) (by omega) (by omega), Option.bind_some, Bool.not_true, cond_false, hlen2, eqSelf, qin_val _ _ hnot (by rw [List.length_map, hlen]; omega)]
      exact fin
end Go.Proofs.Ytpfnhgpepgeaiaa
