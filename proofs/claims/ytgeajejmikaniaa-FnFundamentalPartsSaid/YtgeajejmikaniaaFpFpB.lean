/-
  The prime discriminants of a fundamental discriminant have it as their product.
  Conditions: none.
-/
import Derived.Test.YtgeajejmikaniaaFpFpA
namespace Go.Proofs.Ytgeajejmikaniaa
set_option linter.unusedVariables false
set_option linter.unusedSimpArgs false

def prd : List Int → Int
  | [] => 1
  | x :: l => x * prd l
theorem prd_app : ∀ (a b : List Int), prd (a ++ b) = prd a * prd b
  | [], b => by simp [prd]
  | x :: a, b => by rw [List.cons_append, prd, prd, prd_app a b, Int.mul_assoc]
theorem prd_sub {a b : List Int} (h : List.Sublist a b) : prd a ∣ prd b := by
  induction h with
  | slnil => exact Int.dvd_refl _
  | cons x _ ih => exact Int.dvd_trans ih ⟨x, by rw [prd, Int.mul_comm]⟩
  | cons_cons x _ ih =>
    obtain ⟨c, hc⟩ := ih
    exact ⟨c, by rw [prd, prd, hc, Int.mul_assoc]⟩
/-! ### Factors -/
theorem fac_in {p : Int} (hp2 : 2 ≤ p) (hp : p ≤ 1000) : ∀ (m fu : Nat) (n : Int) (l : List Int), 1 ≤ n → n ≤ 1000000 → n.natAbs < 2 ^ m → m < fu → l.length + m ≤ 100000 →
    ∃ n' l', r_impl_factors_L10 p fu n l = some (n', l') ∧ n' * prd l' = n * prd l ∧ 1 ≤ n' ∧ n' ≤ n ∧ l'.length ≤ l.length + m
  | m, 0, n, l, _, _, _, h, _ => by omega
  | 0, fu + 1, n, l, h1, _, hm, _, _ => by simp at hm; omega
  | m + 1, fu + 1, n, l, h1, hnb, hm, hf, hl => by
    rw [r_impl_factors_L10, nzOk (by omega)]
    simp only [Option.bind_some]
    cases hd : eqI (Int.tmod n p) 0 with
    | false => exact ⟨n, l, rfl, rfl, h1, Int.le_refl _, by omega⟩
    | true =>
      obtain ⟨c, hc⟩ := (tm0 (by omega)).1 hd
      have hq : Int.tdiv n p = c := by rw [hc, Int.mul_tdiv_cancel_left _ (by omega)]
      have hc1 : 1 ≤ c := by
        rcases Int.lt_or_le 0 c with g | g
        · omega
        · have : p * c ≤ p * 0 := Int.mul_le_mul_of_nonneg_left g (by omega)
          omega
      have h2 : 2 * c ≤ p * c := Int.mul_le_mul_of_nonneg_right hp2 (by omega)
      have hp1 : (2 : Nat) ^ (m + 1) = 2 * 2 ^ m := by rw [Nat.pow_succ]; omega
      rw [cond_true, roomOk (by simp; omega)]
      simp only [Option.bind_some, sI_eq, hq]
      rw [w64_abs (n := c) (by omega)]
      obtain ⟨n', l', g1, g2, g3, g4, g5⟩ := fac_in hp2 hp m fu c (l ++ [p]) hc1 (by omega) (by omega) (by omega) (by simp; omega)
      refine ⟨n', l', g1, ?_, g3, by omega, by simp at g5; omega⟩
      rw [g2, prd_app, hc]
      simp only [prd]
      grind
theorem fac_out : ∀ (m fu : Nat) (n p : Int) (l : List Int), p + m = 1002 → m < fu → 2 ≤ p → 1 ≤ n → n ≤ 1000000 → l.length + 20 * m ≤ 50000 →
    ∃ n' l', r_impl_factors_L5 fu n p l = some (n', l') ∧ n' * prd l' = n * prd l ∧ 1 ≤ n' ∧ l'.length ≤ 60000
  | m, 0, n, p, l, _, h, _, _, _, _ => by omega
  | m, fu + 1, n, p, l, hp, hf, hp2, h1, hnb, hl => by
    have hpp := abs_mul (x := p) (y := p) (A := 1002) (B := 1002) (by omega) (by omega)
    rw [r_impl_factors_L5, w64_abs (n := p * p) (by omega), leI_eq]
    by_cases h : p * p ≤ n
    · have hp3 : p ≤ 1000 := by
        rcases Int.lt_or_le 1000 p with h1 | h1
        · have : 1001 * 1001 ≤ p * p := Int.mul_le_mul (by omega) (by omega) (by omega) (by omega)
          omega
        · exact h1
      obtain ⟨m', rfl⟩ : ∃ m', m = m' + 1 := ⟨m - 1, by omega⟩
      have hF := FUge
      obtain ⟨n1, l1, g1, g2, g3, g4, g5⟩ := fac_in hp2 hp3 20 FU n l h1 hnb (by omega) (by omega) (by omega)
      rw [decide_eq_true h, cond_true, g1]
      simp only [Option.bind_some, sI_eq]
      rw [w64_in (n := p + 1) (by omega)]
      obtain ⟨n', l', j1, j2, j3, j4⟩ := fac_out m' fu n1 (p + 1) l1 (by omega) (by omega) (by omega) g3 (by omega) (by omega)
      exact ⟨n', l', j1, by rw [j2, g2], j3, j4⟩
    · rw [decide_eq_false h, cond_false]
      exact ⟨n, l, rfl, rfl, h1, by omega⟩
theorem fac_val {n : Int} (h1 : 1 ≤ n) (hn : n ≤ 1000000) : ∃ F, r_impl_factors n = some F ∧ prd F = n ∧ F.length ≤ 60001 := by
  have hF := FUge
  obtain ⟨n', l', g1, g2, g3, g4⟩ := fac_out 1000 FU n 2 [] (by omega) (by omega) (by omega) h1 hn (by simp)
  have g2' : n' * prd l' = n := by rw [g2]; simp [prd]
  simp only [r_impl_factors, g1, Option.bind_some]
  cases h : ltI 1 n' with
  | true =>
    rw [cond_true, roomOk (by simp; omega), Option.bind_some]
    refine ⟨_, rfl, ?_, by simp; omega⟩
    rw [prd_app]
    simp only [prd]
    rw [← g2']
    grind
  | false =>
    rw [ltI_eq, decide_eq_false_iff_not] at h
    have : n' = 1 := by omega
    refine ⟨l', rfl, ?_, by omega⟩
    rw [← g2', this, Int.one_mul]
theorem pof_run (F : List Int) (hF : F.length ≤ 100000) : ∀ (k fu t : Nat) (l : List Int), t + k = F.length → k < fu → List.Sublist l (F.take t) → ∃ G, r_impl_primesOf_L5 F fu (t : Int) l = some G ∧ List.Sublist G F
  | k, 0, t, l, _, hf, _ => by omega
  | 0, fu + 1, t, l, ht, hf, hs => by
    rw [r_impl_primesOf_L5, ltI_eq, decide_eq_false (by omega), cond_false]
    exact ⟨l, rfl, hs.trans (List.take_sublist t F)⟩
  | k + 1, fu + 1, t, l, ht, hf, hs => by
    have hlen : l.length ≤ t := Nat.le_trans hs.length_le (by rw [List.length_take]; omega)
    have hlt : t < F.length := by omega
    have htk : F.take (t + 1) = F.take t ++ [F[t]] := by rw [List.take_add_one, List.getElem?_eq_getElem hlt]; rfl
    rw [r_impl_primesOf_L5, ltI_eq, decide_eq_true (by omega), cond_true, getNat hlt]
    simp only [Option.bind_some, sI_eq, wsucc (show t < 1000000000 by omega)]
    have hb : ∃ b, (bif (eqI ((l.length : Int)) 0) then some true else ((getI l (w64 (((l.length : Int)) - 1))).bind fun e11 => (getI l (w64 (((l.length : Int)) - 1))).bind fun e12 => some (!eqI e12 F[t]))) = some b := by
      by_cases h0 : l.length = 0
      · rw [h0]; exact ⟨true, rfl⟩
      · rw [eqNe (show (l.length : Int) ≠ 0 by omega), cond_false, w64_in (by omega), show ((l.length : Int) - 1) = ((l.length - 1 : Nat) : Int) by omega, getNat (show l.length - 1 < l.length by omega)]
        exact ⟨_, rfl⟩
    obtain ⟨b, hb⟩ := hb
    rw [hb]
    simp only [Option.bind_some]
    cases b with
    | true =>
      rw [cond_true, roomOk (by simp; omega), Option.bind_some]
      exact pof_run F hF k fu (t + 1) _ (by omega) (by omega) (by rw [htk]; exact hs.append (List.Sublist.refl _))
    | false =>
      rw [cond_false]
      exact pof_run F hF k fu (t + 1) _ (by omega) (by omega) (by rw [htk]; exact hs.trans (List.sublist_append_left _ _))
theorem pof_val {n : Int} (h1 : 1 ≤ n) (hn : n ≤ 1000000) : ∃ G, r_impl_primesOf n = some G ∧ prd G ∣ n ∧ G.length ≤ 60001 := by
  have hF := FUge
  obtain ⟨F, f1, f2, f3⟩ := fac_val h1 hn
  obtain ⟨G, g1, g2⟩ := pof_run F (by omega) F.length FU 0 [] (by omega) (by omega) (List.nil_sublist _)
  have e0 : (((0 : Nat) : Int)) = 0 := rfl
  rw [e0] at g1
  refine ⟨G, by simp only [r_impl_primesOf, f1, g1, Option.bind_some], ?_, Nat.le_trans g2.length_le f3⟩
  have := prd_sub g2
  rw [f2] at this
  exact this
/-! ### Prime discriminants -/
def sgp (p : Int) : Int := bif eqI (Int.tmod p 4) 3 then -p else p
def odds (G : List Int) : List Int := (G.filter fun p => !(eqI p 2)).map sgp
theorem odds_abs : ∀ G : List Int, (prd (odds G)).natAbs = (prd (G.filter fun p => !(eqI p 2))).natAbs
  | [] => rfl
  | p :: G => by
    have ih := odds_abs G
    unfold odds at ih ⊢
    rw [List.filter_cons]
    cases (!(eqI p 2)) with
    | false => simpa using ih
    | true =>
      rw [if_pos rfl, List.map_cons, prd, prd, Int.natAbs_mul, Int.natAbs_mul, ih]
      congr 1
      unfold sgp
      cases eqI (Int.tmod p 4) 3
      · rfl
      · rw [cond_true]; omega
theorem odds_dvd {G : List Int} {e : Int} (h : prd G ∣ (e.natAbs : Int)) {t : Nat} : prd (odds (G.take t)) ∣ e := by
  have h1 : prd ((G.take t).filter fun p => !(eqI p 2)) ∣ prd G := prd_sub (List.filter_sublist.trans (List.take_sublist t G))
  have h2 := Int.dvd_trans h1 h
  have h3 := Int.natAbs_dvd_natAbs.2 h2
  rw [Int.natAbs_natCast, ← odds_abs] at h3
  exact Int.natAbs_dvd_natAbs.1 h3
theorem pd_run {G : List Int} {e : Int} (he : e ≠ 0) (heb : e.natAbs ≤ 1000000) (hG : prd G ∣ (e.natAbs : Int)) (hl : G.length ≤ 100000) : ∀ (k fu t : Nat) (rest : Int), t + k = G.length → k < fu → rest * prd (odds (G.take t)) = e →
    ∃ rest', r_impl_primeDiscriminants_L7 G fu (t : Int) rest (odds (G.take t)) = some (rest', odds G) ∧ rest' * prd (odds G) = e
  | k, 0, t, rest, _, hf, _ => by omega
  | 0, fu + 1, t, rest, ht, hf, hr => by
    rw [r_impl_primeDiscriminants_L7, ltI_eq, decide_eq_false (by omega), cond_false]
    rw [List.take_of_length_le (by omega)] at hr ⊢
    exact ⟨rest, rfl, hr⟩
  | k + 1, fu + 1, t, rest, ht, hf, hr => by
    have hlt : t < G.length := by omega
    have htk : G.take (t + 1) = G.take t ++ [G[t]] := by rw [List.take_add_one, List.getElem?_eq_getElem hlt]; rfl
    have hod : odds (G.take (t + 1)) = odds (G.take t) ++ odds [G[t]] := by
      unfold odds
      rw [htk, List.filter_append, List.map_append]
    rw [r_impl_primeDiscriminants_L7, ltI_eq, decide_eq_true (by omega), cond_true, getNat hlt]
    simp only [Option.bind_some, sI_eq, wsucc (show t < 1000000000 by omega)]
    cases h2 : eqI G[t] 2 with
    | true =>
      have e1 : odds [G[t]] = [] := by unfold odds; rw [List.filter_cons, h2]; rfl
      rw [e1, List.append_nil] at hod
      rw [cond_true, ← hod]
      exact pd_run he heb hG hl k fu (t + 1) rest (by omega) (by omega) (by rw [hod]; exact hr)
    | false =>
      have e1 : odds [G[t]] = [sgp G[t]] := by unfold odds; rw [List.filter_cons, h2]; rfl
      rw [e1] at hod
      have hdv : prd (odds (G.take t)) * sgp G[t] ∣ e := by
        have := odds_dvd hG (t := t + 1)
        rw [hod, prd_app] at this
        simpa [prd] using this
      have hne : prd (odds (G.take t)) ≠ 0 := fun h => by rw [h, Int.mul_zero] at hr; exact he hr.symm
      have hjr : sgp G[t] ∣ rest := by
        obtain ⟨c, hc⟩ := hdv
        refine ⟨c, ?_⟩
        have h5 : prd (odds (G.take t)) * rest = prd (odds (G.take t)) * (sgp G[t] * c) := by
          rw [Int.mul_comm, hr, hc, Int.mul_assoc]
        exact Int.eq_of_mul_eq_mul_left hne h5
      obtain ⟨c, hc⟩ := hjr
      have hj0 : sgp G[t] ≠ 0 := fun h => by rw [h, Int.zero_mul] at hc; rw [hc, Int.zero_mul] at hr; exact he hr.symm
      have hr0 : rest ≠ 0 := fun h => by rw [h, Int.zero_mul] at hr; exact he hr.symm
      have hc0 : c ≠ 0 := fun h => by rw [h, Int.mul_zero] at hc; exact hr0 hc
      have hrb : rest.natAbs ≤ 1000000 := by
        have h6 : e.natAbs = rest.natAbs * (prd (odds (G.take t))).natAbs := by rw [← hr]; exact Int.natAbs_mul _ _
        have h7 : rest.natAbs * 1 ≤ rest.natAbs * (prd (odds (G.take t))).natAbs := Nat.mul_le_mul_left _ (by omega)
        omega
      have hab : rest.natAbs = (sgp G[t]).natAbs * c.natAbs := by rw [hc]; exact Int.natAbs_mul _ _
      have hcb : c.natAbs ≤ 1000000 := by
        have h7 : 1 * c.natAbs ≤ (sgp G[t]).natAbs * c.natAbs := Nat.mul_le_mul_right _ (by omega)
        omega
      have hjb : (sgp G[t]).natAbs ≤ 1000000 := by
        have h7 : (sgp G[t]).natAbs * 1 ≤ (sgp G[t]).natAbs * c.natAbs := Nat.mul_le_mul_left _ (by omega)
        omega
      have hgb : G[t].natAbs ≤ 1000000 := by
        unfold sgp at hjb
        cases hb : eqI (Int.tmod G[t] 4) 3 with
        | false => rw [hb] at hjb; exact hjb
        | true => rw [hb, cond_true] at hjb; omega
      have hj : (bif (eqI (Int.tmod G[t] 4) 3) then (some (w64 (0 - G[t])) : Option Int) else some G[t]) = some (sgp G[t]) := by
        unfold sgp
        cases eqI (Int.tmod G[t] 4) 3
        · rfl
        · rw [cond_true, cond_true, w64_in (by omega)]; congr 1; omega
      have hq : Int.tdiv rest (sgp G[t]) = c := by rw [hc, Int.mul_tdiv_cancel_left _ hj0]
      have hol : (odds (G.take t)).length ≤ G.length := by
        unfold odds
        rw [List.length_map]
        refine Nat.le_trans (List.length_filter_le _ _) ?_
        rw [List.length_take]; omega
      rw [cond_false, hj]
      simp only [Option.bind_some]
      rw [roomOk (by simp; omega), nzOk hj0]
      simp only [Option.bind_some, hq]
      rw [w64_abs (n := c) (by omega), ← hod]
      refine pd_run he heb hG hl k fu (t + 1) c (by omega) (by omega) ?_
      rw [hod, prd_app, ← hr, hc]
      simp only [prd]
      grind
theorem pd_val {e : Int} (he : e ≠ 0) (heb : e.natAbs ≤ 1000000) : ∃ L, r_impl_primeDiscriminants e = some L ∧ prd L = e ∧ L.length ≤ 100000 := by
  have hF := FUge
  obtain ⟨G, g1, g2, g3⟩ := pof_val (n := (e.natAbs : Int)) (by omega) (by omega)
  obtain ⟨r, j1, j2⟩ := pd_run he heb g2 (by omega) G.length FU 0 e (by omega) (by omega) (by simp [odds, prd])
  have e0 : (((0 : Nat) : Int)) = 0 := rfl
  have e1 : odds (G.take 0) = [] := by simp [odds]
  rw [e0, e1] at j1
  have hol : (odds G).length ≤ G.length := by
    unfold odds
    rw [List.length_map]
    exact List.length_filter_le _ _
  simp only [r_impl_primeDiscriminants, abs_val (n := e) (by omega), g1, j1, Option.bind_some]
  cases h : eqI r 1 with
  | true =>
    rw [eqI_eq, beq_iff_eq] at h
    refine ⟨odds G, rfl, ?_, by omega⟩
    rw [h, Int.one_mul] at j2
    exact j2
  | false =>
    rw [cond_false, roomOk (by simp; omega)]
    refine ⟨[r] ++ odds G, rfl, ?_, by simp; omega⟩
    rw [prd_app]
    simp only [prd]
    rw [← j2]
    grind
theorem prod_run (more : List Int) (L : List Int) (y15 : ((Int × Int × Int) × Bool)) (y5 : Int) (y6 : Int × Int × Bool) {e : Int} (he : e ≠ 0) (heb : e.natAbs ≤ 1000000) (hL : prd L = e) (hl : L.length ≤ 100000) : ∀ (k fu t : Nat), t + k = L.length → k < fu →
    r_laws_FnFundamentalParts_L24 more (L, true) y15 y5 y6 fu (prd (L.take t)) (t : Int) = some e
  | k, 0, t, _, hf => by omega
  | 0, fu + 1, t, ht, hf => by
    rw [r_laws_FnFundamentalParts_L24]
    dsimp only
    rw [ltI_eq, decide_eq_false (by omega), cond_false, List.take_of_length_le (by omega), hL]
  | k + 1, fu + 1, t, ht, hf => by
    have hlt : t < L.length := by omega
    have htk : L.take (t + 1) = L.take t ++ [L[t]] := by rw [List.take_add_one, List.getElem?_eq_getElem hlt]; rfl
    have hp : prd (L.take (t + 1)) = prd (L.take t) * L[t] := by rw [htk, prd_app]; simp [prd]
    have hdv : prd (L.take (t + 1)) ∣ e := by rw [← hL]; exact prd_sub (List.take_sublist _ _)
    have hb : (prd (L.take (t + 1))).natAbs ≤ 1000000 := by
      have := Nat.le_of_dvd (by omega) (Int.natAbs_dvd_natAbs.2 hdv)
      omega
    rw [r_laws_FnFundamentalParts_L24]
    dsimp only
    rw [ltI_eq, decide_eq_true (by omega), cond_true, getNat hlt]
    simp only [Option.bind_some, sI_eq, wsucc (show t < 1000000000 by omega)]
    rw [← hp, w64_abs (by omega)]
    exact prod_run more L y15 y5 y6 he heb hL hl k fu (t + 1) (by omega) (by omega)
end Go.Proofs.Ytgeajejmikaniaa
