/-
  The reference's list of the primitive reduced forms of a negative discriminant: there is one, it holds each of them and no other.
  Conditions: none.
-/
import Derived.Test.YtnheekadeflecaaGreatUpDscRed
import Derived.Test.YtnheekadeflecaaGreatUpCt0
namespace Go.Proofs.YtnheekadeflecaaGreat
set_option linter.unusedVariables false
set_option linter.unusedSimpArgs false

/-- Whole numbers in a row. -/
def upz : Nat → Int → List Int
  | 0, _ => []
  | f + 1, y => y :: upz f (y + 1)
theorem mem_upz : ∀ (f : Nat) (y z : Int), z ∈ upz f y ↔ y ≤ z ∧ z < y + f
  | 0, y, z => by simp [upz]
  | f + 1, y, z => by
    rw [upz, List.mem_cons, mem_upz f (y + 1) z]
    push_cast
    omega
theorem upz_lt : ∀ (f : Nat) (y : Int), (upz f y).Pairwise (· < ·)
  | 0, y => List.Pairwise.nil
  | f + 1, y => by
    rw [upz, List.pairwise_cons]
    refine ⟨fun z hz => ?_, upz_lt f (y + 1)⟩
    have := (mem_upz f (y + 1) z).1 hz
    omega
theorem upz_len : ∀ (f : Nat) (y : Int), (upz f y).length = f
  | 0, y => rfl
  | f + 1, y => by rw [upz, List.length_cons, upz_len f (y + 1)]

theorem sred_is {a b c : Int} (ha : 1 ≤ a) (haM : a ≤ 1000000) : r_spec_reIs (a, b, c) = some (decide (IsRed a b c)) := by rw [dsc_is]; exact red_is ha haM
/-- The form with two first coefficients, and whether it is a reduced form of the discriminant. -/
def cfR (d a b : Int) : Int × Int × Int := (a, b, Int.tdiv (b * b - d) (4 * a))
def okR (d : Int) (f : Int × Int × Int) : Bool := eqI (f.2.1 * f.2.1 - 4 * f.1 * f.2.2) d && decide (IsRed f.1 f.2.1 f.2.2)
def rowR (d a : Int) (n : Nat) (b : Int) : List (Int × Int × Int) := ((upz n b).map (cfR d a)).filter (okR d)
theorem rowR_fst {d a b : Int} {n : Nat} {f : Int × Int × Int} (h : f ∈ rowR d a n b) : f.1 = a := by
  unfold rowR at h
  obtain ⟨b', _, hb⟩ := List.mem_map.1 (List.mem_filter.1 h).1
  rw [← hb]; rfl
theorem tdiv_le {x m : Int} (hm : 1 ≤ m) : (Int.tdiv x m).natAbs ≤ x.natAbs := by
  rw [Int.natAbs_tdiv]
  exact Nat.div_le_self _ _
theorem rowR_run {d a : Int} (ha1 : 1 ≤ a) (ha : a ≤ 1000) (hd1 : -2000 ≤ d) (hd2 : d ≤ -3) : ∀ (m fu : Nat) (b : Int) (acc : List (Int × Int × Int)), b + m = a + 1 → -1000 ≤ b → m < fu → acc.length + m ≤ 100000000 →
    r_spec_reAll_L10 a d fu b acc = some (acc ++ rowR d a m b)
  | m, 0, b, acc, _, _, h, _ => by omega
  | 0, fu + 1, b, acc, hb, hb0, hf, hl => by
    rw [r_spec_reAll_L10, leI_eq, decide_eq_false (by omega), cond_false]
    simp [rowR, upz]
  | m + 1, fu + 1, b, acc, hb, hb0, hf, hl => by
    rw [r_spec_reAll_L10, leI_eq, decide_eq_true (by omega), cond_true]
    have b1 := abs_mul (x := b) (y := b) (A := 1000) (B := 1000) (by omega) (by omega)
    have e4 : w64 (4 * a) = 4 * a := w64_in (by omega)
    have e5 : w64 (w64 (b * b) - d) = b * b - d := by rw [w64_abs (n := b * b) (by omega), w64_abs (by omega)]
    have q1 := tdiv_le (x := b * b - d) (m := 4 * a) (by omega)
    generalize hc : Int.tdiv (b * b - d) (4 * a) = c at q1
    have b2 := abs_mul (x := 4 * a) (y := c) (A := 4000) (B := 1002000) (by omega) (by omega)
    have ed : r_spec_foDisc (a, b, c) = some (b * b - 4 * a * c) := by
      simp only [r_spec_foDisc, sI_eq]
      rw [w64_abs (n := b * b) (by omega), e4, w64_abs (n := 4 * a * c) (by omega), w64_abs (by omega)]
    have ew : w64 (b + 1) = b + 1 := w64_in (by omega)
    have hcf : cfR d a b = (a, b, c) := by unfold cfR; rw [hc]
    rw [e4, nzOk (by omega), e5, hc, w64_abs (n := c) (by omega)]
    simp only [Option.bind_some, sI_eq, ed, sred_is ha1 (show a ≤ 1000000 by omega), ew]
    have hrow : rowR d a (m + 1) b = (if okR d (a, b, c) then [(a, b, c)] else []) ++ rowR d a m (b + 1) := by
      unfold rowR
      rw [upz, List.map_cons, List.filter_cons, hcf]
      cases okR d (a, b, c) <;> simp
    rw [hrow]
    unfold okR
    dsimp only
    cases h1 : eqI (b * b - 4 * a * c) d with
    | true =>
      rw [cond_true]
      simp only [Option.bind_some, Bool.true_and]
      cases h2 : decide (IsRed a b c) with
      | true =>
        rw [cond_true, roomOk (by simp; omega)]
        simp only [Option.bind_some]
        rw [rowR_run ha1 ha hd1 hd2 m fu (b + 1) _ (by omega) (by omega) (by omega) (by simp; omega)]
        simp
      | false =>
        rw [cond_false]
        rw [rowR_run ha1 ha hd1 hd2 m fu (b + 1) _ (by omega) (by omega) (by omega) (by omega)]
        simp
    | false =>
      rw [cond_false]
      simp only [Option.bind_some, Bool.false_and, cond_false]
      rw [rowR_run ha1 ha hd1 hd2 m fu (b + 1) _ (by omega) (by omega) (by omega) (by omega)]
      simp
theorem sq_mono {a b : Int} (h0 : 0 ≤ a) (h : a ≤ b) : a * a ≤ b * b := Int.mul_le_mul h h h0 (by omega)
/-- The forms whose first coefficient is a or greater, by their first coefficients. -/
theorem allR_run {d : Int} (hd1 : -2000 ≤ d) (hd2 : d ≤ -3) : ∀ (m fu : Nat) (a : Int) (acc : List (Int × Int × Int)), 1 ≤ a → a + m = 27 → m < fu → (acc.length : Int) ≤ 1000 * a →
    ∃ L, r_spec_reAll_L4 d fu a acc = some (acc ++ L) ∧ (L.length : Int) + 1000 * a ≤ 28000 ∧ (∀ f, f ∈ L ↔ a ≤ f.1 ∧ 3 * f.1 * f.1 ≤ -d ∧ f ∈ rowR d f.1 (2 * f.1).toNat (1 - f.1)) ∧ ∃ as : List Int, as.Pairwise (· < ·) ∧ (∀ x ∈ as, a ≤ x ∧ x ≤ 26) ∧ L = as.flatMap fun a => rowR d a (2 * a).toNat (1 - a)
  | m, 0, a, acc, _, _, h, _ => by omega
  | m, fu + 1, a, acc, ha, hm, hf, hl => by
    have b1 := abs_mul (x := 3 * a) (y := a) (A := 81) (B := 27) (by omega) (by omega)
    have e1 : w64 (w64 (3 * a) * a) = 3 * a * a := by rw [w64_in (n := 3 * a) (by omega), w64_abs (by omega)]
    have e2 : w64 (0 - d) = -d := by rw [w64_in (by omega)]; omega
    rw [r_spec_reAll_L4, e1, e2, leI_eq]
    by_cases h : 3 * a * a ≤ -d
    · have ha2 : a ≤ 26 := by
        rcases Int.lt_or_le 26 a with h2 | h2
        · have h3 := sq_mono (a := 27) (b := a) (by omega) (by omega)
          have e : 3 * a * a = 3 * (a * a) := by grind
          omega
        · exact h2
      obtain ⟨m', rfl⟩ : ∃ m', m = m' + 1 := ⟨m - 1, by omega⟩
      have hF := FUge
      rw [decide_eq_true h, cond_true, w64_in (n := 1 - a) (by omega), w64_in (n := a + 1) (by omega)]
      simp only [sI_eq]
      rw [rowR_run ha (by omega) hd1 hd2 (2 * a).toNat FU (1 - a) acc (by omega) (by omega) (by omega) (by omega)]
      simp only [Option.bind_some]
      have hrl : (rowR d a (2 * a).toNat (1 - a)).length ≤ (2 * a).toNat := by
        unfold rowR
        refine Nat.le_trans (List.length_filter_le _ _) ?_
        rw [List.length_map, upz_len]
        exact Nat.le_refl _
      obtain ⟨L, k1, k2, k3, as, k4, k5, k6⟩ := allR_run hd1 hd2 m' fu (a + 1) (acc ++ rowR d a (2 * a).toNat (1 - a)) (by omega) (by omega) (by omega) (by rw [List.length_append]; omega)
      refine ⟨rowR d a (2 * a).toNat (1 - a) ++ L, by rw [k1, List.append_assoc], by rw [List.length_append]; omega, fun f => ?_, a :: as, ?_, ?_, ?_⟩
      · rw [List.mem_append, k3]
        constructor
        · rintro (h1 | ⟨h1, h2, h3⟩)
          · rw [rowR_fst h1]
            exact ⟨Int.le_refl _, h, h1⟩
          · exact ⟨by omega, h2, h3⟩
        · rintro ⟨h1, h2, h3⟩
          by_cases hfa : f.1 = a
          · rw [hfa] at h3; exact .inl h3
          · exact .inr ⟨by omega, h2, h3⟩
      · rw [List.pairwise_cons]
        exact ⟨fun x hx => by have := k5 x hx; omega, k4⟩
      · intro x hx
        rcases List.mem_cons.1 hx with e | e
        · omega
        · have := k5 x e; omega
      · rw [List.flatMap_cons, k6]
    · rw [decide_eq_false h, cond_false]
      refine ⟨[], by simp, by simp; omega, fun f => ?_, [], List.Pairwise.nil, fun x hx => (by cases hx), rfl⟩
      refine ⟨fun hf => (by cases hf), fun hf => ?_⟩
      obtain ⟨h1, h2, h3⟩ := hf
      exfalso
      have h4 := sq_mono (a := a) (b := f.1) (by omega) h1
      have e3 : 3 * a * a = 3 * (a * a) := by grind
      have e4 : 3 * f.1 * f.1 = 3 * (f.1 * f.1) := by grind
      omega
theorem tgcd_run : ∀ (k n : Nat) (a b : Int), 0 ≤ a → 0 ≤ b → b.natAbs < 2 ^ k → 2 * k + 1 ≤ n → ∃ r, r_spec_nuGcd_L7 n a b = some r ∧ r.natAbs = Int.gcd a b ∧ 0 ≤ r
  | k, 0, a, b, _, _, _, hn => by omega
  | 0, n + 1, a, b, ha, hb0, hb, hn => by
    have : b = 0 := by simp at hb; omega
    subst this
    unfold r_spec_nuGcd_L7
    rw [eqI_true]
    exact ⟨a, rfl, by simp, ha⟩
  | k + 1, n + 1, a, b, ha, hb0, hb, hn => by
    unfold r_spec_nuGcd_L7
    by_cases h0 : b = 0
    · subst h0
      rw [eqI_true]
      exact ⟨a, rfl, by simp, ha⟩
    · rw [eqI_false h0, nz_ne h0]
      simp only [Bool.not_false, cond_true, Option.bind_some, sI_eq]
      rw [← igcd_step a b]
      match n, hn with
      | n + 1, hn =>
        unfold r_spec_nuGcd_L7
        by_cases h1 : a.tmod b = 0
        · rw [h1, eqI_true]
          exact ⟨b, rfl, by simp, hb0⟩
        · rw [eqI_false h1, nz_ne h1]
          simp only [Bool.not_false, cond_true, Option.bind_some, sI_eq]
          rw [← igcd_step b (a.tmod b)]
          refine tgcd_run k n _ _ (Int.tmod_nonneg _ ha) (Int.tmod_nonneg _ hb0) ?_ (by omega)
          rw [Int.natAbs_tmod]
          have h2 : (a.tmod b).natAbs < b.natAbs := by rw [Int.natAbs_tmod]; exact Nat.mod_lt _ (by omega)
          exact gcd_two k (by omega) h2 hb
theorem tgcd_val {a b : Int} (ha : a.natAbs ≤ 9223372036854775806) (hb : b.natAbs ≤ 9223372036854775806) : r_spec_nuGcd a b = some (Int.gcd a b : Int) := by
  obtain ⟨r, h1, h2, h3⟩ := tgcd_run 64 FU (a.natAbs : Int) (b.natAbs : Int) (by omega) (by omega) (by omega) (FU_succ 129 (by decide))
  rw [natAbs_natAbs] at h2
  simp only [r_spec_nuGcd, sabs_val ha, sabs_val hb, Option.bind_some, h1]
  congr 1
  omega
theorem tcontent_val {a b c : Int} (ha : inN a = true) (hb : inN b = true) (hc : inN c = true) : r_spec_foContent (a, b, c) = some (Int.gcd a (Int.gcd b c) : Int) := by
  rw [inN_iff] at ha hb hc
  have h := gcd_le (a := a) (b := b) (M := 1000000) (by omega) (by omega)
  simp only [r_spec_foContent, tgcd_val (a := a) (b := b) (by omega) (by omega), Option.bind_some]
  rw [tgcd_val (by omega) (by omega), Option.bind_some]
  congr 2
  unfold Int.gcd
  simp [Nat.gcd_assoc]
theorem redlist_run {l : List (Int × Int × Int)} (hl : l.length ≤ 1000000) (hb : ∀ f ∈ l, inN f.1 = true ∧ inN f.2.1 = true ∧ inN f.2.2 = true) : ∀ (fu k : Nat) (acc : List (Int × Int × Int)), k ≤ l.length → l.length - k < fu → acc.length ≤ k →
    r_spec_reList_L5 l fu (k : Int) acc = some (acc ++ (l.drop k).filter fun f => eqI (Int.gcd f.1 (Int.gcd f.2.1 f.2.2) : Int) 1)
  | 0, k, acc, h0, h1, h2 => by omega
  | fu + 1, k, acc, h0, h1, h2 => by
    rw [r_spec_reList_L5]
    rw [ltI_eq]
    by_cases hk : k < l.length
    · obtain ⟨c1, c2, c3⟩ := hb (l[k]) (List.getElem_mem hk)
      have hcon : r_spec_foContent l[k] = some (Int.gcd l[k].1 (Int.gcd l[k].2.1 l[k].2.2) : Int) := tcontent_val c1 c2 c3
      rw [decide_eq_true (by omega), cond_true, getNat hk, List.drop_eq_getElem_cons hk, List.filter_cons]
      simp only [Option.bind_some, hcon, sI_eq, wsucc (show k < 1000000000 by omega)]
      cases eqI (Int.gcd l[k].1 (Int.gcd l[k].2.1 l[k].2.2) : Int) 1 with
      | true =>
        rw [cond_true, roomOk (by simp; omega), if_pos rfl]
        simp only [Option.bind_some]
        rw [redlist_run hl hb fu (k + 1) _ (by omega) (by omega) (by simp; omega)]
        simp
      | false =>
        rw [cond_false, if_neg (by simp)]
        exact redlist_run hl hb fu (k + 1) acc (by omega) (by omega) (by omega)
    · rw [decide_eq_false (by omega), cond_false, List.drop_eq_nil_of_le (by omega)]
      simp
/-- A primitive reduced form of the discriminant. -/
def PrR (d : Int) (f : Int × Int × Int) : Prop := 1 ≤ f.1 ∧ IsRed f.1 f.2.1 f.2.2 ∧ f.2.1 * f.2.1 - 4 * f.1 * f.2.2 = d ∧ Int.gcd f.1 (Int.gcd f.2.1 f.2.2) = 1
theorem red_sq {a b c d : Int} (ha : 1 ≤ a) (h : IsRed a b c) (hd : b * b - 4 * a * c = d) : 3 * a * a ≤ -d := by
  have h1 : b * b ≤ a * a := by
    obtain ⟨⟨h2, h3⟩, _⟩ := h
    rcases Int.le_total 0 b with h4 | h4
    · exact sq_mono h4 h3
    · have := sq_mono (a := -b) (b := a) (by omega) (by omega)
      have e : (-b) * (-b) = b * b := by grind
      omega
  have h5 : a ≤ c := by
    obtain ⟨_, h6⟩ := h
    omega
  have h7 : 4 * a * a ≤ 4 * a * c := Int.mul_le_mul_of_nonneg_left h5 (by omega)
  have e : 4 * a * a = 4 * (a * a) := by grind
  have e2 : 3 * a * a = 3 * (a * a) := by grind
  omega
theorem row_mem {d : Int} {f : Int × Int × Int} (hd1 : -2000 ≤ d) (hd2 : d ≤ -3) : (1 ≤ f.1 ∧ 3 * f.1 * f.1 ≤ -d ∧ f ∈ rowR d f.1 (2 * f.1).toNat (1 - f.1)) ↔ (1 ≤ f.1 ∧ IsRed f.1 f.2.1 f.2.2 ∧ f.2.1 * f.2.1 - 4 * f.1 * f.2.2 = d) := by
  obtain ⟨a, b, c⟩ := f
  unfold rowR
  rw [List.mem_filter, List.mem_map]
  constructor
  · rintro ⟨h1, h2, ⟨b', h3, h4⟩, h5⟩
    unfold okR at h5
    rw [Bool.and_eq_true, decide_eq_true_eq, eqI_eq, beq_iff_eq] at h5
    exact ⟨h1, h5.2, h5.1⟩
  · rintro ⟨h1, h2, h3⟩
    have h1' : 1 ≤ a := h1
    have h2' : IsRed a b c := h2
    have h3' : b * b - 4 * a * c = d := h3
    refine ⟨h1, red_sq h1' h2' h3', ⟨b, (mem_upz _ _ _).2 ⟨?_, ?_⟩, ?_⟩, ?_⟩
    · obtain ⟨⟨h4, h5⟩, _⟩ := h2'
      show 1 - a ≤ b
      omega
    · obtain ⟨⟨h4, h5⟩, _⟩ := h2'
      show b < 1 - a + ((2 * a).toNat : Int)
      omega
    · unfold cfR
      have e : b * b - d = 4 * a * c := by omega
      show (a, b, Int.tdiv (b * b - d) (4 * a)) = (a, b, c)
      rw [e, Int.mul_tdiv_cancel_left _ (by omega)]
    · unfold okR
      rw [Bool.and_eq_true, decide_eq_true_eq, eqI_eq, beq_iff_eq]
      exact ⟨h3, h2⟩
theorem relist_val {d : Int} (hd1 : -2000 ≤ d) (hd2 : d ≤ -3) : ∃ L, r_spec_reList d = some L ∧ L.length ≤ 27000 ∧ (∀ f, f ∈ L ↔ PrR d f) ∧ L.Nodup := by
  have hF := FUge
  obtain ⟨L, k1, k2, k3, as, k4, k5, k6⟩ := allR_run hd1 hd2 26 FU 1 [] (by omega) (by omega) (by omega) (by simp)
  rw [List.nil_append] at k1
  have hLl : L.length ≤ 27000 := by omega
  have hmem : ∀ f ∈ L, 1 ≤ f.1 ∧ IsRed f.1 f.2.1 f.2.2 ∧ f.2.1 * f.2.1 - 4 * f.1 * f.2.2 = d := fun f hf => (row_mem hd1 hd2).1 ((k3 f).1 hf)
  have hbd : ∀ f ∈ L, inN f.1 = true ∧ inN f.2.1 = true ∧ inN f.2.2 = true := by
    intro f hf
    obtain ⟨h1, h2, h3⟩ := hmem f hf
    have h4 := red_sq h1 h2 h3
    obtain ⟨⟨h5, h6⟩, h7⟩ := h2
    have ha : f.1 ≤ 26 := by
      rcases Int.lt_or_le 26 f.1 with h8 | h8
      · have := sq_mono (a := 27) (b := f.1) (by omega) (by omega)
        have e : 3 * f.1 * f.1 = 3 * (f.1 * f.1) := by grind
        omega
      · exact h8
    have hb := abs_mul (x := f.2.1) (y := f.2.1) (A := 26) (B := 26) (by omega) (by omega)
    have hc : f.2.2 ≤ 1000 := by
      have h9 : 4 * 1 * f.2.2 ≤ 4 * f.1 * f.2.2 := by
        have : 4 * 1 * f.2.2 ≤ (4 * f.1) * f.2.2 := Int.mul_le_mul_of_nonneg_right (by omega) (by omega)
        exact this
      omega
    rw [inN_iff, inN_iff, inN_iff]
    omega
  have h2 := redlist_run (l := L) (by omega) hbd FU 0 [] (by omega) (by omega) (by simp)
  rw [List.nil_append, List.drop_zero] at h2
  refine ⟨_, by simp only [r_spec_reList, r_spec_reAll, k1, Option.bind_some]; exact congrArg (fun z => z.bind fun o => some o) h2, Nat.le_trans (List.length_filter_le _ _) hLl, fun f => ?_, ?_⟩
  · rw [List.mem_filter, k3, row_mem hd1 hd2, eqI_eq, beq_iff_eq]
    unfold PrR
    constructor
    · rintro ⟨⟨a1, a2, a3⟩, a4⟩
      exact ⟨a1, a2, a3, by omega⟩
    · rintro ⟨a1, a2, a3, a4⟩
      exact ⟨⟨a1, a2, a3⟩, by omega⟩
  · refine List.Pairwise.filter _ ?_
    rw [k6]
    have hrow : ∀ a : Int, (rowR d a (2 * a).toNat (1 - a)).Nodup := by
      intro a
      unfold rowR
      refine List.Pairwise.filter _ ?_
      rw [List.pairwise_map]
      refine (upz_lt (2 * a).toNat (1 - a)).imp ?_
      intro x y hxy e
      have := congrArg (fun f : Int × Int × Int => f.2.1) e
      simp only [cfR] at this
      omega
    rw [List.pairwise_flatMap]
    refine ⟨fun a _ => hrow a, k4.imp ?_⟩
    intro x y hxy f hf g hg e
    have fx := rowR_fst hf
    have gy := rowR_fst hg
    rw [e] at fx
    omega
theorem prin_red {d : Int} (hd1 : -2000 ≤ d) (hd2 : d ≤ -3) (h4 : d % 4 ≤ 1) : PrR d (1, d % 2, (d % 2 - d) / 4) := by
  have e : (d % 2) * (d % 2) = d % 2 := by
    rcases (by omega : d % 2 = 0 ∨ d % 2 = 1) with h | h <;> rw [h] <;> rfl
  refine ⟨Int.le_refl 1, ⟨⟨?_, ?_⟩, ?_⟩, ?_, ?_⟩
  · show -1 < d % 2; omega
  · show d % 2 ≤ 1; omega
  · show 1 < (d % 2 - d) / 4 ∨ (1 = (d % 2 - d) / 4 ∧ 0 ≤ d % 2)
    omega
  · show d % 2 * (d % 2) - 4 * 1 * ((d % 2 - d) / 4) = d
    rw [e]
    omega
  · simp
end Go.Proofs.YtnheekadeflecaaGreat
