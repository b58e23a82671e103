/-
  Primes and genera: the forms that represent a prime, both ways.
  Conditions: none.
-/
import Derived.Test.YtpfnhgpepgeaiaaPgThB
import Derived.Test.YtpfnhgpepgeaiaaPgRlJ
import Derived.Test.YtpfnhgpepgeaiaaPgPgT0
namespace Go.Proofs.Ytpfnhgpepgeaiaa
set_option linter.unusedVariables false
set_option linter.unusedSimpArgs false

abbrev F3 := Int × Int × Int
/-! ### Genera -/
theorem sv_run (x y : List Int) (hl : x.length = y.length) (hx : x.length ≤ 1000000) : ∀ (k fu t : Nat), t + k = x.length → k < fu → (∀ j, j < t → x[j]? = y[j]?) →
    (r_impl_sameValues_L5 x y fu (t : Int) = some (.inl ()) ∧ x = y) ∨ (r_impl_sameValues_L5 x y fu (t : Int) = some (.inr false) ∧ x ≠ y)
  | k, 0, t, _, hf, _ => by omega
  | 0, fu + 1, t, ht, hf, hj => by
    left
    rw [r_impl_sameValues_L5, ltI_eq, decide_eq_false (by omega), cond_false]
    refine ⟨rfl, List.ext_getElem? fun i => ?_⟩
    by_cases hi : i < t
    · exact hj i hi
    · rw [List.getElem?_eq_none (by omega), List.getElem?_eq_none (by omega)]
  | k + 1, fu + 1, t, ht, hf, hj => by
    have h1 : t < x.length := by omega
    have h2 : t < y.length := by omega
    rw [r_impl_sameValues_L5, ltI_eq, decide_eq_true (by omega), cond_true, getNat h1, getNat h2]
    simp only [Option.bind_some, sI_eq, wsucc (show t < 1000000000 by omega)]
    by_cases h : y[t] = x[t]
    · rw [h, eqSelf]
      exact sv_run x y hl hx k fu (t + 1) (by omega) (by omega) fun j hh => by
        by_cases e : j = t
        · subst e; rw [List.getElem?_eq_getElem h1, List.getElem?_eq_getElem h2, h]
        · exact hj j (by omega)
    · right
      rw [eqNe h]
      refine ⟨rfl, fun e => h ?_⟩
      subst e
      rfl
theorem sv_val (x y : List Int) (hx : x.length ≤ 1000000) : r_impl_sameValues x y = some (decide (x = y)) := by
  have hFU : FU = 1000000000 := rfl
  unfold r_impl_sameValues
  by_cases hl : x.length = y.length
  · rw [hl, eqSelf]
    rcases sv_run x y hl hx x.length FU 0 (by omega) (by omega) (fun j h => by omega) with ⟨h1, h2⟩ | ⟨h1, h2⟩
    · have e0 : (((0 : Nat) : Int)) = 0 := rfl
      rw [e0] at h1
      rw [h1, decide_eq_true h2]
      rfl
    · have e0 : (((0 : Nat) : Int)) = 0 := rfl
      rw [e0] at h1
      rw [h1, decide_eq_false h2]
      rfl
  · rw [eqNe (by omega), decide_eq_false (fun e => hl (by rw [e]))]
    rfl
/-- The values of a form's genus. -/
def gv (f : F3) : List Int := (r_impl_genusValues f).getD []
structure GvOk (L : List F3) : Prop where
  s : ∀ f ∈ L, r_impl_genusValues f = some (gv f)
  l : ∀ f ∈ L, (gv f).length ≤ 1000
def cls (L : List F3) (c : List Int) : List F3 := L.filter fun g => decide (gv g = c)
theorem gw_run {L : List F3} (h : GvOk L) (c : List Int) (hL : L.length ≤ 100000) : ∀ (k fu t : Nat), t + k = L.length → k < fu → r_impl_genusWith_L6 c L fu (t : Int) (cls (L.take t) c) = some (cls L c)
  | k, 0, t, _, hf => by omega
  | 0, fu + 1, t, ht, hf => by
    rw [r_impl_genusWith_L6, ltI_eq, decide_eq_false (by omega), cond_false, List.take_of_length_le (by omega)]
  | k + 1, fu + 1, t, ht, hf => by
    have hlt : t < L.length := by omega
    have hm := List.getElem_mem hlt
    have hcl : cls (L.take (t + 1)) c = cls (L.take t) c ++ (if gv L[t] = c then [L[t]] else []) := by
      unfold cls
      rw [List.take_add_one, List.getElem?_eq_getElem hlt, List.filter_append]
      congr 1
      show List.filter _ [L[t]] = _
      rw [List.filter_cons]
      by_cases e : gv L[t] = c <;> simp [e]
    have hle : (cls (L.take t) c).length ≤ t := by
      unfold cls
      refine Nat.le_trans (List.length_filter_le _ _) ?_
      rw [List.length_take]; omega
    rw [r_impl_genusWith_L6, ltI_eq, decide_eq_true (by omega), cond_true, getNat hlt]
    simp only [Option.bind_some, h.s _ hm, sv_val _ _ (Nat.le_trans (h.l _ hm) (by omega)), sI_eq, wsucc (show t < 1000000000 by omega)]
    by_cases e : gv L[t] = c
    · rw [decide_eq_true e, cond_true, roomOk (by simp; omega)]
      rw [if_pos e] at hcl
      simp only [Option.bind_some]
      rw [← hcl]
      exact gw_run h c hL k fu (t + 1) (by omega) (by omega)
    · rw [decide_eq_false e, cond_false]
      rw [if_neg e, List.append_nil] at hcl
      rw [← hcl]
      exact gw_run h c hL k fu (t + 1) (by omega) (by omega)
theorem gw_val {d : Int} {L : List F3} (hd : r_impl_reducedForms d = some L) (h : GvOk L) (c : List Int) (hL : L.length ≤ 100000) : r_impl_genusWith d c = some (cls L c) := by
  have hFU := FUge
  have := gw_run h c hL L.length FU 0 (by omega) (by omega)
  have e0 : (((0 : Nat) : Int)) = 0 := rfl
  rw [e0] at this
  have e1 : cls (L.take 0) c = [] := rfl
  rw [e1] at this
  simp only [r_impl_genusWith, hd, this, Option.bind_some]
theorem shown_form {d : Int} (hd1 : -2000 ≤ d) (hd2 : d ≤ -3) {f : F3} (h : PrR d f) : r_impl_isShownForm f = some true := by
  obtain ⟨b1, b2⟩ := (rf_prr hd1 hd2 h).big
  obtain ⟨a, b, c⟩ := f
  obtain ⟨h1, h2, h3, h4⟩ := h
  dsimp only at h1 h2 h3 h4 b1 b2
  obtain ⟨⟨i1, i2⟩, i3⟩ := h2
  have ha : inN a = true := inN_iff.2 (by omega)
  have hb : inN b = true := inN_iff.2 (by omega)
  have hc : inN c = true := inN_iff.2 (by omega)
  have hdv := disc_val ha hb hc
  rw [h3] at hdv
  simp only [r_impl_isShownForm, r_impl_isDefinite, form_val, ha, hb, hc, Bool.and_true, Option.bind_some, hdv, cond_true, ltI_eq, leI_eq, decide_eq_true (show d < 0 by omega), decide_eq_true (show 0 < a by omega), decide_eq_true hd1]
theorem class_form {d : Int} (hd1 : -2000 ≤ d) (hd2 : d ≤ -3) {f : F3} (h : PrR d f) : r_impl_isClassForm f = some true ∧ r_impl_Form_disc f = some d := by
  obtain ⟨b1, b2⟩ := (rf_prr hd1 hd2 h).big
  obtain ⟨a, b, c⟩ := f
  obtain ⟨h1, h2, h3, h4⟩ := h
  dsimp only at h1 h2 h3 h4 b1 b2
  obtain ⟨⟨i1, i2⟩, i3⟩ := h2
  have ha : inN a = true := inN_iff.2 (by omega)
  have hb : inN b = true := inN_iff.2 (by omega)
  have hc : inN c = true := inN_iff.2 (by omega)
  have hdv := disc_val ha hb hc
  rw [h3] at hdv
  refine ⟨?_, hdv⟩
  simp only [r_impl_isClassForm, r_impl_isShownForm, r_impl_isDefinite, form_val, ha, hb, hc, Bool.and_true, Option.bind_some, hdv, cond_true, content_val ha hb hc, h4, ltI_eq, leI_eq, decide_eq_true (show d < 0 by omega), decide_eq_true (show 0 < a by omega), decide_eq_true hd1]
  rfl
theorem cls_mem {L : List F3} {c : List Int} {x : F3} (h : x ∈ cls L c) : x ∈ L ∧ gv x = c := ⟨(List.mem_filter.1 h).1, of_decide_eq_true (List.mem_filter.1 h).2⟩
/-! ### Values as bits -/
abbrev R3 := (Int × Int × Int) × List Int × Nat
theorem rY_bit {A B C x : Int} (hnn : ∀ y, 0 ≤ vT A B C (x, y)) {p : Nat} (hp : p ≤ 1000) : ∀ (k : Nat) (y : Int) (acc : Nat), (rY A B C x k y acc).testBit p = true ↔ acc.testBit p = true ∨ ∃ y', y ≤ y' ∧ y' < y + k ∧ vT A B C (x, y') = p
  | 0, y, acc => by
    constructor
    · intro h; exact .inl h
    · rintro (h | ⟨y', h1, h2, _⟩)
      · exact h
      · simp at h2; omega
  | k + 1, y, acc => by
    have hv := hnn y
    rw [rY, sI_eq, sI_eq]
    have e : A * x * x + B * x * y + C * y * y = vT A B C (x, y) := rfl
    rw [e, leI_eq]
    by_cases hle : vT A B C (x, y) ≤ 1000
    · rw [decide_eq_true hle, cond_true, fQ_eq, rY_bit hnn hp k (y + 1)]
      have eb : (Nat.lor acc (Nat.pow 2 (vT A B C (x, y)).toNat)).testBit p = (acc.testBit p || decide ((vT A B C (x, y)).toNat = p)) := by
        show (acc ||| 2 ^ (vT A B C (x, y)).toNat).testBit p = _
        rw [Nat.testBit_or, Nat.testBit_two_pow]
      rw [eb, Bool.or_eq_true, decide_eq_true_iff]
      constructor
      · rintro ((h | h) | ⟨y', h1, h2, h3⟩)
        · exact .inl h
        · exact .inr ⟨y, by omega, by omega, by omega⟩
        · exact .inr ⟨y', by omega, by omega, h3⟩
      · rintro (h | ⟨y', h1, h2, h3⟩)
        · exact .inl (.inl h)
        · by_cases hy : y' = y
          · subst hy; exact .inl (.inr (by omega))
          · exact .inr ⟨y', by omega, by omega, h3⟩
    · rw [decide_eq_false hle, cond_false, rY_bit hnn hp k (y + 1)]
      constructor
      · rintro (h | ⟨y', h1, h2, h3⟩)
        · exact .inl h
        · exact .inr ⟨y', by omega, by omega, h3⟩
      · rintro (h | ⟨y', h1, h2, h3⟩)
        · exact .inl h
        · by_cases hy : y' = y
          · subst hy; omega
          · exact .inr ⟨y', by omega, by omega, h3⟩
theorem rX_bit {A B C : Int} (hnn : ∀ q, 0 ≤ vT A B C q) {p : Nat} (hp : p ≤ 1000) (g : Nat) : ∀ (k : Nat) (x : Int) (acc : Nat), (rX A B C g k x acc).testBit p = true ↔ acc.testBit p = true ∨ ∃ (x' y' : Int), (x ≤ x' ∧ x' < x + k) ∧ (0 ≤ y' ∧ y' < g) ∧ vT A B C (x', y') = p
  | 0, x, acc => by
    constructor
    · intro h; exact .inl h
    · rintro (h | ⟨x', y', h1, _⟩)
      · exact h
      · simp at h1; omega
  | k + 1, x, acc => by
    rw [rX, sI_eq, fQ_eq, rX_bit hnn hp g k (x + 1), rY_bit (fun y => hnn _) hp]
    constructor
    · rintro ((h | ⟨y', h1, h2, h3⟩) | ⟨x', y', h1, h2, h3⟩)
      · exact .inl h
      · exact .inr ⟨x, y', by omega, by omega, h3⟩
      · exact .inr ⟨x', y', by omega, h2, h3⟩
    · rintro (h | ⟨x', y', h1, h2, h3⟩)
      · exact .inl (.inl h)
      · by_cases hx : x' = x
        · subst hx; exact .inl (.inr ⟨y', by omega, by omega, h3⟩)
        · exact .inr ⟨x', y', by omega, h2, h3⟩
theorem in_box {A : Int} {X : Nat} (hA : 1 ≤ A) (h : bOk A.toNat X = true) {x : Int} (hx : 3 * (A * (x * x)) ≤ 3988) : -(X : Int) ≤ x ∧ x ≤ X := by
  replace h : 3989 ≤ 3 * A.toNat * ((X + 1) * (X + 1)) := Nat.le_of_ble_eq_true h
  have key : ∀ z : Int, (X : Int) + 1 ≤ z → z * z = x * x → False := by
    intro z hz e
    have h1 : ((X : Int) + 1) * ((X : Int) + 1) ≤ z * z := sq_mono (by omega) hz
    have h2 : A * (((X : Int) + 1) * ((X : Int) + 1)) ≤ A * (z * z) := Int.mul_le_mul_of_nonneg_left h1 (by omega)
    have h3 : (3989 : Int) ≤ 3 * A * (((X : Int) + 1) * ((X : Int) + 1)) := by
      have e0 : A = (A.toNat : Int) := by omega
      generalize A.toNat = n at h e0
      subst e0
      have e : ((3 * n * ((X + 1) * (X + 1)) : Nat) : Int) = 3 * (n : Int) * (((X : Int) + 1) * ((X : Int) + 1)) := by
        rw [Int.natCast_mul, Int.natCast_mul, Int.natCast_mul, Int.natCast_add]
        rfl
      rw [← e]
      exact Int.ofNat_le.2 h
    have e3 : 3 * A * (((X : Int) + 1) * ((X : Int) + 1)) = 3 * (A * (((X : Int) + 1) * ((X : Int) + 1))) := by grind
    rw [e] at h2
    omega
  constructor
  · rcases Int.lt_or_le x (-(X : Int)) with h1 | h1
    · exact (key (-x) (by omega) (by grind)).elim
    · exact h1
  · rcases Int.lt_or_le (X : Int) x with h1 | h1
    · exact (key x (by omega) rfl).elim
    · exact h1
def Rep (f : F3) (p : Nat) : Prop := ∃ q, vT f.1 f.2.1 f.2.2 q = (p : Int)
theorem bit_iff {A B C : Int} (h : Rf A B C) {X Y : Nat} (hX : bOk A.toNat X = true) (hY : bOk C.toNat Y = true) {p : Nat} (hp : p ≤ 997) : (rX A B C (Nat.succ Y) (Nat.succ (Nat.mul 2 X)) (-(X : Int)) 0).testBit p = true ↔ Rep (A, B, C) p := by
  have hA := h.a1
  have hC : 1 ≤ C := by have := h.ac; omega
  have e1 : Nat.succ (Nat.mul 2 X) = 2 * X + 1 := rfl
  rw [rX_bit h.nn (by omega), e1]
  constructor
  · rintro (hz | ⟨x, y, _, _, h3⟩)
    · simp at hz
    · exact ⟨(x, y), h3⟩
  · rintro ⟨⟨x, y⟩, hq⟩
    right
    obtain ⟨k1, k2⟩ := h.key (x, y)
    have hq : vT A B C (x, y) = (p : Int) := hq
    rw [hq] at k1 k2
    have b1 := in_box hA hX (x := x) (by dsimp only at k1; omega)
    have b2 := in_box hC hY (x := y) (by dsimp only at k2; omega)
    by_cases hy : 0 ≤ y
    · exact ⟨x, y, by omega, by omega, hq⟩
    · refine ⟨-x, -y, by omega, by omega, ?_⟩
      rw [← hq]
      unfold vT
      grind
/-- What a record tells. -/
structure Rc (r : R3) : Prop where
  g : r_impl_genusValues r.1 = some r.2.1
  l : r.2.1.length ≤ 1000
  b : ∀ p, p ≤ 997 → (r.2.2.testBit p = true ↔ Rep r.1 p)
theorem rec1_val {d : Int} (hd1 : -2000 ≤ d) (hd2 : d ≤ -3) {f : F3} (hp : PrR d f) {r : R3} (h : rec1 f = some r) : r.1 = f ∧ Rc r := by
  unfold rec1 at h
  cases hv : r_impl_genusValues f with
  | none => rw [hv] at h; cases h
  | some v =>
    rw [hv] at h
    dsimp only at h
    cases hl : Nat.ble v.length 1000 with
    | false => rw [hl] at h; cases h
    | true =>
      rw [hl, cond_true, fQ_eq, fQ_eq] at h
      generalize xb f.1.toNat 40 0 = X at h
      generalize xb f.2.2.toNat 40 0 = Y at h
      cases hb : (bOk f.1.toNat X && bOk f.2.2.toNat Y) with
      | false => rw [hb] at h; cases h
      | true =>
        rw [hb, cond_true, fQ_eq] at h
        rw [Bool.and_eq_true] at hb
        have h := some_inj h
        subst h
        exact ⟨rfl, hv, Nat.le_of_ble_eq_true hl, fun p hp' => bit_iff (rf_prr hd1 hd2 hp) hb.1 hb.2 hp'⟩
theorem recs_val {d : Int} (hd1 : -2000 ≤ d) (hd2 : d ≤ -3) : ∀ (L : List F3) (rs : List R3), (∀ f ∈ L, PrR d f) → recs L = some rs → rs.map (·.1) = L ∧ ∀ r ∈ rs, Rc r
  | [], rs, _, h => by
    have h : some [] = some rs := h
    rw [← some_inj h]
    exact ⟨rfl, fun r hr => by cases hr⟩
  | f :: l, rs, hp, h => by
    unfold recs at h
    cases h1 : rec1 f with
    | none => rw [h1] at h; cases h
    | some r =>
      rw [h1] at h
      dsimp only at h
      cases h2 : recs l with
      | none => rw [h2] at h; cases h
      | some rs' =>
        rw [h2] at h
        have h := some_inj h
        subst h
        obtain ⟨k1, k2⟩ := rec1_val hd1 hd2 (hp f List.mem_cons_self) h1
        obtain ⟨k3, k4⟩ := recs_val hd1 hd2 l rs' (fun g hg => hp g (List.mem_cons_of_mem _ hg)) h2
        refine ⟨by rw [List.map_cons, k1, k3], fun x hx => ?_⟩
        rcases List.mem_cons.1 hx with e | e
        · rw [e]; exact k2
        · exact k4 x e
/-! ### The points of a prime -/
theorem pQ_sq : ∀ p ∈ pQ, 3 ≤ p ∧ p ≤ 997 ∧ p % 2 = 1 ∧ ∀ g, g < 32 → p % (g * g) = 0 → g = 1 := by decide +kernel
theorem prim_pt {p : Nat} (hp : p ∈ pQ) {A B C x y : Int} (h : vT A B C (x, y) = (p : Int)) : Int.gcd x y = 1 := by
  obtain ⟨h1, h2, _, h3⟩ := pQ_sq p hp
  obtain ⟨u, hu⟩ := Int.gcd_dvd_left x y
  obtain ⟨v, hv⟩ := Int.gcd_dvd_right x y
  generalize Int.gcd x y = g at *
  have e : (p : Int) = ((g * g : Nat) : Int) * vT A B C (u, v) := by
    rw [← h, hu, hv]
    unfold vT
    push_cast
    grind
  have hd : g * g ∣ p := Int.natCast_dvd_natCast.1 ⟨_, e⟩
  have hle := Nat.le_of_dvd (by omega) hd
  have hg : g < 32 := by
    rcases Nat.lt_or_ge g 32 with h | h
    · exact h
    · have : 32 * 32 ≤ g * g := Nat.mul_le_mul h h
      omega
  exact h3 g hg (Nat.mod_eq_zero_of_dvd hd)
theorem pp_run {l : List (Int × Int)} (hl : l.length ≤ 1000000) (hg : ∀ q ∈ l, r_impl_gcd q.1 q.2 = some 1) : ∀ (k fu t : Nat), t + k = l.length → k < fu → r_impl_PrimitivePoints_L6 (l, true) fu (t : Int) (l.take t) = some l
  | k, 0, t, _, hf => by omega
  | 0, fu + 1, t, ht, hf => by
    rw [r_impl_PrimitivePoints_L6]
    dsimp only
    rw [ltI_eq, decide_eq_false (by omega), cond_false, List.take_of_length_le (by omega)]
  | k + 1, fu + 1, t, ht, hf => by
    have hlt : t < l.length := by omega
    rw [r_impl_PrimitivePoints_L6]
    dsimp only
    rw [ltI_eq, decide_eq_true (by omega), cond_true, getNat hlt]
    simp only [Option.bind_some, hg _ (List.getElem_mem hlt), eqSelf, cond_true, sI_eq, wsucc (show t < 1000000000 by omega)]
    rw [roomOk (by simp; omega), Option.bind_some]
    have e : l.take t ++ [l[t]] = l.take (t + 1) := by rw [List.take_add_one, List.getElem?_eq_getElem hlt]; rfl
    rw [e]
    exact pp_run hl hg k fu (t + 1) (by omega) (by omega)
theorem sq_abs {x : Int} (h : x * x ≤ 10000) : x.natAbs ≤ 10000 := by
  rcases Int.lt_or_le 10000 x with h1 | h1
  · have := sq_mono (a := 10001) (b := x) (by omega) (by omega)
    omega
  · rcases Int.lt_or_le x (-10000) with h2 | h2
    · have := sq_mono (a := 10001) (b := -x) (by omega) (by omega)
      have e : (-x) * (-x) = x * x := by grind
      omega
    · omega
theorem pp_val {d : Int} (hd1 : -2000 ≤ d) (hd2 : d ≤ -3) {f : F3} (h : PrR d f) {p : Nat} (hp : p ∈ pQ) : ∃ l, r_impl_PrimitivePoints f (p : Int) = some (l, true) ∧ (0 < l.length ↔ Rep f p) := by
  have hr := rf_prr hd1 hd2 h
  obtain ⟨q1, q2, q3, _⟩ := pQ_sq p hp
  obtain ⟨b1, b2⟩ := hr.big
  have hsh := shown_form hd1 hd2 h
  obtain ⟨a, b, c⟩ := f
  obtain ⟨r1, r2, r3, r4, r5, r6⟩ := hr
  dsimp only at b1 b2 r1 r2 r3 r4 r5 r6
  have hr : Rf a b c := ⟨r1, r2, r3, r4, r5, r6⟩
  obtain ⟨l, k1, k2, k3, k4⟩ := points_val (A := a) (B := b) (C := c) (n := (p : Int)) r1 (by omega) (by omega) (by omega) (by omega) (disc_rf hr) r5 r6 (by omega) (by omega)
  have hF := FUge
  have hg : ∀ q ∈ l, r_impl_gcd q.1 q.2 = some 1 := by
    intro q hq
    have hs : vT a b c q = (p : Int) := (k4 q).1 hq
    obtain ⟨m1, m2⟩ := hr.key q
    have g1 := mul_ge (A := a) r1 (sqn q.1)
    have g2 := mul_ge (A := c) (by omega) (sqn q.2)
    have y1 := sq_abs (x := q.1) (by omega)
    have y2 := sq_abs (x := q.2) (by omega)
    rw [gcd_val (by omega) (by omega), prim_pt hp (x := q.1) (y := q.2) hs]
    rfl
  have hrun := pp_run k3 hg l.length FU 0 (by omega) (by have : FU = 1000000000 := rfl; omega)
  have e0 : (((0 : Nat) : Int)) = 0 := rfl
  rw [e0, List.take_zero] at hrun
  have his : r_impl_isShown (p : Int) = some true := by
    simp only [r_impl_isShown, leI_eq]
    rw [decide_eq_true (by omega), decide_eq_true (by omega)]
    rfl
  refine ⟨l, by simp only [r_impl_PrimitivePoints, r_impl_Representations, hsh, his, k1, Option.bind_some, Bool.not_true, cond_false, hrun], ?_⟩
  constructor
  · intro hl
    obtain ⟨q, hq⟩ := List.exists_mem_of_length_pos hl
    exact ⟨q, (k4 q).1 hq⟩
  · rintro ⟨q, hq⟩
    exact List.length_pos_of_mem ((k4 q).2 hq)
/-! ### The forms of a prime -/
theorem bits_app (p : Nat) (a b : List R3) : bits p (a ++ b) = bits p a ++ bits p b := by
  induction a with
  | nil => rfl
  | cons r a ih =>
    rw [List.cons_append, bits, bits]
    cases Nat.testBit r.2.2 p with
    | true => rw [cond_true, cond_true, ih]; rfl
    | false => rw [cond_false, cond_false, ih]
theorem bits_len (p : Nat) (a : List R3) : (bits p a).length ≤ a.length := by
  induction a with
  | nil => simp [bits]
  | cons r a ih =>
    rw [bits]
    cases Nat.testBit r.2.2 p with
    | true => rw [cond_true, List.length_cons, List.length_cons]; omega
    | false => rw [cond_false, List.length_cons]; omega
theorem rep_run {d : Int} (hd1 : -2000 ≤ d) (hd2 : d ≤ -3) {rs : List R3} (hp : ∀ r ∈ rs, PrR d r.1) (hr : ∀ r ∈ rs, Rc r) (hl : rs.length ≤ 100000) {p : Nat} (hpp : p ∈ pQ) : ∀ (k fu t : Nat), t + k = rs.length → k < fu → r_impl_RepresentingForms_L11 (p : Int) (rs.map (·.1)) fu (t : Int) (bits p (rs.take t)) = some (bits p rs)
  | k, 0, t, _, hf => by omega
  | 0, fu + 1, t, ht, hf => by
    rw [r_impl_RepresentingForms_L11, List.length_map, ltI_eq, decide_eq_false (by omega), cond_false, List.take_of_length_le (by omega)]
  | k + 1, fu + 1, t, ht, hf => by
    have hlt : t < rs.length := by omega
    have hm := List.getElem_mem hlt
    have hg : getI (rs.map (·.1)) (t : Int) = some rs[t].1 := by
      rw [getNat (by rw [List.length_map]; exact hlt)]
      simp
    obtain ⟨l, e1, e2⟩ := pp_val hd1 hd2 (hp _ hm) hpp
    have hb := ((hr _ hm).b p (pQ_sq p hpp).2.1)
    have hle := bits_len p (rs.take t)
    rw [List.length_take] at hle
    have ex : rs.take (t + 1) = rs.take t ++ [rs[t]] := by rw [List.take_add_one, List.getElem?_eq_getElem hlt]; rfl
    have go := rep_run hd1 hd2 hp hr hl hpp k fu (t + 1) (by omega) (by omega)
    rw [ex, bits_app] at go
    rw [r_impl_RepresentingForms_L11, List.length_map, ltI_eq, decide_eq_true (by omega), cond_true, hg]
    simp only [Option.bind_some, e1, sI_eq, wsucc (show t < 1000000000 by omega), ltI_eq]
    cases htb : Nat.testBit rs[t].2.2 p with
    | true =>
      have h0 : 0 < l.length := e2.2 (hb.1 htb)
      have eb : bits p [rs[t]] = [rs[t].1] := by rw [bits, htb]; rfl
      rw [eb] at go
      rw [decide_eq_true (by omega), cond_true, roomOk (by simp; omega), Option.bind_some]
      exact go
    | false =>
      have h0 : ¬ 0 < l.length := fun h => by
        have := hb.2 (e2.1 h)
        rw [htb] at this
        cases this
      have eb : bits p [rs[t]] = [] := by rw [bits, htb]; rfl
      rw [eb, List.append_nil] at go
      rw [decide_eq_false (by omega), cond_false]
      exact go
/-! ### Lists -/
theorem eqF_eq (f g : F3) : eqF f g = decide (f = g) := by
  obtain ⟨a, b, c⟩ := f
  obtain ⟨a', b', c'⟩ := g
  unfold eqF
  simp only [eqI_eq]
  by_cases h1 : a = a' <;> by_cases h2 : b = b' <;> by_cases h3 : c = c' <;> simp [h1, h2, h3]
theorem eqLs_eq : ∀ (l m : List Int), eqLs l m = true → l = m
  | [], [], _ => rfl
  | [], _ :: _, h => by cases h
  | _ :: _, [], h => by cases h
  | a :: l, b :: m, h => by
    unfold eqLs at h
    cases hc : eqI a b with
    | false => rw [hc] at h; cases h
    | true =>
      rw [hc, cond_true] at h
      rw [eqI_eq, beq_iff_eq] at hc
      rw [hc, eqLs_eq l m h]
theorem hasV_val {g : F3} {V : List Int} : ∀ rs : List R3, hasV g V rs = true → ∃ r ∈ rs, r.1 = g ∧ r.2.1 = V
  | [], h => by cases h
  | r :: l, h => by
    unfold hasV at h
    rw [eqF_eq] at h
    by_cases e : r.1 = g
    · rw [decide_eq_true e, cond_true] at h
      exact ⟨r, List.mem_cons_self, e, eqLs_eq _ _ h⟩
    · rw [decide_eq_false e, cond_false] at h
      obtain ⟨x, h1, h2⟩ := hasV_val l h
      exact ⟨x, List.mem_cons_of_mem _ h1, h2⟩
theorem hasF_val {g : F3} : ∀ l : List F3, hasF g l = true → g ∈ l
  | [], h => by cases h
  | r :: l, h => by
    unfold hasF at h
    rw [eqF_eq] at h
    by_cases e : r = g
    · rw [e]; exact List.mem_cons_self
    · rw [decide_eq_false e, cond_false] at h
      exact List.mem_cons_of_mem _ (hasF_val l h)
theorem qHas_run {l : List F3} {g : F3} (hl : l.length ≤ 1000000) : ∀ (k fu t : Nat), t + k = l.length → k < fu → g ∈ l.drop t → r_laws_qHas_L4 g l fu (t : Int) = some (.inr true)
  | k, 0, t, _, hf, _ => by omega
  | 0, fu + 1, t, ht, hf, hg => by
    rw [List.drop_eq_nil_of_le (by omega)] at hg
    cases hg
  | k + 1, fu + 1, t, ht, hf, hg => by
    have hlt : t < l.length := by omega
    have e3 : ((l[t].1 == g.1) && ((l[t].2.1 == g.2.1) && (l[t].2.2 == g.2.2))) = decide (l[t] = g) := by
      generalize l[t] = f
      obtain ⟨a, b, c⟩ := f
      obtain ⟨a', b', c'⟩ := g
      rw [Bool.eq_iff_iff, Bool.and_eq_true, Bool.and_eq_true, beq_iff_eq, beq_iff_eq, beq_iff_eq, decide_eq_true_iff, Prod.mk.injEq, Prod.mk.injEq]
    rw [r_laws_qHas_L4, ltI_eq, decide_eq_true (by omega), cond_true, getNat hlt]
    simp only [Option.bind_some, e3, sI_eq, wsucc (show t < 1000000000 by omega)]
    by_cases e : l[t] = g
    · rw [decide_eq_true e, cond_true]
    · rw [decide_eq_false e, cond_false]
      rw [List.drop_eq_getElem_cons hlt] at hg
      rcases List.mem_cons.1 hg with h | h
      · exact (e h.symm).elim
      · exact qHas_run hl k fu (t + 1) (by omega) (by omega) h
theorem qHas_val {l : List F3} {g : F3} (hl : l.length ≤ 100000) (h : g ∈ l) : r_laws_qHas l g = some true := by
  have hF := FUge
  have := qHas_run (l := l) (g := g) (by omega) l.length FU 0 (by omega) (by omega) (by rw [List.drop_zero]; exact h)
  have e0 : (((0 : Nat) : Int)) = 0 := rfl
  rw [e0] at this
  simp only [r_laws_qHas, this, Option.bind_some]
end Go.Proofs.Ytpfnhgpepgeaiaa
