/-
  The Jacobi symbol by counts of residues (Gauss, Schering), and quadratic reciprocity for it (Eisenstein).
  Conditions: none.
-/
import Derived.Test.YtgeajejmikaniaaFpRaw
namespace Go.Proofs.Ytgeajejmikaniaa
set_option linter.unusedVariables false
set_option linter.unusedSimpArgs false

/-! ### Lists -/
theorem pigeon : ∀ (l1 l2 : List Nat), l1.Nodup → (∀ x ∈ l1, x ∈ l2) → l1.length ≤ l2.length
  | [], l2, _, _ => Nat.zero_le _
  | x :: t, l2, h1, h2 => by
    have hx : x ∈ l2 := h2 x List.mem_cons_self
    have hn := List.nodup_cons.1 h1
    have h3 := pigeon t (l2.erase x) hn.2 fun y hy => by
      refine (List.mem_erase_of_ne ?_).2 (h2 y (List.mem_cons_of_mem _ hy))
      intro e; subst e; exact hn.1 hy
    have h4 := List.length_erase_of_mem hx
    have h5 : 0 < l2.length := List.length_pos_of_mem hx
    rw [List.length_cons]
    omega
theorem perm_of {l1 l2 : List Nat} (h1 : l1.Nodup) (h2 : l2.Nodup) (hs : ∀ x ∈ l1, x ∈ l2) (hl : l2.length ≤ l1.length) : l1.Perm l2 := by
  refine (List.perm_ext_iff_of_nodup h1 h2).2 fun y => ⟨hs y, fun hy => ?_⟩
  by_cases h : y ∈ l1
  · exact h
  · exfalso
    have := pigeon (y :: l1) l2 (List.nodup_cons.2 ⟨h, h1⟩) fun x hx => by
      rcases List.mem_cons.1 hx with e | e
      · rw [e]; exact hy
      · exact hs x e
    rw [List.length_cons] at this
    omega
theorem cnt_xor (p q : Nat → Bool) : ∀ l : List Nat, (l.countP fun k => xor (p k) (q k)) % 2 = (l.countP p + l.countP q) % 2
  | [] => rfl
  | k :: l => by
    have ih := cnt_xor p q l
    rw [List.countP_cons, List.countP_cons, List.countP_cons]
    cases p k <;> cases q k <;> simp <;> omega
theorem cnt_not (p : Nat → Bool) : ∀ l : List Nat, l.countP p + l.countP (fun k => !p k) = l.length
  | [] => rfl
  | k :: l => by
    have ih := cnt_not p l
    rw [List.countP_cons, List.countP_cons, List.length_cons]
    cases p k <;> simp <;> omega
theorem cnt_le : ∀ (g q b : Nat), q ≤ g → (List.range' (b + 1) g).countP (fun j => decide (j ≤ b + q)) = q
  | 0, q, b, h => by simp; omega
  | g + 1, q, b, h => by
    rw [List.range'_succ, List.countP_cons]
    cases q with
    | zero =>
      rw [decide_eq_false (by omega)]
      have : (List.range' (b + 1 + 1) g).countP (fun j => decide (j ≤ b + 0)) = 0 := by
        rw [List.countP_eq_zero]
        intro x hx
        have := (List.mem_range'_1.1 hx).1
        simp; omega
      rw [this]; rfl
    | succ q =>
      have ih := cnt_le g q (b + 1) (by omega)
      have e : b + (q + 1) = b + 1 + q := by omega
      rw [e, ih, decide_eq_true (by omega)]
      rfl
theorem cnt_le0 (g q : Nat) (h : q ≤ g) : (List.range' 1 g).countP (fun j => decide (j ≤ q)) = q := by
  have h1 := cnt_le g q 0 h
  simp only [Nat.zero_add] at h1
  exact h1
theorem swap_cnt (p : Nat → Nat → Bool) (J : List Nat) : ∀ K : List Nat, (K.map fun k => J.countP (p k)).sum = (J.map fun j => K.countP fun k => p k j).sum
  | [] => by
    rw [List.map_nil, List.sum_nil]
    induction J with
    | nil => rfl
    | cons j J ih => simpa using ih
  | k :: K => by
    have key : ∀ J : List Nat, (J.map fun j => (k :: K).countP fun k => p k j).sum = J.countP (p k) + (J.map fun j => K.countP fun k => p k j).sum := by
      intro J
      induction J with
      | nil => rfl
      | cons j J ih =>
        rw [List.map_cons, List.sum_cons, ih, List.map_cons, List.sum_cons, List.countP_cons, List.countP_cons]
        omega
    rw [List.map_cons, List.sum_cons, swap_cnt p J K, key]
theorem sum_add_map (f g : Nat → Nat) : ∀ l : List Nat, (l.map fun k => f k + g k).sum = (l.map f).sum + (l.map g).sum
  | [] => rfl
  | k :: l => by simp only [List.map_cons, List.sum_cons, sum_add_map f g l]; omega
theorem sum_const (c : Nat) : ∀ l : List Nat, (l.map fun _ => c).sum = l.length * c
  | [] => by simp
  | k :: l => by rw [List.map_cons, List.sum_cons, sum_const c l, List.length_cons, Nat.add_mul]; omega

/-! ### Residues in the lower half -/
def flp (a n k : Nat) : Bool := decide (n / 2 < a * k % n)
def ct (a n : Nat) : Nat := (List.range' 1 (n / 2)).countP (flp a n)
def ar (a n k : Nat) : Nat := if n / 2 < a * k % n then n - a * k % n else a * k % n
theorem cop_dvd {a n k : Nat} (h : Nat.gcd a n = 1) (hd : n ∣ a * k) : n ∣ k := by
  have hc : Nat.Coprime n a := by unfold Nat.Coprime; rw [Nat.gcd_comm]; exact h
  exact hc.dvd_of_dvd_mul_left hd
theorem res_pos {a n k : Nat} (h : Nat.gcd a n = 1) (h1 : 1 ≤ k) (h2 : k < n) : 0 < a * k % n := by
  rcases Nat.eq_zero_or_pos (a * k % n) with e | e
  · have := Nat.le_of_dvd (by omega) (cop_dvd h (Nat.dvd_of_mod_eq_zero e))
    omega
  · exact e
theorem ar_in {a n k : Nat} (hn : n % 2 = 1) (h : Nat.gcd a n = 1) (h1 : 1 ≤ k) (h2 : k ≤ n / 2) : 1 ≤ ar a n k ∧ ar a n k ≤ n / 2 := by
  have h3 := res_pos h h1 (show k < n by omega)
  have h4 := Nat.mod_lt (a * k) (show 0 < n by omega)
  unfold ar
  split <;> omega
theorem mod_sum_dvd {x y n : Nat} (hn : 0 < n) (h : x % n + y % n = n) : n ∣ x + y := by
  refine Nat.dvd_of_mod_eq_zero ?_
  rw [Nat.add_mod, h, Nat.mod_self]
theorem mod_eq_dvd {x y n : Nat} (hxy : x ≤ y) (h : x % n = y % n) : n ∣ y - x := Nat.dvd_of_mod_eq_zero (Nat.sub_mod_eq_zero_of_mod_eq h.symm)
theorem ar_inj {a n k l : Nat} (hn : n % 2 = 1) (h : Nat.gcd a n = 1) (h1 : 1 ≤ k) (h2 : k ≤ n / 2) (g1 : 1 ≤ l) (g2 : l ≤ n / 2) (he : ar a n k = ar a n l) : k = l := by
  have h4 := Nat.mod_lt (a * k) (show 0 < n by omega)
  have g4 := Nat.mod_lt (a * l) (show 0 < n by omega)
  have same : a * k % n = a * l % n → k = l := by
    intro e
    rcases Nat.le_total k l with hkl | hkl
    · have := mod_eq_dvd (Nat.mul_le_mul_left a hkl) e
      rw [← Nat.mul_sub] at this
      have h5 := cop_dvd h this
      rcases Nat.eq_zero_or_pos (l - k) with h6 | h6
      · omega
      · have := Nat.le_of_dvd h6 h5
        omega
    · have := mod_eq_dvd (Nat.mul_le_mul_left a hkl) e.symm
      rw [← Nat.mul_sub] at this
      have h5 := cop_dvd h this
      rcases Nat.eq_zero_or_pos (k - l) with h6 | h6
      · omega
      · have := Nat.le_of_dvd h6 h5
        omega
  have opp : a * k % n + a * l % n = n → False := by
    intro e
    have := mod_sum_dvd (by omega) e
    rw [← Nat.mul_add] at this
    have h5 := Nat.le_of_dvd (by omega) (cop_dvd h this)
    omega
  unfold ar at he
  split at he <;> split at he
  · exact same (by omega)
  · exact (opp (by omega)).elim
  · exact (opp (by omega)).elim
  · exact same he
theorem ar_perm {a n : Nat} (hn : n % 2 = 1) (h : Nat.gcd a n = 1) : ((List.range' 1 (n / 2)).map (ar a n)).Perm (List.range' 1 (n / 2)) := by
  have hmem : ∀ k, k ∈ List.range' 1 (n / 2) ↔ 1 ≤ k ∧ k ≤ n / 2 := fun k => by rw [List.mem_range'_1]; omega
  refine perm_of ?_ List.nodup_range' (fun x hx => ?_) (by simp)
  · unfold List.Nodup
    rw [List.pairwise_map]
    refine List.Pairwise.imp_of_mem ?_ (List.nodup_range' (s := 1) (n := n / 2))
    intro k l hk hl hne he
    have hk := (hmem k).1 hk
    have hl := (hmem l).1 hl
    exact hne (ar_inj hn h hk.1 hk.2 hl.1 hl.2 he)
  · obtain ⟨k, hk, rfl⟩ := List.mem_map.1 hx
    have hk := (hmem k).1 hk
    exact (hmem _).2 (ar_in hn h hk.1 hk.2)
theorem mul_gcd {a b n : Nat} (ha : Nat.gcd a n = 1) (hb : Nat.gcd b n = 1) : Nat.gcd (a * b) n = 1 := Nat.Coprime.mul_left ha hb
theorem flp_mul {a b n k : Nat} (hn : n % 2 = 1) (ha : Nat.gcd a n = 1) (hb : Nat.gcd b n = 1) (h1 : 1 ≤ k) (h2 : k ≤ n / 2) : flp (a * b) n k = xor (flp b n k) (flp a n (ar b n k)) := by
  have e : a * b * k % n = a * (b * k % n) % n := by
    rw [Nat.mul_assoc, Nat.mul_mod a (b * k) n, Nat.mul_mod a (b * k % n) n, Nat.mod_mod]
  have h3 := res_pos hb h1 (show k < n by omega)
  have h4 := Nat.mod_lt (b * k) (show 0 < n by omega)
  unfold flp ar
  rw [e]
  generalize b * k % n = r at *
  by_cases hf : n / 2 < r
  · rw [if_pos hf, decide_eq_true hf]
    have g1 := res_pos ha (show 1 ≤ r by omega) h4
    have g2 := res_pos ha (show 1 ≤ n - r by omega) (show n - r < n by omega)
    have g3 := Nat.mod_lt (a * r) (show 0 < n by omega)
    have g4 := Nat.mod_lt (a * (n - r)) (show 0 < n by omega)
    have g5 : (a * r % n + a * (n - r) % n) % n = 0 := by
      rw [← Nat.add_mod, ← Nat.mul_add, show r + (n - r) = n by omega, Nat.mul_mod_left]
    have g6 : a * r % n + a * (n - r) % n = n := by
      have := Nat.dvd_of_mod_eq_zero g5
      obtain ⟨c, hc⟩ := this
      have hc1 : c = 1 := by
        rcases Nat.lt_or_ge c 1 with h | h
        · have : c = 0 := by omega
          rw [this] at hc; omega
        · rcases Nat.lt_or_ge 1 c with h5 | h5
          · have : n * 2 ≤ n * c := Nat.mul_le_mul_left n h5
            omega
          · omega
      rw [hc1] at hc
      omega
    by_cases hq : n / 2 < a * (n - r) % n
    · rw [decide_eq_true hq, decide_eq_false (by omega)]; rfl
    · rw [decide_eq_false hq, decide_eq_true (by omega)]; rfl
  · rw [if_neg hf, decide_eq_false hf, Bool.false_xor]
theorem ct_mul {a b n : Nat} (hn : n % 2 = 1) (ha : Nat.gcd a n = 1) (hb : Nat.gcd b n = 1) : ct (a * b) n % 2 = (ct a n + ct b n) % 2 := by
  have h1 : ct (a * b) n = (List.range' 1 (n / 2)).countP fun k => xor (flp b n k) (flp a n (ar b n k)) := by
    unfold ct
    refine List.countP_congr fun k hk => ?_
    rw [List.mem_range'_1] at hk
    rw [flp_mul hn ha hb (by omega) (by omega)]
  rw [h1, cnt_xor]
  have h2 : (List.range' 1 (n / 2)).countP (fun k => flp a n (ar b n k)) = ct a n := by
    have h3 := (ar_perm hn hb).countP_eq (flp a n)
    rw [List.countP_map] at h3
    exact h3
  rw [h2]
  unfold ct
  omega

/-! ### Reciprocity -/
theorem eis_pt {a n k : Nat} (hn : n % 2 = 1) : (a * k) % 2 = (a * k / n + ar a n k + (if flp a n k then 1 else 0)) % 2 := by
  have h1 := Nat.div_add_mod (a * k) n
  have h2 := Nat.mod_lt (a * k) (show 0 < n by omega)
  obtain ⟨h, hh⟩ : ∃ h, n = 2 * h + 1 := ⟨n / 2, by omega⟩
  have h3 : n * (a * k / n) = 2 * (h * (a * k / n)) + a * k / n := by
    conv => lhs; lhs; rw [hh]
    rw [Nat.add_mul, Nat.mul_assoc, Nat.one_mul]
  generalize h * (a * k / n) = u at h3
  unfold flp ar
  by_cases hf : n / 2 < a * k % n
  · rw [if_pos hf, decide_eq_true hf, if_pos rfl]; omega
  · rw [if_neg hf, decide_eq_false hf, if_neg (by simp)]; omega
theorem eis_sum {a n : Nat} (hn : n % 2 = 1) : ∀ l : List Nat, (l.map fun k => a * k).sum % 2 = ((l.map fun k => a * k / n).sum + (l.map (ar a n)).sum + l.countP (flp a n)) % 2
  | [] => rfl
  | k :: l => by
    have h1 := eis_pt (a := a) (k := k) hn
    have h2 := eis_sum (a := a) hn l
    rw [List.countP_cons]
    simp only [List.map_cons, List.sum_cons]
    omega
theorem odd_sum {a : Nat} (ha : a % 2 = 1) : ∀ l : List Nat, (l.map fun k => a * k).sum % 2 = l.sum % 2
  | [] => rfl
  | k :: l => by
    have h2 := odd_sum ha l
    obtain ⟨h, hh⟩ : ∃ h, a = 2 * h + 1 := ⟨a / 2, by omega⟩
    have h3 : a * k = 2 * (h * k) + k := by rw [hh, Nat.add_mul, Nat.mul_assoc, Nat.one_mul]
    simp only [List.map_cons, List.sum_cons]
    omega
theorem ct_eis {a n : Nat} (ha : a % 2 = 1) (hn : n % 2 = 1) (h : Nat.gcd a n = 1) : ct a n % 2 = ((List.range' 1 (n / 2)).map fun k => a * k / n).sum % 2 := by
  have h1 := eis_sum (a := a) hn (List.range' 1 (n / 2))
  have h2 := odd_sum ha (List.range' 1 (n / 2))
  have h3 : ((List.range' 1 (n / 2)).map (ar a n)).sum = (List.range' 1 (n / 2)).sum := (ar_perm hn h).sum_nat
  unfold ct
  omega
theorem flr_cnt {a n k : Nat} (ha : a % 2 = 1) (hn : n % 2 = 1) (h : Nat.gcd a n = 1) (h1 : 1 ≤ k) (h2 : k ≤ n / 2) : a * k / n = (List.range' 1 (a / 2)).countP fun j => decide (n * j < a * k) := by
  obtain ⟨g, hg⟩ : ∃ g, a = 2 * g + 1 := ⟨a / 2, by omega⟩
  obtain ⟨m, hm⟩ : ∃ m, n = 2 * m + 1 := ⟨n / 2, by omega⟩
  have hq : a * k / n ≤ a / 2 := by
    have h3 : a * k < n * (a / 2 + 1) := by
      have e1 : a / 2 = g := by omega
      have h4 : a * k ≤ a * m := Nat.mul_le_mul_left a (by omega)
      have e2 : a * m = 2 * (g * m) + m := by rw [hg, Nat.add_mul, Nat.mul_assoc, Nat.one_mul]
      have e3 : n * (g + 1) = 2 * (g * m) + g + n := by
        rw [Nat.mul_add, hm, Nat.add_mul, Nat.mul_assoc, Nat.one_mul, Nat.mul_comm m g]; omega
      rw [e1]
      omega
    have := Nat.div_lt_of_lt_mul h3
    omega
  have h5 := cnt_le0 (a / 2) (a * k / n) hq
  refine h5.symm.trans ?_
  refine List.countP_congr fun j hj => ?_
  rw [decide_eq_true_iff, decide_eq_true_iff, Nat.le_div_iff_mul_le (by omega), Nat.mul_comm j n]
  constructor
  · intro h6
    rcases Nat.lt_or_ge (n * j) (a * k) with h7 | h7
    · exact h7
    · exfalso
      have e : a * k = n * j := Nat.le_antisymm h7 h6
      have := Nat.le_of_dvd (by omega) (cop_dvd h (k := k) ⟨j, e⟩)
      omega
  · intro h6; omega
theorem lattice {a n : Nat} (ha : a % 2 = 1) (hn : n % 2 = 1) (h : Nat.gcd a n = 1) : ((List.range' 1 (n / 2)).map fun k => a * k / n).sum + ((List.range' 1 (a / 2)).map fun j => n * j / a).sum = (n / 2) * (a / 2) := by
  have h' : Nat.gcd n a = 1 := by rw [Nat.gcd_comm]; exact h
  have e1 : ((List.range' 1 (n / 2)).map fun k => a * k / n) = (List.range' 1 (n / 2)).map fun k => (List.range' 1 (a / 2)).countP fun j => decide (n * j < a * k) :=
    List.map_congr_left fun k hk => by
      rw [List.mem_range'_1] at hk
      exact flr_cnt ha hn h (by omega) (by omega)
  have e2 : ((List.range' 1 (a / 2)).map fun j => n * j / a) = (List.range' 1 (a / 2)).map fun j => (List.range' 1 (n / 2)).countP fun k => decide (a * k < n * j) :=
    List.map_congr_left fun j hj => by
      rw [List.mem_range'_1] at hj
      exact flr_cnt hn ha h' (by omega) (by omega)
  rw [e1, e2, ← swap_cnt (fun k j => decide (a * k < n * j)), ← sum_add_map]
  have e3 : ((List.range' 1 (n / 2)).map fun k => ((List.range' 1 (a / 2)).countP fun j => decide (n * j < a * k)) + (List.range' 1 (a / 2)).countP fun j => decide (a * k < n * j)) = (List.range' 1 (n / 2)).map fun _ => a / 2 :=
    List.map_congr_left fun k hk => by
      rw [List.mem_range'_1] at hk
      have h4 := cnt_not (fun j => decide (n * j < a * k)) (List.range' 1 (a / 2))
      rw [List.length_range'] at h4
      have h5 : (List.range' 1 (a / 2)).countP (fun j => decide (a * k < n * j)) = (List.range' 1 (a / 2)).countP (fun j => !decide (n * j < a * k)) := by
        refine List.countP_congr fun j hj => ?_
        rw [decide_eq_true_iff, Bool.not_eq_true', decide_eq_false_iff_not]
        constructor
        · intro h6; omega
        · intro h6
          rcases Nat.lt_or_ge (a * k) (n * j) with h7 | h7
          · exact h7
          · exfalso
            have e : a * k = n * j := by omega
            have := Nat.le_of_dvd (by omega) (cop_dvd h (k := k) ⟨j, e⟩)
            omega
      rw [h5]
      exact h4
  rw [e3, sum_const, List.length_range']

/-! ### The symbol -/
def JJ (a n : Nat) : Int := match Nat.beq (Nat.gcd a n) 1 with
  | true => if ct a n % 2 = 0 then 1 else -1
  | false => 0
theorem JJ_pos {a n : Nat} (h : Nat.gcd a n = 1) : JJ a n = if ct a n % 2 = 0 then 1 else -1 := by unfold JJ; rw [h]
theorem JJ_neg {a n : Nat} (h : Nat.gcd a n ≠ 1) : JJ a n = 0 := by
  unfold JJ
  cases hb : Nat.beq (Nat.gcd a n) 1 with
  | true => exact absurd (Nat.eq_of_beq_eq_true hb) h
  | false => rfl
theorem ct_mod (a n : Nat) : ct (a % n) n = ct a n := by
  unfold ct
  refine List.countP_congr fun k _ => ?_
  unfold flp
  rw [Nat.mod_mul_mod a k n]
theorem JJ_mod (a n : Nat) : JJ (a % n) n = JJ a n := by
  unfold JJ
  rw [ct_mod, ← Nat.gcd_rec, Nat.gcd_comm]
theorem JJ_mul {a b n : Nat} (hn : n % 2 = 1) : JJ (a * b) n = JJ a n * JJ b n := by
  by_cases ha : Nat.gcd a n = 1
  · by_cases hb : Nat.gcd b n = 1
    · have h := ct_mul hn ha hb
      rw [JJ_pos ha, JJ_pos hb, JJ_pos (mul_gcd ha hb)]
      rcases Nat.mod_two_eq_zero_or_one (ct a n) with h1 | h1 <;> rcases Nat.mod_two_eq_zero_or_one (ct b n) with h2 | h2
      · rw [if_pos h1, if_pos h2, if_pos (by omega)]; rfl
      · rw [if_pos h1, if_neg (by omega), if_neg (by omega)]; rfl
      · rw [if_neg (by omega), if_pos h2, if_neg (by omega)]; rfl
      · rw [if_pos (show ct (a * b) n % 2 = 0 by omega), if_neg (by omega), if_neg (by omega)]; rfl
    · rw [JJ_neg hb, JJ_neg, Int.mul_zero]
      intro h; exact hb (Nat.Coprime.coprime_mul_left h)
  · rw [JJ_neg ha, JJ_neg, Int.zero_mul]
    intro h; exact ha (Nat.Coprime.coprime_mul_right h)
theorem JJ_rec {a n : Nat} (ha : a % 2 = 1) (hn : n % 2 = 1) : JJ a n = JJ n a * (if a % 4 = 3 ∧ n % 4 = 3 then -1 else 1) := by
  by_cases h : Nat.gcd a n = 1
  · have h' : Nat.gcd n a = 1 := by rw [Nat.gcd_comm]; exact h
    have h1 := ct_eis ha hn h
    have h2 := ct_eis hn ha h'
    have h3 := lattice ha hn h
    have h4 : (n / 2) * (a / 2) % 2 = if a % 4 = 3 ∧ n % 4 = 3 then 1 else 0 := by
      rw [Nat.mul_mod]
      by_cases c1 : a % 4 = 3 <;> by_cases c2 : n % 4 = 3
      · rw [if_pos ⟨c1, c2⟩, show n / 2 % 2 = 1 by omega, show a / 2 % 2 = 1 by omega]
      · rw [if_neg (by omega), show n / 2 % 2 = 0 by omega]; simp
      · rw [if_neg (by omega), show a / 2 % 2 = 0 by omega]; simp
      · rw [if_neg (by omega), show n / 2 % 2 = 0 by omega]; simp
    rw [JJ_pos h, JJ_pos h']
    by_cases c : a % 4 = 3 ∧ n % 4 = 3
    · rw [if_pos c] at h4 ⊢
      rcases Nat.mod_two_eq_zero_or_one (ct a n) with g | g
      · rw [if_pos g, if_neg (by omega)]; rfl
      · rw [if_neg (by omega), if_pos (by omega)]; rfl
    · rw [if_neg c] at h4 ⊢
      rcases Nat.mod_two_eq_zero_or_one (ct a n) with g | g
      · rw [if_pos g, if_pos (by omega)]; rfl
      · rw [if_neg (by omega), if_neg (by omega)]; rfl
  · rw [JJ_neg h, JJ_neg (by rw [Nat.gcd_comm]; exact h), Int.zero_mul]
theorem ct_two {n : Nat} (hn : n % 2 = 1) : ct 2 n = n / 2 - n / 2 / 2 := by
  have h1 := cnt_le0 (n / 2) (n / 2 / 2) (by omega)
  have h2 := cnt_not (fun j => decide (j ≤ n / 2 / 2)) (List.range' 1 (n / 2))
  rw [h1, List.length_range'] at h2
  have h3 : ct 2 n = (List.range' 1 (n / 2)).countP (fun j => !decide (j ≤ n / 2 / 2)) := by
    unfold ct
    refine List.countP_congr fun k hk => ?_
    rw [List.mem_range'_1] at hk
    unfold flp
    rw [decide_eq_true_iff, Bool.not_eq_true', decide_eq_false_iff_not, Nat.mod_eq_of_lt (by omega)]
    omega
  omega
theorem JJ_two {n : Nat} (hn : n % 2 = 1) : JJ 2 n = if n % 8 = 3 ∨ n % 8 = 5 then -1 else 1 := by
  have hg : Nat.gcd 2 n = 1 := by rw [Nat.gcd_rec, hn]; rfl
  rw [JJ_pos hg, ct_two hn]
  by_cases h : n % 8 = 3 ∨ n % 8 = 5
  · rw [if_pos h, if_neg (by omega)]
  · rw [if_neg h, if_pos (by omega)]
theorem JJ_one (n : Nat) (hn : n % 2 = 1) : JJ 1 n = 1 := by
  have h := JJ_mul (a := 1) (b := 1) hn
  have h2 : JJ 1 n ≠ 0 := by
    rw [JJ_pos (Nat.gcd_one_left n)]
    split <;> decide
  rw [Nat.mul_one] at h
  have h3 : JJ 1 n * 1 = JJ 1 n * JJ 1 n := by rw [Int.mul_one]; exact h
  exact (Int.eq_of_mul_eq_mul_left h2 h3).symm
theorem JJ_at1 (a : Nat) : JJ a 1 = 1 := by
  rw [JJ_pos (Nat.gcd_one_right a)]
  rfl
theorem JJ_zero (n : Nat) (h : n ≠ 1) : JJ 0 n = 0 := by
  rw [JJ_neg (by rw [Nat.gcd_zero_left]; exact h)]
/-- Of products below. -/
theorem JJ_low_odd {a m n : Nat} (ha : a % 2 = 1) (hm : m % 2 = 1) (hn : n % 2 = 1) : JJ a (m * n) = JJ a m * JJ a n := by
  have hmn : (m * n) % 2 = 1 := by rw [Nat.mul_mod, hm, hn]
  rw [JJ_rec ha hmn, JJ_mul ha, JJ_rec ha hm, JJ_rec ha hn]
  have e : (m * n) % 4 = (m % 4) * (n % 4) % 4 := Nat.mul_mod m n 4
  have hm4 : m % 4 = 1 ∨ m % 4 = 3 := by omega
  have hn4 : n % 4 = 1 ∨ n % 4 = 3 := by omega
  by_cases c : a % 4 = 3
  · have x : ∀ k : Nat, (if a % 4 = 3 ∧ k % 4 = 3 then (-1 : Int) else 1) = if k % 4 = 3 then -1 else 1 := fun k => by
      by_cases g : k % 4 = 3
      · rw [if_pos ⟨c, g⟩, if_pos g]
      · rw [if_neg (fun h => g h.2), if_neg g]
    rw [x, x, x]
    rcases hm4 with c1 | c1 <;> rcases hn4 with c2 | c2 <;> rw [e, c1, c2] <;> simp <;> grind
  · have x : ∀ k : Nat, (if a % 4 = 3 ∧ k % 4 = 3 then (-1 : Int) else 1) = 1 := fun k => if_neg (fun h => c h.1)
    rw [x, x, x]
    grind
theorem JJ_low_two {m n : Nat} (hm : m % 2 = 1) (hn : n % 2 = 1) : JJ 2 (m * n) = JJ 2 m * JJ 2 n := by
  have hmn : (m * n) % 2 = 1 := by rw [Nat.mul_mod, hm, hn]
  rw [JJ_two hmn, JJ_two hm, JJ_two hn]
  have e : (m * n) % 8 = (m % 8) * (n % 8) % 8 := Nat.mul_mod m n 8
  have hm8 : m % 8 = 1 ∨ m % 8 = 3 ∨ m % 8 = 5 ∨ m % 8 = 7 := by omega
  have hn8 : n % 8 = 1 ∨ n % 8 = 3 ∨ n % 8 = 5 ∨ n % 8 = 7 := by omega
  rcases hm8 with c1 | c1 | c1 | c1 <;> rcases hn8 with c2 | c2 | c2 | c2 <;> rw [e, c1, c2] <;> rfl
theorem JJ_low : ∀ (a : Nat) {m n : Nat}, m % 2 = 1 → n % 2 = 1 → JJ a (m * n) = JJ a m * JJ a n := by
  intro a
  induction a using Nat.strongRecOn with
  | ind a ih =>
    intro m n hm hn
    have hmn : (m * n) % 2 = 1 := by rw [Nat.mul_mod, hm, hn]
    by_cases h0 : a = 0
    · subst h0
      by_cases h1 : m = 1
      · rw [h1, Nat.one_mul, JJ_at1, Int.one_mul]
      · rw [JJ_zero m h1, Int.zero_mul, JJ_zero]
        intro e
        exact h1 (Nat.eq_one_of_mul_eq_one_right e)
    · by_cases h2 : a % 2 = 1
      · exact JJ_low_odd h2 hm hn
      · obtain ⟨b, hb⟩ : ∃ b, a = 2 * b := ⟨a / 2, by omega⟩
        rw [hb, JJ_mul hmn, JJ_mul hm, JJ_mul hn, JJ_low_two hm hn, ih b (by omega) hm hn]
        grind
end Go.Proofs.Ytgeajejmikaniaa
