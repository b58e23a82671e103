/-
  The Jacobi symbol by counts of residues (Gauss, Schering), and quadratic reciprocity for it (Eisenstein).
  Conditions: none.
-/
import Derived.Test.YtpfnhgpepgeaiaaPgRaw
namespace Go.Proofs.Ytpfnhgpepgeaiaa
set_option linter.unusedVariables false
set_option linter.unusedSimpArgs false

/-! ### Lists -/
theorem pigeon : ∀ (l1 l2 : List Nat), l1.Nodup → (∀ x ∈ l1, x ∈ l2) → l1.length ≤ l2.length
  | [], l2, _, _ => Nat.zero_le _
  | x :: t, l2, h1, h2 => by
    have hx : x ∈ l2 := h2 x List.mem_cons_self
    have hn := List.nodup_cons.1 h1
    have h3 := pigeon t (l2.erase x) hn.2 fun y hy => by
      refine (List.mem_erase_of_ne ?_).2 (h2 y (List.mem_cons_of_mem _ hy))
      intro e; subst e; exact hn.1 hy
    have h4 := List.length_erase_of_mem hx
    have h5 : 0 < l2.length := List.length_pos_of_mem hx
    rw [List.length_cons]
    omega
theorem perm_of {l1 l2 : List Nat} (h1 : l1.Nodup) (h2 : l2.Nodup) (hs : ∀ x ∈ l1, x ∈ l2) (hl : l2.length ≤ l1.length) : l1.Perm l2 := by
  refine (List.perm_ext_iff_of_nodup h1 h2).2 fun y => ⟨hs y, fun hy => ?_⟩
  by_cases h : y ∈ l1
  · exact h
  · exfalso
    have := pigeon (y :: l1) l2 (List.nodup_cons.2 ⟨h, h1⟩) fun x hx => by
      rcases List.mem_cons.1 hx with e | e
      · rw [e]; exact hy
      · exact hs x e
    rw [List.length_cons] at this
    omega
theorem cnt_xor (p q : Nat → Bool) : ∀ l : List Nat, (l.countP fun k => xor (p k) (q k)) % 2 = (l.countP p + l.countP q) % 2
  | [] => rfl
  | k :: l => by
    have ih := cnt_xor p q l
    rw [List.countP_cons, List.countP_cons, List.countP_cons]
    cases p k <;> cases q k <;> simp <;> omega
theorem cnt_not (p : Nat → Bool) : ∀ l : List Nat, l.countP p + l.countP (fun k => !p k) = l.length
  | [] => rfl
  | k :: l => by
    have ih := cnt_not p l
    rw [List.countP_cons, List.countP_cons, List.length_cons]
    cases p k <;> simp <;> omega
theorem cnt_le : ∀ (g q b : Nat), q ≤ g → (List.range' (b + 1) g).countP (fun j => decide (j ≤ b + q)) = q
  | 0, q, b, h => by simp; omega
  | g + 1, q, b, h => by
    rw [List.range'_succ, List.countP_cons]
    cases q with
    | zero =>
      rw [decide_eq_false (by omega)]
      have : (List.range' (b + 1 + 1) g).countP (fun j => decide (j ≤ b + 0)) = 0 := by
        rw [List.countP_eq_zero]
        intro x hx
        have := (List.mem_range'_1.1 hx).1
        simp; omega
      rw [this]; rfl
    | succ q =>
      have ih := cnt_le g q (b + 1) (by omega)
      have e : b + (q + 1) = b + 1 + q := by omega
      rw [e, ih, decide_eq_true (by omega)]
      rfl
theorem cnt_le0 (g q : Nat) (h : q ≤ g) : (List.range' 1 g).countP (fun j => decide (j ≤ q)) = q := by
  have h1 := cnt_le g q 0 h
  simp only [Nat.zero_add] at h1
  exact h1
theorem swap_cnt (p : Nat → Nat → Bool) (J : List Nat) : ∀ K : List Nat, (K.map fun k => J.countP (p k)).sum = (J.map fun j => K.countP fun k => p k j).sum
  | [] => by
    rw [List.map_nil, List.sum_nil]
    induction J with
    | nil => rfl
    | cons j J ih => simpa using ih
  | k :: K => by
    have key : ∀ J : List Nat, (J.map fun j => (k :: K).countP fun k => p k j).sum = J.countP (p k) + (J.map fun j => K.countP fun k => p k j).sum := by
      intro J
      induction J with
      | nil => rfl
      | cons j J ih =>
        rw [List.map_cons, List.sum_cons, ih, List.map_cons, List.sum_cons, List.countP_cons, List.countP_cons]
        omega
    rw [List.map_cons, List.sum_cons, swap_cnt p J K, key]
theorem sum_add_map (f g : Nat → Nat) : ∀ l : List Nat, (l.map fun k => f k + g k).sum = (l.map f).sum + (l.map g).sum
  | [] => rfl
  | k :: l => by simp only [List.map_cons, List.sum_cons, sum_add_map f g l]; omega
theorem sum_const (c : Nat) : ∀ l : List Nat, (l.map fun _ => c).sum = l.length * c
  | [] => by simp
  | k :: l => by rw [List.map_cons, List.sum_cons, sum_const c l, List.length_cons, Nat.add_mul]; omega

/-! ### Residues in the lower half -/
def flp (a n k : Nat) : Bool := decide (n / 2 < a * k % n)
def ct (a n : Nat) : Nat := (List.range' 1 (n / 2)).countP (flp a n)
def ar (a n k : Nat) : Nat := if n / 2 < a * k % n then n - a * k % n else a * k % n
theorem cop_dvd {a n k : Nat} (h : Nat.gcd a n = 1) (hd : n ∣ a * k) : n ∣ k := by
  have hc : Nat.Coprime n a := by unfold Nat.Coprime; rw [Nat.gcd_comm]; exact h
  exact hc.dvd_of_dvd_mul_left hd
theorem res_pos {a n k : Nat} (h : Nat.gcd a n = 1) (h1 : 1 ≤ k) (h2 : k < n) : 0 < a * k % n := by
  rcases Nat.eq_zero_or_pos (a * k % n) with e | e
  · have := Nat.le_of_dvd (by omega) (cop_dvd h (Nat.dvd_of_mod_eq_zero e))
    omega
  · exact e
theorem ar_in {a n k : Nat} (hn : n % 2 = 1) (h : Nat.gcd a n = 1) (h1 : 1 ≤ k) (h2 : k ≤ n / 2) : 1 ≤ ar a n k ∧ ar a n k ≤ n / 2 := by
  have h3 := res_pos h h1 (show k < n by omega)
  have h4 := Nat.mod_lt (a * k) (show 0 < n by omega)
  unfold ar
  split <;> omega
theorem mod_sum_dvd {x y n : Nat} (hn : 0 < n) (h : x % n + y % n = n) : n ∣ x + y := by
  refine Nat.dvd_of_mod_eq_zero ?_
  rw [Nat.add_mod, h, Nat.mod_self]
theorem mod_eq_dvd {x y n : Nat} (hxy : x ≤ y) (h : x % n = y % n) : n ∣ y - x := Nat.dvd_of_mod_eq_zero (Nat.sub_mod_eq_zero_of_mod_eq h.symm)
theorem ar_inj {a n k l : Nat} (hn : n % 2 = 1) (h : Nat.gcd a n = 1) (h1 : 1 ≤ k) (h2 : k ≤ n / 2) (g1 : 1 ≤ l) (g2 : l ≤ n / 2) (he : ar a n k = ar a n l) : k = l := by
  have h4 := Nat.mod_lt (a * k) (show 0 < n by omega)
  have g4 := Nat.mod_lt (a * l) (show 0 < n by omega)
  have same : a * k % n = a * l % n → k = l := by
    intro e
    rcases Nat.le_total k l with hkl | hkl
    · have := mod_eq_dvd (Nat.mul_le_mul_left a hkl) e
      rw [← Nat.mul_sub] at this
      have h5 := cop_dvd h this
      rcases Nat.eq_zero_or_pos (l - k) with h6 | h6
      · omega
      · have := Nat.le_of_dvd h6 h5
        omega
    · have := mod_eq_dvd (Nat.mul_le_mul_left a hkl) e.symm
      rw [← Nat.mul_sub] at this
      have h5 := cop_dvd h this
      rcases Nat.eq_zero_or_pos (k - l) with h6 | h6
      · omega
      · have := Nat.le_of_dvd h6 h5
        omega
  have opp : a * k % n + a * l % n = n → False := by
    intro e
    have := mod_sum_dvd (by omega) e
    rw [← Nat.mul_add] at this
    have h5 := Nat.le_of_dvd (by omega) (cop_dvd h this)
    omega
  unfold ar at he
  split at he <;> split at he
  · exact same (by omega)
  · exact (opp (by omega)).elim
  · exact (opp (by omega)).elim
  · exact same he
theorem ar_perm {a n : Nat} (hn : n % 2 = 1) (h : Nat.gcd a n = 1) : ((List.range' 1 (n / 2)).map (ar a n)).Perm (List.range' 1 (n / 2)) := by
  have hmem : ∀ k, k ∈ List.range' 1 (n / 2) ↔ 1 ≤ k ∧ k ≤ n / 2 := fun k => by rw [List.mem_range'_1]; omega
  refine perm_of ?_ List.nodup_range' (fun x hx => ?_) (by simp)
  · unfold List.Nodup
    rw [List.pairwise_map]
    refine List.Pairwise.imp_of_mem ?_ (List.nodup_range' (s := 1) (n := n / 2))
    intro k l hk hl hne he
    have hk := (hmem k).1 hk
    have hl := (hmem l).1 hl
    exact hne (ar_inj hn h hk.1 hk.2 hl.1 hl.2 he)
  · obtain ⟨k, hk, rfl⟩ := List.mem_map.1 hx
    have hk := (hmem k).1 hk
    exact (hmem _).2 (ar_in hn h hk.1 hk.2)
theorem mul_gcd {a b n : Nat} (ha : Nat.gcd a n = 1) (hb : Nat.gcd b n = 1) : Nat.gcd (a * b) n = 1 := Nat.Coprime.mul_left ha hb
theorem flp_mul {a b n k : Nat} (hn : n % 2 = 1) (ha : Nat.gcd a n = 1) (hb : Nat.gcd b n = 1) (h1 : 1 ≤ k) (h2 : k ≤ n / 2) : flp (a * b) n k = xor (flp b n k) (flp a n (ar b n k)) := by
  have e : a * b * k % n = a * (b * k % n) % n := by
    rw [Nat.mul_assoc, Nat.mul_mod a (b * k) n, Nat.mul_mod a (b * k % n) n, Nat.mod_mod]
  have h3 := res_pos hb h1 (show k < n by omega)
  have h4 := Nat.mod_lt (b * k) (show 0 < n by omega)
  unfold flp ar
  rw [e]
  generalize b * k % n = r at *
  by_cases hf : n / 2 < r
  · rw [if_pos hf, decide_eq_true hf]
    have g1 := res_pos ha (show 1 ≤ r by omega) h4
    have g2 := res_pos ha (show 1 ≤ n - r by omega) (show n - r < n by omega)
    have g3 := Nat.mod_lt (a * r) (show 0 < n by omega)
    have g4 := Nat.mod_lt (a * (n - r)) (show 0 < n by omega)
    have g5 : (a * r % n + a * (n - r) % n) % n = 0 := by
      rw [← Nat.add_mod, ← Nat.mul_add, show r + (n - r) = n by omega, Nat.mul_mod_left]
    have g6 : a * r % n + a * (n - r) % n = n := by
      have := Nat.dvd_of_mod_eq_zero g5
      obtain ⟨c, hc⟩ := this
      have hc1 : c = 1 := by
        rcases Nat.lt_or_ge c 1 with h | h
        · have : c = 0 := by omega
          rw [this] at hc; omega
        · rcases Nat.lt_or_ge 1 c with h5 | h5
          · have : n * 2 ≤ n * c := Nat.mul_le_mul_left n h5
            omega
          · omega
      rw [hc1] at hc
      omega
    by_cases hq : n / 2 < a * (n - r) % n
    · rw [decide_eq_true hq, decide_eq_false (by omega)]; rfl
    · rw [decide_eq_false hq, decide_eq_true (by omega)]; rfl
  · rw [if_neg hf, decide_eq_false hf, Bool.false_xor]
theorem ct_mul {a b n : Nat} (hn : n % 2 = 1) (ha : Nat.gcd a n = 1) (hb : Nat.gcd b n = 1) : ct (a * b) n % 2 = (ct a n + ct b n) % 2 := by
  have h1 : ct (a * b) n = (List.range' 1 (n / 2)).countP fun k => xor (flp b n k) (flp a n (ar b n k)) := by
    unfold ct
    refine List.countP_congr fun k hk => ?_
    rw [List.mem_range'_1] at hk
    rw [flp_mul hn ha hb (by omega) (by omega)]
  rw [h1, cnt_xor]
  have h2 : (List.range' 1 (n / 2)).countP (fun k => flp a n (ar b n k)) = ct a n := by
    have h3 := (ar_perm hn hb).countP_eq (flp a n)
    rw [List.countP_map] at h3
    exact h3
  rw [h2]
  unfold ct
  omega

/-! ### Reciprocity -/
theorem eis_pt {a n k : Nat} (hn : n % 2 = 1) : (a * k) % 2 = (a * k / n + ar a n k + (if flp a n k then 1 else 0)) % 2 := by
  have h1 := Nat.div_add_mod (a * k) n
  have h2 := Nat.mod_lt (a * k) (show 0 < n by omega)
  obtain ⟨h, hh⟩ : ∃ h, n = 2 * h + 1 := ⟨n / 2, by omega⟩
  have h3 : n * (a * k / n) = 2 * (h * (a * k / n)) + a * k / n := by
    conv => lhs; lhs; rw [hh]
    rw [Nat.add_mul, Nat.mul_assoc, Nat.one_mul]
  generalize h * (a * k / n) = u at h3
  unfold flp ar
  by_cases hf : n / 2 < a * k % n
  · rw [if_pos hf, decide_eq_true hf, if_pos rfl]; omega
  · rw [if_neg hf, decide_eq_false hf, if_neg (by simp)]; omega
theorem eis_sum {a n : Nat} (hn : n % 2 = 1) : ∀ l : List Nat, (l.map fun k => a * k).sum % 2 = ((l.map fun k => a * k / n).sum + (l.map (ar a n)).sum + l.countP (flp a n)) % 2
  | [] => rfl
  | k :: l => by
    have h1 := eis_pt (a := a) (k := k) hn
    have h2 := eis_sum (a := a) hn l
    rw [List.countP_cons]
    simp only [List.map_cons, List.sum_cons]
    omega
theorem odd_sum {a : Nat} (ha : a % 2 = 1) : ∀ l : List Nat, (l.map fun k => a * k).sum % 2 = l.sum % 2
  | [] => rfl
  | k :: l => by
    have h2 := odd_sum ha l
    obtain ⟨h, hh⟩ : ∃ h, a = 2 * h + 1 := ⟨a / 2, by omega⟩
    have h3 : a * k = 2 * (h * k) + k := by rw [hh, Nat.add_mul, Nat.mul_assoc, Nat.one_mul]
    simp only [List.map_cons, List.sum_cons]
    omega
theorem ct_eis {a n : Nat} (ha : a % 2 = 1) (hn : n % 2 = 1) (h : Nat.gcd a n = 1) : ct a n % 2 = ((List.range' 1 (n / 2)).map fun k => a * k / n).sum % 2 := by
  have h1 := eis_sum (a := a) hn (List.range' 1 (n / 2))
  have h2 := odd_sum ha (List.range' 1 (n / 2))
  have h3 : ((List.range' 1 (n / 2)).map (ar a n)).sum = (List.range' 1 (n / 2)).sum := (ar_perm hn h).sum_nat
  unfold ct
  omega
theorem flr_cnt {a n k : Nat} (ha : a % 2 = 1) (hn : n % 2 = 1) (h : Nat.gcd a n = 1) (h1 : 1 ≤ k) (h2 : k ≤ n / 2) : a * k / n = (List.range' 1 (a / 2)).countP fun j => decide (n * j < a * k) := by
  obtain ⟨g, hg⟩ : ∃ g, a = 2 * g + 1 := ⟨a / 2, by omega⟩
  obtain ⟨m, hm⟩ : ∃ m, n = 2 * m + 1 := ⟨n / 2, by omega⟩
  have hq : a * k / n ≤ a / 2 := by
    have h3 : a * k < n * (a / 2 + 1) := by
      have e1 : a / 2 = g := by omega
      have h4 : a * k ≤ a * m := Nat.mul_le_mul_left a (by omega)
      have e2 : a * m = 2 * (g * m) + m := by rw [hg, Nat.add_mul, Nat.mul_assoc, Nat.one_mul]
      have e3 : n * (g + 1) = 2 * (g * m) + g + n := by
        rw [Nat.mul_add, hm, Nat.add_mul, Nat.mul_assoc, Nat.one_mul, Nat.mul_comm m g]; omega
      rw [e1]
      omega
    have := Nat.div_lt_of_lt_mul h3
    omega
  have h5 := cnt_le0 (a / 2) (a * k / n) hq
  refine h5.symm.trans ?_
  refine List.countP_congr fun j hj => ?_
  rw [decide_eq_true_iff, decide_eq_true_iff, Nat.le_div_iff_mul_le (by omega), Nat.mul_comm j n]
  constructor
  · intro h6
    rcases Nat.lt_or_ge (n * j) (a * k) with h7 | h7
    · exact h7
    · exfalso
      have e : a * k = n * j := Nat.le_antisymm h7 h6
      have := Nat.le_of_dvd (by omega) (cop_dvd h (k := k) ⟨j, e⟩)
      omega
  · intro h6; omega
theorem lattice {a n : Nat} (ha : a % 2 = 1) (hn : n % 2 = 1) (h : Nat.gcd a n = 1) : ((List.range' 1 (n / 2)).map fun k => a * k / n).sum + ((List.range' 1 (a / 2)).map fun j => n * j / a).sum = (n / 2) * (a / 2) := by
  have h' : Nat.gcd n a = 1 := by rw [Nat.gcd_comm]; exact h
  have e1 : ((List.range' 1 (n / 2)).map fun k => a * k / n) = (List.range' 1 (n / 2)).map fun k => (List.range' 1 (a / 2)).countP fun j => decide (n * j < a * k) :=
    List.map_congr_left fun k hk => by
      rw [List.mem_range'_1] at hk
      exact flr_cnt ha hn h (by omega) (by omega)
  have e2 : ((List.range' 1 (a / 2)).map fun j => n * j / a) = (List.range' 1 (a / 2)).map fun j => (List.range' 1 (n / 2)).countP fun k => decide (a * k < n * j) :=
    List.map_congr_left fun j hj => by
      rw [List.mem_range'_1] at hj
      exact flr_cnt hn ha h' (by omega) (by omega)
  rw [e1, e2, ← swap_cnt (fun k j => decide (a * k < n * j)), ← sum_add_map]
  have e3 : ((List.range' 1 (n / 2)).map fun k => ((List.range' 1 (a / 2)).countP fun j => decide (n * j < a * k)) + (List.range' 1 (a / 2)).countP fun j => decide (a * k < n * j)) = (List.range' 1 (n / 2)).map fun _ => a / 2 :=
    List.map_congr_left fun k hk => by
      rw [List.mem_range'_1] at hk
      have h4 := cnt_not (fun j => decide (n * j < a * k)) (List.range' 1 (a / 2))
      rw [List.length_range'] at h4
      have h5 : (List.range' 1 (a / 2)).countP (fun j => decide (a * k < n * j)) = (List.range' 1 (a / 2)).countP (fun j => !decide (n * j < a * k)) := by
        refine List.countP_congr fun j hj => ?_
        rw [decide_eq_true_iff, Bool.not_eq_true', decide_eq_false_iff_not]
        constructor
        · intro h6; omega
        · intro h6
          rcases Nat.lt_or_ge (a * k) (n * j) with h7 | h7
          · exact h7
          · exfalso
            have e : a * k = n * j := by omega
            have := Nat.le_of_dvd (by omega) (cop_dvd h (k := k) ⟨j, e⟩)
            omega
      rw [h5]
      exact h4
  rw [e3, sum_const, List.length_range']

/-! ### The symbol -/
def JJ (a n : Nat) : Int := match Nat.beq (Nat.gcd a n) 1 with
  | true => if ct a n % 2 = 0 then 1 else -1
  | false => 0
theorem JJ_pos {a n : Nat} (h : Nat.gcd a n = 1) : JJ a n = if ct a n % 2 = 0 then 1 else -1 := by unfold JJ; rw [h]
theorem JJ_neg {a n : Nat} (h : Nat.gcd a n ≠ 1) : JJ a n = 0 := by
  unfold JJ
  cases hb : Nat.beq (Nat.gcd a n) 1 with
  | true => exact absurd (Nat.eq_of_beq_eq_true hb) h
  | false => rfl
theorem ct_mod (a n : Nat) : ct (a % n) n = ct a n := by
  unfold ct
  refine List.countP_congr fun k _ => ?_
  unfold flp
  rw [Nat.mod_mul_mod a k n]
theorem JJ_mod (a n : Nat) : JJ (a % n) n = JJ a n := by
  unfold JJ
  rw [ct_mod, ← Nat.gcd_rec, Nat.gcd_comm]
theorem JJ_mul {a b n : Nat} (hn : n % 2 = 1) : JJ (a * b) n = JJ a n * JJ b n := by
  by_cases ha : Nat.gcd a n = 1
  · by_cases hb : Nat.gcd b n = 1
    · have h := ct_mul hn ha hb
      rw [JJ_pos ha, JJ_pos hb, JJ_pos (mul_gcd ha hb)]
      rcases Nat.mod_two_eq_zero_or_one (ct a n) with h1 | h1 <;> rcases Nat.mod_two_eq_zero_or_one (ct b n) with h2 | h2
      · rw [if_pos h1, if_pos h2, if_pos (by omega)]; rfl
      · rw [if_pos h1, if_neg (by omega), if_neg (by omega)]; rfl
      · rw [if_neg (by omega), if_pos h2, if_neg (by omega)]; rfl
      · rw [if_pos (show ct (a * b) n % 2 = 0 by omega), if_neg (by omega), if_neg (by omega)]; rfl
    · rw [JJ_neg hb, JJ_neg, Int.mul_zero]
      intro h; exact hb (Nat.Coprime.coprime_mul_left h)
  · rw [JJ_neg ha, JJ_neg, Int.zero_mul]
    intro h; exact ha (Nat.Coprime.coprime_mul_right h)
theorem JJ_rec {a n : Nat} (ha : a % 2 = 1) (hn : n % 2 = 1) : JJ a n = JJ n a * (if a % 4 = 3 ∧ n % 4 = 3 then -1 else 1) := by
  by_cases h : Nat.gcd a n = 1
  · have h' : Nat.gcd n a = 1 := by rw [Nat.gcd_comm]; exact h
    have h1 := ct_eis ha hn h
    have h2 := ct_eis hn ha h'
    have h3 := lattice ha hn h
    have h4 : (n / 2) * (a / 2) % 2 = if a % 4 = 3 ∧ n % 4 = 3 then 1 else 0 := by
      rw [Nat.mul_mod]
      by_cases c1 : a % 4 = 3 <;> by_cases c2 : n % 4 = 3
      · rw [if_pos ⟨c1, c2⟩, show n / 2 % 2 = 1 by omega, show a / 2 % 2 = 1 by omega]
      · rw [if_neg (by omega), show n / 2 % 2 = 0 by omega]; simp
      · rw [if_neg (by omega), show a / 2 % 2 = 0 by omega]; simp
      · rw [if_neg (by omega), show n / 2 % 2 = 0 by omega]; simp
    rw [JJ_pos h, JJ_pos h']
    by_cases c : a % 4 = 3 ∧ n % 4 = 3
    · rw [if_pos c] at h4 ⊢
      rcases Nat.mod_two_eq_zero_or_one (ct a n) with g | g
      · rw [if_pos g, if_neg (by omega)]; rfl
      · rw [if_neg (by omega), if_pos (by omega)]; rfl
    · rw [if_neg c] at h4 ⊢
      rcases Nat.mod_two_eq_zero_or_one (ct a n) with g | g
      · rw [if_pos g, if_pos (by omega)]; rfl
      · rw [if_neg (by omega), if_neg (by omega)]; rfl
  · rw [JJ_neg h, JJ_neg (by rw [Nat.gcd_comm]; exact h), Int.zero_mul]
theorem ct_two {n : Nat} (hn : n % 2 = 1) : ct 2 n = n / 2 - n / 2 / 2 := by
  have h1 := cnt_le0 (n / 2) (n / 2 / 2) (by omega)
  have h2 := cnt_not (fun j => decide (j ≤ n / 2 / 2)) (List.range' 1 (n / 2))
  rw [h1, List.length_range'] at h2
  have h3 : ct 2 n = (List.range' 1 (n / 2)).countP (fun j => !decide (j ≤ n / 2 / 2)) := by
    unfold ct
    refine List.countP_congr fun k hk => ?_
    rw [List.mem_range'_1] at hk
    unfold flp
    rw [decide_eq_true_iff, Bool.not_eq_true', decide_eq_false_iff_not, Nat.mod_eq_of_lt (by omega)]
    omega
  omega
theorem JJ_two {n : Nat} (hn : n % 2 = 1) : JJ 2 n = if n % 8 = 3 ∨ n % 8 = 5 then -1 else 1 := by
  have hg : Nat.gcd 2 n = 1 := by rw [Nat.gcd_rec, hn]; rfl
  rw [JJ_pos hg, ct_two hn]
  by_cases h : n % 8 = 3 ∨ n % 8 = 5
  · rw [if_pos h, if_neg (by omega)]
  · rw [if_neg h, if_pos (by omega)]
theorem JJ_one (n : Nat) (hn : n % 2 = 1) : JJ 1 n = 1 := by
  have h := JJ_mul (a := 1) (b := 1) hn
  have h2 : JJ 1 n ≠ 0 := by
    rw [JJ_pos (Nat.gcd_one_left n)]
    split <;> decide
  rw [Nat.mul_one] at h
  have h3 : JJ 1 n * 1 = JJ 1 n * JJ 1 n := by rw [Int.mul_one]; exact h
  exact (Int.eq_of_mul_eq_mul_left h2 h3).symm
theorem JJ_at1 (a : Nat) : JJ a 1 = 1 := by
  rw [JJ_pos (Nat.gcd_one_right a)]
  rfl
theorem JJ_zero (n : Nat) (h : n ≠ 1) : JJ 0 n = 0 := by
  rw [JJ_neg (by rw [Nat.gcd_zero_left]; exact h)]
/-- Of products below. -/
theorem JJ_low_odd {a m n : Nat} (ha : a % 2 = 1) (hm : m % 2 = 1) (hn : n % 2 = 1) : JJ a (m * n) = JJ a m * JJ a n := by
  have hmn : (m * n) % 2 = 1 := by rw [Nat.mul_mod, hm, hn]
  rw [JJ_rec ha hmn, JJ_mul ha, JJ_rec ha hm, JJ_rec ha hn]
  have e : (m * n) % 4 = (m % 4) * (n % 4) % 4 := Nat.mul_mod m n 4
  have hm4 : m % 4 = 1 ∨ m % 4 = 3 := by omega
  have hn4 : n % 4 = 1 ∨ n % 4 = 3 := by omega
  by_cases c : a % 4 = 3
  · have x : ∀ k : Nat, (if a % 4 = 3 ∧ k % 4 = 3 then (-1 : Int) else 1) = if k % 4 = 3 then -1 else 1 := fun k => by
      by_cases g : k % 4 = 3
      · rw [if_pos ⟨c, g⟩, if_pos g]
      · rw [if_neg (fun h => g h.2), if_neg g]
    rw [x, x, x]
    rcases hm4 with c1 | c1 <;> rcases hn4 with c2 | c2 <;> rw [e, c1, c2] <;> simp <;> grind
  · have x : ∀ k : Nat, (if a % 4 = 3 ∧ k % 4 = 3 then (-1 : Int) else 1) = 1 := fun k => if_neg (fun h => c h.1)
    rw [x, x, x]
    grind
theorem JJ_low_two {m n : Nat} (hm : m % 2 = 1) (hn : n % 2 = 1) : JJ 2 (m * n) = JJ 2 m * JJ 2 n := by
  have hmn : (m * n) % 2 = 1 := by rw [Nat.mul_mod, hm, hn]
  rw [JJ_two hmn, JJ_two hm, JJ_two hn]
  have e : (m * n) % 8 = (m % 8) * (n % 8) % 8 := Nat.mul_mod m n 8
  have hm8 : m % 8 = 1 ∨ m % 8 = 3 ∨ m % 8 = 5 ∨ m % 8 = 7 := by omega
  have hn8 : n % 8 = 1 ∨ n % 8 = 3 ∨ n % 8 = 5 ∨ n % 8 = 7 := by omega
  rcases hm8 with c1 | c1 | c1 | c1 <;> rcases hn8 with c2 | c2 | c2 | c2 <;> rw [e, c1, c2] <;> rfl
theorem JJ_low : ∀ (a : Nat) {m n : Nat}, m % 2 = 1 → n % 2 = 1 → JJ a (m * n) = JJ a m * JJ a n := by
  intro a
  induction a using Nat.strongRecOn with
  | ind a ih =>
    intro m n hm hn
    have hmn : (m * n) % 2 = 1 := by rw [Nat.mul_mod, hm, hn]
    by_cases h0 : a = 0
    · subst h0
      by_cases h1 : m = 1
      · rw [h1, Nat.one_mul, JJ_at1, Int.one_mul]
      · rw [JJ_zero m h1, Int.zero_mul, JJ_zero]
        intro e
        exact h1 (Nat.eq_one_of_mul_eq_one_right e)
    · by_cases h2 : a % 2 = 1
      · exact JJ_low_odd h2 hm hn
      · obtain ⟨b, hb⟩ : ∃ b, a = 2 * b := ⟨a / 2, by omega⟩
        rw [hb, JJ_mul hmn, JJ_mul hm, JJ_mul hn, JJ_low_two hm hn, ih b (by omega) hm hn]
        grind
end Go.Proofs.Ytpfnhgpepgeaiaa
namespace Go.Proofs.Ytpfnhgpepgeaiaa
set_option linter.unusedVariables false
set_option linter.unusedSimpArgs false

theorem JJ_unit {a n : Nat} : JJ a n = 0 ∨ JJ a n = 1 ∨ JJ a n = -1 := by
  by_cases h : Nat.gcd a n = 1
  · rw [JJ_pos h]
    split
    · exact .inr (.inl rfl)
    · exact .inr (.inr rfl)
  · exact .inl (JJ_neg h)
def sg4 (n : Nat) : Int := if n % 4 = 3 then -1 else 1
def sg8 (n : Nat) : Int := if n % 8 = 3 ∨ n % 8 = 5 then -1 else 1
theorem sg4_mul {m n : Nat} (hm : m % 2 = 1) (hn : n % 2 = 1) : sg4 (m * n) = sg4 m * sg4 n := by
  unfold sg4
  have e : (m * n) % 4 = (m % 4) * (n % 4) % 4 := Nat.mul_mod m n 4
  have hm4 : m % 4 = 1 ∨ m % 4 = 3 := by omega
  have hn4 : n % 4 = 1 ∨ n % 4 = 3 := by omega
  rcases hm4 with c1 | c1 <;> rcases hn4 with c2 | c2 <;> rw [e, c1, c2] <;> rfl
theorem JJ_m1 {n : Nat} (hn : n % 2 = 1) : JJ (n - 1) n = sg4 n := by
  by_cases h1 : n = 1
  · subst h1; rfl
  have hg : Nat.gcd (n - 1) n = 1 := by
    have h2 : Nat.gcd (n - 1) (n - 1 + 1) = 1 := by rw [Nat.gcd_self_add_right, Nat.gcd_one_right]
    rw [show n - 1 + 1 = n by omega] at h2
    exact h2
  have hct : ct (n - 1) n = n / 2 := by
    unfold ct
    have : (List.range' 1 (n / 2)).countP (flp (n - 1) n) = (List.range' 1 (n / 2)).length := by
      rw [List.countP_eq_length]
      intro k hk
      rw [List.mem_range'_1] at hk
      unfold flp
      rw [decide_eq_true_iff]
      have e : (n - 1) * k % n = n - k := by
        have e1 : (n - 1) * k = (n - k) + n * (k - 1) := by
          obtain ⟨j, rfl⟩ : ∃ j, k = j + 1 := ⟨k - 1, by omega⟩
          obtain ⟨m, rfl⟩ : ∃ m, n = m + (j + 1) := ⟨n - (j + 1), by omega⟩
          rw [Nat.add_sub_cancel, Nat.add_sub_cancel]
          have : m + (j + 1) - 1 = m + j := by omega
          rw [this]
          grind
        rw [e1, Nat.add_mul_mod_self_left, Nat.mod_eq_of_lt (by omega)]
      rw [e]
      omega
    rw [this, List.length_range']
  rw [JJ_pos hg, hct]
  unfold sg4
  by_cases h : n % 4 = 3
  · rw [if_pos h, if_neg (by omega)]
  · rw [if_neg h, if_pos (by omega)]
/-- The Jacobi symbol of an integer. -/
def JI (d : Int) (n : Nat) : Int := JJ (d % (n : Int)).toNat n
def sgD (d : Int) (n : Nat) : Int := if d < 0 then sg4 n else 1
theorem JI_val {n : Nat} (hn : n % 2 = 1) (d : Int) : JI d n = sgD d n * JJ d.natAbs n := by
  unfold JI sgD
  by_cases hd : d < 0
  · rw [if_pos hd, ← JJ_m1 hn, ← JJ_mul hn, ← JJ_mod ((n - 1) * d.natAbs)]
    congr 1
    have e1 : (((n - 1) * d.natAbs % n : Nat) : Int) = d % (n : Int) := by
      push_cast
      have e2 : (((n - 1 : Nat) : Int)) = (n : Int) - 1 := by omega
      have e3 : ((d.natAbs : Nat) : Int) = -d := by omega
      rw [e2, e3, show ((n : Int) - 1) * -d = d + (n : Int) * -d by grind, Int.add_mul_emod_self_left]
    omega
  · rw [if_neg hd, Int.one_mul, ← JJ_mod d.natAbs]
    congr 1
    have e1 : ((d.natAbs % n : Nat) : Int) = d % (n : Int) := by rw [Int.natCast_emod, show ((d.natAbs : Nat) : Int) = d by omega]
    omega
theorem sgD_mul {m n : Nat} (hm : m % 2 = 1) (hn : n % 2 = 1) (d : Int) : sgD d (m * n) = sgD d m * sgD d n := by
  unfold sgD
  by_cases hd : d < 0
  · rw [if_pos hd, if_pos hd, if_pos hd, sg4_mul hm hn]
  · rw [if_neg hd, if_neg hd, if_neg hd]; rfl
theorem JI_low {m n : Nat} (hm : m % 2 = 1) (hn : n % 2 = 1) (d : Int) : JI d (m * n) = JI d m * JI d n := by
  have hmn : (m * n) % 2 = 1 := by rw [Nat.mul_mod, hm, hn]
  rw [JI_val hmn, JI_val hm, JI_val hn, sgD_mul hm hn, JJ_low _ hm hn]
  grind
theorem JI_mul {n : Nat} (hn : n % 2 = 1) (a b : Int) : JI (a * b) n = JI a n * JI b n := by
  unfold JI
  rw [← JJ_mul hn, ← JJ_mod ((a % (n : Int)).toNat * (b % (n : Int)).toNat)]
  congr 1
  have hn0 : (n : Int) ≠ 0 := by omega
  have e1 := Int.emod_nonneg a hn0
  have e2 := Int.emod_nonneg b hn0
  have e3 : (((a % (n : Int)).toNat * (b % (n : Int)).toNat % n : Nat) : Int) = (a * b) % (n : Int) := by
    push_cast
    rw [Int.toNat_of_nonneg e1, Int.toNat_of_nonneg e2, ← Int.mul_emod]
  omega
/-- The symbol below 2. -/
def t2 (d : Int) : Int := if d % 2 = 0 then 0 else if d % 8 = 3 ∨ d % 8 = 5 then -1 else 1
/-- The Kronecker symbol; 0 below 0. -/
def KK (d : Int) (k : Nat) : Int := if h : k = 0 then 0 else if k % 2 = 0 then t2 d * KK d (k / 2) else JI d k
termination_by k
decreasing_by omega
theorem KK_zero (d : Int) : KK d 0 = 0 := by rw [KK]; rfl
theorem KK_even (d : Int) {k : Nat} (h : k % 2 = 0) : KK d k = t2 d * KK d (k / 2) := by
  by_cases h0 : k = 0
  · subst h0; rw [KK_zero]; simp [KK_zero]
  · rw [KK, dif_neg h0, if_pos h]
theorem KK_odd (d : Int) {k : Nat} (h : k % 2 = 1) : KK d k = JI d k := by
  rw [KK, dif_neg (by omega), if_neg (by omega)]
theorem KK_mul (d : Int) : ∀ (i j : Nat), KK d (i * j) = KK d i * KK d j := by
  have two : ∀ (i : Nat), i % 2 = 1 → ∀ j : Nat, KK d (i * j) = KK d i * KK d j := by
    intro i hi j
    induction j using Nat.strongRecOn with
    | ind j ih =>
      by_cases h0 : j = 0
      · subst h0; rw [Nat.mul_zero, KK_zero, Int.mul_zero]
      · by_cases hj : j % 2 = 0
        · have e : (i * j) % 2 = 0 := by rw [Nat.mul_mod, hj, Nat.mul_zero]
          have e2 : i * j / 2 = i * (j / 2) := Nat.mul_div_assoc i (Nat.dvd_of_mod_eq_zero hj)
          rw [KK_even d e, KK_even d hj, e2, ih (j / 2) (by omega)]
          grind
        · have hj : j % 2 = 1 := by omega
          rw [KK_odd d hi, KK_odd d hj, KK_odd d (by rw [Nat.mul_mod, hi, hj]), JI_low hi hj]
  intro i
  induction i using Nat.strongRecOn with
  | ind i ih =>
    intro j
    by_cases h0 : i = 0
    · subst h0; rw [Nat.zero_mul, KK_zero, Int.zero_mul]
    · by_cases hi : i % 2 = 0
      · have e : (i * j) % 2 = 0 := by rw [Nat.mul_mod, hi, Nat.zero_mul]
        have e2 : i * j / 2 = i / 2 * j := Nat.div_mul_right_comm (Nat.dvd_of_mod_eq_zero hi) j |>.symm
        rw [KK_even d e, KK_even d hi, e2, ih (i / 2) (by omega) j]
        grind
      · exact two i (by omega) j
/-- Of an odd discriminant it is the symbol the other way round. -/
theorem KK_flip {d : Int} (h4 : d % 4 = 1) (h1 : d.natAbs ≠ 1) : ∀ i : Nat, KK d i = JJ i d.natAbs := by
  have hD : d.natAbs % 2 = 1 := by omega
  have ht : t2 d = JJ 2 d.natAbs := by
    rw [JJ_two hD]
    unfold t2
    rw [if_neg (by omega)]
    by_cases h : d % 8 = 3 ∨ d % 8 = 5
    · rw [if_pos h, if_pos (by omega)]
    · rw [if_neg h, if_neg (by omega)]
  intro i
  induction i using Nat.strongRecOn with
  | ind i ih =>
    by_cases h0 : i = 0
    · subst h0; rw [KK_zero, JJ_zero _ h1]
    · by_cases hi : i % 2 = 0
      · obtain ⟨j, rfl⟩ : ∃ j, i = 2 * j := ⟨i / 2, by omega⟩
        rw [KK_even d hi, JJ_mul hD, ht, show 2 * j / 2 = j by omega, ih j (by omega)]
      · have hi : i % 2 = 1 := by omega
        rw [KK_odd d hi, JI_val hi, JJ_rec hD hi]
        unfold sgD sg4
        by_cases hd : d < 0
        · rw [if_pos hd]
          by_cases g : i % 4 = 3
          · rw [if_pos g, if_pos ⟨by omega, g⟩]; grind
          · rw [if_neg g, if_neg (fun h => g h.2)]; grind
        · rw [if_neg hd, if_neg (fun h => by omega)]; grind
theorem JJ_cong : ∀ (b : Nat), 1 ≤ b → ∀ {i j : Nat}, i % 2 = 1 → j % 2 = 1 → i % (4 * b) = j % (4 * b) → JJ b i = JJ b j := by
  intro b
  induction b using Nat.strongRecOn with
  | ind b ih =>
    intro hb i j hi hj h
    have h4 : i % 4 = j % 4 := by
      have e1 : i % (4 * b) % 4 = i % 4 := Nat.mod_mul_right_mod i 4 b
      have e2 : j % (4 * b) % 4 = j % 4 := Nat.mod_mul_right_mod j 4 b
      rw [← e1, ← e2, h]
    by_cases hbo : b % 2 = 1
    · have hm : i % b = j % b := by
        have e1 : i % (4 * b) % b = i % b := by rw [Nat.mul_comm]; exact Nat.mod_mul_right_mod i b 4
        have e2 : j % (4 * b) % b = j % b := by rw [Nat.mul_comm]; exact Nat.mod_mul_right_mod j b 4
        rw [← e1, ← e2, h]
      rw [JJ_rec hbo hi, JJ_rec hbo hj, ← JJ_mod i, ← JJ_mod j, hm, h4]
    · obtain ⟨c, rfl⟩ : ∃ c, b = 2 * c := ⟨b / 2, by omega⟩
      have h8 : i % 8 = j % 8 := by
        have e1 : i % (8 * c) % 8 = i % 8 := Nat.mod_mul_right_mod i 8 c
        have e2 : j % (8 * c) % 8 = j % 8 := Nat.mod_mul_right_mod j 8 c
        have e3 : 4 * (2 * c) = 8 * c := by omega
        rw [e3] at h
        rw [← e1, ← e2, h]
      have hc4 : i % (4 * c) = j % (4 * c) := by
        have e0 : 4 * (2 * c) = 4 * c * 2 := by omega
        have e1 : i % (4 * c * 2) % (4 * c) = i % (4 * c) := Nat.mod_mul_right_mod i (4 * c) 2
        have e2 : j % (4 * c * 2) % (4 * c) = j % (4 * c) := Nat.mod_mul_right_mod j (4 * c) 2
        rw [e0] at h
        rw [← e1, ← e2, h]
      rw [JJ_mul hi, JJ_mul hj, JJ_two hi, JJ_two hj, h8, ih c (by omega) (by omega) hi hj hc4]
theorem JJ_four {b i : Nat} (hi : i % 2 = 1) : JJ (4 * b) i = JJ b i := by
  rw [show 4 * b = 2 * (2 * b) by omega, JJ_mul hi, JJ_mul hi, JJ_two hi]
  split <;> grind
/-- The symbol of a discriminant has its size as a period. -/
theorem KK_per {d : Int} (h4 : d % 4 = 0 ∨ d % 4 = 1) (h1 : 2 ≤ d.natAbs) (i : Nat) : KK d (i % d.natAbs) = KK d i := by
  rcases h4 with h4 | h4
  · obtain ⟨b, hb⟩ : ∃ b : Nat, d.natAbs = 4 * b := ⟨d.natAbs / 4, by omega⟩
    have t0 : t2 d = 0 := by unfold t2; rw [if_pos (by omega)]
    have hpar : i % d.natAbs % 2 = i % 2 := by
      rw [hb, show 4 * b = 2 * (2 * b) by omega]
      exact Nat.mod_mul_right_mod i 2 (2 * b)
    by_cases hi : i % 2 = 0
    · rw [KK_even d hi, KK_even d (show i % d.natAbs % 2 = 0 by omega), t0, Int.zero_mul, Int.zero_mul]
    · have hi : i % 2 = 1 := by omega
      have hi2 : i % d.natAbs % 2 = 1 := by omega
      have e4 : i % d.natAbs % 4 = i % 4 := by rw [hb]; exact Nat.mod_mul_right_mod i 4 b
      rw [KK_odd d hi, KK_odd d hi2, JI_val hi, JI_val hi2]
      have hs : sgD d (i % d.natAbs) = sgD d i := by unfold sgD sg4; rw [e4]
      rw [hs]
      congr 1
      have e : JJ d.natAbs (i % d.natAbs) = JJ (4 * b) (i % d.natAbs) := by rw [hb]
      rw [e, hb, JJ_four hi, JJ_four (by rw [← hb]; exact hi2)]
      refine JJ_cong b (by omega) (by rw [← hb]; exact hi2) hi ?_
      rw [Nat.mod_mod]
  · rw [KK_flip h4 (by omega), KK_flip h4 (by omega), JJ_mod]
theorem KK_unit (d : Int) (k : Nat) : KK d k = 0 ∨ KK d k = 1 ∨ KK d k = -1 := by
  induction k using Nat.strongRecOn with
  | ind k ih =>
    by_cases h0 : k = 0
    · subst h0; exact .inl (KK_zero d)
    · by_cases hk : k % 2 = 0
      · rw [KK_even d hk]
        have ht : t2 d = 0 ∨ t2 d = 1 ∨ t2 d = -1 := by
          unfold t2
          split
          · exact .inl rfl
          · split
            · exact .inr (.inr rfl)
            · exact .inr (.inl rfl)
        rcases ih (k / 2) (by omega) with h | h | h <;> rcases ht with g | g | g <;> rw [h, g] <;> decide
      · rw [KK_odd d (by omega)]
        exact JJ_unit
theorem KK_gcd {d : Int} (h4 : d % 4 = 0 ∨ d % 4 = 1) (h1 : 2 ≤ d.natAbs) {i : Nat} (h : KK d i ≠ 0) : Nat.gcd i d.natAbs = 1 := by
  rcases h4 with h4 | h4
  · by_cases hi : i % 2 = 0
    · exfalso
      apply h
      rw [KK_even d hi]
      unfold t2
      rw [if_pos (by omega), Int.zero_mul]
    · have hi : i % 2 = 1 := by omega
      rw [KK_odd d hi, JI_val hi] at h
      by_cases g : Nat.gcd d.natAbs i = 1
      · rw [Nat.gcd_comm]; exact g
      · rw [JJ_neg g, Int.mul_zero] at h
        exact absurd rfl h
  · rw [KK_flip h4 (by omega)] at h
    by_cases g : Nat.gcd i d.natAbs = 1
    · exact g
    · exact absurd (JJ_neg g) h
theorem perm_sum {l1 l2 : List Int} (h : l1.Perm l2) : l1.sum = l2.sum := by
  induction h with
  | nil => rfl
  | cons x _ ih => rw [List.sum_cons, List.sum_cons, ih]
  | swap x y l => simp only [List.sum_cons]; omega
  | trans _ _ i1 i2 => rw [i1, i2]
/-- The symbols of all residues have the sum 0, if one of them is -1. -/
theorem KK_sum {d : Int} (h4 : d % 4 = 0 ∨ d % 4 = 1) (h1 : 2 ≤ d.natAbs) {u : Nat} (hu : KK d u = -1) : ((List.range d.natAbs).map fun k => KK d k).sum = 0 := by
  have hg := KK_gcd h4 h1 (i := u) (by rw [hu]; decide)
  have hp : ((List.range d.natAbs).map fun k => u * k % d.natAbs).Perm (List.range d.natAbs) := by
    refine perm_of ?_ List.nodup_range (fun x hx => ?_) (by simp)
    · unfold List.Nodup
      rw [List.pairwise_map]
      refine List.Pairwise.imp_of_mem ?_ (List.nodup_range (n := d.natAbs))
      intro k l hk hl hne he
      rw [List.mem_range] at hk hl
      refine hne ?_
      rcases Nat.le_total k l with hkl | hkl
      · have := mod_eq_dvd (Nat.mul_le_mul_left u hkl) he
        rw [← Nat.mul_sub] at this
        have h5 := cop_dvd hg this
        rcases Nat.eq_zero_or_pos (l - k) with h6 | h6
        · omega
        · have := Nat.le_of_dvd h6 h5
          omega
      · have := mod_eq_dvd (Nat.mul_le_mul_left u hkl) he.symm
        rw [← Nat.mul_sub] at this
        have h5 := cop_dvd hg this
        rcases Nat.eq_zero_or_pos (k - l) with h6 | h6
        · omega
        · have := Nat.le_of_dvd h6 h5
          omega
    · obtain ⟨k, _, rfl⟩ := List.mem_map.1 hx
      rw [List.mem_range]
      exact Nat.mod_lt _ (by omega)
  have e1 : ((List.range d.natAbs).map fun k => KK d k).sum = (((List.range d.natAbs).map fun k => u * k % d.natAbs).map fun k => KK d k).sum := (perm_sum (hp.map _)).symm
  have e2 : (((List.range d.natAbs).map fun k => u * k % d.natAbs).map fun k => KK d k) = (List.range d.natAbs).map fun k => -1 * KK d k := by
    rw [List.map_map]
    refine List.map_congr_left fun k _ => ?_
    show KK d (u * k % d.natAbs) = _
    rw [KK_per h4 h1, KK_mul, hu]
  have e3 : ∀ l : List Nat, (l.map fun k => -1 * KK d k).sum = -(l.map fun k => KK d k).sum := by
    intro l
    induction l with
    | nil => rfl
    | cons k l ih => simp only [List.map_cons, List.sum_cons, ih]; omega
  rw [e2, e3] at e1
  omega
end Go.Proofs.Ytpfnhgpepgeaiaa
namespace Go.Proofs.Ytpfnhgpepgeaiaa
set_option linter.unusedVariables false
set_option linter.unusedSimpArgs false

def xr (a b : Bool) : Bool := bif a then (bif b then false else true) else b
def tw (n : Nat) : Bool := bif Nat.beq (Nat.mod n 8) 3 then true else Nat.beq (Nat.mod n 8) 5
def q3 (n : Nat) : Bool := Nat.beq (Nat.mod n 4) 3
def jN : Nat → Nat → Nat → Bool → Nat
  | 0, _, _, _ => 3
  | f + 1, a, n, s => bif Nat.beq a 0 then (bif Nat.beq n 1 then (bif s then 2 else 1) else 0)
    else bif Nat.beq (Nat.mod a 2) 0 then jN f (Nat.div a 2) n (xr s (tw n))
    else jN f (Nat.mod n a) a (xr s (bif q3 a then q3 n else false))
def sg (s : Bool) : Int := bif s then -1 else 1
def vl : Nat → Int
  | 0 => 0
  | 1 => 1
  | _ => -1
theorem nbeq (a b : Nat) : Nat.beq a b = decide (a = b) := by
  rw [Bool.eq_iff_iff, decide_eq_true_iff, Nat.beq_eq]
theorem eqI_nat (a b : Nat) : eqI (a : Int) (b : Int) = decide (a = b) := by
  rw [eqI_eq, Bool.eq_iff_iff, beq_iff_eq, decide_eq_true_iff]
  omega
theorem sg_mul (s t : Bool) : w64 (sg s * sg t) = sg (xr s t) := by cases s <;> cases t <;> rfl
theorem nzP {b : Int} (h : b ≠ 0) : nz b = some () := by
  unfold nz
  rw [eqI_eq]
  have : (b == 0) = false := by rw [beq_eq_false_iff_ne]; exact h
  rw [this]
  rfl
theorem mod_emod {a m : Int} (h1 : 1 ≤ m) (h2 : m ≤ 1000000) : r_impl_mod a m = some (a % m) := by
  have e := Int.tmod_eq_emod (a := a) (b := m)
  have e1 := Int.emod_nonneg a (b := m) (by omega)
  have e2 := Int.emod_lt_of_pos a (b := m) (by omega)
  simp only [r_impl_mod, nzP (show m ≠ 0 by omega), Option.bind_some, sI_eq, ltI_eq]
  by_cases h : a.tmod m < 0
  · rw [decide_eq_true h, cond_true, w64_in (by split at e <;> omega)]
    congr 1
    split at e <;> omega
  · rw [decide_eq_false h, cond_false]
    congr 1
    split at e <;> omega
theorem smod_eq (a m : Int) : r_spec_nuMod a m = r_impl_mod a m := by
  simp only [r_spec_nuMod, r_impl_mod, sI_eq]
theorem tw_odd {n : Nat} (h : n % 2 = 1) : tw n = !(decide (n % 8 = 1) || decide (n % 8 = 7)) := by
  unfold tw
  rw [nbeq, nbeq]
  show (bif decide (n % 8 = 3) then true else decide (n % 8 = 5)) = _
  have : n % 8 = 1 ∨ n % 8 = 3 ∨ n % 8 = 5 ∨ n % 8 = 7 := by omega
  rcases this with h | h | h | h <;> rw [h] <;> rfl
theorem two_pos {n : Nat} (h : n % 2 = 1) (hn : n ≤ 1000000) : r_impl_symbolOfTwo (n : Int) = some (sg (tw n)) := by
  have e : ((n : Int) % 8) = ((n % 8 : Nat) : Int) := by omega
  rw [tw_odd h]
  simp only [r_impl_symbolOfTwo, mod_emod (show (1 : Int) ≤ 8 by omega) (show (8 : Int) ≤ 1000000 by omega), Option.bind_some, e]
  have : n % 8 = 1 ∨ n % 8 = 3 ∨ n % 8 = 5 ∨ n % 8 = 7 := by omega
  rcases this with h | h | h | h <;> rw [h] <;> rfl
theorem stwo_pos {n : Nat} (h : n % 2 = 1) (hn : n ≤ 1000000) : r_spec_syTwo (n : Int) = some (sg (tw n)) := by
  have e : ((n : Int) % 8) = ((n % 8 : Nat) : Int) := by omega
  rw [tw_odd h]
  simp only [r_spec_syTwo, smod_eq, mod_emod (show (1 : Int) ≤ 8 by omega) (show (8 : Int) ≤ 1000000 by omega), Option.bind_some, e]
  have : n % 8 = 1 ∨ n % 8 = 3 ∨ n % 8 = 5 ∨ n % 8 = 7 := by omega
  rcases this with h | h | h | h <;> rw [h] <;> rfl
def fnl (o : Option (Int × Int)) : Option Int := o.bind fun o8 => bif (!eqI o8.1 1) then some 0 else some o8.2
def inn (n : Int) (m : Nat) (o13 : Int × Int) : Option (Int × Int) :=
  (some (bif (eqI (Int.tmod o13.1 4) 3) then (eqI (Int.tmod n 4) 3) else false)).bind fun t19 =>
    bif t19 then (sI (w64 (0 - o13.2)) fun vs21 => (nz o13.1).bind fun z22 => sI (Int.tmod n o13.1) fun a23 => r_impl_jacobi_L7 m a23 o13.1 vs21)
    else ((nz o13.1).bind fun z24 => sI (Int.tmod n o13.1) fun a25 => r_impl_jacobi_L7 m a25 o13.1 o13.2)
theorem L7_succ (m : Nat) (a n s : Int) : r_impl_jacobi_L7 (m + 1) a n s = bif (!eqI a 0) then ((r_impl_jacobi_L12 n FU a s).bind (inn n m)) else some (n, s) := by
  rw [r_impl_jacobi_L7]
  rfl
theorem tmod_nat (a b : Nat) : Int.tmod (a : Int) (b : Int) = ((a % b : Nat) : Int) := rfl
theorem q3_eq (a n : Nat) : (bif (eqI (Int.tmod (a : Int) 4) 3) then (eqI (Int.tmod (n : Int) 4) 3) else false) = (bif q3 a then q3 n else false) := by
  have e : ∀ x : Nat, eqI (Int.tmod (x : Int) 4) 3 = q3 x := by
    intro x
    unfold q3
    rw [nbeq]
    exact eqI_nat (x % 4) 3
  rw [e, e]
theorem jac_run : ∀ (f : Nat) (a n : Nat) (s : Bool) (v : Nat), f ≤ 1000 → jN f a n s = v → v ≠ 3 → n % 2 = 1 → n ≤ 1000000 → a ≤ 1000000 →
    (∀ m, f < m → fnl (r_impl_jacobi_L7 m (a : Int) (n : Int) (sg s)) = some (vl v)) ∧
    (a ≠ 0 → ∀ m j, f ≤ m → f < j → fnl ((r_impl_jacobi_L12 (n : Int) j (a : Int) (sg s)).bind (inn (n : Int) m)) = some (vl v))
  | 0, a, n, s, v, _, h, hv, _, _, _ => absurd h.symm hv
  | f + 1, a, n, s, v, hf, h, hv, hn, hnb, hab => by
    have second : a ≠ 0 → ∀ m j, f + 1 ≤ m → f + 1 < j → fnl ((r_impl_jacobi_L12 (n : Int) j (a : Int) (sg s)).bind (inn (n : Int) m)) = some (vl v) := by
      intro ha m j hm hj
      obtain ⟨j', rfl⟩ : ∃ j', j = j' + 1 := ⟨j - 1, by omega⟩
      rw [r_impl_jacobi_L12]
      rw [jN] at h
      rw [nbeq, decide_eq_false ha, cond_false] at h
      have e2 : Nat.beq (Nat.mod a 2) 0 = decide (a % 2 = 0) := nbeq _ _
      have e3 : eqI (Int.tmod (a : Int) 2) 0 = decide (a % 2 = 0) := eqI_nat (a % 2) 0
      rw [e2] at h
      rw [e3]
      by_cases hev : a % 2 = 0
      · rw [decide_eq_true hev, cond_true] at h
        rw [decide_eq_true hev, cond_true, sI_eq, show Int.tdiv (a : Int) 2 = ((a / 2 : Nat) : Int) from rfl, w64_in (by omega), two_pos hn hnb]
        simp only [Option.bind_some, sI_eq, sg_mul]
        exact (jac_run f (a / 2) n (xr s (tw n)) v (by omega) h hv hn hnb (by omega)).2 (by omega) m j' (by omega) (by omega)
      · rw [decide_eq_false hev, cond_false] at h
        rw [decide_eq_false hev, cond_false]
        simp only [Option.bind_some, inn, q3_eq]
        have hnza : nz (a : Int) = some () := nzP (by omega)
        have hmod : n % a ≤ 1000000 := Nat.le_trans (Nat.mod_le _ _) hnb
        have ih := (jac_run f (n % a) a (xr s (bif q3 a then q3 n else false)) v (by omega) h hv (by omega) hab hmod).1 m (by omega)
        cases hq : (bif q3 a then q3 n else false) with
        | true =>
          rw [hq] at ih
          simp only [cond_true, sI_eq, hnza, Option.bind_some, tmod_nat]
          have es : w64 (0 - sg s) = sg (xr s true) := by cases s <;> rfl
          rw [es]
          exact ih
        | false =>
          rw [hq] at ih
          simp only [cond_false, sI_eq, hnza, Option.bind_some, tmod_nat]
          have es : sg s = sg (xr s false) := by cases s <;> rfl
          rw [es]
          exact ih
    refine ⟨fun m hm => ?_, second⟩
    obtain ⟨m', rfl⟩ : ∃ m', m = m' + 1 := ⟨m - 1, by omega⟩
    rw [L7_succ, show (0 : Int) = ((0 : Nat) : Int) from rfl, eqI_nat]
    by_cases ha : a = 0
    · rw [decide_eq_true ha, Bool.not_true, cond_false]
      rw [jN, nbeq, decide_eq_true ha, cond_true, nbeq] at h
      unfold fnl
      simp only [Option.bind_some]
      rw [show (1 : Int) = ((1 : Nat) : Int) from rfl, eqI_nat]
      by_cases h1 : n = 1
      · rw [decide_eq_true h1, cond_true] at h
        rw [decide_eq_true h1]
        subst h
        cases s <;> rfl
      · rw [decide_eq_false h1, cond_false] at h
        rw [decide_eq_false h1]
        subst h
        rfl
    · rw [decide_eq_false ha, Bool.not_false, cond_true]
      have hFe : FU = 1000000000 := rfl
      exact second ha m' FU (by omega) (by omega)
def fn2 (o : Option (Int × Int × Int)) : Option Int := o.bind fun o7 => bif (bif (eqI o7.1 0) then (ltI 1 o7.2.1) else false) then some 0 else some o7.2.2
theorem sj_run : ∀ (f a n : Nat) (s : Bool) (v : Nat), jN f a n s = v → v ≠ 3 → n % 2 = 1 → n ≤ 1000000 → a < n → ∀ m, 2 * f < m → fn2 (r_spec_syJacobi_L6 m (a : Int) (n : Int) (sg s)) = some (vl v)
  | 0, a, n, s, v, h, hv, _, _, _, _, _ => absurd h.symm hv
  | f + 1, a, n, s, v, h, hv, hn, hnb, han, m, hm => by
    obtain ⟨m', rfl⟩ : ∃ m', m = m' + 1 + 1 := ⟨m - 2, by omega⟩
    rw [r_spec_syJacobi_L6]
    simp only [r_spec_syEnd, Option.bind_some]
    have e0 : eqI (a : Int) 0 = decide (a = 0) := eqI_nat a 0
    have e1 : eqI (a : Int) 1 = decide (a = 1) := eqI_nat a 1
    rw [e0, e1]
    rw [jN, nbeq] at h
    by_cases ha : a = 0
    · rw [decide_eq_true ha, cond_true, Bool.not_true, cond_false]
      rw [decide_eq_true ha, cond_true, nbeq] at h
      unfold fn2
      simp only [Option.bind_some]
      rw [e0, decide_eq_true ha, cond_true, ltI_eq]
      by_cases h1 : n = 1
      · rw [decide_eq_true h1, cond_true] at h
        rw [decide_eq_false (show ¬ (1 : Int) < (n : Int) by omega), cond_false]
        subst h
        cases s <;> rfl
      · rw [decide_eq_false h1, cond_false] at h
        rw [decide_eq_true (show (1 : Int) < (n : Int) by omega), cond_true]
        subst h
        rfl
    · rw [decide_eq_false ha, cond_false] at h ⊢
      by_cases ha1 : a = 1
      · rw [decide_eq_true ha1, Bool.not_true, cond_false]
        unfold fn2
        simp only [Option.bind_some]
        rw [e0, decide_eq_false ha, cond_false, cond_false]
        subst ha1
        -- the quick way comes to its end, too
        have h2 : jN f (Nat.mod n 1) 1 (xr s (bif q3 1 then q3 n else false)) = v := h
        have h3 : Nat.mod n 1 = 0 := Nat.mod_one n
        have h4 : (bif q3 1 then q3 n else false) = false := rfl
        rw [h3, h4] at h2
        cases f with
        | zero => exact absurd h2.symm hv
        | succ f =>
          have h5 : (bif xr s false then 2 else 1) = v := h2
          subst h5
          cases s <;> rfl
      · rw [decide_eq_false ha1, Bool.not_false, cond_true]
        have hin : r_spec_l1In (a : Int) 0 (w64 ((n : Int) - 1)) = some true := by
          rw [w64_in (by omega)]
          simp only [r_spec_l1In, leI_eq, decide_eq_true (show (0 : Int) ≤ (a : Int) by omega), decide_eq_true (show (a : Int) ≤ (n : Int) - 1 by omega), cond_true]
        have e2 : Nat.beq (Nat.mod a 2) 0 = decide (a % 2 = 0) := nbeq _ _
        have e3 : eqI (Int.tmod (a : Int) 2) 0 = decide (a % 2 = 0) := eqI_nat (a % 2) 0
        rw [e2] at h
        simp only [r_spec_sySuccessor, hin, Option.bind_some, Bool.not_true, cond_false, e3]
        by_cases hev : a % 2 = 0
        · rw [decide_eq_true hev, cond_true] at h
          rw [decide_eq_true hev, cond_true, sI_eq, show Int.tdiv (a : Int) 2 = ((a / 2 : Nat) : Int) from rfl, w64_in (by omega), stwo_pos hn hnb]
          simp only [Option.bind_some, sI_eq, sg_mul]
          exact sj_run f (a / 2) n _ v h hv hn hnb (by omega) (m' + 1) (by omega)
        · rw [decide_eq_false hev, cond_false] at h
          rw [decide_eq_false hev, cond_false]
          simp only [Option.bind_some, q3_eq]
          have hmod : n % a < a := Nat.mod_lt _ (by omega)
          have ih := sj_run f (n % a) a (xr s (bif q3 a then q3 n else false)) v h hv (by omega) (by omega) hmod m' (by omega)
          have hout : r_spec_l1In (n : Int) 0 (w64 ((a : Int) - 1)) = some false := by
            rw [w64_in (by omega)]
            simp only [r_spec_l1In, leI_eq, decide_eq_true (show (0 : Int) ≤ (n : Int) by omega), decide_eq_false (show ¬ (n : Int) ≤ (a : Int) - 1 by omega), cond_true]
          have em : r_spec_nuMod (n : Int) (a : Int) = some ((n % a : Nat) : Int) := by
            rw [smod_eq, mod_emod (by omega) (by omega)]
            rfl
          have n0 : eqI (n : Int) 0 = false := by
            have : eqI (n : Int) ((0 : Nat) : Int) = decide (n = 0) := eqI_nat n 0
            rw [show (0 : Int) = ((0 : Nat) : Int) from rfl, this, decide_eq_false (by omega)]
          have n1 : eqI (n : Int) 1 = false := by
            have : eqI (n : Int) ((1 : Nat) : Int) = decide (n = 1) := eqI_nat n 1
            rw [show (1 : Int) = ((1 : Nat) : Int) from rfl, this, decide_eq_false (by omega)]
          have one : ∀ sgn : Int, r_spec_syJacobi_L6 (m' + 1) (n : Int) (a : Int) sgn = r_spec_syJacobi_L6 m' ((n % a : Nat) : Int) (a : Int) sgn := by
            intro sgn
            rw [r_spec_syJacobi_L6]
            simp only [r_spec_syEnd, n0, n1, Option.bind_some, cond_false, Bool.not_false, cond_true, r_spec_sySuccessor, hout, em]
          cases hq : (bif q3 a then q3 n else false) with
          | true =>
            rw [hq] at ih
            simp only [cond_true, sI_eq, Option.bind_some, one]
            have es : w64 (0 - sg s) = sg (xr s true) := by cases s <;> rfl
            rw [es]
            exact ih
          | false =>
            rw [hq] at ih
            simp only [cond_false, Option.bind_some, one]
            have es : sg s = sg (xr s false) := by cases s <;> rfl
            rw [es]
            exact ih
theorem sg_sq (s : Bool) : sg s * sg s = 1 := by cases s <;> rfl
theorem vl_sg (s : Bool) : vl (bif s then 2 else 1) = sg s := by cases s <;> rfl
theorem sg_xr (s t : Bool) : sg (xr s t) = sg s * sg t := by cases s <;> cases t <;> rfl
theorem sg_tw {n : Nat} (hn : n % 2 = 1) : sg (tw n) = JJ 2 n := by
  rw [JJ_two hn, tw_odd hn]
  have : n % 8 = 1 ∨ n % 8 = 3 ∨ n % 8 = 5 ∨ n % 8 = 7 := by omega
  rcases this with h | h | h | h <;> rw [h] <;> rfl
theorem jN_JJ : ∀ (f a n : Nat) (s : Bool), jN f a n s ≠ 3 → n % 2 = 1 → vl (jN f a n s) = sg s * JJ a n
  | 0, a, n, s, h, _ => absurd rfl h
  | f + 1, a, n, s, h, hn => by
    have e2 : Nat.beq (Nat.mod a 2) 0 = decide (a % 2 = 0) := nbeq _ _
    rw [jN, nbeq, e2] at h ⊢
    by_cases h0 : a = 0
    · rw [decide_eq_true h0, cond_true, nbeq]
      subst h0
      by_cases h1 : n = 1
      · rw [decide_eq_true h1, cond_true, vl_sg, h1, JJ_at1, Int.mul_one]
      · rw [decide_eq_false h1, cond_false, JJ_zero n h1, Int.mul_zero]
        rfl
    · rw [decide_eq_false h0, cond_false] at h ⊢
      by_cases ha : a % 2 = 0
      · rw [decide_eq_true ha, cond_true] at h ⊢
        obtain ⟨b, rfl⟩ : ∃ b, a = 2 * b := ⟨a / 2, by omega⟩
        have e : Nat.div (2 * b) 2 = b := by show 2 * b / 2 = b; omega
        rw [e] at h ⊢
        rw [jN_JJ f b n _ h hn, sg_xr, sg_tw hn, JJ_mul hn]
        grind
      · have ha : a % 2 = 1 := by omega
        rw [decide_eq_false (by omega), cond_false] at h ⊢
        have e : Nat.mod n a = n % a := rfl
        rw [e] at h ⊢
        rw [jN_JJ f (n % a) a _ h ha, sg_xr, JJ_mod, JJ_rec ha hn]
        have eq3 : ∀ x : Nat, q3 x = decide (x % 4 = 3) := fun x => nbeq _ _
        rw [eq3, eq3]
        by_cases c : a % 4 = 3
        · by_cases g : n % 4 = 3
          · rw [if_pos ⟨c, g⟩, decide_eq_true c, decide_eq_true g]
            show sg s * -1 * _ = _
            grind
          · rw [if_neg (fun h => g h.2), decide_eq_true c, decide_eq_false g]
            show sg s * 1 * _ = _
            grind
        · rw [if_neg (fun h => c h.1), decide_eq_false c]
          show sg s * 1 * _ = _
          grind
theorem jN_fuel : ∀ (k f a n : Nat) (s : Bool), 1 ≤ n → a * n < 2 ^ k → 2 * k + (if a ≤ n then 1 else 2) ≤ f → jN f a n s ≠ 3
  | k, 0, a, n, s, _, _, h => by split at h <;> omega
  | k, f + 1, a, n, s, hn, hk, hf => by
    have e2 : Nat.beq (Nat.mod a 2) 0 = decide (a % 2 = 0) := nbeq _ _
    rw [jN, nbeq, e2]
    by_cases h0 : a = 0
    · rw [decide_eq_true h0, cond_true]
      cases Nat.beq n 1 <;> cases s <;> decide
    · rw [decide_eq_false h0, cond_false]
      have hk1 : 1 ≤ k := by
        rcases Nat.eq_zero_or_pos k with e | e
        · subst e
          have : 1 * 1 ≤ a * n := Nat.mul_le_mul (by omega) hn
          omega
        · exact e
      obtain ⟨k', rfl⟩ : ∃ k', k = k' + 1 := ⟨k - 1, by omega⟩
      have hp : (2 : Nat) ^ (k' + 1) = 2 * 2 ^ k' := by rw [Nat.pow_succ]; omega
      by_cases ha : a % 2 = 0
      · rw [decide_eq_true ha, cond_true]
        obtain ⟨b, rfl⟩ : ∃ b, a = 2 * b := ⟨a / 2, by omega⟩
        have e : Nat.div (2 * b) 2 = b := by show 2 * b / 2 = b; omega
        rw [e]
        have h3 : 2 * b * n = 2 * (b * n) := Nat.mul_assoc 2 b n
        refine jN_fuel k' f b n _ hn (by omega) ?_
        split at hf <;> split <;> omega
      · rw [decide_eq_false ha, cond_false]
        have e : Nat.mod n a = n % a := rfl
        rw [e]
        have hlt := Nat.mod_lt n (show 0 < a by omega)
        by_cases hle : a ≤ n
        · rw [if_pos hle] at hf
          have h4 : 2 * (n % a) ≤ n := by
            have := Nat.div_add_mod n a
            have h5 : 1 ≤ n / a := Nat.div_pos hle (by omega)
            have h6 : a * 1 ≤ a * (n / a) := Nat.mul_le_mul_left a h5
            omega
          have h5 : 2 * (n % a) * a ≤ n * a := Nat.mul_le_mul_right a h4
          have h6 : 2 * (n % a) * a = 2 * (n % a * a) := Nat.mul_assoc 2 _ _
          have h7 : n * a = a * n := Nat.mul_comm n a
          refine jN_fuel k' f (n % a) a _ (by omega) (by omega) ?_
          rw [if_pos (by omega)]
          omega
        · rw [if_neg hle] at hf
          have e3 : n % a = n := Nat.mod_eq_of_lt (by omega)
          rw [e3]
          refine jN_fuel (k' + 1) f n a _ (by omega) (by rw [Nat.mul_comm]; exact hk) ?_
          rw [if_pos (by omega)]
          omega
theorem jN_ok {a n : Nat} (h1 : 1 ≤ n) (hn : n ≤ 1000000) (ha : a ≤ 1000000) (s : Bool) : jN 100 a n s ≠ 3 := by
  have h : a * n ≤ 1000000 * 1000000 := Nat.mul_le_mul ha hn
  refine jN_fuel 40 100 a n s h1 (by omega) ?_
  split <;> omega
theorem ij_val {n : Nat} (hn : n % 2 = 1) (hb : n ≤ 1000000) (d : Int) : r_impl_jacobi d (n : Int) = some (JI d n) := by
  have hFe : FU = 1000000000 := rfl
  have hn0 : (n : Int) ≠ 0 := by omega
  have e1 := Int.emod_nonneg d hn0
  have e2 := Int.emod_lt_of_pos d (show (0 : Int) < (n : Int) by omega)
  have hok := jN_ok (a := (d % (n : Int)).toNat) (show 1 ≤ n by omega) hb (by omega) false
  have := (jac_run 100 (d % (n : Int)).toNat n false _ (by omega) rfl hok hn hb (by omega)).1 FU (by omega)
  rw [jN_JJ 100 _ n false hok hn, Int.toNat_of_nonneg e1] at this
  simp only [r_impl_jacobi, mod_emod (a := d) (m := (n : Int)) (by omega) (by omega), Option.bind_some]
  have e3 : sg false * JJ (d % (n : Int)).toNat n = JI d n := by
    show 1 * JJ (d % (n : Int)).toNat n = JI d n
    rw [Int.one_mul]
    rfl
  rw [e3] at this
  exact this
theorem sj_val {n : Nat} (hn : n % 2 = 1) (hb : n ≤ 1000000) (d : Int) : r_spec_syJacobi d (n : Int) = some (JI d n) := by
  obtain ⟨m, hm⟩ : ∃ m, FU = m + 1 := ⟨FU - 1, rfl⟩
  have hFe : FU = 1000000000 := rfl
  have hn0 : (n : Int) ≠ 0 := by omega
  have e1 := Int.emod_nonneg d hn0
  have e2 := Int.emod_lt_of_pos d (show (0 : Int) < (n : Int) by omega)
  have hok := jN_ok (a := (d % (n : Int)).toNat) (show 1 ≤ n by omega) hb (by omega) false
  have e3 : sg false * JJ (d % (n : Int)).toNat n = JI d n := by
    show 1 * JJ (d % (n : Int)).toNat n = JI d n
    rw [Int.one_mul]
    rfl
  have run : ∀ m, 200 < m → fn2 (r_spec_syJacobi_L6 m (d % (n : Int)) (n : Int) 1) = some (JI d n) := by
    intro m hm
    have := sj_run 100 (d % (n : Int)).toNat n false _ rfl hok hn hb (by omega) m (by omega)
    rw [jN_JJ 100 _ n false hok hn, Int.toNat_of_nonneg e1, e3] at this
    exact this
  show fn2 (r_spec_syJacobi_L6 FU d (n : Int) 1) = some (JI d n)
  by_cases hin : 0 ≤ d ∧ d < (n : Int)
  · have := run FU (by omega)
    rw [Int.emod_eq_of_lt hin.1 hin.2] at this
    exact this
  · rw [hm, r_spec_syJacobi_L6]
    by_cases h1 : d = 1
    · have hn1 : n = 1 := by omega
      subst h1
      subst hn1
      rfl
    · have n0 : eqI d 0 = false := by rw [eqI_eq, beq_eq_false_iff_ne]; omega
      have n1 : eqI d 1 = false := by rw [eqI_eq, beq_eq_false_iff_ne]; exact h1
      have hout : r_spec_l1In d 0 (w64 ((n : Int) - 1)) = some false := by
        simp only [r_spec_l1In, leI_eq]
        rw [w64_in (by omega)]
        by_cases a : 0 ≤ d
        · rw [decide_eq_true a, decide_eq_false (by omega)]; rfl
        · rw [decide_eq_false a]; rfl
      simp only [r_spec_syEnd, n0, n1, Option.bind_some, cond_false, Bool.not_false, cond_true, r_spec_sySuccessor, hout, smod_eq, mod_emod (a := d) (m := (n : Int)) (by omega) (by omega)]
      exact run m (by omega)
theorem i2_val {d : Int} (h : d % 2 = 1) : r_impl_symbolOfTwo d = some (t2 d) := by
  simp only [r_impl_symbolOfTwo, mod_emod (show (1 : Int) ≤ 8 by omega) (show (8 : Int) ≤ 1000000 by omega), Option.bind_some]
  unfold t2
  rw [if_neg (by omega)]
  have : d % 8 = 1 ∨ d % 8 = 3 ∨ d % 8 = 5 ∨ d % 8 = 7 := by omega
  rcases this with h | h | h | h <;> rw [h] <;> rfl
theorem s2_val (d : Int) : r_spec_syTwo d = some (t2 d) := by
  simp only [r_spec_syTwo, smod_eq, mod_emod (show (1 : Int) ≤ 8 by omega) (show (8 : Int) ≤ 1000000 by omega), Option.bind_some]
  unfold t2
  have : d % 8 = 0 ∨ d % 8 = 1 ∨ d % 8 = 2 ∨ d % 8 = 3 ∨ d % 8 = 4 ∨ d % 8 = 5 ∨ d % 8 = 6 ∨ d % 8 = 7 := by omega
  rcases this with h | h | h | h | h | h | h | h
  · rw [if_pos (by omega), h]; rfl
  · rw [if_neg (by omega), h]; rfl
  · rw [if_pos (by omega), h]; rfl
  · rw [if_neg (by omega), h]; rfl
  · rw [if_pos (by omega), h]; rfl
  · rw [if_neg (by omega), h]; rfl
  · rw [if_pos (by omega), h]; rfl
  · rw [if_neg (by omega), h]; rfl
theorem ev_dec (d : Int) : eqI (Int.tmod d 2) 0 = decide (d % 2 = 0) := by
  rw [eqI_eq, Bool.eq_iff_iff, beq_iff_eq, decide_eq_true_iff]
  have e := Int.tmod_eq_emod (a := d) (b := 2)
  split at e <;> omega
theorem un_in {x : Int} (h : x = 0 ∨ x = 1 ∨ x = -1) : w64 x = x := by rcases h with h | h | h <;> rw [h] <;> rfl
theorem un_mul {x y : Int} (h : x = 0 ∨ x = 1 ∨ x = -1) (g : y = 0 ∨ y = 1 ∨ y = -1) : x * y = 0 ∨ x * y = 1 ∨ x * y = -1 := by
  rcases h with h | h | h <;> rcases g with g | g | g <;> rw [h, g] <;> decide
theorem t2_un (d : Int) : t2 d = 0 ∨ t2 d = 1 ∨ t2 d = -1 := by
  unfold t2
  split
  · exact .inl rfl
  · split
    · exact .inr (.inr rfl)
    · exact .inr (.inl rfl)
def krI (d : Int) (q : (Int × Int) ⊕ Int) : Option Int := match q with
  | .inr r => some r
  | .inl o13 => (r_impl_jacobi d o13.1).bind fun y19 => sI (w64 (o13.2 * y19)) fun t20 => some t20
theorem ik_run (d : Int) : ∀ (f k : Nat) (s : Int), 1 ≤ k → k < 2 ^ f → k ≤ 1000000 → (s = 0 ∨ s = 1 ∨ s = -1) → ∀ m, f ≤ m → ((r_impl_kronecker_L12 d m (k : Int) s).bind (krI d)) = some (s * KK d k)
  | 0, k, s, h1, h2, _, _, m, _ => by simp at h2; omega
  | f + 1, k, s, h1, h2, h3, hs, m, hm => by
    obtain ⟨m', rfl⟩ : ∃ m', m = m' + 1 := ⟨m - 1, by omega⟩
    have hp : (2 : Nat) ^ (f + 1) = 2 * 2 ^ f := by rw [Nat.pow_succ]; omega
    rw [r_impl_kronecker_L12, ev_dec, ev_dec]
    by_cases hk : k % 2 = 0
    · rw [decide_eq_true (by omega), cond_true, KK_even d hk]
      by_cases hd : d % 2 = 0
      · rw [decide_eq_true hd, cond_true]
        have : t2 d = 0 := by unfold t2; rw [if_pos hd]
        rw [this, Int.zero_mul, Int.mul_zero]
        rfl
      · rw [decide_eq_false hd, cond_false, i2_val (by omega)]
        simp only [sI_eq, Option.bind_some, show Int.tdiv (k : Int) 2 = ((k / 2 : Nat) : Int) from rfl]
        rw [w64_in (by omega), un_in (un_mul hs (t2_un d)), ik_run d f (k / 2) (s * t2 d) (by omega) (by omega) (by omega) (un_mul hs (t2_un d)) m' (by omega)]
        rw [Int.mul_assoc]
    · rw [decide_eq_false (by omega), cond_false, KK_odd d (by omega)]
      show krI d (.inl ((k : Int), s)) = _
      unfold krI
      dsimp only
      rw [ij_val (by omega) h3]
      simp only [Option.bind_some, sI_eq]
      rw [un_in (un_mul hs (show JI d k = 0 ∨ JI d k = 1 ∨ JI d k = -1 from JJ_unit))]
def krS (d : Int) (o13 : Int × Int) : Option Int := (r_spec_syJacobi d o13.1).bind fun y18 => sI (w64 (o13.2 * y18)) fun t19 => some t19
theorem ik_val {k : Nat} (h1 : 1 ≤ k) (h2 : k ≤ 1000000) (d : Int) : r_impl_kronecker d (k : Int) = some (KK d k) := by
  have hFe : FU = 1000000000 := rfl
  have h0 : eqI (k : Int) 0 = false := by rw [eqI_eq, beq_eq_false_iff_ne]; omega
  have h3 : ltI (k : Int) 0 = false := by rw [ltI_eq]; exact decide_eq_false (by omega)
  have habs : r_impl_abs (k : Int) = some (k : Int) := by
    have e1 : mxI (k : Int) (-9223372036854775807) = (k : Int) := by
      unfold mxI
      rw [ltI_eq, decide_eq_false (by omega)]
      rfl
    simp only [r_impl_abs, sI_eq, e1]
    rw [w64_in (by omega)]
    unfold mxI
    rw [ltI_eq, decide_eq_false (by omega)]
    rfl
  have := ik_run d 20 k 1 h1 (by omega) h2 (.inr (.inl rfl)) FU (by omega)
  simp only [r_impl_kronecker, h0, h3, cond_false, Option.bind_some, habs]
  rw [Int.one_mul] at this
  exact this
end Go.Proofs.Ytpfnhgpepgeaiaa
