/-
  The Kronecker symbol by Jacobi symbols: it is multiplicative below, and of a discriminant it depends on the residue alone.
  Conditions: none.
-/
import Derived.Test.YtgeajejmikaniaaFpQr
namespace Go.Proofs.Ytgeajejmikaniaa
set_option linter.unusedVariables false
set_option linter.unusedSimpArgs false

theorem JJ_unit {a n : Nat} : JJ a n = 0 ∨ JJ a n = 1 ∨ JJ a n = -1 := by
  by_cases h : Nat.gcd a n = 1
  · rw [JJ_pos h]
    split
    · exact .inr (.inl rfl)
    · exact .inr (.inr rfl)
  · exact .inl (JJ_neg h)
def sg4 (n : Nat) : Int := if n % 4 = 3 then -1 else 1
def sg8 (n : Nat) : Int := if n % 8 = 3 ∨ n % 8 = 5 then -1 else 1
theorem sg4_mul {m n : Nat} (hm : m % 2 = 1) (hn : n % 2 = 1) : sg4 (m * n) = sg4 m * sg4 n := by
  unfold sg4
  have e : (m * n) % 4 = (m % 4) * (n % 4) % 4 := Nat.mul_mod m n 4
  have hm4 : m % 4 = 1 ∨ m % 4 = 3 := by omega
  have hn4 : n % 4 = 1 ∨ n % 4 = 3 := by omega
  rcases hm4 with c1 | c1 <;> rcases hn4 with c2 | c2 <;> rw [e, c1, c2] <;> rfl
theorem JJ_m1 {n : Nat} (hn : n % 2 = 1) : JJ (n - 1) n = sg4 n := by
  by_cases h1 : n = 1
  · subst h1; rfl
  have hg : Nat.gcd (n - 1) n = 1 := by
    have h2 : Nat.gcd (n - 1) (n - 1 + 1) = 1 := by rw [Nat.gcd_self_add_right, Nat.gcd_one_right]
    rw [show n - 1 + 1 = n by omega] at h2
    exact h2
  have hct : ct (n - 1) n = n / 2 := by
    unfold ct
    have : (List.range' 1 (n / 2)).countP (flp (n - 1) n) = (List.range' 1 (n / 2)).length := by
      rw [List.countP_eq_length]
      intro k hk
      rw [List.mem_range'_1] at hk
      unfold flp
      rw [decide_eq_true_iff]
      have e : (n - 1) * k % n = n - k := by
        have e1 : (n - 1) * k = (n - k) + n * (k - 1) := by
          obtain ⟨j, rfl⟩ : ∃ j, k = j + 1 := ⟨k - 1, by omega⟩
          obtain ⟨m, rfl⟩ : ∃ m, n = m + (j + 1) := ⟨n - (j + 1), by omega⟩
          rw [Nat.add_sub_cancel, Nat.add_sub_cancel]
          have : m + (j + 1) - 1 = m + j := by omega
          rw [this]
          grind
        rw [e1, Nat.add_mul_mod_self_left, Nat.mod_eq_of_lt (by omega)]
      rw [e]
      omega
    rw [this, List.length_range']
  rw [JJ_pos hg, hct]
  unfold sg4
  by_cases h : n % 4 = 3
  · rw [if_pos h, if_neg (by omega)]
  · rw [if_neg h, if_pos (by omega)]
/-- The Jacobi symbol of an integer. -/
def JI (d : Int) (n : Nat) : Int := JJ (d % (n : Int)).toNat n
def sgD (d : Int) (n : Nat) : Int := if d < 0 then sg4 n else 1
theorem JI_val {n : Nat} (hn : n % 2 = 1) (d : Int) : JI d n = sgD d n * JJ d.natAbs n := by
  unfold JI sgD
  by_cases hd : d < 0
  · rw [if_pos hd, ← JJ_m1 hn, ← JJ_mul hn, ← JJ_mod ((n - 1) * d.natAbs)]
    congr 1
    have e1 : (((n - 1) * d.natAbs % n : Nat) : Int) = d % (n : Int) := by
      push_cast
      have e2 : (((n - 1 : Nat) : Int)) = (n : Int) - 1 := by omega
      have e3 : ((d.natAbs : Nat) : Int) = -d := by omega
      rw [e2, e3, show ((n : Int) - 1) * -d = d + (n : Int) * -d by grind, Int.add_mul_emod_self_left]
    omega
  · rw [if_neg hd, Int.one_mul, ← JJ_mod d.natAbs]
    congr 1
    have e1 : ((d.natAbs % n : Nat) : Int) = d % (n : Int) := by rw [Int.natCast_emod, show ((d.natAbs : Nat) : Int) = d by omega]
    omega
theorem sgD_mul {m n : Nat} (hm : m % 2 = 1) (hn : n % 2 = 1) (d : Int) : sgD d (m * n) = sgD d m * sgD d n := by
  unfold sgD
  by_cases hd : d < 0
  · rw [if_pos hd, if_pos hd, if_pos hd, sg4_mul hm hn]
  · rw [if_neg hd, if_neg hd, if_neg hd]; rfl
theorem JI_low {m n : Nat} (hm : m % 2 = 1) (hn : n % 2 = 1) (d : Int) : JI d (m * n) = JI d m * JI d n := by
  have hmn : (m * n) % 2 = 1 := by rw [Nat.mul_mod, hm, hn]
  rw [JI_val hmn, JI_val hm, JI_val hn, sgD_mul hm hn, JJ_low _ hm hn]
  grind
theorem JI_mul {n : Nat} (hn : n % 2 = 1) (a b : Int) : JI (a * b) n = JI a n * JI b n := by
  unfold JI
  rw [← JJ_mul hn, ← JJ_mod ((a % (n : Int)).toNat * (b % (n : Int)).toNat)]
  congr 1
  have hn0 : (n : Int) ≠ 0 := by omega
  have e1 := Int.emod_nonneg a hn0
  have e2 := Int.emod_nonneg b hn0
  have e3 : (((a % (n : Int)).toNat * (b % (n : Int)).toNat % n : Nat) : Int) = (a * b) % (n : Int) := by
    push_cast
    rw [Int.toNat_of_nonneg e1, Int.toNat_of_nonneg e2, ← Int.mul_emod]
  omega
/-- The symbol below 2. -/
def t2 (d : Int) : Int := if d % 2 = 0 then 0 else if d % 8 = 3 ∨ d % 8 = 5 then -1 else 1
/-- The Kronecker symbol; 0 below 0. -/
def KK (d : Int) (k : Nat) : Int := if h : k = 0 then 0 else if k % 2 = 0 then t2 d * KK d (k / 2) else JI d k
termination_by k
decreasing_by omega
theorem KK_zero (d : Int) : KK d 0 = 0 := by rw [KK]; rfl
theorem KK_even (d : Int) {k : Nat} (h : k % 2 = 0) : KK d k = t2 d * KK d (k / 2) := by
  by_cases h0 : k = 0
  · subst h0; rw [KK_zero]; simp [KK_zero]
  · rw [KK, dif_neg h0, if_pos h]
theorem KK_odd (d : Int) {k : Nat} (h : k % 2 = 1) : KK d k = JI d k := by
  rw [KK, dif_neg (by omega), if_neg (by omega)]
theorem KK_mul (d : Int) : ∀ (i j : Nat), KK d (i * j) = KK d i * KK d j := by
  have two : ∀ (i : Nat), i % 2 = 1 → ∀ j : Nat, KK d (i * j) = KK d i * KK d j := by
    intro i hi j
    induction j using Nat.strongRecOn with
    | ind j ih =>
      by_cases h0 : j = 0
      · subst h0; rw [Nat.mul_zero, KK_zero, Int.mul_zero]
      · by_cases hj : j % 2 = 0
        · have e : (i * j) % 2 = 0 := by rw [Nat.mul_mod, hj, Nat.mul_zero]
          have e2 : i * j / 2 = i * (j / 2) := Nat.mul_div_assoc i (Nat.dvd_of_mod_eq_zero hj)
          rw [KK_even d e, KK_even d hj, e2, ih (j / 2) (by omega)]
          grind
        · have hj : j % 2 = 1 := by omega
          rw [KK_odd d hi, KK_odd d hj, KK_odd d (by rw [Nat.mul_mod, hi, hj]), JI_low hi hj]
  intro i
  induction i using Nat.strongRecOn with
  | ind i ih =>
    intro j
    by_cases h0 : i = 0
    · subst h0; rw [Nat.zero_mul, KK_zero, Int.zero_mul]
    · by_cases hi : i % 2 = 0
      · have e : (i * j) % 2 = 0 := by rw [Nat.mul_mod, hi, Nat.zero_mul]
        have e2 : i * j / 2 = i / 2 * j := Nat.div_mul_right_comm (Nat.dvd_of_mod_eq_zero hi) j |>.symm
        rw [KK_even d e, KK_even d hi, e2, ih (i / 2) (by omega) j]
        grind
      · exact two i (by omega) j
/-- Of an odd discriminant it is the symbol the other way round. -/
theorem KK_flip {d : Int} (h4 : d % 4 = 1) (h1 : d.natAbs ≠ 1) : ∀ i : Nat, KK d i = JJ i d.natAbs := by
  have hD : d.natAbs % 2 = 1 := by omega
  have ht : t2 d = JJ 2 d.natAbs := by
    rw [JJ_two hD]
    unfold t2
    rw [if_neg (by omega)]
    by_cases h : d % 8 = 3 ∨ d % 8 = 5
    · rw [if_pos h, if_pos (by omega)]
    · rw [if_neg h, if_neg (by omega)]
  intro i
  induction i using Nat.strongRecOn with
  | ind i ih =>
    by_cases h0 : i = 0
    · subst h0; rw [KK_zero, JJ_zero _ h1]
    · by_cases hi : i % 2 = 0
      · obtain ⟨j, rfl⟩ : ∃ j, i = 2 * j := ⟨i / 2, by omega⟩
        rw [KK_even d hi, JJ_mul hD, ht, show 2 * j / 2 = j by omega, ih j (by omega)]
      · have hi : i % 2 = 1 := by omega
        rw [KK_odd d hi, JI_val hi, JJ_rec hD hi]
        unfold sgD sg4
        by_cases hd : d < 0
        · rw [if_pos hd]
          by_cases g : i % 4 = 3
          · rw [if_pos g, if_pos ⟨by omega, g⟩]; grind
          · rw [if_neg g, if_neg (fun h => g h.2)]; grind
        · rw [if_neg hd, if_neg (fun h => by omega)]; grind
theorem JJ_cong : ∀ (b : Nat), 1 ≤ b → ∀ {i j : Nat}, i % 2 = 1 → j % 2 = 1 → i % (4 * b) = j % (4 * b) → JJ b i = JJ b j := by
  intro b
  induction b using Nat.strongRecOn with
  | ind b ih =>
    intro hb i j hi hj h
    have h4 : i % 4 = j % 4 := by
      have e1 : i % (4 * b) % 4 = i % 4 := Nat.mod_mul_right_mod i 4 b
      have e2 : j % (4 * b) % 4 = j % 4 := Nat.mod_mul_right_mod j 4 b
      rw [← e1, ← e2, h]
    by_cases hbo : b % 2 = 1
    · have hm : i % b = j % b := by
        have e1 : i % (4 * b) % b = i % b := by rw [Nat.mul_comm]; exact Nat.mod_mul_right_mod i b 4
        have e2 : j % (4 * b) % b = j % b := by rw [Nat.mul_comm]; exact Nat.mod_mul_right_mod j b 4
        rw [← e1, ← e2, h]
      rw [JJ_rec hbo hi, JJ_rec hbo hj, ← JJ_mod i, ← JJ_mod j, hm, h4]
    · obtain ⟨c, rfl⟩ : ∃ c, b = 2 * c := ⟨b / 2, by omega⟩
      have h8 : i % 8 = j % 8 := by
        have e1 : i % (8 * c) % 8 = i % 8 := Nat.mod_mul_right_mod i 8 c
        have e2 : j % (8 * c) % 8 = j % 8 := Nat.mod_mul_right_mod j 8 c
        have e3 : 4 * (2 * c) = 8 * c := by omega
        rw [e3] at h
        rw [← e1, ← e2, h]
      have hc4 : i % (4 * c) = j % (4 * c) := by
        have e0 : 4 * (2 * c) = 4 * c * 2 := by omega
        have e1 : i % (4 * c * 2) % (4 * c) = i % (4 * c) := Nat.mod_mul_right_mod i (4 * c) 2
        have e2 : j % (4 * c * 2) % (4 * c) = j % (4 * c) := Nat.mod_mul_right_mod j (4 * c) 2
        rw [e0] at h
        rw [← e1, ← e2, h]
      rw [JJ_mul hi, JJ_mul hj, JJ_two hi, JJ_two hj, h8, ih c (by omega) (by omega) hi hj hc4]
theorem JJ_four {b i : Nat} (hi : i % 2 = 1) : JJ (4 * b) i = JJ b i := by
  rw [show 4 * b = 2 * (2 * b) by omega, JJ_mul hi, JJ_mul hi, JJ_two hi]
  split <;> grind
/-- The symbol of a discriminant has its size as a period. -/
theorem KK_per {d : Int} (h4 : d % 4 = 0 ∨ d % 4 = 1) (h1 : 2 ≤ d.natAbs) (i : Nat) : KK d (i % d.natAbs) = KK d i := by
  rcases h4 with h4 | h4
  · obtain ⟨b, hb⟩ : ∃ b : Nat, d.natAbs = 4 * b := ⟨d.natAbs / 4, by omega⟩
    have t0 : t2 d = 0 := by unfold t2; rw [if_pos (by omega)]
    have hpar : i % d.natAbs % 2 = i % 2 := by
      rw [hb, show 4 * b = 2 * (2 * b) by omega]
      exact Nat.mod_mul_right_mod i 2 (2 * b)
    by_cases hi : i % 2 = 0
    · rw [KK_even d hi, KK_even d (show i % d.natAbs % 2 = 0 by omega), t0, Int.zero_mul, Int.zero_mul]
    · have hi : i % 2 = 1 := by omega
      have hi2 : i % d.natAbs % 2 = 1 := by omega
      have e4 : i % d.natAbs % 4 = i % 4 := by rw [hb]; exact Nat.mod_mul_right_mod i 4 b
      rw [KK_odd d hi, KK_odd d hi2, JI_val hi, JI_val hi2]
      have hs : sgD d (i % d.natAbs) = sgD d i := by unfold sgD sg4; rw [e4]
      rw [hs]
      congr 1
      have e : JJ d.natAbs (i % d.natAbs) = JJ (4 * b) (i % d.natAbs) := by rw [hb]
      rw [e, hb, JJ_four hi, JJ_four (by rw [← hb]; exact hi2)]
      refine JJ_cong b (by omega) (by rw [← hb]; exact hi2) hi ?_
      rw [Nat.mod_mod]
  · rw [KK_flip h4 (by omega), KK_flip h4 (by omega), JJ_mod]
theorem KK_unit (d : Int) (k : Nat) : KK d k = 0 ∨ KK d k = 1 ∨ KK d k = -1 := by
  induction k using Nat.strongRecOn with
  | ind k ih =>
    by_cases h0 : k = 0
    · subst h0; exact .inl (KK_zero d)
    · by_cases hk : k % 2 = 0
      · rw [KK_even d hk]
        have ht : t2 d = 0 ∨ t2 d = 1 ∨ t2 d = -1 := by
          unfold t2
          split
          · exact .inl rfl
          · split
            · exact .inr (.inr rfl)
            · exact .inr (.inl rfl)
        rcases ih (k / 2) (by omega) with h | h | h <;> rcases ht with g | g | g <;> rw [h, g] <;> decide
      · rw [KK_odd d (by omega)]
        exact JJ_unit
theorem KK_gcd {d : Int} (h4 : d % 4 = 0 ∨ d % 4 = 1) (h1 : 2 ≤ d.natAbs) {i : Nat} (h : KK d i ≠ 0) : Nat.gcd i d.natAbs = 1 := by
  rcases h4 with h4 | h4
  · by_cases hi : i % 2 = 0
    · exfalso
      apply h
      rw [KK_even d hi]
      unfold t2
      rw [if_pos (by omega), Int.zero_mul]
    · have hi : i % 2 = 1 := by omega
      rw [KK_odd d hi, JI_val hi] at h
      by_cases g : Nat.gcd d.natAbs i = 1
      · rw [Nat.gcd_comm]; exact g
      · rw [JJ_neg g, Int.mul_zero] at h
        exact absurd rfl h
  · rw [KK_flip h4 (by omega)] at h
    by_cases g : Nat.gcd i d.natAbs = 1
    · exact g
    · exact absurd (JJ_neg g) h
theorem perm_sum {l1 l2 : List Int} (h : l1.Perm l2) : l1.sum = l2.sum := by
  induction h with
  | nil => rfl
  | cons x _ ih => rw [List.sum_cons, List.sum_cons, ih]
  | swap x y l => simp only [List.sum_cons]; omega
  | trans _ _ i1 i2 => rw [i1, i2]
/-- The symbols of all residues have the sum 0, if one of them is -1. -/
theorem KK_sum {d : Int} (h4 : d % 4 = 0 ∨ d % 4 = 1) (h1 : 2 ≤ d.natAbs) {u : Nat} (hu : KK d u = -1) : ((List.range d.natAbs).map fun k => KK d k).sum = 0 := by
  have hg := KK_gcd h4 h1 (i := u) (by rw [hu]; decide)
  have hp : ((List.range d.natAbs).map fun k => u * k % d.natAbs).Perm (List.range d.natAbs) := by
    refine perm_of ?_ List.nodup_range (fun x hx => ?_) (by simp)
    · unfold List.Nodup
      rw [List.pairwise_map]
      refine List.Pairwise.imp_of_mem ?_ (List.nodup_range (n := d.natAbs))
      intro k l hk hl hne he
      rw [List.mem_range] at hk hl
      refine hne ?_
      rcases Nat.le_total k l with hkl | hkl
      · have := mod_eq_dvd (Nat.mul_le_mul_left u hkl) he
        rw [← Nat.mul_sub] at this
        have h5 := cop_dvd hg this
        rcases Nat.eq_zero_or_pos (l - k) with h6 | h6
        · omega
        · have := Nat.le_of_dvd h6 h5
          omega
      · have := mod_eq_dvd (Nat.mul_le_mul_left u hkl) he.symm
        rw [← Nat.mul_sub] at this
        have h5 := cop_dvd hg this
        rcases Nat.eq_zero_or_pos (k - l) with h6 | h6
        · omega
        · have := Nat.le_of_dvd h6 h5
          omega
    · obtain ⟨k, _, rfl⟩ := List.mem_map.1 hx
      rw [List.mem_range]
      exact Nat.mod_lt _ (by omega)
  have e1 : ((List.range d.natAbs).map fun k => KK d k).sum = (((List.range d.natAbs).map fun k => u * k % d.natAbs).map fun k => KK d k).sum := (perm_sum (hp.map _)).symm
  have e2 : (((List.range d.natAbs).map fun k => u * k % d.natAbs).map fun k => KK d k) = (List.range d.natAbs).map fun k => -1 * KK d k := by
    rw [List.map_map]
    refine List.map_congr_left fun k _ => ?_
    show KK d (u * k % d.natAbs) = _
    rw [KK_per h4 h1, KK_mul, hu]
  have e3 : ∀ l : List Nat, (l.map fun k => -1 * KK d k).sum = -(l.map fun k => KK d k).sum := by
    intro l
    induction l with
    | nil => rfl
    | cons k l ih => simp only [List.map_cons, List.sum_cons, ih]; omega
  rw [e2, e3] at e1
  omega
end Go.Proofs.Ytgeajejmikaniaa
