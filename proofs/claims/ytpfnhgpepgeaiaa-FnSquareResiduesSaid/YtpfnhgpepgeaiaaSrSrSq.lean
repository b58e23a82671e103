/-
  The squares of residues: of an odd prime p there are half of p and one more, and the least number that is none is none.
  Conditions: none.
-/
import Derived.Test.YtpfnhgpepgeaiaaSrDis
namespace Go.Proofs.Ytpfnhgpepgeaiaa
set_option linter.unusedVariables false
set_option linter.unusedSimpArgs false

def hasS (m x r : Nat) : Bool := (List.range x).any fun y => Nat.beq (y * y % m) r
def hv (m x : Nat) : List Bool := (List.range m).map fun r => hasS m x r
theorem hv_len (m x : Nat) : (hv m x).length = m := by simp [hv]
theorem hv_set {m x : Nat} (hm : 0 < m) : (hv m x).set (x * x % m) true = hv m (x + 1) := by
  refine List.ext_getElem? fun i => ?_
  rw [List.getElem?_set]
  unfold hv
  rw [List.getElem?_map, List.getElem?_map, List.length_map, List.length_range]
  have hlt := Nat.mod_lt (x * x) hm
  by_cases hi : i < m
  · rw [List.getElem?_range hi]
    simp only [Option.map_some]
    unfold hasS
    rw [List.range_succ, List.any_append]
    by_cases he : x * x % m = i
    · rw [if_pos he, if_pos hlt]
      simp [he]
    · rw [if_neg he]
      have : Nat.beq (x * x % m) i = false := by
        cases hb : Nat.beq (x * x % m) i with
        | false => rfl
        | true => exact absurd (Nat.eq_of_beq_eq_true hb) he
      simp [this]
  · rw [List.getElem?_eq_none (by simp; omega), if_neg (by omega)]
    rfl
theorem sq7_run {m : Nat} (hm : 1 ≤ m) (hm2 : m ≤ 10000) : ∀ (k fu x : Nat), x + k = m → k < fu → r_impl_SquareResidues_L7 (m : Int) fu (x : Int) (hv m x) = some (hv m m)
  | k, 0, x, _, hf => by omega
  | 0, fu + 1, x, hx, hf => by rw [r_impl_SquareResidues_L7, ltI_eq, decide_eq_false (by omega), cond_false, show x = m by omega]
  | k + 1, fu + 1, x, hx, hf => by
    have hxx : x * x ≤ 10000 * 10000 := Nat.mul_le_mul (by omega) (by omega)
    have e1 : Int.tmod (w64 ((x : Int) * x)) (m : Int) = ((x * x % m : Nat) : Int) := by
      rw [w64_in (by have : (x : Int) * x = ((x * x : Nat) : Int) := by push_cast; rfl
                     omega)]
      rw [Int.tmod_eq_emod_of_nonneg (Int.mul_nonneg (by omega) (by omega))]
      push_cast
      rfl
    have hlt := Nat.mod_lt (x * x) (show 0 < m by omega)
    rw [r_impl_SquareResidues_L7, ltI_eq, decide_eq_true (by omega), cond_true, nzOk (by omega), e1, getNat (by rw [hv_len]; exact hlt)]
    simp only [Option.bind_some, sI_eq, wsucc (show x < 1000000000 by omega), Int.toNat_natCast]
    rw [hv_set (by omega)]
    exact sq7_run hm hm2 k fu (x + 1) (by omega) (by omega)
def sqN (m : Nat) : List Nat := (List.range m).filter (hasS m m)
theorem sq16_run {m : Nat} (hm2 : m ≤ 10000) : ∀ (k fu t : Nat), t + k = m → k < fu → r_impl_SquareResidues_L16 (hv m m) fu (t : Int) (((List.range t).filter (hasS m m)).map fun x : Nat => (x : Int)) = some ((sqN m).map fun x : Nat => (x : Int))
  | k, 0, t, _, hf => by omega
  | 0, fu + 1, t, ht, hf => by
    rw [r_impl_SquareResidues_L16, hv_len, ltI_eq, decide_eq_false (by omega), cond_false, show t = m by omega]
    rfl
  | k + 1, fu + 1, t, ht, hf => by
    have ih := sq16_run hm2 k fu (t + 1) (by omega) (by omega)
    have hg : getI (hv m m) (t : Int) = some (hasS m m t) := by
      rw [getNat (by rw [hv_len]; omega)]
      simp [hv]
    have hl : ((List.range t).filter (hasS m m)).length ≤ t := by
      have := List.length_filter_le (hasS m m) (List.range t)
      rw [List.length_range] at this
      exact this
    rw [r_impl_SquareResidues_L16, hv_len, ltI_eq, decide_eq_true (by omega), cond_true, hg]
    simp only [Option.bind_some, sI_eq, wsucc (show t < 1000000000 by omega)]
    rw [List.range_succ, List.filter_append, List.map_append] at ih
    cases hs : hasS m m t with
    | true =>
      rw [cond_true, roomOk (by simp; omega), Option.bind_some]
      rw [List.filter_cons, hs, if_pos rfl] at ih
      exact ih
    | false =>
      rw [cond_false]
      rw [List.filter_cons, hs, if_neg (by simp)] at ih
      simpa using ih
theorem sq_val {m : Nat} (hm : 1 ≤ m) (hm2 : m ≤ 10000) : r_impl_SquareResidues (m : Int) = some ((sqN m).map fun x : Nat => (x : Int), true) := by
  have hF := FUge
  have h1 : ltI (m : Int) 1 = false := by rw [ltI_eq]; exact decide_eq_false (by omega)
  have h2 : ltI 10000 (m : Int) = false := by rw [ltI_eq]; exact decide_eq_false (by omega)
  have h3 : mk (m : Int) (m : Int) = some () := by
    unfold mk
    rw [leI_eq, leI_eq, leI_eq, decide_eq_true (by omega), decide_eq_true (by omega), decide_eq_true (by omega)]
    rfl
  have h4 : List.replicate m false = hv m 0 := by
    unfold hv
    refine (List.eq_replicate_iff.2 ⟨by simp, fun b hb => ?_⟩).symm
    obtain ⟨r, _, rfl⟩ := List.mem_map.1 hb
    rfl
  have h5 := sq7_run hm hm2 m FU 0 (by omega) (by omega)
  have h6 := sq16_run hm2 m FU 0 (by omega) (by omega)
  have e0 : (((0 : Nat) : Int)) = 0 := rfl
  rw [e0] at h5 h6
  simp only [r_impl_SquareResidues, h1, h2, cond_false, h3, Option.bind_some, Int.toNat_natCast, h4, h5]
  have e7 : (((List.range 0).filter (hasS m m)).map fun x : Nat => (x : Int)) = [] := rfl
  rw [e7] at h6
  rw [h6]
  rfl
theorem mem_sqN {m r : Nat} : r ∈ sqN m ↔ r < m ∧ ∃ y, y < m ∧ y * y % m = r := by
  unfold sqN hasS
  rw [List.mem_filter, List.mem_range, List.any_eq_true]
  constructor
  · rintro ⟨h1, y, h2, h3⟩
    exact ⟨h1, y, List.mem_range.1 h2, Nat.eq_of_beq_eq_true h3⟩
  · rintro ⟨h1, y, h2, h3⟩
    exact ⟨h1, y, List.mem_range.2 h2, by rw [h3]; exact Nat.beq_refl r⟩
def prm (p : Nat) : Bool := (List.range' 2 (p - 2)).all fun x => !(Nat.beq (Nat.mod p x) 0)
theorem prm_of {p : Nat} (h : prm p = true) {a b : Nat} (hd : p ∣ a * b) (hp : 2 ≤ p) : p ∣ a ∨ p ∣ b := by
  by_cases hg : Nat.gcd a p = 1
  · exact .inr (cop_dvd hg hd)
  · left
    have h1 : Nat.gcd a p ∣ p := Nat.gcd_dvd_right a p
    have h2 : Nat.gcd a p ≤ p := Nat.le_of_dvd (by omega) h1
    have h0 : Nat.gcd a p ≠ 0 := fun e => by rw [Nat.gcd_eq_zero_iff] at e; omega
    by_cases h3 : Nat.gcd a p = p
    · rw [← h3]; exact Nat.gcd_dvd_left a p
    · exfalso
      unfold prm at h
      rw [List.all_eq_true] at h
      have h4 := h (Nat.gcd a p) (List.mem_range'_1.2 (by omega))
      have h5 : Nat.mod p (Nat.gcd a p) = 0 := Nat.mod_eq_zero_of_dvd h1
      rw [h5] at h4
      cases h4
theorem sq_inj {p x y : Nat} (h : prm p = true) (hp : 3 ≤ p) (ho : p % 2 = 1) (hx : x ≤ p / 2) (hy : y ≤ p / 2) (e : x * x % p = y * y % p) (hxy : x ≤ y) : x = y := by
  have h1 := mod_eq_dvd (Nat.mul_le_mul hxy hxy) e
  have h2 : y * y - x * x = (y - x) * (y + x) := by
    obtain ⟨d, rfl⟩ : ∃ d, y = x + d := ⟨y - x, by omega⟩
    rw [show x + d - x = d by omega, show (x + d) * (x + d) = x * x + d * (x + d + x) by grind]
    omega
  rw [h2] at h1
  rcases prm_of h h1 (by omega) with g | g
  · rcases Nat.eq_zero_or_pos (y - x) with h3 | h3
    · omega
    · have := Nat.le_of_dvd h3 g
      omega
  · rcases Nat.eq_zero_or_pos (y + x) with h3 | h3
    · omega
    · have := Nat.le_of_dvd h3 g
      omega
theorem sq_refl {p x : Nat} (h : x ≤ p) : (p - x) * (p - x) % p = x * x % p := by
  have h1 : (p - x) * (p - x) + p * (2 * x) = x * x + p * p := by
    obtain ⟨d, rfl⟩ : ∃ d, p = x + d := ⟨p - x, by omega⟩
    rw [show x + d - x = d by omega]
    grind
  have h2 := congrArg (· % p) h1
  simpa using h2
theorem sqN_len {p : Nat} (h : prm p = true) (hp : 3 ≤ p) (ho : p % 2 = 1) : (sqN p).length = p / 2 + 1 := by
  have hperm : (sqN p).Perm ((List.range (p / 2 + 1)).map fun x => x * x % p) := by
    refine (List.perm_ext_iff_of_nodup (List.nodup_range.filter _) ?_).2 fun r => ?_
    · unfold List.Nodup
      rw [List.pairwise_map]
      refine List.Pairwise.imp_of_mem ?_ (List.nodup_range (n := p / 2 + 1))
      intro k l hk hl hne he
      rw [List.mem_range] at hk hl
      rcases Nat.le_total k l with g | g
      · exact hne (sq_inj h hp ho (by omega) (by omega) he g)
      · exact hne (sq_inj h hp ho (by omega) (by omega) he.symm g).symm
    · show r ∈ sqN p ↔ _
      rw [mem_sqN, List.mem_map]
      constructor
      · rintro ⟨_, y, h2, h3⟩
        by_cases hy : y ≤ p / 2
        · exact ⟨y, List.mem_range.2 (by omega), h3⟩
        · exact ⟨p - y, List.mem_range.2 (by omega), by rw [sq_refl (by omega)]; exact h3⟩
      · rintro ⟨y, h2, h3⟩
        rw [List.mem_range] at h2
        exact ⟨by rw [← h3]; exact Nat.mod_lt _ (by omega), y, by omega, h3⟩
  rw [hperm.length_eq, List.length_map, List.length_range]
theorem not_sq {p n : Nat} (ho : p % 2 = 1) (h : JJ n p = -1) : n ∉ sqN p := by
  intro hm
  obtain ⟨_, y, _, hy⟩ := mem_sqN.1 hm
  rw [← hy, JJ_mod, JJ_mul ho] at h
  rcases JJ_unit (a := y) (n := p) with e | e | e <;> rw [e] at h <;> cases h
theorem qin_run (l : List Int) (n : Int) (hn : n ∉ l) (hl : l.length ≤ 100000) : ∀ (k fu t : Nat), t + k = l.length → k < fu → r_laws_qIn_L4 l n fu (t : Int) = some (.inl ())
  | k, 0, t, _, hf => by omega
  | 0, fu + 1, t, ht, hf => by rw [r_laws_qIn_L4, ltI_eq, decide_eq_false (by omega), cond_false]
  | k + 1, fu + 1, t, ht, hf => by
    rw [r_laws_qIn_L4, ltI_eq, decide_eq_true (by omega), cond_true, getNat (show t < l.length by omega)]
    have hne : l[t]'(by omega) ≠ n := fun e => hn (e ▸ List.getElem_mem _)
    simp only [Option.bind_some, eqNe hne, cond_false, sI_eq, wsucc (show t < 1000000000 by omega)]
    exact qin_run l n hn hl k fu (t + 1) (by omega) (by omega)
theorem qin_val (l : List Int) (n : Int) (hn : n ∉ l) (hl : l.length ≤ 100000) : r_laws_qIn l n = some false := by
  have hF := FUge
  have := qin_run l n hn hl l.length FU 0 (by omega) (by omega)
  have e0 : (((0 : Nat) : Int)) = 0 := rfl
  rw [e0] at this
  simp only [r_laws_qIn, this, Option.bind_some]
end Go.Proofs.Ytpfnhgpepgeaiaa
