/-
  A round of the square counts, entry by entry: which earlier entries it adds up.
  Conditions: none.
-/
import Derived.Test.YtdffhgibkeifmaaHsHsPl
namespace Go.Proofs.Ytdffhgibkeifmaa
set_option linter.unusedVariables false
set_option linter.unusedSimpArgs false

def upd (e x v : Int) : Int := w64 (v + w64 (e * mnI (w64 (x + 1)) 2))
theorem FU_big : (502 : Nat) ≤ FU := by decide
theorem sq_lt {x y : Int} (h0 : 0 ≤ x) (h : x < y) : x * x < y * y := by
  have h1 : (x + 1) * (x + 1) ≤ y * y := Int.mul_le_mul (by omega) (by omega) (by omega) (by omega)
  have h2 : (x + 1) * (x + 1) = x * x + 2 * x + 1 := by grind
  omega
theorem getI_at {l : List Int} {i : Int} {k : Nat} (h : i = (k : Int)) (hk : k < l.length) : getI l i = some (l[k]'hk) := by
  subst h
  unfold getI
  rw [leI_eq, decide_eq_true (by omega), cond_true]
  simp
theorem in_run {c : List Int} {e k t : Int} (t0 : 0 ≤ t) (tN : t ≤ 500) : ∀ (n : Nat) (x : Int) (b : List Int), 0 ≤ x → x ≤ 31 → 32 - x ≤ n → b.length = 501 → ∃ b', r_impl_squareCounts_L21 c e k 500 t n x b = some b' ∧ b'.length = 501 ∧ (∀ (i : Nat) (y v : Int), x ≤ y → t + y * y = (i : Int) → i ≤ 500 → b[i]? = some v → b'[i]? = some (upd e y v)) ∧ (∀ i : Nat, (∀ y : Int, x ≤ y → t + y * y ≠ (i : Int)) → b'[i]? = b[i]?)
  | 0, x, b, h0, h1, h2, hb => by omega
  | n + 1, x, b, h0, h1, h2, hb => by
    unfold r_impl_squareCounts_L21
    obtain ⟨e1, m1, m2⟩ := sq_bound (N := 500) t0 (by omega) h0 (by omega : x ≤ 40)
    rw [e1, leI_eq]
    by_cases hc : t + x * x ≤ 500
    · obtain ⟨j, hj⟩ := Int.eq_ofNat_of_zero_le (show 0 ≤ t + x * x by omega)
      have hj : t + x * x = (j : Int) := hj
      have hjl : j < b.length := by omega
      have hx := x_small (N := 500) t0 h0 hc
      rw [decide_eq_true hc, cond_true, getI_at hj hjl]
      simp only [Option.bind_some, sI_eq]
      rw [w64_in (n := x + 1) (by omega), hj, show Int.toNat ((j : Nat) : Int) = j from rfl]
      obtain ⟨b', g1, g2, g3, g4⟩ := in_run (c := c) (e := e) (k := k) t0 tN n (x + 1) (b.set j (w64 (b[j] + w64 (e * mnI (x + 1) 2)))) (by omega) (by omega) (by omega) (by rw [List.length_set]; exact hb)
      refine ⟨b', g1, g2, ?_, ?_⟩
      · intro i y v hy hi hi5 hv
        by_cases hyx : y = x
        · subst hyx
          have hij : i = j := by omega
          subst hij
          rw [g4 i (by
            intro z hz hq
            have : y * y < z * z := sq_lt (by omega) (by omega)
            omega)]
          rw [List.getElem?_set_self hjl]
          rw [List.getElem?_eq_getElem hjl] at hv
          rw [some_inj hv]
          unfold upd
          rw [w64_in (n := y + 1) (by omega)]
        · refine g3 i y v (by omega) hi hi5 ?_
          have : x * x < y * y := sq_lt (by omega) (by omega)
          rw [List.getElem?_set_ne (by omega)]
          exact hv
      · intro i hi
        rw [g4 i (fun y hy => hi y (by omega))]
        have := hi x (by omega)
        rw [List.getElem?_set_ne (by omega)]
    · rw [decide_eq_false hc, cond_false]
      refine ⟨b, rfl, hb, ?_, fun i _ => rfl⟩
      intro i y v hy hi hi5 hv
      have : x * x ≤ y * y := Int.mul_le_mul hy hy h0 (by omega)
      omega
def Hf (c : List Int) (i : Int) : Nat → Int → Option Int
  | 0, v => some v
  | x + 1, v => (getI c (i - (x : Int) * (x : Int))).bind fun e => sI (upd e x v) fun u => Hf c i x u
theorem row_run {c : List Int} {k : Int} (hc : c.length = 501) : ∀ (n : Nat) (t : Int) (b : List Int), 0 ≤ t → t ≤ 501 → 502 - t ≤ n → b.length = 501 → ∃ b', r_impl_squareCounts_L15 c k 500 n t b = some b' ∧ b'.length = 501 ∧ (∀ (i m : Nat) (v : Int), i ≤ 500 → (∀ y : Nat, y < m ↔ t + (y : Int) * (y : Int) ≤ (i : Int)) → b[i]? = some v → b'[i]? = Hf c i m v)
  | 0, t, b, h0, h1, h2, hb => by omega
  | n + 1, t, b, h0, h1, h2, hb => by
    unfold r_impl_squareCounts_L15
    rw [ltI_eq]
    by_cases ht : t < (c.length : Int)
    · obtain ⟨j, hj⟩ := Int.eq_ofNat_of_zero_le h0
      have hj : t = (j : Int) := hj
      have hjl : j < c.length := by omega
      rw [decide_eq_true ht, cond_true, getI_at hj hjl, Option.bind_some]
      obtain ⟨o, g1, g2, g3, g4⟩ := in_run (c := c) (e := c[j]) (k := k) h0 (by omega) FU 0 b (by omega) (by omega) (by have := FU_big; omega) hb
      rw [g1, Option.bind_some, sI_eq, w64_in (n := t + 1) (by omega)]
      obtain ⟨b', q1, q2, q3⟩ := row_run (k := k) hc n (t + 1) o (by omega) (by omega) (by omega) g2
      refine ⟨b', q1, q2, ?_⟩
      intro i m v hi hm hv
      by_cases hy : ∃ y : Nat, t + (y : Int) * (y : Int) = (i : Int)
      · obtain ⟨y, hy⟩ := hy
        have h3 := g3 i y v (by omega) hy hi hv
        have hmy : m = y + 1 := by
          have a1 : y < m := (hm y).2 (by omega)
          have a2 : ¬ (y + 1 < m) := by
            intro h
            have := (hm (y + 1)).1 h
            have e : ((y + 1 : Nat) : Int) * ((y + 1 : Nat) : Int) = (y : Int) * (y : Int) + 2 * (y : Int) + 1 := by push_cast; grind
            omega
          omega
        have h4 := q3 i y _ hi (by
          intro z
          constructor
          · intro hz
            have : (z : Int) * (z : Int) < (y : Int) * (y : Int) := sq_lt (by omega) (by omega)
            omega
          · intro hz
            by_cases hzy : z < y
            · exact hzy
            · have : (y : Int) * (y : Int) ≤ (z : Int) * (z : Int) := Int.mul_le_mul (by omega) (by omega) (by omega) (by omega)
              omega) h3
        rw [h4, hmy]
        show _ = (getI c ((i : Int) - (y : Int) * (y : Int))).bind fun e => sI (upd e y v) fun u => Hf c i y u
        rw [getI_at (k := j) (by omega) hjl, Option.bind_some, sI_eq]
      · have h3 := g4 i (by
          intro y hy0 hq
          obtain ⟨z, hz⟩ := Int.eq_ofNat_of_zero_le hy0
          have hz : y = (z : Int) := hz
          subst hz
          exact hy ⟨z, hq⟩)
        refine q3 i m v hi ?_ (by rw [h3]; exact hv)
        intro y
        rw [hm y]
        have : t + (y : Int) * (y : Int) ≠ (i : Int) := fun h => hy ⟨y, h⟩
        omega
    · rw [decide_eq_false ht, cond_false]
      refine ⟨b, rfl, hb, ?_⟩
      intro i m v hi hm hv
      have hm0 : m = 0 := by
        by_cases h : m = 0
        · exact h
        · have := (hm 0).1 (by omega)
          simp at this
          omega
      subst hm0
      exact hv
def rtS (i : Nat) : Nat → Nat
  | 0 => 0
  | n + 1 => bif Nat.ble (n * n) i then n + 1 else rtS i n
theorem rtS_iff {i : Nat} : ∀ (n : Nat), i < n * n → ∀ y : Nat, y < rtS i n ↔ y * y ≤ i
  | 0, h, y => by omega
  | n + 1, h, y => by
    unfold rtS
    cases hb : Nat.ble (n * n) i with
    | true =>
      have hb := Nat.le_of_ble_eq_true hb
      rw [cond_true]
      constructor
      · intro hy
        have := Nat.mul_le_mul (show y ≤ n by omega) (show y ≤ n by omega)
        omega
      · intro hy
        by_cases hq : y < n + 1
        · exact hq
        · have := Nat.mul_le_mul (show n + 1 ≤ y by omega) (show n + 1 ≤ y by omega)
          omega
    | false =>
      rw [cond_false]
      have : ¬ (n * n ≤ i) := fun hq => by rw [Nat.ble_eq_true_of_le hq] at hb; cases hb
      exact rtS_iff n (by omega) y
def rowOk (c o : List Int) (i : Nat) : Bool := match Hf c i (rtS i 23) 0, getI o (i : Int) with
  | some x, some y => eqI x y
  | _, _ => false
def rowAll (c o : List Int) : Nat → Nat → Bool
  | 0, _ => true
  | n + 1, i => bif rowOk c o i then fN (i + 1) (rowAll c o n) else false
theorem rowAll_at {c o : List Int} : ∀ (n i0 : Nat), rowAll c o n i0 = true → ∀ i, i0 ≤ i → i < i0 + n → rowOk c o i = true
  | 0, i0, _, i, h1, h2 => by omega
  | n + 1, i0, h, i, h1, h2 => by
    unfold rowAll at h
    cases h3 : rowOk c o i0 with
    | false => rw [h3] at h; cases h
    | true =>
      rw [h3, cond_true, fN_eq] at h
      by_cases h4 : i = i0
      · subst h4; exact h3
      · exact rowAll_at n (i0 + 1) h i (by omega) (by omega)
theorem row_is {c o : List Int} {k : Int} (hc : c.length = 501) (ho : o.length = 501) (h : ∀ i, i ≤ 500 → rowOk c o i = true) : r_impl_squareCounts_L15 c k 500 FU 0 (List.replicate 501 0) = some o := by
  obtain ⟨b', g1, g2, g3⟩ := row_run (k := k) hc FU 0 (List.replicate 501 0) (by omega) (by omega) (by have := FU_big; omega) (by rw [List.length_replicate])
  rw [g1]
  congr 1
  apply List.ext_getElem?
  intro i
  by_cases hi : i ≤ 500
  · have h1 := h i hi
    have h2 := g3 i (rtS i 23) 0 hi (by
      intro y
      rw [rtS_iff 23 (by omega) y]
      rw [Int.zero_add]
      constructor
      · intro hq; exact_mod_cast hq
      · intro hq; exact_mod_cast hq) (by rw [List.getElem?_replicate, if_pos (by omega)])
    unfold rowOk at h1
    rw [h2]
    cases q1 : Hf c i (rtS i 23) 0 with
    | none => rw [q1] at h1; cases h1
    | some x =>
      rw [q1] at h1
      cases q2 : getI o (i : Int) with
      | none => rw [q2] at h1; cases h1
      | some y =>
        rw [q2] at h1
        simp only at h1
        rw [eqI_eq] at h1
        have h5 := (getI_some q2).2
        rw [show Int.toNat ((i : Nat) : Int) = i from rfl] at h5
        rw [h5, eq_of_beq h1]
  · rw [List.getElem?_eq_none (by omega), List.getElem?_eq_none (by omega)]
end Go.Proofs.Ytdffhgibkeifmaa
