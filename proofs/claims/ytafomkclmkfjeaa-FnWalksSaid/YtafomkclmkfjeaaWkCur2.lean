/-
  The cursor that draws: it always gives a number in its range.
  Conditions: none.
-/
import Derived.Test.YtafomkclmkfjeaaWkDscBas
namespace Go.Proofs.Ytafomkclmkfjeaa
set_option linter.unusedVariables false
set_option linter.unusedSimpArgs false

structure CurB (k : Nat) (c : List Int × Int × Int) : Prop where
  lo : 0 ≤ c.2.1
  hi : c.2.1 ≤ (k : Int)
  len : c.1.length ≤ 1048576
  by8 : ∀ x ∈ c.1, 0 ≤ x ∧ x ≤ 255
theorem CurB.up {k k2 : Nat} {c : List Int × Int × Int} (h : CurB k c) (hk : k ≤ k2) : CurB k2 c := ⟨h.lo, by have := h.hi; omega, h.len, h.by8⟩
theorem CurB.start {code : List Int} (h1 : code.length ≤ 1048576) (h2 : ∀ x ∈ code, 0 ≤ x ∧ x ≤ 255) : CurB 0 (code, 0, 0) := ⟨Int.le_refl _, Int.le_refl _, h1, h2⟩
theorem big_val {code more : List Int} : r_laws_big code more = some (decide (1048576 < code.length ∨ 1048576 - (code.length : Int) < more.length)) ∨ 1048576 < code.length ∧ r_laws_big code more = some true := by
  by_cases h : 1048576 < code.length
  · right
    refine ⟨h, ?_⟩
    simp only [r_laws_big, Option.bind_some, ltI_eq, decide_eq_true (show (1048576 : Int) < (code.length : Int) by omega), cond_true]
  · left
    simp only [r_laws_big, Option.bind_some, ltI_eq, decide_eq_false (show ¬ (1048576 : Int) < (code.length : Int) by omega), cond_false]
    rw [w64_in (by omega)]
    congr 1
    simp only [decide_eq_decide]
    omega
theorem big_cases (code more : List Int) : r_laws_big code more = some true ∨ (r_laws_big code more = some false ∧ code.length ≤ 1048576 ∧ more.length ≤ 1048576) := by
  rcases big_val (code := code) (more := more) with h | h
  · by_cases h1 : 1048576 < code.length ∨ 1048576 - (code.length : Int) < more.length
    · exact .inl (by rw [h, decide_eq_true h1])
    · refine .inr ⟨by rw [h, decide_eq_false h1], ?_, ?_⟩ <;> omega
  · exact .inl h.2
theorem wrap_u8 {x : Int} (h : 0 ≤ x ∧ x ≤ 255) : IntKind.i64.wrap x = x := wrap64_in (by omega)
theorem and255 (a : Int) : 0 ≤ IntKind.i64.wrap (andI .u64 a 255) ∧ IntKind.i64.wrap (andI .u64 a 255) ≤ 255 := by
  have h : 0 ≤ andI .u64 a 255 ∧ andI .u64 a 255 ≤ 255 := by
    unfold andI
    have h1 : (BitVec.ofInt IntKind.u64.bits a &&& BitVec.ofInt IntKind.u64.bits 255).toNat ≤ 255 := by
      rw [BitVec.toNat_and]
      exact Nat.and_le_right
    generalize (BitVec.ofInt IntKind.u64.bits a &&& BitVec.ofInt IntKind.u64.bits 255).toNat = q at h1
    rw [show IntKind.u64.wrap (q : Int) = (q : Int) by
      show (q : Int) % 18446744073709551616 = q
      omega]
    omega
  rw [wrap_u8 h]
  exact h
theorem next_ok {k : Nat} {c : List Int × Int × Int} (h : CurB k c) (hk : k ≤ 1099511627776) : ∃ b c', r_spec_l1Cur_next c = some (b, c') ∧ 0 ≤ b ∧ b ≤ 255 ∧ CurB (k + 1) c' := by
  obtain ⟨xs, p, q⟩ := c
  obtain ⟨h1, h2, h3, h4⟩ := h
  simp only at h1 h2 h3 h4
  have e1 : w64 (p + 1) = p + 1 := w64_in (by omega)
  have nextB : ∀ q', CurB (k + 1) (xs, p + 1, q') := fun q' => ⟨by show 0 ≤ p + 1; omega, by show p + 1 ≤ ((k + 1 : Nat) : Int); omega, h3, h4⟩
  simp only [r_spec_l1Cur_next, sI_eq, ltI_eq, leI_eq, e1]
  by_cases hp : p < (xs.length : Int)
  · have hi : p.toNat < xs.length := by omega
    have hg : getI xs p = some xs[p.toNat] := by
      unfold getI
      rw [leI_eq, decide_eq_true h1, cond_true]
      simp [hi]
    have hb := h4 xs[p.toNat] (List.getElem_mem hi)
    simp only [decide_eq_true hp, cond_true, hg, Option.bind_some, wrap_u8 hb]
    by_cases hl : p + 1 ≤ (xs.length : Int)
    · simp only [decide_eq_true hl, cond_true]
      exact ⟨_, _, rfl, hb.1, hb.2, nextB _⟩
    · omega
  · simp only [decide_eq_false hp, cond_false, Option.bind_some]
    simp only [decide_eq_false (show ¬ p + 1 ≤ (xs.length : Int) by omega), cond_false]
    exact ⟨_, _, rfl, (and255 _).1, (and255 _).2, nextB _⟩
theorem tmod_range {x n : Int} (hx : 0 ≤ x) (hn : 0 < n) : 0 ≤ x.tmod n ∧ x.tmod n < n := ⟨Int.tmod_nonneg _ hx, Int.tmod_lt_of_pos _ hn⟩
theorem pick_ok {k : Nat} {c : List Int × Int × Int} (n : Int) (h : CurB k c) (hk : k ≤ 1000000000000) : ∃ x c', r_spec_l1Cur_pick c n = some (x, c') ∧ 0 ≤ x ∧ (n ≤ 1 → x = 0) ∧ (1 < n → x < n) ∧ CurB (k + 2) c' := by
  simp only [r_spec_l1Cur_pick, leI_eq, ltI_eq]
  by_cases h1 : n ≤ 1
  · rw [decide_eq_true h1, cond_true]
    exact ⟨0, c, rfl, Int.le_refl _, fun _ => rfl, fun h2 => by omega, h.up (by omega)⟩
  · rw [decide_eq_false h1, cond_false]
    obtain ⟨b, c1, e1, b1, b2, hc1⟩ := next_ok h (by omega)
    rw [e1, Option.bind_some]
    by_cases h2 : 200 < n
    · obtain ⟨d, c2, e2, d1, d2, hc2⟩ := next_ok hc1 (by omega)
      simp only [decide_eq_true h2, cond_true, e2, Option.bind_some, sI_eq, nz_ne (show n ≠ 0 by omega)]
      rw [w64_in (n := b * 256) (by omega), w64_in (n := b * 256 + d) (by omega)]
      have := tmod_range (x := b * 256 + d) (n := n) (by omega) (by omega)
      exact ⟨_, _, rfl, this.1, fun h3 => absurd h3 h1, fun _ => this.2, hc2⟩
    · simp only [decide_eq_false h2, cond_false, Option.bind_some, sI_eq, nz_ne (show n ≠ 0 by omega)]
      have := tmod_range (x := b) (n := n) b1 (by omega)
      exact ⟨_, _, rfl, this.1, fun h3 => absurd h3 h1, fun _ => this.2, hc1.up (by omega)⟩
theorem getI_in {α : Type} {l : List α} {x : Int} (h1 : 0 ≤ x) (h2 : x < (l.length : Int)) : ∃ y, getI l x = some y ∧ y ∈ l := by
  have hi : x.toNat < l.length := by omega
  refine ⟨l[x.toNat], ?_, List.getElem_mem hi⟩
  unfold getI
  rw [leI_eq, decide_eq_true h1, cond_true]
  simp [hi]
theorem among_ok {k : Nat} {c : List Int × Int × Int} {l : List Int} (hl : l ≠ []) (h : CurB k c) (hk : k ≤ 1000000000000) : ∃ x c', r_spec_l1Cur_among c l = some (x, c') ∧ x ∈ l ∧ CurB (k + 2) c' := by
  obtain ⟨x, c1, e1, x1, x2, x3, hc1⟩ := pick_ok (l.length : Int) h hk
  have hp := List.length_pos_iff.2 hl
  obtain ⟨y, e2, hy⟩ := getI_in (l := l) x1 (by
    rcases Nat.lt_or_ge 1 l.length with h1 | h1
    · exact x3 (by omega)
    · have := x2 (by omega); omega)
  simp only [r_spec_l1Cur_among, e1, Option.bind_some, e2]
  exact ⟨y, c1, rfl, hy, hc1⟩
theorem numberOf_run (b : List Int) (hb : b.length ≤ 1048576) (h8 : ∀ x ∈ b, 0 ≤ x ∧ x ≤ 255) : ∀ (n i : Nat) (v : Int), i ≤ b.length → b.length - i < n → 0 ≤ v → v < 1000003 → ∃ r, r_laws_numberOf_L4 b n v (i : Int) = some r ∧ 0 ≤ r ∧ r < 1000003
  | 0, i, v, _, h, _, _ => by omega
  | n + 1, i, v, hi, h, hv1, hv2 => by
    unfold r_laws_numberOf_L4
    rw [ltI_eq]
    by_cases h1 : (i : Int) < (b.length : Int)
    · obtain ⟨y, e1, hy⟩ := getI_in (l := b) (x := (i : Int)) (by omega) h1
      have h9 := h8 y hy
      simp only [decide_eq_true h1, cond_true, e1, Option.bind_some, sI_eq, wrap_u8 h9]
      rw [w64_in (n := 31 * v) (by omega), w64_in (n := 31 * v + y) (by omega), w64_in (n := (i : Int) + 1) (by omega), show ((i : Int) + 1) = ((i + 1 : Nat) : Int) by omega]
      have := tmod_range (x := 31 * v + y) (n := 1000003) (by omega) (by omega)
      exact numberOf_run b hb h8 n (i + 1) _ (by omega) (by omega) this.1 this.2
    · rw [decide_eq_false h1, cond_false]
      exact ⟨v, rfl, hv1, hv2⟩
theorem numberOf_ok {b : List Int} (hb : b.length ≤ 1048576) (h8 : ∀ x ∈ b, 0 ≤ x ∧ x ≤ 255) : ∃ r, r_laws_numberOf b = some r ∧ 0 ≤ r ∧ r < 1000003 := by
  obtain ⟨r, e, h1, h2⟩ := numberOf_run b hb h8 FU 0 0 (Nat.zero_le _) (by have : (1048577 : Nat) ≤ FU := by decide
                                                                           omega) (by omega) (by omega)
  have e : r_laws_numberOf_L4 b FU 0 0 = some r := e
  simp only [r_laws_numberOf, e, Option.bind_some]
  exact ⟨r, rfl, h1, h2⟩
end Go.Proofs.Ytafomkclmkfjeaa
