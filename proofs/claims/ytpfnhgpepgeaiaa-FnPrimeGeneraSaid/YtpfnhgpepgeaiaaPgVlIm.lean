/-
  The program's list of the points at which a form has a value.
  Conditions: none.
-/
import Derived.Test.YtpfnhgpepgeaiaaPgVlPt
namespace Go.Proofs.Ytpfnhgpepgeaiaa
set_option linter.unusedVariables false
set_option linter.unusedSimpArgs false

theorem srt_app {l : List (Int × Int)} {p : Int × Int} (h : Srt l) (hp : ∀ q ∈ l, lexL q p) : Srt (l ++ [p]) := by
  unfold Srt
  rw [List.pairwise_append]
  refine ⟨h, List.pairwise_singleton _ _, fun a ha b hb => ?_⟩
  rw [List.mem_singleton] at hb
  subst hb
  exact hp a ha
theorem pts_run {A B C d n bd : Int} (hC1 : 1 ≤ C) (hC : C ≤ 1000000) (hB1 : -1000000 ≤ B) (hB : B ≤ 1000000) (hd : B * B - 4 * A * C = d) (hd1 : -2000 ≤ d) (hd2 : d ≤ -3) (hn1 : 1 ≤ n) (hn : n ≤ 10000) (hb0 : 0 ≤ bd) (hb : bd ≤ 200000) :
    ∀ (fu : Nat) (x : Int) (acc : List (Int × Int)), -200000 ≤ x → x ≤ bd + 1 → bd + 1 - x < fu → Srt acc → (∀ p, p ∈ acc ↔ Sol A B C n p ∧ p.1 < x ∧ -bd ≤ p.1) → -bd ≤ x → (acc.length : Int) ≤ 2 * (x + 200000) →
    ∃ l, r_impl_Form_points_L9 (A, B, C) n d bd fu x acc = some l ∧ Srt l ∧ l.length ≤ 1000000 ∧ ∀ p, p ∈ l ↔ Sol A B C n p ∧ p.1 ≤ bd ∧ -bd ≤ p.1
  | 0, x, acc, h1, h2, h3, _, _, _, _ => by omega
  | fu + 1, x, acc, h1, h2, h3, hs, hm, hbx, hl => by
    unfold r_impl_Form_points_L9
    rw [leI_eq]
    by_cases hx : x ≤ bd
    · have b1 := abs_mul (x := d) (y := x) (A := 2000) (B := 200000) (by omega) (by omega)
      have b2 := abs_mul (x := d * x) (y := x) (A := 2000 * 200000) (B := 200000) b1 (by omega)
      have b3 := abs_mul (x := 4 * C) (y := n) (A := 4000000) (B := 10000) (by omega) (by omega)
      have b4 := abs_mul (x := B) (y := x) (A := 1000000) (B := 200000) (by omega) (by omega)
      have eB : (0 - B) * x = -(B * x) := by grind
      have hsq : w64 (w64 (w64 (d * x) * x) + w64 (w64 (4 * C) * n)) = d * x * x + 4 * C * n := by
        rw [w64_abs (n := d * x) (by omega), w64_abs (n := d * x * x) (by omega), w64_abs (n := 4 * C) (by omega), w64_abs (n := 4 * C * n) (by omega), w64_abs (by omega)]
      have hw1 : w64 (x + 1) = x + 1 := w64_in (by omega)
      rw [decide_eq_true hx, cond_true, sI_eq, hsq]
      generalize hq : d * x * x + 4 * C * n = q
      have hqb : q ≤ 1000000000000000000 := by omega
      have step : ∀ (l : List (Int × Int)), Srt l → (∀ p, p ∈ l ↔ (p ∈ acc ∨ (p.1 = x ∧ Sol A B C n p))) → l.length ≤ acc.length + 2 →
          ∃ l2, r_impl_Form_points_L9 (A, B, C) n d bd fu (x + 1) l = some l2 ∧ Srt l2 ∧ l2.length ≤ 1000000 ∧ ∀ p, p ∈ l2 ↔ Sol A B C n p ∧ p.1 ≤ bd ∧ -bd ≤ p.1 := by
        intro l k1 k2 k3
        refine pts_run hC1 hC hB1 hB hd hd1 hd2 hn1 hn hb0 hb fu (x + 1) l (by omega) (by omega) (by omega) k1 (fun p => ?_) (by omega) (by omega)
        rw [k2, hm]
        constructor
        · rintro (⟨a, b, c⟩ | ⟨a, b⟩)
          · exact ⟨a, by omega, c⟩
          · exact ⟨b, by omega, by omega⟩
        · rintro ⟨a, b, c⟩
          by_cases hp : p.1 = x
          · exact .inr ⟨hp, a⟩
          · exact .inl ⟨a, by omega, c⟩
      have hy : ∀ y, Sol A B C n (x, y) ↔ (2 * C * y + B * x) * (2 * C * y + B * x) = q := fun y => by rw [sol_y hC1 hd, hq]
      by_cases hq0 : 0 ≤ q
      · obtain ⟨r, g1, g2, g3, g4, g5⟩ := root_val hq0 hqb
        have hrr := abs_mul (x := r) (y := r) (A := 1000000000) (B := 1000000000) (by omega) (by omega)
        have hisq : r_impl_isSquare q = some (eqI (r * r) q) := by
          simp only [r_impl_isSquare, leI_eq, decide_eq_true hq0, cond_true, g1, Option.bind_some]
          rw [w64_abs (n := r * r) (by omega)]
        rw [hisq]
        simp only [Option.bind_some]
        by_cases hrq : r * r = q
        · have e1 : eqI (r * r) q = true := by rw [hrq]; exact eqSelf q
          have hz : nz (2 * C) = some () := nzOk (by omega)
          have hC2 : w64 (2 * C) = 2 * C := w64_in (by omega)
          have ea : w64 (w64 (w64 (0 - B) * x) - r) = -(B * x) - r := by
            rw [w64_in (n := 0 - B) (by omega), eB, w64_abs (n := -(B * x)) (by omega), w64_abs (by omega)]
          have eb : w64 (w64 (w64 (0 - B) * x) + r) = -(B * x) + r := by
            rw [w64_in (n := 0 - B) (by omega), eB, w64_abs (n := -(B * x)) (by omega), w64_abs (by omega)]
          have hcne : (2 * C : Int) ≠ 0 := by omega
          rw [e1]
          simp only [Bool.not_true, cond_false, g1, Option.bind_some, hC2, hz, ea, eb]
          have hy2 : ∀ y, Sol A B C n (x, y) ↔ (2 * C * y = -(B * x) - r ∨ 2 * C * y = -(B * x) + r) := by
            intro y
            rw [hy]
            constructor
            · intro h
              rcases root_uni g2 g4 g5 h with e | e <;> omega
            · rintro (h | h)
              · have e : 2 * C * y + B * x = -r := by omega
                rw [e, ← hrq]; grind
              · have e : 2 * C * y + B * x = r := by omega
                rw [e, ← hrq]
          -- a quotient's size
          have tsz : ∀ a y : Int, 2 * C * y = a → a.natAbs ≤ 2000000000000 → y.natAbs ≤ 2000000000000 := by
            intro a y h h2
            have : (2 * C * y).natAbs = (2 * C).natAbs * y.natAbs := Int.natAbs_mul _ _
            rw [h] at this
            have h3 : 1 * y.natAbs ≤ (2 * C).natAbs * y.natAbs := Nat.mul_le_mul_right _ (by omega)
            omega
          have hr1 : ∀ q2, q2 ∈ acc → ∀ y, lexL q2 (x, y) := fun q2 h y => .inl ((hm q2).1 h).2.1
          cases h1 : eqI (Int.tmod (-(B * x) - r) (2 * C)) 0 with
          | true =>
            have m1 := tmod_zero hcne h1
            generalize hy1 : Int.tdiv (-(B * x) - r) (2 * C) = y1
            rw [hy1] at m1
            have s1 := tsz _ _ m1 (by omega)
            rw [cond_true, w64_abs (n := y1) (by omega), roomOk (by simp; omega)]
            simp only [Option.bind_some]
            have k1 : Srt (acc ++ [(x, y1)]) := srt_app hs fun q2 h => hr1 q2 h y1
            rw [ltI_eq]
            by_cases hr0 : 0 < r
            · rw [decide_eq_true hr0, cond_true]
              cases h2 : eqI (Int.tmod (-(B * x) + r) (2 * C)) 0 with
              | true =>
                have m2 := tmod_zero hcne h2
                generalize hy2e : Int.tdiv (-(B * x) + r) (2 * C) = y2
                rw [hy2e] at m2
                have s2 := tsz _ _ m2 (by omega)
                have hlt : y1 < y2 := by
                  rcases Int.lt_or_le y1 y2 with h | h
                  · exact h
                  · have : 2 * C * y2 ≤ 2 * C * y1 := Int.mul_le_mul_of_nonneg_left h (by omega)
                    omega
                simp only [Option.bind_some, cond_true]
                rw [w64_abs (n := y2) (by omega), roomOk (by simp; omega)]
                simp only [Option.bind_some, sI_eq, hw1]
                refine step _ (srt_app k1 fun q2 h => ?_) (fun p => ?_) (by simp)
                · rw [List.mem_append, List.mem_singleton] at h
                  rcases h with h | h
                  · exact hr1 q2 h y2
                  · subst h; exact .inr ⟨rfl, hlt⟩
                · rw [List.mem_append, List.mem_append, List.mem_singleton, List.mem_singleton]
                  constructor
                  · rintro ((h | h) | h)
                    · exact .inl h
                    · subst h; exact .inr ⟨rfl, (hy2 y1).2 (.inl m1)⟩
                    · subst h; exact .inr ⟨rfl, (hy2 y2).2 (.inr m2)⟩
                  · rintro (h | ⟨h, h'⟩)
                    · exact .inl (.inl h)
                    · obtain ⟨p1, p2⟩ := p
                      have h : p1 = x := h
                      subst h
                      rcases (hy2 p2).1 h' with e | e
                      · left; right
                        have : p2 = y1 := Int.eq_of_mul_eq_mul_left hcne (by omega)
                        rw [this]
                      · right
                        have : p2 = y2 := Int.eq_of_mul_eq_mul_left hcne (by omega)
                        rw [this]
              | false =>
                simp only [Option.bind_some, cond_false, sI_eq, hw1]
                refine step _ k1 (fun p => ?_) (by simp)
                rw [List.mem_append, List.mem_singleton]
                constructor
                · rintro (h | h)
                  · exact .inl h
                  · subst h; exact .inr ⟨rfl, (hy2 y1).2 (.inl m1)⟩
                · rintro (h | ⟨h, h'⟩)
                  · exact .inl h
                  · obtain ⟨p1, p2⟩ := p
                    have h : p1 = x := h
                    subst h
                    rcases (hy2 p2).1 h' with e | e
                    · right
                      have : p2 = y1 := Int.eq_of_mul_eq_mul_left hcne (by omega)
                      rw [this]
                    · rw [(tmod_mul hcne e).1] at h2
                      cases h2
            · have r0 : r = 0 := by omega
              rw [decide_eq_false hr0]
              simp only [Option.bind_some, cond_false, sI_eq, hw1]
              refine step _ k1 (fun p => ?_) (by simp)
              rw [List.mem_append, List.mem_singleton]
              constructor
              · rintro (h | h)
                · exact .inl h
                · subst h; exact .inr ⟨rfl, (hy2 y1).2 (.inl m1)⟩
              · rintro (h | ⟨h, h'⟩)
                · exact .inl h
                · obtain ⟨p1, p2⟩ := p
                  have h : p1 = x := h
                  subst h
                  right
                  have : p2 = y1 := Int.eq_of_mul_eq_mul_left hcne (by rcases (hy2 p2).1 h' with e | e <;> omega)
                  rw [this]
          | false =>
            rw [cond_false]
            simp only [Option.bind_some]
            rw [ltI_eq]
            by_cases hr0 : 0 < r
            · rw [decide_eq_true hr0, cond_true]
              cases h2 : eqI (Int.tmod (-(B * x) + r) (2 * C)) 0 with
              | true =>
                have m2 := tmod_zero hcne h2
                generalize hy2e : Int.tdiv (-(B * x) + r) (2 * C) = y2
                rw [hy2e] at m2
                have s2 := tsz _ _ m2 (by omega)
                simp only [Option.bind_some, cond_true]
                rw [w64_abs (n := y2) (by omega), roomOk (by simp; omega)]
                simp only [Option.bind_some, sI_eq, hw1]
                refine step _ (srt_app hs fun q2 h => hr1 q2 h y2) (fun p => ?_) (by simp)
                rw [List.mem_append, List.mem_singleton]
                constructor
                · rintro (h | h)
                  · exact .inl h
                  · subst h; exact .inr ⟨rfl, (hy2 y2).2 (.inr m2)⟩
                · rintro (h | ⟨h, h'⟩)
                  · exact .inl h
                  · obtain ⟨p1, p2⟩ := p
                    have h : p1 = x := h
                    subst h
                    rcases (hy2 p2).1 h' with e | e
                    · rw [(tmod_mul hcne e).1] at h1
                      cases h1
                    · right
                      have : p2 = y2 := Int.eq_of_mul_eq_mul_left hcne (by omega)
                      rw [this]
              | false =>
                simp only [Option.bind_some, cond_false, sI_eq, hw1]
                refine step _ hs (fun p => ?_) (by omega)
                constructor
                · exact fun h => .inl h
                · rintro (h | ⟨h, h'⟩)
                  · exact h
                  · obtain ⟨p1, p2⟩ := p
                    have h : p1 = x := h
                    subst h
                    rcases (hy2 p2).1 h' with e | e
                    · rw [(tmod_mul hcne e).1] at h1
                      cases h1
                    · rw [(tmod_mul hcne e).1] at h2
                      cases h2
            · have r0 : r = 0 := by omega
              rw [decide_eq_false hr0]
              simp only [Option.bind_some, cond_false, sI_eq, hw1]
              refine step _ hs (fun p => ?_) (by omega)
              constructor
              · exact fun h => .inl h
              · rintro (h | ⟨h, h'⟩)
                · exact h
                · obtain ⟨p1, p2⟩ := p
                  have h : p1 = x := h
                  subst h
                  rw [(tmod_mul hcne (show 2 * C * p2 = -(B * p1) - r by rcases (hy2 p2).1 h' with e | e <;> omega)).1] at h1
                  cases h1
        · rw [eqNe hrq]
          simp only [Bool.not_false, cond_true, sI_eq, hw1]
          refine step _ hs (fun p => ?_) (by omega)
          constructor
          · exact fun h => .inl h
          · rintro (h | ⟨h, h'⟩)
            · exact h
            · obtain ⟨p1, p2⟩ := p
              have h : p1 = x := h
              subst h
              exfalso
              have h2 := (hy p2).1 h'
              rcases root_uni g2 g4 g5 h2 with e | e
              · exact hrq (by rw [← e]; exact h2)
              · exact hrq (by rw [e] at h2; rw [← h2]; grind)
      · have hisq : r_impl_isSquare q = some false := by
          simp only [r_impl_isSquare, leI_eq, decide_eq_false hq0, cond_false, Option.bind_some]
        rw [hisq]
        simp only [Option.bind_some, Bool.not_false, cond_true, sI_eq, hw1]
        refine step _ hs (fun p => ?_) (by omega)
        constructor
        · exact fun h => .inl h
        · rintro (h | ⟨h, h'⟩)
          · exact h
          · obtain ⟨p1, p2⟩ := p
            have h : p1 = x := h
            subst h
            exfalso
            have h2 := (hy p2).1 h'
            have := sqn (2 * C * p2 + B * p1)
            omega
    · rw [decide_eq_false hx, cond_false]
      refine ⟨acc, rfl, hs, by omega, fun p => ?_⟩
      rw [hm]
      constructor
      · rintro ⟨a, b, c⟩; exact ⟨a, by omega, c⟩
      · rintro ⟨a, b, c⟩; exact ⟨a, by omega, c⟩
/-- All points at which the form has the value, in their order. -/
theorem points_val {A B C n : Int} (hA : 1 ≤ A) (hC1 : 1 ≤ C) (hC : C ≤ 1000000) (hB1 : -1000000 ≤ B) (hB : B ≤ 1000000) (hdw : r_impl_Form_disc (A, B, C) = some (B * B - 4 * A * C)) (hd1 : -2000 ≤ B * B - 4 * A * C) (hd2 : B * B - 4 * A * C ≤ -3) (hn1 : 1 ≤ n) (hn : n ≤ 10000) :
    ∃ l, r_impl_Form_points (A, B, C) n = some l ∧ Srt l ∧ l.length ≤ 1000000 ∧ ∀ p, p ∈ l ↔ Sol A B C n p := by
  have hF := FUge
  have hFe : ((FU : Nat) : Int) = 1000000000 := rfl
  generalize hd : B * B - 4 * A * C = d at *
  have b3 := abs_mul (x := 4 * C) (y := n) (A := 4000000) (B := 10000) (by omega) (by omega)
  have hCn : 0 ≤ 4 * C * n := Int.mul_nonneg (by omega) (by omega)
  have ew : w64 (0 - d) = -d := by rw [w64_in (by omega)]; omega
  have e4 : w64 (w64 (4 * C) * n) = 4 * C * n := by rw [w64_in (n := 4 * C) (by omega), w64_abs (by omega)]
  have hquo : Int.tdiv (4 * C * n) (-d) = 4 * C * n / (-d) := Int.tdiv_eq_ediv_of_nonneg hCn
  have hq1 : 0 ≤ 4 * C * n / (-d) := Int.ediv_nonneg hCn (by omega)
  have hq2 : (-d) * (4 * C * n / (-d)) ≤ 4 * C * n := Int.mul_ediv_self_le (by omega)
  have hq3 : 4 * C * n < (-d) * (4 * C * n / (-d)) + (-d) := Int.lt_mul_ediv_self_add (by omega)
  generalize hQ : 4 * C * n / (-d) = Q at *
  have hQb : Q ≤ 40000000000 := by
    have : 1 * Q ≤ (-d) * Q := Int.mul_le_mul_of_nonneg_right (by omega) hq1
    omega
  obtain ⟨bd, g1, g2, g3, g4, g5⟩ := root_val (q := Q) hq1 (by omega)
  have hbd : bd ≤ 200000 := by
    rcases Int.lt_or_le 200000 bd with h | h
    · have : 200001 * 200001 ≤ bd * bd := Int.mul_le_mul (by omega) (by omega) (by omega) (by omega)
      omega
    · exact h
  -- every solution lies within the bound
  have hin : ∀ p, Sol A B C n p → p.1 ≤ bd ∧ -bd ≤ p.1 := by
    rintro ⟨x, y⟩ hp
    have h1 := (sol_y hC1 hd).1 hp
    have h2 := sqn (2 * C * y + B * x)
    have h3 : (-d) * (x * x) ≤ 4 * C * n := by
      have e : (-d) * (x * x) = -(d * x * x) := by grind
      omega
    have hxx : x * x ≤ Q := by
      rcases Int.lt_or_le Q (x * x) with h | h
      · have : (-d) * (Q + 1) ≤ (-d) * (x * x) := Int.mul_le_mul_of_nonneg_left (by omega) (by omega)
        have e : (-d) * (Q + 1) = (-d) * Q + (-d) := by grind
        omega
      · exact h
    have hab : x.natAbs ≤ bd.natAbs := by
      rcases Nat.lt_or_ge bd.natAbs x.natAbs with h | h
      · have h4 : (bd.natAbs + 1) * (bd.natAbs + 1) ≤ x.natAbs * x.natAbs := Nat.mul_le_mul h h
        have h5 : x * x = ((x.natAbs * x.natAbs : Nat) : Int) := Int.natAbs_mul_self.symm
        have h6 : (bd + 1) * (bd + 1) = (((bd.natAbs + 1) * (bd.natAbs + 1) : Nat) : Int) := by
          have : bd = (bd.natAbs : Int) := by omega
          rw [this]; simp
        omega
      · exact h
    show x ≤ bd ∧ -bd ≤ x
    omega
  obtain ⟨l, k1, k2, k3, k4⟩ := pts_run (bd := bd) hC1 hC hB1 hB hd hd1 hd2 hn1 hn g2 hbd FU (-bd) [] (by omega) (by omega) (by omega) List.Pairwise.nil (fun p => by
    constructor
    · intro h; cases h
    · rintro ⟨a, b, c⟩; omega) (by omega) (by simp; omega)
  refine ⟨l, ?_, k2, k3, fun p => ?_⟩
  · have ez : nz (-d) = some () := nzOk (by omega)
    have eb : w64 (0 - bd) = -bd := by rw [w64_in (by omega)]; omega
    simp only [r_impl_Form_points, hdw, Option.bind_some, ew, ez, e4, hquo, hQ]
    rw [w64_in (n := Q) (by omega), g1]
    simp only [Option.bind_some, sI_eq, eb, k1]
  · rw [k4]
    exact ⟨fun h => h.1, fun h => ⟨h, (hin p h).1, (hin p h).2⟩⟩
end Go.Proofs.Ytpfnhgpepgeaiaa
