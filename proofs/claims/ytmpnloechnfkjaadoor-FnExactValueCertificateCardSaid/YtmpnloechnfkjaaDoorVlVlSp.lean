/-
  The reference's list of the points at which a form has a value.
  Conditions: none.
-/
import Derived.Test.YtmpnloechnfkjaaDoorVlVlPt
namespace Go.Proofs.YtmpnloechnfkjaaDoor
set_option linter.unusedVariables false
set_option linter.unusedSimpArgs false

theorem has_run (l : List (Int × Int)) (p : Int × Int) (hl : l.length ≤ 10000000) : ∀ (n k : Nat), k ≤ l.length → l.length - k < n → r_spec_vaHas_L4 l p n (k : Int) = some (if p ∈ l.drop k then .inr true else .inl ())
  | 0, k, h0, h1 => by omega
  | n + 1, k, h0, h1 => by
    unfold r_spec_vaHas_L4
    rw [ltI_eq]
    by_cases hk : k < l.length
    · have e3 : l.drop k = l[k] :: l.drop (k + 1) := List.drop_eq_getElem_cons hk
      rw [decide_eq_true (by omega), cond_true, getNat hk]
      simp only [Option.bind_some, sI_eq, wsucc (show k < 1000000000 by omega)]
      by_cases he : l[k] = p
      · have e1 : ((l[k]).1 == p.1 && (l[k]).2 == p.2) = true := by rw [he]; simp
        rw [e1, cond_true, e3, if_pos (by rw [he]; exact List.mem_cons_self)]
      · have e1 : ((l[k]).1 == p.1 && (l[k]).2 == p.2) = false := by
          cases hb : ((l[k]).1 == p.1 && (l[k]).2 == p.2) with
          | false => rfl
          | true =>
            rw [Bool.and_eq_true] at hb
            exact absurd (Prod.ext (eq_of_beq hb.1) (eq_of_beq hb.2)) he
        rw [e1, cond_false, has_run l p hl n (k + 1) (by omega) (by omega), e3]
        by_cases hm : p ∈ l.drop (k + 1)
        · rw [if_pos hm, if_pos (List.mem_cons_of_mem _ hm)]
        · rw [if_neg hm, if_neg (by
            intro h
            rcases List.mem_cons.1 h with h | h
            · exact he h.symm
            · exact hm h)]
    · rw [decide_eq_false (by omega), cond_false, List.drop_eq_nil_of_le (by omega), if_neg (by simp)]
theorem has_val (l : List (Int × Int)) (p : Int × Int) (hl : l.length ≤ 10000000) : r_spec_vaHas l p = some (decide (p ∈ l)) := by
  have hFe : FU = 1000000000 := rfl
  have := has_run l p hl FU 0 (by omega) (by omega)
  have this : r_spec_vaHas_L4 l p FU 0 = some (if p ∈ l then .inr true else .inl ()) := this
  unfold r_spec_vaHas
  rw [this]
  by_cases h : p ∈ l
  · rw [if_pos h, decide_eq_true h]; rfl
  · rw [if_neg h, decide_eq_false h]; rfl
def lexB (p q : Int × Int) : Bool := ltI p.1 q.1 || (eqI p.1 q.1 && ltI p.2 q.2)
theorem lexB_iff {p q : Int × Int} : lexB p q = true ↔ lexL p q := by
  unfold lexB lexL
  rw [ltI_eq, ltI_eq, eqI_eq]
  simp
theorem put_run (l : List (Int × Int)) (p : Int × Int) (hl : l.length ≤ 10000000) : ∀ (n k : Nat), k ≤ l.length → l.length - k < n → (∀ j, j < k → ∀ q, l[j]? = some q → lexL q p) → ∃ m, r_spec_vaPut_L4 l p n (k : Int) = some ((m : Nat) : Int) ∧ m ≤ l.length ∧ (∀ j, j < m → ∀ q, l[j]? = some q → lexL q p) ∧ (∀ q, l[m]? = some q → ¬ lexL q p)
  | 0, k, h0, h1, h2 => by omega
  | n + 1, k, h0, h1, h2 => by
    unfold r_spec_vaPut_L4
    rw [ltI_eq]
    by_cases hk : k < l.length
    · have ec : ((getI l (k : Int)).bind fun e7 => (bif (ltI e7.1 p.1) then some true else ((getI l (k : Int)).bind fun e9 => (bif (eqI e9.1 p.1) then ((getI l (k : Int)).bind fun e11 => some (ltI e11.2 p.2)) else some false).bind fun b12 => some b12)).bind fun b13 => some b13) = some (lexB l[k] p) := by
        rw [getNat hk]
        simp only [Option.bind_some]
        unfold lexB
        cases ltI l[k].1 p.1 <;> cases eqI l[k].1 p.1 <;> rfl
      rw [decide_eq_true (by omega), cond_true, ec]
      simp only [Option.bind_some, sI_eq, wsucc (show k < 1000000000 by omega)]
      cases hb : lexB l[k] p with
      | true =>
        rw [cond_true]
        refine put_run l p hl n (k + 1) (by omega) (by omega) fun j hj q hq => ?_
        by_cases hjk : j = k
        · subst hjk
          rw [List.getElem?_eq_getElem hk] at hq
          injection hq with hq
          subst hq
          exact lexB_iff.1 hb
        · exact h2 j (by omega) q hq
      | false =>
        rw [cond_false]
        refine ⟨k, rfl, by omega, h2, fun q hq => ?_⟩
        rw [List.getElem?_eq_getElem hk] at hq
        injection hq with hq
        subst hq
        intro h
        rw [lexB_iff.2 h] at hb
        cases hb
    · rw [decide_eq_false (by omega)]
      simp only [cond_false, Option.bind_some]
      refine ⟨k, rfl, h0, h2, fun q hq => ?_⟩
      rw [List.getElem?_eq_none (by omega)] at hq
      cases hq
theorem slcOk {n : Nat} {l h : Int} (h1 : 0 ≤ l) (h2 : l ≤ h) (h3 : h ≤ n) : slc n l h = some () := by
  unfold slc
  rw [leI_eq, leI_eq, leI_eq, decide_eq_true h1, decide_eq_true h2, decide_eq_true h3]
  rfl
theorem lex_tri {p q : Int × Int} (h : ¬ lexL q p) (hne : q ≠ p) : lexL p q := by
  unfold lexL at *
  have : ¬ (q.1 = p.1 ∧ q.2 = p.2) := fun e => hne (Prod.ext e.1 e.2)
  omega
theorem lex_tr {p q r : Int × Int} (h : lexL p q) (h2 : lexL q r) : lexL p r := by
  unfold lexL at *
  omega
theorem put_val (l : List (Int × Int)) (p : Int × Int) (hl : l.length ≤ 10000000) (hs : Srt l) (hp : p ∉ l) : ∃ l2, r_spec_vaPut l p = some l2 ∧ Srt l2 ∧ l2.length = l.length + 1 ∧ ∀ q, q ∈ l2 ↔ q ∈ l ∨ q = p := by
  have hFe : FU = 1000000000 := rfl
  obtain ⟨m, g1, g2, g3, g4⟩ := put_run l p hl FU 0 (by omega) (by omega) (fun j hj => by omega)
  have g1 : r_spec_vaPut_L4 l p FU 0 = some ((m : Nat) : Int) := g1
  have e1 : subl l 0 ((m : Nat) : Int) = l.take m := by simp [subl]
  have e2 : subl l ((m : Nat) : Int) (l.length : Int) = l.drop m := by
    simp only [subl, Int.toNat_natCast]
    rw [List.take_of_length_le (by simp)]
  refine ⟨(([] ++ l.take m) ++ [p]) ++ l.drop m, ?_, ?_, ?_, ?_⟩
  · simp only [r_spec_vaPut, g1, Option.bind_some, slcOk (show (0 : Int) ≤ 0 by omega) (show (0 : Int) ≤ (m : Int) by omega) (show (m : Int) ≤ (l.length : Int) by omega), slcOk (show (0 : Int) ≤ (m : Int) by omega) (show (m : Int) ≤ (l.length : Int) by omega) (show (l.length : Int) ≤ (l.length : Int) by omega), e1, e2]
    rw [roomOk (by simp; omega)]
    simp only [Option.bind_some]
    rw [roomOk (by simp; omega)]
    simp only [Option.bind_some]
    rw [roomOk (by simp; omega)]
    rfl
  · have hs2 : Srt (l.take m ++ l.drop m) := by rw [List.take_append_drop]; exact hs
    unfold Srt at hs2 ⊢
    rw [List.pairwise_append] at hs2
    obtain ⟨s1, s2, s3⟩ := hs2
    have hlow : ∀ a ∈ l.take m, lexL a p := by
      intro a ha
      obtain ⟨j, hj⟩ := List.getElem?_of_mem ha
      have hjm : j < m := by
        rcases Nat.lt_or_ge j m with h | h
        · exact h
        · rw [List.getElem?_eq_none (by simp; omega)] at hj; cases hj
      rw [List.getElem?_take_of_lt hjm] at hj
      exact g3 j hjm a hj
    have hhigh : ∀ b ∈ l.drop m, lexL p b := by
      intro b hb
      have hbl : b ∈ l := List.mem_of_mem_drop hb
      have hbp : b ≠ p := fun e => hp (e ▸ hbl)
      by_cases hm : m < l.length
      · have e3 : l.drop m = l[m] :: l.drop (m + 1) := List.drop_eq_getElem_cons hm
        have hmp : l[m] ≠ p := fun e => hp (e ▸ List.getElem_mem hm)
        have h5 := lex_tri (g4 _ (List.getElem?_eq_getElem hm)) hmp
        rw [e3] at hb s2
        rcases List.mem_cons.1 hb with h | h
        · rw [h]; exact h5
        · exact lex_tr h5 ((List.pairwise_cons.1 s2).1 b h)
      · rw [List.drop_eq_nil_of_le (by omega)] at hb
        cases hb
    rw [List.nil_append, List.pairwise_append, List.pairwise_append]
    refine ⟨⟨s1, List.pairwise_singleton _ _, fun a ha b hb => ?_⟩, s2, fun a ha b hb => ?_⟩
    · rw [List.mem_singleton] at hb; subst hb; exact hlow a ha
    · rw [List.mem_append, List.mem_singleton] at ha
      rcases ha with ha | ha
      · exact s3 a ha b hb
      · subst ha; exact hhigh b hb
  · simp; omega
  · intro q
    rw [List.mem_append, List.mem_append, List.nil_append, List.mem_singleton]
    conv => rhs; rw [← List.take_append_drop m l, List.mem_append]
    constructor
    · rintro ((h | h) | h)
      · exact .inl (.inl h)
      · exact .inr h
      · exact .inl (.inr h)
    · rintro ((h | h) | h)
      · exact .inl (.inl h)
      · exact .inr h
      · exact .inl (.inr h)
/-- One try at a point. -/
def tryR (A B v r : Int) (out : List (Int × Int)) : Option (List (Int × Int)) :=
  (nz (w64 (2 * A))).bind fun _ =>
  bif eqI (Int.tmod (w64 (r - w64 (B * v))) (w64 (2 * A))) 0 then
    (nz (w64 (2 * A))).bind fun _ => (r_spec_vaHas out (w64 (Int.tdiv (w64 (r - w64 (B * v))) (w64 (2 * A))), v)).bind fun y => bif !y then r_spec_vaPut out (w64 (Int.tdiv (w64 (r - w64 (B * v))) (w64 (2 * A))), v) else some out
  else some out
theorem try_val {A B v r : Int} {out : List (Int × Int)} (hA1 : 1 ≤ A) (hA : A ≤ 1000000) (hB1 : -1000000 ≤ B) (hB : B ≤ 1000000) (hv : v.natAbs ≤ 200000) (hr : r.natAbs ≤ 1000000000) (hl : out.length ≤ 9000000) (hs : Srt out) :
    ∃ o, tryR A B v r out = some o ∧ Srt o ∧ o.length ≤ out.length + 1 ∧ ∀ q, q ∈ o ↔ q ∈ out ∨ (q.2 = v ∧ 2 * A * q.1 = r - B * v) := by
  have b1 := abs_mul (x := B) (y := v) (A := 1000000) (B := 200000) (by omega) hv
  have e1 : w64 (r - w64 (B * v)) = r - B * v := by rw [w64_abs (n := B * v) (by omega), w64_abs (by omega)]
  have e2 : w64 (2 * A) = 2 * A := w64_in (by omega)
  have hne : (2 * A : Int) ≠ 0 := by omega
  have hz : nz (2 * A) = some () := nzOk hne
  unfold tryR
  rw [e1, e2, hz]
  simp only [Option.bind_some]
  cases h1 : eqI (Int.tmod (r - B * v) (2 * A)) 0 with
  | true =>
    have m1 := tmod_zero hne h1
    generalize hx : Int.tdiv (r - B * v) (2 * A) = x
    rw [hx] at m1
    have hxs : x.natAbs ≤ 2000000000000 := by
      have h3 : (2 * A * x).natAbs = (2 * A).natAbs * x.natAbs := Int.natAbs_mul _ _
      rw [m1] at h3
      have h4 : 1 * x.natAbs ≤ (2 * A).natAbs * x.natAbs := Nat.mul_le_mul_right _ (by omega)
      omega
    rw [cond_true, w64_abs (n := x) (by omega), has_val _ _ (by omega)]
    simp only [Option.bind_some]
    have huni : ∀ q : Int × Int, (q.2 = v ∧ 2 * A * q.1 = r - B * v) ↔ q = (x, v) := by
      rintro ⟨q1, q2⟩
      constructor
      · rintro ⟨h, h'⟩
        have h : q2 = v := h
        have h' : 2 * A * q1 = r - B * v := h'
        have : q1 = x := Int.eq_of_mul_eq_mul_left hne (by omega)
        rw [h, this]
      · intro h
        obtain ⟨rfl, rfl⟩ := Prod.mk.inj h
        exact ⟨rfl, m1⟩
    by_cases hm : (x, v) ∈ out
    · rw [decide_eq_true hm]
      refine ⟨out, rfl, hs, by omega, fun q => ?_⟩
      rw [huni]
      constructor
      · exact fun h => .inl h
      · rintro (h | h)
        · exact h
        · rw [h]; exact hm
    · rw [decide_eq_false hm]
      obtain ⟨l2, k1, k2, k3, k4⟩ := put_val out (x, v) (by omega) hs hm
      refine ⟨l2, by simp only [Bool.not_false, cond_true, k1], k2, by omega, fun q => ?_⟩
      rw [huni, k4]
  | false =>
    refine ⟨out, rfl, hs, by omega, fun q => ?_⟩
    constructor
    · exact fun h => .inl h
    · rintro (h | ⟨_, h⟩)
      · exact h
      · rw [(tmod_mul hne h).1] at h1
        cases h1
theorem l25_step {A B C v s t14 t16 t22 n y3 y4 r : Int} {out : List (Int × Int)} {fu : Nat} {t : Int} (ht : ltI t t22 = true) (hg : getI [s, w64 (0 - s)] t = some r) :
    r_spec_vaAt_L25 v (A, B, C) t14 t16 t22 n s y3 y4 (fu + 1) out t = (tryR A B v r out).bind fun o => r_spec_vaAt_L25 v (A, B, C) t14 t16 t22 n s y3 y4 fu o (w64 (t + 1)) := by
  rw [r_spec_vaAt_L25, ht, cond_true, hg]
  simp only [Option.bind_some, sI_eq]
  unfold tryR
  cases nz (w64 (2 * A)) with
  | none => rfl
  | some u =>
    simp only [Option.bind_some]
    cases eqI (Int.tmod (w64 (r - w64 (B * v))) (w64 (2 * A))) 0 with
    | false => rfl
    | true =>
      simp only [cond_true]
      cases r_spec_vaHas out (w64 (Int.tdiv (w64 (r - w64 (B * v))) (w64 (2 * A))), v) with
      | none => rfl
      | some b => cases b <;> rfl
theorem l25_val {A B C v s t14 t16 n y3 y4 : Int} {out : List (Int × Int)} (hA1 : 1 ≤ A) (hA : A ≤ 1000000) (hB1 : -1000000 ≤ B) (hB : B ≤ 1000000) (hv : v.natAbs ≤ 200000) (hs0 : 0 ≤ s) (hs1 : s ≤ 1000000000) (hl : out.length ≤ 8000000) (hs : Srt out) :
    ∃ o, r_spec_vaAt_L25 v (A, B, C) t14 t16 2 n s y3 y4 FU out 0 = some o ∧ Srt o ∧ o.length ≤ out.length + 2 ∧ ∀ q, q ∈ o ↔ q ∈ out ∨ (q.2 = v ∧ (2 * A * q.1 + B * v) * (2 * A * q.1 + B * v) = s * s) := by
  obtain ⟨m, hm⟩ : ∃ m, FU = m + 1 + 1 + 1 := ⟨FU - 3, rfl⟩
  have en : w64 (0 - s) = -s := by rw [w64_in (by omega)]; omega
  obtain ⟨o1, k1, k2, k3, k4⟩ := try_val (out := out) (r := s) hA1 hA hB1 hB hv (by omega) (by omega) hs
  obtain ⟨o2, j1, j2, j3, j4⟩ := try_val (out := o1) (r := -s) hA1 hA hB1 hB hv (by omega) (by omega) k2
  have g0 : getI [s, w64 (0 - s)] 0 = some s := rfl
  have g1 : getI [s, w64 (0 - s)] 1 = some (w64 (0 - s)) := rfl
  refine ⟨o2, ?_, j2, by omega, fun q => ?_⟩
  · rw [hm, l25_step rfl g0, k1, Option.bind_some, show w64 (0 + 1) = 1 from rfl, l25_step rfl g1, en, j1, Option.bind_some, show w64 (1 + 1) = 2 from rfl, r_spec_vaAt_L25]
    rfl
  · rw [j4, k4]
    constructor
    · rintro ((h | ⟨a, b⟩) | ⟨a, b⟩)
      · exact .inl h
      · refine .inr ⟨a, ?_⟩
        rw [show 2 * A * q.1 + B * v = s by omega]
      · refine .inr ⟨a, ?_⟩
        rw [show 2 * A * q.1 + B * v = -s by omega]
        grind
    · rintro (h | ⟨a, b⟩)
      · exact .inl (.inl h)
      · have : s * s < (s + 1) * (s + 1) := by
          have : (s + 1) * (s + 1) = s * s + 2 * s + 1 := by grind
          omega
        rcases root_uni hs0 (Int.le_refl (s * s)) this b with e | e
        · exact .inl (.inr ⟨a, by omega⟩)
        · exact .inr ⟨a, by omega⟩
theorem l17_step {A B C s t14 n y3 y v : Int} {out : List (Int × Int)} {fu : Nat} {t : Int} (ht : ltI t t14 = true) (hg : getI [y, w64 (0 - y)] t = some v) :
    r_spec_vaAt_L17 (A, B, C) t14 n s y3 y (fu + 1) out t = (r_spec_vaAt_L25 v (A, B, C) t14 t 2 n s y3 y FU out 0).bind fun o => r_spec_vaAt_L17 (A, B, C) t14 n s y3 y fu o (w64 (t + 1)) := by
  rw [r_spec_vaAt_L17, ht, cond_true, hg]
  simp only [Option.bind_some, sI_eq]
  rfl
theorem l17_val {A B C s n y3 y : Int} {out : List (Int × Int)} (hA1 : 1 ≤ A) (hA : A ≤ 1000000) (hB1 : -1000000 ≤ B) (hB : B ≤ 1000000) (hy0 : 0 ≤ y) (hy : y ≤ 200000) (hs0 : 0 ≤ s) (hs1 : s ≤ 1000000000) (hl : out.length ≤ 7000000) (hs : Srt out) :
    ∃ o, r_spec_vaAt_L17 (A, B, C) 2 n s y3 y FU out 0 = some o ∧ Srt o ∧ o.length ≤ out.length + 4 ∧ ∀ q, q ∈ o ↔ q ∈ out ∨ ((q.2 = y ∨ q.2 = -y) ∧ (2 * A * q.1 + B * q.2) * (2 * A * q.1 + B * q.2) = s * s) := by
  obtain ⟨m, hm⟩ : ∃ m, FU = m + 1 + 1 + 1 := ⟨FU - 3, rfl⟩
  have en : w64 (0 - y) = -y := by rw [w64_in (by omega)]; omega
  obtain ⟨o1, k1, k2, k3, k4⟩ := l25_val (C := C) (out := out) (v := y) (s := s) (t14 := 2) (t16 := 0) (n := n) (y3 := y3) (y4 := y) hA1 hA hB1 hB (by omega) hs0 hs1 (by omega) hs
  obtain ⟨o2, j1, j2, j3, j4⟩ := l25_val (C := C) (out := o1) (v := -y) (s := s) (t14 := 2) (t16 := 1) (n := n) (y3 := y3) (y4 := y) hA1 hA hB1 hB (by omega) hs0 hs1 (by omega) k2
  have g0 : getI [y, w64 (0 - y)] 0 = some y := rfl
  have g1 : getI [y, w64 (0 - y)] 1 = some (w64 (0 - y)) := rfl
  refine ⟨o2, ?_, j2, by omega, fun q => ?_⟩
  · rw [hm, l17_step rfl g0, k1, Option.bind_some, show w64 (0 + 1) = 1 from rfl, l17_step rfl g1, en, j1, Option.bind_some, show w64 (1 + 1) = 2 from rfl, r_spec_vaAt_L17]
    rfl
  · rw [j4, k4]
    constructor
    · rintro ((h | ⟨a, b⟩) | ⟨a, b⟩)
      · exact .inl h
      · exact .inr ⟨.inl a, by rw [a]; exact b⟩
      · exact .inr ⟨.inr a, by rw [a]; exact b⟩
    · rintro (h | ⟨a | a, b⟩)
      · exact .inl (.inl h)
      · exact .inl (.inr ⟨a, by rw [a] at b; exact b⟩)
      · exact .inr ⟨a, by rw [a] at b; exact b⟩
theorem at_run {A B C d n : Int} (hA1 : 1 ≤ A) (hA : A ≤ 1000000) (hB1 : -1000000 ≤ B) (hB : B ≤ 1000000) (hd : B * B - 4 * A * C = d) (hd1 : -2000 ≤ d) (hd2 : d ≤ -3) (hn1 : 1 ≤ n) (hn : n ≤ 10000) :
    ∀ (fu : Nat) (y : Int) (acc : List (Int × Int)), 0 ≤ y → y ≤ 200001 → 200002 - y < fu → Srt acc → (∀ p, p ∈ acc ↔ Sol A B C n p ∧ -y < p.2 ∧ p.2 < y) → (acc.length : Int) ≤ 4 * y →
    ∃ l, r_spec_vaAt_L6 (A, B, C) n d fu y acc = some l ∧ Srt l ∧ l.length ≤ 1000000 ∧ ∀ p, p ∈ l ↔ Sol A B C n p
  | 0, y, acc, h1, h2, h3, _, _, _ => by omega
  | fu + 1, y, acc, h1, h2, h3, hs, hm, hl => by
    rw [r_spec_vaAt_L6]
    have b1 := abs_mul (x := d) (y := y) (A := 2000) (B := 200001) (by omega) (by omega)
    have b2 := abs_mul (x := d * y) (y := y) (A := 2000 * 200001) (B := 200001) b1 (by omega)
    have b3 := abs_mul (x := 4 * A) (y := n) (A := 4000000) (B := 10000) (by omega) (by omega)
    have e0 : w64 (0 - d) = -d := by rw [w64_in (by omega)]; omega
    have eN : -d * y * y = -(d * y * y) := by grind
    have eM : -d * y = -(d * y) := by grind
    have ec1 : w64 (w64 (w64 (0 - d) * y) * y) = -(d * y * y) := by rw [e0, w64_abs (n := -d * y) (by rw [eM]; omega), w64_abs (by rw [eN]; omega), eN]
    have ec2 : w64 (w64 (4 * A) * n) = 4 * A * n := by rw [w64_abs (n := 4 * A) (by omega), w64_abs (by omega)]
    have ec3 : w64 (w64 (w64 (d * y) * y) + 4 * A * n) = d * y * y + 4 * A * n := by rw [w64_abs (n := d * y) (by omega), w64_abs (n := d * y * y) (by omega), w64_abs (by omega)]
    have hw1 : w64 (y + 1) = y + 1 := w64_in (by omega)
    simp only [ec1, ec2, ec3, leI_eq, Option.bind_some]
    by_cases hy : -(d * y * y) ≤ 4 * A * n
    · have hyb : y ≤ 200000 := by
        rcases Int.lt_or_le 200000 y with h | h
        · exfalso
          have e5 : y = 200001 := by omega
          subst e5
          have : d * 200001 * 200001 ≤ -3 * 200001 * 200001 := by omega
          omega
        · exact h
      rw [decide_eq_true hy, cond_true]
      generalize hq : d * y * y + 4 * A * n = q
      have hq0 : 0 ≤ q := by omega
      obtain ⟨s, g1, g2, g3, g4, g5⟩ := sroot_val hq0 (by omega)
      have hss := abs_mul (x := s) (y := s) (A := 1000000000) (B := 1000000000) (by omega) (by omega)
      rw [g1]
      simp only [Option.bind_some]
      rw [w64_abs (n := s * s) (by omega)]
      have hsol : ∀ p : Int × Int, (p.2 = y ∨ p.2 = -y) → (Sol A B C n p ↔ (2 * A * p.1 + B * p.2) * (2 * A * p.1 + B * p.2) = q) := by
        rintro ⟨p1, p2⟩ hp
        rw [sol_x hA1 hd]
        have : d * p2 * p2 = d * y * y := by
          rcases hp with h | h
          · have h : p2 = y := h
            rw [h]
          · have h : p2 = -y := h
            rw [h]; grind
        rw [this, hq]
      by_cases hsq : s * s = q
      · rw [hsq, eqSelf]
        have l2 : (([y, w64 (0 - y)].length : Nat) : Int) = 2 := rfl
        obtain ⟨o, k1, k2, k3, k4⟩ := l17_val (C := C) (n := n) (y3 := d) (out := acc) hA1 hA hB1 hB h1 hyb g2 g3 (by omega) hs
        simp only [Bool.not_true, Option.bind_some, cond_false, sI_eq, l2, k1, hw1]
        refine at_run hA1 hA hB1 hB hd hd1 hd2 hn1 hn fu (y + 1) o (by omega) (by omega) (by omega) k2 (fun p => ?_) (by omega)
        rw [k4, hm, hsq]
        constructor
        · rintro (⟨a, b, c⟩ | ⟨a, b⟩)
          · exact ⟨a, by omega, by omega⟩
          · exact ⟨(hsol p a).2 b, by omega, by omega⟩
        · rintro ⟨a, b, c⟩
          by_cases hp : p.2 = y ∨ p.2 = -y
          · exact .inr ⟨hp, (hsol p hp).1 a⟩
          · exact .inl ⟨a, by omega, by omega⟩
      · rw [eqNe hsq]
        simp only [Bool.not_false, Option.bind_some, cond_true, sI_eq, hw1]
        refine at_run hA1 hA hB1 hB hd hd1 hd2 hn1 hn fu (y + 1) acc (by omega) (by omega) (by omega) hs (fun p => ?_) (by omega)
        rw [hm]
        constructor
        · rintro ⟨a, b, c⟩; exact ⟨a, by omega, by omega⟩
        · rintro ⟨a, b, c⟩
          by_cases hp : p.2 = y ∨ p.2 = -y
          · exfalso
            have h5 := (hsol p hp).1 a
            rcases root_uni g2 g4 g5 h5 with e | e
            · exact hsq (by rw [← e]; exact h5)
            · exact hsq (by rw [e] at h5; rw [← h5]; grind)
          · exact ⟨a, by omega, by omega⟩
    · rw [decide_eq_false hy, cond_false]
      refine ⟨acc, rfl, hs, by omega, fun p => ?_⟩
      rw [hm]
      constructor
      · exact fun h => h.1
      · intro h
        obtain ⟨p1, p2⟩ := p
        have h5 := (sol_x hA1 hd).1 h
        have h6 := sqn (2 * A * p1 + B * p2)
        have hpy : p2.natAbs < y.natAbs := by
          rcases Nat.lt_or_ge p2.natAbs y.natAbs with h7 | h7
          · exact h7
          · exfalso
            have h8 : y.natAbs * y.natAbs ≤ p2.natAbs * p2.natAbs := Nat.mul_le_mul h7 h7
            have h9 : y * y = ((y.natAbs * y.natAbs : Nat) : Int) := Int.natAbs_mul_self.symm
            have h10 : p2 * p2 = ((p2.natAbs * p2.natAbs : Nat) : Int) := Int.natAbs_mul_self.symm
            have h11 : (-d) * (y * y) ≤ (-d) * (p2 * p2) := Int.mul_le_mul_of_nonneg_left (by omega) (by omega)
            have e1 : (-d) * (y * y) = -(d * y * y) := by grind
            have e2 : (-d) * (p2 * p2) = -(d * p2 * p2) := by grind
            omega
        exact ⟨h, by show -y < p2; omega, by show p2 < y; omega⟩
theorem at_val {A B C n : Int} (hA1 : 1 ≤ A) (hA : A ≤ 1000000) (hB1 : -1000000 ≤ B) (hB : B ≤ 1000000) (hdw : r_impl_Form_disc (A, B, C) = some (B * B - 4 * A * C)) (hd1 : -2000 ≤ B * B - 4 * A * C) (hd2 : B * B - 4 * A * C ≤ -3) (hn1 : 1 ≤ n) (hn : n ≤ 10000) :
    ∃ l, r_spec_vaAt (A, B, C) n = some l ∧ Srt l ∧ l.length ≤ 1000000 ∧ ∀ p, p ∈ l ↔ Sol A B C n p := by
  have hFe : ((FU : Nat) : Int) = 1000000000 := rfl
  obtain ⟨l, k1, k2, k3, k4⟩ := at_run (A := A) (B := B) (C := C) hA1 hA hB1 hB rfl hd1 hd2 hn1 hn FU 0 [] (by omega) (by omega) (by omega) List.Pairwise.nil (fun p => by
    constructor
    · intro h; cases h
    · rintro ⟨a, b, c⟩; omega) (by simp)
  refine ⟨l, ?_, k2, k3, k4⟩
  simp only [r_spec_vaAt, disc_eq, hdw, Option.bind_some, k1]
end Go.Proofs.YtmpnloechnfkjaaDoor
