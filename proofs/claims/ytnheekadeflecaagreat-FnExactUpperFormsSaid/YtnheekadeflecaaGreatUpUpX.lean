/-
  Forms in order: a list in order is told by its members; the reference's list of reduced forms is in order.
  Conditions: none.
-/
import Derived.Test.YtnheekadeflecaaGreatUpRlG
import Derived.Test.YtnheekadeflecaaGreatUpIsM
import Derived.Test.YtnheekadeflecaaGreatUpLfU
namespace Go.Proofs.YtnheekadeflecaaGreat
set_option linter.unusedVariables false
set_option linter.unusedSimpArgs false

/-- One form comes before another. -/
def lt3 (x y : Int × Int × Int) : Prop := x.1 < y.1 ∨ (x.1 = y.1 ∧ (x.2.1 < y.2.1 ∨ (x.2.1 = y.2.1 ∧ x.2.2 < y.2.2)))
instance (x y : Int × Int × Int) : Decidable (lt3 x y) := by unfold lt3; infer_instance
theorem lt3_irr (x : Int × Int × Int) : ¬ lt3 x x := by unfold lt3; omega
theorem lt3_tr {x y z : Int × Int × Int} (h : lt3 x y) (k : lt3 y z) : lt3 x z := by unfold lt3 at *; omega
theorem lt3_tri (x y : Int × Int × Int) : lt3 x y ∨ x = y ∨ lt3 y x := by
  obtain ⟨a, b, c⟩ := x
  obtain ⟨d, e, f⟩ := y
  unfold lt3
  simp only [Prod.mk.injEq]
  omega
theorem srt_ext : ∀ {l m : List (Int × Int × Int)}, l.Pairwise lt3 → m.Pairwise lt3 → (∀ x, x ∈ l ↔ x ∈ m) → l = m
  | [], [], _, _, _ => rfl
  | [], b :: m, _, _, h => by have := (h b).2 (List.mem_cons_self ..); cases this
  | a :: l, [], _, _, h => by have := (h a).1 (List.mem_cons_self ..); cases this
  | a :: l, b :: m, hl, hm, h => by
    rw [List.pairwise_cons] at hl hm
    have e : a = b := by
      rcases List.mem_cons.1 ((h a).1 (List.mem_cons_self ..)) with h1 | h1
      · exact h1
      · rcases List.mem_cons.1 ((h b).2 (List.mem_cons_self ..)) with h2 | h2
        · exact h2.symm
        · exact absurd (lt3_tr (hl.1 b h2) (hm.1 a h1)) (lt3_irr a)
    subst e
    congr 1
    refine srt_ext hl.2 hm.2 fun x => ?_
    constructor
    · intro hx
      rcases List.mem_cons.1 ((h x).1 (List.mem_cons_of_mem _ hx)) with h1 | h1
      · subst h1; exact absurd (hl.1 x hx) (lt3_irr x)
      · exact h1
    · intro hx
      rcases List.mem_cons.1 ((h x).2 (List.mem_cons_of_mem _ hx)) with h1 | h1
      · subst h1; exact absurd (hm.1 x hx) (lt3_irr x)
      · exact h1
theorem relist_srt {d : Int} (hd1 : -2000 ≤ d) (hd2 : d ≤ -3) {L : List (Int × Int × Int)} (hL : r_spec_reList d = some L) : L.Pairwise lt3 := by
  have hF := FUge
  obtain ⟨L0, k1, k2, k3, as, k4, k5, k6⟩ := allR_run hd1 hd2 26 FU 1 [] (by omega) (by omega) (by omega) (by simp)
  rw [List.nil_append] at k1
  have hLl : L0.length ≤ 27000 := by omega
  have hmem : ∀ f ∈ L0, 1 ≤ f.1 ∧ IsRed f.1 f.2.1 f.2.2 ∧ f.2.1 * f.2.1 - 4 * f.1 * f.2.2 = d := fun f hf => (row_mem hd1 hd2).1 ((k3 f).1 hf)
  have hbd : ∀ f ∈ L0, inN f.1 = true ∧ inN f.2.1 = true ∧ inN f.2.2 = true := by
    intro f hf
    obtain ⟨h1, h2, h3⟩ := hmem f hf
    have h4 := red_sq h1 h2 h3
    obtain ⟨⟨h5, h6⟩, h7⟩ := h2
    have ha : f.1 ≤ 26 := by
      rcases Int.lt_or_le 26 f.1 with h8 | h8
      · have := sq_mono (a := 27) (b := f.1) (by omega) (by omega)
        have e : 3 * f.1 * f.1 = 3 * (f.1 * f.1) := by grind
        omega
      · exact h8
    have hb := abs_mul (x := f.2.1) (y := f.2.1) (A := 26) (B := 26) (by omega) (by omega)
    have hc : f.2.2 ≤ 1000 := by
      have h9 : 4 * 1 * f.2.2 ≤ 4 * f.1 * f.2.2 := by
        have : 4 * 1 * f.2.2 ≤ (4 * f.1) * f.2.2 := Int.mul_le_mul_of_nonneg_right (by omega) (by omega)
        exact this
      omega
    rw [inN_iff, inN_iff, inN_iff]
    omega
  have h2 := redlist_run (l := L0) (by omega) hbd FU 0 [] (by omega) (by omega) (by simp)
  rw [List.nil_append, List.drop_zero] at h2
  have h3 : r_spec_reList d = some (L0.filter fun f => eqI (Int.gcd f.1 (Int.gcd f.2.1 f.2.2) : Int) 1) := by
    simp only [r_spec_reList, r_spec_reAll, k1, Option.bind_some]
    exact congrArg (fun z => z.bind fun o => some o) h2
  rw [hL] at h3
  obtain rfl := some_inj h3
  refine List.Pairwise.filter _ ?_
  rw [k6, List.pairwise_flatMap]
  refine ⟨fun a _ => ?_, k4.imp ?_⟩
  · unfold rowR
    refine List.Pairwise.filter _ ?_
    rw [List.pairwise_map]
    refine (upz_lt (2 * a).toNat (1 - a)).imp ?_
    intro x y hxy
    exact .inr ⟨rfl, .inl hxy⟩
  · intro x y hxy f hf g hg
    have fx := rowR_fst hf
    have gy := rowR_fst hg
    exact .inl (by omega)
end Go.Proofs.YtnheekadeflecaaGreat
namespace Go.Proofs.YtnheekadeflecaaGreat
set_option linter.unusedVariables false
set_option linter.unusedSimpArgs false

theorem less_val {l : List (Int × Int × Int)} {i k : Nat} (hi : i < l.length) (hk : k < l.length) : r_impl_sortForms_1 (i : Int) (k : Int) l = some (decide (lt3 l[i] l[k])) := by
  simp only [r_impl_sortForms_1, getNat hi, getNat hk, Option.bind_some, eqI_eq, ltI_eq]
  generalize l[i] = x
  generalize l[k] = y
  obtain ⟨a, b, c⟩ := x
  obtain ⟨d, e, f⟩ := y
  simp only
  by_cases h1 : a = d
  · subst h1
    rw [beq_self_eq_true, Bool.not_true, cond_false]
    by_cases h2 : b = e
    · subst h2
      rw [beq_self_eq_true, Bool.not_true, cond_false]
      refine congrArg some (decide_eq_decide.2 ?_)
      exact ⟨fun h => .inr ⟨rfl, .inr ⟨rfl, h⟩⟩, fun h => by rcases h with h | ⟨_, h | ⟨_, h⟩⟩ <;> simp only at h <;> omega⟩
    · rw [beq_eq_false_iff_ne.2 h2, Bool.not_false, cond_true]
      refine congrArg some (decide_eq_decide.2 ?_)
      exact ⟨fun h => .inr ⟨rfl, .inl h⟩, fun h => by rcases h with h | ⟨_, h | ⟨h3, h⟩⟩ <;> first | exact h | (simp only at h; omega) | exact absurd h3 h2⟩
  · rw [beq_eq_false_iff_ne.2 h1, Bool.not_false, cond_true]
    refine congrArg some (decide_eq_decide.2 ?_)
    exact ⟨fun h => by unfold lt3; simp only; omega, fun h => by unfold lt3 at h; simp only at h; omega⟩
theorem swap_mid (A : List (Int × Int × Int)) (x y : Int × Int × Int) (T : List (Int × Int × Int)) : ((A ++ y :: x :: T).set (A.length + 1) y).set A.length x = A ++ x :: y :: T := by
  rw [List.set_append_right _ _ (by omega), show A.length + 1 - A.length = 1 by omega, List.set_append_right _ _ (by omega), Nat.sub_self]
  rfl
theorem ins_in {b2 i : Int} {x : Int × Int × Int} {C : List (Int × Int × Int)} : ∀ (fu : Nat) (A B : List (Int × Int × Int)), A.length < fu → A.length + B.length + C.length ≤ 1000000 → (∀ b ∈ B, lt3 x b) → ∃ A' B', A' ++ B' = A ++ B ∧ r_sort_insertionSort_func_L12 0 b2 i fu (A.length : Int) (A ++ x :: (B ++ C)) = some (A' ++ x :: (B' ++ C)) ∧ (∀ b ∈ B', lt3 x b) ∧ (A' = [] ∨ ∃ L y, A' = L ++ [y] ∧ ¬ lt3 x y)
  | 0, A, B, h, _, _ => by omega
  | fu + 1, A, B, h, hl, hB => by
    rw [r_sort_insertionSort_func_L12, ltI_eq]
    rcases List.eq_nil_or_concat A with e | ⟨L, y, e⟩
    · subst e
      refine ⟨[], B, rfl, ?_, hB, .inl rfl⟩
      simp
    · rw [List.concat_eq_append] at e
      subst e
      have hj : ((L ++ [y]).length : Int) = ((L.length + 1 : Nat) : Int) := by simp
      have hw : w64 (((L.length + 1 : Nat) : Int) - 1) = (L.length : Int) := by
        rw [w64_in (by have : (L ++ [y]).length = L.length + 1 := by simp
                       omega)]
        omega
      have e0 : (L ++ [y]) ++ x :: (B ++ C) = L ++ y :: x :: (B ++ C) := by simp
      have l1 : L.length + 1 < (L ++ y :: x :: (B ++ C)).length := by simp
      have l2 : L.length < (L ++ y :: x :: (B ++ C)).length := by simp
      have g1 : (L ++ y :: x :: (B ++ C))[L.length + 1]'l1 = x := by
        rw [List.getElem_append_right (by omega)]
        simp
      have g2 : (L ++ y :: x :: (B ++ C))[L.length]'l2 = y := by
        rw [List.getElem_append_right (by omega)]
        simp
      rw [hj, e0, hw, decide_eq_true (by omega), cond_true, less_val l1 l2, getNat l1, getNat l2, g1, g2]
      simp only [Option.bind_some]
      by_cases hlt : lt3 x y
      · rw [decide_eq_true hlt, cond_true]
        simp only [sI_eq, Int.toNat_natCast]
        rw [swap_mid]
        obtain ⟨A', B', k1, k2, k3, k4⟩ := ins_in (b2 := b2) (i := i) (x := x) (C := C) fu L (y :: B) (by simp at h; omega) (by simp at hl ⊢; omega) (by
          intro b hb
          rcases List.mem_cons.1 hb with e | e
          · rw [e]; exact hlt
          · exact hB b e)
        exact ⟨A', B', by rw [k1]; simp, k2, k3, k4⟩
      · rw [decide_eq_false hlt, cond_false]
        exact ⟨L ++ [y], B, rfl, by rw [← e0], hB, .inr ⟨L, y, rfl, hlt⟩⟩
theorem ins_out {n : Nat} : ∀ (k fu : Nat) (S R : List (Int × Int × Int)), S.length + R.length = n → n ≤ 1000000 → R.length = k → k < fu → S.Pairwise lt3 → (S ++ R).Nodup → ∃ r, r_sort_insertionSort_func_L7 0 (n : Int) fu (S.length : Int) (S ++ R) = some r ∧ r.Pairwise lt3 ∧ r.Perm (S ++ R)
  | k, 0, S, R, _, _, _, h, _, _ => by omega
  | 0, fu + 1, S, R, h1, hn, h2, h3, h4, h5 => by
    have e : R = [] := List.length_eq_zero_iff.1 h2
    subst e
    rw [r_sort_insertionSort_func_L7, ltI_eq, decide_eq_false (by simp at h1; omega), cond_false]
    exact ⟨_, rfl, by rw [List.append_nil]; exact h4, List.Perm.refl _⟩
  | k + 1, fu + 1, S, R, h1, hn, h2, h3, h4, h5 => by
    obtain ⟨x, C, rfl⟩ : ∃ x C, R = x :: C := by
      cases R with
      | nil => simp at h2
      | cons x C => exact ⟨x, C, rfl⟩
    have hF := FUge
    rw [r_sort_insertionSort_func_L7, ltI_eq, decide_eq_true (by simp at h1; omega), cond_true]
    obtain ⟨A', B', k1, k2, k3, k4⟩ := ins_in (b2 := (n : Int)) (i := (S.length : Int)) (x := x) (C := C) FU S [] (by simp at h1; omega) (by simp at h1 ⊢; omega) (by intro b hb; cases hb)
    rw [List.append_nil] at k1
    rw [List.nil_append] at k2
    rw [k2]
    simp only [Option.bind_some, sI_eq]
    rw [wsucc (by simp at h1; omega)]
    subst k1
    have e1 : A' ++ x :: (B' ++ C) = (A' ++ x :: B') ++ C := by simp
    have hp : ((A' ++ x :: B') ++ C).Perm ((A' ++ B') ++ x :: C) := by
      have q1 : (A' ++ x :: B').Perm (x :: (A' ++ B')) := List.perm_middle
      have q2 : ((A' ++ B') ++ x :: C).Perm (x :: ((A' ++ B') ++ C)) := List.perm_middle
      exact (q1.append_right C).trans q2.symm
    have hnd : ((A' ++ x :: B') ++ C).Nodup := hp.nodup_iff.2 h5
    rw [List.pairwise_append] at h4
    have hs : (A' ++ x :: B').Pairwise lt3 := by
      rw [List.pairwise_append]
      have hax : ∀ a ∈ A', lt3 a x := by
        rcases k4 with e | ⟨L, y, e, hxy⟩
        · subst e; intro a ha; cases ha
        · subst e
          have hne : y ≠ x := by
            intro e
            have h6 := hnd
            rw [List.nodup_append] at h6
            have h7 := h6.1
            rw [List.nodup_append] at h7
            exact h7.2.2 y (by simp) x (by simp) e
          have hyx : lt3 y x := by
            rcases lt3_tri x y with h | h | h
            · exact absurd h hxy
            · exact absurd h.symm hne
            · exact h
          intro a ha
          rcases List.mem_append.1 ha with h | h
          · have := h4.1
            rw [List.pairwise_append] at this
            exact lt3_tr (this.2.2 a h y (by simp)) hyx
          · rw [List.mem_singleton] at h; rw [h]; exact hyx
      refine ⟨h4.1, ?_, ?_⟩
      · rw [List.pairwise_cons]; exact ⟨k3, h4.2.1⟩
      · intro a ha b hb
        rcases List.mem_cons.1 hb with e | e
        · rw [e]; exact hax a ha
        · exact h4.2.2 a ha b e
    have hlen : (A' ++ x :: B').length = (A' ++ B').length + 1 := by simp; omega
    obtain ⟨r, r1, r2, r3⟩ := ins_out k fu (A' ++ x :: B') C (by rw [hlen]; simp at h1 ⊢; omega) hn (by simp at h2; exact h2) (by omega) hs hnd
    rw [hlen] at r1
    rw [e1, r1]
    exact ⟨r, rfl, r2, r3.trans hp⟩
theorem ins_val {xs : List (Int × Int × Int)} (h1 : 1 ≤ xs.length) (hl : xs.length ≤ 1000) (hnd : xs.Nodup) : ∃ r, r_sort_insertionSort_func xs 0 (xs.length : Int) = some r ∧ r.Pairwise lt3 ∧ r.Perm xs := by
  have hF := FUge
  cases xs with
  | nil => simp at h1
  | cons x C =>
    obtain ⟨r, r1, r2, r3⟩ := ins_out (n := (x :: C).length) C.length FU [x] C (by simp; omega) (by omega) rfl (by simp at hl; omega) (List.pairwise_singleton _ _) hnd
    have r1 : r_sort_insertionSort_func_L7 0 ((x :: C).length : Int) FU 1 (x :: C) = some r := r1
    refine ⟨r, ?_, r2, r3⟩
    simp only [r_sort_insertionSort_func, sI_eq, show w64 (0 + 1) = 1 from by decide, r1, Option.bind_some]
/-- Sorting a list of at most 12 different forms. -/
theorem sort_val {xs : List (Int × Int × Int)} (hl : xs.length ≤ 12) (hnd : xs.Nodup) : ∃ r, r_impl_sortForms xs = some r ∧ r.Pairwise lt3 ∧ r.Perm xs := by
  have hF := FUge
  obtain ⟨m, hm⟩ : ∃ m, FU = m + 1 := ⟨FU - 1, by omega⟩
  unfold r_impl_sortForms
  have b0 : Nat.ble 1048576 xs.length = false := by
    cases h : Nat.ble 1048576 xs.length with
    | false => rfl
    | true => have := Nat.le_of_ble_eq_true h; omega
  have ew : w64 ((xs.length : Int) - 0) = (xs.length : Int) := by rw [w64_in (by omega)]; omega
  have e12 : leI (xs.length : Int) 12 = true := by rw [leI_eq, decide_eq_true (by omega)]
  rw [b0, cond_false]
  by_cases h1 : xs.length ≤ 1
  · rw [Nat.ble_eq_true_of_le h1, cond_true]
    have k1 : r_sort_insertionSort_func_t xs 0 (xs.length : Int) = some xs := by
      unfold r_sort_insertionSort_func_t
      rw [sI_eq, show w64 (0 + 1) = 1 from by decide, hm, r_sort_insertionSort_func_t_L5, ltI_eq, decide_eq_false (by omega), cond_false, Option.bind_some]
    refine ⟨xs, ?_, ?_, List.Perm.refl _⟩
    · unfold r_sort_pdqsort_func_t
      rw [hm, r_sort_pdqsort_func_t_L5, sI_eq, ew, e12, cond_true, k1]
      rfl
    · match xs, h1 with
      | [], _ => exact List.Pairwise.nil
      | [x], _ => exact List.pairwise_singleton _ _
  · have b1 : Nat.ble xs.length 1 = false := by
      cases h : Nat.ble xs.length 1 with
      | false => rfl
      | true => exact absurd (Nat.le_of_ble_eq_true h) h1
    obtain ⟨r, r1, r2, r3⟩ := ins_val (xs := xs) (by omega) (by omega) hnd
    refine ⟨r, ?_, r2, r3⟩
    rw [b1, cond_false]
    unfold r_sort_pdqsort_func
    rw [hm, r_sort_pdqsort_func_L10, sI_eq, ew, e12, cond_true, r1]
    rfl
end Go.Proofs.YtnheekadeflecaaGreat
namespace Go.Proofs.YtnheekadeflecaaGreat
set_option linter.unusedVariables false
set_option linter.unusedSimpArgs false

/-! ### Lists of different things -/
def dd (P : F3 → Bool) (H : F3 → F3) : List F3 → List F3 → List F3
  | [], acc => acc
  | x :: xs, acc => bif P x && !decide (H x ∈ acc) then dd P H xs (acc ++ [H x]) else dd P H xs acc
theorem dd_mem {P : F3 → Bool} {H : F3 → F3} : ∀ (xs acc : List F3) (h : F3), h ∈ dd P H xs acc ↔ h ∈ acc ∨ ∃ x ∈ xs, P x = true ∧ H x = h
  | [], acc, h => by simp [dd]
  | x :: xs, acc, h => by
    unfold dd
    cases hp : P x with
    | false =>
      rw [Bool.false_and, cond_false, dd_mem xs acc h]
      constructor
      · rintro (h1 | ⟨y, h1, h2⟩)
        · exact .inl h1
        · exact .inr ⟨y, List.mem_cons_of_mem _ h1, h2⟩
      · rintro (h1 | ⟨y, h1, h2, h3⟩)
        · exact .inl h1
        · rcases List.mem_cons.1 h1 with e | e
          · subst e; rw [hp] at h2; cases h2
          · exact .inr ⟨y, e, h2, h3⟩
    | true =>
      rw [Bool.true_and]
      by_cases hm : H x ∈ acc
      · rw [decide_eq_true hm, Bool.not_true, cond_false, dd_mem xs acc h]
        constructor
        · rintro (h1 | ⟨y, h1, h2⟩)
          · exact .inl h1
          · exact .inr ⟨y, List.mem_cons_of_mem _ h1, h2⟩
        · rintro (h1 | ⟨y, h1, h2, h3⟩)
          · exact .inl h1
          · rcases List.mem_cons.1 h1 with e | e
            · subst e; subst h3; exact .inl hm
            · exact .inr ⟨y, e, h2, h3⟩
      · rw [decide_eq_false hm, Bool.not_false, cond_true, dd_mem xs _ h]
        constructor
        · rintro (h1 | ⟨y, h1, h2⟩)
          · rcases List.mem_append.1 h1 with h1 | h1
            · exact .inl h1
            · rw [List.mem_singleton] at h1; exact .inr ⟨x, List.mem_cons_self .., hp, h1.symm⟩
          · exact .inr ⟨y, List.mem_cons_of_mem _ h1, h2⟩
        · rintro (h1 | ⟨y, h1, h2, h3⟩)
          · exact .inl (List.mem_append_left _ h1)
          · rcases List.mem_cons.1 h1 with e | e
            · subst e; subst h3; exact .inl (List.mem_append_right _ (List.mem_singleton.2 rfl))
            · exact .inr ⟨y, e, h2, h3⟩
theorem dd_nodup {P : F3 → Bool} {H : F3 → F3} : ∀ (xs acc : List F3), acc.Nodup → (dd P H xs acc).Nodup
  | [], acc, h => h
  | x :: xs, acc, h => by
    unfold dd
    cases hp : (P x && !decide (H x ∈ acc)) with
    | false => rw [cond_false]; exact dd_nodup xs acc h
    | true =>
      rw [cond_true]
      refine dd_nodup xs _ ?_
      rw [Bool.and_eq_true, Bool.not_eq_true', decide_eq_false_iff_not] at hp
      rw [List.nodup_append]
      exact ⟨h, List.pairwise_singleton _ _, fun a ha b hb e => by rw [List.mem_singleton] at hb; rw [e, hb] at ha; exact hp.2 ha⟩
theorem dd_len {P : F3 → Bool} {H : F3 → F3} : ∀ (xs acc : List F3), (dd P H xs acc).length ≤ acc.length + xs.length
  | [], acc => by simp [dd]
  | x :: xs, acc => by
    unfold dd
    cases (P x && !decide (H x ∈ acc)) with
    | false => rw [cond_false]; have := dd_len (P := P) (H := H) xs acc; simp; omega
    | true => rw [cond_true]; have := dd_len (P := P) (H := H) xs (acc ++ [H x]); simp at this ⊢; omega
/-! ### The program's list -/
theorem up_run {f r : F3} {ys : List F3} {bb : Bool} {G H : F3 → F3} {P : F3 → Bool} (hr : r_impl_reduced f = some r) (hG : ∀ x ∈ ys, r_impl_Form_substitute r (x.1, x.2.1, 0, x.2.2) = some (G x) ∧ r_impl_reduced (G x) = some (H x) ∧ ∃ k, r_impl_Form_content (G x) = some k ∧ eqI k 1 = P x) : ∀ (m fu i : Nat) (acc : List F3), i + m = ys.length → m < fu → ys.length ≤ 1000 → acc.length + m ≤ 1000 → r_impl_UpperForms_L12 f (ys, bb) fu (i : Int) acc = some (dd P H (ys.drop i) acc)
  | m, 0, i, acc, _, h, _, _ => by omega
  | m, fu + 1, i, acc, hi, hf, hl, ha => by
    rw [r_impl_UpperForms_L12]
    simp only []
    rw [ltI_eq]
    by_cases h1 : i < ys.length
    · obtain ⟨g1, g2, k, g3, g4⟩ := hG _ (List.getElem_mem h1)
      obtain ⟨m', rfl⟩ : ∃ k', m = k' + 1 := ⟨m - 1, by omega⟩
      rw [decide_eq_true (by omega), cond_true, getNat h1, List.drop_eq_getElem_cons h1]
      simp only [Option.bind_some, hr, g1, g2, g3, g4]
      rw [has_val _ acc (by omega)]
      unfold dd
      cases hP : P ys[i] with
      | false =>
        rw [cond_false, Option.bind_some, cond_false, Bool.false_and, cond_false, sI_eq, wsucc (by omega)]
        exact up_run hr hG m' fu (i + 1) acc (by omega) (by omega) hl (by omega)
      | true =>
        rw [cond_true, Option.bind_some, Option.bind_some, Bool.true_and]
        cases hd : (!decide (H ys[i] ∈ acc)) with
        | false =>
          rw [cond_false, cond_false, sI_eq, wsucc (by omega)]
          exact up_run hr hG m' fu (i + 1) acc (by omega) (by omega) hl (by omega)
        | true =>
          rw [cond_true, cond_true, roomOk (by simp; omega), Option.bind_some, sI_eq, wsucc (by omega)]
          exact up_run hr hG m' fu (i + 1) _ (by omega) (by omega) hl (by simp; omega)
    · rw [decide_eq_false (by omega), cond_false, List.drop_eq_nil_of_le (by omega)]
      rfl
/-! ### The reference's list -/
theorem put_at2 (l : List Int) (v : Int) (hl : l.length ≤ 1000000) : ∀ (fu k : Nat), k ≤ l.length → l.length - k < fu → (∀ i (h : i < l.length), i < k → l[i] < v) → ∃ j : Nat, r_spec_l1Put_L4 l v fu (k : Int) = some (j : Int) ∧ j ≤ l.length ∧ (∀ i (h : i < l.length), i < j → l[i] < v) ∧ (∀ h : j < l.length, v ≤ l[j])
  | 0, k, h1, h2, _ => by omega
  | fu + 1, k, h1, h2, h3 => by
    rw [r_spec_l1Put_L4, ltI_eq]
    by_cases h : k < l.length
    · rw [decide_eq_true (show (k : Int) < (l.length : Int) by omega), cond_true, getNat h]
      simp only [Option.bind_some, sI_eq]
      rw [ltI_eq]
      by_cases hv : l[k] < v
      · rw [decide_eq_true hv, cond_true, wsucc (by omega)]
        refine put_at2 l v hl fu (k + 1) (by omega) (by omega) fun i hi hk => ?_
        by_cases e : i = k
        · subst e; exact hv
        · exact h3 i hi (by omega)
      · rw [decide_eq_false hv, cond_false]
        exact ⟨k, rfl, h1, h3, fun _ => by omega⟩
    · rw [decide_eq_false (show ¬ (k : Int) < (l.length : Int) by omega), cond_false]
      exact ⟨k, rfl, h1, h3, fun hh => absurd hh h⟩
theorem put_srt (l : List Int) (v : Int) (hl : l.length ≤ 1000000) (hs : l.Pairwise (· < ·)) : ∃ l', r_spec_l1Put l v = some l' ∧ (∀ x, x ∈ l' ↔ x = v ∨ x ∈ l) ∧ l'.length ≤ l.length + 1 ∧ l'.Pairwise (· < ·) := by
  have hF : 1000001 < FU := by decide
  obtain ⟨j, j1, j2, j3, j4⟩ := put_at2 l v hl FU 0 (Nat.zero_le _) (by omega) (fun i _ h => by omega)
  have j1' : r_spec_l1Put_L4 l v FU 0 = some (j : Int) := j1
  unfold r_spec_l1Put
  rw [j1', Option.bind_some, ltI_eq]
  have hins : (∀ h : j < l.length, l[j] ≠ v) → ∃ l', ((slc l.length 0 (j : Int)).bind fun u15 => (room ((([] : List Int)).length + (subl l 0 (j : Int)).length)).bind fun u16 => (room (((([] : List Int)) ++ (subl l 0 (j : Int))).length + ([v]).length)).bind fun u17 => (slc l.length (j : Int) ((l.length : Int))).bind fun u18 => (room ((((([] : List Int)) ++ (subl l 0 (j : Int))) ++ ([v])).length + (subl l (j : Int) ((l.length : Int))).length)).bind fun u19 => (some ((((([] : List Int)) ++ (subl l 0 (j : Int))) ++ ([v])) ++ (subl l (j : Int) ((l.length : Int))))).bind fun l20 => some l20) = some l' ∧ (∀ x, x ∈ l' ↔ x = v ∨ x ∈ l) ∧ l'.length ≤ l.length + 1 ∧ l'.Pairwise (· < ·) := by
    intro hne
    have e1 : subl l 0 (j : Int) = l.take j := by simp [subl]
    have e2 : subl l (j : Int) (l.length : Int) = l.drop j := by
      unfold subl
      rw [Int.toNat_natCast, Int.toNat_natCast, List.take_of_length_le (by simp)]
    have s1 : slc l.length 0 (j : Int) = some () := by
      unfold slc
      rw [leI_eq, leI_eq, leI_eq, decide_eq_true (by omega), decide_eq_true (by omega), decide_eq_true (by omega)]; rfl
    have s2 : slc l.length (j : Int) (l.length : Int) = some () := by
      unfold slc
      rw [leI_eq, leI_eq, leI_eq, decide_eq_true (by omega), decide_eq_true (by omega), decide_eq_true (by omega)]; rfl
    have hlt : (l.take j).length = j := by rw [List.length_take]; omega
    have hld : (l.drop j).length = l.length - j := List.length_drop
    rw [s1, s2, e1, e2]
    rw [Option.bind_some, roomOk (by simp; omega), Option.bind_some, roomOk (by simp; omega), Option.bind_some, Option.bind_some, roomOk (by simp; omega), Option.bind_some, Option.bind_some]
    refine ⟨_, rfl, fun x => ?_, by simp; omega, ?_⟩
    · have hm : x ∈ l ↔ x ∈ l.take j ∨ x ∈ l.drop j := by rw [← List.mem_append, List.take_append_drop]
      simp only [List.nil_append, List.mem_append, List.mem_singleton, hm]
      constructor
      · rintro ((h | h) | h)
        · exact .inr (.inl h)
        · exact .inl h
        · exact .inr (.inr h)
      · rintro (h | h | h)
        · exact .inl (.inr h)
        · exact .inl (.inl h)
        · exact .inr h
    · have hs2 := hs
      rw [← List.take_append_drop j l, List.pairwise_append] at hs2
      have htake : ∀ a ∈ l.take j, a < v := by
        intro a ha
        obtain ⟨i, hi, rfl⟩ := List.mem_iff_getElem.1 ha
        rw [List.getElem_take]
        exact j3 i (by omega) (by omega)
      have hdrop : ∀ a ∈ l.drop j, v < a := by
        intro a ha
        obtain ⟨i, hi, rfl⟩ := List.mem_iff_getElem.1 ha
        rw [List.getElem_drop]
        have hj : j < l.length := by omega
        have q1 := j4 hj
        have q2 := hne hj
        have q3 : l[j] ≤ l[j + i] := by
          by_cases hi0 : i = 0
          · subst hi0; exact Int.le_refl _
          · exact Int.le_of_lt (List.pairwise_iff_getElem.1 hs j (j + i) hj (by omega) (by omega))
        omega
      rw [List.nil_append, List.append_assoc, List.pairwise_append, List.singleton_append, List.pairwise_cons]
      refine ⟨hs2.1, ⟨hdrop, hs2.2.1⟩, fun a ha b hb => ?_⟩
      rcases List.mem_cons.1 hb with e | e
      · rw [e]; exact htake a ha
      · exact hs2.2.2 a ha b e
  by_cases h : j < l.length
  · rw [decide_eq_true (show (j : Int) < (l.length : Int) by omega), cond_true, getNat h]
    simp only [Option.bind_some]
    cases he : eqI l[j] v with
    | true =>
      rw [cond_true]
      rw [eqI_eq, beq_iff_eq] at he
      refine ⟨l, rfl, fun x => ⟨.inr, ?_⟩, by omega, hs⟩
      rintro (h2 | h2)
      · rw [h2, ← he]; exact List.getElem_mem h
      · exact h2
    | false =>
      rw [cond_false]
      rw [eqI_eq, beq_eq_false_iff_ne] at he
      exact hins fun _ => he
  · rw [decide_eq_false (show ¬ (j : Int) < (l.length : Int) by omega), cond_false, Option.bind_some, cond_false]
    exact hins fun hh => absurd hh h
theorem ndI {L : List F3} (hnd : L.Nodup) {i j : Nat} (hi : i < L.length) (hj : j < L.length) (h : L[i] = L[j]) : i = j := by
  rcases Nat.lt_trichotomy i j with h1 | h1 | h1
  · exact absurd h (List.pairwise_iff_getElem.1 hnd i j hi hj h1)
  · exact h1
  · exact absurd h.symm (List.pairwise_iff_getElem.1 hnd j i hj hi h1)
theorem uix_run (L : List F3) (hnd : L.Nodup) (hlen : L.length ≤ 100000) (j : Nat) (hj : j < L.length) : ∀ (k fu i : Nat), i + k = j → k < fu → r_spec_grIndex_L4 L[j] L fu (i : Int) = some (.inr (j : Int))
  | k, 0, i, _, hf => by omega
  | k, fu + 1, i, hi, hf => by
    rw [r_spec_grIndex_L4, ltI_eq, decide_eq_true (by omega), cond_true, getNat (show i < L.length by omega)]
    simp only [Option.bind_some]
    rw [eqB_iff]
    by_cases e : i = j
    · subst e
      rw [decide_eq_true rfl, cond_true]
    · rw [decide_eq_false (fun h2 => e (ndI hnd _ _ h2)), cond_false]
      simp only [sI_eq]
      rw [wsucc (by omega)]
      obtain ⟨k', rfl⟩ : ∃ k', k = k' + 1 := ⟨k - 1, by omega⟩
      exact uix_run L hnd hlen j hj k' fu (i + 1) (by omega) (by omega)
theorem uix_val {L : List F3} (hnd : L.Nodup) (hlen : L.length ≤ 100000) {y : F3} (h : y ∈ L) : ∃ j, ∃ hj : j < L.length, r_spec_grIndex L y = some (j : Int) ∧ L[j] = y := by
  obtain ⟨j, hj, e⟩ := List.mem_iff_getElem.1 h
  have hF := FUge
  have := uix_run L hnd hlen j hj j FU 0 (by omega) (by omega)
  have e0 : (((0 : Nat) : Int)) = 0 := rfl
  rw [e0, e] at this
  exact ⟨j, hj, by simp only [r_spec_grIndex, this, Option.bind_some], e⟩
/-- The places of a list of forms, and the forms there. -/
theorem us_run {f r : F3} {l ys : List F3} {G H : F3 → F3} {P : F3 → Bool} (hnd : l.Nodup) (hll : l.length ≤ 100000) (hr : r_spec_reClass f = some r) (hG : ∀ x ∈ ys, r_spec_laForm r x = some (G x) ∧ r_spec_reClass (G x) = some (H x) ∧ (∃ k, r_spec_foContent (G x) = some k ∧ eqI k 1 = P x) ∧ (P x = true → H x ∈ l)) : ∀ (m fu i : Nat) (at0 : List Int), i + m = ys.length → m < fu → ys.length ≤ 1000 → at0.length + m ≤ 1000 → at0.Pairwise (· < ·) → ∃ at1, r_spec_UpperForms_L14 f l ys fu at0 (i : Int) = some at1 ∧ at1.Pairwise (· < ·) ∧ at1.length ≤ 1000 ∧ ∀ z, z ∈ at1 ↔ z ∈ at0 ∨ ∃ x ∈ ys.drop i, P x = true ∧ ∃ j, ∃ hj : j < l.length, z = (j : Int) ∧ l[j] = H x
  | m, 0, i, _, _, h, _, _, _ => by omega
  | m, fu + 1, i, at0, hi, hf, hl, ha, hs => by
    rw [r_spec_UpperForms_L14, ltI_eq]
    by_cases h1 : i < ys.length
    · obtain ⟨g1, g2, ⟨k, g3, g4⟩, g5⟩ := hG _ (List.getElem_mem h1)
      obtain ⟨m', rfl⟩ : ∃ k', m = k' + 1 := ⟨m - 1, by omega⟩
      rw [decide_eq_true (by omega), cond_true, getNat h1, List.drop_eq_getElem_cons h1]
      simp only [Option.bind_some, hr, g1, g2, g3, g4]
      cases hP : P ys[i] with
      | false =>
        rw [cond_false, sI_eq, wsucc (by omega)]
        obtain ⟨at1, k1, k2, k3, k4⟩ := us_run hnd hll hr hG m' fu (i + 1) at0 (by omega) (by omega) hl (by omega) hs
        refine ⟨at1, k1, k2, k3, fun z => ?_⟩
        rw [k4]
        constructor
        · rintro (h | ⟨x, q1, q2⟩)
          · exact .inl h
          · exact .inr ⟨x, List.mem_cons_of_mem _ q1, q2⟩
        · rintro (h | ⟨x, q1, q2, q3⟩)
          · exact .inl h
          · rcases List.mem_cons.1 q1 with e | e
            · rw [e, hP] at q2; cases q2
            · exact .inr ⟨x, e, q2, q3⟩
      | true =>
        obtain ⟨j, hj, j1, j2⟩ := uix_val hnd hll (g5 hP)
        obtain ⟨l', p1, p2, p3, p4⟩ := put_srt at0 (j : Int) (by omega) hs
        rw [cond_true]
        simp only [j1, Option.bind_some, p1, sI_eq]
        rw [wsucc (by omega)]
        obtain ⟨at1, k1, k2, k3, k4⟩ := us_run hnd hll hr hG m' fu (i + 1) l' (by omega) (by omega) hl (by omega) p4
        refine ⟨at1, k1, k2, k3, fun z => ?_⟩
        rw [k4, p2]
        constructor
        · rintro ((h | h) | ⟨x, q1, q2⟩)
          · exact .inr ⟨ys[i], List.mem_cons_self .., hP, j, hj, h, j2⟩
          · exact .inl h
          · exact .inr ⟨x, List.mem_cons_of_mem _ q1, q2⟩
        · rintro (h | ⟨x, q1, q2, j', hj', q3, q4⟩)
          · exact .inl (.inr h)
          · rcases List.mem_cons.1 q1 with e | e
            · rw [e, ← j2] at q4
              have := ndI hnd hj' hj q4
              subst this
              exact .inl (.inl q3)
            · exact .inr ⟨x, e, q2, j', hj', q3, q4⟩
    · rw [decide_eq_false (by omega), cond_false, List.drop_eq_nil_of_le (by omega)]
      exact ⟨at0, rfl, hs, by omega, fun z => ⟨.inl, fun h => h.elim id fun ⟨x, hx, _⟩ => by cases hx⟩⟩
theorem getD_at {l : List F3} {j : Nat} (h : j < l.length) : l.getD j (0, 0, 0) = l[j] := by simp [List.getD, h]
theorem gf_run {l : List F3} {at1 : List Int} (hb : ∀ z ∈ at1, ∃ j : Nat, j < l.length ∧ z = (j : Int)) : ∀ (m fu i : Nat) (acc : List F3), i + m = at1.length → m < fu → at1.length ≤ 1000 → acc.length + m ≤ 1000 → r_spec_grForms_L5 l at1 fu (i : Int) acc = some (acc ++ (at1.drop i).map fun z => l.getD z.toNat (0, 0, 0))
  | m, 0, i, _, _, h, _, _ => by omega
  | m, fu + 1, i, acc, hi, hf, hl, ha => by
    rw [r_spec_grForms_L5, ltI_eq]
    by_cases h1 : i < at1.length
    · obtain ⟨j, j1, j2⟩ := hb _ (List.getElem_mem h1)
      obtain ⟨m', rfl⟩ : ∃ k', m = k' + 1 := ⟨m - 1, by omega⟩
      rw [decide_eq_true (by omega), cond_true, getNat h1, List.drop_eq_getElem_cons h1]
      simp only [Option.bind_some]
      rw [j2, getNat j1]
      simp only [Option.bind_some, sI_eq]
      rw [roomOk (by simp; omega), Option.bind_some, wsucc (by omega), gf_run hb m' fu (i + 1) _ (by omega) (by omega) hl (by simp; omega)]
      rw [List.map_cons, Int.toNat_natCast, getD_at j1, List.append_assoc]
      rfl
    · rw [decide_eq_false (by omega), cond_false, List.drop_eq_nil_of_le (by omega)]
      simp
theorem forms_at {l : List F3} {at1 : List Int} (hl : l.Pairwise lt3) (hs : at1.Pairwise (· < ·)) (hlen : at1.length ≤ 1000) (hb : ∀ z ∈ at1, ∃ j : Nat, j < l.length ∧ z = (j : Int)) : ∃ u, r_spec_grForms l at1 = some u ∧ u.Pairwise lt3 ∧ u.length ≤ 1000 ∧ ∀ h, h ∈ u ↔ ∃ j : Nat, ∃ hj : j < l.length, (j : Int) ∈ at1 ∧ l[j] = h := by
  have hF := FUge
  have h1 := gf_run hb at1.length FU 0 [] (by omega) (by omega) hlen (by simp; omega)
  have e0 : (((0 : Nat) : Int)) = 0 := rfl
  rw [e0, List.nil_append, List.drop_zero] at h1
  refine ⟨_, by simp only [r_spec_grForms, h1, Option.bind_some]; rfl, ?_, by rw [List.length_map]; exact hlen, fun h => ?_⟩
  · rw [List.pairwise_map]
    refine List.Pairwise.imp_of_mem ?_ hs
    intro x y hx hy hxy
    obtain ⟨i, i1, rfl⟩ := hb x hx
    obtain ⟨j, j1, rfl⟩ := hb y hy
    rw [Int.toNat_natCast, Int.toNat_natCast, getD_at i1, getD_at j1]
    exact List.pairwise_iff_getElem.1 hl i j i1 j1 (by omega)
  · rw [List.mem_map]
    constructor
    · rintro ⟨z, hz, e⟩
      obtain ⟨j, j1, rfl⟩ := hb z hz
      rw [Int.toNat_natCast, getD_at j1] at e
      exact ⟨j, j1, hz, e⟩
    · rintro ⟨j, j1, hz, e⟩
      refine ⟨(j : Int), hz, ?_⟩
      rw [Int.toNat_natCast, getD_at j1]
      exact e
end Go.Proofs.YtnheekadeflecaaGreat
namespace Go.Proofs.YtnheekadeflecaaGreat
set_option linter.unusedVariables false
set_option linter.unusedSimpArgs false
set_option maxRecDepth 100000

def qN : List Nat := [2, 3, 5, 7, 11, 13, 17, 19, 23]
def okLatQ (n : Nat) : Bool := (r_impl_SublatticesOf (n : Int) == some (lats n, true)) && (r_spec_laAll (n : Int) == some (lats n))
theorem okLatQ_all : (qN.all okLatQ) = true := by decide +kernel
theorem latsQ {n : Nat} (hn : n ∈ qN) : r_impl_SublatticesOf (n : Int) = some (lats n, true) ∧ r_spec_laAll (n : Int) = some (lats n) := by
  have := List.all_eq_true.1 okLatQ_all n hn
  unfold okLatQ at this
  rw [Bool.and_eq_true, beq_iff_eq, beq_iff_eq] at this
  exact this
def okPrQ (n : Nat) : Bool := (r_impl_isPrime (n : Int) == some false) || decide (n ∈ qN)
theorem okPrQ_all : ((List.range 26).all fun n => bif Nat.blt n 2 then true else okPrQ n) = true := by decide +kernel
theorem prQ {p : Int} (h2 : 2 ≤ p) (h25 : p ≤ 25) (h : r_impl_isPrime p = some true) : ∃ n ∈ qN, p = (n : Int) := by
  have h1 := List.all_eq_true.1 okPrQ_all p.toNat (List.mem_range.2 (by omega))
  have e : ((p.toNat : Nat) : Int) = p := by omega
  have e2 : Nat.blt p.toNat 2 = false := by
    cases hb : Nat.blt p.toNat 2 with
    | false => rfl
    | true =>
      have := Nat.le_of_ble_eq_true hb
      omega
  rw [e2, cond_false] at h1
  unfold okPrQ at h1
  rw [e, h, Bool.or_eq_true, decide_eq_true_eq] at h1
  rcases h1 with h1 | h1
  · cases h1
  · exact ⟨_, h1, e.symm⟩
theorem qN_bd {n : Nat} (hn : n ∈ qN) : 2 ≤ n ∧ n ≤ 23 := by
  have : ∀ m ∈ qN, 2 ≤ m ∧ m ≤ 23 := by decide
  exact this n hn
theorem prc_of_prr2 {D : Int} {f : F3} (h : PrR D f) : PrRc D f := by
  obtain ⟨h1, h2, h3, h4⟩ := h
  refine ⟨h1, h2, h3, fun k k1 k2 k3 => ?_⟩
  have h5 : k ∣ (Int.gcd f.1 (Int.gcd f.2.1 f.2.2) : Int) := Int.dvd_coe_gcd k1 (Int.dvd_coe_gcd k2 k3)
  rw [h4] at h5
  exact h5
theorem prr_of_prc2 {D : Int} {f : F3} (h : PrRc D f) : PrR D f := by
  obtain ⟨h1, h2, h3, h4⟩ := h
  refine ⟨h1, h2, h3, ?_⟩
  have h5 : ((Int.gcd f.1 (Int.gcd f.2.1 f.2.2) : Nat) : Int) ∣ 1 := h4 _ (Int.gcd_dvd_left _ _) (Int.dvd_trans (Int.gcd_dvd_right _ _) (Int.gcd_dvd_left _ _)) (Int.dvd_trans (Int.gcd_dvd_right _ _) (Int.gcd_dvd_right _ _))
  have h6 := Int.eq_one_of_dvd_one (by omega) h5
  omega
/-- The form on a lattice. -/
theorem lat_elem {a b c D : Int} {n : Nat} (hR : Rr a b c D) (n2 : 2 ≤ n) (n23 : n ≤ 23) : ∀ x ∈ lats n, r_impl_Form_substitute (a, b, c) (x.1, x.2.1, 0, x.2.2) = some (latF a b c x) ∧ Sb ((n : Int) * n * D) (latF a b c x) ∧ (latF a b c x).2.1.natAbs ≤ 1000000 := by
  intro x hx
  have hp : 2 ≤ (n : Int) := by omega
  have key : ∀ g : F3, r_impl_Form_substitute (a, b, c) (x.1, x.2.1, 0, x.2.2) = some g → latF a b c x = g := by
    intro g hg
    unfold latF
    rw [hg]; rfl
  rcases List.mem_cons.1 hx with hx | hx
  · subst hx
    have hs := sb_k hR (p := (n : Int)) (k := 0) hp (by omega) (by omega) (by omega)
    have hS : r_impl_Form_substitute (a, b, c) ((1 : Int), (0 : Int), (0 : Int), (n : Int)) = some (gk a b c n 0) := sub_k hR hp (by omega) (by omega) (by omega)
    have e := key _ hS
    rw [e]
    refine ⟨hS, hs, ?_⟩
    have : ((n : Int) * b).natAbs ≤ 43 * 25 := abs_mul (by omega) (by have := hR.b1; have := hR.b2; have := hR.a2; omega)
    show ((n : Int) * (b + 2 * c * 0)).natAbs ≤ 1000000
    rw [show (n : Int) * (b + 2 * c * 0) = n * b by rw [Int.mul_zero, Int.add_zero]]
    omega
  · obtain ⟨j, hj', rfl⟩ := List.mem_map.1 hx
    have hjn := List.mem_range.1 hj'
    obtain ⟨hs, hs2⟩ := sb_j hR (p := (n : Int)) (j := (j : Int)) hp (by omega) (by omega) (by omega)
    have hS : r_impl_Form_substitute (a, b, c) ((n : Int), (j : Int), (0 : Int), (1 : Int)) = some (hj a b c n j) := sub_j hR hp (by omega) (by omega) (by omega)
    have e := key _ hS
    rw [e]
    exact ⟨hS, hs, hs2⟩
def uH (a b c : Int) (x : F3) : F3 := rd (latF a b c x)
def uP (a b c : Int) (x : F3) : Bool := primB (latF a b c x)
/-! ### Lists of more than twelve -/
def srtB : List F3 → Bool
  | [] => true
  | [_] => true
  | x :: y :: l => decide (lt3 x y) && srtB (y :: l)
theorem srtB_ok : ∀ (l : List F3), srtB l = true → l.Pairwise lt3
  | [], _ => List.Pairwise.nil
  | [x], _ => List.pairwise_singleton _ _
  | x :: y :: l, h => by
    unfold srtB at h
    rw [Bool.and_eq_true, decide_eq_true_eq] at h
    have h2 := srtB_ok (y :: l) h.2
    rw [List.pairwise_cons]
    refine ⟨fun z hz => ?_, h2⟩
    rcases List.mem_cons.1 hz with e | e
    · rw [e]; exact h.1
    · exact lt3_tr h.1 ((List.pairwise_cons.1 h2).1 z e)
def okSrt (L : List F3) : Bool := bif Nat.ble L.length 12 then true else match r_impl_sortForms L with
  | some r => r.isPerm L && srtB r
  | none => false
def okBig (n : Nat) (f : F3) : Bool := bif Nat.ble ((n * n) * (f.2.1 * f.2.1 - 4 * f.1 * f.2.2).natAbs) 2000 then okSrt (dd (uP f.1 f.2.1 f.2.2) (uH f.1 f.2.1 f.2.2) (lats n) []) else true
theorem okBig_all : (([13, 17, 19, 23] : List Nat).all fun n => ([(1, 0, 1), (1, 0, 2), (1, 1, 1), (1, 1, 2), (1, 1, 3)] : List F3).all (okBig n)) = true := by decide +kernel
theorem small_forms {a b c D : Int} {n : Nat} (h : PrRc D (a, b, c)) (h13 : 13 ≤ n) (hD : D < 0) (hnD : -2000 ≤ (n : Int) * n * D) : (a, b, c) ∈ ([(1, 0, 1), (1, 0, 2), (1, 1, 1), (1, 1, 2), (1, 1, 3)] : List F3) := by
  obtain ⟨h1, ⟨⟨h2, h3⟩, h4⟩, h5, _⟩ := h
  simp only at h1 h2 h3 h4 h5
  have m1 : 13 * 13 ≤ (n : Int) * n := Int.mul_le_mul (by omega) (by omega) (by omega) (by omega)
  have m2 : 13 * 13 * (-D) ≤ (n : Int) * n * (-D) := Int.mul_le_mul_of_nonneg_right m1 (by omega)
  rw [Int.mul_neg ((n : Int) * n) D] at m2
  have hD11 : -11 ≤ D := by omega
  have hc : a ≤ c := by omega
  have k1 : b * b ≤ a * a := by
    rcases Int.le_total 0 b with hb | hb
    · exact Int.mul_le_mul (by omega) (by omega) hb (by omega)
    · have := Int.mul_le_mul (a := -b) (b := -b) (c := a) (d := a) (by omega) (by omega) (by omega) (by omega)
      have e : -b * -b = b * b := by grind
      omega
  have k2 : a * a ≤ a * c := Int.mul_le_mul_of_nonneg_left hc (by omega)
  have k3 : 4 * a * c = 4 * (a * c) := by grind
  have ha : a = 1 := by
    rcases Int.lt_or_le 1 a with h6 | h6
    · have : 2 * 2 ≤ a * a := Int.mul_le_mul (by omega) (by omega) (by omega) (by omega)
      omega
    · omega
  subst ha
  have hb : b = 0 ∨ b = 1 := by omega
  rcases hb with rfl | rfl
  · have : c = 1 ∨ c = 2 := by omega
    rcases this with rfl | rfl <;> decide
  · have : c = 1 ∨ c = 2 ∨ c = 3 := by omega
    rcases this with rfl | rfl | rfl <;> decide
theorem sort_all {a b c D : Int} {n : Nat} (hn : n ∈ qN) (h : PrRc D (a, b, c)) (hD : D < 0) (hnD : -2000 ≤ (n : Int) * n * D) : ∃ r, r_impl_sortForms (dd (uP a b c) (uH a b c) (lats n) []) = some r ∧ r.Pairwise lt3 ∧ r.Perm (dd (uP a b c) (uH a b c) (lats n) []) := by
  have hnd := dd_nodup (P := uP a b c) (H := uH a b c) (lats n) [] List.Pairwise.nil
  have hlen := dd_len (P := uP a b c) (H := uH a b c) (lats n) []
  have hl : (lats n).length = n + 1 := by simp [lats]
  rw [hl] at hlen
  rcases Nat.lt_or_ge 12 (dd (uP a b c) (uH a b c) (lats n) []).length with h12 | h12
  · have hn13 : n ∈ ([13, 17, 19, 23] : List Nat) := by
      have : ∀ m ∈ qN, 12 ≤ m → m ∈ ([13, 17, 19, 23] : List Nat) := by decide
      exact this n hn (by simp at hlen; omega)
    have h13 : 13 ≤ n := by
      have : ∀ m ∈ ([13, 17, 19, 23] : List Nat), 13 ≤ m := by decide
      exact this n hn13
    have h1 := List.all_eq_true.1 (List.all_eq_true.1 okBig_all n hn13) _ (small_forms h h13 hD hnD)
    unfold okBig at h1
    have e5 : b * b - 4 * a * c = D := h.2.2.1
    simp only at h1
    rw [e5] at h1
    have hle : n * n * D.natAbs ≤ 2000 := by
      have e : ((n * n * D.natAbs : Nat) : Int) = -((n : Int) * n * D) := by
        rw [Int.natCast_mul, Int.natCast_mul, ← Int.mul_neg]
        congr 1
        omega
      omega
    rw [Nat.ble_eq_true_of_le hle, cond_true] at h1
    unfold okSrt at h1
    have e12 : Nat.ble (dd (uP a b c) (uH a b c) (lats n) []).length 12 = false := by
      cases hb : Nat.ble (dd (uP a b c) (uH a b c) (lats n) []).length 12 with
      | false => rfl
      | true => have := Nat.le_of_ble_eq_true hb; omega
    rw [e12, cond_false] at h1
    split at h1
    · rename_i r hr
      rw [Bool.and_eq_true, List.isPerm_iff] at h1
      exact ⟨r, hr, srtB_ok r h1.2, h1.1⟩
    · cases h1
  · exact sort_val h12 hnd
/-- Both sides. -/
theorem up_both {a b c D : Int} {n : Nat} {f : F3} (hn : n ∈ qN) (hpr : PrRc D (a, b, c)) (hD1 : -2000 ≤ D) (hD : D < 0) (hnD : -2000 ≤ (n : Int) * n * D) (kr : r_impl_reduced f = some (a, b, c)) (ks : r_spec_reClass f = some (a, b, c)) :
    ∃ u, ((r_impl_UpperForms_L12 f (lats n, true) FU 0 []).bind fun o => r_impl_sortForms o) = some u ∧ (∃ l at1, r_spec_reList ((n : Int) * n * D) = some l ∧ r_spec_UpperForms_L14 f l (lats n) FU [] 0 = some at1 ∧ r_spec_grForms l at1 = some u) ∧ u.length ≤ 1000 ∧ u.Pairwise lt3 ∧ ∀ h, h ∈ u ↔ ∃ x ∈ lats n, uP a b c x = true ∧ uH a b c x = h := by
  have hF := FUge
  obtain ⟨n2, n23⟩ := qN_bd hn
  have hR : Rr a b c D := rr_of hD1 hD hpr
  have hp : 2 ≤ (n : Int) := by omega
  have hDp : (n : Int) * n * D < 0 := pp_neg hp hD
  have m4 : 2 * 2 ≤ (n : Int) * n := Int.mul_le_mul hp hp (by omega) (by omega)
  have m5 : 2 * 2 * (-D) ≤ (n : Int) * n * (-D) := Int.mul_le_mul_of_nonneg_right m4 (by omega)
  rw [Int.mul_neg ((n : Int) * n) D] at m5
  have hD3 : (n : Int) * n * D ≤ -3 := by omega
  have he := lat_elem hR n2 n23
  have hin : ∀ x ∈ lats n, inN (latF a b c x).1 = true ∧ inN (latF a b c x).2.1 = true ∧ inN (latF a b c x).2.2 = true := by
    intro x hx
    obtain ⟨_, ⟨q1, q2, q3, q4, q5, q6, q7⟩, q8⟩ := he x hx
    rw [inN_iff, inN_iff, inN_iff]
    omega
  have hP : ∀ g : F3, eqI ((Int.gcd g.1 (Int.gcd g.2.1 g.2.2) : Nat) : Int) 1 = primB g := by
    intro g
    unfold primB
    by_cases h : Int.gcd g.1 (Int.gcd g.2.1 g.2.2) = 1
    · rw [h, decide_eq_true rfl]; rfl
    · rw [decide_eq_false h]; exact eqI_false (by omega)
  have hll : (lats n).length = n + 1 := by simp [lats]
  obtain ⟨l, l1, l2, l3, l4⟩ := relist_val hnD hD3
  have lsrt := relist_srt hnD hD3 l1
  have e0 : (((0 : Nat) : Int)) = 0 := rfl
  have i1 := up_run (bb := true) (G := latF a b c) (H := uH a b c) (P := uP a b c) (ys := lats n) kr (fun x hx => by
    obtain ⟨q1, q2, q3⟩ := he x hx
    obtain ⟨w1, w2, w3⟩ := hin x hx
    exact ⟨q1, (rd_ok q2 hDp).1, _, content_val w1 w2 w3, hP _⟩) (lats n).length FU 0 [] (by omega) (by omega) (by omega) (by simp; omega)
  rw [e0, List.drop_zero] at i1
  have hmem : ∀ x ∈ lats n, uP a b c x = true → uH a b c x ∈ l := by
    intro x hx hpx
    obtain ⟨q1, q2, q3⟩ := he x hx
    obtain ⟨r1, r2, r3, r4, r5, _⟩ := rd_ok q2 hDp
    refine (l3 _).2 (prr_of_prc2 ⟨r3.1, r3.2, r4, prim_eqf r5 (prim_of hpx)⟩)
  obtain ⟨at1, t1, t2, t3, t4⟩ := us_run (G := latF a b c) (H := uH a b c) (P := uP a b c) (ys := lats n) l4 (by omega) ks (fun x hx => by
    obtain ⟨q1, q2, q3⟩ := he x hx
    obtain ⟨w1, w2, w3⟩ := hin x hx
    refine ⟨?_, (rd_ok q2 hDp).2.1, ⟨_, scontent_val w1 w2 w3, hP _⟩, hmem x hx⟩
    simp only [r_spec_laForm, dsc_act, q1, Option.bind_some]) (lats n).length FU 0 [] (by omega) (by omega) (by omega) (by simp; omega) List.Pairwise.nil
  rw [e0] at t1
  rw [List.drop_zero] at t4
  obtain ⟨v, v1, v2, v3, v4⟩ := forms_at (l := l) lsrt t2 t3 (fun z hz => by
    rcases (t4 z).1 hz with h | ⟨x, _, _, j, hj, h, _⟩
    · cases h
    · exact ⟨j, hj, h⟩)
  have vm : ∀ h, h ∈ v ↔ ∃ x ∈ lats n, uP a b c x = true ∧ uH a b c x = h := by
    intro h
    rw [v4]
    constructor
    · rintro ⟨j, hj, h1, h2⟩
      rcases (t4 _).1 h1 with h3 | ⟨x, x1, x2, j', hj', h3, h4⟩
      · cases h3
      · have : j = j' := by omega
        subst this
        exact ⟨x, x1, x2, by rw [← h4, h2]⟩
    · rintro ⟨x, x1, x2, x3⟩
      obtain ⟨j, hj, h5⟩ := List.mem_iff_getElem.1 (hmem x x1 x2)
      exact ⟨j, hj, (t4 _).2 (.inr ⟨x, x1, x2, j, hj, rfl, h5⟩), by rw [h5, x3]⟩
  obtain ⟨r, r1, r2, r3⟩ := sort_all hn hpr hD hnD
  have hru : r = v := srt_ext r2 v2 fun h => by
    rw [r3.mem_iff, dd_mem, vm]
    constructor
    · rintro (h1 | h1)
      · cases h1
      · exact h1
    · exact .inr
  subst hru
  exact ⟨r, by rw [i1, Option.bind_some, r1], ⟨l, at1, l1, t1, v1⟩, v3, v2, vm⟩
end Go.Proofs.YtnheekadeflecaaGreat
namespace Go.Proofs.YtnheekadeflecaaGreat
set_option linter.unusedVariables false
set_option linter.unusedSimpArgs false

theorem sqm (b : Int) : b * b % 4 ≤ 1 := by
  obtain ⟨k, hk⟩ : ∃ k, k = b / 2 := ⟨_, rfl⟩
  have h : b % 2 = 0 ∨ b % 2 = 1 := by omega
  rcases h with h | h
  · have e : b = 2 * k := by omega
    have e2 : b * b = 4 * (k * k) := by rw [e]; grind
    omega
  · have e : b = 2 * k + 1 := by omega
    have e2 : b * b = 4 * (k * k + k) + 1 := by rw [e]; grind
    omega
/-- What is known of a form and a prime that rise. -/
structure Upd (f : F3) (p : Int) (D a b c : Int) (n : Nat) : Prop where
  cls : r_impl_isClassForm f = some true
  dis : f.2.1 * f.2.1 - 4 * f.1 * f.2.2 = D
  dv : r_impl_Form_disc f = some D
  sd : r_spec_foDisc f = some D
  iup : r_impl_canRise D p = some true
  sup : r_spec_odUp D p = some true
  prm : r_impl_isPrime p = some true
  hn : n ∈ qN
  pn : p = (n : Int)
  D1 : -2000 ≤ D
  D2 : D ≤ -3
  D4 : D % 4 ≤ 1
  nD : -2000 ≤ (n : Int) * n * D
  w : w64 (w64 (D * p) * p) = (n : Int) * n * D
  pr : PrRc D (a, b, c)
  kr : r_impl_reduced f = some (a, b, c)
  ks : r_spec_reClass f = some (a, b, c)
  cf : CF D f
theorem upd_cases (f : F3) (p : Int) : (∃ cb, r_impl_isClassForm f = some cb ∧ r_spec_coGood f = some cb ∧ (cb = false ∨ ∃ D, r_impl_Form_disc f = some D ∧ r_spec_foDisc f = some D ∧ r_impl_canRise D p = some false ∧ r_spec_odUp D p = some false)) ∨ ∃ D a b c n, Upd f p D a b c n := by
  obtain ⟨cb, hcb⟩ := class_some f
  have hcs : r_spec_coGood f = some cb := by rw [class_val, hcb]
  cases cb with
  | false => exact .inl ⟨false, hcb, hcs, .inl rfl⟩
  | true =>
    have hf := cfc_of hcb
    generalize hdis : f.2.1 * f.2.1 - 4 * f.1 * f.2.2 = D at hf
    obtain ⟨ha, hb, hc, hneg, hbig, hpos, _⟩ := class_true (a := f.1) (b := f.2.1) (c := f.2.2) hcb
    rw [hdis] at hneg hbig
    have hm : D % 4 ≤ 1 := by
      have := sqm f.2.1
      have k4 : 4 * f.1 * f.2.2 = 4 * (f.1 * f.2.2) := by grind
      omega
    have hdv : r_impl_Form_disc f = some D := by
      have := disc_val ha hb hc
      rw [hdis] at this
      exact this
    have hsd : r_spec_foDisc f = some D := by rw [disc_eq]; exact hdv
    rcases lf_cases D p ⟨hbig, by omega, hm⟩ with ⟨u1, u2⟩ | ⟨u1, u2, u3, u4, u5, u6, u7⟩
    · exact .inl ⟨true, hcb, hcs, .inr ⟨D, hdv, hsd, u2, u1⟩⟩
    · obtain ⟨n, hn, rfl⟩ := prQ u5 u6 u3
      obtain ⟨⟨a, b, c⟩, m1, m2, m3, m4, k1, k2, k3, _⟩ := red_cf hf.2.2.1
      have e : (n : Int) * n * D = D * n * n := by grind
      exact .inr ⟨D, a, b, c, n, hcb, hdis, hdv, hsd, u2, u1, u3, hn, rfl, hbig, by omega, hm, by rw [e]; exact u7, by rw [u4, e], k3, by simp only [r_impl_reduced, k1, Option.bind_some], by simp only [r_spec_reClass, k2, Option.bind_some], hf.2.2.1⟩
theorem upper_up {f : F3} {p D a b c : Int} {n : Nat} (h : Upd f p D a b c n) : ∃ u, r_impl_UpperForms f p = some (u, true) ∧ r_spec_UpperForms f p = some (u, true) ∧ u.length ≤ 1000 ∧ u.Pairwise lt3 ∧ ∀ g, g ∈ u ↔ ∃ x ∈ lats n, uP a b c x = true ∧ uH a b c x = g := by
  have hD : D < 0 := by have := h.D2; omega
  obtain ⟨u, i1, ⟨l, at1, s1, s2, s3⟩, u1, u2, u3⟩ := up_both h.hn h.pr h.D1 hD h.nD h.kr h.ks
  obtain ⟨q1, q2⟩ := latsQ h.hn
  have hcs : r_spec_coGood f = some true := by rw [class_val, h.cls]
  have hp := h.pn
  have hw := h.w
  have hiup := h.iup
  have hsup := h.sup
  subst hp
  refine ⟨u, ?_, ?_, u1, u2, u3⟩
  · simp only [r_impl_UpperForms, h.cls, h.dv, hiup, Option.bind_some, Bool.not_true, cond_false, q1]
    rw [← Option.bind_assoc, i1, Option.bind_some]
  · simp only [r_spec_UpperForms, hcs, h.sd, hsup, Option.bind_some, Bool.not_true, cond_false, hw, s1, q2, s2, s3]
theorem upper_not {f : F3} {p : Int} (h : ∃ cb, r_impl_isClassForm f = some cb ∧ r_spec_coGood f = some cb ∧ (cb = false ∨ ∃ D, r_impl_Form_disc f = some D ∧ r_spec_foDisc f = some D ∧ r_impl_canRise D p = some false ∧ r_spec_odUp D p = some false)) : r_impl_UpperForms f p = some ([], false) ∧ r_spec_UpperForms f p = some ([], false) := by
  obtain ⟨cb, h1, h2, h3 | ⟨D, d1, d2, d3, d4⟩⟩ := h
  · subst h3
    constructor
    · simp only [r_impl_UpperForms, h1, Option.bind_some, Bool.not_false, cond_true]
    · simp only [r_spec_UpperForms, h2, Option.bind_some, Bool.not_false, cond_true]
  · cases cb with
    | false =>
      constructor
      · simp only [r_impl_UpperForms, h1, Option.bind_some, Bool.not_false, cond_true]
      · simp only [r_spec_UpperForms, h2, Option.bind_some, Bool.not_false, cond_true]
    | true =>
      constructor
      · simp only [r_impl_UpperForms, h1, d1, d3, Option.bind_some, Bool.not_true, Bool.not_false, cond_true, cond_false]
      · simp only [r_spec_UpperForms, h2, d2, d4, Option.bind_some, Bool.not_true, Bool.not_false, cond_true, cond_false]
end Go.Proofs.YtnheekadeflecaaGreat
