/-
  Putting matrices in their order: the program's way and the reference's are one.
  Conditions: none.
-/
import Derived.Test.YtgeajejmikaniaaLvDscMat
import Derived.Test.YtgeajejmikaniaaLvCt0
namespace Go.Proofs.Ytgeajejmikaniaa
set_option linter.unusedVariables false
set_option linter.unusedSimpArgs false

abbrev M4 := Int × Int × Int × Int
def LtM (m n : M4) : Prop := m.1 < n.1 ∨ (m.1 = n.1 ∧ (m.2.1 < n.2.1 ∨ (m.2.1 = n.2.1 ∧ (m.2.2.1 < n.2.2.1 ∨ (m.2.2.1 = n.2.2.1 ∧ m.2.2.2 < n.2.2.2)))))
instance (m n : M4) : Decidable (LtM m n) := by unfold LtM; infer_instance
theorem LtM.trans {a b c : M4} (h : LtM a b) (k : LtM b c) : LtM a c := by
  unfold LtM at *
  omega
theorem LtM.asym {a b : M4} (h : LtM a b) : ¬ LtM b a := by
  unfold LtM at *
  omega
theorem LtM.tot {a b : M4} (h : ¬ LtM a b) (k : ¬ LtM b a) : a = b := by
  obtain ⟨a1, a2, a3, a4⟩ := a
  obtain ⟨b1, b2, b3, b4⟩ := b
  unfold LtM at *
  simp only [Prod.mk.injEq]
  dsimp only at h k
  omega
/-- c is not below b, and a is below b: a is below c. -/
theorem LtM.mix {a b c : M4} (h : LtM a b) (k : ¬ LtM c b) : LtM a c := by
  unfold LtM at *
  omega
theorem less_val (m n : M4) : r_impl_lessMatrix m n = some (decide (LtM m n)) := by
  simp only [r_impl_lessMatrix, eqI_eq, ltI_eq]
  unfold LtM
  by_cases h1 : m.1 = n.1
  · by_cases h2 : m.2.1 = n.2.1
    · by_cases h3 : m.2.2.1 = n.2.2.1
      · simp [h1, h2, h3]
      · simp [h1, h2, h3, beq_eq_false_iff_ne.2 h3]
    · simp [h1, h2, beq_eq_false_iff_ne.2 h2]
  · simp [h1, beq_eq_false_iff_ne.2 h1]
def posM (m : M4) (l : List M4) : Nat → Nat
  | 0 => 0
  | k + 1 => if LtM m (l.getD k m) then posM m l k else k + 1
theorem posM_le (m : M4) (l : List M4) : ∀ k, posM m l k ≤ k
  | 0 => Nat.le_refl _
  | k + 1 => by
    unfold posM
    have := posM_le m l k
    split <;> omega
def insM (m : M4) (l : List M4) : List M4 := l.take (posM m l l.length) ++ m :: l.drop (posM m l l.length)
def insR (m : M4) : List M4 → List M4
  | [] => [m]
  | x :: xs => if LtM m x then m :: x :: xs else x :: insR m xs
def SrtM (l : List M4) : Prop := l.Pairwise fun a b => ¬ LtM b a
theorem posM_cons (m x : M4) (xs : List M4) : ∀ k, posM m (x :: xs) (k + 1) = if posM m xs k = 0 then (if LtM m x then 0 else 1) else posM m xs k + 1
  | 0 => by simp [posM]
  | k + 1 => by
    have ih := posM_cons m x xs k
    rw [posM, show posM m xs (k + 1) = if LtM m (xs.getD k m) then posM m xs k else k + 1 from rfl, List.getD_cons_succ]
    split
    · exact ih
    · simp
theorem posM_stop (m : M4) (l : List M4) : ∀ k q, posM m l k = q + 1 → ¬ LtM m (l.getD q m) ∧ q < k
  | 0, q, h => by simp [posM] at h
  | k + 1, q, h => by
    unfold posM at h
    split at h
    · obtain ⟨h1, h2⟩ := posM_stop m l k q h
      exact ⟨h1, by omega⟩
    · rename_i hn
      have e : k = q := by omega
      subst e
      exact ⟨hn, by omega⟩
theorem insM_eq (m : M4) : ∀ (l : List M4), SrtM l → insM m l = insR m l
  | [], _ => rfl
  | x :: xs, h => by
    have hx := (List.pairwise_cons.1 h).1
    have ih := insM_eq m xs (List.pairwise_cons.1 h).2
    unfold insM at ih ⊢
    rw [List.length_cons, posM_cons]
    by_cases hp : posM m xs xs.length = 0
    · rw [hp] at ih
      rw [if_pos hp]
      by_cases hl : LtM m x
      · rw [if_pos hl]
        simp [insR, hl]
      · rw [if_neg hl]
        simp only [insR, if_neg hl, ← ih]
        simp
    · rw [if_neg hp]
      have hl : ¬ LtM m x := by
        obtain ⟨q, hq⟩ := Nat.exists_eq_succ_of_ne_zero hp
        obtain ⟨h1, h2⟩ := posM_stop m xs _ q hq
        intro hl
        refine h1 (hl.mix (hx _ ?_))
        rw [List.getD_eq_getElem?_getD, List.getElem?_eq_getElem h2]
        exact List.getElem_mem h2
      simp only [insR, if_neg hl, ← ih, List.take_succ_cons, List.drop_succ_cons, List.cons_append]
theorem mem_insR {m y : M4} : ∀ {l : List M4}, y ∈ insR m l → y = m ∨ y ∈ l
  | [], h => by simpa [insR] using h
  | x :: xs, h => by
    unfold insR at h
    split at h
    · simpa using h
    · rcases List.mem_cons.1 h with h | h
      · exact .inr (by rw [h]; simp)
      · rcases mem_insR h with h | h
        · exact .inl h
        · exact .inr (by simp [h])
theorem insR_srt {m : M4} : ∀ {l : List M4}, SrtM l → SrtM (insR m l)
  | [], _ => by simp [insR, SrtM]
  | x :: xs, h => by
    obtain ⟨h1, h2⟩ := List.pairwise_cons.1 h
    unfold insR
    split
    · rename_i hl
      refine List.pairwise_cons.2 ⟨fun y hy => ?_, h⟩
      rcases List.mem_cons.1 hy with hy | hy
      · rw [hy]; exact hl.asym
      · exact fun hc => h1 y hy (hc.trans hl)
    · rename_i hl
      refine List.pairwise_cons.2 ⟨fun y hy => ?_, insR_srt h2⟩
      rcases mem_insR hy with hy | hy
      · rw [hy]; exact hl
      · exact h1 y hy
theorem insR_len (m : M4) : ∀ (l : List M4), (insR m l).length = l.length + 1
  | [] => rfl
  | x :: xs => by
    unfold insR
    split
    · rfl
    · simp [insR_len m xs]
theorem insR_comm (a b : M4) : ∀ (l : List M4), insR a (insR b l) = insR b (insR a l)
  | [] => by
    by_cases h1 : LtM a b
    · simp [insR, h1, h1.asym]
    · by_cases h2 : LtM b a
      · simp [insR, h1, h2]
      · rw [LtM.tot h1 h2]
  | x :: xs => by
    have ih := insR_comm a b xs
    by_cases ha : LtM a x <;> by_cases hb : LtM b x
    · by_cases h1 : LtM a b
      · simp [insR, ha, hb, h1, h1.asym]
      · by_cases h2 : LtM b a
        · simp [insR, ha, hb, h1, h2]
        · rw [LtM.tot h1 h2]
    · have h1 : ¬ LtM b a := fun h => hb (h.trans ha)
      simp [insR, ha, hb, h1]
    · have h1 : ¬ LtM a b := fun h => ha (h.trans hb)
      simp [insR, ha, hb, h1]
    · simp [insR, ha, hb, ih]

theorem wpred {k : Nat} (h : k < 1000000000) : w64 (((k + 1 : Nat) : Int) - 1) = (k : Int) := by rw [w64_in (by omega)]; omega
theorem L19_run (m : M4) (l : List M4) (hl : l.length ≤ 1000) (t6 : Int) (y4 : (Int × Int × Int) × M4) (y5 : List M4) : ∀ (n k : Nat), k ≤ l.length → k < n → r_impl_Automorphs_L19 l t6 m y4 y5 n (k : Int) = some (posM m l k : Int)
  | 0, k, h1, h2 => by omega
  | n + 1, 0, h1, h2 => by
    unfold r_impl_Automorphs_L19
    rw [ltI_eq, decide_eq_false (by simp)]
    rfl
  | n + 1, k + 1, h1, h2 => by
    unfold r_impl_Automorphs_L19
    rw [ltI_eq, decide_eq_true (by omega), cond_true, wpred (by omega), getNat (show k < l.length by omega)]
    simp only [Option.bind_some, less_val]
    have e : l.getD k m = l[k]'(by omega) := by rw [List.getD_eq_getElem?_getD, List.getElem?_eq_getElem (by omega)]; rfl
    unfold posM
    rw [e]
    by_cases h : LtM m (l[k]'(by omega))
    · rw [decide_eq_true h, cond_true, if_pos h, sI_eq]
      exact L19_run m l hl t6 y4 y5 n k (by omega) (by omega)
    · rw [decide_eq_false h, cond_false, if_neg h]
theorem set_mid {l : List M4} {p : Nat} (hp : p ≤ l.length) (x m : M4) : (l.take p ++ x :: l.drop p).set p m = l.take p ++ m :: l.drop p := by
  rw [List.set_append_right _ _ (by simp; omega), show p - (l.take p).length = 0 by simp; omega, List.set_cons_zero]
theorem copy_mid {l : List M4} {p : Nat} (hp : p ≤ l.length) (z : M4) : ∃ x, copyL (l ++ [z]) (p + 1) p = l.take p ++ x :: l.drop p := by
  have h1 : l = l.take p ++ l.drop p := (List.take_append_drop p l).symm
  have h2 : (l.take p).length = p := by simp; omega
  generalize l.take p = a at *
  generalize l.drop p = b at *
  subst h1
  subst h2
  unfold copyL splice cpN
  have e1 : Nat.min ((a ++ b ++ [z]).length - a.length) ((a ++ b ++ [z]).length - (a.length + 1)) = b.length := by
    simp only [List.length_append, List.length_cons, List.length_nil]
    show min _ _ = _
    omega
  have e0 : a ++ b ++ [z] = a ++ (b ++ [z]) := List.append_assoc ..
  have e2 : (b ++ [z]).take b.length = b := List.take_left
  have e3 : (a ++ (b ++ [z])).drop (a.length + 1 + b.length) = [] := List.drop_eq_nil_of_le (by simp; omega)
  rw [e1, e0, List.drop_left, e2, e3, List.append_nil]
  cases b with
  | nil => exact ⟨z, by rw [List.take_length_add_append]; simp⟩
  | cons b0 bs => exact ⟨b0, by rw [List.take_length_add_append]; simp⟩
end Go.Proofs.Ytgeajejmikaniaa
namespace Go.Proofs.Ytgeajejmikaniaa
set_option linter.unusedVariables false
set_option linter.unusedSimpArgs false

def matU (a b c t u : Int) : M4 := ((t - b * u).tdiv 2, -c * u, a * u, (t + b * u).tdiv 2)
def stepU (a b c d t u : Int) (l : List M4) : List M4 := if t * t - d * u * u = 4 then insR (matU a b c t u) l else l
theorem stepU_srt {a b c d t u : Int} {l : List M4} (h : SrtM l) : SrtM (stepU a b c d t u l) := by
  unfold stepU
  split
  · exact insR_srt h
  · exact h
theorem stepU_len (a b c d t u : Int) (l : List M4) : (stepU a b c d t u l).length ≤ l.length + 1 := by
  unfold stepU
  split
  · rw [insR_len]; exact Nat.le_refl _
  · omega
theorem half_abs (x : Int) : (x.tdiv 2).natAbs ≤ x.natAbs := by
  rw [Int.natAbs_tdiv]
  exact Nat.div_le_self ..
theorem posM_len (m : M4) (l : List M4) : posM m l l.length ≤ l.length := posM_le m l _
theorem ab {x : Int} {A : Nat} (h : x.natAbs ≤ A) : -(A : Int) ≤ x ∧ x ≤ (A : Int) := by omega
def rowU (a b c d t : Int) (l : List M4) : List M4 := stepU a b c d t 1 (stepU a b c d t 0 (stepU a b c d t (-1) l))
theorem rowU_srt {a b c d t : Int} {l : List M4} (h : SrtM l) : SrtM (rowU a b c d t l) := stepU_srt (stepU_srt (stepU_srt h))
theorem rowU_len (a b c d t : Int) (l : List M4) : (rowU a b c d t l).length ≤ l.length + 3 := by
  have h1 := stepU_len a b c d t (-1) l
  have h2 := stepU_len a b c d t 0 (stepU a b c d t (-1) l)
  have h3 := stepU_len a b c d t 1 (stepU a b c d t 0 (stepU a b c d t (-1) l))
  unfold rowU
  omega
def allU (a b c d : Int) : List M4 := rowU a b c d 2 (rowU a b c d 1 (rowU a b c d 0 (rowU a b c d (-1) (rowU a b c d (-2) []))))
theorem all_far {a b c d : Int} (h : d ≤ -5) : allU a b c d = insR (matU a b c 2 0) (insR (matU a b c (-2) 0) []) := by
  unfold allU rowU stepU
  rw [if_neg (c := (-2) * (-2) - d * (-1) * (-1) = 4) (by omega), if_pos (c := (-2) * (-2) - d * 0 * 0 = 4) (by omega), if_neg (c := (-2) * (-2) - d * 1 * 1 = 4) (by omega),
    if_neg (c := (-1) * (-1) - d * (-1) * (-1) = 4) (by omega), if_neg (c := (-1) * (-1) - d * 0 * 0 = 4) (by omega), if_neg (c := (-1) * (-1) - d * 1 * 1 = 4) (by omega),
    if_neg (c := 0 * 0 - d * (-1) * (-1) = 4) (by omega), if_neg (c := 0 * 0 - d * 0 * 0 = 4) (by omega), if_neg (c := 0 * 0 - d * 1 * 1 = 4) (by omega),
    if_neg (c := 1 * 1 - d * (-1) * (-1) = 4) (by omega), if_neg (c := 1 * 1 - d * 0 * 0 = 4) (by omega), if_neg (c := 1 * 1 - d * 1 * 1 = 4) (by omega),
    if_neg (c := 2 * 2 - d * (-1) * (-1) = 4) (by omega), if_pos (c := 2 * 2 - d * 0 * 0 = 4) (by omega), if_neg (c := 2 * 2 - d * 1 * 1 = 4) (by omega)]
theorem all_4 (a b c : Int) : allU a b c (-4) = insR (matU a b c 2 0) (insR (matU a b c 0 1) (insR (matU a b c 0 (-1)) (insR (matU a b c (-2) 0) []))) := rfl
theorem all_3 (a b c : Int) : allU a b c (-3) = insR (matU a b c 2 0) (insR (matU a b c 1 1) (insR (matU a b c 1 (-1)) (insR (matU a b c (-1) 1) (insR (matU a b c (-1) (-1)) (insR (matU a b c (-2) 0) []))))) := rfl
end Go.Proofs.Ytgeajejmikaniaa
namespace Go.Proofs.Ytgeajejmikaniaa
set_option linter.unusedVariables false
set_option linter.unusedSimpArgs false

theorem isMat_val' (m : M4) : r_impl_IsMatrix m = some (inN m.1 && (inN m.2.1 && (inN m.2.2.1 && inN m.2.2.2))) := by
  simp only [r_impl_IsMatrix, num_val _ (show [m.1, m.2.1, m.2.2.1, m.2.2.2].length < 1000000 by simp), List.all_cons, List.all_nil, Bool.and_true, Option.bind_some]
theorem slcOk {n : Nat} {l h : Int} (h0 : 0 ≤ l) (h1 : l ≤ h) (h2 : h ≤ n) : slc n l h = some () := by
  unfold slc
  rw [leI_eq, leI_eq, leI_eq, decide_eq_true h0, decide_eq_true h1, decide_eq_true h2]
  rfl
theorem step8 {y4 : (Int × Int × Int) × M4} {Ts : List M4} {k : Nat} (hk : k < Ts.length) (hkb : Ts.length ≤ 100) {A Z V : M4} (h1 : r_impl_Matrix_times y4.2 Ts[k] = some Z) (h2 : r_impl_Matrix_inverse y4.2 = some V) (h3 : r_impl_Matrix_times Z V = some A) (h4 : r_impl_IsMatrix A = some true) {l : List M4} (hs : SrtM l) (hl : l.length ≤ 100) (n : Nat) :
    r_impl_Automorphs_L8 y4 Ts (n + 1) (k : Int) l = r_impl_Automorphs_L8 y4 Ts n ((k + 1 : Nat) : Int) (insR A l) := by
  conv => lhs; unfold r_impl_Automorphs_L8
  have hp := posM_len A l
  rw [ltI_eq, decide_eq_true (by omega), cond_true, getNat hk]
  simp only [Option.bind_some, h1, h2, h3, h4, Bool.not_true, cond_false, L19_run A l (by omega) (k : Int) y4 Ts FU l.length (Nat.le_refl _) (by have := FUge; omega)]
  rw [← insM_eq _ _ hs]
  unfold insM
  generalize posM A l l.length = p at *
  have hn : (l ++ [((0, 0, 0, 0) : M4)]).length = l.length + 1 := by simp
  obtain ⟨x, hx⟩ := copy_mid hp ((0, 0, 0, 0) : M4)
  have hg : getI (l.take p ++ x :: l.drop p) (p : Int) = some x := by
    rw [getNat (by simp; omega)]
    congr 1
    rw [List.getElem_append_right (by simp; omega)]
    simp [show p - min p l.length = 0 by omega]
  rw [roomOk (by simp; omega), wsucc (show p < 1000000000 by omega), wsucc (show k < 1000000000 by omega)]
  simp only [Option.bind_some]
  rw [slcOk (by omega) (by rw [hn]; omega) (by omega), slcOk (by omega) (by rw [hn]; omega) (by omega)]
  simp only [Option.bind_some, Int.toNat_natCast, hx, hg, sI_eq, set_mid hp]
theorem L8_run {y4 : (Int × Int × Int) × M4} {Ts As : List M4} (hkb : Ts.length ≤ 50) {V : M4} (h2 : r_impl_Matrix_inverse y4.2 = some V) (hlen : As.length = Ts.length) (hT : ∀ k (hk : k < Ts.length) (hk2 : k < As.length), ∃ Z, r_impl_Matrix_times y4.2 Ts[k] = some Z ∧ r_impl_Matrix_times Z V = some As[k] ∧ r_impl_IsMatrix As[k] = some true) :
    ∀ (n k : Nat) (l : List M4), SrtM l → l.length ≤ k → k ≤ Ts.length → Ts.length - k < n → r_impl_Automorphs_L8 y4 Ts n (k : Int) l = some (.inl ((As.drop k).foldl (fun l A => insR A l) l))
  | 0, k, l, _, _, _, h => by omega
  | n + 1, k, l, hs, hl, h0, h1 => by
    by_cases hk : k < Ts.length
    · obtain ⟨Z, z1, z2, z3⟩ := hT k hk (by omega)
      rw [step8 hk (by omega) z1 h2 z2 z3 hs (by omega), L8_run hkb h2 hlen hT n (k + 1) _ (insR_srt hs) (by rw [insR_len]; omega) (by omega) (by omega), List.drop_eq_getElem_cons (show k < As.length by omega), List.foldl_cons]
    · unfold r_impl_Automorphs_L8
      rw [ltI_eq, decide_eq_false (by omega), cond_false, List.drop_eq_nil_of_le (by omega)]
      rfl
theorem times_val {x y : M4} {X Y : Nat} (hx : x.1.natAbs ≤ X ∧ x.2.1.natAbs ≤ X ∧ x.2.2.1.natAbs ≤ X ∧ x.2.2.2.natAbs ≤ X) (hy : y.1.natAbs ≤ Y ∧ y.2.1.natAbs ≤ Y ∧ y.2.2.1.natAbs ≤ Y ∧ y.2.2.2.natAbs ≤ Y) (hXY : X * Y ≤ 1000000000000) :
    r_impl_Matrix_times x y = some (x.1 * y.1 + x.2.1 * y.2.2.1, x.1 * y.2.1 + x.2.1 * y.2.2.2, x.2.2.1 * y.1 + x.2.2.2 * y.2.2.1, x.2.2.1 * y.2.1 + x.2.2.2 * y.2.2.2) := by
  obtain ⟨x1, x2, x3, x4⟩ := hx
  obtain ⟨y1, y2, y3, y4⟩ := hy
  have a1 := ab (Nat.le_trans (abs_mul x1 y1) hXY)
  have a2 := ab (Nat.le_trans (abs_mul x2 y3) hXY)
  have a3 := ab (Nat.le_trans (abs_mul x1 y2) hXY)
  have a4 := ab (Nat.le_trans (abs_mul x2 y4) hXY)
  have a5 := ab (Nat.le_trans (abs_mul x3 y1) hXY)
  have a6 := ab (Nat.le_trans (abs_mul x4 y3) hXY)
  have a7 := ab (Nat.le_trans (abs_mul x3 y2) hXY)
  have a8 := ab (Nat.le_trans (abs_mul x4 y4) hXY)
  clear x1 x2 x3 x4 y1 y2 y3 y4
  simp only [r_impl_Matrix_times, sI_eq]
  rw [w64_in (n := x.1 * y.1) (by omega), w64_in (n := x.2.1 * y.2.2.1) (by omega), w64_in (n := x.1 * y.2.1) (by omega), w64_in (n := x.2.1 * y.2.2.2) (by omega), w64_in (n := x.2.2.1 * y.1) (by omega), w64_in (n := x.2.2.2 * y.2.2.1) (by omega), w64_in (n := x.2.2.1 * y.2.1) (by omega), w64_in (n := x.2.2.2 * y.2.2.2) (by omega),
    w64_in (n := x.1 * y.1 + x.2.1 * y.2.2.1) (by omega), w64_in (n := x.1 * y.2.1 + x.2.1 * y.2.2.2) (by omega), w64_in (n := x.2.2.1 * y.1 + x.2.2.2 * y.2.2.1) (by omega), w64_in (n := x.2.2.1 * y.2.1 + x.2.2.2 * y.2.2.2) (by omega)]
theorem inverse_val1 {m1 m2 m3 m4 : Int} (h1 : m1.natAbs ≤ 2000) (h2 : m2.natAbs ≤ 2000) (h3 : m3.natAbs ≤ 2000) (h4 : m4.natAbs ≤ 2000) (hd : m1 * m4 - m2 * m3 = 1) : r_impl_Matrix_inverse (m1, m2, m3, m4) = some (m4, -m2, -m3, m1) := by
  have a1 := ab (abs_mul h1 h4)
  have a2 := ab (abs_mul h2 h3)
  have c1 := ab h1
  have c2 := ab h2
  have c3 := ab h3
  have c4 := ab h4
  clear h1 h2 h3 h4
  simp only [r_impl_Matrix_inverse, r_impl_Matrix_det, sI_eq, Option.bind_some]
  rw [w64_in (n := m1 * m4) (by omega), w64_in (n := m2 * m3) (by omega), hd, w64_in (n := (1 : Int)) (by omega), show (0 - 1 : Int) = -1 from rfl, w64_in (n := (-1 : Int)) (by omega), Int.one_mul, Int.one_mul, Int.neg_one_mul, Int.neg_one_mul, w64_in (n := m4) (by omega), w64_in (n := -m2) (by omega), w64_in (n := -m3) (by omega), w64_in (n := m1) (by omega)]
theorem matU_eq {a b c t u P Q R S : Int} (e1 : t - b * u = 2 * P) (e2 : -c * u = Q) (e3 : a * u = R) (e4 : t + b * u = 2 * S) : matU a b c t u = (P, Q, R, S) := by
  unfold matU
  rw [e1, e2, e3, e4, Int.mul_tdiv_cancel_left _ (by decide), Int.mul_tdiv_cancel_left _ (by decide)]
theorem conjT {m1 m2 m3 m4 x1 x2 x3 x4 a b c t u : Int} (h1 : m1.natAbs ≤ 2000) (h2 : m2.natAbs ≤ 2000) (h3 : m3.natAbs ≤ 2000) (h4 : m4.natAbs ≤ 2000) (y1 : x1.natAbs ≤ 1) (y2 : x2.natAbs ≤ 1) (y3 : x3.natAbs ≤ 1) (y4 : x4.natAbs ≤ 1)
    (ha : a.natAbs ≤ 1000000) (hb : b.natAbs ≤ 1000000) (hc : c.natAbs ≤ 1000000) (ht : t.natAbs ≤ 2) (hu : u.natAbs ≤ 1)
    (e1 : t - b * u = 2 * ((m1 * x1 + m2 * x3) * m4 + (m1 * x2 + m2 * x4) * (-m3))) (e2 : -c * u = (m1 * x1 + m2 * x3) * (-m2) + (m1 * x2 + m2 * x4) * m1) (e3 : a * u = (m3 * x1 + m4 * x3) * m4 + (m3 * x2 + m4 * x4) * (-m3)) (e4 : t + b * u = 2 * ((m3 * x1 + m4 * x3) * (-m2) + (m3 * x2 + m4 * x4) * m1)) :
    ∃ Z, r_impl_Matrix_times (m1, m2, m3, m4) (x1, x2, x3, x4) = some Z ∧ r_impl_Matrix_times Z (m4, -m2, -m3, m1) = some (matU a b c t u) ∧ r_impl_IsMatrix (matU a b c t u) = some true := by
  have q1 := times_val (x := (m1, m2, m3, m4)) (y := (x1, x2, x3, x4)) (X := 2000) (Y := 1) ⟨h1, h2, h3, h4⟩ ⟨y1, y2, y3, y4⟩ (by decide)
  have s : ∀ {p q r s : Int}, p.natAbs ≤ 2000 → q.natAbs ≤ 2000 → r.natAbs ≤ 1 → s.natAbs ≤ 1 → (p * r + q * s).natAbs ≤ 4000 := by
    intro p q r s p1 p2 p3 p4
    have a1 := ab (abs_mul p1 p3)
    have a2 := ab (abs_mul p2 p4)
    omega
  have q2 := times_val (x := (m1 * x1 + m2 * x3, m1 * x2 + m2 * x4, m3 * x1 + m4 * x3, m3 * x2 + m4 * x4)) (y := (m4, -m2, -m3, m1)) (X := 4000) (Y := 2000) ⟨s h1 h2 y1 y3, s h1 h2 y2 y4, s h3 h4 y1 y3, s h3 h4 y2 y4⟩ ⟨h4, by rw [Int.natAbs_neg]; exact h2, by rw [Int.natAbs_neg]; exact h3, h1⟩ (by decide)
  refine ⟨_, q1, ?_, ?_⟩
  · rw [matU_eq e1 e2 e3 e4]
    exact q2
  · rw [isMat_val']
    have b4 := ab (abs_mul hb hu)
    have b5 := ab (abs_mul (x := -c) (A := 1000000) (by rw [Int.natAbs_neg]; exact hc) hu)
    have b6 := ab (abs_mul ha hu)
    have b7 := ab (half_abs (t - b * u))
    have b8 := ab (half_abs (t + b * u))
    have c2 := ab ht
    have k1 : inN (matU a b c t u).1 = true := by
      rw [inN_iff]
      show _ ≤ (t - b * u).tdiv 2 ∧ (t - b * u).tdiv 2 ≤ _
      have : (t - b * u).tdiv 2 = (m1 * x1 + m2 * x3) * m4 + (m1 * x2 + m2 * x4) * (-m3) := by rw [e1, Int.mul_tdiv_cancel_left _ (by decide)]
      rw [this]
      omega
    have k4 : inN (matU a b c t u).2.2.2 = true := by
      rw [inN_iff]
      show _ ≤ (t + b * u).tdiv 2 ∧ (t + b * u).tdiv 2 ≤ _
      have : (t + b * u).tdiv 2 = (m3 * x1 + m4 * x3) * (-m2) + (m3 * x2 + m4 * x4) * m1 := by rw [e4, Int.mul_tdiv_cancel_left _ (by decide)]
      rw [this]
      omega
    have k2 : inN (matU a b c t u).2.1 = true := by
      rw [inN_iff]
      show _ ≤ -c * u ∧ -c * u ≤ _
      omega
    have k3 : inN (matU a b c t u).2.2.1 = true := by
      rw [inN_iff]
      show _ ≤ a * u ∧ a * u ≤ _
      omega
    rw [k1, k2, k3, k4]
    rfl
theorem MatInv.back {A B C p q r s a b c : Int} (h : MatInv A B C p q r s a b c) : A = a * s * s - b * r * s + c * r * r ∧ B = -2 * a * q * s + b * (p * s + q * r) - 2 * c * p * r ∧ C = a * q * q - b * p * q + c * p * p := by
  obtain ⟨e1, e2, e3, dt⟩ := h
  subst e1 e2 e3
  have k1 : (A * p * p + B * p * r + C * r * r) * s * s - (2 * A * p * q + B * (p * s + q * r) + 2 * C * r * s) * r * s + (A * q * q + B * q * s + C * s * s) * r * r = A * ((p * s - q * r) * (p * s - q * r)) := by grind
  have k2 : -2 * (A * p * p + B * p * r + C * r * r) * q * s + (2 * A * p * q + B * (p * s + q * r) + 2 * C * r * s) * (p * s + q * r) - 2 * (A * q * q + B * q * s + C * s * s) * p * r = B * ((p * s - q * r) * (p * s - q * r)) := by grind
  have k3 : (A * p * p + B * p * r + C * r * r) * q * q - (2 * A * p * q + B * (p * s + q * r) + 2 * C * r * s) * p * q + (A * q * q + B * q * s + C * s * s) * p * p = C * ((p * s - q * r) * (p * s - q * r)) := by grind
  rw [k1, k2, k3, dt]
  simp
def tI : M4 := (1, 0, 0, 1)
theorem tv1 : r_impl_Form_turns_V ([(1, 0, 0, 1)]) FU 0 [] = some [(-1, 0, 0, -1)] := by decide +kernel
theorem tv2 : r_impl_Form_turns_V ([(1, 0, 0, 1)] ++ [(0, -1, 1, 0)]) FU 0 [] = some [(-1, 0, 0, -1), (0, 1, -1, 0)] := by decide +kernel
theorem tv3 : r_impl_Form_turns_V ([(1, 0, 0, 1)] ++ [(0, -1, 1, 1), (1, 1, -1, 0)]) FU 0 [] = some [(-1, 0, 0, -1), (0, 1, -1, -1), (-1, -1, 1, 0)] := by decide +kernel
theorem turns_far {a b c : Int} (h1 : ¬ (a = c ∧ b = 0)) (h2 : ¬ (a = c ∧ b = a)) : r_impl_Form_turns (a, b, c) = some [(1, 0, 0, 1), (-1, 0, 0, -1)] := by
  simp only [r_impl_Form_turns, r_impl_one, Option.bind_some]
  have e1 : (bif eqI a c then eqI b 0 else false) = false := by
    by_cases h : a = c
    · rw [h, eqSelf, cond_true, eqNe (fun k => h1 ⟨h, k⟩)]
    · rw [eqNe h]; rfl
  have e2 : (bif eqI a c then eqI b a else false) = false := by
    by_cases h : a = c
    · rw [h, eqSelf, cond_true, eqNe (fun k => h2 ⟨h, k.trans h.symm⟩)]
    · rw [eqNe h]; rfl
  rw [e1, e2, cond_false, cond_false, tv1]
  rfl
theorem turns_4 (a : Int) : r_impl_Form_turns (a, 0, a) = some [(1, 0, 0, 1), (0, -1, 1, 0), (-1, 0, 0, -1), (0, 1, -1, 0)] := by
  simp only [r_impl_Form_turns, r_impl_one, Option.bind_some, eqSelf, cond_true]
  rw [roomOk (by decide), Option.bind_some, tv2]
  rfl
theorem turns_3 {a : Int} (h : a ≠ 0) : r_impl_Form_turns (a, a, a) = some [(1, 0, 0, 1), (0, -1, 1, 1), (1, 1, -1, 0), (-1, 0, 0, -1), (0, 1, -1, -1), (-1, -1, 1, 0)] := by
  simp only [r_impl_Form_turns, r_impl_one, Option.bind_some, eqSelf, cond_true, eqNe h, cond_false]
  rw [roomOk (by decide), Option.bind_some, tv3]
  rfl
end Go.Proofs.Ytgeajejmikaniaa
namespace Go.Proofs.Ytgeajejmikaniaa
set_option linter.unusedVariables false
set_option linter.unusedSimpArgs false

theorem sg_run : ∀ (k n : Nat) (a b : Int), b.natAbs < 2 ^ k → 2 * k + 1 ≤ n → ∃ r, r_spec_nuGcd_L7 n a b = some r ∧ r.natAbs = Int.gcd a b
  | k, 0, a, b, _, hn => by omega
  | 0, n + 1, a, b, hb, hn => by
    have : b = 0 := by simp at hb; omega
    subst this
    unfold r_spec_nuGcd_L7
    rw [eqI_true]
    exact ⟨a, rfl, by simp⟩
  | k + 1, n + 1, a, b, hb, hn => by
    unfold r_spec_nuGcd_L7
    by_cases h0 : b = 0
    · subst h0
      rw [eqI_true]
      exact ⟨a, rfl, by simp⟩
    · rw [eqI_false h0, nz_ne h0]
      simp only [Bool.not_false, cond_true, Option.bind_some, sI_eq]
      rw [← igcd_step a b]
      match n, hn with
      | n + 1, hn =>
        unfold r_spec_nuGcd_L7
        by_cases h1 : a.tmod b = 0
        · rw [h1, eqI_true]
          exact ⟨b, rfl, by simp⟩
        · rw [eqI_false h1, nz_ne h1]
          simp only [Bool.not_false, cond_true, Option.bind_some, sI_eq]
          rw [← igcd_step b (a.tmod b)]
          refine sg_run k n _ _ ?_ (by omega)
          rw [Int.natAbs_tmod]
          have h2 : (a.tmod b).natAbs < b.natAbs := by rw [Int.natAbs_tmod]; exact Nat.mod_lt _ (by omega)
          exact gcd_two k (by omega) h2 hb
theorem sn_run : ∀ (n : Nat) (a b r : Int), 0 ≤ a → 0 ≤ b → r_spec_nuGcd_L7 n a b = some r → 0 ≤ r
  | 0, a, b, r, _, _, h => by cases h
  | n + 1, a, b, r, ha, hb, h => by
    unfold r_spec_nuGcd_L7 at h
    by_cases h0 : b = 0
    · subst h0
      rw [eqI_true] at h
      have h : some a = some r := h
      injection h with h
      omega
    · rw [eqI_false h0, nz_ne h0] at h
      simp only [Bool.not_false, cond_true, Option.bind_some, sI_eq] at h
      exact sn_run n _ _ _ hb (Int.tmod_nonneg _ ha) h
theorem sgcd_val2 {a b : Int} (ha : a.natAbs ≤ 9223372036854775806) (hb : b.natAbs ≤ 9223372036854775806) : r_spec_nuGcd a b = some (Int.gcd a b : Int) := by
  obtain ⟨r, h1, h2⟩ := sg_run 64 FU (a.natAbs : Int) (b.natAbs : Int) (by omega) (Nat.le_trans (by decide : 129 ≤ 1000000) (by decide))
  have h3 := sn_run _ _ _ _ (by omega) (by omega) h1
  rw [natAbs_natAbs] at h2
  simp only [r_spec_nuGcd, sabs_val ha, sabs_val hb, Option.bind_some, h1]
  congr 1
  omega
theorem scontent_val2 {a b c : Int} (ha : inN a = true) (hb : inN b = true) (hc : inN c = true) : r_spec_foContent (a, b, c) = some (Int.gcd a (Int.gcd b c) : Int) := by
  rw [inN_iff] at ha hb hc
  have h := gcd_le (a := a) (b := b) (M := 1000000) (by omega) (by omega)
  simp only [r_spec_foContent, sgcd_val2 (a := a) (b := b) (by omega) (by omega), Option.bind_some]
  rw [sgcd_val2 (by omega) (by omega), Option.bind_some]
  congr 2
  unfold Int.gcd
  simp [Nat.gcd_assoc]
theorem FUs (k : Nat) (h : k ≤ 1000000) : k ≤ FU := Nat.le_trans h (by decide)
theorem in_of_def' {f : Int × Int × Int} (h : r_impl_isDefinite f = some true) : inN f.1 = true ∧ inN f.2.1 = true ∧ inN f.2.2 = true := by
  simp only [r_impl_isDefinite, form_val, Option.bind_some] at h
  cases ha : inN f.1 with
  | false => rw [ha] at h; simp at h
  | true =>
    cases hb : inN f.2.1 with
    | false => rw [ha, hb] at h; simp at h
    | true =>
      cases hc : inN f.2.2 with
      | false => rw [ha, hb, hc] at h; simp at h
      | true => exact ⟨rfl, rfl, rfl⟩
theorem abs_part {k a : Int} (hk : k ≠ 0) : a.natAbs ≤ (k * a).natAbs := by
  rw [Int.natAbs_mul]
  exact Nat.le_mul_of_pos_left _ (Int.natAbs_pos.2 hk)
theorem kc {k x y : Int} (hk : k ≠ 0) (h : k * x = k * y) : x = y := Int.eq_of_mul_eq_mul_left hk h
theorem mem_fold {m : M4} : ∀ {As l : List M4}, m ∈ As.foldl (fun l A => insR A l) l → m ∈ As ∨ m ∈ l
  | [], l, h => .inr h
  | A :: As, l, h => by
    rw [List.foldl_cons] at h
    rcases mem_fold h with h | h
    · exact .inl (List.mem_cons_of_mem _ h)
    · rcases mem_insR h with h | h
      · exact .inl (by rw [h]; exact List.mem_cons_self)
      · exact .inr h
theorem len_fold : ∀ (As l : List M4), (As.foldl (fun l A => insR A l) l).length = l.length + As.length
  | [], l => rfl
  | A :: As, l => by
    rw [List.foldl_cons, len_fold As, insR_len, List.length_cons]
    omega
/-- A reduced form of small discriminant. -/
theorem red_one {α β γ d : Int} (hα : 1 ≤ α) (hr : (-α < β ∧ β ≤ α) ∧ (α < γ ∨ (α = γ ∧ 0 ≤ β))) (hd : β * β - 4 * α * γ = d) (h : -4 ≤ d) : α = 1 := by
  obtain ⟨⟨b1, b2⟩, hr⟩ := hr
  have hac : α ≤ γ := by omega
  have h1 : α * α ≤ α * γ := Int.mul_le_mul_of_nonneg_left hac (by omega)
  have h2 := ab (abs_mul (x := β) (y := β) (A := α.natAbs) (B := α.natAbs) (by omega) (by omega))
  have h3 : ((α.natAbs * α.natAbs : Nat) : Int) = α * α := Int.natAbs_mul_self
  rw [h3] at h2
  have h4 : 4 * α * γ = 4 * (α * γ) := by rw [Int.mul_assoc]
  rcases Int.lt_or_le 1 α with h5 | h5
  · have h6 : 2 * 2 ≤ α * α := Int.mul_le_mul (by omega) (by omega) (by decide) (by omega)
    omega
  · omega
theorem sq_mod4 (b : Int) : b * b % 4 = 0 ∨ b * b % 4 = 1 := by
  rcases (show b % 2 = 0 ∨ b % 2 = 1 by omega) with h | h
  · obtain ⟨q, hq⟩ := Int.dvd_of_emod_eq_zero h
    have : b * b = 4 * (q * q) := by rw [hq]; grind
    omega
  · have hq : b = 2 * (b / 2) + 1 := by omega
    have : b * b = 4 * ((b / 2) * (b / 2) + b / 2) + 1 := by
      generalize b / 2 = q at *
      rw [hq]
      grind
    omega
theorem perm4 (a b c d : M4) : insR d (insR c (insR b (insR a []))) = insR a (insR b (insR d (insR c []))) := by
  rw [insR_comm b a, insR_comm c a, insR_comm d a, insR_comm c b, insR_comm d b]
theorem perm6 (a b c d e f : M4) : insR f (insR e (insR d (insR c (insR b (insR a []))))) = insR a (insR b (insR c (insR f (insR e (insR d []))))) := by
  rw [insR_comm b a, insR_comm c a, insR_comm d a, insR_comm e a, insR_comm f a, insR_comm c b, insR_comm d b, insR_comm e b, insR_comm f b, insR_comm d c, insR_comm e c, insR_comm f c]
theorem auto_fin {A B C : Int} (hdef : r_impl_isDefinite (A, B, C) = some true) {g2 : Int × Int × Int} {r V : M4} {Ts As : List M4} (k1 : r_impl_reduce (A, B, C) = some (g2, r)) (k2 : r_impl_Form_turns g2 = some Ts) (h2 : r_impl_Matrix_inverse r = some V) (hkb : Ts.length ≤ 50) (hlen : As.length = Ts.length)
    (hT : ∀ k (hk : k < Ts.length) (hk2 : k < As.length), ∃ Z, r_impl_Matrix_times r Ts[k] = some Z ∧ r_impl_Matrix_times Z V = some As[k] ∧ r_impl_IsMatrix As[k] = some true) :
    r_impl_Automorphs (A, B, C) = some (As.foldl (fun l A => insR A l) [], true) ∧ (As.foldl (fun l A => insR A l) []).length ≤ 50 ∧ ∀ m ∈ As.foldl (fun l A => insR A l) [], r_impl_IsMatrix m = some true := by
  refine ⟨?_, ?_, fun m hm => ?_⟩
  · have h8 := L8_run (y4 := (g2, r)) hkb h2 hlen hT FU 0 [] List.Pairwise.nil (Nat.le_refl _) (Nat.zero_le _) (by have := FUge; omega)
    rw [List.drop_zero] at h8
    have h8 : r_impl_Automorphs_L8 (g2, r) Ts FU 0 [] = _ := h8
    simp only [r_impl_Automorphs, hdef, k1, k2, h8, Option.bind_some, Bool.not_true, cond_false]
  · rw [len_fold]
    simp only [List.length_nil]
    omega
  · rcases mem_fold hm with hm | hm
    · obtain ⟨k, hk, rfl⟩ := List.getElem_of_mem hm
      obtain ⟨_, _, _, h⟩ := hT k (by omega) hk
      exact h
    · cases hm
theorem two_of {P : (k : Nat) → Prop} (h0 : P 0) (h1 : P 1) : ∀ k, k < 2 → P k := by
  intro k hk
  match k, hk with
  | 0, _ => exact h0
  | 1, _ => exact h1
end Go.Proofs.Ytgeajejmikaniaa
namespace Go.Proofs.Ytgeajejmikaniaa
set_option linter.unusedVariables false
set_option linter.unusedSimpArgs false

theorem insR_self (m : M4) : ∀ l : List M4, m ∈ insR m l
  | [] => by simp [insR]
  | x :: xs => by
    unfold insR
    split
    · simp
    · exact List.mem_cons_of_mem _ (insR_self m xs)
theorem insR_keep {y m : M4} : ∀ {l : List M4}, y ∈ l → y ∈ insR m l
  | [], h => by cases h
  | x :: xs, h => by
    unfold insR
    split
    · exact List.mem_cons_of_mem _ h
    · rcases List.mem_cons.1 h with h | h
      · rw [h]; exact List.mem_cons_self
      · exact List.mem_cons_of_mem _ (insR_keep h)
theorem fold_keep {y : M4} : ∀ {As l : List M4}, y ∈ l → y ∈ As.foldl (fun l A => insR A l) l
  | [], l, h => h
  | A :: As, l, h => by
    rw [List.foldl_cons]
    exact fold_keep (insR_keep h)
theorem matU_aut {a b c t u P S : Int} (e1 : t - b * u = 2 * P) (e4 : t + b * u = 2 * S) (hd : t * t - (b * b - 4 * a * c) * u * u = 4) : MatInv a b c P (-c * u) (a * u) S a b c := by
  have hS : S = P + b * u := by omega
  have ht : t = 2 * P + b * u := by omega
  have hPS : P * P + P * b * u + a * c * u * u = 1 := by
    have : 4 * (P * P + P * b * u + a * c * u * u) = 4 := by
      rw [← hd, ht]
      grind
    omega
  subst hS
  refine ⟨?_, ?_, ?_, ?_⟩
  · have : a * P * P + b * P * (a * u) + c * (a * u) * (a * u) = a * (P * P + P * b * u + a * c * u * u) := by grind
    rw [this, hPS, Int.mul_one]
  · have : 2 * a * P * (-c * u) + b * (P * (P + b * u) + -c * u * (a * u)) + 2 * c * (a * u) * (P + b * u) = b * (P * P + P * b * u + a * c * u * u) := by grind
    rw [this, hPS, Int.mul_one]
  · have : a * (-c * u) * (-c * u) + b * (-c * u) * (P + b * u) + c * (P + b * u) * (P + b * u) = c * (P * P + P * b * u + a * c * u * u) := by grind
    rw [this, hPS, Int.mul_one]
  · have : P * (P + b * u) - -c * u * (a * u) = P * P + P * b * u + a * c * u * u := by grind
    rw [this, hPS]
def AutM (a b c : Int) (m : M4) : Prop := MatInv a b c m.1 m.2.1 m.2.2.1 m.2.2.2 a b c
theorem matU_autM {a b c t u P S : Int} (e1 : t - b * u = 2 * P) (e4 : t + b * u = 2 * S) (hd : t * t - (b * b - 4 * a * c) * u * u = 4) : AutM a b c (matU a b c t u) := by
  rw [matU_eq e1 rfl rfl e4]
  exact matU_aut e1 e4 hd
theorem fold_aut {a b c : Int} {As : List M4} (h : ∀ m ∈ As, AutM a b c m) : ∀ m ∈ As.foldl (fun l A => insR A l) [], AutM a b c m := by
  intro m hm
  rcases mem_fold hm with hm | hm
  · exact h m hm
  · cases hm
theorem matU_one (a b c : Int) : matU a b c 2 0 = tI := by
  rw [matU_eq (P := 1) (S := 1) (by omega) rfl rfl (by omega)]
  simp [tI]
/-- The automorphs of a class form. -/
theorem lv_auto {a b c : Int} (hdef : r_impl_isDefinite (a, b, c) = some true) (hi : RedInv a b c (b * b - 4 * a * c) 1) (hcM : c ≤ 1000000) (iA : inN a = true) (iB : inN b = true) (iC : inN c = true) :
    ∃ l, r_impl_Automorphs (a, b, c) = some (l, true) ∧ l.length ≤ 50 ∧ tI ∈ l ∧ ∀ m ∈ l, r_impl_IsMatrix m = some true ∧ AutM a b c m := by
  obtain ⟨m1, m2, m3, m4, α, β, γ, k1, q2, q3, q4, s1, s2, s3, s4⟩ := red_imp hi hcM
  have iA2 := inN_iff.1 iA
  have iB2 := inN_iff.1 iB
  have iC2 := inN_iff.1 iC
  have ba : a.natAbs ≤ 1000000 := by omega
  have bb : b.natAbs ≤ 1000000 := by omega
  have bc : c.natAbs ≤ 1000000 := by omega
  have hdd := q2.dis
  have hdneg := hi.neg
  have hαp := q2.a1
  have hred : (-α < β ∧ β ≤ α) ∧ (α < γ ∨ (α = γ ∧ 0 ≤ β)) := q3
  have hinv := inverse_val1 s1 s2 s3 s4 q4.dt
  have hdt := q4.dt
  obtain ⟨v1, v2, v3⟩ := q4.back
  have hI : ∀ {t : Int} (x : Int), x.natAbs ≤ 1 → t = 2 * x → ∃ Z, r_impl_Matrix_times (m1, m2, m3, m4) (x, 0, 0, x) = some Z ∧ r_impl_Matrix_times Z (m4, -m2, -m3, m1) = some (matU a b c t 0) ∧ r_impl_IsMatrix (matU a b c t 0) = some true := by
    intro t x hx ht
    subst ht
    exact conjT s1 s2 s3 s4 hx (by decide) (by decide) hx ba bb bc (by omega) (by decide) (by grind) (by grind) (by grind) (by grind)
  have aI : AutM a b c (matU a b c 2 0) := matU_autM (P := 1) (S := 1) (by omega) (by omega) (by omega)
  have aJ : AutM a b c (matU a b c (-2) 0) := matU_autM (P := -1) (S := -1) (by omega) (by omega) (by omega)
  have hmod := sq_mod4 b
  have fin : ∀ {Ts As : List M4}, r_impl_Form_turns (α, β, γ) = some Ts → Ts.length ≤ 50 → As.length = Ts.length → (∀ k (hk : k < Ts.length) (hk2 : k < As.length), ∃ Z, r_impl_Matrix_times (m1, m2, m3, m4) Ts[k] = some Z ∧ r_impl_Matrix_times Z (m4, -m2, -m3, m1) = some As[k] ∧ r_impl_IsMatrix As[k] = some true) → (∀ m ∈ As, AutM a b c m) → (∃ As', As = matU a b c 2 0 :: As') →
      ∃ l, r_impl_Automorphs (a, b, c) = some (l, true) ∧ l.length ≤ 50 ∧ tI ∈ l ∧ ∀ m ∈ l, r_impl_IsMatrix m = some true ∧ AutM a b c m := by
    intro Ts As h1 h2 h3 h4 h5 h6
    obtain ⟨f1, f2, f3⟩ := auto_fin hdef k1 h1 hinv h2 h3 h4
    refine ⟨_, f1, f2, ?_, fun m hm => ⟨f3 m hm, fold_aut h5 m hm⟩⟩
    obtain ⟨As', rfl⟩ := h6
    rw [List.foldl_cons, ← matU_one a b c]
    exact fold_keep (insR_self _ _)
  rcases (show b * b - 4 * a * c ≤ -5 ∨ b * b - 4 * a * c = -4 ∨ b * b - 4 * a * c = -3 by
    have j3 : 4 * a * c = 4 * (a * c) := by rw [Int.mul_assoc]
    omega) with hd | hd | hd
  · have hone : α ∣ 1 → α = 1 := fun h7 => by
      have := Int.le_of_dvd (by decide) h7
      omega
    have t1 : ¬ (α = γ ∧ β = 0) := fun ⟨e1, e3⟩ => by
      have h5 : α ∣ 1 := (q2.con _).1 ⟨Int.dvd_refl _, by rw [e3]; exact Int.dvd_zero _, by rw [e1]; exact Int.dvd_refl _⟩
      have h6 := hone h5
      subst h6 e3
      rw [← e1] at hdd
      omega
    have t2 : ¬ (α = γ ∧ β = α) := fun ⟨e1, e3⟩ => by
      have h5 : α ∣ 1 := (q2.con _).1 ⟨Int.dvd_refl _, by rw [e3]; exact Int.dvd_refl _, by rw [e1]; exact Int.dvd_refl _⟩
      have h6 := hone h5
      subst h6 e3
      rw [← e1] at hdd
      omega
    refine fin (As := [matU a b c 2 0, matU a b c (-2) 0]) (turns_far t1 t2) (by simp) rfl (fun j hj hj2 => by
      match j, hj with
      | 0, _ => exact hI 1 (by decide) rfl
      | 1, _ => exact hI (-1) (by decide) rfl) ?_ ⟨_, rfl⟩
    intro m hm
    simp only [List.mem_cons, List.not_mem_nil, or_false] at hm
    rcases hm with rfl | rfl
    · exact aI
    · exact aJ
  · have hα := red_one hαp hred (hdd.trans hd) (by omega)
    subst hα
    have hβ : β = 0 ∧ γ = 1 := by
      rw [hd] at hdd
      have : β = 0 ∨ β = 1 := by omega
      rcases this with rfl | rfl <;> omega
    obtain ⟨rfl, rfl⟩ := hβ
    have w1 : a = m4 * m4 + m3 * m3 := by grind
    have w2 : b = -2 * (m2 * m4 + m1 * m3) := by grind
    have w3 : c = m2 * m2 + m1 * m1 := by grind
    have hW : ∀ {t u : Int} (x : Int), x.natAbs ≤ 1 → t = 0 → u = x → ∃ Z, r_impl_Matrix_times (m1, m2, m3, m4) (0, -x, x, 0) = some Z ∧ r_impl_Matrix_times Z (m4, -m2, -m3, m1) = some (matU a b c t u) ∧ r_impl_IsMatrix (matU a b c t u) = some true := by
      intro t u x hx ht hu
      subst ht hu
      exact conjT s1 s2 s3 s4 (by decide) (by rw [Int.natAbs_neg]; exact hx) hx (by decide) ba bb bc (by decide) hx (by rw [w2]; grind) (by rw [w3]; grind) (by rw [w1]; grind) (by rw [w2]; grind)
    have ht4 := turns_4 1
    refine fin (As := [matU a b c 2 0, matU a b c 0 1, matU a b c (-2) 0, matU a b c 0 (-1)]) ht4 (by simp) rfl (fun j hj hj2 => by
      match j, hj with
      | 0, _ => exact hI 1 (by decide) rfl
      | 1, _ => exact hW 1 (by decide) rfl rfl
      | 2, _ => exact hI (-1) (by decide) rfl
      | 3, _ => exact hW (-1) (by decide) rfl rfl) ?_ ⟨_, rfl⟩
    intro m hm
    simp only [List.mem_cons, List.not_mem_nil, or_false] at hm
    rcases hm with rfl | rfl | rfl | rfl
    · exact aI
    · exact matU_autM (P := m2 * m4 + m1 * m3) (S := -(m2 * m4 + m1 * m3)) (by omega) (by omega) (by omega)
    · exact aJ
    · exact matU_autM (P := -(m2 * m4 + m1 * m3)) (S := m2 * m4 + m1 * m3) (by omega) (by omega) (by omega)
  · have hα := red_one hαp hred (hdd.trans hd) (by omega)
    subst hα
    have hβ : β = 1 ∧ γ = 1 := by
      rw [hd] at hdd
      have : β = 0 ∨ β = 1 := by omega
      rcases this with rfl | rfl <;> omega
    obtain ⟨rfl, rfl⟩ := hβ
    have w1 : a = m4 * m4 - m3 * m4 + m3 * m3 := by grind
    have w2 : b = -2 * m2 * m4 + (m1 * m4 + m2 * m3) - 2 * m1 * m3 := by grind
    have w3 : c = m2 * m2 - m1 * m2 + m1 * m1 := by grind
    have hU : ∀ {t u : Int} (x : Int), x.natAbs ≤ 1 → t = x → u = x → ∃ Z, r_impl_Matrix_times (m1, m2, m3, m4) (0, -x, x, x) = some Z ∧ r_impl_Matrix_times Z (m4, -m2, -m3, m1) = some (matU a b c t u) ∧ r_impl_IsMatrix (matU a b c t u) = some true := by
      intro t u x hx ht hu
      subst ht hu
      exact conjT s1 s2 s3 s4 (by decide) (by rw [Int.natAbs_neg]; exact hx) hx hx ba bb bc (by omega) hx (by rw [w2]; grind) (by rw [w3]; grind) (by rw [w1]; grind) (by rw [w2]; grind)
    have hV : ∀ {t u : Int} (x : Int), x.natAbs ≤ 1 → t = x → u = -x → ∃ Z, r_impl_Matrix_times (m1, m2, m3, m4) (x, x, -x, 0) = some Z ∧ r_impl_Matrix_times Z (m4, -m2, -m3, m1) = some (matU a b c t u) ∧ r_impl_IsMatrix (matU a b c t u) = some true := by
      intro t u x hx ht hu
      subst ht hu
      exact conjT s1 s2 s3 s4 hx hx (by rw [Int.natAbs_neg]; exact hx) (by decide) ba bb bc (by omega) (by rw [Int.natAbs_neg]; exact hx) (by rw [w2]; grind) (by rw [w3]; grind) (by rw [w1]; grind) (by rw [w2]; grind)
    obtain ⟨B, hB⟩ : ∃ B, b = 2 * B + 1 := ⟨b / 2, by
      have j3 : 4 * a * c = 4 * (a * c) := by rw [Int.mul_assoc]
      rcases (show b % 2 = 0 ∨ b % 2 = 1 by omega) with h | h
      · obtain ⟨q, hq⟩ := Int.dvd_of_emod_eq_zero h
        have : b * b = 4 * (q * q) := by rw [hq]; grind
        omega
      · omega⟩
    refine fin (As := [matU a b c 2 0, matU a b c 1 1, matU a b c 1 (-1), matU a b c (-2) 0, matU a b c (-1) (-1), matU a b c (-1) 1]) (turns_3 (by decide)) (by simp) rfl (fun j hj hj2 => by
      match j, hj with
      | 0, _ => exact hI 1 (by decide) rfl
      | 1, _ => exact hU 1 (by decide) rfl rfl
      | 2, _ => exact hV 1 (by decide) rfl rfl
      | 3, _ => exact hI (-1) (by decide) rfl
      | 4, _ => exact hU (-1) (by decide) rfl rfl
      | 5, _ => exact hV (-1) (by decide) rfl rfl) ?_ ⟨_, rfl⟩
    intro m hm
    simp only [List.mem_cons, List.not_mem_nil, or_false] at hm
    rcases hm with rfl | rfl | rfl | rfl | rfl | rfl
    · exact aI
    · exact matU_autM (P := -B) (S := B + 1) (by omega) (by omega) (by omega)
    · exact matU_autM (P := B + 1) (S := -B) (by omega) (by omega) (by omega)
    · exact aJ
    · exact matU_autM (P := B) (S := -B - 1) (by omega) (by omega) (by omega)
    · exact matU_autM (P := -B - 1) (S := B) (by omega) (by omega) (by omega)
end Go.Proofs.Ytgeajejmikaniaa
