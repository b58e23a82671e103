/-
  The reference's automorphs: all solutions, in order.
  Conditions: none.
-/
import Derived.Test.YtnifkkihamgmaaaDoorAcAcIn
namespace Go.Proofs.YtnifkkihamgmaaaDoor
set_option linter.unusedVariables false
set_option linter.unusedSimpArgs false

def matU (a b c t u : Int) : M4 := ((t - b * u).tdiv 2, -c * u, a * u, (t + b * u).tdiv 2)
def stepU (a b c d t u : Int) (l : List M4) : List M4 := if t * t - d * u * u = 4 then insR (matU a b c t u) l else l
theorem stepU_srt {a b c d t u : Int} {l : List M4} (h : SrtM l) : SrtM (stepU a b c d t u l) := by
  unfold stepU
  split
  · exact insR_srt h
  · exact h
theorem stepU_len (a b c d t u : Int) (l : List M4) : (stepU a b c d t u l).length ≤ l.length + 1 := by
  unfold stepU
  split
  · rw [insR_len]; exact Nat.le_refl _
  · omega
theorem half_abs (x : Int) : (x.tdiv 2).natAbs ≤ x.natAbs := by
  rw [Int.natAbs_tdiv]
  exact Nat.div_le_self ..
theorem posM_len (m : M4) (l : List M4) : posM m l l.length ≤ l.length := posM_le m l _
theorem ab {x : Int} {A : Nat} (h : x.natAbs ≤ A) : -(A : Int) ≤ x ∧ x ≤ (A : Int) := by omega
theorem S17 {a b c d t u : Int} (ha : a.natAbs ≤ 1000000) (hb : b.natAbs ≤ 1000000) (hc : c.natAbs ≤ 1000000) (hd : d.natAbs ≤ 10000000000000) (ht : t.natAbs ≤ 2) (hu : u.natAbs ≤ 1) {l : List M4} (hs : SrtM l) (hl : l.length ≤ 100) (n : Nat) :
    r_spec_reAutomorphs_L17 a b c t d (n + 1) u l = r_spec_reAutomorphs_L17 a b c t d n (u + 1) (stepU a b c d t u l) := by
  have b1 := ab (abs_mul ht ht)
  have b3 := ab (abs_mul (abs_mul hd hu) hu)
  have b2 := ab (abs_mul hd hu)
  have b4' := abs_mul hb hu
  have b4 := ab b4'
  have b5 := ab (abs_mul (x := -c) (A := 1000000) (by rw [Int.natAbs_neg]; exact hc) hu)
  have b6 := ab (abs_mul ha hu)
  have b7 := ab (Nat.le_trans (half_abs (t - b * u)) (Nat.le_trans (Int.natAbs_sub_le t (b * u)) (Nat.add_le_add ht b4')))
  have b8 := ab (Nat.le_trans (half_abs (t + b * u)) (Nat.le_trans (Int.natAbs_add_le t (b * u)) (Nat.add_le_add ht b4')))
  have c1 := ab hc
  have c2 := ab ht
  have c3 := ab hu
  clear ha hb hc hd ht hu b4'
  conv => lhs; unfold r_spec_reAutomorphs_L17
  rw [leI_eq, decide_eq_true (by omega), cond_true, w64_in (n := t * t) (by omega), w64_in (n := d * u) (by omega), w64_in (n := d * u * u) (by omega), w64_in (n := t * t - d * u * u) (by omega), Option.bind_some]
  unfold stepU
  by_cases h : t * t - d * u * u = 4
  · rw [if_pos h, h, eqSelf]
    simp only [Bool.not_true, cond_false, sI_eq]
    rw [w64_in (n := b * u) (by omega), w64_in (n := t - b * u) (by omega), w64_in (n := t + b * u) (by omega), w64_in (n := (t - b * u).tdiv 2) (by omega), w64_in (n := (t + b * u).tdiv 2) (by omega), w64_in (n := 0 - c) (by omega), w64_in (n := a * u) (by omega), show (0 - c : Int) = -c by omega, w64_in (n := -c * u) (by omega), w64_in (n := u + 1) (by omega), roomOk (by simp; omega)]
    unfold matU
    rw [← insM_eq _ _ hs]
    generalize (t - b * u).tdiv 2 = f1
    generalize (t + b * u).tdiv 2 = f4
    generalize -c * u = f2
    generalize a * u = f3
    obtain ⟨x', hx⟩ := L30_run (f1, f2, f3, f4) l (by omega) a b c t u d FU l.length (f1, f2, f3, f4) (Nat.le_refl _) (by have := FUge; omega)
    have hp := posM_len (f1, f2, f3, f4) l
    rw [List.take_length, List.drop_length] at hx
    dsimp only at hx
    unfold insM
    generalize posM (f1, f2, f3, f4) l l.length = p at *
    have hg : getI (l.take p ++ x' :: l.drop p) (p : Int) = some x' := by
      rw [getNat (by simp; omega)]
      congr 1
      rw [List.getElem_append_right (by simp; omega)]
      simp [show p - min p l.length = 0 by omega]
    simp only [Option.bind_some, hx, hg, Int.toNat_natCast, set_mid hp]
  · rw [if_neg h, eqNe h]
    simp only [Bool.not_false, cond_true, sI_eq]
    rw [w64_in (n := u + 1) (by omega)]
def rowU (a b c d t : Int) (l : List M4) : List M4 := stepU a b c d t 1 (stepU a b c d t 0 (stepU a b c d t (-1) l))
theorem rowU_srt {a b c d t : Int} {l : List M4} (h : SrtM l) : SrtM (rowU a b c d t l) := stepU_srt (stepU_srt (stepU_srt h))
theorem rowU_len (a b c d t : Int) (l : List M4) : (rowU a b c d t l).length ≤ l.length + 3 := by
  have h1 := stepU_len a b c d t (-1) l
  have h2 := stepU_len a b c d t 0 (stepU a b c d t (-1) l)
  have h3 := stepU_len a b c d t 1 (stepU a b c d t 0 (stepU a b c d t (-1) l))
  unfold rowU
  omega
theorem L17_all {a b c d t : Int} (ha : a.natAbs ≤ 1000000) (hb : b.natAbs ≤ 1000000) (hc : c.natAbs ≤ 1000000) (hd : d.natAbs ≤ 10000000000000) (ht : t.natAbs ≤ 2) {l : List M4} (hs : SrtM l) (hl : l.length ≤ 50) :
    r_spec_reAutomorphs_L17 a b c t d FU (-1) l = some (rowU a b c d t l) := by
  obtain ⟨m, hm⟩ : ∃ m, FU = m + 1 + 1 + 1 + 1 := ⟨FU - 4, by have := FUge; omega⟩
  have h1 := stepU_len a b c d t (-1) l
  have h2 := stepU_len a b c d t 0 (stepU a b c d t (-1) l)
  rw [hm, S17 ha hb hc hd ht (by decide) hs (by omega), show (-1 + 1 : Int) = 0 from rfl, S17 ha hb hc hd ht (by decide) (stepU_srt hs) (by omega), show (0 + 1 : Int) = 1 from rfl, S17 ha hb hc hd ht (by decide) (stepU_srt (stepU_srt hs)) (by omega)]
  unfold r_spec_reAutomorphs_L17
  rfl
theorem S12 {a b c d t : Int} (ha : a.natAbs ≤ 1000000) (hb : b.natAbs ≤ 1000000) (hc : c.natAbs ≤ 1000000) (hd : d.natAbs ≤ 10000000000000) (ht : t.natAbs ≤ 2) {l : List M4} (hs : SrtM l) (hl : l.length ≤ 50) (n : Nat) :
    r_spec_reAutomorphs_L12 a b c d (n + 1) t l = r_spec_reAutomorphs_L12 a b c d n (t + 1) (rowU a b c d t l) := by
  conv => lhs; unfold r_spec_reAutomorphs_L12
  rw [leI_eq, decide_eq_true (by omega), cond_true, L17_all ha hb hc hd ht hs hl]
  simp only [Option.bind_some, sI_eq]
  rw [w64_in (n := t + 1) (by omega)]
def allU (a b c d : Int) : List M4 := rowU a b c d 2 (rowU a b c d 1 (rowU a b c d 0 (rowU a b c d (-1) (rowU a b c d (-2) []))))
theorem L12_all {a b c d : Int} (ha : a.natAbs ≤ 1000000) (hb : b.natAbs ≤ 1000000) (hc : c.natAbs ≤ 1000000) (hd : d.natAbs ≤ 10000000000000) : r_spec_reAutomorphs_L12 a b c d FU (-2) [] = some (allU a b c d) := by
  obtain ⟨m, hm⟩ : ∃ m, FU = m + 1 + 1 + 1 + 1 + 1 + 1 := ⟨FU - 6, by have := FUge; omega⟩
  have s0 : SrtM [] := List.Pairwise.nil
  have h1 := rowU_len a b c d (-2) []
  have h2 := rowU_len a b c d (-1) (rowU a b c d (-2) [])
  have h3 := rowU_len a b c d 0 (rowU a b c d (-1) (rowU a b c d (-2) []))
  have h4 := rowU_len a b c d 1 (rowU a b c d 0 (rowU a b c d (-1) (rowU a b c d (-2) [])))
  rw [List.length_nil] at h1
  rw [hm, S12 ha hb hc hd (by decide) s0 (by simp), show (-2 + 1 : Int) = -1 from rfl, S12 ha hb hc hd (by decide) (rowU_srt s0) (by omega), show (-1 + 1 : Int) = 0 from rfl, S12 ha hb hc hd (by decide) (rowU_srt (rowU_srt s0)) (by omega), show (0 + 1 : Int) = 1 from rfl,
    S12 ha hb hc hd (by decide) (rowU_srt (rowU_srt (rowU_srt s0))) (by omega), show (1 + 1 : Int) = 2 from rfl, S12 ha hb hc hd (by decide) (rowU_srt (rowU_srt (rowU_srt (rowU_srt s0)))) (by omega)]
  unfold r_spec_reAutomorphs_L12
  rfl
theorem all_far {a b c d : Int} (h : d ≤ -5) : allU a b c d = insR (matU a b c 2 0) (insR (matU a b c (-2) 0) []) := by
  unfold allU rowU stepU
  rw [if_neg (c := (-2) * (-2) - d * (-1) * (-1) = 4) (by omega), if_pos (c := (-2) * (-2) - d * 0 * 0 = 4) (by omega), if_neg (c := (-2) * (-2) - d * 1 * 1 = 4) (by omega),
    if_neg (c := (-1) * (-1) - d * (-1) * (-1) = 4) (by omega), if_neg (c := (-1) * (-1) - d * 0 * 0 = 4) (by omega), if_neg (c := (-1) * (-1) - d * 1 * 1 = 4) (by omega),
    if_neg (c := 0 * 0 - d * (-1) * (-1) = 4) (by omega), if_neg (c := 0 * 0 - d * 0 * 0 = 4) (by omega), if_neg (c := 0 * 0 - d * 1 * 1 = 4) (by omega),
    if_neg (c := 1 * 1 - d * (-1) * (-1) = 4) (by omega), if_neg (c := 1 * 1 - d * 0 * 0 = 4) (by omega), if_neg (c := 1 * 1 - d * 1 * 1 = 4) (by omega),
    if_neg (c := 2 * 2 - d * (-1) * (-1) = 4) (by omega), if_pos (c := 2 * 2 - d * 0 * 0 = 4) (by omega), if_neg (c := 2 * 2 - d * 1 * 1 = 4) (by omega)]
theorem all_4 (a b c : Int) : allU a b c (-4) = insR (matU a b c 2 0) (insR (matU a b c 0 1) (insR (matU a b c 0 (-1)) (insR (matU a b c (-2) 0) []))) := rfl
theorem all_3 (a b c : Int) : allU a b c (-3) = insR (matU a b c 2 0) (insR (matU a b c 1 1) (insR (matU a b c 1 (-1)) (insR (matU a b c (-1) 1) (insR (matU a b c (-1) (-1)) (insR (matU a b c (-2) 0) []))))) := rfl
end Go.Proofs.YtnifkkihamgmaaaDoor
