/-
  Neighbours of a class at a prime: zeros of the form modulo the prime, and the classes above them.
  Conditions: none.
-/
import Derived.Test.YtafomkclmkfjeaaWkIsM
namespace Go.Proofs.Ytafomkclmkfjeaa
set_option linter.unusedVariables false
set_option linter.unusedSimpArgs false

def cg (g : F3) : Nat := Int.gcd g.1 (Int.gcd g.2.1 g.2.2)
theorem cg_dvd (g : F3) : (cg g : Int) ∣ g.1 ∧ (cg g : Int) ∣ g.2.1 ∧ (cg g : Int) ∣ g.2.2 := ⟨Int.gcd_dvd_left _ _, Int.dvd_trans (Int.gcd_dvd_right _ _) (Int.gcd_dvd_left _ _), Int.dvd_trans (Int.gcd_dvd_right _ _) (Int.gcd_dvd_right _ _)⟩
theorem cg_gr {g : F3} {k : Int} (h1 : k ∣ g.1) (h2 : k ∣ g.2.1) (h3 : k ∣ g.2.2) : k ∣ (cg g : Int) := Int.dvd_coe_gcd h1 (Int.dvd_coe_gcd h2 h3)
def dv (n : Nat) (g : F3) : F3 := (Int.tdiv g.1 n, Int.tdiv g.2.1 n, Int.tdiv g.2.2 n)
theorem dv_mul {n : Nat} (hn : n ≠ 0) {x y z : Int} : dv n ((n : Int) * x, (n : Int) * y, (n : Int) * z) = (x, y, z) := by
  unfold dv
  simp only []
  rw [Int.mul_tdiv_cancel_left _ (show (n : Int) ≠ 0 by omega), Int.mul_tdiv_cancel_left _ (show (n : Int) ≠ 0 by omega), Int.mul_tdiv_cancel_left _ (show (n : Int) ≠ 0 by omega)]
theorem sb_dv {D : Int} {n : Nat} (hn : 2 ≤ n) {g : F3} (h : Sb ((n : Int) * n * D) g) (hc : cg g = n) : Sb D (dv n g) ∧ (∀ k : Int, k ∣ (dv n g).1 → k ∣ (dv n g).2.1 → k ∣ (dv n g).2.2 → k ∣ 1) ∧ g = ((n : Int) * (dv n g).1, (n : Int) * (dv n g).2.1, (n : Int) * (dv n g).2.2) := by
  obtain ⟨u1, u2, u3⟩ := cg_dvd g
  rw [hc] at u1 u2 u3
  obtain ⟨a, b, c⟩ := g
  obtain ⟨a1, aM, b1, b2, c1, cM, dis⟩ := h
  simp only [] at *
  obtain ⟨x, rfl⟩ := u1
  obtain ⟨y, rfl⟩ := u2
  obtain ⟨z, rfl⟩ := u3
  have hn0 : (n : Int) ≠ 0 := by omega
  rw [dv_mul (by omega)]
  have pos : ∀ t : Int, 1 ≤ n * t → 1 ≤ t := by
    intro t ht
    rcases Int.lt_or_le 0 t with h | h
    · exact h
    · have : (n : Int) * t ≤ n * 0 := Int.mul_le_mul_of_nonneg_left h (by omega)
      omega
  have le : ∀ t M : Int, 0 ≤ t → n * t ≤ M → t ≤ M := by
    intro t M h0 ht
    have : 1 * t ≤ n * t := Int.mul_le_mul_of_nonneg_right (by omega) h0
    omega
  refine ⟨⟨pos x a1, le x _ (by have := pos x a1; omega) aM, ?_, ?_, pos z c1, le z _ (by have := pos z c1; omega) cM, ?_⟩, ?_, rfl⟩
  · show -1900000 ≤ y
    rcases Int.le_total 0 y with h | h
    · omega
    · have := le (-y) 1900000 (by omega) (by rw [Int.mul_neg]; omega)
      omega
  · show y ≤ 1900000
    rcases Int.le_total 0 y with h | h
    · exact le y _ h b2
    · omega
  · show y * y - 4 * x * z = D
    have e : (n : Int) * n * (y * y - 4 * x * z) = n * n * D := by rw [← dis]; grind
    exact Int.eq_of_mul_eq_mul_left (by
      intro h
      rcases Int.mul_eq_zero.1 h with h | h <;> omega) e
  · intro k k1 k2 k3
    have h1 : (n : Int) * k ∣ (cg ((n : Int) * x, (n : Int) * y, (n : Int) * z) : Int) := cg_gr (Int.mul_dvd_mul_left _ k1) (Int.mul_dvd_mul_left _ k2) (Int.mul_dvd_mul_left _ k3)
    rw [hc] at h1
    have h2 : (n : Int) * k ∣ n * 1 := by rw [Int.mul_one]; exact h1
    exact Int.dvd_of_mul_dvd_mul_left hn0 h2
theorem rd_cls {D : Int} (hD : D < 0) {g : F3} (h : Sb D g) (hp : ∀ k : Int, k ∣ g.1 → k ∣ g.2.1 → k ∣ g.2.2 → k ∣ 1) : PrRc D (rd g) ∧ gC D hD (rd g) = gC D hD g := by
  obtain ⟨_, _, ⟨r1, r2⟩, r3, r4, _, _⟩ := rd_ok h hD
  have ha := h.a1
  refine ⟨⟨r1, r2, r3, fun k k1 k2 k3 => prim_eqf r4 hp k k1 k2 k3⟩, gC_eq.2 ?_⟩
  have := cl_of_eqf (show 0 < (rd g).1 by omega) (show 0 < g.1 by omega) r4
  rw [show fD g = D from h.dis] at this
  exact this
end Go.Proofs.Ytafomkclmkfjeaa
namespace Go.Proofs.Ytafomkclmkfjeaa
set_option linter.unusedVariables false
set_option linter.unusedSimpArgs false

theorem nd_inj {α : Type} {l : List α} (h : l.Nodup) {i j : Nat} (hi : i < l.length) (hj : j < l.length) (e : l[i] = l[j]) : i = j := by
  rcases Nat.lt_trichotomy i j with h1 | h1 | h1
  · exact absurd e (List.pairwise_iff_getElem.1 h i j hi hj h1)
  · exact h1
  · exact absurd e.symm (List.pairwise_iff_getElem.1 h j i hj hi h1)
theorem mkN {n : Nat} (h : n ≤ 1000000) : mk (n : Int) (n : Int) = some () := by
  unfold mk
  rw [leI_eq, leI_eq, leI_eq, decide_eq_true (by omega), decide_eq_true (by omega), decide_eq_true (by omega)]
  rfl
theorem cont_w {g : F3} (h1 : g.1.natAbs ≤ 2000000) (h2 : g.2.1.natAbs ≤ 2000000) (h3 : g.2.2.natAbs ≤ 2000000) : r_impl_Form_content g = some (cg g : Int) ∧ r_spec_foContent g = some (cg g : Int) := by
  obtain ⟨a, b, c⟩ := g
  simp only [] at h1 h2 h3
  have q1 := gcd_le (a := b) (b := c) (M := 2000000) (by omega) (by omega)
  have q2 := gcd_le (a := a) (b := b) (M := 2000000) (by omega) (by omega)
  constructor
  · simp only [r_impl_Form_content, gcd_val (a := b) (b := c) (by omega) (by omega), Option.bind_some]
    rw [gcd_val (by omega) (by omega), Option.bind_some]
    rfl
  · simp only [r_spec_foContent, tgcd_val (a := a) (b := b) (by omega) (by omega), Option.bind_some]
    rw [tgcd_val (by omega) (by omega), Option.bind_some]
    congr 2
    unfold cg Int.gcd
    simp [Nat.gcd_assoc]
def atP (n : Nat) (g : F3) : Bool := decide (cg g = n)
def nbs (f : F3) (n : Nat) : List F3 := ((subs f.1 f.2.1 f.2.2 n).filter (atP n)).map fun g => rd (dv n g)
theorem nb_run {D : Int} {n : Nat} (hn : 2 ≤ n) (hD : D < 0) (ys : List F3) (hy : ∀ g ∈ ys, Sb ((n : Int) * n * D) g) (hlen : ys.length ≤ 1000) : ∀ (k fu i : Nat) (acc : List F3), i + k = ys.length → k < fu → acc.length ≤ 1000 + i →
    r_impl_neighbours_L6 (n : Int) ys fu (i : Int) acc = some (acc ++ ((ys.drop i).filter (atP n)).map fun g => rd (dv n g)) ∧ r_spec_hkNeighbours_L6 (n : Int) ys fu (i : Int) acc = some (acc ++ ((ys.drop i).filter (atP n)).map fun g => rd (dv n g))
  | k, 0, i, acc, _, hf, _ => by omega
  | k, fu + 1, i, acc, hi, hf, ha => by
    rw [r_impl_neighbours_L6, r_spec_hkNeighbours_L6, ltI_eq]
    by_cases h1 : i < ys.length
    · rw [decide_eq_true (by omega), cond_true, cond_true, getNat h1]
      simp only [Option.bind_some]
      have hs := hy _ (List.getElem_mem h1)
      obtain ⟨a1, aM, b1, b2, c1, cM, dis⟩ := hs
      obtain ⟨k1, k2⟩ := cont_w (g := ys[i]) (by omega) (by omega) (by omega)
      rw [k1, k2]
      simp only [Option.bind_some]
      rw [List.drop_eq_getElem_cons h1, List.filter_cons]
      obtain ⟨k', rfl⟩ : ∃ k', k = k' + 1 := ⟨k - 1, by omega⟩
      by_cases hc : cg ys[i] = n
      · obtain ⟨s1, s2, s3⟩ := sb_dv hn (hy _ (List.getElem_mem h1)) hc
        obtain ⟨r1, r2, _⟩ := rd_ok s1 hD
        have e1 : atP n ys[i] = true := decide_eq_true hc
        have w1 : w64 (Int.tdiv ys[i].1 n) = (dv n ys[i]).1 := w64_in (n := (dv n ys[i]).1) (by have := s1.a1; have := s1.aM; omega)
        have w2 : w64 (Int.tdiv ys[i].2.1 n) = (dv n ys[i]).2.1 := w64_in (n := (dv n ys[i]).2.1) (by have := s1.b1; have := s1.b2; omega)
        have w3 : w64 (Int.tdiv ys[i].2.2 n) = (dv n ys[i]).2.2 := w64_in (n := (dv n ys[i]).2.2) (by have := s1.c1; have := s1.cM; omega)
        have r1' : r_impl_reduced ((dv n ys[i]).1, (dv n ys[i]).2.1, (dv n ys[i]).2.2) = some (rd (dv n ys[i])) := r1
        have r2' : r_spec_reClass ((dv n ys[i]).1, (dv n ys[i]).2.1, (dv n ys[i]).2.2) = some (rd (dv n ys[i])) := r2
        have e2 : eqI ((cg ys[i] : Nat) : Int) (n : Int) = true := by rw [hc]; exact eqSelf _
        rw [e2, cond_true, cond_true, nz_ne (show (n : Int) ≠ 0 by omega), e1, if_pos rfl]
        simp only [Option.bind_some, w1, w2, w3, r1', r2', sI_eq]
        rw [roomOk (by simp; omega)]
        simp only [Option.bind_some]
        rw [wsucc (by omega)]
        obtain ⟨j1, j2⟩ := nb_run hn hD ys hy hlen k' fu (i + 1) (acc ++ [rd (dv n ys[i])]) (by omega) (by omega) (by simp; omega)
        rw [j1, j2]
        simp only [List.map_cons, List.append_assoc, List.cons_append, List.nil_append, and_self]
      · have e1 : atP n ys[i] = false := decide_eq_false hc
        have e2 : eqI ((cg ys[i] : Nat) : Int) (n : Int) = false := eqI_false (by omega)
        rw [e2, cond_false, cond_false, e1, if_neg (by decide)]
        simp only [sI_eq]
        rw [wsucc (by omega)]
        exact nb_run hn hD ys hy hlen k' fu (i + 1) acc (by omega) (by omega) (by omega)
    · rw [decide_eq_false (by omega), cond_false, cond_false, List.drop_eq_nil_of_le (by omega)]
      simp
theorem nb_val {D : Int} {n : Nat} {f : F3} (h : Rr f.1 f.2.1 f.2.2 D) (hn : 2 ≤ n) (hn2 : n ≤ 43) : r_impl_neighbours f (n : Int) = some (nbs f n) ∧ (r_spec_reClass f = some f → r_spec_hkNeighbours f (n : Int) = some (nbs f n)) := by
  obtain ⟨m1, m2⟩ := mats_val (p := n) (by omega)
  obtain ⟨a1, a2⟩ := mats_act h hn hn2
  have hF := FUge
  have hlen : (mats n).length ≤ 1000 := by simp [mats]; omega
  have hlen2 : (subs f.1 f.2.1 f.2.2 n).length ≤ 1000 := by simp [subs]; omega
  have f1 : r_impl_sublatticeForms_L6 f (mats n) FU 0 [] = some (subs f.1 f.2.1 f.2.2 n) := by
    rw [← a2]
    exact map_all (r_impl_Form_substitute f) (actM f.1 f.2.1 f.2.2) (mats n) _ (fun n t l => by rw [r_impl_sublatticeForms_L6]) a1 hlen
  have f2 : r_spec_hkForms_L7 f (mats n) FU 0 [] = some (subs f.1 f.2.1 f.2.2 n) := by
    rw [← a2]
    exact map_all (r_impl_Form_substitute f) (actM f.1 f.2.1 f.2.2) (mats n) _ (fun n t l => by rw [r_spec_hkForms_L7, dsc_act]) a1 hlen
  obtain ⟨j1, j2⟩ := nb_run hn h.D2 (subs f.1 f.2.1 f.2.2 n) (subs_sb h hn hn2) hlen2 (subs f.1 f.2.1 f.2.2 n).length FU 0 [] (by omega) (by omega) (by simp)
  have e0 : (((0 : Nat) : Int)) = 0 := rfl
  rw [e0, List.drop_zero, List.nil_append] at j1 j2
  constructor
  · simp only [r_impl_neighbours, r_impl_sublatticeForms, m1, f1, j1, Option.bind_some]
    rfl
  · intro hf
    simp only [r_spec_hkNeighbours, r_spec_hkForms, hf, m2, f2, j2, Option.bind_some]
    rfl
theorem nbs_prc {D : Int} {n : Nat} {f : F3} (h : Rr f.1 f.2.1 f.2.2 D) (hn : 2 ≤ n) (hn2 : n ≤ 43) : ∀ y ∈ nbs f n, PrRc D y := by
  intro y hy
  obtain ⟨g, hg, rfl⟩ := List.mem_map.1 hy
  obtain ⟨hg1, hg2⟩ := List.mem_filter.1 hg
  obtain ⟨s1, s2, s3⟩ := sb_dv hn (subs_sb h hn hn2 g hg1) (of_decide_eq_true hg2)
  exact (rd_cls h.D2 s1 s2).1
theorem nbs_len (f : F3) (n : Nat) : (nbs f n).length ≤ n + 1 := by
  unfold nbs
  rw [List.length_map]
  refine Nat.le_trans (List.length_filter_le _ _) ?_
  simp [subs]
/-! ### Places in the list of classes -/
theorem mGet_put {κ ν : Type} [DecidableEq κ] (a e : κ) (v : ν) : ∀ m : List (κ × ν), mGet e (mPut a v m) = if e = a then some v else mGet e m
  | [] => by simp only [mPut, mGet]
  | p :: ps => by
    unfold mPut
    by_cases h : a = p.1
    · rw [if_pos h]
      simp only [mGet]
      by_cases h2 : e = a
      · rw [if_pos h2, if_pos h2]
      · rw [if_neg h2, if_neg h2, if_neg (fun h3 => h2 (h3.trans h.symm))]
    · rw [if_neg h]
      simp only [mGet]
      by_cases h2 : e = p.1
      · rw [if_pos h2, if_pos h2, if_neg (fun h3 => h (h3.symm.trans h2))]
      · rw [if_neg h2, if_neg h2]
        exact mGet_put a e v ps
theorem gmap_run (L : List F3) (hnd : L.Nodup) (hlen : L.length ≤ 100000) : ∀ (k fu i : Nat) (m : List (F3 × Int)), i + k = L.length → k < fu → (∀ j (h : j < L.length), j < i → mGet L[j] m = some (j : Int)) →
    ∃ m', r_impl_groupOf_L5 L fu (i : Int) m = some m' ∧ ∀ j (h : j < L.length), mGet L[j] m' = some (j : Int)
  | k, 0, i, m, _, hf, _ => by omega
  | k, fu + 1, i, m, hi, hf, hm => by
    rw [r_impl_groupOf_L5, ltI_eq]
    by_cases h1 : i < L.length
    · rw [decide_eq_true (by omega), cond_true, getNat h1]
      simp only [Option.bind_some, sI_eq]
      rw [wsucc (by omega)]
      obtain ⟨k', rfl⟩ : ∃ k', k = k' + 1 := ⟨k - 1, by omega⟩
      refine gmap_run L hnd hlen k' fu (i + 1) _ (by omega) (by omega) fun j h hj => ?_
      rw [mGet_put]
      by_cases e : j = i
      · subst e; rw [if_pos rfl]
      · rw [if_neg (fun h2 => e (nd_inj hnd _ _ h2)), hm j h (by omega)]
    · rw [decide_eq_false (by omega), cond_false]
      exact ⟨m, rfl, fun j h => hm j h (by omega)⟩
theorem gix_run (L : List F3) (hnd : L.Nodup) (hlen : L.length ≤ 100000) (j : Nat) (hj : j < L.length) : ∀ (k fu i : Nat), i + k = j → k < fu → r_spec_grIndex_L4 L[j] L fu (i : Int) = some (.inr (j : Int))
  | k, 0, i, _, hf => by omega
  | k, fu + 1, i, hi, hf => by
    rw [r_spec_grIndex_L4, ltI_eq, decide_eq_true (by omega), cond_true, getNat (show i < L.length by omega)]
    simp only [Option.bind_some]
    rw [eqB_iff]
    by_cases e : i = j
    · subst e
      rw [decide_eq_true rfl, cond_true]
    · rw [decide_eq_false (fun h2 => e (nd_inj hnd _ _ h2)), cond_false]
      simp only [sI_eq]
      rw [wsucc (by omega)]
      obtain ⟨k', rfl⟩ : ∃ k', k = k' + 1 := ⟨k - 1, by omega⟩
      exact gix_run L hnd hlen j hj k' fu (i + 1) (by omega) (by omega)
def ix (L : List F3) (y : F3) : Nat := L.idxOf y
theorem ix_ok {L : List F3} {y : F3} (h : y ∈ L) : ∃ h2 : ix L y < L.length, L[ix L y] = y := ⟨List.idxOf_lt_length_of_mem h, List.getElem_idxOf _⟩
theorem gix_val {L : List F3} (hnd : L.Nodup) (hlen : L.length ≤ 100000) {y : F3} (h : y ∈ L) : r_spec_grIndex L y = some (ix L y : Int) := by
  obtain ⟨h2, h3⟩ := ix_ok h
  have hF := FUge
  have := gix_run L hnd hlen (ix L y) h2 (ix L y) FU 0 (by omega) (by omega)
  have e0 : (((0 : Nat) : Int)) = 0 := rfl
  rw [e0, h3] at this
  simp only [r_spec_grIndex, this, Option.bind_some]
theorem gmap_val {L : List F3} (hnd : L.Nodup) (hlen : L.length ≤ 100000) : ∃ m, r_impl_groupOf_L5 L FU 0 [] = some m ∧ ∀ y ∈ L, mAt y m 0 = (ix L y : Int) := by
  have hF := FUge
  obtain ⟨m, h1, h2⟩ := gmap_run L hnd hlen L.length FU 0 [] (by omega) (by omega) (by intro j _ h; omega)
  refine ⟨m, h1, fun y hy => ?_⟩
  obtain ⟨k1, k2⟩ := ix_ok hy
  have := h2 (ix L y) k1
  rw [k2] at this
  unfold mAt
  rw [this]; rfl
/-! ### Rows -/
def bump (L : List F3) (row : List Int) (y : F3) : List Int := row.set (ix L y) (row.getD (ix L y) 0 + 1)
theorem bump_len (L : List F3) (row : List Int) (y : F3) : (bump L row y).length = row.length := by unfold bump; rw [List.length_set]
theorem row_run (L : List F3) (hnd : L.Nodup) (hlen : L.length ≤ 100000) {m : List (F3 × Int)} (hm : ∀ y ∈ L, mAt y m 0 = (ix L y : Int)) (ys : List F3) (hy : ∀ y ∈ ys, y ∈ L) (hyl : ys.length ≤ 1000) {l5 : List (List Int)} {p2 t4 : Int} :
    ∀ (k fu i : Nat) (row : List Int), i + k = ys.length → k < fu → row.length = L.length → (∀ x ∈ row, 0 ≤ x ∧ x ≤ i) →
    r_impl_neighbourMatrix_L14 l5 p2 t4 ys (L, m) fu (i : Int) row = some ((ys.drop i).foldl (bump L) row) ∧ r_spec_hkMatrix_L15 l5 p2 t4 ys L fu (i : Int) row = some ((ys.drop i).foldl (bump L) row)
  | k, 0, i, row, _, hf, _, _ => by omega
  | k, fu + 1, i, row, hi, hf, hr, hb => by
    rw [r_impl_neighbourMatrix_L14, r_spec_hkMatrix_L15, ltI_eq]
    by_cases h1 : i < ys.length
    · rw [decide_eq_true (by omega), cond_true, cond_true, getNat h1]
      simp only [Option.bind_some]
      have hmem := hy _ (List.getElem_mem h1)
      obtain ⟨k1, k2⟩ := ix_ok hmem
      rw [hm _ hmem, gix_val hnd hlen hmem]
      simp only [Option.bind_some]
      rw [getNat (show ix L ys[i] < row.length by omega)]
      simp only [Option.bind_some, sI_eq]
      have hx := hb _ (List.getElem_mem (show ix L ys[i] < row.length by omega))
      rw [wsucc (by omega), w64_in (n := row[ix L ys[i]] + 1) (by omega), List.drop_eq_getElem_cons h1, List.foldl_cons]
      have e : row.set (Int.toNat (ix L ys[i] : Int)) (row[ix L ys[i]] + 1) = bump L row ys[i] := by
        unfold bump
        rw [Int.toNat_natCast, List.getD_eq_getElem?_getD, List.getElem?_eq_getElem (show ix L ys[i] < row.length by omega)]
        rfl
      rw [e]
      obtain ⟨k', rfl⟩ : ∃ k', k = k' + 1 := ⟨k - 1, by omega⟩
      refine row_run L hnd hlen hm ys hy hyl k' fu (i + 1) (bump L row ys[i]) (by omega) (by omega) (by rw [bump_len]; exact hr) ?_
      intro x hx2
      rw [← e] at hx2
      rcases List.mem_or_eq_of_mem_set hx2 with h | h
      · have := hb x h; omega
      · omega
    · rw [decide_eq_false (by omega), cond_false, cond_false, List.drop_eq_nil_of_le (by omega)]
      exact ⟨rfl, rfl⟩
def rowOf (L : List F3) (ys : List F3) : List Int := ys.foldl (bump L) (List.replicate L.length 0)
theorem row_val {L : List F3} (hnd : L.Nodup) (hlen : L.length ≤ 100000) {m : List (F3 × Int)} (hm : ∀ y ∈ L, mAt y m 0 = (ix L y : Int)) {ys : List F3} (hy : ∀ y ∈ ys, y ∈ L) (hyl : ys.length ≤ 1000) (l5 : List (List Int)) (p2 t4 : Int) :
    r_impl_neighbourMatrix_L14 l5 p2 t4 ys (L, m) FU 0 (List.replicate (Int.toNat ((L.length : Int))) ((0 : Int))) = some (rowOf L ys) ∧ r_spec_hkMatrix_L15 l5 p2 t4 ys L FU 0 (List.replicate (Int.toNat ((L.length : Int))) ((0 : Int))) = some (rowOf L ys) := by
  have hF := FUge
  have := row_run L hnd hlen hm ys hy hyl (l5 := l5) (p2 := p2) (t4 := t4) ys.length FU 0 (List.replicate L.length 0) (by omega) (by omega) (by simp) (by intro x hx; rw [(List.mem_replicate.1 hx).2]; omega)
  have e0 : (((0 : Nat) : Int)) = 0 := rfl
  rw [e0, List.drop_zero] at this
  rw [Int.toNat_natCast]
  exact this
/-! ### The matrix -/
theorem mtx_run {D : Int} {n : Nat} (hn : 2 ≤ n) (hn2 : n ≤ 43) (hD1 : -2000 ≤ D) (hD : D < 0) (L : List F3) (hnd : L.Nodup) (hlen : L.length ≤ 100000) (hL : ∀ f, f ∈ L ↔ PrRc D f) {m : List (F3 × Int)} (hm : ∀ y ∈ L, mAt y m 0 = (ix L y : Int)) :
    ∀ (k fu i : Nat) (acc : List (List Int)), i + k = L.length → k < fu → acc.length ≤ 1000 + i →
    r_impl_neighbourMatrix_L6 (n : Int) (L, m) fu (i : Int) acc = some (acc ++ (L.drop i).map fun f => rowOf L (nbs f n)) ∧ r_spec_hkMatrix_L6 (n : Int) L fu (i : Int) acc = some (acc ++ (L.drop i).map fun f => rowOf L (nbs f n))
  | k, 0, i, acc, _, hf, _ => by omega
  | k, fu + 1, i, acc, hi, hf, ha => by
    rw [r_impl_neighbourMatrix_L6, r_spec_hkMatrix_L6]
    dsimp only
    rw [ltI_eq]
    by_cases h1 : i < L.length
    · rw [decide_eq_true (by omega), cond_true, cond_true, getNat h1]
      simp only [Option.bind_some]
      have hp := (hL _).1 (List.getElem_mem h1)
      have hr := rr_of hD1 hD hp
      obtain ⟨k1, k2⟩ := nb_val hr hn hn2
      rw [mkN (show L.length ≤ 1000000 by omega), k1, k2 (red_self hD1 hD hp).2]
      simp only [Option.bind_some]
      obtain ⟨r1, r2⟩ := row_val hnd hlen hm (fun y hy => (hL y).2 (nbs_prc hr hn hn2 y hy)) (by have := nbs_len L[i] n; omega) acc (n : Int) (i : Int)
      rw [r1, r2]
      simp only [Option.bind_some, sI_eq]
      rw [roomOk (by simp; omega)]
      simp only [Option.bind_some]
      rw [wsucc (by omega)]
      obtain ⟨k', rfl⟩ : ∃ k', k = k' + 1 := ⟨k - 1, by omega⟩
      obtain ⟨j1, j2⟩ := mtx_run hn hn2 hD1 hD L hnd hlen hL hm k' fu (i + 1) (acc ++ [rowOf L (nbs L[i] n)]) (by omega) (by omega) (by simp; omega)
      rw [j1, j2, List.drop_eq_getElem_cons h1]
      simp only [List.map_cons, List.append_assoc, List.cons_append, List.nil_append, and_self]
    · rw [decide_eq_false (by omega), cond_false, cond_false, List.drop_eq_nil_of_le (by omega)]
      simp
def nbM (L : List F3) (n : Nat) : List (List Int) := L.map fun f => rowOf L (nbs f n)
theorem mtx_val {D : Int} {n : Nat} (hn : 2 ≤ n) (hn2 : n ≤ 43) (hD1 : -2000 ≤ D) (hD : D < 0) {L : List F3} (hnd : L.Nodup) (hlen : L.length ≤ 100000) (hL : ∀ f, f ∈ L ↔ PrRc D f) (h1 : r_impl_reducedForms D = some L) (h2 : r_spec_reList D = some L) : r_impl_neighbourMatrix D (n : Int) = some (nbM L n) ∧ r_spec_hkMatrix D (n : Int) = some (nbM L n) := by
  have hF := FUge
  obtain ⟨m, m1, m2⟩ := gmap_val hnd hlen
  obtain ⟨j1, j2⟩ := mtx_run hn hn2 hD1 hD L hnd hlen hL m2 L.length FU 0 [] (by omega) (by omega) (by simp)
  have e0 : (((0 : Nat) : Int)) = 0 := rfl
  rw [e0, List.drop_zero, List.nil_append] at j1 j2
  constructor
  · simp only [r_impl_neighbourMatrix, r_impl_groupOf, h1, m1, j1, Option.bind_some]
    rfl
  · simp only [r_spec_hkMatrix, h2, j2, Option.bind_some]
    rfl
/-! ### What the rows hold -/
theorem fold_len (L : List F3) : ∀ (ys : List F3) (row : List Int), (ys.foldl (bump L) row).length = row.length
  | [], row => rfl
  | y :: ys, row => by rw [List.foldl_cons, fold_len L ys, bump_len]
theorem fold_at {L : List F3} (hnd : L.Nodup) : ∀ (ys : List F3) (row : List Int) (hr : row.length = L.length) (hy : ∀ y ∈ ys, y ∈ L) (j : Nat) (hj : j < L.length), (ys.foldl (bump L) row)[j]'(by rw [fold_len]; omega) = row[j]'(by omega) + (ys.count L[j] : Nat)
  | [], row, hr, hy, j, hj => by simp
  | y :: ys, row, hr, hy, j, hj => by
    have ih := fold_at hnd ys (bump L row y) (by rw [bump_len]; exact hr) (fun z hz => hy z (List.mem_cons_of_mem _ hz)) j hj
    simp only [List.foldl_cons]
    rw [ih, List.count_cons]
    obtain ⟨k1, k2⟩ := ix_ok (hy y (List.mem_cons_self ..))
    unfold bump
    simp only [List.getElem_set]
    by_cases e : ix L y = j
    · subst e
      rw [if_pos rfl, k2, beq_self_eq_true, if_pos rfl, List.getD_eq_getElem?_getD, List.getElem?_eq_getElem (show ix L y < row.length by omega)]
      simp only [Option.getD_some]
      push_cast
      omega
    · have hne : ¬ y = L[j] := fun h => e (nd_inj hnd _ _ (k2.trans h))
      rw [if_neg e, if_neg (by rw [beq_iff_eq]; exact hne)]
      omega
theorem sum_set : ∀ (row : List Int) (j : Nat) (h : j < row.length), (row.set j (row[j] + 1)).sum = row.sum + 1
  | [], j, h => by simp at h
  | x :: row, 0, h => by simp; omega
  | x :: row, j + 1, h => by
    have := sum_set row j (by simp at h; omega)
    simp only [List.set_cons_succ, List.sum_cons, List.getElem_cons_succ]
    omega
theorem fold_sum {L : List F3} : ∀ (ys : List F3) (row : List Int) (hr : row.length = L.length) (hy : ∀ y ∈ ys, y ∈ L), (ys.foldl (bump L) row).sum = row.sum + (ys.length : Nat)
  | [], row, hr, hy => by simp
  | y :: ys, row, hr, hy => by
    obtain ⟨k1, k2⟩ := ix_ok (hy y (List.mem_cons_self ..))
    have e : bump L row y = row.set (ix L y) (row[ix L y] + 1) := by
      unfold bump
      rw [List.getD_eq_getElem?_getD, List.getElem?_eq_getElem (show ix L y < row.length by omega)]
      rfl
    rw [List.foldl_cons, fold_sum ys (bump L row y) (by rw [bump_len]; exact hr) (fun z hz => hy z (List.mem_cons_of_mem _ hz)), e, sum_set, List.length_cons]
    push_cast
    omega
theorem rowOf_len (L ys : List F3) : (rowOf L ys).length = L.length := by unfold rowOf; rw [fold_len, List.length_replicate]
theorem rowOf_at {L : List F3} (hnd : L.Nodup) {ys : List F3} (hy : ∀ y ∈ ys, y ∈ L) {j : Nat} (hj : j < L.length) : (rowOf L ys)[j]'(by rw [rowOf_len]; exact hj) = (ys.count L[j] : Nat) := by
  have := fold_at hnd ys (List.replicate L.length 0) (by simp) hy j hj
  unfold rowOf
  rw [this]
  simp
theorem rowOf_sum {L : List F3} {ys : List F3} (hy : ∀ y ∈ ys, y ∈ L) : (rowOf L ys).sum = (ys.length : Nat) := by
  unfold rowOf
  rw [fold_sum ys _ (by simp) hy]
  have : ∀ n : Nat, (List.replicate n (0 : Int)).sum = 0 := by
    intro n
    induction n with
    | zero => rfl
    | succ n ih => rw [List.replicate_succ, List.sum_cons, ih]; rfl
  rw [this]; omega
end Go.Proofs.Ytafomkclmkfjeaa
