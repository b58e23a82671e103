/-
  Powers of a matrix by steps, both ways, and the walks that their entries tell of.
  Conditions: none.
-/
import Derived.Test.YtafomkclmkfjeaaWkNbY
namespace Go.Proofs.Ytafomkclmkfjeaa
set_option linter.unusedVariables false
set_option linter.unusedSimpArgs false

def A (l : List Int) (j : Nat) : Int := l.getD j 0
theorem A_at {l : List Int} {j : Nat} (h : j < l.length) : l[j] = A l j := by
  unfold A
  rw [List.getD_eq_getElem?_getD, List.getElem?_eq_getElem h]
  rfl
theorem getA {l : List Int} {j : Nat} (h : j < l.length) : getI l (j : Int) = some (A l j) := by rw [getNat h, A_at h]
theorem A_set {l : List Int} {i : Nat} {v : Int} (h : i < l.length) (j : Nat) : A (l.set i v) j = if i = j then v else A l j := by
  unfold A
  rw [List.getD_eq_getElem?_getD, List.getD_eq_getElem?_getD, List.getElem?_set]
  by_cases e : i = j
  · rw [if_pos e, if_pos e, if_pos (e ▸ h)]; rfl
  · rw [if_neg e, if_neg e]
def At (M : List (List Int)) (i : Nat) : List Int := M.getD i []
theorem At_at {M : List (List Int)} {i : Nat} (h : i < M.length) : M[i] = At M i := by
  unfold At
  rw [List.getD_eq_getElem?_getD, List.getElem?_eq_getElem h]
  rfl
theorem getAt {M : List (List Int)} {i : Nat} (h : i < M.length) : getI M (i : Int) = some (At M i) := by rw [getNat h, At_at h]
/-- A square matrix. -/
def Sq (N : Nat) (M : List (List Int)) : Prop := M.length = N ∧ ∀ i, i < N → (At M i).length = N
theorem add_run (e : Int) (r : List Int) (hN : r.length ≤ 100000) (Lp : Nat → Int → List Int → Option (List Int)) (hLp : ∀ n t l, Lp (n + 1) t l = bif (ltI t ((r.length : Int))) then ((getI r t).bind fun e41 => (getI l t).bind fun e42 => (getI l t).bind fun e43 => (getI l t).bind fun e44 => (getI l t).bind fun e45 => sI (w64 (t + 1)) fun t46 => Lp n t46 (l.set (Int.toNat (t)) (w64 (e43 + (w64 (e * e41)))))) else some l) :
    ∀ (k fu i : Nat) (l : List Int), i + k = r.length → k < fu → l.length = r.length → ∃ o, Lp fu (i : Int) l = some o ∧ o.length = r.length ∧ ∀ j, j < r.length → A o j = if i ≤ j then w64 (A l j + w64 (e * A r j)) else A l j
  | k, 0, i, l, _, hf, _ => by omega
  | k, fu + 1, i, l, hi, hf, hl => by
    rw [hLp, ltI_eq]
    by_cases h1 : i < r.length
    · rw [decide_eq_true (by omega), cond_true, getA h1, getA (show i < l.length by omega)]
      simp only [Option.bind_some, sI_eq, Int.toNat_natCast]
      rw [wsucc (by omega)]
      obtain ⟨o, o1, o2, o3⟩ := add_run e r hN Lp hLp (k - 1) fu (i + 1) (l.set i (w64 (A l i + w64 (e * A r i)))) (by omega) (by omega) (by rw [List.length_set]; exact hl)
      refine ⟨o, o1, o2, fun j hj => ?_⟩
      rw [o3 j hj, A_set (show i < l.length by omega)]
      by_cases e1 : i = j
      · subst e1
        rw [if_neg (by omega), if_pos rfl, if_pos (Nat.le_refl _)]
      · rw [if_neg e1]
        by_cases e2 : i + 1 ≤ j
        · rw [if_pos e2, if_pos (by omega)]
        · rw [if_neg e2, if_neg (by omega)]
    · rw [decide_eq_false (by omega), cond_false]
      exact ⟨l, rfl, hl, fun j hj => by rw [if_neg (by omega)]⟩
/-- A sum, wrapped at each step. -/
def sm (f : Nat → Int) : Nat → Nat → Int → Int
  | _, 0, s => s
  | i, k + 1, s => sm f (i + 1) k (w64 (s + f i))
theorem sm_zero (f : Nat → Int) : ∀ (k i : Nat) (s : Int), sm f i k s ≠ 0 → s ≠ 0 ∨ ∃ h, i ≤ h ∧ h < i + k ∧ f h ≠ 0
  | 0, i, s, h => .inl h
  | k + 1, i, s, h => by
    rcases sm_zero f k (i + 1) _ h with h1 | ⟨t, t1, t2, t3⟩
    · by_cases hs : s = 0
      · right
        refine ⟨i, Nat.le_refl _, by omega, fun hf => h1 ?_⟩
        rw [hs, hf]; rfl
      · exact .inl hs
    · exact .inr ⟨t, by omega, by omega, t3⟩
theorem step_run (M : List (List Int)) (row : List Int) {N : Nat} (hM : Sq N M) (hN : N ≤ 100000) (hr : row.length = N) (Lp : Nat → Int → List Int → Option (List Int)) (Lq : Int → List Int → Int → Nat → Int → List Int → Option (List Int))
    (hLq : ∀ e r t0 n t l, Lq e r t0 (n + 1) t l = bif (ltI t ((r.length : Int))) then ((getI r t).bind fun e41 => (getI l t).bind fun e42 => (getI l t).bind fun e43 => (getI l t).bind fun e44 => (getI l t).bind fun e45 => sI (w64 (t + 1)) fun t46 => Lq e r t0 n t46 (l.set (Int.toNat (t)) (w64 (e43 + (w64 (e * e41)))))) else some l)
    (hLp : ∀ n t l, Lp (n + 1) t l = bif (ltI t ((row.length : Int))) then ((getI row t).bind fun e33 => (getI M t).bind fun e34 => (getI M t).bind fun e35 => (Lq e33 e35 t FU 0 l).bind fun o39 => sI (w64 (t + 1)) fun t47 => Lp n t47 o39) else some l) :
    ∀ (k fu i : Nat) (l : List Int), i + k = N → k < fu → l.length = N → ∃ o, Lp fu (i : Int) l = some o ∧ o.length = N ∧ ∀ j, j < N → A o j = sm (fun h => w64 (A row h * A (At M h) j)) i k (A l j)
  | k, 0, i, l, _, hf, _ => by omega
  | 0, fu + 1, i, l, hi, hf, hl => by
    rw [hLp, ltI_eq, decide_eq_false (by omega), cond_false]
    exact ⟨l, rfl, hl, fun j hj => rfl⟩
  | k + 1, fu + 1, i, l, hi, hf, hl => by
    have hF := FUge
    rw [hLp, ltI_eq, decide_eq_true (by omega), cond_true, getA (show i < row.length by omega), getAt (show i < M.length by have := hM.1; omega)]
    simp only [Option.bind_some]
    have hri := hM.2 i (by omega)
    obtain ⟨o, o1, o2, o3⟩ := add_run (A row i) (At M i) (by omega) (Lq (A row i) (At M i) (i : Int)) (hLq _ _ _) N FU 0 l (by omega) (by omega) (by omega)
    have e0 : (((0 : Nat) : Int)) = 0 := rfl
    rw [e0] at o1
    rw [o1]
    simp only [Option.bind_some, sI_eq]
    rw [wsucc (by omega)]
    obtain ⟨o', p1, p2, p3⟩ := step_run M row hM hN hr Lp Lq hLq hLp k fu (i + 1) o (by omega) (by omega) (by omega)
    refine ⟨o', p1, p2, fun j hj => ?_⟩
    rw [p3 j hj, o3 j (by omega), if_pos (Nat.zero_le _)]
    rfl
def stepV (N : Nat) (M : List (List Int)) (row : List Int) : List Int := (List.range N).map fun j => sm (fun h => w64 (A row h * A (At M h) j)) 0 N 0
theorem stepV_len (N : Nat) (M : List (List Int)) (row : List Int) : (stepV N M row).length = N := by unfold stepV; simp
theorem stepV_at {N : Nat} (M : List (List Int)) (row : List Int) {j : Nat} (hj : j < N) : A (stepV N M row) j = sm (fun h => w64 (A row h * A (At M h) j)) 0 N 0 := by
  rw [← A_at (show j < (stepV N M row).length by rw [stepV_len]; exact hj)]
  unfold stepV
  rw [List.getElem_map, List.getElem_range]
theorem A_ext {l m : List Int} (h1 : l.length = m.length) (h : ∀ j, j < l.length → A l j = A m j) : l = m := by
  refine List.ext_getElem h1 fun j a b => ?_
  rw [A_at a, A_at b, h j a]
theorem A_rep (n j : Nat) : A (List.replicate n 0) j = 0 := by
  unfold A
  rw [List.getD_eq_getElem?_getD, List.getElem?_replicate]
  split <;> rfl
theorem step_val (M : List (List Int)) (row : List Int) {N : Nat} (hM : Sq N M) (hN : N ≤ 100000) (hr : row.length = N) (Lp : Nat → Int → List Int → Option (List Int)) (Lq : Int → List Int → Int → Nat → Int → List Int → Option (List Int))
    (hLq : ∀ e r t0 n t l, Lq e r t0 (n + 1) t l = bif (ltI t ((r.length : Int))) then ((getI r t).bind fun e41 => (getI l t).bind fun e42 => (getI l t).bind fun e43 => (getI l t).bind fun e44 => (getI l t).bind fun e45 => sI (w64 (t + 1)) fun t46 => Lq e r t0 n t46 (l.set (Int.toNat (t)) (w64 (e43 + (w64 (e * e41)))))) else some l)
    (hLp : ∀ n t l, Lp (n + 1) t l = bif (ltI t ((row.length : Int))) then ((getI row t).bind fun e33 => (getI M t).bind fun e34 => (getI M t).bind fun e35 => (Lq e33 e35 t FU 0 l).bind fun o39 => sI (w64 (t + 1)) fun t47 => Lp n t47 o39) else some l) :
    Lp FU 0 (List.replicate (Int.toNat ((M.length : Int))) ((0 : Int))) = some (stepV N M row) := by
  have hF := FUge
  obtain ⟨o, o1, o2, o3⟩ := step_run M row hM hN hr Lp Lq hLq hLp N FU 0 (List.replicate N 0) (by omega) (by omega) (by simp)
  have e0 : (((0 : Nat) : Int)) = 0 := rfl
  rw [e0] at o1
  rw [Int.toNat_natCast, hM.1, o1]
  congr 1
  refine A_ext (by rw [o2, stepV_len]) fun j hj => ?_
  rw [o3 j (by omega), stepV_at M row (by omega), A_rep]
def itV (N : Nat) (M : List (List Int)) : Nat → List Int → List Int
  | 0, row => row
  | k + 1, row => itV N M k (stepV N M row)
theorem itV_len (N : Nat) (M : List (List Int)) : ∀ (k : Nat) (row : List Int), row.length = N → (itV N M k row).length = N
  | 0, row, h => h
  | k + 1, row, h => itV_len N M k _ (stepV_len N M row)
theorem itV_succ (N : Nat) (M : List (List Int)) : ∀ (k : Nat) (row : List Int), itV N M (k + 1) row = stepV N M (itV N M k row)
  | 0, row => rfl
  | k + 1, row => itV_succ N M k (stepV N M row)
theorem it_run (M : List (List Int)) {N K : Nat} (hM : Sq N M) (hN : N ≤ 100000) (hK : K ≤ 1000) (Lp : Nat → List Int → Int → Option (List Int)) (hS : ∀ row vn n, row.length = N → (vn : Int) < K → Lp (n + 1) row vn = sI (w64 (vn + 1)) fun vn48 => Lp n (stepV N M row) vn48) (hE : ∀ row vn n, ¬ (vn : Int) < K → Lp (n + 1) row vn = some row) :
    ∀ (k fu i : Nat) (row : List Int), i + k = K → k < fu → row.length = N → Lp fu row (i : Int) = some (itV N M k row)
  | k, 0, i, row, _, hf, _ => by omega
  | 0, fu + 1, i, row, hi, hf, hl => by rw [hE _ _ _ (by omega)]; rfl
  | k + 1, fu + 1, i, row, hi, hf, hl => by
    rw [hS _ _ _ hl (by omega), sI_eq, wsucc (by omega), it_run M hM hN hK Lp hS hE k fu (i + 1) _ (by omega) (by omega) (stepV_len ..)]
    rfl
def unit (N i : Nat) : List Int := (List.replicate N (0 : Int)).set i 1
theorem unit_len (N i : Nat) : (unit N i).length = N := by unfold unit; simp
def walkM (N : Nat) (M : List (List Int)) (K : Nat) : List (List Int) := (List.range N).map fun i => itV N M K (unit N i)
theorem walk_run (M : List (List Int)) {N K : Nat} (hM : Sq N M) (hN : N ≤ 100000) (Lp : Nat → Int → List (List Int) → Option (List (List Int))) (hS : ∀ (i n : Nat) (l : List (List Int)), i < N → l.length ≤ 200000 → Lp (n + 1) (i : Int) l = sI (w64 ((i : Int) + 1)) fun t50 => Lp n t50 (l ++ ([itV N M K (unit N i)]))) (hE : ∀ (i n : Nat) (l : List (List Int)), ¬ i < N → Lp (n + 1) (i : Int) l = some l) :
    ∀ (k fu i : Nat) (acc : List (List Int)), i + k = N → k < fu → acc.length ≤ i → Lp fu (i : Int) acc = some (acc ++ ((List.range N).drop i).map fun i => itV N M K (unit N i))
  | k, 0, i, acc, _, hf, _ => by omega
  | 0, fu + 1, i, acc, hi, hf, hl => by
    rw [hE _ _ _ (by omega), List.drop_eq_nil_of_le (by simp; omega)]
    simp
  | k + 1, fu + 1, i, acc, hi, hf, hl => by
    rw [hS _ _ _ (by omega) (by omega), sI_eq, wsucc (by omega), walk_run M hM hN Lp hS hE k fu (i + 1) _ (by omega) (by omega) (by simp; omega), List.drop_eq_getElem_cons (show i < (List.range N).length by simp; omega)]
    simp only [List.map_cons, List.append_assoc, List.cons_append, List.nil_append, List.getElem_range]
theorem iwalk_val {M : List (List Int)} {N K : Nat} (hM : Sq N M) (hN : N ≤ 100000) (hK : K ≤ 1000) : r_impl_WalkMatrix_L15 (K : Int) M FU 0 [] = some (walkM N M K) := by
  have hF := FUge
  have := walk_run M (K := K) hM hN (r_impl_WalkMatrix_L15 (K : Int) M) ?_ ?_ N FU 0 [] (by omega) (by omega) (by simp)
  · have e0 : (((0 : Nat) : Int)) = 0 := rfl
    rw [e0, List.drop_zero, List.nil_append] at this
    exact this
  · intro i n l hi hl
    have hM1 := hM.1
    rw [r_impl_WalkMatrix_L15, ltI_eq, decide_eq_true (by omega), cond_true, mkN (by omega), Int.toNat_natCast, hM1, getNat (show i < (List.replicate N (0 : Int)).length by simp; exact hi)]
    simp only [Option.bind_some, Int.toNat_natCast]
    have hit := it_run M hM hN hK (r_impl_WalkMatrix_L24 (K : Int) l (i : Int) M) ?_ ?_ K FU 0 (unit N i) (by omega) (by omega) (unit_len ..)
    · have e0 : (((0 : Nat) : Int)) = 0 := rfl
      rw [e0] at hit
      show ((r_impl_WalkMatrix_L24 (K : Int) l (i : Int) M FU (unit N i) 0).bind _) = _
      rw [hit]
      simp only [Option.bind_some]
      rw [roomOk (by simp; omega)]
      rfl
    · intro row vn n hr hv
      rw [r_impl_WalkMatrix_L24, ltI_eq, decide_eq_true hv, cond_true, mkN (by omega)]
      simp only [Option.bind_some]
      rw [step_val M row hM hN hr (r_impl_WalkMatrix_L30 (K : Int) l row (i : Int) vn M) (fun e r t0 => r_impl_WalkMatrix_L38 e r (K : Int) l row (i : Int) t0 vn M) (fun e r t0 n t l => by rw [r_impl_WalkMatrix_L38]) (fun n t l => by rw [r_impl_WalkMatrix_L30])]
      rfl
    · intro row vn n hv
      rw [r_impl_WalkMatrix_L24, ltI_eq, decide_eq_false hv, cond_false]
  · intro i n l hi
    have hM1 := hM.1
    rw [r_impl_WalkMatrix_L15, ltI_eq, decide_eq_false (by omega), cond_false]
theorem swalk_val {M : List (List Int)} {N K : Nat} (hM : Sq N M) (hN : N ≤ 100000) (hK : K ≤ 1000) : r_spec_WalkMatrix_L15 (K : Int) M FU 0 [] = some (walkM N M K) := by
  have hF := FUge
  have := walk_run M (K := K) hM hN (r_spec_WalkMatrix_L15 (K : Int) M) ?_ ?_ N FU 0 [] (by omega) (by omega) (by simp)
  · have e0 : (((0 : Nat) : Int)) = 0 := rfl
    rw [e0, List.drop_zero, List.nil_append] at this
    exact this
  · intro i n l hi hl
    have hM1 := hM.1
    rw [r_spec_WalkMatrix_L15, ltI_eq, decide_eq_true (by omega), cond_true, mkN (by omega), Int.toNat_natCast, hM1, getNat (show i < (List.replicate N (0 : Int)).length by simp; exact hi)]
    simp only [Option.bind_some, Int.toNat_natCast]
    have hit := it_run M hM hN hK (r_spec_WalkMatrix_L24 (K : Int) l (i : Int) M) ?_ ?_ K FU 0 (unit N i) (by omega) (by omega) (unit_len ..)
    · have e0 : (((0 : Nat) : Int)) = 0 := rfl
      rw [e0] at hit
      show ((r_spec_WalkMatrix_L24 (K : Int) l (i : Int) M FU (unit N i) 0).bind _) = _
      rw [hit]
      simp only [Option.bind_some]
      rw [roomOk (by simp; omega)]
      rfl
    · intro row vn n hr hv
      rw [r_spec_WalkMatrix_L24, ltI_eq, decide_eq_true hv, cond_true, mkN (by omega)]
      simp only [Option.bind_some]
      rw [step_val M row hM hN hr (r_spec_WalkMatrix_L30 (K : Int) l row (i : Int) vn M) (fun e r t0 => r_spec_WalkMatrix_L38 e r (K : Int) l row (i : Int) t0 vn M) (fun e r t0 n t l => by rw [r_spec_WalkMatrix_L38]) (fun n t l => by rw [r_spec_WalkMatrix_L30])]
      rfl
    · intro row vn n hv
      rw [r_spec_WalkMatrix_L24, ltI_eq, decide_eq_false hv, cond_false]
  · intro i n l hi
    have hM1 := hM.1
    rw [r_spec_WalkMatrix_L15, ltI_eq, decide_eq_false (by omega), cond_false]
theorem walkM_len (N : Nat) (M : List (List Int)) (K : Nat) : (walkM N M K).length = N := by unfold walkM; simp
theorem walkM_at {N : Nat} (M : List (List Int)) (K : Nat) {i : Nat} (hi : i < N) : At (walkM N M K) i = itV N M K (unit N i) := by
  rw [← At_at (show i < (walkM N M K).length by rw [walkM_len]; exact hi)]
  unfold walkM
  rw [List.getElem_map, List.getElem_range]
/-! ### Walks -/
/-- There is a walk of k steps. -/
def Wlk (nx : F3 → List F3) : Nat → F3 → F3 → Prop
  | 0, f, g => f = g
  | k + 1, f, g => ∃ h, Wlk nx k f h ∧ g ∈ nx h
theorem walk_pos {N : Nat} {M : List (List Int)} {L : List F3} {nx : F3 → List F3} (hL : L.length = N) (hM : ∀ i j (hi : i < N) (hj : j < N), A (At M i) j ≠ 0 → L[j]'(by omega) ∈ nx (L[i]'(by omega))) {i : Nat} (hi : i < N) : ∀ (k j : Nat) (hj : j < N), A (itV N M k (unit N i)) j ≠ 0 → Wlk nx k (L[i]'(by omega)) (L[j]'(by omega))
  | 0, j, hj, h => by
    by_cases e : i = j
    · subst e; rfl
    · exfalso
      apply h
      show A (unit N i) j = 0
      unfold unit
      rw [A_set (by simp; exact hi), if_neg e, A_rep]
  | k + 1, j, hj, h => by
    rw [itV_succ, stepV_at M _ hj] at h
    rcases sm_zero _ _ _ _ h with h1 | ⟨t, _, t2, t3⟩
    · exact absurd rfl h1
    · have ht : t < N := by omega
      refine ⟨L[t]'(by omega), walk_pos hL hM hi k t ht (fun e => t3 ?_), hM t j ht hj (fun e => t3 ?_)⟩
      · rw [e, Int.zero_mul]; rfl
      · rw [e, Int.mul_zero]; rfl
end Go.Proofs.Ytafomkclmkfjeaa
namespace Go.Proofs.Ytafomkclmkfjeaa
set_option linter.unusedVariables false
set_option linter.unusedSimpArgs false

def LeastW (nx : F3 → List F3) (f g : F3) (r : Int × Bool) : Prop := (r.2 = true ∧ ∃ k : Nat, r.1 = k ∧ Wlk nx k f g ∧ ∀ k', Wlk nx k' f g → k ≤ k') ∨ (r = (0, false) ∧ ∀ k, ¬ Wlk nx k f g)
theorem res_uniq {nx : F3 → List F3} {f g : F3} {r r' : Int × Bool} (h : LeastW nx f g r) (h' : LeastW nx f g r') : r = r' := by
  rcases h with ⟨e, k, e1, w, m⟩ | ⟨e, n⟩
  · rcases h' with ⟨e', k', e1', w', m'⟩ | ⟨e', n'⟩
    · have h1 := m k' w'
      have h2 := m' k w
      refine Prod.ext ?_ (e.trans e'.symm)
      rw [e1, e1']; omega
    · exact absurd w (n' k)
  · rcases h' with ⟨e', k', e1', w', m'⟩ | ⟨e', n'⟩
    · exact absurd w' (n k')
    · rw [e, e']
/-! ### Lists that grow by what they lack -/
def pushN (l : List F3) (y : F3) : List F3 := if y ∈ l then l else l ++ [y]
def expN (nx : F3 → List F3) (l : List F3) (x : F3) : List F3 := (nx x).foldl pushN l
def Good (L l : List F3) : Prop := l.Nodup ∧ ∀ x ∈ l, x ∈ L
theorem good_len {L l : List F3} (h : Good L l) : l.length ≤ L.length := nodup_sub l L h.1 h.2
theorem push_mem {l : List F3} {y x : F3} : x ∈ pushN l y ↔ x ∈ l ∨ x = y := by
  unfold pushN
  by_cases h : y ∈ l
  · rw [if_pos h]
    exact ⟨.inl, fun h2 => h2.elim id fun e => e ▸ h⟩
  · rw [if_neg h, List.mem_append, List.mem_singleton]
theorem push_good {L l : List F3} {y : F3} (h : Good L l) (hy : y ∈ L) : Good L (pushN l y) := by
  refine ⟨?_, fun x hx => (push_mem.1 hx).elim (h.2 x) fun e => e ▸ hy⟩
  unfold pushN
  by_cases h2 : y ∈ l
  · rw [if_pos h2]; exact h.1
  · rw [if_neg h2, List.nodup_append]
    refine ⟨h.1, by simp, fun a ha b hb e => ?_⟩
    rw [List.mem_singleton] at hb
    exact h2 (hb ▸ e ▸ ha)
theorem push_pre (l : List F3) (y : F3) : ∃ t, pushN l y = l ++ t := by
  unfold pushN
  by_cases h2 : y ∈ l
  · exact ⟨[], by rw [if_pos h2, List.append_nil]⟩
  · exact ⟨[y], by rw [if_neg h2]⟩
theorem fp_mem {x : F3} : ∀ (ys l : List F3), x ∈ ys.foldl pushN l ↔ x ∈ l ∨ x ∈ ys
  | [], l => by simp
  | y :: ys, l => by
    rw [List.foldl_cons, fp_mem ys, push_mem, List.mem_cons, or_assoc]
theorem fp_good {L : List F3} : ∀ (ys l : List F3), Good L l → (∀ y ∈ ys, y ∈ L) → Good L (ys.foldl pushN l)
  | [], l, h, _ => h
  | y :: ys, l, h, hy => fp_good ys _ (push_good h (hy y (List.mem_cons_self ..))) fun z hz => hy z (List.mem_cons_of_mem _ hz)
theorem fp_pre : ∀ (ys l : List F3), ∃ t, ys.foldl pushN l = l ++ t
  | [], l => ⟨[], by simp⟩
  | y :: ys, l => by
    obtain ⟨t, ht⟩ := push_pre l y
    obtain ⟨u, hu⟩ := fp_pre ys (pushN l y)
    exact ⟨t ++ u, by rw [List.foldl_cons, hu, ht, List.append_assoc]⟩
theorem fe_mem {nx : F3 → List F3} {x : F3} : ∀ (xs l : List F3), x ∈ xs.foldl (expN nx) l ↔ x ∈ l ∨ ∃ z ∈ xs, x ∈ nx z
  | [], l => by simp
  | z :: xs, l => by
    rw [List.foldl_cons, fe_mem xs, expN, fp_mem, or_assoc]
    simp
theorem fe_good {L : List F3} {nx : F3 → List F3} (hnx : ∀ x ∈ L, ∀ y ∈ nx x, y ∈ L) : ∀ (xs l : List F3), Good L l → (∀ x ∈ xs, x ∈ L) → Good L (xs.foldl (expN nx) l)
  | [], l, h, _ => h
  | z :: xs, l, h, hz => fe_good hnx xs _ (fp_good _ _ h (hnx z (hz z (List.mem_cons_self ..)))) fun x hx => hz x (List.mem_cons_of_mem _ hx)
theorem fe_pre {nx : F3 → List F3} : ∀ (xs l : List F3), ∃ t, xs.foldl (expN nx) l = l ++ t
  | [], l => ⟨[], by simp⟩
  | z :: xs, l => by
    obtain ⟨t, ht⟩ := fp_pre (nx z) l
    obtain ⟨u, hu⟩ := fe_pre (nx := nx) xs (expN nx l z)
    exact ⟨t ++ u, by rw [List.foldl_cons, hu, expN, ht, List.append_assoc]⟩
theorem wlk_in {L : List F3} {nx : F3 → List F3} (hnx : ∀ x ∈ L, ∀ y ∈ nx x, y ∈ L) {f : F3} (hf : f ∈ L) : ∀ (k : Nat) (v : F3), Wlk nx k f v → v ∈ L
  | 0, v, h => by cases h; exact hf
  | k + 1, v, ⟨h, h1, h2⟩ => hnx h (wlk_in hnx hf k h h1) v h2
/-! ### By a queue -/
structure BF (L : List F3) (nx : F3 → List F3) (f g : F3) (i : Nat) (l : List F3) (lv : F3 → Int) : Prop where
  good : Good L l
  fst : f ∈ l ∧ lv f = 0
  il : i ≤ l.length
  nn : ∀ y ∈ l, 0 ≤ lv y ∧ lv y ≤ i
  real : ∀ y ∈ l, Wlk nx (lv y).toNat f y
  srt : ∀ a b (ha : a < l.length) (hb : b < l.length), a ≤ b → lv l[a] ≤ lv l[b]
  top : ∀ (h : i < l.length) b (hb : b < l.length), lv l[b] ≤ lv l[i] + 1
  cls : ∀ a (ha : a < l.length), a < i → l[a] ≠ g ∧ ∀ y ∈ nx l[a], y ∈ l ∧ lv y ≤ lv l[a] + 1
theorem BF.least {L : List F3} {nx : F3 → List F3} {f g : F3} {i : Nat} {l : List F3} {lv : F3 → Int} (h : BF L nx f g i l lv) (hi : i < l.length) : ∀ (k : Nat) (v : F3), Wlk nx k f v → (v ∈ l ∧ lv v ≤ k) ∨ lv l[i] ≤ k
  | 0, v, hw => by cases hw; exact .inl ⟨h.fst.1, by rw [h.fst.2]; omega⟩
  | k + 1, v, ⟨u, h1, h2⟩ => by
    rcases h.least hi k u h1 with ⟨h3, h4⟩ | h3
    · obtain ⟨a, ha, rfl⟩ := List.getElem_of_mem h3
      by_cases hai : a < i
      · obtain ⟨h5, h6⟩ := (h.cls a ha hai).2 v h2
        exact .inl ⟨h5, by omega⟩
      · have := h.srt i a hi ha (by omega)
        exact .inr (by omega)
    · exact .inr (by omega)
theorem BF.found {L : List F3} {nx : F3 → List F3} {f g : F3} {i : Nat} {l : List F3} {lv : F3 → Int} (h : BF L nx f g i l lv) (hi : i < l.length) (hg : l[i] = g) : LeastW nx f g (lv g, true) := by
  subst hg
  have hn := h.nn _ (List.getElem_mem hi)
  refine .inl ⟨rfl, (lv l[i]).toNat, by rw [Int.toNat_of_nonneg hn.1], h.real _ (List.getElem_mem hi), fun k' hk => ?_⟩
  rcases h.least hi k' _ hk with ⟨_, h2⟩ | h2 <;> omega
theorem BF.none {L : List F3} {nx : F3 → List F3} {f g : F3} {l : List F3} {lv : F3 → Int} (h : BF L nx f g l.length l lv) : LeastW nx f g (0, false) := by
  have hin : ∀ (k : Nat) (v : F3), Wlk nx k f v → v ∈ l := by
    intro k
    induction k with
    | zero => intro v hv; cases hv; exact h.fst.1
    | succ k ih =>
      rintro v ⟨u, h1, h2⟩
      obtain ⟨a, ha, rfl⟩ := List.getElem_of_mem (ih u h1)
      exact ((h.cls a ha ha).2 v h2).1
  refine .inr ⟨rfl, fun k hk => ?_⟩
  obtain ⟨a, ha, e⟩ := List.getElem_of_mem (hin k g hk)
  exact (h.cls a ha ha).1 e
theorem BF.step {L : List F3} {nx : F3 → List F3} {f g : F3} {i : Nat} {l : List F3} {lv lv' : F3 → Int} (hnx : ∀ x ∈ L, ∀ y ∈ nx x, y ∈ L) (h : BF L nx f g i l lv) (hi : i < l.length) (hg : l[i] ≠ g) (h1 : ∀ y ∈ l, lv' y = lv y) (h2 : ∀ y, y ∈ expN nx l l[i] → y ∉ l → lv' y = lv l[i] + 1) : BF L nx f g (i + 1) (expN nx l l[i]) lv' := by
  have hil := List.getElem_mem hi
  have hmem : ∀ y, y ∈ expN nx l l[i] ↔ y ∈ l ∨ y ∈ nx l[i] := fun y => by unfold expN; exact fp_mem _ _
  have hgood : Good L (expN nx l l[i]) := fp_good _ _ h.good (hnx _ (h.good.2 _ hil))
  obtain ⟨t, ht⟩ := fp_pre (nx l[i]) l
  have ht : expN nx l l[i] = l ++ t := ht
  generalize expN nx l l[i] = E at h2 hmem hgood ht ⊢
  have hlen : l.length ≤ E.length := by rw [ht, List.length_append]; omega
  have hold : ∀ a (ha : a < l.length), E[a]'(by omega) = l[a] := fun a ha => by
    simp only [ht]
    rw [List.getElem_append_left ha]
  have hnew : ∀ b (hb : b < E.length), l.length ≤ b → E[b] ∉ l := by
    intro b hb hlb hc
    obtain ⟨a, ha, e⟩ := List.getElem_of_mem hc
    have := nd_inj hgood.1 (show a < E.length by omega) hb (by rw [hold a ha, e])
    omega
  have hlvn : ∀ b (hb : b < E.length), l.length ≤ b → lv' E[b] = lv l[i] + 1 := fun b hb hlb => h2 _ (List.getElem_mem hb) (hnew b hb hlb)
  have hlvo : ∀ a (ha : a < l.length), lv' (E[a]'(by omega)) = lv l[a] := fun a ha => by rw [hold a ha, h1 _ (List.getElem_mem ha)]
  have hsrt : ∀ a b (ha : a < E.length) (hb : b < E.length), a ≤ b → lv' E[a] ≤ lv' E[b] := by
    intro a b ha hb hab
    by_cases hb2 : b < l.length
    · rw [hlvo b hb2, hlvo a (by omega)]
      exact h.srt a b (by omega) hb2 hab
    · rw [hlvn b hb (by omega)]
      by_cases ha2 : a < l.length
      · rw [hlvo a ha2]
        exact h.top hi a ha2
      · rw [hlvn a ha (by omega)]
        exact Int.le_refl _
  have hub : ∀ b (hb : b < E.length), lv' E[b] ≤ lv l[i] + 1 := by
    intro b hb
    by_cases hb2 : b < l.length
    · rw [hlvo b hb2]
      exact h.top hi b hb2
    · rw [hlvn b hb (by omega)]
      exact Int.le_refl _
  have hni := h.nn _ hil
  refine ⟨hgood, ⟨(hmem f).2 (.inl h.fst.1), by rw [h1 f h.fst.1, h.fst.2]⟩, by omega, fun y hy => ?_, fun y hy => ?_, hsrt, fun hh b hb => ?_, fun a ha hai => ?_⟩
  · by_cases hyl : y ∈ l
    · rw [h1 y hyl]
      have := h.nn y hyl
      omega
    · rw [h2 y hy hyl]
      omega
  · by_cases hyl : y ∈ l
    · rw [h1 y hyl]
      exact h.real y hyl
    · rw [h2 y hy hyl, show (lv l[i] + 1).toNat = (lv l[i]).toNat + 1 by omega]
      exact ⟨_, h.real _ hil, ((hmem y).1 hy).resolve_left hyl⟩
  · have k1 := hub b hb
    have k2 := hsrt i (i + 1) (by omega) hh (by omega)
    rw [hlvo i hi] at k2
    omega
  · by_cases hai2 : a < i
    · have ha2 : a < l.length := by omega
      rw [hold a ha2, h1 _ (List.getElem_mem ha2)]
      obtain ⟨c1, c2⟩ := h.cls a ha2 hai2
      refine ⟨c1, fun y hy => ?_⟩
      obtain ⟨c3, c4⟩ := c2 y hy
      exact ⟨(hmem y).2 (.inl c3), by rw [h1 y c3]; exact c4⟩
    · have e : a = i := by omega
      subst e
      rw [hold a hi, h1 _ hil]
      refine ⟨hg, fun y hy => ?_⟩
      have hy2 := (hmem y).2 (.inr hy)
      refine ⟨hy2, ?_⟩
      obtain ⟨b, hb, rfl⟩ := List.getElem_of_mem hy2
      exact hub b hb
/-! The program's loops. -/
theorem i36_run {p t23 : Int} {y9 x : F3} {L ys : List F3} (hys : ∀ y ∈ ys, y ∈ L) (hyl : ys.length ≤ 1000) (hLl : L.length ≤ 100000) {i : Nat} {lx : Int} (hlx : 0 ≤ lx ∧ lx ≤ 100000) : ∀ (k fu t : Nat) (l : List F3) (m : List (F3 × Int)), t + k = ys.length → k < fu → Good L l → (hi : i < l.length) → l[i] = x → (∀ y, mHas y m = decide (y ∈ l)) → mAt x m 0 = lx →
    ∃ m', r_impl_WalkDistance_L36 (i : Int) [p] t23 ys y9 fu (t : Int) l m = some ((ys.drop t).foldl pushN l, m') ∧ (∀ y, mHas y m' = decide (y ∈ (ys.drop t).foldl pushN l)) ∧ (∀ y ∈ l, mAt y m' 0 = mAt y m 0) ∧ ∀ y, y ∈ (ys.drop t).foldl pushN l → y ∉ l → mAt y m' 0 = lx + 1
  | k, 0, t, l, m, _, hf, _, _, _, _, _ => by omega
  | 0, fu + 1, t, l, m, ht, hf, hg, hi, hx, hm, hl => by
    rw [r_impl_WalkDistance_L36, ltI_eq, decide_eq_false (by omega), cond_false, List.drop_eq_nil_of_le (by omega)]
    exact ⟨m, rfl, hm, fun _ _ => rfl, fun y hy hn => absurd hy hn⟩
  | k + 1, fu + 1, t, l, m, ht, hf, hg, hi, hx, hm, hl => by
    have ht1 : t < ys.length := by omega
    rw [r_impl_WalkDistance_L36, ltI_eq, decide_eq_true (by omega), cond_true, getNat ht1]
    simp only [Option.bind_some]
    rw [hm, List.drop_eq_getElem_cons ht1, List.foldl_cons]
    have hyL := hys _ (List.getElem_mem ht1)
    by_cases hy : ys[t] ∈ l
    · have e : pushN l ys[t] = l := by unfold pushN; rw [if_pos hy]
      rw [decide_eq_true hy, e]
      simp only [Bool.not_true, cond_false, sI_eq]
      rw [wsucc (by omega)]
      exact i36_run hys hyl hLl hlx k fu (t + 1) l m (by omega) (by omega) hg hi hx hm hl
    · have e : pushN l ys[t] = l ++ [ys[t]] := by unfold pushN; rw [if_neg hy]
      have hll := good_len hg
      rw [decide_eq_false hy, e, getNat hi]
      simp only [Option.bind_some, Bool.not_false, cond_true, sI_eq]
      rw [hx, hl, roomOk (by simp; omega)]
      simp only [Option.bind_some]
      rw [wsucc (by omega), w64_in (n := lx + 1) (by omega)]
      have hxl : x ∈ l := hx ▸ List.getElem_mem hi
      have hxy : x ≠ ys[t] := fun e => hy (e ▸ hxl)
      have hat : ∀ y, mAt y (mPut ys[t] (lx + 1) m) 0 = if y = ys[t] then lx + 1 else mAt y m 0 := by
        intro y
        unfold mAt
        rw [mGet_put]
        by_cases e : y = ys[t]
        · rw [if_pos e, if_pos e]; rfl
        · rw [if_neg e, if_neg e]
      obtain ⟨m', k1, k2, k3, k4⟩ := i36_run (i := i) (x := x) hys hyl hLl hlx k fu (t + 1) (l ++ [ys[t]]) (mPut ys[t] (lx + 1) m) (by omega) (by omega) (by rw [← e]; exact push_good hg hyL) (by simp; omega) (by rw [List.getElem_append_left hi]; exact hx) (fun y => by
        have hmy := hm y
        unfold mHas at hmy ⊢
        rw [mGet_put]
        by_cases e : y = ys[t]
        · rw [if_pos e, decide_eq_true (by rw [e]; simp)]; rfl
        · rw [if_neg e, hmy]
          by_cases h : y ∈ l
          · rw [decide_eq_true h, decide_eq_true (List.mem_append_left _ h)]
          · rw [decide_eq_false h, decide_eq_false (fun h2 => (List.mem_append.1 h2).elim h fun h3 => e (List.mem_singleton.1 h3))]) (by rw [hat, if_neg hxy]; exact hl)
      refine ⟨m', k1, k2, fun y hyl => ?_, fun y hy1 hy2 => ?_⟩
      · rw [k3 y (List.mem_append_left _ hyl), hat, if_neg (show ¬ y = ys[t] from fun e => hy (e ▸ hyl))]
      · by_cases e2 : y = ys[t]
        · rw [k3 y (by rw [e2]; simp), hat, if_pos e2]
        · exact k4 y hy1 fun h => (List.mem_append.1 h).elim hy2 fun h3 => e2 (List.mem_singleton.1 h3)
/-- What the loops ask of the graph. -/
structure Gr (L : List F3) (nx : F3 → List F3) (p : Int) : Prop where
  len : L.length ≤ 100000
  inn : ∀ x ∈ L, ∀ y ∈ nx x, y ∈ L
  nl : ∀ x ∈ L, (nx x).length ≤ 1000
  imp : ∀ x ∈ L, r_impl_neighbours x p = some (nx x)
  spc : ∀ x ∈ L, r_spec_hkNeighbours x p = some (nx x)
theorem i26_val {L : List F3} {nx : F3 → List F3} {p : Int} (hG : Gr L nx p) {y9 : F3} {i : Nat} {l : List F3} {m : List (F3 × Int)} (hg : Good L l) (hi : i < l.length) (hm : ∀ y, mHas y m = decide (y ∈ l)) (hl : 0 ≤ mAt l[i] m 0 ∧ mAt l[i] m 0 ≤ 100000) :
    ∃ m', r_impl_WalkDistance_L26 (i : Int) [p] y9 FU 0 l m = some (expN nx l l[i], m') ∧ (∀ y, mHas y m' = decide (y ∈ expN nx l l[i])) ∧ (∀ y ∈ l, mAt y m' 0 = mAt y m 0) ∧ ∀ y, y ∈ expN nx l l[i] → y ∉ l → mAt y m' 0 = mAt l[i] m 0 + 1 := by
  have hF := FUge
  have hxL := hg.2 _ (List.getElem_mem hi)
  obtain ⟨m', k1, k2, k3, k4⟩ := i36_run (p := p) (t23 := 0) (y9 := y9) (hG.inn _ hxL) (hG.nl _ hxL) hG.len hl (nx l[i]).length FU 0 l m (by omega) (by have := hG.nl _ hxL; omega) hg hi rfl hm rfl
  have e0 : (((0 : Nat) : Int)) = 0 := rfl
  rw [e0, List.drop_zero] at k1
  rw [List.drop_zero] at k2 k4
  refine ⟨m', ?_, k2, k3, k4⟩
  have hp : getI [p] 0 = some p := rfl
  obtain ⟨fu, hfu⟩ : ∃ fu, FU = fu + 2 := ⟨FU - 2, by omega⟩
  have s1 : ∀ n, r_impl_WalkDistance_L26 (i : Int) [p] y9 (n + 1) 1 (expN nx l l[i]) m' = some (expN nx l l[i], m') := by
    intro n
    rw [r_impl_WalkDistance_L26]
    rfl
  have s0 : ∀ n, r_impl_WalkDistance_L26 (i : Int) [p] y9 (n + 1) 0 l m = r_impl_WalkDistance_L26 (i : Int) [p] y9 n 1 (expN nx l l[i]) m' := by
    intro n
    rw [r_impl_WalkDistance_L26]
    rw [ltI_eq, decide_eq_true (by simp), cond_true, hp]
    simp only [Option.bind_some]
    rw [getNat hi]
    simp only [Option.bind_some]
    rw [hG.imp _ hxL]
    simp only [Option.bind_some]
    rw [k1]
    rfl
  rw [show r_impl_WalkDistance_L26 (i : Int) [p] y9 FU 0 l m = r_impl_WalkDistance_L26 (i : Int) [p] y9 (fu + 2) 0 l m by rw [hfu], s0, s1]
theorem i15_run {L : List F3} {nx : F3 → List F3} {p : Int} (hG : Gr L nx p) {f g : F3} : ∀ (k fu i : Nat) (l : List F3) (m : List (F3 × Int)), L.length - i < k → k ≤ fu → BF L nx f g i l (fun y => mAt y m 0) → (∀ y, mHas y m = decide (y ∈ l)) →
    ∃ q, r_impl_WalkDistance_L15 [p] g fu (i : Int) l m = some q ∧ ((∃ r, q = .inr r ∧ LeastW nx f g r) ∨ (q = .inl () ∧ LeastW nx f g (0, false)))
  | 0, fu, i, l, m, hk, _, _, _ => by omega
  | k + 1, 0, i, l, m, _, hf, _, _ => by omega
  | k + 1, fu + 1, i, l, m, hk, hf, hB, hm => by
    have hll := good_len hB.good
    have hLl := hG.len
    rw [r_impl_WalkDistance_L15, ltI_eq]
    by_cases hi : i < l.length
    · rw [decide_eq_true (by omega), cond_true, getNat hi]
      simp only [Option.bind_some]
      rw [eqB_iff]
      by_cases hg : l[i] = g
      · rw [decide_eq_true hg, cond_true]
        simp only [sI_eq]
        exact ⟨_, rfl, .inl ⟨_, rfl, hB.found hi hg⟩⟩
      · rw [decide_eq_false hg, cond_false]
        have hn := hB.nn _ (List.getElem_mem hi)
        obtain ⟨m', k1, k2, k3, k4⟩ := i26_val hG (y9 := g) hB.good hi hm ⟨hn.1, by omega⟩
        rw [k1]
        simp only [Option.bind_some, sI_eq]
        rw [wsucc (by omega)]
        exact i15_run hG k fu (i + 1) _ m' (by omega) (by omega) (hB.step hG.inn hi hg k3 k4) k2
    · have e : i = l.length := by have := hB.il; omega
      subst e
      rw [decide_eq_false (by omega), cond_false]
      exact ⟨_, rfl, .inr ⟨rfl, hB.none⟩⟩
theorem i15_val {L : List F3} {nx : F3 → List F3} {p : Int} (hG : Gr L nx p) {f g : F3} (hf : f ∈ L) : ∃ r, ((r_impl_WalkDistance_L15 [p] g FU 0 ([f]) (mPut f 0 (([] : List ((F3 × Int)))))).bind fun qo16 =>
      match qo16 with
      | .inr r => some r
      | .inl o16 => some ((0, false))) = some r ∧ LeastW nx f g r := by
  have hF := FUge
  have hLl := hG.len
  have hat : mAt f (mPut f 0 (([] : List ((F3 × Int))))) 0 = 0 := by unfold mAt; rw [mGet_put, if_pos rfl]; rfl
  have e1 : ∀ a (ha : a < [f].length), [f][a] = f := fun a ha => by
    have : a = 0 := by simp at ha; exact ha
    subst this; rfl
  obtain ⟨q, h1, h2⟩ := i15_run hG (f := f) (g := g) (L.length + 1) FU 0 [f] (mPut f 0 []) (by omega) (by omega) ⟨⟨by simp, fun x hx => by rw [List.mem_singleton.1 hx]; exact hf⟩, ⟨by simp, hat⟩, by simp, fun y hy => by rw [List.mem_singleton.1 hy, hat]; omega, fun y hy => by rw [List.mem_singleton.1 hy, hat]; rfl, fun a b ha hb _ => by rw [e1 a ha, e1 b hb]; exact Int.le_refl _, fun h b hb => by rw [e1 b hb, e1 0 h]; omega, fun a ha h0 => by omega⟩ (fun y => by
    unfold mHas
    rw [mGet_put]
    by_cases e : y = f
    · rw [if_pos e, decide_eq_true (by rw [e]; simp)]; rfl
    · rw [if_neg e, decide_eq_false (by simpa using e)]; rfl)
  have e0 : (((0 : Nat) : Int)) = 0 := rfl
  rw [e0] at h1
  rw [h1]
  rcases h2 with ⟨r, rfl, hr⟩ | ⟨rfl, hr⟩
  · exact ⟨r, rfl, hr⟩
  · exact ⟨_, rfl, hr⟩
/-! ### By layers -/
structure BS (L : List F3) (nx : F3 → List F3) (f g : F3) (fr n : Nat) (l : List F3) : Prop where
  good : Good L l
  fl : fr ≤ l.length
  fst : f ∈ l
  real : ∀ y ∈ l.drop fr, Wlk nx n f y
  all : ∀ m, m ≤ n → ∀ y, Wlk nx m f y → y ∈ l
  cls : ∀ y ∈ l.take fr, y ≠ g ∧ ∀ z ∈ nx y, z ∈ l
  less : ∀ m, m < n → ¬ Wlk nx m f g
theorem td {l : List F3} {fr : Nat} {y : F3} (h : y ∈ l) : y ∈ l.take fr ∨ y ∈ l.drop fr := by
  rw [← List.take_append_drop fr l] at h
  exact List.mem_append.1 h
theorem BS.found {L : List F3} {nx : F3 → List F3} {f g : F3} {fr n : Nat} {l : List F3} (h : BS L nx f g fr n l) (hg : g ∈ l.drop fr) : LeastW nx f g ((n : Int), true) := by
  refine .inl ⟨rfl, n, rfl, h.real g hg, fun k' hk => ?_⟩
  rcases Nat.lt_or_ge k' n with h1 | h1
  · exact absurd hk (h.less k' h1)
  · exact h1
theorem BS.none {L : List F3} {nx : F3 → List F3} {f g : F3} {n : Nat} {l : List F3} (h : BS L nx f g l.length n l) : LeastW nx f g (0, false) := by
  have hc := h.cls
  rw [List.take_length] at hc
  have hin : ∀ (k : Nat) (v : F3), Wlk nx k f v → v ∈ l := by
    intro k
    induction k with
    | zero => intro v hv; cases hv; exact h.fst
    | succ k ih =>
      rintro v ⟨u, h1, h2⟩
      exact (hc u (ih u h1)).2 v h2
  exact .inr ⟨rfl, fun k hk => (hc g (hin k g hk)).1 rfl⟩
theorem BS.step {L : List F3} {nx : F3 → List F3} {f g : F3} {fr n : Nat} {l : List F3} (hnx : ∀ x ∈ L, ∀ y ∈ nx x, y ∈ L) (h : BS L nx f g fr n l) (hg : g ∉ l.drop fr) : BS L nx f g l.length (n + 1) ((l.drop fr).foldl (expN nx) l) := by
  have hmem : ∀ y, y ∈ (l.drop fr).foldl (expN nx) l ↔ y ∈ l ∨ ∃ z ∈ l.drop fr, y ∈ nx z := fun y => fe_mem _ _
  have hgood : Good L ((l.drop fr).foldl (expN nx) l) := fe_good hnx _ _ h.good fun x hx => h.good.2 x (List.mem_of_mem_drop hx)
  obtain ⟨t, ht⟩ := fe_pre (nx := nx) (l.drop fr) l
  rw [ht] at hmem hgood ⊢
  refine ⟨hgood, by simp, List.mem_append_left _ h.fst, fun y hy => ?_, fun m hm y hw => ?_, fun y hy => ?_, fun m hm hw => ?_⟩
  · rw [List.drop_left] at hy
    have hyl : y ∉ l := fun hc => (List.nodup_append.1 hgood.1).2.2 y hc y hy rfl
    obtain ⟨z, hz, hyz⟩ := ((hmem y).1 (List.mem_append_right _ hy)).resolve_left hyl
    exact ⟨z, h.real z hz, hyz⟩
  · rcases Nat.lt_or_ge n m with h1 | h1
    · have e : m = n + 1 := by omega
      subst e
      obtain ⟨u, hu, huy⟩ := hw
      rcases td (fr := fr) (h.all n (Nat.le_refl _) u hu) with h2 | h2
      · exact List.mem_append_left _ ((h.cls u h2).2 y huy)
      · exact (hmem y).2 (.inr ⟨u, h2, huy⟩)
    · exact List.mem_append_left _ (h.all m h1 y hw)
  · rw [List.take_left] at hy
    rcases td (fr := fr) hy with h2 | h2
    · exact ⟨(h.cls y h2).1, fun z hz => List.mem_append_left _ ((h.cls y h2).2 z hz)⟩
    · exact ⟨fun e => hg (e ▸ h2), fun z hz => (hmem z).2 (.inr ⟨y, h2, hz⟩)⟩
  · rcases Nat.lt_or_ge m n with h1 | h1
    · exact h.less m h1 hw
    · have e : m = n := by omega
      subst e
      rcases td (fr := fr) (h.all m (Nat.le_refl _) g hw) with h2 | h2
      · exact (h.cls g h2).1 rfl
      · exact hg h2
/-! The reference's loops. -/
theorem cyhas_run (f : F3) (ys : List F3) (hlen : ys.length ≤ 1000000) : ∀ (k fu i : Nat), i + k = ys.length → k < fu → r_spec_cyHas_L4 f ys fu (i : Int) = some (if f ∈ ys.drop i then .inr true else .inl ())
  | k, 0, i, _, hf => by omega
  | 0, fu + 1, i, hi, hf => by
    rw [r_spec_cyHas_L4, ltI_eq, decide_eq_false (by omega), cond_false, List.drop_eq_nil_of_le (by omega)]
    simp
  | k + 1, fu + 1, i, hi, hf => by
    have h1 : i < ys.length := by omega
    rw [r_spec_cyHas_L4, ltI_eq, decide_eq_true (by omega), cond_true, getNat h1]
    simp only [Option.bind_some]
    rw [eqB_iff, List.drop_eq_getElem_cons h1]
    by_cases h2 : ys[i] = f
    · rw [decide_eq_true h2, cond_true, if_pos (by rw [h2]; exact List.mem_cons_self ..)]
    · rw [decide_eq_false h2, cond_false]
      simp only [sI_eq]
      rw [wsucc (by omega), cyhas_run f ys hlen k fu (i + 1) (by omega) (by omega)]
      by_cases h3 : f ∈ ys.drop (i + 1)
      · rw [if_pos h3, if_pos (List.mem_cons_of_mem _ h3)]
      · rw [if_neg h3, if_neg (fun hm => (List.mem_cons.1 hm).elim (fun e => h2 e.symm) h3)]
theorem cyhas_val (f : F3) (ys : List F3) (hlen : ys.length ≤ 100000) : r_spec_cyHas ys f = some (decide (f ∈ ys)) := by
  have hF := FUge
  have := cyhas_run f ys (by omega) ys.length FU 0 (by omega) (by omega)
  have e0 : (((0 : Nat) : Int)) = 0 := rfl
  rw [e0, List.drop_zero] at this
  simp only [r_spec_cyHas, this, Option.bind_some]
  by_cases h : f ∈ ys <;> simp [h]
theorem s44_run {e34 y9 : F3} {L l13 ys : List F3} {pr : List Int} {t28 t29 t35 vf vn : Int} (hys : ∀ y ∈ ys, y ∈ L) (hyl : ys.length ≤ 1000) (hLl : L.length ≤ 100000) : ∀ (k fu t : Nat) (l : List F3), t + k = ys.length → k < fu → Good L (l13 ++ l) →
    ∃ o, r_spec_WalkDistance_L44 e34 l13 pr t28 t29 t35 vf vn ys y9 fu (t : Int) l = some o ∧ l13 ++ o = (ys.drop t).foldl pushN (l13 ++ l)
  | k, 0, t, l, _, hf, _ => by omega
  | 0, fu + 1, t, l, ht, hf, hg => by
    rw [r_spec_WalkDistance_L44, ltI_eq, decide_eq_false (by omega), cond_false, List.drop_eq_nil_of_le (by omega)]
    exact ⟨l, rfl, rfl⟩
  | k + 1, fu + 1, t, l, ht, hf, hg => by
    have ht1 : t < ys.length := by omega
    have hll := good_len hg
    rw [r_spec_WalkDistance_L44, ltI_eq, decide_eq_true (by omega), cond_true, getNat ht1]
    simp only [Option.bind_some]
    rw [cyhas_val _ _ (by omega), List.drop_eq_getElem_cons ht1, List.foldl_cons]
    simp only [Option.bind_some]
    by_cases hy : ys[t] ∈ l13 ++ l
    · have e : pushN (l13 ++ l) ys[t] = l13 ++ l := by unfold pushN; rw [if_pos hy]
      rw [decide_eq_true hy, e]
      simp only [Bool.not_true, cond_false, sI_eq]
      rw [wsucc (by omega)]
      exact s44_run hys hyl hLl k fu (t + 1) l (by omega) (by omega) hg
    · have e : pushN (l13 ++ l) ys[t] = l13 ++ (l ++ [ys[t]]) := by unfold pushN; rw [if_neg hy, List.append_assoc]
      rw [decide_eq_false hy, roomOk (by simp at hll ⊢; omega)]
      simp only [Option.bind_some, Bool.not_false, cond_true, sI_eq]
      rw [wsucc (by omega), e]
      exact s44_run hys hyl hLl k fu (t + 1) (l ++ [ys[t]]) (by omega) (by omega) (by rw [← e]; exact push_good hg (hys _ (List.getElem_mem ht1)))
theorem s37_val {L : List F3} {nx : F3 → List F3} {p : Int} (hG : Gr L nx p) {x y9 : F3} (hx : x ∈ L) {l13 l : List F3} {t28 t29 vf vn : Int} (hg : Good L (l13 ++ l)) : ∃ o, r_spec_WalkDistance_L37 x l13 [p] t28 t29 vf vn y9 FU 0 l = some o ∧ l13 ++ o = expN nx (l13 ++ l) x := by
  have hF := FUge
  obtain ⟨o, o1, o2⟩ := s44_run (e34 := x) (y9 := y9) (pr := [p]) (t28 := t28) (t29 := t29) (t35 := 0) (vf := vf) (vn := vn) (hG.inn x hx) (hG.nl x hx) hG.len (nx x).length FU 0 l (by omega) (by have := hG.nl x hx; omega) hg
  have e0 : (((0 : Nat) : Int)) = 0 := rfl
  rw [e0] at o1
  rw [List.drop_zero] at o2
  refine ⟨o, ?_, o2⟩
  have hp : getI [p] 0 = some p := rfl
  obtain ⟨fu, hfu⟩ : ∃ fu, FU = fu + 2 := ⟨FU - 2, by omega⟩
  have s1 : ∀ n, r_spec_WalkDistance_L37 x l13 [p] t28 t29 vf vn y9 (n + 1) 1 o = some o := by
    intro n
    rw [r_spec_WalkDistance_L37]
    rfl
  have s0 : ∀ n, r_spec_WalkDistance_L37 x l13 [p] t28 t29 vf vn y9 (n + 1) 0 l = r_spec_WalkDistance_L37 x l13 [p] t28 t29 vf vn y9 n 1 o := by
    intro n
    rw [r_spec_WalkDistance_L37]
    rw [ltI_eq, decide_eq_true (by simp), cond_true, hp]
    simp only [Option.bind_some]
    rw [hG.spc _ hx]
    simp only [Option.bind_some]
    rw [o1]
    rfl
  rw [show r_spec_WalkDistance_L37 x l13 [p] t28 t29 vf vn y9 FU 0 l = r_spec_WalkDistance_L37 x l13 [p] t28 t29 vf vn y9 (fu + 2) 0 l by rw [hfu], s0, s1]
theorem vwi_at {l : List F3} {fr t : Nat} (h : t < (l.drop fr).length) : vwi l (fr : Int) (t : Int) = some (l.drop fr)[t] := by
  unfold vwi
  rw [leI_eq, leI_eq, decide_eq_true (by omega), decide_eq_true (by omega)]
  have h2 : fr + t < l.length := by rw [List.length_drop] at h; omega
  show getI l ((fr : Int) + t) = _
  rw [show (fr : Int) + t = ((fr + t : Nat) : Int) by omega, getNat h2, List.getElem_drop]
theorem vwl_at {l : List F3} {fr : Nat} : vwl l.length (fr : Int) = ((l.drop fr).length : Int) := by
  unfold vwl
  rw [Int.toNat_natCast, List.length_drop]
theorem s20_run {pr : List Int} {l : List F3} {fr : Nat} {vn : Int} {g : F3} (hl : l.length ≤ 100000) : ∀ (k fu t : Nat), t + k = (l.drop fr).length → k < fu → r_spec_WalkDistance_L20 l pr ((l.drop fr).length : Int) (fr : Int) vn g fu (t : Int) = some (if g ∈ (l.drop fr).drop t then .inr (vn, true) else .inl ())
  | k, 0, t, _, hf => by omega
  | 0, fu + 1, t, ht, hf => by
    rw [r_spec_WalkDistance_L20, ltI_eq, decide_eq_false (by omega), cond_false, List.drop_eq_nil_of_le (by omega)]
    simp
  | k + 1, fu + 1, t, ht, hf => by
    have h1 : t < (l.drop fr).length := by omega
    have h3 : (l.drop fr).length ≤ l.length := by rw [List.length_drop]; omega
    rw [r_spec_WalkDistance_L20, ltI_eq, decide_eq_true (by omega), cond_true, vwi_at h1]
    simp only [Option.bind_some]
    rw [eqB_iff, List.drop_eq_getElem_cons h1]
    by_cases h2 : (l.drop fr)[t] = g
    · rw [decide_eq_true h2, cond_true, if_pos (by rw [h2]; exact List.mem_cons_self ..)]
    · rw [decide_eq_false h2, cond_false]
      simp only [sI_eq]
      rw [wsucc (by omega), s20_run hl k fu (t + 1) (by omega) (by omega)]
      by_cases h3 : g ∈ (l.drop fr).drop (t + 1)
      · rw [if_pos h3, if_pos (List.mem_cons_of_mem _ h3)]
      · rw [if_neg h3, if_neg (fun hm => (List.mem_cons.1 hm).elim (fun e => h2 e.symm) h3)]
theorem s31_run {L : List F3} {nx : F3 → List F3} {p : Int} (hG : Gr L nx p) {y9 : F3} {l13 : List F3} {fr : Nat} {vn : Int} (hsub : ∀ x ∈ l13, x ∈ L) (hl : l13.length ≤ 100000) : ∀ (k fu t : Nat) (l : List F3), t + k = (l13.drop fr).length → k < fu → Good L (l13 ++ l) →
    r_spec_WalkDistance_L31 l13 [p] ((l13.drop fr).length : Int) (fr : Int) vn y9 fu (t : Int) l = some (((l13.drop fr).drop t).foldl (expN nx) (l13 ++ l))
  | k, 0, t, l, _, hf, _ => by omega
  | 0, fu + 1, t, l, ht, hf, hg => by
    rw [r_spec_WalkDistance_L31, ltI_eq, decide_eq_false (by omega), cond_false, List.drop_eq_nil_of_le (by omega)]
    rfl
  | k + 1, fu + 1, t, l, ht, hf, hg => by
    have h1 : t < (l13.drop fr).length := by omega
    have h3 : (l13.drop fr).length ≤ l13.length := by rw [List.length_drop]; omega
    have hx : (l13.drop fr)[t] ∈ L := hsub _ (List.mem_of_mem_drop (List.getElem_mem h1))
    rw [r_spec_WalkDistance_L31, ltI_eq, decide_eq_true (by omega), cond_true, vwi_at h1]
    simp only [Option.bind_some]
    obtain ⟨o, o1, o2⟩ := s37_val hG (y9 := y9) hx (t28 := ((l13.drop fr).length : Int)) (t29 := (t : Int)) (vf := (fr : Int)) (vn := vn) hg
    rw [o1]
    simp only [Option.bind_some, sI_eq]
    rw [wsucc (by omega), s31_run hG hsub hl k fu (t + 1) o (by omega) (by omega) (by rw [o2]; exact fp_good _ _ hg (hG.inn _ hx)), o2, List.drop_eq_getElem_cons h1, List.foldl_cons]
theorem s14_run {L : List F3} {nx : F3 → List F3} {p : Int} (hG : Gr L nx p) {f g : F3} : ∀ (k fu fr n : Nat) (l : List F3), L.length - fr < k → k ≤ fu → n ≤ fr → BS L nx f g fr n l →
    ∃ q, r_spec_WalkDistance_L14 [p] g fu (fr : Int) (n : Int) l = some q ∧ ((∃ r, q = .inr r ∧ LeastW nx f g r) ∨ (q = .inl () ∧ LeastW nx f g (0, false)))
  | 0, fu, fr, n, l, hk, _, _, _ => by omega
  | k + 1, 0, fr, n, l, _, hf, _, _ => by omega
  | k + 1, fu + 1, fr, n, l, hk, hf, hn, hB => by
    have hF := FUge
    have hll := good_len hB.good
    have hLl := hG.len
    have h3 : (l.drop fr).length ≤ l.length := by rw [List.length_drop]; omega
    rw [r_spec_WalkDistance_L14, ltI_eq]
    by_cases hi : fr < l.length
    · have hvg : vwg l.length (fr : Int) (l.length : Int) = some () := by
        unfold vwg
        rw [leI_eq, ltI_eq, eqI_true, decide_eq_true (by omega), decide_eq_true (by omega)]
        rfl
      rw [decide_eq_true (by omega), cond_true, hvg]
      simp only [Option.bind_some, sI_eq]
      rw [vwl_at]
      have hs := s20_run (pr := [p]) (l := l) (fr := fr) (vn := (n : Int)) (g := g) (by omega) (l.drop fr).length FU 0 (by omega) (by omega)
      have e0 : (((0 : Nat) : Int)) = 0 := rfl
      rw [e0, List.drop_zero] at hs
      rw [hs]
      simp only [Option.bind_some]
      by_cases hg : g ∈ l.drop fr
      · rw [if_pos hg]
        exact ⟨_, rfl, .inl ⟨_, rfl, hB.found hg⟩⟩
      · rw [if_neg hg]
        simp only []
        have hs2 := s31_run hG (y9 := g) (vn := (n : Int)) (fr := fr) hB.good.2 (by omega) (l.drop fr).length FU 0 [] (by omega) (by omega) (by rw [List.append_nil]; exact hB.good)
        rw [e0, List.drop_zero, List.append_nil] at hs2
        rw [hs2]
        simp only [Option.bind_some]
        rw [wsucc (by omega)]
        exact s14_run hG k fu l.length (n + 1) _ (by omega) (by omega) (by omega) (hB.step hG.inn hg)
    · have e : fr = l.length := by have := hB.fl; omega
      subst e
      rw [decide_eq_false (by omega), cond_false]
      exact ⟨_, rfl, .inr ⟨rfl, hB.none⟩⟩
theorem s14_val {L : List F3} {nx : F3 → List F3} {p : Int} (hG : Gr L nx p) {f g : F3} (hf : f ∈ L) : ∃ r, ((r_spec_WalkDistance_L14 [p] g FU 0 0 ([f])).bind fun qo15 =>
      match qo15 with
      | .inr r => some r
      | .inl o15 => some ((0, false))) = some r ∧ LeastW nx f g r := by
  have hF := FUge
  have hLl := hG.len
  obtain ⟨q, h1, h2⟩ := s14_run hG (f := f) (g := g) (L.length + 1) FU 0 0 [f] (by omega) (by omega) (by omega) ⟨⟨by simp, fun x hx => by rw [List.mem_singleton.1 hx]; exact hf⟩, by simp, by simp, fun y hy => by rw [List.drop_zero, List.mem_singleton] at hy; exact hy.symm, (fun m hm y hw => by
    have : m = 0 := by omega
    subst this
    have hw : f = y := hw
    rw [← hw]; simp), (fun y hy => by rw [List.take_zero] at hy; cases hy), fun m hm => by omega⟩
  have e0 : (((0 : Nat) : Int)) = 0 := rfl
  rw [e0] at h1
  rw [h1]
  rcases h2 with ⟨r, rfl, hr⟩ | ⟨rfl, hr⟩
  · exact ⟨r, rfl, hr⟩
  · exact ⟨_, rfl, hr⟩
end Go.Proofs.Ytafomkclmkfjeaa
namespace Go.Proofs.Ytafomkclmkfjeaa
set_option linter.unusedVariables false
set_option linter.unusedSimpArgs false

theorem mnI_at (a b : Int) : mnI a b = if a ≤ b then a else b := by
  unfold mnI
  rw [ltI_eq]
  by_cases h : b < a
  · rw [decide_eq_true h, cond_true, if_neg (by omega)]
  · rw [decide_eq_false h, cond_false, if_pos (by omega)]
theorem mxI_at (a b : Int) : mxI a b = if a ≤ b then b else a := by
  unfold mxI
  rw [ltI_eq]
  by_cases h : a < b
  · rw [decide_eq_true h, cond_true, if_pos (by omega)]
  · rw [decide_eq_false h, cond_false]
    by_cases h2 : a ≤ b
    · rw [if_pos h2]; omega
    · rw [if_neg h2]
theorem ids_run {d : Int} {pr : List Int} {y8 : List F3 × List (F3 × Int)} {N : Nat} (hN : N ≤ 100000) : ∀ (k fu i : Nat) (l : List Int), i + k = N → k < fu → l.length = N → (∀ j, j < i → A l j = j) →
    ∃ o, r_impl_WalkComponents_L13 d pr (N : Int) y8 fu (i : Int) l = some o ∧ o.length = N ∧ ∀ j, j < N → A o j = j
  | k, 0, i, l, _, hf, _, _ => by omega
  | 0, fu + 1, i, l, hi, hf, hl, h => by
    rw [r_impl_WalkComponents_L13, ltI_eq, decide_eq_false (by omega), cond_false]
    exact ⟨l, rfl, hl, fun j hj => h j (by omega)⟩
  | k + 1, fu + 1, i, l, hi, hf, hl, h => by
    rw [r_impl_WalkComponents_L13, ltI_eq, decide_eq_true (by omega), cond_true, getA (show i < l.length by omega)]
    simp only [Option.bind_some, sI_eq, Int.toNat_natCast]
    rw [wsucc (by omega)]
    refine ids_run hN k fu (i + 1) _ (by omega) (by omega) (by rw [List.length_set]; exact hl) fun j hj => ?_
    rw [A_set (show i < l.length by omega)]
    by_cases e : i = j
    · rw [if_pos e, e]
    · rw [if_neg e]
      exact h j (by omega)
theorem mg_run {hi lo : Int} {pt : List Int} {N : Nat} (hN : N ≤ 100000) (hp : pt.length = N) : ∀ (k fu i : Nat) (l : List Int), i + k = N → k < fu → l.length = N →
    ∃ o, r_impl_merge_L16 hi lo pt fu (i : Int) l = some o ∧ o.length = N ∧ ∀ j, j < N → A o j = if i ≤ j ∧ A l j = hi then lo else A l j
  | k, 0, i, l, _, hf, _ => by omega
  | 0, fu + 1, i, l, h, hf, hl => by
    rw [r_impl_merge_L16, ltI_eq, decide_eq_false (by omega), cond_false]
    exact ⟨l, rfl, hl, fun j hj => by rw [if_neg (by omega)]⟩
  | k + 1, fu + 1, i, l, h, hf, hl => by
    rw [r_impl_merge_L16, ltI_eq, decide_eq_true (by omega), cond_true, getA (show i < l.length by omega)]
    simp only [Option.bind_some, sI_eq, Int.toNat_natCast]
    rw [wsucc (by omega)]
    by_cases e : A l i = hi
    · rw [e, eqI_true, cond_true]
      obtain ⟨o, o1, o2, o3⟩ := mg_run (hi := hi) (lo := lo) hN hp k fu (i + 1) (l.set i lo) (by omega) (by omega) (by rw [List.length_set]; exact hl)
      refine ⟨o, o1, o2, fun j hj => ?_⟩
      rw [o3 j hj, A_set (show i < l.length by omega)]
      by_cases e1 : i = j
      · subst e1
        rw [if_pos rfl, if_neg (by omega), if_pos ⟨Nat.le_refl _, e⟩]
      · rw [if_neg e1]
        by_cases e2 : i + 1 ≤ j ∧ A l j = hi
        · rw [if_pos e2, if_pos ⟨by omega, e2.2⟩]
        · rw [if_neg e2, if_neg (fun e3 => e2 ⟨by omega, e3.2⟩)]
    · rw [eqI_false e, cond_false]
      obtain ⟨o, o1, o2, o3⟩ := mg_run (hi := hi) (lo := lo) hN hp k fu (i + 1) l (by omega) (by omega) hl
      refine ⟨o, o1, o2, fun j hj => ?_⟩
      rw [o3 j hj]
      by_cases e2 : i + 1 ≤ j ∧ A l j = hi
      · rw [if_pos e2, if_pos ⟨by omega, e2.2⟩]
      · rw [if_neg e2]
        by_cases e3 : i ≤ j ∧ A l j = hi
        · exfalso
          by_cases e4 : i = j
          · subst e4; exact e e3.2
          · exact e2 ⟨by omega, e3.2⟩
        · rw [if_neg e3]
/-- Labels: each is a member's that bears it, no greater than the members that bear it; the ends of what is joined bear one. -/
structure PtI (N : Nat) (E : Nat → Nat → Prop) (pt : List Int) : Prop where
  len : pt.length = N
  lab : ∀ j, j < N → 0 ≤ A pt j ∧ A pt j ≤ j ∧ A pt (A pt j).toNat = A pt j
  same : ∀ i k, i < N → k < N → E i k → A pt i = A pt k
theorem PtI.mono {N : Nat} {E E' : Nat → Nat → Prop} {pt : List Int} (h : PtI N E pt) (he : ∀ a b, a < N → b < N → E' a b → E a b) : PtI N E' pt := ⟨h.len, h.lab, fun i k hi hk e => h.same i k hi hk (he i k hi hk e)⟩
theorem merge_val {N : Nat} (hN : N ≤ 100000) {E : Nat → Nat → Prop} {pt : List Int} (h : PtI N E pt) {i k : Nat} (hi : i < N) (hk : k < N) : ∃ o, r_impl_merge pt (i : Int) (k : Int) = some o ∧ PtI N (fun a b => E a b ∨ (a = i ∧ b = k)) o := by
  have hF := FUge
  have hl := h.len
  have a1 : i < pt.length := by omega
  have a2 : k < pt.length := by omega
  obtain ⟨o, o1, o2, o3⟩ := mg_run (hi := mxI (A pt i) (A pt k)) (lo := mnI (A pt i) (A pt k)) hN h.len N FU 0 pt (by omega) (by omega) h.len
  have e0 : (((0 : Nat) : Int)) = 0 := rfl
  rw [e0] at o1
  refine ⟨o, by simp only [r_impl_merge, getA a1, getA a2, Option.bind_some, sI_eq, o1], ?_⟩
  have o4 : ∀ j, j < N → A o j = if A pt j = mxI (A pt i) (A pt k) then mnI (A pt i) (A pt k) else A pt j := by
    intro j hj
    rw [o3 j hj]
    by_cases e : A pt j = mxI (A pt i) (A pt k)
    · rw [if_pos ⟨Nat.zero_le _, e⟩, if_pos e]
    · rw [if_neg (fun e2 => e e2.2), if_neg e]
  rw [mnI_at, mxI_at] at o4
  obtain ⟨i1, i2, i3⟩ := h.lab i hi
  obtain ⟨k1, k2, k3⟩ := h.lab k hk
  have low : ∃ lo hi' : Int, lo ≤ hi' ∧ (∀ j, j < N → A o j = if A pt j = hi' then lo else A pt j) ∧ 0 ≤ lo ∧ A pt lo.toNat = lo ∧ ((A pt i = lo ∧ A pt k = hi') ∨ (A pt i = hi' ∧ A pt k = lo)) ∧ lo.toNat < N := by
    by_cases e : A pt i ≤ A pt k
    · rw [if_pos e, if_pos e] at o4
      exact ⟨A pt i, A pt k, e, o4, i1, i3, .inl ⟨rfl, rfl⟩, by omega⟩
    · rw [if_neg e, if_neg e] at o4
      exact ⟨A pt k, A pt i, by omega, o4, k1, k3, .inr ⟨rfl, rfl⟩, by omega⟩
  obtain ⟨lo, hh, l1, l2, l3, l4, l5, l6⟩ := low
  refine ⟨o2, fun j hj => ?_, fun a b ha hb e => ?_⟩
  · obtain ⟨j1, j2, j3⟩ := h.lab j hj
    rw [l2 j hj]
    by_cases e : A pt j = hh
    · rw [if_pos e]
      refine ⟨l3, by omega, ?_⟩
      rw [l2 _ l6, l4]
      by_cases e2 : lo = hh
      · rw [if_pos e2]
      · rw [if_neg e2]
    · rw [if_neg e]
      refine ⟨j1, j2, ?_⟩
      rw [l2 _ (by omega), j3, if_neg e]
  · rcases e with e | ⟨rfl, rfl⟩
    · rw [l2 a ha, l2 b hb, h.same a b ha hb e]
    · rw [l2 a ha, l2 b hb]
      rcases l5 with ⟨e1, e2⟩ | ⟨e1, e2⟩
      · rw [e1, e2, if_pos rfl]
        by_cases e3 : lo = hh
        · rw [if_pos e3]
        · rw [if_neg e3]
      · rw [e1, e2, if_pos rfl]
        by_cases e3 : lo = hh
        · rw [if_pos e3]
        · rw [if_neg e3]
theorem c35_run {d : Int} {pr : List Int} {t19 : Int} {M : List (List Int)} {y8 : List F3 × List (F3 × Int)} {N : Nat} (hN : N ≤ 100000) {i : Nat} (hi : i < N) {row : List Int} (hr : row.length = N) : ∀ (k fu t : Nat) (pt : List Int) (E : Nat → Nat → Prop), t + k = N → k < fu → PtI N E pt →
    ∃ o, r_impl_WalkComponents_L35 d row pr t19 (i : Int) M y8 fu (t : Int) pt = some o ∧ PtI N (fun a b => E a b ∨ (a = i ∧ t ≤ b ∧ 0 < A row b)) o
  | k, 0, t, pt, E, _, hf, _ => by omega
  | 0, fu + 1, t, pt, E, h, hf, hp => by
    rw [r_impl_WalkComponents_L35, ltI_eq, decide_eq_false (by omega), cond_false]
    exact ⟨pt, rfl, hp.mono fun a b _ hb e => e.elim id fun e => by omega⟩
  | k + 1, fu + 1, t, pt, E, h, hf, hp => by
    rw [r_impl_WalkComponents_L35, ltI_eq, decide_eq_true (by omega), cond_true, getA (show t < row.length by omega)]
    simp only [Option.bind_some, ltI_eq, sI_eq]
    rw [wsucc (by omega)]
    by_cases e : 0 < A row t
    · rw [decide_eq_true e, cond_true]
      obtain ⟨o, o1, o2⟩ := merge_val hN hp hi (show t < N by omega)
      rw [o1]
      simp only [Option.bind_some]
      obtain ⟨o', p1, p2⟩ := c35_run hN hi hr k fu (t + 1) o _ (by omega) (by omega) o2
      refine ⟨o', p1, p2.mono fun a b _ _ e2 => ?_⟩
      rcases e2 with e2 | ⟨e2, e3, e4⟩
      · exact .inl (.inl e2)
      · by_cases e5 : t = b
        · exact .inl (.inr ⟨e2, e5.symm⟩)
        · exact .inr ⟨e2, by omega, e4⟩
    · rw [decide_eq_false e, cond_false]
      obtain ⟨o', p1, p2⟩ := c35_run hN hi hr k fu (t + 1) pt E (by omega) (by omega) hp
      refine ⟨o', p1, p2.mono fun a b _ _ e2 => ?_⟩
      rcases e2 with e2 | ⟨e2, e3, e4⟩
      · exact .inl e2
      · by_cases e5 : t = b
        · exact absurd (e5 ▸ e4) e
        · exact .inr ⟨e2, by omega, e4⟩
theorem c28_run {d : Int} {pr : List Int} {t19 : Int} {M : List (List Int)} {y8 : List F3 × List (F3 × Int)} {N : Nat} (hN : N ≤ 100000) (hM : Sq N M) : ∀ (k fu t : Nat) (pt : List Int) (E : Nat → Nat → Prop), t + k = N → k < fu → PtI N E pt →
    ∃ o, r_impl_WalkComponents_L28 d pr t19 M y8 fu (t : Int) pt = some o ∧ PtI N (fun a b => E a b ∨ (t ≤ a ∧ 0 < A (At M a) b)) o
  | k, 0, t, pt, E, _, hf, _ => by omega
  | 0, fu + 1, t, pt, E, h, hf, hp => by
    have hM1 := hM.1
    rw [r_impl_WalkComponents_L28, ltI_eq, decide_eq_false (by omega), cond_false]
    exact ⟨pt, rfl, hp.mono fun a b ha _ e => e.elim id fun e => by omega⟩
  | k + 1, fu + 1, t, pt, E, h, hf, hp => by
    have hF := FUge
    have hM1 := hM.1
    rw [r_impl_WalkComponents_L28, ltI_eq, decide_eq_true (by omega), cond_true, getAt (show t < M.length by omega)]
    simp only [Option.bind_some]
    obtain ⟨o, o1, o2⟩ := c35_run (d := d) (pr := pr) (t19 := t19) (M := M) (y8 := y8) hN (show t < N by omega) (hM.2 t (by omega)) N FU 0 pt E (by omega) (by omega) hp
    have e0 : (((0 : Nat) : Int)) = 0 := rfl
    rw [e0] at o1
    rw [o1]
    simp only [Option.bind_some, sI_eq]
    rw [wsucc (by omega)]
    obtain ⟨o', p1, p2⟩ := c28_run hN hM k fu (t + 1) o _ (by omega) (by omega) o2
    refine ⟨o', p1, p2.mono fun a b _ _ e2 => ?_⟩
    rcases e2 with e2 | ⟨e2, e3⟩
    · exact .inl (.inl e2)
    · by_cases e5 : t = a
      · subst e5; exact .inl (.inr ⟨rfl, Nat.zero_le _, e3⟩)
      · exact .inr ⟨by omega, e3⟩
theorem c21_val {d p : Int} {M : List (List Int)} {y8 : List F3 × List (F3 × Int)} {N : Nat} (hN : N ≤ 100000) (hM : Sq N M) (hm : r_impl_neighbourMatrix d p = some M) {pt : List Int} (hp : PtI N (fun _ _ => False) pt) : ∃ o, r_impl_WalkComponents_L21 d [p] y8 FU 0 pt = some o ∧ PtI N (fun a b => 0 < A (At M a) b) o := by
  have hF := FUge
  obtain ⟨o, o1, o2⟩ := c28_run (d := d) (pr := [p]) (t19 := 0) (y8 := y8) hN hM N FU 0 pt _ (by omega) (by omega) hp
  have e0 : (((0 : Nat) : Int)) = 0 := rfl
  rw [e0] at o1
  refine ⟨o, ?_, o2.mono fun a b _ _ e => .inr ⟨Nat.zero_le _, e⟩⟩
  have hp1 : getI [p] 0 = some p := rfl
  obtain ⟨fu, hfu⟩ : ∃ fu, FU = fu + 2 := ⟨FU - 2, by omega⟩
  have s1 : ∀ n, r_impl_WalkComponents_L21 d [p] y8 (n + 1) 1 o = some o := by
    intro n
    rw [r_impl_WalkComponents_L21]
    rfl
  have s0 : ∀ n, r_impl_WalkComponents_L21 d [p] y8 (n + 1) 0 pt = r_impl_WalkComponents_L21 d [p] y8 n 1 o := by
    intro n
    rw [r_impl_WalkComponents_L21]
    rw [ltI_eq, decide_eq_true (by simp), cond_true, hp1]
    simp only [Option.bind_some]
    rw [hm]
    simp only [Option.bind_some]
    rw [o1]
    rfl
  rw [show r_impl_WalkComponents_L21 d [p] y8 FU 0 pt = r_impl_WalkComponents_L21 d [p] y8 (fu + 2) 0 pt by rw [hfu], s0, s1]
/-! ### The parts -/
def prt (L : List F3) (pt : List Int) (c : Int) (ks : List Nat) : List F3 := (ks.filter fun k => decide (A pt k = c)).map fun k => L.getD k (0, 0, 0)
theorem c56_run {L : List F3} {m : List (F3 × Int)} {l46 : List (List F3)} {pt : List Int} {c : Int} (hL : L.length ≤ 100000) (hp : pt.length = L.length) : ∀ (k fu t : Nat) (acc : List F3), t + k = L.length → k < fu → acc.length ≤ t →
    r_impl_WalkComponents_L56 l46 pt c (L, m) fu (t : Int) acc = some (acc ++ prt L pt c ((List.range L.length).drop t))
  | k, 0, t, acc, _, hf, _ => by omega
  | 0, fu + 1, t, acc, h, hf, ha => by
    rw [r_impl_WalkComponents_L56]
    dsimp only
    rw [ltI_eq, decide_eq_false (by omega), cond_false, List.drop_eq_nil_of_le (by simp; omega)]
    simp [prt]
  | k + 1, fu + 1, t, acc, h, hf, ha => by
    have ht : t < L.length := by omega
    rw [r_impl_WalkComponents_L56]
    dsimp only
    rw [ltI_eq, decide_eq_true (by omega), cond_true, getNat ht]
    simp only [Option.bind_some]
    rw [getA (show t < pt.length by omega), List.drop_eq_getElem_cons (show t < (List.range L.length).length by simp; exact ht), List.getElem_range]
    simp only [Option.bind_some, sI_eq]
    rw [wsucc (by omega)]
    have hge : L.getD t (0, 0, 0) = L[t] := by rw [List.getD_eq_getElem?_getD, List.getElem?_eq_getElem ht]; rfl
    by_cases e : A pt t = c
    · rw [e, eqI_true, cond_true, roomOk (by simp; omega)]
      simp only [Option.bind_some]
      rw [c56_run hL hp k fu (t + 1) (acc ++ [L[t]]) (by omega) (by omega) (by simp; omega)]
      unfold prt
      rw [List.filter_cons, decide_eq_true e, if_pos rfl, List.map_cons, hge, List.append_assoc]
      rfl
    · rw [eqI_false e, cond_false, c56_run hL hp k fu (t + 1) acc (by omega) (by omega) (by omega)]
      unfold prt
      rw [List.filter_cons, decide_eq_false e, if_neg (by decide)]
def prts (L : List F3) (pt : List Int) (is : List Nat) : List (List F3) := (is.filter fun i : Nat => decide (A pt i = i)).map fun i : Nat => prt L pt (i : Int) (List.range L.length)
theorem c47_run {L : List F3} {m : List (F3 × Int)} {pt : List Int} (hL : L.length ≤ 100000) (hp : pt.length = L.length) : ∀ (k fu t : Nat) (acc : List (List F3)), t + k = L.length → k < fu → acc.length ≤ t →
    r_impl_WalkComponents_L47 pt (L, m) fu (t : Int) acc = some (acc ++ prts L pt ((List.range L.length).drop t))
  | k, 0, t, acc, _, hf, _ => by omega
  | 0, fu + 1, t, acc, h, hf, ha => by
    rw [r_impl_WalkComponents_L47, ltI_eq, decide_eq_false (by omega), cond_false, List.drop_eq_nil_of_le (by simp; omega)]
    simp [prts]
  | k + 1, fu + 1, t, acc, h, hf, ha => by
    have hF := FUge
    have ht : t < L.length := by omega
    rw [r_impl_WalkComponents_L47, ltI_eq, decide_eq_true (by omega), cond_true, getA (show t < pt.length by omega), List.drop_eq_getElem_cons (show t < (List.range L.length).length by simp; exact ht), List.getElem_range]
    simp only [Option.bind_some, sI_eq]
    rw [wsucc (by omega)]
    by_cases e : A pt t = t
    · have h56 := c56_run (m := m) (l46 := acc) (c := (t : Int)) hL hp L.length FU 0 [] (by omega) (by omega) (by simp)
      have e0 : (((0 : Nat) : Int)) = 0 := rfl
      rw [e0, List.drop_zero, List.nil_append] at h56
      rw [e, eqI_true]
      simp only [Bool.not_true, cond_false]
      rw [h56]
      simp only [Option.bind_some]
      rw [roomOk (by simp; omega)]
      simp only [Option.bind_some]
      rw [c47_run hL hp k fu (t + 1) _ (by omega) (by omega) (by simp; omega)]
      unfold prts
      rw [List.filter_cons, decide_eq_true e, if_pos rfl, List.map_cons, List.append_assoc]
      rfl
    · rw [eqI_false e]
      simp only [Bool.not_false, cond_true]
      rw [c47_run hL hp k fu (t + 1) acc (by omega) (by omega) (by omega)]
      unfold prts
      rw [List.filter_cons, decide_eq_false e, if_neg (by decide)]
theorem sum_ind (f : Nat → Nat) (c0 : Nat) : ∀ (ls : List Nat), ls.Nodup → c0 ∈ ls → (ls.map fun c => f c + if c0 = c then 1 else 0).sum = (ls.map f).sum + 1
  | [], _, h => by cases h
  | c :: ls, hn, h => by
    rw [List.nodup_cons] at hn
    simp only [List.map_cons, List.sum_cons]
    by_cases e : c0 = c
    · have : (ls.map fun c => f c + if c0 = c then 1 else 0) = ls.map f := List.map_congr_left fun x hx => by
        rw [if_neg (fun e2 => hn.1 (by rw [← e, e2]; exact hx)), Nat.add_zero]
      rw [this, if_pos e]; omega
    · rw [sum_ind f c0 ls hn.2 ((List.mem_cons.1 h).resolve_left e), if_neg e]; omega
theorem cnt_parts (pt : List Int) (ls : List Nat) (hn : ls.Nodup) : ∀ (ks : List Nat), (∀ k ∈ ks, 0 ≤ A pt k ∧ (A pt k).toNat ∈ ls) → (ls.map fun i : Nat => (ks.filter fun k => decide (A pt k = (i : Int))).length).sum = ks.length
  | [], _ => by
    have : ∀ l : List Nat, (l.map fun i : Nat => (([] : List Nat).filter fun k => decide (A pt k = (i : Int))).length).sum = 0 := by
      intro l
      induction l with
      | nil => rfl
      | cons a l ih => rw [List.map_cons, List.sum_cons, ih]; rfl
    rw [this]; rfl
  | k :: ks, h => by
    have ih := cnt_parts pt ls hn ks fun k hk => h k (List.mem_cons_of_mem _ hk)
    obtain ⟨h1, h2⟩ := h k (List.mem_cons_self ..)
    have e : (ls.map fun i : Nat => ((k :: ks).filter fun k => decide (A pt k = (i : Int))).length) = ls.map fun i : Nat => (ks.filter fun k => decide (A pt k = (i : Int))).length + if (A pt k).toNat = i then 1 else 0 := by
      refine List.map_congr_left fun i _ => ?_
      rw [List.filter_cons]
      by_cases e1 : A pt k = (i : Int)
      · rw [decide_eq_true e1, if_pos rfl, List.length_cons, if_pos (by omega)]
      · rw [decide_eq_false e1, if_neg (by decide), if_neg (by omega)]
        omega
    rw [e, sum_ind _ _ ls hn h2, ih, List.length_cons]
/-- All parts together are all classes. -/
theorem prts_sum {L : List F3} {E : Nat → Nat → Prop} {pt : List Int} (h : PtI L.length E pt) : ((prts L pt (List.range L.length)).map List.length).sum = L.length := by
  unfold prts
  rw [List.map_map]
  have e : (((List.range L.length).filter fun i : Nat => decide (A pt i = i)).map (List.length ∘ fun i : Nat => prt L pt (i : Int) (List.range L.length))) = ((List.range L.length).filter fun i : Nat => decide (A pt i = i)).map fun i : Nat => ((List.range L.length).filter fun k => decide (A pt k = (i : Int))).length := List.map_congr_left fun i _ => by
    simp only [Function.comp, prt, List.length_map]
  rw [e, cnt_parts pt _ (List.nodup_range.filter _) _ fun k hk => ?_, List.length_range]
  obtain ⟨l1, l2, l3⟩ := h.lab k (List.mem_range.1 hk)
  refine ⟨l1, List.mem_filter.2 ⟨List.mem_range.2 (by have := List.mem_range.1 hk; omega), decide_eq_true ?_⟩⟩
  rw [l3]; omega
theorem prt_mem {L : List F3} (hn : L.Nodup) {pt : List Int} {c : Int} {i : Nat} (hi : i < L.length) : L[i] ∈ prt L pt c (List.range L.length) ↔ A pt i = c := by
  have hge : ∀ t (ht : t < L.length), L.getD t (0, 0, 0) = L[t] := fun t ht => by rw [List.getD_eq_getElem?_getD, List.getElem?_eq_getElem ht]; rfl
  unfold prt
  rw [List.mem_map]
  constructor
  · rintro ⟨k, hk, e⟩
    obtain ⟨k1, k2⟩ := List.mem_filter.1 hk
    have k1 := List.mem_range.1 k1
    rw [hge k k1] at e
    have := nd_inj hn k1 hi e
    subst this
    exact of_decide_eq_true k2
  · intro h
    exact ⟨i, List.mem_filter.2 ⟨List.mem_range.2 hi, decide_eq_true h⟩, hge i hi⟩
/-- Walks keep labels. -/
theorem wlk_same {L : List F3} {nx : F3 → List F3} (hnx : ∀ x ∈ L, ∀ y ∈ nx x, y ∈ L) {E : Nat → Nat → Prop} {pt : List Int} (h : PtI L.length E pt) (hE : ∀ i j (hi : i < L.length) (hj : j < L.length), L[j] ∈ nx L[i] → E i j) {i : Nat} (hi : i < L.length) (hn : L.Nodup) : ∀ (k j : Nat) (hj : j < L.length), Wlk nx k L[i] L[j] → A pt i = A pt j
  | 0, j, hj, hw => by
    have := nd_inj hn hi hj hw
    subst this; rfl
  | k + 1, j, hj, ⟨u, h1, h2⟩ => by
    obtain ⟨t, ht, rfl⟩ := List.getElem_of_mem (wlk_in hnx (List.getElem_mem hi) k u h1)
    rw [wlk_same hnx h hE hi hn k t ht h1, h.same t j ht hj (hE t j ht hj h2)]
theorem comp_val {d p : Int} {L : List F3} {M : List (List Int)} (hL : L.length ≤ 100000) (hnd : L.Nodup) (hM : Sq L.length M) (hm : r_impl_neighbourMatrix d p = some M) (hl : r_impl_reducedForms d = some L) : ∃ pt, ((r_impl_groupOf d).bind fun y8 =>
      (mk ((y8.1.length : Int)) ((y8.1.length : Int))).bind fun u9 =>
      sI (((List.replicate (Int.toNat ((y8.1.length : Int))) ((0 : Int))).length : Int)) fun t10 =>
      (r_impl_WalkComponents_L13 d [p] t10 y8 FU 0 (List.replicate (Int.toNat ((y8.1.length : Int))) ((0 : Int)))).bind fun o14 =>
      (r_impl_WalkComponents_L21 d [p] y8 FU 0 o14).bind fun o22 =>
      (r_impl_WalkComponents_L47 o22 y8 FU 0 (([] : List (List (F3))))).bind fun o48 =>
      some ((o48, true))) = some (prts L pt (List.range L.length), true) ∧ PtI L.length (fun a b => 0 < A (At M a) b) pt := by
  have hF := FUge
  obtain ⟨m, m1, _⟩ := gmap_val hnd hL
  obtain ⟨o, o1, o2, o3⟩ := ids_run (d := d) (pr := [p]) (y8 := (L, m)) hL L.length FU 0 (List.replicate L.length 0) (by omega) (by omega) (by simp) (by intro j hj; omega)
  have hp : PtI L.length (fun _ _ => False) o := ⟨o2, fun j hj => by
    rw [o3 j hj]
    refine ⟨by omega, Int.le_refl _, ?_⟩
    rw [Int.toNat_natCast, o3 j hj], fun _ _ _ _ e => e.elim⟩
  obtain ⟨pt, p1, p2⟩ := c21_val (y8 := (L, m)) hL hM hm hp
  have c47 := c47_run (m := m) hL p2.len L.length FU 0 [] (by omega) (by omega) (by simp)
  have e0 : (((0 : Nat) : Int)) = 0 := rfl
  rw [e0] at o1 c47
  rw [List.drop_zero, List.nil_append] at c47
  refine ⟨pt, ?_, p2⟩
  simp only [r_impl_groupOf, hl, m1, Option.bind_some]
  rw [mkN (show L.length ≤ 1000000 by omega)]
  simp only [Option.bind_some, sI_eq, Int.toNat_natCast, List.length_replicate, o1, p1, c47]
end Go.Proofs.Ytafomkclmkfjeaa
