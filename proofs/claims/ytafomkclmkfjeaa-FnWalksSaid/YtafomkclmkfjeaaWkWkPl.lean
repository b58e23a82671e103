/-
  Walks: the law's loops, and the law.
  Conditions: none.
-/
import Derived.Test.YtafomkclmkfjeaaWkWkX
import Derived.Test.YtafomkclmkfjeaaWkDisc
namespace Go.Proofs.Ytafomkclmkfjeaa
set_option linter.unusedVariables false
set_option linter.unusedSimpArgs false

theorem prc_of_prr {D : Int} {f : F3} (h : PrR D f) : PrRc D f := by
  obtain ⟨h1, h2, h3, h4⟩ := h
  refine ⟨h1, h2, h3, fun k k1 k2 k3 => ?_⟩
  have h5 : k ∣ (Int.gcd f.1 (Int.gcd f.2.1 f.2.2) : Int) := Int.dvd_coe_gcd k1 (Int.dvd_coe_gcd k2 k3)
  rw [h4] at h5
  exact h5
theorem prr_of_prc {D : Int} {f : F3} (h : PrRc D f) : PrR D f := by
  obtain ⟨h1, h2, h3, h4⟩ := h
  refine ⟨h1, h2, h3, ?_⟩
  have h5 : ((Int.gcd f.1 (Int.gcd f.2.1 f.2.2) : Nat) : Int) ∣ 1 := h4 _ (Int.gcd_dvd_left _ _) (Int.dvd_trans (Int.gcd_dvd_right _ _) (Int.gcd_dvd_left _ _)) (Int.dvd_trans (Int.gcd_dvd_right _ _) (Int.gcd_dvd_right _ _))
  have h6 := Int.eq_one_of_dvd_one (by omega) h5
  omega
theorem sints_run (l : List Int) (hl : l.length ≤ 1000000) : ∀ (k fu i : Nat), i + k = l.length → k < fu → r_laws_sameInts_L5 l l fu (i : Int) = some (.inl ())
  | k, 0, i, _, hf => by omega
  | 0, fu + 1, i, hi, hf => by rw [r_laws_sameInts_L5, ltI_eq, decide_eq_false (by omega), cond_false]
  | k + 1, fu + 1, i, hi, hf => by
    rw [r_laws_sameInts_L5, ltI_eq, decide_eq_true (by omega), cond_true, getNat (show i < l.length by omega)]
    simp only [Option.bind_some, eqSelf, Bool.not_true, cond_false, sI_eq]
    rw [wsucc (by omega)]
    exact sints_run l hl k fu (i + 1) (by omega) (by omega)
theorem sints_self (l : List Int) (hl : l.length ≤ 100000) : r_laws_sameInts l l = some true := by
  have hF := FUge
  have := sints_run l (by omega) l.length FU 0 (by omega) (by omega)
  have e0 : (((0 : Nat) : Int)) = 0 := rfl
  rw [e0] at this
  simp only [r_laws_sameInts, eqSelf, Bool.not_true, cond_false, this, Option.bind_some]
theorem slists_run (l : List (List Int)) (hl : l.length ≤ 1000000) (hx : ∀ x ∈ l, x.length ≤ 100000) : ∀ (k fu i : Nat), i + k = l.length → k < fu → r_laws_sameLists_L5 l l fu (i : Int) = some (.inl ())
  | k, 0, i, _, hf => by omega
  | 0, fu + 1, i, hi, hf => by rw [r_laws_sameLists_L5, ltI_eq, decide_eq_false (by omega), cond_false]
  | k + 1, fu + 1, i, hi, hf => by
    rw [r_laws_sameLists_L5, ltI_eq, decide_eq_true (by omega), cond_true, getNat (show i < l.length by omega)]
    simp only [Option.bind_some, sints_self _ (hx _ (List.getElem_mem (show i < l.length by omega))), Bool.not_true, cond_false, sI_eq]
    rw [wsucc (by omega)]
    exact slists_run l hl hx k fu (i + 1) (by omega) (by omega)
theorem slists_self (l : List (List Int)) (hl : l.length ≤ 100000) (hx : ∀ x ∈ l, x.length ≤ 100000) : r_laws_sameLists l l = some true := by
  have hF := FUge
  have := slists_run l (by omega) hx l.length FU 0 (by omega) (by omega)
  have e0 : (((0 : Nat) : Int)) = 0 := rfl
  rw [e0] at this
  simp only [r_laws_sameLists, eqSelf, Bool.not_true, cond_false, this, Option.bind_some]
theorem qHas_run (f : F3) (ys : List F3) (hlen : ys.length ≤ 1000000) : ∀ (k fu i : Nat), i + k = ys.length → k < fu → r_laws_qHas_L4 f ys fu (i : Int) = some (if f ∈ ys.drop i then .inr true else .inl ())
  | k, 0, i, _, hf => by omega
  | 0, fu + 1, i, hi, hf => by
    rw [r_laws_qHas_L4, ltI_eq, decide_eq_false (by omega), cond_false, List.drop_eq_nil_of_le (by omega)]
    simp
  | k + 1, fu + 1, i, hi, hf => by
    have h1 : i < ys.length := by omega
    rw [r_laws_qHas_L4, ltI_eq, decide_eq_true (by omega), cond_true, getNat h1]
    simp only [Option.bind_some]
    rw [eqB_iff, List.drop_eq_getElem_cons h1]
    by_cases h2 : ys[i] = f
    · rw [decide_eq_true h2, cond_true, if_pos (by rw [h2]; exact List.mem_cons_self ..)]
    · rw [decide_eq_false h2, cond_false]
      simp only [sI_eq]
      rw [wsucc (by omega), qHas_run f ys hlen k fu (i + 1) (by omega) (by omega)]
      by_cases h3 : f ∈ ys.drop (i + 1)
      · rw [if_pos h3, if_pos (List.mem_cons_of_mem _ h3)]
      · rw [if_neg h3, if_neg (fun hm => (List.mem_cons.1 hm).elim (fun e => h2 e.symm) h3)]
theorem qHas_val (f : F3) (ys : List F3) (hlen : ys.length ≤ 100000) : r_laws_qHas ys f = some (decide (f ∈ ys)) := by
  have hF := FUge
  have := qHas_run f ys (by omega) ys.length FU 0 (by omega) (by omega)
  have e0 : (((0 : Nat) : Int)) = 0 := rfl
  rw [e0, List.drop_zero] at this
  simp only [r_laws_qHas, this, Option.bind_some]
  by_cases h : f ∈ ys <;> simp [h]
theorem l34_run {code : List Int} {i j N : Nat} {M W : List (List Int)} {L : List F3} {b1 b2 b3 : Bool} {y5 : Int × Int × Int} {y6 : List (List Int) × Bool} (hN : N ≤ 100000) (hL : L.length = N) (hM : Sq N M) (hW : Sq N W) (hi : i < N) (hj : j < N) : ∀ (k fu t : Nat) (s : Int), t + k = N → k < fu →
    r_laws_FnWalks_L34 code (i : Int) (j : Int) (M, b1) (L, b2) (W, b3) y5 y6 fu s (t : Int) = some (sm (fun h => w64 (A (At W i) h * A (At M h) j)) t k s)
  | k, 0, t, s, _, hf => by omega
  | 0, fu + 1, t, s, h, hf => by
    rw [r_laws_FnWalks_L34]
    dsimp only
    rw [ltI_eq, decide_eq_false (by omega), cond_false]
    rfl
  | k + 1, fu + 1, t, s, h, hf => by
    have hM1 := hM.1
    have hW1 := hW.1
    have ht : t < N := by omega
    rw [r_laws_FnWalks_L34]
    dsimp only
    rw [ltI_eq, decide_eq_true (by omega), cond_true, getAt (show i < W.length by omega)]
    simp only [Option.bind_some]
    rw [getA (show t < (At W i).length by rw [hW.2 i hi]; exact ht), getAt (show t < M.length by omega)]
    simp only [Option.bind_some]
    rw [getA (show j < (At M t).length by rw [hM.2 t ht]; exact hj)]
    simp only [Option.bind_some, sI_eq]
    rw [wsucc (by omega), l34_run hN hL hM hW hi hj k fu (t + 1) _ (by omega) (by omega)]
    rfl
theorem l29_run {code : List Int} {i N K : Nat} {M : List (List Int)} {L : List F3} {b1 b2 b3 b4 : Bool} {y5 : Int × Int × Int} (hN : N ≤ 100000) (hL : L.length = N) (hM : Sq N M) (hi : i < N) : ∀ (k fu t : Nat), t + k = N → k < fu →
    r_laws_FnWalks_L29 code (i : Int) (M, b1) (L, b2) (walkM N M K, b3) y5 (walkM N M (K + 1), b4) fu (t : Int) = some (.inl ())
  | k, 0, t, _, hf => by omega
  | 0, fu + 1, t, h, hf => by
    rw [r_laws_FnWalks_L29]
    dsimp only
    rw [ltI_eq, decide_eq_false (by omega), cond_false]
  | k + 1, fu + 1, t, h, hf => by
    have hF := FUge
    have ht : t < N := by omega
    have hS : ∀ K, Sq N (walkM N M K) := fun K => ⟨walkM_len .., fun i hi => by rw [walkM_at M K hi]; exact itV_len N M K _ (unit_len ..)⟩
    have h34 := l34_run (code := code) (b1 := b1) (b2 := b2) (b3 := b3) (y5 := y5) (y6 := (walkM N M (K + 1), b4)) hN hL hM (hS K) hi ht N FU 0 0 (by omega) (by omega)
    have e0 : (((0 : Nat) : Int)) = 0 := rfl
    rw [e0] at h34
    rw [r_laws_FnWalks_L29]
    dsimp only
    rw [ltI_eq, decide_eq_true (by omega), cond_true, h34]
    simp only [Option.bind_some]
    rw [getAt (show i < (walkM N M (K + 1)).length by rw [walkM_len]; exact hi)]
    simp only [Option.bind_some]
    rw [getA (show t < (At (walkM N M (K + 1)) i).length by rw [(hS (K + 1)).2 i hi]; exact ht)]
    simp only [Option.bind_some]
    rw [walkM_at M (K + 1) hi, itV_succ, stepV_at M _ ht, walkM_at M K hi, eqI_true]
    simp only [Bool.not_true, cond_false, sI_eq]
    rw [wsucc (by omega)]
    exact l29_run hN hL hM hi k fu (t + 1) (by omega) (by omega)
theorem l84_run {i j : Nat} {L : List F3} {b b3 : Bool} {r : Int × Bool} {ps : List (List F3)} (hi : i < L.length) (hj : j < L.length) (hps : ps.length ≤ 100000) (hq : ∀ e ∈ ps, e.length ≤ 100000 ∧ (r.2 = true → (L[i] ∈ e ↔ L[j] ∈ e))) : ∀ (k fu t c : Nat), t + k = ps.length → k < fu → c + ((ps.drop t).map List.length).sum ≤ 100000 →
    r_laws_FnWalks_L84 (i : Int) (j : Int) (L, b) r (ps, b3) fu (c : Int) (t : Int) = some (.inl ((c + ((ps.drop t).map List.length).sum : Nat) : Int))
  | k, 0, t, c, _, hf, _ => by omega
  | 0, fu + 1, t, c, h, hf, hc => by
    rw [r_laws_FnWalks_L84]
    dsimp only
    rw [ltI_eq, decide_eq_false (by omega), cond_false, List.drop_eq_nil_of_le (by omega)]
    simp
  | k + 1, fu + 1, t, c, h, hf, hc => by
    have ht : t < ps.length := by omega
    obtain ⟨q1, q2⟩ := hq _ (List.getElem_mem ht)
    rw [List.drop_eq_getElem_cons ht, List.map_cons, List.sum_cons] at hc
    have hb : (bif r.2 then ((getI L (i : Int)).bind fun e91 => (getI L (i : Int)).bind fun e92 => (r_laws_qHas ps[t] e92).bind fun y93 => (getI L (j : Int)).bind fun e94 => (getI L (j : Int)).bind fun e95 => (r_laws_qHas ps[t] e95).bind fun y96 => some (y93 != y96)) else some false) = some false := by
      cases hr : r.2 with
      | false => rfl
      | true =>
        rw [cond_true, getNat hi, getNat hj]
        simp only [Option.bind_some, qHas_val _ _ q1]
        by_cases h1 : L[i] ∈ ps[t]
        · rw [decide_eq_true h1, decide_eq_true ((q2 hr).1 h1)]; rfl
        · rw [decide_eq_false h1, decide_eq_false (fun h2 => h1 ((q2 hr).2 h2))]; rfl
    rw [r_laws_FnWalks_L84]
    dsimp only
    rw [ltI_eq, decide_eq_true (by omega), cond_true, getNat ht]
    simp only [Option.bind_some, sI_eq]
    rw [hb]
    simp only [Option.bind_some, cond_false]
    rw [wsucc (by omega), w64_in (by omega), show (c : Int) + (ps[t].length : Int) = ((c + ps[t].length : Nat) : Int) by omega, l84_run hi hj hps hq k fu (t + 1) (c + ps[t].length) (by omega) (by omega) (by omega), List.drop_eq_getElem_cons ht, List.map_cons, List.sum_cons]
    congr 3
    omega
def okOne (n : Nat) : Bool := (r_impl_areIndices [(n : Int)] == some true) && (r_spec_hkPrimes [(n : Int)] == some true)
theorem okOne_all : (pN.all okOne) = true := by decide +kernel
theorem one_val {n : Nat} (hn : n ∈ pN) : r_impl_areIndices [(n : Int)] = some true ∧ r_spec_hkPrimes [(n : Int)] = some true := by
  have h := List.all_eq_true.1 okOne_all n hn
  unfold okOne at h
  rw [Bool.and_eq_true, beq_iff_eq, beq_iff_eq] at h
  exact h
theorem raw_FnWalks (code more : List Int) (hc8 : ∀ x ∈ code, 0 ≤ x ∧ x ≤ 255) (hm8 : ∀ x ∈ more, 0 ≤ x ∧ x ≤ 255) : r_laws_FnWalks code more = some true := by
  rcases big_cases code more with hb | ⟨hb, hc, hm⟩
  · simp only [r_laws_FnWalks, hb, Option.bind_some, cond_true]
  have hF := FUge
  obtain ⟨D, c1, e1, h1⟩ := disc_ok (CurB.start hc hc8) (by omega)
  obtain ⟨p, c2, e2, hpm, h2⟩ := among_ok (l := [2, 2, 3, 3, 5, 5, 7, 11, 13, 17, 23, 41, 43, 47, 4, 1, 0, -2]) (by simp) h1 (by omega)
  obtain ⟨y, c3, e3, _, _, _, h3⟩ := pick_ok 8 h2 (by omega)
  obtain ⟨kk, c4, e4, _, h4'⟩ := among_ok (l := [0, 1, 2, 3, 10, 11, -1, y]) (by simp) h3 (by omega)
  have ed : r_spec_DrawWalkMatrix code = some (D, p, kk) := by simp only [r_spec_DrawWalkMatrix, e1, r_spec_l1Cur_index, e2, e3, e4, Option.bind_some]
  obtain ⟨bi, i1, i2, i3⟩ := idx_val hpm
  have hnil : r_laws_sameLists [] [] = some true := slists_self [] (by simp) (by intro x hx; cases hx)
  have out : ∀ (h1 : r_impl_WalkMatrix D p kk = some ([], false)) (h2 : r_spec_WalkMatrix D p kk = some ([], false)), r_laws_FnWalks code more = some true := by
    intro h1 h2
    simp only [r_laws_FnWalks, hb, ed, h1, h2, hnil, Option.bind_some, cond_false, bne_self_eq_false, Bool.not_true, Bool.not_false, cond_true]
  by_cases hok : -2000 ≤ D ∧ D ≤ -3 ∧ D % 4 ≤ 1
  · cases bi with
    | false =>
      refine out ?_ ?_
      · simp only [r_impl_WalkMatrix, negdisc_val, decide_eq_true hok, i1, Option.bind_some, Bool.not_true, Bool.not_false, cond_false, cond_true]
      · simp only [r_spec_WalkMatrix, negdisc_eq, negdisc_val, decide_eq_true hok, i2, Option.bind_some, Bool.not_true, Bool.not_false, cond_false, cond_true]
    | true =>
      by_cases hk : 0 ≤ kk ∧ kk ≤ 10
      · obtain ⟨n, hn, rfl⟩ := i3 rfl
        obtain ⟨K, rfl⟩ := Int.eq_ofNat_of_zero_le hk.1
        obtain ⟨n2, n43⟩ := pN_bd hn
        obtain ⟨hD1, hD3, h4⟩ := hok
        have hD : D < 0 := by omega
        have hneg : r_impl_isNegativeDisc D = some true := by rw [negdisc_val]; exact congrArg some (decide_eq_true ⟨hD1, hD3, h4⟩)
        have hnegs : r_spec_reDisc D = some true := by rw [negdisc_eq]; exact hneg
        obtain ⟨L, l1, l2, l3, l4⟩ := relist_val hD1 hD3
        have hL : ∀ f, f ∈ L ↔ PrRc D f := fun f => ⟨fun h => prc_of_prr ((l3 f).1 h), fun h => (l3 f).2 (prr_of_prc h)⟩
        have li : r_impl_reducedForms D = some L := by rw [iforms_eq hD1 hD3, l1]
        obtain ⟨m1, m2⟩ := mtx_val n2 n43 hD1 hD l4 (by omega) hL li l1
        have hrr : ∀ f ∈ L, Rr f.1 f.2.1 f.2.2 D := fun f hf => rr_of hD1 hD ((hL f).1 hf)
        have hnx : ∀ x ∈ L, ∀ y ∈ nbs x n, y ∈ L := fun f hf y hy => (hL y).2 (nbs_prc (hrr f hf) n2 n43 y hy)
        have hAt : ∀ i (hi : i < L.length), At (nbM L n) i = rowOf L (nbs L[i] n) := by
          intro i hi
          rw [← At_at (show i < (nbM L n).length by unfold nbM; rw [List.length_map]; exact hi)]
          unfold nbM
          rw [List.getElem_map]
        have hSq : Sq L.length (nbM L n) := ⟨by unfold nbM; rw [List.length_map], fun i hi => by rw [hAt i hi]; exact rowOf_len L _⟩
        have hent : ∀ i j (hi : i < L.length) (hj : j < L.length), A (At (nbM L n) i) j = ((nbs L[i] n).count L[j] : Nat) := by
          intro i j hi hj
          rw [hAt i hi, ← A_at (show j < (rowOf L (nbs L[i] n)).length by rw [rowOf_len]; exact hj)]
          exact rowOf_at l4 (hnx _ (List.getElem_mem hi)) hj
        have hG : Gr L (fun x => nbs x n) (n : Int) := ⟨by omega, hnx, fun x hx => by have := nbs_len x n; omega, fun x hx => (nb_val (hrr x hx) n2 n43).1, fun x hx => (nb_val (hrr x hx) n2 n43).2 (red_self hD1 hD ((hL x).1 hx)).2⟩
        have hWi : ∀ K : Nat, K ≤ 10 → r_impl_WalkMatrix D (n : Int) (K : Int) = some (walkM L.length (nbM L n) K, true) := by
          intro K hK
          simp only [r_impl_WalkMatrix, hneg, i1, m1, iwalk_val hSq (show L.length ≤ 100000 by omega) (show K ≤ 1000 by omega), Option.bind_some, Bool.not_true, cond_false, ltI_eq, decide_eq_false (show ¬ (K : Int) < 0 by omega), decide_eq_false (show ¬ 10 < (K : Int) by omega)]
        have hWs : r_spec_WalkMatrix D (n : Int) (K : Int) = some (walkM L.length (nbM L n) K, true) := by
          simp only [r_spec_WalkMatrix, hnegs, i2, m2, swalk_val hSq (show L.length ≤ 100000 by omega) (show K ≤ 1000 by omega), Option.bind_some, Bool.not_true, cond_false, r_spec_l1In, leI_eq, decide_eq_true hk.1, decide_eq_true hk.2, cond_true]
        have hws : ∀ K, Sq L.length (walkM L.length (nbM L n) K) := fun K => ⟨walkM_len .., fun i hi => by rw [walkM_at _ K hi]; exact itV_len _ _ K _ (unit_len ..)⟩
        have hsl : r_laws_sameLists (walkM L.length (nbM L n) K) (walkM L.length (nbM L n) K) = some true := slists_self _ (by rw [walkM_len]; omega) (by
          intro x hx
          obtain ⟨i, hi, rfl⟩ := List.getElem_of_mem hx
          rw [walkM_len] at hi
          rw [At_at (show i < (walkM L.length (nbM L n) K).length by rw [walkM_len]; exact hi), (hws K).2 i hi]
          omega)
        have hNM : r_impl_NeighbourMatrix D (n : Int) = some (nbM L n, true) := by simp only [r_impl_NeighbourMatrix, hneg, i1, m1, Option.bind_some, Bool.not_true, cond_false]
        have hRF : r_impl_ReducedForms D = some (L, true) := by simp only [r_impl_ReducedForms, hneg, li, Option.bind_some, Bool.not_true, cond_false]
        obtain ⟨z, ez, z0, z1⟩ := numberOf_ok hm hm8
        obtain ⟨z', ez', z0', z1'⟩ := numberOf_ok hc hc8
        have hLpos : 0 < L.length := List.length_pos_of_mem ((hL (pF D)).2 (pf_prc hD1 hD h4))
        have t1 := tmod_range z0 (show (0 : Int) < L.length by omega)
        have t2 := tmod_range z0' (show (0 : Int) < L.length by omega)
        generalize hzi : Int.tmod z (L.length : Int) = zi at *
        generalize hzj : Int.tmod z' (L.length : Int) = zj at *
        obtain ⟨i, rfl⟩ := Int.eq_ofNat_of_zero_le t1.1
        obtain ⟨j, rfl⟩ := Int.eq_ofNat_of_zero_le t2.1
        have hi : i < L.length := by omega
        have hj : j < L.length := by omega
        have hfi := (hL _).1 (List.getElem_mem hi)
        have hfj := (hL _).1 (List.getElem_mem hj)
        have hpr := pair_true (cfc_prc hD1 hD hfi) (cfc_prc hD1 hD hfj)
        obtain ⟨r, r1, r2⟩ := i15_val hG (f := L[i]) (g := L[j]) (List.getElem_mem hi)
        obtain ⟨r', s1, s2⟩ := s14_val hG (f := L[i]) (g := L[j]) (List.getElem_mem hi)
        have hrr' := res_uniq r2 s2
        subst hrr'
        have hWD : r_impl_WalkDistance L[i] L[j] [(n : Int)] = some r := by
          simp only [r_impl_WalkDistance, hpr.1, (one_val hn).1, (red_self hD1 hD hfi).1, (red_self hD1 hD hfj).1, Option.bind_some, Bool.not_true, cond_false]
          exact r1
        have hWD2 : r_spec_WalkDistance L[i] L[j] [(n : Int)] = some r := by
          simp only [r_spec_WalkDistance, hpr.2, (one_val hn).2, (red_self hD1 hD hfi).2, (red_self hD1 hD hfj).2, Option.bind_some, Bool.not_true, cond_false]
          exact s1
        obtain ⟨pt, p1, p2⟩ := comp_val (d := D) (p := (n : Int)) (show L.length ≤ 100000 by omega) l4 hSq m1 li
        have hWC : r_impl_WalkComponents D [(n : Int)] = some (prts L pt (List.range L.length), true) := by
          simp only [r_impl_WalkComponents, hneg, (one_val hn).1, Option.bind_some, Bool.not_true, cond_false]
          exact p1
        have hsum := prts_sum p2
        have hlp : (prts L pt (List.range L.length)).length ≤ L.length := by
          unfold prts
          rw [List.length_map]
          refine Nat.le_trans (List.length_filter_le _ _) ?_
          rw [List.length_range]; exact Nat.le_refl _
        have hE : ∀ a b (ha : a < L.length) (hb : b < L.length), L[b] ∈ nbs L[a] n → 0 < A (At (nbM L n) a) b := by
          intro a b ha hb hmem
          rw [hent a b ha hb]
          have := List.count_pos_iff.2 hmem
          omega
        have h84 := l84_run (i := i) (j := j) (L := L) (b := true) (b3 := true) (r := r) (ps := prts L pt (List.range L.length)) hi hj (by omega) (by
          intro e he
          obtain ⟨c, hc, rfl⟩ := List.mem_map.1 he
          refine ⟨?_, fun hr => ?_⟩
          · unfold prt
            rw [List.length_map]
            refine Nat.le_trans (List.length_filter_le _ _) ?_
            rw [List.length_range]; omega
          · rw [prt_mem l4 hi, prt_mem l4 hj]
            rcases r2 with ⟨_, k0, _, hw, _⟩ | ⟨e0, _⟩
            · rw [wlk_same hnx p2 hE hi l4 k0 j hj hw]
            · rw [e0] at hr; cases hr) (prts L pt (List.range L.length)).length FU 0 0 (by omega) (by omega) (by rw [List.drop_zero, hsum]; omega)
        have e0 : (((0 : Nat) : Int)) = 0 := rfl
        rw [e0, List.drop_zero, hsum, Nat.zero_add] at h84
        have hget : getI (walkM L.length (nbM L n) K) (i : Int) = some (At (walkM L.length (nbM L n) K) i) := getAt (by rw [walkM_len]; exact hi)
        have hget2 : getI (At (walkM L.length (nbM L n) K) i) (j : Int) = some (A (At (walkM L.length (nbM L n) K) i) j) := getA (by rw [(hws K).2 i hi]; exact hj)
        have hpos : 0 < A (At (walkM L.length (nbM L n) K) i) j → Wlk (fun x => nbs x n) K L[i] L[j] := by
          intro h
          rw [walkM_at _ K hi] at h
          refine walk_pos (N := L.length) (M := nbM L n) (L := L) rfl (fun a b ha hb hne => ?_) hi K j hj (by omega)
          rw [hent a b ha hb] at hne
          exact List.count_pos_iff.1 (by omega)
        have hmid : ((bif (ltI 0 (K : Int)) then
                      (
                        (r_impl_WalkMatrix D (n : Int) (w64 ((K : Int) - 1))).bind fun y24 =>
                        (some (bif (!y24.2) then true else (!eqI ((y24.1.length : Int)) (((walkM L.length (nbM L n) K).length : Int))))).bind fun t26 =>
                        bif t26 then
                          (
                            some (.inr false)
                          )
                        else
                          (
                            (r_laws_FnWalks_L29 code (i : Int) (nbM L n, true) (L, true) y24 (D, (n : Int), (K : Int)) (walkM L.length (nbM L n) K, true) FU 0).bind fun qo30 =>
                            match qo30 with
                            | .inr r => some (.inr r)
                            | .inl o30 =>
                              some (.inl ())
                          )
                      )
                    else
                      (
                        some (.inl ())
                      )
                  ) : Option (Unit ⊕ Bool)) = some (.inl ()) := by
          cases K with
          | zero => rfl
          | succ K' =>
            have h29 := l29_run (code := code) (b1 := true) (b2 := true) (b3 := true) (b4 := true) (K := K') (y5 := (D, (n : Int), ((K' + 1 : Nat) : Int))) (show L.length ≤ 100000 by omega) rfl hSq hi L.length FU 0 (by omega) (by omega)
            rw [e0] at h29
            rw [ltI_eq, decide_eq_true (by omega), cond_true, w64_in (by omega), show ((K' + 1 : Nat) : Int) - 1 = (K' : Int) by omega, hWi K' (by omega)]
            simp only [Option.bind_some, Bool.not_true, cond_false, walkM_len, eqI_true, h29]
        simp only [r_laws_FnWalks, hb, ed, hWi K (by omega), hWs, hsl, hNM, hRF, ez, ez', Option.bind_some, cond_false, bne_self_eq_false, Bool.not_true, walkM_len, hSq.1, eqI_true]
        rw [nz_ne (show (L.length : Int) ≠ 0 by omega)]
        simp only [Option.bind_some, sI_eq, hzi, hzj]
        simp only [Option.bind_some, walkM_len] at hmid
        refine (congrArg (fun z => Option.bind z _) hmid).trans ?_
        simp only [Option.bind_some]
        rw [getNat hi, getNat hj]
        simp only [Option.bind_some, hWD, hWD2, hWC, bne_self_eq_false, eqI_true, Bool.not_true, cond_false, hget, hget2]
        rcases r2 with ⟨q1, k0, q2, q3, q4⟩ | ⟨q1, q2⟩
        · have hlt : (bif ltI 0 (A (At (walkM L.length (nbM L n) K) i) j) then ltI (K : Int) r.1 else false) = false := by
            rw [ltI_eq, ltI_eq]
            by_cases hw : 0 < A (At (walkM L.length (nbM L n) K) i) j
            · have := q4 K (hpos hw)
              rw [decide_eq_true hw, cond_true, decide_eq_false (by omega)]
            · rw [decide_eq_false hw, cond_false]
          simp only [q1, cond_true, Option.bind_some, hlt, cond_false, Bool.not_true, h84, eqI_true]
        · have hlt : ltI 0 (A (At (walkM L.length (nbM L n) K) i) j) = false := by
            rw [ltI_eq]
            exact decide_eq_false fun hw => q2 K (hpos hw)
          rw [q1] at h84 ⊢
          simp only [cond_false, Option.bind_some, Bool.not_false, cond_true, hlt, h84, eqI_true]
      · refine out ?_ ?_
        · simp only [r_impl_WalkMatrix, negdisc_val, decide_eq_true hok, i1, Option.bind_some, Bool.not_true, Bool.not_false, cond_false, cond_true, ltI_eq]
          have : (bif decide (kk < 0) then true else decide (10 < kk)) = true := by
            by_cases h : kk < 0
            · rw [decide_eq_true h]; rfl
            · rw [decide_eq_false h, cond_false]; exact decide_eq_true (by omega)
          rw [this, cond_true]
        · simp only [r_spec_WalkMatrix, negdisc_eq, negdisc_val, decide_eq_true hok, i2, Option.bind_some, Bool.not_true, Bool.not_false, cond_false, cond_true, r_spec_l1In, leI_eq]
          have : (bif decide (0 ≤ kk) then decide (kk ≤ 10) else false) = false := by
            by_cases h : 0 ≤ kk
            · rw [decide_eq_true h, cond_true]; exact decide_eq_false (by omega)
            · rw [decide_eq_false h]; rfl
          rw [this]; rfl
  · refine out ?_ ?_
    · simp only [r_impl_WalkMatrix, negdisc_val, decide_eq_false hok, Option.bind_some, Bool.not_false, cond_true]
    · simp only [r_spec_WalkMatrix, negdisc_eq, negdisc_val, decide_eq_false hok, Option.bind_some, Bool.not_false, cond_true]
end Go.Proofs.Ytafomkclmkfjeaa
