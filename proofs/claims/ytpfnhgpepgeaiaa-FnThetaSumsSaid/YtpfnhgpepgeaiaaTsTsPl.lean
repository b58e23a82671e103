/-
  Sums of series over classes are sums over genera; of a fundamental discriminant they are divisor sums, and primes act by numbers.
  Conditions: none.
-/
import Derived.Test.YtpfnhgpepgeaiaaTsTsAB
namespace Go.Proofs.Ytpfnhgpepgeaiaa
set_option linter.unusedVariables false
set_option linter.unusedSimpArgs false

/-! ### Classes and genera -/
theorem class_form {d : Int} (hd1 : -2000 ≤ d) (hd2 : d ≤ -3) {f : F3} (h : PrR d f) : r_impl_isClassForm f = some true ∧ r_impl_Form_disc f = some d := by
  obtain ⟨b1, b2⟩ := (rf_prr hd1 hd2 h).big
  obtain ⟨a, b, c⟩ := f
  obtain ⟨h1, h2, h3, h4⟩ := h
  dsimp only at h1 h2 h3 h4 b1 b2
  obtain ⟨⟨i1, i2⟩, i3⟩ := h2
  have ha : inN a = true := inN_iff.2 (by omega)
  have hb : inN b = true := inN_iff.2 (by omega)
  have hc : inN c = true := inN_iff.2 (by omega)
  have hdv := disc_val ha hb hc
  rw [h3] at hdv
  refine ⟨?_, hdv⟩
  simp only [r_impl_isClassForm, r_impl_isShownForm, r_impl_isDefinite, form_val, ha, hb, hc, Bool.and_true, Option.bind_some, hdv, cond_true, content_val ha hb hc, h4, ltI_eq, leI_eq, decide_eq_true (show d < 0 by omega), decide_eq_true (show 0 < a by omega), decide_eq_true hd1]
  rfl
theorem terms_val (n : Int) : r_impl_isTerms n = some (decide (0 ≤ n ∧ n ≤ 100)) ∧ r_spec_thTerms n = some (decide (0 ≤ n ∧ n ≤ 100)) := by
  have h : r_impl_isTerms n = some (decide (0 ≤ n ∧ n ≤ 100)) := by
    simp only [r_impl_isTerms, leI_eq]
    by_cases a : 0 ≤ n <;> by_cases b : n ≤ 100 <;> simp [a, b]
  refine ⟨h, ?_⟩
  simp only [r_spec_thTerms, r_spec_l1In, leI_eq, Option.bind_some]
  by_cases a : 0 ≤ n <;> by_cases b : n ≤ 100 <;> simp [a, b]
theorem cls_mem {L : List F3} {c : List Int} {x : F3} (h : x ∈ cls L c) : x ∈ L ∧ gv x = c := ⟨(List.mem_filter.1 h).1, of_decide_eq_true (List.mem_filter.1 h).2⟩
theorem cls_len (L : List F3) (c : List Int) : (cls L c).length ≤ L.length := List.length_filter_le _ _
structure Ctx (d : Int) (L : List F3) : Prop where
  d1 : -2000 ≤ d
  d2 : d ≤ -3
  ok : r_impl_isNegativeDisc d = some true
  r : r_impl_reducedForms d = some L
  s : r_spec_reList d = some L
  p : ∀ f ∈ L, PrR d f
  n : L.Nodup
  l : L.length ≤ 650
  g : GvOk L
theorem gsumv {d : Int} {L : List F3} (h : Ctx d L) {x : F3} (hx : x ∈ L) {n : Nat} (hn : n ≤ 100) : r_impl_GenusSum x (n : Int) = some (tabF (smF (cls L (gv x))) n, true) := by
  obtain ⟨c1, c2⟩ := class_form h.d1 h.d2 (h.p x hx)
  have ht := (terms_val (n : Int)).1
  rw [decide_eq_true (by omega)] at ht
  have hs := (thetaSum_val h.d1 h.d2 (L := cls L (gv x)) (by have := cls_len L (gv x); have := h.l; omega) (fun f hf => h.p f (cls_mem hf).1) hn).1
  have hl := h.l
  simp only [r_impl_GenusSum, r_impl_GenusOf, c1, c2, Option.bind_some, Bool.not_true, cond_false, h.g.s x hx, gw_val h.r h.g (gv x) (by omega), ht, hs]
theorem gsum_app (L a b : List F3) (m : Nat) : gsum L (a ++ b) m = gsum L a m + gsum L b m := by
  induction a with
  | nil => simp [gsum]
  | cons f a ih => rw [List.cons_append, gsum, gsum, ih]; omega
theorem gsum_bd {L : List F3} (hl : L.length ≤ 650) (m : Nat) : ∀ R : List F3, 0 ≤ gsum L R m ∧ gsum L R m ≤ 546650 * R.length
  | [] => by simp [gsum]
  | f :: R => by
    have h1 := gsum_bd hl m R
    have h2 := smF_bd (cls L (gv f)) m
    have h3 := cls_len L (gv f)
    rw [gsum, List.length_cons]
    omega
def gsF (L R : List F3) (m : Nat) : Int := gsum L R m
theorem gen_loop {d : Int} {L : List F3} (h : Ctx d L) {n : Nat} (hn : n ≤ 100) (more : List Int) (y5 : Int) (y6 y7 : List Int × Bool) {R : List F3} (hR : ∀ f ∈ R, f ∈ L) (hRl : R.length ≤ 650) : ∀ (k fu t : Nat), t + k = R.length → k < fu →
    r_laws_FnThetaSums_L18 more (R.map fun f => cls L (gv f), true) (y5, (n : Int)) y6 y7 fu (t : Int) (tabF (gsF L (R.take t)) n) = some (.inl (tabF (gsF L R) n))
  | k, 0, t, _, hf => by omega
  | 0, fu + 1, t, ht, hf => by
    rw [r_laws_FnThetaSums_L18]
    dsimp only
    rw [List.length_map, ltI_eq, decide_eq_false (by omega), cond_false, List.take_of_length_le (by omega)]
  | k + 1, fu + 1, t, ht, hf => by
    have hlt : t < R.length := by omega
    have hfL := hR _ (List.getElem_mem hlt)
    have hin : R[t] ∈ cls L (gv R[t]) := List.mem_filter.2 ⟨hfL, decide_eq_true rfl⟩
    have hh : ∃ x r, cls L (gv R[t]) = x :: r := by
      match hc : cls L (gv R[t]) with
      | [] => rw [hc] at hin; cases hin
      | x :: r => exact ⟨x, r, rfl⟩
    obtain ⟨x, r, hx⟩ := hh
    have hxm : x ∈ cls L (gv R[t]) := by rw [hx]; exact List.mem_cons_self
    obtain ⟨x1, x2⟩ := cls_mem hxm
    have hg : getI (R.map fun f => cls L (gv f)) (t : Int) = some (cls L (gv R[t])) := by
      rw [getNat (by rw [List.length_map]; exact hlt)]
      simp
    have hg0 : getI (cls L (gv R[t])) 0 = some x := by rw [hx]; rfl
    have hgs := gsumv h x1 hn
    rw [x2] at hgs
    have hb1 : ∀ j, (gsF L (R.take t) j).natAbs ≤ 1000000000 := fun j => by
      have := gsum_bd h.l j (R.take t)
      rw [List.length_take] at this
      unfold gsF
      omega
    have hb2 : ∀ j, (smF (cls L (gv R[t])) j).natAbs ≤ 1000000000 := fun j => smF_nat (by have := cls_len L (gv R[t]); have := h.l; omega) j
    have ha := add_val (L) (t : Int) (n : Int) (F := gsF L (R.take t)) (G := smF (cls L (gv R[t]))) hn hb1 hb2
    have hF : ∀ j, gsF L (R.take t) j + smF (cls L (gv R[t])) j = gsF L (R.take (t + 1)) j := fun j => by
      unfold gsF
      rw [List.take_add_one, List.getElem?_eq_getElem hlt, gsum_app]
      simp [gsum]
    rw [tabF_congr hF] at ha
    rw [r_laws_FnThetaSums_L18]
    dsimp only
    rw [List.length_map, ltI_eq, decide_eq_true (by omega), cond_true, hg]
    simp only [Option.bind_some, hg0, hgs, Bool.not_true, cond_false, tabF_len, eqSelf, ladd_eq _ _ _ _ _ _ _ L (t : Int) (n : Int), ha, sI_eq, wsucc (show t < 1000000000 by omega)]
    exact gen_loop h hn more y5 y6 y7 hR hRl k fu (t + 1) (by omega) (by omega)
/-! ### Divisor series -/
theorem sgK_bd (d : Int) (m : Nat) : ∀ e : Nat, (sgK d m e).natAbs ≤ e
  | 0 => by simp [sgK]
  | e + 1 => by
    have h1 := sgK_bd d m e
    have h2 := KK_unit d (e + 1)
    unfold sgK
    split <;> omega
theorem sgK_stop (d : Int) {m : Nat} (hm : 1 ≤ m) : ∀ k : Nat, sgK d m (m + k) = sgK d m m
  | 0 => rfl
  | k + 1 => by
    show (if m % (m + k + 1) = 0 then KK d (m + k + 1) else 0) + sgK d m (m + k) = sgK d m m
    rw [if_neg (by rw [Nat.mod_eq_of_lt (by omega)]; omega), Int.zero_add]
    exact sgK_stop d hm k
def dvF (d : Int) (e m : Nat) : Int := if m = 0 then 0 else sgK d m e
def dvG (d : Int) (e v m : Nat) : Int := if m = 0 then 0 else (if m % (e + 1) = 0 ∧ m < v then KK d (e + 1) else 0) + sgK d m e
theorem tab_upd {F G : Nat → Int} {n v : Nat} {x : Int} (h1 : ∀ m, m ≠ v → F m = G m) (h2 : G v = x) (hv : v ≤ n) : (tabF F n).set v x = tabF G n := by
  refine List.ext_getElem? fun i => ?_
  rw [List.getElem?_set]
  unfold tabF
  rw [List.getElem?_map, List.getElem?_map, List.length_map, List.length_range]
  by_cases hi : i < n + 1
  · rw [List.getElem?_range hi]
    simp only [Option.map_some]
    by_cases he : v = i
    · subst he
      rw [if_pos rfl, if_pos (by omega), h2]
    · rw [if_neg he, h1 i (fun e => he e.symm)]
  · rw [List.getElem?_eq_none (by simp; omega), if_neg (by omega)]
    rfl
theorem tabF_congr2 {F G : Nat → Int} {n : Nat} (h : ∀ j, j ≤ n → F j = G j) : tabF F n = tabF G n := by
  unfold tabF
  refine List.map_congr_left fun j hj => ?_
  rw [List.mem_range] at hj
  exact h j (by omega)
theorem dv_in {d : Int} {n e : Nat} (hn : n ≤ 100) (he : e < n) : ∀ (k fu j : Nat), (e + 1) * j + k = n + 1 + (e + 1) * 200 → 1 ≤ j → k < fu →
    r_impl_DivisorSeries_L16 d ((e + 1 : Nat) : Int) (n : Int) fu (((e + 1) * j : Nat) : Int) (tabF (dvG d e ((e + 1) * j)) n) = some (tabF (dvF d (e + 1)) n)
  | k, 0, j, _, _, hf => by omega
  | k, fu + 1, j, hk, hj, hf => by
    rw [r_impl_DivisorSeries_L16]
    generalize hv : (e + 1) * j = v at *
    by_cases hc : v ≤ n
    · have hk' := ikN_pos (d := d) (e := e) (by omega)
      have hmul : (e + 1) * (j + 1) = v + (e + 1) := by rw [Nat.mul_add, hv, Nat.mul_one]
      have hv1 : e + 1 ≤ v := by rw [← hv]; exact Nat.le_mul_of_pos_right _ hj
      have hvm : v % (e + 1) = 0 := by rw [← hv]; exact Nat.mul_mod_right _ _
      have hb := sgK_bd d v e
      have hb2 := KK_unit d (e + 1)
      have eG : dvG d e v v = sgK d v e := by
        unfold dvG
        rw [if_neg (by omega), if_neg (by omega), Int.zero_add]
      have eG2 : dvG d e (v + (e + 1)) v = sgK d v e + KK d (e + 1) := by
        unfold dvG
        rw [if_neg (by omega), if_pos ⟨hvm, by omega⟩, Int.add_comm]
      have eset : (tabF (dvG d e v) n).set v (sgK d v e + KK d (e + 1)) = tabF (dvG d e (v + (e + 1))) n := by
        refine tab_upd (fun m hm => ?_) eG2 hc
        unfold dvG
        by_cases h0 : m = 0
        · rw [if_pos h0, if_pos h0]
        · rw [if_neg h0, if_neg h0]
          congr 1
          by_cases hm1 : m % (e + 1) = 0 ∧ m < v
          · rw [if_pos hm1, if_pos ⟨hm1.1, by omega⟩]
          · rw [if_neg hm1, if_neg]
            rintro ⟨a1, a2⟩
            apply hm1
            refine ⟨a1, ?_⟩
            obtain ⟨a, ha⟩ : ∃ a, m = (e + 1) * a := ⟨m / (e + 1), by have := Nat.div_add_mod m (e + 1); omega⟩
            rw [← hmul, ha] at a2
            have a3 : a < j + 1 := Nat.lt_of_mul_lt_mul_left a2
            have a4 : a ≠ j := fun h => hm (by rw [ha, h, hv])
            rw [ha, ← hv]
            exact Nat.mul_lt_mul_of_pos_left (by omega) (by omega)
      have ew : w64 ((v : Int) + ((e + 1 : Nat) : Int)) = ((v + (e + 1) : Nat) : Int) := by rw [w64_in (by omega)]; push_cast; rfl
      have go := dv_in (d := d) hn he (k - (e + 1)) fu (j + 1) (by rw [hmul]; omega) (by omega) (by omega)
      rw [hmul] at go
      rw [leI_eq, decide_eq_true (by omega), cond_true, tabF_get hc, hk']
      simp only [Option.bind_some, sI_eq, Int.toNat_natCast, eG]
      rw [w64_in (n := sgK d v e + KK d (e + 1)) (by omega), eset, ew]
      exact go
    · rw [leI_eq, decide_eq_false (by omega), cond_false]
      congr 1
      refine tabF_congr2 fun m hm => ?_
      unfold dvG dvF
      by_cases h0 : m = 0
      · rw [if_pos h0, if_pos h0]
      · rw [if_neg h0, if_neg h0]
        conv => rhs; unfold sgK
        congr 1
        by_cases hm1 : m % (e + 1) = 0
        · rw [if_pos hm1, if_pos ⟨hm1, by omega⟩]
        · rw [if_neg hm1, if_neg (fun h => hm1 h.1)]
where ikN_pos {d : Int} {e : Nat} (he : e < 1000) : r_impl_kronecker d ((e + 1 : Nat) : Int) = some (KK d (e + 1)) := ik_val (by omega) (by omega) d
theorem dv_out {d : Int} {n : Nat} (hn : n ≤ 100) : ∀ (k fu e : Nat), e + k = n → k < fu →
    r_impl_DivisorSeries_L11 d (n : Int) fu ((e + 1 : Nat) : Int) (tabF (dvF d e) n) = some (tabF (dvF d n) n)
  | k, 0, e, _, hf => by omega
  | 0, fu + 1, e, he, hf => by
    rw [r_impl_DivisorSeries_L11, leI_eq, decide_eq_false (by omega), cond_false, show e = n by omega]
  | k + 1, fu + 1, e, he, hf => by
    have hF := FUge
    have h1 := dv_in (d := d) hn (show e < n by omega) (n + 1 + (e + 1) * 200 - (e + 1)) FU 1 (by rw [Nat.mul_one]; omega) (by omega) (by omega)
    rw [Nat.mul_one] at h1
    have e0 : tabF (dvG d e (e + 1)) n = tabF (dvF d e) n := by
      refine tabF_congr2 fun m hm => ?_
      unfold dvG dvF
      by_cases h0 : m = 0
      · rw [if_pos h0, if_pos h0]
      · rw [if_neg h0, if_neg h0, if_neg, Int.zero_add]
        rintro ⟨a1, a2⟩
        rw [Nat.mod_eq_of_lt a2] at a1
        exact h0 a1
    rw [e0] at h1
    rw [r_impl_DivisorSeries_L11, leI_eq, decide_eq_true (by omega), cond_true, h1]
    simp only [Option.bind_some, sI_eq, wsucc (show e + 1 < 1000000000 by omega)]
    exact dv_out hn k fu (e + 1) (by omega) (by omega)
def dvE (d : Int) (m : Nat) : Int := if m = 0 then 0 else sgK d m m
theorem zero_tab2 (n : Nat) {F : Nat → Int} (h : ∀ j, F j = 0) : List.replicate (n + 1) (0 : Int) = tabF F n := by
  rw [zero_tab]
  exact tabF_congr fun j => by rw [h j]; rfl
theorem dv_val {d : Int} {n : Nat} (hn : n ≤ 100) (hd : r_impl_isNegativeDisc d = some true) : r_impl_DivisorSeries d (n : Int) = some (tabF (dvE d) n, true) := by
  have hF := FUge
  have ht := (terms_val (n : Int)).1
  rw [decide_eq_true (by omega)] at ht
  have e1 : w64 ((n : Int) + 1) = ((n + 1 : Nat) : Int) := by rw [w64_in (by omega)]; push_cast; rfl
  have h1 := dv_out (d := d) hn n FU 0 (by omega) (by omega)
  have e2 : ((0 + 1 : Nat) : Int) = 1 := rfl
  rw [e2, ← zero_tab2 n (F := dvF d 0) (fun j => by unfold dvF; split <;> rfl)] at h1
  have e3 : tabF (dvF d n) n = tabF (dvE d) n := by
    refine tabF_congr2 fun m hm => ?_
    unfold dvF dvE
    by_cases h0 : m = 0
    · rw [if_pos h0, if_pos h0]
    · rw [if_neg h0, if_neg h0]
      obtain ⟨k, hk⟩ : ∃ k, n = m + k := ⟨n - m, by omega⟩
      rw [hk]
      exact sgK_stop d (by omega) k
  rw [e3] at h1
  simp only [r_impl_DivisorSeries, hd, ht, e1, mkN (show n + 1 ≤ 1000000 by omega), Option.bind_some, Bool.not_true, cond_false, Int.toNat_natCast, h1]
/-! ### A prime's action -/
def acF (d : Int) (L : List F3) (p t : Nat) : Int := smF L (t * p) + (if t % p = 0 then KK d p * smF L (t / p) else 0)
theorem smF_sm {L : List F3} (hl : L.length ≤ 650) (m : Nat) : (smF L m).natAbs ≤ 546650 := by
  have := smF_bd L m
  omega
theorem ac_run {d : Int} {L : List F3} (hl : L.length ≤ 650) {n p : Nat} (hn : n ≤ 100) (hp : 2 ≤ p ∧ p ≤ 13) : ∀ (k fu t : Nat), t + k = n / p + 1 → k < fu →
    r_impl_PrimeOnSeries_L14 d (tabF (smF L) n) (p : Int) fu (t : Int) ((List.range t).map (acF d L p)) = some ((List.range (n / p + 1)).map (acF d L p))
  | k, 0, t, _, hf => by omega
  | k, fu + 1, t, ht, hf => by
    have ep : w64 ((t : Int) * (p : Int)) = ((t * p : Nat) : Int) := by
      have hb : t * p ≤ 101 * 13 := Nat.mul_le_mul (by have := Nat.div_le_self n p; omega) hp.2
      have e : (t : Int) * (p : Int) = ((t * p : Nat) : Int) := by push_cast; rfl
      rw [e, w64_in (by omega)]
    rw [r_impl_PrimeOnSeries_L14, ep, tabF_len, ltI_eq]
    match k, ht with
    | 0, ht =>
      have hge : ¬ t * p ≤ n := fun h => by
        have := (Nat.le_div_iff_mul_le (k := p) (x := t) (y := n) (by omega)).2 h
        omega
      rw [decide_eq_false (by omega), cond_false, show t = n / p + 1 by omega]
    | k + 1, ht =>
      have hle : t * p ≤ n := (Nat.le_div_iff_mul_le (by omega)).1 (by omega)
      have htn : t ≤ n := Nat.le_trans (Nat.le_mul_of_pos_right _ (by omega)) hle
      have hdn : t / p ≤ n := Nat.le_trans (Nat.div_le_self _ _) htn
      have et : Int.tmod (t : Int) (p : Int) = ((t % p : Nat) : Int) := rfl
      have ed : w64 (Int.tdiv (t : Int) (p : Int)) = ((t / p : Nat) : Int) := by
        have e : Int.tdiv (t : Int) (p : Int) = ((t / p : Nat) : Int) := rfl
        have q0 : 0 ≤ ((t / p : Nat) : Int) := Int.natCast_nonneg _
        rw [e, w64_in (by omega)]
      have s1 := smF_sm hl (t * p)
      have s2 := smF_sm hl (t / p)
      have m1 := abs_mul (x := KK d p) (y := smF L (t / p)) (A := 1) (B := 546650) (by have := KK_unit d p; omega) s2
      have go := ac_run (d := d) hl hn hp k fu (t + 1) (by omega) (by omega)
      rw [List.range_succ, List.map_append] at go
      rw [decide_eq_true (by omega), cond_true, tabF_get hle, nzP (show (p : Int) ≠ 0 by omega)]
      simp only [Option.bind_some, et, ed, sI_eq, tabF_get hdn, ik_val (show 1 ≤ p by omega) (show p ≤ 1000000 by omega) d, wsucc (show t < 1000000000 by omega)]
      have e0 : eqI ((t % p : Nat) : Int) 0 = decide (t % p = 0) := eqI_nat (t % p) 0
      rw [e0]
      by_cases hm : t % p = 0
      · have ea : acF d L p t = smF L (t * p) + KK d p * smF L (t / p) := by unfold acF; rw [if_pos hm]
        rw [decide_eq_true hm, cond_true, w64_abs (n := KK d p * smF L (t / p)) (by omega), w64_abs (by omega), roomOk (by simp; omega), Option.bind_some, ← ea]
        exact go
      · have ea : acF d L p t = smF L (t * p) := by unfold acF; rw [if_neg hm, Int.add_zero]
        rw [decide_eq_false hm, cond_false, roomOk (by simp; omega), Option.bind_some, ← ea]
        exact go
theorem smF_zero {d : Int} (hd1 : -2000 ≤ d) (hd2 : d ≤ -3) : ∀ L : List F3, (∀ f ∈ L, PrR d f) → smF L 0 = L.length
  | [], _ => rfl
  | f :: L, h => by
    have h1 := TC_zero (rf_prr hd1 hd2 (h f List.mem_cons_self))
    rw [smF, smF_zero hd1 hd2 L fun g hg => h g (List.mem_cons_of_mem _ hg), List.length_cons]
    unfold tcf tcF
    rw [h1]
    push_cast
    omega
theorem prime_pS : ∀ p ∈ pS, r_impl_IsPrime (p : Int) = some true := by decide +kernel
structure FunT (d : Int) (w : Int) (L : List F3) : Prop where
  au : r_impl_AutomorphCount d = some (w, true)
  b : w.natAbs ≤ 6
  dv : ∀ m, 1 ≤ m → m ≤ 100 → smF L m = w * sgK d m m
  ac : ∀ p ∈ pS, ∀ m, 1 ≤ m → m * p ≤ 100 → acF d L p m = (1 + KK d p) * smF L m
theorem sm_in {d w : Int} {L : List F3} (h : Ctx d L) (hf : FunT d w L) {m : Nat} (hm : m ≤ 100) : (smF L m).natAbs ≤ 650 := by
  by_cases h0 : m = 0
  · subst h0
    rw [smF_zero h.d1 h.d2 L h.p]
    have := h.l
    omega
  · rw [hf.dv m (by omega) hm]
    have := abs_mul (x := w) (y := sgK d m m) (A := 6) (B := 100) hf.b (by have := sgK_bd d m m; omega)
    omega
theorem ac_all {d w : Int} {L : List F3} (h : Ctx d L) (hf : FunT d w L) {p : Nat} (hp : p ∈ pS) {m : Nat} (hm : m * p ≤ 100) : acF d L p m = (1 + KK d p) * smF L m := by
  by_cases h0 : m = 0
  · subst h0
    unfold acF
    rw [Nat.zero_mul, Nat.zero_mod, if_pos rfl, Nat.zero_div]
    grind
  · exact hf.ac p hp m (by omega) hm
theorem one_kk {d : Int} {p : Nat} : 0 ≤ 1 + KK d p ∧ 1 + KK d p ≤ 2 := by
  have := KK_unit d p
  omega
theorem ac_bd {d w : Int} {L : List F3} (h : Ctx d L) (hf : FunT d w L) {p : Nat} (hp : p ∈ pS) (hp2 : 2 ≤ p) {m : Nat} (hm : m * p ≤ 100) : (acF d L p m).natAbs ≤ 1300 := by
  have hm100 : m ≤ 100 := Nat.le_trans (Nat.le_mul_of_pos_right _ (by omega)) hm
  rw [ac_all h hf hp hm]
  have := abs_mul (x := 1 + KK d p) (y := smF L m) (A := 2) (B := 650) (by have := one_kk (d := d) (p := p); omega) (sm_in h hf hm100)
  omega
theorem pos_val {d w : Int} {L : List F3} (h : Ctx d L) (hf : FunT d w L) {p n : Nat} (hp : p ∈ pS) (hp2 : 2 ≤ p ∧ p ≤ 13) (hn : n ≤ 100) : r_impl_PrimeOnSeries d (p : Int) (tabF (smF L) n) = some ((List.range (n / p + 1)).map (acF d L p), true) := by
  have hF := FUge
  have hq : n / p ≤ n := Nat.div_le_self _ _
  have h1 := ac_run (d := d) h.l hn hp2 (n / p + 1) FU 0 (by omega) (by omega)
  have e0 : (((0 : Nat) : Int)) = 0 := rfl
  rw [e0, List.range_zero, List.map_nil] at h1
  have hin : (tabF (smF L) n).all inN = true := by
    rw [List.all_eq_true]
    intro x hx
    obtain ⟨t, ht, rfl⟩ := List.mem_map.1 hx
    rw [List.mem_range] at ht
    have := smF_sm h.l t
    rw [inN_iff]
    omega
  have hin2 : ((List.range (n / p + 1)).map (acF d L p)).all inN = true := by
    rw [List.all_eq_true]
    intro x hx
    obtain ⟨t, ht, rfl⟩ := List.mem_map.1 hx
    rw [List.mem_range] at ht
    have hle : t * p ≤ n := (Nat.le_div_iff_mul_le (by omega)).1 (by omega)
    have := ac_bd h hf hp hp2.1 (m := t) (by omega)
    rw [inN_iff]
    omega
  have hser : r_impl_isSeries (tabF (smF L) n) = some true := by
    simp only [r_impl_isSeries, tabF_len, leI_eq, num_val _ (show (tabF (smF L) n).length < 1000000 by rw [tabF_len]; omega), hin]
    rw [decide_eq_true (by omega), decide_eq_true (by omega)]
    rfl
  simp only [r_impl_PrimeOnSeries, h.ok, prime_pS p hp, hser, Option.bind_some, Bool.not_true, cond_false, h1, r_impl_checkedSeries, num_val ((List.range (n / p + 1)).map (acF d L p)) (by rw [List.length_map, List.length_range]; omega), hin2]
/-! ### The law's loops -/
theorem l61_run {d w : Int} {L : List F3} (h : Ctx d L) (hf : FunT d w L) {n : Nat} (hn : n ≤ 100) (y51 : Int × Bool) (y52 : List Int × Bool) (b6 : Bool) : ∀ (k fu t : Nat), 1 ≤ t → t + k = n + 1 → k < fu →
    r_laws_FnThetaSums_L61 (w, true) (tabF (dvE d) n, true) y51 y52 (tabF (smF L) n, b6) fu (t : Int) = some (.inl ())
  | k, 0, t, _, _, hfu => by omega
  | 0, fu + 1, t, h1, ht, hfu => by
    rw [r_laws_FnThetaSums_L61]
    dsimp only
    rw [tabF_len, ltI_eq, decide_eq_false (by omega), cond_false]
  | k + 1, fu + 1, t, h1, ht, hfu => by
    have hs := sm_in h hf (m := t) (by omega)
    have e1 : dvE d t = sgK d t t := by unfold dvE; rw [if_neg (by omega)]
    rw [r_laws_FnThetaSums_L61]
    dsimp only
    rw [tabF_len, ltI_eq, decide_eq_true (by omega), cond_true, tabF_get (by omega), tabF_get (by omega)]
    simp only [Option.bind_some, e1, ← hf.dv t h1 (by omega)]
    rw [w64_in (by omega), eqSelf, Bool.not_true, cond_false, sI_eq, wsucc (show t < 1000000000 by omega)]
    exact l61_run h hf hn y51 y52 b6 k fu (t + 1) (by omega) (by omega) (by omega)
theorem l70_run {d w : Int} {L : List F3} (h : Ctx d L) (hf : FunT d w L) {n p : Nat} (hp : p ∈ pS) (hp2 : 2 ≤ p ∧ p ≤ 13) (hn : n ≤ 100) (b6 b51 b52 : Bool) : ∀ (k fu t : Nat), t + k = n / p + 1 → k < fu →
    r_laws_FnThetaSums_L70 (KK d p, b51) ((List.range (n / p + 1)).map (acF d L p), b52) (tabF (smF L) n, b6) fu (t : Int) = some (.inl ())
  | k, 0, t, _, hfu => by omega
  | 0, fu + 1, t, ht, hfu => by
    rw [r_laws_FnThetaSums_L70]
    dsimp only
    rw [List.length_map, List.length_range, ltI_eq, decide_eq_false (by omega), cond_false]
  | k + 1, fu + 1, t, ht, hfu => by
    have hle : t * p ≤ n := (Nat.le_div_iff_mul_le (by omega)).1 (by omega)
    have htn : t ≤ n := Nat.le_trans (Nat.le_mul_of_pos_right _ (by omega)) hle
    have hb := ac_bd h hf hp hp2.1 (m := t) (by omega)
    have h1 := one_kk (d := d) (p := p)
    have hg : getI ((List.range (n / p + 1)).map (acF d L p)) (t : Int) = some (acF d L p t) := by
      rw [getNat (by rw [List.length_map, List.length_range]; omega)]
      simp
    rw [r_laws_FnThetaSums_L70]
    dsimp only
    rw [List.length_map, List.length_range, ltI_eq, decide_eq_true (by omega), cond_true, hg, tabF_get htn]
    simp only [Option.bind_some]
    rw [w64_in (n := 1 + KK d p) (by omega), ← ac_all h hf hp (m := t) (by omega), w64_in (by omega), eqSelf, Bool.not_true, cond_false, sI_eq, wsucc (show t < 1000000000 by omega)]
    exact l70_run h hf hp hp2 hn b6 b51 b52 k fu (t + 1) (by omega) (by omega)
theorem p_draw {z : Int} (h0 : 0 ≤ z) : ∃ p : Nat, p ∈ pS ∧ (2 ≤ p ∧ p ≤ 13) ∧ getI ([2, 3, 5, 7, 11, 13] : List Int) (Int.tmod z 6) = some (p : Int) := by
  have h1 := (tmod_range h0 (show (0 : Int) < 6 by omega)).1
  have h2 := (tmod_range h0 (show (0 : Int) < 6 by omega)).2
  generalize Int.tmod z 6 = i at h1 h2
  rcases (by omega : i = 0 ∨ i = 1 ∨ i = 2 ∨ i = 3 ∨ i = 4 ∨ i = 5) with h | h | h | h | h | h <;> subst h
  · exact ⟨2, by decide, by omega, rfl⟩
  · exact ⟨3, by decide, by omega, rfl⟩
  · exact ⟨5, by decide, by omega, rfl⟩
  · exact ⟨7, by decide, by omega, rfl⟩
  · exact ⟨11, by decide, by omega, rfl⟩
  · exact ⟨13, by decide, by omega, rfl⟩
theorem ctx_of {d : Int} (hd : OkD d) : ∃ L, Ctx d L ∧ ∃ b, r_impl_IsFundamental d = some (b, true) ∧ (b = true → ∃ w, FunT d w L) := by
  obtain ⟨d1, d2, d4⟩ := hd
  obtain ⟨D, hD⟩ := Int.eq_ofNat_of_zero_le (show 0 ≤ -d by omega)
  have e : d = -(D : Int) := by omega
  subst e
  obtain ⟨L, h1, h2, h3, h4, h5, h6, b, h7, h8⟩ := ts_main (D := D) (by omega) (by omega) (by omega)
  have hok : r_impl_isNegativeDisc (-(D : Int)) = some true := by rw [negdisc_val, decide_eq_true ⟨d1, d2, d4⟩]
  refine ⟨L, ⟨d1, d2, hok, h2, h1, fun f hf => (h3 f).1 hf, h4, h5, h6⟩, b, h7, fun hb => ⟨wD D, ?_⟩⟩
  have hw : wD D = if D = 3 then 6 else if D = 4 then 4 else 2 := by
    unfold wD
    rw [nbeq, nbeq]
    by_cases a : D = 3
    · simp [a]
    · by_cases b : D = 4
      · simp [b]
      · simp [a, b]
  refine ⟨?_, ?_, (h8 hb).dv, (h8 hb).ac⟩
  · simp only [r_impl_AutomorphCount, hok, Option.bind_some, Bool.not_true, cond_false]
    rw [hw]
    by_cases a : D = 3
    · subst a; rfl
    · by_cases b : D = 4
      · subst b; rfl
      · rw [eqNe (by omega), eqNe (by omega), if_neg a, if_neg b]; rfl
  · rw [hw]
    split
    · decide
    · split <;> decide
theorem raw_FnThetaSums (code more : List Int) (hc8 : ∀ x ∈ code, 0 ≤ x ∧ x ≤ 255) (hm8 : ∀ x ∈ more, 0 ≤ x ∧ x ≤ 255) : r_laws_FnThetaSums code more = some true := by
  rcases big_cases code more with hb | ⟨hb, hc, hm⟩
  · simp only [r_laws_FnThetaSums, hb, Option.bind_some, cond_true]
  have hF := FUge
  have e0 : (((0 : Nat) : Int)) = 0 := rfl
  obtain ⟨d, c1, e1, h1⟩ := disc_ok (CurB.start hc hc8) (by omega)
  obtain ⟨n, c2, e2, h2⟩ := terms_ok h1 (by omega)
  have ed : r_spec_DrawClassSum code = some (d, n) := by simp only [r_spec_DrawClassSum, e1, e2, Option.bind_some]
  have hnil : r_laws_sameInts [] [] = some true := ints_self [] (by simp)
  obtain ⟨t1, t2⟩ := terms_val n
  have hneg := negdisc_val d
  have hok := okd_val d
  simp only [r_laws_FnThetaSums, hb, ed, Option.bind_some, cond_false]
  by_cases hd : OkD d
  case neg =>
    rw [decide_eq_false hd] at hok
    rw [decide_eq_false (p := -2000 ≤ d ∧ d ≤ -3 ∧ d % 4 ≤ 1) hd] at hneg
    simp only [r_impl_ClassSum, r_spec_ClassSum, hneg, hok, Option.bind_some, Bool.not_false, cond_true, bne_self_eq_false, cond_false, hnil, Bool.not_true]
  by_cases hn : 0 ≤ n ∧ n ≤ 100
  case neg =>
    rw [decide_eq_true hd] at hok
    rw [decide_eq_true (p := -2000 ≤ d ∧ d ≤ -3 ∧ d % 4 ≤ 1) hd] at hneg
    rw [decide_eq_false hn] at t1 t2
    simp only [r_impl_ClassSum, r_spec_ClassSum, hneg, hok, t1, t2, Option.bind_some, Bool.not_false, cond_true, bne_self_eq_false, cond_false, hnil, Bool.not_true]
  rw [decide_eq_true hd] at hok
  rw [decide_eq_true hn] at t1 t2
  obtain ⟨L, hx, b, f1, f2⟩ := ctx_of hd
  obtain ⟨n, rfl⟩ := Int.eq_ofNat_of_zero_le hn.1
  have hn100 : n ≤ 100 := by omega
  have hl := hx.l
  obtain ⟨s1, s2⟩ := thetaSum_val hx.d1 hx.d2 (L := L) (by omega) hx.p hn100
  have c1 : r_impl_ClassSum d (n : Int) = some (tabF (smF L) n, true) := by simp only [r_impl_ClassSum, hx.ok, t1, hx.r, s1, Option.bind_some, Bool.not_true, cond_false]
  have c2 : r_spec_ClassSum d (n : Int) = some (tabF (smF L) n, true) := by simp only [r_spec_ClassSum, hok, t2, hx.s, s2, Option.bind_some, Bool.not_true, cond_false]
  have hlen : ∀ F : Nat → Int, (tabF F n).length < 1000000 := fun F => by rw [tabF_len]; omega
  have hg : r_impl_GeneraOf d = some (gnr L L, true) := by simp only [r_impl_GeneraOf, hx.ok, gen_val hx.r hx.g (by omega), Option.bind_some, Bool.not_true, cond_false]
  have hRl : (L.filter (isH L)).length ≤ 650 := Nat.le_trans (List.length_filter_le _ _) hl
  have hrun := gen_loop hx hn100 more d (tabF (smF L) n, true) (tabF (smF L) n, true) (R := L.filter (isH L)) (fun f hf => (List.mem_filter.1 hf).1) hRl (L.filter (isH L)).length FU 0 (by omega) (by omega)
  rw [e0, List.take_zero, ← zero_tab2 n (F := gsF L []) (fun j => rfl)] at hrun
  have egs : tabF (gsF L (L.filter (isH L))) n = tabF (smF L) n := tabF_congr fun j => gsum_val hx.n j
  rw [egs] at hrun
  have egn : gnr L L = (L.filter (isH L)).map fun f => cls L (gv f) := rfl
  simp only [c1, c2, Option.bind_some, bne_self_eq_false, cond_false, ints_self _ (hlen (smF L)), Bool.not_true, hg, tabF_len, mkN (show n + 1 ≤ 1000000 by omega), Int.toNat_natCast, egn, hrun]
  simp only [f1, Option.bind_some, Bool.not_true, cond_false]
  cases b with
  | false => rfl
  | true =>
    obtain ⟨w, hf⟩ := f2 rfl
    obtain ⟨z, ez, z0, z1⟩ := numberOf_ok hm hm8
    obtain ⟨p, p1, p2, p3⟩ := p_draw z0
    have hks : r_impl_KroneckerSymbol d (p : Int) = some (KK d p, true) := by
      have hin : [d, (p : Int)].all inN = true := by
        simp only [List.all_cons, List.all_nil, Bool.and_true, Bool.and_eq_true]
        have := hx.d1
        have := hx.d2
        exact ⟨inN_iff.2 (by omega), inN_iff.2 (by omega)⟩
      simp only [r_impl_KroneckerSymbol, num_val [d, (p : Int)] (by simp), hin, Option.bind_some, Bool.not_true, cond_false, ik_val (show 1 ≤ p by omega) (show p ≤ 1000000 by omega) d]
    have eln : eqI ((((List.range (n / p + 1)).map (acF d L p)).length : Nat) : Int) (w64 (Int.tdiv (w64 ((w64 (((n + 1 : Nat) : Int) + (p : Int))) - 1)) (p : Int))) = true := by
      have a1 : w64 (((n + 1 : Nat) : Int) + (p : Int)) = ((n + 1 + p : Nat) : Int) := by rw [w64_in (by omega)]; push_cast; rfl
      have a2 : w64 (((n + 1 + p : Nat) : Int) - 1) = ((n + p : Nat) : Int) := by rw [w64_in (by omega)]; omega
      have a3 : Int.tdiv ((n + p : Nat) : Int) (p : Int) = (((n + p) / p : Nat) : Int) := rfl
      have a4 : (n + p) / p = n / p + 1 := Nat.add_div_right n (by omega)
      have hq : n / p ≤ n := Nat.div_le_self _ _
      have q0 : 0 ≤ ((n / p : Nat) : Int) := Int.natCast_nonneg _
      rw [a1, a2, a3, a4, w64_in (by omega), List.length_map, List.length_range, eqSelf]
    have r61 := l61_run hx hf hn100 (KK d p, true) ((List.range (n / p + 1)).map (acF d L p), true) true n FU 1 (by omega) (by omega) (by omega)
    have r70 := l70_run hx hf p1 p2 hn100 true true true (n / p + 1) FU 0 (by omega) (by have : n / p ≤ n := Nat.div_le_self _ _; omega)
    have e11 : (((1 : Nat) : Int)) = 1 := rfl
    rw [e11] at r61
    rw [e0] at r70
    simp only [Bool.not_true, cond_false, hf.au, dv_val hn100 hx.ok, ez, p3, hks, pos_val hx hf p1 p2 hn100, nzP (show (p : Int) ≠ 0 by omega), Option.bind_some, eln, r61, r70]
end Go.Proofs.Ytpfnhgpepgeaiaa
