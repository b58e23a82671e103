/-
  The classes that represent a prime are that of its form and its inverse, in the genus whose values are those of the prime.
  Conditions: none.
-/
import Derived.Test.YtpfnhgpepgeaiaaPgPgA
import Derived.Test.YtpfnhgpepgeaiaaPgPgTab
namespace Go.Proofs.Ytpfnhgpepgeaiaa
set_option linter.unusedVariables false
set_option linter.unusedSimpArgs false

/-! ### What the tables say -/
structure PgS (d : Int) (L : List F3) (rs : List R3) (na : Nat) : Prop where
  d1 : -2000 ≤ d
  d2 : d ≤ -3
  ok : r_impl_isNegativeDisc d = some true
  r : r_impl_reducedForms d = some L
  m : rs.map (·.1) = L
  p : ∀ f ∈ L, PrR d f
  rc : ∀ r ∈ rs, Rc r
  ll : L.length ≤ 27000
  as : ∃ as, r_impl_assigned d = some as ∧ as.length = na
  nal : na ≤ 1000
  all : ∀ p ∈ pQ, Int.gcd (p : Int) (2 * d) = 1 → okp d rs na p = true
theorem okPs_at (d : Int) (D2 : Nat) (rs : List R3) (na : Nat) : ∀ l : List Nat, okPs d D2 rs na l = true → ∀ p ∈ l, Nat.gcd p D2 = 1 → okp d rs na p = true
  | [], _, p, hp, _ => by cases hp
  | a :: l, h, p, hp, hg => by
    unfold okPs at h
    cases hc : (bif Nat.beq (Nat.gcd a D2) 1 then okp d rs na a else true) with
    | false => rw [hc] at h; cases h
    | true =>
      rw [hc, cond_true] at h
      rcases List.mem_cons.1 hp with e | e
      · subst e
        rw [hg] at hc
        exact hc
      · exact okPs_at d D2 rs na l h p e hg
theorem pg_main {d : Int} (hd : -2000 ≤ d ∧ d ≤ -3 ∧ d % 4 ≤ 1) : ∃ L rs na, PgS d L rs na := by
  obtain ⟨d1, d2, d4⟩ := hd
  obtain ⟨D, hD⟩ := Int.eq_ofNat_of_zero_le (show 0 ≤ -d by omega)
  have e : d = -(D : Int) := by omega
  subst e
  have ht := pg_tab D (by omega) (by omega)
  have ho : pgO D = true := by
    unfold pgG at ht
    rw [fQ_eq, nbeq, nbeq] at ht
    by_cases h : D % 4 = 0
    · have h' : Nat.mod D 4 = 0 := h
      rw [decide_eq_true h', cond_true] at ht
      exact ht
    · have h' : Nat.mod D 4 = 3 := by show D % 4 = 3; omega
      rw [h'] at ht
      exact ht
  obtain ⟨L, l1, l2, l3, l4⟩ := jlist_val d1 d2
  unfold pgO at ho
  rw [l1] at ho
  dsimp only at ho
  cases hr : recs L with
  | none => rw [hr] at ho; cases ho
  | some rs =>
    rw [hr] at ho
    dsimp only at ho
    obtain ⟨m1, m2⟩ := recs_val d1 d2 L rs (fun f hf => (l3 f).1 hf) hr
    cases ha : r_impl_assigned (-(D : Int)) with
    | none => rw [ha] at ho; cases ho
    | some as =>
      rw [ha] at ho
      dsimp only at ho
      rw [fQ_eq] at ho
      cases hn : Nat.ble as.length 1000 with
      | false => rw [hn] at ho; cases ho
      | true =>
        rw [hn, cond_true] at ho
        refine ⟨L, rs, as.length, d1, d2, by rw [negdisc_val, decide_eq_true ⟨d1, d2, d4⟩], l1, m1, fun f hf => (l3 f).1 hf, m2, l2, ⟨as, ha, rfl⟩, Nat.le_of_ble_eq_true hn, fun p hp hg => okPs_at _ _ _ _ _ ho p hp ?_⟩
        have e2 : (2 * -(D : Int)).natAbs = 2 * D := by omega
        have hg : Nat.gcd (p : Int).natAbs (2 * -(D : Int)).natAbs = 1 := hg
        rw [e2, Int.natAbs_natCast] at hg
        exact hg
structure Yes (d : Int) (rs : List R3) (p : Nat) (V : List Int) (f g g' : F3) : Prop where
  pf : r_impl_primeForm d (p : Int) = some (f, true)
  k : kqo d p = 1
  rg : r_impl_reduced f = some g
  i : r_impl_reduced (g.1, -g.2.1, g.2.2) = some g'
  v : hasV g V rs = true
  v2 : hasV g' V rs = true
  h : g ∈ bits p rs
  h2 : g' ∈ bits p rs
  l : (bits p rs).length = (if g = g' then 1 else 2)
structure Val (d : Int) (na p : Nat) (V : List Int) : Prop where
  i : r_impl_valuesAt d (p : Int) = some V
  s : r_spec_chList d (p : Int) = some V
  l : V.length = na
  u : allU V = true
theorem okp_val {d : Int} {rs : List R3} {na p : Nat} (h : okp d rs na p = true) : ∃ V, Val d na p V ∧ ((∃ f g g', Yes d rs p V f g g') ∨ (∃ f, r_impl_primeForm d (p : Int) = some (f, false) ∧ kqo d p = -1 ∧ bits p rs = [])) := by
  unfold okp at h
  cases h1 : r_impl_valuesAt d (p : Int) with
  | none => rw [h1] at h; cases h
  | some V =>
    rw [h1] at h
    dsimp only at h
    cases h2 : r_spec_chList d (p : Int) with
    | none => rw [h2] at h; cases h
    | some W =>
      rw [h2] at h
      dsimp only at h
      cases h3 : (eqLs V W && (Nat.beq V.length na && allU V)) with
      | false => rw [h3] at h; cases h
      | true =>
        rw [h3, cond_true] at h
        rw [Bool.and_eq_true, Bool.and_eq_true, nbeq, decide_eq_true_iff] at h3
        have hVW := eqLs_eq _ _ h3.1
        subst hVW
        refine ⟨V, ⟨h1, h2, h3.2.1, h3.2.2⟩, ?_⟩
        cases h4 : r_impl_primeForm d (p : Int) with
        | none => rw [h4] at h; cases h
        | some fb =>
          obtain ⟨f, b⟩ := fb
          rw [h4] at h
          cases b with
          | false =>
            dsimp only at h
            right
            cases h5 : eqI (kqo d p) (-1) with
            | false => rw [h5] at h; cases h
            | true =>
              rw [h5, cond_true, nbeq, decide_eq_true_iff] at h
              rw [eqI_eq, beq_iff_eq] at h5
              exact ⟨f, rfl, h5, List.eq_nil_of_length_eq_zero h⟩
          | true =>
            dsimp only at h
            left
            cases h5 : eqI (kqo d p) 1 with
            | false => rw [h5] at h; cases h
            | true =>
              rw [h5, cond_true] at h
              rw [eqI_eq, beq_iff_eq] at h5
              cases h6 : r_impl_reduced f with
              | none => rw [h6] at h; cases h
              | some g =>
                rw [h6] at h
                dsimp only at h
                cases h7 : r_impl_reduced (g.1, -g.2.1, g.2.2) with
                | none => rw [h7] at h; cases h
                | some g' =>
                  rw [h7] at h
                  dsimp only at h
                  cases h8 : (hasV g V rs && hasV g' V rs) with
                  | false => rw [h8] at h; cases h
                  | true =>
                    rw [h8, cond_true] at h
                    cases h9 : (hasF g (bits p rs) && hasF g' (bits p rs)) with
                    | false => rw [h9] at h; cases h
                    | true =>
                      rw [h9, cond_true, nbeq, decide_eq_true_iff, eqF_eq] at h
                      rw [Bool.and_eq_true] at h8 h9
                      refine ⟨f, g, g', h4, h5, h6, h7, h8.1, h8.2, hasF_val _ h9.1, hasF_val _ h9.2, ?_⟩
                      rw [h]
                      by_cases e : g = g'
                      · rw [decide_eq_true e, if_pos e]; rfl
                      · rw [decide_eq_false e, if_neg e]; rfl
theorem PgS.gvo {d : Int} {L : List F3} {rs : List R3} {na : Nat} (h : PgS d L rs na) : GvOk L ∧ ∀ r ∈ rs, r.1 ∈ L ∧ gv r.1 = r.2.1 := by
  have hm : ∀ r ∈ rs, r.1 ∈ L := fun r hr => by rw [← h.m]; exact List.mem_map_of_mem hr
  have hg : ∀ r ∈ rs, gv r.1 = r.2.1 := fun r hr => by unfold gv; rw [(h.rc r hr).g]; rfl
  have back : ∀ f ∈ L, ∃ r ∈ rs, r.1 = f := fun f hf => by
    rw [← h.m] at hf
    exact List.mem_map.1 hf
  refine ⟨⟨fun f hf => ?_, fun f hf => ?_⟩, fun r hr => ⟨hm r hr, hg r hr⟩⟩
  · obtain ⟨r, hr, e⟩ := back f hf
    rw [← e, (h.rc r hr).g, hg r hr]
  · obtain ⟨r, hr, e⟩ := back f hf
    rw [← e, hg r hr]
    exact (h.rc r hr).l
theorem allU_at : ∀ (V : List Int), allU V = true → ∀ x ∈ V, x = 1 ∨ x = -1
  | [], _, x, hx => by cases hx
  | a :: l, h, x, hx => by
    unfold allU at h
    cases hc : (bif eqI a 1 then true else eqI a (-1)) with
    | false => rw [hc] at h; cases h
    | true =>
      rw [hc, cond_true] at h
      rcases List.mem_cons.1 hx with e | e
      · subst e
        rw [eqI_eq, eqI_eq] at hc
        by_cases h1 : x = 1
        · exact .inl h1
        · rw [beq_eq_false_iff_ne.2 h1, cond_false, beq_iff_eq] at hc
          exact .inr hc
      · exact allU_at l h x e
theorem l9_run (d : Int) {V : List Int} (hl : V.length ≤ 1000) (hu : allU V = true) : ∀ (k fu t : Nat), t + k = V.length → k < fu → r_impl_GenusWith_L9 d V fu (t : Int) = some (.inl ())
  | k, 0, t, _, hf => by omega
  | 0, fu + 1, t, ht, hf => by rw [r_impl_GenusWith_L9, ltI_eq, decide_eq_false (by omega), cond_false]
  | k + 1, fu + 1, t, ht, hf => by
    have hlt : t < V.length := by omega
    have hx := allU_at V hu _ (List.getElem_mem hlt)
    have ea : (V[t].natAbs : Int) = 1 := by omega
    rw [r_impl_GenusWith_L9, ltI_eq, decide_eq_true (by omega), cond_true, getNat hlt]
    simp only [Option.bind_some, abs_val (n := V[t]) (by omega), ea, eqSelf, Bool.not_true, cond_false, sI_eq, wsucc (show t < 1000000000 by omega)]
    exact l9_run d hl hu k fu (t + 1) (by omega) (by omega)
theorem genus_val {d : Int} {L : List F3} {rs : List R3} {na : Nat} (h : PgS d L rs na) {V : List Int} (hVl : V.length = na) (hu : allU V = true) {g : F3} (hg : g ∈ cls L V) : r_impl_GenusWith d V = some (cls L V, true) := by
  have hF := FUge
  obtain ⟨as, a1, a2⟩ := h.as
  have hna := h.nal
  have h9 := l9_run d (V := V) (by omega) hu V.length FU 0 (by omega) (by omega)
  have e0 : (((0 : Nat) : Int)) = 0 := rfl
  rw [e0] at h9
  have hgw := gw_val h.r h.gvo.1 V (by have := h.ll; omega)
  have hlen : eqI (((cls L V).length : Nat) : Int) 0 = false := eqNe (by have := List.length_pos_of_mem hg; omega)
  have e1 : eqI ((V.length : Nat) : Int) ((as.length : Nat) : Int) = true := by rw [hVl, a2, eqSelf]
  simp only [r_impl_GenusWith, h.ok, a1, Option.bind_some, Bool.not_true, cond_false, e1, h9, hgw, hlen]
theorem kqo_val {d : Int} {p : Nat} (hp : p ∈ pQ) : kqo d p = KK d p := by
  obtain ⟨h1, h2, h3, _⟩ := pQ_sq p hp
  have n1 := Int.emod_nonneg d (b := (p : Int)) (by omega)
  have n2 := Int.emod_lt_of_pos d (b := (p : Int)) (by omega)
  unfold kqo
  rw [jN_JJ 100 _ p false (jN_ok (by omega) (by omega) (by omega) false) h3, KK_odd d h3]
  show sg false * _ = JI d p
  unfold JI
  have : sg false = 1 := rfl
  rw [this, Int.one_mul]
/-! ### Draws -/
theorem small_ok {k : Nat} {c : List Int × Int × Int} (h : CurB k c) (hk : k ≤ 10000000) : ∃ v c', r_spec_l1Cur_small c = some (v, c') := by
  obtain ⟨b, c1, e1, h1⟩ := one_ok 12 h (by omega)
  simp only [r_spec_l1Cur_small, e1, Option.bind_some]
  cases b with
  | true =>
    obtain ⟨x, c2, e2, _⟩ := number_ok h1 (by omega)
    exact ⟨x, c2, by simp only [cond_true, e2, Option.bind_some]⟩
  | false =>
    obtain ⟨x, c2, e2, _⟩ := pick_ok 81 h1 (by omega)
    exact ⟨w64 (x - 40), c2, by simp only [cond_false, e2, Option.bind_some, sI_eq]⟩
theorem dv_loop (y : Int × (List Int × Int × Int)) : ∀ (j fu : Nat) (vn : Int) (k : Int), 0 ≤ k → k + j = 4 → j < fu → ∃ v, r_spec_DrawValuesAt_L6 y fu vn k = some v
  | j, 0, vn, k, _, _, hf => by omega
  | j, fu + 1, vn, k, h0, hj, hf => by
    rw [r_spec_DrawValuesAt_L6]
    simp only [okd_val, good_val, Option.bind_some, ltI_eq]
    by_cases h4 : k < 4
    · rw [decide_eq_true h4, cond_true]
      simp only [Option.bind_some]
      by_cases hd : OkD y.1
      · rw [decide_eq_true hd, cond_true]
        simp only [Option.bind_some]
        cases hn : inN vn with
        | false => exact ⟨vn, rfl⟩
        | true =>
          rw [inN_iff] at hn
          obtain ⟨o1, o2, _⟩ := hd
          rw [cond_true, w64_in (n := 2 * y.1) (by omega), tgcd_val (by omega) (by omega)]
          simp only [Option.bind_some, sI_eq]
          cases (!eqI (Int.gcd vn (2 * y.1) : Int) 1) with
          | false => exact ⟨vn, rfl⟩
          | true =>
            obtain ⟨j', rfl⟩ : ∃ j', j = j' + 1 := ⟨j - 1, by omega⟩
            rw [cond_true, w64_in (n := k + 1) (by omega)]
            exact dv_loop y j' fu _ (k + 1) (by omega) (by omega) (by omega)
      · rw [decide_eq_false hd]
        exact ⟨vn, rfl⟩
    · rw [decide_eq_false h4]
      exact ⟨vn, rfl⟩
theorem p_list : ∀ i : Nat, i < 23 → getI ([3, 5, 7, 11, 13, 17, 19, 23, 29, 31, 37, 41, 43, 47, 53, 59, 61, 67, 71, 97, 101, 499, 997] : List Int) (i : Int) = some ((pQ.getD i 0 : Nat) : Int) ∧ pQ.getD i 0 ∈ pQ := by decide +kernel
theorem shownP : ∀ p ∈ pQ, r_impl_isShownPrime (p : Int) = some true := by decide +kernel
theorem raw_FnPrimeGenera (code more : List Int) (hc8 : ∀ x ∈ code, 0 ≤ x ∧ x ≤ 255) (hm8 : ∀ x ∈ more, 0 ≤ x ∧ x ≤ 255) : r_laws_FnPrimeGenera code more = some true := by
  rcases big_cases code more with hb | ⟨hb, hc, hm⟩
  · simp only [r_laws_FnPrimeGenera, hb, Option.bind_some, cond_true]
  have hF := FUge
  obtain ⟨d, c1, e1, h1⟩ := disc_ok (CurB.start hc hc8) (by omega)
  obtain ⟨s, c2, e2⟩ := small_ok h1 (by omega)
  obtain ⟨v, ev⟩ := dv_loop (d, c1) 4 FU s 0 (by omega) (by omega) (by omega)
  have ed : r_spec_DrawValuesAt code = some (d, v) := by simp only [r_spec_DrawValuesAt, e1, e2, Option.bind_some, ev]
  obtain ⟨z, ez, z0, z1⟩ := numberOf_ok hm hm8
  have t1 := tmod_range z0 (show (0 : Int) < 23 by omega)
  obtain ⟨i, hi⟩ := Int.eq_ofNat_of_zero_le t1.1
  obtain ⟨p1, p2⟩ := p_list i (by omega)
  generalize pQ.getD i 0 = p at p1 p2
  rw [← hi] at p1
  obtain ⟨q1, q2, q3, _⟩ := pQ_sq p p2
  have hnil : r_laws_sameInts [] [] = some true := ints_self [] (by simp)
  have hneg := negdisc_val d
  have hok := okd_val d
  have hin : inN (p : Int) = true := inN_iff.2 (by omega)
  simp only [r_laws_FnPrimeGenera, hb, ed, ez, p1, Option.bind_some, cond_false]
  by_cases hd : OkD d
  case neg =>
    rw [decide_eq_false hd] at hok
    rw [decide_eq_false (p := -2000 ≤ d ∧ d ≤ -3 ∧ d % 4 ≤ 1) hd] at hneg
    simp only [r_impl_ValuesAt, r_spec_ValuesAt, r_spec_chPrime, hneg, hok, Option.bind_some, Bool.not_false, cond_true, bne_self_eq_false, cond_false, hnil, Bool.not_true]
  obtain ⟨L, rs, na, hS⟩ := pg_main hd
  have d1 := hS.d1
  have d2 := hS.d2
  rw [decide_eq_true hd] at hok
  have hnum : r_impl_areNumbers [(p : Int)] = some true := by rw [num_val [(p : Int)] (by simp)]; simp [hin]
  have ew : w64 (2 * d) = 2 * d := w64_in (by omega)
  have ig : r_impl_gcd (p : Int) (2 * d) = some (Int.gcd (p : Int) (2 * d) : Int) := gcd_val (by omega) (by omega)
  have sg' : r_spec_nuGcd (p : Int) (2 * d) = some (Int.gcd (p : Int) (2 * d) : Int) := tgcd_val (by omega) (by omega)
  by_cases hG : Int.gcd (p : Int) (2 * d) = 1
  case neg =>
    have eg : eqI (Int.gcd (p : Int) (2 * d) : Int) 1 = false := eqNe (by omega)
    simp only [r_impl_ValuesAt, r_spec_ValuesAt, r_spec_chPrime, hS.ok, hok, hnum, good_val, hin, ew, ig, sg', eg, Option.bind_some, Bool.not_false, cond_true, bne_self_eq_false, cond_false, hnil, Bool.not_true]
  have eg : eqI (Int.gcd (p : Int) (2 * d) : Int) 1 = true := by rw [hG]; rfl
  obtain ⟨V, hV, hcase⟩ := okp_val (hS.all p p2 hG)
  have iv : r_impl_ValuesAt d (p : Int) = some (V, true) := by
    simp only [r_impl_ValuesAt, hS.ok, hnum, ew, ig, eg, hV.i, Option.bind_some, Bool.not_false, cond_true, cond_false, Bool.not_true]
  have sv : r_spec_ValuesAt d (p : Int) = some (V, true) := by
    simp only [r_spec_ValuesAt, r_spec_chPrime, hok, good_val, hin, ew, sg', eg, hV.s, Option.bind_some, Bool.not_false, cond_true, cond_false, Bool.not_true]
  have hVl : V.length < 1000000 := by have := hV.l; have := hS.nal; omega
  have hks : r_impl_KroneckerSymbol d (p : Int) = some (KK d p, true) := by
    have hin2 : [d, (p : Int)].all inN = true := by
      simp only [List.all_cons, List.all_nil, Bool.and_true, Bool.and_eq_true]
      exact ⟨inN_iff.2 (by omega), hin⟩
    simp only [r_impl_KroneckerSymbol, num_val [d, (p : Int)] (by simp), hin2, Option.bind_some, Bool.not_true, cond_false, ik_val (show 1 ≤ p by omega) (show p ≤ 1000000 by omega) d]
  have hll := hS.ll
  have hrl : rs.length = L.length := by rw [← hS.m, List.length_map]
  have hbl := bits_len p rs
  have hrf : r_impl_RepresentingForms d (p : Int) = some (bits p rs, true) := by
    have his : r_impl_isShown (p : Int) = some true := by
      simp only [r_impl_isShown, leI_eq]
      rw [decide_eq_true (by omega), decide_eq_true (by omega)]
      rfl
    have hrun := rep_run d1 d2 (rs := rs) (fun r hr => hS.p _ (hS.gvo.2 r hr).1) hS.rc (by omega) p2 rs.length FU 0 (by omega) (by omega)
    have e0 : (((0 : Nat) : Int)) = 0 := rfl
    rw [e0, hS.m] at hrun
    have eb : bits p (rs.take 0) = [] := rfl
    rw [eb] at hrun
    simp only [r_impl_RepresentingForms, hS.ok, his, hS.r, hrun, Option.bind_some, Bool.not_true, cond_false]
  simp only [iv, sv, Option.bind_some, bne_self_eq_false, cond_false, ints_self V hVl, Bool.not_true, hks, hrf]
  rw [← kqo_val p2]
  rcases hcase with ⟨f, g, g', y⟩ | ⟨f, y1, y2, y3⟩
  · obtain ⟨r, r1, r2, r3⟩ := hasV_val rs y.v
    obtain ⟨r', r1', r2', r3'⟩ := hasV_val rs y.v2
    obtain ⟨w1, w2⟩ := hS.gvo.2 r r1
    obtain ⟨w1', w2'⟩ := hS.gvo.2 r' r1'
    rw [r2] at w1 w2
    rw [r2'] at w1' w2'
    rw [r3] at w2
    rw [r3'] at w2'
    have hgm : g ∈ cls L V := List.mem_filter.2 ⟨w1, decide_eq_true w2⟩
    have hgm' : g' ∈ cls L V := List.mem_filter.2 ⟨w1', decide_eq_true w2'⟩
    have hpc : r_impl_PrimeClass d (p : Int) = some (g, true) := by
      simp only [r_impl_PrimeClass, r_impl_PrimeForm, hS.ok, shownP p p2, y.pf, y.rg, Option.bind_some, Bool.not_true, cond_false]
    obtain ⟨cf1, _⟩ := class_form d1 d2 (hS.p g w1)
    have hgr := (rf_prr d1 d2 (hS.p g w1))
    have hgb := hgr.big
    have hop : r_impl_Form_opposite g = some (g.1, -g.2.1, g.2.2) := by
      have q1 := hgr.a1
      have q2 := hgr.b1
      have q3 := hgr.b2
      simp only [r_impl_Form_opposite, sI_eq]
      rw [w64_in (by omega), Int.zero_sub]
    have hif : r_impl_InverseForm g = some (g', true) := by
      simp only [r_impl_InverseForm, cf1, hop, y.i, Option.bind_some, Bool.not_true, cond_false]
    have hgv : r_impl_GenusValues g = some (V, true) := by
      simp only [r_impl_GenusValues, cf1, hS.gvo.1.s g w1, w2, Option.bind_some, Bool.not_true, cond_false]
    have hgr' : r_impl_GenusRepresenting d (p : Int) = some (cls L V, true) := by
      simp only [r_impl_GenusRepresenting, iv, genus_val hS hV.l hV.u hgm, Option.bind_some, Bool.not_true, cond_false]
    have hcl : (cls L V).length ≤ 100000 := Nat.le_trans (List.length_filter_le _ _) (by omega)
    have hk1 : eqI (kqo d p) 1 = true := by rw [y.k]; rfl
    simp only [hpc, hk1, Option.bind_some, bne_self_eq_false, Bool.not_true, cond_false, hif, hgv, ints_self V hVl, hgr', qHas_val hcl hgm, qHas_val hcl hgm', qHas_val (l := bits p rs) (by omega) y.h, qHas_val (l := bits p rs) (by omega) y.h2]
    have e3 : ((g.1 == g'.1) && ((g.2.1 == g'.2.1) && (g.2.2 == g'.2.2))) = decide (g = g') := by
      generalize g = f
      generalize g' = k
      obtain ⟨a, b, c⟩ := f
      obtain ⟨a', b', c'⟩ := k
      rw [Bool.eq_iff_iff, Bool.and_eq_true, Bool.and_eq_true, beq_iff_eq, beq_iff_eq, beq_iff_eq, decide_eq_true_iff, Prod.mk.injEq, Prod.mk.injEq]
    have hl := y.l
    rw [e3]
    by_cases e : g = g'
    · rw [if_pos e] at hl
      rw [hl, decide_eq_true e]
      rfl
    · rw [if_neg e] at hl
      rw [hl, decide_eq_false e]
      rfl
  · have hpc : r_impl_PrimeClass d (p : Int) = some ((0, 0, 0), false) := by
      simp only [r_impl_PrimeClass, r_impl_PrimeForm, hS.ok, shownP p p2, y1, Option.bind_some, Bool.not_true, cond_false, Bool.not_false, cond_true]
    rw [y2, y3]
    simp only [hpc, Option.bind_some]
    rfl
end Go.Proofs.Ytpfnhgpepgeaiaa
