/-
  Statements whose order is open: the first part.
  Conditions: none.
-/
import Derived.Test.YtnheekadeflecaaGreatShN
namespace Go.Proofs.YtnheekadeflecaaGreat
open Go.RowKit
set_option linter.unusedSimpArgs false
set_option linter.unusedVariables false

section
variable {P : Program}

theorem OkR_of {l1 : List Oper} {ops : Array Oper} {ms : List Nat} {css : List (List Cd)} {s0 : St} {rs : List Res} {n1 : Nat} (hl : l1.length = n1) (h : ∀ j, j < n1 → Dst P l1 ops ms css s0 rs j) : OkR l1 rs := by
  intro j o r ho hr
  have hj : j < n1 := by
    rcases Nat.lt_or_ge j n1 with h1 | h1
    · exact h1
    · rw [List.getElem?_eq_none (by omega)] at ho; cases ho
  obtain ⟨o2, r2, c, h1, h2, h3, h4, h5⟩ := h j hj
  rw [ho] at h1
  rw [hr] at h2
  injection h1 with h1
  injection h2 with h2
  subst h1 h2
  cases r with
  | r0 av => exact ⟨rfl, fun h => by cases h⟩
  | r1 av ne => exact ⟨h4.2.2.1, fun _ => h4.2.2.2.1⟩
  | rb => exact ⟨rfl, fun h => by cases h⟩
  | r2 id e => exact ⟨rfl, fun h => by cases h⟩

theorem head_any {l : List Oper} {ms : List Nat} {n1 : Nat} {css : List (List Cd)} {s0 : St} {rs : List Res} {Q : Exit → Act → World → Prop} {B : Fr} {w0 : World} {ok0 : Nat → Prop} (hchk : drawOk l ms n1 css = true) (hrs : rs.length = n1) (hD : ∀ j, j < n1 → Dst P (l.take n1) l.toArray ms css s0 rs j)
    (hprep : ∀ (j : Nat) o d, (l.take n1)[j]? = some o → o.dst = some d → makes o = true → (∀ t, (s0.get t).ment d = false) ∧ ∀ id, id / 8 = d → s0.ent id = none)
    (hfin : ∀ ok σ a w, R B w0 ok0 ok σ (appC (done (fun _ => true) 0 (l.take n1)) (l.take n1) rs s0) a w → wpList P l.toArray Q (l.drop n1) a w) :
    ∀ (fuel : Nat) (listed : Array Bool) (ok : Nat → Prop) (σ : Nat → Loc) (a : Act) (w : World), listed.size = l.length → (∀ j, n1 ≤ j → listed.getD j false = false) → (∀ j, listed.getD j false = true → ∀ m, (ms.getD j 0).testBit m = true → listed.getD m false = true) →
      left l.length (fun j => listed.getD j false) ≤ fuel → R B w0 ok0 ok σ (appC (done (fun j => listed.getD j false) 0 (l.take n1)) (l.take n1) rs s0) a w → wpAny P .any l.toArray Q fuel listed a w := by
  simp only [drawOk, Bool.and_eq_true, decide_eq_true_eq, beq_iff_eq] at hchk
  obtain ⟨hc1, hn1, hcl, hc2, hds⟩ := hchk
  have hl1 : (l.take n1).length = n1 := by simp; omega
  have hdist : Dist (l.take n1) := dsts_dist _ hds
  have hok := OkR_of (P := P) hl1 hD
  have hrok : ∀ r, r ∈ rs → r.ok = true := by
    intro r hr
    obtain ⟨j, hj⟩ := List.getElem?_of_mem hr
    have hlt : j < (l.take n1).length := by
      rcases Nat.lt_or_ge j rs.length with h1 | h1
      · omega
      · rw [List.getElem?_eq_none h1] at hj; cases hj
    exact (hok j _ r (List.getElem?_eq_getElem hlt) hj).1
  intro fuel
  induction fuel with
  | zero =>
    intro listed ok σ a w hs hT hcl2 hf hR
    have hall := left_zero (Nat.le_zero.1 hf)
    have hn : n1 = l.length := by
      rcases Nat.lt_or_ge n1 l.length with h1 | h1
      · have h2 : listed.getD n1 false = true := hall n1 h1
        rw [hT n1 (Nat.le_refl _)] at h2
        cases h2
      · omega
    have e : done (fun j => listed.getD j false) 0 (l.take n1) = done (fun _ => true) 0 (l.take n1) := done_congr _ _ fun j _ h1 => hall j (by omega)
    rw [e] at hR
    refine tail_any hc1 0 n1 listed a w (Nat.le_refl _) hs (fun j => ⟨fun h1 => ?_, fun h1 => hall j h1.2⟩) hcl2 (by omega) (hfin ok σ a w hR)
    rcases Nat.lt_or_ge j n1 with h2 | h2
    · exact ⟨h2, by omega⟩
    · rw [hT j h2] at h1; cases h1
  | succ fuel ih =>
    intro listed ok σ a w hs hT hcl2 hf hR
    by_cases hall : ∀ j, j < n1 → listed.getD j false = true
    · have e : done (fun j => listed.getD j false) 0 (l.take n1) = done (fun _ => true) 0 (l.take n1) := done_congr _ _ fun j _ h1 => hall j (by omega)
      rw [e] at hR
      refine tail_any hc1 (fuel + 1) n1 listed a w (Nat.le_refl _) hs (fun j => ⟨fun h1 => ?_, fun h1 => hall j h1.1⟩) hcl2 ?_ (hfin ok σ a w hR)
      · rcases Nat.lt_or_ge j n1 with h2 | h2
        · exact ⟨h2, by omega⟩
        · rw [hT j h2] at h1; cases h1
      · have h1 : l.length - n1 ≤ left l.length (fun j => listed.getD j false) := by
          unfold left
          have e2 : List.range l.length = List.range n1 ++ (List.range (l.length - n1)).map (fun x => n1 + x) := by
            rw [← List.range_add]
            congr 1
            omega
          rw [e2, List.countP_append]
          have e3 : List.countP (fun i => !listed.getD i false) ((List.range (l.length - n1)).map (fun x => n1 + x)) = l.length - n1 := by
            have h2 : List.countP (fun i => !listed.getD i false) ((List.range (l.length - n1)).map (fun x => n1 + x)) = ((List.range (l.length - n1)).map (fun x => n1 + x)).length := by
              rw [List.countP_eq_length]
              intro x hx
              obtain ⟨y, _, rfl⟩ := List.mem_map.1 hx
              simp only [hT (n1 + y) (by omega), Bool.not_false]
            rw [h2]
            simp
          rw [e3]
          omega
        omega
    · obtain ⟨i0, hi0⟩ := Classical.not_forall.1 hall
      have hi0lt : i0 < n1 := Classical.byContradiction fun h => hi0 fun h2 => absurd h2 h
      have hi0n : listed.getD i0 false = false := by
        cases h : listed.getD i0 false with
        | false => rfl
        | true => exact absurd (fun _ => h) hi0
      refine ⟨fun hnil => absurd hnil (some_ready hc1 hs i0 (by omega) hi0n), fun i hi => ?_⟩
      have hbits := listed_bits hc1 hs hi hcl2
      obtain ⟨h1, o, h2, h3⟩ := (ready_iff hs i).1 hi
      have hlt : i < l.length := by
        rcases Nat.lt_or_ge i l.length with h4 | h4
        · exact h4
        · rw [List.getElem?_eq_none h4] at h2; cases h2
      have hin1 : i < n1 := by
        rcases (chk1_at ms n1 l 0 hc1 i o h2).2.2 with h4 | h4
        · omega
        · rw [Nat.zero_add] at h4
          rcases Nat.lt_or_ge i n1 with h5 | h5
          · exact h5
          · have := hbits i0 (allBelow_bit _ _ _ h4 (by omega))
            rw [hi0n] at this
            cases this
      have ho1 : (l.take n1)[i]? = some o := by rw [List.getElem?_take, if_pos hin1]; exact h2
      obtain ⟨o2, r, c, e1, e2, e3, hstep, hw⟩ := hD i hin1
      rw [ho1] at e1
      injection e1 with e1
      subst e1
      obtain ⟨hclen, hcc⟩ := chk2_at ms n1 css 0 hc2 i c e3
      rw [Nat.zero_add] at hcc
      -- the state on which the operation may lean
      have hlean : Le (appC c (l.take n1) rs s0) (appC (done (fun j => listed.getD j false) 0 (l.take n1)) (l.take n1) rs s0) := by
        refine appC_le (fun j => listed.getD j false) (l.take n1) c 0 rs s0 s0 (Le.refl _) rfl (fun j p x hp hx hm id hid => (hprep j p x hp hx hm).2 id hid) hdist hok (by omega) (by omega) fun j cd o' r' hj ho' hr' => ?_
        have h4 := chkC_at ms i c 0 hcc j cd hj
        have hcol : ∀ id e, r' = .r2 id e → c[j]? = some .a ∨ c[j]? = some .z ∨ c[j]? = some (.r id) := by
          intro id e he
          have hjn : j < n1 := by
            rcases Nat.lt_or_ge j rs.length with h5 | h5
            · omega
            · rw [List.getElem?_eq_none h5] at hr'; cases hr'
          obtain ⟨o3, r3, c3, f1, f2, f3, f4, f5⟩ := hD j hjn
          rw [hr'] at f2
          injection f2 with f2
          subst f2 he
          exact colOk_at j id css f5.2.1 c (List.mem_of_getElem? e3)
        cases cd with
        | a => simp only [Nat.zero_add] at h4 ⊢; exact hbits j h4
        | z =>
          simp only [Nat.zero_add] at h4 ⊢
          cases h5 : listed.getD j false with
          | false => rfl
          | true =>
            rcases h4 with h4 | h4
            · subst h4; rw [h1] at h5; cases h5
            · have := hcl2 j h5 i h4
              rw [h1] at this
              cases this
        | b =>
          intro _ id e he
          rcases hcol id e he with h5 | h5 | h5 <;> (rw [hj] at h5; cases h5)
        | r id2 =>
          intro id e he
          rcases hcol id e he with h5 | h5 | h5
          · rw [hj] at h5; cases h5
          · rw [hj] at h5; cases h5
          · rw [hj] at h5; injection h5 with h5; injection h5 with h5; exact h5.symm
      have hS := (hR.le hlean).core
      have hset := set_listed listed i (by omega)
      have hL' : ∀ j, j ≠ i → (listed.setIfInBounds i true).getD j false = listed.getD j false := fun j hj => by rw [hset, if_neg hj]
      have hLi : (listed.setIfInBounds i true).getD i false = true := by rw [hset, if_pos rfl]
      have hcl' : ∀ j, (listed.setIfInBounds i true).getD j false = true → ∀ m, (ms.getD j 0).testBit m = true → (listed.setIfInBounds i true).getD m false = true := by
        intro j hj m hm
        rw [hset] at hj ⊢
        split
        · rfl
        · by_cases hji : j = i
          · subst hji
            exact hbits m hm
          · rw [if_neg hji] at hj
            exact hcl2 j hj m hm
      have hleft := left_set hs hlt h1
      have hlen2 : rs.length = (l.take n1).length := by omega
      have hsame := done_step (L := fun j => listed.getD j false) (L' := fun j => (listed.setIfInBounds i true).getD j false) i h1 hLi hL' (l.take n1) 0 rs s0 o r (by simpa using ho1) (Nat.zero_le _) (by simpa using e2) hlen2 (fun j p q hp hq hji hLj => by
        rw [Nat.sub_zero] at hji
        rw [Nat.zero_add] at hLj
        have hLj : listed.getD j false = true := by rw [← hL' j (by omega)]; exact hLj
        have hjn : j < n1 := by
          rcases Nat.lt_or_ge j rs.length with h5 | h5
          · omega
          · rw [List.getElem?_eq_none h5] at hq; cases hq
        obtain ⟨o3, r3, c3, f1, f2, f3, f4, f5⟩ := hD j hjn
        rw [hq] at f2
        injection f2 with f2
        subst f2
        rw [hp] at f1
        injection f1 with f1
        subst f1
        refine ⟨hrok q (List.mem_of_getElem? hq), hrok r (List.mem_of_getElem? e2), ?_⟩
        cases hpd : p.dst with
        | some d =>
          cases hod : o.dst with
          | some d' =>
            intro e
            subst e
            have := hdist j i p o d hp ho1 hpd hod
            omega
          | none =>
            intro id e he
            subst he
            rcases mkOk_at ms i id _ 0 hw.2.2.1 j p d hp hpd with h5 | h5
            · exact h5
            · rw [Nat.zero_add] at h5
              have := mask_lt hc1 i hlt j h5
              omega
        | none =>
          cases hod : o.dst with
          | some d' =>
            intro id e he
            subst he
            rcases mkOk_at ms j id _ 0 f5.2.2.1 i o d' ho1 hod with h5 | h5
            · exact h5
            · rw [Nat.zero_add] at h5
              have := hcl2 j hLj i h5
              rw [h1] at this
              cases this
          | none =>
            intro id e id' e' he he' hid
            subst he he' hid
            rcases Nat.lt_or_ge j i with h5 | h5
            · exact hw.2.2.2 j h5 e hq
            · exact f5.2.2.2 i (by omega) e' e2)
      have next := fun ok σ a w hh => ih (listed.setIfInBounds i true) ok σ a w (by simpa using hs) (fun j hj => by rw [hL' j (by omega)]; exact hT j hj) hcl' (by omega) hh
      unfold wpOp
      rw [show l.toArray[i]? = l[i]? by simp, h2]
      simp only
      cases r with
      | r0 av =>
        obtain ⟨d, hd⟩ : ∃ d, o.dst = some d := hw
        rw [hd] at hsame
        have hsame : Same ((Res.r0 av).app d _) _ := hsame
        rcases hstep with ⟨hg, hY, hm⟩ | ⟨hg, rfl⟩
        case inr =>
          rw [wanted_un hS hg, if_neg (by simp), hd]
          exact next _ _ _ _ ((hR.put (av := .tn) ⟨#[], rfl, trivial⟩).le (hsame.symm.le))
        rw [if_pos (wanted_sat hS hg)]
        refine .inl (hY ok σ a w hS _ Q fun v hv => ?_)
        rw [hd]
        exact next _ _ _ _ ((hR.put hv).le (hsame.symm.le))
      | r1 av ne =>
        obtain ⟨hg, hY, hk, hm, hsm⟩ := hstep
        obtain ⟨d, hd⟩ : ∃ d, o.dst = some d := hw
        rw [hd] at hsame
        have hsame : Same ((Res.r1 av ne).app d _) _ := hsame
        rw [if_pos (wanted_sat hS hg)]
        refine .inl (hY ok σ a w hS _ Q fun v w' ok' σ' hn => ?_)
        rw [hd]
        obtain ⟨p1, p2⟩ := hprep i o d ho1 hd hm
        obtain ⟨σ2, hR2⟩ := hR.add hn (d := d) (by
          refine appC_all (p := fun av => av.ment d = false) rfl _ _ _ _ p1 fun j p q x hc hp hq hx => ?_
          obtain ⟨hcj, _⟩ := done_at _ _ _ _ _ hc
          rw [Nat.zero_add] at hcj
          have hLj : listed.getD j false = true := by
            cases h5 : listed.getD j false with
            | true => rfl
            | false => rw [h5] at hcj; cases hcj
          have hjn : j < n1 := by
            rcases Nat.lt_or_ge j n1 with h5 | h5
            · exact h5
            · rw [hT j h5] at hLj; cases hLj
          have hxd : x ≠ d := fun e => by
            subst e
            have := hdist j i p o x hp ho1 hx hd
            subst this
            rw [h1] at hLj
            cases hLj
          obtain ⟨o3, r3, c3, f1, f2, f3, f4, f5⟩ := hD j hjn
          rw [hq] at f2
          injection f2 with f2
          subst f2
          cases q with
          | rb => rfl
          | r2 _ _ => rfl
          | r0 av2 =>
            rcases f4 with f4 | ⟨_, f4⟩
            · rcases mentOk_at ms j av2 _ 0 f4.2.2 i o d ho1 hm hd with h5 | h5
              · rw [Nat.zero_add] at h5
                have := hcl2 j hLj i h5
                rw [h1] at this
                cases this
              · exact h5
            · rw [f4]
              rfl
          | r1 av2 ne2 => exact small_ment hxd av2 f4.2.2.2.2) (fun id hid => by
          refine appC_ent _ _ _ _ _ (p2 id hid) hrok fun j p hc hp hpd => ?_
          obtain ⟨hcj, _⟩ := done_at _ _ _ _ _ hc
          rw [Nat.zero_add] at hcj
          have := hdist j i p o d hp ho1 (by rw [hpd, hid]) hd
          subst this
          rw [h1] at hcj
          cases hcj)
        exact next _ _ _ _ (hR2.le (hsame.symm.le))
      | r2 id e =>
        obtain ⟨hg, hY⟩ := hstep
        obtain ⟨hd, _⟩ := hw
        rw [hd] at hsame
        have hsame : Same (⟨_, setE id e _⟩ : St) _ := hsame
        rw [if_pos (wanted_sat hS hg)]
        exact .inl (hY _ hlean B w0 ok0 ok σ a w hR _ Q fun a' w' ok' σ' h' => next _ _ _ _ (h'.le hsame.symm.le))
      | rb =>
        obtain ⟨d, hd⟩ : ∃ d, o.dst = some d := hw
        rw [hd] at hsame
        have hsame : Same (Res.rb.app d _) _ := hsame
        rw [wanted_un hS hstep, if_neg (by simp), hd]
        exact next _ _ _ _ ((hR.put (av := .bot) trivial).le (hsame.symm.le))
end
end Go.Proofs.YtnheekadeflecaaGreat
