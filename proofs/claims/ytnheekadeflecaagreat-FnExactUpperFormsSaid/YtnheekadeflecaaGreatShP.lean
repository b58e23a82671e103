/-
  Statements whose order is open: the rule.
  Conditions: none.
-/
import Derived.Test.YtnheekadeflecaaGreatShO
namespace Go.Proofs.YtnheekadeflecaaGreat
open Go.RowKit
set_option linter.unusedSimpArgs false
set_option linter.unusedVariables false

section
variable {P : Program}
theorem appC_ext : ∀ (cs : List Cd) (l : List Oper) (rs more : List Res) (s : St), (∀ k, rs.length ≤ k → cs[k]? ≠ some .a) → appC cs l rs s = appC cs l (rs ++ more) s
  | [], _, _, _, s, _ => by simp [appC]
  | c :: cs, [], rs, more, s, _ => by cases rs <;> cases more <;> simp [appC]
  | c :: cs, o :: os, r :: rs, more, s, h => by
    simp only [List.cons_append, appC]
    exact appC_ext cs os rs more _ fun k hk => by simpa using h (k + 1) (by simpa using hk)
  | c :: cs, o :: os, [], more, s, h => by
    have h0 := h 0 (Nat.le_refl _)
    have e : ∀ r, app1 c o.dst r s = app1 c o.dst .rb s := fun r => by
      cases c with
      | a => exact absurd rfl h0
      | z => cases o.dst <;> rfl
      | b => cases o.dst <;> rfl
      | r id => cases o.dst <;> rfl
    have ih := fun more => appC_ext cs os [] more (app1 c o.dst .rb s) fun k hk => by simpa using h (k + 1) (Nat.zero_le _)
    cases more with
    | nil => simp
    | cons m more =>
      simp only [List.nil_append, appC]
      rw [e m]
      simpa using ih more

/-- All results, one after the other. -/
def fin : List Oper → List Res → St → St
  | o :: os, r :: rs, s => fin os rs (app1 .a o.dst r s)
  | _, _, s => s
theorem fin_eq : ∀ (l : List Oper) (rs : List Res) (k : Nat) (s : St), rs.length = l.length → appC (done (fun _ => true) k l) l rs s = fin l rs s
  | [], [], _, s, _ => rfl
  | [], _ :: _, _, s, h => by simp at h
  | _ :: _, [], _, s, h => by simp at h
  | o :: os, r :: rs, k, s, h => by
    simp only [done, cond_true, appC, fin]
    rw [fin_eq os rs (k + 1) _ (by simpa using h)]

variable (P)
def DL (l : List Oper) (ms : List Nat) (n1 : Nat) (css : List (List Cd)) (s0 : St) (rs : List Res) (K : St → Prop) : Prop :=
  drawOk l ms n1 css = true → ∃ more, (rs ++ more).length = n1 ∧ (∀ j, rs.length ≤ j → j < n1 → Dst P (l.take n1) l.toArray ms css s0 (rs ++ more) j) ∧ K (fin (l.take n1) (rs ++ more) s0)
variable {P}
theorem DL_nil {l : List Oper} {ms : List Nat} {n1 : Nat} {css : List (List Cd)} {s0 : St} {rs : List Res} {K : St → Prop} (hn : rs.length = n1) (h : K (fin (l.take n1) rs s0)) : DL P l ms n1 css s0 rs K :=
  fun _ => ⟨[], by simpa using hn, fun j h1 h2 => by omega, by simpa using h⟩
theorem DL_step {l : List Oper} {ms : List Nat} {n1 : Nat} {css : List (List Cd)} {s0 : St} {rs : List Res} {K : St → Prop} (o : Oper) (c : List Cd) (r : Res) (hlt : rs.length < n1) (ho : l[rs.length]? = some o) (hc : css[rs.length]? = some c)
    (hst : StepR P l.toArray o (appC c (l.take n1) rs s0) ms (l.take n1) rs.length r) (hw : W2 (l.take n1) ms css rs rs.length o r) (h : DL P l ms n1 css s0 (rs ++ [r]) K) : DL P l ms n1 css s0 rs K := by
  intro hchk
  obtain ⟨more, h1, h2, h3⟩ := h hchk
  simp only [drawOk, Bool.and_eq_true, decide_eq_true_eq, beq_iff_eq] at hchk
  obtain ⟨hc1, hn1, hcl, hc2, hds⟩ := hchk
  have e : rs ++ [r] ++ more = rs ++ r :: more := by simp
  rw [e] at h1 h2 h3
  refine ⟨r :: more, h1, fun j hj1 hj2 => ?_, h3⟩
  by_cases hj : j = rs.length
  · subst hj
    refine ⟨o, r, c, by rw [List.getElem?_take, if_pos hlt]; exact ho, by simp, hc, ?_, ?_⟩
    rotate_left
    · cases r with
      | r2 id e =>
        obtain ⟨w1, w2, w3, w4⟩ := hw
        exact ⟨w1, w2, w3, fun i hi e' => by rw [List.getElem?_append_left hi]; exact w4 i hi e'⟩
      | r0 _ => exact hw
      | r1 _ _ => exact hw
      | rb => exact hw
    rw [← appC_ext]
    · exact hst
    · intro k hk hck
      have h4 := chkC_at ms _ c 0 (chk2_at ms n1 css 0 hc2 _ c hc).2 k .a hck
      simp only [Nat.zero_add] at h4
      have := mask_lt hc1 rs.length (by omega) k h4
      omega
  · exact h2 j (by simp; omega) hj2
theorem DL_0 {l : List Oper} {ms : List Nat} {n1 : Nat} {css : List (List Cd)} {s0 : St} {rs : List Res} {K : St → Prop} {o : Oper} {c : List Cd} {av : AV} (hlt : rs.length < n1) (ho : l[rs.length]? = some o) (hc : css[rs.length]? = some c) (hg : gsat l.toArray o (appC c (l.take n1) rs s0))
    (hm : mentOk ms rs.length av 0 (l.take n1) = true) (hY : Y0 P o (appC c (l.take n1) rs s0) av) (hd : ∃ d, o.dst = some d) (h : DL P l ms n1 css s0 (rs ++ [.r0 av]) K) : DL P l ms n1 css s0 rs K :=
  DL_step o c (.r0 av) hlt ho hc (.inl ⟨hg, hY, hm⟩) hd h
theorem DL_1 {l : List Oper} {ms : List Nat} {n1 : Nat} {css : List (List Cd)} {s0 : St} {rs : List Res} {K : St → Prop} {o : Oper} {c : List Cd} {av : AV} {ne : List (Nat × Ent)} (hlt : rs.length < n1) (ho : l[rs.length]? = some o) (hc : css[rs.length]? = some c) (hg : gsat l.toArray o (appC c (l.take n1) rs s0))
    (hm : keys8 ne = true ∧ makes o = true ∧ av.small = true) (hY : Y1 P o (appC c (l.take n1) rs s0) av ne) (hd : ∃ d, o.dst = some d) (h : DL P l ms n1 css s0 (rs ++ [.r1 av ne]) K) : DL P l ms n1 css s0 rs K :=
  DL_step o c (.r1 av ne) hlt ho hc ⟨hg, hY, hm⟩ hd h
theorem DL_b {l : List Oper} {ms : List Nat} {n1 : Nat} {css : List (List Cd)} {s0 : St} {rs : List Res} {K : St → Prop} {o : Oper} {c : List Cd} (hlt : rs.length < n1) (ho : l[rs.length]? = some o) (hc : css[rs.length]? = some c) (hg : gun l.toArray o (appC c (l.take n1) rs s0)) (hd : ∃ d, o.dst = some d)
    (h : DL P l ms n1 css s0 (rs ++ [.rb]) K) : DL P l ms n1 css s0 rs K :=
  DL_step o c .rb hlt ho hc hg hd h
def freshW (id : Nat) : List Res → Bool
  | [] => true
  | .r2 id2 _ :: rs => !(id2 == id) && freshW id rs
  | _ :: rs => freshW id rs
theorem freshW_at (id : Nat) : ∀ (rs : List Res), freshW id rs = true → ∀ (i : Nat) e', rs[i]? ≠ some (.r2 id e')
  | [], _, i, e', h => by simp at h
  | r :: rs, h, 0, e', he => by
    simp at he
    subst he
    simp [freshW] at h
  | r :: rs, h, i + 1, e', he => by
    refine freshW_at id rs ?_ i e' (by simpa using he)
    cases r with
    | r2 _ _ => simp only [freshW, Bool.and_eq_true] at h; exact h.2
    | r0 _ => exact h
    | r1 _ _ => exact h
    | rb => exact h
theorem DL_2 {l : List Oper} {ms : List Nat} {n1 : Nat} {css : List (List Cd)} {s0 : St} {rs : List Res} {K : St → Prop} {o : Oper} {c : List Cd} {id : Nat} {e : Ent} (hlt : rs.length < n1) (ho : l[rs.length]? = some o) (hc : css[rs.length]? = some c) (hg : gsat l.toArray o (appC c (l.take n1) rs s0))
    (hY : ∀ A, Le (appC c (l.take n1) rs s0) A → X P o A ⟨A.T, setE id e A.E⟩) (hd : o.dst = none) (h1 : colOk rs.length id css = true) (h2 : mkOk ms rs.length id 0 (l.take n1) = true) (h3 : freshW id rs = true) (h : DL P l ms n1 css s0 (rs ++ [.r2 id e]) K) : DL P l ms n1 css s0 rs K :=
  DL_step o c (.r2 id e) hlt ho hc ⟨hg, hY⟩ ⟨hd, h1, h2, fun i _ e' => freshW_at id rs h3 i e'⟩ h
theorem gsat_none {ops : Array Oper} {o : Oper} {S : St} (h : o.guard = none) : gsat ops o S := .inl h
theorem gsat_some {ops : Array Oper} {o : Oper} {S : St} {j t : Nat} {b : Bool} (h : o.guard = some (j, b)) (ht : (ops[j]?).bind (·.dst) = some t) (hb : S.get t = .c (.v (.bool b))) : gsat ops o S := .inr ⟨j, b, t, h, ht, hb⟩
theorem gun_some {ops : Array Oper} {o : Oper} {S : St} {j t : Nat} {b c : Bool} (h : o.guard = some (j, b)) (ht : (ops[j]?).bind (·.dst) = some t) (hb : S.get t = .c (.v (.bool c))) (hne : c ≠ b) : gun ops o S := ⟨j, b, t, h, ht, .inl ⟨c, hb, hne⟩⟩
theorem gun_tn {ops : Array Oper} {o : Oper} {S : St} {j t : Nat} {b : Bool} (h : o.guard = some (j, b)) (ht : (ops[j]?).bind (·.dst) = some t) (hb : S.get t = .tn) : gun ops o S := ⟨j, b, t, h, ht, .inr hb⟩
theorem DL_t {l : List Oper} {ms : List Nat} {n1 : Nat} {css : List (List Cd)} {s0 : St} {rs : List Res} {K : St → Prop} {o : Oper} {c : List Cd} (hlt : rs.length < n1) (ho : l[rs.length]? = some o) (hc : css[rs.length]? = some c) (hg : gun l.toArray o (appC c (l.take n1) rs s0)) (hd : ∃ d, o.dst = some d)
    (h : DL P l ms n1 css s0 (rs ++ [.r0 .tn]) K) : DL P l ms n1 css s0 rs K :=
  DL_step o c (.r0 .tn) hlt ho hc (.inr ⟨hg, rfl⟩) hd h

/-- A statement whose order is open. -/
theorem V_draw {id : Nat} {l : List Oper} {s : St} {J : Exit → St → Prop} (ms : List Nat) (n1 : Nat) (css : List (List Cd)) (hm : P.follows .mixedOrders = true) (hchk : drawOk l ms n1 css = true)
    (h : DL P l ms n1 css (prep (l.take n1) s) [] (fun s' => XL P l.toArray (l.drop n1) s' (J .normal))) : V P (.region id l.toArray true) s J := by
  intro B w0 ok0 ok σ a w hR
  obtain ⟨rs, h1, h2, h3⟩ := h hchk
  rw [List.nil_append] at h1 h2 h3
  have hR2 := (hR.le (prep_le (l.take n1) s).1).drew
  have hn1 : n1 ≤ l.length := by
    simp only [drawOk, Bool.and_eq_true, decide_eq_true_eq] at hchk
    exact hchk.2.1
  refine wp_region_any hm ?_
  have hrep : ∀ j, (Array.replicate l.toArray.size false).getD j false = false := by
    intro j
    rw [Array.getD_eq_getD_getElem?, Array.getElem?_replicate]
    split <;> rfl
  have hnone : done (fun j => (Array.replicate l.toArray.size false).getD j false) 0 (l.take n1) = done (fun _ => false) 0 (l.take n1) := done_congr _ _ fun j _ _ => hrep j
  have hz : ∀ (l : List Oper) (rs : List Res) (k : Nat) (s : St), appC (done (fun _ => false) k l) l rs s = s := by
    intro l
    induction l with
    | nil => intro rs k s; simp [done, appC]
    | cons o os ih =>
      intro rs k s
      have e : ∀ r, app1 .z o.dst r s = s := fun r => by cases o.dst <;> rfl
      cases rs with
      | nil => simp only [done, cond_false, appC, e]; exact ih [] (k + 1) s
      | cons r rs => simp only [done, cond_false, appC, e]; exact ih rs (k + 1) s
  refine head_any (B := B) (w0 := w0) (ok0 := ok0) hchk h1 (fun j hj => h2 j (Nat.zero_le _) hj) (fun j o d ho hd hm => prep_ok _ s j o d ho hd hm) (fun ok σ a w hR' => ?_) l.toArray.size _ ok σ a _ (by simp) (fun j _ => hrep j) (fun j hj => by rw [hrep j] at hj; cases hj) ?_ ?_
  · rw [fin_eq _ _ _ _ (by rw [h1]; simp; omega)] at hR'
    exact h3 _ _ _ _ _ _ _ hR' _ fun s' a' w' ok' σ' hJ hR'' => ⟨s', ok', σ', hJ, hR''⟩
  · unfold left
    refine Nat.le_trans List.countP_le_length ?_
    simp
  · rw [hnone, hz]
    exact hR2
end
end Go.Proofs.YtnheekadeflecaaGreat
