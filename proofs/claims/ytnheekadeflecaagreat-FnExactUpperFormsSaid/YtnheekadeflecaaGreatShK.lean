/-
  Statements whose order is open: results and states.
  Conditions: none.
-/
import Derived.Test.YtnheekadeflecaaGreatShJ
namespace Go.Proofs.YtnheekadeflecaaGreat
open Go.RowKit
set_option linter.unusedSimpArgs false
set_option linter.unusedVariables false

/-! ### A statement whose order is open: the operations of its first part may come in any order that the edges allow -/
inductive Res where
  | r0 (av : AV)
  | r1 (av : AV) (ne : List (Nat × Ent))
  | rb
  | r2 (id : Nat) (e : Ent)
inductive Cd where
  | z
  | a
  | b
  | r (id : Nat)
def Res.app (d : Nat) : Res → St → St
  | .r0 av, s => s.put d av
  | .r1 av ne, s => ⟨s.T.set d (av.shift d), shiftE d ne ++ s.E⟩
  | .rb, s => s.put d .bot
  | .r2 _ _, s => s.put d .bot
def rmE (id : Nat) : List (Nat × Ent) → List (Nat × Ent)
  | [] => []
  | p :: ps => bif p.1 == id then rmE id ps else p :: rmE id ps
def app1 : Cd → Option Nat → Res → St → St
  | .a, some d, r, s => r.app d s
  | .a, none, .r2 id e, s => ⟨s.T, setE id e s.E⟩
  | .b, some d, _, s => s.put d .bot
  | .r id, none, _, s => ⟨s.T, rmE id s.E⟩
  | .r _, some d, _, s => s.put d .bot
  | _, _, _, s => s
theorem rmE_look (id : Nat) : ∀ (E : List (Nat × Ent)) (j : Nat), (rmE id E).lookup j = if j = id then none else E.lookup j
  | [], j => by simp [rmE]
  | (p1, p2) :: ps, j => by
    have ih := rmE_look id ps j
    simp only [rmE]
    cases hp : (p1 == id) with
    | true =>
      simp only [cond_true, ih]
      by_cases h : j = id
      · simp [h]
      · have hne : (j == p1) = false := by
          rw [beq_eq_false_iff_ne]
          intro e
          exact h (e.trans (by simpa using hp))
        simp [h, List.lookup, hne]
    | false =>
      simp only [cond_false, List.lookup]
      cases hq : (j == p1) with
      | true =>
        have e : j = p1 := by simpa using hq
        subst e
        have : ¬ j = id := by simpa using hp
        simp [this]
      | false => simpa using ih
theorem setE_look2 (id : Nat) (e : Ent) : ∀ (E : List (Nat × Ent)) (j : Nat), (setE id e E).lookup j = if j = id then (E.lookup id).map (fun _ => e) else E.lookup j
  | [], j => by simp [setE]
  | (p1, p2) :: ps, j => by
    have ih := setE_look2 id e ps j
    simp only [setE]
    cases hp : (p1 == id) with
    | true =>
      have e1 : p1 = id := by simpa using hp
      subst e1
      simp only [cond_true, List.lookup]
      by_cases h : j = p1
      · subst h; simp
      · have hne : (j == p1) = false := by rw [beq_eq_false_iff_ne]; exact h
        simp [h, hne]
    | false =>
      have hpi : ¬ id = p1 := fun e2 => by subst e2; simp at hp
      have hpb : (id == p1) = false := by rw [beq_eq_false_iff_ne]; exact hpi
      simp only [cond_false, List.lookup, hpb]
      cases hq : (j == p1) with
      | true =>
        have e1 : j = p1 := by simpa using hq
        subst e1
        have : ¬ j = id := fun e2 => hpi e2.symm
        simp [this]
      | false => simpa using ih
def appC : List Cd → List Oper → List Res → St → St
  | c :: cs, o :: os, r :: rs, s => appC cs os rs (app1 c o.dst r s)
  | c :: cs, o :: os, [], s => appC cs os [] (app1 c o.dst .rb s)
  | _, _, _, s => s
def makes (o : Oper) : Bool :=
  match o.op with
  | .alloc _ => true
  | .box _ _ => true
  | .buildSlice _ _ _ => true
  | .makeSlice _ _ _ => true
  | .call _ => true
  | _ => false
def prep : List Oper → St → St
  | [], s => s
  | o :: os, s => bif makes o then (match o.dst with
    | some d => prep os (s.kill d)
    | none => prep os s) else prep os s
def keys8 : List (Nat × Ent) → Bool
  | [] => true
  | p :: ps => decide (p.1 < 8) && keys8 ps

/-- Two states that say the same. -/
structure Same (s s' : St) : Prop where
  T : s.T = s'.T
  ent : ∀ id, s.ent id = s'.ent id
theorem Same.refl (s : St) : Same s s := ⟨rfl, fun _ => rfl⟩
theorem Same.symm {s s' : St} (h : Same s s') : Same s' s := ⟨h.T.symm, fun id => (h.ent id).symm⟩
theorem Same.trans {a b c : St} (h : Same a b) (k : Same b c) : Same a c := ⟨h.T.trans k.T, fun id => (h.ent id).trans (k.ent id)⟩
theorem Same.le {s s' : St} (h : Same s s') : Le s s' := ⟨by rw [h.T]; exact Nat.le_refl _, fun t => .inr (by unfold St.get; rw [h.T]), fun id e he => by rw [← h.ent]; exact he⟩
theorem Le.refl (s : St) : Le s s := (Same.refl s).le
theorem Le.trans {a b c : St} (h : Le a b) (k : Le b c) : Le a c :=
  ⟨Nat.le_trans h.len k.len, fun t => by
    rcases h.get t with h1 | h1
    · exact .inl h1
    · rw [h1]
      rcases k.get t with h2 | h2
      · exact .inl h2
      · exact .inr h2, fun id e he => k.ent id e (h.ent id e he)⟩
theorem put_comm {s : St} {d d' : Nat} (h : d ≠ d') (x y : AV) : (s.put d x).put d' y = (s.put d' y).put d x := by
  unfold St.put
  simp only
  rw [List.set_comm _ _ h]
def Res.ok (r : Res) : Bool := match r with | .r1 _ ne => keys8 ne | _ => true
theorem shift_look {d : Nat} {ne : List (Nat × Ent)} (hk : keys8 ne = true) {id : Nat} (h : id / 8 ≠ d) : (shiftE d ne).lookup id = none := by
  cases hl : (shiftE d ne).lookup id with
  | none => rfl
  | some e =>
    obtain ⟨h1, h2⟩ := shiftE_look2 d ne id e hl
    exfalso
    have h3 : ∀ (ne : List (Nat × Ent)), keys8 ne = true → ∀ k e, ne.lookup k = some e → k < 8 := by
      intro ne
      induction ne with
      | nil => intro _ k e h; simp at h
      | cons p ps ih =>
        intro hk k e h
        obtain ⟨p1, p2⟩ := p
        simp only [keys8, Bool.and_eq_true, decide_eq_true_eq] at hk
        simp only [List.lookup] at h
        split at h
        · rename_i hkp
          have : k = p1 := by simpa using hkp
          omega
        · exact ih hk.2 k e h
    have h4 := h3 ne hk _ _ h2
    omega
theorem app_ent (r : Res) (d : Nat) (s : St) (hr : r.ok = true) (id : Nat) (h : id / 8 ≠ d) : (r.app d s).ent id = s.ent id := by
  cases r with
  | r0 av => rfl
  | rb => rfl
  | r2 _ _ => rfl
  | r1 av ne =>
    unfold Res.app St.ent
    simp only
    rw [look_app, shift_look hr h]
def Res.av (d : Nat) : Res → AV
  | .r0 av => av
  | .r1 av _ => av.shift d
  | .rb => .bot
  | .r2 _ _ => .bot
theorem app_T (r : Res) (d : Nat) (s : St) : (r.app d s).T = s.T.set d (r.av d) := by
  cases r <;> rfl
theorem app_entD (r : Res) (d : Nat) (s s' : St) (id : Nat) (h : s.ent id = s'.ent id) : (r.app d s).ent id = (r.app d s').ent id := by
  cases r with
  | r0 av => exact h
  | rb => exact h
  | r2 _ _ => exact h
  | r1 av ne =>
    unfold Res.app St.ent
    simp only
    rw [look_app, look_app]
    cases (shiftE d ne).lookup id with
    | some e => rfl
    | none => exact h
theorem app_same {r : Res} {d : Nat} {s s' : St} (h : Same s s') : Same (r.app d s) (r.app d s') :=
  ⟨by rw [app_T, app_T, h.T], fun id => app_entD r d s s' id (h.ent id)⟩
theorem app1_same {c : Cd} {d : Option Nat} {r : Res} {s s' : St} (h : Same s s') : Same (app1 c d r s) (app1 c d r s') := by
  have hl : ∀ id, s.E.lookup id = s'.E.lookup id := h.ent
  cases c with
  | z => cases d <;> exact h
  | b =>
    cases d with
    | none => exact h
    | some d => exact ⟨by simp [app1, St.put, h.T], h.ent⟩
  | r id =>
    cases d with
    | none => exact ⟨h.T, fun j => by show (rmE id s.E).lookup j = (rmE id s'.E).lookup j; rw [rmE_look, rmE_look, hl]⟩
    | some d => exact ⟨by simp [app1, St.put, h.T], h.ent⟩
  | a =>
    cases d with
    | some d => exact app_same h
    | none =>
      cases r with
      | r2 id e => exact ⟨h.T, fun j => by show (setE id e s.E).lookup j = (setE id e s'.E).lookup j; rw [setE_look2, setE_look2, hl, hl]⟩
      | r0 av => exact h
      | r1 av ne => exact h
      | rb => exact h
theorem app_comm {r r' : Res} {d d' : Nat} (hr : r.ok = true) (hr' : r'.ok = true) (h : d ≠ d') (s : St) : Same (r'.app d' (r.app d s)) (r.app d (r'.app d' s)) := by
  refine ⟨by rw [app_T, app_T, app_T, app_T, List.set_comm _ _ h], fun id => ?_⟩
  by_cases h1 : id / 8 = d
  · have h2 : id / 8 ≠ d' := fun e => h (h1.symm.trans e)
    rw [app_ent r' d' _ hr' id h2]
    exact app_entD r d s (r'.app d' s) id (app_ent r' d' s hr' id h2).symm
  · rw [app_ent r d _ hr id h1]
    exact app_entD r' d' (r.app d s) s id (app_ent r d s hr id h1)
/-- What two operations do does not hang on which comes first. -/
def Ind (od : Option Nat) (r : Res) (od' : Option Nat) (r' : Res) : Prop :=
  r.ok = true ∧ r'.ok = true ∧ (match od, od' with
    | some d, some d' => d ≠ d'
    | none, some d' => ∀ id e, r = .r2 id e → id / 8 ≠ d'
    | some d, none => ∀ id e, r' = .r2 id e → id / 8 ≠ d
    | none, none => ∀ id e id' e', r = .r2 id e → r' = .r2 id' e' → id ≠ id')
theorem set_app {r : Res} {d id : Nat} {e : Ent} (hr : r.ok = true) (h : id / 8 ≠ d) (s : St) : Same (r.app d ⟨s.T, setE id e s.E⟩) ⟨(r.app d s).T, setE id e (r.app d s).E⟩ := by
  refine ⟨by simp only [app_T], fun j => ?_⟩
  have e1 : ∀ j, (r.app d s).E.lookup j = (r.app d s).ent j := fun j => rfl
  have e2 : ∀ j, (St.mk s.T (setE id e s.E)).ent j = (setE id e s.E).lookup j := fun j => rfl
  have e3 : (St.mk (r.app d s).T (setE id e (r.app d s).E)).ent j = (setE id e (r.app d s).E).lookup j := rfl
  rw [e3, setE_look2, e1, e1, app_ent r d s hr id h]
  by_cases h1 : j = id
  · subst h1
    rw [app_ent r d _ hr j h, if_pos rfl, e2, setE_look2, if_pos rfl]
    rfl
  · rw [if_neg h1]
    exact app_entD r d _ s j (by rw [e2, setE_look2, if_neg h1]; rfl)
theorem app1_comm {c : Cd} {d d' : Option Nat} {r r' : Res} (hc : c = .a ∨ c = .z) (h : c = .a → Ind d r d' r') (s : St) : Same (app1 .a d' r' (app1 c d r s)) (app1 c d r (app1 .a d' r' s)) := by
  rcases hc with rfl | rfl
  · obtain ⟨h1, h2, h3⟩ := h rfl
    cases d with
    | some d =>
      cases d' with
      | some d' => exact app_comm h1 h2 h3 s
      | none =>
        cases r' with
        | r2 id e => exact (set_app h1 (h3 id e rfl) s).symm
        | r0 _ => exact Same.refl _
        | r1 _ _ => exact Same.refl _
        | rb => exact Same.refl _
    | none =>
      cases d' with
      | some d' =>
        cases r with
        | r2 id e => exact set_app h2 (h3 id e rfl) s
        | r0 _ => exact Same.refl _
        | r1 _ _ => exact Same.refl _
        | rb => exact Same.refl _
      | none =>
        cases r with
        | r0 _ => exact Same.refl _
        | r1 _ _ => exact Same.refl _
        | rb => exact Same.refl _
        | r2 id e =>
          cases r' with
          | r0 _ => exact Same.refl _
          | r1 _ _ => exact Same.refl _
          | rb => exact Same.refl _
          | r2 id' e' =>
            have hne := h3 id e id' e' rfl rfl
            refine ⟨rfl, fun j => ?_⟩
            show (setE id' e' (setE id e s.E)).lookup j = (setE id e (setE id' e' s.E)).lookup j
            simp only [setE_look2]
            by_cases h5 : j = id'
            · subst h5
              have : ¬ j = id := fun x => hne x.symm
              simp [this]
            · by_cases h6 : j = id
              · subst h6
                simp [h5]
              · simp [h5, h6]
  · cases d <;> exact Same.refl _
theorem appC_same : ∀ (cs : List Cd) (l : List Oper) (rs : List Res) {s s' : St}, Same s s' → Same (appC cs l rs s) (appC cs l rs s')
  | [], _, _, _, _, h => h
  | _ :: _, [], _, _, _, h => h
  | c :: cs, o :: os, [], _, _, h => appC_same cs os [] (app1_same h)
  | c :: cs, o :: os, r :: rs, _, _, h => appC_same cs os rs (app1_same h)
theorem appC_comm : ∀ (cs : List Cd) (l : List Oper) (rs : List Res) (s : St) (r' : Res) (d' : Option Nat), rs.length = l.length → (∀ c, c ∈ cs → c = .a ∨ c = .z) → (∀ (j : Nat) o r, l[j]? = some o → rs[j]? = some r → cs[j]? = some .a → Ind o.dst r d' r') → Same (app1 .a d' r' (appC cs l rs s)) (appC cs l rs (app1 .a d' r' s))
  | [], _, _, s, _, _, _, _, _ => Same.refl _
  | _ :: _, [], _, s, _, _, _, _, _ => Same.refl _
  | c :: cs, o :: os, [], s, r', d', h1, h2, h3 => by simp at h1
  | c :: cs, o :: os, r :: rs, s, r', d', h1, h2, h3 =>
    (appC_comm cs os rs _ r' d' (by simpa using h1) (fun x hx => h2 x (by simp [hx])) fun j p q hp hq hc => h3 (j + 1) p q (by simpa using hp) (by simpa using hq) (by simpa using hc)).trans (appC_same cs os rs (app1_comm (h2 c (by simp)) (fun hc => h3 0 o r rfl rfl (by rw [hc]; rfl)) s))

/-- The operations that have been carried out. -/
def done (L : Nat → Bool) : Nat → List Oper → List Cd
  | _, [] => []
  | k, _ :: os => (bif L k then .a else .z) :: done L (k + 1) os
theorem done_len (L : Nat → Bool) : ∀ (k : Nat) (l : List Oper), (done L k l).length = l.length
  | _, [] => rfl
  | k, _ :: os => by simp [done, done_len L (k + 1) os]
theorem done_congr {L L' : Nat → Bool} : ∀ (k : Nat) (l : List Oper), (∀ j, k ≤ j → j < k + l.length → L j = L' j) → done L k l = done L' k l
  | _, [], _ => rfl
  | k, o :: os, h => by
    simp only [done]
    rw [h k (Nat.le_refl _) (by simp), done_congr (k + 1) os fun j h1 h2 => h j (by omega) (by simp; omega)]
theorem done_at (L : Nat → Bool) : ∀ (l : List Oper) (k j : Nat) c, (done L k l)[j]? = some c → c = (bif L (k + j) then .a else .z) ∧ j < l.length
  | [], k, j, c, h => by simp [done] at h
  | o :: os, k, 0, c, h => by
    simp [done] at h
    subst h
    exact ⟨rfl, by simp⟩
  | o :: os, k, j + 1, c, h => by
    obtain ⟨h1, h2⟩ := done_at L os (k + 1) j c (by simpa [done] using h)
    rw [show k + 1 + j = k + (j + 1) by omega] at h1
    exact ⟨h1, by simp; omega⟩
theorem done_az (L : Nat → Bool) : ∀ (k : Nat) (l : List Oper) (c : Cd), c ∈ done L k l → c = .a ∨ c = .z
  | _, [], c, h => by cases h
  | k, _ :: os, c, h => by
    simp only [done, List.mem_cons] at h
    rcases h with h | h
    · cases hL : L k with
      | true => rw [hL] at h; exact .inl h
      | false => rw [hL] at h; exact .inr h
    · exact done_az L (k + 1) os c h
/-- One operation more. -/
theorem done_step {L L' : Nat → Bool} (i : Nat) (hi : L i = false) (hi' : L' i = true) (hL : ∀ j, j ≠ i → L' j = L j) : ∀ (l : List Oper) (k : Nat) (rs : List Res) (s : St) (o : Oper) (r : Res), l[i - k]? = some o → k ≤ i → rs[i - k]? = some r → rs.length = l.length →
    (∀ (j : Nat) p q, l[j]? = some p → rs[j]? = some q → i - k < j → L' (k + j) = true → Ind p.dst q o.dst r) → Same (app1 .a o.dst r (appC (done L k l) l rs s)) (appC (done L' k l) l rs s)
  | [], k, rs, s, o, r, h, _, _, _, _ => by simp at h
  | p :: os, k, [], s, o, r, h, hk, hr, hlen, hind => by simp at hr
  | p :: os, k, q :: qs, s, o, r, h, hk, hr, hlen, hind => by
    by_cases hik : i = k
    · subst hik
      simp at h hr
      subst h hr
      simp only [done, hi, hi', appC, cond_false, cond_true]
      have e : done L (i + 1) os = done L' (i + 1) os := done_congr _ _ fun j h1 _ => (hL j (by omega)).symm
      rw [e]
      have e3 : app1 .z p.dst q s = s := by cases p.dst <;> rfl
      rw [e3]
      exact appC_comm _ os qs s q p.dst (by simpa using hlen) (done_az L' (i + 1) os) fun j x y hx hy hc => hind (j + 1) x y (by simpa using hx) (by simpa using hy) (by omega) (by
        obtain ⟨h1, _⟩ := done_at L' os (i + 1) j _ hc
        rw [show i + 1 + j = i + (j + 1) by omega] at h1
        cases h2 : L' (i + (j + 1)) with
        | true => rfl
        | false => rw [h2] at h1; cases h1)
    · have e1 : i - k = (i - (k + 1)) + 1 := by omega
      rw [e1] at h hr
      simp only [done, appC]
      rw [hL k (fun e => hik e.symm)]
      exact done_step i hi hi' hL os (k + 1) qs _ o r (by simpa using h) (by omega) (by simpa using hr) (by simpa using hlen) fun j x y hx hy hj hLj => hind (j + 1) x y (by simpa using hx) (by simpa using hy) (by omega) (by rw [show k + (j + 1) = k + 1 + j by omega]; exact hLj)
end Go.Proofs.YtnheekadeflecaaGreat
