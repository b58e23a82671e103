/-
  Statements whose order is open: what an operation may lean on.
  Conditions: none.
-/
import Derived.Test.YtnheekadeflecaaGreatShK
namespace Go.Proofs.YtnheekadeflecaaGreat
open Go.RowKit
set_option linter.unusedSimpArgs false
set_option linter.unusedVariables false

def Res.makes : Res → Bool
  | .r1 _ _ => true
  | _ => false
/-- The results fit their operations. -/
def OkR (l : List Oper) (rs : List Res) : Prop := ∀ (j : Nat) o r, l[j]? = some o → rs[j]? = some r → r.ok = true ∧ (r.makes = true → Go.Proofs.YtnheekadeflecaaGreat.makes o = true)
theorem app1_len (c : Cd) (d : Option Nat) (r : Res) (s : St) : (app1 c d r s).T.length = s.T.length := by
  cases c <;> cases d <;> cases r <;> simp [app1, app_T, St.put]
theorem appC_len : ∀ (cs : List Cd) (l : List Oper) (rs : List Res) (s : St), (appC cs l rs s).T.length = s.T.length
  | [], _, _, s => rfl
  | _ :: _, [], _, s => rfl
  | c :: cs, o :: os, [], s => (appC_len cs os [] _).trans (app1_len _ _ _ _)
  | c :: cs, o :: os, r :: rs, s => (appC_len cs os rs _).trans (app1_len _ _ _ _)
theorem put_le {s s' : St} (h : Le s s') (d : Nat) (av : AV) (hl : s.T.length = s'.T.length) : Le (s.put d av) (s'.put d av) := by
  refine ⟨by simp [St.put, hl], fun t => ?_, h.ent⟩
  rw [get_put, get_put, hl]
  by_cases hd : d = t ∧ d < s'.T.length
  · simp only [if_pos hd]; exact .inr trivial
  · simp only [if_neg hd]; exact h.get t
theorem bot_le {s s' : St} (h : Le s s') (d : Nat) (T : List AV) (hT : ∃ av, T = s'.T.set d av) (hl : s.T.length = s'.T.length) (E : List (Nat × Ent)) (hE : ∀ id e, s.ent id = some e → E.lookup id = some e) : Le (s.put d .bot) ⟨T, E⟩ := by
  obtain ⟨av, rfl⟩ := hT
  refine ⟨by simp [St.put, hl], fun t => ?_, hE⟩
  have h2 := get_put s' d t av
  unfold St.put at h2
  rw [get_put]
  by_cases hd : d = t ∧ d < s.T.length
  · rw [if_pos hd]; exact .inl rfl
  · rw [if_neg hd]
    rcases h.get t with h1 | h1
    · exact .inl h1
    · refine .inr ?_
      rw [h1]
      have h3 : St.get ⟨s'.T.set d av, E⟩ t = St.get ⟨s'.T.set d av, s'.E⟩ t := rfl
      rw [h3, h2, if_neg (by rw [← hl]; exact hd)]
def Clean (l : List Oper) (s : St) : Prop := ∀ (j : Nat) o d, l[j]? = some o → o.dst = some d → makes o = true → ∀ id, id / 8 = d → s.ent id = none
def Dist (l : List Oper) : Prop := ∀ (i j : Nat) o p d, l[i]? = some o → l[j]? = some p → o.dst = some d → p.dst = some d → i = j
theorem Dist.tail {o : Oper} {l : List Oper} (h : Dist (o :: l)) : Dist l := fun i j p q d hp hq h1 h2 => by
  have := h (i + 1) (j + 1) p q d (by simpa using hp) (by simpa using hq) h1 h2
  omega
theorem Clean.tail {o : Oper} {l : List Oper} {s : St} (h : Clean (o :: l) s) : Clean l s := fun j p d hp => h (j + 1) p d (by simpa using hp)
theorem OkR.tail {o : Oper} {l : List Oper} {r : Res} {rs : List Res} (h : OkR (o :: l) (r :: rs)) : OkR l rs := fun j p q hp hq => h (j + 1) p q (by simpa using hp) (by simpa using hq)
theorem app_ent_old {r : Res} {d : Nat} {s : St} {id : Nat} {e : Ent} (hr : r.ok = true) (hm : r.makes = true → id / 8 ≠ d) (h : s.ent id = some e) : (r.app d s).ent id = some e := by
  cases r with
  | r0 av => exact h
  | rb => exact h
  | r2 _ _ => exact h
  | r1 av ne => rw [app_ent _ _ _ hr _ (hm rfl)]; exact h
theorem Clean.step {o : Oper} {l : List Oper} {s : St} (h : Clean (o :: l) s) (hd : Dist (o :: l)) (c : Cd) (r : Res) (hr : r.ok = true) : Clean l (app1 c o.dst r s) := by
  intro j p d hp hpd hm id hid
  have h1 := h.tail j p d hp hpd hm id hid
  have h1' : s.E.lookup id = none := h1
  cases hod : o.dst with
  | none =>
    cases c with
    | z => exact h1
    | b => exact h1
    | r id2 =>
      show (rmE id2 s.E).lookup id = none
      rw [rmE_look, h1']
      split <;> rfl
    | a =>
      cases r with
      | r0 _ => exact h1
      | r1 _ _ => exact h1
      | rb => exact h1
      | r2 id2 e =>
        show (setE id2 e s.E).lookup id = none
        rw [setE_look2]
        by_cases he : id = id2
        · subst he; rw [if_pos rfl, h1']; rfl
        · rw [if_neg he, h1']
  | some d2 =>
    have hne : d2 ≠ d := fun e => by
      have := hd 0 (j + 1) o p d rfl (by simpa using hp) (by rw [hod, e]) hpd
      omega
    cases c with
    | z => exact h1
    | b => exact h1
    | r id2 => exact h1
    | a =>
      show (r.app d2 s).ent id = none
      rw [app_ent r d2 s hr id (by rw [hid]; exact fun e => hne e.symm)]
      exact h1
/-- What an operation may lean on, and all that has been done. -/
theorem appC_le (L : Nat → Bool) : ∀ (l : List Oper) (cs : List Cd) (k : Nat) (rs : List Res) (s s' : St), Le s s' → s.T.length = s'.T.length → Clean l s → Dist l → OkR l rs → rs.length = l.length → cs.length = l.length →
    (∀ (j : Nat) c o r, cs[j]? = some c → l[j]? = some o → rs[j]? = some r → match c with | .a => L (k + j) = true | .z => L (k + j) = false | .b => o.dst = none → ∀ id e, r ≠ .r2 id e | .r id => ∀ id2 e, r = .r2 id2 e → id2 = id) → Le (appC cs l rs s) (appC (done L k l) l rs s')
  | [], cs, k, rs, s, s', h, _, _, _, _, _, hcl, _ => by
    cases cs with
    | nil => exact h
    | cons c cs => simp at hcl
  | o :: os, [], k, rs, s, s', h, _, _, _, _, _, hcl, _ => by simp at hcl
  | o :: os, c :: cs, k, [], s, s', h, _, _, _, _, hrl, _, _ => by simp at hrl
  | o :: os, c :: cs, k, r :: rs, s, s', h, hl, hc, hd, hok, hrl, hcl, hcs => by
    have h0 := hcs 0 c o r rfl rfl rfl
    have hr := (hok 0 o r rfl rfl)
    simp only [appC, done]
    refine appC_le L os cs (k + 1) rs _ _ ?_ (by rw [app1_len, app1_len]; exact hl) (hc.step hd c r hr.1) hd.tail hok.tail (by simpa using hrl) (by simpa using hcl) fun j c2 o2 r2 hj ho2 hr2 => by
      have := hcs (j + 1) c2 o2 r2 (by simpa using hj) (by simpa using ho2) (by simpa using hr2)
      rw [show k + 1 + j = k + (j + 1) by omega]
      exact this
    cases hod : o.dst with
    | none =>
      have hle : ∀ id e, s.E.lookup id = some e → s'.E.lookup id = some e := h.ent
      by_cases hw : ∃ id e, r = .r2 id e
      · obtain ⟨id2, e2, rfl⟩ := hw
        have right : ∀ b : Bool, Le ⟨s.T, rmE id2 s.E⟩ (app1 (bif b then .a else .z) none (.r2 id2 e2) s') := fun b => by
          refine ⟨by cases b <;> exact h.len, fun t => by cases b <;> exact h.get t, fun id e he => ?_⟩
          have he' : (rmE id2 s.E).lookup id = some e := he
          rw [rmE_look] at he'
          split at he'
          · cases he'
          · rename_i hne
            cases b with
            | false => exact hle id e he'
            | true =>
              show (setE id2 e2 s'.E).lookup id = some e
              rw [setE_look2, if_neg hne]
              exact hle id e he'
        cases c with
        | z =>
          have h1 : L k = false := h0
          rw [h1]
          exact h
        | b => exact absurd rfl (h0 hod id2 e2)
        | r id3 =>
          have h3 : id2 = id3 := h0 id2 e2 rfl
          subst h3
          exact right (L k)
        | a =>
          have h1 : L k = true := h0
          rw [h1]
          refine ⟨h.len, h.get, fun id e he => ?_⟩
          have he' : (setE id2 e2 s.E).lookup id = some e := he
          show (setE id2 e2 s'.E).lookup id = some e
          rw [setE_look2] at he' ⊢
          by_cases hne : id = id2
          · rw [if_pos hne] at he' ⊢
            cases h5 : s.E.lookup id2 with
            | none => rw [h5] at he'; cases he'
            | some x => rw [h5] at he'; rw [hle _ _ h5]; exact he'
          · rw [if_neg hne] at he' ⊢
            exact hle id e he'
      · have e0 : ∀ (c : Cd), (∀ id, c ≠ .r id) → ∀ s, app1 c none r s = s := fun c hc s => by
          cases c with
          | z => rfl
          | b => rfl
          | r id => exact absurd rfl (hc id)
          | a =>
            cases r with
            | r0 _ => rfl
            | r1 _ _ => rfl
            | rb => rfl
            | r2 id e => exact absurd ⟨id, e, rfl⟩ hw
        rw [e0 (bif L k then .a else .z) (fun id => by cases L k <;> (intro h; cases h))]
        cases c with
        | r id2 =>
          refine ⟨h.len, h.get, fun id e he => ?_⟩
          have he' : (rmE id2 s.E).lookup id = some e := he
          rw [rmE_look] at he'
          split at he'
          · cases he'
          · exact hle id e he'
        | z => rw [e0 .z (fun id h => by cases h)]; exact h
        | b => rw [e0 .b (fun id h => by cases h)]; exact h
        | a => rw [e0 .a (fun id h => by cases h)]; exact h
    | some d =>
      have hclean : ∀ id e, s.ent id = some e → r.makes = true → id / 8 ≠ d := fun id e he hm hid => by
        have := hc 0 o d rfl hod (hr.2 hm) id hid
        rw [this] at he
        cases he
      cases c with
      | z =>
        have h1 : L k = false := h0
        rw [h1]
        exact h
      | a =>
        have h1 : L k = true := h0
        rw [h1]
        refine ⟨?_, fun t => ?_, fun id e he => ?_⟩
        · show (r.app d s).T.length ≤ (r.app d s').T.length
          rw [app_T, app_T]
          simp [hl]
        · have h2 := (put_le h d (r.av d) hl).get t
          show (r.app d s).get t = .bot ∨ (r.app d s).get t = (r.app d s').get t
          unfold St.get at h2 ⊢
          rw [app_T, app_T]
          exact h2
        · show (r.app d s').ent id = some e
          have h3 : (r.app d s).ent id = some e := he
          by_cases hid : id / 8 = d
          · cases r with
            | r0 av => exact h.ent id e h3
            | rb => exact h.ent id e h3
            | r2 _ _ => exact h.ent id e h3
            | r1 av ne =>
              unfold Res.app St.ent at h3 ⊢
              simp only at h3 ⊢
              rw [look_app] at h3 ⊢
              cases hl2 : (shiftE d ne).lookup id with
              | some e2 => rw [hl2] at h3; exact h3
              | none =>
                rw [hl2] at h3
                exact h.ent id e h3
          · rw [app_ent r d s hr.1 id hid] at h3
            rw [app_ent r d s' hr.1 id hid]
            exact h.ent id e h3
      | b =>
        cases hLk : L k with
        | false =>
          refine ⟨by simp [app1, St.put, hl], fun t => ?_, h.ent⟩
          show (s.put d .bot).get t = .bot ∨ (s.put d .bot).get t = s'.get t
          rw [get_put]
          by_cases hdt : d = t ∧ d < s.T.length
          · rw [if_pos hdt]; exact .inl rfl
          · rw [if_neg hdt]; exact h.get t
        | true =>
          have h4 := bot_le h d (r.app d s').T ⟨_, app_T r d s'⟩ hl (r.app d s').E fun id e he => app_ent_old hr.1 (hclean id e he) (h.ent id e he)
          exact h4
      | r id2 =>
        cases hLk : L k with
        | false =>
          refine ⟨by simp [app1, St.put, hl], fun t => ?_, h.ent⟩
          show (s.put d .bot).get t = .bot ∨ (s.put d .bot).get t = s'.get t
          rw [get_put]
          by_cases hdt : d = t ∧ d < s.T.length
          · rw [if_pos hdt]; exact .inl rfl
          · rw [if_neg hdt]; exact h.get t
        | true =>
          have h4 := bot_le h d (r.app d s').T ⟨_, app_T r d s'⟩ hl (r.app d s').E fun id e he => app_ent_old hr.1 (hclean id e he) (h.ent id e he)
          exact h4

theorem R.drew {B : Fr} {w0 : World} {ok0 ok : Nat → Prop} {σ : Nat → Loc} {s : St} {a : Act} {w : World} (h : R B w0 ok0 ok σ s a w) : R B w0 ok0 ok σ s a { w with drawn := w.drawn + 1 } := by
  have hw : ∀ g, ok g → ({ w with drawn := w.drawn + 1 } : World).heap[g]? = w.heap[g]? := fun _ _ => rfl
  exact ⟨⟨h.core.len, h.core.okL, h.core.lib.mono (fun _ h => h) hw, fun t => (h.core.tmp t).mono0 (fun _ h => h) hw, fun id e he => (h.core.ent id e he).mono (fun _ h => h) hw fun _ _ => rfl, h.core.blk, h.core.inj⟩, h.defers, h.below.drew, h.base, h.old, h.fresh, h.own⟩
/-- A new row, where nothing speaks of its number yet. -/
theorem R.add {B : Fr} {w0 : World} {ok0 ok ok' : Nat → Prop} {σ σ' : Nat → Loc} {s : St} {a : Act} {w w' : World} (h : R B w0 ok0 ok σ s a w) {d : Nat} {av : AV} {ne : List (Nat × Ent)} {v : Value} (hn : New w w' ok ok' σ' av ne v)
    (hm : ∀ t, (s.get t).ment d = false) (he : ∀ id, id / 8 = d → s.ent id = none) :
    ∃ σ2, R B w0 ok0 ok' σ2 ((Res.r1 av ne).app d s) (a.put (some d) v) w' := by
  refine ⟨_, (h.upd hn (d := d)).le ⟨?_, fun t => ?_, fun id e hh => ?_⟩⟩
  · simp [Res.app, St.upd, killT_len]
  · refine .inr ?_
    have e1 := get_put s d t (av.shift d)
    have e2 := get_put (s.kill d) d t (av.shift d)
    unfold St.put St.get at e1
    unfold St.put St.kill St.get at e2
    simp only [killT_len, killT_get] at e2
    unfold Res.app St.upd St.get
    simp only
    rw [e1, e2]
    have h2 := hm t
    unfold St.get at h2
    rw [h2]
    rfl
  · have h1 : (shiftE d ne ++ s.E).lookup id = some e := hh
    show (shiftE d ne ++ killE d s.E).lookup id = some e
    rw [look_app] at h1 ⊢
    cases hl : (shiftE d ne).lookup id with
    | some e2 => rw [hl] at h1; exact h1
    | none =>
      rw [hl] at h1
      simp only at h1 ⊢
      rw [killE_look]
      have h3 : s.ent id = some e := h1
      by_cases hid : id / 8 = d
      · rw [he id hid] at h3; cases h3
      · rw [if_neg hid]; exact h1
end Go.Proofs.YtnheekadeflecaaGreat
