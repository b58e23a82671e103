/-
  Statements whose order is open: checks by computation.
  Conditions: none.
-/
import Derived.Test.YtnheekadeflecaaGreatShL
namespace Go.Proofs.YtnheekadeflecaaGreat
open Go.RowKit
set_option linter.unusedSimpArgs false
set_option linter.unusedVariables false

/-! ### Checks, by computation -/
def maskE (ms : List Nat) : List Edge → Nat
  | [] => 0
  | e :: es => bif Region.binds .any e then (2 ^ e.on ||| ms.getD e.on 0) ||| maskE ms es else maskE ms es
theorem maskE_bit (ms : List Nat) (k : Nat) : ∀ (es : List Edge), (maskE ms es).testBit k = true → ∃ e, e ∈ es ∧ Region.binds .any e = true ∧ (e.on = k ∨ (ms.getD e.on 0).testBit k = true)
  | [], h => by simp [maskE] at h
  | e :: es, h => by
    simp only [maskE] at h
    cases hb : Region.binds .any e with
    | true =>
      rw [hb] at h
      simp only [cond_true, Nat.testBit_or, Bool.or_eq_true, Nat.testBit_two_pow, decide_eq_true_eq] at h
      rcases h with (h | h) | h
      · exact ⟨e, by simp, hb, .inl h⟩
      · exact ⟨e, by simp, hb, .inr h⟩
      · obtain ⟨f, h1, h2⟩ := maskE_bit ms k es h
        exact ⟨f, by simp [h1], h2⟩
    | false =>
      rw [hb] at h
      obtain ⟨f, h1, h2⟩ := maskE_bit ms k es h
      exact ⟨f, by simp [h1], h2⟩
def lowE (i : Nat) : List Edge → Bool
  | [] => true
  | e :: es => (!Region.binds .any e || decide (e.on < i)) && lowE i es
theorem lowE_lt (i : Nat) : ∀ (es : List Edge), lowE i es = true → ∀ e, e ∈ es → Region.binds .any e = true → e.on < i
  | [], _, e, h, _ => by cases h
  | f :: es, h, e, he, hb => by
    simp only [lowE, Bool.and_eq_true, Bool.or_eq_true, Bool.not_eq_true', decide_eq_true_eq] at h
    cases he with
    | head =>
      rcases h.1 with h1 | h1
      · rw [h1] at hb; cases hb
      · exact h1
    | tail _ he => exact lowE_lt i es h.2 e he hb
def allBelow (m : Nat) : Nat → Bool
  | 0 => true
  | k + 1 => m.testBit k && allBelow m k
theorem allBelow_bit (m : Nat) : ∀ (n k : Nat), allBelow m n = true → k < n → m.testBit k = true
  | 0, _, _, h => by omega
  | n + 1, k, h, hk => by
    simp only [allBelow, Bool.and_eq_true] at h
    rcases Nat.lt_or_ge k n with h1 | h1
    · exact allBelow_bit m n k h.2 h1
    · have : k = n := by omega
      rw [this]; exact h.1
/-- masks, edges that point back, and a tail that comes last in its order -/
def chk1 (ms : List Nat) (n1 : Nat) : Nat → List Oper → Bool
  | _, [] => true
  | i, o :: os => (ms.getD i 0 == maskE ms o.after.toList) && (lowE i o.after.toList && ((decide (i < n1) || allBelow (ms.getD i 0) i) && chk1 ms n1 (i + 1) os))
theorem chk1_at (ms : List Nat) (n1 : Nat) : ∀ (l : List Oper) (i : Nat), chk1 ms n1 i l = true → ∀ (j : Nat) o, l[j]? = some o → ms.getD (i + j) 0 = maskE ms o.after.toList ∧ lowE (i + j) o.after.toList = true ∧ (i + j < n1 ∨ allBelow (ms.getD (i + j) 0) (i + j) = true)
  | [], _, _, j, o, h => by simp at h
  | p :: os, i, h, j, o, hj => by
    simp only [chk1, Bool.and_eq_true, beq_iff_eq, Bool.or_eq_true, decide_eq_true_eq] at h
    cases j with
    | zero =>
      simp at hj
      subst hj
      exact ⟨h.1, h.2.1, h.2.2.1⟩
    | succ j =>
      have := chk1_at ms n1 os (i + 1) h.2.2.2 j o (by simpa using hj)
      rw [show i + 1 + j = i + (j + 1) by omega] at this
      exact this
def dsts : List Oper → List Nat
  | [] => []
  | o :: os => match o.dst with
    | some d => d :: dsts os
    | none => dsts os
theorem dsts_mem : ∀ (l : List Oper) (j : Nat) o d, l[j]? = some o → o.dst = some d → d ∈ dsts l
  | [], j, o, d, h, _ => by simp at h
  | p :: os, 0, o, d, h, hd => by
    simp at h
    subst h
    simp only [dsts, hd]
    exact List.mem_cons_self
  | p :: os, j + 1, o, d, h, hd => by
    have ih := dsts_mem os j o d (by simpa using h) hd
    simp only [dsts]
    cases p.dst with
    | none => exact ih
    | some x => exact List.mem_cons_of_mem _ ih
theorem dsts_dist : ∀ (l : List Oper), nodup (dsts l) = true → Dist l
  | [], _ => fun i j o p d h => by simp at h
  | o :: os, h => by
    have htl : nodup (dsts os) = true ∧ ∀ d, o.dst = some d → d ∉ dsts os := by
      simp only [dsts] at h
      cases hd : o.dst with
      | none => rw [hd] at h; exact ⟨h, fun d hd => by cases hd⟩
      | some d =>
        rw [hd] at h
        simp only [nodup, Bool.and_eq_true, Bool.not_eq_true', List.contains_eq_mem, decide_eq_false_iff_not] at h
        exact ⟨h.2, fun x hx => by injection hx with hx; subst hx; exact h.1⟩
    have ih := dsts_dist os htl.1
    intro i j p q x hp hq hpx hqx
    cases i with
    | zero =>
      cases j with
      | zero => rfl
      | succ j =>
        simp at hp
        subst hp
        exact absurd (dsts_mem os j q x (by simpa using hq) hqx) (htl.2 x hpx)
    | succ i =>
      cases j with
      | zero =>
        simp at hq
        subst hq
        exact absurd (dsts_mem os i p x (by simpa using hp) hpx) (htl.2 x hqx)
      | succ j =>
        have := ih i j p q x (by simpa using hp) (by simpa using hq) hpx hqx
        omega
def chkC (ms : List Nat) (i : Nat) : Nat → List Cd → Bool
  | _, [] => true
  | j, .a :: cs => (ms.getD i 0).testBit j && chkC ms i (j + 1) cs
  | j, .z :: cs => (j == i || (ms.getD j 0).testBit i) && chkC ms i (j + 1) cs
  | j, .b :: cs => chkC ms i (j + 1) cs
  | j, .r _ :: cs => chkC ms i (j + 1) cs
theorem chkC_at (ms : List Nat) (i : Nat) : ∀ (cs : List Cd) (k : Nat), chkC ms i k cs = true → ∀ (j : Nat) c, cs[j]? = some c → match c with | .a => (ms.getD i 0).testBit (k + j) = true | .z => k + j = i ∨ (ms.getD (k + j) 0).testBit i = true | _ => True
  | [], k, _, j, c, h => by simp at h
  | x :: cs, k, h, j, c, hj => by
    have htl : chkC ms i (k + 1) cs = true := by
      cases x with
      | a => simp only [chkC, Bool.and_eq_true] at h; exact h.2
      | z => simp only [chkC, Bool.and_eq_true] at h; exact h.2
      | b => exact h
      | r id => exact h
    cases j with
    | zero =>
      simp at hj
      subst hj
      cases x with
      | a => simp only [chkC, Bool.and_eq_true] at h; exact h.1
      | z => simp only [chkC, Bool.and_eq_true, Bool.or_eq_true, beq_iff_eq] at h; exact h.1
      | b => trivial
      | r id => trivial
    | succ j =>
      have := chkC_at ms i cs (k + 1) htl j c (by simpa using hj)
      rw [show k + 1 + j = k + (j + 1) by omega] at this
      exact this
def chk2 (ms : List Nat) (n1 : Nat) : Nat → List (List Cd) → Bool
  | _, [] => true
  | i, cs :: css => (cs.length == n1) && (chkC ms i 0 cs && chk2 ms n1 (i + 1) css)
theorem chk2_at (ms : List Nat) (n1 : Nat) : ∀ (css : List (List Cd)) (i : Nat), chk2 ms n1 i css = true → ∀ (j : Nat) cs, css[j]? = some cs → cs.length = n1 ∧ chkC ms (i + j) 0 cs = true
  | [], _, _, j, cs, h => by simp at h
  | x :: css, i, h, j, cs, hj => by
    simp only [chk2, Bool.and_eq_true, beq_iff_eq] at h
    cases j with
    | zero => simp at hj; subst hj; exact ⟨h.1, h.2.1⟩
    | succ j =>
      have := chk2_at ms n1 css (i + 1) h.2.2 j cs (by simpa using hj)
      rw [show i + 1 + j = i + (j + 1) by omega] at this
      exact this
def drawOk (l : List Oper) (ms : List Nat) (n1 : Nat) (css : List (List Cd)) : Bool :=
  chk1 ms n1 0 l && (decide (n1 ≤ l.length) && ((css.length == n1) && (chk2 ms n1 0 css && nodup (dsts (l.take n1)))))
/-- Every other operation knows that the variable is written here. -/
def colOk (j id : Nat) : List (List Cd) → Bool
  | [] => true
  | cs :: css => (match cs[j]? with
    | some .a => true
    | some .z => true
    | some (.r id2) => id2 == id
    | _ => false) && colOk j id css
theorem colOk_at (j id : Nat) : ∀ (css : List (List Cd)), colOk j id css = true → ∀ cs, cs ∈ css → cs[j]? = some .a ∨ cs[j]? = some .z ∨ cs[j]? = some (.r id)
  | [], _, cs, h => by cases h
  | c :: css, h, cs, hm => by
    simp only [colOk, Bool.and_eq_true] at h
    cases hm with
    | head =>
      have h1 := h.1
      cases hc : c[j]? with
      | none => rw [hc] at h1; cases h1
      | some x =>
        rw [hc] at h1
        cases x with
        | a => exact .inl rfl
        | z => exact .inr (.inl rfl)
        | b => cases h1
        | r id2 => have : id2 = id := by simpa using h1
                   subst this; exact .inr (.inr rfl)
    | tail _ hm => exact colOk_at j id css h.2 cs hm
/-- Who makes this variable in the statement comes first. -/
def mkOk (ms : List Nat) (j id : Nat) : Nat → List Oper → Bool
  | _, [] => true
  | i, o :: os => (match o.dst with | some d => !(id / 8 == d) || (ms.getD j 0).testBit i | none => true) && mkOk ms j id (i + 1) os
theorem mkOk_at (ms : List Nat) (j id : Nat) : ∀ (l : List Oper) (k : Nat), mkOk ms j id k l = true → ∀ (i : Nat) o d, l[i]? = some o → o.dst = some d → id / 8 ≠ d ∨ (ms.getD j 0).testBit (k + i) = true
  | [], k, _, i, o, d, h, _ => by simp at h
  | p :: os, k, h, i, o, d, hj, hd => by
    simp only [mkOk, Bool.and_eq_true] at h
    cases i with
    | zero =>
      simp at hj
      subst hj
      have := h.1
      rw [hd] at this
      simp only [Bool.or_eq_true, Bool.not_eq_true', beq_eq_false_iff_ne] at this
      exact this
    | succ i =>
      have := mkOk_at ms j id os (k + 1) h.2 i o d (by simpa using hj) hd
      rw [show k + 1 + i = k + (i + 1) by omega] at this
      exact this
/-- No result speaks of a row that another operation makes, unless it comes behind that operation. -/
def mentOk (ms : List Nat) (j : Nat) (av : AV) : Nat → List Oper → Bool
  | _, [] => true
  | i, o :: os => (!makes o || ((ms.getD j 0).testBit i || (match o.dst with | some d => !av.ment d | none => true))) && mentOk ms j av (i + 1) os
theorem mentOk_at (ms : List Nat) (j : Nat) (av : AV) : ∀ (l : List Oper) (k : Nat), mentOk ms j av k l = true → ∀ (i : Nat) o d, l[i]? = some o → makes o = true → o.dst = some d → (ms.getD j 0).testBit (k + i) = true ∨ av.ment d = false
  | [], _, _, i, o, d, h, _, _ => by simp at h
  | p :: os, k, h, i, o, d, hi, hm, hd => by
    simp only [mentOk, Bool.and_eq_true, Bool.or_eq_true, Bool.not_eq_true'] at h
    cases i with
    | zero =>
      simp at hi
      subst hi
      rw [hd] at h
      rcases h.1 with h1 | h1 | h1
      · rw [hm] at h1; cases h1
      · exact .inl h1
      · exact .inr (by simpa using h1)
    | succ i =>
      have := mentOk_at ms j av os (k + 1) h.2 i o d (by simpa using hi) hm hd
      rw [show k + 1 + i = k + (i + 1) by omega] at this
      exact this

theorem prep_le : ∀ (l : List Oper) (s : St), Le (prep l s) s ∧ (prep l s).T.length = s.T.length
  | [], s => ⟨Le.refl s, rfl⟩
  | o :: os, s => by
    have kill_le : ∀ d, Le (s.kill d) s ∧ (s.kill d).T.length = s.T.length := fun d => ⟨⟨by simp [St.kill, killT_len], fun t => by
      unfold St.kill St.get
      simp only [killT_get]
      cases ((s.T[t]?).getD .bot).ment d with
      | true => exact .inl rfl
      | false => exact .inr rfl, fun id e he => by
      unfold St.kill St.ent at he
      simp only [killE_look] at he
      split at he
      · cases he
      · exact he⟩, by simp [St.kill, killT_len]⟩
    simp only [prep]
    cases makes o with
    | false => exact prep_le os s
    | true =>
      cases o.dst with
      | none => exact prep_le os s
      | some d =>
        obtain ⟨h1, h2⟩ := prep_le os (s.kill d)
        exact ⟨h1.trans (kill_le d).1, h2.trans (kill_le d).2⟩
theorem prep_ok : ∀ (l : List Oper) (s : St) (j : Nat) (o : Oper) (d : Nat), l[j]? = some o → o.dst = some d → makes o = true → (∀ t, ((prep l s).get t).ment d = false) ∧ ∀ id, id / 8 = d → (prep l s).ent id = none
  | [], s, j, o, d, h, _, _ => by simp at h
  | p :: os, s, j, o, d, hj, hd, hm => by
    simp only [prep]
    cases j with
    | succ j =>
      cases makes p with
      | false => exact prep_ok os s j o d (by simpa using hj) hd hm
      | true =>
        cases p.dst with
        | none => exact prep_ok os s j o d (by simpa using hj) hd hm
        | some d2 => exact prep_ok os _ j o d (by simpa using hj) hd hm
    | zero =>
      simp at hj
      subst hj
      rw [hm, hd]
      simp only [cond_true]
      have h1 := (prep_le os (s.kill d)).1
      refine ⟨fun t => ?_, fun id hid => ?_⟩
      · rcases h1.get t with h2 | h2
        · rw [h2]; rfl
        · rw [h2]
          unfold St.kill St.get
          simp only [killT_get]
          exact killT_ment d _
      · cases h2 : (prep os (s.kill d)).ent id with
        | none => rfl
        | some e =>
          have h3 := h1.ent id e h2
          unfold St.kill St.ent at h3
          simp only [killE_look] at h3
          rw [if_pos hid] at h3
          cases h3
theorem appC_all {p : AV → Prop} (hb : p .bot) : ∀ (cs : List Cd) (l : List Oper) (rs : List Res) (s : St), (∀ t, p (s.get t)) → (∀ (j : Nat) o r d, cs[j]? = some .a → l[j]? = some o → rs[j]? = some r → o.dst = some d → p (r.av d)) → ∀ t, p ((appC cs l rs s).get t)
  | [], _, _, s, h, _, t => h t
  | _ :: _, [], _, s, h, _, t => h t
  | c :: cs, o :: os, rs, s, h, hr, t => by
    have step : ∀ (r : Res) (hrr : ∀ d, c = .a → o.dst = some d → p (r.av d)) t, p ((app1 c o.dst r s).get t) := by
      intro r hrr t
      cases hod : o.dst with
      | none =>
        cases c with
        | z => exact h t
        | b => exact h t
        | r id => exact h t
        | a => cases r <;> exact h t
      | some d =>
        cases c with
        | z => exact h t
        | r id =>
          show p ((s.put d .bot).get t)
          rw [get_put]
          split
          · exact hb
          · exact h t
        | b =>
          show p ((s.put d .bot).get t)
          rw [get_put]
          split
          · exact hb
          · exact h t
        | a =>
          show p ((r.app d s).get t)
          have h1 := get_put s d t (r.av d)
          unfold St.put St.get at h1
          unfold St.get
          rw [app_T, h1]
          split
          · exact hrr d rfl hod
          · exact h t
    cases rs with
    | nil => exact appC_all hb cs os [] _ (step .rb fun d _ _ => hb) (fun j o r d _ _ hrr => by simp at hrr) t
    | cons r rs =>
      exact appC_all hb cs os rs _ (step r fun d hc hod => hr 0 o r d (by rw [hc]; rfl) rfl rfl hod) (fun j o' r' d hc ho hrr hd => hr (j + 1) o' r' d (by simpa using hc) (by simpa using ho) (by simpa using hrr) hd) t
theorem appC_ent : ∀ (cs : List Cd) (l : List Oper) (rs : List Res) (s : St) (id : Nat), s.ent id = none → (∀ r, r ∈ rs → r.ok = true) → (∀ (j : Nat) o, cs[j]? = some .a → l[j]? = some o → o.dst ≠ some (id / 8)) → (appC cs l rs s).ent id = none
  | [], _, _, s, _, h0, _, _ => h0
  | _ :: _, [], _, s, _, h0, _, _ => h0
  | c :: cs, o :: os, rs, s, id, h0, hok, h => by
    have h0' : s.E.lookup id = none := h0
    have step : ∀ (r : Res), r.ok = true → (app1 c o.dst r s).ent id = none := by
      intro r hr
      cases hod : o.dst with
      | none =>
        cases c with
        | z => exact h0
        | b => exact h0
        | r id2 =>
          show (rmE id2 s.E).lookup id = none
          rw [rmE_look, h0']
          split <;> rfl
        | a =>
          cases r with
          | r0 _ => exact h0
          | r1 _ _ => exact h0
          | rb => exact h0
          | r2 id2 e =>
            show (setE id2 e s.E).lookup id = none
            rw [setE_look2]
            by_cases he : id = id2
            · subst he; rw [if_pos rfl, h0']; rfl
            · rw [if_neg he, h0']
      | some d =>
        cases c with
        | z => exact h0
        | b => exact h0
        | r id2 => exact h0
        | a =>
          refine (app_ent r d s hr id fun e => h 0 o rfl rfl ?_).trans h0
          rw [hod, e]
    cases rs with
    | nil => exact appC_ent cs os [] _ id (step .rb rfl) (fun r hr => by cases hr) fun j p hc hp => h (j + 1) p (by simpa using hc) (by simpa using hp)
    | cons r rs => exact appC_ent cs os rs _ id (step r (hok r (by simp))) (fun x hx => hok x (by simp [hx])) fun j p hc hp => h (j + 1) p (by simpa using hc) (by simpa using hp)
end Go.Proofs.YtnheekadeflecaaGreat
