/-
  A statement whose order is open, by all the states that its orders pass.
  Conditions: none.
-/
import Derived.Test.YtnheekadeflecaaGreatShU
namespace Go.Proofs.YtnheekadeflecaaGreat
open Go.RowKit
set_option linter.unusedSimpArgs false
set_option linter.unusedVariables false

def readyL (ms : List Nat) (mask : Nat) : Nat → List Nat
  | 0 => []
  | k + 1 => bif (!mask.testBit k) && ((ms.getD k 0 &&& mask) == ms.getD k 0) then k :: readyL ms mask k else readyL ms mask k
theorem readyL_mem (ms : List Nat) (mask : Nat) : ∀ (n i : Nat), i < n → mask.testBit i = false → (∀ j, (ms.getD i 0).testBit j = true → mask.testBit j = true) → i ∈ readyL ms mask n
  | 0, i, h, _, _ => by omega
  | k + 1, i, h, h1, h2 => by
    simp only [readyL]
    by_cases hk : i = k
    · subst hk
      have e : (ms.getD i 0 &&& mask) = ms.getD i 0 := by
        apply Nat.eq_of_testBit_eq
        intro j
        rw [Nat.testBit_and]
        cases hj : (ms.getD i 0).testBit j with
        | false => rfl
        | true => rw [h2 j hj]; rfl
      rw [h1, e]
      simp
    · have ih := readyL_mem ms mask k i (by omega) h1 h2
      cases (!mask.testBit k) && ((ms.getD k 0 &&& mask) == ms.getD k 0) with
      | true => exact List.mem_cons_of_mem _ ih
      | false => exact ih
section
variable (P : Program)
def stepT (l : List Oper) (tab : List (Nat × St)) (mask : Nat) (s : St) : List Nat → Prop
  | [] => True
  | i :: is => (∃ o s' s2, l[i]? = some o ∧ o.guard = none ∧ X P o s s' ∧ tab.lookup (mask ||| 2 ^ i) = some s2 ∧ s2.T = s'.T ∧ HasE s' s2.E) ∧ stepT l tab mask s is
def tabOk (l : List Oper) (ms : List Nat) (tab : List (Nat × St)) (J : St → Prop) : List (Nat × St) → Prop
  | [] => True
  | (m, s) :: ps => stepT P l tab m s (readyL ms m l.length) ∧ (m = 2 ^ l.length - 1 → J s) ∧ tabOk l ms tab J ps
variable {P}
theorem stepT_at {l : List Oper} {tab : List (Nat × St)} {mask : Nat} {s : St} : ∀ (is : List Nat), stepT P l tab mask s is → ∀ i, i ∈ is → ∃ o s' s2, l[i]? = some o ∧ o.guard = none ∧ X P o s s' ∧ tab.lookup (mask ||| 2 ^ i) = some s2 ∧ Le s2 s'
  | [], _, i, hi => by cases hi
  | j :: is, h, i, hi => by
    rcases List.mem_cons.1 hi with h1 | h1
    · subst h1
      obtain ⟨o, s', s2, a1, a2, a3, a4, a5, a6⟩ := h.1
      exact ⟨o, s', s2, a1, a2, a3, a4, ⟨by rw [a5]; exact Nat.le_refl _, fun t => .inr (by unfold St.get; rw [a5]), fun id e he => HasE_look s' s2.E id e a6 he⟩⟩
    · exact stepT_at is h.2 i h1
theorem tabOk_at {l : List Oper} {ms : List Nat} {tab : List (Nat × St)} {J : St → Prop} : ∀ (ps : List (Nat × St)), tabOk P l ms tab J ps → ∀ m s, ps.lookup m = some s → stepT P l tab m s (readyL ms m l.length) ∧ (m = 2 ^ l.length - 1 → J s)
  | [], _, m, s, h => by simp at h
  | (q, t) :: ps, h, m, s, hl => by
    simp only [List.lookup] at hl
    cases hq : m == q with
    | true =>
      have : m = q := by simpa using hq
      subst this
      rw [hq] at hl
      injection hl with hl
      subst hl
      exact ⟨h.1, h.2.1⟩
    | false =>
      rw [hq] at hl
      exact tabOk_at ps h.2.2 m s hl
theorem dag_any {l : List Oper} {ms : List Nat} {tab : List (Nat × St)} {J : St → Prop} {Q : Exit → Act → World → Prop} {B : Fr} {w0 : World} {ok0 : Nat → Prop} (hc : chk1 ms l.length 0 l = true) (ht : tabOk P l ms tab J tab)
    (hQ : ∀ s ok σ a w, J s → R B w0 ok0 ok σ s a w → Q .normal a w) :
    ∀ (fuel : Nat) (listed : Array Bool) (mask : Nat) (s : St) (ok : Nat → Prop) (σ : Nat → Loc) (a : Act) (w : World), listed.size = l.length → (∀ j, listed.getD j false = mask.testBit j) → (∀ j, listed.getD j false = true → ∀ m, (ms.getD j 0).testBit m = true → listed.getD m false = true) →
      left l.length (fun j => listed.getD j false) ≤ fuel → tab.lookup mask = some s → R B w0 ok0 ok σ s a w → wpAny P .any l.toArray Q fuel listed a w := by
  have full : ∀ (listed : Array Bool) (mask : Nat), listed.size = l.length → (∀ j, listed.getD j false = mask.testBit j) → (∀ j, j < l.length → listed.getD j false = true) → mask = 2 ^ l.length - 1 := by
    intro listed mask hs hm hall
    apply Nat.eq_of_testBit_eq
    intro j
    rw [Nat.testBit_two_pow_sub_one, ← hm]
    by_cases hj : j < l.length
    · rw [hall j hj]; simp [hj]
    · have : listed.getD j false = false := by
        rw [Array.getD_eq_getD_getElem?, Array.getElem?_eq_none (by omega)]
        rfl
      rw [this]
      simp [hj]
  intro fuel
  induction fuel with
  | zero =>
    intro listed mask s ok σ a w hs hm hcl hf hl hR
    have hall := left_zero (Nat.le_zero.1 hf)
    obtain ⟨_, h2⟩ := tabOk_at tab ht mask s hl
    have hnil : Region.ready .any l.toArray listed = [] := by
      rw [List.eq_nil_iff_forall_not_mem]
      intro i hi
      obtain ⟨h1, o, h3, _⟩ := (ready_iff hs i).1 hi
      have hlt : i < l.length := by
        rcases Nat.lt_or_ge i l.length with h4 | h4
        · exact h4
        · rw [List.getElem?_eq_none h4] at h3; cases h3
      rw [hall i hlt] at h1
      cases h1
    exact ⟨hnil, hQ s ok σ a w (h2 (full listed mask hs hm hall)) hR⟩
  | succ fuel ih =>
    intro listed mask s ok σ a w hs hm hcl hf hl hR
    obtain ⟨hst, h2⟩ := tabOk_at tab ht mask s hl
    refine ⟨fun hnil => ?_, fun i hi => ?_⟩
    · refine hQ s ok σ a w (h2 (full listed mask hs hm fun j hj => ?_)) hR
      cases h3 : listed.getD j false with
      | true => rfl
      | false => exact absurd hnil (some_ready hc hs j hj h3)
    · have hbits := listed_bits hc hs hi hcl
      obtain ⟨h1, o, h3, _⟩ := (ready_iff hs i).1 hi
      have hlt : i < l.length := by
        rcases Nat.lt_or_ge i l.length with h4 | h4
        · exact h4
        · rw [List.getElem?_eq_none h4] at h3; cases h3
      obtain ⟨o2, s', s2, e1, e2, e3, e4, e5⟩ := stepT_at _ hst i (readyL_mem ms mask _ i hlt (by rw [← hm]; exact h1) fun j hj => by rw [← hm]; exact hbits j hj)
      rw [h3] at e1
      injection e1 with e1
      subst e1
      have hset := set_listed listed i (by omega)
      have hleft := left_set hs hlt h1
      unfold wpOp
      rw [show l.toArray[i]? = l[i]? by simp, h3]
      simp only
      rw [if_pos (wanted_sat hR.core (.inl e2))]
      refine .inl (e3 B w0 ok0 ok σ a w hR _ Q fun a' w' ok' σ' hR' => ?_)
      refine ih (listed.setIfInBounds i true) (mask ||| 2 ^ i) s2 ok' σ' a' w' (by simpa using hs) (fun j => ?_) (fun j hj m hmm => ?_) (by omega) e4 (hR'.le e5)
      · rw [hset, Nat.testBit_or, Nat.testBit_two_pow, ← hm]
        by_cases hj : j = i
        · subst hj; simp
        · rw [if_neg hj]
          have : decide (i = j) = false := by simp; exact fun e => hj e.symm
          rw [this, Bool.or_false]
      · rw [hset] at hj ⊢
        split
        · rfl
        · by_cases hji : j = i
          · subst hji
            exact hbits m hmm
          · rw [if_neg hji] at hj
            exact hcl j hj m hmm
/-- A statement whose order is open: every state that an order passes is in the table. -/
theorem V_dag {id : Nat} {l : List Oper} {s : St} {J : Exit → St → Prop} (ms : List Nat) (tab : List (Nat × St)) (hm : P.follows .mixedOrders = true) (hc : chk1 ms l.length 0 l = true) (h0 : tab.lookup 0 = some s)
    (h : tabOk P l ms tab (J .normal) tab) : V P (.region id l.toArray true) s J := by
  intro B w0 ok0 ok σ a w hR
  refine wp_region_any hm ?_
  have hrep : ∀ j, (Array.replicate l.toArray.size false).getD j false = false := by
    intro j
    rw [Array.getD_eq_getD_getElem?, Array.getElem?_replicate]
    split <;> rfl
  refine dag_any (B := B) (w0 := w0) (ok0 := ok0) hc h (fun s' ok' σ' a' w' hJ hR' => ⟨s', ok', σ', hJ, hR'⟩) l.toArray.size _ 0 s ok σ a _ (by simp) (fun j => by rw [hrep j, Nat.zero_testBit]) (fun j hj => by rw [hrep j] at hj; cases hj) ?_ h0 hR.drew
  unfold left
  refine Nat.le_trans List.countP_le_length ?_
  simp
theorem V_dagK {id : Nat} {l : List Oper} {s s1 : St} {J : Exit → St → Prop} (m : List Bool) (ids : List Nat) (ms : List Nat) (tab : List (Nat × St)) (hm : P.follows .mixedOrders = true) (hc : chk1 ms l.length 0 l = true) (h0 : tab.lookup 0 = some s)
    (h : tabOk P l ms tab (fun s' => s'.keep m ids = s1) tab) (hj : J .normal s1) : V P (.region id l.toArray true) s J := by
  intro B w0 ok0 ok σ a w hR
  refine wp_mono (V_dag (J := fun e s' => e = .normal ∧ s'.keep m ids = s1) ms tab hm hc h0 ?_ B w0 ok0 ok σ a w hR) ?_
  · have : ∀ ps, tabOk P l ms tab (fun s' => s'.keep m ids = s1) ps → tabOk P l ms tab (fun s' => Exit.normal = .normal ∧ s'.keep m ids = s1) ps := by
      intro ps
      induction ps with
      | nil => intro _; trivial
      | cons p ps ih => intro hp; exact ⟨hp.1, fun e => ⟨rfl, hp.2.1 e⟩, ih hp.2.2⟩
    exact this tab h
  · rintro e a' w' ⟨s', ok', σ', ⟨rfl, hs⟩, hR'⟩
    subst hs
    exact ⟨_, ok', σ', hj, hR'.le (keep_le m ids s')⟩
theorem V_sdagK {id : Nat} {l : List Oper} {y : Code} {s s1 : St} {J : Exit → St → Prop} (m : List Bool) (ids : List Nat) (ms : List Nat) (tab : List (Nat × St)) (hm : P.follows .mixedOrders = true) (hc : chk1 ms l.length 0 l = true) (h0 : tab.lookup 0 = some s)
    (h : tabOk P l ms tab (fun s' => s'.keep m ids = s1) tab) (hv : V P y s1 J) : V P (.seq (.region id l.toArray true) y) s J := V_seq (V_dagK m ids ms tab hm hc h0 h hv)
theorem tab_nil {l : List Oper} {ms : List Nat} {tab : List (Nat × St)} {J : St → Prop} : tabOk P l ms tab J [] := trivial
theorem tab_row {l : List Oper} {ms : List Nat} {tab : List (Nat × St)} {J : St → Prop} {m : Nat} {s : St} {ps : List (Nat × St)} (is : List Nat) (h1 : readyL ms m l.length = is) (h3 : Nat.beq m (2 ^ l.length - 1) = false) (h2 : stepT P l tab m s is) (h4 : tabOk P l ms tab J ps) : tabOk P l ms tab J ((m, s) :: ps) :=
  ⟨(by rw [h1]; exact h2), (fun e => by rw [← e, Nat.beq_refl] at h3; cases h3), h4⟩
theorem tab_last {l : List Oper} {ms : List Nat} {tab : List (Nat × St)} {J : St → Prop} {m : Nat} {s : St} {ps : List (Nat × St)} (h1 : readyL ms m l.length = []) (h3 : J s) (h4 : tabOk P l ms tab J ps) : tabOk P l ms tab J ((m, s) :: ps) :=
  ⟨(by rw [h1]; trivial), (fun _ => h3), h4⟩
theorem step_cons {l : List Oper} {tab : List (Nat × St)} {mask : Nat} {s : St} {i : Nat} {is : List Nat} {o : Oper} {s' s2 : St} (h1 : l[i]? = some o) (h2 : o.guard = none) (h3 : X P o s s') (h4 : tab.lookup (mask ||| 2 ^ i) = some s2) (h5 : s2.T = s'.T) (h6 : HasE s' s2.E) (h : stepT P l tab mask s is) : stepT P l tab mask s (i :: is) :=
  ⟨⟨o, s', s2, h1, h2, h3, h4, h5, h6⟩, h⟩
theorem step_nil {l : List Oper} {tab : List (Nat × St)} {mask : Nat} {s : St} : stepT P l tab mask s [] := trivial
/-- A call that may write and hands nothing back. -/
theorem X_callRv {o : Oper} {s : St} {f : FuncId} {xs : Array Operand} {ts : Array TypeId} {args : List AV} {E0 E1 : List (Nat × Ent)} {av : AV} {ne E' : List (Nat × Ent)} (m : List (Nat × Nat)) (hS : CallR P f args E0 av ne E1) (hc : ∀ args w, (callFunc f args).run P w = .ok (.enter f args) w)
    (ho : o.op = .call { callee := .value (.func f), args := xs, argTypes := ts }) (hd : o.dst = none) (ha : evL s xs.toList = renL m args) (ht : noTup args = true) (hm : matchE m s E0) (hk : keysE E1 = keysE E0) (hr : renOk m E0 = true) (hp : noPin E1 = true) (hp0 : noPin E0 = true) (he : updE m s.E E1 = E') :
    X P o s (St.mk s.T E') := by
  intro B w0 ok0 ok σ a w hR K Q hK
  subst he
  have hheld : Held ok (fun k => σ (renI m k)) w E0 := by
    refine ⟨fun id e he => ?_, fun id e g he hg => ?_, fun i j e f g hi hj h1 h2 => ?_⟩
    · exact ⟨hR.core.entc _ _ (matchE_look m s E0 id e hm he), noPin_look E0 id e hp0 he⟩
    · obtain ⟨f, hf, _⟩ := entc_of (matchE_look m s E0 id e hm he)
      exact hR.core.blk _ f g hf hg
    · obtain ⟨f1, hf1, _⟩ := entc_of (matchE_look m s E0 i e hm hi)
      obtain ⟨f2, hf2, _⟩ := entc_of (matchE_look m s E0 j f hm hj)
      exact nodup_inj (renI m) _ hr i (keysE_mem E0 i e hi) j (keysE_mem E0 j f hj) (hR.core.inj _ _ _ _ _ hf1 hf2 h1 h2)
  refine wp_call hc ho (Calls.mono (hS ok (fun k => σ (renI m k)) w _ hR.core.okL hR.core.lib (ren_relA ht (ha ▸ evL_rel hR.core xs.toList)) hheld) ?_)
  rintro e w' ⟨v, ok', σ', he, hn, hE⟩
  obtain ⟨hR2, _⟩ := hR.ref hm hk hr hp hn hE
  refine ⟨v, he, ?_⟩
  rw [hd]
  exact hK _ _ _ _ hR2
end
end Go.Proofs.YtnheekadeflecaaGreat
