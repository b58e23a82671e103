/-
  Statements whose order is open: the tail.
  Conditions: none.
-/
import Derived.Test.YtnheekadeflecaaGreatShM
namespace Go.Proofs.YtnheekadeflecaaGreat
open Go.RowKit
set_option linter.unusedSimpArgs false
set_option linter.unusedVariables false

def AV.small : AV → Bool
  | .ow k => decide (k < 8)
  | .pt k _ => decide (k < 8)
  | .po k _ _ _ => decide (k < 8)
  | .vw k _ _ => decide (k < 8)
  | .sf k _ _ => decide (k < 8)
  | .tc x r => x.small && r.small
  | _ => true
theorem small_ment {x d : Nat} (h : x ≠ d) : ∀ (av : AV), av.small = true → (av.shift x).ment d = false
  | .ow k, hs => by simp [AV.small] at hs; simp [AV.shift, AV.ment]; omega
  | .pt k _, hs => by simp [AV.small] at hs; simp [AV.shift, AV.ment]; omega
  | .po k _ _ _, hs => by simp [AV.small] at hs; simp [AV.shift, AV.ment]; omega
  | .vw k _ _, hs => by simp [AV.small] at hs; simp [AV.shift, AV.ment]; omega
  | .sf k _ _, hs => by simp [AV.small] at hs; simp [AV.shift, AV.ment]; omega
  | .tc y r, hs => by
    simp only [AV.small, Bool.and_eq_true] at hs
    simp [AV.shift, AV.ment, small_ment h y hs.1, small_ment h r hs.2]
  | .bot, _ => rfl
  | .c _, _ => rfl
  | .ag _, _ => rfl
  | .pe _, _ => rfl
  | .fn _ _, _ => rfl
  | .er _, _ => rfl
  | .tn, _ => rfl

section
variable (P : Program)
def gsat (ops : Array Oper) (o : Oper) (S : St) : Prop := o.guard = none ∨ ∃ j b t, o.guard = some (j, b) ∧ (ops[j]?).bind (·.dst) = some t ∧ S.get t = .c (.v (.bool b))
def gun (ops : Array Oper) (o : Oper) (S : St) : Prop := ∃ j b t, o.guard = some (j, b) ∧ (ops[j]?).bind (·.dst) = some t ∧ ((∃ c, S.get t = .c (.v (.bool c)) ∧ c ≠ b) ∨ S.get t = .tn)
def StepR (ops : Array Oper) (o : Oper) (S : St) (ms : List Nat) (l1 : List Oper) (j : Nat) : Res → Prop
  | .r0 av => (gsat ops o S ∧ Y0 P o S av ∧ mentOk ms j av 0 l1 = true) ∨ (gun ops o S ∧ av = .tn)
  | .r1 av ne => gsat ops o S ∧ Y1 P o S av ne ∧ keys8 ne = true ∧ makes o = true ∧ av.small = true
  | .rb => gun ops o S
  | .r2 id e => gsat ops o S ∧ ∀ A, Le S A → X P o A ⟨A.T, setE id e A.E⟩
def W2 (l1 : List Oper) (ms : List Nat) (css : List (List Cd)) (rs : List Res) (j : Nat) (o : Oper) : Res → Prop
  | .r2 id _ => o.dst = none ∧ colOk j id css = true ∧ mkOk ms j id 0 l1 = true ∧ ∀ i, i < j → ∀ e', rs[i]? ≠ some (.r2 id e')
  | _ => ∃ d, o.dst = some d
def Dst (l1 : List Oper) (ops : Array Oper) (ms : List Nat) (css : List (List Cd)) (s0 : St) (rs : List Res) (j : Nat) : Prop :=
  ∃ o r c, l1[j]? = some o ∧ rs[j]? = some r ∧ css[j]? = some c ∧ StepR P ops o (appC c l1 rs s0) ms l1 j r ∧ W2 l1 ms css rs j o r
variable {P}

theorem yield_of {ok : Nat → Prop} {σ : Nat → Loc} {s : St} {a : Act} {w : World} (h : Core ok σ s a w) {ops : Array Oper} {j t : Nat} {b : Bool} (ht : (ops[j]?).bind (·.dst) = some t) (hb : s.get t = .c (.v (.bool b))) : yielded ops a.tmps j = some b := by
  have h1 := h.tmp t
  rw [hb] at h1
  have h2 : a.tmps.getD t undef = .bool b := by
    have h3 : Rd ok w (.v (.bool b)) (a.tmps.getD t undef) := h1
    generalize a.tmps.getD t undef = y at *
    cases h3
    rfl
  have h4 : a.tmps[t]? = some (.bool b) := by
    rw [Array.getD_eq_getD_getElem?] at h2
    cases h5 : a.tmps[t]? with
    | none => rw [h5] at h2; simp [undef] at h2
    | some y => rw [h5] at h2; simpa using h2
  simp only [yielded, ht, Option.bind_some, h4]
theorem wanted_sat {ok : Nat → Prop} {σ : Nat → Loc} {s : St} {a : Act} {w : World} (h : Core ok σ s a w) {ops : Array Oper} {o : Oper} (hg : gsat ops o s) : Region.wanted o (yielded ops a.tmps) = true := by
  rcases hg with hg | ⟨j, b, t, hg, ht, hb⟩
  · simp [Region.wanted, hg]
  · simp [Region.wanted, hg, yield_of h ht hb]
theorem wanted_un {ok : Nat → Prop} {σ : Nat → Loc} {s : St} {a : Act} {w : World} (h : Core ok σ s a w) {ops : Array Oper} {o : Oper} (hg : gun ops o s) : Region.wanted o (yielded ops a.tmps) = false := by
  obtain ⟨j, b, t, hg, ht, ⟨c, hb, hne⟩ | hb⟩ := hg
  · simp [Region.wanted, hg, yield_of h ht hb, hne]
  · have h1 := h.tmp t
    rw [hb] at h1
    obtain ⟨vs, h2, _⟩ := h1
    have h4 : a.tmps[t]? = some (.tuple vs) ∨ a.tmps[t]? = none := by
      rw [Array.getD_eq_getD_getElem?] at h2
      cases h5 : a.tmps[t]? with
      | none => exact .inr rfl
      | some y => rw [h5] at h2; exact .inl (by simpa using h2)
    rcases h4 with h4 | h4 <;> simp [Region.wanted, hg, yielded, ht, h4]

theorem mask_lt {l : List Oper} {ms : List Nat} {n1 : Nat} (hchk : chk1 ms n1 0 l = true) : ∀ (i : Nat), i < l.length → ∀ k, (ms.getD i 0).testBit k = true → k < i := by
  intro i
  induction i using Nat.strongRecOn with
  | _ i ih =>
    intro hi k hk
    have ho : l[i]? = some l[i] := List.getElem?_eq_getElem hi
    obtain ⟨h1, h2, _⟩ := chk1_at ms n1 l 0 hchk i _ ho
    rw [Nat.zero_add] at h1 h2
    rw [h1] at hk
    obtain ⟨e, h3, h4, h5⟩ := maskE_bit ms k _ hk
    have h6 := lowE_lt i _ h2 e h3 h4
    rcases h5 with h5 | h5
    · omega
    · have := ih e.on h6 (by omega) k h5
      omega
/-- How many operations are still to come. -/
def left (n : Nat) (L : Nat → Bool) : Nat := (List.range n).countP fun i => !L i
theorem countP_lt {p q : Nat → Bool} : ∀ (l : List Nat), (∀ x, q x = true → p x = true) → ∀ i, i ∈ l → p i = true → q i = false → l.countP q < l.countP p
  | [], _, i, h, _, _ => by cases h
  | x :: xs, hpq, i, h, hp, hq => by
    rw [List.countP_cons, List.countP_cons]
    have hle : xs.countP q ≤ xs.countP p := List.countP_mono_left fun y _ => hpq y
    cases h with
    | head =>
      rw [hp, hq]
      simp
      omega
    | tail _ h =>
      have := countP_lt xs hpq i h hp hq
      cases hqx : q x with
      | true => rw [hpq x hqx]; simp; exact this
      | false => simp; omega
theorem left_zero {n : Nat} {L : Nat → Bool} (h : left n L = 0) : ∀ i, i < n → L i = true := by
  intro i hi
  unfold left at h
  rw [List.countP_eq_zero] at h
  have := h i (List.mem_range.2 hi)
  simpa using this
theorem set_listed (listed : Array Bool) (i : Nat) (hi : i < listed.size) (j : Nat) : (listed.setIfInBounds i true).getD j false = if j = i then true else listed.getD j false := by
  simp only [Array.getD_eq_getD_getElem?, Array.getElem?_setIfInBounds]
  by_cases h : i = j
  · subst h; simp [hi]
  · simp [h, Ne.symm h]
theorem left_set {n i : Nat} {listed : Array Bool} (hs : listed.size = n) (hi : i < n) (h0 : listed.getD i false = false) : left n (fun j => (listed.setIfInBounds i true).getD j false) < left n (fun j => listed.getD j false) := by
  refine countP_lt _ (fun x hx => ?_) i (List.mem_range.2 hi) (by simp only [h0]; rfl) ?_
  · simp only [Bool.not_eq_true'] at hx ⊢
    rw [set_listed listed i (by omega)] at hx
    split at hx
    · cases hx
    · exact hx
  · simp only
    rw [set_listed listed i (by omega)]
    simp
theorem ready_iff {l : List Oper} {listed : Array Bool} (hs : listed.size = l.length) (i : Nat) : i ∈ Region.ready .any l.toArray listed ↔ listed.getD i false = false ∧ ∃ o, l[i]? = some o ∧ ∀ e, e ∈ o.after.toList → Region.binds .any e = true → listed.getD e.on false = true := by
  rw [mem_ready]
  constructor
  · rintro ⟨h1, o, h2, h3⟩
    have hlt : i < l.length := by
      rcases Nat.lt_or_ge i l.length with h | h
      · exact h
      · rw [show l.toArray[i]? = l[i]? by simp, List.getElem?_eq_none h] at h2; cases h2
    refine ⟨?_, o, by simpa using h2, fun e he hb => h3 e (by simpa using he) hb⟩
    rw [Array.getD_eq_getD_getElem?] at h1 ⊢
    have h4 : listed[i]? = some listed[i] := Array.getElem?_eq_getElem (by omega)
    rw [h4] at h1 ⊢
    exact h1
  · rintro ⟨h1, o, h2, h3⟩
    have hlt : i < l.length := by
      rcases Nat.lt_or_ge i l.length with h | h
      · exact h
      · rw [List.getElem?_eq_none h] at h2; cases h2
    refine ⟨?_, o, by simpa using h2, fun e he hb => h3 e (by simpa using he) hb⟩
    rw [Array.getD_eq_getD_getElem?] at h1 ⊢
    have h4 : listed[i]? = some listed[i] := Array.getElem?_eq_getElem (by omega)
    rw [h4] at h1 ⊢
    exact h1

section
variable {l : List Oper} {ms : List Nat} {n1 : Nat} {Q : Exit → Act → World → Prop}
theorem listed_bits (hchk : chk1 ms n1 0 l = true) {listed : Array Bool} (hs : listed.size = l.length) {i : Nat} (hi : i ∈ Region.ready .any l.toArray listed) (hcl : ∀ j, listed.getD j false = true → ∀ k, (ms.getD j 0).testBit k = true → listed.getD k false = true) :
    ∀ k, (ms.getD i 0).testBit k = true → listed.getD k false = true := by
  intro k hk
  obtain ⟨_, o, ho, he⟩ := (ready_iff hs i).1 hi
  have h1 := (chk1_at ms n1 l 0 hchk i o ho).1
  rw [Nat.zero_add] at h1
  rw [h1] at hk
  obtain ⟨e, h2, h3, h4⟩ := maskE_bit ms k _ hk
  rcases h4 with h4 | h4
  · rw [← h4]; exact he e h2 h3
  · exact hcl e.on (he e h2 h3) k h4
theorem some_ready (hchk : chk1 ms n1 0 l = true) {listed : Array Bool} (hs : listed.size = l.length) : ∀ (i : Nat), i < l.length → listed.getD i false = false → Region.ready .any l.toArray listed ≠ [] := by
  intro i
  induction i using Nat.strongRecOn with
  | _ i ih =>
    intro hi hl hnil
    have ho : l[i]? = some l[i] := List.getElem?_eq_getElem hi
    have hlow := (chk1_at ms n1 l 0 hchk i _ ho).2.1
    rw [Nat.zero_add] at hlow
    by_cases hall : ∀ e, e ∈ l[i].after.toList → Region.binds .any e = true → listed.getD e.on false = true
    · have : i ∈ Region.ready .any l.toArray listed := (ready_iff hs i).2 ⟨hl, _, ho, hall⟩
      rw [hnil] at this
      cases this
    · obtain ⟨e, h1⟩ := Classical.not_forall.1 hall
      have he : e ∈ l[i].after.toList ∧ Region.binds .any e = true ∧ ¬ listed.getD e.on false = true := by
        refine ⟨?_, ?_, ?_⟩
        · exact Classical.byContradiction fun h => h1 fun h2 => absurd h2 h
        · exact Classical.byContradiction fun h => h1 fun _ h2 => absurd h2 h
        · exact fun h => h1 fun _ _ => h
      have hlt := lowE_lt i _ hlow e he.1 he.2.1
      exact ih e.on hlt (by omega) (by simpa using he.2.2) hnil
/-- The tail: one after the other. -/
theorem tail_any (hchk : chk1 ms n1 0 l = true) : ∀ (fuel k : Nat) (listed : Array Bool) (a : Act) (w : World), n1 ≤ k → listed.size = l.length → (∀ j, listed.getD j false = true ↔ j < k ∧ j < l.length) → (∀ j, listed.getD j false = true → ∀ m, (ms.getD j 0).testBit m = true → listed.getD m false = true) → l.length ≤ k + fuel →
    wpList P l.toArray Q (l.drop k) a w → wpAny P .any l.toArray Q fuel listed a w := by
  intro fuel
  induction fuel with
  | zero =>
    intro k listed a w hk hs hL hcl hf h
    have hnil : Region.ready .any l.toArray listed = [] := by
      rw [List.eq_nil_iff_forall_not_mem]
      intro i hi
      obtain ⟨h1, o, h2, _⟩ := (ready_iff hs i).1 hi
      have hlt : i < l.length := by
        rcases Nat.lt_or_ge i l.length with h3 | h3
        · exact h3
        · rw [List.getElem?_eq_none h3] at h2; cases h2
      have := (hL i).2 ⟨by omega, hlt⟩
      rw [this] at h1
      cases h1
    rw [List.drop_eq_nil_of_le (by omega)] at h
    exact ⟨hnil, h⟩
  | succ fuel ih =>
    intro k listed a w hk hs hL hcl hf h
    refine ⟨fun hnil => ?_, fun i hi => ?_⟩
    · have hge : l.length ≤ k := by
        rcases Nat.lt_or_ge k l.length with h1 | h1
        · exfalso
          refine some_ready hchk hs k h1 ?_ hnil
          cases h2 : listed.getD k false with
          | false => rfl
          | true => have := ((hL k).1 h2).1; omega
        · exact h1
      rw [List.drop_eq_nil_of_le hge] at h
      exact h
    · have hbits := listed_bits hchk hs hi hcl
      obtain ⟨h1, o, h2, h3⟩ := (ready_iff hs i).1 hi
      have hlt : i < l.length := by
        rcases Nat.lt_or_ge i l.length with h4 | h4
        · exact h4
        · rw [List.getElem?_eq_none h4] at h2; cases h2
      have hki : k ≤ i := by
        rcases Nat.lt_or_ge i k with h4 | h4
        · have := (hL i).2 ⟨h4, hlt⟩
          rw [this] at h1
          cases h1
        · exact h4
      have hik : i = k := by
        rcases (chk1_at ms n1 l 0 hchk i o h2).2.2 with h4 | h4
        · omega
        · rw [Nat.zero_add] at h4
          rcases Nat.lt_or_ge k i with h5 | h5
          · have := hbits k (allBelow_bit _ _ _ h4 h5)
            have := ((hL k).1 this).1
            omega
          · omega
      subst hik
      have hd : l.drop i = o :: l.drop (i + 1) := by
        rw [List.drop_eq_getElem_cons hlt]
        congr 1
        rw [List.getElem?_eq_getElem hlt] at h2
        simpa using h2
      rw [hd] at h
      have hset := set_listed listed i (by omega)
      have hL' : ∀ j, (listed.setIfInBounds i true).getD j false = true ↔ j < i + 1 ∧ j < l.length := by
        intro j
        rw [hset]
        by_cases hj : j = i
        · simp [hj, hlt]
        · rw [if_neg hj, hL]
          constructor <;> intro h <;> exact ⟨by omega, h.2⟩
      have hcl' : ∀ j, (listed.setIfInBounds i true).getD j false = true → ∀ m, (ms.getD j 0).testBit m = true → (listed.setIfInBounds i true).getD m false = true := by
        intro j hj m hm
        rw [hset] at hj ⊢
        split
        · rfl
        · by_cases hji : j = i
          · subst hji
            exact hbits m hm
          · rw [if_neg hji] at hj
            exact hcl j hj m hm
      have next := fun a w hh => ih (i + 1) (listed.setIfInBounds i true) a w (by omega) (by simpa using hs) hL' hcl' (by omega) hh
      unfold wpOp
      rw [show l.toArray[i]? = l[i]? by simp, h2]
      simp only [wpList] at h
      simp only
      split
      · rename_i hw
        rw [if_pos hw] at h
        exact h.imp (Oper.wp_mono next) id
      · rename_i hw
        rw [if_neg hw] at h
        exact next _ _ h
end
end
end Go.Proofs.YtnheekadeflecaaGreat
