/-
  Rules for a row of statements.
  Conditions: none.
-/
import Derived.Test.YtnheekadeflecaaGreatShR
import Derived.Great.BuildSlice
namespace Go.Proofs.YtnheekadeflecaaGreat
open Go.RowKit
set_option linter.unusedSimpArgs false
set_option linter.unusedVariables false

section
variable {P : Program}
theorem XL_mono {ops : Array Oper} {rest : List Oper} {s : St} {J J' : St → Prop} (h : XL P ops rest s J) (hJ : ∀ s', J s' → J' s') : XL P ops rest s J' :=
  fun _ _ _ _ _ _ _ hR Q hQ => h _ _ _ _ _ _ _ hR Q fun s' a' w' ok' σ' hs hR' => hQ s' a' w' ok' σ' (hJ s' hs) hR'
theorem XL_split {ops : Array Oper} {rest : List Oper} {s : St} {J : St → Prop} (c : Bool) (h1 : c = true → XL P ops rest s J) (h2 : c = false → XL P ops rest s J) : XL P ops rest s J := by
  cases c with
  | true => exact h1 rfl
  | false => exact h2 rfl
theorem XL_keep {ops : Array Oper} {rest : List Oper} {s s1 : St} {J : St → Prop} (m : List Bool) (ids : List Nat) (h : XL P ops rest s (fun s' => s'.keep m ids = s1)) (hj : J s1) : XL P ops rest s J := by
  intro B w0 ok0 ok σ a w hR Q hQ
  refine h _ _ _ _ _ _ _ hR Q fun s' a' w' ok' σ' hs hR' => ?_
  subst hs
  exact hQ _ a' w' ok' σ' hj (hR'.le (keep_le m ids s'))
/-- A statement, and the state behind it, by name. -/
theorem V_reg {id : Nat} {ops : Array Oper} {s s1 : St} {J : Exit → St → Prop} (m : List Bool) (ids : List Nat) (h : XL P ops ops.toList s (fun s' => s'.keep m ids = s1)) (hj : J .normal s1) : V P (.region id ops false) s J := V_region (XL_keep m ids h hj)
theorem V_sreg {id : Nat} {ops : Array Oper} {y : Code} {s s1 : St} {J : Exit → St → Prop} (m : List Bool) (ids : List Nat) (h : XL P ops ops.toList s (fun s' => s'.keep m ids = s1)) (hv : V P y s1 J) : V P (.seq (.region id ops false) y) s J := V_seq (V_reg m ids h hv)
/-- A row of its own that nobody writes any more. -/
def frz1 (id : Nat) (t : AV) : AV → AV
  | .ow k => bif k == id then t else .ow k
  | .pt k o => bif k == id then .bot else .pt k o
  | .po k z i o => bif k == id then .bot else .po k z i o
  | .tc _ _ => .bot
  | av => av
def St.frz (s : St) (id : Nat) (els : List (List Tr)) : St := ⟨s.T.map (frz1 id (.c (.sl els))), rmE id s.E⟩
theorem frz_get (s : St) (id : Nat) (els : List (List Tr)) (t : Nat) : (s.frz id els).get t = frz1 id (.c (.sl els)) (s.get t) := by
  unfold St.frz St.get
  simp only [List.getElem?_map]
  cases s.T[t]? <;> rfl
theorem frz_ent (s : St) (id : Nat) (els : List (List Tr)) (j : Nat) (e : Ent) (h : (s.frz id els).ent j = some e) : j ≠ id ∧ s.ent j = some e := by
  have h2 : (rmE id s.E).lookup j = some e := h
  rw [rmE_look] at h2
  split at h2
  · cases h2
  · rename_i hne
    exact ⟨hne, h2⟩
theorem R_frz {B : Fr} {w0 : World} {ok0 ok : Nat → Prop} {σ : Nat → Loc} {s : St} {a : Act} {w : World} (hR : R B w0 ok0 ok σ s a w) (id : Nat) {T sz : Nat} {els : List (List Tr)} (he : s.ent id = some (.arr T sz els)) : R B w0 ok0 (fun g => ok g ∨ (σ id).blk = some g) σ (s.frz id els) a w := by
  have hup : ∀ g, ok g → ok g ∨ (σ id).blk = some g := fun g hg => .inl hg
  refine ⟨⟨by simpa [St.frz] using hR.core.len, fun g hg => ?_, hR.core.lib.mono hup (fun _ _ => rfl), fun t => ?_, fun j e hj => ?_, fun j e g hj hg => ?_, fun i j e f g hi hj h1 h2 => ?_⟩, hR.defers, hR.below, hR.base, fun g hg => .inl (hR.old g hg), fun g hg => ?_, fun j e g hj hg => hR.own j e g (frz_ent s id els j e hj).2 hg⟩
  · rcases hg with hg | hg
    · exact hR.core.okL g hg
    · exact (hR.core.blk id _ g he hg).2
  · rw [frz_get]
    have h1 := hR.core.tmp t
    generalize s.get t = av at h1
    have same : Rel (fun g => ok g ∨ (σ id).blk = some g) σ w av (a.tmps.getD t undef) := h1.mono0 hup fun _ _ => rfl
    cases av with
    | ow k =>
      simp only [frz1]
      cases hk : k == id with
      | false => exact same
      | true =>
        have e1 : k = id := by simpa using hk
        subst e1
        have hle : Le ⟨s.T, [(k, .arr T sz els)]⟩ s := ⟨Nat.le_refl _, fun t => .inr rfl, fun j e hj => by
          unfold St.ent at hj
          simp only [List.lookup] at hj
          split at hj
          · rename_i hjk
            have : j = k := by simpa using hjk
            subst this
            injection hj with hj
            subst hj
            exact he
          · cases hj⟩
        have h2 := snap_rel (hR.le hle).core h1
        have e2 : snapA ⟨s.T, [(k, .arr T sz els)]⟩ (.ow k) = .c (.sl els) := by
          simp [snapA, St.entc, St.ent, List.lookup, Ent.core]
        rw [e2] at h2
        refine h2.mono0 (fun g hg => ?_) fun _ _ => rfl
        rcases hg with hg | ⟨j, e, hj, hg⟩
        · exact .inl hg
        · refine .inr ?_
          unfold St.ent at hj
          simp only [List.lookup] at hj
          split at hj
          · rename_i hjk
            have : j = k := by simpa using hjk
            subst this
            exact hg
          · cases hj
    | pt k o =>
      simp only [frz1]
      cases k == id with
      | false => exact same
      | true => exact trivial
    | po k z i o =>
      simp only [frz1]
      cases k == id with
      | false => exact same
      | true => exact trivial
    | tc x r => exact trivial
    | tn => exact same
    | bot => exact same
    | c t => exact same
    | ag cs => exact same
    | pe cs => exact same
    | fn f caps => exact same
    | er b => exact same
    | vw id els m => exact same
    | sf id z i => exact same
  · obtain ⟨_, h2⟩ := frz_ent s id els j e hj
    exact (hR.core.ent j e h2).mono hup (fun _ _ => rfl) fun _ _ => rfl
  · obtain ⟨h1, h2⟩ := frz_ent s id els j e hj
    obtain ⟨h3, h4⟩ := hR.core.blk j e g h2 hg
    refine ⟨fun h5 => ?_, h4⟩
    rcases h5 with h5 | h5
    · exact h3 h5
    · exact h1 (hR.core.inj _ _ _ _ _ h2 he hg h5)
  · exact hR.core.inj i j e f g (frz_ent s id els i e hi).2 (frz_ent s id els j f hj).2 h1 h2
  · rcases hg with hg | hg
    · exact hR.fresh g hg
    · exact .inr (hR.own id _ g he hg)
theorem V_freeze {c : Code} {s s1 : St} {J : Exit → St → Prop} (id : Nat) {T sz : Nat} {els : List (List Tr)} (he : s.ent id = some (.arr T sz els)) (hs : s.frz id els = s1) (h : V P c s1 J) : V P c s J := by
  subst hs
  exact fun _ _ _ _ _ _ _ hR => h _ _ _ _ _ _ _ (R_frz hR id he)
/-- What a piece of code has made is frozen behind it. -/
theorem V_post_frz {c : Code} {s s1 s2 : St} {J : Exit → St → Prop} (id : Nat) {T sz : Nat} {els : List (List Tr)} (he : s1.ent id = some (.arr T sz els)) (hs : s1.frz id els = s2) (h : V P c s (fun e s' => e = .normal ∧ s' = s1)) (hJ : J .normal s2) : V P c s J := by
  subst hs
  intro B w0 ok0 ok σ a w hR
  refine wp_mono (h B w0 ok0 ok σ a w hR) ?_
  rintro e a' w' ⟨s', ok', σ', ⟨rfl, rfl⟩, hR'⟩
  exact ⟨_, _, σ', hJ, R_frz hR' id he⟩
/-- A row that nobody writes any more, between two operations. -/
theorem XL_freeze {ops : Array Oper} {rest : List Oper} {s s1 : St} {J : St → Prop} (id : Nat) {T sz : Nat} {els : List (List Tr)} (he : s.ent id = some (.arr T sz els)) (hs : s.frz id els = s1) (h : XL P ops rest s1 J) : XL P ops rest s J := by
  subst hs
  exact fun _ _ _ _ _ _ _ hR Q hQ => h _ _ _ _ _ _ _ (R_frz hR id he) Q hQ
theorem DL_mono {l : List Oper} {ms : List Nat} {n1 : Nat} {css : List (List Cd)} {s0 : St} {rs : List Res} {K K' : St → Prop} (h : DL P l ms n1 css s0 rs K) (hK : ∀ s, K s → K' s) : DL P l ms n1 css s0 rs K' := by
  intro hchk
  obtain ⟨more, h1, h2, h3⟩ := h hchk
  exact ⟨more, h1, h2, hK _ h3⟩
theorem V_dreg {id : Nat} {l : List Oper} {s s1 : St} {J : Exit → St → Prop} (ms : List Nat) (n1 : Nat) (css : List (List Cd)) (m : List Bool) (ids : List Nat) (hm : P.follows .mixedOrders = true) (hchk : drawOk l ms n1 css = true)
    (h : DL P l ms n1 css (prep (l.take n1) s) [] (fun s' => XL P l.toArray (l.drop n1) s' (fun s'' => s''.keep m ids = s1))) (hj : J .normal s1) : V P (.region id l.toArray true) s J :=
  V_draw ms n1 css hm hchk (DL_mono h fun s' hs => XL_keep m ids hs hj)
theorem V_sdreg {id : Nat} {l : List Oper} {y : Code} {s s1 : St} {J : Exit → St → Prop} (ms : List Nat) (n1 : Nat) (css : List (List Cd)) (m : List Bool) (ids : List Nat) (hm : P.follows .mixedOrders = true) (hchk : drawOk l ms n1 css = true)
    (h : DL P l ms n1 css (prep (l.take n1) s) [] (fun s' => XL P l.toArray (l.drop n1) s' (fun s'' => s''.keep m ids = s1))) (hv : V P y s1 J) : V P (.seq (.region id l.toArray true) y) s J := V_seq (V_dreg ms n1 css m ids hm hchk h hv)
theorem Y0_pick1 {o : Oper} {s : St} {c x y : Operand} {b p q : Bool} (ho : o.op = .pick c x y) (hc : s.ev c = .c (.v (.bool b))) (hb : b = true) (hx : s.ev x = .c (.v (.bool p))) : Y0 P o s (Bo (bif b then p else q)) := by
  subst hb
  have h := Y0_pick (P := P) ho hc
  rw [cond_true, hx] at h
  exact h
theorem Y0_pick0 {o : Oper} {s : St} {c x y : Operand} {b p q : Bool} (ho : o.op = .pick c x y) (hc : s.ev c = .c (.v (.bool b))) (hb : b = false) (hy : s.ev y = .c (.v (.bool q))) : Y0 P o s (Bo (bif b then p else q)) := by
  subst hb
  have h := Y0_pick (P := P) ho hc
  rw [cond_false, hy] at h
  exact h
theorem Y0_pickT {o : Oper} {s : St} {c x y : Operand} {b : Bool} (ho : o.op = .pick c x y) (hc : s.ev c = .c (.v (.bool b))) (hb : b = true) : Y0 P o s (s.ev x) := by
  subst hb
  exact Y0_pickt ho hc
theorem Y0_pickF {o : Oper} {s : St} {c x y : Operand} {b : Bool} (ho : o.op = .pick c x y) (hc : s.ev c = .c (.v (.bool b))) (hb : b = false) : Y0 P o s (s.ev y) := by
  subst hb
  exact Y0_pickf ho hc

/-! ### Slices written out -/
theorem madeCells_one {z : Array Value} (hz : cellsAll z = true) (n : Nat) : (madeCells z n).toList.all Value.oneCell' = true := by
  unfold madeCells
  rw [List.all_eq_true]
  intro x hx
  simp only [Array.toList_map, List.mem_map] at hx
  obtain ⟨k, _, rfl⟩ := hx
  rcases Nat.lt_or_ge (k % z.size) z.size with h | h
  · rw [getElem!_pos z _ h]
    exact (List.all_eq_true.1 hz) _ (by simp)
  · rw [getElem!_neg z _ (by omega)]
    rfl
def partsEls : Nat → List (Nat × AV) → Option (List (List Tr))
  | _, [] => some []
  | k, (i, av) :: r => bif Nat.beq i k then (match avCells av, partsEls (k + 1) r with
    | some cs, some es => some (cs :: es)
    | _, _ => none) else none
theorem fill_parts (sz : Nat) : ∀ (ps : List (Nat × AV)) (k : Nat) (els : List (List Tr)) (pre post : List Tr), partsEls k ps = some els → (∀ e, e ∈ els → e.length = sz) → pre.length = k * sz → post.length = els.length * sz → fillT (fun i => some (i * sz, sz)) (pre ++ post) ps = some (pre ++ els.flatten)
  | [], k, els, pre, post, h, hs, h1, h2 => by
    simp only [partsEls] at h
    injection h with h
    subst h
    have : post = [] := List.eq_nil_of_length_eq_zero (by simpa using h2)
    subst this
    rfl
  | (i, av) :: r, k, els, pre, post, h, hs, h1, h2 => by
    simp only [partsEls] at h
    cases hb : Nat.beq i k with
    | false => rw [hb] at h; cases h
    | true =>
      have hik : i = k := Nat.eq_of_beq_eq_true hb
      subst hik
      rw [hb] at h
      simp only [cond_true] at h
      split at h
      · rename_i cs es hc he
        injection h with h
        subst h
        have hl : cs.length = sz := hs cs (by simp)
        simp only [List.length_cons, Nat.add_mul, Nat.one_mul] at h2
        simp only [fillT, hc]
        rw [if_neg (by simp only [List.length_append]; omega)]
        have e : splice (pre ++ post) (i * sz) cs = (pre ++ cs) ++ post.drop sz := by
          unfold splice
          rw [← h1, List.take_left, hl, List.drop_append, List.drop_eq_nil_of_le (by omega)]
          rw [show pre.length + sz - pre.length = sz by omega]
          simp
        rw [e, fill_parts sz r (i + 1) es (pre ++ cs) (post.drop sz) he (fun x hx => hs x (by simp [hx])) (by simp [hl, h1, Nat.add_mul]) (by simp; omega)]
        simp
      · cases h
theorem Y1_bslice {o : Oper} {s : St} {t e sz n : Nat} {z : Value} {parts : Array (Nat × Operand)} {els : List (List Tr)} (ht : P.underlying t = some (.slice e)) (hi : (P.info? e).map (fun i => (i.zero, i.size)) = some (some z, sz)) (hz : cellsAll z.cells = true) (hsz : 0 < sz) (ho : o.op = .buildSlice t n parts)
    (hp : partsEls 0 (evP s parts.toList) = some els) (hn : els.length = n) (hs : ∀ e, e ∈ els → e.length = sz) (hmax : n * sz ≤ 16777216) (hpos : 0 < n) : Y1 P o s (.ow 0) [(0, .arr e sz els)] :=
  Y1_of_run fun ok σ a w hC => by
    cases hii : P.info? e with
    | none => rw [hii] at hi; simp at hi
    | some i =>
      have hi2 : i.zero = some z ∧ i.size = sz := by rw [hii] at hi; simpa using hi
      have hzall := madeCells_one hz (n * sz)
      have hzl : (madeCells z.cells (n * sz)).toList.length = n * sz := by
        rw [Array.length_toList]
        exact size_madeCells _ _
      have hf := fill_parts sz (evP s parts.toList) 0 els [] ((madeCells z.cells (n * sz)).toList.map Tr.v) hp hs (by simp) (by simp only [List.length_map, hzl, hn])
      obtain ⟨arr, h1, h2⟩ := fillT_rel (fun i => some (i * sz, sz)) (evP_rel hC parts.toList) _ (madeCells z.cells (n * sz)) _ (RdL_v ok w _ hzall) (by simpa using hf)
      have h3 : arr.size = els.length * sz := by
        have := h2.len
        rw [flatten_len els sz hs] at this
        simpa using this.symm
      have hml : els.length ≤ maxLen := by
        have : n ≤ n * sz := Nat.le_mul_of_pos_right n hsz
        unfold maxLen
        omega
      have hpos2 : ¬ n * sz = 0 := by
        have := Nat.mul_pos hpos hsz
        omega
      have hrun := run_buildSlice (P := P) w t e n (parts.map fun (i, x) => (i, a.eval x)) arr i z ht hii hi2.1 (by rw [hi2.2]; omega) (by rw [hi2.2]; exact hpos2) (by
        rw [hi2.2, Array.toList_map]
        exact h1)
      have hnew := New_arr (ok := ok) (w := w) hC.okL e sz hsz hs hml h2 h3
      rw [hn] at hnew
      refine ⟨_, _, _, ?_, hnew⟩
      unfold execOp
      rw [ho]
      simp only [Sem.run_bind, hrun, Result.andThen_ok, Sem.run_pure]
theorem Y1_bslice0 {o : Oper} {s : St} {t e sz : Nat} {parts : Array (Nat × Operand)} (ht : P.underlying t = some (.slice e)) (hi : (P.info? e).map (·.size) = some sz) (hsz : 0 < sz) (ho : o.op = .buildSlice t 0 parts) (hp : parts = #[]) : Y1 P o s (.ow 0) [(0, .arr e sz [])] :=
  Y1_of_run fun ok σ a w hC => by
    subst hp
    cases hii : P.info? e with
    | none => rw [hii] at hi; simp at hi
    | some i =>
      have hi2 : i.size = sz := by rw [hii] at hi; simpa using hi
      refine ⟨_, _, _, ?_, New_arr (ok := ok) (w := w) (els := []) (arr := #[]) hC.okL e sz hsz (by intro el h; cases h) (Nat.zero_le _) RdL.nil (by simp)⟩
      unfold execOp
      rw [ho]
      simp [Instr.buildSlice, run_underlying ht, sizeOf, typeInfo, hii, Instr.fill, newRow]
      congr 2
      exact Array.eq_empty_of_size_eq_zero (by simp)
end
end Go.Proofs.YtnheekadeflecaaGreat
