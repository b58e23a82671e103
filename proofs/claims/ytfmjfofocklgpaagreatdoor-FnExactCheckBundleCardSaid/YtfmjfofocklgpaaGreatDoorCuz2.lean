/-
  Rules of walks, plain functions and their laws, part 2.
  Conditions: none.
-/
import Derived.Great.BuildSlice
import Derived.Lib.ItoaNum
import Derived.Lib.Join
import Derived.Laws.BytesString
import Derived.Laws.Strings2
import Derived.Laws.Slices
import Derived.Lib.SplitLaws
import Derived.Lib.FieldsP
import Derived.Lib.CutLaws
import Derived.Lib.AtoiAllCases
import Derived.Laws.Externs
import Derived.Lib.AtoiTie
import Derived.Test.YtfmjfofocklgpaaGreatDoorCuz1
namespace Go.Proofs.YtfmjfofocklgpaaGreatDoor
open Go.RowKit
set_option linter.unusedSimpArgs false
set_option linter.unusedVariables false
section
variable {P : Program}
theorem zJ {ops : Array Oper} {rest : List Oper} {s : St} {J : St → Prop} (c : Bool) (h1 : c = true → XL P ops rest s J) (h2 : c = false → XL P ops rest s J) : XL P ops rest s J := by
  cases c with
  | true => exact h1 rfl
  | false => exact h2 rfl
theorem XL_keep {ops : Array Oper} {rest : List Oper} {s s1 : St} {J : St → Prop} (m : List Bool) (ids : List Nat) (h : XL P ops rest s (fun s' => s'.keep m ids = s1)) (hj : J s1) : XL P ops rest s J := by
  intro B w0 ok0 ok σ a w hR Q hQ
  refine h _ _ _ _ _ _ _ hR Q fun s' a' w' ok' σ' hs hR' => ?_
  subst hs
  exact hQ _ a' w' ok' σ' hj (hR'.le (keep_le m ids s'))
/-- A statement, and the state behind it, by name. -/
theorem V_reg {id : Nat} {ops : Array Oper} {s s1 : St} {J : Exit → St → Prop} (m : List Bool) (ids : List Nat) (h : XL P ops ops.toList s (fun s' => s'.keep m ids = s1)) (hj : J .normal s1) : V P (.region id ops false) s J := zW (XL_keep m ids h hj)
theorem zO {id : Nat} {ops : Array Oper} {y : Code} {s s1 : St} {J : Exit → St → Prop} (m : List Bool) (ids : List Nat) (h : XL P ops ops.toList s (fun s' => s'.keep m ids = s1)) (hv : V P y s1 J) : V P (.seq (.region id ops false) y) s J := zF (V_reg m ids h hv)
/-- A row of its own that nobody writes any more. -/
def frz1 (id : Nat) (t : AV) : AV → AV
  | .ow k => bif k == id then t else .ow k
  | .pt k o => bif k == id then .bot else .pt k o
  | .po k z i o => bif k == id then .bot else .po k z i o
  | .tc _ _ => .bot
  | av => av
def St.frz (s : St) (id : Nat) (els : List (List Tr)) : St := ⟨s.T.map (frz1 id (.c (.sl els))), rmE id s.E⟩
theorem frz_get (s : St) (id : Nat) (els : List (List Tr)) (t : Nat) : (s.frz id els).get t = frz1 id (.c (.sl els)) (s.get t) := by
  unfold St.frz St.get
  simp only [List.getElem?_map]
  cases s.T[t]? <;> rfl
theorem frz_ent (s : St) (id : Nat) (els : List (List Tr)) (j : Nat) (e : Ent) (h : (s.frz id els).ent j = some e) : j ≠ id ∧ s.ent j = some e := by
  have h2 : (rmE id s.E).lookup j = some e := h
  rw [rmE_look] at h2
  split at h2
  · cases h2
  · rename_i hne
    exact ⟨hne, h2⟩
theorem R_frz {B : Fr} {w0 : World} {ok0 ok : Nat → Prop} {σ : Nat → Loc} {s : St} {a : Act} {w : World} (hR : R B w0 ok0 ok σ s a w) (id : Nat) {T sz : Nat} {els : List (List Tr)} (he : s.ent id = some (.arr T sz els)) : R B w0 ok0 (fun g => ok g ∨ (σ id).blk = some g) σ (s.frz id els) a w := by
  have hup : ∀ g, ok g → ok g ∨ (σ id).blk = some g := fun g hg => .inl hg
  refine ⟨⟨by simpa [St.frz] using hR.core.len, fun g hg => ?_, hR.core.lib.mono hup (fun _ _ => rfl), fun t => ?_, fun j e hj => ?_, fun j e g hj hg => ?_, fun i j e f g hi hj h1 h2 => ?_⟩, hR.defers, hR.below, hR.base, fun g hg => .inl (hR.old g hg), fun g hg => ?_, fun j e g hj hg => hR.own j e g (frz_ent s id els j e hj).2 hg⟩
  · rcases hg with hg | hg
    · exact hR.core.okL g hg
    · exact (hR.core.blk id _ g he hg).2
  · rw [frz_get]
    have h1 := hR.core.tmp t
    generalize s.get t = av at h1
    have same : Rel (fun g => ok g ∨ (σ id).blk = some g) σ w av (a.tmps.getD t undef) := h1.mono0 hup fun _ _ => rfl
    cases av with
    | ow k =>
      simp only [frz1]
      cases hk : k == id with
      | false => exact same
      | true =>
        have e1 : k = id := by simpa using hk
        subst e1
        have hle : Le ⟨s.T, [(k, .arr T sz els)]⟩ s := ⟨Nat.le_refl _, fun t => .inr rfl, fun j e hj => by
          unfold St.ent at hj
          simp only [List.lookup] at hj
          split at hj
          · rename_i hjk
            have : j = k := by simpa using hjk
            subst this
            injection hj with hj
            subst hj
            exact he
          · cases hj⟩
        have h2 := snap_rel (hR.le hle).core h1
        have e2 : snapA ⟨s.T, [(k, .arr T sz els)]⟩ (.ow k) = .c (.sl els) := by
          simp [snapA, St.entc, St.ent, List.lookup, Ent.core]
        rw [e2] at h2
        refine h2.mono0 (fun g hg => ?_) fun _ _ => rfl
        rcases hg with hg | ⟨j, e, hj, hg⟩
        · exact .inl hg
        · refine .inr ?_
          unfold St.ent at hj
          simp only [List.lookup] at hj
          split at hj
          · rename_i hjk
            have : j = k := by simpa using hjk
            subst this
            exact hg
          · cases hj
    | pt k o =>
      simp only [frz1]
      cases k == id with
      | false => exact same
      | true => exact trivial
    | po k z i o =>
      simp only [frz1]
      cases k == id with
      | false => exact same
      | true => exact trivial
    | tc x r => exact trivial
    | tn => exact same
    | bot => exact same
    | c t => exact same
    | ag cs => exact same
    | pe cs => exact same
    | fn f caps => exact same
    | er b => exact same
    | vw id els m => exact same
    | sf id z i => exact same
  · obtain ⟨_, h2⟩ := frz_ent s id els j e hj
    exact (hR.core.ent j e h2).mono hup (fun _ _ => rfl) fun _ _ => rfl
  · obtain ⟨h1, h2⟩ := frz_ent s id els j e hj
    obtain ⟨h3, h4⟩ := hR.core.blk j e g h2 hg
    refine ⟨fun h5 => ?_, h4⟩
    rcases h5 with h5 | h5
    · exact h3 h5
    · exact h1 (hR.core.inj _ _ _ _ _ h2 he hg h5)
  · exact hR.core.inj i j e f g (frz_ent s id els i e hi).2 (frz_ent s id els j f hj).2 h1 h2
  · rcases hg with hg | hg
    · exact hR.fresh g hg
    · exact .inr (hR.own id _ g he hg)
theorem V_freeze {c : Code} {s s1 : St} {J : Exit → St → Prop} (id : Nat) {T sz : Nat} {els : List (List Tr)} (he : s.ent id = some (.arr T sz els)) (hs : s.frz id els = s1) (h : V P c s1 J) : V P c s J := by
  subst hs
  exact fun _ _ _ _ _ _ _ hR => h _ _ _ _ _ _ _ (R_frz hR id he)
/-- A row that nobody writes any more, between two operations. -/
theorem XL_freeze {ops : Array Oper} {rest : List Oper} {s s1 : St} {J : St → Prop} (id : Nat) {T sz : Nat} {els : List (List Tr)} (he : s.ent id = some (.arr T sz els)) (hs : s.frz id els = s1) (h : XL P ops rest s1 J) : XL P ops rest s J := by
  subst hs
  exact fun _ _ _ _ _ _ _ hR Q hQ => h _ _ _ _ _ _ _ (R_frz hR id he) Q hQ
theorem DL_mono {l : List Oper} {ms : List Nat} {n1 : Nat} {css : List (List Cd)} {s0 : St} {rs : List Res} {K K' : St → Prop} (h : DL P l ms n1 css s0 rs K) (hK : ∀ s, K s → K' s) : DL P l ms n1 css s0 rs K' := by
  intro hchk
  obtain ⟨more, h1, h2, h3⟩ := h hchk
  exact ⟨more, h1, h2, hK _ h3⟩
theorem V_dreg {id : Nat} {l : List Oper} {s s1 : St} {J : Exit → St → Prop} (ms : List Nat) (n1 : Nat) (css : List (List Cd)) (m : List Bool) (ids : List Nat) (hm : P.follows .mixedOrders = true) (hchk : drawOk l ms n1 css = true)
    (h : DL P l ms n1 css (prep (l.take n1) s) [] (fun s' => XL P l.toArray (l.drop n1) s' (fun s'' => s''.keep m ids = s1))) (hj : J .normal s1) : V P (.region id l.toArray true) s J :=
  V_draw ms n1 css hm hchk (DL_mono h fun s' hs => XL_keep m ids hs hj)
theorem V_sdreg {id : Nat} {l : List Oper} {y : Code} {s s1 : St} {J : Exit → St → Prop} (ms : List Nat) (n1 : Nat) (css : List (List Cd)) (m : List Bool) (ids : List Nat) (hm : P.follows .mixedOrders = true) (hchk : drawOk l ms n1 css = true)
    (h : DL P l ms n1 css (prep (l.take n1) s) [] (fun s' => XL P l.toArray (l.drop n1) s' (fun s'' => s''.keep m ids = s1))) (hv : V P y s1 J) : V P (.seq (.region id l.toArray true) y) s J := zF (V_dreg ms n1 css m ids hm hchk h hv)
theorem Y0_pick1 {o : Oper} {s : St} {c x y : Operand} {b p q : Bool} (ho : o.op = .pick c x y) (hc : s.ev c = .c (.v (.bool b))) (hb : b = true) (hx : s.ev x = .c (.v (.bool p))) : Y0 P o s (Bo (bif b then p else q)) := by
  subst hb
  have h := Y0_pick (P := P) ho hc
  rw [cond_true, hx] at h
  exact h
theorem Y0_pick0 {o : Oper} {s : St} {c x y : Operand} {b p q : Bool} (ho : o.op = .pick c x y) (hc : s.ev c = .c (.v (.bool b))) (hb : b = false) (hy : s.ev y = .c (.v (.bool q))) : Y0 P o s (Bo (bif b then p else q)) := by
  subst hb
  have h := Y0_pick (P := P) ho hc
  rw [cond_false, hy] at h
  exact h
theorem madeCells_one {z : Array Value} (hz : cellsAll z = true) (n : Nat) : (madeCells z n).toList.all Value.oneCell' = true := by
  unfold madeCells
  rw [List.all_eq_true]
  intro x hx
  simp only [Array.toList_map, List.mem_map] at hx
  obtain ⟨k, _, rfl⟩ := hx
  rcases Nat.lt_or_ge (k % z.size) z.size with h | h
  · rw [getElem!_pos z _ h]
    exact (List.all_eq_true.1 hz) _ (by simp)
  · rw [getElem!_neg z _ (by omega)]
    rfl
def partsEls : Nat → List (Nat × AV) → Option (List (List Tr))
  | _, [] => some []
  | k, (i, av) :: r => bif Nat.beq i k then (match avCells av, partsEls (k + 1) r with
    | some cs, some es => some (cs :: es)
    | _, _ => none) else none
theorem fill_parts (sz : Nat) : ∀ (ps : List (Nat × AV)) (k : Nat) (els : List (List Tr)) (pre post : List Tr), partsEls k ps = some els → (∀ e, e ∈ els → e.length = sz) → pre.length = k * sz → post.length = els.length * sz → fillT (fun i => some (i * sz, sz)) (pre ++ post) ps = some (pre ++ els.flatten)
  | [], k, els, pre, post, h, hs, h1, h2 => by
    simp only [partsEls] at h
    injection h with h
    subst h
    have : post = [] := List.eq_nil_of_length_eq_zero (by simpa using h2)
    subst this
    rfl
  | (i, av) :: r, k, els, pre, post, h, hs, h1, h2 => by
    simp only [partsEls] at h
    cases hb : Nat.beq i k with
    | false => rw [hb] at h; cases h
    | true =>
      have hik : i = k := Nat.eq_of_beq_eq_true hb
      subst hik
      rw [hb] at h
      simp only [cond_true] at h
      split at h
      · rename_i cs es hc he
        injection h with h
        subst h
        have hl : cs.length = sz := hs cs (by simp)
        simp only [List.length_cons, Nat.add_mul, Nat.one_mul] at h2
        simp only [fillT, hc]
        rw [if_neg (by simp only [List.length_append]; omega)]
        have e : splice (pre ++ post) (i * sz) cs = (pre ++ cs) ++ post.drop sz := by
          unfold splice
          rw [← h1, List.take_left, hl, List.drop_append, List.drop_eq_nil_of_le (by omega)]
          rw [show pre.length + sz - pre.length = sz by omega]
          simp
        rw [e, fill_parts sz r (i + 1) es (pre ++ cs) (post.drop sz) he (fun x hx => hs x (by simp [hx])) (by simp [hl, h1, Nat.add_mul]) (by simp; omega)]
        simp
      · cases h
theorem Y1_bslice {o : Oper} {s : St} {t e sz n : Nat} {z : Value} {parts : Array (Nat × Operand)} {els : List (List Tr)} (ht : P.underlying t = some (.slice e)) (hi : (P.info? e).map (fun i => (i.zero, i.size)) = some (some z, sz)) (hz : cellsAll z.cells = true) (hsz : 0 < sz) (ho : o.op = .buildSlice t n parts)
    (hp : partsEls 0 (evP s parts.toList) = some els) (hn : els.length = n) (hs : ∀ e, e ∈ els → e.length = sz) (hmax : n * sz ≤ 16777216) (hpos : 0 < n) : Y1 P o s (.ow 0) [(0, .arr e sz els)] :=
  Y1_of_run fun ok σ a w hC => by
    cases hii : P.info? e with
    | none => rw [hii] at hi; simp at hi
    | some i =>
      have hi2 : i.zero = some z ∧ i.size = sz := by rw [hii] at hi; simpa using hi
      have hzall := madeCells_one hz (n * sz)
      have hzl : (madeCells z.cells (n * sz)).toList.length = n * sz := by
        rw [Array.length_toList]
        exact size_madeCells _ _
      have hf := fill_parts sz (evP s parts.toList) 0 els [] ((madeCells z.cells (n * sz)).toList.map Tr.v) hp hs (by simp) (by simp only [List.length_map, hzl, hn])
      obtain ⟨arr, h1, h2⟩ := fillT_rel (fun i => some (i * sz, sz)) (evP_rel hC parts.toList) _ (madeCells z.cells (n * sz)) _ (RdL_v ok w _ hzall) (by simpa using hf)
      have h3 : arr.size = els.length * sz := by
        have := h2.len
        rw [flatten_len els sz hs] at this
        simpa using this.symm
      have hml : els.length ≤ maxLen := by
        have : n ≤ n * sz := Nat.le_mul_of_pos_right n hsz
        unfold maxLen
        omega
      have hpos2 : ¬ n * sz = 0 := by
        have := Nat.mul_pos hpos hsz
        omega
      have hrun := run_buildSlice (P := P) w t e n (parts.map fun (i, x) => (i, a.eval x)) arr i z ht hii hi2.1 (by rw [hi2.2]; omega) (by rw [hi2.2]; exact hpos2) (by
        rw [hi2.2, Array.toList_map]
        exact h1)
      have hnew := New_arr (ok := ok) (w := w) hC.okL e sz hsz hs hml h2 h3
      rw [hn] at hnew
      refine ⟨_, _, _, ?_, hnew⟩
      unfold execOp
      rw [ho]
      simp only [Sem.run_bind, hrun, Result.andThen_ok, Sem.run_pure]
theorem Y1_bslice0 {o : Oper} {s : St} {t e sz : Nat} {parts : Array (Nat × Operand)} (ht : P.underlying t = some (.slice e)) (hi : (P.info? e).map (·.size) = some sz) (hsz : 0 < sz) (ho : o.op = .buildSlice t 0 parts) (hp : parts = #[]) : Y1 P o s (.ow 0) [(0, .arr e sz [])] :=
  Y1_of_run fun ok σ a w hC => by
    subst hp
    cases hii : P.info? e with
    | none => rw [hii] at hi; simp at hi
    | some i =>
      have hi2 : i.size = sz := by rw [hii] at hi; simpa using hi
      refine ⟨_, _, _, ?_, New_arr (ok := ok) (w := w) (els := []) (arr := #[]) hC.okL e sz hsz (by intro el h; cases h) (Nat.zero_le _) RdL.nil (by simp)⟩
      unfold execOp
      rw [ho]
      simp [Instr.buildSlice, run_underlying ht, sizeOf, typeInfo, hii, Instr.fill, newRow]
      congr 2
      exact Array.eq_empty_of_size_eq_zero (by simp)
end
end Go.Proofs.YtfmjfofocklgpaaGreatDoor
namespace Go.Proofs.YtfmjfofocklgpaaGreatDoor
open Go.RowKit
set_option linter.unusedSimpArgs false
set_option linter.unusedVariables false
section
variable {P : Program}
theorem V_cond_true {c : Operand} {x y : Code} {s : St} {J : Exit → St → Prop} (hc : s.ev c = .c (.v (.bool true))) (h : V P x s J) : V P (.cond c x y) s J := V_cond hc (fun _ => h) (fun h => by cases h)
theorem V_cond_false {c : Operand} {x y : Code} {s : St} {J : Exit → St → Prop} (hc : s.ev c = .c (.v (.bool false))) (h : V P y s J) : V P (.cond c x y) s J := V_cond hc (fun h => by cases h) (fun _ => h)
theorem XL_takeC {ops : Array Oper} {o : Oper} {rest : List Oper} {s s' : St} {J : St → Prop} {j t : Nat} {b : Bool} (c : Bool) (hg : o.guard = some (j, b)) (ht : (ops[j]?).bind (·.dst) = some t) (hb : s.get t = .c (.v (.bool c))) (hc : c = b)
    (h : X P o s s') (hk : XL P ops rest s' J) : XL P ops (o :: rest) s J := by
  subst hc
  exact XL_take hg ht hb h hk
theorem XL_skipT {ops : Array Oper} {o : Oper} {rest : List Oper} {s : St} {J : St → Prop} {j t d : Nat} (c : Bool) (hg : o.guard = some (j, true)) (ht : (ops[j]?).bind (·.dst) = some t) (hb : s.get t = .c (.v (.bool c))) (hc : c = false)
    (hd : o.dst = some d) (hk : XL P ops rest (s.put d .tn) J) : XL P ops (o :: rest) s J := by
  subst hc
  exact XL_skip hg ht hb (by decide) hd hk
theorem E_move {o : Oper} {s : St} {x : Operand} (av : AV) (ho : o.op = .move x) (hx : s.ev x = av) : Y0 P o s av := hx ▸ Y0_move ho
theorem E_ext {o : Oper} {s : St} {x : Operand} {n : Nat} (y r av : AV) (ho : o.op = .extract x n) (hx : s.ev x = .tc y r) (hav : (AV.tc y r).nth n = av) (hb : av ≠ .bot) : Y0 P o s av := by
  subst hav
  exact Y0_ext ho hx hb
theorem E_field {o : Oper} {s : St} {t : TypeId} {x : Operand} {f : Nat} {fields : Array Field} {fd : Field} {n : Nat} (av : AV) (hu : P.underlying t = some (.struct fields)) (hfd : fields[f]? = some fd) (hsz : ((P.info? fd.type).map (·.size)) = some (n + 1)) (ho : o.op = .fieldAddr t x f)
    (hav : (s.ev x).adv fd.offset = av) (hb : av ≠ .bot) : Y0 P o s av := by
  subst hav
  exact Y0_field hu hfd hsz ho hb
theorem E_loadn {o : Oper} {s : St} {t : TypeId} {x : Operand} {n : Nat} {cs : List Tr} (ds : List Tr) (hs : wide P t n) (ho : o.op = .load t x) (hm : memCells s (s.ev x) = some cs) (hn : n ≤ cs.length) (hd : cs.take n = ds) : Y0 P o s (.ag ds) := by
  subst hd
  exact Y0_loadn hs ho hm hn
theorem E_store {o : Oper} {s : St} {t : TypeId} {x y : Operand} {id off : Nat} {cs vc : List Tr} (ds : List Tr) (ho : o.op = .store t x y) (hd : o.dst = none) (hx : s.ev x = .pt id off) (he : s.ent id = some (.box cs)) (hy : avCells (s.ev y) = some vc) (hi : (P.info? t).map (·.size) = some vc.length) (hl : off + vc.length ≤ cs.length) (hs : splice cs off vc = ds) :
    X P o s ⟨s.T, setE id (.box ds) s.E⟩ := by
  subst hs
  exact X_store ho hd hx he hy hi hl
theorem E_storep {l : Loc} {o : Oper} {s : St} {t : TypeId} {x y : Operand} {id off : Nat} {cs vc : List Tr} (ds : List Tr) (ho : o.op = .store t x y) (hd : o.dst = none) (hx : s.ev x = .pt id off) (he : s.ent id = some (.pbox l cs)) (hy : avCells (s.ev y) = some vc) (hi : (P.info? t).map (·.size) = some vc.length) (hl : off + vc.length ≤ cs.length) (hs : splice cs off vc = ds) :
    X P o s ⟨s.T, setE id (.pbox l ds) s.E⟩ := by
  subst hs
  exact X_storep ho hd hx he hy hi hl
theorem V_toK {c : Code} {s s1 : St} {J : Exit → St → Prop} (m : List Bool) (ids : List Nat) (h1 : V P c s (thenA (fun s' => s'.keep m ids = s1) J)) (h2 : J .normal s1) : V P c s J := by
  intro B w0 ok0 ok σ a w hR
  refine wp_mono (h1 _ _ _ _ _ _ _ hR) ?_
  rintro e a' w' ⟨s', ok', σ', hJ, hR'⟩
  cases e with
  | normal =>
    have hk : s'.keep m ids = s1 := hJ
    subst hk
    exact ⟨_, ok', σ', h2, hR'.le (keep_le m ids s')⟩
  | exit id => exact ⟨s', ok', σ', hJ, hR'⟩
  | goto l => exact ⟨s', ok', σ', hJ, hR'⟩
  | ret => exact ⟨s', ok', σ', hJ, hR'⟩
  | panic ch => exact ⟨s', ok', σ', hJ, hR'⟩
  | outgrown => exact ⟨s', ok', σ', hJ, hR'⟩
theorem V_toS {α β : Type} {q : α ⊕ β} {c : Code} {s : St} {S : α → St} {J : Exit → St → Prop} (m : List Bool) (ids : List Nat) (h1 : V P c s (thenA (fun s' => ∃ o, q = .inl o ∧ s'.keep m ids = S o) J)) (h2 : ∀ o, q = .inl o → J .normal (S o)) : V P c s J := by
  intro B w0 ok0 ok σ a w hR
  refine wp_mono (h1 _ _ _ _ _ _ _ hR) ?_
  rintro e a' w' ⟨s', ok', σ', hJ, hR'⟩
  cases e with
  | normal =>
    obtain ⟨o, ho, hk⟩ : ∃ o, q = .inl o ∧ s'.keep m ids = S o := hJ
    have h3 := h2 o ho
    rw [← hk] at h3
    exact ⟨_, ok', σ', h3, hR'.le (keep_le m ids s')⟩
  | exit id => exact ⟨s', ok', σ', hJ, hR'⟩
  | goto l => exact ⟨s', ok', σ', hJ, hR'⟩
  | ret => exact ⟨s', ok', σ', hJ, hR'⟩
  | panic ch => exact ⟨s', ok', σ', hJ, hR'⟩
  | outgrown => exact ⟨s', ok', σ', hJ, hR'⟩
theorem V_cutK {x y : Code} {s s1 : St} {J : Exit → St → Prop} (m : List Bool) (ids : List Nat) (h1 : V P x s (thenA (fun s' => s'.keep m ids = s1) J)) (h2 : V P y s1 J) : V P (.seq x y) s J := by
  refine zF (V_toK (s1 := s1) m ids (V_mono h1 fun e s' h => ?_) h2)
  cases e <;> exact h
def EqAg3 (P : Program) (op : BinOp) (t : TypeId) : Prop := ∀ (a0 a1 a2 b0 b1 b2 : Int) (x y : Operand) (w : World), (eqGuard op t x y (.agg #[.int .i64 a0, .int .i64 a1, .int .i64 a2]) (.agg #[.int .i64 b0, .int .i64 b1, .int .i64 b2])).run P w = .ok () w ∧ (binOp op t (.agg #[.int .i64 a0, .int .i64 a1, .int .i64 a2]) (.agg #[.int .i64 b0, .int .i64 b1, .int .i64 b2])).run P w = .ok (.bool (match op with | .neq => !((a0 == b0) && ((a1 == b1) && (a2 == b2))) | _ => ((a0 == b0) && ((a1 == b1) && (a2 == b2))))) w
theorem ag3 {ok : Nat → Prop} {σ : Nat → Loc} {w : World} {y : Value} {a0 a1 a2 : Int} (h : Rel ok σ w (.ag [Ti a0, Ti a1, Ti a2]) y) : y = (.agg #[.int .i64 a0, .int .i64 a1, .int .i64 a2]) := by
  obtain ⟨vs, rfl, hr⟩ := h
  obtain ⟨l⟩ := vs
  cases hr with
  | cons p1 q1 =>
  cases p1
  cases q1 with
  | cons p2 q2 =>
  cases p2
  cases q2 with
  | cons p3 q3 =>
  cases p3
  cases q3
  rfl
theorem Y0_eqg3 {o : Oper} {s : St} {x y : Operand} {t t2 : TypeId} {a0 a1 a2 b0 b1 b2 : Int} (h : EqAg3 P .eql t) (ho : o.op = .binOp .eql t x y t2) (hx : s.ev x = .ag [Ti a0, Ti a1, Ti a2]) (hy : s.ev y = .ag [Ti b0, Ti b1, Ti b2]) : Y0 P o s (Bo (((a0 == b0) && ((a1 == b1) && (a2 == b2))))) :=
  Y0_of_run fun ok σ a w hC => by
    have h1 := hC.ev x
    rw [hx] at h1
    have h2 := hC.ev y
    rw [hy] at h2
    obtain ⟨h3, h4⟩ := h a0 a1 a2 b0 b1 b2 x y w
    refine ⟨_, ?_, rd_bool _ _ _⟩
    unfold execOp
    rw [ho]
    simp only [ag3 h1, ag3 h2, Sem.run_bind, h3, h4, Result.andThen_ok, Sem.run_pure]
theorem Y0_neg3 {o : Oper} {s : St} {x y : Operand} {t t2 : TypeId} {a0 a1 a2 b0 b1 b2 : Int} (h : EqAg3 P .neq t) (ho : o.op = .binOp .neq t x y t2) (hx : s.ev x = .ag [Ti a0, Ti a1, Ti a2]) (hy : s.ev y = .ag [Ti b0, Ti b1, Ti b2]) : Y0 P o s (Bo (!((a0 == b0) && ((a1 == b1) && (a2 == b2))))) :=
  Y0_of_run fun ok σ a w hC => by
    have h1 := hC.ev x
    rw [hx] at h1
    have h2 := hC.ev y
    rw [hy] at h2
    obtain ⟨h3, h4⟩ := h a0 a1 a2 b0 b1 b2 x y w
    refine ⟨_, ?_, rd_bool _ _ _⟩
    unfold execOp
    rw [ho]
    simp only [ag3 h1, ag3 h2, Sem.run_bind, h3, h4, Result.andThen_ok, Sem.run_pure]
theorem DE_0 {l : List Oper} {ms : List Nat} {n1 : Nat} {css : List (List Cd)} {s0 : St} {rs : List Res} {K : St → Prop} {o : Oper} {c : List Cd} (j : Nat) (av : AV) (hj : rs.length = j) (hlt : Nat.blt j n1 = true) (ho : l[j]? = some o) (hc : css[j]? = some c) (hg : gsat l.toArray o (appC c (l.take n1) rs s0))
    (hm : mentOk ms j av 0 (l.take n1) = true) (hY : Y0 P o (appC c (l.take n1) rs s0) av) (d : Nat) (hd : o.dst = some d) (h : DL P l ms n1 css s0 (rs ++ [.r0 av]) K) : DL P l ms n1 css s0 rs K := by
  subst hj
  exact DL_0 (Nat.le_of_ble_eq_true hlt) ho hc hg hm hY ⟨d, hd⟩ h
theorem DE_1 {l : List Oper} {ms : List Nat} {n1 : Nat} {css : List (List Cd)} {s0 : St} {rs : List Res} {K : St → Prop} {o : Oper} {c : List Cd} {av : AV} {ne : List (Nat × Ent)} (j : Nat) (hj : rs.length = j) (hlt : Nat.blt j n1 = true) (ho : l[j]? = some o) (hc : css[j]? = some c) (hg : gsat l.toArray o (appC c (l.take n1) rs s0))
    (hY : Y1 P o (appC c (l.take n1) rs s0) av ne) (h1 : keys8 ne = true) (h2 : makes o = true) (h3 : av.small = true) (d : Nat) (hd : o.dst = some d) (h : DL P l ms n1 css s0 (rs ++ [.r1 av ne]) K) : DL P l ms n1 css s0 rs K := by
  subst hj
  exact DL_1 (Nat.le_of_ble_eq_true hlt) ho hc hg ⟨h1, h2, h3⟩ hY ⟨d, hd⟩ h
theorem ev_le {S A : St} (h : Le S A) (x : Operand) : S.ev x = .bot ∨ S.ev x = A.ev x := by
  cases x with
  | tmp t => exact h.get t
  | const v => exact .inr rfl
  | global g => exact .inr rfl
  | func f => exact .inr rfl
theorem X_store_le {o : Oper} {S : St} {t : TypeId} {x y : Operand} {id off : Nat} {cs vc cs2 : List Tr} (ho : o.op = .store t x y) (hd : o.dst = none) (hx : S.ev x = .pt id off) (he : S.ent id = some (.box cs)) (hy : avCells (S.ev y) = some vc) (hi : (P.info? t).map (·.size) = some vc.length) (hl : off + vc.length ≤ cs.length) (hs : splice cs off vc = cs2) :
    ∀ A, Le S A → X P o A ⟨A.T, setE id (.box cs2) A.E⟩ := by
  intro A hA
  subst hs
  refine X_store ho hd ?_ (hA.ent _ _ he) ?_ hi hl
  · rcases ev_le hA x with h | h
    · rw [hx] at h; cases h
    · rw [← h]; exact hx
  · rcases ev_le hA y with h | h
    · rw [h] at hy; simp [avCells] at hy
    · rw [← h]; exact hy
theorem DE_2 {l : List Oper} {ms : List Nat} {n1 : Nat} {css : List (List Cd)} {s0 : St} {rs : List Res} {K : St → Prop} {o : Oper} {c : List Cd} {t : TypeId} {x y : Operand} {off : Nat} {cs vc : List Tr} (j id : Nat) (cs2 : List Tr) (hj : rs.length = j) (hlt : Nat.blt j n1 = true) (ho : l[j]? = some o) (hc : css[j]? = some c) (hg : gsat l.toArray o (appC c (l.take n1) rs s0))
    (hop : o.op = .store t x y) (hd : o.dst = none) (hx : (appC c (l.take n1) rs s0).ev x = .pt id off) (he : (appC c (l.take n1) rs s0).ent id = some (.box cs)) (hy : avCells ((appC c (l.take n1) rs s0).ev y) = some vc) (hi : (P.info? t).map (·.size) = some vc.length) (hl : off + vc.length ≤ cs.length) (hs : splice cs off vc = cs2)
    (h1 : colOk j id css = true) (h2 : mkOk ms j id 0 (l.take n1) = true) (h3 : freshW id rs = true) (h : DL P l ms n1 css s0 (rs ++ [.r2 id (.box cs2)]) K) : DL P l ms n1 css s0 rs K := by
  subst hj
  exact DL_2 (Nat.le_of_ble_eq_true hlt) ho hc hg (X_store_le hop hd hx he hy hi hl hs) hd h1 h2 h3 h
theorem DL_split {l : List Oper} {ms : List Nat} {n1 : Nat} {css : List (List Cd)} {s0 : St} {rs : List Res} {K : St → Prop} (c : Bool) (h1 : c = true → DL P l ms n1 css s0 rs K) (h2 : c = false → DL P l ms n1 css s0 rs K) : DL P l ms n1 css s0 rs K := by
  cases c with
  | true => exact h1 rfl
  | false => exact h2 rfl
theorem Y0_max {o : Oper} {s : St} {x y : Operand} {t : Array TypeId} {a b : Int} (ho : o.op = .call { callee := .builtin .max, args := #[x, y], argTypes := t }) (hx : s.ev x = .c (.v (.int .i64 a))) (hy : s.ev y = .c (.v (.int .i64 b))) : Y0 P o s (I (mxI a b)) :=
  Y0_of_run fun ok σ ac w hC => by
    refine ⟨_, ?_, rd_int _ _ _ _⟩
    unfold execOp
    rw [ho]
    have h1 := hC.exact hx
    have h2 := hC.exact hy
    have h3 := run_max_int2 (P := P) w t o.type .i64 .i64 a b
    have e : mxI a b = (if b > a then b else a) := by
      rw [mxI, ltI_eq]
      by_cases h : a < b <;> simp [h]
    rw [e]
    simp [resolve, invoke, builtin, h1, h2, h3]
theorem rep_flat (l : List Tr) : ∀ (n j : Nat), j < n * l.length → (List.replicate n l).flatten[j]? = l[j % l.length]?
  | 0, j, h => by simp at h
  | n + 1, j, h => by
    rw [List.replicate_succ, List.flatten_cons]
    rcases Nat.lt_or_ge j l.length with h1 | h1
    · rw [List.getElem?_append_left h1, Nat.mod_eq_of_lt h1]
    · rw [List.getElem?_append_right h1, rep_flat l n (j - l.length) (by rw [Nat.add_mul] at h; omega), ← Nat.mod_eq_sub_mod h1]
theorem made_rd (ok : Nat → Prop) (w : World) {z : Array Value} (hz : cellsAll z = true) (n m : Nat) (hnm : n ≤ m) (hpos : 0 < z.size) : RdL ok w (List.replicate n (z.toList.map Tr.v)).flatten ((madeCells z (m * z.size)).toList.take (n * z.size)) := by
  have hl : (z.toList.map Tr.v).length = z.size := by simp
  have hle : n * z.size ≤ m * z.size := Nat.mul_le_mul_right _ hnm
  refine RdL.mk ?_ fun j t ht => ?_
  · rw [flatten_len _ z.size (fun e he => by rw [(List.mem_replicate.1 he).2]; exact hl)]
    simp [size_madeCells]
    rw [Nat.min_eq_left hnm]
  · have hj : j < n * z.size := by
      rcases Nat.lt_or_ge j (n * z.size) with h | h
      · exact h
      · rw [List.getElem?_eq_none (by rw [flatten_len _ z.size (fun e he => by rw [(List.mem_replicate.1 he).2]; exact hl)]; simpa using h)] at ht
        cases ht
    rw [rep_flat _ n j (by rw [hl]; exact hj), hl, List.getElem?_map] at ht
    have hmod : j % z.size < z.size := Nat.mod_lt _ hpos
    have hzj : z.toList[j % z.size]? = some z[j % z.size] := by
      rw [Array.getElem?_toList]
      exact Array.getElem?_eq_getElem hmod
    rw [hzj] at ht
    injection ht with ht
    subst ht
    refine ⟨z[j % z.size], ?_, Rd.v _ ((List.all_eq_true.1 hz) _ (by simp))⟩
    rw [List.getElem?_take, if_pos hj]
    unfold madeCells
    rw [Array.toList_map, List.getElem?_map]
    have : (Array.range (m * z.size)).toList[j]? = some j := by
      rw [Array.getElem?_toList, Array.getElem?_range]
      simp
      omega
    rw [this]
    simp [hmod]
theorem Y1_make {α : Type} {c : α → List Tr} {zx : α} {o : Oper} {s : St} {t e sz bytes : Nat} {z : Value} {x y : Operand} {l k : Int} (ht : P.underlying t = some (.slice e)) (hi : (P.info? e).map (fun i => (i.zero, i.size, i.bytes)) = some (some z, sz, bytes)) (hz : cellsAll z.cells = true) (hzs : z.cells.size = sz) (hsz : 0 < sz)
    (hc : z.cells.toList.map Tr.v = c zx) (ho : o.op = .makeSlice t x y) (hx : s.ev x = .c (.v (.int .i64 l))) (hy : s.ev y = .c (.v (.int .i64 k))) (hr : 0 ≤ l ∧ l ≤ k ∧ k ≤ 1099511627776) (hby : bytes ≤ 128) : Y1 P o s (.ow 0) [(0, .arr e sz ((List.replicate l.toNat zx).map c))] :=
  Y1_of_run fun ok σ a w hC => by
    obtain ⟨h0, h1, h2⟩ := hr
    cases hii : P.info? e with
    | none => rw [hii] at hi; simp at hi
    | some i =>
      have hi2 : i.zero = some z ∧ i.size = sz ∧ i.bytes = bytes := by rw [hii] at hi; simpa using hi
      have hbytes : (i.bytes : Int) * k ≤ 281474976710656 := by
        rw [hi2.2.2]
        have h3 : bytes * k.toNat ≤ 128 * 1099511627776 := Nat.mul_le_mul hby (by omega)
        have h4 : ((bytes * k.toNat : Nat) : Int) = (bytes : Int) * k := by rw [Int.natCast_mul, Int.toNat_of_nonneg (by omega)]
        omega
      have hrun := run_make (P := P) w t e i z ht hii hi2.1 .i64 .i64 l k h0 h1 hbytes (by omega)
      rw [hi2.2.1] at hrun
      have hmap : (List.replicate l.toNat zx).map c = List.replicate l.toNat (z.cells.toList.map Tr.v) := by rw [List.map_replicate, hc]
      have hw : ∀ g, ok g → (w.alloc (.cells (madeCells z.cells (k.toNat * sz)) e)).heap[g]? = w.heap[g]? := fun g hg => Below.heap_alloc _ _ _ (hC.okL g hg)
      have hlz : (z.cells.toList.map Tr.v).length = sz := by simp [hzs]
      refine ⟨.slice (some ⟨w.heap.size, 0, none⟩) l.toNat k.toNat, w.alloc (.cells (madeCells z.cells (k.toNat * sz)) e), fun _ => ⟨some w.heap.size, l.toNat, k.toNat⟩, ?_, ⟨(Below.refl _ _).alloc (Nat.le_refl _) _, fun _ h => h, fun _ h => .inl h, fun g hg => by have := hC.okL g hg; simp; omega, rfl, fun id e he => ?_, fun e he => ?_, fun id e he => ?_, fun id e g he hg => ?_, fun i j e f g hi hj _ _ => ?_, fun id e he => by obtain ⟨_, q2⟩ := look_one _ _ _ _ he; subst q2; rfl⟩⟩
      · unfold execOp
        rw [ho]
        simp only [hC.exact hx, hC.exact hy, Sem.run_bind, hrun, Result.andThen_ok, Sem.run_pure]
      · obtain ⟨h1, _⟩ := look_one _ _ _ _ he; omega
      · show (0 / 8 == e) = false
        rw [beq_eq_false_iff_ne]; omega
      · obtain ⟨q1, q2⟩ := look_one _ _ _ _ he
        subst q2
        rw [hmap]
        refine ⟨hsz, by simp, fun el hel => by rw [(List.mem_replicate.1 hel).2]; exact hlz, (madeCells z.cells (k.toNat * sz)).toList.take (l.toNat * sz), ⟨?_, .inr ⟨w.heap.size, k.toNat, madeCells z.cells (k.toNat * sz), by simp [zE], Nat.zero_le _, heap_alloc_new w _, by simp; omega, by unfold maxLen; omega, size_madeCells _ _, by simp⟩⟩, ?_⟩
        · have : l.toNat * sz ≤ k.toNat * sz := Nat.mul_le_mul_right _ (by omega)
          simp [size_madeCells]
          rw [Nat.min_eq_left (by omega : l.toNat ≤ k.toNat)]
        · have := made_rd ok w hz l.toNat k.toNat (by omega) (by omega)
          rw [hzs] at this
          exact this.mono (fun _ h => h) hw
      · have e1 : w.heap.size = g := by simpa using hg
        subst e1
        exact ⟨Nat.le_refl _, fun hg2 => by have := hC.okL _ hg2; omega, by simp⟩
      · obtain ⟨h1, _⟩ := look_one _ _ _ _ hi
        obtain ⟨h2, _⟩ := look_one _ _ _ _ hj
        omega
theorem calls_law {f : FuncId} {args : List AV} {vs : List Value} {w : World} (hS : zP P f args (Bo true) []) (hv : RelA (fun g => g < w.heap.size) (fun _ => loc0) w args vs) (hl : Lb (fun g => g < w.heap.size) w := by intro p hp; simp [TB] at hp) : Calls P f vs.toArray w fun e w' => e = .returned (.bool true) ∧ Below w.heap.size w w' := by
  refine (hS (fun g => g < w.heap.size) (fun _ => loc0) w vs (fun _ h => h) hl hv).mono ?_
  rintro e w' ⟨v, ok', σ', rfl, hn⟩
  have h := hn.rel
  have h2 : Rd ok' w' (.v (.bool true)) v := h
  cases h2
  exact ⟨rfl, hn.below⟩
end
end Go.Proofs.YtfmjfofocklgpaaGreatDoor
namespace Go.Proofs.YtfmjfofocklgpaaGreatDoor
open Go.RowKit
set_option linter.unusedSimpArgs false
set_option linter.unusedVariables false
/-- The caller's numbers for the callee's. -/
def renI (m : List (Nat × Nat)) (k : Nat) : Nat := (m.lookup k).getD k
def AV.ren (m : List (Nat × Nat)) : AV → AV
  | .ow k => .ow (renI m k)
  | .pt k o => .pt (renI m k) o
  | .po k z i o => .po (renI m k) z i o
  | .vw k els v => .vw (renI m k) els v
  | .sf k z i => .sf (renI m k) z i
  | .tc _ _ => .bot
  | .tn => .bot
  | av => av
def renL (m : List (Nat × Nat)) : List AV → List AV
  | [] => []
  | a :: as => a.ren m :: renL m as
/-- the caller's entry with what the callee has written -/
def reE (old e : Ent) : Ent := bif old.pin then (match old with
  | .pbox l _ => e.pinned l
  | .parr l _ _ _ => e.pinned l
  | _ => e) else e
def Ent.row : Ent → Bool
  | .box _ => false
  | .arr _ _ _ => true
  | .pbox _ _ => false
  | .parr _ _ _ _ => true
  | .mp _ _ => false
  | .qarr _ _ _ _ => true
/-- what the caller holds behind the call -/
def updE (m : List (Nat × Nat)) : List (Nat × Ent) → List (Nat × Ent) → List (Nat × Ent)
  | E, [] => E
  | E, (k, e) :: ps => setE (renI m k) (reE ((E.lookup (renI m k)).getD e) e) (updE m E ps)
/-- the caller holds what the callee is handed -/
def matchE (m : List (Nat × Nat)) (s : St) : List (Nat × Ent) → Prop
  | [] => True
  | (k, e) :: ps => s.entc (renI m k) = some e ∧ matchE m s ps
def keysE : List (Nat × Ent) → List Nat
  | [] => []
  | (k, _) :: ps => k :: keysE ps
def renOk (m : List (Nat × Nat)) (E0 : List (Nat × Ent)) : Bool := nodup ((keysE E0).map (renI m))
theorem mE_nil {m : List (Nat × Nat)} {s : St} : matchE m s [] := trivial
theorem mE_cons {m : List (Nat × Nat)} {s : St} {k : Nat} {e : Ent} {ps : List (Nat × Ent)} (h : s.entc (renI m k) = some e) (t : matchE m s ps) : matchE m s ((k, e) :: ps) := ⟨h, t⟩
theorem matchE_look (m : List (Nat × Nat)) (s : St) : ∀ (E0 : List (Nat × Ent)) (id : Nat) (e : Ent), matchE m s E0 → E0.lookup id = some e → s.entc (renI m id) = some e
  | [], id, e, _, h => by simp at h
  | (k, f) :: ps, id, e, hs, h => by
    simp only [List.lookup] at h
    cases hk : id == k with
    | true =>
      have : id = k := by simpa using hk
      subst this
      rw [hk] at h
      injection h with h
      subst h
      exact hs.1
    | false =>
      rw [hk] at h
      exact matchE_look m s ps id e hs.2 h
theorem keysE_mem : ∀ (E0 : List (Nat × Ent)) (id : Nat) (e : Ent), E0.lookup id = some e → id ∈ keysE E0
  | [], id, e, h => by simp at h
  | (k, f) :: ps, id, e, h => by
    simp only [List.lookup] at h
    cases hk : id == k with
    | true =>
      have : id = k := by simpa using hk
      subst this
      exact List.mem_cons_self
    | false =>
      rw [hk] at h
      exact List.mem_cons_of_mem _ (keysE_mem ps id e h)
theorem mem_keysE : ∀ (E0 : List (Nat × Ent)) (id : Nat), id ∈ keysE E0 → ∃ e, E0.lookup id = some e
  | [], id, h => by cases h
  | (q1, q2) :: ps, id, h => by
    by_cases hq : id = q1
    · subst hq; exact ⟨q2, by simp [List.lookup]⟩
    · have : (id == q1) = false := by rw [beq_eq_false_iff_ne]; exact hq
      rcases List.mem_cons.1 h with h2 | h2
      · exact absurd h2 hq
      · obtain ⟨f, hf⟩ := mem_keysE ps id h2
        exact ⟨f, by simp only [List.lookup, this]; exact hf⟩
theorem nodup_inj (f : Nat → Nat) : ∀ (l : List Nat), nodup (l.map f) = true → ∀ i, i ∈ l → ∀ j, j ∈ l → f i = f j → i = j
  | [], _, i, hi, _, _, _ => by cases hi
  | x :: xs, h, i, hi, j, hj, hf => by
    simp only [List.map_cons, nodup, Bool.and_eq_true, Bool.not_eq_true', List.contains_eq_mem, decide_eq_false_iff_not] at h
    obtain ⟨h1, h2⟩ := h
    rcases List.mem_cons.1 hi with a1 | a1 <;> rcases List.mem_cons.1 hj with b1 | b1
    · rw [a1, b1]
    · subst a1
      exact absurd (List.mem_map.2 ⟨j, b1, hf.symm⟩) h1
    · subst b1
      exact absurd (List.mem_map.2 ⟨i, a1, hf⟩) h1
    · exact nodup_inj f xs h2 i a1 j b1 hf
section
variable {P : Program}
theorem ren_rel {ok : Nat → Prop} {σ : Nat → Loc} {w : World} {m : List (Nat × Nat)} {av : AV} {y : Value} (h : Rel ok σ w (av.ren m) y) (hb : ∀ x r, av ≠ .tc x r) (hb2 : av ≠ .tn) : Rel ok (fun k => σ (renI m k)) w av y := by
  cases av with
  | bot => trivial
  | c t => exact h
  | ag cs => exact h
  | ow id => exact h
  | pt id off => exact h
  | po id sz i off => exact h
  | pe cs => exact h
  | fn f caps => exact h
  | er b => exact h
  | vw id els v => exact h
  | sf id z i => exact h
  | tn => exact absurd rfl hb2
  | tc x r => exact absurd rfl (hb x r)
def noTup : List AV → Bool
  | [] => true
  | .tc _ _ :: _ => false
  | .tn :: _ => false
  | _ :: as => noTup as
theorem ren_relA {ok : Nat → Prop} {σ : Nat → Loc} {w : World} {m : List (Nat × Nat)} : ∀ {args : List AV} {vs : List Value}, noTup args = true → RelA ok σ w (renL m args) vs → RelA ok (fun k => σ (renI m k)) w args vs
  | [], _, _, .nil => .nil
  | a :: as, _, ht, .cons h hs => by
    have h1 : (∀ x r, a ≠ .tc x r) ∧ a ≠ .tn ∧ noTup as = true := by
      cases a with
      | tc x r => cases ht
      | tn => cases ht
      | _ => exact ⟨(fun _ _ h => by cases h), (fun h => by cases h), ht⟩
    exact .cons (ren_rel h h1.1 h1.2.1) (ren_relA h1.2.2 hs)
theorem reE_pin (old e : Ent) (he : e.plain = true) : (reE old e).pin = old.pin := by
  cases old with
  | box cs => exact Ent.pin_of_plain he
  | arr T sz els => exact Ent.pin_of_plain he
  | mp b kvs => exact Ent.pin_of_plain he
  | qarr l0 T sz els => exact Ent.pin_of_plain he
  | pbox l cs => exact pinned_pin he
  | parr l T sz els => exact pinned_pin he
theorem updE_look (m : List (Nat × Nat)) (E : List (Nat × Ent)) : ∀ (E1 : List (Nat × Ent)), nodup ((keysE E1).map (renI m)) = true → (∀ k e, E1.lookup k = some e → ∃ f, E.lookup (renI m k) = some f) → ∀ j, (updE m E E1).lookup j = match E1.find? (fun p => renI m p.1 == j) with
      | some p => some (reE ((E.lookup j).getD p.2) p.2)
      | none => E.lookup j
  | [], _, _, j => rfl
  | (k, e) :: ps, hn, hx, j => by
    have hn2 : nodup ((keysE ps).map (renI m)) = true := by
      simp only [keysE, List.map_cons, nodup, Bool.and_eq_true] at hn
      exact hn.2
    have hn1 : renI m k ∉ (keysE ps).map (renI m) := by
      simp only [keysE, List.map_cons, nodup, Bool.and_eq_true, Bool.not_eq_true', List.contains_eq_mem, decide_eq_false_iff_not] at hn
      exact hn.1
    have ih := updE_look m E ps hn2 (fun k2 e2 h2 => by
      by_cases hk : k2 = k
      · subst hk
        exact absurd (List.mem_map.2 ⟨k2, keysE_mem ps k2 e2 h2, rfl⟩) hn1
      · refine hx k2 e2 ?_
        have : (k2 == k) = false := by rw [beq_eq_false_iff_ne]; exact hk
        simp only [List.lookup, this]
        exact h2)
    have hself : (updE m E ps).lookup (renI m k) = E.lookup (renI m k) := by
      rw [ih]
      have hf : ps.find? (fun p => renI m p.1 == renI m k) = none := by
        rw [List.find?_eq_none]
        intro p hp hh
        have hh : renI m p.1 = renI m k := by simpa using hh
        have : p.1 ∈ keysE ps := by
          clear ih hn hx hn1 hn2
          induction ps with
          | nil => cases hp
          | cons q qs ihq =>
            obtain ⟨q1, q2⟩ := q
            rcases List.mem_cons.1 hp with h1 | h1
            · subst h1; exact List.mem_cons_self
            · exact List.mem_cons_of_mem _ (ihq h1)
        exact hn1 (List.mem_map.2 ⟨p.1, this, hh⟩)
      rw [hf]
    obtain ⟨f, hf⟩ := hx k e (by simp [List.lookup])
    have look := setE_look (renI m k) (reE ((E.lookup (renI m k)).getD e) e) (updE m E ps) f (by rw [hself, hf])
    simp only [updE]
    rw [look j, List.find?_cons]
    by_cases hj : j = renI m k
    · subst hj
      simp
    · have : (renI m k == j) = false := by rw [beq_eq_false_iff_ne]; exact fun h => hj h.symm
      rw [if_neg hj, this, ih]
theorem find_look (m : List (Nat × Nat)) : ∀ (E1 : List (Nat × Ent)) (j : Nat) (p : Nat × Ent), nodup ((keysE E1).map (renI m)) = true → E1.find? (fun p => renI m p.1 == j) = some p → E1.lookup p.1 = some p.2 ∧ renI m p.1 = j
  | [], j, p, _, h => by simp at h
  | (k, e) :: ps, j, p, hn, h => by
    rw [List.find?_cons] at h
    cases hk : renI m k == j with
    | true =>
      simp only [hk] at h
      injection h with h
      subst h
      exact ⟨by simp [List.lookup], by simpa using hk⟩
    | false =>
      simp only [hk] at h
      have hn2 : nodup ((keysE ps).map (renI m)) = true := by
        simp only [keysE, List.map_cons, nodup, Bool.and_eq_true] at hn
        exact hn.2
      have hn1 : renI m k ∉ (keysE ps).map (renI m) := by
        simp only [keysE, List.map_cons, nodup, Bool.and_eq_true, Bool.not_eq_true', List.contains_eq_mem, decide_eq_false_iff_not] at hn
        exact hn.1
      obtain ⟨h1, h2⟩ := find_look m ps j p hn2 h
      have : (p.1 == k) = false := by
        rw [beq_eq_false_iff_ne]
        intro e1
        exact hn1 (List.mem_map.2 ⟨p.1, keysE_mem ps _ _ h1, by rw [e1]⟩)
      exact ⟨by simp only [List.lookup, this]; exact h1, h2⟩
theorem reE_ok {ok : Nat → Prop} {w : World} {l : Loc} {old e : Ent} {ok0 : Nat → Prop} {w0 : World} (ho : EntOk ok0 w0 l old) (h : EntOk ok w l e) (he : e.plain = true) : EntOk ok w l (reE old e) := by
  cases old with
  | box cs => exact h
  | arr T sz els => exact h
  | mp b kvs => exact h
  | qarr l0 T sz els => exact h
  | pbox l0 cs =>
    obtain ⟨rfl, _⟩ := ho
    exact pinned_ok h he
  | parr l0 T sz els =>
    obtain ⟨rfl, _⟩ := ho
    exact pinned_ok h he
/-- The state behind a call that may write, ahead of its result. -/
theorem R.ref {B : Fr} {w0 : World} {ok0 ok ok' : Nat → Prop} {σ σ' : Nat → Loc} {s : St} {a : Act} {w w' : World} (h : R B w0 ok0 ok σ s a w) {m : List (Nat × Nat)} {E0 E1 : List (Nat × Ent)} {av : AV} {ne : List (Nat × Ent)} {v : Value}
    (hm : matchE m s E0) (hk : keysE E1 = keysE E0) (hr : renOk m E0 = true) (hp : noPin E1 = true) (hn : NewX ⟨w.heap.size, exOf (fun k => σ (renI m k)) E0⟩ w w' ok ok' σ' av ne v) (hE : ∀ id e, E1.lookup id = some e → EntOk ok' w' (σ (renI m id)) e) :
    R B w0 ok0 ok' (fun id => σ id) ⟨s.T, updE m s.E E1⟩ a w' ∧ ∀ id e g, (St.mk s.T (updE m s.E E1)).ent id = some e → (σ id).blk = some g → g < w.heap.size := by
  have hsz := hn.below.size
  have key0 : ∀ k e, E1.lookup k = some e → ∃ f, E0.lookup k = some f := by
    intro k e hke
    have h1 := keysE_mem E1 k e hke
    rw [hk] at h1
    exact mem_keysE E0 k h1
  have hold : ∀ k e, E1.lookup k = some e → ∃ f, s.E.lookup (renI m k) = some f := by
    intro k e hke
    obtain ⟨f0, hf0⟩ := key0 k e hke
    obtain ⟨f, hf, _⟩ := entc_of (matchE_look m s E0 k f0 hm hf0)
    exact ⟨f, hf⟩
  have hr1 : nodup ((keysE E1).map (renI m)) = true := by rw [hk]; exact hr
  have look := updE_look m s.E E1 hr1 hold
  -- an entry behind the call
  have cases_ : ∀ j f, (St.mk s.T (updE m s.E E1)).ent j = some f → (∃ k e old, E1.lookup k = some e ∧ renI m k = j ∧ s.ent j = some old ∧ f = reE old e) ∨ ((∀ k e, E1.lookup k = some e → renI m k ≠ j) ∧ s.ent j = some f) := by
    intro j f hj
    have h1 : (updE m s.E E1).lookup j = some f := hj
    rw [look] at h1
    cases hfd : E1.find? (fun p => renI m p.1 == j) with
    | some p =>
      rw [hfd] at h1
      obtain ⟨h2, h3⟩ := find_look m E1 j p hr1 hfd
      obtain ⟨old, hold1⟩ := hold p.1 p.2 h2
      rw [h3] at hold1
      rw [hold1] at h1
      injection h1 with h1
      exact .inl ⟨p.1, p.2, old, h2, h3, hold1, h1.symm⟩
    | none =>
      rw [hfd] at h1
      refine .inr ⟨fun k e hke hkj => ?_, h1⟩
      rw [List.find?_eq_none] at hfd
      have hmem : ∀ (L : List (Nat × Ent)), L.lookup k = some e → (k, e) ∈ L := by
        intro L
        induction L with
        | nil => intro h; simp at h
        | cons q qs ih =>
          intro h
          obtain ⟨q1, q2⟩ := q
          simp only [List.lookup] at h
          cases hq : k == q1 with
          | true =>
            rw [hq] at h
            injection h with h
            have : k = q1 := by simpa using hq
            subst this; subst h
            exact List.mem_cons_self
          | false =>
            rw [hq] at h
            exact List.mem_cons_of_mem _ (ih h)
      exact hfd (k, e) (hmem E1 hke) (by simpa using hkj)
  have exE : ∀ g, exOf (fun k => σ (renI m k)) E0 g → ∃ k f0, E0.lookup k = some f0 ∧ (σ (renI m k)).blk = some g := fun g ⟨k, f0, h1, h2⟩ => ⟨k, f0, h1, h2⟩
  have exNot : ∀ g, ok g → ¬ exOf (fun k => σ (renI m k)) E0 g := by
    intro g hg hx
    obtain ⟨k, f0, h1, h2⟩ := exE g hx
    obtain ⟨f, hf, _⟩ := entc_of (matchE_look m s E0 k f0 hm h1)
    exact (h.core.blk _ f g hf h2).1 hg
  have hwok : ∀ g, ok g → w'.heap[g]? = w.heap[g]? := fun g hg => hn.below.block g (h.core.okL g hg) (exNot g hg)
  have entOld : ∀ j f, (St.mk s.T (updE m s.E E1)).ent j = some f → ∃ old, s.ent j = some old ∧ f.pin = old.pin := by
    intro j f hj
    rcases cases_ j f hj with ⟨k, e, old, h1, h2, h3, rfl⟩ | ⟨_, h2⟩
    · exact ⟨old, h3, reE_pin old e (noPin_look E1 k e hp h1)⟩
    · exact ⟨f, h2, rfl⟩
  refine ⟨?_, fun j f g hj hg => by obtain ⟨old, h1, _⟩ := entOld j f hj; exact (h.core.blk j old g h1 hg).2⟩
  refine ⟨⟨h.core.len, hn.okL, h.core.lib.mono hn.okM hwok, fun t => (h.core.tmp t).mono0 hn.okM hwok, fun j f hj => ?_, fun j f g hj hg => ?_, fun i j f1 f2 g hi hj h1 h2 => ?_⟩, h.defers, ?_, Nat.le_trans h.base hsz, fun g hg => hn.okM g (h.old g hg), fun g hg => ?_, fun j f g hj hg => ?_⟩
  · rcases cases_ j f hj with ⟨k, e, old, h1, h2, h3, rfl⟩ | ⟨h1, h2⟩
    · have h4 := hE k e h1
      rw [h2] at h4
      exact reE_ok (h.core.ent j old h3) h4 (noPin_look E1 k e hp h1)
    · refine (h.core.ent j f h2).mono hn.okM hwok fun g hg => hn.below.block g (h.core.blk j f g h2 hg).2 fun hx => ?_
      obtain ⟨k, f0, h3, h4⟩ := exE g hx
      obtain ⟨f2, hf2, _⟩ := entc_of (matchE_look m s E0 k f0 hm h3)
      have h5 := h.core.inj _ _ _ _ _ h2 hf2 hg h4
      -- k is a key of E1 too
      have h6 := keysE_mem E0 k f0 h3
      rw [← hk] at h6
      have h7 := mem_keysE E1 k h6
      obtain ⟨e1, he1⟩ := h7
      exact h1 k e1 he1 h5.symm
  · obtain ⟨old, h1, h2⟩ := entOld j f hj
    obtain ⟨h3, h4⟩ := h.core.blk j old g h1 hg
    refine ⟨fun h5 => ?_, Nat.lt_of_lt_of_le h4 hsz⟩
    rcases hn.okN g h5 with h6 | h6
    · exact h3 h6
    · omega
  · obtain ⟨o1, a1, _⟩ := entOld i f1 hi
    obtain ⟨o2, a2, _⟩ := entOld j f2 hj
    exact h.core.inj i j o1 o2 g a1 a2 h1 h2
  · refine h.below.trans ⟨hn.below.os, hn.below.tape, hn.below.output, hn.below.size, fun k hk1 hk2 => ?_⟩
    refine hn.below.block k (Nat.lt_of_lt_of_le hk1 h.base) fun hx => ?_
    obtain ⟨k2, f0, h3, h4⟩ := exE k hx
    obtain ⟨f2, hf2, _⟩ := entc_of (matchE_look m s E0 k2 f0 hm h3)
    have h5 := h.own _ f2 k hf2 h4
    split at h5
    · exact hk2 h5
    · omega
  · rcases hn.okN g hg with h1 | h1
    · exact h.fresh g h1
    · exact .inr (Nat.le_trans h.base h1)
  · obtain ⟨old, h1, h2⟩ := entOld j f hj
    rw [h2]
    exact h.own j old g h1 hg
/-- New rows at the same world. -/
theorem R.updN {B : Fr} {w0 : World} {ok0 ok : Nat → Prop} {σ σ' : Nat → Loc} {s : St} {a : Act} {w : World} (h : R B w0 ok0 ok σ s a w) {d N : Nat} {av : AV} {ne : List (Nat × Ent)} {v : Value}
    (hsm : ∀ id e g, s.ent id = some e → (σ id).blk = some g → g < N) (hBN : B.n ≤ N) (hrel : Rel ok σ' w av v) (hkeys : ∀ id e, ne.lookup id = some e → id < 8) (hids : ∀ e, e ≠ 0 → av.ment e = false) (hent : ∀ id e, ne.lookup id = some e → EntOk ok w (σ' id) e)
    (hblk : ∀ id e g, ne.lookup id = some e → (σ' id).blk = some g → N ≤ g ∧ ¬ ok g ∧ g < w.heap.size) (hinj : ∀ i j e f g, ne.lookup i = some e → ne.lookup j = some f → (σ' i).blk = some g → (σ' j).blk = some g → i = j) (hnp : ∀ id e, ne.lookup id = some e → e.pin = false) :
    R B w0 ok0 ok (fun id => if id / 8 = d then σ' (id % 8) else σ id) (s.upd d av ne) (a.put (some d) v) w := by
  have hσ : ∀ id, id / 8 ≠ d → (fun id => if id / 8 = d then σ' (id % 8) else σ id) id = σ id := fun id hid => by simp [hid]
  have look : ∀ id e, (s.upd d av ne).ent id = some e → (id / 8 = d ∧ ne.lookup (id % 8) = some e) ∨ (id / 8 ≠ d ∧ s.ent id = some e) := by
    intro id e he
    unfold St.ent St.upd at he
    rw [look_app] at he
    cases hs : (shiftE d ne).lookup id with
    | some e2 =>
      rw [hs] at he
      injection he with he
      subst he
      obtain ⟨h1, h2⟩ := shiftE_look2 d ne id _ hs
      have h3 := hkeys _ _ h2
      have h4 : id - d * 8 = id % 8 := by omega
      rw [h4] at h2
      exact .inl ⟨by omega, h2⟩
    | none =>
      rw [hs] at he
      simp only [killE_look] at he
      by_cases hd : id / 8 = d
      · simp [hd] at he
      · rw [if_neg hd] at he
        exact .inr ⟨hd, he⟩
  refine ⟨⟨?_, h.core.okL, h.core.lib, fun t => ?_, fun id e he => ?_, fun id e g he hg => ?_, fun i j e f g hi hj h1 h2 => ?_⟩, h.defers, h.below, h.base, h.old, h.fresh, fun id e g he hg => ?_⟩
  · rw [size_put]
    simpa [St.upd, killT_len] using h.core.len
  · have hk : (s.upd d av ne).get t = if d = t ∧ d < s.T.length then av.shift d else (bif (s.get t).ment d then AV.bot else s.get t) := by
      have e := get_put (s.kill d) d t (av.shift d)
      unfold St.put St.kill St.get at e
      simp only [killT_len, killT_get] at e
      unfold St.upd St.get
      exact e
    rw [hk, getD_put]
    by_cases hd : d = t ∧ d < s.T.length
    · rw [if_pos hd, if_pos ⟨hd.1, Nat.lt_of_lt_of_le hd.2 h.core.len⟩]
      refine hrel.shift d fun k hk2 => ?_
      have hk0 : k / 8 = 0 := by
        rcases Nat.eq_zero_or_pos (k / 8) with h0 | h0
        · exact h0
        · rw [hids (k / 8) (by omega)] at hk2
          cases hk2
      have e1 : (d * 8 + k) / 8 = d := by omega
      have e2 : (d * 8 + k) % 8 = k := by omega
      simp [e1, e2]
    · rw [if_neg hd]
      by_cases hd2 : d = t ∧ d < a.tmps.size
      · rw [if_pos hd2]
        have hb : s.get t = .bot := by
          unfold St.get
          rw [List.getElem?_eq_none (by omega)]
          rfl
        rw [hb]
        trivial
      · rw [if_neg hd2]
        cases hm : (s.get t).ment d with
        | true => trivial
        | false => exact (h.core.tmp t).mono d (fun _ h => h) (fun _ _ => rfl) hm hσ
  · rcases look id e he with ⟨h1, h2⟩ | ⟨h1, h2⟩
    · simpa [h1] using hent _ _ h2
    · simp only [h1, if_false]
      exact h.core.ent id e h2
  · rcases look id e he with ⟨h1, h2⟩ | ⟨h1, h2⟩
    · simp only [h1, if_true] at hg
      exact (hblk _ _ _ h2 hg).2
    · simp only [h1, if_false] at hg
      exact h.core.blk id e g h2 hg
  · rcases look i e hi with ⟨a1, a2⟩ | ⟨a1, a2⟩ <;> rcases look j f hj with ⟨b1, b2⟩ | ⟨b1, b2⟩
    · simp only [a1, b1, if_true] at h1 h2
      have := hinj _ _ _ _ _ a2 b2 h1 h2
      omega
    · simp only [a1, b1, if_true, if_false] at h1 h2
      have x1 := (hblk _ _ _ a2 h1).1
      have x2 := hsm _ _ _ b2 h2
      omega
    · simp only [a1, b1, if_true, if_false] at h1 h2
      have x1 := (hblk _ _ _ b2 h2).1
      have x2 := hsm _ _ _ a2 h1
      omega
    · simp only [a1, b1, if_false] at h1 h2
      exact h.core.inj _ _ _ _ _ a2 b2 h1 h2
  · rcases look id e he with ⟨h1, h2⟩ | ⟨h1, h2⟩
    · simp only [h1, if_true] at hg
      rw [hnp _ _ h2, if_neg (by decide)]
      exact Nat.le_trans hBN (hblk _ _ _ h2 hg).1
    · simp only [h1, if_false] at hg
      exact h.own id e g h2 hg
/-- A call that may write variables and rows of the caller. -/
theorem X_callR {o : Oper} {s : St} {f : FuncId} {xs : Array Operand} {ts : Array TypeId} {args : List AV} {E0 E1 : List (Nat × Ent)} {av : AV} {ne E' : List (Nat × Ent)} (m : List (Nat × Nat)) (d : Nat) (hS : CallR P f args E0 av ne E1) (hc : ∀ args w, (callFunc f args).run P w = .ok (.enter f args) w)
    (ho : o.op = .call { callee := .value (.func f), args := xs, argTypes := ts }) (hd : o.dst = some d) (ha : evL s xs.toList = renL m args) (ht : noTup args = true) (hm : matchE m s E0) (hk : keysE E1 = keysE E0) (hr : renOk m E0 = true) (hp : noPin E1 = true) (hp0 : noPin E0 = true) (he : updE m s.E E1 = E') :
    X P o s ((St.mk s.T E').upd d av ne) := by
  intro B w0 ok0 ok σ a w hR K Q hK
  subst he
  have hheld : Held ok (fun k => σ (renI m k)) w E0 := by
    refine ⟨fun id e he => ?_, fun id e g he hg => ?_, fun i j e f g hi hj h1 h2 => ?_⟩
    · exact ⟨hR.core.entc _ _ (matchE_look m s E0 id e hm he), noPin_look E0 id e hp0 he⟩
    · obtain ⟨f, hf, _⟩ := entc_of (matchE_look m s E0 id e hm he)
      exact hR.core.blk _ f g hf hg
    · obtain ⟨f1, hf1, _⟩ := entc_of (matchE_look m s E0 i e hm hi)
      obtain ⟨f2, hf2, _⟩ := entc_of (matchE_look m s E0 j f hm hj)
      exact nodup_inj (renI m) _ hr i (keysE_mem E0 i e hi) j (keysE_mem E0 j f hj) (hR.core.inj _ _ _ _ _ hf1 hf2 h1 h2)
  refine wp_call hc ho (Calls.mono (hS ok (fun k => σ (renI m k)) w _ hR.core.okL hR.core.lib (ren_relA ht (ha ▸ evL_rel hR.core xs.toList)) hheld) ?_)
  rintro e w' ⟨v, ok', σ', he, hn, hE⟩
  obtain ⟨hR2, hsm⟩ := hR.ref hm hk hr hp hn hE
  refine ⟨v, he, ?_⟩
  rw [hd]
  exact hK _ _ _ _ (hR2.updN hsm hR.base hn.rel hn.keys hn.ids hn.ent hn.blk hn.inj hn.np)
end
end Go.Proofs.YtfmjfofocklgpaaGreatDoor
namespace Go.Proofs.YtfmjfofocklgpaaGreatDoor
open Go.RowKit
set_option linter.unusedSimpArgs false
set_option linter.unusedVariables false
section
variable {P : Program}
theorem slc_some {n : Nat} {l h : Int} {u : Unit} (hh : slc n l h = some u) : 0 ≤ l ∧ l ≤ h ∧ h ≤ n := by
  unfold slc at hh
  cases hb : (leI 0 l && (leI l h && leI h n)) with
  | false => rw [hb] at hh; cases hh
  | true => simpa [leI_eq] using hb
theorem run_bound {k : IntKind} {n : Int} {y : Nat} {code : BoundsCode} (h0 : 0 ≤ n) (h1 : n ≤ y) (w : World) : (Instr.sliceBound (.int k n) y code).run P w = .ok n.toNat w := by
  unfold Instr.sliceBound
  simp [asIntOf, h0, h1]
theorem rd_part {ok : Nat → Prop} {w : World} {els : List (List Tr)} {A : Option Addr} {n cap sz : Nat} (h : Rd ok w (.sl els) (.slice A n cap)) (hs : ∀ el, el ∈ els → el.length = sz) {l h' : Nat} (h1 : l ≤ h') (h2 : h' ≤ els.length) :
    Rd ok w (.sl ((els.drop l).take (h' - l))) (.slice (if cap = l then A else A.map (·.add (l * sz))) (h' - l) (cap - l)) := by
  cases h with
  | nl A cap =>
    have e1 : l = 0 := by simp at h2; omega
    have e2 : h' = 0 := by simp at h2; omega
    subst e1 e2
    simpa using Rd.nl _ _
  | sl g off n cap sz2 els f hn hcap hok hsz hc hr =>
    rcases Nat.eq_zero_or_pos (h' - l) with h0 | h0
    · rw [h0]
      simpa using Rd.nl _ _
    · have hlen : els ≠ [] := by intro e; subst e; simp at h2; omega
      have hcl : ¬ cap = l := by omega
      rw [if_neg hcl]
      have hz : sz2 = sz := by
        obtain ⟨e, he⟩ := List.exists_mem_of_ne_nil els hlen
        rw [← hsz e he, hs e he]
      subst hz
      have hat : ∀ i j c, at2 ((els.drop l).take (h' - l)) i j = some c → at2 els (l + i) j = some c := by
        intro i j c hh
        unfold at2 at hh ⊢
        rw [List.getElem?_take] at hh
        split at hh
        · rw [List.getElem?_drop] at hh
          exact hh
        · cases hh
      have ha : (Option.map (fun x : Addr => x.add (l * sz2)) (some ⟨g, off, none⟩)) = some ⟨g, off + l * sz2, none⟩ := by
        rw [Option.map_some, add_none]
      rw [ha]
      refine .sl g (off + l * sz2) (h' - l) (cap - l) sz2 _ (fun i j => f (l + i) j) ?_ (by omega) hok (fun el hel => hsz el (List.mem_of_mem_drop (List.mem_of_mem_take hel))) (fun i j c hh => ?_) (fun i j c hh => hr _ _ _ (hat i j c hh))
      · simp; omega
      · have h3 := hc _ _ _ (hat i j c hh)
        have e : off + l * sz2 + (i * sz2 + j) = off + ((l + i) * sz2 + j) := by rw [Nat.add_mul]; omega
        rw [e]
        exact h3
theorem Y0_slice {α : Type} {c : α → List Tr} {xs : List α} {o : Oper} {s : St} {t e sz : Nat} {x : Operand} {lo hi : Option Operand} {l h : Int} (hu : P.underlying t = some (.slice e)) (hsz : (P.info? e).map (·.size) = some sz) (hc : ∀ v, (c v).length = sz) (ho : o.op = .slice t x lo hi none)
    (hx : s.ev x = .c (.sl (xs.map c))) (hlo : ∀ y, lo = some y → ∃ k, s.ev y = .c (.v (.int k l))) (hlo0 : lo = none → l = 0) (hhi : ∀ y, hi = some y → ∃ k, s.ev y = .c (.v (.int k h))) (hhi0 : hi = none → h = (xs.length : Int)) (hb : 0 ≤ l ∧ l ≤ h ∧ h ≤ xs.length) : Y0 P o s (.c (.sl ((subl xs l h).map c))) :=
  Y0_of_run fun ok σ a w hC => by
    obtain ⟨b1, b2, b3⟩ := hb
    have h1 := hC.ev x
    rw [hx] at h1
    have h2 : Rd ok w (.sl (xs.map c)) (a.eval x) := h1
    generalize hv : a.eval x = v at h2
    obtain ⟨A, n, cap, rfl, hn, hcap⟩ : ∃ A n cap, v = .slice A n cap ∧ n = xs.length ∧ n ≤ cap := by
      generalize hT : Tr.sl (xs.map c) = T at h2
      cases h2 with
      | v y hy => cases hT
      | mp b es clock hb hm => cases hT
      | nl A cap =>
        injection hT with hT
        have : xs = [] := by simpa using hT
        subst this
        exact ⟨A, 0, cap, rfl, rfl, Nat.zero_le _⟩
      | sl g off n cap sz els f hn hcap hok hsz hc hr =>
        injection hT with hT
        subst hT
        exact ⟨_, n, cap, rfl, by rw [hn]; simp, hcap⟩
    have h3 := rd_part (sz := sz) h2 (fun el hel => by obtain ⟨y, _, rfl⟩ := List.mem_map.1 hel; exact hc y) (l := l.toNat) (h' := h.toNat) (by omega) (by simp; omega)
    have e1 : ((xs.map c).drop l.toNat).take (h.toNat - l.toNat) = (subl xs l h).map c := by
      unfold subl
      rw [← List.map_drop, ← List.map_take]
    rw [e1] at h3
    refine ⟨_, ?_, h3⟩
    have eL : (lo.map a.eval) = none ∧ l = 0 ∨ ∃ k, lo.map a.eval = some (.int k l) := by
      cases lo with
      | none => exact .inl ⟨rfl, hlo0 rfl⟩
      | some y => obtain ⟨k, hk⟩ := hlo y rfl; exact .inr ⟨k, by simp [hC.exact hk]⟩
    have eH : (hi.map a.eval) = none ∧ h = (n : Int) ∨ ∃ k, hi.map a.eval = some (.int k h) := by
      cases hi with
      | none => exact .inl ⟨rfl, by rw [hhi0 rfl, hn]⟩
      | some y => obtain ⟨k, hk⟩ := hhi y rfl; exact .inr ⟨k, by simp [hC.exact hk]⟩
    have hbounds : ∀ w, (Instr.sliceBounds true n cap (lo.map a.eval) (hi.map a.eval) none).run P w = .ok (l.toNat, h.toNat, cap) w := by
      intro w
      unfold Instr.sliceBounds
      rcases eL with ⟨e2, e3⟩ | ⟨k, e2⟩ <;> rcases eH with ⟨e4, e5⟩ | ⟨k2, e4⟩
      · subst e3 e5
        simp [e2, e4]
      · subst e3
        simp only [e2, e4, Sem.run_bind, Sem.run_pure, Result.andThen_ok, run_bound (P := P) (k := k2) (n := h) (y := cap) (by omega) (by omega)]
        rfl
      · subst e5
        simp only [e2, e4, Sem.run_bind, Sem.run_pure, Result.andThen_ok, run_bound (P := P) (k := k) (n := l) (y := n) b1 (by omega)]
        simp
      · simp only [e2, e4, Sem.run_bind, Sem.run_pure, Result.andThen_ok, run_bound (P := P) (k := k2) (n := h) (y := cap) (by omega) (by omega), run_bound (P := P) (k := k) (n := l) (y := h.toNat) b1 (by omega)]
    cases hii : P.info? e with
    | none => rw [hii] at hsz; cases hsz
    | some i =>
      have hi2 : i.size = sz := by rw [hii] at hsz; simpa using hsz
      unfold execOp
      rw [ho]
      simp [hv, Instr.sliceAt, Instr.slice, run_underlying hu, hbounds, sizeOf, typeInfo, hii, hi2]
/-- Nothing is appended. -/
theorem X_append0 {o : Oper} {s : St} {x y : Operand} {t e d id sz bytes : Nat} {z : Value} {els : List (List Tr)} (ho : o.op = .call { callee := .builtin .append, args := #[x, y], argTypes := #[t, t] }) (hd : o.dst = some d) (ht : P.underlying t = some (.slice e))
    (hi : (P.info? e).map (fun i => (i.zero, i.size, i.bytes)) = some (some z, sz, bytes)) (hx : s.ev x = .ow id) (he : s.ent id = some (.arr e sz els)) (hy : sliceEls s (s.ev y) = some []) : X P o s ⟨(killI id s.T).set d (.ow id), setE id (.arr e sz (els ++ [])) s.E⟩ := by
  intro B w0 ok0 ok σ a w hR K Q hK
  have h3 := hR.core.ev x
  rw [hx] at h3
  have h4 : a.eval x = zE (σ id) := h3
  obtain ⟨A, cap2, h5, _, _⟩ := slice_read hR.core (hR.core.ev y) hy
  obtain ⟨h0, hn, hs, vs, hown, hrd⟩ := hR.core.ent id _ he
  have hle : (σ id).n ≤ (σ id).cap := by
    rcases hown.2 with ⟨hv, hv0⟩ | ⟨g, cap, cur, hv, _, _, hnc, _⟩
    · omega
    · unfold zE at hv
      injection hv with _ q1 q2
      omega
  cases hii : P.info? e with
  | none => rw [hii] at hi; simp at hi
  | some i =>
    have hi2 : i.size = sz := by rw [hii] at hi; simp at hi; exact hi.2.1
    have hrun : (Builtin.append_ #[t, t] o.type #[zE (σ id), .slice A 0 cap2]).run P w = .ok (zE (σ id)) w := by
      unfold Builtin.append_ zE
      cases A <;> cases (σ id).blk <;> simp [run_underlying ht, sizeOf, typeInfo, hii, hi2, Builtin.lenOf, Builtin.firstCells, hle, loadCells, loadCellsFrom, storeCells]
    unfold Oper.wp execOp
    simp only [ho, resolve, invoke, builtin, Sem.run_bind, Sem.run_pure, Result.andThen_ok, List.map_toArray, List.map_cons, List.map_nil, h4, h5, List.length_nil, hrun, Oper.upon, hd]
    refine hK _ _ ok σ ((hR.put (d := d) (av := .ow id) (v := zE (σ id)) rfl).le ⟨by simp [St.put, killI_len], fun u => ?_, fun j f hj => ?_⟩)
    · have e0 := get_put ⟨killI id s.T, s.E⟩ d u (.ow id)
      have e1 := get_put s d u (.ow id)
      unfold St.put St.get at e0 e1
      unfold St.get St.put
      simp only [killI_len, killI_get] at e0
      rw [e0, e1]
      split
      · exact .inr rfl
      · cases ((s.T[u]?).getD .bot).mid id with
        | true => exact .inl rfl
        | false => exact .inr rfl
    · have h7 : (setE id (.arr e sz (els ++ [])) s.E).lookup j = some f := hj
      rw [setE_look id _ s.E _ he, List.append_nil] at h7
      show s.ent j = some f
      split at h7
      · rename_i hji
        subst hji
        rw [he]
        exact h7
      · exact h7
theorem X_appendA {α : Type} {c : α → List Tr} {xs ys : List α} {o : Oper} {s : St} {x y : Operand} {t e d id sz bytes : Nat} {z : Value} (ho : o.op = .call { callee := .builtin .append, args := #[x, y], argTypes := #[t, t] }) (hd : o.dst = some d) (ht : P.underlying t = some (.slice e))
    (hi : (P.info? e).map (fun i => (i.zero, i.size, i.bytes)) = some (some z, sz, bytes)) (hzs : z.cells.size = sz) (hx : s.ev x = .ow id) (he : s.ent id = some (.arr e sz (xs.map c))) (hy : sliceEls s (s.ev y) = some (ys.map c)) (hc : ∀ v, (c v).length = sz)
    (hr : xs.length + ys.length ≤ 1099511627776) (hby : bytes ≤ 128) : X P o s ⟨(killI id s.T).set d (.ow id), setE id (.arr e sz ((xs ++ ys).map c)) s.E⟩ := by
  cases ys with
  | nil =>
    have := X_append0 ho hd ht hi hx he (by simpa using hy)
    simpa using this
  | cons v vs => exact X_appendM ho hd ht hi hzs hx he hy hc (by simp) hr hby
end
end Go.Proofs.YtfmjfofocklgpaaGreatDoor
namespace Go.Proofs.YtfmjfofocklgpaaGreatDoor
open Go.RowKit
set_option linter.unusedSimpArgs false
set_option linter.unusedVariables false
section
variable {P : Program}
theorem RelA.app {ok : Nat → Prop} {σ : Nat → Loc} {w : World} {ts us : List AV} {xs ys : List Value} (h : RelA ok σ w ts xs) (h2 : RelA ok σ w us ys) : RelA ok σ w (ts ++ us) (xs ++ ys) := by
  induction h with
  | nil => exact h2
  | cons h hs ih => exact .cons h ih
end
end Go.Proofs.YtfmjfofocklgpaaGreatDoor
namespace Go.Proofs.YtfmjfofocklgpaaGreatDoor
set_option linter.unusedVariables false
/-- A string's byte at a place. -/
def getB (b : ByteArray) (i : Int) : Option Int := if 0 ≤ i ∧ i < b.size then some (((b.data.toList[i.toNat]?).getD 0).toNat : Int) else none
/-- Two strings can be put together. -/
def catR (a b : ByteArray) : Option Unit := if a.size + b.size ≤ 9223372036854775807 then some () else none
/-- strconv.Itoa. -/
def r_strconv_Itoa (n : Int) : Option ByteArray := if -9223372036854775808 ≤ n ∧ n ≤ 9223372036854775807 then some ⟨(Go.Lib.itoa n).toArray⟩ else none
section
variable {κ ν : Type} [DecidableEq κ]
def ixM (a : κ) : List κ → Option Nat
  | [] => none
  | k :: ks => if a = k then some 0 else (ixM a ks).map (· + 1)
/-- What a map holds at a key. -/
def mGet (a : κ) : List (κ × ν) → Option ν
  | [] => none
  | p :: ps => if a = p.1 then some p.2 else mGet a ps
/-- A map with a key's value. -/
def mPut (a : κ) (v : ν) : List (κ × ν) → List (κ × ν)
  | [] => [(a, v)]
  | p :: ps => if a = p.1 then (a, v) :: ps else p :: mPut a v ps
def mHas (a : κ) (m : List (κ × ν)) : Bool := (mGet a m).isSome
def mAt (a : κ) (m : List (κ × ν)) (z : ν) : ν := (mGet a m).getD z
end
end Go.Proofs.YtfmjfofocklgpaaGreatDoor
namespace Go.Proofs.YtfmjfofocklgpaaGreatDoor
open Go.RowKit
set_option linter.unusedSimpArgs false
set_option linter.unusedVariables false
section
variable {P : Program}
theorem catR_some {a b : ByteArray} {u : Unit} (h : catR a b = some u) : a.size + b.size ≤ 9223372036854775807 := by
  unfold catR at h
  split at h
  · assumption
  · cases h
theorem getB_some {b : ByteArray} {i v : Int} (h : getB b i = some v) : ∃ h : 0 ≤ i ∧ i < b.size, v = (b[i.toNat]'(by omega)).toNat := by
  unfold getB at h
  split at h
  · rename_i hi
    injection h with h
    refine ⟨hi, ?_⟩
    rw [← h]
    have h2 : i.toNat < b.data.toList.length := by
      have : b.data.toList.length = b.size := by simp
      omega
    rw [List.getElem?_eq_getElem h2]
    rfl
  · cases h
theorem Y0_idxs {o : Oper} {s : St} {x i : Operand} {t : TypeId} {b : ByteArray} {k : IntKind} {n v : Int} (hu : P.underlying t = some .string) (ho : o.op = .index t x i) (hx : s.ev x = .c (.v (.string b))) (hi : s.ev i = .c (.v (.int k n))) (hg : getB b n = some v) : Y0 P o s (.c (.v (.int .u8 v))) :=
  Y0_of_run fun ok σ a w hC => by
    obtain ⟨h1, h2⟩ := getB_some hg
    refine ⟨.int .u8 v, ?_, rd_int _ _ _ _⟩
    unfold execOp
    rw [ho]
    simp only [hC.exact hx, hC.exact hi, Sem.run_bind, run_index_string w t b k n hu, dif_pos h1, Result.andThen_ok, Sem.run_pure]
    rw [h2]
theorem rd_str (ok : Nat → Prop) (σ : Nat → Loc) (w : World) (b : ByteArray) : Rel ok σ w (.c (.v (.string b))) (.string b) := Rd.v _ rfl
theorem Y0_slices {o : Oper} {s : St} {t : TypeId} {x : Operand} {lo hi : Option Operand} {b : ByteArray} {l h : Int} (hu : P.underlying t = some .string) (ho : o.op = .slice t x lo hi none)
    (hx : s.ev x = .c (.v (.string b))) (hlo : ∀ y, lo = some y → ∃ k, s.ev y = .c (.v (.int k l))) (hlo0 : lo = none → l = 0) (hhi : ∀ y, hi = some y → ∃ k, s.ev y = .c (.v (.int k h))) (hhi0 : hi = none → h = (b.size : Int)) (hb : 0 ≤ l ∧ l ≤ h ∧ h ≤ b.size) : Y0 P o s (.c (.v (.string (b.extract l.toNat h.toNat)))) :=
  Y0_of_run fun ok σ a w hC => by
    obtain ⟨b1, b2, b3⟩ := hb
    refine ⟨.string (b.extract l.toNat h.toNat), ?_, rd_str _ _ _ _⟩
    unfold execOp
    rw [ho]
    have hrun : (Instr.sliceAt t (.string b) (lo.map a.eval) (hi.map a.eval) none).run P w = .ok (.string (b.extract l.toNat h.toNat)) w := by
      rw [run_sliceAt_string w t (.string b) (lo.map a.eval) (hi.map a.eval) none hu]
      cases lo with
      | none =>
        have hl := hlo0 rfl
        subst hl
        cases hi with
        | none =>
          have hh := hhi0 rfl
          subst hh
          simpa using run_slice_string_all w t b hu
        | some y =>
          obtain ⟨k, hk⟩ := hhi y rfl
          simp only [Option.map_none, Option.map_some, hC.exact hk]
          simpa using run_slice_string_h w t b hu k h b2 b3
      | some z =>
        obtain ⟨k1, hk1⟩ := hlo z rfl
        cases hi with
        | none =>
          have hh := hhi0 rfl
          subst hh
          simp only [Option.map_none, Option.map_some, hC.exact hk1]
          simpa using run_slice_string_l w t b hu k1 l b1 b2
        | some y =>
          obtain ⟨k, hk⟩ := hhi y rfl
          simp only [Option.map_some, hC.exact hk, hC.exact hk1]
          exact run_slice_string w t b k1 k l h hu b1 b2 b3
    simp only [hC.exact hx, Option.map_none, Sem.run_bind, hrun, Result.andThen_ok, Sem.run_pure]
theorem CallS_str {f : FuncId} {args : List AV} {b : ByteArray} (h : ∀ ok σ w vs, (∀ g, ok g → g < w.heap.size) → Lb ok w → RelA ok σ w args vs → Calls P f vs.toArray w fun e w' => e = .returned (.string b) ∧ Below w.heap.size w w') : zP P f args (.c (.v (.string b))) [] := by
  intro ok σ w vs hok hlib hargs
  refine (h ok σ w vs hok hlib hargs).mono ?_
  rintro e w' ⟨rfl, hb⟩
  refine ⟨_, ok, σ, rfl, ⟨hb, fun _ h => h, fun _ h => .inl h, fun g hg => Nat.lt_of_lt_of_le (hok g hg) hb.size, rd_str _ _ _ _, fun id e h => by simp at h, fun e he => rfl, fun id e h => by simp at h, fun id e g h => by simp at h, fun i j e f g h => by simp at h, fun id e h => by simp at h⟩⟩
theorem rel_int_inv {ok : Nat → Prop} {σ : Nat → Loc} {w : World} {k : IntKind} {n : Int} {v : Value} (h : Rel ok σ w (.c (.v (.int k n))) v) : v = .int k n := by
  have h2 : Rd ok w (.v (.int k n)) v := h
  cases h2
  rfl
theorem rel_str_inv {ok : Nat → Prop} {σ : Nat → Loc} {w : World} {b : ByteArray} {v : Value} (h : Rel ok σ w (.c (.v (.string b))) v) : v = .string b := by
  have h2 : Rd ok w (.v (.string b)) v := h
  cases h2
  rfl
theorem CallS_itoa {f : FuncId} (hc : ∀ ok w n, Lb ok w → -9223372036854775808 ≤ n → n ≤ 9223372036854775807 → Calls P f #[.int .i64 n] w fun e w' => e = .returned (.string ⟨(Go.Lib.itoa n).toArray⟩) ∧ Below w.heap.size w w') {n : Int} {r : ByteArray} (h : r_strconv_Itoa n = some r) : zP P f [I n] (.c (.v (.string r))) [] := by
  unfold r_strconv_Itoa at h
  split at h
  · rename_i hn
    injection h with h
    subst h
    refine CallS_str fun ok σ w vs hok hlib hargs => ?_
    cases hargs with
    | cons h1 h2 =>
      cases h2
      have := rel_int_inv h1
      subst this
      exact hc ok w n hlib hn.1 hn.2
  · cases h
end
section
variable {P : Program}
end
section
variable {P : Program}
/-- Slots that hold nothing, by their number; which slots are kept, by the bits of a number. -/
def bt : Nat → List AV → List AV
  | 0, l => l
  | n + 1, l => .bot :: bt n l
def mb : Nat → Nat → List Bool
  | 0, _ => []
  | n + 1, x => Nat.beq (Nat.mod x 2) 1 :: mb n (Nat.div x 2)
theorem L0 {ops : Array Oper} {o : Oper} {rest : List Oper} {s : St} {av : AV} {d : Nat} {J : St → Prop} (hg : o.guard = none) (hd : o.dst = some d) (h : Y0 P o s av) (hk : XL P ops rest (s.put d av) J) : XL P ops (o :: rest) s J := XL_cons hg (X_of_Y0 hd h) hk
theorem L1 {ops : Array Oper} {o : Oper} {rest : List Oper} {s : St} {av : AV} {ne : List (Nat × Ent)} {d : Nat} {J : St → Prop} (hg : o.guard = none) (hd : o.dst = some d) (h : Y1 P o s av ne) (hk : XL P ops rest (s.upd d av ne) J) : XL P ops (o :: rest) s J := XL_cons hg (X_of_Y1 hd h) hk
/-- Rounds of a loop, one by one. -/
def VR (P : Program) (c : Code) : Nat → St → (Exit → St → Prop) → Prop
  | 0, _, _ => False
  | n + 1, s, J => V P c s (thenA (fun s' => VR P c n s' J) J)
theorem VR_s {c : Code} {n : Nat} {s : St} {J : Exit → St → Prop} (h : V P c s (thenA (fun s' => VR P c n s' J) J)) : VR P c (n + 1) s J := h
theorem V_unroll {c : Code} {s : St} {J : Exit → St → Prop} (n : Nat) (h : VR P c n s J) : V P (.loop c) s J := by
  intro B w0 ok0 ok σ a w hR
  refine wp_loop_rounds n ?_
  revert h
  induction n generalizing s ok σ a w with
  | zero => intro h; exact h.elim
  | succ n ih =>
    intro h
    refine wp_mono (h _ _ _ _ _ _ _ hR) ?_
    rintro e a' w' ⟨s', ok', σ', hJ, hR'⟩
    cases e with
    | normal => exact ih _ _ _ _ hR' hJ
    | exit id => exact ⟨s', ok', σ', hJ, hR'⟩
    | goto l => exact ⟨s', ok', σ', hJ, hR'⟩
    | ret => exact ⟨s', ok', σ', hJ, hR'⟩
    | panic ch => exact ⟨s', ok', σ', hJ, hR'⟩
    | outgrown => exact ⟨s', ok', σ', hJ, hR'⟩
theorem E_idxA {o : Oper} {s : St} {t e : TypeId} {x ix : Operand} {k : IntKind} {N sz : Nat} {n : Int} (av : AV) (hu : P.underlying t = some (.array N e)) (hsz : (P.info? e).map (·.size) = some sz) (ho : o.op = .indexAddr t x ix) (hi : s.ev ix = .c (.v (.int k n)))
    (hn : (decide (0 ≤ n) && decide (n < N)) = true) (hx : (s.ev x).adv (n.toNat * sz) = av) (hb : av ≠ .bot) : Y0 P o s av :=
  Y0_of_run fun ok σ a w hC => by
    subst hx
    obtain ⟨g, off, h1, h2⟩ := adv_rel (n.toNat * sz) (hC.ev x) hb
    refine ⟨_, ?_, h2⟩
    simp only [Bool.and_eq_true, decide_eq_true_eq] at hn
    have h3 := hC.exact hi
    cases hii : P.info? e with
    | none => rw [hii] at hsz; simp at hsz
    | some i =>
      have h5 : i.size = sz := by rw [hii] at hsz; simpa using hsz
      unfold execOp
      rw [ho]
      simp [h1, h3, Instr.indexAt, asIntOf, run_underlying hu, Instr.sureAddr, sizeOf, typeInfo, hii, h5, hn.1, hn.2, add_none]
/-- An element of an array that is a value. -/
theorem Y0_indexA {α : Type} {c : α → List Tr} {xs : List α} {v : α} {d : Tr} {o : Oper} {s : St} {t e : TypeId} {x ix : Operand} {k : IntKind} {N : Nat} {n : Int} (hu : P.underlying t = some (.array N e)) (hs : scalar P e) (hsz : (P.info? e).map (·.size) = some 1) (ho : o.op = .index t x ix) (hi : s.ev ix = .c (.v (.int k n)))
    (hx : s.ev x = .ag (xs.map c).flatten) (hl : xs.length = N) (hc : ∀ v, (c v).length = 1) (hv : getI xs n = some v) (hd : c v = [d]) : Y0 P o s (.c d) :=
  Y0_of_run fun ok σ a w hC => by
    have h1 := hC.ev x
    rw [hx] at h1
    obtain ⟨vs, h2, h3⟩ := (h1 : Rel1 ok σ w (.ag (xs.map c).flatten) (a.eval x))
    have h4 := hC.exact hi
    obtain ⟨g1, g2⟩ := getI_some hv
    have hfl : ∀ (l : List α) (j : Nat) (u : α), l[j]? = some u → (l.map c).flatten[j]? = (c u)[0]? := by
      intro l
      induction l with
      | nil => intro j u h; simp at h
      | cons y l ih =>
        intro j u h
        obtain ⟨d', hd'⟩ : ∃ d', c y = [d'] := by
          have := hc y
          match hcy : c y with
          | [] => rw [hcy] at this; cases this
          | [d'] => exact ⟨d', rfl⟩
          | _ :: _ :: _ => rw [hcy] at this; simp at this
        rw [List.map_cons, List.flatten_cons, hd']
        cases j with
        | zero => simp at h; subst h; simp [hd']
        | succ j => simpa using ih j u (by simpa using h)
    have h5 := hfl xs n.toNat v g2
    rw [hd] at h5
    obtain ⟨y, h6, h7⟩ := h3.get n.toNat d (by simpa using h5)
    have hlt : n < (N : Int) := by
      have := (List.getElem?_eq_some_iff.1 g2).1
      omega
    refine ⟨y, ?_, h7⟩
    obtain ⟨dd, hd1, hd2⟩ := hs
    cases hii : P.info? e with
    | none => rw [hii] at hsz; simp at hsz
    | some i =>
      have h8 : i.size = 1 := by rw [hii] at hsz; simpa using hsz
      have h9 : vs[n.toNat]? = some y := by simpa using h6
      unfold execOp
      rw [ho]
      simp [h2, h4, Instr.index, asIntOf, run_underlying hu, part, run_isAgg hd1, hd2, sizeOf, typeInfo, hii, h8, g1, hlt, h9]
/-- The array under a slice that nobody writes. -/
theorem Y0_s2ap {α : Type} {c : α → List Tr} {xs ys : List α} {o : Oper} {s : St} {t e : TypeId} {N sz : Nat} {x : Operand} (hu : P.underlying t = some (.array N e)) (hN : 0 < N) (hc : ∀ v, (c v).length = sz) (ho : o.op = .sliceToArrayPointer t x)
    (hx : s.ev x = .c (.sl (xs.map c))) (ht : xs.take N = ys) (hl : ys.length = N) : Y0 P o s (.pe (ys.map c).flatten) :=
  Y0_of_run fun ok σ a w hC => by
    subst ht
    have hNx : N ≤ xs.length := by rw [List.length_take] at hl; omega
    have h1 := hC.ev x
    rw [hx] at h1
    have h2 : Rd ok w (.sl (xs.map c)) (a.eval x) := h1
    generalize hv : a.eval x = v at h2
    generalize hT : Tr.sl (xs.map c) = T at h2
    cases h2 with
    | v y hy => cases hT
    | mp b es clock hb hm => cases hT
    | nl A cap =>
      injection hT with hT
      have : xs = [] := by simpa using hT
      subst this
      simp at hNx
      omega
    | sl g off n cap sz' els f hn hcap hok hs hcell hr =>
      injection hT with hT
      subst hT
      have hne : xs ≠ [] := fun h => by subst h; simp at hNx; omega
      obtain ⟨x0, hx0⟩ := List.exists_mem_of_ne_nil xs hne
      have e1 : sz' = sz := by
        have := hs (c x0) (List.mem_map.2 ⟨x0, hx0, rfl⟩)
        rw [hc] at this
        exact this.symm
      subst e1
      refine ⟨.pointer (some ⟨g, off, none⟩), ?_, ⟨g, off, hok, rfl, fun j d hj => ?_⟩⟩
      · have hlt : ¬ n < N := by rw [hn, List.length_map]; omega
        unfold execOp
        rw [ho]
        simp [hv, Instr.arrayAt, run_underlying hu, hlt]
      · have hels : ∀ el, el ∈ (xs.take N).map c → el.length = sz' := fun el hel => by
          obtain ⟨v, _, rfl⟩ := List.mem_map.1 hel
          exact hc v
        have hat := flat_split ((xs.take N).map c) sz' j d hels hj
        have hat2 : at2 (xs.map c) (j / sz') (j % sz') = some d := by
          unfold at2 at hat ⊢
          obtain ⟨el, he, hj2⟩ := Option.bind_eq_some_iff.1 hat
          rw [List.map_take, List.getElem?_take] at he
          split at he
          · rw [he]; exact hj2
          · cases he
        have h3 := hcell _ _ d hat2
        have h4 := hr _ _ d hat2
        have e2 : j / sz' * sz' + j % sz' = j := by rw [Nat.mul_comm]; exact Nat.div_add_mod j sz'
        rw [e2] at h3
        exact ⟨_, h3, h4⟩
theorem tk_nil {α : Type} {xs : List α} {n : Nat} : (xs.drop n).take 0 = [] := rfl
theorem tk_cons {α : Type} {xs ys : List α} {a : α} {i : Int} (n m : Nat) (h : getI xs i = some a) (hi : i.toNat = n) (k : (xs.drop (n + 1)).take m = ys) : (xs.drop n).take (m + 1) = a :: ys := by
  obtain ⟨_, h2⟩ := getI_some h
  rw [hi] at h2
  obtain ⟨h3, h4⟩ := List.getElem?_eq_some_iff.1 h2
  rw [List.drop_eq_getElem_cons h3, List.take_succ_cons, k, h4]
end
end Go.Proofs.YtfmjfofocklgpaaGreatDoor
namespace Go.Proofs.YtfmjfofocklgpaaGreatDoor
open Go.RowKit
set_option linter.unusedSimpArgs false
set_option linter.unusedVariables false
/-- A closed fact, by the kernel. -/
theorem kk {p : Prop} (h : p := by kernel_rfl) : p := h
section
variable (P : Program)
def nbA : AV → Option AV
  | .bot => none
  | av => some av
def xbin (op : BinOp) : AV → AV → Option AV
  | .c (.v (.int .i64 a)), .c (.v (.int .i64 b)) => match op with
    | .add => some (I (w64 (a + b)))
    | .sub => some (I (w64 (a - b)))
    | .mul => some (I (w64 (a * b)))
    | .lss => some (Bo (ltI a b))
    | .leq => some (Bo (leI a b))
    | .gtr => some (Bo (ltI b a))
    | .geq => some (Bo (leI b a))
    | .eql => some (Bo (eqI a b))
    | .neq => some (Bo (!eqI a b))
    | _ => none
  | _, _ => none
def xun (op : UnOp) : AV → Option AV
  | .c (.v (.int .i64 a)) => match op with
    | .neg => some (I (w64 (0 - a)))
    | _ => none
  | .c (.v (.bool b)) => match op with
    | .not => some (.c (.v (.bool (!b))))
    | _ => none
  | _ => none
def sizeT (t : TypeId) : Option Nat := (P.info? t).map (·.size)
/-- The value of an operation that reads alone. -/
def xv (s : St) : Op → Option AV
  | .move x => some (s.ev x)
  | .assign x => some (s.ev x)
  | .extract x n => match s.ev x with
    | .tc y r => nbA ((AV.tc y r).nth n)
    | _ => none
  | .fieldAddr t x f => match P.underlying t with
    | some (.struct fields) => match fields[f]? with
      | some fd => match sizeT P fd.type with
        | some (_ + 1) => nbA ((s.ev x).adv fd.offset)
        | _ => none
      | none => none
    | _ => none
  | .load t x => match P.underlying t with
    | some d => bif aggD d then (match sizeT P t, memCells s (s.ev x) with
        | some n, some cs => bif Nat.ble n cs.length then some (.ag (cs.take n)) else none
        | _, _ => none)
      else (match memCells s (s.ev x) with
        | some (c :: _) => some (.c c)
        | _ => none)
    | none => none
  | .indexAddr t x ix => match P.underlying t with
    | some (.array N e) => match sizeT P e, s.ev ix with
      | some sz, .c (.v (.int _ n)) => bif (decide (0 ≤ n) && decide (n < N)) then nbA ((s.ev x).adv (n.toNat * sz)) else none
      | _, _ => none
    | _ => none
  | .binOp op _ x y _ => xbin op (s.ev x) (s.ev y)
  | .unOp op _ x => xun op (s.ev x)
  | _ => none
/-- An operation that makes a variable. -/
def xn (s : St) : Op → Option (AV × List (Nat × Ent))
  | .alloc e => match (P.info? e).bind (·.zero) with
    | some z => bif cellsAll z.cells then some (.pt 0 0, [(0, .box (z.cells.toList.map Tr.v))]) else none
    | none => none
  | .box _ x => match avCells (s.ev x) with
    | some cs => some (.pt 0 0, [(0, .box cs)])
    | none => none
  | _ => none
/-- An operation that writes a variable. -/
def xs (s : St) : Op → Option St
  | .store t x y => match s.ev x, avCells (s.ev y) with
    | .pt id off, some vc => match s.ent id with
      | some (.box cs) => bif (sizeT P t == some vc.length) && Nat.ble (off + vc.length) cs.length then some ⟨s.T, setE id (.box (splice cs off vc)) s.E⟩ else none
      | some (.pbox l cs) => bif (sizeT P t == some vc.length) && Nat.ble (off + vc.length) cs.length then some ⟨s.T, setE id (.pbox l (splice cs off vc)) s.E⟩ else none
      | _ => none
    | _, _ => none
  | _ => none
def xo (o : Oper) (s : St) : Option St := match o.dst with
  | some d => match xv P s o.op with
    | some av => some (s.put d av)
    | none => match xn P s o.op with
      | some r => some (s.upd d r.1 r.2)
      | none => none
  | none => xs P s o.op
def xr : List Oper → St → Option St
  | [], s => some s
  | o :: os, s => match o.guard with
    | none => match xo P o s with
      | some s' => xr os s'
      | none => none
    | some _ => none
def rD (l : List Oper) (s : St) : St := (xr P l s).getD s
end
section
variable {P : Program}
theorem nbA_ok {a b : AV} (h : nbA a = some b) : a = b ∧ b ≠ .bot := by
  cases a <;> simp only [nbA] at h <;> first | (cases h; done) | (cases h; exact ⟨rfl, fun h => by cases h⟩)
theorem xbin_ok {o : Oper} {s : St} {op : BinOp} {t t2 : TypeId} {x y : Operand} {av : AV} (ho : o.op = .binOp op t x y t2) (h : xbin op (s.ev x) (s.ev y) = some av) : Y0 P o s av := by
  generalize hx : s.ev x = a at h
  generalize hy : s.ev y = b at h
  unfold xbin at h
  split at h
  · cases op <;> simp only [Option.some.injEq, reduceCtorEq] at h <;> subst h
    · exact Y0_add64 ho hx hy
    · exact Y0_sub64 ho hx hy
    · exact Y0_mul64 ho hx hy
    all_goals first | exact Y0_eqw ho hx hy | exact Y0_new ho hx hy | exact Y0_ltw ho hx hy | exact Y0_lew ho hx hy | exact Y0_gtw ho hx hy | exact Y0_gew ho hx hy
  · cases h
theorem xun_ok {o : Oper} {s : St} {op : UnOp} {t : TypeId} {x : Operand} {av : AV} (ho : o.op = .unOp op t x) (h : xun op (s.ev x) = some av) : Y0 P o s av := by
  generalize hx : s.ev x = a at h
  unfold xun at h
  split at h
  · cases op <;> simp only [Option.some.injEq, reduceCtorEq] at h
    subst h
    exact Y0_neg64 ho hx
  · cases op <;> simp only [Option.some.injEq, reduceCtorEq] at h
    subst h
    exact Y0_not ho hx
  · cases h
theorem xv_ok {o : Oper} {s : St} {av : AV} (h : xv P s o.op = some av) : Y0 P o s av := by
  unfold xv at h
  split at h
  · cases h; rename_i ho; exact Y0_move ho
  · cases h; rename_i ho; exact Y0_assign ho
  · rename_i ho
    split at h
    · rename_i hx
      obtain ⟨h1, h2⟩ := nbA_ok h
      exact E_ext _ _ _ ho hx h1 h2
    · cases h
  · rename_i ho
    split at h
    · rename_i hu
      split at h
      · rename_i hf
        split at h
        · rename_i hs
          obtain ⟨h1, h2⟩ := nbA_ok h
          exact E_field _ hu hf hs ho h1 h2
        · cases h
      · cases h
    · cases h
  · rename_i ho
    split at h
    · rename_i d hu
      cases ha : aggD d with
      | true =>
        rw [ha, cond_true] at h
        split at h
        · rename_i n cs hn hm
          cases hb : Nat.ble n cs.length with
          | true =>
            rw [hb, cond_true] at h
            cases h
            exact E_loadn _ ⟨⟨d, hu, ha⟩, hn⟩ ho hm (Nat.le_of_ble_eq_true hb) rfl
          | false => rw [hb, cond_false] at h; cases h
        · cases h
      | false =>
        rw [ha, cond_false] at h
        split at h
        · rename_i c cs hm
          cases h
          exact Y0_load1 ⟨d, hu, ha⟩ ho hm
        · cases h
    · cases h
  · rename_i ho
    split at h
    · rename_i N e hu
      split at h
      · rename_i sz k n hs hi
        cases hb : (decide (0 ≤ n) && decide (n < (N : Int))) with
        | true =>
          rw [hb, cond_true] at h
          obtain ⟨h1, h2⟩ := nbA_ok h
          exact E_idxA _ hu hs ho hi hb h1 h2
        | false => rw [hb, cond_false] at h; cases h
      · cases h
    · cases h
  · rename_i ho; exact xbin_ok ho h
  · rename_i ho; exact xun_ok ho h
  · cases h
theorem xn_ok {o : Oper} {s : St} {r : AV × List (Nat × Ent)} (h : xn P s o.op = some r) : Y1 P o s r.1 r.2 := by
  unfold xn at h
  split at h
  · rename_i e ho
    split at h
    · rename_i z hz
      cases hc : cellsAll z.cells with
      | true => rw [hc, cond_true] at h; cases h; exact Y1_alloc ho hz hc
      | false => rw [hc, cond_false] at h; cases h
    · cases h
  · rename_i e x ho
    split at h
    · rename_i cs hx
      cases h
      exact Y1_box ho hx
    · cases h
  · cases h
theorem xs_ok {o : Oper} {s s' : St} (hd : o.dst = none) (h : xs P s o.op = some s') : X P o s s' := by
  unfold xs at h
  split at h
  · rename_i t x y ho
    split at h
    · rename_i id off vc hx hy
      split at h
      · rename_i cs he
        cases hb : (sizeT P t == some vc.length) && Nat.ble (off + vc.length) cs.length with
        | true =>
          rw [hb, cond_true] at h
          cases h
          rw [Bool.and_eq_true, beq_iff_eq] at hb
          exact E_store _ ho hd hx he hy hb.1 (Nat.le_of_ble_eq_true hb.2) rfl
        | false => rw [hb, cond_false] at h; cases h
      · rename_i l cs he
        cases hb : (sizeT P t == some vc.length) && Nat.ble (off + vc.length) cs.length with
        | true =>
          rw [hb, cond_true] at h
          cases h
          rw [Bool.and_eq_true, beq_iff_eq] at hb
          exact E_storep _ ho hd hx he hy hb.1 (Nat.le_of_ble_eq_true hb.2) rfl
        | false => rw [hb, cond_false] at h; cases h
      · cases h
    · cases h
  · cases h
theorem xo_ok {o : Oper} {s s' : St} (h : xo P o s = some s') : X P o s s' := by
  unfold xo at h
  split at h
  · rename_i d hd
    split at h
    · rename_i av hv
      cases h
      exact X_of_Y0 hd (xv_ok hv)
    · split at h
      · rename_i r hn
        cases h
        exact X_of_Y1 hd (xn_ok hn)
      · cases h
  · rename_i hd; exact xs_ok hd h
theorem xr_ok {ops : Array Oper} {J : St → Prop} (rest : List Oper) : ∀ (l : List Oper) (s s' : St), xr P l s = some s' → XL P ops rest s' J → XL P ops (l ++ rest) s J
  | [], s, s', h, hk => by cases h; exact hk
  | o :: os, s, s', h, hk => by
    unfold xr at h
    split at h
    · rename_i hg
      split at h
      · rename_i s1 h1
        exact XL_cons hg (xo_ok h1) (xr_ok rest os s1 s' h hk)
      · cases h
    · cases h
/-- A row of operations. -/
theorem XR (n : Nat) {ops : Array Oper} {rest : List Oper} {s : St} {J : St → Prop} (hk : XL P ops (rest.drop n) (rD P (rest.take n) s) J) (h : (xr P (rest.take n) s).isSome = true := by kernel_rfl) : XL P ops rest s J := by
  cases hx : xr P (rest.take n) s with
  | none => rw [hx] at h; cases h
  | some s' =>
    have e : rD P (rest.take n) s = s' := by unfold rD; rw [hx]; rfl
    rw [e] at hk
    have := xr_ok (ops := ops) (J := J) (rest.drop n) (rest.take n) s s' hx hk
    rwa [List.take_append_drop] at this
/-- The rest of a region, and its state. -/
theorem XE {ops : Array Oper} {rest : List Oper} {s s1 : St} {m : List Bool} {ids : List Nat} (h : (xr P rest s).map (fun s' => s'.keep m ids) = some s1 := by kernel_rfl) : XL P ops rest s (fun s' => s'.keep m ids = s1) := by
  cases hx : xr P rest s with
  | none => rw [hx] at h; cases h
  | some s' =>
    rw [hx] at h
    have h2 : s'.keep m ids = s1 := by injection h
    have := xr_ok (ops := ops) (J := fun s' => s'.keep m ids = s1) [] rest s s' hx (zD h2)
    rwa [List.append_nil] at this
/-- A whole region of such operations. -/
theorem V_e {id : Nat} {ops : Array Oper} {y : Code} {s s1 : St} {J : Exit → St → Prop} (m : List Bool) (ids : List Nat) (hv : V P y s1 J) (h : (xr P ops.toList s).map (fun s' => s'.keep m ids) = some s1 := by kernel_rfl) : V P (.seq (.region id ops false) y) s J := zO m ids (XE h) hv
/-- A call. -/
theorem XC {ops : Array Oper} {o : Oper} {rest : List Oper} {s : St} {J : St → Prop} {d : Nat} {f : FuncId} {xs : Array Operand} {ts : Array TypeId} {args : List AV} {av : AV} {ne : List (Nat × Ent)} (hS : zP P f args av ne) (hc : ∀ args w, (callFunc f args).run P w = .ok (.enter f args) w) (hg : o.guard = none) (hd : o.dst = some d)
    (ho : o.op = .call { callee := .value (.func f), args := xs, argTypes := ts }) (hk : XL P ops rest (s.upd d av ne) J) (ha : evL s xs.toList = args := by kernel_rfl) : XL P ops (o :: rest) s J := L1 hg hd (Y1_call hS hc ho ha) hk
/-- A row of marks as one number, four to a mark. -/
def cdr : Nat → Nat → List Cd
  | 0, _ => []
  | k + 1, n => (match Nat.mod n 4 with | 0 => Cd.z | 1 => Cd.a | _ => Cd.b) :: cdr k (Nat.div n 4)
def cdm (k : Nat) : List Nat → List (List Cd)
  | [] => []
  | n :: ns => cdr k n :: cdm k ns
section
variable (P)
def dr2 (l : List Oper) (ms : List Nat) (n1 : Nat) (css : List (List Cd)) (rs : List Res) (S : St) : Op → Option (List Res)
  | .store t x y => match S.ev x, avCells (S.ev y) with
    | .pt id off, some vc => match S.ent id with
      | some (.box cs) => bif (sizeT P t == some vc.length) && Nat.ble (off + vc.length) cs.length && (colOk rs.length id css && (mkOk ms rs.length id 0 (l.take n1) && freshW id rs)) then some (rs ++ [.r2 id (.box (splice cs off vc))]) else none
      | _ => none
    | _, _ => none
  | _ => none
def dr1 (l : List Oper) (ms : List Nat) (n1 : Nat) (css : List (List Cd)) (s0 : St) (rs : List Res) : Option (List Res) := match l[rs.length]?, css[rs.length]? with
  | some o, some c => bif Nat.blt rs.length n1 then (match o.guard, o.dst with
    | none, some _ => match xv P (appC c (l.take n1) rs s0) o.op with
      | some av => bif mentOk ms rs.length av 0 (l.take n1) then some (rs ++ [.r0 av]) else none
      | none => match xn P (appC c (l.take n1) rs s0) o.op with
        | some r => bif keys8 r.2 && (makes o && r.1.small) then some (rs ++ [.r1 r.1 r.2]) else none
        | none => none
    | none, none => dr2 P l ms n1 css rs (appC c (l.take n1) rs s0) o.op
    | _, _ => none) else none
  | _, _ => none
def drN (l : List Oper) (ms : List Nat) (n1 : Nat) (css : List (List Cd)) (s0 : St) : Nat → List Res → Option (List Res)
  | 0, rs => some rs
  | k + 1, rs => match dr1 P l ms n1 css s0 rs with
    | some rs' => drN l ms n1 css s0 k rs'
    | none => none
end
theorem dr1_ok {l : List Oper} {ms : List Nat} {n1 : Nat} {css : List (List Cd)} {s0 : St} {rs rs' : List Res} {K : St → Prop} (h : dr1 P l ms n1 css s0 rs = some rs') (hk : DL P l ms n1 css s0 rs' K) : DL P l ms n1 css s0 rs K := by
  unfold dr1 at h
  split at h
  · rename_i o c ho hc
    cases hb : Nat.blt rs.length n1 with
    | false => rw [hb, cond_false] at h; cases h
    | true =>
      rw [hb, cond_true] at h
      split at h
      · rename_i d hg hd
        split at h
        · rename_i av hv
          cases hm : mentOk ms rs.length av 0 (l.take n1) with
          | false => rw [hm, cond_false] at h; cases h
          | true =>
            rw [hm, cond_true] at h
            cases h
            exact DE_0 rs.length av rfl hb ho hc (zI hg) hm (xv_ok hv) d hd hk
        · split at h
          · rename_i r hr
            cases hm : keys8 r.2 && (makes o && r.1.small) with
            | false => rw [hm, cond_false] at h; cases h
            | true =>
              rw [hm, cond_true] at h
              cases h
              rw [Bool.and_eq_true, Bool.and_eq_true] at hm
              exact DE_1 rs.length rfl hb ho hc (zI hg) (xn_ok hr) hm.1 hm.2.1 hm.2.2 d hd hk
          · cases h
      · rename_i hg hd
        unfold dr2 at h
        split at h
        · rename_i t x y hop
          split at h
          · rename_i id off vc hx hy
            split at h
            · rename_i cs he
              cases hm : (sizeT P t == some vc.length) && Nat.ble (off + vc.length) cs.length && (colOk rs.length id css && (mkOk ms rs.length id 0 (l.take n1) && freshW id rs)) with
              | false => rw [hm, cond_false] at h; cases h
              | true =>
                rw [hm, cond_true] at h
                cases h
                rw [Bool.and_eq_true, Bool.and_eq_true, Bool.and_eq_true, Bool.and_eq_true, beq_iff_eq] at hm
                exact DE_2 rs.length id _ rfl hb ho hc (zI hg) hop hd hx he hy hm.1.1 (Nat.le_of_ble_eq_true hm.1.2) rfl hm.2.1 hm.2.2.1 hm.2.2.2 hk
            · cases h
          · cases h
        · cases h
      · cases h
  · cases h
theorem drN_ok {l : List Oper} {ms : List Nat} {n1 : Nat} {css : List (List Cd)} {s0 : St} {K : St → Prop} : ∀ (k : Nat) (rs rs' : List Res), drN P l ms n1 css s0 k rs = some rs' → DL P l ms n1 css s0 rs' K → DL P l ms n1 css s0 rs K
  | 0, rs, rs', h, hk => by cases h; exact hk
  | k + 1, rs, rs', h, hk => by
    unfold drN at h
    split at h
    · rename_i r1 h1
      exact dr1_ok h1 (drN_ok k r1 rs' h hk)
    · cases h
theorem DR (k : Nat) {l : List Oper} {ms : List Nat} {n1 : Nat} {css : List (List Cd)} {s0 : St} {rs : List Res} {K : St → Prop} (hk : DL P l ms n1 css s0 ((drN P l ms n1 css s0 k rs).getD rs) K) (h : (drN P l ms n1 css s0 k rs).isSome = true := by kernel_rfl) : DL P l ms n1 css s0 rs K := by
  cases hx : drN P l ms n1 css s0 k rs with
  | none => rw [hx] at h; cases h
  | some r => rw [hx] at hk; exact drN_ok k rs r hx hk
/-- All of the open part. -/
theorem DA {l : List Oper} {ms : List Nat} {n1 : Nat} {css : List (List Cd)} {s0 : St} {rs : List Res} {K : St → Prop} (k : Nat) (hk : K (fin (l.take n1) ((drN P l ms n1 css s0 k rs).getD rs) s0)) (h : (drN P l ms n1 css s0 k rs).map List.length = some n1 := by kernel_rfl) : DL P l ms n1 css s0 rs K := by
  cases hx : drN P l ms n1 css s0 k rs with
  | none => rw [hx] at h; cases h
  | some r =>
    rw [hx] at hk h
    exact drN_ok k rs r hx (DL_nil (by injection h) hk)
theorem DC {l : List Oper} {ms : List Nat} {n1 : Nat} {css : List (List Cd)} {s0 : St} {rs : List Res} {K : St → Prop} {o : Oper} {c : List Cd} {f : FuncId} {xs : Array Operand} {ts : Array TypeId} {args : List AV} {av : AV} {ne : List (Nat × Ent)} (j : Nat) (hS : zP P f args av ne) (hcf : ∀ args w, (callFunc f args).run P w = .ok (.enter f args) w) (ho : l[j]? = some o) (hc : css[j]? = some c) (hg : o.guard = none)
    (hop : o.op = .call { callee := .value (.func f), args := xs, argTypes := ts }) (d : Nat) (hd : o.dst = some d) (h : DL P l ms n1 css s0 (rs ++ [.r1 av ne]) K) (hj : rs.length = j := by kernel_rfl) (hlt : Nat.blt j n1 = true := by kernel_rfl) (ha : evL (appC c (l.take n1) rs s0) xs.toList = args := by kernel_rfl) (h1 : keys8 ne = true := by kernel_rfl) (h2 : makes o = true := by kernel_rfl) (h3 : av.small = true := by kernel_rfl) : DL P l ms n1 css s0 rs K :=
  DE_1 j hj hlt ho hc (zI hg) (Y1_call hS hcf hop ha) h1 h2 h3 d hd h
end
end Go.Proofs.YtfmjfofocklgpaaGreatDoor
namespace Go.Proofs.YtfmjfofocklgpaaGreatDoor
set_option linter.unusedVariables false
/-- strings.Split. -/
def r_strings_Split (s sep : ByteArray) : Option (List ByteArray) := if s.size < 4294967281 ∧ 1 ≤ sep.size then some (Go.Lib.splitB sep 0 (Go.Lib.countB s sep) s) else none
/-- strings.FieldsFunc with a function that tells a predicate. -/
def r_strings_FieldsFunc (p : Nat → Bool) (s : ByteArray) : Option (List ByteArray) := if s.size ≤ 4294967296 then some (Go.Lib.goFieldsP p s) else none
/-- strconv.Atoi: the number, and whether there is no error. -/
def r_strconv_Atoi (s : ByteArray) : Option (Int × Bool) := if s.size ≤ 281474976710656 then (match Go.Lib.atoiAll s.data.toList with
  | .ok v => some (v, true)
  | .syntax => some (0, false)
  | .range => some (Go.Lib.atoiSat s.data.toList, false)) else none
/-- The predicate that a function tells. -/
def pOf (f : Int → Option Bool) (n : Nat) : Bool := (f (n : Int)).getD false
end Go.Proofs.YtfmjfofocklgpaaGreatDoor
namespace Go.Proofs.YtfmjfofocklgpaaGreatDoor
open Go.RowKit
set_option linter.unusedSimpArgs false
set_option linter.unusedVariables false
section
variable {P : Program}
theorem Y0_erne {o : Oper} {s : St} {x : Operand} {t t2 : TypeId} {ms : Array (String × TypeId)} {b : Bool} (hu : P.underlying t = some (.interface ms)) (ho : o.op = .binOp .neq t x (.const .nilIface) t2) (hx : s.ev x = .er b) : Y0 P o s (Bo (!b)) :=
  Y0_of_run fun ok σ a w hC => by
    have h1 := hC.ev x
    rw [hx] at h1
    have h2 : (b = true ∧ a.eval x = .nilIface) ∨ (b = false ∧ ∃ t v, a.eval x = .iface t v) := h1
    refine ⟨.bool (!b), ?_, rd_bool _ _ _⟩
    unfold execOp
    rw [ho]
    have e1 : ∀ w, (eqGuard .neq t x (.const .nilIface) (a.eval x) .nilIface).run P w = .ok () w := fun w => by
      rcases h2 with ⟨_, h3⟩ | ⟨_, tx, v, h3⟩ <;> rw [h3] <;> simp [eqGuard]
    have e2 : ∀ d : Nat, (Op.equalIn (d + 1) t (a.eval x) .nilIface).run P w = .ok b w := fun d => by
      rcases h2 with ⟨h4, h3⟩ | ⟨h4, tx, v, h3⟩ <;> rw [h3, h4] <;> simp [Op.equalIn, run_underlying hu]
    have e3 : (binOp .neq t (a.eval x) .nilIface).run P w = .ok (.bool (!b)) w := by
      have e4 := e2 9999
      rcases h2 with ⟨h4, h3⟩ | ⟨h4, tx, v, h3⟩ <;> rw [h3] at e4 ⊢ <;> simp only [binOp] <;> simp [Op.equal, Op.maxDepth, e4]
    have e5 : a.eval (.const .nilIface) = .nilIface := rfl
    simp only [e5, Sem.run_bind, e1, e3, Result.andThen_ok, Sem.run_pure]
theorem Y0_ereq {o : Oper} {s : St} {x : Operand} {t t2 : TypeId} {ms : Array (String × TypeId)} {b : Bool} (hu : P.underlying t = some (.interface ms)) (ho : o.op = .binOp .eql t x (.const .nilIface) t2) (hx : s.ev x = .er b) : Y0 P o s (Bo b) :=
  Y0_of_run fun ok σ a w hC => by
    have h1 := hC.ev x
    rw [hx] at h1
    have h2 : (b = true ∧ a.eval x = .nilIface) ∨ (b = false ∧ ∃ t v, a.eval x = .iface t v) := h1
    refine ⟨.bool b, ?_, rd_bool _ _ _⟩
    unfold execOp
    rw [ho]
    have e1 : ∀ w, (eqGuard .eql t x (.const .nilIface) (a.eval x) .nilIface).run P w = .ok () w := fun w => by
      rcases h2 with ⟨_, h3⟩ | ⟨_, tx, v, h3⟩ <;> rw [h3] <;> simp [eqGuard]
    have e2 : ∀ d : Nat, (Op.equalIn (d + 1) t (a.eval x) .nilIface).run P w = .ok b w := fun d => by
      rcases h2 with ⟨h4, h3⟩ | ⟨h4, tx, v, h3⟩ <;> rw [h3, h4] <;> simp [Op.equalIn, run_underlying hu]
    have e3 : (binOp .eql t (a.eval x) .nilIface).run P w = .ok (.bool b) w := by
      have e4 := e2 9999
      rcases h2 with ⟨h4, h3⟩ | ⟨h4, tx, v, h3⟩ <;> rw [h3] at e4 ⊢ <;> simp only [binOp] <;> simp [Op.equal, Op.maxDepth, e4]
    have e5 : a.eval (.const .nilIface) = .nilIface := rfl
    simp only [e5, Sem.run_bind, e1, e3, Result.andThen_ok, Sem.run_pure]
theorem flat_str {c : ByteArray → List Tr} (hcc : ∀ v, c v = [.v (.string v)]) : ∀ (xs : List ByteArray), (xs.map c).flatten = xs.map fun x => Tr.v (.string x)
  | [] => rfl
  | x :: xs => by simp [hcc, flat_str hcc xs]
theorem rdl_str {ok : Nat → Prop} {w : World} : ∀ (xs : List ByteArray), RdL ok w (xs.map fun x => Tr.v (.string x)) (xs.map Value.string)
  | [] => .nil
  | x :: xs => .cons (Rd.v _ rfl) (rdl_str xs)
theorem CallS_row {f : FuncId} {args : List AV} {T : TypeId} {c : ByteArray → List Tr} (hcc : ∀ v, c v = [.v (.string v)]) {xs : List ByteArray}
    (h : ∀ ok σ w vs, (∀ g, ok g → g < w.heap.size) → Lb ok w → RelA ok σ w args vs → Calls P f vs.toArray w fun e w' => ∃ A cap, e = .returned (.slice (some ⟨A, 0, none⟩) xs.length cap) ∧ w.heap.size ≤ A ∧
      w'.ownsRow w.heap.size T 1 (.slice (some ⟨A, 0, none⟩) xs.length cap) xs.length (xs.map Value.string) ∧ Below w.heap.size w w') : zP P f args (.ow 0) [(0, .arr T 1 (xs.map c))] := by
  intro ok σ w vs hok hlib hargs
  refine (h ok σ w vs hok hlib hargs).mono ?_
  rintro e w' ⟨A, cap, rfl, hA, hown, hb⟩
  refine ⟨_, ok, fun _ => ⟨some A, xs.length, cap⟩, rfl, ⟨hb, fun _ h => h, fun _ h => .inl h, fun g hg => Nat.lt_of_lt_of_le (hok g hg) hb.size, rfl, ?_, ?_, ?_, ?_, ?_, ?_⟩⟩
  · intro id e he
    obtain ⟨rfl, _⟩ := look_one _ _ _ _ he
    decide
  · intro e he
    simp only [AV.ment]
    cases h : (0 / 8 == e) with
    | false => rfl
    | true => exact absurd (by simpa using h : 0 = e).symm he
  · intro id e he
    obtain ⟨rfl, rfl⟩ := look_one _ _ _ _ he
    refine ⟨by decide, (List.length_map ..).symm, fun el hel => ?_, xs.map Value.string, ?_, ?_⟩
    · obtain ⟨x, _, rfl⟩ := List.mem_map.1 hel
      rw [hcc]
      rfl
    · refine ⟨by simp, ?_⟩
      rcases hown.2 with ⟨h1, _⟩ | ⟨g, cap2, cur, h1, h2, h3, h4, h5, h6, h7⟩
      · cases h1
      · refine .inr ⟨g, cap2, cur, ?_, Nat.zero_le _, h3, by simpa using h4, h5, h6, by simpa using h7⟩
        rw [List.length_map]
        exact h1
    · rw [flat_str hcc]
      exact rdl_str xs
  · intro id e g he hg
    obtain ⟨rfl, rfl⟩ := look_one _ _ _ _ he
    have hg2 : some A = some g := hg
    injection hg2 with hg2
    subst hg2
    refine ⟨hA, fun h => ?_, ?_⟩
    · have := hok _ h
      omega
    · rcases hown.2 with ⟨h1, _⟩ | ⟨g, cap2, cur, h1, h2, h3, h4, h5, h6, h7⟩
      · cases h1
      · injection h1 with h1
        injection h1 with h1
        injection h1 with h1
        subst h1
        by_cases hlt : A < w'.heap.size
        · exact hlt
        · have := Array.getElem?_eq_none (xs := w'.heap) (i := A) (by omega)
          rw [this] at h3
          cases h3
  · intro i j e f g hi hj h1 h2
    obtain ⟨rfl, _⟩ := look_one _ _ _ _ hi
    obtain ⟨rfl, _⟩ := look_one _ _ _ _ hj
    rfl
  · intro id e he
    obtain ⟨rfl, rfl⟩ := look_one _ _ _ _ he
    rfl
theorem CallS_split {f : FuncId} {T : TypeId} {c : ByteArray → List Tr} (hcc : ∀ v, c v = [.v (.string v)])
    (hc : ∀ ok w (s sep : ByteArray), Lb ok w → s.size < 4294967281 → 1 ≤ sep.size → Calls P f #[.string s, .string sep] w fun e w' => e = .returned (.slice (some ⟨w.heap.size, 0, none⟩) (Go.Lib.countB s sep + 1) (Go.Lib.countB s sep + 1)) ∧ w' = w.alloc (.cells ((Go.Lib.splitB sep 0 (Go.Lib.countB s sep) s).map Value.string).toArray T))
    {s sep : ByteArray} {r : List ByteArray} (h : r_strings_Split s sep = some r) : zP P f [.c (.v (.string s)), .c (.v (.string sep))] (.ow 0) [(0, .arr T 1 (r.map c))] := by
  unfold r_strings_Split at h
  split at h
  · rename_i hn
    injection h with h
    subst h
    have hlen := Go.Lib.splitB_all sep hn.2 0 _ s rfl
    refine CallS_row hcc fun ok σ w vs hok hlib hargs => ?_
    cases hargs with
    | cons h1 h2 =>
      cases h2 with
      | cons h3 h4 =>
        cases h4
        have := rel_str_inv h1
        subst this
        have := rel_str_inv h3
        subst this
        refine (hc ok w s sep hlib hn.1 hn.2).mono ?_
        rintro e w' ⟨rfl, rfl⟩
        have hle := Go.Lib.countB_le sep hn.2 s.size s (Nat.le_refl _)
        refine ⟨w.heap.size, Go.Lib.countB s sep + 1, by rw [hlen], Nat.le_refl _, ⟨by simp, .inr ⟨w.heap.size, Go.Lib.countB s sep + 1, ((Go.Lib.splitB sep 0 (Go.Lib.countB s sep) s).map Value.string).toArray, rfl, Nat.le_refl _, ?_, by omega, ?_, ?_, ?_⟩⟩, (Below.refl _ _).alloc (Nat.le_refl _) _⟩
        · exact (MapKept.heap_alloc w _).1
        · unfold maxLen; omega
        · simp [hlen]
        · rw [List.take_of_length_le (by simp)]
  · cases h
theorem CallS_atoi {f : FuncId} (hc : ∀ ok w (s : ByteArray), Lb ok w → s.size ≤ 281474976710656 → ∀ r, r_strconv_Atoi s = some r → Calls P f #[.string s] w fun e w' => (∃ v, e = .returned (.tuple #[.int .i64 r.1, v]) ∧ ((r.2 = true ∧ v = .nilIface) ∨ (r.2 = false ∧ ∃ t u, v = .iface t u))) ∧ Below w.heap.size w w')
    {s : ByteArray} {r : Int × Bool} (h : r_strconv_Atoi s = some r) : zP P f [.c (.v (.string s))] (.tc (I r.1) (.tc (.er r.2) .tn)) [] := by
  have hn : s.size ≤ 281474976710656 := by
    unfold r_strconv_Atoi at h
    split at h
    · assumption
    · cases h
  intro ok σ w vs hok hlib hargs
  cases hargs with
  | cons h1 h2 =>
    cases h2
    have := rel_str_inv h1
    subst this
    refine (hc ok w s hlib hn r h).mono ?_
    rintro e w' ⟨⟨v, rfl, hv⟩, hb⟩
    exact ⟨_, ok, σ, rfl, ⟨hb, fun _ h => h, fun _ h => .inl h, fun g hg => Nat.lt_of_lt_of_le (hok g hg) hb.size, ⟨_, rfl, rd_int _ _ _ _, hv, trivial⟩, fun id e h => by simp at h, fun e he => rfl, fun id e h => by simp at h, fun id e g h => by simp at h, fun i j e f g h => by simp at h, fun id e h => by simp at h⟩⟩
end
end Go.Proofs.YtfmjfofocklgpaaGreatDoor

namespace Go.Proofs.YtfmjfofocklgpaaGreatDoor
set_option linter.unusedVariables false
def r_spec_l1Split_L6 (b2 : Int) (vs1 : ByteArray) : Nat → Int → Int → List ByteArray → Option (Int × (List ByteArray))
  | 0, _, _, _ => none
  | n + 1, vfrom3, i4, l5 =>
    bif (ltI i4 ((vs1.size : Int))) then
      (
        (getB vs1 i4).bind fun e9 =>
        bif (eqI e9 b2) then
          (
            (slc vs1.size vfrom3 i4).bind fun u11 =>
            (room (l5.length + ([vs1.extract (Int.toNat vfrom3) (Int.toNat i4)]).length)).bind fun u12 =>
            sI (w64 (i4 + 1)) fun vfrom13 =>
            sI (w64 (i4 + 1)) fun i14 =>
            r_spec_l1Split_L6 b2 vs1 n vfrom13 i14 (l5 ++ ([vs1.extract (Int.toNat vfrom3) (Int.toNat i4)]))
          )
        else
          (
            sI (w64 (i4 + 1)) fun i15 =>
            r_spec_l1Split_L6 b2 vs1 n vfrom3 i15 l5
          )
      )
    else
      (
        some (vfrom3, l5)
      )
def r_spec_l1Split (vs1 : ByteArray) (b2 : Int) : Option (List ByteArray) :=
  (r_spec_l1Split_L6 b2 vs1 FU 0 0 (([] : List ByteArray))).bind fun o7 =>
  (slc vs1.size o7.1 ((vs1.size : Int))).bind fun u16 =>
  (room (o7.2.length + ([vs1.extract (Int.toNat o7.1) (Int.toNat ((vs1.size : Int)))]).length)).bind fun u17 =>
  (some (o7.2 ++ ([vs1.extract (Int.toNat o7.1) (Int.toNat ((vs1.size : Int)))]))).bind fun l18 =>
  some l18
def r_spec_prLines (vs1 : ByteArray) (bytes2 : Int) (most3 : Int) : Option ((List ByteArray) × Bool) :=
  (bif (ltI bytes2 ((vs1.size : Int))) then some true else ((bif (!(vs1.toList == ((⟨#[]⟩ : ByteArray)).toList)) then ((getB vs1 (w64 (((vs1.size : Int)) - 1))).bind fun e6 => some (!eqI e6 10)) else some false).bind fun b7 => some b7)).bind fun b8 =>
  bif b8 then
    (
      some ((([] : List ByteArray), false))
    )
  else
    (
      (r_spec_l1Split vs1 10).bind fun y10 =>
      (slc y10.length 0 (w64 (((y10.length : Int)) - 1))).bind fun u11 =>
      (some (leI (((subl y10 0 (w64 (((y10.length : Int)) - 1))).length : Int)) most3)).bind fun t12 =>
      some ((subl y10 0 (w64 (((y10.length : Int)) - 1)), t12))
    )
def r_spec_prWords (kind1 : ByteArray) : Option ByteArray :=
  (some (kind1.toList == ((⟨#[101, 113, 117, 105, 118, 97, 108, 101, 110, 116]⟩ : ByteArray)).toList)).bind fun t2 =>
  bif t2 then
    (
      some ((⟨#[102, 102, 109]⟩ : ByteArray))
    )
  else
    (
      (some (kind1.toList == ((⟨#[100, 105, 102, 102, 101, 114, 101, 110, 116]⟩ : ByteArray)).toList)).bind fun t4 =>
      bif t4 then
        (
          some ((⟨#[102, 109, 102, 102, 109, 102]⟩ : ByteArray))
        )
      else
        (
          (some (kind1.toList == ((⟨#[118, 97, 108, 117, 101]⟩ : ByteArray)).toList)).bind fun t6 =>
          bif t6 then
            (
              some ((⟨#[102, 110, 110, 110]⟩ : ByteArray))
            )
          else
            (
              (
                (some (kind1.toList == ((⟨#[111, 98, 115, 116, 114, 117, 99, 116, 105, 111, 110]⟩ : ByteArray)).toList)).bind fun t9 =>
                bif t9 then
                  (
                    some t9
                  )
                else
                  (
                    (some (kind1.toList == ((⟨#[114, 111, 111, 116]⟩ : ByteArray)).toList)).bind fun t11 =>
                    bif t11 then
                      (
                        some t11
                      )
                    else
                      (
                        (some (kind1.toList == ((⟨#[115, 111, 108, 117, 116, 105, 111, 110]⟩ : ByteArray)).toList)).bind fun t13 =>
                        some t13
                      )
                  )
              ).bind fun j8 =>
              bif j8 then
                (
                  some ((⟨#[110, 110, 110]⟩ : ByteArray))
                )
              else
                (
                  (some (kind1.toList == ((⟨#[99, 111, 109, 112, 111, 115, 105, 116, 101]⟩ : ByteArray)).toList)).bind fun t15 =>
                  bif t15 then
                    (
                      some ((⟨#[102, 102, 102, 110, 110, 110, 110, 110, 110, 110, 110]⟩ : ByteArray))
                    )
                  else
                    (
                      (some (kind1.toList == ((⟨#[111, 114, 100, 101, 114]⟩ : ByteArray)).toList)).bind fun t17 =>
                      bif t17 then
                        (
                          some ((⟨#[102, 110]⟩ : ByteArray))
                        )
                      else
                        (
                          (some (kind1.toList == ((⟨#[97, 117, 116, 111, 109, 111, 114, 112, 104]⟩ : ByteArray)).toList)).bind fun t19 =>
                          bif t19 then
                            (
                              some ((⟨#[102, 109]⟩ : ByteArray))
                            )
                          else
                            (
                              some ((⟨#[]⟩ : ByteArray))
                            )
                        )
                    )
                )
            )
        )
    )
def r_spec_foInside (vs1 : ByteArray) (first2 : Int) (last3 : Int) : Option (ByteArray × Bool) :=
  (bif (ltI ((vs1.size : Int)) 2) then some true else ((getB vs1 0).bind fun e5 => some (!eqI e5 first2))).bind fun b6 =>
  (bif b6 then some true else ((getB vs1 (w64 (((vs1.size : Int)) - 1))).bind fun e8 => some (!eqI e8 last3))).bind fun b9 =>
  bif b9 then
    (
      some (((⟨#[]⟩ : ByteArray), false))
    )
  else
    (
      (slc vs1.size 1 (w64 (((vs1.size : Int)) - 1))).bind fun u11 =>
      some ((vs1.extract (Int.toNat 1) (Int.toNat (w64 (((vs1.size : Int)) - 1))), true))
    )
def r_spec_l1In (vn1 : Int) (lo2 : Int) (hi3 : Int) : Option Bool :=
  some (bif (leI lo2 vn1) then (leI vn1 hi3) else false)
def r_spec_nuRead_L10 (vs1 : ByteArray) : Nat → Int → Int → Option (Int ⊕ Int)
  | 0, _, _ => none
  | n + 1, vn8, i9 =>
    bif (ltI i9 ((vs1.size : Int))) then
      (
        (getB vs1 i9).bind fun e13 =>
        (bif (ltI e13 48) then some true else ((getB vs1 i9).bind fun e15 => some (ltI 57 e15))).bind fun b16 =>
        bif b16 then
          (
            some (.inr ((-1)))
          )
        else
          (
            (getB vs1 i9).bind fun e18 =>
            sI (w64 ((w64 (10 * vn8)) + (IntKind.i64.wrap (IntKind.u8.wrap (e18 - 48))))) fun vn19 =>
            sI (w64 (i9 + 1)) fun i20 =>
            r_spec_nuRead_L10 vs1 n vn19 i20
          )
      )
    else
      (
        some (.inl vn8)
      )
def r_spec_nuRead (vs1 : ByteArray) : Option Int :=
  (r_spec_l1In ((vs1.size : Int)) 1 10).bind fun y2 =>
  (bif (!y2) then some true else ((getB vs1 0).bind fun e4 => some (bif (eqI e4 48) then (ltI 1 ((vs1.size : Int))) else false))).bind fun b6 =>
  bif b6 then
    (
      some (-1)
    )
  else
    (
      (r_spec_nuRead_L10 vs1 FU 0 0).bind fun qo11 =>
      match qo11 with
      | .inr r => some r
      | .inl o11 =>
        some o11
    )
def r_spec_foInt (vs1 : ByteArray) : Option (Int × Bool) :=
  (bif (ltI 1 ((vs1.size : Int))) then ((getB vs1 0).bind fun e3 => some (eqI e3 45)) else some false).bind fun b4 =>
  (
    bif b4 then
      (
        (slc vs1.size 1 ((vs1.size : Int))).bind fun u7 =>
        some (vs1.extract (Int.toNat 1) (Int.toNat ((vs1.size : Int))))
      )
    else
      (
        some vs1
      )
  ).bind fun j5 =>
  (r_spec_nuRead j5).bind fun y8 =>
  (some (bif (bif (ltI y8 0) then true else (bif b4 then (eqI y8 0) else false)) then true else (ltI 1000000 y8))).bind fun t12 =>
  bif t12 then
    (
      some ((0, false))
    )
  else
    (
      bif b4 then
        (
          sI (w64 (0 - y8)) fun t15 =>
          some ((t15, true))
        )
      else
        (
          some ((y8, true))
        )
    )
def r_spec_foInts_L8 (y4 : List ByteArray) : Nat → Int → List Int → Option (List Int ⊕ List Int)
  | 0, _, _ => none
  | n + 1, t6, l7 =>
    bif (ltI t6 ((y4.length : Int))) then
      (
        (getI y4 t6).bind fun e11 =>
        (getI y4 t6).bind fun e12 =>
        (r_spec_foInt e12).bind fun y13 =>
        bif (!y13.2) then
          (
            some (.inr ((([] : List Int))))
          )
        else
          (
            (room (l7.length + ([y13.1]).length)).bind fun u15 =>
            sI (w64 (t6 + 1)) fun t16 =>
            r_spec_foInts_L8 y4 n t16 (l7 ++ ([y13.1]))
          )
      )
    else
      (
        some (.inl l7)
      )
def r_spec_foInts (vs1 : ByteArray) (b2 : Int) (count3 : Int) : Option (List Int) :=
  (r_spec_l1Split vs1 b2).bind fun y4 =>
  bif (!eqI ((y4.length : Int)) count3) then
    (
      some (([] : List Int))
    )
  else
    (
      (r_spec_foInts_L8 y4 FU 0 (([] : List Int))).bind fun qo9 =>
      match qo9 with
      | .inr r => some r
      | .inl o9 =>
        some o9
    )
def r_spec_foRead (vs1 : ByteArray) : Option (((Int × Int × Int)) × Bool) :=
  (r_spec_foInside vs1 40 41).bind fun y2 =>
  (r_spec_foInts y2.1 44 3).bind fun y3 =>
  bif (bif (!y2.2) then true else (!eqI ((y3.length : Int)) 3)) then
    (
      some (((0, 0, 0), false))
    )
  else
    (
      (getI y3 0).bind fun e6 =>
      (getI y3 0).bind fun e7 =>
      (getI y3 1).bind fun e8 =>
      (getI y3 1).bind fun e9 =>
      (getI y3 2).bind fun e10 =>
      (getI y3 2).bind fun e11 =>
      some (((e7, e9, e11), true))
    )
def r_spec_foReadMatrix (vs1 : ByteArray) : Option (((Int × Int × Int × Int)) × Bool) :=
  (r_spec_foInside vs1 91 93).bind fun y2 =>
  (r_spec_l1Split y2.1 59).bind fun y3 =>
  bif (bif (!y2.2) then true else (!eqI ((y3.length : Int)) 2)) then
    (
      some (((0, 0, 0, 0), false))
    )
  else
    (
      (getI y3 0).bind fun e6 =>
      (getI y3 0).bind fun e7 =>
      (r_spec_foInts e7 44 2).bind fun y8 =>
      (getI y3 1).bind fun e9 =>
      (getI y3 1).bind fun e10 =>
      (r_spec_foInts e10 44 2).bind fun y11 =>
      (some (bif (!eqI ((y8.length : Int)) 2) then true else (!eqI ((y11.length : Int)) 2))).bind fun t13 =>
      bif t13 then
        (
          some (((0, 0, 0, 0), false))
        )
      else
        (
          (getI y8 0).bind fun e15 =>
          (getI y8 0).bind fun e16 =>
          (getI y8 1).bind fun e17 =>
          (getI y8 1).bind fun e18 =>
          (getI y11 0).bind fun e19 =>
          (getI y11 0).bind fun e20 =>
          (getI y11 1).bind fun e21 =>
          (getI y11 1).bind fun e22 =>
          some (((e16, e18, e20, e22), true))
        )
    )
def zR (y2 : List ByteArray) (y5 : ByteArray) : Nat → Bool → Int → List ((Int × Int × Int)) → List ((Int × Int × Int × Int)) → List Int → Option (Bool × (List Int) × (List ((Int × Int × Int × Int))) × (List ((Int × Int × Int))))
  | 0, _, _, _, _, _ => none
  | n + 1, ok9, i10, l11, l12, l13 =>
    bif (ltI i10 ((y5.size : Int))) then
      (
        (getI y2 (w64 (i10 + 1))).bind fun e17 =>
        (getI y2 (w64 (i10 + 1))).bind fun e18 =>
        (getB y5 i10).bind fun e19 =>
        bif (eqI e19 102) then
          (
            (r_spec_foRead e18).bind fun y21 =>
            (room (l11.length + ([y21.1]).length)).bind fun u22 =>
            sI (w64 (i10 + 1)) fun i24 =>
            zR y2 y5 n (bif ok9 then y21.2 else false) i24 (l11 ++ ([y21.1])) l12 l13
          )
        else
          (
            bif (eqI e19 109) then
              (
                (r_spec_foReadMatrix e18).bind fun y26 =>
                (room (l12.length + ([y26.1]).length)).bind fun u27 =>
                sI (w64 (i10 + 1)) fun i29 =>
                zR y2 y5 n (bif ok9 then y26.2 else false) i29 l11 (l12 ++ ([y26.1])) l13
              )
            else
              (
                (r_spec_foInt e18).bind fun y30 =>
                (room (l13.length + ([y30.1]).length)).bind fun u31 =>
                sI (w64 (i10 + 1)) fun i33 =>
                zR y2 y5 n (bif ok9 then y30.2 else false) i33 l11 l12 (l13 ++ ([y30.1]))
              )
          )
      )
    else
      (
        some (ok9, l13, l12, l11)
      )
def r_spec_prParse (vs1 : ByteArray) : Option (ByteArray × (((List ((Int × Int × Int))) × (List ((Int × Int × Int × Int))) × (List Int))) × Bool) :=
  (r_spec_l1Split vs1 32).bind fun y2 =>
  (getI y2 0).bind fun e3 =>
  (getI y2 0).bind fun e4 =>
  (r_spec_prWords e4).bind fun y5 =>
  (some (bif (y5.toList == ((⟨#[]⟩ : ByteArray)).toList) then true else (!eqI ((y2.length : Int)) (w64 (((y5.size : Int)) + 1))))).bind fun t7 =>
  bif t7 then
    (
      some (((⟨#[]⟩ : ByteArray), (([] : List ((Int × Int × Int))), ([] : List ((Int × Int × Int × Int))), ([] : List Int)), false))
    )
  else
    (
      (zR y2 y5 FU true 0 (([] : List ((Int × Int × Int)))) (([] : List ((Int × Int × Int × Int)))) (([] : List Int))).bind fun o15 =>
      (getI y2 0).bind fun e34 =>
      (getI y2 0).bind fun e35 =>
      some ((e35, (o15.2.2.2, o15.2.2.1, o15.2.1), o15.1))
    )
def r_spec_foDet (vm1 : (Int × Int × Int × Int)) : Option Int :=
  sI (w64 ((w64 (vm1.1 * vm1.2.2.2)) - (w64 (vm1.2.1 * vm1.2.2.1)))) fun t2 =>
  some t2
def r_spec_foValue (f1 : (Int × Int × Int)) (x2 : Int) (y3 : Int) : Option Int :=
  sI (w64 ((w64 ((w64 ((w64 (f1.1 * x2)) * x2)) + (w64 ((w64 (f1.2.1 * x2)) * y3)))) + (w64 ((w64 (f1.2.2 * y3)) * y3)))) fun t4 =>
  some t4
def r_spec_foPolar (f1 : (Int × Int × Int)) (x2 : Int) (y3 : Int) (u4 : Int) (v5 : Int) : Option Int :=
  sI (w64 ((w64 ((w64 ((w64 ((w64 (2 * f1.1)) * x2)) * u4)) + (w64 (f1.2.1 * (w64 ((w64 (x2 * v5)) + (w64 (y3 * u4)))))))) + (w64 ((w64 ((w64 (2 * f1.2.2)) * y3)) * v5)))) fun t6 =>
  some t6
def r_spec_foAct (f1 : (Int × Int × Int)) (vm2 : (Int × Int × Int × Int)) : Option (Int × Int × Int) :=
  (r_spec_foValue f1 vm2.1 vm2.2.2.1).bind fun y3 =>
  (r_spec_foPolar f1 vm2.1 vm2.2.2.1 vm2.2.1 vm2.2.2.2).bind fun y4 =>
  (r_spec_foValue f1 vm2.2.1 vm2.2.2.2).bind fun y5 =>
  some ((y3, y4, y5))
def r_spec_prTakes (f1 : (Int × Int × Int)) (vm2 : (Int × Int × Int × Int)) (g3 : (Int × Int × Int)) : Option Bool :=
  (r_spec_foDet vm2).bind fun y4 =>
  (bif (eqI y4 1) then ((r_spec_foAct f1 vm2).bind fun y6 => some (((y6.1 == g3.1) && ((y6.2.1 == g3.2.1) && (y6.2.2 == g3.2.2))))) else some false).bind fun b7 =>
  some b7
def r_spec_nuGood (vn1 : Int) : Option Bool :=
  (r_spec_l1In vn1 (-1000000) 1000000).bind fun y2 =>
  some y2
def r_spec_foGood (f1 : (Int × Int × Int)) : Option Bool :=
  (r_spec_nuGood f1.1).bind fun y2 =>
  (bif y2 then ((r_spec_nuGood f1.2.1).bind fun y4 => some y4) else some false).bind fun b5 =>
  (bif b5 then ((r_spec_nuGood f1.2.2).bind fun y7 => some y7) else some false).bind fun b8 =>
  some b8
def r_spec_foDisc (f1 : (Int × Int × Int)) : Option Int :=
  sI (w64 ((w64 (f1.2.1 * f1.2.1)) - (w64 ((w64 (4 * f1.1)) * f1.2.2)))) fun t2 =>
  some t2
def r_spec_foDefinite (f1 : (Int × Int × Int)) : Option Bool :=
  (r_spec_foGood f1).bind fun y2 =>
  (bif y2 then ((r_spec_foDisc f1).bind fun y4 => some (ltI y4 0)) else some false).bind fun b5 =>
  some (bif b5 then (ltI 0 f1.1) else false)
def r_spec_reIs (f1 : (Int × Int × Int)) : Option Bool :=
  (some (bif (bif (ltI (w64 (0 - f1.1)) f1.2.1) then (leI f1.2.1 f1.1) else false) then (bif (ltI f1.1 f1.2.2) then true else (bif (eqI f1.1 f1.2.2) then (leI 0 f1.2.1) else false)) else false)).bind fun t6 =>
  some t6
def r_spec_l1Most (a1 : Int) (b2 : Int) : Option Int :=
  bif (ltI b2 a1) then
    (
      some a1
    )
  else
    (
      some b2
    )
def r_spec_l1Abs (vn1 : Int) : Option Int :=
  (r_spec_l1Most vn1 (w64 (0 - vn1))).bind fun y2 =>
  some y2
def r_spec_nuGcd_L7 : Nat → Int → Int → Option Int
  | 0, _, _ => none
  | n + 1, a5, b6 =>
    bif (!eqI b6 0) then
      (
        (nz b6).bind fun z10 =>
        sI (Int.tmod a5 b6) fun b11 =>
        r_spec_nuGcd_L7 n b6 b11
      )
    else
      (
        some a5
      )
def r_spec_nuGcd (a1 : Int) (b2 : Int) : Option Int :=
  (r_spec_l1Abs a1).bind fun y3 =>
  (r_spec_l1Abs b2).bind fun y4 =>
  (r_spec_nuGcd_L7 FU y3 y4).bind fun o8 =>
  some o8
def r_spec_nuMod (a1 : Int) (vm2 : Int) : Option Int :=
  (nz vm2).bind fun z3 =>
  sI (Int.tmod a1 vm2) fun vr4 =>
  bif (ltI vr4 0) then
    (
      sI (w64 (vr4 + vm2)) fun vr6 =>
      some vr6
    )
  else
    (
      some vr4
    )
def r_spec_reDisc (d1 : Int) : Option Bool :=
  (r_spec_l1In d1 (-2000) (-3)).bind fun y2 =>
  (bif y2 then ((r_spec_nuMod d1 4).bind fun y4 => some (ltI y4 2)) else some false).bind fun b5 =>
  some b5
def r_spec_nuPrime_L4 (vn1 : Int) : Nat → Int → Option (Unit ⊕ Bool)
  | 0, _ => none
  | n + 1, d3 =>
    bif (leI (w64 (d3 * d3)) vn1) then
      (
        (nz d3).bind fun z7 =>
        bif (eqI (Int.tmod vn1 d3) 0) then
          (
            some (.inr false)
          )
        else
          (
            sI (w64 (d3 + 1)) fun d9 =>
            r_spec_nuPrime_L4 vn1 n d9
          )
      )
    else
      (
        some (.inl ())
      )
def r_spec_nuPrime (vn1 : Int) : Option Bool :=
  bif (ltI vn1 2) then
    (
      some false
    )
  else
    (
      (r_spec_nuPrime_L4 vn1 FU 2).bind fun qo5 =>
      match qo5 with
      | .inr r => some r
      | .inl o5 =>
        some true
    )
def r_spec_nuExponent_L5 (p2 : Int) : Nat → Int → Int → Option Int
  | 0, _, _ => none
  | n + 1, vn3, k4 =>
    (nz p2).bind fun z7 =>
    bif (eqI (Int.tmod vn3 p2) 0) then
      (
        (nz p2).bind fun z9 =>
        sI (w64 (Int.tdiv vn3 p2)) fun vn10 =>
        sI (w64 (k4 + 1)) fun k11 =>
        r_spec_nuExponent_L5 p2 n vn10 k11
      )
    else
      (
        some k4
      )
def r_spec_nuExponent (vn1 : Int) (p2 : Int) : Option Int :=
  (r_spec_nuExponent_L5 p2 FU vn1 0).bind fun o6 =>
  some o6
def r_spec_roDisc_L5 (d1 : Int) (vn2 : Int) : Nat → Int → List Int → Option (List Int)
  | 0, _, _ => none
  | n + 1, b3, l4 =>
    bif (ltI b3 (w64 (2 * vn2))) then
      (
        (nz (w64 (4 * vn2))).bind fun z8 =>
        (some (eqI (Int.tmod (w64 ((w64 (b3 * b3)) - d1)) (w64 (4 * vn2))) 0)).bind fun t9 =>
        bif t9 then
          (
            (room (l4.length + ([b3]).length)).bind fun u11 =>
            sI (w64 (b3 + 1)) fun b12 =>
            r_spec_roDisc_L5 d1 vn2 n b12 (l4 ++ ([b3]))
          )
        else
          (
            sI (w64 (b3 + 1)) fun b13 =>
            r_spec_roDisc_L5 d1 vn2 n b13 l4
          )
      )
    else
      (
        some l4
      )
def r_spec_roDisc (d1 : Int) (vn2 : Int) : Option (List Int) :=
  (r_spec_roDisc_L5 d1 vn2 FU 0 (([] : List Int))).bind fun o6 =>
  some o6
def r_spec_vaForm (f1 : (Int × Int × Int)) : Option Bool :=
  (r_spec_foDefinite f1).bind fun y2 =>
  (bif y2 then ((r_spec_foDisc f1).bind fun y4 => some (leI (-2000) y4)) else some false).bind fun b5 =>
  some b5
def r_spec_foContent (f1 : (Int × Int × Int)) : Option Int :=
  (r_spec_nuGcd f1.1 f1.2.1).bind fun y2 =>
  (r_spec_nuGcd y2 f1.2.2).bind fun y3 =>
  some y3
def r_spec_coGood (f1 : (Int × Int × Int)) : Option Bool :=
  (r_spec_vaForm f1).bind fun y2 =>
  (bif y2 then ((r_spec_foContent f1).bind fun y4 => some (eqI y4 1)) else some false).bind fun b5 =>
  some b5
def r_spec_coTwo (f1 : (Int × Int × Int)) (g2 : (Int × Int × Int)) : Option Bool :=
  (r_spec_coGood f1).bind fun y3 =>
  (bif y3 then ((r_spec_coGood g2).bind fun y5 => some y5) else some false).bind fun b6 =>
  (bif b6 then ((r_spec_foDisc f1).bind fun y8 => (r_spec_foDisc g2).bind fun y9 => some (eqI y8 y9)) else some false).bind fun b10 =>
  some b10
def r_spec_l1All_L5 (hi3 : Int) (l1 : List Int) (lo2 : Int) : Nat → Int → Option (Unit ⊕ Bool)
  | 0, _ => none
  | n + 1, t4 =>
    bif (ltI t4 ((l1.length : Int))) then
      (
        (getI l1 t4).bind fun e8 =>
        (r_spec_l1In e8 lo2 hi3).bind fun y9 =>
        bif (!y9) then
          (
            some (.inr false)
          )
        else
          (
            sI (w64 (t4 + 1)) fun t11 =>
            r_spec_l1All_L5 hi3 l1 lo2 n t11
          )
      )
    else
      (
        some (.inl ())
      )
def r_spec_l1All (l1 : List Int) (lo2 : Int) (hi3 : Int) : Option Bool :=
  (r_spec_l1All_L5 hi3 l1 lo2 FU 0).bind fun qo6 =>
  match qo6 with
  | .inr r => some r
  | .inl o6 =>
    some true
def r_spec_coFits_L13 (f1 : (Int × Int × Int)) (g2 : (Int × Int × Int)) (i6 : Int) (k4 : List Int) (vh3 : (Int × Int × Int)) : Nat → Int → List Int → Option (List Int)
  | 0, _, _ => none
  | n + 1, j11, l12 =>
    bif (ltI j11 4) then
      (
        sI (w64 ((w64 ((w64 (3 * (w64 ((w64 (Int.tdiv i6 2)) + (w64 (Int.tdiv j11 2)))))) + (Int.tmod i6 2))) + (Int.tmod j11 2))) fun vat16 =>
        (getI l12 vat16).bind fun e17 =>
        (getI l12 vat16).bind fun e18 =>
        (getI k4 i6).bind fun e19 =>
        (getI k4 j11).bind fun e20 =>
        (getI k4 i6).bind fun e21 =>
        (getI k4 (w64 (4 + j11))).bind fun e22 =>
        (getI k4 (w64 (4 + i6))).bind fun e23 =>
        (getI k4 (w64 (4 + j11))).bind fun e24 =>
        (getI l12 vat16).bind fun e25 =>
        (getI l12 vat16).bind fun e26 =>
        (some (l12.set (Int.toNat (vat16)) (w64 (e18 + (w64 ((w64 ((w64 ((w64 (vh3.1 * e19)) * e20)) + (w64 ((w64 (vh3.2.1 * e21)) * e22)))) + (w64 ((w64 (vh3.2.2 * e23)) * e24)))))))).bind fun l27 =>
        sI (w64 (j11 + 1)) fun j28 =>
        r_spec_coFits_L13 f1 g2 i6 k4 vh3 n j28 l27
      )
    else
      (
        some l12
      )
def r_spec_coFits_L8 (f1 : (Int × Int × Int)) (g2 : (Int × Int × Int)) (k4 : List Int) (vh3 : (Int × Int × Int)) : Nat → Int → List Int → Option (List Int)
  | 0, _, _ => none
  | n + 1, i6, l7 =>
    bif (ltI i6 4) then
      (
        (r_spec_coFits_L13 f1 g2 i6 k4 vh3 FU 0 l7).bind fun o14 =>
        sI (w64 (i6 + 1)) fun i29 =>
        r_spec_coFits_L8 f1 g2 k4 vh3 n i29 o14
      )
    else
      (
        some l7
      )
def r_spec_coFits_L31 (f1 : (Int × Int × Int)) (g2 : (Int × Int × Int)) (o9 : List Int) : Nat → Int → Option (Unit ⊕ Bool)
  | 0, _ => none
  | n + 1, i30 =>
    bif (ltI i30 9) then
      (
        (getI o9 i30).bind fun e34 =>
        (getI o9 i30).bind fun e35 =>
        (getI ([[f1.1, f1.2.1, f1.2.2], [g2.1, g2.2.1, g2.2.2]] : List (List Int)) 0).bind fun e36 =>
        (getI ([[f1.1, f1.2.1, f1.2.2], [g2.1, g2.2.1, g2.2.2]] : List (List Int)) 0).bind fun e37 =>
        (getI e37 (w64 (Int.tdiv i30 3))).bind fun e38 =>
        (getI ([[f1.1, f1.2.1, f1.2.2], [g2.1, g2.2.1, g2.2.2]] : List (List Int)) 1).bind fun e39 =>
        (getI ([[f1.1, f1.2.1, f1.2.2], [g2.1, g2.2.1, g2.2.2]] : List (List Int)) 1).bind fun e40 =>
        (getI e40 (Int.tmod i30 3)).bind fun e41 =>
        bif (!eqI e35 (w64 (e38 * e41))) then
          (
            some (.inr false)
          )
        else
          (
            sI (w64 (i30 + 1)) fun i43 =>
            r_spec_coFits_L31 f1 g2 o9 n i43
          )
      )
    else
      (
        some (.inl ())
      )
def r_spec_coFits (f1 : (Int × Int × Int)) (g2 : (Int × Int × Int)) (vh3 : (Int × Int × Int)) (k4 : List Int) : Option Bool :=
  (mk 9 9).bind fun u5 =>
  (r_spec_coFits_L8 f1 g2 k4 vh3 FU 0 (List.replicate (Int.toNat (9)) ((0 : Int)))).bind fun o9 =>
  (r_spec_coFits_L31 f1 g2 o9 FU 0).bind fun qo32 =>
  match qo32 with
  | .inr r => some r
  | .inl o32 =>
    some true
def r_spec_IsComposition (f1 : (Int × Int × Int)) (g2 : (Int × Int × Int)) (vh3 : (Int × Int × Int)) (k4 : List Int) : Option (Bool × Bool) :=
  (r_spec_coTwo f1 g2).bind fun y5 =>
  (bif (!y5) then some true else ((r_spec_coTwo f1 vh3).bind fun y7 => some (!y7))).bind fun b8 =>
  (bif b8 then some true else ((r_spec_reIs vh3).bind fun y10 => some (!y10))).bind fun b11 =>
  (bif (bif b11 then true else (!eqI ((k4.length : Int)) 8)) then some true else ((r_spec_l1All k4 (-1000000) 1000000).bind fun y14 => some (!y14))).bind fun b15 =>
  bif b15 then
    (
      some ((false, false))
    )
  else
    (
      (r_spec_coFits f1 g2 vh3 k4).bind fun y17 =>
      some ((y17, true))
    )
def r_spec_coOne (d1 : Int) : Option (Int × Int × Int) :=
  (r_spec_nuMod d1 2).bind fun y2 =>
  sI (w64 (Int.tdiv (w64 (y2 - d1)) 4)) fun f3 =>
  some ((1, y2, f3))
def r_spec_reNormal (f1 : (Int × Int × Int)) : Option Int :=
  (r_spec_nuMod (w64 (f1.1 - f1.2.1)) (w64 (2 * f1.1))).bind fun y2 =>
  (nz (w64 (2 * f1.1))).bind fun z3 =>
  sI (w64 (Int.tdiv (w64 ((w64 (f1.1 - f1.2.1)) - y2)) (w64 (2 * f1.1)))) fun t4 =>
  some t4
def r_spec_reMove (f1 : (Int × Int × Int)) : Option (Int × Int × Int × Int) :=
  (r_spec_reNormal f1).bind fun y2 =>
  bif (!eqI y2 0) then
    (
      some ((1, y2, 0, 1))
    )
  else
    (
      (r_spec_reIs f1).bind fun y4 =>
      bif y4 then
        (
          some ((1, 0, 0, 1))
        )
      else
        (
          some ((0, -1, 1, 0))
        )
    )
def r_spec_foMul (vm1 : (Int × Int × Int × Int)) (vn2 : (Int × Int × Int × Int)) : Option (Int × Int × Int × Int) :=
  sI (w64 ((w64 (vm1.1 * vn2.1)) + (w64 (vm1.2.1 * vn2.2.2.1)))) fun f3 =>
  sI (w64 ((w64 (vm1.1 * vn2.2.1)) + (w64 (vm1.2.1 * vn2.2.2.2)))) fun f4 =>
  sI (w64 ((w64 (vm1.2.2.1 * vn2.1)) + (w64 (vm1.2.2.2 * vn2.2.2.1)))) fun f5 =>
  sI (w64 ((w64 (vm1.2.2.1 * vn2.2.1)) + (w64 (vm1.2.2.2 * vn2.2.2.2)))) fun f6 =>
  some ((f3, f4, f5, f6))
def r_spec_reReduce_L9 : Nat → Int → Int → Int → Int → Int → Int → Int → Option (Int × Int × Int × Int × Int × Int × Int)
  | 0, _, _, _, _, _, _, _ => none
  | n + 1, f2, f3, f4, f5, f6, f7, f8 =>
    (r_spec_reIs ((f6, f7, f8))).bind fun y11 =>
    bif (!y11) then
      (
        (r_spec_reMove ((f6, f7, f8))).bind fun y13 =>
        (r_spec_foAct ((f6, f7, f8)) y13).bind fun y14 =>
        (r_spec_foMul ((f2, f3, f4, f5)) y13).bind fun y15 =>
        r_spec_reReduce_L9 n y15.1 y15.2.1 y15.2.2.1 y15.2.2.2 y14.1 y14.2.1 y14.2.2
      )
    else
      (
        some (f2, f3, f4, f5, f6, f7, f8)
      )
def r_spec_reReduce (f1 : (Int × Int × Int)) : Option (((Int × Int × Int)) × ((Int × Int × Int × Int))) :=
  (r_spec_reReduce_L9 FU 1 0 0 1 f1.1 f1.2.1 f1.2.2).bind fun o10 =>
  some ((o10.2.2.2.2, (o10.1, o10.2.1, o10.2.2.1, o10.2.2.2.1)))
def r_spec_reClass (f1 : (Int × Int × Int)) : Option (Int × Int × Int) :=
  (r_spec_reReduce f1).bind fun y2 =>
  some y2.1
def r_spec_foOpposite (f1 : (Int × Int × Int)) : Option (Int × Int × Int) :=
  sI (w64 (0 - f1.2.1)) fun f2 =>
  some ((f1.1, f2, f1.2.2))
def r_spec_coInverse (f1 : (Int × Int × Int)) : Option (Int × Int × Int) :=
  (r_spec_foOpposite f1).bind fun y2 =>
  (r_spec_reClass y2).bind fun y3 =>
  some y3
def r_spec_coPoint_L12 (a2 : Int) (g1 : (Int × Int × Int)) (k3 : Int) (x7 : Int) : Nat → Int → Option (Unit ⊕ (Int × Int))
  | 0, _ => none
  | n + 1, y11 =>
    bif (leI y11 k3) then
      (
        (r_spec_l1Most x7 y11).bind fun y15 =>
        (bif (eqI y15 k3) then ((r_spec_nuGcd x7 y11).bind fun y17 => some (eqI y17 1)) else some false).bind fun b18 =>
        (bif b18 then ((r_spec_foValue g1 x7 y11).bind fun y20 => (r_spec_nuGcd y20 a2).bind fun y21 => some (eqI y21 1)) else some false).bind fun b22 =>
        bif b22 then
          (
            some (.inr (((x7, y11))))
          )
        else
          (
            sI (w64 (y11 + 1)) fun y24 =>
            r_spec_coPoint_L12 a2 g1 k3 x7 n y24
          )
      )
    else
      (
        some (.inl ())
      )
def r_spec_coPoint_L8 (a2 : Int) (g1 : (Int × Int × Int)) (k3 : Int) : Nat → Int → Option (Unit ⊕ (Int × Int))
  | 0, _ => none
  | n + 1, x7 =>
    bif (leI x7 k3) then
      (
        (r_spec_coPoint_L12 a2 g1 k3 x7 FU 0).bind fun qo13 =>
        match qo13 with
        | .inr r => some (.inr r)
        | .inl o13 =>
          sI (w64 (x7 + 1)) fun x25 =>
          r_spec_coPoint_L8 a2 g1 k3 n x25
      )
    else
      (
        some (.inl ())
      )
def r_spec_coPoint_L4 (a2 : Int) (g1 : (Int × Int × Int)) : Nat → Int → Option (Unit ⊕ (Int × Int))
  | 0, _ => none
  | n + 1, k3 =>
    bif (leI k3 100) then
      (
        (r_spec_coPoint_L8 a2 g1 k3 FU 0).bind fun qo9 =>
        match qo9 with
        | .inr r => some (.inr r)
        | .inl o9 =>
          sI (w64 (k3 + 1)) fun k26 =>
          r_spec_coPoint_L4 a2 g1 n k26
      )
    else
      (
        some (.inl ())
      )
def r_spec_coPoint (g1 : (Int × Int × Int)) (a2 : Int) : Option (Int × Int) :=
  (r_spec_coPoint_L4 a2 g1 FU 1).bind fun qo5 =>
  match qo5 with
  | .inr r => some r
  | .inl o5 =>
    some ((1, 0))
def r_spec_l1Sign (vn1 : Int) : Option Int :=
  bif (ltI 0 vn1) then
    (
      some 1
    )
  else
    (
      bif (ltI vn1 0) then
        (
          some (-1)
        )
      else
        (
          some 0
        )
    )
def r_spec_nuInverse_L8 (vm2 : Int) : Nat → Int → Int → Int → Int → Option (Int × Int)
  | 0, _, _, _, _ => none
  | n + 1, vr4, next5, x6, y7 =>
    bif (!eqI next5 0) then
      (
        (nz next5).bind fun z11 =>
        sI (w64 (Int.tdiv vr4 next5)) fun q12 =>
        sI (w64 (vr4 - (w64 (q12 * next5)))) fun next13 =>
        sI (w64 (x6 - (w64 (q12 * y7)))) fun y14 =>
        r_spec_nuInverse_L8 vm2 n next5 next13 y7 y14
      )
    else
      (
        some (vr4, x6)
      )
def r_spec_nuInverse (a1 : Int) (vm2 : Int) : Option Int :=
  (r_spec_nuMod a1 vm2).bind fun y3 =>
  (r_spec_nuInverse_L8 vm2 FU vm2 y3 0 1).bind fun o9 =>
  bif (!eqI o9.1 1) then
    (
      some (-1)
    )
  else
    (
      (r_spec_nuMod o9.2 vm2).bind fun y16 =>
      some y16
    )
def r_spec_nuBezout (a1 : Int) (b2 : Int) : Option (Int × Int × Int) :=
  (r_spec_nuGcd a1 b2).bind fun y3 =>
  bif (eqI b2 0) then
    (
      (r_spec_l1Sign a1).bind fun y5 =>
      some ((y3, y5, 0))
    )
  else
    (
      (nz y3).bind fun z6 =>
      (r_spec_l1Abs b2).bind fun y7 =>
      (nz y3).bind fun z8 =>
      (r_spec_nuInverse (w64 (Int.tdiv a1 y3)) (w64 (Int.tdiv y7 y3))).bind fun y9 =>
      (nz b2).bind fun z10 =>
      sI (w64 (Int.tdiv (w64 (y3 - (w64 (a1 * y9)))) b2)) fun t11 =>
      some ((y3, y9, t11))
    )
def r_spec_vaComplete (f1 : (Int × Int × Int)) (x2 : Int) (y3 : Int) : Option (((Int × Int × Int)) × ((Int × Int × Int × Int))) :=
  (r_spec_nuBezout x2 y3).bind fun y4 =>
  (r_spec_foValue f1 x2 y3).bind fun y5 =>
  sI (w64 (0 - y4.2.2)) fun q6 =>
  (r_spec_foPolar f1 x2 y3 q6 y4.2.1).bind fun y7 =>
  (r_spec_nuMod y7 (w64 (2 * y5))).bind fun y8 =>
  (nz (w64 (2 * y5))).bind fun z9 =>
  sI (w64 (Int.tdiv (w64 (y8 - y7)) (w64 (2 * y5)))) fun t10 =>
  sI (w64 (q6 + (w64 (x2 * t10)))) fun f11 =>
  sI (w64 (y4.2.1 + (w64 (y3 * t10)))) fun f12 =>
  sI (w64 (y7 + (w64 ((w64 (2 * y5)) * t10)))) fun b13 =>
  (r_spec_foDisc f1).bind fun y14 =>
  (nz (w64 (4 * y5))).bind fun z15 =>
  sI (w64 (Int.tdiv (w64 ((w64 (b13 * b13)) - y14)) (w64 (4 * y5)))) fun f16 =>
  some (((y5, b13, f16), (x2, f11, y3, f12)))
def r_spec_nuCommon (a1 : Int) (vm2 : Int) (b3 : Int) (vn4 : Int) : Option (Int × Int × Bool) :=
  (r_spec_nuGcd vm2 vn4).bind fun y5 =>
  (nz y5).bind fun z6 =>
  bif (!eqI (Int.tmod (w64 (b3 - a1)) y5) 0) then
    (
      some ((0, 0, false))
    )
  else
    (
      (nz y5).bind fun z8 =>
      (nz y5).bind fun z9 =>
      (nz y5).bind fun z10 =>
      (r_spec_nuInverse (w64 (Int.tdiv vm2 y5)) (w64 (Int.tdiv vn4 y5))).bind fun y11 =>
      (nz y5).bind fun z12 =>
      (r_spec_nuMod (w64 ((w64 (Int.tdiv (w64 (b3 - a1)) y5)) * y11)) (w64 (Int.tdiv vn4 y5))).bind fun y13 =>
      (nz y5).bind fun z14 =>
      sI (w64 ((w64 (Int.tdiv vm2 y5)) * vn4)) fun all15 =>
      (r_spec_nuMod (w64 (a1 + (w64 (vm2 * y13)))) all15).bind fun y16 =>
      some ((y16, all15, true))
    )
def r_spec_coShift (t1 : Int) : Option (Int × Int × Int × Int) :=
  some ((1, t1, 0, 1))
def r_spec_coUnite (f1 : (Int × Int × Int)) (g2 : (Int × Int × Int)) : Option (((Int × Int × Int)) × ((Int × Int × Int)) × ((Int × Int × Int × Int)) × ((Int × Int × Int × Int))) :=
  (r_spec_reReduce f1).bind fun y3 =>
  (r_spec_reReduce g2).bind fun y4 =>
  (r_spec_coPoint y4.1 y3.1.1).bind fun y5 =>
  (r_spec_vaComplete y4.1 y5.1 y5.2).bind fun y6 =>
  (r_spec_foMul y4.2 y6.2).bind fun y7 =>
  (r_spec_nuMod y3.1.2.1 (w64 (2 * y3.1.1))).bind fun y8 =>
  (r_spec_nuCommon y8 (w64 (2 * y3.1.1)) y6.1.2.1 (w64 (2 * y6.1.1))).bind fun y9 =>
  (nz (w64 (2 * y3.1.1))).bind fun z10 =>
  (r_spec_coShift (w64 (Int.tdiv (w64 (y9.1 - y3.1.2.1)) (w64 (2 * y3.1.1))))).bind fun y11 =>
  (r_spec_foMul y3.2 y11).bind fun y12 =>
  (nz (w64 (2 * y6.1.1))).bind fun z13 =>
  (r_spec_coShift (w64 (Int.tdiv (w64 (y9.1 - y6.1.2.1)) (w64 (2 * y6.1.1))))).bind fun y14 =>
  (r_spec_foMul y7 y14).bind fun y15 =>
  (r_spec_foDisc y3.1).bind fun y16 =>
  (nz (w64 ((w64 (4 * y3.1.1)) * y6.1.1))).bind fun z17 =>
  sI (w64 (Int.tdiv (w64 ((w64 (y9.1 * y9.1)) - y16)) (w64 ((w64 (4 * y3.1.1)) * y6.1.1)))) fun c18 =>
  sI (w64 (y3.1.1 * c18)) fun f19 =>
  sI (w64 (y6.1.1 * c18)) fun f20 =>
  some (((y3.1.1, y9.1, f20), (y6.1.1, y9.1, f19), y12, y15))
def r_spec_coJoined (a1 : (Int × Int × Int)) (e2 : (Int × Int × Int)) : Option (Int × Int × Int) :=
  (nz e2.1).bind fun z3 =>
  sI (w64 (a1.1 * e2.1)) fun f4 =>
  sI (w64 (Int.tdiv a1.2.2 e2.1)) fun f5 =>
  some ((f4, a1.2.1, f5))
def r_spec_coMul (f1 : (Int × Int × Int)) (g2 : (Int × Int × Int)) : Option (Int × Int × Int) :=
  (r_spec_coUnite f1 g2).bind fun y3 =>
  (r_spec_coJoined y3.1 y3.2.1).bind fun y4 =>
  (r_spec_reClass y4).bind fun y5 =>
  some y5
def r_spec_coPower_L17 : Nat → Int → Int → Int → Int → Int → Int → Int → Option (Int × Int × Int)
  | 0, _, _, _, _, _, _, _ => none
  | n + 1, k10, f11, f12, f13, f14, f15, f16 =>
    bif (ltI 0 k10) then
      (
        (
          bif (eqI (Int.tmod k10 2) 1) then
            (
              (r_spec_coMul ((f11, f12, f13)) ((f14, f15, f16))).bind fun y22 =>
              some (y22.1, y22.2.1, y22.2.2)
            )
          else
            (
              some (f11, f12, f13)
            )
        ).bind fun j20 =>
        (r_spec_coMul ((f14, f15, f16)) ((f14, f15, f16))).bind fun y23 =>
        sI (w64 (Int.tdiv k10 2)) fun k24 =>
        r_spec_coPower_L17 n k24 j20.1 j20.2.1 j20.2.2 y23.1 y23.2.1 y23.2.2
      )
    else
      (
        some (f11, f12, f13)
      )
def r_spec_coPower (f1 : (Int × Int × Int)) (k2 : Int) : Option (Int × Int × Int) :=
  (r_spec_reClass f1).bind fun y3 =>
  (
    bif (ltI k2 0) then
      (
        (r_spec_coInverse y3).bind fun y6 =>
        sI (w64 (0 - k2)) fun k7 =>
        some (k7, y6.1, y6.2.1, y6.2.2)
      )
    else
      (
        some (k2, y3.1, y3.2.1, y3.2.2)
      )
  ).bind fun j4 =>
  (r_spec_foDisc j4.2).bind fun y8 =>
  (r_spec_coOne y8).bind fun y9 =>
  (r_spec_coPower_L17 FU j4.1 y9.1 y9.2.1 y9.2.2 j4.2.1 j4.2.2.1 j4.2.2.2).bind fun o18 =>
  some o18
def r_spec_nuFactors_L10 (d3 : Int) : Nat → Int → List Int → Option (Int × (List Int))
  | 0, _, _ => none
  | n + 1, vn8, l9 =>
    (nz d3).bind fun z12 =>
    bif (eqI (Int.tmod vn8 d3) 0) then
      (
        (room (l9.length + ([d3]).length)).bind fun u14 =>
        (nz d3).bind fun z15 =>
        sI (w64 (Int.tdiv vn8 d3)) fun vn16 =>
        r_spec_nuFactors_L10 d3 n vn16 (l9 ++ ([d3]))
      )
    else
      (
        some (vn8, l9)
      )
def r_spec_nuFactors_L5 : Nat → Int → Int → List Int → Option (Int × (List Int))
  | 0, _, _, _ => none
  | n + 1, vn2, d3, l4 =>
    bif (leI (w64 (d3 * d3)) vn2) then
      (
        (r_spec_nuFactors_L10 d3 FU vn2 l4).bind fun o11 =>
        sI (w64 (d3 + 1)) fun d17 =>
        r_spec_nuFactors_L5 n o11.1 d17 o11.2
      )
    else
      (
        some (vn2, l4)
      )
def r_spec_nuFactors (vn1 : Int) : Option (List Int) :=
  (r_spec_nuFactors_L5 FU vn1 2 (([] : List Int))).bind fun o6 =>
  bif (ltI 1 o6.1) then
    (
      (room (o6.2.length + ([o6.1]).length)).bind fun u19 =>
      some (o6.2 ++ ([o6.1]))
    )
  else
    (
      some o6.2
    )
def r_spec_l1Put_L4 (l1 : List Int) (vn2 : Int) : Nat → Int → Option Int
  | 0, _ => none
  | n + 1, k3 =>
    (bif (ltI k3 ((l1.length : Int))) then ((getI l1 k3).bind fun e7 => some (ltI e7 vn2)) else some false).bind fun b8 =>
    bif b8 then
      (
        sI (w64 (k3 + 1)) fun k10 =>
        r_spec_l1Put_L4 l1 vn2 n k10
      )
    else
      (
        some k3
      )
def r_spec_l1Put (l1 : List Int) (vn2 : Int) : Option (List Int) :=
  (r_spec_l1Put_L4 l1 vn2 FU 0).bind fun o5 =>
  (bif (ltI o5 ((l1.length : Int))) then ((getI l1 o5).bind fun e12 => some (eqI e12 vn2)) else some false).bind fun b13 =>
  bif b13 then
    (
      some l1
    )
  else
    (
      (slc l1.length 0 o5).bind fun u15 =>
      (room ((([] : List Int)).length + (subl l1 0 o5).length)).bind fun u16 =>
      (room (((([] : List Int)) ++ (subl l1 0 o5)).length + ([vn2]).length)).bind fun u17 =>
      (slc l1.length o5 ((l1.length : Int))).bind fun u18 =>
      (room ((((([] : List Int)) ++ (subl l1 0 o5)) ++ ([vn2])).length + (subl l1 o5 ((l1.length : Int))).length)).bind fun u19 =>
      (some ((((([] : List Int)) ++ (subl l1 0 o5)) ++ ([vn2])) ++ (subl l1 o5 ((l1.length : Int))))).bind fun l20 =>
      some l20
    )
def r_spec_nuPrimes_L5 (y2 : List Int) : Nat → List Int → Int → Option (List Int)
  | 0, _, _ => none
  | n + 1, out3, t4 =>
    bif (ltI t4 ((y2.length : Int))) then
      (
        (getI y2 t4).bind fun e8 =>
        (getI y2 t4).bind fun e9 =>
        (r_spec_l1Put out3 e9).bind fun y10 =>
        sI (w64 (t4 + 1)) fun t11 =>
        r_spec_nuPrimes_L5 y2 n y10 t11
      )
    else
      (
        some out3
      )
def r_spec_nuPrimes (vn1 : Int) : Option (List Int) :=
  (r_spec_nuFactors vn1).bind fun y2 =>
  (r_spec_nuPrimes_L5 y2 FU (([] : List Int)) 0).bind fun o6 =>
  some o6
def r_spec_prOrder_L13 (f1 : (Int × Int × Int)) (vn2 : Int) (y11 : List Int) (y7 : (Int × Int × Int)) : Nat → Int → Option (Unit ⊕ Bool)
  | 0, _ => none
  | n + 1, t12 =>
    bif (ltI t12 ((y11.length : Int))) then
      (
        (getI y11 t12).bind fun e16 =>
        (nz e16).bind fun z17 =>
        (r_spec_coPower f1 (w64 (Int.tdiv vn2 e16))).bind fun y18 =>
        (some (((y18.1 == y7.1) && ((y18.2.1 == y7.2.1) && (y18.2.2 == y7.2.2))))).bind fun t19 =>
        bif t19 then
          (
            some (.inr false)
          )
        else
          (
            sI (w64 (t12 + 1)) fun t21 =>
            r_spec_prOrder_L13 f1 vn2 y11 y7 n t21
          )
      )
    else
      (
        some (.inl ())
      )
def r_spec_prOrder (f1 : (Int × Int × Int)) (vn2 : Int) : Option Bool :=
  (r_spec_coGood f1).bind fun y3 =>
  bif (bif (!y3) then true else (ltI vn2 1)) then
    (
      some false
    )
  else
    (
      (r_spec_foDisc f1).bind fun y6 =>
      (r_spec_coOne y6).bind fun y7 =>
      (r_spec_coPower f1 vn2).bind fun y8 =>
      (some (!((y8.1 == y7.1) && ((y8.2.1 == y7.2.1) && (y8.2.2 == y7.2.2))))).bind fun t9 =>
      bif t9 then
        (
          some false
        )
      else
        (
          (r_spec_nuPrimes vn2).bind fun y11 =>
          (r_spec_prOrder_L13 f1 vn2 y11 y7 FU 0).bind fun qo14 =>
          match qo14 with
          | .inr r => some r
          | .inl o14 =>
            some true
        )
    )
def r_spec_prTrue (kind1 : ByteArray) (x2 : ((List ((Int × Int × Int))) × (List ((Int × Int × Int × Int))) × (List Int))) : Option Bool :=
  (some (kind1.toList == ((⟨#[101, 113, 117, 105, 118, 97, 108, 101, 110, 116]⟩ : ByteArray)).toList)).bind fun t3 =>
  bif t3 then
    (
      (getI x2.1 0).bind fun e5 =>
      (getI x2.2.1 0).bind fun e6 =>
      (getI x2.1 1).bind fun e7 =>
      (r_spec_prTakes e5 e6 e7).bind fun y8 =>
      some y8
    )
  else
    (
      (some (kind1.toList == ((⟨#[100, 105, 102, 102, 101, 114, 101, 110, 116]⟩ : ByteArray)).toList)).bind fun t9 =>
      bif t9 then
        (
          (getI x2.1 0).bind fun e11 =>
          (getI x2.1 1).bind fun e12 =>
          (getI x2.1 2).bind fun e13 =>
          (getI x2.1 3).bind fun e14 =>
          (r_spec_foDefinite e11).bind fun y15 =>
          (bif y15 then ((r_spec_foDefinite e13).bind fun y17 => some y17) else some false).bind fun b18 =>
          (bif b18 then ((getI x2.2.1 0).bind fun e20 => (r_spec_prTakes e11 e20 e12).bind fun y21 => some y21) else some false).bind fun b22 =>
          (bif b22 then ((getI x2.2.1 1).bind fun e24 => (r_spec_prTakes e13 e24 e14).bind fun y25 => some y25) else some false).bind fun b26 =>
          (bif b26 then ((r_spec_reIs e12).bind fun y28 => some y28) else some false).bind fun b29 =>
          (bif b29 then ((r_spec_reIs e14).bind fun y31 => some y31) else some false).bind fun b32 =>
          (some (bif b32 then (!((e12.1 == e14.1) && ((e12.2.1 == e14.2.1) && (e12.2.2 == e14.2.2)))) else false)).bind fun t34 =>
          some t34
        )
      else
        (
          (some (kind1.toList == ((⟨#[118, 97, 108, 117, 101]⟩ : ByteArray)).toList)).bind fun t35 =>
          bif t35 then
            (
              (getI x2.1 0).bind fun e37 =>
              (getI x2.2.2 1).bind fun e38 =>
              (getI x2.2.2 2).bind fun e39 =>
              (r_spec_foValue e37 e38 e39).bind fun y40 =>
              (getI x2.2.2 0).bind fun e41 =>
              (bif (eqI y40 e41) then ((getI x2.2.2 1).bind fun e43 => (getI x2.2.2 2).bind fun e44 => (r_spec_nuGcd e43 e44).bind fun y45 => some (eqI y45 1)) else some false).bind fun b46 =>
              some b46
            )
          else
            (
              (some (kind1.toList == ((⟨#[111, 98, 115, 116, 114, 117, 99, 116, 105, 111, 110]⟩ : ByteArray)).toList)).bind fun t47 =>
              bif t47 then
                (
                  (getI x2.2.2 0).bind fun e49 =>
                  (getI x2.2.2 1).bind fun e50 =>
                  (getI x2.2.2 2).bind fun e51 =>
                  (r_spec_reDisc e49).bind fun y52 =>
                  (bif (bif y52 then (leI 1 e50) else false) then ((r_spec_l1In e51 2 2500).bind fun y55 => some y55) else some false).bind fun b56 =>
                  (bif b56 then ((r_spec_nuPrime e51).bind fun y58 => some y58) else some false).bind fun b59 =>
                  (bif b59 then ((r_spec_nuExponent e50 e51).bind fun y61 => some (eqI (Int.tmod y61 2) 1)) else some false).bind fun b62 =>
                  (bif b62 then ((r_spec_roDisc e49 e51).bind fun y64 => some (eqI ((y64.length : Int)) 0)) else some false).bind fun b65 =>
                  some b65
                )
              else
                (
                  (some (kind1.toList == ((⟨#[99, 111, 109, 112, 111, 115, 105, 116, 101]⟩ : ByteArray)).toList)).bind fun t66 =>
                  bif t66 then
                    (
                      (getI x2.1 0).bind fun e68 =>
                      (getI x2.1 1).bind fun e69 =>
                      (getI x2.1 2).bind fun e70 =>
                      (r_spec_IsComposition e68 e69 e70 x2.2.2).bind fun y71 =>
                      some (bif y71.1 then y71.2 else false)
                    )
                  else
                    (
                      (some (kind1.toList == ((⟨#[111, 114, 100, 101, 114]⟩ : ByteArray)).toList)).bind fun t73 =>
                      bif t73 then
                        (
                          (getI x2.1 0).bind fun e75 =>
                          (getI x2.2.2 0).bind fun e76 =>
                          (r_spec_prOrder e75 e76).bind fun y77 =>
                          some y77
                        )
                      else
                        (
                          (some (kind1.toList == ((⟨#[114, 111, 111, 116]⟩ : ByteArray)).toList)).bind fun t78 =>
                          bif t78 then
                            (
                              (getI x2.2.2 0).bind fun e80 =>
                              (getI x2.2.2 1).bind fun e81 =>
                              (getI x2.2.2 2).bind fun e82 =>
                              (bif (leI 1 e81) then ((nz (w64 (4 * e81))).bind fun z84 => some (eqI (Int.tmod (w64 ((w64 (e82 * e82)) - e80)) (w64 (4 * e81))) 0)) else some false).bind fun b85 =>
                              some b85
                            )
                          else
                            (
                              (some (kind1.toList == ((⟨#[97, 117, 116, 111, 109, 111, 114, 112, 104]⟩ : ByteArray)).toList)).bind fun t86 =>
                              bif t86 then
                                (
                                  (getI x2.1 0).bind fun e88 =>
                                  (getI x2.2.1 0).bind fun e89 =>
                                  (getI x2.1 0).bind fun e90 =>
                                  (r_spec_prTakes e88 e89 e90).bind fun y91 =>
                                  some y91
                                )
                              else
                                (
                                  (getI x2.2.2 0).bind fun e92 =>
                                  (getI x2.2.2 1).bind fun e93 =>
                                  (getI x2.2.2 2).bind fun e94 =>
                                  (r_spec_l1Abs (w64 ((w64 (e93 * e93)) - (w64 ((w64 (e92 * e94)) * e94))))).bind fun y95 =>
                                  some (eqI y95 4)
                                )
                            )
                        )
                    )
                )
            )
        )
    )
def r_spec_prCheck (vs1 : ByteArray) : Option Int :=
  (r_spec_prParse vs1).bind fun y2 =>
  bif (!y2.2.2) then
    (
      some 0
    )
  else
    (
      (r_spec_prTrue y2.1 y2.2.1).bind fun y4 =>
      bif y4 then
        (
          some 2
        )
      else
        (
          some 1
        )
    )
def r_spec_CheckBundle_L6 (y2 : ((List ByteArray) × Bool)) : Nat → Int → List Int → Option (List Int)
  | 0, _, _ => none
  | n + 1, t4, l5 =>
    bif (ltI t4 ((y2.1.length : Int))) then
      (
        (getI y2.1 t4).bind fun e9 =>
        (r_spec_prCheck e9).bind fun y10 =>
        (room (l5.length + ([y10]).length)).bind fun u11 =>
        sI (w64 (t4 + 1)) fun t12 =>
        r_spec_CheckBundle_L6 y2 n t12 (l5 ++ ([y10]))
      )
    else
      (
        some l5
      )
def r_spec_CheckBundle (vs1 : ByteArray) : Option ((List Int) × Bool) :=
  (r_spec_prLines vs1 4000 40).bind fun y2 =>
  bif (!y2.2) then
    (
      some ((([] : List Int), false))
    )
  else
    (
      (r_spec_CheckBundle_L6 y2 FU 0 (([] : List Int))).bind fun o7 =>
      some ((o7, true))
    )
def r_internal_stringslite_HasSuffix (vs1 : ByteArray) (suffix2 : ByteArray) : Option Bool :=
  (bif (leI ((suffix2.size : Int)) ((vs1.size : Int))) then ((slc vs1.size (w64 (((vs1.size : Int)) - ((suffix2.size : Int)))) ((vs1.size : Int))).bind fun u4 => some ((vs1.extract (Int.toNat (w64 (((vs1.size : Int)) - ((suffix2.size : Int))))) (Int.toNat ((vs1.size : Int)))).toList == suffix2.toList)) else some false).bind fun b5 =>
  some b5
def r_internal_stringslite_TrimSuffix (vs1 : ByteArray) (suffix2 : ByteArray) : Option ByteArray :=
  (r_internal_stringslite_HasSuffix vs1 suffix2).bind fun y3 =>
  bif y3 then
    (
      (slc vs1.size 0 (w64 (((vs1.size : Int)) - ((suffix2.size : Int))))).bind fun u5 =>
      some (vs1.extract (Int.toNat 0) (Int.toNat (w64 (((vs1.size : Int)) - ((suffix2.size : Int))))))
    )
  else
    (
      some vs1
    )
def r_strings_TrimSuffix (vs1 : ByteArray) (suffix2 : ByteArray) : Option ByteArray :=
  (r_internal_stringslite_TrimSuffix vs1 suffix2).bind fun y3 =>
  some y3
def r_strings_HasSuffix (vs1 : ByteArray) (suffix2 : ByteArray) : Option Bool :=
  (r_internal_stringslite_HasSuffix vs1 suffix2).bind fun y3 =>
  some y3
def r_impl_linesOf (vs1 : ByteArray) : Option ((List ByteArray) × Bool) :=
  bif (vs1.toList == ((⟨#[]⟩ : ByteArray)).toList) then
    (
      some ((([] : List ByteArray), true))
    )
  else
    (
      (r_strings_TrimSuffix vs1 ((⟨#[10]⟩ : ByteArray))).bind fun y3 =>
      (r_strings_Split y3 ((⟨#[10]⟩ : ByteArray))).bind fun y4 =>
      (r_strings_HasSuffix vs1 ((⟨#[10]⟩ : ByteArray))).bind fun y5 =>
      some ((y4, y5))
    )
def r_impl_shapeOf (kind1 : ByteArray) : Option ByteArray :=
  (some (mPut ((⟨#[115, 111, 108, 117, 116, 105, 111, 110]⟩ : ByteArray)) ((⟨#[110, 110, 110]⟩ : ByteArray)) (mPut ((⟨#[97, 117, 116, 111, 109, 111, 114, 112, 104]⟩ : ByteArray)) ((⟨#[102, 109]⟩ : ByteArray)) (mPut ((⟨#[114, 111, 111, 116]⟩ : ByteArray)) ((⟨#[110, 110, 110]⟩ : ByteArray)) (mPut ((⟨#[111, 114, 100, 101, 114]⟩ : ByteArray)) ((⟨#[102, 110]⟩ : ByteArray)) (mPut ((⟨#[99, 111, 109, 112, 111, 115, 105, 116, 101]⟩ : ByteArray)) ((⟨#[102, 102, 102, 110, 110, 110, 110, 110, 110, 110, 110]⟩ : ByteArray)) (mPut ((⟨#[111, 98, 115, 116, 114, 117, 99, 116, 105, 111, 110]⟩ : ByteArray)) ((⟨#[110, 110, 110]⟩ : ByteArray)) (mPut ((⟨#[118, 97, 108, 117, 101]⟩ : ByteArray)) ((⟨#[102, 110, 110, 110]⟩ : ByteArray)) (mPut ((⟨#[100, 105, 102, 102, 101, 114, 101, 110, 116]⟩ : ByteArray)) ((⟨#[102, 109, 102, 102, 109, 102]⟩ : ByteArray)) (mPut ((⟨#[101, 113, 117, 105, 118, 97, 108, 101, 110, 116]⟩ : ByteArray)) ((⟨#[102, 102, 109]⟩ : ByteArray)) (([] : List ((ByteArray × ByteArray)))))))))))))).bind fun l2 =>
  some (mAt kind1 l2 ByteArray.empty)
def r_impl_integersIn_1 (c1 : Int) : Option Bool :=
  (some (bif (!eqI c1 45) then (bif (ltI c1 48) then true else (ltI 57 c1)) else false)).bind fun t4 =>
  some t4
def r_impl_integersIn_L5 (y2 : List ByteArray) : Nat → Int → List Int → Option (List Int ⊕ List Int)
  | 0, _, _ => none
  | n + 1, t3, l4 =>
    bif (ltI t3 ((y2.length : Int))) then
      (
        (getI y2 t3).bind fun e8 =>
        (getI y2 t3).bind fun e9 =>
        (r_strconv_Atoi e9).bind fun y10 =>
        bif (!y10.2) then
          (
            some (.inr ((([] : List Int))))
          )
        else
          (
            (room (l4.length + ([y10.1]).length)).bind fun u12 =>
            sI (w64 (t3 + 1)) fun t13 =>
            r_impl_integersIn_L5 y2 n t13 (l4 ++ ([y10.1]))
          )
      )
    else
      (
        some (.inl l4)
      )
def r_impl_integersIn (vs1 : ByteArray) : Option (List Int) :=
  (r_strings_FieldsFunc (pOf r_impl_integersIn_1) vs1).bind fun y2 =>
  (r_impl_integersIn_L5 y2 FU 0 (([] : List Int))).bind fun qo6 =>
  match qo6 with
  | .inr r => some r
  | .inl o6 =>
    some o6
def r_impl_areNumbers_L3 (list1 : List Int) : Nat → Int → Option (Unit ⊕ Bool)
  | 0, _ => none
  | n + 1, t2 =>
    bif (ltI t2 ((list1.length : Int))) then
      (
        (getI list1 t2).bind fun e6 =>
        bif (bif (ltI e6 (-1000000)) then true else (ltI 1000000 e6)) then
          (
            some (.inr false)
          )
        else
          (
            sI (w64 (t2 + 1)) fun t9 =>
            r_impl_areNumbers_L3 list1 n t9
          )
      )
    else
      (
        some (.inl ())
      )
def r_impl_areNumbers (list1 : List Int) : Option Bool :=
  (r_impl_areNumbers_L3 list1 FU 0).bind fun qo4 =>
  match qo4 with
  | .inr r => some r
  | .inl o4 =>
    some true
def r_impl_IsForm (f1 : (Int × Int × Int)) : Option Bool :=
  (r_impl_areNumbers ([f1.1, f1.2.1, f1.2.2])).bind fun y2 =>
  some y2
def r_impl_formText (f1 : (Int × Int × Int)) : Option ByteArray :=
  (r_strconv_Itoa f1.1).bind fun y2 =>
  (catR ((⟨#[40]⟩ : ByteArray)) y2).bind fun u3 =>
  (catR (((⟨#[40]⟩ : ByteArray)) ++ y2) ((⟨#[44]⟩ : ByteArray))).bind fun u4 =>
  (r_strconv_Itoa f1.2.1).bind fun y5 =>
  (catR ((((⟨#[40]⟩ : ByteArray)) ++ y2) ++ ((⟨#[44]⟩ : ByteArray))) y5).bind fun u6 =>
  (catR (((((⟨#[40]⟩ : ByteArray)) ++ y2) ++ ((⟨#[44]⟩ : ByteArray))) ++ y5) ((⟨#[44]⟩ : ByteArray))).bind fun u7 =>
  (r_strconv_Itoa f1.2.2).bind fun y8 =>
  (catR ((((((⟨#[40]⟩ : ByteArray)) ++ y2) ++ ((⟨#[44]⟩ : ByteArray))) ++ y5) ++ ((⟨#[44]⟩ : ByteArray))) y8).bind fun u9 =>
  (catR (((((((⟨#[40]⟩ : ByteArray)) ++ y2) ++ ((⟨#[44]⟩ : ByteArray))) ++ y5) ++ ((⟨#[44]⟩ : ByteArray))) ++ y8) ((⟨#[41]⟩ : ByteArray))).bind fun u10 =>
  some ((((((((⟨#[40]⟩ : ByteArray)) ++ y2) ++ ((⟨#[44]⟩ : ByteArray))) ++ y5) ++ ((⟨#[44]⟩ : ByteArray))) ++ y8) ++ ((⟨#[41]⟩ : ByteArray)))
def r_impl_ParseForm (vs1 : ByteArray) : Option (((Int × Int × Int)) × Bool) :=
  (r_impl_integersIn vs1).bind fun y2 =>
  bif (!eqI ((y2.length : Int)) 3) then
    (
      some (((0, 0, 0), false))
    )
  else
    (
      (getI y2 0).bind fun e4 =>
      (getI y2 0).bind fun e5 =>
      (getI y2 1).bind fun e6 =>
      (getI y2 1).bind fun e7 =>
      (getI y2 2).bind fun e8 =>
      (getI y2 2).bind fun e9 =>
      (r_impl_IsForm ((e5, e7, e9))).bind fun y10 =>
      (bif (!y10) then some true else ((r_impl_formText ((e5, e7, e9))).bind fun y12 => some (!(y12.toList == vs1.toList)))).bind fun b13 =>
      bif b13 then
        (
          some (((0, 0, 0), false))
        )
      else
        (
          some (((e5, e7, e9), true))
        )
    )
def r_impl_IsMatrix (vm1 : (Int × Int × Int × Int)) : Option Bool :=
  (r_impl_areNumbers ([vm1.1, vm1.2.1, vm1.2.2.1, vm1.2.2.2])).bind fun y2 =>
  some y2
def r_impl_matrixText (vm1 : (Int × Int × Int × Int)) : Option ByteArray :=
  (r_strconv_Itoa vm1.1).bind fun y2 =>
  (catR ((⟨#[91]⟩ : ByteArray)) y2).bind fun u3 =>
  (catR (((⟨#[91]⟩ : ByteArray)) ++ y2) ((⟨#[44]⟩ : ByteArray))).bind fun u4 =>
  (r_strconv_Itoa vm1.2.1).bind fun y5 =>
  (catR ((((⟨#[91]⟩ : ByteArray)) ++ y2) ++ ((⟨#[44]⟩ : ByteArray))) y5).bind fun u6 =>
  (catR (((((⟨#[91]⟩ : ByteArray)) ++ y2) ++ ((⟨#[44]⟩ : ByteArray))) ++ y5) ((⟨#[59]⟩ : ByteArray))).bind fun u7 =>
  (r_strconv_Itoa vm1.2.2.1).bind fun y8 =>
  (catR ((((((⟨#[91]⟩ : ByteArray)) ++ y2) ++ ((⟨#[44]⟩ : ByteArray))) ++ y5) ++ ((⟨#[59]⟩ : ByteArray))) y8).bind fun u9 =>
  (catR (((((((⟨#[91]⟩ : ByteArray)) ++ y2) ++ ((⟨#[44]⟩ : ByteArray))) ++ y5) ++ ((⟨#[59]⟩ : ByteArray))) ++ y8) ((⟨#[44]⟩ : ByteArray))).bind fun u10 =>
  (r_strconv_Itoa vm1.2.2.2).bind fun y11 =>
  (catR ((((((((⟨#[91]⟩ : ByteArray)) ++ y2) ++ ((⟨#[44]⟩ : ByteArray))) ++ y5) ++ ((⟨#[59]⟩ : ByteArray))) ++ y8) ++ ((⟨#[44]⟩ : ByteArray))) y11).bind fun u12 =>
  (catR (((((((((⟨#[91]⟩ : ByteArray)) ++ y2) ++ ((⟨#[44]⟩ : ByteArray))) ++ y5) ++ ((⟨#[59]⟩ : ByteArray))) ++ y8) ++ ((⟨#[44]⟩ : ByteArray))) ++ y11) ((⟨#[93]⟩ : ByteArray))).bind fun u13 =>
  some ((((((((((⟨#[91]⟩ : ByteArray)) ++ y2) ++ ((⟨#[44]⟩ : ByteArray))) ++ y5) ++ ((⟨#[59]⟩ : ByteArray))) ++ y8) ++ ((⟨#[44]⟩ : ByteArray))) ++ y11) ++ ((⟨#[93]⟩ : ByteArray)))
def r_impl_ParseMatrix (vs1 : ByteArray) : Option (((Int × Int × Int × Int)) × Bool) :=
  (r_impl_integersIn vs1).bind fun y2 =>
  bif (!eqI ((y2.length : Int)) 4) then
    (
      some (((0, 0, 0, 0), false))
    )
  else
    (
      (getI y2 0).bind fun e4 =>
      (getI y2 0).bind fun e5 =>
      (getI y2 1).bind fun e6 =>
      (getI y2 1).bind fun e7 =>
      (getI y2 2).bind fun e8 =>
      (getI y2 2).bind fun e9 =>
      (getI y2 3).bind fun e10 =>
      (getI y2 3).bind fun e11 =>
      (r_impl_IsMatrix ((e5, e7, e9, e11))).bind fun y12 =>
      (bif (!y12) then some true else ((r_impl_matrixText ((e5, e7, e9, e11))).bind fun y14 => some (!(y14.toList == vs1.toList)))).bind fun b15 =>
      bif b15 then
        (
          some (((0, 0, 0, 0), false))
        )
      else
        (
          some (((e5, e7, e9, e11), true))
        )
    )
def r_impl_numberOf (w1 : ByteArray) : Option (Int × Bool) :=
  (r_strconv_Atoi w1).bind fun y2 =>
  (bif y2.2 then ((r_impl_areNumbers ([y2.1])).bind fun y4 => some y4) else some false).bind fun b5 =>
  (bif b5 then ((r_strconv_Itoa y2.1).bind fun y7 => some (y7.toList == w1.toList)) else some false).bind fun b8 =>
  some ((y2.1, b8))
def r_impl_partsOf_L15 (e4 : ByteArray) (t10 : Int) (y2 : List ByteArray) (y5 : ByteArray) : Nat → Int → List ((Int × Int × Int)) → List ((Int × Int × Int × Int)) → List Int → Option (((List Int) × (List ((Int × Int × Int × Int))) × (List ((Int × Int × Int)))) ⊕ (((ByteArray × (List ((Int × Int × Int))) × (List ((Int × Int × Int × Int))) × (List Int))) × Bool))
  | 0, _, _, _, _ => none
  | n + 1, t11, l12, l13, l14 =>
    bif (ltI t11 t10) then
      (
        (getI (subl y2 1 ((y2.length : Int))) t11).bind fun e18 =>
        (getB y5 t11).bind fun e19 =>
        bif (eqI e19 102) then
          (
            (r_impl_ParseForm e18).bind fun y21 =>
            (room (l12.length + ([y21.1]).length)).bind fun u22 =>
            bif (!y21.2) then
              (
                some (.inr ((((ByteArray.empty, ([] : List ((Int × Int × Int))), ([] : List ((Int × Int × Int × Int))), ([] : List Int)), false))))
              )
            else
              (
                sI (w64 (t11 + 1)) fun t24 =>
                r_impl_partsOf_L15 e4 t10 y2 y5 n t24 (l12 ++ ([y21.1])) l13 l14
              )
          )
        else
          (
            bif (eqI e19 109) then
              (
                (r_impl_ParseMatrix e18).bind fun y26 =>
                (room (l13.length + ([y26.1]).length)).bind fun u27 =>
                bif (!y26.2) then
                  (
                    some (.inr ((((ByteArray.empty, ([] : List ((Int × Int × Int))), ([] : List ((Int × Int × Int × Int))), ([] : List Int)), false))))
                  )
                else
                  (
                    sI (w64 (t11 + 1)) fun t29 =>
                    r_impl_partsOf_L15 e4 t10 y2 y5 n t29 l12 (l13 ++ ([y26.1])) l14
                  )
              )
            else
              (
                (r_impl_numberOf e18).bind fun y30 =>
                (room (l14.length + ([y30.1]).length)).bind fun u31 =>
                bif (!y30.2) then
                  (
                    some (.inr ((((ByteArray.empty, ([] : List ((Int × Int × Int))), ([] : List ((Int × Int × Int × Int))), ([] : List Int)), false))))
                  )
                else
                  (
                    sI (w64 (t11 + 1)) fun t33 =>
                    r_impl_partsOf_L15 e4 t10 y2 y5 n t33 l12 l13 (l14 ++ ([y30.1]))
                  )
              )
          )
      )
    else
      (
        some (.inl (l14, l13, l12))
      )
def r_impl_partsOf (vs1 : ByteArray) : Option (((ByteArray × (List ((Int × Int × Int))) × (List ((Int × Int × Int × Int))) × (List Int))) × Bool) :=
  (r_strings_Split vs1 ((⟨#[32]⟩ : ByteArray))).bind fun y2 =>
  (getI y2 0).bind fun e3 =>
  (getI y2 0).bind fun e4 =>
  (r_impl_shapeOf e4).bind fun y5 =>
  (some (bif (y5.toList == ((⟨#[]⟩ : ByteArray)).toList) then true else (!eqI ((y2.length : Int)) (w64 (((y5.size : Int)) + 1))))).bind fun t7 =>
  bif t7 then
    (
      some (((ByteArray.empty, ([] : List ((Int × Int × Int))), ([] : List ((Int × Int × Int × Int))), ([] : List Int)), false))
    )
  else
    (
      (slc y2.length 1 ((y2.length : Int))).bind fun u9 =>
      sI (((subl y2 1 ((y2.length : Int))).length : Int)) fun t10 =>
      (r_impl_partsOf_L15 e4 t10 y2 y5 FU 0 (([] : List ((Int × Int × Int)))) (([] : List ((Int × Int × Int × Int)))) (([] : List Int))).bind fun qo16 =>
      match qo16 with
      | .inr r => some r
      | .inl o16 =>
        some (((e4, o16.2.2, o16.2.1, o16.1), true))
    )
def r_impl_Matrix_det (vm1 : (Int × Int × Int × Int)) : Option Int :=
  sI (w64 ((w64 (vm1.1 * vm1.2.2.2)) - (w64 (vm1.2.1 * vm1.2.2.1)))) fun t2 =>
  some t2
def r_impl_Form_at (f1 : (Int × Int × Int)) (x2 : Int) (y3 : Int) : Option Int :=
  sI (w64 ((w64 ((w64 ((w64 (f1.1 * x2)) * x2)) + (w64 ((w64 (f1.2.1 * x2)) * y3)))) + (w64 ((w64 (f1.2.2 * y3)) * y3)))) fun t4 =>
  some t4
def r_impl_Form_polar (f1 : (Int × Int × Int)) (x2 : Int) (y3 : Int) (u4 : Int) (v5 : Int) : Option Int :=
  sI (w64 ((w64 ((w64 ((w64 ((w64 (2 * f1.1)) * x2)) * u4)) + (w64 (f1.2.1 * (w64 ((w64 (x2 * v5)) + (w64 (y3 * u4)))))))) + (w64 ((w64 ((w64 (2 * f1.2.2)) * y3)) * v5)))) fun t6 =>
  some t6
def zX (f1 : (Int × Int × Int)) (vm2 : (Int × Int × Int × Int)) : Option (Int × Int × Int) :=
  (r_impl_Form_at f1 vm2.1 vm2.2.2.1).bind fun y3 =>
  (r_impl_Form_polar f1 vm2.1 vm2.2.2.1 vm2.2.1 vm2.2.2.2).bind fun y4 =>
  (r_impl_Form_at f1 vm2.2.1 vm2.2.2.2).bind fun y5 =>
  some ((y3, y4, y5))
def r_impl_makesOf (f1 : (Int × Int × Int)) (vm2 : (Int × Int × Int × Int)) (g3 : (Int × Int × Int)) : Option Bool :=
  (r_impl_Matrix_det vm2).bind fun y4 =>
  (bif (eqI y4 1) then ((zX f1 vm2).bind fun y6 => some (((y6.1 == g3.1) && ((y6.2.1 == g3.2.1) && (y6.2.2 == g3.2.2))))) else some false).bind fun b7 =>
  some b7
def r_impl_Form_disc (f1 : (Int × Int × Int)) : Option Int :=
  sI (w64 ((w64 (f1.2.1 * f1.2.1)) - (w64 ((w64 (4 * f1.1)) * f1.2.2)))) fun t2 =>
  some t2
def r_impl_isDefinite (f1 : (Int × Int × Int)) : Option Bool :=
  (r_impl_IsForm f1).bind fun y2 =>
  (bif y2 then ((r_impl_Form_disc f1).bind fun y4 => some (ltI y4 0)) else some false).bind fun b5 =>
  some (bif b5 then (ltI 0 f1.1) else false)
def r_impl_Form_isNormal (f1 : (Int × Int × Int)) : Option Bool :=
  (some (bif (ltI (w64 (0 - f1.1)) f1.2.1) then (leI f1.2.1 f1.1) else false)).bind fun t3 =>
  some t3
def r_impl_Form_isReduced (f1 : (Int × Int × Int)) : Option Bool :=
  (r_impl_Form_isNormal f1).bind fun y2 =>
  (some (bif y2 then (bif (ltI f1.1 f1.2.2) then true else (bif (eqI f1.1 f1.2.2) then (leI 0 f1.2.1) else false)) else false)).bind fun t6 =>
  some t6
def r_impl_abs (vn1 : Int) : Option Int :=
  sI (mxI vn1 (w64 (0 - (mxI vn1 (-9223372036854775807))))) fun t2 =>
  some t2
def r_impl_gcd_L5 : Nat → Int → Int → Option Int
  | 0, _, _ => none
  | n + 1, a3, b4 =>
    bif (!eqI b4 0) then
      (
        (nz b4).bind fun z8 =>
        sI (Int.tmod a3 b4) fun b9 =>
        r_impl_gcd_L5 n b4 b9
      )
    else
      (
        some a3
      )
def r_impl_gcd (a1 : Int) (b2 : Int) : Option Int :=
  (r_impl_gcd_L5 FU a1 b2).bind fun o6 =>
  (r_impl_abs o6).bind fun y10 =>
  some y10
def r_impl_mod (a1 : Int) (vm2 : Int) : Option Int :=
  (nz vm2).bind fun z3 =>
  sI (Int.tmod a1 vm2) fun vr4 =>
  bif (ltI vr4 0) then
    (
      sI (w64 (vr4 + vm2)) fun vr6 =>
      some vr6
    )
  else
    (
      some vr4
    )
def r_impl_isNegativeDisc (d1 : Int) : Option Bool :=
  (bif (bif (leI (-2000) d1) then (leI d1 (-3)) else false) then ((r_impl_mod d1 4).bind fun y4 => some (leI y4 1)) else some false).bind fun b5 =>
  some b5
def r_impl_isPrime_L4 (vn1 : Int) : Nat → Int → Option (Unit ⊕ Bool)
  | 0, _ => none
  | n + 1, p3 =>
    bif (leI (w64 (p3 * p3)) vn1) then
      (
        (nz p3).bind fun z7 =>
        bif (eqI (Int.tmod vn1 p3) 0) then
          (
            some (.inr false)
          )
        else
          (
            sI (w64 (p3 + 1)) fun p9 =>
            r_impl_isPrime_L4 vn1 n p9
          )
      )
    else
      (
        some (.inl ())
      )
def r_impl_isPrime (vn1 : Int) : Option Bool :=
  bif (ltI vn1 2) then
    (
      some false
    )
  else
    (
      (r_impl_isPrime_L4 vn1 FU 2).bind fun qo5 =>
      match qo5 with
      | .inr r => some r
      | .inl o5 =>
        some true
    )
def r_impl_exponent_L5 (p2 : Int) : Nat → Int → Int → Option Int
  | 0, _, _ => none
  | n + 1, vn3, k4 =>
    (nz p2).bind fun z7 =>
    bif (eqI (Int.tmod vn3 p2) 0) then
      (
        sI (w64 (k4 + 1)) fun k9 =>
        (nz p2).bind fun z10 =>
        sI (w64 (Int.tdiv vn3 p2)) fun vn11 =>
        r_impl_exponent_L5 p2 n vn11 k9
      )
    else
      (
        some k4
      )
def r_impl_exponent (vn1 : Int) (p2 : Int) : Option Int :=
  (r_impl_exponent_L5 p2 FU vn1 0).bind fun o6 =>
  some o6
def r_impl_rootsOfDiscriminant_L5 (d1 : Int) (vn2 : Int) : Nat → Int → List Int → Option (List Int)
  | 0, _, _ => none
  | n + 1, b3, l4 =>
    bif (ltI b3 (w64 (2 * vn2))) then
      (
        (nz (w64 (4 * vn2))).bind fun z8 =>
        (some (eqI (Int.tmod (w64 ((w64 (b3 * b3)) - d1)) (w64 (4 * vn2))) 0)).bind fun t9 =>
        bif t9 then
          (
            (room (l4.length + ([b3]).length)).bind fun u11 =>
            sI (w64 (b3 + 1)) fun b12 =>
            r_impl_rootsOfDiscriminant_L5 d1 vn2 n b12 (l4 ++ ([b3]))
          )
        else
          (
            sI (w64 (b3 + 1)) fun b13 =>
            r_impl_rootsOfDiscriminant_L5 d1 vn2 n b13 l4
          )
      )
    else
      (
        some l4
      )
def r_impl_rootsOfDiscriminant (d1 : Int) (vn2 : Int) : Option (List Int) :=
  (r_impl_rootsOfDiscriminant_L5 d1 vn2 FU 0 (([] : List Int))).bind fun o6 =>
  some o6
def r_impl_isObstruction (d1 : Int) (vn2 : Int) (p3 : Int) : Option Bool :=
  (r_impl_isNegativeDisc d1).bind fun y4 =>
  (bif (bif (bif y4 then (leI 1 vn2) else false) then (leI p3 2500) else false) then ((r_impl_isPrime p3).bind fun y8 => some y8) else some false).bind fun b9 =>
  (bif b9 then ((r_impl_exponent vn2 p3).bind fun y11 => some (eqI (Int.tmod y11 2) 1)) else some false).bind fun b12 =>
  (bif b12 then ((r_impl_rootsOfDiscriminant d1 p3).bind fun y14 => some (eqI ((y14.length : Int)) 0)) else some false).bind fun b15 =>
  some b15
def r_impl_isShownForm (f1 : (Int × Int × Int)) : Option Bool :=
  (r_impl_isDefinite f1).bind fun y2 =>
  (bif y2 then ((r_impl_Form_disc f1).bind fun y4 => some (leI (-2000) y4)) else some false).bind fun b5 =>
  some b5
def r_impl_Form_content (f1 : (Int × Int × Int)) : Option Int :=
  (r_impl_gcd f1.2.1 f1.2.2).bind fun y2 =>
  (r_impl_gcd f1.1 y2).bind fun y3 =>
  some y3
def r_impl_isClassForm (f1 : (Int × Int × Int)) : Option Bool :=
  (r_impl_isShownForm f1).bind fun y2 =>
  (bif y2 then ((r_impl_Form_content f1).bind fun y4 => some (eqI y4 1)) else some false).bind fun b5 =>
  some b5
def r_impl_arePair (f1 : (Int × Int × Int)) (g2 : (Int × Int × Int)) : Option Bool :=
  (r_impl_isClassForm f1).bind fun y3 =>
  (bif y3 then ((r_impl_isClassForm g2).bind fun y5 => some y5) else some false).bind fun b6 =>
  (bif b6 then ((r_impl_Form_disc f1).bind fun y8 => (r_impl_Form_disc g2).bind fun y9 => some (eqI y8 y9)) else some false).bind fun b10 =>
  some b10
def r_impl_squareOf (p1 : (Int × Int × Int × Int)) (q2 : (Int × Int × Int × Int)) : Option (((Int × Int × Int)) × ((Int × Int × Int)) × ((Int × Int × Int))) :=
  sI (w64 (0 + (w64 (p1.1 * q2.1)))) fun f5 =>
  sI (w64 (0 + (w64 (p1.1 * q2.2.1)))) fun f7 =>
  sI (w64 (0 + (w64 (p1.1 * q2.2.2.1)))) fun f9 =>
  sI (w64 (0 + (w64 (p1.1 * q2.2.2.2)))) fun f11 =>
  sI (w64 (f7 + (w64 (p1.2.1 * q2.1)))) fun f15 =>
  sI (w64 (0 + (w64 (p1.2.1 * q2.2.1)))) fun f17 =>
  sI (w64 (f11 + (w64 (p1.2.1 * q2.2.2.1)))) fun f19 =>
  sI (w64 (0 + (w64 (p1.2.1 * q2.2.2.2)))) fun f21 =>
  sI (w64 (f9 + (w64 (p1.2.2.1 * q2.1)))) fun f25 =>
  sI (w64 (f19 + (w64 (p1.2.2.1 * q2.2.1)))) fun f27 =>
  sI (w64 (0 + (w64 (p1.2.2.1 * q2.2.2.1)))) fun f29 =>
  sI (w64 (0 + (w64 (p1.2.2.1 * q2.2.2.2)))) fun f31 =>
  sI (w64 (f27 + (w64 (p1.2.2.2 * q2.1)))) fun f35 =>
  sI (w64 (f21 + (w64 (p1.2.2.2 * q2.2.1)))) fun f37 =>
  sI (w64 (f31 + (w64 (p1.2.2.2 * q2.2.2.1)))) fun f39 =>
  sI (w64 (0 + (w64 (p1.2.2.2 * q2.2.2.2)))) fun f41 =>
  some (((f5, f15, f17), (f25, f35, f37), (f29, f39, f41)))
def r_impl_IsComposition (f1 : (Int × Int × Int)) (g2 : (Int × Int × Int)) (vh3 : (Int × Int × Int)) (k4 : List Int) : Option (Bool × Bool) :=
  (r_impl_arePair f1 g2).bind fun y5 =>
  (bif (!y5) then some true else ((r_impl_arePair f1 vh3).bind fun y7 => some (!y7))).bind fun b8 =>
  (bif b8 then some true else ((r_impl_Form_isReduced vh3).bind fun y10 => some (!y10))).bind fun b11 =>
  (bif (bif b11 then true else (!eqI ((k4.length : Int)) 8)) then some true else ((r_impl_areNumbers k4).bind fun y14 => some (!y14))).bind fun b15 =>
  bif b15 then
    (
      some ((false, false))
    )
  else
    (
      (slc k4.length 0 4).bind fun u17 =>
      (getI (subl k4 0 4) 0).bind fun e18 =>
      (getI (subl k4 0 4) 1).bind fun e19 =>
      (getI (subl k4 0 4) 2).bind fun e20 =>
      (getI (subl k4 0 4) 3).bind fun e21 =>
      (slc k4.length 4 ((k4.length : Int))).bind fun u22 =>
      (getI (subl k4 4 ((k4.length : Int))) 0).bind fun e23 =>
      (getI (subl k4 4 ((k4.length : Int))) 1).bind fun e24 =>
      (getI (subl k4 4 ((k4.length : Int))) 2).bind fun e25 =>
      (getI (subl k4 4 ((k4.length : Int))) 3).bind fun e26 =>
      (r_impl_squareOf ((e18, e19, e20, e21)) ((e18, e19, e20, e21))).bind fun y27 =>
      (r_impl_squareOf ((e18, e19, e20, e21)) ((e23, e24, e25, e26))).bind fun y28 =>
      (r_impl_squareOf ((e23, e24, e25, e26)) ((e23, e24, e25, e26))).bind fun y29 =>
      (some (!eqI (w64 ((w64 ((w64 (vh3.1 * y27.1.1)) + (w64 (vh3.2.1 * y28.1.1)))) + (w64 (vh3.2.2 * y29.1.1)))) (w64 (f1.1 * g2.1)))).bind fun t32 =>
      bif t32 then
        (
          some ((false, true))
        )
      else
        (
          (some (!eqI (w64 ((w64 ((w64 (vh3.1 * y27.1.2.1)) + (w64 (vh3.2.1 * y28.1.2.1)))) + (w64 (vh3.2.2 * y29.1.2.1)))) (w64 (f1.1 * g2.2.1)))).bind fun t35 =>
          bif t35 then
            (
              some ((false, true))
            )
          else
            (
              (some (!eqI (w64 ((w64 ((w64 (vh3.1 * y27.1.2.2)) + (w64 (vh3.2.1 * y28.1.2.2)))) + (w64 (vh3.2.2 * y29.1.2.2)))) (w64 (f1.1 * g2.2.2)))).bind fun t38 =>
              bif t38 then
                (
                  some ((false, true))
                )
              else
                (
                  (some (!eqI (w64 ((w64 ((w64 (vh3.1 * y27.2.1.1)) + (w64 (vh3.2.1 * y28.2.1.1)))) + (w64 (vh3.2.2 * y29.2.1.1)))) (w64 (f1.2.1 * g2.1)))).bind fun t43 =>
                  bif t43 then
                    (
                      some ((false, true))
                    )
                  else
                    (
                      (some (!eqI (w64 ((w64 ((w64 (vh3.1 * y27.2.1.2.1)) + (w64 (vh3.2.1 * y28.2.1.2.1)))) + (w64 (vh3.2.2 * y29.2.1.2.1)))) (w64 (f1.2.1 * g2.2.1)))).bind fun t46 =>
                      bif t46 then
                        (
                          some ((false, true))
                        )
                      else
                        (
                          (some (!eqI (w64 ((w64 ((w64 (vh3.1 * y27.2.1.2.2)) + (w64 (vh3.2.1 * y28.2.1.2.2)))) + (w64 (vh3.2.2 * y29.2.1.2.2)))) (w64 (f1.2.1 * g2.2.2)))).bind fun t49 =>
                          bif t49 then
                            (
                              some ((false, true))
                            )
                          else
                            (
                              (some (!eqI (w64 ((w64 ((w64 (vh3.1 * y27.2.2.1)) + (w64 (vh3.2.1 * y28.2.2.1)))) + (w64 (vh3.2.2 * y29.2.2.1)))) (w64 (f1.2.2 * g2.1)))).bind fun t54 =>
                              bif t54 then
                                (
                                  some ((false, true))
                                )
                              else
                                (
                                  (some (!eqI (w64 ((w64 ((w64 (vh3.1 * y27.2.2.2.1)) + (w64 (vh3.2.1 * y28.2.2.2.1)))) + (w64 (vh3.2.2 * y29.2.2.2.1)))) (w64 (f1.2.2 * g2.2.1)))).bind fun t57 =>
                                  bif t57 then
                                    (
                                      some ((false, true))
                                    )
                                  else
                                    (
                                      (some (!eqI (w64 ((w64 ((w64 (vh3.1 * y27.2.2.2.2)) + (w64 (vh3.2.1 * y28.2.2.2.2)))) + (w64 (vh3.2.2 * y29.2.2.2.2)))) (w64 (f1.2.2 * g2.2.2)))).bind fun t60 =>
                                      bif t60 then
                                        (
                                          some ((false, true))
                                        )
                                      else
                                        (
                                          some ((true, true))
                                        )
                                    )
                                )
                            )
                        )
                    )
                )
            )
        )
    )
def r_impl_one : Option (Int × Int × Int × Int) :=
  some ((1, 0, 0, 1))
def r_impl_floorDiv (a1 : Int) (vm2 : Int) : Option Int :=
  (r_impl_mod a1 vm2).bind fun y3 =>
  (nz vm2).bind fun z4 =>
  sI (w64 (Int.tdiv (w64 (a1 - y3)) vm2)) fun t5 =>
  some t5
def r_impl_Form_step (f1 : (Int × Int × Int)) : Option (Int × Int × Int × Int) :=
  (r_impl_Form_isReduced f1).bind fun y2 =>
  bif y2 then
    (
      (r_impl_one).bind fun y4 =>
      some y4
    )
  else
    (
      (r_impl_Form_isNormal f1).bind fun y5 =>
      bif (!y5) then
        (
          (r_impl_floorDiv (w64 (f1.1 - f1.2.1)) (w64 (2 * f1.1))).bind fun y7 =>
          some ((1, y7, 0, 1))
        )
      else
        (
          some ((0, -1, 1, 0))
        )
    )
def r_impl_Matrix_times (vm1 : (Int × Int × Int × Int)) (vn2 : (Int × Int × Int × Int)) : Option (Int × Int × Int × Int) :=
  sI (w64 ((w64 (vm1.1 * vn2.1)) + (w64 (vm1.2.1 * vn2.2.2.1)))) fun f3 =>
  sI (w64 ((w64 (vm1.1 * vn2.2.1)) + (w64 (vm1.2.1 * vn2.2.2.2)))) fun f4 =>
  sI (w64 ((w64 (vm1.2.2.1 * vn2.1)) + (w64 (vm1.2.2.2 * vn2.2.2.1)))) fun f5 =>
  sI (w64 ((w64 (vm1.2.2.1 * vn2.2.1)) + (w64 (vm1.2.2.2 * vn2.2.2.2)))) fun f6 =>
  some ((f3, f4, f5, f6))
def r_impl_reduce_L10 : Nat → Int → Int → Int → Int → Int → Int → Int → Option (Int × Int × Int × Int × Int × Int × Int)
  | 0, _, _, _, _, _, _, _ => none
  | n + 1, f3, f4, f5, f6, f7, f8, f9 =>
    (r_impl_Form_isReduced ((f7, f8, f9))).bind fun y12 =>
    bif (!y12) then
      (
        (r_impl_Form_step ((f7, f8, f9))).bind fun y14 =>
        (zX ((f7, f8, f9)) y14).bind fun y15 =>
        (r_impl_Matrix_times ((f3, f4, f5, f6)) y14).bind fun y16 =>
        r_impl_reduce_L10 n y16.1 y16.2.1 y16.2.2.1 y16.2.2.2 y15.1 y15.2.1 y15.2.2
      )
    else
      (
        some (f3, f4, f5, f6, f7, f8, f9)
      )
def r_impl_reduce (f1 : (Int × Int × Int)) : Option (((Int × Int × Int)) × ((Int × Int × Int × Int))) :=
  (r_impl_one).bind fun y2 =>
  (r_impl_reduce_L10 FU y2.1 y2.2.1 y2.2.2.1 y2.2.2.2 f1.1 f1.2.1 f1.2.2).bind fun o11 =>
  some ((o11.2.2.2.2, (o11.1, o11.2.1, o11.2.2.1, o11.2.2.2.1)))
def r_impl_reduced (f1 : (Int × Int × Int)) : Option (Int × Int × Int) :=
  (r_impl_reduce f1).bind fun y2 =>
  some y2.1
def r_impl_principalForm (d1 : Int) : Option (Int × Int × Int) :=
  (r_impl_mod d1 2).bind fun y2 =>
  sI (w64 (Int.tdiv (w64 (y2 - d1)) 4)) fun f3 =>
  some ((1, y2, f3))
def r_impl_isIdentity (f1 : (Int × Int × Int)) : Option Bool :=
  (r_impl_reduced f1).bind fun y2 =>
  (r_impl_Form_disc f1).bind fun y3 =>
  (r_impl_principalForm y3).bind fun y4 =>
  (r_impl_reduced y4).bind fun y5 =>
  (some (((y2.1 == y5.1) && ((y2.2.1 == y5.2.1) && (y2.2.2 == y5.2.2))))).bind fun t6 =>
  some t6
def r_impl_firstPoint_L11 (a2 : Int) (g1 : (Int × Int × Int)) (size3 : Int) (x6 : Int) : Nat → Int → Option (Unit ⊕ (Int × Int))
  | 0, _ => none
  | n + 1, y10 =>
    bif (leI y10 size3) then
      (
        (bif (eqI (mxI x6 y10) size3) then ((r_impl_gcd x6 y10).bind fun y15 => some (eqI y15 1)) else some false).bind fun b16 =>
        (bif b16 then ((r_impl_Form_at g1 x6 y10).bind fun y18 => (r_impl_gcd y18 a2).bind fun y19 => some (eqI y19 1)) else some false).bind fun b20 =>
        bif b20 then
          (
            some (.inr (((x6, y10))))
          )
        else
          (
            sI (w64 (y10 + 1)) fun y22 =>
            r_impl_firstPoint_L11 a2 g1 size3 x6 n y22
          )
      )
    else
      (
        some (.inl ())
      )
def r_impl_firstPoint_L7 (a2 : Int) (g1 : (Int × Int × Int)) (size3 : Int) : Nat → Int → Option (Unit ⊕ (Int × Int))
  | 0, _ => none
  | n + 1, x6 =>
    bif (leI x6 size3) then
      (
        (r_impl_firstPoint_L11 a2 g1 size3 x6 FU 0).bind fun qo12 =>
        match qo12 with
        | .inr r => some (.inr r)
        | .inl o12 =>
          sI (w64 (x6 + 1)) fun x23 =>
          r_impl_firstPoint_L7 a2 g1 size3 n x23
      )
    else
      (
        some (.inl ())
      )
def r_impl_firstPoint_L4 (a2 : Int) (g1 : (Int × Int × Int)) : Nat → Int → Option (Unit ⊕ (Int × Int))
  | 0, _ => none
  | n + 1, size3 =>
    (r_impl_firstPoint_L7 a2 g1 size3 FU 0).bind fun qo8 =>
    match qo8 with
    | .inr r => some (.inr r)
    | .inl o8 =>
      sI (w64 (size3 + 1)) fun size24 =>
      r_impl_firstPoint_L4 a2 g1 n size24
def r_impl_firstPoint (g1 : (Int × Int × Int)) (a2 : Int) : Option (Int × Int) :=
  (r_impl_firstPoint_L4 a2 g1 FU 0).bind fun qo5 =>
  match qo5 with
  | .inr r => some r
  | .inl _ => none
def r_impl_inverse_L8 (vm2 : Int) : Nat → Int → Int → Int → Int → Option Int
  | 0, _, _, _, _ => none
  | n + 1, x4, y5, vr6, vs7 =>
    bif (!eqI vs7 0) then
      (
        (nz vs7).bind fun z11 =>
        sI (w64 (Int.tdiv vr6 vs7)) fun q12 =>
        sI (w64 (vr6 - (w64 (q12 * vs7)))) fun vs13 =>
        sI (w64 (x4 - (w64 (q12 * y5)))) fun y14 =>
        r_impl_inverse_L8 vm2 n y5 y14 vs7 vs13
      )
    else
      (
        some x4
      )
def r_impl_inverse (a1 : Int) (vm2 : Int) : Option Int :=
  (r_impl_mod a1 vm2).bind fun y3 =>
  (r_impl_inverse_L8 vm2 FU 1 0 y3 vm2).bind fun o9 =>
  (r_impl_mod o9 vm2).bind fun y15 =>
  some y15
def r_impl_Form_complete (f1 : (Int × Int × Int)) (x2 : Int) (y3 : Int) : Option (((Int × Int × Int)) × ((Int × Int × Int × Int))) :=
  (
    bif (eqI y3 0) then
      (
        some (0, x2)
      )
    else
      (
        (r_impl_abs y3).bind fun y6 =>
        (r_impl_inverse x2 y6).bind fun y7 =>
        (nz y3).bind fun z8 =>
        sI (w64 (Int.tdiv (w64 ((w64 (x2 * y7)) - 1)) y3)) fun f9 =>
        some (f9, y7)
      )
  ).bind fun j4 =>
  (zX f1 ((x2, j4.1, y3, j4.2))).bind fun y10 =>
  (r_impl_floorDiv y10.2.1 (w64 (2 * y10.1))).bind fun y11 =>
  sI (w64 (0 - y11)) fun t12 =>
  sI (w64 (j4.1 + (w64 (t12 * x2)))) fun f13 =>
  sI (w64 (j4.2 + (w64 (t12 * y3)))) fun f14 =>
  (zX f1 ((x2, f13, y3, f14))).bind fun y15 =>
  some ((y15, (x2, f13, y3, f14)))
def r_impl_unite_L7 (f1 : (Int × Int × Int)) (y4 : (((Int × Int × Int)) × ((Int × Int × Int × Int)))) : Nat → Int → Option Int
  | 0, _ => none
  | n + 1, f6 =>
    (r_impl_mod (w64 (f6 - y4.1.2.1)) (w64 (2 * y4.1.1))).bind fun y9 =>
    bif (!eqI y9 0) then
      (
        sI (w64 (f6 + (w64 (2 * f1.1)))) fun f11 =>
        r_impl_unite_L7 f1 y4 n f11
      )
    else
      (
        some f6
      )
def r_impl_unite (f1 : (Int × Int × Int)) (g2 : (Int × Int × Int)) : Option (Int × Int × Int × Int × ((Int × Int × Int × Int)) × ((Int × Int × Int × Int))) :=
  (r_impl_firstPoint g2 f1.1).bind fun y3 =>
  (r_impl_Form_complete g2 y3.1 y3.2).bind fun y4 =>
  (r_impl_mod f1.2.1 (w64 (2 * f1.1))).bind fun y5 =>
  (r_impl_unite_L7 f1 y4 FU y5).bind fun o8 =>
  (r_impl_mod o8 (w64 ((w64 (2 * f1.1)) * y4.1.1))).bind fun y12 =>
  (r_impl_Form_disc f1).bind fun y13 =>
  (nz (w64 ((w64 (4 * f1.1)) * y4.1.1))).bind fun z14 =>
  sI (w64 (Int.tdiv (w64 ((w64 (y12 * y12)) - y13)) (w64 ((w64 (4 * f1.1)) * y4.1.1)))) fun f15 =>
  (nz (w64 (2 * f1.1))).bind fun z16 =>
  sI (w64 (Int.tdiv (w64 (y12 - f1.2.1)) (w64 (2 * f1.1)))) fun f17 =>
  (nz (w64 (2 * y4.1.1))).bind fun z18 =>
  (r_impl_Matrix_times y4.2 ((1, w64 (Int.tdiv (w64 (y12 - y4.1.2.1)) (w64 (2 * y4.1.1))), 0, 1))).bind fun y19 =>
  some ((f1.1, y4.1.1, y12, f15, (1, f17, 0, 1), y19))
def r_impl_united_composite (u1 : (Int × Int × Int × Int × ((Int × Int × Int × Int)) × ((Int × Int × Int × Int)))) : Option (Int × Int × Int) :=
  sI (w64 (u1.1 * u1.2.1)) fun f2 =>
  some ((f2, u1.2.2.1, u1.2.2.2.1))
def r_impl_compose (f1 : (Int × Int × Int)) (g2 : (Int × Int × Int)) : Option (Int × Int × Int) :=
  (r_impl_reduced f1).bind fun y3 =>
  (r_impl_reduced g2).bind fun y4 =>
  (r_impl_unite y3 y4).bind fun y5 =>
  (r_impl_united_composite y5).bind fun y6 =>
  (r_impl_reduced y6).bind fun y7 =>
  some y7
def r_impl_orderOf_L7 (f1 : (Int × Int × Int)) : Nat → Int → Int → Int → Int → Option Int
  | 0, _, _, _, _ => none
  | n + 1, k3, f4, f5, f6 =>
    (r_impl_isIdentity ((f4, f5, f6))).bind fun y9 =>
    bif (!y9) then
      (
        sI (w64 (k3 + 1)) fun k11 =>
        (r_impl_compose ((f4, f5, f6)) f1).bind fun y12 =>
        r_impl_orderOf_L7 f1 n k11 y12.1 y12.2.1 y12.2.2
      )
    else
      (
        some k3
      )
def r_impl_orderOf (f1 : (Int × Int × Int)) : Option Int :=
  (r_impl_reduced f1).bind fun y2 =>
  (r_impl_orderOf_L7 f1 FU 1 y2.1 y2.2.1 y2.2.2).bind fun o8 =>
  some o8
def r_impl_isOrderOf (f1 : (Int × Int × Int)) (vn2 : Int) : Option Bool :=
  (r_impl_isClassForm f1).bind fun y3 =>
  (bif (bif y3 then (leI 1 vn2) else false) then ((r_impl_orderOf f1).bind fun y6 => some (eqI y6 vn2)) else some false).bind fun b7 =>
  some b7
def zQ (c1 : (ByteArray × (List ((Int × Int × Int))) × (List ((Int × Int × Int × Int))) × (List Int))) : Option Bool :=
  (some (c1.1.toList == ((⟨#[101, 113, 117, 105, 118, 97, 108, 101, 110, 116]⟩ : ByteArray)).toList)).bind fun t2 =>
  bif t2 then
    (
      (getI c1.2.1 0).bind fun e4 =>
      (getI c1.2.2.1 0).bind fun e5 =>
      (getI c1.2.1 1).bind fun e6 =>
      (r_impl_makesOf e4 e5 e6).bind fun y7 =>
      some y7
    )
  else
    (
      (some (c1.1.toList == ((⟨#[100, 105, 102, 102, 101, 114, 101, 110, 116]⟩ : ByteArray)).toList)).bind fun t8 =>
      bif t8 then
        (
          (getI c1.2.1 0).bind fun e10 =>
          (r_impl_isDefinite e10).bind fun y11 =>
          (bif y11 then ((getI c1.2.1 2).bind fun e13 => (r_impl_isDefinite e13).bind fun y14 => some y14) else some false).bind fun b15 =>
          (bif b15 then ((getI c1.2.1 0).bind fun e17 => (getI c1.2.2.1 0).bind fun e18 => (getI c1.2.1 1).bind fun e19 => (r_impl_makesOf e17 e18 e19).bind fun y20 => some y20) else some false).bind fun b21 =>
          (bif b21 then ((getI c1.2.1 2).bind fun e23 => (getI c1.2.2.1 1).bind fun e24 => (getI c1.2.1 3).bind fun e25 => (r_impl_makesOf e23 e24 e25).bind fun y26 => some y26) else some false).bind fun b27 =>
          (bif b27 then ((getI c1.2.1 1).bind fun e29 => (r_impl_Form_isReduced e29).bind fun y30 => some y30) else some false).bind fun b31 =>
          (bif b31 then ((getI c1.2.1 3).bind fun e33 => (r_impl_Form_isReduced e33).bind fun y34 => some y34) else some false).bind fun b35 =>
          (bif b35 then ((getI c1.2.1 1).bind fun e37 => (getI c1.2.1 3).bind fun e38 => some (!((e37.1 == e38.1) && ((e37.2.1 == e38.2.1) && (e37.2.2 == e38.2.2))))) else some false).bind fun b39 =>
          some b39
        )
      else
        (
          (some (c1.1.toList == ((⟨#[118, 97, 108, 117, 101]⟩ : ByteArray)).toList)).bind fun t40 =>
          bif t40 then
            (
              (getI c1.2.1 0).bind fun e42 =>
              (getI c1.2.2.2 1).bind fun e43 =>
              (getI c1.2.2.2 2).bind fun e44 =>
              (r_impl_Form_at e42 e43 e44).bind fun y45 =>
              (getI c1.2.2.2 0).bind fun e46 =>
              (bif (eqI y45 e46) then ((getI c1.2.2.2 1).bind fun e48 => (getI c1.2.2.2 2).bind fun e49 => (r_impl_gcd e48 e49).bind fun y50 => some (eqI y50 1)) else some false).bind fun b51 =>
              some b51
            )
          else
            (
              (some (c1.1.toList == ((⟨#[111, 98, 115, 116, 114, 117, 99, 116, 105, 111, 110]⟩ : ByteArray)).toList)).bind fun t52 =>
              bif t52 then
                (
                  (getI c1.2.2.2 0).bind fun e54 =>
                  (getI c1.2.2.2 1).bind fun e55 =>
                  (getI c1.2.2.2 2).bind fun e56 =>
                  (r_impl_isObstruction e54 e55 e56).bind fun y57 =>
                  some y57
                )
              else
                (
                  (some (c1.1.toList == ((⟨#[99, 111, 109, 112, 111, 115, 105, 116, 101]⟩ : ByteArray)).toList)).bind fun t58 =>
                  bif t58 then
                    (
                      (getI c1.2.1 0).bind fun e60 =>
                      (getI c1.2.1 1).bind fun e61 =>
                      (getI c1.2.1 2).bind fun e62 =>
                      (r_impl_IsComposition e60 e61 e62 c1.2.2.2).bind fun y63 =>
                      some (bif y63.1 then y63.2 else false)
                    )
                  else
                    (
                      (some (c1.1.toList == ((⟨#[111, 114, 100, 101, 114]⟩ : ByteArray)).toList)).bind fun t65 =>
                      bif t65 then
                        (
                          (getI c1.2.1 0).bind fun e67 =>
                          (getI c1.2.2.2 0).bind fun e68 =>
                          (r_impl_isOrderOf e67 e68).bind fun y69 =>
                          some y69
                        )
                      else
                        (
                          (some (c1.1.toList == ((⟨#[114, 111, 111, 116]⟩ : ByteArray)).toList)).bind fun t70 =>
                          bif t70 then
                            (
                              (getI c1.2.2.2 1).bind fun e72 =>
                              (bif (leI 1 e72) then ((getI c1.2.2.2 2).bind fun e74 => (getI c1.2.2.2 2).bind fun e75 => (getI c1.2.2.2 0).bind fun e76 => (getI c1.2.2.2 1).bind fun e77 => (nz (w64 (4 * e77))).bind fun z78 => some (eqI (Int.tmod (w64 ((w64 (e74 * e75)) - e76)) (w64 (4 * e77))) 0)) else some false).bind fun b79 =>
                              some b79
                            )
                          else
                            (
                              (some (c1.1.toList == ((⟨#[97, 117, 116, 111, 109, 111, 114, 112, 104]⟩ : ByteArray)).toList)).bind fun t80 =>
                              bif t80 then
                                (
                                  (getI c1.2.1 0).bind fun e82 =>
                                  (getI c1.2.2.1 0).bind fun e83 =>
                                  (getI c1.2.1 0).bind fun e84 =>
                                  (r_impl_makesOf e82 e83 e84).bind fun y85 =>
                                  some y85
                                )
                              else
                                (
                                  (getI c1.2.2.2 1).bind fun e86 =>
                                  (getI c1.2.2.2 1).bind fun e87 =>
                                  (getI c1.2.2.2 0).bind fun e88 =>
                                  (getI c1.2.2.2 2).bind fun e89 =>
                                  (getI c1.2.2.2 2).bind fun e90 =>
                                  (r_impl_abs (w64 ((w64 (e86 * e87)) - (w64 ((w64 (e88 * e89)) * e90))))).bind fun y91 =>
                                  some (eqI y91 4)
                                )
                            )
                        )
                    )
                )
            )
        )
    )
def r_impl_CheckCertificate (vs1 : ByteArray) : Option Int :=
  (r_impl_partsOf vs1).bind fun y2 =>
  bif (!y2.2) then
    (
      some 0
    )
  else
    (
      (zQ y2.1).bind fun y4 =>
      bif y4 then
        (
          some 2
        )
      else
        (
          some 1
        )
    )
def r_impl_CheckBundle_L9 (y2 : ((List ByteArray) × Bool)) : Nat → Int → List Int → Option (List Int)
  | 0, _, _ => none
  | n + 1, t7, l8 =>
    bif (ltI t7 ((y2.1.length : Int))) then
      (
        (getI y2.1 t7).bind fun e12 =>
        (getI y2.1 t7).bind fun e13 =>
        (r_impl_CheckCertificate e13).bind fun y14 =>
        (room (l8.length + ([y14]).length)).bind fun u15 =>
        sI (w64 (t7 + 1)) fun t16 =>
        r_impl_CheckBundle_L9 y2 n t16 (l8 ++ ([y14]))
      )
    else
      (
        some l8
      )
def r_impl_CheckBundle (vs1 : ByteArray) : Option ((List Int) × Bool) :=
  (r_impl_linesOf vs1).bind fun y2 =>
  (some (bif (bif (!y2.2) then true else (ltI 4000 ((vs1.size : Int)))) then true else (ltI 40 ((y2.1.length : Int))))).bind fun t5 =>
  bif t5 then
    (
      some ((([] : List Int), false))
    )
  else
    (
      (r_impl_CheckBundle_L9 y2 FU 0 (([] : List Int))).bind fun o10 =>
      some ((o10, true))
    )
def r_laws_eqIntS_L5 (a1 : List Int) (b2 : List Int) : Nat → Int → Option (Unit ⊕ Bool)
  | 0, _ => none
  | n + 1, i4 =>
    bif (ltI i4 ((a1.length : Int))) then
      (
        (getI a1 i4).bind fun e8 =>
        (getI b2 i4).bind fun e9 =>
        bif (!eqI e8 e9) then
          (
            some (.inr false)
          )
        else
          (
            sI (w64 (i4 + 1)) fun i11 =>
            r_laws_eqIntS_L5 a1 b2 n i11
          )
      )
    else
      (
        some (.inl ())
      )
def r_laws_eqIntS (a1 : List Int) (b2 : List Int) : Option Bool :=
  bif (!eqI ((a1.length : Int)) ((b2.length : Int))) then
    (
      some false
    )
  else
    (
      (r_laws_eqIntS_L5 a1 b2 FU 0).bind fun qo6 =>
      match qo6 with
      | .inr r => some r
      | .inl o6 =>
        some true
    )
def r_laws_markIntS_L6 : Nat → Int → Int → List Int → Option (Int × (List Int))
  | 0, _, _, _ => none
  | n + 1, k3, i4, l5 =>
    bif (ltI i4 ((l5.length : Int))) then
      (
        (getI l5 i4).bind fun e9 =>
        (getI l5 i4).bind fun e10 =>
        sI (w64 (k3 + 1)) fun k11 =>
        sI (w64 (i4 + 1)) fun i12 =>
        r_laws_markIntS_L6 n k11 i12 (l5.set (Int.toNat (i4)) k3)
      )
    else
      (
        some (k3, l5)
      )
def r_laws_markIntS (a1 : List Int) (k2 : Int) : Option (Int × (List Int)) :=
  (r_laws_markIntS_L6 FU k2 0 a1).bind fun o7 =>
  some ((o7.1, o7.2))
def r_laws_heldIntS_L5 (a1 : List Int) : Nat → Int → Int → Option (Int ⊕ Int)
  | 0, _, _ => none
  | n + 1, k3, i4 =>
    bif (ltI i4 ((a1.length : Int))) then
      (
        (getI a1 i4).bind fun e8 =>
        bif (!eqI e8 k3) then
          (
            some (.inr ((-1)))
          )
        else
          (
            sI (w64 (k3 + 1)) fun k10 =>
            sI (w64 (i4 + 1)) fun i11 =>
            r_laws_heldIntS_L5 a1 n k10 i11
          )
      )
    else
      (
        some (.inl k3)
      )
def r_laws_heldIntS (a1 : List Int) (k2 : Int) : Option Int :=
  (r_laws_heldIntS_L5 a1 FU k2 0).bind fun qo6 =>
  match qo6 with
  | .inr r => some r
  | .inl o6 =>
    some o6
def r_laws_FnExactCheckBundle (aS1 : ByteArray) : Option Bool :=
  bif (ltI 1048576 ((aS1.size : Int))) then
    (
      some true
    )
  else
    (
      (r_spec_CheckBundle aS1).bind fun y3 =>
      (r_impl_CheckBundle aS1).bind fun y4 =>
      (r_laws_eqIntS y4.1 y3.1).bind fun y5 =>
      bif (bif (!y5) then true else (y4.2 != y3.2)) then
        (
          some false
        )
      else
        (
          (r_laws_markIntS y4.1 1).bind fun y8 =>
          (r_laws_heldIntS y8.2 1).bind fun y9 =>
          bif (ltI y9 0) then
            (
              some false
            )
          else
            (
              bif (!eqI y9 y8.1) then
                (
                  some false
                )
              else
                (
                  (r_impl_CheckBundle aS1).bind fun y12 =>
                  (r_laws_eqIntS y12.1 y3.1).bind fun y13 =>
                  bif (bif (!y13) then true else (y12.2 != y3.2)) then
                    (
                      some false
                    )
                  else
                    (
                      (r_laws_heldIntS y8.2 1).bind fun y16 =>
                      bif (ltI y16 0) then
                        (
                          some false
                        )
                      else
                        (
                          bif (!eqI y16 y8.1) then
                            (
                              some false
                            )
                          else
                            (
                              some true
                            )
                        )
                    )
                )
            )
        )
    )
end Go.Proofs.YtfmjfofocklgpaaGreatDoor
namespace Go.Proofs.YtfmjfofocklgpaaGreatDoor
set_option linter.unusedVariables false
set_option linter.unusedSimpArgs false
theorem FUge : 1000000 ≤ FU := by decide
theorem nzOk {b : Int} (h : b ≠ 0) : nz b = some () := by
  unfold nz
  rw [eqI_eq]
  have : (b == 0) = false := by rw [beq_eq_false_iff_ne]; exact h
  rw [this]
  rfl
theorem eqSelf (a : Int) : eqI a a = true := by rw [eqI_eq]; exact beq_self_eq_true a
theorem eqNe {a b : Int} (h : a ≠ b) : eqI a b = false := by rw [eqI_eq, beq_eq_false_iff_ne]; exact h
theorem roomOk {n : Nat} (h : n ≤ 1000000000) : room n = some () := by
  unfold room
  rw [Nat.ble_eq_true_of_le (by omega), cond_true]
theorem getNat {α : Type} {l : List α} {k : Nat} (hk : k < l.length) : getI l (k : Int) = some (l[k]'hk) := by
  unfold getI
  rw [leI_eq, decide_eq_true (by omega), cond_true]
  simp
theorem wsucc {k : Nat} (h : k < 1000000000) : w64 ((k : Int) + 1) = ((k + 1 : Nat) : Int) := by rw [zL (by omega)]; push_cast; omega
/-- A string of bytes. -/
def bl (l : List UInt8) : ByteArray := ⟨l.toArray⟩
theorem bl_app (a b : List UInt8) : bl a ++ bl b = bl (a ++ b) := by
  apply ByteArray.ext
  simp [bl]
theorem bl_size (l : List UInt8) : (bl l).size = l.length := by simp [bl, ByteArray.size]
theorem bl_data (l : List UInt8) : (bl l).data.toList = l := by simp [bl]
theorem catBl {a b : List UInt8} (h : a.length + b.length ≤ 9223372036854775807) : catR (bl a) (bl b) = some () := by
  unfold catR
  rw [if_pos (by rw [bl_size, bl_size]; exact h)]
theorem nDig_le : ∀ (m v : Nat), v < 10 ^ m → 1 ≤ m → Go.Lib.nDigits v ≤ m
  | 0, v, hv, h => by omega
  | m + 1, v, hv, _ => by
    by_cases hv10 : v < 10
    · rw [Go.Lib.nDigits_small hv10]; omega
    · rw [Go.Lib.nDigits_big hv10]
      have : m ≠ 0 := by intro e; subst e; simp at hv; omega
      have := nDig_le m (v / 10) (by rw [Nat.pow_succ] at hv; omega) (by omega)
      omega
/-- A number that is not too great. -/
def sm18 (n : Int) : Prop := -1000000000000000000 < n ∧ n < 1000000000000000000
theorem itoa_len {n : Int} (h : sm18 n) : (Go.Lib.itoa n).length ≤ 19 := by
  obtain ⟨h0, h1⟩ := h
  unfold Go.Lib.itoa
  split
  · rw [List.length_cons, Go.Lib.decDigits_length]
    have := nDig_le 18 n.natAbs (by omega) (by omega)
    omega
  · rw [Go.Lib.decDigits_length]
    have := nDig_le 18 n.toNat (by omega) (by omega)
    omega
theorem itoa_eq {n : Int} (h : sm18 n) : r_strconv_Itoa n = some (bl (Go.Lib.itoa n)) := by
  obtain ⟨h0, h1⟩ := h
  unfold r_strconv_Itoa
  rw [if_pos (by omega)]
  rfl
end Go.Proofs.YtfmjfofocklgpaaGreatDoor
namespace Go.Proofs.YtfmjfofocklgpaaGreatDoor
set_option linter.unusedVariables false
set_option linter.unusedSimpArgs false
/-- A text split at a byte. -/
def spl (c : UInt8) : List UInt8 → List (List UInt8)
  | [] => [[]]
  | b :: l => if b = c then [] :: spl c l else match spl c l with
    | w :: ws => (b :: w) :: ws
    | [] => [[b]]
theorem spl_ne (c : UInt8) : ∀ l, spl c l ≠ []
  | [] => by simp [spl]
  | b :: l => by
    unfold spl
    split
    · simp
    · split <;> simp
theorem spl_eq (c : UInt8) (l : List UInt8) : spl c (c :: l) = [] :: spl c l := by simp [spl]
theorem spl_cons {b c : UInt8} (h : b ≠ c) {l w : List UInt8} {ws : List (List UInt8)} (e : spl c l = w :: ws) : spl c (b :: l) = (b :: w) :: ws := by simp [spl, h, e]
theorem index_eq (c : UInt8) (l : List UInt8) : Go.Lib.index (c :: l) [c] = 0 := by simp [Go.Lib.index]
theorem index_ne {b c : UInt8} (h : b ≠ c) (l : List UInt8) : Go.Lib.index (b :: l) [c] = if Go.Lib.index l [c] == -1 then -1 else Go.Lib.index l [c] + 1 := by
  have : ([c] : List UInt8).isPrefixOf (b :: l) = false := by
    simp [List.isPrefixOf, Ne.symm h]
  rw [show Go.Lib.index (b :: l) [c] = if ([c] : List UInt8).isPrefixOf (b :: l) = true then 0 else if Go.Lib.index l [c] == -1 then -1 else Go.Lib.index l [c] + 1 from rfl, this]
  rfl
theorem splitK_spl (c : UInt8) : ∀ (l : List UInt8), Go.Lib.splitK [c] 0 (l.count c) l = spl c l
  | [] => rfl
  | b :: l => by
    have ih := splitK_spl c l
    by_cases h : b = c
    · subst h
      rw [List.count_cons_self, spl_eq, ← ih, Go.Lib.splitK, index_eq]
      rfl
    · rw [List.count_cons_of_ne (by exact fun e => h e)]
      cases hk : l.count c with
      | zero =>
        rw [hk] at ih
        have ih : [l] = spl c l := ih
        rw [spl_cons h ih.symm]
        rfl
      | succ k =>
        rw [hk] at ih
        rw [Go.Lib.splitK] at ih ⊢
        rw [index_ne h]
        cases hi : (Go.Lib.index l [c] == -1) with
        | true =>
          rw [hi, if_pos rfl] at ih
          rw [if_pos (by rfl), spl_cons h ih.symm]
        | false =>
          rw [hi, if_neg (by decide)] at ih
          have hge := Go.Lib.index_ge l [c]
          have hne : Go.Lib.index l [c] ≠ -1 := by rw [beq_eq_false_iff_ne] at hi; exact hi
          have e1 : (if false = true then (-1 : Int) else Go.Lib.index l [c] + 1) = Go.Lib.index l [c] + 1 := rfl
          have e2 : (Go.Lib.index l [c] + 1 == -1) = false := by rw [beq_eq_false_iff_ne]; omega
          have e3 : (Go.Lib.index l [c] + 1).toNat = (Go.Lib.index l [c]).toNat + 1 := by omega
          rw [e1, e2, if_neg (by decide), spl_cons h ih.symm, e3]
          rfl
theorem split_val (s : ByteArray) (c : UInt8) (h : s.size < 4294967281) : r_strings_Split s ⟨#[c]⟩ = some ((spl c s.data.toList).map bl) := by
  have h1 : 1 ≤ (⟨#[c]⟩ : ByteArray).size := Nat.le_refl 1
  unfold r_strings_Split
  rw [if_pos ⟨h, h1⟩]
  have e1 := Go.Lib.splitB_data ⟨#[c]⟩ 0 (Go.Lib.countB s ⟨#[c]⟩) s
  have e2 : Go.Lib.countB s ⟨#[c]⟩ = s.data.toList.count c := Go.Lib.count_one c _
  have e3 : (⟨#[c]⟩ : ByteArray).data.toList = [c] := rfl
  rw [e2] at e1 ⊢
  rw [e3, splitK_spl] at e1
  rw [← e1, List.map_map]
  have : (bl ∘ fun x : ByteArray => x.data.toList) = id := by
    funext x
    rfl
  rw [this, List.map_id]
/-- A text's pieces between the bytes that a predicate takes away. -/
def fld (p : UInt8 → Bool) : List UInt8 → List UInt8 → List (List UInt8)
  | cur, [] => if cur = [] then [] else [cur]
  | cur, b :: l => if p b = true then (if cur = [] then fld p [] l else cur :: fld p [] l) else fld p (cur ++ [b]) l
theorem fld_nil {p : UInt8 → Bool} {cur : List UInt8} (h : cur ≠ []) : fld p cur [] = [cur] := by
  unfold fld
  rw [if_neg h]
theorem fld_sep {p : UInt8 → Bool} {cur l : List UInt8} {b : UInt8} (hb : p b = true) (h : cur ≠ []) : fld p cur (b :: l) = cur :: fld p [] l := by
  rw [fld, if_pos hb, if_neg h]
theorem fld_sep0 {p : UInt8 → Bool} {l : List UInt8} {b : UInt8} (hb : p b = true) : fld p [] (b :: l) = fld p [] l := by
  rw [fld, if_pos hb, if_pos rfl]
theorem fld_in {p : UInt8 → Bool} {cur l : List UInt8} {b : UInt8} (hb : p b = false) : fld p cur (b :: l) = fld p (cur ++ [b]) l := by
  rw [fld, if_neg (by rw [hb]; decide)]
theorem dec_ascii {s : ByteArray} {i : Nat} (hi : i < s.size) (h : (s.data.toList[i]'hi).toNat < 128) : Utf8.decode s i = ((s.data.toList[i]'hi).toNat, 1) := by
  have e : (s.get! (i + 0)).toNat = (s.data.toList[i]'hi).toNat := by
    have : s.get! (i + 0) = s.data.toList[i]'hi := by
      show s.data[i + 0]! = _
      have hi2 : i < s.data.size := hi
      rw [Nat.add_zero, getElem!_pos s.data i hi2]
      rfl
    rw [this]
  unfold Utf8.decode
  simp only [e]
  rw [if_pos h]
def curO (s : ByteArray) (pos : Nat) : Option Nat → List UInt8
  | some a => (s.data.toList.drop a).take (pos - a)
  | none => []
theorem take_more {α : Type} {l : List α} {a i : Nat} {x : α} (ha : a ≤ i) (h : l[i]? = some x) : (l.drop a).take (i + 1 - a) = (l.drop a).take (i - a) ++ [x] := by
  rw [show i + 1 - a = (i - a) + 1 by omega, List.take_add_one, List.getElem?_drop, show a + (i - a) = i by omega, h]
  rfl
theorem take_ne {α : Type} {l : List α} {a i : Nat} (h : a < i) (hi : i ≤ l.length) : (l.drop a).take (i - a) ≠ [] := by
  intro e
  have := congrArg List.length e
  simp at this
  omega
theorem ext_bl (s : ByteArray) (a b : Nat) : s.extract a b = bl ((s.data.toList.drop a).take (b - a)) := by
  have h := Go.Lib.extract_data s a b
  have e : ∀ x : ByteArray, x = bl x.data.toList := fun x => rfl
  rw [e (s.extract a b), h]
theorem fld_end (p : Nat → Bool) (s : ByteArray) (st : Option Nat) (acc : List (Nat × Nat)) (hst : ∀ a, st = some a → a < s.size) :
    (Go.Lib.closeSpans s (acc, st)).map (fun x => s.extract x.1 x.2) = acc.map (fun x => s.extract x.1 x.2) ++ (fld (fun b => p b.toNat) (curO s s.size st) []).map bl := by
  cases st with
  | none => simp [Go.Lib.closeSpans, fld, curO]
  | some a =>
    have ha := hst a rfl
    have hne : (s.data.toList.drop a).take (s.size - a) ≠ [] := by
      intro h
      have := congrArg List.length h
      simp at this
      have e : s.data.size = s.size := rfl
      omega
    simp only [Go.Lib.closeSpans, curO, List.map_append, List.map_cons, List.map_nil, ext_bl]
    rw [fld_nil hne]
    rfl
theorem fld_spans (p : Nat → Bool) (s : ByteArray) (ha : ∀ b ∈ s.data.toList, b.toNat < 128) : ∀ (f pos : Nat) (st : Option Nat) (acc : List (Nat × Nat)), s.size ≤ pos + f → pos ≤ s.size → (∀ a, st = some a → a < pos) →
    (Go.Lib.closeSpans s (Go.Lib.spansFromP p s f pos st acc)).map (fun x => s.extract x.1 x.2) = acc.map (fun x => s.extract x.1 x.2) ++ (fld (fun b => p b.toNat) (curO s pos st) (s.data.toList.drop pos)).map bl := by
  intro f
  have hsz : s.data.toList.length = s.size := rfl
  induction f with
  | zero =>
    intro pos st acc hf hp hst
    have e : pos = s.size := by omega
    subst e
    rw [List.drop_of_length_le (by omega)]
    rw [show Go.Lib.spansFromP p s 0 s.size st acc = (acc, st) from rfl]
    exact fld_end p s st acc hst
  | succ f ih =>
    intro pos st acc hf hp hst
    by_cases hlt : pos < s.size
    · have hd := dec_ascii hlt (ha _ (List.getElem_mem ..))
      have hdr : s.data.toList.drop pos = s.data.toList[pos]'hlt :: s.data.toList.drop (pos + 1) := List.drop_eq_getElem_cons hlt
      generalize hb : s.data.toList[pos]'hlt = b at hd hdr
      have hget : s.data.toList[pos]? = some b := by rw [← hb]; exact List.getElem?_eq_getElem hlt
      unfold Go.Lib.spansFromP
      rw [if_pos hlt, hd, hdr]
      cases hpb : p b.toNat with
      | true =>
        rw [if_pos rfl]
        cases st with
        | some a =>
          have hap := hst a rfl
          have hne : (s.data.toList.drop a).take (pos - a) ≠ [] := take_ne hap (by omega)
          rw [ih (pos + 1) none _ (by omega) (by omega) (fun a h => by cases h)]
          simp only [curO, List.map_append, List.map_cons, List.map_nil, ext_bl, List.append_assoc, List.singleton_append]
          rw [fld_sep (p := fun b => p b.toNat) hpb hne]
          rfl
        | none =>
          rw [ih (pos + 1) none _ (by omega) (by omega) (fun a h => by cases h)]
          simp only [curO]
          rw [fld_sep0 (p := fun b => p b.toNat) hpb]
      | false =>
        rw [if_neg (by decide)]
        cases st with
        | some a =>
          have hap := hst a rfl
          rw [ih (pos + 1) (some a) _ (by omega) (by omega) (fun a' h => by injection h with h; omega)]
          simp only [curO, take_more (Nat.le_of_lt hap) hget]
          rw [fld_in (p := fun b => p b.toNat) hpb]
        | none =>
          rw [ih (pos + 1) (some pos) _ (by omega) (by omega) (fun a' h => by injection h with h; omega)]
          have e : (s.data.toList.drop pos).take (pos + 1 - pos) = [b] := by
            rw [hdr, Nat.add_sub_cancel_left]
            rfl
          simp only [curO, e]
          rw [fld_in (p := fun b => p b.toNat) hpb]
          rfl
    · have e : pos = s.size := by omega
      rw [Go.Lib.spansFromP_end _ _ _ _ _ _ hlt]
      subst e
      rw [List.drop_of_length_le (by omega)]
      exact fld_end p s st acc hst
theorem fields_val (p : Nat → Bool) (s : ByteArray) (ha : ∀ b ∈ s.data.toList, b.toNat < 128) : Go.Lib.goFieldsP p s = (fld (fun b => p b.toNat) [] s.data.toList).map bl := by
  have h := fld_spans p s ha s.size 0 none [] (by omega) (by omega) (fun a h => by cases h)
  exact h
end Go.Proofs.YtfmjfofocklgpaaGreatDoor
namespace Go.Proofs.YtfmjfofocklgpaaGreatDoor
open Go.Lib
set_option linter.unusedVariables false
set_option linter.unusedSimpArgs false
/-- A byte is a digit. -/
def isD (b : UInt8) : Bool := decide (48 ≤ b.toNat) && decide (b.toNat ≤ 57)
theorem dg_toNat {d : Nat} (h : d < 10) : (UInt8.ofNat (48 + d)).toNat = 48 + d := by
  rw [UInt8.toNat_ofNat']
  omega
theorem dec_low {u : Nat} (h : u < 10) : decDigits u = [UInt8.ofNat (48 + u)] := by rw [decDigits, dif_pos h]
theorem dec_high {u : Nat} (h : ¬ u < 10) : decDigits u = decDigits (u / 10) ++ [UInt8.ofNat (48 + u % 10)] := by rw [decDigits, dif_neg h]
theorem dec_ind (Q : Nat → Prop) (h1 : ∀ u, u < 10 → Q u) (h2 : ∀ u, ¬ u < 10 → Q (u / 10) → Q u) : ∀ u, Q u := by
  intro u
  induction u using Nat.strongRecOn with
  | ind u ih =>
    by_cases h : u < 10
    · exact h1 u h
    · exact h2 u h (ih _ (by omega))
theorem dec_isD : ∀ u, ∀ b ∈ decDigits u, isD b = true := by
  refine dec_ind _ (fun u h b hb => ?_) fun u h ih b hb => ?_
  · rw [dec_low h, List.mem_singleton] at hb
    subst hb
    simp only [isD, dg_toNat h, Bool.and_eq_true, decide_eq_true_eq]
    omega
  · rw [dec_high h, List.mem_append, List.mem_singleton] at hb
    rcases hb with hb | rfl
    · exact ih b hb
    · simp only [isD, dg_toNat (show u % 10 < 10 by omega), Bool.and_eq_true, decide_eq_true_eq]
      omega
theorem dec_ne (u : Nat) : decDigits u ≠ [] := by
  by_cases h : u < 10
  · rw [dec_low h]; simp
  · rw [dec_high h]; simp
theorem decFrom_app : ∀ (l : List UInt8) (acc n : Nat) (b : UInt8) (d : Nat), decFrom acc l = some n → digitVal b = some d → decFrom acc (l ++ [b]) = some (n * 10 + d)
  | [], acc, n, b, d, h, hb => by
    simp only [decFrom, Option.some.injEq] at h
    subst h
    simp [decFrom, hb]
  | c :: r, acc, n, b, d, h, hb => by
    simp only [List.cons_append, decFrom] at h ⊢
    cases hc : digitVal c with
    | none => rw [hc] at h; cases h
    | some e =>
      rw [hc] at h
      exact decFrom_app r _ n b d h hb
theorem dg_val {d : Nat} (h : d < 10) : digitVal (UInt8.ofNat (48 + d)) = some d := by
  unfold digitVal
  rw [dg_toNat h]
  rw [if_pos (by omega)]
  congr 1
  omega
theorem decFrom_dec : ∀ u, decFrom 0 (decDigits u) = some u := by
  refine dec_ind _ (fun u h => ?_) fun u h ih => ?_
  · rw [dec_low h]
    show (match digitVal (UInt8.ofNat (48 + u)) with | some d => decFrom (0 * 10 + d) [] | none => none) = _
    rw [dg_val h]
    simp [decFrom]
  · rw [dec_high h, decFrom_app _ _ _ _ _ ih (dg_val (show u % 10 < 10 by omega))]
    congr 1
    omega
theorem decNat_dec (u : Nat) : decNat (decDigits u) = some u := by
  unfold decNat
  have : (decDigits u).isEmpty = false := by
    cases h : decDigits u with
    | nil => exact absurd h (dec_ne u)
    | cons a l => rfl
  rw [this]
  exact decFrom_dec u
theorem itoa_nn {n : Int} (h : 0 ≤ n) : Go.Lib.itoa n = decDigits n.toNat := by unfold Go.Lib.itoa; rw [if_neg (by omega)]
theorem itoa_ng {n : Int} (h : n < 0) : Go.Lib.itoa n = 45 :: decDigits n.natAbs := by unfold Go.Lib.itoa; rw [if_pos h]
theorem dec_head (u : Nat) : ∃ b r, decDigits u = b :: r ∧ isD b = true := by
  cases h : decDigits u with
  | nil => exact absurd h (dec_ne u)
  | cons b r => exact ⟨b, r, rfl, dec_isD u b (by rw [h]; exact List.mem_cons_self ..)⟩
theorem isD_ne {b : UInt8} (h : isD b = true) (c : UInt8) (hc : isD c = false) : b ≠ c := by
  intro e
  rw [e, hc] at h
  cases h
theorem atoi_itoa (n : Int) : atoi (Go.Lib.itoa n) = some n := by
  by_cases h : n < 0
  · rw [itoa_ng h]
    show (if (45 : UInt8) == 45 then (decNat (decDigits n.natAbs)).map fun (m : Nat) => -(m : Int) else if (45 : UInt8) == 43 then (decNat (decDigits n.natAbs)).map fun (m : Nat) => (m : Int) else (decNat (45 :: decDigits n.natAbs)).map fun (m : Nat) => (m : Int)) = _
    rw [if_pos (by rfl), decNat_dec]
    simp only [Option.map_some]
    congr 1
    omega
  · rw [itoa_nn (by omega)]
    obtain ⟨b, r, e, hb⟩ := dec_head n.toNat
    rw [e]
    show (if b == 45 then (decNat r).map fun (m : Nat) => -(m : Int) else if b == 43 then (decNat r).map fun (m : Nat) => (m : Int) else (decNat (b :: r)).map fun (m : Nat) => (m : Int)) = _
    have h1 : (b == 45) = false := by rw [beq_eq_false_iff_ne]; exact isD_ne hb 45 (by decide)
    have h2 : (b == 43) = false := by rw [beq_eq_false_iff_ne]; exact isD_ne hb 43 (by decide)
    rw [h1, h2, if_neg (by decide), if_neg (by decide), ← e, decNat_dec]
    simp only [Option.map_some]
    congr 1
    omega
theorem itoa_len10 {n : Int} (h1 : -1000000 ≤ n) (h2 : n ≤ 1000000) : (Go.Lib.itoa n).length ≤ 8 := by
  by_cases h : n < 0
  · rw [itoa_ng h, List.length_cons, decDigits_length]
    have := nDig_le 7 n.natAbs (by omega) (by decide)
    omega
  · rw [itoa_nn (by omega), decDigits_length]
    have := nDig_le 7 n.toNat (by omega) (by decide)
    omega
theorem atoi_val {n : Int} (h1 : -1000000 ≤ n) (h2 : n ≤ 1000000) : r_strconv_Atoi (bl (Go.Lib.itoa n)) = some (n, true) := by
  have hl := itoa_len10 h1 h2
  unfold r_strconv_Atoi
  rw [if_pos (by rw [bl_size]; omega), bl_data, atoiAll_short _ (by omega), atoi_itoa]
  rfl
theorem atoi_some (s : ByteArray) (h : s.size ≤ 281474976710656) : ∃ r, r_strconv_Atoi s = some r := by
  unfold r_strconv_Atoi
  rw [if_pos h]
  cases atoiAll s.data.toList <;> exact ⟨_, rfl⟩
/-- A byte of a number. -/
def isN (b : UInt8) : Bool := (b.toNat == 45) || isD b
theorem itoa_isN (n : Int) : ∀ b ∈ Go.Lib.itoa n, isN b = true := by
  intro b hb
  by_cases h : n < 0
  · rw [itoa_ng h] at hb
    cases hb with
    | head => rfl
    | tail _ hb => simp only [isN, dec_isD _ b hb, Bool.or_true]
  · rw [itoa_nn (by omega)] at hb
    simp only [isN, dec_isD _ b hb, Bool.or_true]
theorem itoa_ne (n : Int) : Go.Lib.itoa n ≠ [] := by
  by_cases h : n < 0
  · rw [itoa_ng h]; simp
  · rw [itoa_nn (by omega)]; exact dec_ne _
theorem isN_ascii {b : UInt8} (h : isN b = true) : b.toNat < 128 := by
  simp only [isN, isD, Bool.or_eq_true, Bool.and_eq_true, decide_eq_true_eq, beq_iff_eq] at h
  omega
theorem fld_word {p : UInt8 → Bool} : ∀ (w cur l : List UInt8), (∀ b ∈ w, p b = false) → fld p cur (w ++ l) = fld p (cur ++ w) l
  | [], cur, l, h => by rw [List.nil_append, List.append_nil]
  | b :: w, cur, l, h => by
    rw [List.cons_append, fld_in (h b (List.mem_cons_self ..)), fld_word w _ l (fun x hx => h x (List.mem_cons_of_mem _ hx)), List.append_assoc]
    rfl
/-- A number, a separator, and what follows. -/
theorem fld_num {p : UInt8 → Bool} (hp : ∀ b, isN b = true → p b = false) {c : UInt8} (hc : p c = true) (n : Int) (l : List UInt8) : fld p [] (Go.Lib.itoa n ++ c :: l) = Go.Lib.itoa n :: fld p [] l := by
  rw [fld_word _ _ _ (fun b hb => hp b (itoa_isN n b hb)), List.nil_append, fld_sep hc (itoa_ne n)]
end Go.Proofs.YtfmjfofocklgpaaGreatDoor
namespace Go.Proofs.YtfmjfofocklgpaaGreatDoor
set_option linter.unusedVariables false
set_option linter.unusedSimpArgs false
/-- The bytes of a form's text. -/
def fB (f : Int × Int × Int) : List UInt8 := ((((([40] ++ Go.Lib.itoa f.1) ++ [44]) ++ Go.Lib.itoa f.2.1) ++ [44]) ++ Go.Lib.itoa f.2.2) ++ [41]
theorem formText_eq {f : Int × Int × Int} (h1 : sm18 f.1) (h2 : sm18 f.2.1) (h3 : sm18 f.2.2) : r_impl_formText f = some (bl (fB f)) := by
  have a1 := itoa_len h1
  have a2 := itoa_len h2
  have a3 := itoa_len h3
  have e1 : (⟨#[40]⟩ : ByteArray) = bl [40] := rfl
  have e2 : (⟨#[44]⟩ : ByteArray) = bl [44] := rfl
  have e3 : (⟨#[41]⟩ : ByteArray) = bl [41] := rfl
  unfold r_impl_formText
  rw [itoa_eq h1, Option.bind_some, e1, e2, e3, catBl (by simp; omega), Option.bind_some, bl_app, catBl (by simp; omega), Option.bind_some, bl_app, itoa_eq h2, Option.bind_some, catBl (by simp; omega), Option.bind_some, bl_app, catBl (by simp; omega), Option.bind_some, bl_app, itoa_eq h3, Option.bind_some, catBl (by simp; omega), Option.bind_some, bl_app, catBl (by simp; omega), Option.bind_some, bl_app]
  rfl
/-- The bytes of a matrix's text. -/
def mB (m : Int × Int × Int × Int) : List UInt8 := ((((((([91] ++ Go.Lib.itoa m.1) ++ [44]) ++ Go.Lib.itoa m.2.1) ++ [59]) ++ Go.Lib.itoa m.2.2.1) ++ [44]) ++ Go.Lib.itoa m.2.2.2) ++ [93]
theorem matText_eq {m : Int × Int × Int × Int} (h1 : sm18 m.1) (h2 : sm18 m.2.1) (h3 : sm18 m.2.2.1) (h4 : sm18 m.2.2.2) : r_impl_matrixText m = some (bl (mB m)) := by
  have a1 := itoa_len h1
  have a2 := itoa_len h2
  have a3 := itoa_len h3
  have a4 := itoa_len h4
  have e1 : (⟨#[91]⟩ : ByteArray) = bl [91] := rfl
  have e2 : (⟨#[44]⟩ : ByteArray) = bl [44] := rfl
  have e3 : (⟨#[59]⟩ : ByteArray) = bl [59] := rfl
  have e4 : (⟨#[93]⟩ : ByteArray) = bl [93] := rfl
  unfold r_impl_matrixText
  rw [itoa_eq h1, Option.bind_some, e1, e2, e3, e4, catBl (by simp; omega), Option.bind_some, bl_app, catBl (by simp; omega), Option.bind_some, bl_app, itoa_eq h2, Option.bind_some, catBl (by simp; omega), Option.bind_some, bl_app, catBl (by simp; omega), Option.bind_some, bl_app, itoa_eq h3, Option.bind_some, catBl (by simp; omega), Option.bind_some, bl_app, catBl (by simp; omega), Option.bind_some, bl_app, itoa_eq h4, Option.bind_some, catBl (by simp; omega), Option.bind_some, bl_app, catBl (by simp; omega), Option.bind_some, bl_app]
  rfl
end Go.Proofs.YtfmjfofocklgpaaGreatDoor
namespace Go.Proofs.YtfmjfofocklgpaaGreatDoor
open Go.Lib
set_option linter.unusedVariables false
set_option linter.unusedSimpArgs false
theorem spl_one {c : UInt8} : ∀ (w : List UInt8), (∀ b ∈ w, b ≠ c) → spl c w = [w]
  | [], _ => rfl
  | b :: w, h => spl_cons (h b (List.mem_cons_self ..)) (spl_one w fun x hx => h x (List.mem_cons_of_mem _ hx))
theorem spl_word {c : UInt8} : ∀ (w l : List UInt8), (∀ b ∈ w, b ≠ c) → spl c (w ++ c :: l) = w :: spl c l
  | [], l, _ => spl_eq c l
  | b :: w, l, h => spl_cons (h b (List.mem_cons_self ..)) (spl_word w l fun x hx => h x (List.mem_cons_of_mem _ hx))
theorem itoa_no (n : Int) (c : UInt8) (hc : isN c = false) : ∀ b ∈ Go.Lib.itoa n, b ≠ c := fun b hb e => by
  have := itoa_isN n b hb
  rw [e, hc] at this
  cases this
theorem fB_eq (f : Int × Int × Int) : fB f = 40 :: (Go.Lib.itoa f.1 ++ 44 :: (Go.Lib.itoa f.2.1 ++ 44 :: (Go.Lib.itoa f.2.2 ++ [41]))) := by
  simp [fB]
/-- Not part of a number. -/
def pN (x : Nat) : Bool := (x != 45) && (decide (x < 48) || decide (57 < x))
theorem pN_isN (b : UInt8) : pN b.toNat = !isN b := by
  unfold pN isN isD
  rw [Bool.eq_iff_iff]
  simp only [Bool.and_eq_true, Bool.or_eq_true, bne_iff_ne, decide_eq_true_eq, Bool.not_eq_true', Bool.or_eq_false_iff, beq_eq_false_iff_ne, Bool.and_eq_false_iff, decide_eq_false_iff_not]
  omega
theorem fB_fields (f : Int × Int × Int) : fld (fun b => pN b.toNat) [] (fB f) = [Go.Lib.itoa f.1, Go.Lib.itoa f.2.1, Go.Lib.itoa f.2.2] := by
  have hp : ∀ b, isN b = true → (fun b : UInt8 => pN b.toNat) b = false := fun b h => by simp only [pN_isN, h, Bool.not_true]
  rw [fB_eq, fld_sep0 (by decide), fld_num hp (by decide), fld_num hp (by decide), fld_num hp (by decide)]
  rfl
theorem fB_ascii (f : Int × Int × Int) : ∀ b ∈ fB f, b.toNat < 128 := by
  intro b hb
  rw [fB_eq] at hb
  simp only [List.mem_cons, List.mem_append, List.not_mem_nil, or_false] at hb
  rcases hb with rfl | hb | rfl | hb | rfl | hb | rfl
  · decide
  · exact isN_ascii (itoa_isN _ b hb)
  · decide
  · exact isN_ascii (itoa_isN _ b hb)
  · decide
  · exact isN_ascii (itoa_isN _ b hb)
  · decide
theorem fB_goFields (f : Int × Int × Int) : goFieldsP pN (bl (fB f)) = [bl (Go.Lib.itoa f.1), bl (Go.Lib.itoa f.2.1), bl (Go.Lib.itoa f.2.2)] := by
  rw [fields_val pN (bl (fB f)) (by rw [bl_data]; exact fB_ascii f), bl_data, fB_fields]
  rfl
end Go.Proofs.YtfmjfofocklgpaaGreatDoor
namespace Go.Proofs.YtfmjfofocklgpaaGreatDoor
open Go.Lib
set_option linter.unusedVariables false
set_option linter.unusedSimpArgs false
theorem bl_of (x : ByteArray) : x = bl x.data.toList := rfl
theorem bl_inj {a b : List UInt8} (h : bl a = bl b) : a = b := by
  have := congrArg (fun x : ByteArray => x.data.toList) h
  simpa [bl] using this
theorem eqS (a b : ByteArray) : (a.toList == b.toList) = decide (a = b) := by
  rw [ByteArray.toList_eq, ByteArray.toList_eq, Bool.eq_iff_iff, beq_iff_eq, decide_eq_true_iff]
  constructor
  · intro h
    rw [bl_of a, bl_of b, h]
  · intro h
    rw [h]
theorem getB_nat {s : ByteArray} {i : Nat} (h : i < s.size) : getB s (i : Int) = some (((s.data.toList[i]'h).toNat : Nat) : Int) := by
  have h2 : i < s.data.toList.length := h
  unfold getB
  rw [if_pos (by omega)]
  simp only [Int.toNat_natCast, List.getElem?_eq_getElem h2, Option.getD_some]
theorem slcOk {n l h : Nat} (h1 : l ≤ h) (h2 : h ≤ n) : slc n (l : Int) (h : Int) = some () := by
  unfold slc
  rw [leI_eq, leI_eq, leI_eq, decide_eq_true (by omega), decide_eq_true (by omega), decide_eq_true (by omega)]
  rfl
/-- The pieces of a text of which something was read already. -/
def splP (c : UInt8) (cur l : List UInt8) : List (List UInt8) := match spl c l with
  | w :: ws => (cur ++ w) :: ws
  | [] => [cur]
theorem splP_nil (c : UInt8) (l : List UInt8) : splP c [] l = spl c l := by
  unfold splP
  cases h : spl c l with
  | nil => exact absurd h (spl_ne c l)
  | cons w ws => rfl
theorem splP_eq (c : UInt8) (cur l : List UInt8) : splP c cur (c :: l) = cur :: spl c l := by
  unfold splP
  rw [spl_eq]
  simp
theorem splP_ne {b c : UInt8} (h : b ≠ c) (cur l : List UInt8) : splP c cur (b :: l) = splP c (cur ++ [b]) l := by
  unfold splP
  cases e : spl c l with
  | nil => exact absurd e (spl_ne c l)
  | cons w ws =>
    rw [spl_cons h e]
    simp
theorem spl_len (c : UInt8) : ∀ l, (spl c l).length ≤ l.length + 1
  | [] => by simp [spl]
  | b :: l => by
    have ih := spl_len c l
    by_cases h : b = c
    · subst h; rw [spl_eq]; simp; omega
    · cases e : spl c l with
      | nil => exact absurd e (spl_ne c l)
      | cons w ws => rw [spl_cons h e]; rw [e] at ih; simp at ih ⊢; omega
theorem byte_eq (b c : UInt8) : ((b.toNat : Int) == (c.toNat : Int)) = decide (b = c) := by
  rw [Bool.eq_iff_iff, beq_iff_eq, decide_eq_true_iff]
  constructor
  · intro h
    exact UInt8.toNat_inj.1 (by omega)
  · intro h
    rw [h]
theorem l1Split_run (s : ByteArray) (c : UInt8) (hs : s.size ≤ 100000000) : ∀ (k n f i : Nat) (l : List ByteArray), s.size - i = k → k < n → f ≤ i → i ≤ s.size → l.length ≤ i →
    ∃ f' l', r_spec_l1Split_L6 ((c.toNat : Nat) : Int) s n (f : Int) (i : Int) l = some (((f' : Nat) : Int), l') ∧ f' ≤ s.size ∧ l'.length ≤ s.size ∧ l' ++ [bl (s.data.toList.drop f')] = l ++ (splP c ((s.data.toList.drop f).take (i - f)) (s.data.toList.drop i)).map bl := by
  have hsz : s.data.toList.length = s.size := rfl
  intro k
  induction k with
  | zero =>
    intro n f i l hk hn hfi his hl
    obtain ⟨n, rfl⟩ : ∃ m, n = m + 1 := ⟨n - 1, by omega⟩
    refine ⟨f, l, ?_, by omega, by omega, ?_⟩
    · unfold r_spec_l1Split_L6
      rw [ltI_eq, decide_eq_false (by omega), cond_false]
    · have e : i = s.size := by omega
      subst e
      rw [List.drop_of_length_le (show s.data.toList.length ≤ s.size by omega), splP]
      simp only [spl, List.append_nil, List.map_cons, List.map_nil]
      rw [List.take_of_length_le (by simp)]
  | succ k ih =>
    intro n f i l hk hn hfi his hl
    obtain ⟨n, rfl⟩ : ∃ m, n = m + 1 := ⟨n - 1, by omega⟩
    have hlt : i < s.size := by omega
    have hdr : s.data.toList.drop i = s.data.toList[i]'hlt :: s.data.toList.drop (i + 1) := List.drop_eq_getElem_cons hlt
    have hg := getB_nat hlt
    have hget : s.data.toList[i]? = some (s.data.toList[i]'hlt) := List.getElem?_eq_getElem hlt
    generalize s.data.toList[i]'hlt = b at hdr hg hget
    unfold r_spec_l1Split_L6
    rw [ltI_eq, decide_eq_true (by omega), cond_true, hg, Option.bind_some, eqI_eq, byte_eq, hdr]
    by_cases hb : b = c
    · subst hb
      rw [decide_eq_true rfl, cond_true, slcOk hfi (by omega), Option.bind_some, roomOk (by simp; omega), Option.bind_some, sI_eq, sI_eq, wsucc (by omega)]
      obtain ⟨f', l', h1, h2, h3, h4⟩ := ih n (i + 1) (i + 1) (l ++ [s.extract f i]) (by omega) (by omega) (Nat.le_refl _) (by omega) (by simp; omega)
      refine ⟨f', l', h1, h2, h3, ?_⟩
      rw [h4, splP_eq, Nat.sub_self, List.take_zero, splP_nil, ext_bl]
      simp
    · rw [decide_eq_false hb, cond_false, sI_eq, wsucc (by omega)]
      obtain ⟨f', l', h1, h2, h3, h4⟩ := ih n f (i + 1) l (by omega) (by omega) (by omega) (by omega) (by omega)
      refine ⟨f', l', h1, h2, h3, ?_⟩
      rw [h4, splP_ne hb, take_more hfi hget]
theorem l1Split_val (s : ByteArray) (c : UInt8) (hs : s.size ≤ 100000000) : r_spec_l1Split s ((c.toNat : Nat) : Int) = some ((spl c s.data.toList).map bl) := by
  have hF : 100000001 < FU := by decide
  obtain ⟨f', l', h1, h2, h3, h4⟩ := l1Split_run s c hs s.size FU 0 0 [] rfl (by omega) (Nat.le_refl _) (Nat.zero_le _) (Nat.zero_le _)
  have h1 : r_spec_l1Split_L6 ((c.toNat : Nat) : Int) s FU 0 0 [] = some (((f' : Nat) : Int), l') := h1
  unfold r_spec_l1Split
  rw [h1]
  simp only [Option.bind_some]
  rw [slcOk h2 (Nat.le_refl _), Option.bind_some, roomOk (by simp; omega), Option.bind_some]
  have e : s.extract ((f' : Nat) : Int).toNat ((s.size : Nat) : Int).toNat = bl (s.data.toList.drop f') := by
    rw [Int.toNat_natCast, Int.toNat_natCast, ext_bl, List.take_of_length_le (by simp)]
  rw [e, h4]
  simp [splP_nil]
end Go.Proofs.YtfmjfofocklgpaaGreatDoor
namespace Go.Proofs.YtfmjfofocklgpaaGreatDoor
open Go.Lib
set_option linter.unusedVariables false
set_option linter.unusedSimpArgs false
def dvF (n : Nat) (l : List UInt8) : Nat := l.foldl (fun n b => 10 * n + (b.toNat - 48)) n
def dv (l : List UInt8) : Nat := dvF 0 l
theorem dvF_cons (n : Nat) (b : UInt8) (l : List UInt8) : dvF n (b :: l) = dvF (10 * n + (b.toNat - 48)) l := by
  unfold dvF
  rw [List.foldl_cons]
theorem dv_app (l : List UInt8) (b : UInt8) : dv (l ++ [b]) = 10 * dv l + (b.toNat - 48) := by simp [dv, dvF]
theorem dvF_ge : ∀ (l : List UInt8) (n : Nat), n ≤ dvF n l
  | [], n => Nat.le_refl _
  | b :: l, n => by
    have := dvF_ge l (10 * n + (b.toNat - 48))
    rw [dvF_cons]
    omega
theorem isD_iff {b : UInt8} : isD b = true ↔ 48 ≤ b.toNat ∧ b.toNat ≤ 57 := by
  unfold isD
  rw [Bool.and_eq_true, decide_eq_true_iff, decide_eq_true_iff]
theorem byte_back {b : UInt8} (h : isD b = true) : UInt8.ofNat (48 + (b.toNat - 48)) = b := by
  have h := isD_iff.1 h
  apply UInt8.toNat_inj.1
  rw [UInt8.toNat_ofNat']
  omega
/-- Digits with no needless zero ahead of them. -/
def canD (l : List UInt8) : Bool := !l.isEmpty && l.all isD && (l.length == 1 || l.head? != some 48)
theorem dec_canon : ∀ (k : Nat) (l : List UInt8), l.length = k → l ≠ [] → (∀ b ∈ l, isD b = true) → (l.head? = some 48 → l.length = 1) → decDigits (dv l) = l
  | 0, l, hk, h, _, _ => absurd (List.length_eq_zero_iff.1 hk) h
  | k + 1, l, hk, h, hd, h0 => by
    obtain ⟨m, b, rfl⟩ : ∃ m b, l = m ++ [b] := ⟨l.dropLast, l.getLast h, (List.dropLast_concat_getLast h).symm⟩
    have hb : isD b = true := hd b (by simp)
    have hb2 := isD_iff.1 hb
    rw [dv_app]
    cases m with
    | nil =>
      rw [show dv [] = 0 from rfl, dec_low (by omega), show 10 * 0 + (b.toNat - 48) = b.toNat - 48 by omega, byte_back hb]
      rfl
    | cons c m =>
      have hc : isD c = true := hd c (by simp)
      have hc2 := isD_iff.1 hc
      have hc3 : c ≠ 48 := by
        intro e
        have := h0 (by simp [e])
        simp at this
      have hc4 : c.toNat ≠ 48 := fun e => hc3 (UInt8.toNat_inj.1 (by rw [e]; rfl))
      have hpos : 1 ≤ dv (c :: m) := by
        have := dvF_ge m (10 * 0 + (c.toNat - 48))
        show 1 ≤ dvF 0 (c :: m)
        rw [dvF_cons]
        omega
      rw [dec_high (by omega), show (10 * dv (c :: m) + (b.toNat - 48)) / 10 = dv (c :: m) by omega, show (10 * dv (c :: m) + (b.toNat - 48)) % 10 = b.toNat - 48 by omega, byte_back hb]
      rw [dec_canon k (c :: m) (by simp at hk; simp; omega) (by simp) (fun x hx => hd x (List.mem_append_left _ hx)) (fun e => by
        injection e with e
        exact absurd e hc3)]
theorem dv_dec (u : Nat) : dv (decDigits u) = u := by
  revert u
  refine dec_ind _ (fun u h => ?_) fun u h ih => ?_
  · rw [dec_low h]
    unfold dv
    rw [dvF_cons, dg_toNat h]
    unfold dvF
    rw [List.foldl_nil]
    omega
  · rw [dec_high h, dv_app, ih, dg_toNat (by omega)]
    omega
theorem canD_dec (u : Nat) : canD (decDigits u) = true := by
  have h1 := dec_ne u
  have h2 := dec_isD u
  have h3 : ∀ u, (decDigits u).head? = some 48 → (decDigits u).length = 1 := by
    refine dec_ind _ (fun u h => ?_) fun u h ih => ?_
    · rw [dec_low h]
      intro _
      rfl
    · rw [dec_high h]
      intro e
      exfalso
      have h4 := dec_ne (u / 10)
      cases hm : decDigits (u / 10) with
      | nil => exact h4 hm
      | cons c m =>
        rw [hm] at e
        have h5 := ih (by rw [hm]; exact e)
        rw [hm] at h5
        have h6 : m = [] := by
          cases m with
          | nil => rfl
          | cons _ _ => simp at h5
        subst h6
        have h7 := dv_dec (u / 10)
        rw [hm] at h7
        injection e with e
        subst e
        unfold dv at h7
        rw [dvF_cons] at h7
        have h8 : dvF (10 * 0 + ((48 : UInt8).toNat - 48)) [] = 0 := rfl
        omega
  unfold canD
  have h3 := h3 u
  cases hl : decDigits u with
  | nil => exact absurd hl h1
  | cons c m =>
    rw [hl] at h2 h3
    have ha : (c :: m).all isD = true := by rw [List.all_eq_true]; exact h2
    rw [ha]
    by_cases hc : c = 48
    · have := h3 (by rw [hc]; rfl)
      rw [this]
      rfl
    · have : ((c :: m).head? != some 48) = true := by
        rw [bne_iff_ne]
        intro e
        injection e with e
        exact hc e
      rw [this, Bool.or_true]
      rfl
theorem canD_back {l : List UInt8} (h : canD l = true) : decDigits (dv l) = l := by
  unfold canD at h
  simp only [Bool.and_eq_true, Bool.not_eq_true', Bool.or_eq_true, beq_iff_eq, bne_iff_ne, List.all_eq_true] at h
  refine dec_canon l.length l rfl (fun e => by rw [e] at h; cases h.1.1) h.1.2 fun e => ?_
  rcases h.2 with h2 | h2
  · exact h2
  · exact absurd e h2
end Go.Proofs.YtfmjfofocklgpaaGreatDoor
namespace Go.Proofs.YtfmjfofocklgpaaGreatDoor
open Go.Lib
set_option linter.unusedVariables false
set_option linter.unusedSimpArgs false
theorem i8w {x : Int} (h0 : 0 ≤ x) (h1 : x < 256) : IntKind.i64.wrap (IntKind.u8.wrap x) = x := by
  rw [IntKind.wrap_u8]
  have e : x % 256 = x := by omega
  rw [e]
  exact wrap64_in (by omega)
theorem dstep {v : Nat} {b : UInt8} (hv : v < 1000000000000000) (hb : isD b = true) : w64 ((w64 (10 * (v : Int))) + (IntKind.i64.wrap (IntKind.u8.wrap ((b.toNat : Int) - 48)))) = ((10 * v + (b.toNat - 48) : Nat) : Int) := by
  have hb := isD_iff.1 hb
  have e1 : w64 (10 * (v : Int)) = 10 * (v : Int) := zL (by omega)
  rw [i8w (by omega) (by omega), e1, zL (by omega)]
  omega
theorem nuRead_run (s : ByteArray) (hs : s.size ≤ 10) : ∀ (k n i v : Nat), s.size - i = k → k < n → i ≤ s.size → v < 10 ^ i →
    r_spec_nuRead_L10 s n (v : Int) (i : Int) = some (if (s.data.toList.drop i).all isD then .inl ((dvF v (s.data.toList.drop i) : Nat) : Int) else .inr (-1)) := by
  have hsz : s.data.toList.length = s.size := rfl
  intro k
  induction k with
  | zero =>
    intro n i v hk hn hi hv
    obtain ⟨n, rfl⟩ : ∃ m, n = m + 1 := ⟨n - 1, by omega⟩
    unfold r_spec_nuRead_L10
    rw [ltI_eq, decide_eq_false (by omega), cond_false, List.drop_of_length_le (by omega)]
    rfl
  | succ k ih =>
    intro n i v hk hn hi hv
    obtain ⟨n, rfl⟩ : ∃ m, n = m + 1 := ⟨n - 1, by omega⟩
    have hlt : i < s.size := by omega
    have hdr : s.data.toList.drop i = s.data.toList[i]'hlt :: s.data.toList.drop (i + 1) := List.drop_eq_getElem_cons hlt
    have hg := getB_nat hlt
    generalize s.data.toList[i]'hlt = b at hdr hg
    have hp : (10 : Nat) ^ i ≤ 10 ^ 10 := Nat.pow_le_pow_right (by omega) (by omega)
    have hp2 : (10 : Nat) ^ 10 = 10000000000 := by decide
    unfold r_spec_nuRead_L10
    rw [ltI_eq, decide_eq_true (by omega), cond_true]
    simp only [hg, Option.bind_some, ltI_eq, sI_eq]
    rw [hdr, List.all_cons]
    by_cases h1 : b.toNat < 48
    · have e : isD b = false := by
        rw [Bool.eq_false_iff]
        intro e
        have := isD_iff.1 e
        omega
      rw [decide_eq_true (show (b.toNat : Int) < 48 by omega), e]
      rfl
    · rw [decide_eq_false (show ¬ (b.toNat : Int) < 48 by omega)]
      by_cases h2 : 57 < b.toNat
      · have e : isD b = false := by
          rw [Bool.eq_false_iff]
          intro e
          have := isD_iff.1 e
          omega
        rw [decide_eq_true (show (57 : Int) < (b.toNat : Int) by omega), e]
        rfl
      · have e : isD b = true := isD_iff.2 (by omega)
        rw [decide_eq_false (show ¬ (57 : Int) < (b.toNat : Int) by omega), e, Bool.true_and, dvF_cons, dstep (by omega) e, wsucc (by omega)]
        have hb := isD_iff.1 e
        exact ih n (i + 1) _ (by omega) (by omega) (by omega) (by rw [Nat.pow_succ]; omega)
theorem nuRead_val (s : ByteArray) : r_spec_nuRead s = some (if canD s.data.toList = true ∧ s.size ≤ 10 then ((dv s.data.toList : Nat) : Int) else -1) := by
  have hF : 1000000 < FU := by decide
  have hsz : s.data.toList.length = s.size := rfl
  unfold r_spec_nuRead r_spec_l1In
  rw [leI_eq, leI_eq]
  by_cases h0 : s.size = 0
  · have hl : s.data.toList = [] := List.length_eq_zero_iff.1 (by omega)
    rw [decide_eq_false (by omega), if_neg (fun h => by rw [hl] at h; exact absurd h.1 (by decide))]
    rfl
  · rw [decide_eq_true (by omega)]
    by_cases h10 : s.size ≤ 10
    · rw [decide_eq_true (show ((s.size : Nat) : Int) ≤ 10 by omega)]
      have hlt : 0 < s.size := by omega
      have hg := getB_nat hlt
      have hg : getB s 0 = _ := hg
      obtain ⟨b, r, hl⟩ : ∃ b r, s.data.toList = b :: r := by
        cases h : s.data.toList with
        | nil => rw [h] at hsz; simp at hsz; omega
        | cons b r => exact ⟨b, r, rfl⟩
      have hg : getB s 0 = some ((b.toNat : Nat) : Int) := by
        rw [hg]
        congr 3
        simp only [hl]
        rfl
      have hr : r.length + 1 = s.size := by rw [← hsz, hl]; simp
      simp only [Bool.cond_true_left, cond_true, Option.bind_some, Bool.not_true, cond_false, hg, eqI_eq, ltI_eq]
      by_cases hz : b = 48 ∧ 1 < s.size
      · have e1 : (((b.toNat : Nat) : Int) == 48) = true := by rw [hz.1]; rfl
        rw [e1, cond_true, decide_eq_true (by omega), cond_true, if_neg]
        intro h
        have h := h.1
        rw [hl] at h
        unfold canD at h
        simp only [Bool.and_eq_true, Bool.or_eq_true, beq_iff_eq, bne_iff_ne, List.length_cons, List.head?_cons] at h
        rcases h.2 with h2 | h2
        · omega
        · exact h2 (by rw [hz.1])
      · have e1 : (bif (((b.toNat : Nat) : Int) == 48) then decide ((1 : Int) < ((s.size : Nat) : Int)) else false) = false := by
          cases hb : (((b.toNat : Nat) : Int) == 48) with
          | false => rfl
          | true =>
            rw [beq_iff_eq] at hb
            have : b = 48 := UInt8.toNat_inj.1 (by show b.toNat = 48; omega)
            rw [cond_true, decide_eq_false]
            intro h
            exact hz ⟨this, by omega⟩
        rw [e1, cond_false]
        have h := nuRead_run s h10 s.size FU 0 0 rfl (by omega) (by omega) (by decide)
        have h : r_spec_nuRead_L10 s FU 0 0 = _ := h
        rw [h, List.drop_zero]
        by_cases hd : s.data.toList.all isD = true
        · have hc : canD s.data.toList = true := by
            rw [hl] at hd ⊢
            unfold canD
            rw [hd]
            simp only [List.isEmpty_cons, Bool.not_false, Bool.true_and, Bool.or_eq_true, beq_iff_eq, bne_iff_ne, List.length_cons, List.head?_cons]
            by_cases hb : b = 48
            · exact .inl (by
                have : ¬ 1 < s.size := fun h => hz ⟨hb, h⟩
                omega)
            · exact .inr (fun e => by injection e with e; exact hb e)
          rw [if_pos hd, if_pos ⟨hc, h10⟩]
          rfl
        · rw [if_neg hd, if_neg]
          · rfl
          · intro h
            have h := h.1
            unfold canD at h
            simp only [Bool.and_eq_true] at h
            exact hd h.1.2
    · rw [decide_eq_false (show ¬ ((s.size : Nat) : Int) ≤ 10 by omega), if_neg (fun h => h10 h.2)]
      rfl
def NB (n : Int) : Prop := -1000000 ≤ n ∧ n ≤ 1000000
theorem dec_len7 {u : Nat} (h : u ≤ 1000000) : (decDigits u).length ≤ 8 := by
  have := itoa_len10 (n := (u : Int)) (by omega) (by omega)
  rw [itoa_nn (by omega)] at this
  exact this
theorem foInt_spec (s : ByteArray) : (∃ n, NB n ∧ s = bl (itoa n) ∧ r_spec_foInt s = some (n, true)) ∨ ((∀ n, NB n → s ≠ bl (itoa n)) ∧ r_spec_foInt s = some (0, false)) := by
  have hsz : s.data.toList.length = s.size := rfl
  have fin : ∀ (m : Bool) (t : ByteArray), (if canD t.data.toList = true ∧ t.size ≤ 10 then ((dv t.data.toList : Nat) : Int) else -1) = -1 ∨ (canD t.data.toList = true ∧ t.size ≤ 10 ∧ (if canD t.data.toList = true ∧ t.size ≤ 10 then ((dv t.data.toList : Nat) : Int) else -1) = ((dv t.data.toList : Nat) : Int)) := by
    intro m t
    by_cases h : canD t.data.toList = true ∧ t.size ≤ 10
    · rw [if_pos h]; exact .inr ⟨h.1, h.2, rfl⟩
    · rw [if_neg h]; exact .inl rfl
  by_cases hm : ∃ r, s.data.toList = 45 :: r ∧ r ≠ []
  · obtain ⟨r, hl, hr⟩ := hm
    have hlen : 1 < s.size := by
      rw [← hsz, hl]
      have := List.length_pos_iff.2 hr
      simp; omega
    have hg : getB s 0 = some 45 := by
      have hg := getB_nat (show 0 < s.size by omega)
      have hg : getB s 0 = _ := hg
      rw [hg]
      simp only [hl]
      rfl
    have hj : s.extract 1 s.size = bl r := by
      rw [ext_bl, hl, List.drop_succ_cons, List.drop_zero, List.take_of_length_le]
      have : r.length + 1 = s.size := by rw [← hsz, hl]; simp
      omega
    unfold r_spec_foInt
    rw [ltI_eq, decide_eq_true (by omega), cond_true, hg]
    have hsl : slc s.size 1 (s.size : Int) = some () := slcOk (l := 1) (by omega) (Nat.le_refl _)
    simp only [Option.bind_some, eqI_eq, show ((45 : Int) == 45) = true from rfl, cond_true, hsl, show Int.toNat 1 = 1 from rfl, Int.toNat_natCast, hj, nuRead_val]
    by_cases hc : canD r = true ∧ r.length ≤ 10 ∧ dv r ≠ 0 ∧ dv r ≤ 1000000
    · left
      refine ⟨-((dv r : Nat) : Int), ⟨by omega, by omega⟩, ?_, ?_⟩
      · rw [itoa_ng (by omega), Int.natAbs_neg, Int.natAbs_natCast, canD_back hc.1, bl_of s, hl]
      · rw [if_pos ⟨by rw [bl_data]; exact hc.1, by rw [bl_size]; exact hc.2.1⟩, bl_data, ltI_eq, ltI_eq, decide_eq_false (by omega), cond_false, decide_eq_false (by omega)]
        have e : (((dv r : Nat) : Int) == 0) = false := by rw [beq_eq_false_iff_ne]; omega
        rw [e, sI_eq]
        simp only [cond_false]
        rw [zL (by omega)]
        congr 2
        omega
    · right
      constructor
      · intro n hn e
        apply hc
        have e2 : 45 :: r = itoa n := by
          rw [← hl]
          exact bl_inj (by rw [← bl_of s]; exact e)
        have hneg : n < 0 := by
          by_cases h : n < 0
          · exact h
          · exfalso
            rw [itoa_nn (by omega)] at e2
            have := dec_isD n.toNat 45 (by rw [← e2]; exact List.mem_cons_self ..)
            exact absurd this (by decide)
        rw [itoa_ng hneg] at e2
        injection e2 with _ e2
        subst e2
        have hb := hn.1
        refine ⟨canD_dec _, ?_, ?_, ?_⟩
        · have := dec_len7 (u := n.natAbs) (by omega)
          omega
        · rw [dv_dec]; omega
        · rw [dv_dec]; omega
      · rcases fin true (bl r) with h | ⟨h1, h2, h⟩
        · rw [h]
          rfl
        · rw [h]
          rw [bl_data] at h1
          rw [bl_size] at h2
          rw [bl_data, ltI_eq, ltI_eq, decide_eq_false (by omega), cond_false]
          by_cases h3 : dv r = 0
          · rw [h3]; rfl
          · have e : (((dv r : Nat) : Int) == 0) = false := by rw [beq_eq_false_iff_ne]; omega
            rw [e, cond_false, decide_eq_true]
            · rfl
            · have : ¬ dv r ≤ 1000000 := fun h4 => hc ⟨h1, h2, h3, h4⟩
              omega
  · have hb4 : (bif ltI 1 (s.size : Int) then (getB s 0).bind fun e3 => some (eqI e3 45) else some false) = some false := by
      rw [ltI_eq]
      by_cases h1 : 1 < s.size
      · rw [decide_eq_true (by omega), cond_true]
        obtain ⟨b, r, hl⟩ : ∃ b r, s.data.toList = b :: r := by
          cases h : s.data.toList with
          | nil => rw [h] at hsz; simp at hsz; omega
          | cons b r => exact ⟨b, r, rfl⟩
        have hg : getB s 0 = some ((b.toNat : Nat) : Int) := by
          have hg := getB_nat (show 0 < s.size by omega)
          have hg : getB s 0 = _ := hg
          rw [hg]
          simp only [hl]
          rfl
        rw [hg, Option.bind_some, eqI_eq, beq_eq_false_iff_ne.2]
        intro e
        have hb : b = 45 := UInt8.toNat_inj.1 (by show b.toNat = 45; omega)
        refine hm ⟨r, by rw [hl, hb], ?_⟩
        intro hr
        rw [hl, hr] at hsz
        simp at hsz
        omega
      · rw [decide_eq_false (by omega), cond_false]
    unfold r_spec_foInt
    rw [hb4]
    simp only [Option.bind_some, cond_false, nuRead_val]
    by_cases hc : canD s.data.toList = true ∧ s.size ≤ 10 ∧ dv s.data.toList ≤ 1000000
    · left
      refine ⟨((dv s.data.toList : Nat) : Int), ⟨by omega, by omega⟩, ?_, ?_⟩
      · rw [itoa_nn (by omega), Int.toNat_natCast, canD_back hc.1]
        rfl
      · rw [if_pos ⟨hc.1, hc.2.1⟩, ltI_eq, ltI_eq, decide_eq_false (by omega), decide_eq_false (by omega)]
        rfl
    · right
      constructor
      · intro n hn e
        have e2 : s.data.toList = itoa n := bl_inj (by rw [← bl_of s]; exact e)
        have hb := hn.1
        have hb2 := hn.2
        by_cases hneg : n < 0
        · rw [itoa_ng hneg] at e2
          exact hm ⟨_, e2, dec_ne _⟩
        · rw [itoa_nn (by omega)] at e2
          apply hc
          rw [← hsz, e2]
          refine ⟨canD_dec _, ?_, ?_⟩
          · have := dec_len7 (u := n.toNat) (by omega)
            omega
          · rw [dv_dec]; omega
      · rcases fin false s with h | ⟨h1, h2, h⟩
        · rw [h]
          rfl
        · rw [h, ltI_eq, ltI_eq, decide_eq_false (by omega), cond_false, decide_eq_true]
          · rfl
          · have : ¬ dv s.data.toList ≤ 1000000 := fun h4 => hc ⟨h1, h2, h4⟩
            omega
end Go.Proofs.YtfmjfofocklgpaaGreatDoor
namespace Go.Proofs.YtfmjfofocklgpaaGreatDoor
set_option linter.unusedVariables false
set_option linter.unusedSimpArgs false
theorem dsc_value : r_spec_foValue = r_impl_Form_at := rfl
theorem dsc_polar : r_spec_foPolar = r_impl_Form_polar := rfl
theorem dsc_act : r_spec_foAct = zX := rfl
theorem dsc_mul : r_spec_foMul = r_impl_Matrix_times := rfl
theorem dsc_det : r_spec_foDet = r_impl_Matrix_det := rfl
theorem dsc_is (f : Int × Int × Int) : r_spec_reIs f = r_impl_Form_isReduced f := by
  simp only [r_spec_reIs, r_impl_Form_isReduced, r_impl_Form_isNormal, Option.bind_some]
theorem dsc_mod (a m : Int) : r_spec_nuMod a m = r_impl_mod a m := by
  simp only [r_spec_nuMod, r_impl_mod, sI_eq]
theorem dsc_floor (a m : Int) : ((r_spec_nuMod a m).bind fun y2 => (nz m).bind fun _ => sI (w64 (Int.tdiv (w64 (a - y2)) m)) fun t4 => some t4) = r_impl_floorDiv a m := by
  simp only [r_impl_floorDiv, dsc_mod]
theorem dsc_normal (f : Int × Int × Int) : r_spec_reNormal f = r_impl_floorDiv (w64 (f.1 - f.2.1)) (w64 (2 * f.1)) := dsc_floor _ _
theorem tmod_neg {a m : Int} (hm : 1 ≤ m) (h : a.tmod m < 0) : a.tmod m + m = a % m := by
  have e := Int.tmod_eq_emod (a := a) (b := m)
  have h1 := Int.emod_nonneg a (b := m) (by omega)
  have h2 := Int.emod_lt_of_pos a (b := m) (by omega)
  split at e <;> omega
theorem tmod_pos {a m : Int} (hm : 1 ≤ m) (h : 0 ≤ a.tmod m) : a.tmod m = a % m := by
  have e := Int.tmod_eq_emod (a := a) (b := m)
  have h1 := Int.emod_nonneg a (b := m) (by omega)
  have h2 := Int.emod_lt_of_pos a (b := m) (by omega)
  split at e <;> omega
theorem dsc_mod_val {a m : Int} (h1 : 1 ≤ m) (h2 : m ≤ 9223372036854775807) : r_impl_mod a m = some (a % m) := by
  have h3 := Int.emod_nonneg a (b := m) (by omega)
  have h4 := Int.emod_lt_of_pos a (b := m) (by omega)
  have hz : nz m = some () := by
    unfold nz
    rw [eqI_eq]
    have : (m == 0) = false := by rw [beq_eq_false_iff_ne]; omega
    rw [this]
    rfl
  simp only [r_impl_mod, hz, Option.bind_some, sI_eq, ltI_eq]
  by_cases h : a.tmod m < 0
  · rw [decide_eq_true h, cond_true, tmod_neg h1 h, zL (by omega)]
  · rw [decide_eq_false h, cond_false, tmod_pos h1 (by omega)]
theorem dsc_floor_val {a m : Int} (h1 : 1 ≤ m) (h2 : m ≤ 4611686018427387904) (h3 : -4611686018427387904 ≤ a) (h4 : a ≤ 4611686018427387904) : r_impl_floorDiv a m = some (a / m) := by
  have e1 := Int.emod_nonneg a (b := m) (by omega)
  have e2 := Int.emod_lt_of_pos a (b := m) (by omega)
  have hz : nz m = some () := by
    unfold nz
    rw [eqI_eq]
    have : (m == 0) = false := by rw [beq_eq_false_iff_ne]; omega
    rw [this]
    rfl
  have e3 : a - a % m = m * (a / m) := by have := Int.emod_add_mul_ediv a m; omega
  have e4 : Int.tdiv (a - a % m) m = a / m := by rw [e3]; exact Int.mul_tdiv_cancel_left _ (by omega)
  have e5 : a / m ≤ 4611686018427387904 ∧ -4611686018427387904 ≤ a / m := by
    constructor
    · rcases Int.lt_or_le a 0 with h | h
      · have := Int.ediv_neg_of_neg_of_pos h (show 0 < m by omega); omega
      · have := Int.ediv_le_self m h; omega
    · have := Int.le_ediv_of_mul_le (c := m) (a := -4611686018427387904) (b := a) (by omega) (by
        have : -4611686018427387904 * m ≤ -4611686018427387904 := by omega
        omega)
      omega
  simp only [r_impl_floorDiv, dsc_mod_val h1 (by omega), hz, Option.bind_some, sI_eq]
  rw [zL (n := a - a % m) (by omega), e4, zL (by omega)]
/-- A form that is not reduced: both take the same step. -/
theorem dsc_step {a b c : Int} (ha : 1 ≤ a) (haM : a ≤ 2000000) (hb1 : -2000000 ≤ b) (hb2 : b ≤ 2000000) (hr : r_impl_Form_isReduced (a, b, c) = some false) : r_spec_reMove (a, b, c) = r_impl_Form_step (a, b, c) := by
  have hf := dsc_floor_val (a := a - b) (m := 2 * a) (by omega) (by omega) (by omega) (by omega)
  have hn : r_impl_Form_isNormal (a, b, c) = some (decide (-a < b ∧ b ≤ a)) := by
    simp only [r_impl_Form_isNormal, Option.bind_some, ltI_eq, leI_eq]
    rw [zL (by omega)]
    by_cases h1 : -a < b <;> by_cases h2 : b ≤ a <;> simp [h1, h2]
    all_goals omega
  have hq : (a - b) / (2 * a) = 0 ↔ (-a < b ∧ b ≤ a) := by
    constructor
    · intro h
      have h1 := Int.emod_add_mul_ediv (a - b) (2 * a)
      have h2 := Int.emod_nonneg (a - b) (b := 2 * a) (by omega)
      have h3 := Int.emod_lt_of_pos (a - b) (b := 2 * a) (by omega)
      rw [h] at h1
      omega
    · rintro ⟨h1, h2⟩
      exact Int.ediv_eq_zero_of_lt (by omega) (by omega)
  simp only [r_spec_reMove, r_impl_Form_step, dsc_normal, dsc_is, hr, Option.bind_some, hn]
  rw [zL (n := a - b) (by omega), zL (n := 2 * a) (by omega), hf]
  simp only [Option.bind_some, cond_false, eqI_eq]
  by_cases h : (a - b) / (2 * a) = 0
  · have h2 := hq.1 h
    simp [h, h2]
  · have h2 : ¬ (-a < b ∧ b ≤ a) := fun x => h (hq.2 x)
    have h3 : ((a - b) / (2 * a) == 0) = false := by rw [beq_eq_false_iff_ne]; exact h
    simp [h3, h2]
theorem w64_abs {n : Int} (h : n.natAbs ≤ 9223372036854775807) : w64 n = n := zL (by omega)
theorem abs_mul {x y : Int} {A B : Nat} (hx : x.natAbs ≤ A) (hy : y.natAbs ≤ B) : (x * y).natAbs ≤ A * B := by
  rw [Int.natAbs_mul]; exact Nat.mul_le_mul hx hy
theorem dsc_act_swap {a b c : Int} (ha : a.natAbs ≤ 2000000) (hb : b.natAbs ≤ 2000000) (hc : c.natAbs ≤ 2000000) : zX (a, b, c) (0, -1, 1, 0) = some (c, -b, a) := by
  simp only [zX, r_impl_Form_at, r_impl_Form_polar, sI_eq, Option.bind_some, Int.mul_zero, Int.zero_mul, Int.mul_one, Int.add_zero, Int.zero_add, Int.one_mul]
  rw [show w64 0 = 0 from rfl]
  simp only [Int.mul_zero, Int.zero_mul, Int.mul_one, Int.add_zero, Int.zero_add, Int.one_mul]
  rw [show w64 0 = 0 from rfl]
  simp only [Int.mul_zero, Int.zero_mul, Int.mul_one, Int.add_zero, Int.zero_add, Int.one_mul, Int.mul_neg, Int.neg_mul, Int.neg_neg]
  have e1 : w64 c = c := w64_abs (by omega)
  have e2 : w64 (-1) = -1 := rfl
  have e3 : w64 a = a := w64_abs (by omega)
  have e4 : w64 (-a) = -a := w64_abs (by omega)
  have e5 : w64 (-b) = -b := w64_abs (by omega)
  simp only [e1, e2, e3, e4, e5, Int.mul_neg, Int.neg_mul, Int.neg_neg, Int.mul_one, Int.one_mul, Int.add_zero, Int.zero_add, show w64 0 = 0 from rfl]
theorem dsc_act_norm {a b c s : Int} (ha : a.natAbs ≤ 2000000) (hb : b.natAbs ≤ 2000000) (hc : c.natAbs ≤ 2000000) (hs : s.natAbs ≤ 2000000) : zX (a, b, c) (1, s, 0, 1) = some (a, 2 * a * s + b, a * s * s + b * s + c) := by
  have m1 := abs_mul ha hs
  have m2 := abs_mul hb hs
  have m3 := abs_mul m1 hs
  have m4 : (2 * a * s).natAbs ≤ 2 * 2000000 * 2000000 := abs_mul (abs_mul (x := 2) (A := 2) (by decide) ha) hs
  simp only [zX, r_impl_Form_at, r_impl_Form_polar, sI_eq, Option.bind_some, Int.mul_zero, Int.zero_mul, Int.mul_one, Int.add_zero, Int.zero_add, Int.one_mul]
  have z : w64 0 = 0 := rfl
  have o : w64 1 = 1 := rfl
  have e1 : w64 c = c := w64_abs (by omega)
  have e3 : w64 a = a := w64_abs (by omega)
  have e4 : w64 b = b := w64_abs (by omega)
  have e5 : w64 (2 * a) = 2 * a := w64_abs (by omega)
  have e6 : w64 (2 * a * s) = 2 * a * s := w64_abs (by omega)
  have e7 : w64 (a * s) = a * s := w64_abs (by omega)
  have e8 : w64 (a * s * s) = a * s * s := w64_abs (by omega)
  have e9 : w64 (b * s) = b * s := w64_abs (by omega)
  have e10 : w64 (a * s * s + b * s) = a * s * s + b * s := w64_abs (by omega)
  have e11 : w64 (a * s * s + b * s + c) = a * s * s + b * s + c := w64_abs (by omega)
  have e12 : w64 (2 * a * s + b) = 2 * a * s + b := w64_abs (by omega)
  simp only [z, o, e1, e3, e4, e5, e6, e7, e8, e9, e10, e11, e12, Int.mul_one, Int.one_mul, Int.add_zero, Int.zero_add, Int.mul_zero, Int.zero_mul]
end Go.Proofs.YtfmjfofocklgpaaGreatDoor
namespace Go.Proofs.YtfmjfofocklgpaaGreatDoor
set_option linter.unusedVariables false
set_option linter.unusedSimpArgs false
theorem abs_val {n : Int} (h : n.natAbs ≤ 9223372036854775806) : r_impl_abs n = some (n.natAbs : Int) := by
  simp only [r_impl_abs, sI_eq, mxI, ltI_eq]
  by_cases h1 : n < -9223372036854775807
  · omega
  · rw [decide_eq_false h1, cond_false, zL (by omega)]
    by_cases h2 : n < 0 - n
    · rw [decide_eq_true h2, cond_true]; congr 1; omega
    · rw [decide_eq_false h2, cond_false]; congr 1; omega
theorem sabs_val {n : Int} (h : n.natAbs ≤ 9223372036854775806) : r_spec_l1Abs n = some (n.natAbs : Int) := by
  simp only [r_spec_l1Abs, r_spec_l1Most, Option.bind_some, ltI_eq]
  rw [zL (by omega)]
  by_cases h2 : 0 - n < n
  · rw [decide_eq_true h2, cond_true, Option.bind_some]; congr 1; omega
  · rw [decide_eq_false h2, cond_false, Option.bind_some]; congr 1; omega
theorem nz_ne {b : Int} (h : b ≠ 0) : nz b = some () := by
  unfold nz
  rw [eqI_eq]
  have : (b == 0) = false := by rw [beq_eq_false_iff_ne]; exact h
  rw [this]
  rfl
theorem eqI_false {a b : Int} (h : a ≠ b) : eqI a b = false := by rw [eqI_eq, beq_eq_false_iff_ne]; exact h
theorem eqI_true (a : Int) : eqI a a = true := by rw [eqI_eq]; exact beq_self_eq_true a
theorem igcd_step (a b : Int) : Int.gcd b (a.tmod b) = Int.gcd a b := by
  unfold Int.gcd
  rw [Int.natAbs_tmod, Nat.gcd_comm, ← Nat.gcd_rec, Nat.gcd_comm]
theorem gcd_two {x y : Nat} (k : Nat) (hy : 0 < y) (hxy : y < x) (h : x < 2 ^ (k + 1)) : x % y < 2 ^ k := by
  have h1 := Nat.mod_lt x hy
  have h2 := Nat.div_add_mod x y
  have h3 : 1 ≤ x / y := Nat.div_pos (Nat.le_of_lt hxy) hy
  have h4 : y * 1 ≤ y * (x / y) := Nat.mul_le_mul_left y h3
  rw [Nat.pow_succ] at h
  omega
theorem gcd_run : ∀ (k n : Nat) (a b : Int), b.natAbs < 2 ^ k → 2 * k + 1 ≤ n → ∃ r, r_impl_gcd_L5 n a b = some r ∧ r.natAbs = Int.gcd a b
  | k, 0, a, b, _, hn => by omega
  | 0, n + 1, a, b, hb, hn => by
    have : b = 0 := by simp at hb; omega
    subst this
    unfold r_impl_gcd_L5
    rw [eqI_true]
    exact ⟨a, rfl, by simp⟩
  | k + 1, n + 1, a, b, hb, hn => by
    unfold r_impl_gcd_L5
    by_cases h0 : b = 0
    · subst h0
      rw [eqI_true]
      exact ⟨a, rfl, by simp⟩
    · rw [eqI_false h0, nz_ne h0]
      simp only [Bool.not_false, cond_true, Option.bind_some, sI_eq]
      rw [← igcd_step a b]
      match n, hn with
      | n + 1, hn =>
        unfold r_impl_gcd_L5
        by_cases h1 : a.tmod b = 0
        · rw [h1, eqI_true]
          exact ⟨b, rfl, by simp⟩
        · rw [eqI_false h1, nz_ne h1]
          simp only [Bool.not_false, cond_true, Option.bind_some, sI_eq]
          rw [← igcd_step b (a.tmod b)]
          refine gcd_run k n _ _ ?_ (by omega)
          rw [Int.natAbs_tmod]
          have h2 : (a.tmod b).natAbs < b.natAbs := by rw [Int.natAbs_tmod]; exact Nat.mod_lt _ (by omega)
          exact gcd_two k (by omega) h2 hb
theorem FU_succ (k : Nat) (h : k ≤ 1000000) : k ≤ FU := Nat.le_trans h (by decide)
theorem gcd_le {a b : Int} {M : Nat} (ha : a.natAbs ≤ M) (hb : b.natAbs ≤ M) : Int.gcd a b ≤ M := by
  by_cases h : b = 0
  · subst h; simpa using ha
  · have : Int.gcd a b ∣ b.natAbs := Nat.gcd_dvd_right _ _
    exact Nat.le_trans (Nat.le_of_dvd (by omega) this) hb
theorem gcd_val {a b : Int} (ha : a.natAbs ≤ 9223372036854775806) (hb : b.natAbs ≤ 9223372036854775806) : r_impl_gcd a b = some (Int.gcd a b : Int) := by
  obtain ⟨r, h1, h2⟩ := gcd_run 64 FU a b (by omega) (FU_succ 129 (by decide))
  have h3 := gcd_le ha hb
  simp only [r_impl_gcd, h1, Option.bind_some, abs_val (n := r) (by omega), h2]
theorem sgcd_run : ∀ (n : Nat) (a b : Int), r_spec_nuGcd_L7 n a b = r_impl_gcd_L5 n a b
  | 0, a, b => rfl
  | n + 1, a, b => by
    unfold r_spec_nuGcd_L7 r_impl_gcd_L5
    simp only [sI_eq, sgcd_run n]
theorem natAbs_natAbs (a b : Int) : Int.gcd (a.natAbs : Int) (b.natAbs : Int) = Int.gcd a b := by unfold Int.gcd; simp
theorem nn_run : ∀ (n : Nat) (a b r : Int), 0 ≤ a → 0 ≤ b → r_impl_gcd_L5 n a b = some r → 0 ≤ r
  | 0, a, b, r, _, _, h => by cases h
  | n + 1, a, b, r, ha, hb, h => by
    unfold r_impl_gcd_L5 at h
    by_cases h0 : b = 0
    · subst h0
      rw [eqI_true] at h
      have h : some a = some r := h
      injection h with h
      omega
    · rw [eqI_false h0, nz_ne h0] at h
      simp only [Bool.not_false, cond_true, Option.bind_some, sI_eq] at h
      exact nn_run n _ _ _ hb (Int.tmod_nonneg _ ha) h
theorem sgcd_val {a b : Int} (ha : a.natAbs ≤ 9223372036854775806) (hb : b.natAbs ≤ 9223372036854775806) : r_spec_nuGcd a b = some (Int.gcd a b : Int) := by
  obtain ⟨r, h1, h2⟩ := gcd_run 64 FU (a.natAbs : Int) (b.natAbs : Int) (by omega) (FU_succ 129 (by decide))
  have h3 := nn_run _ _ _ _ (by omega) (by omega) h1
  rw [natAbs_natAbs] at h2
  simp only [r_spec_nuGcd, sabs_val ha, sabs_val hb, Option.bind_some, sgcd_run, h1]
  congr 1
  omega
def inN (x : Int) : Bool := leI (-1000000) x && leI x 1000000
theorem inN_iff {x : Int} : inN x = true ↔ -1000000 ≤ x ∧ x ≤ 1000000 := by
  unfold inN
  rw [leI_eq, leI_eq]
  simp
theorem num_run (l : List Int) (hl : l.length < 1000000) : ∀ (n i : Nat), i ≤ l.length → l.length - i < n → r_impl_areNumbers_L3 l n (i : Int) = some (if (l.drop i).all inN then .inl () else .inr false)
  | 0, i, _, h => by omega
  | n + 1, i, hi, h => by
    unfold r_impl_areNumbers_L3
    rw [ltI_eq]
    by_cases h1 : (i : Int) < (l.length : Int)
    · have h2 : i < l.length := by omega
      rw [decide_eq_true h1, cond_true]
      have h3 : getI l (i : Int) = some l[i] := by
        unfold getI
        rw [leI_eq, decide_eq_true (by omega : (0 : Int) ≤ (i : Int)), cond_true]
        simp [h2]
      rw [h3, Option.bind_some, List.drop_eq_getElem_cons h2, List.all_cons]
      simp only [ltI_eq, inN, leI_eq, sI_eq]
      rw [zL (by omega)]
      have ih := num_run l hl n (i + 1) (by omega) (by omega)
      rw [show ((i : Int) + 1) = ((i + 1 : Nat) : Int) by omega, ih]
      by_cases h4 : l[i] < -1000000
      · have h6 : ¬ (-1000000 ≤ l[i]) := by omega
        simp [h4, h6]
      · by_cases h5 : 1000000 < l[i]
        · have h6 : ¬ (l[i] ≤ 1000000) := by omega
          simp [h4, h5, h6]
        · have h6 : -1000000 ≤ l[i] := by omega
          have h7 : l[i] ≤ 1000000 := by omega
          simp only [h4, h5, h6, h7, decide_true, decide_false, cond_false, cond_true, Bool.and_true, Bool.true_and]
    · rw [decide_eq_false h1, cond_false, List.drop_eq_nil_of_le (by omega)]
      rfl
theorem num_val (l : List Int) (hl : l.length < 1000000) : r_impl_areNumbers l = some (l.all inN) := by
  have h := num_run l hl FU 0 (Nat.zero_le _) (by have : (1000000 : Nat) ≤ FU := by decide
                                                  omega)
  simp only [r_impl_areNumbers, show (0 : Int) = ((0 : Nat) : Int) from rfl, h, List.drop_zero]
  cases l.all inN <;> rfl
theorem good_val (n : Int) : r_spec_nuGood n = some (inN n) := by
  simp only [r_spec_nuGood, r_spec_l1In, Option.bind_some, inN]
  cases leI (-1000000) n <;> rfl
theorem form_val (f : Int × Int × Int) : r_impl_IsForm f = some (inN f.1 && (inN f.2.1 && inN f.2.2)) := by
  simp only [r_impl_IsForm, num_val _ (show [f.1, f.2.1, f.2.2].length < 1000000 by simp), Option.bind_some, List.all_cons, List.all_nil, Bool.and_true]
theorem sform_val (f : Int × Int × Int) : r_spec_foGood f = some (inN f.1 && (inN f.2.1 && inN f.2.2)) := by
  simp only [r_spec_foGood, good_val, Option.bind_some]
  cases inN f.1 <;> cases inN f.2.1 <;> cases inN f.2.2 <;> rfl
theorem disc_eq : r_spec_foDisc = r_impl_Form_disc := rfl
theorem disc_val {a b c : Int} (ha : inN a = true) (hb : inN b = true) (hc : inN c = true) : r_impl_Form_disc (a, b, c) = some (b * b - 4 * a * c) := by
  rw [inN_iff] at ha hb hc
  have m1 := abs_mul (x := b) (y := b) (A := 1000000) (B := 1000000) (by omega) (by omega)
  have m2 := abs_mul (x := 4 * a) (y := c) (A := 4000000) (B := 1000000) (by omega) (by omega)
  simp only [r_impl_Form_disc, sI_eq]
  rw [w64_abs (n := b * b) (by omega), w64_abs (n := 4 * a) (by omega), w64_abs (n := 4 * a * c) (by omega), w64_abs (by omega)]
theorem def_val (f : Int × Int × Int) : r_spec_foDefinite f = r_impl_isDefinite f := by
  simp only [r_spec_foDefinite, r_impl_isDefinite, form_val, sform_val, disc_eq]
theorem shown_val (f : Int × Int × Int) : r_spec_vaForm f = r_impl_isShownForm f := by
  simp only [r_spec_vaForm, r_impl_isShownForm, def_val, disc_eq]
theorem content_val {a b c : Int} (ha : inN a = true) (hb : inN b = true) (hc : inN c = true) : r_impl_Form_content (a, b, c) = some (Int.gcd a (Int.gcd b c) : Int) := by
  rw [inN_iff] at ha hb hc
  have h := gcd_le (a := b) (b := c) (M := 1000000) (by omega) (by omega)
  simp only [r_impl_Form_content, gcd_val (a := b) (b := c) (by omega) (by omega), Option.bind_some]
  rw [gcd_val (by omega) (by omega)]
  rfl
theorem scontent_val {a b c : Int} (ha : inN a = true) (hb : inN b = true) (hc : inN c = true) : r_spec_foContent (a, b, c) = some (Int.gcd a (Int.gcd b c) : Int) := by
  rw [inN_iff] at ha hb hc
  have h := gcd_le (a := a) (b := b) (M := 1000000) (by omega) (by omega)
  simp only [r_spec_foContent, sgcd_val (a := a) (b := b) (by omega) (by omega), Option.bind_some]
  rw [sgcd_val (by omega) (by omega), Option.bind_some]
  congr 2
  unfold Int.gcd
  simp [Nat.gcd_assoc]
theorem shown_true {a b c : Int} (h : r_impl_isShownForm (a, b, c) = some true) : inN a = true ∧ inN b = true ∧ inN c = true ∧ b * b - 4 * a * c < 0 ∧ -2000 ≤ b * b - 4 * a * c ∧ 0 < a := by
  simp only [r_impl_isShownForm, r_impl_isDefinite, form_val, Option.bind_some] at h
  cases ha : inN a <;> cases hb : inN b <;> cases hc : inN c <;> simp only [ha, hb, hc, Bool.and_true, Bool.and_false, Bool.true_and, Bool.false_and, cond_true, cond_false, Option.bind_some] at h
  all_goals first
    | (exfalso; exact absurd (zB h) (by decide))
    | skip
  rw [disc_val ha hb hc] at h
  simp only [Option.bind_some, ltI_eq, leI_eq] at h
  by_cases h1 : b * b - 4 * a * c < 0 <;> by_cases h2 : 0 < a <;> by_cases h3 : -2000 ≤ b * b - 4 * a * c <;> simp [h1, h2, h3] at h
  exact ⟨rfl, rfl, rfl, h1, h3, h2⟩
theorem def_some (f : Int × Int × Int) : ∃ b, r_impl_isDefinite f = some b := by
  simp only [r_impl_isDefinite, form_val, Option.bind_some, r_impl_Form_disc, sI_eq]
  cases (inN f.1 && (inN f.2.1 && inN f.2.2)) <;> exact ⟨_, rfl⟩
theorem shown_some (f : Int × Int × Int) : ∃ b, r_impl_isShownForm f = some b := by
  obtain ⟨b, hb⟩ := def_some f
  simp only [r_impl_isShownForm, hb, Option.bind_some, r_impl_Form_disc, sI_eq]
  cases b <;> exact ⟨_, rfl⟩
/-- Class forms: the same on both sides; what it means. -/
theorem class_val (f : Int × Int × Int) : r_spec_coGood f = r_impl_isClassForm f := by
  simp only [r_spec_coGood, r_impl_isClassForm, shown_val]
  obtain ⟨b, hb⟩ := shown_some f
  rw [hb]
  cases b with
  | false => rfl
  | true =>
    obtain ⟨a, b, c⟩ := f
    obtain ⟨ha, hb, hc, _⟩ := shown_true hb
    simp only [Option.bind_some, cond_true, content_val ha hb hc, scontent_val ha hb hc]
theorem class_some (f : Int × Int × Int) : ∃ b, r_impl_isClassForm f = some b := by
  obtain ⟨b, hb⟩ := shown_some f
  simp only [r_impl_isClassForm, hb, Option.bind_some]
  cases b with
  | false => exact ⟨_, rfl⟩
  | true =>
    obtain ⟨a, b, c⟩ := f
    obtain ⟨ha, hb, hc, _⟩ := shown_true hb
    simp only [Option.bind_some, cond_true, content_val ha hb hc]
    exact ⟨_, rfl⟩
theorem class_true {a b c : Int} (h : r_impl_isClassForm (a, b, c) = some true) : inN a = true ∧ inN b = true ∧ inN c = true ∧ b * b - 4 * a * c < 0 ∧ -2000 ≤ b * b - 4 * a * c ∧ 0 < a ∧ Int.gcd a (Int.gcd b c) = 1 := by
  simp only [r_impl_isClassForm] at h
  obtain ⟨s, hs⟩ := shown_some (a, b, c)
  rw [hs] at h
  cases s with
  | false => exfalso; exact absurd (zB h) (by decide)
  | true =>
    obtain ⟨h1, h2, h3, h4, h5, h6⟩ := shown_true hs
    simp only [Option.bind_some, cond_true, content_val h1 h2 h3, eqI_eq] at h
    have h7 := zB h
    refine ⟨h1, h2, h3, h4, h5, h6, ?_⟩
    have := eq_of_beq h7
    omega
theorem prime_run (v : Int) : ∀ (n : Nat) (d : Int), r_spec_nuPrime_L4 v n d = r_impl_isPrime_L4 v n d
  | 0, d => rfl
  | n + 1, d => by
    unfold r_spec_nuPrime_L4 r_impl_isPrime_L4
    simp only [sI_eq, prime_run v n]
theorem prime_eq (v : Int) : r_spec_nuPrime v = r_impl_isPrime v := by
  unfold r_spec_nuPrime r_impl_isPrime
  rw [prime_run]
theorem prime_some_run (v : Int) (hv : v ≤ 1000000) : ∀ (n : Nat) (d : Int), 1 ≤ d → d ≤ 1001 → 1002 - d ≤ n → ∃ r, r_impl_isPrime_L4 v n d = some r
  | 0, d, h1, h2, h3 => by omega
  | n + 1, d, h1, h2, h3 => by
    unfold r_impl_isPrime_L4
    have m1 := abs_mul (x := d) (y := d) (A := 1001) (B := 1001) (by omega) (by omega)
    rw [w64_abs (n := d * d) (by omega), leI_eq]
    by_cases h4 : d * d ≤ v
    · have h5 : d ≤ 1000 := by
        rcases Int.lt_or_le 1000 d with h | h
        · have : 1001 * 1001 ≤ d * d := Int.mul_le_mul (by omega) (by omega) (by omega) (by omega)
          omega
        · exact h
      rw [decide_eq_true h4, cond_true, nz_ne (by omega), Option.bind_some]
      cases eqI (Int.tmod v d) 0 with
      | true => exact ⟨_, rfl⟩
      | false =>
        simp only [cond_false, sI_eq]
        rw [zL (by omega)]
        exact prime_some_run v hv n (d + 1) (by omega) (by omega) (by omega)
    · rw [decide_eq_false h4, cond_false]
      exact ⟨_, rfl⟩
theorem prime_some (v : Int) (hv : v ≤ 1000000) : ∃ b, r_impl_isPrime v = some b := by
  unfold r_impl_isPrime
  cases ltI v 2 with
  | true => exact ⟨_, rfl⟩
  | false =>
    obtain ⟨r, hr⟩ := prime_some_run v hv FU 2 (by omega) (by omega) (by have : (1002 : Nat) ≤ FU := by decide
                                                                         omega)
    rw [cond_false, hr]
    cases r <;> exact ⟨_, rfl⟩
theorem negdisc_eq (d : Int) : r_spec_reDisc d = r_impl_isNegativeDisc d := by
  simp only [r_spec_reDisc, r_spec_l1In, r_impl_isNegativeDisc, Option.bind_some, dsc_mod]
  cases h : (bif leI (-2000) d then leI d (-3) else false) with
  | false => rfl
  | true =>
    simp only [cond_true]
    rw [dsc_mod_val (by omega) (by omega)]
    simp only [Option.bind_some, ltI_eq, leI_eq]
    congr 1
    simp only [decide_eq_decide]
    omega
theorem negdisc_val (d : Int) : r_impl_isNegativeDisc d = some (decide (-2000 ≤ d ∧ d ≤ -3 ∧ d % 4 ≤ 1)) := by
  simp only [r_impl_isNegativeDisc, leI_eq]
  by_cases h1 : -2000 ≤ d <;> by_cases h2 : d ≤ -3 <;> simp [h1, h2]
  rw [dsc_mod_val (by omega) (by omega)]
  rfl
end Go.Proofs.YtfmjfofocklgpaaGreatDoor
