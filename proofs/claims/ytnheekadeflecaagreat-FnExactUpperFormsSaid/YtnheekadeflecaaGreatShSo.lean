/-
  Sorting by a function value: a row that is sorted stands as an entry with a known place, the functions less and swap are constant values.
  Conditions: none.
-/
import Derived.Test.YtnheekadeflecaaGreatShXf
import Derived.Test.YtnheekadeflecaaGreatShMp
import Derived.Lib.ReflectliteSwap
namespace Go.Proofs.YtnheekadeflecaaGreat
open Go.RowKit
set_option linter.unusedSimpArgs false
set_option linter.unusedVariables false

section
variable {P : Program}
/-- A call of a constant function value, whose bound values stand for entries. -/
theorem X_callV {o : Oper} {s : St} {f : FuncId} {x : Operand} {caps : Array Value} {capA : List AV} {xs : Array Operand} {ts : Array TypeId} {args : List AV} {E0 E1 : List (Nat × Ent)} {av : AV} {ne E' : List (Nat × Ent)} (d : Nat) (hS : ∀ ok σ (a : Act) w, Core ok σ s a w → CallRs P f σ (args ++ capA) E0 av ne E1) (hc : ∀ args w, (callFunc f args).run P w = .ok (.enter f args) w)
    (hcap : ∀ ok σ (a : Act) w, Core ok σ s a w → RelA ok σ w capA caps.toList) (ho : o.op = .call { callee := .value x, args := xs, argTypes := ts }) (hx : s.ev x = .c (.v (.func (.func f) #[] caps))) (hd : o.dst = some d) (ha : evL s xs.toList = args) (hm : matchE [] s E0) (hk : keysE E1 = keysE E0) (hr : renOk [] E0 = true) (hp : noPin E1 = true) (hp0 : noPin E0 = true) (he : updE [] s.E E1 = E') :
    X P o s ((St.mk s.T E').upd d av ne) := by
  intro B w0 ok0 ok σ a w hR K Q hK
  subst he
  subst ha
  have e0 : (fun k => σ (renI [] k)) = σ := rfl
  have hheld : Held ok σ w E0 := by
    refine ⟨fun id e he => ?_, fun id e g he hg => ?_, fun i j e f g hi hj h1 h2 => ?_⟩
    · exact ⟨hR.core.entc _ _ (matchE_look [] s E0 id e hm he), noPin_look E0 id e hp0 he⟩
    · obtain ⟨f, hf, _⟩ := entc_of (matchE_look [] s E0 id e hm he)
      exact hR.core.blk _ f g hf hg
    · obtain ⟨f1, hf1, _⟩ := entc_of (matchE_look [] s E0 i e hm hi)
      obtain ⟨f2, hf2, _⟩ := entc_of (matchE_look [] s E0 j f hm hj)
      exact hR.core.inj _ _ _ _ _ hf1 hf2 h1 h2
  have hv : a.eval x = .func (.func f) #[] caps := hR.core.exact hx
  unfold Oper.wp execOp
  rw [ho]
  have e1 : xs.map a.eval = (xs.toList.map a.eval).toArray := by
    apply Array.ext'
    rw [Array.toList_map]
  have e2 : (xs.toList.map a.eval).toArray ++ caps = (xs.toList.map a.eval ++ caps.toList).toArray := by simp
  simp only [resolve, hv, Deferred.ofValue, Sem.run_bind, Sem.run_pure, Result.andThen_ok, invoke, hc, e1, Array.empty_append, e2, Oper.upon]
  refine Calls.mono (hS ok σ a w hR.core ok w _ hR.core.okL hR.core.lib ((evL_rel hR.core xs.toList).app (hcap ok σ a w hR.core)) hheld) ?_
  rintro e w' ⟨v, ok', σ', he, hn, hE⟩
  subst he
  obtain ⟨hR2, hsm⟩ := hR.ref (m := []) hm hk hr hp hn hE
  rw [hd]
  exact hK _ _ _ _ (hR2.updN hsm hR.base hn.rel hn.keys hn.ids hn.ent hn.blk hn.inj hn.np)
theorem setE_setE (id : Nat) (e f : Ent) : ∀ E : List (Nat × Ent), setE id e (setE id f E) = setE id e E
  | [] => rfl
  | (k, x) :: E => by
    simp only [setE]
    cases h : (k == id) <;> simp [h, setE, setE_setE id e f E]
theorem splice_full {α : Type} {l m : List α} (h : m.length = l.length) : splice l 0 m = m := by
  unfold splice
  simp [h]
/-- An element of a row at a known place is written. -/
theorem R_putEl {B : Fr} {w0 : World} {ok0 ok : Nat → Prop} {σ : Nat → Loc} {s : St} {a : Act} {w : World} (hR : R B w0 ok0 ok σ s a w) {l : Loc} {T0 id sz i : Nat} {els : List (List Tr)} {el el2 : List Tr} {Y : List Value} {g : Nat} {cur : Array Value} (he : s.ent id = some (.parr l T0 sz els)) (hg : l.blk = some g) (hc : w.heap[g]? = some (.cells cur T0 (0, 0)))
    (hel : els[i]? = some el) (h2 : el2.length = sz) (hrd : RdL ok w el2 Y) : R B w0 ok0 ok σ ⟨s.T, setE id (.parr l T0 sz (els.set i el2)) s.E⟩ a (w.setRow g (splice cur.toList (i * sz) Y).toArray) := by
  obtain ⟨hl0, h0, hn, hs, vs, h1, h2'⟩ := hR.core.ent id _ he
  have h5 : (σ id).blk = some g := by rw [hl0]; exact hg
  have hil : i < els.length := by
    rcases Nat.lt_or_ge i els.length with h | h
    · exact h
    · rw [List.getElem?_eq_none h] at hel; cases hel
  have hsz : el.length = sz := hs el (List.mem_of_getElem? hel)
  have hYl : Y.length = sz := by rw [← hrd.len]; exact h2
  rcases h1.2 with ⟨hv, hv0⟩ | ⟨g2, cap, cur2, hv, hb, hg2, hnc, hcm, hcs, htake⟩
  · omega
  · have e2 : g2 = g := by
      unfold ownVal at hv
      rw [h5] at hv
      injection hv with h8
      simp at h8
      exact h8.symm
    subst e2
    rw [hc] at hg2
    have e3 : cur = cur2 := by
      have := Option.some.inj hg2
      injection this
    subst e3
    have hfit : i * sz + sz ≤ els.length * sz := by
      have := Nat.mul_le_mul_right sz (show i + 1 ≤ els.length from hil)
      rwa [Nat.add_mul, Nat.one_mul] at this
    have hfit2 : els.length * sz ≤ cur.size := by rw [hcs]; exact Nat.mul_le_mul_right _ hnc
    refine hR.write he h5 _ ⟨cur, T0, hc⟩ _ (setE_look id _ s.E _ he) (fun hw => ?_) rfl
    have hmono : ∀ q, ok q → (w.setRow g2 (splice cur.toList (i * sz) Y).toArray).heap[q]? = w.heap[q]? := fun q hq => hw q fun e => (hR.core.blk id _ g2 he h5).1 (e ▸ hq)
    refine ⟨hl0, h0, by simpa using hn, fun e hm => ?_, splice vs (i * sz) Y, ⟨?_, .inr ⟨g2, cap, _, by rw [List.length_set]; exact hv, hb, setRow_heap w g2 cur _ T0 _ hc, by simpa using hnc, hcm, ?_, ?_⟩⟩, ?_⟩
    · rcases List.mem_or_eq_of_mem_set hm with h9 | h9
      · exact hs e h9
      · rw [h9]; exact h2
    · rw [splice_len _ _ _ (by rw [h1.1]; omega), h1.1, List.length_set]
    · simp only [List.size_toArray]
      have hq : cur.toList.length = cur.size := Array.length_toList
      rw [splice_len _ _ _ (by rw [hq]; omega), hq, hcs]
    · simp only [List.length_set]
      show (splice cur.toList (i * sz) Y).take (els.length * sz) = _
      rw [splice_take _ _ _ _ (by omega) (by simpa using hfit2), htake]
    · have h9 := flatten_splice els sz i 0 el el2 hs hel (by omega)
      rw [splice_full (by omega), Nat.add_zero] at h9
      rw [h9]
      exact (h2'.splice _ hrd).mono (fun _ h => h) hmono
theorem setCells_setRow {w : World} {g o : Nat} {cur : Array Value} {T : TypeId} {ie : TypeInfo} {vs : List Value} {sz : Nat} (hii : P.info? T = some ie) (hie : ie.size = sz) (hg : w.heap[g]? = some (.cells cur T (0, 0))) (hl : vs.length = sz) (hc : o + sz ≤ cur.size) (h1 : ∀ v ∈ vs, v.oneCell' = true) : w.setCells g o vs = w.setRow g (splice cur.toList o vs).toArray := by
  have a1 := run_storeVar (P := P) (t := T) (w := w) (g := g) (off := o) (y := .agg vs.toArray) (n := sz) (by rw [hii]; simp [hie]) (by simp [Value.cells, hl]) hg (by omega) (by simpa [Value.cells] using h1)
  have a2 := Go.Lib.rl_storeVar_cells (P := P) T ie hii g o vs (by rw [hl, hie]) h1 w (fun k hk => by
    have : o + k < cur.size := by omega
    simp [World.cell?, hg, this]) (fun k _ => Lib.frozen_of_heap hg _)
  rw [a1] at a2
  injection a2 with _ a3
  simpa [Value.cells] using a3.symm
theorem el_vals {ok : Nat → Prop} {w : World} {els : List (List Tr)} {vs : List Value} {sz i : Nat} {el : List Tr} (hs : ∀ e, e ∈ els → e.length = sz) (h : RdL ok w els.flatten vs) (hel : els[i]? = some el) : ∃ X, RdL ok w el X ∧ ∀ k v, X[k]? = some v → vs[i * sz + k]? = some v := by
  refine ⟨(vs.drop (i * sz)).take sz, ?_, fun k v hk => ?_⟩
  · have h2 := (h.drop (i * sz)).take sz
    have e : (els.flatten.drop (i * sz)).take sz = el := by
      clear h h2
      induction els generalizing i with
      | nil => simp at hel
      | cons x xs ih =>
        have hx : x.length = sz := hs x (by simp)
        cases i with
        | zero =>
          simp at hel
          subst hel
          rw [Nat.zero_mul, List.drop_zero, List.flatten_cons, List.take_left' hx]
        | succ i =>
          rw [List.flatten_cons, show (i + 1) * sz = x.length + i * sz by rw [Nat.add_mul, hx]; omega, ← List.drop_drop, List.drop_left]
          exact ih (fun e he => hs e (by simp [he])) (by simpa using hel)
    rw [e] at h2
    exact h2
  · rw [List.getElem?_take] at hk
    split at hk
    · rwa [List.getElem?_drop] at hk
    · cases hk
/-- A call of the function value that swaps two elements. -/
theorem X_swap {o : Oper} {s : St} {f : FuncId} {x ix jx : Operand} {ts : Array TypeId} {l : Loc} {T0 id sz d i j : Nat} {els : List (List Tr)} {el el2 : List Tr} {I1 J1 : Int} {g : Bool} (hext : ∀ args w, (callFunc f args).run P w = ((Extern.ReflectliteSwapper.swap g args).run P w).andThen fun v w' => .ok (.value v) w')
    (hagg : ∀ w, (isAgg T0).run P w = .ok true w) (hi : (P.info? T0).map (·.size) = some sz) (ho : o.op = .call { callee := .value x, args := #[ix, jx], argTypes := ts }) (hx : s.ev x = .c (.v (.func (.func f) #[] #[ownVal l, typeHandle P T0]))) (hd : o.dst = some d)
    (h1 : s.ev ix = I I1) (h2 : s.ev jx = I J1) (e1 : I1 = (i : Int)) (e2 : J1 = (j : Int)) (he : s.ent id = some (.parr l T0 sz els)) (hel : els[i]? = some el) (hel2 : els[j]? = some el2) :
    X P o s ((St.mk s.T (setE id (.parr l T0 sz ((els.set i el2).set j el)) s.E)).put d .bot) := by
  intro B w0 ok0 ok σ a w hR K Q hK
  subst e1 e2
  obtain ⟨hl0, h0, hn, hs, vs, hown, hrd⟩ := hR.core.ent id _ he
  have hv : a.eval x = .func (.func f) #[] #[ownVal l, typeHandle P T0] := hR.core.exact hx
  have v1 : a.eval ix = .int .i64 (i : Int) := hR.core.exact h1
  have v2 : a.eval jx = .int .i64 (j : Int) := hR.core.exact h2
  have hil : i < els.length := by
    rcases Nat.lt_or_ge i els.length with h | h
    · exact h
    · rw [List.getElem?_eq_none h] at hel; cases hel
  have hjl : j < els.length := by
    rcases Nat.lt_or_ge j els.length with h | h
    · exact h
    · rw [List.getElem?_eq_none h] at hel2; cases hel2
  rcases hown.2 with ⟨hv0, hv1⟩ | ⟨g2, cap, cur, hv0, hb, hg2, hnc, hcm, hcs, htake⟩
  · omega
  · have e3 : (σ id).blk = some g2 ∧ (σ id).n = els.length := ⟨by
      unfold ownVal at hv0
      injection hv0 with h8
      cases hb2 : (σ id).blk with
      | none => rw [hb2] at h8; cases h8
      | some q => rw [hb2] at h8; simp at h8; rw [h8], hn⟩
    have hlg : l.blk = some g2 := by rw [← hl0]; exact e3.1
    have hfit : ∀ k, k < els.length → k * sz + sz ≤ els.length * sz := fun k hk => by
      have := Nat.mul_le_mul_right sz (show k + 1 ≤ els.length from hk)
      rwa [Nat.add_mul, Nat.one_mul] at this
    have hfit2 : els.length * sz ≤ cur.size := by rw [hcs]; exact Nat.mul_le_mul_right _ hnc
    obtain ⟨X, hX, hXc⟩ := el_vals hs hrd hel
    obtain ⟨Y, hY, hYc⟩ := el_vals hs hrd hel2
    have hXl : X.length = sz := by rw [← hX.len]; exact hs _ (List.mem_of_getElem? hel)
    have hYl : Y.length = sz := by rw [← hY.len]; exact hs _ (List.mem_of_getElem? hel2)
    have cellv : ∀ k u, vs[k]? = some u → w.cell? ⟨g2, k, none⟩ = some u := fun k u hk => by
      have := hown.cells (g := g2) (by rw [hv0]; rfl) k u hk
      rwa [add_none, Nat.zero_add] at this
    have hfz : ∀ k, w.frozen? ⟨g2, k, none⟩ = false := fun k => Lib.frozen_of_heap hg2 k
    cases hii : P.info? T0 with
    | none => rw [hii] at hi; cases hi
    | some ie =>
      have hie : ie.size = sz := by rw [hii] at hi; simpa using hi
      have hrun := Go.Lib.run_swap_cells (P := P) g T0 ie hii hagg g2 0 els.length cap i j hil hjl X Y (by rw [hXl, hie]) (by rw [hYl, hie]) hX.one hY.one w
        (fun k v hk => by rw [hie, Nat.zero_add]; exact cellv _ _ (hXc k v hk)) (fun k v hk => by rw [hie, Nat.zero_add]; exact cellv _ _ (hYc k v hk)) (fun k _ => hfz _) (fun k _ => hfz _)
      rw [hie, Nat.zero_add, Nat.zero_add] at hrun
      have s1 := setCells_setRow (P := P) (T := T0) hii hie hg2 (o := i * sz) (vs := Y) hYl (by have := hfit i hil; omega) hY.one
      have hR1 := R_putEl hR he hlg hg2 hel (hs _ (List.mem_of_getElem? hel2)) hY
      have hg3 := setRow_heap w g2 cur (splice cur.toList (i * sz) Y).toArray T0 _ hg2
      have hq : cur.toList.length = cur.size := Array.length_toList
      have hsp : (splice cur.toList (i * sz) Y).toArray.size = cur.size := by
        simp only [List.size_toArray]
        rw [splice_len _ _ _ (by have := hfit i hil; rw [hq]; omega), hq]
      have s2 := setCells_setRow (P := P) (T := T0) hii hie hg3 (o := j * sz) (vs := X) hXl (by rw [hsp]; have := hfit j hjl; omega) hX.one
      have he1 : (St.mk s.T (setE id (.parr l T0 sz (els.set i el2)) s.E)).ent id = some (.parr l T0 sz (els.set i el2)) := by
        show (setE id _ s.E).lookup id = _
        rw [setE_look id _ s.E _ he, if_pos rfl]
      obtain ⟨el3, hel3⟩ : ∃ el3, (els.set i el2)[j]? = some el3 := ⟨_, List.getElem?_eq_getElem (by rw [List.length_set]; exact hjl)⟩
      have hX1 : RdL ok (w.setRow g2 (splice cur.toList (i * sz) Y).toArray) el X := hX.mono (fun _ h => h) fun q hq => setRow_other w g2 q _ fun e => (hR.core.blk id _ g2 he e3.1).1 (e ▸ hq)
      have hR2 := R_putEl hR1 he1 hlg hg3 hel3 (hs _ (List.mem_of_getElem? hel)) hX1
      have hE2 : setE id (.parr l T0 sz ((els.set i el2).set j el)) (setE id (.parr l T0 sz (els.set i el2)) s.E) = setE id (.parr l T0 sz ((els.set i el2).set j el)) s.E := setE_setE id _ _ s.E
      simp only [hE2] at hR2
      have hR3 := hR2.put (d := d) (av := .bot) (v := .tuple #[]) trivial
      have hown2 : ownVal l = .slice (some ⟨g2, 0, none⟩) els.length cap := by rw [← hl0]; exact hv0
      rw [hown2] at hv
      unfold Oper.wp execOp
      rw [ho]
      simp only [resolve, hv, v1, v2, Deferred.ofValue, Sem.run_bind, Sem.run_pure, Result.andThen_ok, invoke, hext, List.map_toArray, List.map_cons, List.map_nil, Array.empty_append, Oper.upon, hd]
      have hrun2 : (Extern.ReflectliteSwapper.swap g (#[.int .i64 (i : Int), .int .i64 (j : Int)] ++ #[.slice (some ⟨g2, 0, none⟩) els.length cap, typeHandle P T0])).run P w = _ := hrun
      simp only [hrun2, Result.andThen_ok]
      rw [s1, s2]
      exact hK _ _ _ _ hR3
theorem X_swapM {α : Type} {c : α → List Tr} {xs : List α} {u v : α} {o : Oper} {s : St} {f : FuncId} {x ix jx : Operand} {ts : Array TypeId} {l : Loc} {T0 id sz d : Nat} {I1 J1 : Int} {g : Bool} (hext : ∀ args w, (callFunc f args).run P w = ((Extern.ReflectliteSwapper.swap g args).run P w).andThen fun v w' => .ok (.value v) w')
    (hagg : ∀ w, (isAgg T0).run P w = .ok true w) (hi : (P.info? T0).map (·.size) = some sz) (ho : o.op = .call { callee := .value x, args := #[ix, jx], argTypes := ts }) (hx : s.ev x = .c (.v (.func (.func f) #[] #[ownVal l, typeHandle P T0]))) (hd : o.dst = some d)
    (h1 : s.ev ix = I I1) (h2 : s.ev jx = I J1) (he : s.ent id = some (.parr l T0 sz (xs.map c))) (hu : getI xs I1 = some u) (hv : getI xs J1 = some v) :
    X P o s ((St.mk s.T (setE id (.parr l T0 sz (((xs.set I1.toNat v).set J1.toNat u).map c)) s.E)).put d .bot) := by
  obtain ⟨a1, a2⟩ := getI_some hu
  obtain ⟨b1, b2⟩ := getI_some hv
  rw [List.map_set, List.map_set]
  exact X_swap hext hagg hi ho hx hd h1 h2 (Int.toNat_of_nonneg a1).symm (Int.toNat_of_nonneg b1).symm he (by rw [List.getElem?_map, a2]; rfl) (by rw [List.getElem?_map, b2]; rfl)
/-- A call of a function that sorts: the row and the variable stand at known places. -/
theorem X_callSo {o : Oper} {s : St} {f : FuncId} {xs : Array Operand} {ts : Array TypeId} {args : List AV} {E0 E1 : List (Nat × Ent)} {av : AV} {ne E' : List (Nat × Ent)} {l lb : Loc} {T0 sz : Nat} {els : List (List Tr)} {cs : List Tr} (m : List (Nat × Nat)) (d : Nat) (hS : ∀ σ, σ 90000 = l → σ 90008 = lb → CallRs P f σ args E0 av ne E1) (hc : ∀ args w, (callFunc f args).run P w = .ok (.enter f args) w)
    (h1 : s.ent 90000 = some (.parr l T0 sz els)) (h2 : s.ent 90008 = some (.pbox lb cs)) (hm1 : renI m 90000 = 90000) (hm2 : renI m 90008 = 90008)
    (ho : o.op = .call { callee := .value (.func f), args := xs, argTypes := ts }) (hd : o.dst = some d) (ha : evL s xs.toList = renL m args) (ht : noTup args = true) (hm : matchE m s E0) (hk : keysE E1 = keysE E0) (hr : renOk m E0 = true) (hp : noPin E1 = true) (hp0 : noPin E0 = true) (he : updE m s.E E1 = E') :
    X P o s ((St.mk s.T E').upd d av ne) :=
  X_callRs m d (fun ok σ a w hC => hS _ (by rw [hm1]; exact (hC.ent _ _ h1).1) (by rw [hm2]; exact (hC.ent _ _ h2).1)) hc ho hd ha ht hm hk hr hp hp0 he
/-- A call of the function value that compares two elements of the row that its captured variable holds. -/
theorem Y1_less {o : Oper} {s : St} {f : FuncId} {x ix jx : Operand} {ts : Array TypeId} {l lb : Loc} {T0 id bid sz b : Nat} {els : List (List Tr)} {i j : Int} {r : Bool} (hS : CallS P f [I i, I j, .pe [.sl els]] (Bo r) []) (hc : ∀ args w, (callFunc f args).run P w = .ok (.enter f args) w)
    (ho : o.op = .call { callee := .value x, args := #[ix, jx], argTypes := ts }) (hx : s.ev x = .c (.v (.func (.func f) #[] #[.pointer (some ⟨b, 0, none⟩)]))) (h1 : s.ev ix = I i) (h2 : s.ev jx = I j) (hb : s.ent bid = some (.pbox lb [.v (ownVal l)])) (hlb : lb.blk = some b) (he : s.ent id = some (.parr l T0 sz els)) : Y1 P o s (Bo r) [] := by
  intro ok σ a w hC K Q hK
  have hv : a.eval x = .func (.func f) #[] #[.pointer (some ⟨b, 0, none⟩)] := hC.exact hx
  have v1 : a.eval ix = .int .i64 i := hC.exact h1
  have v2 : a.eval jx = .int .i64 j := hC.exact h2
  obtain ⟨hlbe, g, arr, T, hg1, hg2, hg3⟩ := hC.ent bid _ hb
  have hg : g = b := by rw [hlbe, hlb] at hg1; exact (Option.some.inj hg1).symm
  subst hg
  have hl0 := (hC.ent id _ he).1
  have hlt : ∀ g, okAll ok σ s g → g < w.heap.size := by
    rintro g (hg | ⟨id, e, he, hg⟩)
    · exact hC.okL g hg
    · exact (hC.blk id e g he hg).2
  have hrow : Rd (okAll ok σ s) w (.sl els) (ownVal l) := by
    have h3 : Rel ok σ w (.ow id) (ownVal (σ id)) := rfl
    have h4 := snap_rel hC h3
    rw [hl0] at h4
    have h6 : s.entc id = some (.arr T0 sz els) := by
      unfold St.entc
      rw [he]
      rfl
    have h5 : snapA s (.ow id) = .c (.sl els) := by
      simp only [snapA, h6]
    rw [h5] at h4
    exact h4
  have harg : RelA (okAll ok σ s) σ w [I i, I j, .pe [.sl els]] [.int .i64 i, .int .i64 j, .pointer (some ⟨g, 0, none⟩)] := by
    refine .cons (Rd.v _ rfl) (.cons (Rd.v _ rfl) (.cons ?_ .nil))
    refine ⟨g, 0, .inr ⟨bid, _, hb, hg1⟩, rfl, fun k c hk => ?_⟩
    have hk0 : k = 0 ∧ c = .sl els := by
      cases k with
      | zero => exact ⟨rfl, by simpa using hk.symm⟩
      | succ k => simp at hk
    obtain ⟨rfl, rfl⟩ := hk0
    have ha : arr.toList = [ownVal l] := by
      cases hq : arr.toList with
      | nil => rw [hq] at hg3; cases hg3
      | cons y ys =>
        rw [hq] at hg3
        cases hg3 with
        | cons p1 q1 =>
          cases p1
          cases q1
          rfl
    have ha2 : arr = #[ownVal l] := by
      apply Array.ext'
      rw [ha]
    refine ⟨ownVal l, ?_, hrow⟩
    simp [World.cell?, hg2, ha2]
  unfold Oper.wp execOp
  rw [ho]
  simp only [resolve, hv, v1, v2, Deferred.ofValue, Sem.run_bind, Sem.run_pure, Result.andThen_ok, invoke, hc, List.map_toArray, List.map_cons, List.map_nil, Array.empty_append, Oper.upon]
  refine Calls.mono (hS (okAll ok σ s) σ w _ hlt (hC.lib.mono (fun _ h => .inl h) fun _ _ => rfl) harg) ?_
  rintro e w' ⟨v, ok', σ', he2, hn⟩
  subst he2
  exact hK v w' ok σ' ⟨hn.below, fun _ h => h, fun _ h => .inl h, fun g hg => Nat.lt_of_lt_of_le (hC.okL g hg) hn.below.size, hn.rel.flat rfl, hn.keys, hn.ids, fun id e hl => by simp at hl, fun id e g hl hg => by simp at hl, hn.inj, hn.np⟩
end
end Go.Proofs.YtnheekadeflecaaGreat
