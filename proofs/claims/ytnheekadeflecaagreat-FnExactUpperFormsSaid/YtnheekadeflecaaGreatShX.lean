/-
  Rules for parts of slices and of strings.
  Conditions: none.
-/
import Derived.Test.YtnheekadeflecaaGreatShW
namespace Go.Proofs.YtnheekadeflecaaGreat
open Go.RowKit
set_option linter.unusedSimpArgs false
set_option linter.unusedVariables false

section
variable {P : Program}
theorem slc_some {n : Nat} {l h : Int} {u : Unit} (hh : slc n l h = some u) : 0 ≤ l ∧ l ≤ h ∧ h ≤ n := by
  unfold slc at hh
  cases hb : (leI 0 l && (leI l h && leI h n)) with
  | false => rw [hb] at hh; cases hh
  | true => simpa [leI_eq] using hb
theorem run_bound {k : IntKind} {n : Int} {y : Nat} {code : BoundsCode} (h0 : 0 ≤ n) (h1 : n ≤ y) (w : World) : (Instr.sliceBound (.int k n) y code).run P w = .ok n.toNat w := by
  unfold Instr.sliceBound
  simp [asIntOf, h0, h1]
theorem rd_part {ok : Nat → Prop} {w : World} {els : List (List Tr)} {A : Option Addr} {n cap sz : Nat} (h : Rd ok w (.sl els) (.slice A n cap)) (hs : ∀ el, el ∈ els → el.length = sz) {l h' : Nat} (h1 : l ≤ h') (h2 : h' ≤ els.length) :
    Rd ok w (.sl ((els.drop l).take (h' - l))) (.slice (if cap = l then A else A.map (·.add (l * sz))) (h' - l) (cap - l)) := by
  cases h with
  | nl A cap =>
    have e1 : l = 0 := by simp at h2; omega
    have e2 : h' = 0 := by simp at h2; omega
    subst e1 e2
    simpa using Rd.nl _ _
  | sl g off n cap sz2 els f hn hcap hok hsz hc hr =>
    rcases Nat.eq_zero_or_pos (h' - l) with h0 | h0
    · rw [h0]
      simpa using Rd.nl _ _
    · have hlen : els ≠ [] := by intro e; subst e; simp at h2; omega
      have hcl : ¬ cap = l := by omega
      rw [if_neg hcl]
      have hz : sz2 = sz := by
        obtain ⟨e, he⟩ := List.exists_mem_of_ne_nil els hlen
        rw [← hsz e he, hs e he]
      subst hz
      have hat : ∀ i j c, at2 ((els.drop l).take (h' - l)) i j = some c → at2 els (l + i) j = some c := by
        intro i j c hh
        unfold at2 at hh ⊢
        rw [List.getElem?_take] at hh
        split at hh
        · rw [List.getElem?_drop] at hh
          exact hh
        · cases hh
      have ha : (Option.map (fun x : Addr => x.add (l * sz2)) (some ⟨g, off, none⟩)) = some ⟨g, off + l * sz2, none⟩ := by
        rw [Option.map_some, add_none]
      rw [ha]
      refine .sl g (off + l * sz2) (h' - l) (cap - l) sz2 _ (fun i j => f (l + i) j) ?_ (by omega) hok (fun el hel => hsz el (List.mem_of_mem_drop (List.mem_of_mem_take hel))) (fun i j c hh => ?_) (fun i j c hh => hr _ _ _ (hat i j c hh))
      · simp; omega
      · have h3 := hc _ _ _ (hat i j c hh)
        have e : off + l * sz2 + (i * sz2 + j) = off + ((l + i) * sz2 + j) := by rw [Nat.add_mul]; omega
        rw [e]
        exact h3
theorem Y0_slice {α : Type} {c : α → List Tr} {xs : List α} {o : Oper} {s : St} {t e sz : Nat} {x : Operand} {lo hi : Option Operand} {l h : Int} (hu : P.underlying t = some (.slice e)) (hsz : (P.info? e).map (·.size) = some sz) (hc : ∀ v, (c v).length = sz) (ho : o.op = .slice t x lo hi none)
    (hx : s.ev x = .c (.sl (xs.map c))) (hlo : ∀ y, lo = some y → ∃ k, s.ev y = .c (.v (.int k l))) (hlo0 : lo = none → l = 0) (hhi : ∀ y, hi = some y → ∃ k, s.ev y = .c (.v (.int k h))) (hhi0 : hi = none → h = (xs.length : Int)) (hb : 0 ≤ l ∧ l ≤ h ∧ h ≤ xs.length) : Y0 P o s (.c (.sl ((subl xs l h).map c))) :=
  Y0_of_run fun ok σ a w hC => by
    obtain ⟨b1, b2, b3⟩ := hb
    have h1 := hC.ev x
    rw [hx] at h1
    have h2 : Rd ok w (.sl (xs.map c)) (a.eval x) := h1
    generalize hv : a.eval x = v at h2
    obtain ⟨A, n, cap, rfl, hn, hcap⟩ : ∃ A n cap, v = .slice A n cap ∧ n = xs.length ∧ n ≤ cap := by
      generalize hT : Tr.sl (xs.map c) = T at h2
      cases h2 with
      | v y hy => cases hT
      | mp b es clock hb hm => cases hT
      | nl A cap =>
        injection hT with hT
        have : xs = [] := by simpa using hT
        subst this
        exact ⟨A, 0, cap, rfl, rfl, Nat.zero_le _⟩
      | sl g off n cap sz els f hn hcap hok hsz hc hr =>
        injection hT with hT
        subst hT
        exact ⟨_, n, cap, rfl, by rw [hn]; simp, hcap⟩
    have h3 := rd_part (sz := sz) h2 (fun el hel => by obtain ⟨y, _, rfl⟩ := List.mem_map.1 hel; exact hc y) (l := l.toNat) (h' := h.toNat) (by omega) (by simp; omega)
    have e1 : ((xs.map c).drop l.toNat).take (h.toNat - l.toNat) = (subl xs l h).map c := by
      unfold subl
      rw [← List.map_drop, ← List.map_take]
    rw [e1] at h3
    refine ⟨_, ?_, h3⟩
    have eL : (lo.map a.eval) = none ∧ l = 0 ∨ ∃ k, lo.map a.eval = some (.int k l) := by
      cases lo with
      | none => exact .inl ⟨rfl, hlo0 rfl⟩
      | some y => obtain ⟨k, hk⟩ := hlo y rfl; exact .inr ⟨k, by simp [hC.exact hk]⟩
    have eH : (hi.map a.eval) = none ∧ h = (n : Int) ∨ ∃ k, hi.map a.eval = some (.int k h) := by
      cases hi with
      | none => exact .inl ⟨rfl, by rw [hhi0 rfl, hn]⟩
      | some y => obtain ⟨k, hk⟩ := hhi y rfl; exact .inr ⟨k, by simp [hC.exact hk]⟩
    have hbounds : ∀ w, (Instr.sliceBounds true n cap (lo.map a.eval) (hi.map a.eval) none).run P w = .ok (l.toNat, h.toNat, cap) w := by
      intro w
      unfold Instr.sliceBounds
      rcases eL with ⟨e2, e3⟩ | ⟨k, e2⟩ <;> rcases eH with ⟨e4, e5⟩ | ⟨k2, e4⟩
      · subst e3 e5
        simp [e2, e4]
      · subst e3
        simp only [e2, e4, Sem.run_bind, Sem.run_pure, Result.andThen_ok, run_bound (P := P) (k := k2) (n := h) (y := cap) (by omega) (by omega)]
        rfl
      · subst e5
        simp only [e2, e4, Sem.run_bind, Sem.run_pure, Result.andThen_ok, run_bound (P := P) (k := k) (n := l) (y := n) b1 (by omega)]
        simp
      · simp only [e2, e4, Sem.run_bind, Sem.run_pure, Result.andThen_ok, run_bound (P := P) (k := k2) (n := h) (y := cap) (by omega) (by omega), run_bound (P := P) (k := k) (n := l) (y := h.toNat) b1 (by omega)]
    cases hii : P.info? e with
    | none => rw [hii] at hsz; cases hsz
    | some i =>
      have hi2 : i.size = sz := by rw [hii] at hsz; simpa using hsz
      unfold execOp
      rw [ho]
      simp [hv, Instr.sliceAt, Instr.slice, run_underlying hu, hbounds, sizeOf, typeInfo, hii, hi2]
/-- Nothing is appended. -/
theorem X_append0 {o : Oper} {s : St} {x y : Operand} {t e d id sz bytes : Nat} {z : Value} {els : List (List Tr)} (ho : o.op = .call { callee := .builtin .append, args := #[x, y], argTypes := #[t, t] }) (hd : o.dst = some d) (ht : P.underlying t = some (.slice e))
    (hi : (P.info? e).map (fun i => (i.zero, i.size, i.bytes)) = some (some z, sz, bytes)) (hx : s.ev x = .ow id) (he : s.ent id = some (.arr e sz els)) (hy : sliceEls s (s.ev y) = some []) : X P o s ⟨(killI id s.T).set d (.ow id), setE id (.arr e sz (els ++ [])) s.E⟩ := by
  intro B w0 ok0 ok σ a w hR K Q hK
  have h3 := hR.core.ev x
  rw [hx] at h3
  have h4 : a.eval x = ownVal (σ id) := h3
  obtain ⟨A, cap2, h5, _, _⟩ := slice_read hR.core (hR.core.ev y) hy
  obtain ⟨h0, hn, hs, vs, hown, hrd⟩ := hR.core.ent id _ he
  have hle : (σ id).n ≤ (σ id).cap := by
    rcases hown.2 with ⟨hv, hv0⟩ | ⟨g, cap, cur, hv, _, _, hnc, _⟩
    · omega
    · unfold ownVal at hv
      injection hv with _ q1 q2
      omega
  cases hii : P.info? e with
  | none => rw [hii] at hi; simp at hi
  | some i =>
    have hi2 : i.size = sz := by rw [hii] at hi; simp at hi; exact hi.2.1
    have hrun : (Builtin.append_ #[t, t] o.type #[ownVal (σ id), .slice A 0 cap2]).run P w = .ok (ownVal (σ id)) w := by
      unfold Builtin.append_ ownVal
      cases A <;> cases (σ id).blk <;> simp [run_underlying ht, sizeOf, typeInfo, hii, hi2, Builtin.lenOf, Builtin.firstCells, hle, loadCells, loadCellsFrom, storeCells]
    unfold Oper.wp execOp
    simp only [ho, resolve, invoke, builtin, Sem.run_bind, Sem.run_pure, Result.andThen_ok, List.map_toArray, List.map_cons, List.map_nil, h4, h5, List.length_nil, hrun, Oper.upon, hd]
    refine hK _ _ ok σ ((hR.put (d := d) (av := .ow id) (v := ownVal (σ id)) rfl).le ⟨by simp [St.put, killI_len], fun u => ?_, fun j f hj => ?_⟩)
    · have e0 := get_put ⟨killI id s.T, s.E⟩ d u (.ow id)
      have e1 := get_put s d u (.ow id)
      unfold St.put St.get at e0 e1
      unfold St.get St.put
      simp only [killI_len, killI_get] at e0
      rw [e0, e1]
      split
      · exact .inr rfl
      · cases ((s.T[u]?).getD .bot).mid id with
        | true => exact .inl rfl
        | false => exact .inr rfl
    · have h7 : (setE id (.arr e sz (els ++ [])) s.E).lookup j = some f := hj
      rw [setE_look id _ s.E _ he, List.append_nil] at h7
      show s.ent j = some f
      split at h7
      · rename_i hji
        subst hji
        rw [he]
        exact h7
      · exact h7
theorem X_appendA {α : Type} {c : α → List Tr} {xs ys : List α} {o : Oper} {s : St} {x y : Operand} {t e d id sz bytes : Nat} {z : Value} (ho : o.op = .call { callee := .builtin .append, args := #[x, y], argTypes := #[t, t] }) (hd : o.dst = some d) (ht : P.underlying t = some (.slice e))
    (hi : (P.info? e).map (fun i => (i.zero, i.size, i.bytes)) = some (some z, sz, bytes)) (hzs : z.cells.size = sz) (hx : s.ev x = .ow id) (he : s.ent id = some (.arr e sz (xs.map c))) (hy : sliceEls s (s.ev y) = some (ys.map c)) (hc : ∀ v, (c v).length = sz)
    (hr : xs.length + ys.length ≤ 1099511627776) (hby : bytes ≤ 128) : X P o s ⟨(killI id s.T).set d (.ow id), setE id (.arr e sz ((xs ++ ys).map c)) s.E⟩ := by
  cases ys with
  | nil =>
    have := X_append0 ho hd ht hi hx he (by simpa using hy)
    simpa using this
  | cons v vs => exact X_appendM ho hd ht hi hzs hx he hy hc (by simp) hr hby
end
end Go.Proofs.YtnheekadeflecaaGreat
