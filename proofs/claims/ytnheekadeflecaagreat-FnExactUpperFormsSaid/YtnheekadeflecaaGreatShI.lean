/-
  Rules for slices.
  Conditions: none.
-/
import Derived.Test.YtnheekadeflecaaGreatShH
namespace Go.Proofs.YtnheekadeflecaaGreat
open Go.RowKit
set_option linter.unusedSimpArgs false
set_option linter.unusedVariables false

section
variable {P : Program}

/-! ### Slices -/
def AV.mid (id : Nat) : AV → Bool
  | .ow j => j == id
  | .pt j _ => j == id
  | .po j _ _ _ => j == id
  | .vw j _ _ => j == id
  | .sf j _ _ => j == id
  | .tc x r => x.mid id || r.mid id
  | _ => false
def killI (id : Nat) : List AV → List AV
  | [] => []
  | x :: xs => (bif x.mid id then .bot else x) :: killI id xs
theorem killI_get (d : Nat) : ∀ (T : List AV) (t : Nat), ((killI d T)[t]?).getD .bot = (bif ((T[t]?).getD .bot).mid d then AV.bot else (T[t]?).getD .bot)
  | [], t => by simp [killI]
  | x :: xs, 0 => by simp [killI]
  | x :: xs, t + 1 => by simpa [killI] using killI_get d xs t
theorem killI_len (d : Nat) : ∀ (T : List AV), (killI d T).length = T.length
  | [] => rfl
  | x :: xs => by simp [killI, killI_len d xs]
theorem Rel1.mid {ok ok' : Nat → Prop} {σ σ' : Nat → Loc} {w w' : World} {av : AV} {y : Value} (d : Nat) (h : Rel1 ok σ w av y) (hok : ∀ g, ok g → ok' g) (hw : ∀ g, ok g → w'.heap[g]? = w.heap[g]?)
    (hm : av.mid d = false) (hσ : ∀ id, id ≠ d → σ' id = σ id) : Rel1 ok' σ' w' av y := by
  have hw2 := (rel_of_rel1 h).mono0 (ok' := ok') hok hw
  cases av with
  | ow id =>
    have e := hσ id (by simpa [AV.mid] using hm)
    show y = _
    rw [e]
    exact h
  | pt id off =>
    have e := hσ id (by simpa [AV.mid] using hm)
    show ∃ g, _
    rw [e]
    exact h
  | po id sz i off =>
    have e := hσ id (by simpa [AV.mid] using hm)
    show ∃ g, _
    rw [e]
    exact h
  | tn => exact h.elim
  | tc x r => exact h.elim
  | bot => trivial
  | c t => exact hw2
  | ag cs => exact hw2
  | pe cs => exact hw2
  | fn f caps => exact hw2
  | er b => exact hw2
  | vw id els m => exact VwOk.mono h hok hw (hσ id (by simpa [AV.mid] using hm))
  | sf id z i =>
    have e := hσ id (by simpa [AV.mid] using hm)
    show y = _
    rw [e]
    exact h
theorem RelL.mid {ok ok' : Nat → Prop} {σ σ' : Nat → Loc} {w w' : World} {av : AV} {ys : List Value} (d : Nat) (h : RelL ok σ w av ys) (hok : ∀ g, ok g → ok' g) (hw : ∀ g, ok g → w'.heap[g]? = w.heap[g]?)
    (hm : av.mid d = false) (hσ : ∀ id, id ≠ d → σ' id = σ id) : RelL ok' σ' w' av ys := by
  induction av generalizing ys with
  | tn =>
    cases ys with
    | nil => trivial
    | cons y ys => exact h.elim
  | tc x r _ ih =>
    cases ys with
    | nil => exact h.elim
    | cons y ys =>
      simp only [AV.mid, Bool.or_eq_false_iff] at hm
      exact ⟨h.1.mid d hok hw hm.1 hσ, ih h.2 hm.2⟩
  | _ => cases ys <;> exact (h : False).elim
theorem Rel.mid {ok ok' : Nat → Prop} {σ σ' : Nat → Loc} {w w' : World} {av : AV} {y : Value} (d : Nat) (h : Rel ok σ w av y) (hok : ∀ g, ok g → ok' g) (hw : ∀ g, ok g → w'.heap[g]? = w.heap[g]?)
    (hm : av.mid d = false) (hσ : ∀ id, id ≠ d → σ' id = σ id) : Rel ok' σ' w' av y := by
  cases av with
  | tn =>
    obtain ⟨vs, hy, hl⟩ := h
    exact ⟨vs, hy, hl.mid d hok hw hm hσ⟩
  | tc x r =>
    obtain ⟨vs, hy, hl⟩ := h
    exact ⟨vs, hy, hl.mid d hok hw hm hσ⟩
  | bot => trivial
  | c t => exact Rel1.mid (ok := ok) (σ := σ) (w := w) (av := .c t) d h hok hw hm hσ
  | ag cs => exact Rel1.mid (ok := ok) (σ := σ) (w := w) (av := .ag cs) d h hok hw hm hσ
  | pe cs => exact Rel1.mid (ok := ok) (σ := σ) (w := w) (av := .pe cs) d h hok hw hm hσ
  | fn f caps => exact Rel1.mid (ok := ok) (σ := σ) (w := w) (av := .fn f caps) d h hok hw hm hσ
  | er b => exact Rel1.mid (ok := ok) (σ := σ) (w := w) (av := .er b) d h hok hw hm hσ
  | vw id els m => exact Rel1.mid (ok := ok) (σ := σ) (w := w) (av := .vw id els m) d h hok hw hm hσ
  | sf id z i => exact Rel1.mid (ok := ok) (σ := σ) (w := w) (av := .sf id z i) d h hok hw hm hσ
  | ow id => exact Rel1.mid (ok := ok) (σ := σ) (w := w) (av := .ow id) d h hok hw hm hσ
  | pt id off => exact Rel1.mid (ok := ok) (σ := σ) (w := w) (av := .pt id off) d h hok hw hm hσ
  | po id sz i off => exact Rel1.mid (ok := ok) (σ := σ) (w := w) (av := .po id sz i off) d h hok hw hm hσ

/-- The elements of a slice that is read. -/
def sliceEls (s : St) : AV → Option (List (List Tr))
  | .c (.sl els) => some els
  | .ow id => match s.entc id with
    | some (.arr _ _ els) => some els
    | _ => none
  | _ => none
theorem RdL_of_get {ok : Nat → Prop} {w : World} : ∀ (cs : List Tr) (f : Nat → Value), (∀ j c, cs[j]? = some c → Rd ok w c (f j)) → RdL ok w cs ((List.range cs.length).map f)
  | [], f, _ => .nil
  | c :: cs, f, h => by
    rw [List.length_cons, List.range_succ_eq_map, List.map_cons, List.map_map]
    exact .cons (h 0 c rfl) (RdL_of_get cs (f ∘ Nat.succ) fun j d hj => h (j + 1) d (by simpa using hj))
theorem flat_split : ∀ (els : List (List Tr)) (sz k : Nat) (c : Tr), (∀ e, e ∈ els → e.length = sz) → els.flatten[k]? = some c → at2 els (k / sz) (k % sz) = some c
  | [], _, k, c, _, h => by simp at h
  | e :: es, sz, k, c, hs, h => by
    have he : e.length = sz := hs e (by simp)
    rw [List.flatten_cons] at h
    rcases Nat.lt_or_ge k sz with h1 | h1
    · rw [List.getElem?_append_left (by omega)] at h
      rw [Nat.div_eq_of_lt h1, Nat.mod_eq_of_lt h1]
      simpa [at2] using h
    · rw [List.getElem?_append_right (by omega), he] at h
      rcases Nat.eq_zero_or_pos sz with h0 | h0
      · subst h0
        have hz : es.flatten = [] := by
          have := flatten_len es 0 (fun x hx => hs x (by simp [hx]))
          exact List.eq_nil_of_length_eq_zero (by simpa using this)
        rw [hz] at h
        simp at h
      · have ih := flat_split es sz (k - sz) c (fun x hx => hs x (by simp [hx])) h
        have e1 : k / sz = (k - sz) / sz + 1 := Nat.div_eq_sub_div h0 h1
        have e2 : k % sz = (k - sz) % sz := Nat.mod_eq_sub_mod h1
        rw [e1, e2]
        simpa [at2] using ih
/-- A slice that is read: where it lies, and its cells. -/
theorem slice_read {ok : Nat → Prop} {σ : Nat → Loc} {s : St} {a : Act} {w : World} (h : Core ok σ s a w) {av : AV} {y : Value} {els : List (List Tr)} (hr : Rel ok σ w av y) (he : sliceEls s av = some els) :
    ∃ A cap, y = .slice A els.length cap ∧ els.length ≤ cap ∧ (els ≠ [] → ∃ g off sz vs, A = some ⟨g, off, none⟩ ∧ (∀ e, e ∈ els → e.length = sz) ∧ RdL ok w els.flatten vs ∧ ∀ j u, vs[j]? = some u → w.cell? ⟨g, off + j, none⟩ = some u) := by
  cases av with
  | c t =>
    cases t with
    | v x => simp [sliceEls] at he
    | mp x => simp [sliceEls] at he
    | sl es =>
      simp only [sliceEls] at he
      injection he with he
      subst he
      have h1 : Rd ok w (.sl es) y := hr
      cases h1 with
      | nl A cap => exact ⟨A, cap, rfl, Nat.zero_le _, fun h => absurd rfl h⟩
      | sl g off n cap sz els f hn hcap hok hs hc hrr =>
        subst hn
        refine ⟨_, cap, rfl, hcap, fun _ => ⟨g, off, sz, (List.range es.flatten.length).map (fun k => f (k / sz) (k % sz)), rfl, hs, RdL_of_get _ _ fun j c hj => hrr _ _ c (flat_split es sz j c hs hj), fun j u hu => ?_⟩⟩
        have hj : j < es.flatten.length := by
          rcases Nat.lt_or_ge j es.flatten.length with h2 | h2
          · exact h2
          · rw [List.getElem?_eq_none (by simpa using h2)] at hu; cases hu
        have hu2 : u = f (j / sz) (j % sz) := by
          rw [List.getElem?_map, List.getElem?_range hj] at hu
          simpa using hu.symm
        have h3 := hc _ _ _ (flat_split es sz j _ hs (List.getElem?_eq_getElem hj))
        have e1 : j / sz * sz + j % sz = j := by rw [Nat.mul_comm]; exact Nat.div_add_mod j sz
        rw [e1] at h3
        rw [hu2]
        exact h3
  | ow id =>
    simp only [sliceEls] at he
    cases hid : s.entc id with
    | none => simp [hid] at he
    | some e =>
      cases e with
      | box => simp [hid] at he
      | pbox => simp [hid] at he
      | parr => simp [hid] at he
      | mp => simp [hid] at he
      | qarr => simp [hid] at he
      | arr T sz es =>
        simp only [hid] at he
        injection he with he
        subst he
        obtain ⟨h0, hn, hs, vs, h1, h2⟩ := h.entc id _ hid
        have hy : y = ownVal (σ id) := hr
        refine ⟨_, (σ id).cap, by rw [hy]; unfold ownVal; rw [hn], ?_, fun hne => ?_⟩
        · rcases h1.2 with ⟨_, hv0⟩ | ⟨g2, cap, cur, hv, hb, hg, hnc, _⟩
          · omega
          · unfold ownVal at hv
            injection hv with _ _ h3
            omega
        · obtain ⟨g, hg⟩ := own_blk h1 (List.length_pos_iff.2 hne)
          exact ⟨g, 0, sz, vs, by rw [hg]; rfl, hs, h2, fun j u hu => by rw [Nat.zero_add]; exact own_vals h1 hg j u hu⟩
  | _ => simp [sliceEls] at he
theorem Y0_len {o : Oper} {s : St} {x : Operand} {t e : TypeId} {els : List (List Tr)} (hu : P.underlying t = some (.slice e)) (ho : o.op = .call { callee := .builtin .len, args := #[x], argTypes := #[t] }) (hx : sliceEls s (s.ev x) = some els) : Y0 P o s (.c (.v (.int .i64 (els.length : Int)))) :=
  Y0_of_run fun ok σ a w hC => by
    obtain ⟨A, cap, h1, _⟩ := slice_read hC (hC.ev x) hx
    refine ⟨_, ?_, rd_int _ _ _ _⟩
    unfold execOp
    rw [ho]
    simp [resolve, invoke, builtin, h1, Builtin.len_, run_underlying hu, goInt]
theorem Y0_lens {o : Oper} {s : St} {x : Operand} {t : TypeId} {b : ByteArray} (hu : P.underlying t = some .string) (ho : o.op = .call { callee := .builtin .len, args := #[x], argTypes := #[t] }) (hx : s.ev x = .c (.v (.string b))) : Y0 P o s (.c (.v (.int .i64 (b.size : Int)))) :=
  Y0_of_run fun ok σ a w hC => by
    refine ⟨_, ?_, rd_int _ _ _ _⟩
    unfold execOp
    rw [ho]
    simp [resolve, invoke, builtin, hC.exact hx, Builtin.len_, run_underlying hu, goInt]
theorem Y1_nil {o : Oper} {s : St} {e : TypeId} (sz : Nat) (hsz : 0 < sz) (ho : o.op = .assign (.const (.slice none 0 0)) ∨ o.op = .move (.const (.slice none 0 0))) : Y1 P o s (.ow 0) [(0, .arr e sz [])] :=
  Y1_of_run fun ok σ a w hC => by
    refine ⟨.slice none 0 0, w, fun _ => ⟨none, 0, 0⟩, ?_, ⟨Below.refl _ _, fun _ h => h, fun _ h => .inl h, hC.okL, rfl, fun id e he => ?_, fun e he => ?_, fun id e he => ?_, fun id e g he hg => by simp at hg, fun i j e f g hi hj h1 => by simp at h1, fun id e he => by obtain ⟨_, h2⟩ := look_one _ _ _ _ he; subst h2; rfl⟩⟩
    · unfold execOp
      rcases ho with h | h <;> rw [h] <;> rfl
    · obtain ⟨h1, _⟩ := look_one _ _ _ _ he; omega
    · show (0 / 8 == e) = false
      rw [beq_eq_false_iff_ne]; omega
    · obtain ⟨h1, h2⟩ := look_one _ _ _ _ he
      subst h2
      exact ⟨hsz, rfl, (by intro el h; cases h), [], World.ownsRow_nil w 0 _ sz, RdL.nil⟩
theorem ownVal_blk (l : Loc) : (ownVal l).ownBlock = l.blk := by
  unfold ownVal
  cases l.blk <;> rfl
theorem X_append {o : Oper} {s : St} {x y : Operand} {t e d id sz bytes : Nat} {z : Value} {els els2 : List (List Tr)} (ho : o.op = .call { callee := .builtin .append, args := #[x, y], argTypes := #[t, t] }) (hd : o.dst = some d) (ht : P.underlying t = some (.slice e))
    (hi : (P.info? e).map (fun i => (i.zero, i.size, i.bytes)) = some (some z, sz, bytes)) (hzs : z.cells.size = sz) (hx : s.ev x = .ow id) (he : s.ent id = some (.arr e sz els)) (hy : sliceEls s (s.ev y) = some els2) (h2 : ∀ el, el ∈ els2 → el.length = sz) (hne : els2 ≠ [])
    (hlen : els.length + els2.length ≤ 1099511627776) (hby : bytes ≤ 128) : X P o s ⟨(killI id s.T).set d (.ow id), setE id (.arr e sz (els ++ els2)) s.E⟩ := by
  intro B w0 ok0 ok σ a w hR K Q hK
  obtain ⟨h0, hn, hs, vs, hown, hrd⟩ := hR.core.ent id _ he
  have h3 := hR.core.ev x
  rw [hx] at h3
  have h4 : a.eval x = ownVal (σ id) := h3
  obtain ⟨A, cap2, h5, _, h6⟩ := slice_read hR.core (hR.core.ev y) hy
  obtain ⟨g2, off2, sz2, vs2, hA, hs2, hrd2, hc2⟩ := h6 hne
  have hm : 0 < els2.length := List.length_pos_iff.2 hne
  cases hii : P.info? e with
  | none => rw [hii] at hi; simp at hi
  | some i =>
    have hi2 : i.zero = some z ∧ i.size = sz ∧ i.bytes = bytes := by rw [hii] at hi; simpa using hi
    have hl2 : vs2.length = els2.length * sz := by rw [← hrd2.len]; exact flatten_len els2 sz h2
    have hbytes : (els.length + els2.length) * bytes ≤ 140737488355328 := by
      have := Nat.mul_le_mul hlen hby
      omega
    refine wp_append_lies w x y t ho 0 e i z sz bytes ht hii hi2.1 hi2.2.1 hi2.2.2 hzs h0 (ownVal (σ id)) els.length vs h4 hown ⟨g2, off2, none⟩ els2.length cap2 vs2 (by rw [h5, hA]) hl2 (fun j u hu => by rw [add_none]; exact hc2 j u hu) hrd2.one hm (by unfold maxLen; omega) hbytes (Nat.zero_le _) w.heap.size rfl ?_
    intro g cap w' hown' hgrow hat hlt
    rw [ownVal_blk] at hgrow hat
    have hwq : ∀ q, q < w.heap.size → (σ id).blk ≠ some q → w'.heap[q]? = w.heap[q]? := fun q hq hne => hgrow.block q hq fun e => hne e.symm
    have hwok : ∀ q, ok q → w'.heap[q]? = w.heap[q]? := fun q hq => hwq q (hR.core.okL q hq) fun e1 => (hR.core.blk id _ q he e1).1 hq
    have hsz : w.heap.size ≤ w'.heap.size := hgrow.size
    have hσ : ∀ j, j ≠ id → (fun j => if j = id then (⟨some g, els.length + els2.length, cap⟩ : Loc) else σ j) j = σ j := fun j hj => by simp [hj]
    have hB : ∀ q, (σ id).blk = some q → B.n ≤ q := fun q hq => by
      have h7 := hR.own id _ q he hq
      rw [if_neg (fun hc => by cases hc)] at h7
      exact h7
    have hgB : B.n ≤ g ∧ ¬ ok g := by
      rcases hat with h7 | h7
      · exact ⟨hB g h7, (hR.core.blk id _ g he h7).1⟩
      · rw [h7]
        exact ⟨hR.base, fun hq => Nat.lt_irrefl _ (hR.core.okL _ hq)⟩
    have look := setE_look id (.arr e sz (els ++ els2)) s.E _ he
    have hfar : ∀ j f q, j ≠ id → s.ent j = some f → (σ j).blk = some q → q ≠ g ∧ (σ id).blk ≠ some q := by
      intro j f q hj hf hq
      have hne2 : (σ id).blk ≠ some q := fun e1 => hj (hR.core.inj _ _ _ _ _ hf he hq e1)
      refine ⟨fun e1 => ?_, hne2⟩
      subst e1
      rcases hat with h7 | h7
      · exact hne2 h7
      · have := (hR.core.blk j f q hf hq).2
        omega
    rw [hd]
    refine hK _ _ ok (fun j => if j = id then ⟨some g, els.length + els2.length, cap⟩ else σ j) ⟨⟨?_, fun q hq => Nat.lt_of_lt_of_le (hR.core.okL q hq) hsz, hR.core.lib.mono (fun _ h => h) hwok, fun u => ?_, fun j f hj => ?_, fun j f q hj hq => ?_, fun j k f1 f2 q hj hk q1 q2 => ?_⟩, hR.defers, hR.below.grown hgrow hR.base hB, Nat.le_trans hR.base hsz, hR.old, hR.fresh, fun j f q hj hq => ?_⟩
    · rw [size_put]
      simpa [killI_len] using hR.core.len
    · have e0 := get_put ⟨killI id s.T, s.E⟩ d u (.ow id)
      have hk : St.get ⟨(killI id s.T).set d (.ow id), setE id (.arr e sz (els ++ els2)) s.E⟩ u = if d = u ∧ d < s.T.length then .ow id else (bif (s.get u).mid id then AV.bot else s.get u) := by
        unfold St.put St.get at e0
        simp only [killI_len, killI_get] at e0
        exact e0
      rw [hk, getD_put]
      by_cases hdu : d = u ∧ d < s.T.length
      · rw [if_pos hdu, if_pos ⟨hdu.1, Nat.lt_of_lt_of_le hdu.2 hR.core.len⟩]
        show _ = ownVal _
        simp [ownVal]
      · rw [if_neg hdu]
        by_cases hd2 : d = u ∧ d < a.tmps.size
        · rw [if_pos hd2]
          have hb : s.get u = .bot := by
            unfold St.get
            rw [List.getElem?_eq_none (by omega)]
            rfl
          rw [hb]
          trivial
        · rw [if_neg hd2]
          cases hmm : (s.get u).mid id with
          | true => trivial
          | false => exact (hR.core.tmp u).mid id (fun _ h => h) hwok hmm hσ
    · have h7 : (setE id (.arr e sz (els ++ els2)) s.E).lookup j = some f := hj
      rw [look] at h7
      by_cases hji : j = id
      · rw [if_pos hji] at h7
        injection h7 with h7
        subst h7
        simp only [hji, if_true]
        refine ⟨h0, by simp, fun el hel => ?_, vs ++ vs2, ?_, ?_⟩
        · rcases List.mem_append.1 hel with h8 | h8
          · exact hs el h8
          · exact h2 el h8
        · simpa [ownVal] using hown'
        · rw [List.flatten_append]
          exact (hrd.mono (fun _ h => h) hwok).app (hrd2.mono (fun _ h => h) hwok)
      · rw [if_neg hji] at h7
        simp only [hji, if_false]
        refine (hR.core.ent j f h7).mono (fun _ h => h) hwok fun q hq => ?_
        exact hwq q (hR.core.blk j f q h7 hq).2 (hfar j f q hji h7 hq).2
    · have h7 : (setE id (.arr e sz (els ++ els2)) s.E).lookup j = some f := hj
      rw [look] at h7
      by_cases hji : j = id
      · simp only [hji, if_true] at hq
        have hqg : g = q := by simpa using hq
        subst hqg
        exact ⟨hgB.2, hlt⟩
      · rw [if_neg hji] at h7
        simp only [hji, if_false] at hq
        obtain ⟨h8, h9⟩ := hR.core.blk j f q h7 hq
        exact ⟨h8, Nat.lt_of_lt_of_le h9 hsz⟩
    · have h7 : (setE id (.arr e sz (els ++ els2)) s.E).lookup j = some f1 := hj
      have h8 : (setE id (.arr e sz (els ++ els2)) s.E).lookup k = some f2 := hk
      rw [look] at h7 h8
      by_cases hji : j = id
      · by_cases hki : k = id
        · omega
        · rw [if_neg hki] at h8
          simp only [hji, if_true] at q1
          simp only [hki, if_false] at q2
          have hqg : g = q := by simpa using q1
          subst hqg
          exact absurd rfl (hfar k f2 g hki h8 q2).1
      · rw [if_neg hji] at h7
        simp only [hji, if_false] at q1
        by_cases hki : k = id
        · simp only [hki, if_true] at q2
          have hqg : g = q := by simpa using q2
          subst hqg
          exact absurd rfl (hfar j f1 g hji h7 q1).1
        · rw [if_neg hki] at h8
          simp only [hki, if_false] at q2
          exact hR.core.inj _ _ _ _ _ h7 h8 q1 q2
    · have h7 : (setE id (.arr e sz (els ++ els2)) s.E).lookup j = some f := hj
      rw [look] at h7
      by_cases hji : j = id
      · simp only [hji, if_true] at hq
        have hqg : g = q := by simpa using hq
        subst hqg
        rw [if_pos hji] at h7
        injection h7 with h7
        subst h7
        rw [if_neg (fun hc => by cases hc)]
        exact hgB.1
      · rw [if_neg hji] at h7
        simp only [hji, if_false] at hq
        exact hR.own j f q h7 hq
end
end Go.Proofs.YtnheekadeflecaaGreat
