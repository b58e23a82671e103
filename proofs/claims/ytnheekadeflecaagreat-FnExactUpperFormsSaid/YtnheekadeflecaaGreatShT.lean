/-
  Rules with their arguments written out, and the way from a law over trees to the row's walk.
  Conditions: none.
-/
import Derived.Test.YtnheekadeflecaaGreatShS
namespace Go.Proofs.YtnheekadeflecaaGreat
open Go.RowKit
set_option linter.unusedSimpArgs false
set_option linter.unusedVariables false

section
variable {P : Program}
theorem V_cond_true {c : Operand} {x y : Code} {s : St} {J : Exit → St → Prop} (hc : s.ev c = .c (.v (.bool true))) (h : V P x s J) : V P (.cond c x y) s J := V_cond hc (fun _ => h) (fun h => by cases h)
theorem V_cond_false {c : Operand} {x y : Code} {s : St} {J : Exit → St → Prop} (hc : s.ev c = .c (.v (.bool false))) (h : V P y s J) : V P (.cond c x y) s J := V_cond hc (fun h => by cases h) (fun _ => h)
theorem XL_takeC {ops : Array Oper} {o : Oper} {rest : List Oper} {s s' : St} {J : St → Prop} {j t : Nat} {b : Bool} (c : Bool) (hg : o.guard = some (j, b)) (ht : (ops[j]?).bind (·.dst) = some t) (hb : s.get t = .c (.v (.bool c))) (hc : c = b)
    (h : X P o s s') (hk : XL P ops rest s' J) : XL P ops (o :: rest) s J := by
  subst hc
  exact XL_take hg ht hb h hk
theorem XL_skipT {ops : Array Oper} {o : Oper} {rest : List Oper} {s : St} {J : St → Prop} {j t d : Nat} (c : Bool) (hg : o.guard = some (j, true)) (ht : (ops[j]?).bind (·.dst) = some t) (hb : s.get t = .c (.v (.bool c))) (hc : c = false)
    (hd : o.dst = some d) (hk : XL P ops rest (s.put d .tn) J) : XL P ops (o :: rest) s J := by
  subst hc
  exact XL_skip hg ht hb (by decide) hd hk
theorem XL_skipF {ops : Array Oper} {o : Oper} {rest : List Oper} {s : St} {J : St → Prop} {j t d : Nat} (c : Bool) (hg : o.guard = some (j, false)) (ht : (ops[j]?).bind (·.dst) = some t) (hb : s.get t = .c (.v (.bool c))) (hc : c = true)
    (hd : o.dst = some d) (hk : XL P ops rest (s.put d .tn) J) : XL P ops (o :: rest) s J := by
  subst hc
  exact XL_skip hg ht hb (by decide) hd hk
theorem E_move {o : Oper} {s : St} {x : Operand} (av : AV) (ho : o.op = .move x) (hx : s.ev x = av) : Y0 P o s av := hx ▸ Y0_move ho
theorem E_assign {o : Oper} {s : St} {x : Operand} (av : AV) (ho : o.op = .assign x) (hx : s.ev x = av) : Y0 P o s av := hx ▸ Y0_assign ho
theorem E_pickt {o : Oper} {s : St} {c x y : Operand} (av : AV) (ho : o.op = .pick c x y) (hc : s.ev c = .c (.v (.bool true))) (hx : s.ev x = av) : Y0 P o s av := hx ▸ Y0_pickt ho hc
theorem E_pickf {o : Oper} {s : St} {c x y : Operand} (av : AV) (ho : o.op = .pick c x y) (hc : s.ev c = .c (.v (.bool false))) (hx : s.ev y = av) : Y0 P o s av := hx ▸ Y0_pickf ho hc
theorem E_pickT {o : Oper} {s : St} {c x y : Operand} {b : Bool} (av : AV) (ho : o.op = .pick c x y) (hc : s.ev c = .c (.v (.bool b))) (hb : b = true) (hx : s.ev x = av) : Y0 P o s av := hx ▸ Y0_pickT ho hc hb
theorem E_pickF {o : Oper} {s : St} {c x y : Operand} {b : Bool} (av : AV) (ho : o.op = .pick c x y) (hc : s.ev c = .c (.v (.bool b))) (hb : b = false) (hx : s.ev y = av) : Y0 P o s av := hx ▸ Y0_pickF ho hc hb
theorem E_ext {o : Oper} {s : St} {x : Operand} {n : Nat} (y r av : AV) (ho : o.op = .extract x n) (hx : s.ev x = .tc y r) (hav : (AV.tc y r).nth n = av) (hb : av ≠ .bot) : Y0 P o s av := by
  subst hav
  exact Y0_ext ho hx hb
theorem E_nil {o : Oper} {s : St} {x : Operand} (av : AV) (ho : o.op = .nilCheck x) (hx : s.ev x = av) (hb : av.adv 0 ≠ .bot) : Y0 P o s av := by
  subst hx
  exact Y0_nilCheck ho hb
theorem E_field {o : Oper} {s : St} {t : TypeId} {x : Operand} {f : Nat} {fields : Array Field} {fd : Field} {n : Nat} (av : AV) (hu : P.underlying t = some (.struct fields)) (hfd : fields[f]? = some fd) (hsz : ((P.info? fd.type).map (·.size)) = some (n + 1)) (ho : o.op = .fieldAddr t x f)
    (hav : (s.ev x).adv fd.offset = av) (hb : av ≠ .bot) : Y0 P o s av := by
  subst hav
  exact Y0_field hu hfd hsz ho hb
theorem E_loadn {o : Oper} {s : St} {t : TypeId} {x : Operand} {n : Nat} {cs : List Tr} (ds : List Tr) (hs : wide P t n) (ho : o.op = .load t x) (hm : memCells s (s.ev x) = some cs) (hn : n ≤ cs.length) (hd : cs.take n = ds) : Y0 P o s (.ag ds) := by
  subst hd
  exact Y0_loadn hs ho hm hn
theorem E_loadon {α : Type} {c : α → List Tr} {xs : List α} {v : α} {o : Oper} {s : St} {t : TypeId} {x : Operand} {id sz T off m : Nat} {n : Int} (ds : List Tr) (hs : wide P t m) (ho : o.op = .load t x) (hx : s.ev x = .po id sz n.toNat off) (he : s.entc id = some (.arr T sz (xs.map c))) (hv : getI xs n = some v)
    (hm : m ≤ ((c v).drop off).length) (hd : ((c v).drop off).take m = ds) : Y0 P o s (.ag ds) := by
  subst hd
  exact Y0_loadon hs ho hx he hv rfl hm
theorem E_store {o : Oper} {s : St} {t : TypeId} {x y : Operand} {id off : Nat} {cs vc : List Tr} (ds : List Tr) (ho : o.op = .store t x y) (hd : o.dst = none) (hx : s.ev x = .pt id off) (he : s.ent id = some (.box cs)) (hy : avCells (s.ev y) = some vc) (hi : (P.info? t).map (·.size) = some vc.length) (hl : off + vc.length ≤ cs.length) (hs : splice cs off vc = ds) :
    X P o s ⟨s.T, setE id (.box ds) s.E⟩ := by
  subst hs
  exact X_store ho hd hx he hy hi hl
theorem E_storep {l : Loc} {o : Oper} {s : St} {t : TypeId} {x y : Operand} {id off : Nat} {cs vc : List Tr} (ds : List Tr) (ho : o.op = .store t x y) (hd : o.dst = none) (hx : s.ev x = .pt id off) (he : s.ent id = some (.pbox l cs)) (hy : avCells (s.ev y) = some vc) (hi : (P.info? t).map (·.size) = some vc.length) (hl : off + vc.length ≤ cs.length) (hs : splice cs off vc = ds) :
    X P o s ⟨s.T, setE id (.pbox l ds) s.E⟩ := by
  subst hs
  exact X_storep ho hd hx he hy hi hl
theorem Y0_shr {o : Oper} {s : St} {x y : Operand} {t t2 : TypeId} {k k2 : IntKind} {a b : Int} (ho : o.op = .binOp .shr t x y t2) (hx : s.ev x = .c (.v (.int k a))) (hy : s.ev y = .c (.v (.int k2 b))) (h0 : ¬ b < 0) : Y0 P o s (.c (.v (.int k (shrI k a b)))) :=
  Y0_bin ho hx hy (fun w => by unfold eqGuard; rfl) (fun w => by simp [binOp, Op.shift, h0, shrI]) rfl
theorem Y0_shl {o : Oper} {s : St} {x y : Operand} {t t2 : TypeId} {k k2 : IntKind} {a b : Int} (ho : o.op = .binOp .shl t x y t2) (hx : s.ev x = .c (.v (.int k a))) (hy : s.ev y = .c (.v (.int k2 b))) (h0 : ¬ b < 0) : Y0 P o s (.c (.v (.int k (shlI k a b)))) :=
  Y0_bin ho hx hy (fun w => by unfold eqGuard; rfl) (fun w => by simp [binOp, Op.shift, h0, shlI]) rfl
theorem Y0_and {o : Oper} {s : St} {x y : Operand} {t t2 : TypeId} {k : IntKind} {a b : Int} (ho : o.op = .binOp .and t x y t2) (hx : s.ev x = .c (.v (.int k a))) (hy : s.ev y = .c (.v (.int k b))) : Y0 P o s (.c (.v (.int k (andI k a b)))) :=
  Y0_bin ho hx hy (guard_int _ _ _ _ _ _ _) (fun w => by simp [binOp, Op.intBits, andI]) rfl
theorem Y0_or {o : Oper} {s : St} {x y : Operand} {t t2 : TypeId} {k : IntKind} {a b : Int} (ho : o.op = .binOp .or t x y t2) (hx : s.ev x = .c (.v (.int k a))) (hy : s.ev y = .c (.v (.int k b))) : Y0 P o s (.c (.v (.int k (orI k a b)))) :=
  Y0_bin ho hx hy (guard_int _ _ _ _ _ _ _) (fun w => by simp [binOp, Op.intBits, orI]) rfl
theorem Y0_xor {o : Oper} {s : St} {x y : Operand} {t t2 : TypeId} {k : IntKind} {a b : Int} (ho : o.op = .binOp .xor t x y t2) (hx : s.ev x = .c (.v (.int k a))) (hy : s.ev y = .c (.v (.int k b))) : Y0 P o s (.c (.v (.int k (xorI k a b)))) :=
  Y0_bin ho hx hy (guard_int _ _ _ _ _ _ _) (fun w => by simp [binOp, Op.intBits, xorI]) rfl
theorem Y0_pickTe {o : Oper} {s : St} {c x y : Operand} {b p q : Bool} (ho : o.op = .pick c x y) (hc : s.ev c = .c (.v (.bool b))) (hb : b = true) (hx : s.ev x = .c (.v (.bool p))) (he : p = q) : Y0 P o s (Bo q) := by
  subst he
  have h := Y0_pickT (P := P) ho hc hb
  rw [hx] at h
  exact h
theorem Y0_pickFe {o : Oper} {s : St} {c x y : Operand} {b p q : Bool} (ho : o.op = .pick c x y) (hc : s.ev c = .c (.v (.bool b))) (hb : b = false) (hy : s.ev y = .c (.v (.bool p))) (he : p = q) : Y0 P o s (Bo q) := by
  subst he
  have h := Y0_pickF (P := P) ho hc hb
  rw [hy] at h
  exact h
theorem V_toK {c : Code} {s s1 : St} {J : Exit → St → Prop} (m : List Bool) (ids : List Nat) (h1 : V P c s (thenA (fun s' => s'.keep m ids = s1) J)) (h2 : J .normal s1) : V P c s J := by
  intro B w0 ok0 ok σ a w hR
  refine wp_mono (h1 _ _ _ _ _ _ _ hR) ?_
  rintro e a' w' ⟨s', ok', σ', hJ, hR'⟩
  cases e with
  | normal =>
    have hk : s'.keep m ids = s1 := hJ
    subst hk
    exact ⟨_, ok', σ', h2, hR'.le (keep_le m ids s')⟩
  | exit id => exact ⟨s', ok', σ', hJ, hR'⟩
  | goto l => exact ⟨s', ok', σ', hJ, hR'⟩
  | ret => exact ⟨s', ok', σ', hJ, hR'⟩
  | panic ch => exact ⟨s', ok', σ', hJ, hR'⟩
  | outgrown => exact ⟨s', ok', σ', hJ, hR'⟩
theorem V_toS {α β : Type} {q : α ⊕ β} {c : Code} {s : St} {S : α → St} {J : Exit → St → Prop} (m : List Bool) (ids : List Nat) (h1 : V P c s (thenA (fun s' => ∃ o, q = .inl o ∧ s'.keep m ids = S o) J)) (h2 : ∀ o, q = .inl o → J .normal (S o)) : V P c s J := by
  intro B w0 ok0 ok σ a w hR
  refine wp_mono (h1 _ _ _ _ _ _ _ hR) ?_
  rintro e a' w' ⟨s', ok', σ', hJ, hR'⟩
  cases e with
  | normal =>
    obtain ⟨o, ho, hk⟩ : ∃ o, q = .inl o ∧ s'.keep m ids = S o := hJ
    have h3 := h2 o ho
    rw [← hk] at h3
    exact ⟨_, ok', σ', h3, hR'.le (keep_le m ids s')⟩
  | exit id => exact ⟨s', ok', σ', hJ, hR'⟩
  | goto l => exact ⟨s', ok', σ', hJ, hR'⟩
  | ret => exact ⟨s', ok', σ', hJ, hR'⟩
  | panic ch => exact ⟨s', ok', σ', hJ, hR'⟩
  | outgrown => exact ⟨s', ok', σ', hJ, hR'⟩
theorem V_cutK {x y : Code} {s s1 : St} {J : Exit → St → Prop} (m : List Bool) (ids : List Nat) (h1 : V P x s (thenA (fun s' => s'.keep m ids = s1) J)) (h2 : V P y s1 J) : V P (.seq x y) s J := by
  refine V_seq (V_toK (s1 := s1) m ids (V_mono h1 fun e s' h => ?_) h2)
  cases e <;> exact h
def EqAg2 (P : Program) (op : BinOp) (t : TypeId) : Prop := ∀ (a0 a1 b0 b1 : Int) (x y : Operand) (w : World), (eqGuard op t x y (.agg #[.int .i64 a0, .int .i64 a1]) (.agg #[.int .i64 b0, .int .i64 b1])).run P w = .ok () w ∧ (binOp op t (.agg #[.int .i64 a0, .int .i64 a1]) (.agg #[.int .i64 b0, .int .i64 b1])).run P w = .ok (.bool (match op with | .neq => !((a0 == b0) && (a1 == b1)) | _ => ((a0 == b0) && (a1 == b1)))) w
theorem ag2 {ok : Nat → Prop} {σ : Nat → Loc} {w : World} {y : Value} {a0 a1 : Int} (h : Rel ok σ w (.ag [Ti a0, Ti a1]) y) : y = (.agg #[.int .i64 a0, .int .i64 a1]) := by
  obtain ⟨vs, rfl, hr⟩ := h
  obtain ⟨l⟩ := vs
  cases hr with
  | cons p1 q1 =>
  cases p1
  cases q1 with
  | cons p2 q2 =>
  cases p2
  cases q2
  rfl
theorem Y0_eqg2 {o : Oper} {s : St} {x y : Operand} {t t2 : TypeId} {a0 a1 b0 b1 : Int} (h : EqAg2 P .eql t) (ho : o.op = .binOp .eql t x y t2) (hx : s.ev x = .ag [Ti a0, Ti a1]) (hy : s.ev y = .ag [Ti b0, Ti b1]) : Y0 P o s (Bo (((a0 == b0) && (a1 == b1)))) :=
  Y0_of_run fun ok σ a w hC => by
    have h1 := hC.ev x
    rw [hx] at h1
    have h2 := hC.ev y
    rw [hy] at h2
    obtain ⟨h3, h4⟩ := h a0 a1 b0 b1 x y w
    refine ⟨_, ?_, rd_bool _ _ _⟩
    unfold execOp
    rw [ho]
    simp only [ag2 h1, ag2 h2, Sem.run_bind, h3, h4, Result.andThen_ok, Sem.run_pure]
theorem Y0_neg2 {o : Oper} {s : St} {x y : Operand} {t t2 : TypeId} {a0 a1 b0 b1 : Int} (h : EqAg2 P .neq t) (ho : o.op = .binOp .neq t x y t2) (hx : s.ev x = .ag [Ti a0, Ti a1]) (hy : s.ev y = .ag [Ti b0, Ti b1]) : Y0 P o s (Bo (!((a0 == b0) && (a1 == b1)))) :=
  Y0_of_run fun ok σ a w hC => by
    have h1 := hC.ev x
    rw [hx] at h1
    have h2 := hC.ev y
    rw [hy] at h2
    obtain ⟨h3, h4⟩ := h a0 a1 b0 b1 x y w
    refine ⟨_, ?_, rd_bool _ _ _⟩
    unfold execOp
    rw [ho]
    simp only [ag2 h1, ag2 h2, Sem.run_bind, h3, h4, Result.andThen_ok, Sem.run_pure]
def EqAg3 (P : Program) (op : BinOp) (t : TypeId) : Prop := ∀ (a0 a1 a2 b0 b1 b2 : Int) (x y : Operand) (w : World), (eqGuard op t x y (.agg #[.int .i64 a0, .int .i64 a1, .int .i64 a2]) (.agg #[.int .i64 b0, .int .i64 b1, .int .i64 b2])).run P w = .ok () w ∧ (binOp op t (.agg #[.int .i64 a0, .int .i64 a1, .int .i64 a2]) (.agg #[.int .i64 b0, .int .i64 b1, .int .i64 b2])).run P w = .ok (.bool (match op with | .neq => !((a0 == b0) && ((a1 == b1) && (a2 == b2))) | _ => ((a0 == b0) && ((a1 == b1) && (a2 == b2))))) w
theorem ag3 {ok : Nat → Prop} {σ : Nat → Loc} {w : World} {y : Value} {a0 a1 a2 : Int} (h : Rel ok σ w (.ag [Ti a0, Ti a1, Ti a2]) y) : y = (.agg #[.int .i64 a0, .int .i64 a1, .int .i64 a2]) := by
  obtain ⟨vs, rfl, hr⟩ := h
  obtain ⟨l⟩ := vs
  cases hr with
  | cons p1 q1 =>
  cases p1
  cases q1 with
  | cons p2 q2 =>
  cases p2
  cases q2 with
  | cons p3 q3 =>
  cases p3
  cases q3
  rfl
theorem Y0_eqg3 {o : Oper} {s : St} {x y : Operand} {t t2 : TypeId} {a0 a1 a2 b0 b1 b2 : Int} (h : EqAg3 P .eql t) (ho : o.op = .binOp .eql t x y t2) (hx : s.ev x = .ag [Ti a0, Ti a1, Ti a2]) (hy : s.ev y = .ag [Ti b0, Ti b1, Ti b2]) : Y0 P o s (Bo (((a0 == b0) && ((a1 == b1) && (a2 == b2))))) :=
  Y0_of_run fun ok σ a w hC => by
    have h1 := hC.ev x
    rw [hx] at h1
    have h2 := hC.ev y
    rw [hy] at h2
    obtain ⟨h3, h4⟩ := h a0 a1 a2 b0 b1 b2 x y w
    refine ⟨_, ?_, rd_bool _ _ _⟩
    unfold execOp
    rw [ho]
    simp only [ag3 h1, ag3 h2, Sem.run_bind, h3, h4, Result.andThen_ok, Sem.run_pure]
theorem Y0_neg3 {o : Oper} {s : St} {x y : Operand} {t t2 : TypeId} {a0 a1 a2 b0 b1 b2 : Int} (h : EqAg3 P .neq t) (ho : o.op = .binOp .neq t x y t2) (hx : s.ev x = .ag [Ti a0, Ti a1, Ti a2]) (hy : s.ev y = .ag [Ti b0, Ti b1, Ti b2]) : Y0 P o s (Bo (!((a0 == b0) && ((a1 == b1) && (a2 == b2))))) :=
  Y0_of_run fun ok σ a w hC => by
    have h1 := hC.ev x
    rw [hx] at h1
    have h2 := hC.ev y
    rw [hy] at h2
    obtain ⟨h3, h4⟩ := h a0 a1 a2 b0 b1 b2 x y w
    refine ⟨_, ?_, rd_bool _ _ _⟩
    unfold execOp
    rw [ho]
    simp only [ag3 h1, ag3 h2, Sem.run_bind, h3, h4, Result.andThen_ok, Sem.run_pure]
def EqAg4 (P : Program) (op : BinOp) (t : TypeId) : Prop := ∀ (a0 a1 a2 a3 b0 b1 b2 b3 : Int) (x y : Operand) (w : World), (eqGuard op t x y (.agg #[.int .i64 a0, .int .i64 a1, .int .i64 a2, .int .i64 a3]) (.agg #[.int .i64 b0, .int .i64 b1, .int .i64 b2, .int .i64 b3])).run P w = .ok () w ∧ (binOp op t (.agg #[.int .i64 a0, .int .i64 a1, .int .i64 a2, .int .i64 a3]) (.agg #[.int .i64 b0, .int .i64 b1, .int .i64 b2, .int .i64 b3])).run P w = .ok (.bool (match op with | .neq => !((a0 == b0) && ((a1 == b1) && ((a2 == b2) && (a3 == b3)))) | _ => ((a0 == b0) && ((a1 == b1) && ((a2 == b2) && (a3 == b3)))))) w
theorem ag4 {ok : Nat → Prop} {σ : Nat → Loc} {w : World} {y : Value} {a0 a1 a2 a3 : Int} (h : Rel ok σ w (.ag [Ti a0, Ti a1, Ti a2, Ti a3]) y) : y = (.agg #[.int .i64 a0, .int .i64 a1, .int .i64 a2, .int .i64 a3]) := by
  obtain ⟨vs, rfl, hr⟩ := h
  obtain ⟨l⟩ := vs
  cases hr with
  | cons p1 q1 =>
  cases p1
  cases q1 with
  | cons p2 q2 =>
  cases p2
  cases q2 with
  | cons p3 q3 =>
  cases p3
  cases q3 with
  | cons p4 q4 =>
  cases p4
  cases q4
  rfl
theorem Y0_eqg4 {o : Oper} {s : St} {x y : Operand} {t t2 : TypeId} {a0 a1 a2 a3 b0 b1 b2 b3 : Int} (h : EqAg4 P .eql t) (ho : o.op = .binOp .eql t x y t2) (hx : s.ev x = .ag [Ti a0, Ti a1, Ti a2, Ti a3]) (hy : s.ev y = .ag [Ti b0, Ti b1, Ti b2, Ti b3]) : Y0 P o s (Bo (((a0 == b0) && ((a1 == b1) && ((a2 == b2) && (a3 == b3)))))) :=
  Y0_of_run fun ok σ a w hC => by
    have h1 := hC.ev x
    rw [hx] at h1
    have h2 := hC.ev y
    rw [hy] at h2
    obtain ⟨h3, h4⟩ := h a0 a1 a2 a3 b0 b1 b2 b3 x y w
    refine ⟨_, ?_, rd_bool _ _ _⟩
    unfold execOp
    rw [ho]
    simp only [ag4 h1, ag4 h2, Sem.run_bind, h3, h4, Result.andThen_ok, Sem.run_pure]
theorem Y0_neg4 {o : Oper} {s : St} {x y : Operand} {t t2 : TypeId} {a0 a1 a2 a3 b0 b1 b2 b3 : Int} (h : EqAg4 P .neq t) (ho : o.op = .binOp .neq t x y t2) (hx : s.ev x = .ag [Ti a0, Ti a1, Ti a2, Ti a3]) (hy : s.ev y = .ag [Ti b0, Ti b1, Ti b2, Ti b3]) : Y0 P o s (Bo (!((a0 == b0) && ((a1 == b1) && ((a2 == b2) && (a3 == b3)))))) :=
  Y0_of_run fun ok σ a w hC => by
    have h1 := hC.ev x
    rw [hx] at h1
    have h2 := hC.ev y
    rw [hy] at h2
    obtain ⟨h3, h4⟩ := h a0 a1 a2 a3 b0 b1 b2 b3 x y w
    refine ⟨_, ?_, rd_bool _ _ _⟩
    unfold execOp
    rw [ho]
    simp only [ag4 h1, ag4 h2, Sem.run_bind, h3, h4, Result.andThen_ok, Sem.run_pure]
theorem gsat_C {ops : Array Oper} {o : Oper} {S : St} {j t : Nat} {b : Bool} (c : Bool) (h : o.guard = some (j, b)) (ht : (ops[j]?).bind (·.dst) = some t) (hb : S.get t = .c (.v (.bool c))) (hc : c = b) : gsat ops o S := by
  subst hc
  exact gsat_some h ht hb
theorem gun_T {ops : Array Oper} {o : Oper} {S : St} {j t : Nat} (c : Bool) (h : o.guard = some (j, true)) (ht : (ops[j]?).bind (·.dst) = some t) (hb : S.get t = .c (.v (.bool c))) (hc : c = false) : gun ops o S := by
  subst hc
  exact gun_some h ht hb (by decide)
theorem gun_F {ops : Array Oper} {o : Oper} {S : St} {j t : Nat} (c : Bool) (h : o.guard = some (j, false)) (ht : (ops[j]?).bind (·.dst) = some t) (hb : S.get t = .c (.v (.bool c))) (hc : c = true) : gun ops o S := by
  subst hc
  exact gun_some h ht hb (by decide)
theorem DE_0 {l : List Oper} {ms : List Nat} {n1 : Nat} {css : List (List Cd)} {s0 : St} {rs : List Res} {K : St → Prop} {o : Oper} {c : List Cd} (j : Nat) (av : AV) (hj : rs.length = j) (hlt : Nat.blt j n1 = true) (ho : l[j]? = some o) (hc : css[j]? = some c) (hg : gsat l.toArray o (appC c (l.take n1) rs s0))
    (hm : mentOk ms j av 0 (l.take n1) = true) (hY : Y0 P o (appC c (l.take n1) rs s0) av) (d : Nat) (hd : o.dst = some d) (h : DL P l ms n1 css s0 (rs ++ [.r0 av]) K) : DL P l ms n1 css s0 rs K := by
  subst hj
  exact DL_0 (Nat.le_of_ble_eq_true hlt) ho hc hg hm hY ⟨d, hd⟩ h
theorem DE_1 {l : List Oper} {ms : List Nat} {n1 : Nat} {css : List (List Cd)} {s0 : St} {rs : List Res} {K : St → Prop} {o : Oper} {c : List Cd} {av : AV} {ne : List (Nat × Ent)} (j : Nat) (hj : rs.length = j) (hlt : Nat.blt j n1 = true) (ho : l[j]? = some o) (hc : css[j]? = some c) (hg : gsat l.toArray o (appC c (l.take n1) rs s0))
    (hY : Y1 P o (appC c (l.take n1) rs s0) av ne) (h1 : keys8 ne = true) (h2 : makes o = true) (h3 : av.small = true) (d : Nat) (hd : o.dst = some d) (h : DL P l ms n1 css s0 (rs ++ [.r1 av ne]) K) : DL P l ms n1 css s0 rs K := by
  subst hj
  exact DL_1 (Nat.le_of_ble_eq_true hlt) ho hc hg ⟨h1, h2, h3⟩ hY ⟨d, hd⟩ h
theorem DE_b {l : List Oper} {ms : List Nat} {n1 : Nat} {css : List (List Cd)} {s0 : St} {rs : List Res} {K : St → Prop} {o : Oper} {c : List Cd} (j : Nat) (hj : rs.length = j) (hlt : Nat.blt j n1 = true) (ho : l[j]? = some o) (hc : css[j]? = some c) (hg : gun l.toArray o (appC c (l.take n1) rs s0)) (d : Nat) (hd : o.dst = some d)
    (h : DL P l ms n1 css s0 (rs ++ [.rb]) K) : DL P l ms n1 css s0 rs K := by
  subst hj
  exact DL_b (Nat.le_of_ble_eq_true hlt) ho hc hg ⟨d, hd⟩ h
theorem DE_t {l : List Oper} {ms : List Nat} {n1 : Nat} {css : List (List Cd)} {s0 : St} {rs : List Res} {K : St → Prop} {o : Oper} {c : List Cd} (j : Nat) (hj : rs.length = j) (hlt : Nat.blt j n1 = true) (ho : l[j]? = some o) (hc : css[j]? = some c) (hg : gun l.toArray o (appC c (l.take n1) rs s0)) (d : Nat) (hd : o.dst = some d)
    (h : DL P l ms n1 css s0 (rs ++ [.r0 .tn]) K) : DL P l ms n1 css s0 rs K := by
  subst hj
  exact DL_t (Nat.le_of_ble_eq_true hlt) ho hc hg ⟨d, hd⟩ h
theorem ev_le {S A : St} (h : Le S A) (x : Operand) : S.ev x = .bot ∨ S.ev x = A.ev x := by
  cases x with
  | tmp t => exact h.get t
  | const v => exact .inr rfl
  | global g => exact .inr rfl
  | func f => exact .inr rfl
theorem X_store_le {o : Oper} {S : St} {t : TypeId} {x y : Operand} {id off : Nat} {cs vc cs2 : List Tr} (ho : o.op = .store t x y) (hd : o.dst = none) (hx : S.ev x = .pt id off) (he : S.ent id = some (.box cs)) (hy : avCells (S.ev y) = some vc) (hi : (P.info? t).map (·.size) = some vc.length) (hl : off + vc.length ≤ cs.length) (hs : splice cs off vc = cs2) :
    ∀ A, Le S A → X P o A ⟨A.T, setE id (.box cs2) A.E⟩ := by
  intro A hA
  subst hs
  refine X_store ho hd ?_ (hA.ent _ _ he) ?_ hi hl
  · rcases ev_le hA x with h | h
    · rw [hx] at h; cases h
    · rw [← h]; exact hx
  · rcases ev_le hA y with h | h
    · rw [h] at hy; simp [avCells] at hy
    · rw [← h]; exact hy
theorem DE_2 {l : List Oper} {ms : List Nat} {n1 : Nat} {css : List (List Cd)} {s0 : St} {rs : List Res} {K : St → Prop} {o : Oper} {c : List Cd} {t : TypeId} {x y : Operand} {off : Nat} {cs vc : List Tr} (j id : Nat) (cs2 : List Tr) (hj : rs.length = j) (hlt : Nat.blt j n1 = true) (ho : l[j]? = some o) (hc : css[j]? = some c) (hg : gsat l.toArray o (appC c (l.take n1) rs s0))
    (hop : o.op = .store t x y) (hd : o.dst = none) (hx : (appC c (l.take n1) rs s0).ev x = .pt id off) (he : (appC c (l.take n1) rs s0).ent id = some (.box cs)) (hy : avCells ((appC c (l.take n1) rs s0).ev y) = some vc) (hi : (P.info? t).map (·.size) = some vc.length) (hl : off + vc.length ≤ cs.length) (hs : splice cs off vc = cs2)
    (h1 : colOk j id css = true) (h2 : mkOk ms j id 0 (l.take n1) = true) (h3 : freshW id rs = true) (h : DL P l ms n1 css s0 (rs ++ [.r2 id (.box cs2)]) K) : DL P l ms n1 css s0 rs K := by
  subst hj
  exact DL_2 (Nat.le_of_ble_eq_true hlt) ho hc hg (X_store_le hop hd hx he hy hi hl hs) hd h1 h2 h3 h
theorem DL_split {l : List Oper} {ms : List Nat} {n1 : Nat} {css : List (List Cd)} {s0 : St} {rs : List Res} {K : St → Prop} (c : Bool) (h1 : c = true → DL P l ms n1 css s0 rs K) (h2 : c = false → DL P l ms n1 css s0 rs K) : DL P l ms n1 css s0 rs K := by
  cases c with
  | true => exact h1 rfl
  | false => exact h2 rfl
theorem Y0_max {o : Oper} {s : St} {x y : Operand} {t : Array TypeId} {a b : Int} (ho : o.op = .call { callee := .builtin .max, args := #[x, y], argTypes := t }) (hx : s.ev x = .c (.v (.int .i64 a))) (hy : s.ev y = .c (.v (.int .i64 b))) : Y0 P o s (I (mxI a b)) :=
  Y0_of_run fun ok σ ac w hC => by
    refine ⟨_, ?_, rd_int _ _ _ _⟩
    unfold execOp
    rw [ho]
    have h1 := hC.exact hx
    have h2 := hC.exact hy
    have h3 := run_max_int2 (P := P) w t o.type .i64 .i64 a b
    have e : mxI a b = (if b > a then b else a) := by
      rw [mxI, ltI_eq]
      by_cases h : a < b <;> simp [h]
    rw [e]
    simp [resolve, invoke, builtin, h1, h2, h3]
theorem Y0_min {o : Oper} {s : St} {x y : Operand} {t : Array TypeId} {a b : Int} (ho : o.op = .call { callee := .builtin .min, args := #[x, y], argTypes := t }) (hx : s.ev x = .c (.v (.int .i64 a))) (hy : s.ev y = .c (.v (.int .i64 b))) : Y0 P o s (I (mnI a b)) :=
  Y0_of_run fun ok σ ac w hC => by
    refine ⟨_, ?_, rd_int _ _ _ _⟩
    unfold execOp
    rw [ho]
    have h1 := hC.exact hx
    have h2 := hC.exact hy
    have h3 := run_min_int2 (P := P) w t o.type .i64 .i64 a b
    have e : mnI a b = (if b < a then b else a) := by
      rw [mnI, ltI_eq]
      by_cases h : b < a <;> simp [h]
    rw [e]
    simp [resolve, invoke, builtin, h1, h2, h3]
theorem rep_flat (l : List Tr) : ∀ (n j : Nat), j < n * l.length → (List.replicate n l).flatten[j]? = l[j % l.length]?
  | 0, j, h => by simp at h
  | n + 1, j, h => by
    rw [List.replicate_succ, List.flatten_cons]
    rcases Nat.lt_or_ge j l.length with h1 | h1
    · rw [List.getElem?_append_left h1, Nat.mod_eq_of_lt h1]
    · rw [List.getElem?_append_right h1, rep_flat l n (j - l.length) (by rw [Nat.add_mul] at h; omega), ← Nat.mod_eq_sub_mod h1]
theorem made_rd (ok : Nat → Prop) (w : World) {z : Array Value} (hz : cellsAll z = true) (n m : Nat) (hnm : n ≤ m) (hpos : 0 < z.size) : RdL ok w (List.replicate n (z.toList.map Tr.v)).flatten ((madeCells z (m * z.size)).toList.take (n * z.size)) := by
  have hl : (z.toList.map Tr.v).length = z.size := by simp
  have hle : n * z.size ≤ m * z.size := Nat.mul_le_mul_right _ hnm
  refine RdL.mk ?_ fun j t ht => ?_
  · rw [flatten_len _ z.size (fun e he => by rw [(List.mem_replicate.1 he).2]; exact hl)]
    simp [size_madeCells]
    rw [Nat.min_eq_left hnm]
  · have hj : j < n * z.size := by
      rcases Nat.lt_or_ge j (n * z.size) with h | h
      · exact h
      · rw [List.getElem?_eq_none (by rw [flatten_len _ z.size (fun e he => by rw [(List.mem_replicate.1 he).2]; exact hl)]; simpa using h)] at ht
        cases ht
    rw [rep_flat _ n j (by rw [hl]; exact hj), hl, List.getElem?_map] at ht
    have hmod : j % z.size < z.size := Nat.mod_lt _ hpos
    have hzj : z.toList[j % z.size]? = some z[j % z.size] := by
      rw [Array.getElem?_toList]
      exact Array.getElem?_eq_getElem hmod
    rw [hzj] at ht
    injection ht with ht
    subst ht
    refine ⟨z[j % z.size], ?_, Rd.v _ ((List.all_eq_true.1 hz) _ (by simp))⟩
    rw [List.getElem?_take, if_pos hj]
    unfold madeCells
    rw [Array.toList_map, List.getElem?_map]
    have : (Array.range (m * z.size)).toList[j]? = some j := by
      rw [Array.getElem?_toList, Array.getElem?_range]
      simp
      omega
    rw [this]
    simp [hmod]
theorem Y1_make {α : Type} {c : α → List Tr} {zx : α} {o : Oper} {s : St} {t e sz bytes : Nat} {z : Value} {x y : Operand} {l k : Int} (ht : P.underlying t = some (.slice e)) (hi : (P.info? e).map (fun i => (i.zero, i.size, i.bytes)) = some (some z, sz, bytes)) (hz : cellsAll z.cells = true) (hzs : z.cells.size = sz) (hsz : 0 < sz)
    (hc : z.cells.toList.map Tr.v = c zx) (ho : o.op = .makeSlice t x y) (hx : s.ev x = .c (.v (.int .i64 l))) (hy : s.ev y = .c (.v (.int .i64 k))) (hr : 0 ≤ l ∧ l ≤ k ∧ k ≤ 1099511627776) (hby : bytes ≤ 128) : Y1 P o s (.ow 0) [(0, .arr e sz ((List.replicate l.toNat zx).map c))] :=
  Y1_of_run fun ok σ a w hC => by
    obtain ⟨h0, h1, h2⟩ := hr
    cases hii : P.info? e with
    | none => rw [hii] at hi; simp at hi
    | some i =>
      have hi2 : i.zero = some z ∧ i.size = sz ∧ i.bytes = bytes := by rw [hii] at hi; simpa using hi
      have hbytes : (i.bytes : Int) * k ≤ 281474976710656 := by
        rw [hi2.2.2]
        have h3 : bytes * k.toNat ≤ 128 * 1099511627776 := Nat.mul_le_mul hby (by omega)
        have h4 : ((bytes * k.toNat : Nat) : Int) = (bytes : Int) * k := by rw [Int.natCast_mul, Int.toNat_of_nonneg (by omega)]
        omega
      have hrun := run_make (P := P) w t e i z ht hii hi2.1 .i64 .i64 l k h0 h1 hbytes (by omega)
      rw [hi2.2.1] at hrun
      have hmap : (List.replicate l.toNat zx).map c = List.replicate l.toNat (z.cells.toList.map Tr.v) := by rw [List.map_replicate, hc]
      have hw : ∀ g, ok g → (w.alloc (.cells (madeCells z.cells (k.toNat * sz)) e)).heap[g]? = w.heap[g]? := fun g hg => Below.heap_alloc _ _ _ (hC.okL g hg)
      have hlz : (z.cells.toList.map Tr.v).length = sz := by simp [hzs]
      refine ⟨.slice (some ⟨w.heap.size, 0, none⟩) l.toNat k.toNat, w.alloc (.cells (madeCells z.cells (k.toNat * sz)) e), fun _ => ⟨some w.heap.size, l.toNat, k.toNat⟩, ?_, ⟨(Below.refl _ _).alloc (Nat.le_refl _) _, fun _ h => h, fun _ h => .inl h, fun g hg => by have := hC.okL g hg; simp; omega, rfl, fun id e he => ?_, fun e he => ?_, fun id e he => ?_, fun id e g he hg => ?_, fun i j e f g hi hj _ _ => ?_, fun id e he => by obtain ⟨_, q2⟩ := look_one _ _ _ _ he; subst q2; rfl⟩⟩
      · unfold execOp
        rw [ho]
        simp only [hC.exact hx, hC.exact hy, Sem.run_bind, hrun, Result.andThen_ok, Sem.run_pure]
      · obtain ⟨h1, _⟩ := look_one _ _ _ _ he; omega
      · show (0 / 8 == e) = false
        rw [beq_eq_false_iff_ne]; omega
      · obtain ⟨q1, q2⟩ := look_one _ _ _ _ he
        subst q2
        rw [hmap]
        refine ⟨hsz, by simp, fun el hel => by rw [(List.mem_replicate.1 hel).2]; exact hlz, (madeCells z.cells (k.toNat * sz)).toList.take (l.toNat * sz), ⟨?_, .inr ⟨w.heap.size, k.toNat, madeCells z.cells (k.toNat * sz), by simp [ownVal], Nat.zero_le _, heap_alloc_new w _, by simp; omega, by unfold maxLen; omega, size_madeCells _ _, by simp⟩⟩, ?_⟩
        · have : l.toNat * sz ≤ k.toNat * sz := Nat.mul_le_mul_right _ (by omega)
          simp [size_madeCells]
          rw [Nat.min_eq_left (by omega : l.toNat ≤ k.toNat)]
        · have := made_rd ok w hz l.toNat k.toNat (by omega) (by omega)
          rw [hzs] at this
          exact this.mono (fun _ h => h) hw
      · have e1 : w.heap.size = g := by simpa using hg
        subst e1
        exact ⟨Nat.le_refl _, fun hg2 => by have := hC.okL _ hg2; omega, by simp⟩
      · obtain ⟨h1, _⟩ := look_one _ _ _ _ hi
        obtain ⟨h2, _⟩ := look_one _ _ _ _ hj
        omega
theorem flatM {α : Type} {c : α → List Tr} (hc : ∀ x, (c x).all Tr.flat = true) : ∀ (xs : List α), (xs.map c).flatten.all Tr.flat = true
  | [] => rfl
  | x :: xs => by
    rw [List.map_cons, List.flatten_cons, List.all_append, hc x, flatM hc xs]
    rfl
theorem flatE_cons {α : Type} {c : α → List Tr} {xs : List α} {k T sz : Nat} {ne : List (Nat × Ent)} (hc : ∀ x, (c x).all Tr.flat = true) (h : flatE ne = true) : flatE ((k, .arr T sz (xs.map c)) :: ne) = true := by
  simp only [flatE, flatM hc, h, Bool.and_self]

/-! ### From a law said by trees to the walk that the row's frame wants -/
theorem calls_law {f : FuncId} {args : List AV} {vs : List Value} {w : World} (hS : CallS P f args (Bo true) []) (hv : RelA (fun g => g < w.heap.size) (fun _ => loc0) w args vs) (hl : Lb (fun g => g < w.heap.size) w := by intro p hp; simp [TB] at hp) : Calls P f vs.toArray w fun e w' => e = .returned (.bool true) ∧ Below w.heap.size w w' := by
  refine (hS (fun g => g < w.heap.size) (fun _ => loc0) w vs (fun _ h => h) hl hv).mono ?_
  rintro e w' ⟨v, ok', σ', rfl, hn⟩
  have h := hn.rel
  have h2 : Rd ok' w' (.v (.bool true)) v := h
  cases h2
  exact ⟨rfl, hn.below⟩
theorem relA_int {ok : Nat → Prop} {σ : Nat → Loc} {w : World} {args : List AV} {vs : List Value} (n : Int) (h : RelA ok σ w args vs) : RelA ok σ w (I n :: args) (.int .i64 n :: vs) := .cons (rd_int _ _ _ _) h
end
end Go.Proofs.YtnheekadeflecaaGreat
