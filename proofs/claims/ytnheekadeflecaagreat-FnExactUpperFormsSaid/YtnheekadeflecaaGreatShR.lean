/-
  Typed rules and words for what a function computes.
  Conditions: none.
-/
import Derived.Test.YtnheekadeflecaaGreatShQ
namespace Go.Proofs.YtnheekadeflecaaGreat
open Go.RowKit
set_option linter.unusedSimpArgs false
set_option linter.unusedVariables false

/-! ### Words for what a program printed from the Go text computes -/
theorem wrap64_in {n : Int} (h : n.natAbs < 9223372036854775808) : IntKind.i64.wrap n = n := by
  rw [IntKind.wrap_i64]
  omega
def w64 : Int → Int
  | .ofNat m => bif Nat.blt m 9223372036854775808 then .ofNat m else IntKind.i64.wrap (.ofNat m)
  | .negSucc m => bif Nat.blt m 9223372036854775807 then .negSucc m else IntKind.i64.wrap (.negSucc m)
theorem w64_eq : (n : Int) → w64 n = IntKind.i64.wrap n
  | .ofNat m => by
    show (bif Nat.blt m 9223372036854775808 then Int.ofNat m else IntKind.i64.wrap (.ofNat m)) = _
    cases h : Nat.blt m 9223372036854775808 with
    | false => exact cond_false _ _
    | true =>
      rw [cond_true]
      exact (wrap64_in (by have := Nat.ble_eq.mp (show Nat.ble (m + 1) 9223372036854775808 = true from h); rw [Int.natAbs_ofNat']; omega)).symm
  | .negSucc m => by
    show (bif Nat.blt m 9223372036854775807 then Int.negSucc m else IntKind.i64.wrap (.negSucc m)) = _
    cases h : Nat.blt m 9223372036854775807 with
    | false => exact cond_false _ _
    | true =>
      rw [cond_true]
      exact (wrap64_in (by have := Nat.ble_eq.mp (show Nat.ble (m + 1) 9223372036854775807 = true from h); rw [Int.natAbs_negSucc]; omega)).symm
theorem w64_in {n : Int} (h : -9223372036854775808 ≤ n ∧ n ≤ 9223372036854775807) : w64 n = n := by
  rw [w64_eq, IntKind.wrap_i64]
  omega
def FU : Nat := 1000000000
def ltI : Int → Int → Bool
  | .ofNat a, .ofNat b => Nat.blt a b
  | .ofNat _, .negSucc _ => false
  | .negSucc _, .ofNat _ => true
  | .negSucc a, .negSucc b => Nat.blt b a
def leI : Int → Int → Bool
  | .ofNat a, .ofNat b => Nat.ble a b
  | .ofNat _, .negSucc _ => false
  | .negSucc _, .ofNat _ => true
  | .negSucc a, .negSucc b => Nat.ble b a
theorem ltI_eq (a b : Int) : ltI a b = decide (a < b) := by
  rw [Bool.eq_iff_iff, decide_eq_true_iff]
  cases a <;> cases b <;> simp only [ltI, Nat.blt, Nat.ble_eq, Bool.false_eq_true, false_iff, true_iff, Int.ofNat_eq_natCast] <;> omega
theorem leI_eq (a b : Int) : leI a b = decide (a ≤ b) := by
  rw [Bool.eq_iff_iff, decide_eq_true_iff]
  cases a <;> cases b <;> simp only [leI, Nat.ble_eq, Bool.false_eq_true, false_iff, true_iff, Int.ofNat_eq_natCast] <;> omega
def mxI (a b : Int) : Int := bif ltI a b then b else a
def mnI (a b : Int) : Int := bif ltI b a then b else a
def getI {α : Type} (xs : List α) (i : Int) : Option α := bif leI 0 i then xs[i.toNat]? else none
theorem getI_some {α : Type} {xs : List α} {i : Int} {x : α} (h : getI xs i = some x) : 0 ≤ i ∧ xs[i.toNat]? = some x := by
  unfold getI at h
  rw [leI_eq] at h
  cases hd : decide (0 ≤ i) with
  | false => rw [hd] at h; cases h
  | true =>
    rw [hd] at h
    exact ⟨by simpa using hd, h⟩
def eqI : Int → Int → Bool
  | .ofNat a, .ofNat b => Nat.beq a b
  | .ofNat _, .negSucc _ => false
  | .negSucc _, .ofNat _ => false
  | .negSucc a, .negSucc b => Nat.beq a b
theorem eqI_eq (a b : Int) : eqI a b = (a == b) := by
  rw [Bool.eq_iff_iff, beq_iff_eq]
  cases a <;> cases b <;> simp only [eqI, Nat.beq_eq, Bool.false_eq_true, false_iff, Int.ofNat_eq_natCast] <;> omega
def shrI (k : IntKind) (a b : Int) : Int := a.fdiv (2 ^ (min b.toNat k.bits))
def shlI (k : IntKind) (a b : Int) : Int := k.wrap (a * 2 ^ (min b.toNat k.bits))
def andI (k : IntKind) (a b : Int) : Int := k.wrap (BitVec.ofInt k.bits a &&& BitVec.ofInt k.bits b).toNat
def orI (k : IntKind) (a b : Int) : Int := k.wrap (BitVec.ofInt k.bits a ||| BitVec.ofInt k.bits b).toNat
def xorI (k : IntKind) (a b : Int) : Int := k.wrap (BitVec.ofInt k.bits a ^^^ BitVec.ofInt k.bits b).toNat
def slc (n : Nat) (l h : Int) : Option Unit := bif leI 0 l && (leI l h && leI h n) then some () else none
def subl {α : Type} (xs : List α) (l h : Int) : List α := (xs.drop l.toNat).take (h.toNat - l.toNat)
def nz (b : Int) : Option Unit := bif eqI b 0 then none else some ()
theorem nz_some {b : Int} {u : Unit} (h : nz b = some u) : b ≠ 0 := by
  unfold nz at h
  intro e
  subst e
  cases h
def mk (l c : Int) : Option Unit := bif leI 0 l && (leI l c && leI c 1099511627776) then some () else none
theorem mk_some {l c : Int} {u : Unit} (h : mk l c = some u) : 0 ≤ l ∧ l ≤ c ∧ c ≤ 1099511627776 := by
  unfold mk at h
  cases hb : (leI 0 l && (leI l c && leI c 1099511627776)) with
  | false => rw [hb] at h; cases h
  | true => simpa [leI_eq] using hb
def room (n : Nat) : Option Unit := bif Nat.ble n 1099511627776 then some () else none
theorem room_some {n : Nat} {u : Unit} (h : room n = some u) : n ≤ 1099511627776 := by
  unfold room at h
  cases hb : Nat.ble n 1099511627776 with
  | false => rw [hb] at h; cases h
  | true => exact Nat.le_of_ble_eq_true hb
theorem of_bind {α β : Type} {x : Option α} {f : α → Option β} {r : β} (h : x.bind f = some r) : ∃ y, x = some y ∧ f y = some r := by
  cases x with
  | none => cases h
  | some y => exact ⟨y, rfl, h⟩
def fN {α : Type} (m : Nat) (f : Nat → α) : α := Nat.casesOn (motive := fun _ => α) m (f 0) (fun k => f (k + 1))
theorem fN_eq {α : Type} (m : Nat) (f : Nat → α) : fN m f = f m := by cases m <;> rfl
/-- a whole number is worked out before it is handed on -/
def sI {α : Type} (x : Int) (f : Int → α) : α := Int.casesOn (motive := fun _ => α) x (fun m => fN m fun m => f (.ofNat m)) (fun m => fN m fun m => f (.negSucc m))
theorem sI_eq {α : Type} (x : Int) (f : Int → α) : sI x f = f x := by
  cases x with
  | ofNat m => exact fN_eq m (fun m => f (.ofNat m))
  | negSucc m => exact fN_eq m (fun m => f (.negSucc m))
theorem of_sI {β : Type} {x : Int} {f : Int → Option β} {r : β} (h : sI x f = some r) : ∃ y, x = y ∧ f y = some r := ⟨x, rfl, by rw [← sI_eq x f]; exact h⟩
theorem of_true {α : Type} {c : Bool} {x y : Option α} {r : α} (h : (bif c then x else y) = some r) (hc : c = true) : x = some r := by
  subst hc; exact h
theorem of_false {α : Type} {c : Bool} {x y : Option α} {r : α} (h : (bif c then x else y) = some r) (hc : c = false) : y = some r := by
  subst hc; exact h
theorem some_inj {α : Type} {x y : α} (h : some x = some y) : x = y := by injection h

section
variable {P : Program}
@[reducible] def I (n : Int) : AV := .c (.v (.int .i64 n))
@[reducible] def Bo (b : Bool) : AV := .c (.v (.bool b))
@[reducible] def Ti (n : Int) : Tr := .v (.int .i64 n)
@[reducible] def Tb (b : Bool) : Tr := .v (.bool b)
theorem Y0_add64 {o : Oper} {s : St} {x y : Operand} {t t2 : TypeId} {a b : Int} (ho : o.op = .binOp .add t x y t2) (hx : s.ev x = .c (.v (.int .i64 a))) (hy : s.ev y = .c (.v (.int .i64 b))) : Y0 P o s (I (w64 (a + b))) := by
  rw [w64_eq]; exact Y0_add ho hx hy
theorem Y0_sub64 {o : Oper} {s : St} {x y : Operand} {t t2 : TypeId} {a b : Int} (ho : o.op = .binOp .sub t x y t2) (hx : s.ev x = .c (.v (.int .i64 a))) (hy : s.ev y = .c (.v (.int .i64 b))) : Y0 P o s (I (w64 (a - b))) := by
  rw [w64_eq]; exact Y0_sub ho hx hy
theorem Y0_mul64 {o : Oper} {s : St} {x y : Operand} {t t2 : TypeId} {a b : Int} (ho : o.op = .binOp .mul t x y t2) (hx : s.ev x = .c (.v (.int .i64 a))) (hy : s.ev y = .c (.v (.int .i64 b))) : Y0 P o s (I (w64 (a * b))) := by
  rw [w64_eq]; exact Y0_mul ho hx hy
theorem Y0_quo64 {o : Oper} {s : St} {x y : Operand} {t t2 : TypeId} {a b : Int} (ho : o.op = .binOp .quo t x y t2) (hx : s.ev x = .c (.v (.int .i64 a))) (hy : s.ev y = .c (.v (.int .i64 b))) (h0 : b ≠ 0) : Y0 P o s (I (w64 (a.tdiv b))) := by
  rw [w64_eq]; exact Y0_quo ho hx hy h0
theorem Y0_neg64 {o : Oper} {s : St} {x : Operand} {t : TypeId} {a : Int} (ho : o.op = .unOp .neg t x) (hx : s.ev x = .c (.v (.int .i64 a))) : Y0 P o s (I (w64 (0 - a))) := by
  rw [w64_eq]; exact Y0_neg ho hx
theorem Y0_ltw {o : Oper} {s : St} {x y : Operand} {t t2 : TypeId} {k : IntKind} {a b : Int} (ho : o.op = .binOp .lss t x y t2) (hx : s.ev x = .c (.v (.int k a))) (hy : s.ev y = .c (.v (.int k b))) : Y0 P o s (Bo (ltI a b)) := by
  rw [ltI_eq]; exact Y0_lt ho hx hy
theorem Y0_lew {o : Oper} {s : St} {x y : Operand} {t t2 : TypeId} {k : IntKind} {a b : Int} (ho : o.op = .binOp .leq t x y t2) (hx : s.ev x = .c (.v (.int k a))) (hy : s.ev y = .c (.v (.int k b))) : Y0 P o s (Bo (leI a b)) := by
  rw [leI_eq]; exact Y0_le ho hx hy
theorem Y0_gtw {o : Oper} {s : St} {x y : Operand} {t t2 : TypeId} {k : IntKind} {a b : Int} (ho : o.op = .binOp .gtr t x y t2) (hx : s.ev x = .c (.v (.int k a))) (hy : s.ev y = .c (.v (.int k b))) : Y0 P o s (Bo (ltI b a)) := by
  rw [ltI_eq]; exact Y0_gt ho hx hy
theorem Y0_gew {o : Oper} {s : St} {x y : Operand} {t t2 : TypeId} {k : IntKind} {a b : Int} (ho : o.op = .binOp .geq t x y t2) (hx : s.ev x = .c (.v (.int k a))) (hy : s.ev y = .c (.v (.int k b))) : Y0 P o s (Bo (leI b a)) := by
  rw [leI_eq]; exact Y0_ge ho hx hy
theorem Y0_eqw {o : Oper} {s : St} {x y : Operand} {t t2 : TypeId} {k : IntKind} {a b : Int} (ho : o.op = .binOp .eql t x y t2) (hx : s.ev x = .c (.v (.int k a))) (hy : s.ev y = .c (.v (.int k b))) : Y0 P o s (Bo (eqI a b)) := by
  rw [eqI_eq]; exact Y0_eq ho hx hy
theorem Y0_new {o : Oper} {s : St} {x y : Operand} {t t2 : TypeId} {k : IntKind} {a b : Int} (ho : o.op = .binOp .neq t x y t2) (hx : s.ev x = .c (.v (.int k a))) (hy : s.ev y = .c (.v (.int k b))) : Y0 P o s (Bo (!eqI a b)) := by
  rw [eqI_eq]; exact Y0_ne ho hx hy
theorem Y0_pickb {o : Oper} {s : St} {c x y : Operand} {b p q : Bool} (ho : o.op = .pick c x y) (hc : s.ev c = .c (.v (.bool b))) (hx : s.ev x = .c (.v (.bool p))) (hy : s.ev y = .c (.v (.bool q))) : Y0 P o s (Bo (bif b then p else q)) := by
  have h := Y0_pick (P := P) ho hc
  cases b with
  | true => rw [cond_true, hx] at h; exact h
  | false => rw [cond_false, hy] at h; exact h
theorem Y0_pickt {o : Oper} {s : St} {c x y : Operand} (ho : o.op = .pick c x y) (hc : s.ev c = .c (.v (.bool true))) : Y0 P o s (s.ev x) := Y0_pick (P := P) ho hc
theorem Y0_pickf {o : Oper} {s : St} {c x y : Operand} (ho : o.op = .pick c x y) (hc : s.ev c = .c (.v (.bool false))) : Y0 P o s (s.ev y) := Y0_pick (P := P) ho hc
theorem Y0_lenM {α : Type} {c : α → List Tr} {xs : List α} {o : Oper} {s : St} {x : Operand} {t e : TypeId} (hu : P.underlying t = some (.slice e)) (ho : o.op = .call { callee := .builtin .len, args := #[x], argTypes := #[t] }) (hx : sliceEls s (s.ev x) = some (xs.map c)) : Y0 P o s (I (xs.length : Int)) := by
  have h := Y0_len (P := P) hu ho hx
  rw [List.length_map] at h
  exact h
theorem Y0_idxM {α : Type} {c : α → List Tr} {xs : List α} {v : α} {o : Oper} {s : St} {t e : TypeId} {x ix : Operand} {n : Int} (hu : P.underlying t = some (.slice e)) (hsz : (P.info? e).map (·.size) = some (c v).length) (ho : o.op = .indexAddr t x ix) (hx : s.ev x = .c (.sl (xs.map c))) (hi : s.ev ix = .c (.v (.int .i64 n)))
    (he : getI xs n = some v) : Y0 P o s (.pe (c v)) := by
  obtain ⟨h1, h2⟩ := getI_some he
  exact Y0_idx hu ⟨_, hsz, rfl⟩ ho hx hi h1 (by rw [List.getElem?_map, h2]; rfl)
theorem Y0_idxoM {α : Type} {c : α → List Tr} {xs : List α} {v : α} {o : Oper} {s : St} {t e : TypeId} {x ix : Operand} {id T sz : Nat} {n : Int} (hu : P.underlying t = some (.slice e)) (hsz : (P.info? e).map (·.size) = some sz) (ho : o.op = .indexAddr t x ix) (hx : s.ev x = .ow id) (he : s.entc id = some (.arr T sz (xs.map c)))
    (hi : s.ev ix = .c (.v (.int .i64 n))) (hv : getI xs n = some v) : Y0 P o s (.po id sz n.toNat 0) := by
  obtain ⟨h1, h2⟩ := getI_some hv
  refine Y0_idxo hu hsz ho hx he hi h1 ?_
  rw [List.length_map]
  rcases Nat.lt_or_ge n.toNat xs.length with h | h
  · exact h
  · rw [List.getElem?_eq_none h] at h2; cases h2
theorem memM {α : Type} {c : α → List Tr} {xs : List α} {v : α} {s : St} {id sz T off : Nat} {n : Int} (he : s.entc id = some (.arr T sz (xs.map c))) (hv : getI xs n = some v) : memCells s (.po id sz n.toNat off) = some ((c v).drop off) := by
  obtain ⟨h1, h2⟩ := getI_some hv
  unfold memCells
  simp [he, h2]
theorem Y0_loado1 {α : Type} {c : α → List Tr} {xs : List α} {v : α} {o : Oper} {s : St} {t : TypeId} {x : Operand} {id sz T off : Nat} {n : Int} {d : Tr} {ds : List Tr} (hs : scalar P t) (ho : o.op = .load t x) (hx : s.ev x = .po id sz n.toNat off) (he : s.entc id = some (.arr T sz (xs.map c))) (hv : getI xs n = some v)
    (hd : (c v).drop off = d :: ds) : Y0 P o s (.c d) :=
  Y0_load1 hs ho (by rw [hx, memM he hv, hd])
theorem Y0_loadon {α : Type} {c : α → List Tr} {xs : List α} {v : α} {o : Oper} {s : St} {t : TypeId} {x : Operand} {id sz T off m : Nat} {n : Int} {cs : List Tr} (hs : wide P t m) (ho : o.op = .load t x) (hx : s.ev x = .po id sz n.toNat off) (he : s.entc id = some (.arr T sz (xs.map c))) (hv : getI xs n = some v)
    (hd : (c v).drop off = cs) (hm : m ≤ cs.length) : Y0 P o s (.ag (cs.take m)) :=
  Y0_loadn hs ho (by rw [hx, memM he hv, hd]) hm
theorem X_appendM {α : Type} {c : α → List Tr} {xs ys : List α} {o : Oper} {s : St} {x y : Operand} {t e d id sz bytes : Nat} {z : Value} (ho : o.op = .call { callee := .builtin .append, args := #[x, y], argTypes := #[t, t] }) (hd : o.dst = some d) (ht : P.underlying t = some (.slice e))
    (hi : (P.info? e).map (fun i => (i.zero, i.size, i.bytes)) = some (some z, sz, bytes)) (hzs : z.cells.size = sz) (hx : s.ev x = .ow id) (he : s.ent id = some (.arr e sz (xs.map c))) (hy : sliceEls s (s.ev y) = some (ys.map c)) (hc : ∀ v, (c v).length = sz) (hne : ys ≠ [])
    (hr : xs.length + ys.length ≤ 1099511627776) (hby : bytes ≤ 128) : X P o s ⟨(killI id s.T).set d (.ow id), setE id (.arr e sz ((xs ++ ys).map c)) s.E⟩ := by
  rw [List.map_append]
  refine X_append ho hd ht hi hzs hx he hy (fun el hel => ?_) (by simpa using hne) (by simpa using hr) hby
  obtain ⟨v, _, rfl⟩ := List.mem_map.1 hel
  exact hc v
theorem X_storeoM {α : Type} {c : α → List Tr} {xs : List α} {v u : α} {o : Oper} {s : St} {t : TypeId} {x y : Operand} {id sz off T0 : Nat} {n : Int} {vc : List Tr} (ho : o.op = .store t x y) (hd : o.dst = none) (hx : s.ev x = .po id sz n.toNat off) (he : s.ent id = some (.arr T0 sz (xs.map c))) (hv : getI xs n = some v)
    (hy : avCells (s.ev y) = some vc) (hi : (P.info? t).map (·.size) = some vc.length) (hl : off + vc.length ≤ (c v).length) (hu : splice (c v) off vc = c u) : X P o s ⟨s.T, setE id (.arr T0 sz ((xs.set n.toNat u).map c)) s.E⟩ := by
  obtain ⟨h1, h2⟩ := getI_some hv
  rw [List.map_set, ← hu]
  exact X_storeo ho hd hx he (by rw [List.getElem?_map, h2]; rfl) hy hi hl
theorem X_storeopM {l : Loc} {α : Type} {c : α → List Tr} {xs : List α} {v u : α} {o : Oper} {s : St} {t : TypeId} {x y : Operand} {id sz off T0 : Nat} {n : Int} {vc : List Tr} (ho : o.op = .store t x y) (hd : o.dst = none) (hx : s.ev x = .po id sz n.toNat off) (he : s.ent id = some (.parr l T0 sz (xs.map c))) (hv : getI xs n = some v)
    (hy : avCells (s.ev y) = some vc) (hi : (P.info? t).map (·.size) = some vc.length) (hl : off + vc.length ≤ (c v).length) (hu : splice (c v) off vc = c u) : X P o s ⟨s.T, setE id (.parr l T0 sz ((xs.set n.toNat u).map c)) s.E⟩ := by
  obtain ⟨h1, h2⟩ := getI_some hv
  rw [List.map_set, ← hu]
  exact X_storeop ho hd hx he (by rw [List.getElem?_map, h2]; rfl) hy hi hl

/-! ### Pieces of code in a row -/
theorem V_sr {id : Nat} {ops : Array Oper} {y : Code} {s : St} {J : Exit → St → Prop} (h : XL P ops ops.toList s (fun s' => V P y s' J)) : V P (.seq (.region id ops false) y) s J := V_seq (V_region h)
def keepT : List Bool → List AV → List AV
  | b :: bs, x :: xs => (bif b then x else .bot) :: keepT bs xs
  | _, _ => []
def keepE (ids : List Nat) : List (Nat × Ent) → List (Nat × Ent)
  | [] => []
  | p :: ps => bif ids.elem p.1 then p :: keepE ids ps else keepE ids ps
def St.keep (s : St) (m : List Bool) (ids : List Nat) : St := ⟨keepT m s.T, keepE ids s.E⟩
theorem keepT_get : ∀ (m : List Bool) (T : List AV) (t : Nat), ((keepT m T)[t]?).getD .bot = .bot ∨ ((keepT m T)[t]?).getD .bot = (T[t]?).getD .bot
  | [], T, t => by simp [keepT]
  | _ :: _, [], t => by simp [keepT]
  | b :: bs, x :: xs, 0 => by cases b <;> simp [keepT]
  | b :: bs, x :: xs, t + 1 => by simpa [keepT] using keepT_get bs xs t
theorem keepT_len : ∀ (m : List Bool) (T : List AV), (keepT m T).length ≤ T.length
  | [], T => by simp [keepT]
  | _ :: _, [] => by simp [keepT]
  | b :: bs, x :: xs => by simpa [keepT] using keepT_len bs xs
theorem keepE_look (ids : List Nat) : ∀ (E : List (Nat × Ent)) (id : Nat) (e : Ent), (keepE ids E).lookup id = some e → ids.elem id = true ∧ E.lookup id = some e
  | [], id, e, h => by simp [keepE] at h
  | (p1, p2) :: ps, id, e, h => by
    simp only [keepE] at h
    cases hb : ids.elem p1 with
    | true =>
      rw [hb] at h
      simp only [cond_true, List.lookup] at h ⊢
      split
      · rename_i hq
        rw [hq] at h
        have : id = p1 := by simpa using hq
        subst this
        exact ⟨hb, h⟩
      · rename_i hq; rw [hq] at h; exact keepE_look ids ps id e h
    | false =>
      rw [hb] at h
      obtain ⟨h0, h1⟩ := keepE_look ids ps id e h
      refine ⟨h0, ?_⟩
      simp only [List.lookup]
      split
      · rename_i hq
        have : id = p1 := by simpa using hq
        subst this
        rw [hb] at h0
        cases h0
      · exact h1
theorem keep_le (m : List Bool) (ids : List Nat) (s : St) : Le (s.keep m ids) s :=
  ⟨keepT_len m s.T, fun t => keepT_get m s.T t, fun id e h => (keepE_look ids s.E id e h).2⟩
theorem V_keep (m : List Bool) (ids : List Nat) {c : Code} {s s' : St} {J : Exit → St → Prop} (h : s.keep m ids = s') (hv : V P c s' J) : V P c s J := by
  subst h
  exact V_le (keep_le m ids s) hv
end
end Go.Proofs.YtnheekadeflecaaGreat
