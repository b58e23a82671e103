/-
  Operations that are worked out by the checker itself: one line for a row of them.
  Conditions: none.
-/
import Derived.Test.YtnheekadeflecaaGreatShZ
namespace Go.Proofs.YtnheekadeflecaaGreat
open Go.RowKit
set_option linter.unusedSimpArgs false
set_option linter.unusedVariables false
/-- A closed fact, by the kernel. -/
theorem kk {p : Prop} (h : p := by kernel_rfl) : p := h

section
variable (P : Program)
def nbA : AV → Option AV
  | .bot => none
  | av => some av
def xbin (op : BinOp) : AV → AV → Option AV
  | .c (.v (.int .i64 a)), .c (.v (.int .i64 b)) => match op with
    | .add => some (I (w64 (a + b)))
    | .sub => some (I (w64 (a - b)))
    | .mul => some (I (w64 (a * b)))
    | .lss => some (Bo (ltI a b))
    | .leq => some (Bo (leI a b))
    | .gtr => some (Bo (ltI b a))
    | .geq => some (Bo (leI b a))
    | .eql => some (Bo (eqI a b))
    | .neq => some (Bo (!eqI a b))
    | _ => none
  | _, _ => none
def xun (op : UnOp) : AV → Option AV
  | .c (.v (.int .i64 a)) => match op with
    | .neg => some (I (w64 (0 - a)))
    | _ => none
  | .c (.v (.bool b)) => match op with
    | .not => some (.c (.v (.bool (!b))))
    | _ => none
  | _ => none
def sizeT (t : TypeId) : Option Nat := (P.info? t).map (·.size)
/-- The value of an operation that reads alone. -/
def xv (s : St) : Op → Option AV
  | .move x => some (s.ev x)
  | .assign x => some (s.ev x)
  | .extract x n => match s.ev x with
    | .tc y r => nbA ((AV.tc y r).nth n)
    | _ => none
  | .fieldAddr t x f => match P.underlying t with
    | some (.struct fields) => match fields[f]? with
      | some fd => match sizeT P fd.type with
        | some (_ + 1) => nbA ((s.ev x).adv fd.offset)
        | _ => none
      | none => none
    | _ => none
  | .load t x => match P.underlying t with
    | some d => bif aggD d then (match sizeT P t, memCells s (s.ev x) with
        | some n, some cs => bif Nat.ble n cs.length then some (.ag (cs.take n)) else none
        | _, _ => none)
      else (match memCells s (s.ev x) with
        | some (c :: _) => some (.c c)
        | _ => none)
    | none => none
  | .indexAddr t x ix => match P.underlying t with
    | some (.array N e) => match sizeT P e, s.ev ix with
      | some sz, .c (.v (.int _ n)) => bif (decide (0 ≤ n) && decide (n < N)) then nbA ((s.ev x).adv (n.toNat * sz)) else none
      | _, _ => none
    | _ => none
  | .binOp op _ x y _ => xbin op (s.ev x) (s.ev y)
  | .unOp op _ x => xun op (s.ev x)
  | _ => none
/-- An operation that makes a variable. -/
def xn (s : St) : Op → Option (AV × List (Nat × Ent))
  | .alloc e => match (P.info? e).bind (·.zero) with
    | some z => bif cellsAll z.cells then some (.pt 0 0, [(0, .box (z.cells.toList.map Tr.v))]) else none
    | none => none
  | .box _ x => match avCells (s.ev x) with
    | some cs => some (.pt 0 0, [(0, .box cs)])
    | none => none
  | _ => none
/-- An operation that writes a variable. -/
def xs (s : St) : Op → Option St
  | .store t x y => match s.ev x, avCells (s.ev y) with
    | .pt id off, some vc => match s.ent id with
      | some (.box cs) => bif (sizeT P t == some vc.length) && Nat.ble (off + vc.length) cs.length then some ⟨s.T, setE id (.box (splice cs off vc)) s.E⟩ else none
      | some (.pbox l cs) => bif (sizeT P t == some vc.length) && Nat.ble (off + vc.length) cs.length then some ⟨s.T, setE id (.pbox l (splice cs off vc)) s.E⟩ else none
      | _ => none
    | _, _ => none
  | _ => none
def xo (o : Oper) (s : St) : Option St := match o.dst with
  | some d => match xv P s o.op with
    | some av => some (s.put d av)
    | none => match xn P s o.op with
      | some r => some (s.upd d r.1 r.2)
      | none => none
  | none => xs P s o.op
def xr : List Oper → St → Option St
  | [], s => some s
  | o :: os, s => match o.guard with
    | none => match xo P o s with
      | some s' => xr os s'
      | none => none
    | some _ => none
def rD (l : List Oper) (s : St) : St := (xr P l s).getD s
end
section
variable {P : Program}
theorem nbA_ok {a b : AV} (h : nbA a = some b) : a = b ∧ b ≠ .bot := by
  cases a <;> simp only [nbA] at h <;> first | (cases h; done) | (cases h; exact ⟨rfl, fun h => by cases h⟩)
theorem xbin_ok {o : Oper} {s : St} {op : BinOp} {t t2 : TypeId} {x y : Operand} {av : AV} (ho : o.op = .binOp op t x y t2) (h : xbin op (s.ev x) (s.ev y) = some av) : Y0 P o s av := by
  generalize hx : s.ev x = a at h
  generalize hy : s.ev y = b at h
  unfold xbin at h
  split at h
  · cases op <;> simp only [Option.some.injEq, reduceCtorEq] at h <;> subst h
    · exact Y0_add64 ho hx hy
    · exact Y0_sub64 ho hx hy
    · exact Y0_mul64 ho hx hy
    all_goals first | exact Y0_eqw ho hx hy | exact Y0_new ho hx hy | exact Y0_ltw ho hx hy | exact Y0_lew ho hx hy | exact Y0_gtw ho hx hy | exact Y0_gew ho hx hy
  · cases h
theorem xun_ok {o : Oper} {s : St} {op : UnOp} {t : TypeId} {x : Operand} {av : AV} (ho : o.op = .unOp op t x) (h : xun op (s.ev x) = some av) : Y0 P o s av := by
  generalize hx : s.ev x = a at h
  unfold xun at h
  split at h
  · cases op <;> simp only [Option.some.injEq, reduceCtorEq] at h
    subst h
    exact Y0_neg64 ho hx
  · cases op <;> simp only [Option.some.injEq, reduceCtorEq] at h
    subst h
    exact Y0_not ho hx
  · cases h
theorem xv_ok {o : Oper} {s : St} {av : AV} (h : xv P s o.op = some av) : Y0 P o s av := by
  unfold xv at h
  split at h
  · cases h; rename_i ho; exact Y0_move ho
  · cases h; rename_i ho; exact Y0_assign ho
  · rename_i ho
    split at h
    · rename_i hx
      obtain ⟨h1, h2⟩ := nbA_ok h
      exact E_ext _ _ _ ho hx h1 h2
    · cases h
  · rename_i ho
    split at h
    · rename_i hu
      split at h
      · rename_i hf
        split at h
        · rename_i hs
          obtain ⟨h1, h2⟩ := nbA_ok h
          exact E_field _ hu hf hs ho h1 h2
        · cases h
      · cases h
    · cases h
  · rename_i ho
    split at h
    · rename_i d hu
      cases ha : aggD d with
      | true =>
        rw [ha, cond_true] at h
        split at h
        · rename_i n cs hn hm
          cases hb : Nat.ble n cs.length with
          | true =>
            rw [hb, cond_true] at h
            cases h
            exact E_loadn _ ⟨⟨d, hu, ha⟩, hn⟩ ho hm (Nat.le_of_ble_eq_true hb) rfl
          | false => rw [hb, cond_false] at h; cases h
        · cases h
      | false =>
        rw [ha, cond_false] at h
        split at h
        · rename_i c cs hm
          cases h
          exact Y0_load1 ⟨d, hu, ha⟩ ho hm
        · cases h
    · cases h
  · rename_i ho
    split at h
    · rename_i N e hu
      split at h
      · rename_i sz k n hs hi
        cases hb : (decide (0 ≤ n) && decide (n < (N : Int))) with
        | true =>
          rw [hb, cond_true] at h
          obtain ⟨h1, h2⟩ := nbA_ok h
          exact E_idxA _ hu hs ho hi hb h1 h2
        | false => rw [hb, cond_false] at h; cases h
      · cases h
    · cases h
  · rename_i ho; exact xbin_ok ho h
  · rename_i ho; exact xun_ok ho h
  · cases h
theorem xn_ok {o : Oper} {s : St} {r : AV × List (Nat × Ent)} (h : xn P s o.op = some r) : Y1 P o s r.1 r.2 := by
  unfold xn at h
  split at h
  · rename_i e ho
    split at h
    · rename_i z hz
      cases hc : cellsAll z.cells with
      | true => rw [hc, cond_true] at h; cases h; exact Y1_alloc ho hz hc
      | false => rw [hc, cond_false] at h; cases h
    · cases h
  · rename_i e x ho
    split at h
    · rename_i cs hx
      cases h
      exact Y1_box ho hx
    · cases h
  · cases h
theorem xs_ok {o : Oper} {s s' : St} (hd : o.dst = none) (h : xs P s o.op = some s') : X P o s s' := by
  unfold xs at h
  split at h
  · rename_i t x y ho
    split at h
    · rename_i id off vc hx hy
      split at h
      · rename_i cs he
        cases hb : (sizeT P t == some vc.length) && Nat.ble (off + vc.length) cs.length with
        | true =>
          rw [hb, cond_true] at h
          cases h
          rw [Bool.and_eq_true, beq_iff_eq] at hb
          exact E_store _ ho hd hx he hy hb.1 (Nat.le_of_ble_eq_true hb.2) rfl
        | false => rw [hb, cond_false] at h; cases h
      · rename_i l cs he
        cases hb : (sizeT P t == some vc.length) && Nat.ble (off + vc.length) cs.length with
        | true =>
          rw [hb, cond_true] at h
          cases h
          rw [Bool.and_eq_true, beq_iff_eq] at hb
          exact E_storep _ ho hd hx he hy hb.1 (Nat.le_of_ble_eq_true hb.2) rfl
        | false => rw [hb, cond_false] at h; cases h
      · cases h
    · cases h
  · cases h
theorem xo_ok {o : Oper} {s s' : St} (h : xo P o s = some s') : X P o s s' := by
  unfold xo at h
  split at h
  · rename_i d hd
    split at h
    · rename_i av hv
      cases h
      exact X_of_Y0 hd (xv_ok hv)
    · split at h
      · rename_i r hn
        cases h
        exact X_of_Y1 hd (xn_ok hn)
      · cases h
  · rename_i hd; exact xs_ok hd h
theorem xr_ok {ops : Array Oper} {J : St → Prop} (rest : List Oper) : ∀ (l : List Oper) (s s' : St), xr P l s = some s' → XL P ops rest s' J → XL P ops (l ++ rest) s J
  | [], s, s', h, hk => by cases h; exact hk
  | o :: os, s, s', h, hk => by
    unfold xr at h
    split at h
    · rename_i hg
      split at h
      · rename_i s1 h1
        exact XL_cons hg (xo_ok h1) (xr_ok rest os s1 s' h hk)
      · cases h
    · cases h
/-- A row of operations. -/
theorem XR (n : Nat) {ops : Array Oper} {rest : List Oper} {s : St} {J : St → Prop} (hk : XL P ops (rest.drop n) (rD P (rest.take n) s) J) (h : (xr P (rest.take n) s).isSome = true := by kernel_rfl) : XL P ops rest s J := by
  cases hx : xr P (rest.take n) s with
  | none => rw [hx] at h; cases h
  | some s' =>
    have e : rD P (rest.take n) s = s' := by unfold rD; rw [hx]; rfl
    rw [e] at hk
    have := xr_ok (ops := ops) (J := J) (rest.drop n) (rest.take n) s s' hx hk
    rwa [List.take_append_drop] at this
/-- The rest of a region, and its state. -/
theorem XE {ops : Array Oper} {rest : List Oper} {s s1 : St} {m : List Bool} {ids : List Nat} (h : (xr P rest s).map (fun s' => s'.keep m ids) = some s1 := by kernel_rfl) : XL P ops rest s (fun s' => s'.keep m ids = s1) := by
  cases hx : xr P rest s with
  | none => rw [hx] at h; cases h
  | some s' =>
    rw [hx] at h
    have h2 : s'.keep m ids = s1 := by injection h
    have := xr_ok (ops := ops) (J := fun s' => s'.keep m ids = s1) [] rest s s' hx (XL_nil h2)
    rwa [List.append_nil] at this
/-- A whole region of such operations. -/
theorem V_e {id : Nat} {ops : Array Oper} {y : Code} {s s1 : St} {J : Exit → St → Prop} (m : List Bool) (ids : List Nat) (hv : V P y s1 J) (h : (xr P ops.toList s).map (fun s' => s'.keep m ids) = some s1 := by kernel_rfl) : V P (.seq (.region id ops false) y) s J := V_sreg m ids (XE h) hv
/-- A call. -/
theorem XC {ops : Array Oper} {o : Oper} {rest : List Oper} {s : St} {J : St → Prop} {d : Nat} {f : FuncId} {xs : Array Operand} {ts : Array TypeId} {args : List AV} {av : AV} {ne : List (Nat × Ent)} (hS : CallS P f args av ne) (hc : ∀ args w, (callFunc f args).run P w = .ok (.enter f args) w) (hg : o.guard = none) (hd : o.dst = some d)
    (ho : o.op = .call { callee := .value (.func f), args := xs, argTypes := ts }) (hk : XL P ops rest (s.upd d av ne) J) (ha : evL s xs.toList = args := by kernel_rfl) : XL P ops (o :: rest) s J := L1 hg hd (Y1_call hS hc ho ha) hk
/-! ### Statements whose order is open -/
/-- A row of marks as one number, four to a mark. -/
def cdr : Nat → Nat → List Cd
  | 0, _ => []
  | k + 1, n => (match Nat.mod n 4 with | 0 => Cd.z | 1 => Cd.a | _ => Cd.b) :: cdr k (Nat.div n 4)
def cdm (k : Nat) : List Nat → List (List Cd)
  | [] => []
  | n :: ns => cdr k n :: cdm k ns
section
variable (P)
def dr2 (l : List Oper) (ms : List Nat) (n1 : Nat) (css : List (List Cd)) (rs : List Res) (S : St) : Op → Option (List Res)
  | .store t x y => match S.ev x, avCells (S.ev y) with
    | .pt id off, some vc => match S.ent id with
      | some (.box cs) => bif (sizeT P t == some vc.length) && Nat.ble (off + vc.length) cs.length && (colOk rs.length id css && (mkOk ms rs.length id 0 (l.take n1) && freshW id rs)) then some (rs ++ [.r2 id (.box (splice cs off vc))]) else none
      | _ => none
    | _, _ => none
  | _ => none
def dr1 (l : List Oper) (ms : List Nat) (n1 : Nat) (css : List (List Cd)) (s0 : St) (rs : List Res) : Option (List Res) := match l[rs.length]?, css[rs.length]? with
  | some o, some c => bif Nat.blt rs.length n1 then (match o.guard, o.dst with
    | none, some _ => match xv P (appC c (l.take n1) rs s0) o.op with
      | some av => bif mentOk ms rs.length av 0 (l.take n1) then some (rs ++ [.r0 av]) else none
      | none => match xn P (appC c (l.take n1) rs s0) o.op with
        | some r => bif keys8 r.2 && (makes o && r.1.small) then some (rs ++ [.r1 r.1 r.2]) else none
        | none => none
    | none, none => dr2 P l ms n1 css rs (appC c (l.take n1) rs s0) o.op
    | _, _ => none) else none
  | _, _ => none
def drN (l : List Oper) (ms : List Nat) (n1 : Nat) (css : List (List Cd)) (s0 : St) : Nat → List Res → Option (List Res)
  | 0, rs => some rs
  | k + 1, rs => match dr1 P l ms n1 css s0 rs with
    | some rs' => drN l ms n1 css s0 k rs'
    | none => none
end
theorem dr1_ok {l : List Oper} {ms : List Nat} {n1 : Nat} {css : List (List Cd)} {s0 : St} {rs rs' : List Res} {K : St → Prop} (h : dr1 P l ms n1 css s0 rs = some rs') (hk : DL P l ms n1 css s0 rs' K) : DL P l ms n1 css s0 rs K := by
  unfold dr1 at h
  split at h
  · rename_i o c ho hc
    cases hb : Nat.blt rs.length n1 with
    | false => rw [hb, cond_false] at h; cases h
    | true =>
      rw [hb, cond_true] at h
      split at h
      · rename_i d hg hd
        split at h
        · rename_i av hv
          cases hm : mentOk ms rs.length av 0 (l.take n1) with
          | false => rw [hm, cond_false] at h; cases h
          | true =>
            rw [hm, cond_true] at h
            cases h
            exact DE_0 rs.length av rfl hb ho hc (gsat_none hg) hm (xv_ok hv) d hd hk
        · split at h
          · rename_i r hr
            cases hm : keys8 r.2 && (makes o && r.1.small) with
            | false => rw [hm, cond_false] at h; cases h
            | true =>
              rw [hm, cond_true] at h
              cases h
              rw [Bool.and_eq_true, Bool.and_eq_true] at hm
              exact DE_1 rs.length rfl hb ho hc (gsat_none hg) (xn_ok hr) hm.1 hm.2.1 hm.2.2 d hd hk
          · cases h
      · rename_i hg hd
        unfold dr2 at h
        split at h
        · rename_i t x y hop
          split at h
          · rename_i id off vc hx hy
            split at h
            · rename_i cs he
              cases hm : (sizeT P t == some vc.length) && Nat.ble (off + vc.length) cs.length && (colOk rs.length id css && (mkOk ms rs.length id 0 (l.take n1) && freshW id rs)) with
              | false => rw [hm, cond_false] at h; cases h
              | true =>
                rw [hm, cond_true] at h
                cases h
                rw [Bool.and_eq_true, Bool.and_eq_true, Bool.and_eq_true, Bool.and_eq_true, beq_iff_eq] at hm
                exact DE_2 rs.length id _ rfl hb ho hc (gsat_none hg) hop hd hx he hy hm.1.1 (Nat.le_of_ble_eq_true hm.1.2) rfl hm.2.1 hm.2.2.1 hm.2.2.2 hk
            · cases h
          · cases h
        · cases h
      · cases h
  · cases h
theorem drN_ok {l : List Oper} {ms : List Nat} {n1 : Nat} {css : List (List Cd)} {s0 : St} {K : St → Prop} : ∀ (k : Nat) (rs rs' : List Res), drN P l ms n1 css s0 k rs = some rs' → DL P l ms n1 css s0 rs' K → DL P l ms n1 css s0 rs K
  | 0, rs, rs', h, hk => by cases h; exact hk
  | k + 1, rs, rs', h, hk => by
    unfold drN at h
    split at h
    · rename_i r1 h1
      exact dr1_ok h1 (drN_ok k r1 rs' h hk)
    · cases h
theorem DR (k : Nat) {l : List Oper} {ms : List Nat} {n1 : Nat} {css : List (List Cd)} {s0 : St} {rs : List Res} {K : St → Prop} (hk : DL P l ms n1 css s0 ((drN P l ms n1 css s0 k rs).getD rs) K) (h : (drN P l ms n1 css s0 k rs).isSome = true := by kernel_rfl) : DL P l ms n1 css s0 rs K := by
  cases hx : drN P l ms n1 css s0 k rs with
  | none => rw [hx] at h; cases h
  | some r => rw [hx] at hk; exact drN_ok k rs r hx hk
/-- All of the open part. -/
theorem DA {l : List Oper} {ms : List Nat} {n1 : Nat} {css : List (List Cd)} {s0 : St} {rs : List Res} {K : St → Prop} (k : Nat) (hk : K (fin (l.take n1) ((drN P l ms n1 css s0 k rs).getD rs) s0)) (h : (drN P l ms n1 css s0 k rs).map List.length = some n1 := by kernel_rfl) : DL P l ms n1 css s0 rs K := by
  cases hx : drN P l ms n1 css s0 k rs with
  | none => rw [hx] at h; cases h
  | some r =>
    rw [hx] at hk h
    exact drN_ok k rs r hx (DL_nil (by injection h) hk)
theorem DC {l : List Oper} {ms : List Nat} {n1 : Nat} {css : List (List Cd)} {s0 : St} {rs : List Res} {K : St → Prop} {o : Oper} {c : List Cd} {f : FuncId} {xs : Array Operand} {ts : Array TypeId} {args : List AV} {av : AV} {ne : List (Nat × Ent)} (j : Nat) (hS : CallS P f args av ne) (hcf : ∀ args w, (callFunc f args).run P w = .ok (.enter f args) w) (ho : l[j]? = some o) (hc : css[j]? = some c) (hg : o.guard = none)
    (hop : o.op = .call { callee := .value (.func f), args := xs, argTypes := ts }) (d : Nat) (hd : o.dst = some d) (h : DL P l ms n1 css s0 (rs ++ [.r1 av ne]) K) (hj : rs.length = j := by kernel_rfl) (hlt : Nat.blt j n1 = true := by kernel_rfl) (ha : evL (appC c (l.take n1) rs s0) xs.toList = args := by kernel_rfl) (h1 : keys8 ne = true := by kernel_rfl) (h2 : makes o = true := by kernel_rfl) (h3 : av.small = true := by kernel_rfl) : DL P l ms n1 css s0 rs K :=
  DE_1 j hj hlt ho hc (gsat_none hg) (Y1_call hS hcf hop ha) h1 h2 h3 d hd h
end
end Go.Proofs.YtnheekadeflecaaGreat
