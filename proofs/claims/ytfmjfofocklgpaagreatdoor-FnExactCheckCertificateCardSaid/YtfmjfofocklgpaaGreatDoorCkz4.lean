/-
  Rules of walks, plain functions and their laws, part 4.
  Conditions: none.
-/
import Derived.MapKept
import Derived.Test.YtfmjfofocklgpaaGreatDoorRows
import Derived.Test.YtfmjfofocklgpaaGreatDoorCkz3
namespace Go.Proofs.YtfmjfofocklgpaaGreatDoor
open Go.RowKit
set_option linter.unusedSimpArgs false
set_option linter.unusedVariables false
section
variable (P : Program)
def ybin (op : BinOp) : AV → AV → Option AV
  | .c (.v (.int k a)), .c (.v (.int k2 b)) => match decEq k k2 with
    | isTrue _ => (match op with
      | .lss => some (Bo (ltI a b))
      | .leq => some (Bo (leI a b))
      | .gtr => some (Bo (ltI b a))
      | .geq => some (Bo (leI b a))
      | .eql => some (Bo (eqI a b))
      | .neq => some (Bo (!eqI a b))
      | _ => none)
    | isFalse _ => none
  | .c (.v (.string a)), .c (.v (.string b)) => match op with
    | .eql => some (Bo (a.toList == b.toList))
    | .neq => some (Bo (!(a.toList == b.toList)))
    | _ => none
  | _, _ => none
/-- The value of an operation that reads alone: more of them. -/
def yv (s : St) : Op → Option AV
  | .binOp op t x y _ => match ybin op (s.ev x) (s.ev y) with
    | some av => some av
    | none => (match s.ev x, s.ev y with
      | .c (.v (.bool a)), .c (.v (.bool b)) => (match P.underlying t with
        | some .bool => (match op with
          | .eql => some (Bo (a == b))
          | .neq => some (Bo (a != b))
          | _ => none)
        | _ => none)
      | _, _ => none)
  | .pick c x y => match s.ev c with
    | .c (.v (.bool b)) => nbA (bif b then s.ev x else s.ev y)
    | _ => none
  | .call c => match c with
    | ⟨.builtin .len, ⟨[x]⟩, ⟨[t]⟩⟩ => match P.underlying t, s.ev x with
      | some .string, .c (.v (.string b)) => some (I (b.size : Int))
      | _, _ => none
    | _ => none
  | _ => none
def yo (o : Oper) (s : St) : Option St := match xo P o s with
  | some s' => some s'
  | none => match o.dst with
    | some d => (match yv P s o.op with
      | some av => some (s.put d av)
      | none => none)
    | none => none
/-- The mark of an operation's guard. -/
def gdt (ops : Array Oper) (j : Nat) : Option Nat := (ops[j]?).bind (·.dst)
/-- Is an operation taken? -/
def yg (ops : Array Oper) (o : Oper) (s : St) : Option Bool := match o.guard with
  | none => some true
  | some (j, b) => match gdt ops j with
    | some t => match s.get t with
      | .c (.v (.bool c)) => some (bif c then b else !b)
      | .tn => some false
      | _ => none
    | none => none
def yr (ops : Array Oper) : List Oper → St → Option St
  | [], s => some s
  | o :: os, s => match yg ops o s with
    | some true => (match yo P o s with
      | some s' => yr ops os s'
      | none => none)
    | some false => (match o.dst with
      | some d => yr ops os (s.put d .tn)
      | none => none)
    | none => none
def yD (ops : Array Oper) (l : List Oper) (s : St) : St := (yr P ops l s).getD s
/-- The arguments of the call that comes first, if it is taken. -/
def yc (ops : Array Oper) (f : FuncId) (l : List Oper) (s : St) : Option (List AV) := match l with
  | o :: _ => match yg ops o s, o.dst with
    | some true, some _ => (match o.op with
      | .call ⟨.value (.func g), xs, _⟩ => bif Nat.beq g f then some (evL s xs.toList) else none
      | _ => none)
    | _, _ => none
  | [] => none
def ycn (ops : Array Oper) (f : FuncId) (n : Nat) (l : List Oper) (s : St) : Option (List AV) := match yr P ops (l.take n) s with
  | some s' => yc ops f (l.drop n) s'
  | none => none
end
def dstH : List Oper → Nat
  | o :: _ => o.dst.getD 0
  | [] => 0
section
variable {P : Program}
theorem ybin_ok {o : Oper} {s : St} {op : BinOp} {t t2 : TypeId} {x y : Operand} {av : AV} (ho : o.op = .binOp op t x y t2) (h : ybin op (s.ev x) (s.ev y) = some av) : Y0 P o s av := by
  generalize hx : s.ev x = a at h
  generalize hy : s.ev y = b at h
  unfold ybin at h
  split at h
  · split at h
    · rename_i hk _
      subst hk
      cases op <;> simp only [Option.some.injEq, reduceCtorEq] at h <;> subst h <;>
        first | exact Y0_eqw ho hx hy | exact Y0_new ho hx hy | exact Y0_ltw ho hx hy | exact Y0_lew ho hx hy | exact Y0_gtw ho hx hy | exact Y0_gew ho hx hy
    · cases h
  · cases op <;> simp only [Option.some.injEq, reduceCtorEq] at h <;> subst h <;>
      first | exact Y0_eqs ho hx hy | exact Y0_nes ho hx hy
  · cases h
theorem yv_ok {o : Oper} {s : St} {av : AV} (h : yv P s o.op = some av) : Y0 P o s av := by
  unfold yv at h
  split at h
  · rename_i ho
    split at h
    · rename_i hb; cases h; exact ybin_ok ho hb
    · split at h
      · rename_i hx hy
        split at h
        · rename_i hu
          split at h
          · cases h; exact Y0_eqb hu ho hx hy
          · cases h; exact Y0_neb hu ho hx hy
          · cases h
        · cases h
      · cases h
  · rename_i ho
    split at h
    · rename_i b hc
      obtain ⟨h1, h2⟩ := nbA_ok h
      rw [← h1]
      exact Y0_pick ho hc
    · cases h
  · rename_i ho
    split at h
    · rename_i x t
      split at h
      · rename_i b hu hx
        cases h
        exact Y0_lens hu ho hx
      · cases h
    · cases h
  · cases h
theorem yo_ok {o : Oper} {s s' : St} (h : yo P o s = some s') : X P o s s' := by
  unfold yo at h
  split at h
  · rename_i h1; cases h; exact xo_ok h1
  · split at h
    · rename_i d hd
      split at h
      · rename_i hv; cases h; exact X_of_Y0 hd (yv_ok hv)
      · cases h
    · cases h
theorem yg_take {ops : Array Oper} {o : Oper} {rest : List Oper} {s s' : St} {J : St → Prop} (hg : yg ops o s = some true) (h : X P o s s') (hk : XL P ops rest s' J) : XL P ops (o :: rest) s J := by
  unfold yg at hg
  split at hg
  · rename_i h1; exact XL_cons h1 h hk
  · rename_i j b h1
    split at hg
    · rename_i t ht
      split at hg
      · rename_i c hc
        have e : c = b := by cases c <;> cases b <;> simp_all
        subst e
        exact XL_take h1 ht hc h hk
      · cases hg
      · cases hg
    · cases hg
/-- An operation that is taken. -/
theorem YT {ops : Array Oper} {o : Oper} {rest : List Oper} {s s' : St} {J : St → Prop} (h : X P o s s') (hk : XL P ops rest s' J) (hg : yg ops o s = some true := by kernel_rfl) : XL P ops (o :: rest) s J := yg_take hg h hk
theorem yg_skip {ops : Array Oper} {o : Oper} {rest : List Oper} {s : St} {d : Nat} {J : St → Prop} (hg : yg ops o s = some false) (hd : o.dst = some d) (hk : XL P ops rest (s.put d .tn) J) : XL P ops (o :: rest) s J := by
  unfold yg at hg
  split at hg
  · cases hg
  · rename_i j b h1
    split at hg
    · rename_i t ht
      split at hg
      · rename_i c hc
        exact XL_skip h1 ht hc (by cases c <;> cases b <;> simp_all) hd hk
      · rename_i hc
        exact XL_skip2 h1 ht hc hd hk
      · cases hg
    · cases hg
theorem yr_ok {ops : Array Oper} {J : St → Prop} (rest : List Oper) : ∀ (l : List Oper) (s s' : St), yr P ops l s = some s' → XL P ops rest s' J → XL P ops (l ++ rest) s J
  | [], s, s', h, hk => by cases h; exact hk
  | o :: os, s, s', h, hk => by
    unfold yr at h
    split at h
    · rename_i hg
      split at h
      · rename_i s1 h1
        exact yg_take hg (yo_ok h1) (yr_ok rest os s1 s' h hk)
      · cases h
    · rename_i hg
      split at h
      · rename_i d hd
        exact yg_skip hg hd (yr_ok rest os _ s' h hk)
      · cases h
    · cases h
/-- A row of operations. -/
theorem YR (n : Nat) {ops : Array Oper} {rest : List Oper} {s : St} {J : St → Prop} (hk : XL P ops (rest.drop n) (yD P ops (rest.take n) s) J) (h : (yr P ops (rest.take n) s).isSome = true := by kernel_rfl) : XL P ops rest s J := by
  cases hx : yr P ops (rest.take n) s with
  | none => rw [hx] at h; cases h
  | some s' =>
    have e : yD P ops (rest.take n) s = s' := by unfold yD; rw [hx]; rfl
    rw [e] at hk
    have := yr_ok (ops := ops) (J := J) (rest.drop n) (rest.take n) s s' hx hk
    rwa [List.take_append_drop] at this
/-- The rest of a region: its state is not named. -/
theorem YF {ops : Array Oper} {rest : List Oper} {s : St} {K : St → Prop} (hk : K (yD P ops rest s)) (h : (yr P ops rest s).isSome = true := by kernel_rfl) : XL P ops rest s K := by
  cases hx : yr P ops rest s with
  | none => rw [hx] at h; cases h
  | some s' =>
    have e : yD P ops rest s = s' := by unfold yD; rw [hx]; rfl
    rw [e] at hk
    have := yr_ok (ops := ops) (J := K) [] rest s s' hx (zD hk)
    rwa [List.append_nil] at this
/-- The rest of a region, and its state. -/
theorem YE {ops : Array Oper} {rest : List Oper} {s s1 : St} {m : List Bool} {ids : List Nat} (h : (yr P ops rest s).map (fun s' => s'.keep m ids) = some s1 := by kernel_rfl) : XL P ops rest s (fun s' => s'.keep m ids = s1) := by
  cases hx : yr P ops rest s with
  | none => rw [hx] at h; cases h
  | some s' =>
    rw [hx] at h
    have h2 : s'.keep m ids = s1 := by injection h
    have := yr_ok (ops := ops) (J := fun s' => s'.keep m ids = s1) [] rest s s' hx (zD h2)
    rwa [List.append_nil] at this
/-- Some operations, and a call. -/
theorem YK (n : Nat) {ops : Array Oper} {rest : List Oper} {s : St} {J : St → Prop} {f : FuncId} {args : List AV} {av : AV} {ne : List (Nat × Ent)} (hS : zQ P f args av ne) (hc : ∀ args w, (callFunc f args).run P w = .ok (.enter f args) w)
    (hk : XL P ops (rest.drop (n + 1)) ((yD P ops (rest.take n) s).upd (dstH (rest.drop n)) av ne) J) (h : ycn P ops f n rest s = some args := by kernel_rfl) : XL P ops rest s J := by
  unfold ycn at h
  split at h
  · rename_i s' hx
    have e : yD P ops (rest.take n) s = s' := by unfold yD; rw [hx]; rfl
    rw [e] at hk
    unfold yc at h
    split at h
    · rename_i o os hl
      split at h
      · rename_i d hg hd
        split at h
        · rename_i g xs ts ho
          cases hb : Nat.beq g f with
          | false => rw [hb, cond_false] at h; cases h
          | true =>
            rw [hb, cond_true] at h
            have hgf := Nat.eq_of_beq_eq_true hb
            subst hgf
            have e3 : rest.drop (n + 1) = os := by rw [← List.drop_drop, hl]; rfl
            rw [hl, e3, dstH, hd] at hk
            have := yr_ok (ops := ops) (J := J) (rest.drop n) (rest.take n) s s' hx (by rw [hl]; exact yg_take hg (X_of_Y1 hd (Y1_call hS hc ho (by injection h))) hk)
            rwa [List.take_append_drop] at this
        · cases h
      · cases h
    · cases h
  · cases h
/-- The mark on which the next operation hangs. -/
def gtH (ops : Array Oper) : List Oper → Nat
  | o :: _ => match o.guard with
    | some (j, _) => (gdt ops j).getD 0
    | none => match o.op with
      | .pick (.tmp t) _ _ => t
      | _ => 0
  | [] => 0
theorem put_get (s : St) (t : Nat) : s.put t (s.get t) = s := by
  cases s with
  | mk T E =>
    simp only [St.put, St.get]
    congr 1
    apply List.ext_getElem?
    intro i
    rw [List.getElem?_set]
    by_cases h : t = i
    · subst h
      by_cases h2 : t < T.length
      · simp [h2]
      · simp [h2]
    · simp [h]
/-- A mark whose truth is known. -/
theorem YQ {c v : Bool} (hc : c = v) {ops : Array Oper} {rest : List Oper} {s : St} {J : St → Prop} (hk : XL P ops rest (s.put (gtH ops rest) (Bo v)) J) (h : s.get (gtH ops rest) = Bo c := by kernel_rfl) : XL P ops rest s J := by
  subst hc
  rw [← h, put_get] at hk
  exact hk
/-- The way into a function. -/
abbrev CfW (P : Program) (f : FuncId) : Prop := ∀ args w, (callFunc f args).run P w = .ok (.enter f args) w
theorem cfW {f : FuncId} {fn : Func} (hf : P.funcs[f]? = some fn) (hn : (fn.name == "runtime.NumGoroutine") = false := by kernel_rfl) (hb : fn.body.isNone = false := by kernel_rfl) : CfW P f := run_callFunc hf hn hb
theorem fitsT : ∀ ks : List Nat, FitsL P (ks.map RS.t) (ks.map ResultVar.tmp)
  | [] => FitsL.nil
  | k :: ks => .cons rfl (fitsT ks)
theorem CtW (ks : List Nat) {f : FuncId} {fn : Func} {c : Code} {args : List AV} {av : AV} {ne : List (Nat × Ent)} (hf : P.funcs[f]? = some fn) (hb : fn.body = some c) (hvs : fn.results = (ks.map ResultVar.tmp).toArray) (n : Nat)
    (h : V P c ⟨args ++ List.replicate (n - args.length) .bot, []⟩ (Post (ks.map RS.t) av ne)) (hn : fn.ntmps = n := by kernel_rfl) (hl : Nat.ble (ks.map RS.t).length 8 = true := by kernel_rfl) : zQ P f args av ne := zT hf hb hvs (fitsT ks) (Nat.le_of_ble_eq_true hl) n hn h
theorem VS {id : Nat} {ops : Array Oper} {y : Code} {s : St} {J : Exit → St → Prop} (h : XL P ops ops.toList s (fun s' => V P y s' J)) : V P (.seq (.region id ops false) y) s J := zG (zX h)
/-- A whole region of such operations. -/
theorem VE {id : Nat} {ops : Array Oper} {y : Code} {s : St} {J : Exit → St → Prop} (hv : V P y (yD P ops ops.toList s) J) (h : (yr P ops ops.toList s).isSome = true := by kernel_rfl) : V P (.seq (.region id ops false) y) s J := VS (YF hv h)
/-- Two roads. -/
theorem VC {c : Operand} {x y : Code} {s : St} {J : Exit → St → Prop} {b : Bool} {α : Type} {A B : Option α} {r : α} (h : (bif b then A else B) = some r) (ht : A = some r → V P x s J) (hf : B = some r → V P y s J) (hc : s.ev c = .c (.v (.bool b)) := by kernel_rfl) : V P (.cond c x y) s J :=
  V_cond hc (fun e => ht (zN h e)) (fun e => hf (zC h e))
/-- The end of a function. -/
theorem VT {rs : List RS} {av : AV} {ne : List (Nat × Ent)} {s : St} (h1 : nodup (ownsS s rs) = true := by kernel_rfl) (h2 : okSL s rs = true := by kernel_rfl) (h3 : outAllS s rs = (av, ne) := by kernel_rfl) : Post rs av ne .ret s := ⟨.inr rfl, h1, h2, h3⟩
theorem VDS {id : Nat} {l : List Oper} {y : Code} {s : St} {J : Exit → St → Prop} (ms : List Nat) (n1 : Nat) (css : List (List Cd))
    (h : DL P l ms n1 css (prep (l.take n1) s) [] (fun s' => XL P l.toArray (l.drop n1) s' (fun s'' => V P y s'' J))) (hm : P.follows .mixedOrders = true := by kernel_rfl) (hchk : drawOk l ms n1 css = true := by kernel_rfl) : V P (.seq (.region id l.toArray true) y) s J := zG (V_draw ms n1 css hm hchk h)
theorem VDR {id : Nat} {l : List Oper} {s : St} {J : Exit → St → Prop} (ms : List Nat) (n1 : Nat) (css : List (List Cd))
    (h : DL P l ms n1 css (prep (l.take n1) s) [] (fun s' => XL P l.toArray (l.drop n1) s' (J .normal))) (hm : P.follows .mixedOrders = true := by kernel_rfl) (hchk : drawOk l ms n1 css = true := by kernel_rfl) : V P (.region id l.toArray true) s J := V_draw ms n1 css hm hchk h
def zv (P : Program) (s : St) (op : Op) : Option AV := match xv P s op with
  | some av => some av
  | none => yv P s op
theorem zv_ok {o : Oper} {s : St} {av : AV} (h : zv P s o.op = some av) : Y0 P o s av := by
  unfold zv at h
  split at h
  · rename_i hx; cases h; exact xv_ok hx
  · exact yv_ok h
theorem gsat_yg {l : List Oper} {o : Oper} {S : St} (h : yg l.toArray o S = some true) : gsat l.toArray o S := by
  unfold yg at h
  split at h
  · rename_i h1; exact zF h1
  · rename_i j b h1
    split at h
    · rename_i t ht
      split at h
      · rename_i c hc
        have e : c = b := by cases c <;> cases b <;> simp_all
        subst e
        exact gsat_some h1 ht hc
      · cases h
      · cases h
    · cases h
theorem gun_yg {l : List Oper} {o : Oper} {S : St} (h : yg l.toArray o S = some false) : gun l.toArray o S := by
  unfold yg at h
  split at h
  · cases h
  · rename_i j b h1
    split at h
    · rename_i t ht
      split at h
      · rename_i c hc
        exact gun_some h1 ht hc (by cases c <;> cases b <;> simp_all)
      · rename_i hc
        exact gun_tn h1 ht hc
      · cases h
    · cases h
section
variable (P)
def er1 (l : List Oper) (ms : List Nat) (n1 : Nat) (css : List (List Cd)) (s0 : St) (rs : List Res) : Option (List Res) := match l[rs.length]?, css[rs.length]? with
  | some o, some c => bif Nat.blt rs.length n1 then (match yg l.toArray o (appC c (l.take n1) rs s0), o.dst with
    | some true, some _ => (match zv P (appC c (l.take n1) rs s0) o.op with
      | some av => bif mentOk ms rs.length av 0 (l.take n1) then some (rs ++ [.r0 av]) else none
      | none => match xn P (appC c (l.take n1) rs s0) o.op with
        | some r => bif keys8 r.2 && (makes o && r.1.small) then some (rs ++ [.r1 r.1 r.2]) else none
        | none => none)
    | some false, some _ => some (rs ++ [.r0 .tn])
    | some true, none => dr2 P l ms n1 css rs (appC c (l.take n1) rs s0) o.op
    | _, _ => none) else none
  | _, _ => none
def erN (l : List Oper) (ms : List Nat) (n1 : Nat) (css : List (List Cd)) (s0 : St) : Nat → List Res → Option (List Res)
  | 0, rs => some rs
  | k + 1, rs => match er1 P l ms n1 css s0 rs with
    | some rs' => erN l ms n1 css s0 k rs'
    | none => none
/-- The results so far. -/
def ego (l : List Oper) (ms : List Nat) (n1 : Nat) (css : List (List Cd)) (s0 : St) (k : Nat) (rs : List Res) : List Res := (erN P l ms n1 css s0 k rs).getD rs
/-- The state behind such a statement. -/
def efi (l : List Oper) (ms : List Nat) (n1 : Nat) (css : List (List Cd)) (s0 : St) (k : Nat) (rs : List Res) : St := fin (l.take n1) (ego P l ms n1 css s0 k rs) s0
def dfi (l : List Oper) (ms : List Nat) (n1 : Nat) (css : List (List Cd)) (s0 : St) (k : Nat) (rs : List Res) : St := yD P l.toArray (l.drop n1) (efi P l ms n1 css s0 k rs)
def dfo (l : List Oper) (ms : List Nat) (n1 : Nat) (css : List (List Cd)) (s0 : St) (k : Nat) (rs : List Res) : Bool := (yr P l.toArray (l.drop n1) (efi P l ms n1 css s0 k rs)).isSome
/-- The arguments of the next call of such a statement. -/
def dka (l : List Oper) (n1 : Nat) (css : List (List Cd)) (s0 : St) (f : FuncId) (rs : List Res) : Option (List AV) := match l[rs.length]?, css[rs.length]? with
  | some o, some c => match yg l.toArray o (appC c (l.take n1) rs s0), o.dst with
    | some true, some _ => (match o.op with
      | .call ⟨.value (.func g), xs, _⟩ => bif Nat.beq g f && (Nat.blt rs.length n1 && makes o) then some (evL (appC c (l.take n1) rs s0) xs.toList) else none
      | _ => none)
    | _, _ => none
  | _, _ => none
end
theorem er1_ok {l : List Oper} {ms : List Nat} {n1 : Nat} {css : List (List Cd)} {s0 : St} {rs rs' : List Res} {K : St → Prop} (h : er1 P l ms n1 css s0 rs = some rs') (hk : DL P l ms n1 css s0 rs' K) : DL P l ms n1 css s0 rs K := by
  unfold er1 at h
  split at h
  · rename_i o c ho hc
    cases hb : Nat.blt rs.length n1 with
    | false => rw [hb, cond_false] at h; cases h
    | true =>
      rw [hb, cond_true] at h
      split at h
      · rename_i d hg hd
        split at h
        · rename_i av hv
          cases hm : mentOk ms rs.length av 0 (l.take n1) with
          | false => rw [hm, cond_false] at h; cases h
          | true =>
            rw [hm, cond_true] at h
            cases h
            exact DE_0 rs.length av rfl hb ho hc (gsat_yg hg) hm (zv_ok hv) d hd hk
        · split at h
          · rename_i r hr
            cases hm : keys8 r.2 && (makes o && r.1.small) with
            | false => rw [hm, cond_false] at h; cases h
            | true =>
              rw [hm, cond_true] at h
              cases h
              rw [Bool.and_eq_true, Bool.and_eq_true] at hm
              exact DE_1 rs.length rfl hb ho hc (gsat_yg hg) (xn_ok hr) hm.1 hm.2.1 hm.2.2 d hd hk
          · cases h
      · rename_i d hg hd
        cases h
        exact DL_t (Nat.le_of_ble_eq_true hb) ho hc (gun_yg hg) ⟨d, hd⟩ hk
      · rename_i hg hd
        unfold dr2 at h
        split at h
        · rename_i t x y hop
          split at h
          · rename_i id off vc hx hy
            split at h
            · rename_i cs he
              cases hm : (sizeT P t == some vc.length) && Nat.ble (off + vc.length) cs.length && (colOk rs.length id css && (mkOk ms rs.length id 0 (l.take n1) && freshW id rs)) with
              | false => rw [hm, cond_false] at h; cases h
              | true =>
                rw [hm, cond_true] at h
                cases h
                rw [Bool.and_eq_true, Bool.and_eq_true, Bool.and_eq_true, Bool.and_eq_true, beq_iff_eq] at hm
                exact DE_2 rs.length id _ rfl hb ho hc (gsat_yg hg) hop hd hx he hy hm.1.1 (Nat.le_of_ble_eq_true hm.1.2) rfl hm.2.1 hm.2.2.1 hm.2.2.2 hk
            · cases h
          · cases h
        · cases h
      · cases h
  · cases h
theorem erN_ok {l : List Oper} {ms : List Nat} {n1 : Nat} {css : List (List Cd)} {s0 : St} {K : St → Prop} : ∀ (k : Nat) (rs rs' : List Res), erN P l ms n1 css s0 k rs = some rs' → DL P l ms n1 css s0 rs' K → DL P l ms n1 css s0 rs K
  | 0, rs, rs', h, hk => by cases h; exact hk
  | k + 1, rs, rs', h, hk => by
    unfold erN at h
    split at h
    · rename_i r1 h1
      exact er1_ok h1 (erN_ok k r1 rs' h hk)
    · cases h
theorem ER (k : Nat) {l : List Oper} {ms : List Nat} {n1 : Nat} {css : List (List Cd)} {s0 : St} {rs : List Res} {K : St → Prop} (hk : DL P l ms n1 css s0 (ego P l ms n1 css s0 k rs) K) (h : (erN P l ms n1 css s0 k rs).isSome = true := by kernel_rfl) : DL P l ms n1 css s0 rs K := by
  cases hx : erN P l ms n1 css s0 k rs with
  | none => rw [hx] at h; cases h
  | some r => rw [ego, hx] at hk; exact erN_ok k rs r hx hk
/-- All of the open part. -/
theorem EA (k : Nat) {l : List Oper} {ms : List Nat} {n1 : Nat} {css : List (List Cd)} {s0 : St} {rs : List Res} {K : St → Prop} (hk : K (efi P l ms n1 css s0 k rs)) (h : (erN P l ms n1 css s0 k rs).map List.length = some n1 := by kernel_rfl) : DL P l ms n1 css s0 rs K := by
  cases hx : erN P l ms n1 css s0 k rs with
  | none => rw [hx] at h; cases h
  | some r =>
    rw [efi, ego, hx] at hk
    rw [hx] at h
    exact erN_ok k rs r hx (DL_nil (by injection h) hk)
theorem dka_ok {l : List Oper} {ms : List Nat} {n1 : Nat} {css : List (List Cd)} {s0 : St} {rs : List Res} {K : St → Prop} {f : FuncId} {args : List AV} {av : AV} {ne : List (Nat × Ent)} (hS : zQ P f args av ne) (hcf : ∀ args w, (callFunc f args).run P w = .ok (.enter f args) w)
    (h : DL P l ms n1 css s0 (rs ++ [.r1 av ne]) K) (ha : dka l n1 css s0 f rs = some args) (h1 : keys8 ne = true) (h3 : av.small = true) : DL P l ms n1 css s0 rs K := by
  unfold dka at ha
  split at ha
  · rename_i o c ho hc
    split at ha
    · rename_i d hg hd
      split at ha
      · rename_i g xs ts hop
        cases hb : Nat.beq g f && (Nat.blt rs.length n1 && makes o) with
        | false => rw [hb, cond_false] at ha; cases ha
        | true =>
          rw [hb, cond_true] at ha
          rw [Bool.and_eq_true, Bool.and_eq_true] at hb
          have hgf := Nat.eq_of_beq_eq_true hb.1
          subst hgf
          exact DE_1 rs.length rfl hb.2.1 ho hc (gsat_yg hg) (Y1_call hS hcf hop (by injection ha)) h1 hb.2.2 h3 d hd h
      · cases ha
    · cases ha
  · cases ha
/-- Some of its operations, and a call. -/
theorem EK (k : Nat) {l : List Oper} {ms : List Nat} {n1 : Nat} {css : List (List Cd)} {s0 : St} {rs : List Res} {K : St → Prop} {f : FuncId} {args : List AV} {av : AV} {ne : List (Nat × Ent)} (hS : zQ P f args av ne) (hcf : ∀ args w, (callFunc f args).run P w = .ok (.enter f args) w)
    (h : DL P l ms n1 css s0 (ego P l ms n1 css s0 k rs ++ [.r1 av ne]) K) (hs : (erN P l ms n1 css s0 k rs).bind (dka l n1 css s0 f) = some args := by kernel_rfl) (h1 : keys8 ne = true := by kernel_rfl) (h3 : av.small = true := by kernel_rfl) : DL P l ms n1 css s0 rs K := by
  cases hx : erN P l ms n1 css s0 k rs with
  | none => rw [hx] at hs; cases hs
  | some r =>
    rw [ego, hx] at h
    rw [hx] at hs
    exact erN_ok k rs r hx (dka_ok hS hcf h hs h1 h3)
/-- All of the open part, and what comes behind it. -/
theorem EF (k : Nat) {l : List Oper} {ms : List Nat} {n1 : Nat} {css : List (List Cd)} {s0 : St} {rs : List Res} {K : St → Prop} (hk : K (dfi P l ms n1 css s0 k rs)) (h : (erN P l ms n1 css s0 k rs).map List.length = some n1 := by kernel_rfl)
    (h2 : dfo P l ms n1 css s0 k rs = true := by kernel_rfl) : DL P l ms n1 css s0 rs (fun s' => XL P l.toArray (l.drop n1) s' K) := EA k (YF hk h2) h
/-- An operation with a value. -/
theorem E0 (j : Nat) {l : List Oper} {ms : List Nat} {n1 : Nat} {css : List (List Cd)} {s0 : St} {rs : List Res} {K : St → Prop} {o : Oper} {c : List Cd} {av : AV} (ho : l[j]? = some o) (hc : css[j]? = some c) (hY : Y0 P o (appC c (l.take n1) rs s0) av) (h : DL P l ms n1 css s0 (rs ++ [.r0 av]) K)
    (hj : rs.length = j := by kernel_rfl) (hlt : Nat.blt j n1 = true := by kernel_rfl) (hg : yg l.toArray o (appC c (l.take n1) rs s0) = some true := by kernel_rfl) (hm : mentOk ms j av 0 (l.take n1) = true := by kernel_rfl) (hd : o.dst.isSome = true := by kernel_rfl) : DL P l ms n1 css s0 rs K := by
  obtain ⟨d, hd⟩ := Option.isSome_iff_exists.mp hd
  exact DE_0 j av hj hlt ho hc (gsat_yg hg) hm hY d hd h
/-- An operation that makes memory. -/
theorem E1 (j : Nat) {l : List Oper} {ms : List Nat} {n1 : Nat} {css : List (List Cd)} {s0 : St} {rs : List Res} {K : St → Prop} {o : Oper} {c : List Cd} {av : AV} {ne : List (Nat × Ent)} (ho : l[j]? = some o) (hc : css[j]? = some c) (hY : Y1 P o (appC c (l.take n1) rs s0) av ne) (h : DL P l ms n1 css s0 (rs ++ [.r1 av ne]) K)
    (hj : rs.length = j := by kernel_rfl) (hlt : Nat.blt j n1 = true := by kernel_rfl) (hg : yg l.toArray o (appC c (l.take n1) rs s0) = some true := by kernel_rfl) (h1 : keys8 ne = true := by kernel_rfl) (h2 : makes o = true := by kernel_rfl) (h3 : av.small = true := by kernel_rfl) (hd : o.dst.isSome = true := by kernel_rfl) : DL P l ms n1 css s0 rs K := by
  obtain ⟨d, hd⟩ := Option.isSome_iff_exists.mp hd
  exact DE_1 j hj hlt ho hc (gsat_yg hg) hY h1 h2 h3 d hd h
def idT (t : Nat) : List Oper → Nat → Nat
  | [], _ => 0
  | o :: os, k => match o.dst with
    | some d => bif Nat.beq d t then k else idT t os (k + 1)
    | none => idT t os (k + 1)
/-- The mark on which the next operation hangs. -/
def gtD (l : List Oper) (rs : List Res) : Nat := match l[rs.length]? with
  | some o => (match o.guard with
    | some (j, _) => j
    | none => match o.op with
      | .pick (.tmp t) _ _ => idT t l 0
      | _ => 0)
  | none => 0
/-- A mark whose truth is known. -/
theorem EQ {c v : Bool} (hc : c = v) {l : List Oper} {ms : List Nat} {n1 : Nat} {css : List (List Cd)} {s0 : St} {rs : List Res} {K : St → Prop} (hk : DL P l ms n1 css s0 (rs.set (gtD l rs) (.r0 (Bo v))) K) (h : rs[gtD l rs]? = some (.r0 (Bo c)) := by kernel_rfl) : DL P l ms n1 css s0 rs K := by
  subst hc
  have e : rs.set (gtD l rs) (.r0 (Bo c)) = rs := by
    apply List.ext_getElem?
    intro i
    rw [List.getElem?_set]
    by_cases hi : gtD l rs = i
    · subst hi
      have hlt : gtD l rs < rs.length := by
        by_cases h2 : gtD l rs < rs.length
        · exact h2
        · rw [List.getElem?_eq_none (by omega)] at h; cases h
      rw [if_pos rfl, if_pos hlt, h]
    · rw [if_neg hi]
  rwa [e] at hk
end
end Go.Proofs.YtfmjfofocklgpaaGreatDoor
namespace Go.Proofs.YtfmjfofocklgpaaGreatDoor
open Go.RowKit
set_option linter.unusedSimpArgs false
set_option linter.unusedVariables false
theorem ba_beq (a b : ByteArray) : (a == b) = decide (a = b) := by
  have h : (a == b) = (a.data == b.data) := rfl
  rw [h, Bool.eq_iff_iff, beq_iff_eq, decide_eq_true_iff]
  constructor
  · intro h
    cases a
    cases b
    exact congrArg _ h
  · intro h
    rw [h]
section
variable {κ ν : Type} [DecidableEq κ]
theorem ixM_none {a : κ} : ∀ {m : List (κ × ν)}, ixM a (m.map Prod.fst) = none → mGet a m = none ∧ ∀ v, mPut a v m = m ++ [(a, v)]
  | [], _ => ⟨rfl, fun _ => rfl⟩
  | p :: ps, h => by
    simp only [List.map_cons, ixM] at h
    by_cases e : a = p.1
    · rw [if_pos e] at h; cases h
    · rw [if_neg e] at h
      have h2 : ixM a (ps.map Prod.fst) = none := by simpa using h
      obtain ⟨k1, k2⟩ := ixM_none h2
      exact ⟨by unfold mGet; rw [if_neg e, k1], fun v => by unfold mPut; rw [if_neg e, k2]; rfl⟩
theorem ixM_some {a : κ} : ∀ {m : List (κ × ν)} {j : Nat}, ixM a (m.map Prod.fst) = some j → ∃ v0, m[j]? = some (a, v0) ∧ mGet a m = some v0 ∧ ∀ v, mPut a v m = m.set j (a, v)
  | [], j, h => by cases h
  | p :: ps, j, h => by
    simp only [List.map_cons, ixM] at h
    by_cases e : a = p.1
    · rw [if_pos e] at h
      injection h with h
      subst h
      refine ⟨p.2, by rw [e]; rfl, by unfold mGet; rw [if_pos e], fun v => by unfold mPut; rw [if_pos e]; rfl⟩
    · rw [if_neg e] at h
      cases h2 : ixM a (ps.map Prod.fst) with
      | none => rw [h2] at h; cases h
      | some i =>
        rw [h2] at h
        injection h with h
        subst h
        obtain ⟨v0, k1, k2, k3⟩ := ixM_some h2
        exact ⟨v0, by simpa using k1, by unfold mGet; rw [if_neg e, k2], fun v => by unfold mPut; rw [if_neg e, k3]; rfl⟩
end
section
variable {P : Program}
/-- A type of keys: what a key is, and that the model finds it. -/
structure KeyT (P : Program) {κ : Type} [DecidableEq κ] (kt : TypeId) (ek : κ → Value) : Prop where
  chk : ∀ b a w, (Instr.checkKey b 10000 kt (ek a)).run P w = .ok () w
  find : ∀ a (es : List MapEntry) (ks : List κ) w, es.map (·.key) = ks.map ek → (Instr.findKey kt (ek a) es).run P w = .ok ((ixM a ks).bind fun j => (es[j]?).map fun e => (j, e.val)) w
  bits : ∀ a, Instr.sameBits 10000 (ek a) (ek a) = true
theorem findNow_run {κ : Type} [DecidableEq κ] {d : TypeDesc} {ek : κ → Value} (hs : ∀ a b, Instr.sameNow d (ek a) (ek b) = some (decide (a = b))) (a : κ) : ∀ (es : List MapEntry) (ks : List κ) (i : Nat), es.map (·.key) = ks.map ek →
    Instr.findNow d (ek a) es i = some ((ixM a ks).bind fun j => (es[j]?).map fun e => (i + j, e.val))
  | [], [], i, _ => rfl
  | [], k :: ks, i, h => by simp at h
  | e :: es, [], i, h => by simp at h
  | e :: es, k :: ks, i, h => by
    simp only [List.map_cons, List.cons.injEq] at h
    have ih := findNow_run hs a es ks (i + 1) h.2
    unfold Instr.findNow
    rw [h.1, hs]
    by_cases e1 : a = k
    · simp [e1, ixM]
    · simp only [decide_eq_false e1, ih, ixM, if_neg e1]
      cases ixM a ks with
      | none => rfl
      | some j =>
        simp only [Option.bind_some, Option.map_some, List.getElem?_cons_succ]
        rw [show i + 1 + j = i + (j + 1) by omega]
theorem keyT_now {κ : Type} [DecidableEq κ] {kt : TypeId} {ek : κ → Value} (d : TypeDesc) (hd : P.underlying kt = some d) (chk : ∀ b a w, (Instr.checkKey b 10000 kt (ek a)).run P w = .ok () w) (hs : ∀ a b, Instr.sameNow d (ek a) (ek b) = some (decide (a = b)))
    (bits : ∀ a, Instr.sameBits 10000 (ek a) (ek a) = true) : KeyT P kt ek := by
  refine ⟨chk, fun a es ks w h => ?_, bits⟩
  unfold Instr.findKey
  simp only [Sem.run_bind, run_underlying hd, Result.andThen_ok]
  have := findNow_run hs a es ks 0 h
  simp only [Nat.zero_add] at this
  rw [this]
  rfl
theorem run_zero {t : TypeId} {z : Value} (h : (P.info? t).bind (·.zero) = some z) (w : World) : (zeroValue t).run P w = .ok z w := by
  cases hi : P.info? t with
  | none => rw [hi] at h; cases h
  | some i =>
    rw [hi] at h
    have h2 : i.zero = some z := h
    simp [zeroValue, typeInfo, hi, h2]
/-- What the model reads in a map that is a list. -/
theorem run_lookupM {κ ν : Type} [DecidableEq κ] {ek : κ → Value} {ev : ν → Value} {t kt vt : TypeId} {z : ν} (ht : P.underlying t = some (.map kt vt)) (hk : KeyT P kt ek) (hz : (P.info? vt).bind (·.zero) = some (ev z)) {w : World} {b : Nat} {es : Array MapEntry} {clock : Nat} (hb : w.heap[b]? = some (.map es clock))
    {m : List (κ × ν)} (hm : es.toList.map kvOf = m.map fun p => (ek p.1, ev p.2)) (a : κ) (co : Bool) :
    (Instr.lookup t (.map (some b)) (ek a) co).run P w = .ok (if co then .tuple #[ev (mAt a m z), .bool (mHas a m)] else ev (mAt a m z)) w := by
  have hkeys : es.toList.map (·.key) = (m.map Prod.fst).map ek := by
    have := congrArg (List.map Prod.fst) hm
    simpa [kvOf, Function.comp_def] using this
  have hf := hk.find a es.toList (m.map Prod.fst) w hkeys
  unfold Instr.lookup
  simp only [Sem.run_bind, run_underlying ht, Result.andThen_ok, MapKept.run_getObj_map hb, Sem.run_pure, hk.chk, hf]
  cases hi : ixM a (m.map Prod.fst) with
  | none =>
    obtain ⟨k1, _⟩ := ixM_none hi
    simp only [Option.bind_none, Sem.run_bind, run_zero hz, Result.andThen_ok, Sem.run_pure, mAt, mHas, k1, Option.getD_none, Option.isSome_none]
  | some j =>
    obtain ⟨v0, k1, k2, _⟩ := ixM_some hi
    have he : ∃ e, es.toList[j]? = some e ∧ e.val = ev v0 := by
      have h1 := congrArg (fun l => l[j]?) hm
      simp only [List.getElem?_map, k1, Option.map_some] at h1
      cases h2 : es.toList[j]? with
      | none => rw [h2] at h1; cases h1
      | some e =>
        rw [h2] at h1
        simp only [Option.map_some, Option.some.injEq, kvOf, Prod.mk.injEq] at h1
        exact ⟨e, rfl, h1.2⟩
    obtain ⟨e, e1, e2⟩ := he
    simp only [Option.bind_some, e1, Option.map_some, Sem.run_bind, Sem.run_pure, Result.andThen_ok, mAt, mHas, k2, Option.getD_some, Option.isSome_some, e2]
/-- What the model writes into a map that is a list. -/
theorem run_mapUpdateM {κ ν : Type} [DecidableEq κ] {ek : κ → Value} {ev : ν → Value} {t kt vt : TypeId} (ht : P.underlying t = some (.map kt vt)) (hk : KeyT P kt ek) {w : World} {b : Nat} {es : Array MapEntry} {clock : Nat} (hb : w.heap[b]? = some (.map es clock))
    {m : List (κ × ν)} (hm : es.toList.map kvOf = m.map fun p => (ek p.1, ev p.2)) (a : κ) (v : ν) :
    ∃ es' clock', (Instr.mapUpdate t (.map (some b)) (ek a) (ev v)).run P w = .ok () { w with heap := w.heap.setIfInBounds b (.map es' clock') } ∧ es'.toList.map kvOf = (mPut a v m).map fun p => (ek p.1, ev p.2) := by
  have hkeys : es.toList.map (·.key) = (m.map Prod.fst).map ek := by
    have := congrArg (List.map Prod.fst) hm
    simpa [kvOf, Function.comp_def] using this
  have hf := hk.find a es.toList (m.map Prod.fst) w hkeys
  cases hi : ixM a (m.map Prod.fst) with
  | none =>
    obtain ⟨_, k2⟩ := ixM_none hi
    refine ⟨es.push { key := ek a, val := ev v, born := clock }, clock + 1, ?_, ?_⟩
    · unfold Instr.mapUpdate
      rw [hi] at hf
      simp only [Sem.run_bind, run_underlying ht, Result.andThen_ok, MapKept.run_getObj_map hb, Sem.run_pure, hk.chk, hf, Option.bind_none, MapKept.run_setObj_map _ hb]
    · rw [k2]
      simp [hm, kvOf]
  | some j =>
    obtain ⟨v0, k1, _, k3⟩ := ixM_some hi
    have he : ∃ e, es.toList[j]? = some e ∧ e.key = ek a := by
      have h1 := congrArg (fun l => l[j]?) hm
      simp only [List.getElem?_map, k1, Option.map_some] at h1
      cases h2 : es.toList[j]? with
      | none => rw [h2] at h1; cases h1
      | some e =>
        rw [h2] at h1
        simp only [Option.map_some, Option.some.injEq, kvOf, Prod.mk.injEq] at h1
        exact ⟨e, rfl, h1.1⟩
    obtain ⟨e, e1, e2⟩ := he
    have e3 : es[j]? = some e := by simpa using e1
    refine ⟨es.modify j fun e => { e with key := ek a, val := ev v }, clock, ?_, ?_⟩
    · unfold Instr.mapUpdate
      rw [hi] at hf
      simp only [Sem.run_bind, run_underlying ht, Result.andThen_ok, MapKept.run_getObj_map hb, Sem.run_pure, hk.chk, hf, Option.bind_some, e1, Option.map_some, e3, Option.getD_some, e2, Instr.keyThatStays, hk.bits, if_true, MapKept.run_setObj_map _ hb]
    · rw [k3, Array.toList_modify]
      apply List.ext_getElem?
      intro i
      have h1 := congrArg (fun l => l[i]?) hm
      simp only [List.getElem?_map] at h1 ⊢
      rw [List.getElem?_modify, List.getElem?_set]
      by_cases hij : j = i
      · subst hij
        have hlt : j < m.length := (List.getElem?_eq_some_iff.1 k1).1
        simp [e1, hlt, kvOf]
      · simp only [hij, if_false, Option.map_map]
        rw [← h1]
        cases es.toList[i]? <;> rfl
/-- A map of the call's own is written. -/
theorem R.writeG {B : Fr} {w0 : World} {ok0 ok : Nat → Prop} {σ : Nat → Loc} {s : St} {a : Act} {w w' : World} (h : R B w0 ok0 ok σ s a w) {id : Nat} {e e' : Ent} {g : Nat} (he : s.ent id = some e) (hg : (σ id).blk = some g) (hsize : w'.heap.size = w.heap.size)
    (hw : ∀ q, q ≠ g → w'.heap[q]? = w.heap[q]?) (hos : w'.os = w.os) (htp : w'.tape = w.tape) (hou : w'.output = w.output) (E' : List (Nat × Ent)) (hE : ∀ j, (E'.lookup j) = if j = id then some e' else s.ent j) (hok : EntOk ok w' (σ id) e') (hpin : e'.pin = e.pin) :
    R B w0 ok0 ok σ ⟨s.T, E'⟩ a w' := by
  obtain ⟨hb1, hb2⟩ := h.core.blk id e g he hg
  have hB := h.own id e g he hg
  have hwok : ∀ q, ok q → w'.heap[q]? = w.heap[q]? := fun q hq => hw q fun e => hb1 (e ▸ hq)
  have look : ∀ j f, (St.mk s.T E').ent j = some f → (j = id ∧ f = e') ∨ (j ≠ id ∧ s.ent j = some f) := by
    intro j f hj
    have h1 : E'.lookup j = some f := hj
    rw [hE] at h1
    split at h1
    · rename_i hji
      exact .inl ⟨hji, by simpa using h1.symm⟩
    · rename_i hji
      exact .inr ⟨hji, h1⟩
  refine ⟨⟨h.core.len, fun q hq => by rw [hsize]; exact h.core.okL q hq, h.core.lib.mono (fun _ h => h) hwok, fun t => ?_, fun j f hj => ?_, fun j f q hj hq => ?_, fun i j f1 f2 q hi hj h1 h2 => ?_⟩, h.defers, h.below.trans ?_, by rw [hsize]; exact h.base, h.old, h.fresh, fun j f q hj hq => ?_⟩
  · have h1 := h.core.tmp t
    exact h1.mono0 (fun _ h => h) hwok
  · rcases look j f hj with ⟨rfl, rfl⟩ | ⟨h1, h2⟩
    · exact hok
    · refine (h.core.ent j f h2).mono (fun _ h => h) hwok fun q hq => hw q fun e1 => ?_
      subst e1
      exact h1 (h.core.inj _ _ _ _ _ h2 he hq hg)
  · rw [hsize]
    rcases look j f hj with ⟨rfl, rfl⟩ | ⟨h1, h2⟩
    · exact h.core.blk _ _ _ he hq
    · exact h.core.blk _ _ _ h2 hq
  · rcases look i f1 hi with ⟨a1, a2⟩ | ⟨a1, a2⟩ <;> rcases look j f2 hj with ⟨b1, b2⟩ | ⟨b1, b2⟩
    · omega
    · subst a1
      exact h.core.inj _ _ _ _ _ he b2 h1 h2
    · subst b1
      exact h.core.inj _ _ _ _ _ a2 he h1 h2
    · exact h.core.inj _ _ _ _ _ a2 b2 h1 h2
  · refine ⟨hos, htp, hou, by rw [hsize]; exact Nat.le_refl _, fun q hq hx => hw q fun e1 => ?_⟩
    subst e1
    split at hB
    · exact hx hB
    · omega
  · rcases look j f hj with ⟨rfl, rfl⟩ | ⟨h1, h2⟩
    · rw [hpin]
      exact h.own _ _ _ he hq
    · exact h.own _ _ _ h2 hq
def trV : Tr → Option Value
  | .v x => some x
  | _ => none
/-- A slot's value that is known. -/
def keyV : AV → Option Value
  | .c (.v x) => some x
  | .ag cs => (cs.mapM trV).map fun xs => .agg xs.toArray
  | _ => none
theorem mapM_v {ok : Nat → Prop} {w : World} : ∀ (cs : List Tr) (vs xs : List Value), RdL ok w cs vs → (cs.mapM trV) = some xs → vs = xs
  | [], _, xs, .nil, h => by simpa using h
  | c :: cs, _, xs, .cons h1 h2, h => by
    rw [List.mapM_cons] at h
    cases c with
    | v x =>
      simp only [trV, Option.pure_def, Option.bind_eq_bind, Option.bind_some] at h
      cases h3 : (cs.mapM trV) with
      | none => rw [h3] at h; cases h
      | some ys =>
        rw [h3] at h
        simp only [Option.bind_some, Option.some.injEq] at h
        subst h
        have := mapM_v cs _ ys h2 h3
        subst this
        cases h1
        rfl
    | sl e => simp [trV] at h
    | mp e => simp [trV] at h
theorem keyV_eval {ok : Nat → Prop} {σ : Nat → Loc} {s : St} {a : Act} {w : World} (h : Core ok σ s a w) {x : Operand} {v : Value} (hx : keyV (s.ev x) = some v) : a.eval x = v := by
  have h1 := h.ev x
  cases hs : s.ev x with
  | c t =>
    rw [hs] at hx
    cases t with
    | v y =>
      injection hx with hx
      subst hx
      exact h.exact hs
    | sl e => cases hx
    | mp e => cases hx
  | ag cs =>
    rw [hs] at hx h1
    obtain ⟨vs, hv, hr⟩ := (h1 : Rel1 ok σ w (.ag cs) (a.eval x))
    simp only [keyV, Option.map_eq_some_iff] at hx
    obtain ⟨xs, h2, h3⟩ := hx
    have := mapM_v cs vs.toList xs hr h2
    rw [hv, ← h3, ← this]
  | bot => rw [hs] at hx; cases hx
  | ow _ => rw [hs] at hx; cases hx
  | pt _ _ => rw [hs] at hx; cases hx
  | po _ _ _ _ => rw [hs] at hx; cases hx
  | pe _ => rw [hs] at hx; cases hx
  | fn _ _ => rw [hs] at hx; cases hx
  | er _ => rw [hs] at hx; cases hx
  | vw _ _ _ => rw [hs] at hx; cases hx
  | sf _ _ _ => rw [hs] at hx; cases hx
  | tn => rw [hs] at hx; cases hx
  | tc _ _ => rw [hs] at hx; cases hx
def MpOk (P : Program) (t : TypeId) {κ ν : Type} [DecidableEq κ] (ek : κ → Value) (ev : ν → Value) (z : ν) : Prop := ∃ kt vt, P.underlying t = some (.map kt vt) ∧ KeyT P kt ek ∧ (P.info? vt).bind (·.zero) = some (ev z) ∧ ∀ v, (ev v).oneCell' = true
theorem lookup_own {ok : Nat → Prop} {σ : Nat → Loc} {s : St} {a : Act} {w : World} (h : Core ok σ s a w) {x : Operand} {id b : Nat} {kvs : List (Value × Value)} (hx : s.ev x = .c (.v (.map (some b)))) (he : s.ent id = some (.mp b kvs)) : a.eval x = .map (some b) ∧ ∃ es clock, w.heap[b]? = some (.map es clock) ∧ es.toList.map kvOf = kvs := by
  obtain ⟨h1, es, clock, h2, h3⟩ := h.ent id _ he
  exact ⟨h.exact hx, es, clock, h2, h3⟩
theorem Y0_lookM {o : Oper} {s : St} {x k : Operand} {t : TypeId} {κ ν : Type} [DecidableEq κ] {ek : κ → Value} {ev : ν → Value} {z : ν} {id b : Nat} {m : List (κ × ν)} {a : κ} (hm : MpOk P t ek ev z) (ho : o.op = .lookup t x k false) (hx : s.ev x = .c (.v (.map (some b)))) (he : s.ent id = some (.mp b (m.map fun p => (ek p.1, ev p.2)))) (hk : keyV (s.ev k) = some (ek a)) :
    Y0 P o s (.c (.v (ev (mAt a m z)))) :=
  Y0_of_run fun ok σ ac w hC => by
    obtain ⟨kt, vt, h1, h2, h3, h4⟩ := hm
    obtain ⟨e1, es, clock, e2, e3⟩ := lookup_own hC hx he
    have := run_lookupM h1 h2 h3 e2 e3 a false
    refine ⟨_, ?_, Rd.v _ (h4 _)⟩
    unfold execOp
    rw [ho]
    simp only [e1, keyV_eval hC hk, Sem.run_bind, this, Result.andThen_ok, Sem.run_pure]
    rfl
theorem X_putM {o : Oper} {s : St} {x k v : Operand} {t : TypeId} {κ ν : Type} [DecidableEq κ] {ek : κ → Value} {ev : ν → Value} {z : ν} {id b : Nat} {m : List (κ × ν)} {a : κ} {u : ν} (hm : MpOk P t ek ev z) (ho : o.op = .mapUpdate t x k v ∨ o.op = .insert t x k v) (hd : o.dst = none) (hx : s.ev x = .c (.v (.map (some b)))) (he : s.ent id = some (.mp b (m.map fun p => (ek p.1, ev p.2)))) (hk : keyV (s.ev k) = some (ek a)) (hv : s.ev v = .c (.v (ev u))) :
    X P o s ⟨s.T, setE id (.mp b ((mPut a u m).map fun p => (ek p.1, ev p.2))) s.E⟩ := by
  intro B w0 ok0 ok σ ac w hR K Q hK
  obtain ⟨kt, vt, h1, h2, h3, h4⟩ := hm
  obtain ⟨e1, es, clock, e2, e3⟩ := lookup_own hR.core hx he
  obtain ⟨es', clock', r1, r2⟩ := run_mapUpdateM h1 h2 e2 e3 a u
  have ek1 := keyV_eval hR.core hk
  have ev1 := hR.core.exact hv
  have hblk := (hR.core.ent id _ he).1
  have hset := MapKept.heap_set (o' := .map es' clock') e2
  have hR' := hR.writeG (w' := { w with heap := w.heap.setIfInBounds b (.map es' clock') }) he hblk (by simp) (fun q hq => hset.2 q hq) rfl rfl rfl _ (setE_look id (.mp b ((mPut a u m).map fun p => (ek p.1, ev p.2))) s.E _ he) ⟨hblk, es', clock', hset.1, r2⟩ rfl
  have hrun : (execOp ac.eval o).run P w = .ok .skip { w with heap := w.heap.setIfInBounds b (.map es' clock') } := by
    unfold execOp
    rcases ho with ho | ho <;> rw [ho] <;> simp only [e1, ek1, ev1, Sem.run_bind, r1, Result.andThen_ok, Sem.run_pure]
  unfold Oper.wp
  rw [hrun]
  show K (ac.put o.dst undef) _
  rw [hd]
  exact hK _ _ _ _ hR'
/-- A map is made: its place is known from then on. -/
theorem XL_mkmap {ops : Array Oper} {o : Oper} {rest : List Oper} {s : St} {J : St → Prop} {t : TypeId} {d : Nat} (hg : o.guard = none) (ho : o.op = .makeMap t none) (hd : o.dst = some d) (hk : ∀ b : Nat, XL P ops rest ⟨(killT d s.T).set d (.c (.v (.map (some b)))), (d * 8, .mp b []) :: killE d s.E⟩ J) : XL P ops (o :: rest) s J := by
  intro B w0 ok0 ok σ a w hR Q hQ
  refine wpList_plain hg fun K hK => ?_
  have hnew : New w (w.alloc (.map #[] 0)) ok ok (fun _ => ⟨some w.heap.size, 0, 0⟩) (.c (.v (.map (some w.heap.size)))) [(0, .mp w.heap.size [])] (.map (some w.heap.size)) := by
    have ha := MapKept.heap_alloc w (.map #[] 0)
    have hsz : (w.alloc (.map #[] 0)).heap.size = w.heap.size + 1 := by
      show (w.heap.push _).size = _
      simp
    refine ⟨⟨rfl, rfl, rfl, by omega, fun k hk => ha.2 k hk⟩, fun _ h => h, fun _ h => .inl h, fun g hg => by have := hR.core.okL g hg; omega, Rd.v _ rfl, fun id e he => ?_, fun e he => rfl, fun id e he => ?_, fun id e g he hg => ?_, fun i j e f g hi hj _ _ => ?_, fun id e he => ?_⟩
    · obtain ⟨h1, _⟩ := look_one _ _ _ _ he; omega
    · obtain ⟨h1, h2⟩ := look_one _ _ _ _ he
      subst h2
      exact ⟨rfl, #[], 0, ha.1, rfl⟩
    · have e1 : w.heap.size = g := by simpa using hg
      subst e1
      exact ⟨Nat.le_refl _, fun h => Nat.lt_irrefl _ (hR.core.okL _ h), by omega⟩
    · obtain ⟨h1, _⟩ := look_one _ _ _ _ hi
      obtain ⟨h2, _⟩ := look_one _ _ _ _ hj
      omega
    · obtain ⟨_, h2⟩ := look_one _ _ _ _ he
      subst h2; rfl
  have hrun : (execOp a.eval o).run P w = .ok (.value (.map (some w.heap.size))) (w.alloc (.map #[] 0)) := by
    unfold execOp
    rw [ho]
    simp [Instr.makeMap]
  have hR' := hR.upd (d := d) hnew
  unfold Oper.wp
  rw [hrun]
  show K (a.put o.dst _) _
  rw [hd]
  exact hK _ _ (hk w.heap.size B w0 ok0 ok (fun id => if id / 8 = d then ⟨some w.heap.size, 0, 0⟩ else σ id) _ _ hR' Q hQ)
/-- A statement, with a map's place that is known behind it. -/
theorem V_regM {id : Nat} {ops : Array Oper} {s : St} {J : Exit → St → Prop} (S : Nat → St) (m : List Bool) (ids : List Nat) (h : XL P ops ops.toList s (fun s' => ∃ b, s'.keep m ids = S b)) (hj : ∀ b, J .normal (S b)) : V P (.region id ops false) s J := by
  refine zX fun B w0 ok0 ok σ a w hR Q hQ => ?_
  refine h _ _ _ _ _ _ _ hR Q fun s' a' w' ok' σ' hs hR' => ?_
  obtain ⟨b, hs⟩ := hs
  exact hQ _ a' w' ok' σ' (hj b) (by rw [← hs]; exact hR'.le (keep_le m ids s'))
theorem V_sregM {id : Nat} {ops : Array Oper} {y : Code} {s : St} {J : Exit → St → Prop} (S : Nat → St) (m : List Bool) (ids : List Nat) (h : XL P ops ops.toList s (fun s' => ∃ b, s'.keep m ids = S b)) (hv : ∀ b, V P y (S b) J) : V P (.seq (.region id ops false) y) s J := zG (V_regM S m ids h hv)
end
end Go.Proofs.YtfmjfofocklgpaaGreatDoor
namespace Go.Proofs.YtfmjfofocklgpaaGreatDoor
open Go.RowKit
set_option linter.unusedSimpArgs false
set_option linter.unusedVariables false
section
variable {P : Program}
/-- What is more general is shown instead. -/
theorem V_gen {α : Type} {c : Code} {s : St} {J : Exit → St → Prop} (S : α → St) (g : α) (h0 : s = S g) (h : ∀ g, V P c (S g) J) : V P c s J := by
  rw [h0]
  exact h g
/-- A slice that is nil, as a row of the call's own. -/
theorem R_nilrow {B : Fr} {w0 : World} {ok0 ok : Nat → Prop} {σ : Nat → Loc} {s : St} {a : Act} {w : World} (hR : R B w0 ok0 ok σ s a w) (k T sz : Nat) (hk : s.ent k = none) (hz : 0 < sz) :
    R B w0 ok0 ok (fun i => if i = k then loc0 else σ i) ⟨killI k s.T, (k, .qarr loc0 T sz []) :: s.E⟩ a w := by
  have lk : ∀ i e, (St.mk (killI k s.T) ((k, .qarr loc0 T sz []) :: s.E)).ent i = some e → (i = k ∧ e = .qarr loc0 T sz []) ∨ (i ≠ k ∧ s.ent i = some e) := by
    intro i e hi
    unfold St.ent at hi
    simp only [List.lookup] at hi
    cases hik : (i == k) with
    | true => rw [hik] at hi; exact .inl ⟨by simpa using hik, by simpa using hi.symm⟩
    | false => rw [hik] at hi; exact .inr ⟨by simpa using hik, hi⟩
  refine ⟨⟨by simpa [killI_len] using hR.core.len, hR.core.okL, hR.core.lib, fun t => ?_, fun i e hi => ?_, fun i e g hi hg => ?_, fun i i2 e f2 g hi hi2 h1 h2 => ?_⟩, hR.defers, hR.below, hR.base, hR.old, hR.fresh, fun i e g hi hg => ?_⟩
  · have e0 : (St.mk (killI k s.T) ((k, .qarr loc0 T sz []) :: s.E)).get t = (bif (s.get t).mid k then AV.bot else s.get t) := by
      unfold St.get
      exact killI_get k s.T t
    rw [e0]
    cases hm : (s.get t).mid k with
    | true => trivial
    | false => exact (hR.core.tmp t).mid k (fun _ h => h) (fun _ _ => rfl) hm (fun i hi => by simp [hi])
  · rcases lk i e hi with ⟨rfl, rfl⟩ | ⟨h1, h2⟩
    · simp only [if_true]
      exact ⟨rfl, hz, rfl, (by intro el h; cases h), [], World.ownsRow_nil w 0 _ sz, RdL.nil⟩
    · simp only [if_neg h1]
      exact hR.core.ent i e h2
  · rcases lk i e hi with ⟨rfl, rfl⟩ | ⟨h1, h2⟩
    · simp only [if_true] at hg
      cases hg
    · simp only [if_neg h1] at hg
      exact hR.core.blk i e g h2 hg
  · rcases lk i e hi with ⟨a1, _⟩ | ⟨a1, a2⟩ <;> rcases lk i2 f2 hi2 with ⟨b1, _⟩ | ⟨b1, b2⟩
    · rw [a1, b1]
    · simp only [a1, if_true] at h1
      cases h1
    · simp only [b1, if_true] at h2
      cases h2
    · simp only [if_neg a1] at h1
      simp only [if_neg b1] at h2
      exact hR.core.inj _ _ _ _ _ a2 b2 h1 h2
  · rcases lk i e hi with ⟨rfl, rfl⟩ | ⟨h1, h2⟩
    · simp only [if_true] at hg
      cases hg
    · simp only [if_neg h1] at hg
      exact hR.own i e g h2 hg
theorem V_nilrow {c : Code} {s : St} {J : Exit → St → Prop} (k T sz : Nat) (hk : s.ent k = none) (hz : 0 < sz) (h : V P c ⟨killI k s.T, (k, .qarr loc0 T sz []) :: s.E⟩ J) : V P c s J := fun _ _ _ _ _ _ _ hR => h _ _ _ _ _ _ _ (R_nilrow hR k T sz hk hz)
/-- One entry is told otherwise, and one slot. -/
theorem R_alter {B : Fr} {w0 : World} {ok0 ok : Nat → Prop} {σ : Nat → Loc} {s : St} {a : Act} {w : World} (hR : R B w0 ok0 ok σ s a w) {k t : Nat} {e e' : Ent} {av : AV} (he : s.ent k = some e) (hok : EntOk ok w (σ k) e → EntOk ok w (σ k) e') (hp : e'.pin = e.pin) (hav : Rel ok σ w av (a.tmps.getD t undef)) :
    R B w0 ok0 ok σ ⟨s.T.set t av, setE k e' s.E⟩ a w := by
  have look := setE_look k e' s.E e he
  have lk : ∀ i f, (setE k e' s.E).lookup i = some f → (i = k ∧ f = e') ∨ (i ≠ k ∧ s.ent i = some f) := by
    intro i f hi
    rw [look] at hi
    by_cases h : i = k
    · rw [if_pos h] at hi; exact .inl ⟨h, by simpa using hi.symm⟩
    · rw [if_neg h] at hi; exact .inr ⟨h, hi⟩
  refine ⟨⟨by simpa using hR.core.len, hR.core.okL, hR.core.lib, fun u => ?_, fun i f hi => ?_, fun i f g hi hg => ?_, fun i i2 f f2 g hi hi2 h1 h2 => ?_⟩, hR.defers, hR.below, hR.base, hR.old, hR.fresh, fun i f g hi hg => ?_⟩
  · have e0 := get_put s t u av
    unfold St.put at e0
    have e1 : (St.mk (s.T.set t av) (setE k e' s.E)).get u = if t = u ∧ t < s.T.length then av else s.get u := e0
    rw [e1]
    split
    · rename_i h
      rw [← h.1]
      exact hav
    · exact hR.core.tmp u
  · rcases lk i f hi with ⟨rfl, rfl⟩ | ⟨h1, h2⟩
    · exact hok (hR.core.ent _ _ he)
    · exact hR.core.ent i f h2
  · rcases lk i f hi with ⟨rfl, rfl⟩ | ⟨h1, h2⟩
    · exact hR.core.blk _ _ g he hg
    · exact hR.core.blk i f g h2 hg
  · have key : ∀ i f, (setE k e' s.E).lookup i = some f → ∃ f0, s.ent i = some f0 := by
      intro i f hi
      rcases lk i f hi with ⟨rfl, _⟩ | ⟨_, h⟩
      · exact ⟨_, he⟩
      · exact ⟨_, h⟩
    obtain ⟨f0, k1⟩ := key i f hi
    obtain ⟨f3, k2⟩ := key i2 f2 hi2
    exact hR.core.inj _ _ _ _ g k1 k2 h1 h2
  · rcases lk i f hi with ⟨rfl, rfl⟩ | ⟨h1, h2⟩
    · rw [hp]; exact hR.own _ _ g he hg
    · exact hR.own i f g h2 hg
/-- A row that lies in a variable's cell is loaded: it is the call's own again. -/
theorem XL_unpinQ {ops : Array Oper} {rest : List Oper} {s : St} {J : St → Prop} (t k : Nat) {l : Loc} {T sz : Nat} {els : List (List Tr)} (ht : s.get t = .c (.v (zE l))) (hk : s.ent k = some (.qarr l T sz els)) (h : XL P ops rest ⟨s.T.set t (.ow k), setE k (.arr T sz els) s.E⟩ J) : XL P ops rest s J := by
  intro B w0 ok0 ok σ a w hR Q hQ
  refine h _ _ _ _ _ _ _ (R_alter hR hk (fun h => h.2) rfl ?_) Q hQ
  have h1 := hR.core.tmp t
  rw [ht] at h1
  have h2 : Rd ok w (.v (zE l)) (a.tmps.getD t undef) := h1
  have h3 := (hR.core.ent k _ hk).1
  show _ = zE (σ k)
  rw [h3]
  generalize a.tmps.getD t undef = y at h2
  cases h2
  rfl
/-- A row of the call's own is to go into a variable's cell: its place is told. -/
theorem XL_pinQ {ops : Array Oper} {rest : List Oper} {s : St} {J : St → Prop} (t k : Nat) {T sz : Nat} {els : List (List Tr)} (ht : s.get t = .ow k) (hk : s.ent k = some (.arr T sz els)) (h : ∀ l : Loc, XL P ops rest ⟨s.T.set t (.c (.v (zE l))), setE k (.qarr l T sz els) s.E⟩ J) : XL P ops rest s J := by
  intro B w0 ok0 ok σ a w hR Q hQ
  have h1 := hR.core.tmp t
  rw [ht] at h1
  have h2 : a.tmps.getD t undef = zE (σ k) := h1
  refine h (σ k) _ _ _ _ _ _ _ (R_alter hR hk (fun h => ⟨rfl, h⟩) rfl ?_) Q hQ
  rw [h2]
  exact Rd.v _ rfl
theorem V_regQ {α : Type} {id : Nat} {ops : Array Oper} {s : St} {J : Exit → St → Prop} (S : α → St) (m : List Bool) (ids : List Nat) (h : XL P ops ops.toList s (fun s' => ∃ b, s'.keep m ids = S b)) (hj : ∀ b, J .normal (S b)) : V P (.region id ops false) s J := by
  refine zX fun B w0 ok0 ok σ a w hR Q hQ => ?_
  refine h _ _ _ _ _ _ _ hR Q fun s' a' w' ok' σ' hs hR' => ?_
  obtain ⟨b, hs⟩ := hs
  exact hQ _ a' w' ok' σ' (hj b) (by rw [← hs]; exact hR'.le (keep_le m ids s'))
theorem V_sregQ {α : Type} {id : Nat} {ops : Array Oper} {y : Code} {s : St} {J : Exit → St → Prop} (S : α → St) (m : List Bool) (ids : List Nat) (h : XL P ops ops.toList s (fun s' => ∃ b, s'.keep m ids = S b)) (hv : ∀ b, V P y (S b) J) : V P (.seq (.region id ops false) y) s J := zG (V_regQ S m ids h hv)
theorem V_toKQ {α : Type} {c : Code} {s : St} {S : α → St} {J : Exit → St → Prop} (m : List Bool) (ids : List Nat) (h1 : V P c s (thenA (fun s' => ∃ g, s'.keep m ids = S g) J)) (h2 : ∀ g, J .normal (S g)) : V P c s J := by
  intro B w0 ok0 ok σ a w hR
  refine wp_mono (h1 _ _ _ _ _ _ _ hR) ?_
  rintro e a' w' ⟨s', ok', σ', hJ, hR'⟩
  cases e with
  | normal =>
    obtain ⟨g, hk⟩ : ∃ g, s'.keep m ids = S g := hJ
    have h3 := h2 g
    rw [← hk] at h3
    exact ⟨_, ok', σ', h3, hR'.le (keep_le m ids s')⟩
  | exit id => exact ⟨s', ok', σ', hJ, hR'⟩
  | goto l => exact ⟨s', ok', σ', hJ, hR'⟩
  | ret => exact ⟨s', ok', σ', hJ, hR'⟩
  | panic ch => exact ⟨s', ok', σ', hJ, hR'⟩
  | outgrown => exact ⟨s', ok', σ', hJ, hR'⟩
theorem V_toSQ {α β γ : Type} {q : α ⊕ β} {c : Code} {s : St} {S : α → γ → St} {J : Exit → St → Prop} (m : List Bool) (ids : List Nat) (h1 : V P c s (thenA (fun s' => ∃ o, q = .inl o ∧ ∃ g, s'.keep m ids = S o g) J)) (h2 : ∀ o, q = .inl o → ∀ g, J .normal (S o g)) : V P c s J := by
  intro B w0 ok0 ok σ a w hR
  refine wp_mono (h1 _ _ _ _ _ _ _ hR) ?_
  rintro e a' w' ⟨s', ok', σ', hJ, hR'⟩
  cases e with
  | normal =>
    obtain ⟨o, ho, g, hk⟩ : ∃ o, q = .inl o ∧ ∃ g, s'.keep m ids = S o g := hJ
    have h3 := h2 o ho g
    rw [← hk] at h3
    exact ⟨_, ok', σ', h3, hR'.le (keep_le m ids s')⟩
  | exit id => exact ⟨s', ok', σ', hJ, hR'⟩
  | goto l => exact ⟨s', ok', σ', hJ, hR'⟩
  | ret => exact ⟨s', ok', σ', hJ, hR'⟩
  | panic ch => exact ⟨s', ok', σ', hJ, hR'⟩
  | outgrown => exact ⟨s', ok', σ', hJ, hR'⟩
/-- A row in a variable's cell that nobody writes any more. -/
theorem R_frzQ {B : Fr} {w0 : World} {ok0 ok : Nat → Prop} {σ : Nat → Loc} {s : St} {a : Act} {w : World} (hR : R B w0 ok0 ok σ s a w) (k id2 j : Nat) {l : Loc} {T sz : Nat} {els : List (List Tr)} {cs : List Tr} (he : s.ent k = some (.qarr l T sz els)) (h2 : s.ent id2 = some (.box cs)) (hj : cs[j]? = some (.v (zE l))) :
    R B w0 ok0 (fun g => ok g ∨ (σ k).blk = some g) σ ⟨s.T, setE id2 (.box (cs.set j (.sl els))) (rmE k s.E)⟩ a w := by
  have hup : ∀ g, ok g → ok g ∨ (σ k).blk = some g := fun g hg => .inl hg
  have hl : σ k = l := (hR.core.ent k _ he).1
  have hne : id2 ≠ k := fun e => by rw [e, he] at h2; cases h2
  have hrm : (rmE k s.E).lookup id2 = some (.box cs) := by rw [rmE_look, if_neg hne]; exact h2
  have lk : ∀ i e, (setE id2 (.box (cs.set j (.sl els))) (rmE k s.E)).lookup i = some e → (i = id2 ∧ e = .box (cs.set j (.sl els))) ∨ (i ≠ id2 ∧ i ≠ k ∧ s.ent i = some e) := by
    intro i e hi
    rw [setE_look id2 _ _ _ hrm] at hi
    by_cases h : i = id2
    · rw [if_pos h] at hi
      exact .inl ⟨h, by simpa using hi.symm⟩
    · rw [if_neg h, rmE_look] at hi
      split at hi
      · cases hi
      · rename_i hn
        exact .inr ⟨h, hn, hi⟩
  -- the row, read
  have hread : Rd (fun g => ok g ∨ (σ k).blk = some g) w (.sl els) (zE l) := by
    have hR1 := R_alter (t := s.T.length) (av := .bot) hR he (fun h => h.2) (e' := .arr T sz els) rfl trivial
    have hk1 : (St.mk (s.T.set s.T.length .bot) (setE k (.arr T sz els) s.E)).ent k = some (.arr T sz els) := by
      have := setE_look k (.arr T sz els) s.E _ he k
      rw [if_pos rfl] at this
      exact this
    have hle : Le ⟨[], [(k, .arr T sz els)]⟩ ⟨s.T.set s.T.length .bot, setE k (.arr T sz els) s.E⟩ := ⟨Nat.zero_le _, fun t => .inl (by simp [St.get]), fun i e hi => by
      unfold St.ent at hi
      simp only [List.lookup] at hi
      split at hi
      · rename_i hik
        have : i = k := by simpa using hik
        subst this
        injection hi with hi
        subst hi
        exact hk1
      · cases hi⟩
    have h1 : Rel ok σ w (.ow k) (zE (σ k)) := rfl
    have h3 := snap_rel (hR1.le hle).core h1
    have e2 : snapA ⟨[], [(k, .arr T sz els)]⟩ (.ow k) = .c (.sl els) := by
      simp [snapA, St.entc, St.ent, List.lookup, Ent.core]
    rw [e2, hl] at h3
    have h4 : Rel (fun g => ok g ∨ (σ k).blk = some g) σ w (.c (.sl els)) (zE l) := by
      refine h3.mono0 (fun g hg => ?_) fun _ _ => rfl
      rcases hg with hg | ⟨i, e, hi, hg⟩
      · exact .inl hg
      · refine .inr ?_
        unfold St.ent at hi
        simp only [List.lookup] at hi
        split at hi
        · rename_i hik
          have : i = k := by simpa using hik
          subst this
          exact hg
        · cases hi
    exact h4
  refine ⟨⟨hR.core.len, fun g hg => ?_, hR.core.lib.mono hup (fun _ _ => rfl), fun t => (hR.core.tmp t).mono0 hup fun _ _ => rfl, fun i e hi => ?_, fun i e g hi hg => ?_, fun i i2 e f g hi hk h1 h3 => ?_⟩, hR.defers, hR.below, hR.base, fun g hg => .inl (hR.old g hg), fun g hg => ?_, fun i e g hi hg => ?_⟩
  · rcases hg with hg | hg
    · exact hR.core.okL g hg
    · exact (hR.core.blk k _ g he hg).2
  · rcases lk i e hi with ⟨rfl, rfl⟩ | ⟨_, _, h5⟩
    · obtain ⟨g, arr, T', g1, g2, g3⟩ := hR.core.ent _ _ h2
      refine ⟨g, arr, T', g1, g2, ?_⟩
      have hr := g3.mono hup (fun _ _ => rfl : ∀ g, ok g → w.heap[g]? = w.heap[g]?)
      obtain ⟨u, hu1, hu2⟩ := g3.get j _ hj
      have huv : u = zE l := by
        generalize zE l = v at hu2
        cases hu2
        rfl
      subst huv
      have hset := hr.set j hread
      have : arr.toList.set j (zE l) = arr.toList := by
        apply List.ext_getElem?
        intro q
        rw [List.getElem?_set]
        split
        · rename_i hq
          subst hq
          split
          · exact hu1.symm
          · rename_i hlt
            rw [List.getElem?_eq_none (by omega)]
        · rfl
      rwa [this] at hset
    · exact (hR.core.ent i e h5).mono hup (fun _ _ => rfl) fun _ _ => rfl
  · have key : ∃ e0, s.ent i = some e0 ∧ i ≠ k := by
      rcases lk i e hi with ⟨rfl, rfl⟩ | ⟨_, h4, h5⟩
      · exact ⟨_, h2, hne⟩
      · exact ⟨e, h5, h4⟩
    obtain ⟨e0, k1, k2⟩ := key
    obtain ⟨h3, h4⟩ := hR.core.blk i e0 g k1 hg
    refine ⟨fun h5 => ?_, h4⟩
    rcases h5 with h5 | h5
    · exact h3 h5
    · exact k2 (hR.core.inj _ _ _ _ _ k1 he hg h5)
  · have key : ∀ i e, (setE id2 (.box (cs.set j (.sl els))) (rmE k s.E)).lookup i = some e → ∃ e0, s.ent i = some e0 := by
      intro i e hi
      rcases lk i e hi with ⟨rfl, rfl⟩ | ⟨_, h4, h5⟩
      · exact ⟨_, h2⟩
      · exact ⟨e, h5⟩
    obtain ⟨e0, k1⟩ := key i e hi
    obtain ⟨f0, k2⟩ := key i2 f hk
    exact hR.core.inj i i2 e0 f0 g k1 k2 h1 h3
  · rcases hg with hg | hg
    · exact hR.fresh g hg
    · have := hR.own k _ g he hg
      rw [if_neg (fun hc => by cases hc)] at this
      exact .inr this
  · rcases lk i e hi with ⟨rfl, rfl⟩ | ⟨_, _, h5⟩
    · have h6 : B.n ≤ g := hR.own _ _ g h2 hg
      exact h6
    · exact hR.own i e g h5 hg
theorem V_frzQ {c : Code} {s s1 : St} {J : Exit → St → Prop} (k id2 j : Nat) {l : Loc} {T sz : Nat} {els : List (List Tr)} {cs : List Tr} (he : s.ent k = some (.qarr l T sz els)) (h2 : s.ent id2 = some (.box cs)) (hj : cs[j]? = some (.v (zE l))) (hs : (⟨s.T, setE id2 (.box (cs.set j (.sl els))) (rmE k s.E)⟩ : St) = s1) (h : V P c s1 J) : V P c s J := by
  subst hs
  exact fun _ _ _ _ _ _ _ hR => h _ _ _ _ _ _ _ (R_frzQ hR k id2 j he h2 hj)
/-- A slice that is nil, told as an empty one. -/
theorem V_nilSl {c : Code} {s s1 : St} {J : Exit → St → Prop} (id j : Nat) {cs : List Tr} (he : s.ent id = some (.box cs)) (hj : cs[j]? = some (.v (.slice none 0 0))) (hs : (⟨s.T, setE id (.box (cs.set j (.sl []))) s.E⟩ : St) = s1) (h : V P c s1 J) : V P c s J := by
  subst hs
  intro B w0 ok0 ok σ a w hR
  have e0 : s.T.set s.T.length .bot = s.T := List.set_eq_of_length_le (Nat.le_refl _)
  have hR1 := R_alter (t := s.T.length) (av := .bot) hR he (e' := .box (cs.set j (.sl []))) (fun h => by
    obtain ⟨g, arr, T', g1, g2, g3⟩ := h
    refine ⟨g, arr, T', g1, g2, ?_⟩
    obtain ⟨u, hu1, hu2⟩ := g3.get j _ hj
    have huv : u = .slice none 0 0 := by cases hu2; rfl
    subst huv
    have hset := g3.set j (Rd.nl (ok := ok) (w := w) none 0)
    have : arr.toList.set j (.slice none 0 0) = arr.toList := by
      apply List.ext_getElem?
      intro q
      rw [List.getElem?_set]
      split
      · rename_i hq
        subst hq
        split
        · exact hu1.symm
        · rename_i hlt
          rw [List.getElem?_eq_none (by omega)]
      · rfl
    rwa [this] at hset) rfl trivial
  rw [e0] at hR1
  exact h _ _ _ _ _ _ _ hR1
end
end Go.Proofs.YtfmjfofocklgpaaGreatDoor
namespace Go.Proofs.YtfmjfofocklgpaaGreatDoor
open Go.RowKit
set_option linter.unusedVariables false
set_option linter.unusedSimpArgs false
/-- Not part of a number. -/
def pFF (x : Nat) : Bool := (x != 45) && (decide (x < 48) || decide (57 < x))
theorem pOf_ff : pOf r_impl_integersIn_1 = pFF := by
  funext x
  unfold pOf pFF r_impl_integersIn_1
  simp only [Option.bind_some, Option.getD_some, eqI_eq, ltI_eq]
  have e : ((x : Int) == 45) = (x == 45) := by rw [Bool.eq_iff_iff, beq_iff_eq, beq_iff_eq]; omega
  have e1 : decide ((x : Int) < 48) = decide (x < 48) := by rw [decide_eq_decide]; omega
  have e2 : decide ((57 : Int) < (x : Int)) = decide (57 < x) := by rw [decide_eq_decide]; omega
  rw [e, e1, e2]
  cases h1 : (x == 45) <;> cases h2 : decide (x < 48) <;> cases h3 : decide (57 < x) <;> simp_all [bne]
theorem pFF_int (x : Nat) : pFF x = (((x : Int) != 45) && (decide ((x : Int) < 48) || decide (57 < (x : Int)))) := by
  unfold pFF
  have e : ((x : Int) != 45) = (x != 45) := by rw [Bool.eq_iff_iff, bne_iff_ne, bne_iff_ne]; omega
  have e1 : decide ((x : Int) < 48) = decide (x < 48) := by rw [decide_eq_decide]; omega
  have e2 : decide ((57 : Int) < (x : Int)) = decide (57 < x) := by rw [decide_eq_decide]; omega
  rw [e, e1, e2]
theorem drew0 (W : World) : ∃ q, W = W.drewN q := ⟨0, rfl⟩
theorem ff_gives (w : World) : Go.Proofs.PredAt Tryz.prog 230 #[] (fun x : Nat => Value.int .i32 (x : Int)) pFF w := by
  intro W x hb
  unfold Go.Proofs.FnGives
  go_enter Tryz.func230, Tryz.ntmps230
  go_wp2
  · rename_i h
    go_ret
    refine ⟨?_, drew0 W⟩
    rw [pFF_int, h]
    rfl
  · go_ret
    refine ⟨?_, drew0 W⟩
    rw [pFF_int]
    rfl
  · rename_i h1 h2
    go_ret
    refine ⟨?_, drew0 W⟩
    rw [pFF_int, decide_eq_true h2, Bool.true_or, Bool.and_true]
    rfl
theorem s_strings_FieldsFunc_230 {s : ByteArray} {r : List ByteArray} (h : r_strings_FieldsFunc (pOf r_impl_integersIn_1) s = some r) : zQ Tryz.prog 229 [.c (.v (.string s)), .c (.v (.func (.func 230) #[] #[]))] (.ow 0) [(0, .arr 9 1 (r.map cStr))] := by
  rw [pOf_ff] at h
  exact s_FieldsFunc (run_callFunc Tryz.func230 (by kernel_rfl) (by kernel_rfl)) ff_gives h
end Go.Proofs.YtfmjfofocklgpaaGreatDoor
namespace Go.Proofs.YtfmjfofocklgpaaGreatDoor
open Go.RowKit
set_option linter.unusedVariables false
set_option linter.unusedSimpArgs false
set_option maxRecDepth 100000
set_option maxHeartbeats 400000
def c9 (x : ByteArray) : List Tr := [.v (.string x)]
def c3 (x : Int) : List Tr := [Ti x]
def c38 (x : (Int × Int × Int)) : List Tr := [Ti x.1, Ti x.2.1, Ti x.2.2]
def c109 (x : (Int × Int × Int × Int)) : List Tr := [Ti x.1, Ti x.2.1, Ti x.2.2.1, Ti x.2.2.2]
def c24 (x : List Int) : List Tr := [.sl (x.map c3)]
def zv3 : Value := .int .i64 0
def zv9 : Value := .string ByteArray.empty
def zv24 : Value := .slice none 0 0
def zv38 : Value := .agg #[.int .i64 0, .int .i64 0, .int .i64 0]
def zv109 : Value := .agg #[.int .i64 0, .int .i64 0, .int .i64 0, .int .i64 0]
theorem iz3 : (Tryz.prog.info? 3).map (fun i => (i.zero, i.size)) = some (some zv3, 1) := by kernel_rfl
theorem iz9 : (Tryz.prog.info? 9).map (fun i => (i.zero, i.size)) = some (some zv9, 1) := by kernel_rfl
theorem iz24 : (Tryz.prog.info? 24).map (fun i => (i.zero, i.size)) = some (some zv24, 1) := by kernel_rfl
theorem iz38 : (Tryz.prog.info? 38).map (fun i => (i.zero, i.size)) = some (some zv38, 3) := by kernel_rfl
theorem iz109 : (Tryz.prog.info? 109).map (fun i => (i.zero, i.size)) = some (some zv109, 4) := by kernel_rfl
theorem izb3 : (Tryz.prog.info? 3).map (fun i => (i.zero, i.size, i.bytes)) = some (some zv3, 1, 8) := by kernel_rfl
theorem izb9 : (Tryz.prog.info? 9).map (fun i => (i.zero, i.size, i.bytes)) = some (some zv9, 1, 16) := by kernel_rfl
theorem izb38 : (Tryz.prog.info? 38).map (fun i => (i.zero, i.size, i.bytes)) = some (some zv38, 3, 24) := by kernel_rfl
theorem izb109 : (Tryz.prog.info? 109).map (fun i => (i.zero, i.size, i.bytes)) = some (some zv109, 4, 32) := by kernel_rfl
theorem sc3 : scalar Tryz.prog 3 := ⟨_, Tryz.underlying3, rfl⟩
theorem sc9 : scalar Tryz.prog 9 := ⟨_, Tryz.underlying9, rfl⟩
theorem sc24 : scalar Tryz.prog 24 := ⟨_, Tryz.underlying24, rfl⟩
theorem sz3 : (Tryz.prog.info? 3).map (·.size) = some 1 := by kernel_rfl
theorem sz9 : (Tryz.prog.info? 9).map (·.size) = some 1 := by kernel_rfl
theorem sz24 : (Tryz.prog.info? 24).map (·.size) = some 1 := by kernel_rfl
theorem sz38 : (Tryz.prog.info? 38).map (·.size) = some 3 := by kernel_rfl
theorem sz109 : (Tryz.prog.info? 109).map (·.size) = some 4 := by kernel_rfl
theorem wd38 : wide Tryz.prog 38 3 := ⟨⟨_, Tryz.underlying38, rfl⟩, by kernel_rfl⟩
theorem wd62 : wide Tryz.prog 62 4 := ⟨⟨_, Tryz.underlying62, rfl⟩, by kernel_rfl⟩
theorem wd98 : wide Tryz.prog 98 3 := ⟨⟨_, Tryz.underlying98, rfl⟩, by kernel_rfl⟩
theorem wd109 : wide Tryz.prog 109 4 := ⟨⟨_, Tryz.underlying109, rfl⟩, by kernel_rfl⟩
theorem wd169 : wide Tryz.prog 169 9 := ⟨⟨_, Tryz.underlying169, rfl⟩, by kernel_rfl⟩
theorem wd178 : wide Tryz.prog 178 12 := ⟨⟨_, Tryz.underlying178, rfl⟩, by kernel_rfl⟩
def pl38 : Nat → Option (Nat × Nat) := fun i => (#[(0, 1), (1, 1), (2, 1)] : Array (Nat × Nat))[i]?
theorem bt38 : ∀ ps, Tryz.prog.built 38 ps = Instr.fill pl38 #[.int .i64 0, .int .i64 0, .int .i64 0] ps := fun ps => by kernel_rfl
def pl62 : Nat → Option (Nat × Nat) := fun i => (#[(0, 1), (1, 1), (2, 1), (3, 1)] : Array (Nat × Nat))[i]?
theorem bt62 : ∀ ps, Tryz.prog.built 62 ps = Instr.fill pl62 #[.string ByteArray.empty, .slice none 0 0, .slice none 0 0, .slice none 0 0] ps := fun ps => by kernel_rfl
def pl109 : Nat → Option (Nat × Nat) := fun i => (#[(0, 1), (1, 1), (2, 1), (3, 1)] : Array (Nat × Nat))[i]?
theorem bt109 : ∀ ps, Tryz.prog.built 109 ps = Instr.fill pl109 #[.int .i64 0, .int .i64 0, .int .i64 0, .int .i64 0] ps := fun ps => by kernel_rfl
def pl168 : Nat → Option (Nat × Nat) := fun i => some (i * 1, 1)
theorem bt168 : ∀ ps, Tryz.prog.built 168 ps = Instr.fill pl168 #[.int .i64 0, .int .i64 0, .int .i64 0] ps := fun ps => by kernel_rfl
def pl169 : Nat → Option (Nat × Nat) := fun i => some (i * 3, 3)
theorem bt169 : ∀ ps, Tryz.prog.built 169 ps = Instr.fill pl169 #[.int .i64 0, .int .i64 0, .int .i64 0, .int .i64 0, .int .i64 0, .int .i64 0, .int .i64 0, .int .i64 0, .int .i64 0] ps := fun ps => by kernel_rfl
def pl178 : Nat → Option (Nat × Nat) := fun i => (#[(0, 1), (1, 1), (2, 1), (3, 1), (4, 4), (8, 4)] : Array (Nat × Nat))[i]?
theorem bt178 : ∀ ps, Tryz.prog.built 178 ps = Instr.fill pl178 #[.int .i64 0, .int .i64 0, .int .i64 0, .int .i64 0, .int .i64 0, .int .i64 0, .int .i64 0, .int .i64 0, .int .i64 0, .int .i64 0, .int .i64 0, .int .i64 0] ps := fun ps => by kernel_rfl
theorem eqg38 : EqAg3 Tryz.prog .eql 38 := by
 intro a0 a1 a2 b0 b1 b2 x y w
 have hg : (eqGuard .eql 38 x y (.agg #[.int .i64 a0, .int .i64 a1, .int .i64 a2]) (.agg #[.int .i64 b0, .int .i64 b1, .int .i64 b2])).run Tryz.prog w = .ok () w := by simp [eqGuard, (by kernel_rfl : Tryz.prog.eqGuardType Tryz.prog.depth 38 = false)]
 have hf : (Tryz.prog.fieldsOf 38).toList = (match Tryz.prog.underlying 38 with | some (.struct fs) => fs.toList | _ => []) := by kernel_rfl
 refine ⟨hg, ?_⟩
 rw [run_eql_struct, run_equalIn_agg (d := 9999) (ht := by kernel_rfl) (hp := by kernel_rfl), hf, Tryz.underlying38]
 by_cases h0 : a0 = b0 <;> by_cases h1 : a1 = b1 <;> by_cases h2 : a2 = b2 <;> simp [Op.eqFields, part, go_sem, h0, h1, h2]
theorem neg38 : EqAg3 Tryz.prog .neq 38 := by
 intro a0 a1 a2 b0 b1 b2 x y w
 have hg : (eqGuard .neq 38 x y (.agg #[.int .i64 a0, .int .i64 a1, .int .i64 a2]) (.agg #[.int .i64 b0, .int .i64 b1, .int .i64 b2])).run Tryz.prog w = .ok () w := by simp [eqGuard, (by kernel_rfl : Tryz.prog.eqGuardType Tryz.prog.depth 38 = false)]
 have hf : (Tryz.prog.fieldsOf 38).toList = (match Tryz.prog.underlying 38 with | some (.struct fs) => fs.toList | _ => []) := by kernel_rfl
 refine ⟨hg, ?_⟩
 rw [run_neq_struct, run_equalIn_agg (d := 9999) (ht := by kernel_rfl) (hp := by kernel_rfl), hf, Tryz.underlying38]
 by_cases h0 : a0 = b0 <;> by_cases h1 : a1 = b1 <;> by_cases h2 : a2 = b2 <;> simp [Op.eqFields, part, go_sem, h0, h1, h2]
def ek161 (x : ByteArray) : Value := .string x
def ev161 (x : ByteArray) : Value := .string x
def kv161 (p : ByteArray × ByteArray) : Value × Value := (ek161 p.1, ev161 p.2)
theorem kt161 : KeyT Tryz.prog 9 ek161 := by
 refine keyT_now (.string) Tryz.underlying9 (fun b a w => ?_) (fun a b => ?_) (fun a => ?_)
 ·exact MapKept.run_checkKey Tryz.underlying9 (by simp [MapKept.IsKey, ek161]) b 9999
 ·simp [ek161, Instr.sameNow, ba_beq]
 ·simp [ek161, Instr.sameBits, ba_beq]
theorem mo161 : MpOk Tryz.prog 161 ek161 ev161 ByteArray.empty := ⟨9, 9, Tryz.underlying161, kt161, by kernel_rfl, fun _ => rfl⟩
theorem cf_spec_l1Split : CfW Tryz.prog 85 := cfW Tryz.func85
theorem s_spec_l1Split {vs1 : ByteArray} {b2 : Int} {r : List ByteArray} (h : r_spec_l1Split vs1 b2 = some r) : zQ Tryz.prog 85 [.c (.v (.string vs1)), .c (.v (.int .u8 b2))] (.ow 0) [(0, .arr 9 1 (r.map c9))] := by
 refine CtW [4] Tryz.func85 rfl rfl 34 ?_
 unfold r_spec_l1Split at h
 refine VS ?_
 refine L1 rfl rfl (Y1_nil (e := 9) 1 (by decide) (.inl rfl)) ?_
 refine YF ?_
 refine VS ?_
 refine L1 rfl rfl (Y1_nil (e := 9) 1 (by decide) (.inl rfl)) ?_
 refine YF ?_
 refine VE ?_
 refine zG ?_
 refine VE ?_
 obtain ⟨o7, hLo7, h⟩ := zA h
 refine V_toK (mb 34 97) [40] (s1 := ⟨.c (.v (.string vs1)) :: bt 4 (.ow 40 :: I o7.1 :: bt 27 []), [(40, .arr 9 1 (o7.2.map c9))]⟩) ?_ ?_
 ·clear h
  refine zH (V_loop (fun n s => ∃ (vfrom3 : Int) (i4 : Int) (l5 : List ByteArray), s.keep (mb 34 227) [40] = (⟨.c (.v (.string vs1)) :: .c (.v (.int .u8 b2)) :: bt 3 (.ow 40 :: I vfrom3 :: I i4 :: bt 26 []), [(40, .arr 9 1 (l5.map c9))]⟩ : St) ∧ r_spec_l1Split_L6 b2 vs1 n vfrom3 i4 l5 = some o7) FU ⟨_, _, _,  kk, hLo7⟩ ?_)
  clear hLo7
  rintro n s ⟨vfrom3, i4, l5, hs, h⟩
  refine zV _ _ hs ?_
  clear hs
  cases n with
  | zero => cases h
  | succ n =>
   rw [r_spec_l1Split_L6] at h
   refine zG ?_
   refine VS ?_
   refine YF ?_
   refine VC h (fun h => ?_) (fun h => ?_)
   ·refine zK ?_
    show V _ _ _ _
    refine zG ?_
    refine zH ?_
    obtain ⟨e9, he9, h⟩ := zA h
    refine VS ?_
    refine YR 2 ?_
    refine L0 rfl rfl (Y0_idxs (b := vs1) (k := .i64) (n := i4) (v := e9) Tryz.underlying9 rfl kk kk he9) ?_
    refine YF ?_
    refine VC h (fun h => ?_) (fun h => ?_)
    ·obtain ⟨u11, hu11, h⟩ := zA h
     obtain ⟨u12, hu12, h⟩ := zA h
     refine VS ?_
     refine YR 4 ?_
     refine L0 rfl rfl (Y0_slices (b := vs1) (l := vfrom3) (h := i4) Tryz.underlying9 rfl kk (fun y hy => by cases hy; exact ⟨.i64, kk⟩) (fun hh => by cases hh) (fun y hy => by cases hy; exact ⟨.i64, kk⟩) (fun hh => by cases hh) (slc_some hu11)) ?_
     refine L1 rfl rfl (Y1_bslice (z := zv9) (els := [vs1.extract (Int.toNat vfrom3) (Int.toNat i4)].map c9) Tryz.underlying66 iz9 rfl (by decide) rfl kk rfl (by simp [c9]) (by decide) (by decide)) ?_
     refine XL_cons rfl (X_appendM (c := c9) (xs := l5) (ys := [vs1.extract (Int.toNat vfrom3) (Int.toNat i4)]) (id := 40) (z := zv9) rfl rfl Tryz.underlying66 izb9 rfl kk kk kk (fun _ => rfl) (by simp) (room_some hu12) (by decide)) ?_
     refine YF ?_
     obtain ⟨vfrom13, hvfrom13, h⟩ := zU h
     refine V_reg (mb 34 227) [40] (s1 := ⟨.c (.v (.string vs1)) :: .c (.v (.int .u8 b2)) :: bt 3 (.ow 40 :: I vfrom13 :: I i4 :: bt 26 []), [(40, .arr 9 1 ((l5 ++ ([vs1.extract (Int.toNat vfrom3) (Int.toNat i4)])).map c9))]⟩) ?_ ?_
     ·refine XR 3 ?_
      refine zD ?_
      subst hvfrom13
      kernel_rfl
     show V _ _ _ _
     obtain ⟨i14, hi14, h⟩ := zU h
     refine V_reg (mb 34 227) [40] (s1 := ⟨.c (.v (.string vs1)) :: .c (.v (.int .u8 b2)) :: bt 3 (.ow 40 :: I vfrom13 :: I i14 :: bt 26 []), [(40, .arr 9 1 ((l5 ++ ([vs1.extract (Int.toNat vfrom3) (Int.toNat i4)])).map c9))]⟩) ?_ ?_
     ·refine XR 3 ?_
      refine zD ?_
      subst hi14
      kernel_rfl
     exact ⟨n, Nat.lt_succ_self n, _, _, _,  kk, h⟩
    ·refine zK ?_
     show V _ _ _ _
     obtain ⟨i15, hi15, h⟩ := zU h
     refine V_reg (mb 34 227) [40] (s1 := ⟨.c (.v (.string vs1)) :: .c (.v (.int .u8 b2)) :: bt 3 (.ow 40 :: I vfrom3 :: I i15 :: bt 26 []), [(40, .arr 9 1 (l5.map c9))]⟩) ?_ ?_
     ·refine XR 3 ?_
      refine zD ?_
      subst hi15
      kernel_rfl
     exact ⟨n, Nat.lt_succ_self n, _, _, _,  kk, h⟩
   ·refine V_exit ?_
    obtain rfl := zB h
    show St.keep _ _ _ = _
    kernel_rfl
 show V _ _ _ _
 obtain ⟨u16, hu16, h⟩ := zA h
 obtain ⟨u17, hu17, h⟩ := zA h
 obtain ⟨l18, hl18, h⟩ := zA h
 have hl18 := zB hl18
 refine zO (mb 34 16) [40] (s1 := ⟨bt 4 (.ow 40 :: bt 29 []), [(40, .arr 9 1 (l18.map c9))]⟩) ?_ ?_
 ·refine XR 3 ?_
  refine L0 rfl rfl (Y0_slices (b := vs1) (l := o7.1) (h := (vs1.size : Int)) Tryz.underlying9 rfl kk (fun y hy => by cases hy; exact ⟨.i64, kk⟩) (fun hh => by cases hh) (fun y hy => by cases hy) (fun _ => rfl) (slc_some hu16)) ?_
  refine L1 rfl rfl (Y1_bslice (z := zv9) (els := [vs1.extract (Int.toNat o7.1) (Int.toNat ((vs1.size : Int)))].map c9) Tryz.underlying66 iz9 rfl (by decide) rfl kk rfl (by simp [c9]) (by decide) (by decide)) ?_
  refine XL_cons rfl (X_appendM (c := c9) (xs := o7.2) (ys := [vs1.extract (Int.toNat o7.1) (Int.toNat ((vs1.size : Int)))]) (id := 40) (z := zv9) rfl rfl Tryz.underlying66 izb9 rfl kk kk kk (fun _ => rfl) (by simp) (room_some hu17) (by decide)) ?_
  refine XR 1 ?_
  refine zD ?_
  subst hl18
  kernel_rfl
 cases h
 exact zJ VT
theorem cf_spec_prWords : CfW Tryz.prog 143 := cfW Tryz.func143
theorem s_spec_prWords {kind1 : ByteArray} {r : ByteArray} (h : r_spec_prWords kind1 = some r) : zQ Tryz.prog 143 [.c (.v (.string kind1))] (.c (.v (.string r))) [] := by
 refine CtW [2] Tryz.func143 rfl rfl 20 ?_
 unfold r_spec_prWords at h
 refine VE ?_
 refine zG ?_
 refine VE ?_
 refine zH ?_
 obtain ⟨t2, ht2, h⟩ := zA h
 have ht2 := zB ht2
 refine zO (mb 20 24) [] (s1 := ⟨bt 3 (.c (.v (.string kind1)) :: Bo t2 :: bt 15 []), []⟩) ?_ ?_
 ·refine L0 rfl rfl (Y0_eqs (a := kind1) (b := ((⟨#[101, 113, 117, 105, 118, 97, 108, 101, 110, 116]⟩ : ByteArray))) rfl kk kk) ?_
  refine XR 1 ?_
  refine zD ?_
  subst ht2
  kernel_rfl
 refine VC h (fun h => ?_) (fun h => ?_)
 ·refine VE ?_
  cases h
  exact zJ VT
 ·obtain ⟨t4, ht4, h⟩ := zA h
  have ht4 := zB ht4
  refine zO (mb 20 72) [] (s1 := ⟨bt 3 (.c (.v (.string kind1)) :: .bot :: .bot :: Bo t4 :: bt 13 []), []⟩) ?_ ?_
  ·refine L0 rfl rfl (Y0_eqs (a := kind1) (b := ((⟨#[100, 105, 102, 102, 101, 114, 101, 110, 116]⟩ : ByteArray))) rfl kk kk) ?_
   refine XR 1 ?_
   refine zD ?_
   subst ht4
   kernel_rfl
  refine VC h (fun h => ?_) (fun h => ?_)
  ·refine VE ?_
   cases h
   exact zJ VT
  ·obtain ⟨t6, ht6, h⟩ := zA h
   have ht6 := zB ht6
   refine zO (mb 20 264) [] (s1 := ⟨bt 3 (.c (.v (.string kind1)) :: bt 4 (Bo t6 :: bt 11 [])), []⟩) ?_ ?_
   ·refine L0 rfl rfl (Y0_eqs (a := kind1) (b := ((⟨#[118, 97, 108, 117, 101]⟩ : ByteArray))) rfl kk kk) ?_
    refine XR 1 ?_
    refine zD ?_
    subst ht6
    kernel_rfl
   refine VC h (fun h => ?_) (fun h => ?_)
   ·refine VE ?_
    cases h
    exact zJ VT
   ·obtain ⟨j8, hj8, h⟩ := zA h
    refine V_cutK (mb 20 1032) [] (s1 := ⟨bt 3 (.c (.v (.string kind1)) :: bt 6 (Bo j8 :: bt 9 [])), []⟩) ?_ ?_
    ·clear h
     have h := hj8
     clear hj8
     obtain ⟨t9, ht9, h⟩ := zA h
     have ht9 := zB ht9
     refine zO (mb 20 1032) [] (s1 := ⟨bt 3 (.c (.v (.string kind1)) :: bt 6 (Bo t9 :: bt 9 [])), []⟩) ?_ ?_
     ·refine L0 rfl rfl (Y0_eqs (a := kind1) (b := ((⟨#[111, 98, 115, 116, 114, 117, 99, 116, 105, 111, 110]⟩ : ByteArray))) rfl kk kk) ?_
      refine XR 1 ?_
      refine zD ?_
      subst ht9
      kernel_rfl
     refine VC h (fun h => ?_) (fun h => ?_)
     ·refine zK ?_
      obtain rfl := zB h
      show St.keep _ _ _ = _
      kernel_rfl
     ·obtain ⟨t11, ht11, h⟩ := zA h
      have ht11 := zB ht11
      refine zO (mb 20 1032) [] (s1 := ⟨bt 3 (.c (.v (.string kind1)) :: bt 6 (Bo t11 :: bt 9 [])), []⟩) ?_ ?_
      ·refine L0 rfl rfl (Y0_eqs (a := kind1) (b := ((⟨#[114, 111, 111, 116]⟩ : ByteArray))) rfl kk kk) ?_
       refine XR 1 ?_
       refine zD ?_
       subst ht11
       kernel_rfl
      refine VC h (fun h => ?_) (fun h => ?_)
      ·refine zK ?_
       obtain rfl := zB h
       show St.keep _ _ _ = _
       kernel_rfl
      ·obtain ⟨t13, ht13, h⟩ := zA h
       have ht13 := zB ht13
       refine V_reg (mb 20 1032) [] (s1 := ⟨bt 3 (.c (.v (.string kind1)) :: bt 6 (Bo t13 :: bt 9 [])), []⟩) ?_ ?_
       ·refine L0 rfl rfl (Y0_eqs (a := kind1) (b := ((⟨#[115, 111, 108, 117, 116, 105, 111, 110]⟩ : ByteArray))) rfl kk kk) ?_
        refine XR 1 ?_
        refine zD ?_
        subst ht13
        kernel_rfl
       obtain rfl := zB h
       show St.keep _ _ _ = _
       kernel_rfl
    refine VC h (fun h => ?_) (fun h => ?_)
    ·refine VE ?_
     cases h
     exact zJ VT
    ·obtain ⟨t15, ht15, h⟩ := zA h
     have ht15 := zB ht15
     refine zO (mb 20 16392) [] (s1 := ⟨bt 3 (.c (.v (.string kind1)) :: bt 10 (Bo t15 :: bt 5 [])), []⟩) ?_ ?_
     ·refine L0 rfl rfl (Y0_eqs (a := kind1) (b := ((⟨#[99, 111, 109, 112, 111, 115, 105, 116, 101]⟩ : ByteArray))) rfl kk kk) ?_
      refine XR 1 ?_
      refine zD ?_
      subst ht15
      kernel_rfl
     refine VC h (fun h => ?_) (fun h => ?_)
     ·refine VE ?_
      cases h
      exact zJ VT
     ·obtain ⟨t17, ht17, h⟩ := zA h
      have ht17 := zB ht17
      refine zO (mb 20 65544) [] (s1 := ⟨bt 3 (.c (.v (.string kind1)) :: bt 12 (Bo t17 :: bt 3 [])), []⟩) ?_ ?_
      ·refine L0 rfl rfl (Y0_eqs (a := kind1) (b := ((⟨#[111, 114, 100, 101, 114]⟩ : ByteArray))) rfl kk kk) ?_
       refine XR 1 ?_
       refine zD ?_
       subst ht17
       kernel_rfl
      refine VC h (fun h => ?_) (fun h => ?_)
      ·refine VE ?_
       cases h
       exact zJ VT
      ·obtain ⟨t19, ht19, h⟩ := zA h
       have ht19 := zB ht19
       refine zO (mb 20 262144) [] (s1 := ⟨bt 18 (Bo t19 :: .bot :: []), []⟩) ?_ ?_
       ·refine L0 rfl rfl (Y0_eqs (a := kind1) (b := ((⟨#[97, 117, 116, 111, 109, 111, 114, 112, 104]⟩ : ByteArray))) rfl kk kk) ?_
        refine XR 1 ?_
        refine zD ?_
        subst ht19
        kernel_rfl
       refine VC h (fun h => ?_) (fun h => ?_)
       ·refine VE ?_
        cases h
        exact zJ VT
       ·refine zK ?_
        show V _ _ _ _
        refine VE ?_
        cases h
        exact zJ VT
theorem cf_spec_foInside : CfW Tryz.prog 214 := cfW Tryz.func214
theorem s_spec_foInside {vs1 : ByteArray} {first2 : Int} {last3 : Int} {r : (ByteArray × Bool)} (h : r_spec_foInside vs1 first2 last3 = some r) : zQ Tryz.prog 214 [.c (.v (.string vs1)), .c (.v (.int .u8 first2)), .c (.v (.int .u8 last3))] (.tc (.c (.v (.string r.1))) (.tc (Bo r.2) .tn)) [] := by
 refine CtW [6, 7] Tryz.func214 rfl rfl 31 ?_
 unfold r_spec_foInside at h
 refine VE ?_
 refine zG ?_
 obtain ⟨b6, hb6, h⟩ := zA h
 obtain ⟨b9, hb9, h⟩ := zA h
 refine zO (mb 31 33554433) [] (s1 := ⟨.c (.v (.string vs1)) :: bt 24 (Bo b9 :: bt 5 []), []⟩) ?_ ?_
 ·refine YR 4 ?_
  refine zI (ltI ((vs1.size : Int)) 2) (fun hc4 => ?_) (fun hc4 => ?_)
  ·have hb6 := zB (zN hb6 hc4)
   refine YQ hc4 ?_
   refine YR 6 ?_
   subst hb6
   have hc7 : true = true := rfl
   have hb9 := zB (zN hb9 hc7)
   exact YE (by rw [← hb9]; (try rw [hc4]); kernel_rfl)
  ·have hb6 := zC hb6 hc4
   obtain ⟨e5, he5, hb6⟩ := zA hb6
   have hb6 := zB hb6
   refine YQ hc4 ?_
   refine YR 1 ?_
   refine YT (X_of_Y0 rfl (Y0_idxs (b := vs1) (k := .i64) (n := 0) (v := e5) Tryz.underlying9 rfl kk kk he5)) ?_
   refine YR 4 ?_
   refine zI b6 (fun hc7 => ?_) (fun hc7 => ?_)
   ·have hb9 := zB (zN hb9 hc7)
    refine YQ hc7 ?_ (by rw [← hb6]; (try rw [← hb9]); (try rw [hc4]); kernel_rfl)
    exact YE (by rw [← hb9]; (try rw [hc4]); (try rw [hc7]); kernel_rfl)
   ·have hb9 := zC hb9 hc7
    obtain ⟨e8, he8, hb9⟩ := zA hb9
    have hb9 := zB hb9
    refine YQ hc7 ?_ (by rw [← hb6]; (try rw [← hb9]); (try rw [hc4]); kernel_rfl)
    refine YR 4 ?_
    refine YT (X_of_Y0 rfl (Y0_idxs (b := vs1) (k := .i64) (n := w64 (((vs1.size : Int)) - 1)) (v := e8) Tryz.underlying9 rfl kk kk he8)) ?_
    exact YE (by rw [← hb9]; (try rw [hc4]); (try rw [hc7]); kernel_rfl)
 refine VC h (fun h => ?_) (fun h => ?_)
 ·refine VE ?_
  cases h
  exact zJ VT
 ·refine zK ?_
  show V _ _ _ _
  obtain ⟨u11, hu11, h⟩ := zA h
  refine VS ?_
  refine YR 4 ?_
  refine L0 rfl rfl (Y0_slices (b := vs1) (l := 1) (h := w64 (((vs1.size : Int)) - 1)) Tryz.underlying9 rfl kk (fun y hy => by cases hy; exact ⟨.i64, kk⟩) (fun hh => by cases hh) (fun y hy => by cases hy; exact ⟨.i64, kk⟩) (fun hh => by cases hh) (slc_some hu11)) ?_
  refine YF ?_
  cases h
  exact zJ VT
theorem cf_spec_l1In : CfW Tryz.prog 91 := cfW Tryz.func91
theorem s_spec_l1In {vn1 : Int} {lo2 : Int} {hi3 : Int} {r : Bool} (h : r_spec_l1In vn1 lo2 hi3 = some r) : zQ Tryz.prog 91 [I vn1, I lo2, I hi3] (Bo r) [] := by
 refine CtW [6] Tryz.func91 rfl rfl 15 ?_
 unfold r_spec_l1In at h
 refine VE ?_
 refine zO (mb 15 64) [] (s1 := ⟨bt 6 (Bo (bif (leI lo2 vn1) then (leI vn1 hi3) else false) :: bt 8 []), []⟩) ?_ ?_
 ·refine YR 4 ?_
  refine zI (leI lo2 vn1) (fun hc4 => ?_) (fun hc4 => ?_)
  ·refine YQ hc4 ?_
   exact YE (by rw [hc4]; kernel_rfl)
  ·refine YQ hc4 ?_
   exact YE (by rw [hc4]; kernel_rfl)
 cases h
 exact zJ VT
theorem cf_spec_nuRead : CfW Tryz.prog 216 := cfW Tryz.func216
theorem s_spec_nuRead {vs1 : ByteArray} {r : Int} (h : r_spec_nuRead vs1 = some r) : zQ Tryz.prog 216 [.c (.v (.string vs1))] (I r) [] := by
 refine CtW [2] Tryz.func216 rfl rfl 44 ?_
 unfold r_spec_nuRead at h
 refine VE ?_
 refine zG ?_
 obtain ⟨y2, hy2, h⟩ := zA h
 obtain ⟨b6, hb6, h⟩ := zA h
 refine zO (mb 44 262145) [] (s1 := ⟨.c (.v (.string vs1)) :: bt 17 (Bo b6 :: bt 25 []), []⟩) ?_ ?_
 ·refine YK 2 (s_spec_l1In hy2) cf_spec_l1In ?_
  refine YR 2 ?_
  refine zI (!y2) (fun hc3 => ?_) (fun hc3 => ?_)
  ·have hb6 := zB (zN hb6 hc3)
   refine YQ hc3 ?_
   exact YE (by rw [← hb6]; (try rw [hc3]); kernel_rfl)
  ·have hb6 := zC hb6 hc3
   obtain ⟨e4, he4, hb6⟩ := zA hb6
   have hb6 := zB hb6
   refine YQ hc3 ?_
   refine YR 1 ?_
   refine YT (X_of_Y0 rfl (Y0_idxs (b := vs1) (k := .i64) (n := 0) (v := e4) Tryz.underlying9 rfl kk kk he4)) ?_
   refine YR 2 ?_
   refine zI (eqI e4 48) (fun hc5 => ?_) (fun hc5 => ?_)
   ·refine YQ hc5 ?_
    exact YE (by rw [← hb6]; (try rw [hc5]); (try rw [hc3]); kernel_rfl)
   ·refine YQ hc5 ?_
    exact YE (by rw [← hb6]; (try rw [hc5]); (try rw [hc3]); kernel_rfl)
 refine VC h (fun h => ?_) (fun h => ?_)
 ·refine VE ?_
  cases h
  exact zJ VT
 ·refine zK ?_
  show V _ _ _ _
  refine VE ?_
  refine zG ?_
  refine VE ?_
  obtain ⟨qo11, hLo11, hko11⟩ := zA h
  refine V_toS (q := qo11) (S := fun o11 => ⟨bt 3 (I o11 :: bt 40 []), []⟩) (mb 44 8) [] ?_ ?_
  ·refine zH (V_loop (fun n s => ∃ (vn8 : Int) (i9 : Int), s.keep (mb 44 25) [] = (⟨.c (.v (.string vs1)) :: .bot :: .bot :: I vn8 :: I i9 :: bt 39 [], []⟩ : St) ∧ r_spec_nuRead_L10 vs1 n vn8 i9 = some qo11) FU ⟨_, _,  kk, hLo11⟩ ?_)
   clear hLo11
   rintro n s ⟨vn8, i9, hs, h⟩
   refine zV _ _ hs ?_
   clear hs
   cases n with
   | zero => cases h
   | succ n =>
    rw [r_spec_nuRead_L10] at h
    refine zG ?_
    refine VS ?_
    refine YF ?_
    refine VC h (fun h => ?_) (fun h => ?_)
    ·refine zK ?_
     show V _ _ _ _
     refine zG ?_
     refine zH ?_
     refine zG ?_
     obtain ⟨e13, he13, h⟩ := zA h
     obtain ⟨b16, hb16, h⟩ := zA h
     refine zO (mb 44 17179869209) [] (s1 := ⟨.c (.v (.string vs1)) :: .bot :: .bot :: I vn8 :: I i9 :: bt 29 (Bo b16 :: bt 9 []), []⟩) ?_ ?_
     ·refine YR 2 ?_
      refine L0 rfl rfl (Y0_idxs (b := vs1) (k := .i64) (n := i9) (v := e13) Tryz.underlying9 rfl kk kk he13) ?_
      refine YR 2 ?_
      refine zI (ltI e13 48) (fun hc14 => ?_) (fun hc14 => ?_)
      ·have hb16 := zB (zN hb16 hc14)
       refine YQ hc14 ?_
       exact YE (by rw [← hb16]; (try rw [hc14]); kernel_rfl)
      ·have hb16 := zC hb16 hc14
       obtain ⟨e15, he15, hb16⟩ := zA hb16
       have hb16 := zB hb16
       refine YQ hc14 ?_
       refine YR 2 ?_
       refine YT (X_of_Y0 rfl (Y0_idxs (b := vs1) (k := .i64) (n := i9) (v := e15) Tryz.underlying9 rfl kk kk he15)) ?_
       exact YE (by rw [← hb16]; (try rw [hc14]); kernel_rfl)
     refine VC h (fun h => ?_) (fun h => ?_)
     ·refine VE ?_
      refine zJ ?_
      obtain rfl := zB h
      have h := hko11
      obtain rfl := zB h
      exact VT
     ·refine zK ?_
      show V _ _ _ _
      obtain ⟨e18, he18, h⟩ := zA h
      obtain ⟨vn19, hvn19, h⟩ := zU h
      refine V_reg (mb 44 25) [] (s1 := ⟨.c (.v (.string vs1)) :: .bot :: .bot :: I vn19 :: I i9 :: bt 39 [], []⟩) ?_ ?_
      ·refine XR 4 ?_
       refine L0 rfl rfl (Y0_idxs (b := vs1) (k := .i64) (n := i9) (v := e18) Tryz.underlying9 rfl kk kk he18) ?_
       refine L0 rfl rfl (Y0_sub (k := .u8) (a := e18) (b := 48) rfl kk kk) ?_
       refine L0 rfl rfl (Y0_conv (k2 := .u8) (a := IntKind.u8.wrap (e18 - 48)) Tryz.underlying5 Tryz.underlying3 rfl kk) ?_
       refine XR 2 ?_
       refine zD ?_
       subst hvn19
       kernel_rfl
      show V _ _ _ _
      obtain ⟨i20, hi20, h⟩ := zU h
      refine V_reg (mb 44 25) [] (s1 := ⟨.c (.v (.string vs1)) :: .bot :: .bot :: I vn19 :: I i20 :: bt 39 [], []⟩) ?_ ?_
      ·refine XR 3 ?_
       refine zD ?_
       subst hi20
       kernel_rfl
      exact ⟨n, Nat.lt_succ_self n, _, _,  kk, h⟩
    ·refine V_exit ?_
     obtain rfl := zB h
     exact ⟨_, rfl, kk⟩
  rintro o11 rfl
  have h := hko11
  clear hko11
  show V _ _ _ _
  refine VE ?_
  cases h
  exact zJ VT
theorem cf_spec_foInt : CfW Tryz.prog 146 := cfW Tryz.func146
theorem s_spec_foInt {vs1 : ByteArray} {r : (Int × Bool)} (h : r_spec_foInt vs1 = some r) : zQ Tryz.prog 146 [.c (.v (.string vs1))] (.tc (I r.1) (.tc (Bo r.2) .tn)) [] := by
 refine CtW [2, 3] Tryz.func146 rfl rfl 36 ?_
 unfold r_spec_foInt at h
 refine VE ?_
 obtain ⟨b4, hb4, h⟩ := zA h
 refine zO (mb 36 17) [] (s1 := ⟨.c (.v (.string vs1)) :: bt 3 (Bo b4 :: bt 31 []), []⟩) ?_ ?_
 ·refine YR 4 ?_
  refine zI (ltI 1 ((vs1.size : Int))) (fun hc2 => ?_) (fun hc2 => ?_)
  ·have hb4 := zN hb4 hc2
   obtain ⟨e3, he3, hb4⟩ := zA hb4
   have hb4 := zB hb4
   refine YQ hc2 ?_
   refine YR 1 ?_
   refine YT (X_of_Y0 rfl (Y0_idxs (b := vs1) (k := .i64) (n := 0) (v := e3) Tryz.underlying9 rfl kk kk he3)) ?_
   exact YE (by rw [← hb4]; (try rw [hc2]); kernel_rfl)
  ·have hb4 := zB (zC hb4 hc2)
   refine YQ hc2 ?_
   exact YE (by rw [← hb4]; (try rw [hc2]); kernel_rfl)
 obtain ⟨j5, hj5, h⟩ := zA h
 refine V_cutK (mb 36 17) [] (s1 := ⟨.c (.v (.string j5)) :: bt 3 (Bo b4 :: bt 31 []), []⟩) ?_ ?_
 ·clear h
  have h := hj5
  clear hj5
  refine VE ?_
  refine VC h (fun h => ?_) (fun h => ?_)
  ·obtain ⟨u7, hu7, h⟩ := zA h
   refine zX ?_
   refine YR 1 ?_
   refine L0 rfl rfl (Y0_slices (b := vs1) (l := 1) (h := (vs1.size : Int)) Tryz.underlying9 rfl kk (fun y hy => by cases hy; exact ⟨.i64, kk⟩) (fun hh => by cases hh) (fun y hy => by cases hy) (fun _ => rfl) (slc_some hu7)) ?_
   refine YF ?_
   obtain rfl := zB h
   show St.keep _ _ _ = _
   kernel_rfl
  ·refine zK ?_
   obtain rfl := zB h
   show St.keep _ _ _ = _
   kernel_rfl
 obtain ⟨y8, hy8, h⟩ := zA h
 refine VS ?_
 refine YK 1 (s_spec_nuRead hy8) cf_spec_nuRead ?_
 refine YF ?_
 refine zG ?_
 obtain ⟨t12, ht12, h⟩ := zA h
 have ht12 := zB ht12
 refine zO (mb 36 2147483696) [] (s1 := ⟨bt 4 (Bo b4 :: I y8 :: bt 25 (Bo t12 :: bt 4 [])), []⟩) ?_ ?_
 ·refine YR 3 ?_
  refine zI (ltI y8 0) (fun hc9 => ?_) (fun hc9 => ?_)
  ·refine YQ hc9 ?_
   refine YR 7 ?_
   refine zI (bif (ltI y8 0) then true else (bif b4 then (eqI y8 0) else false)) (fun hc11 => ?_) (fun hc11 => ?_)
   ·refine YQ hc11 ?_ (by rw [hc9]; kernel_rfl)
    exact YE (by rw [← ht12]; (try rw [hc11]); (try rw [hc9]); kernel_rfl)
   ·refine YQ hc11 ?_ (by rw [hc9]; kernel_rfl)
    exact YE (by rw [← ht12]; (try rw [hc11]); (try rw [hc9]); kernel_rfl)
  ·refine YQ hc9 ?_
   refine YR 2 ?_
   refine zI b4 (fun hc10 => ?_) (fun hc10 => ?_)
   ·refine YQ hc10 ?_
    refine YR 5 ?_
    refine zI (bif (ltI y8 0) then true else (bif b4 then (eqI y8 0) else false)) (fun hc11 => ?_) (fun hc11 => ?_)
    ·refine YQ hc11 ?_ (by rw [hc9]; (try rw [hc10]); kernel_rfl)
     exact YE (by rw [← ht12]; (try rw [hc11]); (try rw [hc9]); (try rw [hc10]); kernel_rfl)
    ·refine YQ hc11 ?_ (by rw [hc9]; (try rw [hc10]); kernel_rfl)
     exact YE (by rw [← ht12]; (try rw [hc11]); (try rw [hc9]); (try rw [hc10]); kernel_rfl)
   ·refine YQ hc10 ?_
    refine YR 5 ?_
    refine zI (bif (ltI y8 0) then true else (bif b4 then (eqI y8 0) else false)) (fun hc11 => ?_) (fun hc11 => ?_)
    ·refine YQ hc11 ?_ (by rw [hc9]; (try rw [hc10]); kernel_rfl)
     exact YE (by rw [← ht12]; (try rw [hc11]); (try rw [hc9]); (try rw [hc10]); kernel_rfl)
    ·refine YQ hc11 ?_ (by rw [hc9]; (try rw [hc10]); kernel_rfl)
     exact YE (by rw [← ht12]; (try rw [hc11]); (try rw [hc9]); (try rw [hc10]); kernel_rfl)
 refine VC h (fun h => ?_) (fun h => ?_)
 ·refine VE ?_
  cases h
  exact zJ VT
 ·refine zK ?_
  show V _ _ _ _
  refine zG ?_
  refine VE ?_
  refine VC h (fun h => ?_) (fun h => ?_)
  ·obtain ⟨t15, ht15, h⟩ := zU h
   refine zO (mb 36 12) [] (s1 := ⟨.bot :: .bot :: I t15 :: Bo true :: bt 32 [], []⟩) ?_ ?_
   ·refine XR 4 ?_
    refine zD ?_
    subst ht15
    kernel_rfl
   cases h
   exact zJ VT
  ·refine zK ?_
   show V _ _ _ _
   refine VE ?_
   cases h
   exact zJ VT
theorem cf_spec_foInts : CfW Tryz.prog 215 := cfW Tryz.func215
theorem s_spec_foInts {vs1 : ByteArray} {b2 : Int} {count3 : Int} {r : List Int} (h : r_spec_foInts vs1 b2 count3 = some r) : zQ Tryz.prog 215 [.c (.v (.string vs1)), .c (.v (.int .u8 b2)), I count3] (.ow 0) [(0, .arr 3 1 (r.map c3))] := by
 refine CtW [6] Tryz.func215 rfl rfl 39 ?_
 unfold r_spec_foInts at h
 refine VS ?_
 refine L1 rfl rfl (Y1_nil (e := 3) 1 (by decide) (.inl rfl)) ?_
 refine YF ?_
 obtain ⟨y4, hy4, h⟩ := zA h
 refine VS ?_
 refine YK 2 (s_spec_l1Split hy4) cf_spec_l1Split ?_
 refine YF ?_
 refine zG ?_
 refine VS ?_
 refine YR 1 ?_
 refine L0 rfl rfl (Y0_lenM (c := c9) (xs := y4) Tryz.underlying66 rfl kk) ?_
 refine YF ?_
 refine VC h (fun h => ?_) (fun h => ?_)
 ·refine VS ?_
  refine L1 rfl rfl (Y1_nil (e := 3) 1 (by decide) (.inl rfl)) ?_
  refine YF ?_
  cases h
  exact zJ VT
 ·refine zK ?_
  show V _ _ _ _
  refine VS ?_
  refine L1 rfl rfl (Y1_nil (e := 3) 1 (by decide) (.inl rfl)) ?_
  refine YF ?_
  refine zG ?_
  refine VS ?_
  refine YR 1 ?_
  refine L0 rfl rfl (Y0_lenM (c := c9) (xs := y4) Tryz.underlying66 rfl kk) ?_
  refine YF ?_
  obtain ⟨qo9, hLo9, hko9⟩ := zA h
  refine V_toS (q := qo9) (S := fun o9 => ⟨bt 8 (.ow 64 :: bt 30 []), [(64, .arr 3 1 (o9.map c3))]⟩) (mb 39 256) [64] ?_ ?_
  ·refine zH (V_loop (fun n s => ∃ (t6 : Int) (l7 : List Int), s.keep (mb 39 7340288) [64, 120] = (⟨bt 8 (.ow 64 :: bt 11 (.ow 120 :: I ((y4.length : Int)) :: I t6 :: bt 16 [])), [(64, .arr 3 1 (l7.map c3)), (120, .arr 9 1 (y4.map c9))]⟩ : St) ∧ r_spec_foInts_L8 y4 n t6 l7 = some qo9) FU ⟨_, _,  kk, hLo9⟩ ?_)
   clear hLo9
   rintro n s ⟨t6, l7, hs, h⟩
   refine zV _ _ hs ?_
   clear hs
   cases n with
   | zero => cases h
   | succ n =>
    rw [r_spec_foInts_L8] at h
    refine VE ?_
    refine zG ?_
    refine VC h (fun h => ?_) (fun h => ?_)
    ·refine zK ?_
     show V _ _ _ _
     refine zG ?_
     refine zH ?_
     obtain ⟨e11, he11, h⟩ := zA h
     obtain ⟨e12, he12, h⟩ := zA h
     refine VS ?_
     refine L0 rfl rfl (Y0_idxoM (c := c9) (xs := y4) (v := e11) (id := 120) (T := 9) (sz := 1) (n := t6) Tryz.underlying66 sz9 rfl kk kk kk he11) ?_
     refine L0 rfl rfl (Y0_loado1 (c := c9) (xs := y4) (v := e12) (id := 120) (sz := 1) (T := 9) (off := 0) (n := t6) (d := .v (.string e12)) (ds := []) sc9 rfl kk kk he12 kk) ?_
     refine YF ?_
     obtain ⟨y13, hy13, h⟩ := zA h
     refine VS ?_
     refine YK 1 (s_spec_foInt hy13) cf_spec_foInt ?_
     refine YF ?_
     refine zG ?_
     refine VE ?_
     refine VC h (fun h => ?_) (fun h => ?_)
     ·refine VS ?_
      refine L1 rfl rfl (Y1_nil (e := 3) 1 (by decide) (.inl rfl)) ?_
      refine YF ?_
      refine zJ ?_
      obtain rfl := zB h
      have h := hko9
      obtain rfl := zB h
      exact VT
     ·refine zK ?_
      show V _ _ _ _
      obtain ⟨u15, hu15, h⟩ := zA h
      refine zX ?_
      refine YR 2 ?_
      refine L1 rfl rfl (Y1_bslice (z := zv3) (els := [y13.1].map c3) Tryz.underlying24 iz3 rfl (by decide) rfl kk rfl (by simp [c3]) (by decide) (by decide)) ?_
      refine XL_cons rfl (X_appendM (c := c3) (xs := l7) (ys := [y13.1]) (id := 64) (z := zv3) rfl rfl Tryz.underlying24 izb3 rfl kk kk kk (fun _ => rfl) (by simp) (room_some hu15) (by decide)) ?_
      refine YF ?_
      show V _ _ _ _
      obtain ⟨t16, ht16, h⟩ := zU h
      refine V_reg (mb 39 7340288) [64, 120] (s1 := ⟨bt 8 (.ow 64 :: bt 11 (.ow 120 :: I ((y4.length : Int)) :: I t16 :: bt 16 [])), [(64, .arr 3 1 ((l7 ++ ([y13.1])).map c3)), (120, .arr 9 1 (y4.map c9))]⟩) ?_ ?_
      ·refine XR 2 ?_
       refine zD ?_
       subst ht16
       kernel_rfl
      exact ⟨n, Nat.lt_succ_self n, _, _,  kk, h⟩
    ·refine V_exit ?_
     obtain rfl := zB h
     exact ⟨_, rfl, kk⟩
  rintro o9 rfl
  have h := hko9
  clear hko9
  show V _ _ _ _
  refine VE ?_
  cases h
  exact zJ VT
theorem cf_spec_foRead : CfW Tryz.prog 144 := cfW Tryz.func144
theorem s_spec_foRead {vs1 : ByteArray} {r : (((Int × Int × Int)) × Bool)} (h : r_spec_foRead vs1 = some r) : zQ Tryz.prog 144 [.c (.v (.string vs1))] (.tc (.ag [Ti r.1.1, Ti r.1.2.1, Ti r.1.2.2]) (.tc (Bo r.2) .tn)) [] := by
 refine zT (rs := [.w 2 3, .t 3]) (vs := [.cell 2 38, .tmp 3]) Tryz.func144 rfl rfl (.cons ⟨rfl, wd38⟩ (.cons rfl FitsL.nil)) (by decide) 32 rfl ?_
 unfold r_spec_foRead at h
 refine VE ?_
 obtain ⟨y2, hy2, h⟩ := zA h
 refine VS ?_
 refine YK 1 (s_spec_foInside hy2) cf_spec_foInside ?_
 refine YF ?_
 obtain ⟨y3, hy3, h⟩ := zA h
 refine VS ?_
 refine YK 1 (s_spec_foInts hy3) cf_spec_foInts ?_
 refine YF ?_
 refine zG ?_
 refine zO (mb 32 1048644) [104, 16] (s1 := ⟨.bot :: .bot :: .pt 16 0 :: bt 3 (.ow 104 :: bt 13 (Bo (bif (!y2.2) then true else (!eqI ((y3.length : Int)) 3)) :: bt 11 [])), [(104, .arr 3 1 (y3.map c3)), (16, .box [Ti 0, Ti 0, Ti 0])]⟩) ?_ ?_
 ·refine YR 3 ?_
  refine zI (!y2.2) (fun hc4 => ?_) (fun hc4 => ?_)
  ·refine YQ hc4 ?_
   exact YE (by rw [hc4]; kernel_rfl)
  ·refine YQ hc4 ?_
   refine YR 1 ?_
   refine YT (X_of_Y0 rfl (Y0_lenM (c := c3) (xs := y3) Tryz.underlying24 rfl kk)) ?_
   exact YE (by rw [hc4]; kernel_rfl)
 refine VC h (fun h => ?_) (fun h => ?_)
 ·refine VS ?_
  refine L0 rfl rfl (Y0_build (cs := [Ti 0, Ti 0, Ti 0]) pl38 bt38 rfl rfl kk) ?_
  refine YF ?_
  cases h
  exact zJ VT
 ·refine zK ?_
  show V _ _ _ _
  obtain ⟨e6, he6, h⟩ := zA h
  obtain ⟨e7, he7, h⟩ := zA h
  obtain ⟨e8, he8, h⟩ := zA h
  obtain ⟨e9, he9, h⟩ := zA h
  obtain ⟨e10, he10, h⟩ := zA h
  obtain ⟨e11, he11, h⟩ := zA h
  refine VDS [0, 1, 3, 0, 8, 24, 0, 64, 192, 511, 1023, 2047] 10 (cdm 10 [174720, 174721, 174725, 172074, 172138, 172394, 2730, 6826, 23210, 87381]) ?_
  refine ER 1 ?_
  refine E0 1 rfl rfl (Y0_idxoM (c := c3) (xs := y3) (v := e6) (id := 104) (T := 3) (sz := 1) (n := 0) Tryz.underlying24 sz3 rfl kk kk kk he6) ?_
  refine E0 2 rfl rfl (Y0_loado1 (c := c3) (xs := y3) (v := e7) (id := 104) (sz := 1) (T := 3) (off := 0) (n := 0) (d := Ti e7) (ds := []) sc3 rfl kk kk he7 kk) ?_
  refine ER 1 ?_
  refine E0 4 rfl rfl (Y0_idxoM (c := c3) (xs := y3) (v := e8) (id := 104) (T := 3) (sz := 1) (n := 1) Tryz.underlying24 sz3 rfl kk kk kk he8) ?_
  refine E0 5 rfl rfl (Y0_loado1 (c := c3) (xs := y3) (v := e9) (id := 104) (sz := 1) (T := 3) (off := 0) (n := 1) (d := Ti e9) (ds := []) sc3 rfl kk kk he9 kk) ?_
  refine ER 1 ?_
  refine E0 7 rfl rfl (Y0_idxoM (c := c3) (xs := y3) (v := e10) (id := 104) (T := 3) (sz := 1) (n := 2) Tryz.underlying24 sz3 rfl kk kk kk he10) ?_
  refine E0 8 rfl rfl (Y0_loado1 (c := c3) (xs := y3) (v := e11) (id := 104) (sz := 1) (T := 3) (off := 0) (n := 2) (d := Ti e11) (ds := []) sc3 rfl kk kk he11 kk) ?_
  refine E0 9 rfl rfl (Y0_build (cs := [Ti e7, Ti e9, Ti e11]) pl38 bt38 rfl rfl kk) ?_
  refine EF 0 ?_
  cases h
  exact zJ VT
theorem cf_spec_foReadMatrix : CfW Tryz.prog 145 := cfW Tryz.func145
theorem s_spec_foReadMatrix {vs1 : ByteArray} {r : (((Int × Int × Int × Int)) × Bool)} (h : r_spec_foReadMatrix vs1 = some r) : zQ Tryz.prog 145 [.c (.v (.string vs1))] (.tc (.ag [Ti r.1.1, Ti r.1.2.1, Ti r.1.2.2.1, Ti r.1.2.2.2]) (.tc (Bo r.2) .tn)) [] := by
 refine zT (rs := [.w 2 4, .t 3]) (vs := [.cell 2 109, .tmp 3]) Tryz.func145 rfl rfl (.cons ⟨rfl, wd109⟩ (.cons rfl FitsL.nil)) (by decide) 54 rfl ?_
 unfold r_spec_foReadMatrix at h
 refine VE ?_
 obtain ⟨y2, hy2, h⟩ := zA h
 refine VS ?_
 refine YK 1 (s_spec_foInside hy2) cf_spec_foInside ?_
 refine YF ?_
 obtain ⟨y3, hy3, h⟩ := zA h
 refine VS ?_
 refine YK 1 (s_spec_l1Split hy3) cf_spec_l1Split ?_
 refine YF ?_
 refine zG ?_
 refine zO (mb 54 4194372) [120, 16] (s1 := ⟨.bot :: .bot :: .pt 16 0 :: bt 3 (.ow 120 :: bt 15 (Bo (bif (!y2.2) then true else (!eqI ((y3.length : Int)) 2)) :: bt 31 [])), [(120, .arr 9 1 (y3.map c9)), (16, .box [Ti 0, Ti 0, Ti 0, Ti 0])]⟩) ?_ ?_
 ·refine YR 3 ?_
  refine zI (!y2.2) (fun hc4 => ?_) (fun hc4 => ?_)
  ·refine YQ hc4 ?_
   exact YE (by rw [hc4]; kernel_rfl)
  ·refine YQ hc4 ?_
   refine YR 1 ?_
   refine YT (X_of_Y0 rfl (Y0_lenM (c := c9) (xs := y3) Tryz.underlying66 rfl kk)) ?_
   exact YE (by rw [hc4]; kernel_rfl)
 refine VC h (fun h => ?_) (fun h => ?_)
 ·refine VS ?_
  refine L0 rfl rfl (Y0_build (cs := [Ti 0, Ti 0, Ti 0, Ti 0]) pl109 bt109 rfl rfl kk) ?_
  refine YF ?_
  cases h
  exact zJ VT
 ·refine zK ?_
  show V _ _ _ _
  obtain ⟨e6, he6, h⟩ := zA h
  obtain ⟨e7, he7, h⟩ := zA h
  obtain ⟨y8, hy8, h⟩ := zA h
  obtain ⟨e9, he9, h⟩ := zA h
  obtain ⟨e10, he10, h⟩ := zA h
  obtain ⟨y11, hy11, h⟩ := zA h
  refine VDS [0, 1, 3, 7, 0, 16, 48, 127, 255, 511] 10 (cdm 10 [10752, 10753, 10757, 10773, 170, 426, 1450, 5461, 21845, 87381]) ?_
  refine ER 1 ?_
  refine E0 1 rfl rfl (Y0_idxoM (c := c9) (xs := y3) (v := e6) (id := 120) (T := 9) (sz := 1) (n := 0) Tryz.underlying66 sz9 rfl kk kk kk he6) ?_
  refine E0 2 rfl rfl (Y0_loado1 (c := c9) (xs := y3) (v := e7) (id := 120) (sz := 1) (T := 9) (off := 0) (n := 0) (d := .v (.string e7)) (ds := []) sc9 rfl kk kk he7 kk) ?_
  refine EK 0 (s_spec_foInts hy8) cf_spec_foInts ?_
  refine ER 1 ?_
  refine E0 5 rfl rfl (Y0_idxoM (c := c9) (xs := y3) (v := e9) (id := 120) (T := 9) (sz := 1) (n := 1) Tryz.underlying66 sz9 rfl kk kk kk he9) ?_
  refine E0 6 rfl rfl (Y0_loado1 (c := c9) (xs := y3) (v := e10) (id := 120) (sz := 1) (T := 9) (off := 0) (n := 1) (d := .v (.string e10)) (ds := []) sc9 rfl kk kk he10 kk) ?_
  refine EK 0 (s_spec_foInts hy11) cf_spec_foInts ?_
  refine EF 2 ?_
  refine zG ?_
  obtain ⟨t13, ht13, h⟩ := zA h
  have ht13 := zB ht13
  refine zO (mb 54 549755814276) [248, 216, 16] (s1 := ⟨.bot :: .bot :: .pt 16 0 :: bt 4 (.ow 216 :: .ow 248 :: bt 30 (Bo t13 :: bt 14 [])), [(248, .arr 3 1 (y11.map c3)), (216, .arr 3 1 (y8.map c3)), (16, .box [Ti 0, Ti 0, Ti 0, Ti 0])]⟩) ?_ ?_
  ·refine YR 1 ?_
   refine L0 rfl rfl (Y0_lenM (c := c3) (xs := y8) Tryz.underlying24 rfl kk) ?_
   refine YR 2 ?_
   refine zI (!eqI ((y8.length : Int)) 2) (fun hc12 => ?_) (fun hc12 => ?_)
   ·refine YQ hc12 ?_
    exact YE (by rw [← ht13]; (try rw [hc12]); kernel_rfl)
   ·refine YQ hc12 ?_
    refine YR 1 ?_
    refine YT (X_of_Y0 rfl (Y0_lenM (c := c3) (xs := y11) Tryz.underlying24 rfl kk)) ?_
    exact YE (by rw [← ht13]; (try rw [hc12]); kernel_rfl)
  refine VC h (fun h => ?_) (fun h => ?_)
  ·refine VS ?_
   refine L0 rfl rfl (Y0_build (cs := [Ti 0, Ti 0, Ti 0, Ti 0]) pl109 bt109 rfl rfl kk) ?_
   refine YF ?_
   cases h
   exact zJ VT
  ·refine zK ?_
   show V _ _ _ _
   obtain ⟨e15, he15, h⟩ := zA h
   obtain ⟨e16, he16, h⟩ := zA h
   obtain ⟨e17, he17, h⟩ := zA h
   obtain ⟨e18, he18, h⟩ := zA h
   obtain ⟨e19, he19, h⟩ := zA h
   obtain ⟨e20, he20, h⟩ := zA h
   obtain ⟨e21, he21, h⟩ := zA h
   obtain ⟨e22, he22, h⟩ := zA h
   refine VDS [0, 1, 3, 0, 8, 24, 0, 64, 192, 0, 512, 1536, 4095, 8191, 16383] 13 (cdm 13 [11184768, 11184769, 11184773, 11182122, 11182186, 11182442, 11012778, 11016874, 11033258, 174762, 436906, 1485482, 5592405]) ?_
   refine ER 1 ?_
   refine E0 1 rfl rfl (Y0_idxoM (c := c3) (xs := y8) (v := e15) (id := 216) (T := 3) (sz := 1) (n := 0) Tryz.underlying24 sz3 rfl kk kk kk he15) ?_
   refine E0 2 rfl rfl (Y0_loado1 (c := c3) (xs := y8) (v := e16) (id := 216) (sz := 1) (T := 3) (off := 0) (n := 0) (d := Ti e16) (ds := []) sc3 rfl kk kk he16 kk) ?_
   refine ER 1 ?_
   refine E0 4 rfl rfl (Y0_idxoM (c := c3) (xs := y8) (v := e17) (id := 216) (T := 3) (sz := 1) (n := 1) Tryz.underlying24 sz3 rfl kk kk kk he17) ?_
   refine E0 5 rfl rfl (Y0_loado1 (c := c3) (xs := y8) (v := e18) (id := 216) (sz := 1) (T := 3) (off := 0) (n := 1) (d := Ti e18) (ds := []) sc3 rfl kk kk he18 kk) ?_
   refine ER 1 ?_
   refine E0 7 rfl rfl (Y0_idxoM (c := c3) (xs := y11) (v := e19) (id := 248) (T := 3) (sz := 1) (n := 0) Tryz.underlying24 sz3 rfl kk kk kk he19) ?_
   refine E0 8 rfl rfl (Y0_loado1 (c := c3) (xs := y11) (v := e20) (id := 248) (sz := 1) (T := 3) (off := 0) (n := 0) (d := Ti e20) (ds := []) sc3 rfl kk kk he20 kk) ?_
   refine ER 1 ?_
   refine E0 10 rfl rfl (Y0_idxoM (c := c3) (xs := y11) (v := e21) (id := 248) (T := 3) (sz := 1) (n := 1) Tryz.underlying24 sz3 rfl kk kk kk he21) ?_
   refine E0 11 rfl rfl (Y0_loado1 (c := c3) (xs := y11) (v := e22) (id := 248) (sz := 1) (T := 3) (off := 0) (n := 1) (d := Ti e22) (ds := []) sc3 rfl kk kk he22 kk) ?_
   refine E0 12 rfl rfl (Y0_build (cs := [Ti e16, Ti e18, Ti e20, Ti e22]) pl109 bt109 rfl rfl kk) ?_
   refine EF 0 ?_
   cases h
   exact zJ VT
theorem cf_spec_prParse : CfW Tryz.prog 67 := cfW Tryz.func67
theorem s_spec_prParse {vs1 : ByteArray} {r : (ByteArray × (((List ((Int × Int × Int))) × (List ((Int × Int × Int × Int))) × (List Int))) × Bool)} (h : r_spec_prParse vs1 = some r) : zQ Tryz.prog 67 [.c (.v (.string vs1))] (.tc (.c (.v (.string r.1))) (.tc (.ag [.sl (r.2.1.1.map c38), .sl (r.2.1.2.1.map c109), .sl (r.2.1.2.2.map c3)]) (.tc (Bo r.2.2) .tn))) [] := by
 refine zT (rs := [.t 2, .w 3 3, .t 4]) (vs := [.tmp 2, .cell 3 98, .tmp 4]) Tryz.func67 rfl rfl (.cons rfl (.cons ⟨rfl, wd98⟩ (.cons rfl FitsL.nil))) (by decide) 102 rfl ?_
 unfold r_spec_prParse at h
 refine VE ?_
 obtain ⟨y2, hy2, h⟩ := zA h
 refine VS ?_
 refine YK 1 (s_spec_l1Split hy2) cf_spec_l1Split ?_
 refine YF ?_
 refine VE ?_
 obtain ⟨e3, he3, h⟩ := zA h
 obtain ⟨e4, he4, h⟩ := zA h
 obtain ⟨y5, hy5, h⟩ := zA h
 refine VS ?_
 refine YR 1 ?_
 refine L0 rfl rfl (Y0_idxoM (c := c9) (xs := y2) (v := e3) (id := 144) (T := 9) (sz := 1) (n := 0) Tryz.underlying66 sz9 rfl kk kk kk he3) ?_
 refine L0 rfl rfl (Y0_loado1 (c := c9) (xs := y2) (v := e4) (id := 144) (sz := 1) (T := 9) (off := 0) (n := 0) (d := .v (.string e4)) (ds := []) sc9 rfl kk kk he4 kk) ?_
 refine YK 0 (s_spec_prWords hy5) cf_spec_prWords ?_
 refine YF ?_
 refine zG ?_
 obtain ⟨t7, ht7, h⟩ := zA h
 have ht7 := zB ht7
 refine zO (mb 102 4294967528) [48, 144, 24] (s1 := ⟨bt 3 (.pt 24 0 :: .bot :: .ow 144 :: .pt 48 0 :: .c (.v (.string y5)) :: bt 24 (Bo t7 :: bt 69 [])), [(48, .box [.v (.slice none 0 0), .v (.slice none 0 0), .v (.slice none 0 0)]), (144, .arr 9 1 (y2.map c9)), (24, .box [.v (.slice none 0 0), .v (.slice none 0 0), .v (.slice none 0 0)])]⟩) ?_ ?_
 ·refine YR 3 ?_
  refine zI (y5.toList == ((⟨#[]⟩ : ByteArray)).toList) (fun hc6 => ?_) (fun hc6 => ?_)
  ·refine YQ hc6 ?_
   exact YE (by rw [← ht7]; (try rw [hc6]); kernel_rfl)
  ·refine YQ hc6 ?_
   refine YR 1 ?_
   refine YT (X_of_Y0 rfl (Y0_lenM (c := c9) (xs := y2) Tryz.underlying66 rfl kk)) ?_
   exact YE (by rw [← ht7]; (try rw [hc6]); kernel_rfl)
 refine VC h (fun h => ?_) (fun h => ?_)
 ·refine VDS [0, 0, 3, 7] 2 (cdm 2 [8, 2]) ?_
  refine EF 2 ?_
  refine V_nilSl 24 0 (cs := [.v (.slice none 0 0), .v (.slice none 0 0), .v (.slice none 0 0)]) kk kk rfl ?_
  refine V_nilSl 24 1 (cs := [.sl ((([] : List ((Int × Int × Int)))).map c38), .v (.slice none 0 0), .v (.slice none 0 0)]) kk kk rfl ?_
  refine V_nilSl 24 2 (cs := [.sl ((([] : List ((Int × Int × Int)))).map c38), .sl ((([] : List ((Int × Int × Int × Int)))).map c109), .v (.slice none 0 0)]) kk kk rfl ?_
  cases h
  exact zJ VT
 ·refine zK ?_
  show V _ _ _ _
  refine VE ?_
  refine zG ?_
  refine V_e (mb 102 1000) [48, 144, 24] (s1 := ⟨bt 3 (.pt 24 0 :: .bot :: .ow 144 :: .pt 48 0 :: .c (.v (.string y5)) :: Bo true :: I 0 :: bt 92 []), [(48, .box [.v (.slice none 0 0), .v (.slice none 0 0), .v (.slice none 0 0)]), (144, .arr 9 1 (y2.map c9)), (24, .box [.v (.slice none 0 0), .v (.slice none 0 0), .v (.slice none 0 0)])]⟩) ?_
  refine V_nilrow 49 38 3 kk (by decide) ?_
  refine V_nilrow 50 109 4 kk (by decide) ?_
  refine V_nilrow 51 3 1 kk (by decide) ?_
  refine V_gen (fun γ : Nat → Loc => ⟨bt 3 (.pt 24 0 :: .bot :: .ow 144 :: .pt 48 0 :: .c (.v (.string y5)) :: Bo true :: I 0 :: bt 92 []), [(51, .qarr (γ 51) 3 1 ((([] : List Int)).map c3)), (50, .qarr (γ 50) 109 4 ((([] : List ((Int × Int × Int × Int)))).map c109)), (49, .qarr (γ 49) 38 3 ((([] : List ((Int × Int × Int)))).map c38)), (48, .box [.v (zE (γ 49)), .v (zE (γ 50)), .v (zE (γ 51))]), (144, .arr 9 1 (y2.map c9)), (24, .box [.v (.slice none 0 0), .v (.slice none 0 0), .v (.slice none 0 0)])]⟩) (fun _ => loc0) kk fun γ => ?_
  obtain ⟨o15, hLo15, h⟩ := zA h
  refine V_toKQ (S := fun γ : Nat → Loc => ⟨bt 3 (.pt 24 0 :: .bot :: .ow 144 :: .pt 48 0 :: .bot :: Bo o15.1 :: bt 93 []), [(51, .qarr (γ 51) 3 1 (o15.2.1.map c3)), (50, .qarr (γ 50) 109 4 (o15.2.2.1.map c109)), (49, .qarr (γ 49) 38 3 (o15.2.2.2.map c38)), (48, .box [.v (zE (γ 49)), .v (zE (γ 50)), .v (zE (γ 51))]), (144, .arr 9 1 (y2.map c9)), (24, .box [.v (.slice none 0 0), .v (.slice none 0 0), .v (.slice none 0 0)])]⟩) (mb 102 360) [51, 50, 49, 48, 144, 24] ?_ ?_
  ·clear h
   refine zH (V_loop (fun n s => ∃ (ok9 : Bool) (i10 : Int) (l11 : List ((Int × Int × Int))) (l12 : List ((Int × Int × Int × Int))) (l13 : List Int), ∃ γ : Nat → Loc, s.keep (mb 102 1000) [51, 50, 49, 48, 144, 24] = (⟨bt 3 (.pt 24 0 :: .bot :: .ow 144 :: .pt 48 0 :: .c (.v (.string y5)) :: Bo ok9 :: I i10 :: bt 92 []), [(51, .qarr (γ 51) 3 1 (l13.map c3)), (50, .qarr (γ 50) 109 4 (l12.map c109)), (49, .qarr (γ 49) 38 3 (l11.map c38)), (48, .box [.v (zE (γ 49)), .v (zE (γ 50)), .v (zE (γ 51))]), (144, .arr 9 1 (y2.map c9)), (24, .box [.v (.slice none 0 0), .v (.slice none 0 0), .v (.slice none 0 0)])]⟩ : St) ∧ zR y2 y5 n ok9 i10 l11 l12 l13 = some o15) FU ⟨_, _, _, _, _, γ,  kk, hLo15⟩ ?_)
   clear hLo15
   rintro n s ⟨ok9, i10, l11, l12, l13, γ, hs, h⟩
   refine zV _ _ hs ?_
   clear hs
   cases n with
   | zero => cases h
   | succ n =>
    rw [zR] at h
    refine zG ?_
    refine V_sregQ (fun γ : Nat → Loc => ⟨bt 3 (.pt 24 0 :: .bot :: .ow 144 :: .pt 48 0 :: .c (.v (.string y5)) :: Bo ok9 :: I i10 :: bt 27 (Bo (ltI i10 ((y5.size : Int))) :: bt 64 [])), [(51, .qarr (γ 51) 3 1 (l13.map c3)), (50, .qarr (γ 50) 109 4 (l12.map c109)), (49, .qarr (γ 49) 38 3 (l11.map c38)), (48, .box [.v (zE (γ 49)), .v (zE (γ 50)), .v (zE (γ 51))]), (144, .arr 9 1 (y2.map c9)), (24, .box [.v (.slice none 0 0), .v (.slice none 0 0), .v (.slice none 0 0)])]⟩) (mb 102 137438954472) [51, 50, 49, 48, 144, 24] ?_ ?_
    ·refine XR 2 ?_
     refine L0 rfl rfl (Y0_lens (b := y5) Tryz.underlying9 rfl kk) ?_
     refine XR 1 ?_
     refine zD ?_
     exact ⟨γ, by kernel_rfl⟩
    intro γ
    refine VC h (fun h => ?_) (fun h => ?_)
    ·refine zK ?_
     show V _ _ _ _
     refine zG ?_
     refine zH ?_
     obtain ⟨e17, he17, h⟩ := zA h
     obtain ⟨e18, he18, h⟩ := zA h
     refine V_sregQ (fun γ : Nat → Loc => ⟨bt 3 (.pt 24 0 :: .bot :: .ow 144 :: .pt 48 0 :: .c (.v (.string y5)) :: Bo ok9 :: I i10 :: .c (.v (.string e18)) :: bt 91 []), [(51, .qarr (γ 51) 3 1 (l13.map c3)), (50, .qarr (γ 50) 109 4 (l12.map c109)), (49, .qarr (γ 49) 38 3 (l11.map c38)), (48, .box [.v (zE (γ 49)), .v (zE (γ 50)), .v (zE (γ 51))]), (144, .arr 9 1 (y2.map c9)), (24, .box [.v (.slice none 0 0), .v (.slice none 0 0), .v (.slice none 0 0)])]⟩) (mb 102 2024) [51, 50, 49, 48, 144, 24] ?_ ?_
     ·refine XR 3 ?_
      refine L0 rfl rfl (Y0_idxoM (c := c9) (xs := y2) (v := e17) (id := 144) (T := 9) (sz := 1) (n := w64 (i10 + 1)) Tryz.underlying66 sz9 rfl kk kk kk he17) ?_
      refine L0 rfl rfl (Y0_loado1 (c := c9) (xs := y2) (v := e18) (id := 144) (sz := 1) (T := 9) (off := 0) (n := w64 (i10 + 1)) (d := .v (.string e18)) (ds := []) sc9 rfl kk kk he18 kk) ?_
      refine XR 1 ?_
      refine zD ?_
      exact ⟨γ, by kernel_rfl⟩
     intro γ
     obtain ⟨e19, he19, h⟩ := zA h
     refine V_sregQ (fun γ : Nat → Loc => ⟨bt 3 (.pt 24 0 :: .bot :: .ow 144 :: .pt 48 0 :: .c (.v (.string y5)) :: Bo ok9 :: I i10 :: .c (.v (.string e18)) :: bt 36 (.c (.v (.int .u8 e19)) :: bt 54 [])), [(51, .qarr (γ 51) 3 1 (l13.map c3)), (50, .qarr (γ 50) 109 4 (l12.map c109)), (49, .qarr (γ 49) 38 3 (l11.map c38)), (48, .box [.v (zE (γ 49)), .v (zE (γ 50)), .v (zE (γ 51))]), (144, .arr 9 1 (y2.map c9)), (24, .box [.v (.slice none 0 0), .v (.slice none 0 0), .v (.slice none 0 0)])]⟩) (mb 102 140737488357352) [51, 50, 49, 48, 144, 24] ?_ ?_
     ·refine XR 2 ?_
      refine L0 rfl rfl (Y0_idxs (b := y5) (k := .i64) (n := i10) (v := e19) Tryz.underlying9 rfl kk kk he19) ?_
      refine zD ?_
      exact ⟨γ, by kernel_rfl⟩
     intro γ
     refine zH ?_
     refine V_sregQ (fun γ : Nat → Loc => ⟨bt 3 (.pt 24 0 :: .bot :: .ow 144 :: .pt 48 0 :: .c (.v (.string y5)) :: Bo ok9 :: I i10 :: .c (.v (.string e18)) :: bt 36 (.c (.v (.int .u8 e19)) :: bt 15 (Bo (eqI e19 102) :: bt 38 []))), [(51, .qarr (γ 51) 3 1 (l13.map c3)), (50, .qarr (γ 50) 109 4 (l12.map c109)), (49, .qarr (γ 49) 38 3 (l11.map c38)), (48, .box [.v (zE (γ 49)), .v (zE (γ 50)), .v (zE (γ 51))]), (144, .arr 9 1 (y2.map c9)), (24, .box [.v (.slice none 0 0), .v (.slice none 0 0), .v (.slice none 0 0)])]⟩) (mb 102 9223512774343133160) [51, 50, 49, 48, 144, 24] ?_ ?_
     ·refine L0 rfl rfl (Y0_eqw (k := .u8) (a := e19) (b := 102) rfl kk kk) ?_
      refine XR 1 ?_
      refine zD ?_
      exact ⟨γ, by kernel_rfl⟩
     intro γ
     refine VC h (fun h => ?_) (fun h => ?_)
     ·obtain ⟨y21, hy21, h⟩ := zA h
      refine V_sregQ (fun γ : Nat → Loc => ⟨bt 3 (.pt 24 0 :: .bot :: .ow 144 :: .pt 48 0 :: .c (.v (.string y5)) :: Bo ok9 :: I i10 :: .bot :: .pt 88 0 :: Bo y21.2 :: bt 89 []), [(88, .box [Ti y21.1.1, Ti y21.1.2.1, Ti y21.1.2.2]), (51, .qarr (γ 51) 3 1 (l13.map c3)), (50, .qarr (γ 50) 109 4 (l12.map c109)), (49, .qarr (γ 49) 38 3 (l11.map c38)), (48, .box [.v (zE (γ 49)), .v (zE (γ 50)), .v (zE (γ 51))]), (144, .arr 9 1 (y2.map c9)), (24, .box [.v (.slice none 0 0), .v (.slice none 0 0), .v (.slice none 0 0)])]⟩) (mb 102 7144) [88, 51, 50, 49, 48, 144, 24] ?_ ?_
      ·refine XR 1 ?_
       refine XC (s_spec_foRead hy21) cf_spec_foRead rfl rfl rfl ?_
       refine XR 6 ?_
       refine zD ?_
       exact ⟨γ, by kernel_rfl⟩
      intro γ
      obtain ⟨u22, hu22, h⟩ := zA h
      refine V_sregQ (fun γ : Nat → Loc => ⟨bt 3 (.pt 24 0 :: .bot :: .ow 144 :: .pt 48 0 :: .c (.v (.string y5)) :: Bo ok9 :: I i10 :: .bot :: .bot :: Bo y21.2 :: bt 89 []), [(51, .qarr (γ 51) 3 1 (l13.map c3)), (50, .qarr (γ 50) 109 4 (l12.map c109)), (49, .qarr (γ 49) 38 3 ((l11 ++ ([y21.1])).map c38)), (48, .box [.v (zE (γ 49)), .v (zE (γ 50)), .v (zE (γ 51))]), (144, .arr 9 1 (y2.map c9)), (24, .box [.v (.slice none 0 0), .v (.slice none 0 0), .v (.slice none 0 0)])]⟩) (mb 102 5096) [51, 50, 49, 48, 144, 24] ?_ ?_
      ·refine XR 3 ?_
       refine L1 rfl rfl (Y1_bslice (z := zv38) (els := [y21.1].map c38) Tryz.underlying59 iz38 rfl (by decide) rfl kk rfl (by simp [c38]) (by decide) (by decide)) ?_
       refine XL_unpinQ 71 49 (l := γ 49) (T := 38) (sz := 3) (els := l11.map c38) kk kk ?_
       refine XL_cons rfl (X_appendM (c := c38) (xs := l11) (ys := [y21.1]) (id := 49) (z := zv38) rfl rfl Tryz.underlying59 izb38 rfl kk kk kk (fun _ => rfl) (by simp) (room_some hu22) (by decide)) ?_
       refine XR 1 ?_
       refine XL_pinQ 74 49 (T := 38) (sz := 3) (els := (l11 ++ ([y21.1])).map c38) kk kk fun lq1 => ?_
       refine XR 1 ?_
       refine zD ?_
       exact ⟨(fun i => if i = 49 then lq1 else γ i), by kernel_rfl⟩
      intro γ
      refine V_regQ (fun γ : Nat → Loc => ⟨bt 3 (.pt 24 0 :: .bot :: .ow 144 :: .pt 48 0 :: .c (.v (.string y5)) :: Bo (bif ok9 then y21.2 else false) :: I i10 :: bt 92 []), [(51, .qarr (γ 51) 3 1 (l13.map c3)), (50, .qarr (γ 50) 109 4 (l12.map c109)), (49, .qarr (γ 49) 38 3 ((l11 ++ ([y21.1])).map c38)), (48, .box [.v (zE (γ 49)), .v (zE (γ 50)), .v (zE (γ 51))]), (144, .arr 9 1 (y2.map c9)), (24, .box [.v (.slice none 0 0), .v (.slice none 0 0), .v (.slice none 0 0)])]⟩) (mb 102 1000) [51, 50, 49, 48, 144, 24] ?_ ?_
      ·refine XR 2 ?_
       refine zI ok9 (fun hc23 => ?_) (fun hc23 => ?_)
       ·refine XL_takeC _ rfl rfl kk hc23 (X_of_Y0 rfl (E_move (Bo y21.2) rfl kk)) ?_
        refine XL_cons rfl (X_of_Y0 rfl (Y0_pick1 (b := ok9) (p := y21.2) (q := false) rfl kk hc23 kk)) ?_
        refine XR 1 ?_
        refine zD ?_
        exact ⟨γ, by kernel_rfl⟩
       ·refine XL_skipT _ rfl rfl kk hc23 rfl ?_
        refine XL_cons rfl (X_of_Y0 rfl (Y0_pick0 (b := ok9) (p := y21.2) (q := false) rfl kk hc23 kk)) ?_
        refine XR 1 ?_
        refine zD ?_
        exact ⟨γ, by kernel_rfl⟩
      intro γ
      show V _ _ _ _
      obtain ⟨i24, hi24, h⟩ := zU h
      refine V_regQ (fun γ : Nat → Loc => ⟨bt 3 (.pt 24 0 :: .bot :: .ow 144 :: .pt 48 0 :: .c (.v (.string y5)) :: Bo (bif ok9 then y21.2 else false) :: I i24 :: bt 92 []), [(51, .qarr (γ 51) 3 1 (l13.map c3)), (50, .qarr (γ 50) 109 4 (l12.map c109)), (49, .qarr (γ 49) 38 3 ((l11 ++ ([y21.1])).map c38)), (48, .box [.v (zE (γ 49)), .v (zE (γ 50)), .v (zE (γ 51))]), (144, .arr 9 1 (y2.map c9)), (24, .box [.v (.slice none 0 0), .v (.slice none 0 0), .v (.slice none 0 0)])]⟩) (mb 102 1000) [51, 50, 49, 48, 144, 24] ?_ ?_
      ·refine XR 3 ?_
       refine zD ?_
       subst hi24
       exact ⟨γ, by kernel_rfl⟩
      intro γ
      exact ⟨n, Nat.lt_succ_self n, _, _, _, _, _, γ,  kk, h⟩
     ·refine V_sregQ (fun γ : Nat → Loc => ⟨bt 3 (.pt 24 0 :: .bot :: .ow 144 :: .pt 48 0 :: .c (.v (.string y5)) :: Bo ok9 :: I i10 :: .c (.v (.string e18)) :: bt 69 (Bo (eqI e19 109) :: bt 21 [])), [(51, .qarr (γ 51) 3 1 (l13.map c3)), (50, .qarr (γ 50) 109 4 (l12.map c109)), (49, .qarr (γ 49) 38 3 (l11.map c38)), (48, .box [.v (zE (γ 49)), .v (zE (γ 50)), .v (zE (γ 51))]), (144, .arr 9 1 (y2.map c9)), (24, .box [.v (.slice none 0 0), .v (.slice none 0 0), .v (.slice none 0 0)])]⟩) (mb 102 1208925819614629174708200) [51, 50, 49, 48, 144, 24] ?_ ?_
      ·refine L0 rfl rfl (Y0_eqw (k := .u8) (a := e19) (b := 109) rfl kk kk) ?_
       refine XR 1 ?_
       refine zD ?_
       exact ⟨γ, by kernel_rfl⟩
      intro γ
      refine VC h (fun h => ?_) (fun h => ?_)
      ·obtain ⟨y26, hy26, h⟩ := zA h
       refine V_sregQ (fun γ : Nat → Loc => ⟨bt 3 (.pt 24 0 :: .bot :: .ow 144 :: .pt 48 0 :: .c (.v (.string y5)) :: Bo ok9 :: I i10 :: bt 3 (.pt 104 0 :: Bo y26.2 :: bt 87 [])), [(104, .box [Ti y26.1.1, Ti y26.1.2.1, Ti y26.1.2.2.1, Ti y26.1.2.2.2]), (51, .qarr (γ 51) 3 1 (l13.map c3)), (50, .qarr (γ 50) 109 4 (l12.map c109)), (49, .qarr (γ 49) 38 3 (l11.map c38)), (48, .box [.v (zE (γ 49)), .v (zE (γ 50)), .v (zE (γ 51))]), (144, .arr 9 1 (y2.map c9)), (24, .box [.v (.slice none 0 0), .v (.slice none 0 0), .v (.slice none 0 0)])]⟩) (mb 102 25576) [104, 51, 50, 49, 48, 144, 24] ?_ ?_
       ·refine XR 1 ?_
        refine XC (s_spec_foReadMatrix hy26) cf_spec_foReadMatrix rfl rfl rfl ?_
        refine XR 6 ?_
        refine zD ?_
        exact ⟨γ, by kernel_rfl⟩
       intro γ
       obtain ⟨u27, hu27, h⟩ := zA h
       refine V_sregQ (fun γ : Nat → Loc => ⟨bt 3 (.pt 24 0 :: .bot :: .ow 144 :: .pt 48 0 :: .c (.v (.string y5)) :: Bo ok9 :: I i10 :: bt 4 (Bo y26.2 :: bt 87 [])), [(51, .qarr (γ 51) 3 1 (l13.map c3)), (50, .qarr (γ 50) 109 4 ((l12 ++ ([y26.1])).map c109)), (49, .qarr (γ 49) 38 3 (l11.map c38)), (48, .box [.v (zE (γ 49)), .v (zE (γ 50)), .v (zE (γ 51))]), (144, .arr 9 1 (y2.map c9)), (24, .box [.v (.slice none 0 0), .v (.slice none 0 0), .v (.slice none 0 0)])]⟩) (mb 102 17384) [51, 50, 49, 48, 144, 24] ?_ ?_
       ·refine XR 3 ?_
        refine L1 rfl rfl (Y1_bslice (z := zv109) (els := [y26.1].map c109) Tryz.underlying60 iz109 rfl (by decide) rfl kk rfl (by simp [c109]) (by decide) (by decide)) ?_
        refine XL_unpinQ 88 50 (l := γ 50) (T := 109) (sz := 4) (els := l12.map c109) kk kk ?_
        refine XL_cons rfl (X_appendM (c := c109) (xs := l12) (ys := [y26.1]) (id := 50) (z := zv109) rfl rfl Tryz.underlying60 izb109 rfl kk kk kk (fun _ => rfl) (by simp) (room_some hu27) (by decide)) ?_
        refine XR 1 ?_
        refine XL_pinQ 91 50 (T := 109) (sz := 4) (els := (l12 ++ ([y26.1])).map c109) kk kk fun lq1 => ?_
        refine XR 1 ?_
        refine zD ?_
        exact ⟨(fun i => if i = 50 then lq1 else γ i), by kernel_rfl⟩
       intro γ
       refine V_regQ (fun γ : Nat → Loc => ⟨bt 3 (.pt 24 0 :: .bot :: .ow 144 :: .pt 48 0 :: .c (.v (.string y5)) :: Bo (bif ok9 then y26.2 else false) :: I i10 :: bt 92 []), [(51, .qarr (γ 51) 3 1 (l13.map c3)), (50, .qarr (γ 50) 109 4 ((l12 ++ ([y26.1])).map c109)), (49, .qarr (γ 49) 38 3 (l11.map c38)), (48, .box [.v (zE (γ 49)), .v (zE (γ 50)), .v (zE (γ 51))]), (144, .arr 9 1 (y2.map c9)), (24, .box [.v (.slice none 0 0), .v (.slice none 0 0), .v (.slice none 0 0)])]⟩) (mb 102 1000) [51, 50, 49, 48, 144, 24] ?_ ?_
       ·refine XR 2 ?_
        refine zI ok9 (fun hc28 => ?_) (fun hc28 => ?_)
        ·refine XL_takeC _ rfl rfl kk hc28 (X_of_Y0 rfl (E_move (Bo y26.2) rfl kk)) ?_
         refine XL_cons rfl (X_of_Y0 rfl (Y0_pick1 (b := ok9) (p := y26.2) (q := false) rfl kk hc28 kk)) ?_
         refine XR 1 ?_
         refine zD ?_
         exact ⟨γ, by kernel_rfl⟩
        ·refine XL_skipT _ rfl rfl kk hc28 rfl ?_
         refine XL_cons rfl (X_of_Y0 rfl (Y0_pick0 (b := ok9) (p := y26.2) (q := false) rfl kk hc28 kk)) ?_
         refine XR 1 ?_
         refine zD ?_
         exact ⟨γ, by kernel_rfl⟩
       intro γ
       show V _ _ _ _
       obtain ⟨i29, hi29, h⟩ := zU h
       refine V_regQ (fun γ : Nat → Loc => ⟨bt 3 (.pt 24 0 :: .bot :: .ow 144 :: .pt 48 0 :: .c (.v (.string y5)) :: Bo (bif ok9 then y26.2 else false) :: I i29 :: bt 92 []), [(51, .qarr (γ 51) 3 1 (l13.map c3)), (50, .qarr (γ 50) 109 4 ((l12 ++ ([y26.1])).map c109)), (49, .qarr (γ 49) 38 3 (l11.map c38)), (48, .box [.v (zE (γ 49)), .v (zE (γ 50)), .v (zE (γ 51))]), (144, .arr 9 1 (y2.map c9)), (24, .box [.v (.slice none 0 0), .v (.slice none 0 0), .v (.slice none 0 0)])]⟩) (mb 102 1000) [51, 50, 49, 48, 144, 24] ?_ ?_
       ·refine XR 3 ?_
        refine zD ?_
        subst hi29
        exact ⟨γ, by kernel_rfl⟩
       intro γ
       exact ⟨n, Nat.lt_succ_self n, _, _, _, _, _, γ,  kk, h⟩
      ·obtain ⟨y30, hy30, h⟩ := zA h
       refine V_sregQ (fun γ : Nat → Loc => ⟨bt 3 (.pt 24 0 :: .bot :: .ow 144 :: .pt 48 0 :: .c (.v (.string y5)) :: Bo ok9 :: I i10 :: bt 5 (I y30.1 :: Bo y30.2 :: bt 85 [])), [(51, .qarr (γ 51) 3 1 (l13.map c3)), (50, .qarr (γ 50) 109 4 (l12.map c109)), (49, .qarr (γ 49) 38 3 (l11.map c38)), (48, .box [.v (zE (γ 49)), .v (zE (γ 50)), .v (zE (γ 51))]), (144, .arr 9 1 (y2.map c9)), (24, .box [.v (.slice none 0 0), .v (.slice none 0 0), .v (.slice none 0 0)])]⟩) (mb 102 99304) [51, 50, 49, 48, 144, 24] ?_ ?_
       ·refine XR 1 ?_
        refine XC (s_spec_foInt hy30) cf_spec_foInt rfl rfl rfl ?_
        refine XR 5 ?_
        refine zD ?_
        exact ⟨γ, by kernel_rfl⟩
       intro γ
       obtain ⟨u31, hu31, h⟩ := zA h
       refine V_sregQ (fun γ : Nat → Loc => ⟨bt 3 (.pt 24 0 :: .bot :: .ow 144 :: .pt 48 0 :: .c (.v (.string y5)) :: Bo ok9 :: I i10 :: bt 6 (Bo y30.2 :: bt 85 [])), [(51, .qarr (γ 51) 3 1 ((l13 ++ ([y30.1])).map c3)), (50, .qarr (γ 50) 109 4 (l12.map c109)), (49, .qarr (γ 49) 38 3 (l11.map c38)), (48, .box [.v (zE (γ 49)), .v (zE (γ 50)), .v (zE (γ 51))]), (144, .arr 9 1 (y2.map c9)), (24, .box [.v (.slice none 0 0), .v (.slice none 0 0), .v (.slice none 0 0)])]⟩) (mb 102 66536) [51, 50, 49, 48, 144, 24] ?_ ?_
       ·refine XR 3 ?_
        refine L1 rfl rfl (Y1_bslice (z := zv3) (els := [y30.1].map c3) Tryz.underlying24 iz3 rfl (by decide) rfl kk rfl (by simp [c3]) (by decide) (by decide)) ?_
        refine XL_unpinQ 54 51 (l := γ 51) (T := 3) (sz := 1) (els := l13.map c3) kk kk ?_
        refine XL_cons rfl (X_appendM (c := c3) (xs := l13) (ys := [y30.1]) (id := 51) (z := zv3) rfl rfl Tryz.underlying24 izb3 rfl kk kk kk (fun _ => rfl) (by simp) (room_some hu31) (by decide)) ?_
        refine XR 1 ?_
        refine XL_pinQ 57 51 (T := 3) (sz := 1) (els := (l13 ++ ([y30.1])).map c3) kk kk fun lq1 => ?_
        refine XR 1 ?_
        refine zD ?_
        exact ⟨(fun i => if i = 51 then lq1 else γ i), by kernel_rfl⟩
       intro γ
       refine V_regQ (fun γ : Nat → Loc => ⟨bt 3 (.pt 24 0 :: .bot :: .ow 144 :: .pt 48 0 :: .c (.v (.string y5)) :: Bo (bif ok9 then y30.2 else false) :: I i10 :: bt 92 []), [(51, .qarr (γ 51) 3 1 ((l13 ++ ([y30.1])).map c3)), (50, .qarr (γ 50) 109 4 (l12.map c109)), (49, .qarr (γ 49) 38 3 (l11.map c38)), (48, .box [.v (zE (γ 49)), .v (zE (γ 50)), .v (zE (γ 51))]), (144, .arr 9 1 (y2.map c9)), (24, .box [.v (.slice none 0 0), .v (.slice none 0 0), .v (.slice none 0 0)])]⟩) (mb 102 1000) [51, 50, 49, 48, 144, 24] ?_ ?_
       ·refine XR 2 ?_
        refine zI ok9 (fun hc32 => ?_) (fun hc32 => ?_)
        ·refine XL_takeC _ rfl rfl kk hc32 (X_of_Y0 rfl (E_move (Bo y30.2) rfl kk)) ?_
         refine XL_cons rfl (X_of_Y0 rfl (Y0_pick1 (b := ok9) (p := y30.2) (q := false) rfl kk hc32 kk)) ?_
         refine XR 1 ?_
         refine zD ?_
         exact ⟨γ, by kernel_rfl⟩
        ·refine XL_skipT _ rfl rfl kk hc32 rfl ?_
         refine XL_cons rfl (X_of_Y0 rfl (Y0_pick0 (b := ok9) (p := y30.2) (q := false) rfl kk hc32 kk)) ?_
         refine XR 1 ?_
         refine zD ?_
         exact ⟨γ, by kernel_rfl⟩
       intro γ
       show V _ _ _ _
       obtain ⟨i33, hi33, h⟩ := zU h
       refine V_regQ (fun γ : Nat → Loc => ⟨bt 3 (.pt 24 0 :: .bot :: .ow 144 :: .pt 48 0 :: .c (.v (.string y5)) :: Bo (bif ok9 then y30.2 else false) :: I i33 :: bt 92 []), [(51, .qarr (γ 51) 3 1 ((l13 ++ ([y30.1])).map c3)), (50, .qarr (γ 50) 109 4 (l12.map c109)), (49, .qarr (γ 49) 38 3 (l11.map c38)), (48, .box [.v (zE (γ 49)), .v (zE (γ 50)), .v (zE (γ 51))]), (144, .arr 9 1 (y2.map c9)), (24, .box [.v (.slice none 0 0), .v (.slice none 0 0), .v (.slice none 0 0)])]⟩) (mb 102 1000) [51, 50, 49, 48, 144, 24] ?_ ?_
       ·refine XR 3 ?_
        refine zD ?_
        subst hi33
        exact ⟨γ, by kernel_rfl⟩
       intro γ
       exact ⟨n, Nat.lt_succ_self n, _, _, _, _, _, γ,  kk, h⟩
    ·refine V_exit ?_
     obtain rfl := zB h
     exact ⟨γ, kk⟩
  intro γ
  show V _ _ _ _
  refine V_frzQ 49 48 0 (l := γ 49) (T := 38) (sz := 3) (els := o15.2.2.2.map c38) (cs := [.v (zE (γ 49)), .v (zE (γ 50)), .v (zE (γ 51))]) (s1 := ⟨bt 3 (.pt 24 0 :: .bot :: .ow 144 :: .pt 48 0 :: .bot :: Bo o15.1 :: bt 93 []), [(51, .qarr (γ 51) 3 1 (o15.2.1.map c3)), (50, .qarr (γ 50) 109 4 (o15.2.2.1.map c109)), (48, .box [.sl (o15.2.2.2.map c38), .v (zE (γ 50)), .v (zE (γ 51))]), (144, .arr 9 1 (y2.map c9)), (24, .box [.v (.slice none 0 0), .v (.slice none 0 0), .v (.slice none 0 0)])]⟩) kk kk kk kk ?_
  refine V_frzQ 50 48 1 (l := γ 50) (T := 109) (sz := 4) (els := o15.2.2.1.map c109) (cs := [.sl (o15.2.2.2.map c38), .v (zE (γ 50)), .v (zE (γ 51))]) (s1 := ⟨bt 3 (.pt 24 0 :: .bot :: .ow 144 :: .pt 48 0 :: .bot :: Bo o15.1 :: bt 93 []), [(51, .qarr (γ 51) 3 1 (o15.2.1.map c3)), (48, .box [.sl (o15.2.2.2.map c38), .sl (o15.2.2.1.map c109), .v (zE (γ 51))]), (144, .arr 9 1 (y2.map c9)), (24, .box [.v (.slice none 0 0), .v (.slice none 0 0), .v (.slice none 0 0)])]⟩) kk kk kk kk ?_
  refine V_frzQ 51 48 2 (l := γ 51) (T := 3) (sz := 1) (els := o15.2.1.map c3) (cs := [.sl (o15.2.2.2.map c38), .sl (o15.2.2.1.map c109), .v (zE (γ 51))]) (s1 := ⟨bt 3 (.pt 24 0 :: .bot :: .ow 144 :: .pt 48 0 :: .bot :: Bo o15.1 :: bt 93 []), [(48, .box [.sl (o15.2.2.2.map c38), .sl (o15.2.2.1.map c109), .sl (o15.2.1.map c3)]), (144, .arr 9 1 (y2.map c9)), (24, .box [.v (.slice none 0 0), .v (.slice none 0 0), .v (.slice none 0 0)])]⟩) kk kk kk kk ?_
  obtain ⟨e34, he34, h⟩ := zA h
  obtain ⟨e35, he35, h⟩ := zA h
  refine VDS [0, 1, 3, 0, 0, 7, 47, 127] 7 [[.z, .z, .z, .b, .b, .z, .z], [.a, .z, .z, .b, .b, .z, .z], [.a, .a, .z, .b, .b, .z, .z], [.b, .b, .b, .z, .b, .b, .z], [.b, .b, .b, .b, .z, .b, .r 24], [.a, .a, .a, .b, .b, .z, .z], [.a, .a, .a, .a, .b, .a, .z]] ?_
  refine ER 1 ?_
  refine E0 1 rfl rfl (Y0_idxoM (c := c9) (xs := y2) (v := e34) (id := 144) (T := 9) (sz := 1) (n := 0) Tryz.underlying66 sz9 rfl kk kk kk he34) ?_
  refine E0 2 rfl rfl (Y0_loado1 (c := c9) (xs := y2) (v := e35) (id := 144) (sz := 1) (T := 9) (off := 0) (n := 0) (d := .v (.string e35)) (ds := []) sc9 rfl kk kk he35 kk) ?_
  refine EF 4 ?_
  cases h
  exact zJ VT
theorem cf_spec_foDet : CfW Tryz.prog 217 := cfW Tryz.func217
theorem s_spec_foDet {vm1 : (Int × Int × Int × Int)} {r : Int} (h : r_spec_foDet vm1 = some r) : zQ Tryz.prog 217 [.ag [Ti vm1.1, Ti vm1.2.1, Ti vm1.2.2.1, Ti vm1.2.2.2]] (I r) [] := by
 refine CtW [2] Tryz.func217 rfl rfl 14 ?_
 unfold r_spec_foDet at h
 refine VE ?_
 obtain ⟨t2, ht2, h⟩ := zU h
 refine zO (mb 14 4) [] (s1 := ⟨.bot :: .bot :: I t2 :: bt 11 [], []⟩) ?_ ?_
 ·refine XR 12 ?_
  refine zD ?_
  subst ht2
  kernel_rfl
 cases h
 exact zJ VT
theorem cf_spec_foValue : CfW Tryz.prog 150 := cfW Tryz.func150
theorem s_spec_foValue {f1 : (Int × Int × Int)} {x2 : Int} {y3 : Int} {r : Int} (h : r_spec_foValue f1 x2 y3 = some r) : zQ Tryz.prog 150 [.ag [Ti f1.1, Ti f1.2.1, Ti f1.2.2], I x2, I y3] (I r) [] := by
 refine CtW [6] Tryz.func150 rfl rfl 27 ?_
 unfold r_spec_foValue at h
 refine VE ?_
 obtain ⟨t4, ht4, h⟩ := zU h
 refine zO (mb 27 64) [] (s1 := ⟨bt 6 (I t4 :: bt 20 []), []⟩) ?_ ?_
 ·refine XR 21 ?_
  refine zD ?_
  subst ht4
  kernel_rfl
 cases h
 exact zJ VT
theorem cf_spec_foPolar : CfW Tryz.prog 252 := cfW Tryz.func252
theorem s_spec_foPolar {f1 : (Int × Int × Int)} {x2 : Int} {y3 : Int} {u4 : Int} {v5 : Int} {r : Int} (h : r_spec_foPolar f1 x2 y3 u4 v5 = some r) : zQ Tryz.prog 252 [.ag [Ti f1.1, Ti f1.2.1, Ti f1.2.2], I x2, I y3, I u4, I v5] (I r) [] := by
 refine CtW [10] Tryz.func252 rfl rfl 37 ?_
 unfold r_spec_foPolar at h
 refine VE ?_
 obtain ⟨t6, ht6, h⟩ := zU h
 refine zO (mb 37 1024) [] (s1 := ⟨bt 10 (I t6 :: bt 26 []), []⟩) ?_ ?_
 ·refine XR 27 ?_
  refine zD ?_
  subst ht6
  kernel_rfl
 cases h
 exact zJ VT
theorem cf_spec_foAct : CfW Tryz.prog 198 := cfW Tryz.func198
theorem s_spec_foAct {f1 : (Int × Int × Int)} {vm2 : (Int × Int × Int × Int)} {r : (Int × Int × Int)} (h : r_spec_foAct f1 vm2 = some r) : zQ Tryz.prog 198 [.ag [Ti f1.1, Ti f1.2.1, Ti f1.2.2], .ag [Ti vm2.1, Ti vm2.2.1, Ti vm2.2.2.1, Ti vm2.2.2.2]] (.ag [Ti r.1, Ti r.2.1, Ti r.2.2]) [] := by
 refine zT (rs := [.w 4 3]) (vs := [.cell 4 38]) Tryz.func198 rfl rfl (.cons ⟨rfl, wd38⟩ FitsL.nil) (by decide) 28 rfl ?_
 unfold r_spec_foAct at h
 refine VE ?_
 obtain ⟨y3, hy3, h⟩ := zA h
 obtain ⟨y4, hy4, h⟩ := zA h
 obtain ⟨y5, hy5, h⟩ := zA h
 refine VDS [0, 0, 2, 0, 8, 31, 0, 0, 128, 0, 512, 0, 2048, 0, 8192, 32767, 0, 0, 131072, 0, 524288, 2097151, 4194303, 8388607] 23 (cdm 23 [2929883521704, 2929883521666, 2929883521670, 2929883521066, 2929883521130, 2929883521365, 2929883515562, 2929883359914, 2929883376298, 2929880902314, 2929881164458, 2929841580714, 2929845775018, 2929212435114, 2929279543978, 2929525609813, 2923441072810, 2760232315562, 2777412184746, 183251937962, 458129844906, 1466015503701, 5864062014805]) ?_
 refine EK 5 (s_spec_foValue hy3) cf_spec_foValue ?_
 refine EK 9 (s_spec_foPolar hy4) cf_spec_foPolar ?_
 refine EK 5 (s_spec_foValue hy5) cf_spec_foValue ?_
 refine E0 22 rfl rfl (Y0_build (cs := [Ti y3, Ti y4, Ti y5]) pl38 bt38 rfl rfl kk) ?_
 refine EF 0 ?_
 cases h
 exact zJ VT
theorem cf_spec_prTakes : CfW Tryz.prog 148 := cfW Tryz.func148
theorem s_spec_prTakes {f1 : (Int × Int × Int)} {vm2 : (Int × Int × Int × Int)} {g3 : (Int × Int × Int)} {r : Bool} (h : r_spec_prTakes f1 vm2 g3 = some r) : zQ Tryz.prog 148 [.ag [Ti f1.1, Ti f1.2.1, Ti f1.2.2], .ag [Ti vm2.1, Ti vm2.2.1, Ti vm2.2.2.1, Ti vm2.2.2.2], .ag [Ti g3.1, Ti g3.2.1, Ti g3.2.2]] (Bo r) [] := by
 refine CtW [6] Tryz.func148 rfl rfl 17 ?_
 unfold r_spec_prTakes at h
 refine VE ?_
 obtain ⟨y4, hy4, h⟩ := zA h
 obtain ⟨b7, hb7, h⟩ := zA h
 refine V_sdreg [0, 1, 3, 7, 15, 15, 63, 15, 255, 511, 1023] 11 (cdm 11 [0, 1, 5, 21, 34901, 33365, 34133, 10837, 21845, 87381, 349525]) (mb 17 64) [] (s1 := ⟨bt 6 (Bo b7 :: bt 10 []), []⟩) kk kk ?_ ?_
 ·refine EK 1 (s_spec_foDet hy4) cf_spec_foDet ?_
  refine ER 2 ?_
  refine DL_split (eqI y4 1) (fun hc5 => ?_) (fun hc5 => ?_)
  ·have hb7 := zN hb7 hc5
   obtain ⟨y6, hy6, hb7⟩ := zA hb7
   have hb7 := zB hb7
   refine EQ hc5 ?_
   refine EK 2 (s_spec_foAct hy6) cf_spec_foAct ?_
   refine ER 1 ?_
   refine E0 8 rfl rfl (Y0_eqg3 (a0 := y6.1) (b0 := g3.1) (a1 := y6.2.1) (b1 := g3.2.1) (a2 := y6.2.2) (b2 := g3.2.2) eqg38 rfl kk kk) ?_
   refine EA 2 ?_
   exact YE (by rw [← hb7]; (try rw [hc5]); kernel_rfl)
  ·have hb7 := zB (zC hb7 hc5)
   refine EQ hc5 ?_
   refine EA 7 ?_
   exact YE (by rw [← hb7]; (try rw [hc5]); kernel_rfl)
 cases h
 exact zJ VT
theorem cf_spec_nuGood : CfW Tryz.prog 211 := cfW Tryz.func211
theorem s_spec_nuGood {vn1 : Int} {r : Bool} (h : r_spec_nuGood vn1 = some r) : zQ Tryz.prog 211 [I vn1] (Bo r) [] := by
 refine CtW [2] Tryz.func211 rfl rfl 5 ?_
 unfold r_spec_nuGood at h
 refine VE ?_
 obtain ⟨y2, hy2, h⟩ := zA h
 refine VS ?_
 refine YK 1 (s_spec_l1In hy2) cf_spec_l1In ?_
 refine YF ?_
 cases h
 exact zJ VT
theorem cf_spec_foGood : CfW Tryz.prog 200 := cfW Tryz.func200
theorem s_spec_foGood {f1 : (Int × Int × Int)} {r : Bool} (h : r_spec_foGood f1 = some r) : zQ Tryz.prog 200 [.ag [Ti f1.1, Ti f1.2.1, Ti f1.2.2]] (Bo r) [] := by
 refine CtW [2] Tryz.func200 rfl rfl 16 ?_
 unfold r_spec_foGood at h
 refine VE ?_
 obtain ⟨y2, hy2, h⟩ := zA h
 obtain ⟨b5, hb5, h⟩ := zA h
 obtain ⟨b8, hb8, h⟩ := zA h
 refine zO (mb 16 4) [] (s1 := ⟨.bot :: .bot :: Bo b8 :: bt 13 [], []⟩) ?_ ?_
 ·refine YK 2 (s_spec_nuGood hy2) cf_spec_nuGood ?_
  refine YR 1 ?_
  refine zI y2 (fun hc3 => ?_) (fun hc3 => ?_)
  ·have hb5 := zN hb5 hc3
   obtain ⟨y4, hy4, hb5⟩ := zA hb5
   have hb5 := zB hb5
   refine YQ hc3 ?_
   refine YK 2 (s_spec_nuGood hy4) cf_spec_nuGood ?_
   refine YR 2 ?_
   refine zI b5 (fun hc6 => ?_) (fun hc6 => ?_)
   ·have hb8 := zN hb8 hc6
    obtain ⟨y7, hy7, hb8⟩ := zA hb8
    have hb8 := zB hb8
    refine YQ hc6 ?_ (by rw [← hb5]; (try rw [← hb8]); (try rw [hc3]); kernel_rfl)
    refine YK 2 (s_spec_nuGood hy7) cf_spec_nuGood ?_
    exact YE (by rw [← hb8]; (try rw [hc3]); (try rw [hc6]); kernel_rfl)
   ·have hb8 := zB (zC hb8 hc6)
    refine YQ hc6 ?_ (by rw [← hb5]; (try rw [← hb8]); (try rw [hc3]); kernel_rfl)
    exact YE (by rw [← hb8]; (try rw [hc3]); (try rw [hc6]); kernel_rfl)
  ·have hb5 := zB (zC hb5 hc3)
   refine YQ hc3 ?_
   refine YR 5 ?_
   subst hb5
   have hc6 : false = false := rfl
   have hb8 := zB (zC hb8 hc6)
   exact YE (by rw [← hb8]; (try rw [hc3]); kernel_rfl)
 cases h
 exact zJ VT
theorem cf_spec_foDisc : CfW Tryz.prog 99 := cfW Tryz.func99
theorem s_spec_foDisc {f1 : (Int × Int × Int)} {r : Int} (h : r_spec_foDisc f1 = some r) : zQ Tryz.prog 99 [.ag [Ti f1.1, Ti f1.2.1, Ti f1.2.2]] (I r) [] := by
 refine CtW [2] Tryz.func99 rfl rfl 15 ?_
 unfold r_spec_foDisc at h
 refine VE ?_
 obtain ⟨t2, ht2, h⟩ := zU h
 refine zO (mb 15 4) [] (s1 := ⟨.bot :: .bot :: I t2 :: bt 12 [], []⟩) ?_ ?_
 ·refine XR 13 ?_
  refine zD ?_
  subst ht2
  kernel_rfl
 cases h
 exact zJ VT
theorem cf_spec_foDefinite : CfW Tryz.prog 137 := cfW Tryz.func137
theorem s_spec_foDefinite {f1 : (Int × Int × Int)} {r : Bool} (h : r_spec_foDefinite f1 = some r) : zQ Tryz.prog 137 [.ag [Ti f1.1, Ti f1.2.1, Ti f1.2.2]] (Bo r) [] := by
 refine CtW [2] Tryz.func137 rfl rfl 15 ?_
 unfold r_spec_foDefinite at h
 refine VE ?_
 obtain ⟨y2, hy2, h⟩ := zA h
 obtain ⟨b5, hb5, h⟩ := zA h
 refine zO (mb 15 4) [] (s1 := ⟨.bot :: .bot :: Bo (bif b5 then (ltI 0 f1.1) else false) :: bt 12 [], []⟩) ?_ ?_
 ·refine YK 1 (s_spec_foGood hy2) cf_spec_foGood ?_
  refine YR 1 ?_
  refine zI y2 (fun hc3 => ?_) (fun hc3 => ?_)
  ·have hb5 := zN hb5 hc3
   obtain ⟨y4, hy4, hb5⟩ := zA hb5
   have hb5 := zB hb5
   refine YQ hc3 ?_
   refine YK 1 (s_spec_foDisc hy4) cf_spec_foDisc ?_
   refine YR 3 ?_
   refine zI b5 (fun hc6 => ?_) (fun hc6 => ?_)
   ·refine YQ hc6 ?_ (by rw [← hb5]; (try rw [hc3]); kernel_rfl)
    exact YE (by rw [hc6]; kernel_rfl)
   ·refine YQ hc6 ?_ (by rw [← hb5]; (try rw [hc3]); kernel_rfl)
    exact YE (by rw [hc6]; kernel_rfl)
  ·have hb5 := zB (zC hb5 hc3)
   refine YQ hc3 ?_
   refine YR 5 ?_
   subst hb5
   have hc6 : false = false := rfl
   exact YE
 cases h
 exact zJ VT
theorem cf_spec_reIs : CfW Tryz.prog 149 := cfW Tryz.func149
theorem s_spec_reIs {f1 : (Int × Int × Int)} {r : Bool} (h : r_spec_reIs f1 = some r) : zQ Tryz.prog 149 [.ag [Ti f1.1, Ti f1.2.1, Ti f1.2.2]] (Bo r) [] := by
 refine CtW [2] Tryz.func149 rfl rfl 35 ?_
 unfold r_spec_reIs at h
 refine VE ?_
 obtain ⟨t6, ht6, h⟩ := zA h
 have ht6 := zB ht6
 refine zO (mb 35 4) [] (s1 := ⟨.bot :: .bot :: Bo t6 :: bt 32 [], []⟩) ?_ ?_
 ·refine YR 7 ?_
  refine zI (ltI (w64 (0 - f1.1)) f1.2.1) (fun hc2 => ?_) (fun hc2 => ?_)
  ·refine YQ hc2 ?_
   refine YR 7 ?_
   refine zI (bif (ltI (w64 (0 - f1.1)) f1.2.1) then (leI f1.2.1 f1.1) else false) (fun hc3 => ?_) (fun hc3 => ?_)
   ·refine YQ hc3 ?_ (by rw [hc2]; kernel_rfl)
    refine YR 6 ?_
    refine zI (ltI f1.1 f1.2.2) (fun hc4 => ?_) (fun hc4 => ?_)
    ·refine YQ hc4 ?_
     exact YE (by rw [← ht6]; (try rw [hc3]); (try rw [hc2]); (try rw [hc4]); kernel_rfl)
    ·refine YQ hc4 ?_
     refine YR 6 ?_
     refine zI (eqI f1.1 f1.2.2) (fun hc5 => ?_) (fun hc5 => ?_)
     ·refine YQ hc5 ?_
      exact YE (by rw [← ht6]; (try rw [hc3]); (try rw [hc2]); (try rw [hc4]); (try rw [hc5]); kernel_rfl)
     ·refine YQ hc5 ?_
      exact YE (by rw [← ht6]; (try rw [hc3]); (try rw [hc2]); (try rw [hc4]); (try rw [hc5]); kernel_rfl)
   ·refine YQ hc3 ?_ (by rw [hc2]; kernel_rfl)
    exact YE (by rw [← ht6]; (try rw [hc3]); (try rw [hc2]); kernel_rfl)
  ·refine YQ hc2 ?_
   refine YR 7 ?_
   refine zI (bif (ltI (w64 (0 - f1.1)) f1.2.1) then (leI f1.2.1 f1.1) else false) (fun hc3 => ?_) (fun hc3 => ?_)
   ·refine YQ hc3 ?_ (by rw [hc2]; kernel_rfl)
    refine YR 6 ?_
    refine zI (ltI f1.1 f1.2.2) (fun hc4 => ?_) (fun hc4 => ?_)
    ·refine YQ hc4 ?_
     exact YE (by rw [← ht6]; (try rw [hc3]); (try rw [hc2]); (try rw [hc4]); kernel_rfl)
    ·refine YQ hc4 ?_
     refine YR 6 ?_
     refine zI (eqI f1.1 f1.2.2) (fun hc5 => ?_) (fun hc5 => ?_)
     ·refine YQ hc5 ?_
      exact YE (by rw [← ht6]; (try rw [hc3]); (try rw [hc2]); (try rw [hc4]); (try rw [hc5]); kernel_rfl)
     ·refine YQ hc5 ?_
      exact YE (by rw [← ht6]; (try rw [hc3]); (try rw [hc2]); (try rw [hc4]); (try rw [hc5]); kernel_rfl)
   ·refine YQ hc3 ?_ (by rw [hc2]; kernel_rfl)
    exact YE (by rw [← ht6]; (try rw [hc3]); (try rw [hc2]); kernel_rfl)
 cases h
 exact zJ VT
theorem cf_spec_l1Most : CfW Tryz.prog 225 := cfW Tryz.func225
theorem s_spec_l1Most {a1 : Int} {b2 : Int} {r : Int} (h : r_spec_l1Most a1 b2 = some r) : zQ Tryz.prog 225 [I a1, I b2] (I r) [] := by
 refine CtW [4] Tryz.func225 rfl rfl 10 ?_
 unfold r_spec_l1Most at h
 refine VE ?_
 refine zG ?_
 refine VE ?_
 refine VC h (fun h => ?_) (fun h => ?_)
 ·refine VE ?_
  cases h
  exact zJ VT
 ·refine zK ?_
  show V _ _ _ _
  refine VE ?_
  cases h
  exact zJ VT
theorem cf_spec_l1Abs : CfW Tryz.prog 158 := cfW Tryz.func158
theorem s_spec_l1Abs {vn1 : Int} {r : Int} (h : r_spec_l1Abs vn1 = some r) : zQ Tryz.prog 158 [I vn1] (I r) [] := by
 refine CtW [2] Tryz.func158 rfl rfl 7 ?_
 unfold r_spec_l1Abs at h
 refine VE ?_
 obtain ⟨y2, hy2, h⟩ := zA h
 refine VS ?_
 refine YK 3 (s_spec_l1Most hy2) cf_spec_l1Most ?_
 refine YF ?_
 cases h
 exact zJ VT
theorem cf_spec_nuGcd : CfW Tryz.prog 151 := cfW Tryz.func151
theorem s_spec_nuGcd {a1 : Int} {b2 : Int} {r : Int} (h : r_spec_nuGcd a1 b2 = some r) : zQ Tryz.prog 151 [I a1, I b2] (I r) [] := by
 refine CtW [4] Tryz.func151 rfl rfl 16 ?_
 unfold r_spec_nuGcd at h
 refine VE ?_
 obtain ⟨y3, hy3, h⟩ := zA h
 obtain ⟨y4, hy4, h⟩ := zA h
 refine VS ?_
 refine YK 1 (s_spec_l1Abs hy3) cf_spec_l1Abs ?_
 refine YK 1 (s_spec_l1Abs hy4) cf_spec_l1Abs ?_
 refine YF ?_
 refine zG ?_
 obtain ⟨o8, hLo8, h⟩ := zA h
 refine V_toK (mb 16 1) [] (s1 := ⟨I o8 :: bt 15 [], []⟩) ?_ ?_
 ·clear h
  refine zH (V_loop (fun n s => ∃ (a5 : Int) (b6 : Int), s.keep (mb 16 3) [] = (⟨I a5 :: I b6 :: bt 14 [], []⟩ : St) ∧ r_spec_nuGcd_L7 n a5 b6 = some o8) FU ⟨_, _,  kk, hLo8⟩ ?_)
  clear hLo8
  rintro n s ⟨a5, b6, hs, h⟩
  refine zV _ _ hs ?_
  clear hs
  cases n with
  | zero => cases h
  | succ n =>
   rw [r_spec_nuGcd_L7] at h
   refine zG ?_
   refine VE ?_
   refine VC h (fun h => ?_) (fun h => ?_)
   ·refine zK ?_
    show V _ _ _ _
    refine zH ?_
    obtain ⟨z10, hz10, h⟩ := zA h
    obtain ⟨b11, hb11, h⟩ := zU h
    refine V_dreg [0, 0, 0, 6, 3, 31] 6 (cdm 6 [168, 34, 522, 534, 165, 341]) (mb 16 3) [] (s1 := ⟨I b6 :: I b11 :: bt 14 [], []⟩) kk kk ?_ ?_
    ·refine DR 3 ?_
     refine DE_0 3 (I (Int.tmod a5 b6)) kk rfl rfl rfl (zF rfl) kk (Y0_rem (k := .i64) (a := a5) (b := b6) rfl kk kk (nz_some hz10)) 14 rfl ?_
     refine DA 2 ?_
     refine zD ?_
     subst hb11
     kernel_rfl
    exact ⟨n, Nat.lt_succ_self n, _, _,  kk, h⟩
   ·refine V_exit ?_
    obtain rfl := zB h
    show St.keep _ _ _ = _
    kernel_rfl
 show V _ _ _ _
 refine VE ?_
 cases h
 exact zJ VT
theorem cf_spec_nuMod : CfW Tryz.prog 218 := cfW Tryz.func218
theorem s_spec_nuMod {a1 : Int} {vm2 : Int} {r : Int} (h : r_spec_nuMod a1 vm2 = some r) : zQ Tryz.prog 218 [I a1, I vm2] (I r) [] := by
 refine CtW [4] Tryz.func218 rfl rfl 15 ?_
 unfold r_spec_nuMod at h
 refine VE ?_
 obtain ⟨z3, hz3, h⟩ := zA h
 obtain ⟨vr4, hvr4, h⟩ := zU h
 refine zO (mb 15 34) [] (s1 := ⟨.bot :: I vm2 :: bt 3 (I vr4 :: bt 9 []), []⟩) ?_ ?_
 ·refine XR 2 ?_
  refine L0 rfl rfl (Y0_rem (k := .i64) (a := a1) (b := vm2) rfl kk kk (nz_some hz3)) ?_
  refine XR 1 ?_
  refine zD ?_
  subst hvr4
  kernel_rfl
 refine zG ?_
 refine VE ?_
 refine VC h (fun h => ?_) (fun h => ?_)
 ·obtain ⟨vr6, hvr6, h⟩ := zU h
  refine V_reg (mb 15 32) [] (s1 := ⟨bt 5 (I vr6 :: bt 9 []), []⟩) ?_ ?_
  ·refine XR 4 ?_
   refine zD ?_
   subst hvr6
   kernel_rfl
  show V _ _ _ _
  refine VE ?_
  cases h
  exact zJ VT
 ·refine zK ?_
  show V _ _ _ _
  refine VE ?_
  cases h
  exact zJ VT
theorem cf_spec_reDisc : CfW Tryz.prog 152 := cfW Tryz.func152
theorem s_spec_reDisc {d1 : Int} {r : Bool} (h : r_spec_reDisc d1 = some r) : zQ Tryz.prog 152 [I d1] (Bo r) [] := by
 refine CtW [2] Tryz.func152 rfl rfl 10 ?_
 unfold r_spec_reDisc at h
 refine VE ?_
 obtain ⟨y2, hy2, h⟩ := zA h
 obtain ⟨b5, hb5, h⟩ := zA h
 refine zO (mb 10 4) [] (s1 := ⟨.bot :: .bot :: Bo b5 :: bt 7 [], []⟩) ?_ ?_
 ·refine YK 1 (s_spec_l1In hy2) cf_spec_l1In ?_
  refine YR 1 ?_
  refine zI y2 (fun hc3 => ?_) (fun hc3 => ?_)
  ·have hb5 := zN hb5 hc3
   obtain ⟨y4, hy4, hb5⟩ := zA hb5
   have hb5 := zB hb5
   refine YQ hc3 ?_
   refine YK 1 (s_spec_nuMod hy4) cf_spec_nuMod ?_
   exact YE (by rw [← hb5]; (try rw [hc3]); kernel_rfl)
  ·have hb5 := zB (zC hb5 hc3)
   refine YQ hc3 ?_
   exact YE (by rw [← hb5]; (try rw [hc3]); kernel_rfl)
 cases h
 exact zJ VT
theorem cf_spec_nuPrime : CfW Tryz.prog 153 := cfW Tryz.func153
theorem s_spec_nuPrime {vn1 : Int} {r : Bool} (h : r_spec_nuPrime vn1 = some r) : zQ Tryz.prog 153 [I vn1] (Bo r) [] := by
 refine CtW [2] Tryz.func153 rfl rfl 17 ?_
 unfold r_spec_nuPrime at h
 refine VE ?_
 refine zG ?_
 refine VE ?_
 refine VC h (fun h => ?_) (fun h => ?_)
 ·refine VE ?_
  cases h
  exact zJ VT
 ·refine zK ?_
  show V _ _ _ _
  refine zG ?_
  refine VE ?_
  obtain ⟨qo5, hLo5, hko5⟩ := zA h
  refine V_toS (q := qo5) (S := fun o5 => ⟨bt 17 [], []⟩) (mb 17 0) [] ?_ ?_
  ·refine zH (V_loop (fun n s => ∃ (d3 : Int), s.keep (mb 17 9) [] = (⟨I vn1 :: .bot :: .bot :: I d3 :: bt 13 [], []⟩ : St) ∧ r_spec_nuPrime_L4 vn1 n d3 = some qo5) FU ⟨_,  kk, hLo5⟩ ?_)
   clear hLo5
   rintro n s ⟨d3, hs, h⟩
   refine zV _ _ hs ?_
   clear hs
   cases n with
   | zero => cases h
   | succ n =>
    rw [r_spec_nuPrime_L4] at h
    refine zG ?_
    refine VE ?_
    refine VC h (fun h => ?_) (fun h => ?_)
    ·refine zK ?_
     show V _ _ _ _
     refine zG ?_
     refine zH ?_
     obtain ⟨z7, hz7, h⟩ := zA h
     refine VS ?_
     refine YR 2 ?_
     refine L0 rfl rfl (Y0_rem (k := .i64) (a := vn1) (b := d3) rfl kk kk (nz_some hz7)) ?_
     refine YF ?_
     refine VC h (fun h => ?_) (fun h => ?_)
     ·refine VE ?_
      refine zJ ?_
      obtain rfl := zB h
      have h := hko5
      obtain rfl := zB h
      exact VT
     ·refine zK ?_
      show V _ _ _ _
      obtain ⟨d9, hd9, h⟩ := zU h
      refine V_reg (mb 17 9) [] (s1 := ⟨I vn1 :: .bot :: .bot :: I d9 :: bt 13 [], []⟩) ?_ ?_
      ·refine XR 3 ?_
       refine zD ?_
       subst hd9
       kernel_rfl
      exact ⟨n, Nat.lt_succ_self n, _,  kk, h⟩
    ·refine V_exit ?_
     obtain rfl := zB h
     exact ⟨_, rfl, kk⟩
  rintro o5 rfl
  have h := hko5
  clear hko5
  show V _ _ _ _
  refine VE ?_
  cases h
  exact zJ VT
theorem cf_spec_nuExponent : CfW Tryz.prog 154 := cfW Tryz.func154
theorem s_spec_nuExponent {vn1 : Int} {p2 : Int} {r : Int} (h : r_spec_nuExponent vn1 p2 = some r) : zQ Tryz.prog 154 [I vn1, I p2] (I r) [] := by
 refine CtW [4] Tryz.func154 rfl rfl 16 ?_
 unfold r_spec_nuExponent at h
 refine VE ?_
 refine VE ?_
 refine zG ?_
 obtain ⟨o6, hLo6, h⟩ := zA h
 refine V_toK (mb 16 32) [] (s1 := ⟨bt 5 (I o6 :: bt 10 []), []⟩) ?_ ?_
 ·clear h
  refine zH (V_loop (fun n s => ∃ (vn3 : Int) (k4 : Int), s.keep (mb 16 35) [] = (⟨I vn3 :: I p2 :: bt 3 (I k4 :: bt 10 []), []⟩ : St) ∧ r_spec_nuExponent_L5 p2 n vn3 k4 = some o6) FU ⟨_, _,  kk, hLo6⟩ ?_)
  clear hLo6
  rintro n s ⟨vn3, k4, hs, h⟩
  refine zV _ _ hs ?_
  clear hs
  cases n with
  | zero => cases h
  | succ n =>
   rw [r_spec_nuExponent_L5] at h
   refine zG ?_
   obtain ⟨z7, hz7, h⟩ := zA h
   refine VS ?_
   refine YR 2 ?_
   refine L0 rfl rfl (Y0_rem (k := .i64) (a := vn3) (b := p2) rfl kk kk (nz_some hz7)) ?_
   refine YF ?_
   refine VC h (fun h => ?_) (fun h => ?_)
   ·refine zK ?_
    show V _ _ _ _
    refine zH ?_
    obtain ⟨z9, hz9, h⟩ := zA h
    obtain ⟨vn10, hvn10, h⟩ := zU h
    refine zO (mb 16 35) [] (s1 := ⟨I vn10 :: I p2 :: bt 3 (I k4 :: bt 10 []), []⟩) ?_ ?_
    ·refine XR 2 ?_
     refine L0 rfl rfl (zS (a := vn3) (b := p2) rfl kk kk (nz_some hz9)) ?_
     refine XR 1 ?_
     refine zD ?_
     subst hvn10
     kernel_rfl
    obtain ⟨k11, hk11, h⟩ := zU h
    refine V_reg (mb 16 35) [] (s1 := ⟨I vn10 :: I p2 :: bt 3 (I k11 :: bt 10 []), []⟩) ?_ ?_
    ·refine XR 3 ?_
     refine zD ?_
     subst hk11
     kernel_rfl
    exact ⟨n, Nat.lt_succ_self n, _, _,  kk, h⟩
   ·refine V_exit ?_
    obtain rfl := zB h
    show St.keep _ _ _ = _
    kernel_rfl
 show V _ _ _ _
 refine VE ?_
 cases h
 exact zJ VT
theorem cf_spec_roDisc : CfW Tryz.prog 155 := cfW Tryz.func155
theorem s_spec_roDisc {d1 : Int} {vn2 : Int} {r : List Int} (h : r_spec_roDisc d1 vn2 = some r) : zQ Tryz.prog 155 [I d1, I vn2] (.ow 0) [(0, .arr 3 1 (r.map c3))] := by
 refine CtW [4] Tryz.func155 rfl rfl 27 ?_
 unfold r_spec_roDisc at h
 refine VS ?_
 refine L1 rfl rfl (Y1_nil (e := 3) 1 (by decide) (.inl rfl)) ?_
 refine YF ?_
 refine VS ?_
 refine L1 rfl rfl (Y1_nil (e := 3) 1 (by decide) (.inl rfl)) ?_
 refine YF ?_
 refine zG ?_
 refine VE ?_
 obtain ⟨o6, hLo6, h⟩ := zA h
 refine V_toK (mb 27 32) [40] (s1 := ⟨bt 5 (.ow 40 :: bt 21 []), [(40, .arr 3 1 (o6.map c3))]⟩) ?_ ?_
 ·clear h
  refine zH (V_loop (fun n s => ∃ (b3 : Int) (l4 : List Int), s.keep (mb 27 99) [40] = (⟨I d1 :: I vn2 :: bt 3 (.ow 40 :: I b3 :: bt 20 []), [(40, .arr 3 1 (l4.map c3))]⟩ : St) ∧ r_spec_roDisc_L5 d1 vn2 n b3 l4 = some o6) FU ⟨_, _,  kk, hLo6⟩ ?_)
  clear hLo6
  rintro n s ⟨b3, l4, hs, h⟩
  refine zV _ _ hs ?_
  clear hs
  cases n with
  | zero => cases h
  | succ n =>
   rw [r_spec_roDisc_L5] at h
   refine zG ?_
   refine VE ?_
   refine VC h (fun h => ?_) (fun h => ?_)
   ·refine zK ?_
    show V _ _ _ _
    refine zG ?_
    refine zH ?_
    obtain ⟨z8, hz8, h⟩ := zA h
    obtain ⟨t9, ht9, h⟩ := zA h
    have ht9 := zB ht9
    refine zO (mb 27 2097251) [40] (s1 := ⟨I d1 :: I vn2 :: bt 3 (.ow 40 :: I b3 :: bt 14 (Bo t9 :: bt 5 [])), [(40, .arr 3 1 (l4.map c3))]⟩) ?_ ?_
    ·refine XR 7 ?_
     refine L0 rfl rfl (Y0_rem (k := .i64) (a := w64 ((w64 (b3 * b3)) - d1)) (b := w64 (4 * vn2)) rfl kk kk (nz_some hz8)) ?_
     refine XR 1 ?_
     refine zD ?_
     subst ht9
     kernel_rfl
    refine VC h (fun h => ?_) (fun h => ?_)
    ·obtain ⟨u11, hu11, h⟩ := zA h
     refine zX ?_
     refine YR 2 ?_
     refine L1 rfl rfl (Y1_bslice (z := zv3) (els := [b3].map c3) Tryz.underlying24 iz3 rfl (by decide) rfl kk rfl (by simp [c3]) (by decide) (by decide)) ?_
     refine XL_cons rfl (X_appendM (c := c3) (xs := l4) (ys := [b3]) (id := 40) (z := zv3) rfl rfl Tryz.underlying24 izb3 rfl kk kk kk (fun _ => rfl) (by simp) (room_some hu11) (by decide)) ?_
     refine YF ?_
     show V _ _ _ _
     obtain ⟨b12, hb12, h⟩ := zU h
     refine V_reg (mb 27 99) [40] (s1 := ⟨I d1 :: I vn2 :: bt 3 (.ow 40 :: I b12 :: bt 20 []), [(40, .arr 3 1 ((l4 ++ ([b3])).map c3))]⟩) ?_ ?_
     ·refine XR 3 ?_
      refine zD ?_
      subst hb12
      kernel_rfl
     exact ⟨n, Nat.lt_succ_self n, _, _,  kk, h⟩
    ·refine zK ?_
     show V _ _ _ _
     obtain ⟨b13, hb13, h⟩ := zU h
     refine V_reg (mb 27 99) [40] (s1 := ⟨I d1 :: I vn2 :: bt 3 (.ow 40 :: I b13 :: bt 20 []), [(40, .arr 3 1 (l4.map c3))]⟩) ?_ ?_
     ·refine XR 3 ?_
      refine zD ?_
      subst hb13
      kernel_rfl
     exact ⟨n, Nat.lt_succ_self n, _, _,  kk, h⟩
   ·refine V_exit ?_
    obtain rfl := zB h
    show St.keep _ _ _ = _
    kernel_rfl
 show V _ _ _ _
 refine VE ?_
 cases h
 exact zJ VT
theorem cf_spec_vaForm : CfW Tryz.prog 181 := cfW Tryz.func181
theorem s_spec_vaForm {f1 : (Int × Int × Int)} {r : Bool} (h : r_spec_vaForm f1 = some r) : zQ Tryz.prog 181 [.ag [Ti f1.1, Ti f1.2.1, Ti f1.2.2]] (Bo r) [] := by
 refine CtW [2] Tryz.func181 rfl rfl 10 ?_
 unfold r_spec_vaForm at h
 refine VE ?_
 obtain ⟨y2, hy2, h⟩ := zA h
 obtain ⟨b5, hb5, h⟩ := zA h
 refine zO (mb 10 4) [] (s1 := ⟨.bot :: .bot :: Bo b5 :: bt 7 [], []⟩) ?_ ?_
 ·refine YK 1 (s_spec_foDefinite hy2) cf_spec_foDefinite ?_
  refine YR 1 ?_
  refine zI y2 (fun hc3 => ?_) (fun hc3 => ?_)
  ·have hb5 := zN hb5 hc3
   obtain ⟨y4, hy4, hb5⟩ := zA hb5
   have hb5 := zB hb5
   refine YQ hc3 ?_
   refine YK 1 (s_spec_foDisc hy4) cf_spec_foDisc ?_
   exact YE (by rw [← hb5]; (try rw [hc3]); kernel_rfl)
  ·have hb5 := zB (zC hb5 hc3)
   refine YQ hc3 ?_
   exact YE (by rw [← hb5]; (try rw [hc3]); kernel_rfl)
 cases h
 exact zJ VT
theorem cf_spec_foContent : CfW Tryz.prog 182 := cfW Tryz.func182
theorem s_spec_foContent {f1 : (Int × Int × Int)} {r : Int} (h : r_spec_foContent f1 = some r) : zQ Tryz.prog 182 [.ag [Ti f1.1, Ti f1.2.1, Ti f1.2.2]] (I r) [] := by
 refine CtW [2] Tryz.func182 rfl rfl 11 ?_
 unfold r_spec_foContent at h
 refine VE ?_
 obtain ⟨y2, hy2, h⟩ := zA h
 obtain ⟨y3, hy3, h⟩ := zA h
 refine VDS [0, 1, 0, 4, 15, 0, 32, 127, 255] 9 (cdm 9 [10400, 10401, 10250, 10266, 10325, 682, 1706, 5461, 21845]) ?_
 refine EK 4 (s_spec_nuGcd hy2) cf_spec_nuGcd ?_
 refine EK 2 (s_spec_nuGcd hy3) cf_spec_nuGcd ?_
 refine EF 1 ?_
 cases h
 exact zJ VT
theorem cf_spec_coGood : CfW Tryz.prog 94 := cfW Tryz.func94
theorem s_spec_coGood {f1 : (Int × Int × Int)} {r : Bool} (h : r_spec_coGood f1 = some r) : zQ Tryz.prog 94 [.ag [Ti f1.1, Ti f1.2.1, Ti f1.2.2]] (Bo r) [] := by
 refine CtW [2] Tryz.func94 rfl rfl 10 ?_
 unfold r_spec_coGood at h
 refine VE ?_
 obtain ⟨y2, hy2, h⟩ := zA h
 obtain ⟨b5, hb5, h⟩ := zA h
 refine zO (mb 10 4) [] (s1 := ⟨.bot :: .bot :: Bo b5 :: bt 7 [], []⟩) ?_ ?_
 ·refine YK 1 (s_spec_vaForm hy2) cf_spec_vaForm ?_
  refine YR 1 ?_
  refine zI y2 (fun hc3 => ?_) (fun hc3 => ?_)
  ·have hb5 := zN hb5 hc3
   obtain ⟨y4, hy4, hb5⟩ := zA hb5
   have hb5 := zB hb5
   refine YQ hc3 ?_
   refine YK 1 (s_spec_foContent hy4) cf_spec_foContent ?_
   exact YE (by rw [← hb5]; (try rw [hc3]); kernel_rfl)
  ·have hb5 := zB (zC hb5 hc3)
   refine YQ hc3 ?_
   exact YE (by rw [← hb5]; (try rw [hc3]); kernel_rfl)
 cases h
 exact zJ VT
theorem cf_spec_coTwo : CfW Tryz.prog 219 := cfW Tryz.func219
theorem s_spec_coTwo {f1 : (Int × Int × Int)} {g2 : (Int × Int × Int)} {r : Bool} (h : r_spec_coTwo f1 g2 = some r) : zQ Tryz.prog 219 [.ag [Ti f1.1, Ti f1.2.1, Ti f1.2.2], .ag [Ti g2.1, Ti g2.2.1, Ti g2.2.2]] (Bo r) [] := by
 refine CtW [4] Tryz.func219 rfl rfl 18 ?_
 unfold r_spec_coTwo at h
 refine VE ?_
 obtain ⟨y3, hy3, h⟩ := zA h
 obtain ⟨b6, hb6, h⟩ := zA h
 obtain ⟨b10, hb10, h⟩ := zA h
 refine V_sdreg [0, 1, 3, 7, 15, 31, 63, 127, 255, 127, 1023, 2047, 4095, 8191] 14 (cdm 14 [0, 1, 5, 21, 85, 341, 1365, 529749, 546133, 169301, 349525, 1398101, 5592405, 22369621]) (mb 18 16) [] (s1 := ⟨bt 4 (Bo b10 :: bt 13 []), []⟩) kk kk ?_ ?_
 ·refine EK 1 (s_spec_coGood hy3) cf_spec_coGood ?_
  refine ER 1 ?_
  refine DL_split y3 (fun hc4 => ?_) (fun hc4 => ?_)
  ·have hb6 := zN hb6 hc4
   obtain ⟨y5, hy5, hb6⟩ := zA hb6
   have hb6 := zB hb6
   refine EQ hc4 ?_
   refine EK 1 (s_spec_coGood hy5) cf_spec_coGood ?_
   refine ER 2 ?_
   refine DL_split b6 (fun hc7 => ?_) (fun hc7 => ?_)
   ·have hb10 := zN hb10 hc7
    obtain ⟨y8, hy8, hb10⟩ := zA hb10
    obtain ⟨y9, hy9, hb10⟩ := zA hb10
    have hb10 := zB hb10
    refine EQ hc7 ?_ (by rw [← hb6]; (try rw [← hb10]); (try rw [hc4]); kernel_rfl)
    refine EK 1 (s_spec_foDisc hy8) cf_spec_foDisc ?_
    refine EK 1 (s_spec_foDisc hy9) cf_spec_foDisc ?_
    refine EA 3 ?_
    exact YE (by rw [← hb10]; (try rw [hc4]); (try rw [hc7]); kernel_rfl)
   ·have hb10 := zB (zC hb10 hc7)
    refine EQ hc7 ?_ (by rw [← hb6]; (try rw [← hb10]); (try rw [hc4]); kernel_rfl)
    refine EA 7 ?_
    exact YE (by rw [← hb10]; (try rw [hc4]); (try rw [hc7]); kernel_rfl)
  ·have hb6 := zB (zC hb6 hc4)
   refine EQ hc4 ?_
   refine ER 4 ?_
   subst hb6
   have hc7 : false = false := rfl
   have hb10 := zB (zC hb10 hc7)
   refine EA 7 ?_
   exact YE (by rw [← hb10]; (try rw [hc4]); kernel_rfl)
 cases h
 exact zJ VT
theorem cf_spec_l1All : CfW Tryz.prog 220 := cfW Tryz.func220
theorem s_spec_l1All {l1 : List Int} {lo2 : Int} {hi3 : Int} {r : Bool} (h : r_spec_l1All l1 lo2 hi3 = some r) : zQ Tryz.prog 220 [.c (.sl (l1.map c3)), I lo2, I hi3] (Bo r) [] := by
 refine CtW [6] Tryz.func220 rfl rfl 21 ?_
 unfold r_spec_l1All at h
 refine VE ?_
 refine zG ?_
 refine VS ?_
 refine YR 1 ?_
 refine L0 rfl rfl (Y0_lenM (c := c3) (xs := l1) Tryz.underlying24 rfl kk) ?_
 refine YF ?_
 obtain ⟨qo6, hLo6, hko6⟩ := zA h
 refine V_toS (q := qo6) (S := fun o6 => ⟨bt 21 [], []⟩) (mb 21 0) [] ?_ ?_
 ·refine zH (V_loop (fun n s => ∃ (t4 : Int), s.keep (mb 21 3590) [] = (⟨.bot :: I lo2 :: I hi3 :: bt 6 (.c (.sl (l1.map c3)) :: I ((l1.length : Int)) :: I t4 :: bt 9 []), []⟩ : St) ∧ r_spec_l1All_L5 hi3 l1 lo2 n t4 = some qo6) FU ⟨_,  kk, hLo6⟩ ?_)
  clear hLo6
  rintro n s ⟨t4, hs, h⟩
  refine zV _ _ hs ?_
  clear hs
  cases n with
  | zero => cases h
  | succ n =>
   rw [r_spec_l1All_L5] at h
   refine VE ?_
   refine zG ?_
   refine VC h (fun h => ?_) (fun h => ?_)
   ·refine zK ?_
    show V _ _ _ _
    refine zG ?_
    refine zH ?_
    obtain ⟨e8, he8, h⟩ := zA h
    refine VS ?_
    refine L0 rfl rfl (zM (c := c3) (xs := l1) (v := e8) (n := t4) Tryz.underlying24 sz3 rfl kk kk he8) ?_
    refine YF ?_
    obtain ⟨y9, hy9, h⟩ := zA h
    refine VS ?_
    refine YK 3 (s_spec_l1In hy9) cf_spec_l1In ?_
    refine YF ?_
    refine VC h (fun h => ?_) (fun h => ?_)
    ·refine VE ?_
     refine zJ ?_
     obtain rfl := zB h
     have h := hko6
     obtain rfl := zB h
     exact VT
    ·refine zK ?_
     show V _ _ _ _
     obtain ⟨t11, ht11, h⟩ := zU h
     refine V_reg (mb 21 3590) [] (s1 := ⟨.bot :: I lo2 :: I hi3 :: bt 6 (.c (.sl (l1.map c3)) :: I ((l1.length : Int)) :: I t11 :: bt 9 []), []⟩) ?_ ?_
     ·refine XR 2 ?_
      refine zD ?_
      subst ht11
      kernel_rfl
     exact ⟨n, Nat.lt_succ_self n, _,  kk, h⟩
   ·refine V_exit ?_
    obtain rfl := zB h
    exact ⟨_, rfl, kk⟩
 rintro o6 rfl
 have h := hko6
 clear hko6
 show V _ _ _ _
 refine VE ?_
 cases h
 exact zJ VT
end Go.Proofs.YtfmjfofocklgpaaGreatDoor
namespace Go.Proofs.YtfmjfofocklgpaaGreatDoor
open Go.RowKit
set_option linter.unusedVariables false
set_option linter.unusedSimpArgs false
set_option maxRecDepth 100000
set_option maxHeartbeats 400000
theorem cf_spec_coFits : CfW Tryz.prog 221 := cfW Tryz.func221
theorem s_spec_coFits {f1 : (Int × Int × Int)} {g2 : (Int × Int × Int)} {vh3 : (Int × Int × Int)} {k4 : List Int} {r : Bool} (h : r_spec_coFits f1 g2 vh3 k4 = some r) : zQ Tryz.prog 221 [.ag [Ti f1.1, Ti f1.2.1, Ti f1.2.2], .ag [Ti g2.1, Ti g2.2.1, Ti g2.2.2], .ag [Ti vh3.1, Ti vh3.2.1, Ti vh3.2.2], .c (.sl (k4.map c3))] (Bo r) [] := by
 refine CtW [8] Tryz.func221 rfl rfl 122 ?_
 unfold r_spec_coFits at h
 refine VE ?_
 refine VS ?_
 refine YR 6 ?_
 refine L1 rfl rfl (Y1_bslice (z := zv3) (els := [f1.1, f1.2.1, f1.2.2].map c3) Tryz.underlying24 iz3 rfl (by decide) rfl kk rfl (by simp [c3]) (by decide) (by decide)) ?_
 refine YR 6 ?_
 refine L1 rfl rfl (Y1_bslice (z := zv3) (els := [g2.1, g2.2.1, g2.2.2].map c3) Tryz.underlying24 iz3 rfl (by decide) rfl kk rfl (by simp [c3]) (by decide) (by decide)) ?_
 refine XL_freeze 168 (T := 3) (sz := 1) (els := ([f1.1, f1.2.1, f1.2.2]).map c3) kk rfl ?_
 refine XL_freeze 224 (T := 3) (sz := 1) (els := ([g2.1, g2.2.1, g2.2.2]).map c3) kk rfl ?_
 refine L1 rfl rfl (Y1_bslice (z := zv24) (els := [[f1.1, f1.2.1, f1.2.2], [g2.1, g2.2.1, g2.2.2]].map c24) Tryz.underlying233 iz24 rfl (by decide) rfl kk rfl (by simp [c24]) (by decide) (by decide)) ?_
 refine YF ?_
 obtain ⟨u5, hu5, h⟩ := zA h
 refine VS ?_
 refine L1 rfl rfl (Y1_make (c := c3) (zx := (0 : Int)) (z := zv3) (l := 9) (k := 9) Tryz.underlying24 izb3 rfl rfl (by decide) rfl rfl kk kk (mk_some hu5) (by decide)) ?_
 refine YF ?_
 refine zG ?_
 refine VE ?_
 obtain ⟨o9, hLo9, h⟩ := zA h
 refine V_toK (mb 122 1536) [240, 232] (s1 := ⟨bt 9 (.ow 232 :: .ow 240 :: bt 111 []), [(240, .arr 3 1 (o9.map c3)), (232, .arr 24 1 (([[f1.1, f1.2.1, f1.2.2], [g2.1, g2.2.1, g2.2.2]]).map c24))]⟩) ?_ ?_
 ·clear h
  refine zH (V_loop (fun n s => ∃ (i6 : Int) (l7 : List Int), s.keep (mb 122 3656) [240, 232, 48] = (⟨bt 3 (.c (.sl (k4.map c3)) :: .bot :: .bot :: .pt 48 0 :: .bot :: .bot :: .ow 232 :: .ow 240 :: I i6 :: bt 110 []), [(240, .arr 3 1 (l7.map c3)), (232, .arr 24 1 (([[f1.1, f1.2.1, f1.2.2], [g2.1, g2.2.1, g2.2.2]]).map c24)), (48, .box [Ti vh3.1, Ti vh3.2.1, Ti vh3.2.2])]⟩ : St) ∧ r_spec_coFits_L8 f1 g2 k4 vh3 n i6 l7 = some o9) FU ⟨_, _,  kk, hLo9⟩ ?_)
  clear hLo9
  rintro n s ⟨i6, l7, hs, h⟩
  refine zV _ _ hs ?_
  clear hs
  cases n with
  | zero => cases h
  | succ n =>
   rw [r_spec_coFits_L8] at h
   refine zG ?_
   refine VE ?_
   refine VC h (fun h => ?_) (fun h => ?_)
   ·refine zK ?_
    show V _ _ _ _
    refine zG ?_
    refine zH ?_
    refine VE ?_
    obtain ⟨o14, hLo14, h⟩ := zA h
    refine V_toK (mb 122 3656) [240, 232, 48] (s1 := ⟨bt 3 (.c (.sl (k4.map c3)) :: .bot :: .bot :: .pt 48 0 :: .bot :: .bot :: .ow 232 :: .ow 240 :: I i6 :: bt 110 []), [(240, .arr 3 1 (o14.map c3)), (232, .arr 24 1 (([[f1.1, f1.2.1, f1.2.2], [g2.1, g2.2.1, g2.2.2]]).map c24)), (48, .box [Ti vh3.1, Ti vh3.2.1, Ti vh3.2.2])]⟩) ?_ ?_
    ·clear h
     refine zH (V_loop (fun n s => ∃ (j11 : Int) (l12 : List Int), s.keep (mb 122 7752) [240, 232, 48] = (⟨bt 3 (.c (.sl (k4.map c3)) :: .bot :: .bot :: .pt 48 0 :: .bot :: .bot :: .ow 232 :: .ow 240 :: I i6 :: I j11 :: bt 109 []), [(240, .arr 3 1 (l12.map c3)), (232, .arr 24 1 (([[f1.1, f1.2.1, f1.2.2], [g2.1, g2.2.1, g2.2.2]]).map c24)), (48, .box [Ti vh3.1, Ti vh3.2.1, Ti vh3.2.2])]⟩ : St) ∧ r_spec_coFits_L13 f1 g2 i6 k4 vh3 n j11 l12 = some o14) FU ⟨_, _,  kk, hLo14⟩ ?_)
     clear hLo14
     rintro n s ⟨j11, l12, hs, h⟩
     refine zV _ _ hs ?_
     clear hs
     cases n with
     | zero => cases h
     | succ n =>
      rw [r_spec_coFits_L13] at h
      refine zG ?_
      refine VE ?_
      refine VC h (fun h => ?_) (fun h => ?_)
      ·refine zK ?_
       show V _ _ _ _
       refine zG ?_
       refine zH ?_
       obtain ⟨vat16, hvat16, h⟩ := zU h
       refine zO (mb 122 15944) [240, 232, 48] (s1 := ⟨bt 3 (.c (.sl (k4.map c3)) :: .bot :: .bot :: .pt 48 0 :: .bot :: .bot :: .ow 232 :: .ow 240 :: I i6 :: I j11 :: I vat16 :: bt 108 []), [(240, .arr 3 1 (l12.map c3)), (232, .arr 24 1 (([[f1.1, f1.2.1, f1.2.2], [g2.1, g2.2.1, g2.2.2]]).map c24)), (48, .box [Ti vh3.1, Ti vh3.2.1, Ti vh3.2.2])]⟩) ?_ ?_
       ·refine XR 1 ?_
        refine L0 rfl rfl (zS (a := i6) (b := 2) rfl kk kk (by decide)) ?_
        refine XR 1 ?_
        refine L0 rfl rfl (zS (a := j11) (b := 2) rfl kk kk (by decide)) ?_
        refine XR 3 ?_
        refine L0 rfl rfl (Y0_rem (k := .i64) (a := i6) (b := 2) rfl kk kk (by decide)) ?_
        refine XR 2 ?_
        refine L0 rfl rfl (Y0_rem (k := .i64) (a := j11) (b := 2) rfl kk kk (by decide)) ?_
        refine XR 2 ?_
        refine zD ?_
        subst hvat16
        kernel_rfl
       obtain ⟨e17, he17, h⟩ := zA h
       obtain ⟨e18, he18, h⟩ := zA h
       obtain ⟨e19, he19, h⟩ := zA h
       obtain ⟨e20, he20, h⟩ := zA h
       obtain ⟨e21, he21, h⟩ := zA h
       obtain ⟨e22, he22, h⟩ := zA h
       obtain ⟨e23, he23, h⟩ := zA h
       obtain ⟨e24, he24, h⟩ := zA h
       obtain ⟨e25, he25, h⟩ := zA h
       obtain ⟨e26, he26, h⟩ := zA h
       obtain ⟨l27, hl27, h⟩ := zA h
       have hl27 := zB hl27
       refine V_dreg [0, 0, 3, 7, 0, 16, 0, 0, 192, 448, 1008, 0, 0, 6144, 14336, 32752, 0, 65536, 0, 0, 786432, 1835008, 4128768, 0, 0, 16777216, 58720256, 125829120, 268369920, 536870896, 0, 1073741824, 0, 0, 8589934592, 30064771072, 64424509440, 136365211648, 0, 0, 549755813888, 1924145348608, 4123168604160, 8795019280384, 17592186044400, 35184372088831, 70368744177663, 140737488355327] 47 (cdm 47 [825293359523586849932749320, 825293359523586849932749314, 825293359523586849932749317, 825293359523586849932749333, 206323339304435958030180522, 206323339304435958030180778, 206323339304435958029519530, 206323339304435958029494954, 206323339304435958029507242, 206323339304435958029572778, 206323339304435958029833642, 206323339304435957352802986, 206323339304435957327637162, 206323339304435957340220074, 206323339304435957407328938, 206323339304435957674366378, 206323339160285544782146218, 206323339160285549077113514, 206323339160274455176587946, 206323339160274042859727530, 206323339160274249018157738, 206323339160275348529785514, 206323339160279725101460138, 206323339115144038341847722, 206323339112470026063096490, 206323339112751501039807146, 206323339113807032202472106, 206323339118310631829842602, 206323339136301575522921130, 206323339208359168129193386, 51543044509146174890617514, 51543045662067679497464490, 51531213228665899426949802, 51530512252391098463988394, 51530586039367393302194858, 51530862740528498945469098, 51532043332149216356772522, 51536759934024562967751338, 3072686458187182485711530, 201487636602438195784362, 503719091506095489460906, 1637087047394810340747946, 6472790325853327039572650, 25790417869419257262680746, 103161669940448356241593770, 412646679761793424966374741, 1650586719047173699865498965]) (mb 122 7752) [240, 232, 48] (s1 := ⟨bt 3 (.c (.sl (k4.map c3)) :: .bot :: .bot :: .pt 48 0 :: .bot :: .bot :: .ow 232 :: .ow 240 :: I i6 :: I j11 :: bt 109 []), [(240, .arr 3 1 (l27.map c3)), (232, .arr 24 1 (([[f1.1, f1.2.1, f1.2.2], [g2.1, g2.2.1, g2.2.2]]).map c24)), (48, .box [Ti vh3.1, Ti vh3.2.1, Ti vh3.2.2])]⟩) kk kk ?_ ?_
       ·refine DR 2 ?_
        refine DE_0 2 (.po 240 1 (Int.toNat (vat16)) 0) kk rfl rfl rfl (zF rfl) kk (Y0_idxoM (c := c3) (xs := l12) (v := e17) (id := 240) (T := 3) (sz := 1) (n := vat16) Tryz.underlying24 sz3 rfl kk kk kk he17) 53 rfl ?_
        refine DE_0 3 (I e18) kk rfl rfl rfl (zF rfl) kk (Y0_loado1 (c := c3) (xs := l12) (v := e18) (id := 240) (sz := 1) (T := 3) (off := 0) (n := vat16) (d := Ti e18) (ds := []) sc3 rfl kk kk he18 kk) 54 rfl ?_
        refine DR 4 ?_
        refine DE_0 8 (.pe [Ti e19]) kk rfl rfl rfl (zF rfl) kk (zM (c := c3) (xs := k4) (v := e19) (n := i6) Tryz.underlying24 sz3 rfl kk kk he19) 59 rfl ?_
        refine DR 4 ?_
        refine DE_0 13 (.pe [Ti e20]) kk rfl rfl rfl (zF rfl) kk (zM (c := c3) (xs := k4) (v := e20) (n := j11) Tryz.underlying24 sz3 rfl kk kk he20) 64 rfl ?_
        refine DR 6 ?_
        refine DE_0 20 (.pe [Ti e21]) kk rfl rfl rfl (zF rfl) kk (zM (c := c3) (xs := k4) (v := e21) (n := i6) Tryz.underlying24 sz3 rfl kk kk he21) 71 rfl ?_
        refine DR 5 ?_
        refine DE_0 26 (.pe [Ti e22]) kk rfl rfl rfl (zF rfl) kk (zM (c := c3) (xs := k4) (v := e22) (n := w64 (4 + j11)) Tryz.underlying24 sz3 rfl kk kk he22) 77 rfl ?_
        refine DR 8 ?_
        refine DE_0 35 (.pe [Ti e23]) kk rfl rfl rfl (zF rfl) kk (zM (c := c3) (xs := k4) (v := e23) (n := w64 (4 + i6)) Tryz.underlying24 sz3 rfl kk kk he23) 86 rfl ?_
        refine DR 5 ?_
        refine DE_0 41 (.pe [Ti e24]) kk rfl rfl rfl (zF rfl) kk (zM (c := c3) (xs := k4) (v := e24) (n := w64 (4 + j11)) Tryz.underlying24 sz3 rfl kk kk he24) 92 rfl ?_
        refine DR 4 ?_
        refine DE_0 46 (.po 240 1 (Int.toNat (vat16)) 0) kk rfl rfl rfl (zF rfl) kk (Y0_idxoM (c := c3) (xs := l12) (v := e25) (id := 240) (T := 3) (sz := 1) (n := vat16) Tryz.underlying24 sz3 rfl kk kk kk he25) 97 rfl ?_
        refine DA 0 ?_
        refine XL_cons rfl (X_storeoM (c := c3) (xs := l12) (v := e26) (u := w64 (e18 + (w64 ((w64 ((w64 ((w64 (vh3.1 * e19)) * e20)) + (w64 ((w64 (vh3.2.1 * e21)) * e22)))) + (w64 ((w64 (vh3.2.2 * e23)) * e24)))))) (id := 240) (sz := 1) (off := 0) (T0 := 3) (n := vat16) (vc := [Ti (w64 (e18 + (w64 ((w64 ((w64 ((w64 (vh3.1 * e19)) * e20)) + (w64 ((w64 (vh3.2.1 * e21)) * e22)))) + (w64 ((w64 (vh3.2.2 * e23)) * e24))))))]) rfl rfl kk kk he26 kk sz3 (Nat.le_of_ble_eq_true rfl) kk) ?_
        refine zD ?_
        subst hl27
        kernel_rfl
       show V _ _ _ _
       obtain ⟨j28, hj28, h⟩ := zU h
       refine V_reg (mb 122 7752) [240, 232, 48] (s1 := ⟨bt 3 (.c (.sl (k4.map c3)) :: .bot :: .bot :: .pt 48 0 :: .bot :: .bot :: .ow 232 :: .ow 240 :: I i6 :: I j28 :: bt 109 []), [(240, .arr 3 1 (l27.map c3)), (232, .arr 24 1 (([[f1.1, f1.2.1, f1.2.2], [g2.1, g2.2.1, g2.2.2]]).map c24)), (48, .box [Ti vh3.1, Ti vh3.2.1, Ti vh3.2.2])]⟩) ?_ ?_
       ·refine XR 3 ?_
        refine zD ?_
        subst hj28
        kernel_rfl
       exact ⟨n, Nat.lt_succ_self n, _, _,  kk, h⟩
      ·refine V_exit ?_
       obtain rfl := zB h
       show St.keep _ _ _ = _
       kernel_rfl
    show V _ _ _ _
    obtain ⟨i29, hi29, h⟩ := zU h
    refine V_reg (mb 122 3656) [240, 232, 48] (s1 := ⟨bt 3 (.c (.sl (k4.map c3)) :: .bot :: .bot :: .pt 48 0 :: .bot :: .bot :: .ow 232 :: .ow 240 :: I i29 :: bt 110 []), [(240, .arr 3 1 (o14.map c3)), (232, .arr 24 1 (([[f1.1, f1.2.1, f1.2.2], [g2.1, g2.2.1, g2.2.2]]).map c24)), (48, .box [Ti vh3.1, Ti vh3.2.1, Ti vh3.2.2])]⟩) ?_ ?_
    ·refine XR 3 ?_
     refine zD ?_
     subst hi29
     kernel_rfl
    exact ⟨n, Nat.lt_succ_self n, _, _,  kk, h⟩
   ·refine V_exit ?_
    obtain rfl := zB h
    show St.keep _ _ _ = _
    kernel_rfl
 show V _ _ _ _
 refine zG ?_
 refine VE ?_
 obtain ⟨qo32, hLo32, hko32⟩ := zA h
 refine V_toS (q := qo32) (S := fun o32 => ⟨bt 122 [], []⟩) (mb 122 0) [] ?_ ?_
 ·refine zH (V_loop (fun n s => ∃ (i30 : Int), s.keep (mb 122 17920) [240, 232] = (⟨bt 9 (.ow 232 :: .ow 240 :: bt 3 (I i30 :: bt 107 [])), [(240, .arr 3 1 (o9.map c3)), (232, .arr 24 1 (([[f1.1, f1.2.1, f1.2.2], [g2.1, g2.2.1, g2.2.2]]).map c24))]⟩ : St) ∧ r_spec_coFits_L31 f1 g2 o9 n i30 = some qo32) FU ⟨_,  kk, hLo32⟩ ?_)
  clear hLo32
  rintro n s ⟨i30, hs, h⟩
  refine zV _ _ hs ?_
  clear hs
  cases n with
  | zero => cases h
  | succ n =>
   rw [r_spec_coFits_L31] at h
   refine zG ?_
   refine VE ?_
   refine VC h (fun h => ?_) (fun h => ?_)
   ·refine zK ?_
    show V _ _ _ _
    refine zG ?_
    refine zH ?_
    obtain ⟨e34, he34, h⟩ := zA h
    obtain ⟨e35, he35, h⟩ := zA h
    obtain ⟨e36, he36, h⟩ := zA h
    obtain ⟨e37, he37, h⟩ := zA h
    obtain ⟨e38, he38, h⟩ := zA h
    obtain ⟨e39, he39, h⟩ := zA h
    obtain ⟨e40, he40, h⟩ := zA h
    obtain ⟨e41, he41, h⟩ := zA h
    refine VDS [0, 0, 3, 7, 0, 16, 48, 0, 128, 496, 1008, 0, 2048, 6144, 0, 16384, 63488, 129024, 262128, 524287] 20 (cdm 20 [183251937800, 183251937794, 183251937797, 183251937813, 45810352298, 45810352554, 45810353578, 45810199210, 45810215594, 45810275754, 45810537898, 2687150762, 2691345066, 2708122282, 178956970, 447392426, 1433053866, 5728021162, 22906492330, 91625968981]) ?_
    refine ER 2 ?_
    refine E0 2 rfl rfl (Y0_idxoM (c := c3) (xs := o9) (v := e34) (id := 240) (T := 3) (sz := 1) (n := i30) Tryz.underlying24 sz3 rfl kk kk kk he34) ?_
    refine E0 3 rfl rfl (Y0_loado1 (c := c3) (xs := o9) (v := e35) (id := 240) (sz := 1) (T := 3) (off := 0) (n := i30) (d := Ti e35) (ds := []) sc3 rfl kk kk he35 kk) ?_
    refine ER 1 ?_
    refine E0 5 rfl rfl (Y0_idxoM (c := c24) (xs := [[f1.1, f1.2.1, f1.2.2], [g2.1, g2.2.1, g2.2.2]]) (v := e36) (id := 232) (T := 24) (sz := 1) (n := 0) Tryz.underlying233 sz24 rfl kk kk kk he36) ?_
    refine E0 6 rfl rfl (Y0_loado1 (c := c24) (xs := [[f1.1, f1.2.1, f1.2.2], [g2.1, g2.2.1, g2.2.2]]) (v := e37) (id := 232) (sz := 1) (T := 24) (off := 0) (n := 0) (d := .sl (e37.map c3)) (ds := []) sc24 rfl kk kk he37 kk) ?_
    refine ER 1 ?_
    refine E0 8 rfl rfl (zS (a := i30) (b := 3) rfl kk kk (by decide)) ?_
    refine E0 9 rfl rfl (zM (c := c3) (xs := e37) (v := e38) (n := w64 (Int.tdiv i30 3)) Tryz.underlying24 sz3 rfl kk kk he38) ?_
    refine ER 2 ?_
    refine E0 12 rfl rfl (Y0_idxoM (c := c24) (xs := [[f1.1, f1.2.1, f1.2.2], [g2.1, g2.2.1, g2.2.2]]) (v := e39) (id := 232) (T := 24) (sz := 1) (n := 1) Tryz.underlying233 sz24 rfl kk kk kk he39) ?_
    refine E0 13 rfl rfl (Y0_loado1 (c := c24) (xs := [[f1.1, f1.2.1, f1.2.2], [g2.1, g2.2.1, g2.2.2]]) (v := e40) (id := 232) (sz := 1) (T := 24) (off := 0) (n := 1) (d := .sl (e40.map c3)) (ds := []) sc24 rfl kk kk he40 kk) ?_
    refine ER 1 ?_
    refine E0 15 rfl rfl (Y0_rem (k := .i64) (a := i30) (b := 3) rfl kk kk (by decide)) ?_
    refine E0 16 rfl rfl (zM (c := c3) (xs := e40) (v := e41) (n := Int.tmod i30 3) Tryz.underlying24 sz3 rfl kk kk he41) ?_
    refine EF 3 ?_
    refine VC h (fun h => ?_) (fun h => ?_)
    ·refine VE ?_
     refine zJ ?_
     obtain rfl := zB h
     have h := hko32
     obtain rfl := zB h
     exact VT
    ·refine zK ?_
     show V _ _ _ _
     obtain ⟨i43, hi43, h⟩ := zU h
     refine V_reg (mb 122 17920) [240, 232] (s1 := ⟨bt 9 (.ow 232 :: .ow 240 :: bt 3 (I i43 :: bt 107 [])), [(240, .arr 3 1 (o9.map c3)), (232, .arr 24 1 (([[f1.1, f1.2.1, f1.2.2], [g2.1, g2.2.1, g2.2.2]]).map c24))]⟩) ?_ ?_
     ·refine XR 3 ?_
      refine zD ?_
      subst hi43
      kernel_rfl
     exact ⟨n, Nat.lt_succ_self n, _,  kk, h⟩
   ·refine V_exit ?_
    obtain rfl := zB h
    exact ⟨_, rfl, kk⟩
 rintro o32 rfl
 have h := hko32
 clear hko32
 show V _ _ _ _
 refine VE ?_
 cases h
 exact zJ VT
theorem cf_spec_IsComposition : CfW Tryz.prog 156 := cfW Tryz.func156
theorem s_spec_IsComposition {f1 : (Int × Int × Int)} {g2 : (Int × Int × Int)} {vh3 : (Int × Int × Int)} {k4 : List Int} {r : (Bool × Bool)} (h : r_spec_IsComposition f1 g2 vh3 k4 = some r) : zQ Tryz.prog 156 [.ag [Ti f1.1, Ti f1.2.1, Ti f1.2.2], .ag [Ti g2.1, Ti g2.2.1, Ti g2.2.2], .ag [Ti vh3.1, Ti vh3.2.1, Ti vh3.2.2], .c (.sl (k4.map c3))] (.tc (Bo r.1) (.tc (Bo r.2) .tn)) [] := by
 refine CtW [8, 9] Tryz.func156 rfl rfl 40 ?_
 unfold r_spec_IsComposition at h
 refine VE ?_
 refine zG ?_
 obtain ⟨y5, hy5, h⟩ := zA h
 obtain ⟨b8, hb8, h⟩ := zA h
 obtain ⟨b11, hb11, h⟩ := zA h
 obtain ⟨b15, hb15, h⟩ := zA h
 refine zO (mb 40 17179869304) [48, 40, 32] (s1 := ⟨bt 3 (.c (.sl (k4.map c3)) :: .pt 32 0 :: .pt 40 0 :: .pt 48 0 :: bt 27 (Bo b15 :: bt 5 [])), [(48, .box [Ti vh3.1, Ti vh3.2.1, Ti vh3.2.2]), (40, .box [Ti g2.1, Ti g2.2.1, Ti g2.2.2]), (32, .box [Ti f1.1, Ti f1.2.1, Ti f1.2.2])]⟩) ?_ ?_
 ·refine YK 2 (s_spec_coTwo hy5) cf_spec_coTwo ?_
  refine YR 2 ?_
  refine zI (!y5) (fun hc6 => ?_) (fun hc6 => ?_)
  ·have hb8 := zB (zN hb8 hc6)
   refine YQ hc6 ?_
   refine YR 6 ?_
   subst hb8
   have hc9 : true = true := rfl
   have hb11 := zB (zN hb11 hc9)
   refine YR 5 ?_
   subst hb11
   have hc12 : true = true := rfl
   refine YR 5 ?_
   refine zI (bif true then true else (!eqI ((k4.length : Int)) 8)) (fun hc13 => ?_) (fun hc13 => ?_)
   ·have hb15 := zB (zN hb15 hc13)
    refine YQ hc13 ?_
    exact YE (by rw [← hb15]; (try rw [hc13]); (try rw [hc6]); kernel_rfl)
   ·have hb15 := zC hb15 hc13
    obtain ⟨y14, hy14, hb15⟩ := zA hb15
    have hb15 := zB hb15
    refine YQ hc13 ?_
    refine YK 1 (s_spec_l1All hy14) cf_spec_l1All ?_
    exact YE (by rw [← hb15]; (try rw [hc13]); (try rw [hc6]); kernel_rfl)
  ·have hb8 := zC hb8 hc6
   obtain ⟨y7, hy7, hb8⟩ := zA hb8
   have hb8 := zB hb8
   refine YQ hc6 ?_
   refine YK 2 (s_spec_coTwo hy7) cf_spec_coTwo ?_
   refine YR 3 ?_
   refine zI b8 (fun hc9 => ?_) (fun hc9 => ?_)
   ·have hb11 := zB (zN hb11 hc9)
    refine YQ hc9 ?_ (by rw [← hb8]; (try rw [hc6]); kernel_rfl)
    refine YR 5 ?_
    subst hb11
    have hc12 : true = true := rfl
    refine YR 5 ?_
    refine zI (bif true then true else (!eqI ((k4.length : Int)) 8)) (fun hc13 => ?_) (fun hc13 => ?_)
    ·have hb15 := zB (zN hb15 hc13)
     refine YQ hc13 ?_
     exact YE (by rw [← hb15]; (try rw [hc13]); (try rw [hc6]); (try rw [hc9]); kernel_rfl)
    ·have hb15 := zC hb15 hc13
     obtain ⟨y14, hy14, hb15⟩ := zA hb15
     have hb15 := zB hb15
     refine YQ hc13 ?_
     refine YK 1 (s_spec_l1All hy14) cf_spec_l1All ?_
     exact YE (by rw [← hb15]; (try rw [hc13]); (try rw [hc6]); (try rw [hc9]); kernel_rfl)
   ·have hb11 := zC hb11 hc9
    obtain ⟨y10, hy10, hb11⟩ := zA hb11
    have hb11 := zB hb11
    refine YQ hc9 ?_ (by rw [← hb8]; (try rw [← hb11]); (try rw [hc6]); kernel_rfl)
    refine YK 1 (s_spec_reIs hy10) cf_spec_reIs ?_
    refine YR 3 ?_
    refine zI b11 (fun hc12 => ?_) (fun hc12 => ?_)
    ·refine YQ hc12 ?_ (by rw [← hb11]; (try rw [hc6]); (try rw [hc9]); kernel_rfl)
     refine YR 5 ?_
     refine zI (bif b11 then true else (!eqI ((k4.length : Int)) 8)) (fun hc13 => ?_) (fun hc13 => ?_)
     ·have hb15 := zB (zN hb15 hc13)
      refine YQ hc13 ?_ (by rw [hc12]; kernel_rfl)
      exact YE (by rw [← hb15]; (try rw [hc13]); (try rw [hc6]); (try rw [hc12]); (try rw [hc9]); kernel_rfl)
     ·have hb15 := zC hb15 hc13
      obtain ⟨y14, hy14, hb15⟩ := zA hb15
      have hb15 := zB hb15
      refine YQ hc13 ?_ (by rw [hc12]; kernel_rfl)
      refine YK 1 (s_spec_l1All hy14) cf_spec_l1All ?_
      exact YE (by rw [← hb15]; (try rw [hc13]); (try rw [hc6]); (try rw [hc12]); (try rw [hc9]); kernel_rfl)
    ·refine YQ hc12 ?_ (by rw [← hb11]; (try rw [hc6]); (try rw [hc9]); kernel_rfl)
     refine YR 1 ?_
     refine YT (X_of_Y0 rfl (Y0_lenM (c := c3) (xs := k4) Tryz.underlying24 rfl kk)) ?_
     refine YR 3 ?_
     refine zI (bif b11 then true else (!eqI ((k4.length : Int)) 8)) (fun hc13 => ?_) (fun hc13 => ?_)
     ·have hb15 := zB (zN hb15 hc13)
      refine YQ hc13 ?_ (by rw [hc12]; kernel_rfl)
      exact YE (by rw [← hb15]; (try rw [hc13]); (try rw [hc6]); (try rw [hc12]); (try rw [hc9]); kernel_rfl)
     ·have hb15 := zC hb15 hc13
      obtain ⟨y14, hy14, hb15⟩ := zA hb15
      have hb15 := zB hb15
      refine YQ hc13 ?_ (by rw [hc12]; kernel_rfl)
      refine YK 1 (s_spec_l1All hy14) cf_spec_l1All ?_
      exact YE (by rw [← hb15]; (try rw [hc13]); (try rw [hc6]); (try rw [hc12]); (try rw [hc9]); kernel_rfl)
 refine VC h (fun h => ?_) (fun h => ?_)
 ·refine VE ?_
  cases h
  exact zJ VT
 ·refine zK ?_
  show V _ _ _ _
  obtain ⟨y17, hy17, h⟩ := zA h
  refine VS ?_
  refine YK 4 (s_spec_coFits hy17) cf_spec_coFits ?_
  refine YF ?_
  cases h
  exact zJ VT
theorem cf_spec_coOne : CfW Tryz.prog 222 := cfW Tryz.func222
theorem s_spec_coOne {d1 : Int} {r : (Int × Int × Int)} (h : r_spec_coOne d1 = some r) : zQ Tryz.prog 222 [I d1] (.ag [Ti r.1, Ti r.2.1, Ti r.2.2]) [] := by
 refine zT (rs := [.w 2 3]) (vs := [.cell 2 38]) Tryz.func222 rfl rfl (.cons ⟨rfl, wd38⟩ FitsL.nil) (by decide) 12 rfl ?_
 unfold r_spec_coOne at h
 refine VE ?_
 obtain ⟨y2, hy2, h⟩ := zA h
 refine VS ?_
 refine YK 1 (s_spec_nuMod hy2) cf_spec_nuMod ?_
 refine YF ?_
 obtain ⟨f3, hf3, h⟩ := zU h
 refine zO (mb 12 4) [16] (s1 := ⟨.bot :: .bot :: .pt 16 0 :: bt 9 [], [(16, .box [Ti 1, Ti y2, Ti f3])]⟩) ?_ ?_
 ·refine XR 4 ?_
  refine L0 rfl rfl (zS (a := w64 (y2 - d1)) (b := 4) rfl kk kk (by decide)) ?_
  refine L0 rfl rfl (Y0_build (cs := [Ti 1, Ti y2, Ti (w64 (Int.tdiv (w64 (y2 - d1)) 4))]) pl38 bt38 rfl rfl kk) ?_
  refine XR 1 ?_
  refine zD ?_
  subst hf3
  kernel_rfl
 cases h
 exact zJ VT
theorem cf_spec_reNormal : CfW Tryz.prog 274 := cfW Tryz.func274
theorem s_spec_reNormal {f1 : (Int × Int × Int)} {r : Int} (h : r_spec_reNormal f1 = some r) : zQ Tryz.prog 274 [.ag [Ti f1.1, Ti f1.2.1, Ti f1.2.2]] (I r) [] := by
 refine CtW [2] Tryz.func274 rfl rfl 22 ?_
 unfold r_spec_reNormal at h
 refine VE ?_
 obtain ⟨y2, hy2, h⟩ := zA h
 obtain ⟨z3, hz3, h⟩ := zA h
 obtain ⟨t4, ht4, h⟩ := zU h
 refine V_sdreg [0, 1, 0, 4, 15, 0, 32, 0, 128, 480, 0, 1024, 3072, 8160, 16383, 0, 32768, 98304, 262143, 524287] 20 (cdm 20 [45276113056, 45276113057, 45276112906, 45276112922, 45276112981, 45141361322, 45141362346, 45141207722, 45141224106, 45141284522, 45097855658, 45098904234, 45103098538, 45119526570, 45186635093, 715827882, 1789569706, 6084537002, 22906492245, 91625968981]) (mb 22 4) [] (s1 := ⟨.bot :: .bot :: I t4 :: bt 19 [], []⟩) kk kk ?_ ?_
 ·refine DR 13 ?_
  refine DC 13 (s_spec_nuMod hy2) cf_spec_nuMod rfl rfl rfl rfl 16 rfl ?_
  refine DR 4 ?_
  refine DE_0 18 (I (w64 (Int.tdiv (w64 ((w64 (f1.1 - f1.2.1)) - y2)) (w64 (2 * f1.1))))) kk rfl rfl rfl (zF rfl) kk (zS (a := w64 ((w64 (f1.1 - f1.2.1)) - y2)) (b := w64 (2 * f1.1)) rfl kk kk (nz_some hz3)) 21 rfl ?_
  refine DA 1 ?_
  refine zD ?_
  subst ht4
  kernel_rfl
 cases h
 exact zJ VT
theorem cf_spec_reMove : CfW Tryz.prog 236 := cfW Tryz.func236
theorem s_spec_reMove {f1 : (Int × Int × Int)} {r : (Int × Int × Int × Int)} (h : r_spec_reMove f1 = some r) : zQ Tryz.prog 236 [.ag [Ti f1.1, Ti f1.2.1, Ti f1.2.2]] (.ag [Ti r.1, Ti r.2.1, Ti r.2.2.1, Ti r.2.2.2]) [] := by
 refine zT (rs := [.w 2 4]) (vs := [.cell 2 109]) Tryz.func236 rfl rfl (.cons ⟨rfl, wd109⟩ FitsL.nil) (by decide) 14 rfl ?_
 unfold r_spec_reMove at h
 refine VE ?_
 refine zG ?_
 obtain ⟨y2, hy2, h⟩ := zA h
 refine VS ?_
 refine YK 1 (s_spec_reNormal hy2) cf_spec_reNormal ?_
 refine YF ?_
 refine VE ?_
 refine VC h (fun h => ?_) (fun h => ?_)
 ·refine VS ?_
  refine YR 1 ?_
  refine L0 rfl rfl (Y0_build (cs := [Ti 1, Ti y2, Ti 0, Ti 1]) pl109 bt109 rfl rfl kk) ?_
  refine YF ?_
  cases h
  exact zJ VT
 ·refine zK ?_
  show V _ _ _ _
  refine zG ?_
  obtain ⟨y4, hy4, h⟩ := zA h
  refine VS ?_
  refine YK 1 (s_spec_reIs hy4) cf_spec_reIs ?_
  refine YF ?_
  refine VC h (fun h => ?_) (fun h => ?_)
  ·refine VS ?_
   refine L0 rfl rfl (Y0_build (cs := [Ti 1, Ti 0, Ti 0, Ti 1]) pl109 bt109 rfl rfl kk) ?_
   refine YF ?_
   cases h
   exact zJ VT
  ·refine zK ?_
   show V _ _ _ _
   refine VS ?_
   refine L0 rfl rfl (Y0_build (cs := [Ti 0, Ti (-1), Ti 1, Ti 0]) pl109 bt109 rfl rfl kk) ?_
   refine YF ?_
   cases h
   exact zJ VT
theorem cf_spec_foMul : CfW Tryz.prog 237 := cfW Tryz.func237
theorem s_spec_foMul {vm1 : (Int × Int × Int × Int)} {vn2 : (Int × Int × Int × Int)} {r : (Int × Int × Int × Int)} (h : r_spec_foMul vm1 vn2 = some r) : zQ Tryz.prog 237 [.ag [Ti vm1.1, Ti vm1.2.1, Ti vm1.2.2.1, Ti vm1.2.2.2], .ag [Ti vn2.1, Ti vn2.2.1, Ti vn2.2.2.1, Ti vn2.2.2.2]] (.ag [Ti r.1, Ti r.2.1, Ti r.2.2.1, Ti r.2.2.2]) [] := by
 refine zT (rs := [.w 4 4]) (vs := [.cell 4 109]) Tryz.func237 rfl rfl (.cons ⟨rfl, wd109⟩ FitsL.nil) (by decide) 50 rfl ?_
 unfold r_spec_foMul at h
 refine VE ?_
 obtain ⟨f3, hf3, h⟩ := zU h
 obtain ⟨f4, hf4, h⟩ := zU h
 obtain ⟨f5, hf5, h⟩ := zU h
 obtain ⟨f6, hf6, h⟩ := zU h
 refine zO (mb 50 16) [32] (s1 := ⟨bt 4 (.pt 32 0 :: bt 45 []), [(32, .box [Ti f3, Ti f4, Ti f5, Ti f6])]⟩) ?_ ?_
 ·refine XR 44 ?_
  refine L0 rfl rfl (Y0_build (cs := [Ti (w64 ((w64 (vm1.1 * vn2.1)) + (w64 (vm1.2.1 * vn2.2.2.1)))), Ti (w64 ((w64 (vm1.1 * vn2.2.1)) + (w64 (vm1.2.1 * vn2.2.2.2)))), Ti (w64 ((w64 (vm1.2.2.1 * vn2.1)) + (w64 (vm1.2.2.2 * vn2.2.2.1)))), Ti (w64 ((w64 (vm1.2.2.1 * vn2.2.1)) + (w64 (vm1.2.2.2 * vn2.2.2.2))))]) pl109 bt109 rfl rfl kk) ?_
  refine XR 1 ?_
  refine zD ?_
  subst hf3 hf4 hf5 hf6
  kernel_rfl
 cases h
 exact zJ VT
theorem cf_spec_reReduce : CfW Tryz.prog 183 := cfW Tryz.func183
theorem s_spec_reReduce {f1 : (Int × Int × Int)} {r : (((Int × Int × Int)) × ((Int × Int × Int × Int)))} (h : r_spec_reReduce f1 = some r) : zQ Tryz.prog 183 [.ag [Ti f1.1, Ti f1.2.1, Ti f1.2.2]] (.tc (.ag [Ti r.1.1, Ti r.1.2.1, Ti r.1.2.2]) (.tc (.ag [Ti r.2.1, Ti r.2.2.1, Ti r.2.2.2.1, Ti r.2.2.2.2]) .tn)) [] := by
 refine zT (rs := [.w 2 3, .w 3 4]) (vs := [.cell 2 38, .cell 3 109]) Tryz.func183 rfl rfl (.cons ⟨rfl, wd38⟩ (.cons ⟨rfl, wd109⟩ FitsL.nil)) (by decide) 20 rfl ?_
 unfold r_spec_reReduce at h
 refine VE ?_
 refine VS ?_
 refine L0 rfl rfl (Y0_build (cs := [Ti 1, Ti 0, Ti 0, Ti 1]) pl109 bt109 rfl rfl kk) ?_
 refine YF ?_
 refine zG ?_
 obtain ⟨o10, hLo10, h⟩ := zA h
 refine V_toK (mb 20 30) [32, 24, 16, 8] (s1 := ⟨.bot :: .pt 8 0 :: .pt 16 0 :: .pt 24 0 :: .pt 32 0 :: bt 15 [], [(32, .box [Ti o10.1, Ti o10.2.1, Ti o10.2.2.1, Ti o10.2.2.2.1]), (24, .box [Ti 0, Ti 0, Ti 0, Ti 0]), (16, .box [Ti 0, Ti 0, Ti 0]), (8, .box [Ti o10.2.2.2.2.1, Ti o10.2.2.2.2.2.1, Ti o10.2.2.2.2.2.2])]⟩) ?_ ?_
 ·clear h
  refine zH (V_loop (fun n s => ∃ (f2 : Int) (f3 : Int) (f4 : Int) (f5 : Int) (f6 : Int) (f7 : Int) (f8 : Int), s.keep (mb 20 30) [32, 24, 16, 8] = (⟨.bot :: .pt 8 0 :: .pt 16 0 :: .pt 24 0 :: .pt 32 0 :: bt 15 [], [(32, .box [Ti f2, Ti f3, Ti f4, Ti f5]), (24, .box [Ti 0, Ti 0, Ti 0, Ti 0]), (16, .box [Ti 0, Ti 0, Ti 0]), (8, .box [Ti f6, Ti f7, Ti f8])]⟩ : St) ∧ r_spec_reReduce_L9 n f2 f3 f4 f5 f6 f7 f8 = some o10) FU ⟨_, _, _, _, _, _, _,  kk, hLo10⟩ ?_)
  clear hLo10
  rintro n s ⟨f2, f3, f4, f5, f6, f7, f8, hs, h⟩
  refine zV _ _ hs ?_
  clear hs
  cases n with
  | zero => cases h
  | succ n =>
   rw [r_spec_reReduce_L9] at h
   refine zG ?_
   obtain ⟨y11, hy11, h⟩ := zA h
   refine VS ?_
   refine YK 1 (s_spec_reIs hy11) cf_spec_reIs ?_
   refine YF ?_
   refine VC h (fun h => ?_) (fun h => ?_)
   ·refine zK ?_
    show V _ _ _ _
    refine zH ?_
    obtain ⟨y13, hy13, h⟩ := zA h
    refine VS ?_
    refine YK 1 (s_spec_reMove hy13) cf_spec_reMove ?_
    refine YF ?_
    obtain ⟨y14, hy14, h⟩ := zA h
    obtain ⟨y15, hy15, h⟩ := zA h
    refine VDR [0, 0, 3, 0, 0, 31, 63, 127] 6 (cdm 6 [648, 642, 645, 554, 170, 341]) ?_
    refine EK 2 (s_spec_foAct hy14) cf_spec_foAct ?_
    refine EK 2 (s_spec_foMul hy15) cf_spec_foMul ?_
    refine EF 0 ?_
    exact ⟨n, Nat.lt_succ_self n, _, _, _, _, _, _, _,  kk, h⟩
   ·refine V_exit ?_
    obtain rfl := zB h
    show St.keep _ _ _ = _
    kernel_rfl
 show V _ _ _ _
 refine VDS [0, 0, 1, 7] 3 [[.z, .b, .z], [.b, .z, .r 16], [.a, .b, .z]] ?_
 refine EF 3 ?_
 cases h
 exact zJ VT
theorem cf_spec_reClass : CfW Tryz.prog 97 := cfW Tryz.func97
theorem s_spec_reClass {f1 : (Int × Int × Int)} {r : (Int × Int × Int)} (h : r_spec_reClass f1 = some r) : zQ Tryz.prog 97 [.ag [Ti f1.1, Ti f1.2.1, Ti f1.2.2]] (.ag [Ti r.1, Ti r.2.1, Ti r.2.2]) [] := by
 refine zT (rs := [.w 2 3]) (vs := [.cell 2 38]) Tryz.func97 rfl rfl (.cons ⟨rfl, wd38⟩ FitsL.nil) (by decide) 11 rfl ?_
 unfold r_spec_reClass at h
 refine VE ?_
 obtain ⟨y2, hy2, h⟩ := zA h
 refine VS ?_
 refine YK 1 (s_spec_reReduce hy2) cf_spec_reReduce ?_
 refine YF ?_
 refine VE ?_
 cases h
 exact zJ VT
theorem cf_spec_foOpposite : CfW Tryz.prog 186 := cfW Tryz.func186
theorem s_spec_foOpposite {f1 : (Int × Int × Int)} {r : (Int × Int × Int)} (h : r_spec_foOpposite f1 = some r) : zQ Tryz.prog 186 [.ag [Ti f1.1, Ti f1.2.1, Ti f1.2.2]] (.ag [Ti r.1, Ti r.2.1, Ti r.2.2]) [] := by
 refine zT (rs := [.w 2 3]) (vs := [.cell 2 38]) Tryz.func186 rfl rfl (.cons ⟨rfl, wd38⟩ FitsL.nil) (by decide) 11 rfl ?_
 unfold r_spec_foOpposite at h
 refine VE ?_
 obtain ⟨f2, hf2, h⟩ := zU h
 refine zO (mb 11 4) [16] (s1 := ⟨.bot :: .bot :: .pt 16 0 :: bt 8 [], [(16, .box [Ti f1.1, Ti f2, Ti f1.2.2])]⟩) ?_ ?_
 ·refine XR 7 ?_
  refine L0 rfl rfl (Y0_build (cs := [Ti f1.1, Ti (w64 (0 - f1.2.1)), Ti f1.2.2]) pl38 bt38 rfl rfl kk) ?_
  refine XR 1 ?_
  refine zD ?_
  subst hf2
  kernel_rfl
 cases h
 exact zJ VT
theorem cf_spec_coInverse : CfW Tryz.prog 101 := cfW Tryz.func101
theorem s_spec_coInverse {f1 : (Int × Int × Int)} {r : (Int × Int × Int)} (h : r_spec_coInverse f1 = some r) : zQ Tryz.prog 101 [.ag [Ti f1.1, Ti f1.2.1, Ti f1.2.2]] (.ag [Ti r.1, Ti r.2.1, Ti r.2.2]) [] := by
 refine zT (rs := [.w 2 3]) (vs := [.cell 2 38]) Tryz.func101 rfl rfl (.cons ⟨rfl, wd38⟩ FitsL.nil) (by decide) 6 rfl ?_
 unfold r_spec_coInverse at h
 refine VE ?_
 obtain ⟨y2, hy2, h⟩ := zA h
 obtain ⟨y3, hy3, h⟩ := zA h
 refine VS ?_
 refine YK 1 (s_spec_foOpposite hy2) cf_spec_foOpposite ?_
 refine YK 0 (s_spec_reClass hy3) cf_spec_reClass ?_
 refine YF ?_
 cases h
 exact zJ VT
theorem cf_spec_coPoint : CfW Tryz.prog 238 := cfW Tryz.func238
theorem s_spec_coPoint {g1 : (Int × Int × Int)} {a2 : Int} {r : (Int × Int)} (h : r_spec_coPoint g1 a2 = some r) : zQ Tryz.prog 238 [.ag [Ti g1.1, Ti g1.2.1, Ti g1.2.2], I a2] (.tc (I r.1) (.tc (I r.2) .tn)) [] := by
 refine CtW [4, 5] Tryz.func238 rfl rfl 45 ?_
 unfold r_spec_coPoint at h
 refine VE ?_
 refine zG ?_
 refine VE ?_
 obtain ⟨qo5, hLo5, hko5⟩ := zA h
 refine V_toS (q := qo5) (S := fun o5 => ⟨bt 45 [], []⟩) (mb 45 0) [] ?_ ?_
 ·refine zH (V_loop (fun n s => ∃ (k3 : Int), s.keep (mb 45 70) [16] = (⟨.bot :: I a2 :: .pt 16 0 :: bt 3 (I k3 :: bt 38 []), [(16, .box [Ti g1.1, Ti g1.2.1, Ti g1.2.2])]⟩ : St) ∧ r_spec_coPoint_L4 a2 g1 n k3 = some qo5) FU ⟨_,  kk, hLo5⟩ ?_)
  clear hLo5
  rintro n s ⟨k3, hs, h⟩
  refine zV _ _ hs ?_
  clear hs
  cases n with
  | zero => cases h
  | succ n =>
   rw [r_spec_coPoint_L4] at h
   refine zG ?_
   refine VE ?_
   refine VC h (fun h => ?_) (fun h => ?_)
   ·refine zK ?_
    show V _ _ _ _
    refine zG ?_
    refine zH ?_
    refine VE ?_
    obtain ⟨qo9, hLo9, hko9⟩ := zA h
    refine V_toS (q := qo9) (S := fun o9 => ⟨.bot :: I a2 :: .pt 16 0 :: bt 3 (I k3 :: bt 38 []), [(16, .box [Ti g1.1, Ti g1.2.1, Ti g1.2.2])]⟩) (mb 45 70) [16] ?_ ?_
    ·refine zH (V_loop (fun n s => ∃ (x7 : Int), s.keep (mb 45 198) [16] = (⟨.bot :: I a2 :: .pt 16 0 :: bt 3 (I k3 :: I x7 :: bt 37 []), [(16, .box [Ti g1.1, Ti g1.2.1, Ti g1.2.2])]⟩ : St) ∧ r_spec_coPoint_L8 a2 g1 k3 n x7 = some qo9) FU ⟨_,  kk, hLo9⟩ ?_)
     clear hLo9
     rintro n s ⟨x7, hs, h⟩
     refine zV _ _ hs ?_
     clear hs
     cases n with
     | zero => cases h
     | succ n =>
      rw [r_spec_coPoint_L8] at h
      refine zG ?_
      refine VE ?_
      refine VC h (fun h => ?_) (fun h => ?_)
      ·refine zK ?_
       show V _ _ _ _
       refine zG ?_
       refine zH ?_
       refine VE ?_
       obtain ⟨qo13, hLo13, hko13⟩ := zA h
       refine V_toS (q := qo13) (S := fun o13 => ⟨.bot :: I a2 :: .pt 16 0 :: bt 3 (I k3 :: I x7 :: bt 37 []), [(16, .box [Ti g1.1, Ti g1.2.1, Ti g1.2.2])]⟩) (mb 45 198) [16] ?_ ?_
       ·refine zH (V_loop (fun n s => ∃ (y11 : Int), s.keep (mb 45 454) [16] = (⟨.bot :: I a2 :: .pt 16 0 :: bt 3 (I k3 :: I x7 :: I y11 :: bt 36 []), [(16, .box [Ti g1.1, Ti g1.2.1, Ti g1.2.2])]⟩ : St) ∧ r_spec_coPoint_L12 a2 g1 k3 x7 n y11 = some qo13) FU ⟨_,  kk, hLo13⟩ ?_)
        clear hLo13
        rintro n s ⟨y11, hs, h⟩
        refine zV _ _ hs ?_
        clear hs
        cases n with
        | zero => cases h
        | succ n =>
         rw [r_spec_coPoint_L12] at h
         refine zG ?_
         refine VE ?_
         refine VC h (fun h => ?_) (fun h => ?_)
         ·refine zK ?_
          show V _ _ _ _
          refine zG ?_
          refine zH ?_
          obtain ⟨y15, hy15, h⟩ := zA h
          obtain ⟨b18, hb18, h⟩ := zA h
          obtain ⟨b22, hb22, h⟩ := zA h
          refine zO (mb 45 4398046511558) [16] (s1 := ⟨.bot :: I a2 :: .pt 16 0 :: bt 3 (I k3 :: I x7 :: I y11 :: bt 33 (Bo b22 :: .bot :: .bot :: [])), [(16, .box [Ti g1.1, Ti g1.2.1, Ti g1.2.2])]⟩) ?_ ?_
          ·refine YK 2 (s_spec_l1Most hy15) cf_spec_l1Most ?_
           refine YR 3 ?_
           refine zI (eqI y15 k3) (fun hc16 => ?_) (fun hc16 => ?_)
           ·have hb18 := zN hb18 hc16
            obtain ⟨y17, hy17, hb18⟩ := zA hb18
            have hb18 := zB hb18
            refine YQ hc16 ?_
            refine YK 2 (s_spec_nuGcd hy17) cf_spec_nuGcd ?_
            refine YR 3 ?_
            refine zI b18 (fun hc19 => ?_) (fun hc19 => ?_)
            ·have hb22 := zN hb22 hc19
             obtain ⟨y20, hy20, hb22⟩ := zA hb22
             obtain ⟨y21, hy21, hb22⟩ := zA hb22
             have hb22 := zB hb22
             refine YQ hc19 ?_ (by rw [← hb18]; (try rw [← hb22]); (try rw [hc16]); kernel_rfl)
             refine YK 3 (s_spec_foValue hy20) cf_spec_foValue ?_
             refine YK 1 (s_spec_nuGcd hy21) cf_spec_nuGcd ?_
             exact YE (by rw [← hb22]; (try rw [hc16]); (try rw [hc19]); kernel_rfl)
            ·have hb22 := zB (zC hb22 hc19)
             refine YQ hc19 ?_ (by rw [← hb18]; (try rw [← hb22]); (try rw [hc16]); kernel_rfl)
             exact YE (by rw [← hb22]; (try rw [hc16]); (try rw [hc19]); kernel_rfl)
           ·have hb18 := zB (zC hb18 hc16)
            refine YQ hc16 ?_
            refine YR 6 ?_
            subst hb18
            have hc19 : false = false := rfl
            have hb22 := zB (zC hb22 hc19)
            exact YE (by rw [← hb22]; (try rw [hc16]); kernel_rfl)
          refine VC h (fun h => ?_) (fun h => ?_)
          ·refine VE ?_
           refine zJ ?_
           obtain rfl := zB h
           have h := hko13
           obtain rfl := zB h
           have h := hko9
           obtain rfl := zB h
           have h := hko5
           obtain rfl := zB h
           exact VT
          ·refine zK ?_
           show V _ _ _ _
           obtain ⟨y24, hy24, h⟩ := zU h
           refine V_reg (mb 45 454) [16] (s1 := ⟨.bot :: I a2 :: .pt 16 0 :: bt 3 (I k3 :: I x7 :: I y24 :: bt 36 []), [(16, .box [Ti g1.1, Ti g1.2.1, Ti g1.2.2])]⟩) ?_ ?_
           ·refine XR 3 ?_
            refine zD ?_
            subst hy24
            kernel_rfl
           exact ⟨n, Nat.lt_succ_self n, _,  kk, h⟩
         ·refine V_exit ?_
          obtain rfl := zB h
          exact ⟨_, rfl, kk⟩
       rintro o13 rfl
       have h := hko13
       clear hko13
       show V _ _ _ _
       obtain ⟨x25, hx25, h⟩ := zU h
       refine V_reg (mb 45 198) [16] (s1 := ⟨.bot :: I a2 :: .pt 16 0 :: bt 3 (I k3 :: I x25 :: bt 37 []), [(16, .box [Ti g1.1, Ti g1.2.1, Ti g1.2.2])]⟩) ?_ ?_
       ·refine XR 3 ?_
        refine zD ?_
        subst hx25
        kernel_rfl
       exact ⟨n, Nat.lt_succ_self n, _,  kk, h⟩
      ·refine V_exit ?_
       obtain rfl := zB h
       exact ⟨_, rfl, kk⟩
    rintro o9 rfl
    have h := hko9
    clear hko9
    show V _ _ _ _
    obtain ⟨k26, hk26, h⟩ := zU h
    refine V_reg (mb 45 70) [16] (s1 := ⟨.bot :: I a2 :: .pt 16 0 :: bt 3 (I k26 :: bt 38 []), [(16, .box [Ti g1.1, Ti g1.2.1, Ti g1.2.2])]⟩) ?_ ?_
    ·refine XR 3 ?_
     refine zD ?_
     subst hk26
     kernel_rfl
    exact ⟨n, Nat.lt_succ_self n, _,  kk, h⟩
   ·refine V_exit ?_
    obtain rfl := zB h
    exact ⟨_, rfl, kk⟩
 rintro o5 rfl
 have h := hko5
 clear hko5
 show V _ _ _ _
 refine VE ?_
 cases h
 exact zJ VT
theorem cf_spec_l1Sign : CfW Tryz.prog 299 := cfW Tryz.func299
theorem s_spec_l1Sign {vn1 : Int} {r : Int} (h : r_spec_l1Sign vn1 = some r) : zQ Tryz.prog 299 [I vn1] (I r) [] := by
 refine CtW [2] Tryz.func299 rfl rfl 9 ?_
 unfold r_spec_l1Sign at h
 refine VE ?_
 refine zG ?_
 refine zH ?_
 refine VE ?_
 refine VC h (fun h => ?_) (fun h => ?_)
 ·refine VE ?_
  cases h
  exact zJ VT
 ·refine VE ?_
  refine VC h (fun h => ?_) (fun h => ?_)
  ·refine VE ?_
   cases h
   exact zJ VT
  ·refine zK ?_
   show V _ _ _ _
   refine VE ?_
   cases h
   exact zJ VT
theorem cf_spec_nuInverse : CfW Tryz.prog 276 := cfW Tryz.func276
theorem s_spec_nuInverse {a1 : Int} {vm2 : Int} {r : Int} (h : r_spec_nuInverse a1 vm2 = some r) : zQ Tryz.prog 276 [I a1, I vm2] (I r) [] := by
 refine CtW [4] Tryz.func276 rfl rfl 36 ?_
 unfold r_spec_nuInverse at h
 refine VE ?_
 obtain ⟨y3, hy3, h⟩ := zA h
 refine VS ?_
 refine YK 3 (s_spec_nuMod hy3) cf_spec_nuMod ?_
 refine YF ?_
 refine zG ?_
 obtain ⟨o9, hLo9, h⟩ := zA h
 refine V_toK (mb 36 162) [] (s1 := ⟨.bot :: I vm2 :: bt 3 (I o9.1 :: .bot :: I o9.2 :: bt 28 []), []⟩) ?_ ?_
 ·clear h
  refine zH (V_loop (fun n s => ∃ (vr4 : Int) (next5 : Int) (x6 : Int) (y7 : Int), s.keep (mb 36 482) [] = (⟨.bot :: I vm2 :: bt 3 (I vr4 :: I next5 :: I x6 :: I y7 :: bt 27 []), []⟩ : St) ∧ r_spec_nuInverse_L8 vm2 n vr4 next5 x6 y7 = some o9) FU ⟨_, _, _, _,  kk, hLo9⟩ ?_)
  clear hLo9
  rintro n s ⟨vr4, next5, x6, y7, hs, h⟩
  refine zV _ _ hs ?_
  clear hs
  cases n with
  | zero => cases h
  | succ n =>
   rw [r_spec_nuInverse_L8] at h
   refine zG ?_
   refine VE ?_
   refine VC h (fun h => ?_) (fun h => ?_)
   ·refine zK ?_
    show V _ _ _ _
    refine zH ?_
    obtain ⟨z11, hz11, h⟩ := zA h
    obtain ⟨q12, hq12, h⟩ := zU h
    refine zO (mb 36 994) [] (s1 := ⟨.bot :: I vm2 :: bt 3 (I vr4 :: I next5 :: I x6 :: I y7 :: I q12 :: bt 26 []), []⟩) ?_ ?_
    ·refine XR 2 ?_
     refine L0 rfl rfl (zS (a := vr4) (b := next5) rfl kk kk (nz_some hz11)) ?_
     refine XR 1 ?_
     refine zD ?_
     subst hq12
     kernel_rfl
    obtain ⟨next13, hnext13, h⟩ := zU h
    refine zO (mb 36 994) [] (s1 := ⟨.bot :: I vm2 :: bt 3 (I next5 :: I next13 :: I x6 :: I y7 :: I q12 :: bt 26 []), []⟩) ?_ ?_
    ·refine XR 8 ?_
     refine zD ?_
     subst hnext13
     kernel_rfl
    obtain ⟨y14, hy14, h⟩ := zU h
    refine V_reg (mb 36 482) [] (s1 := ⟨.bot :: I vm2 :: bt 3 (I next5 :: I next13 :: I y7 :: I y14 :: bt 27 []), []⟩) ?_ ?_
    ·refine XR 8 ?_
     refine zD ?_
     subst hy14
     kernel_rfl
    exact ⟨n, Nat.lt_succ_self n, _, _, _, _,  kk, h⟩
   ·refine V_exit ?_
    obtain rfl := zB h
    show St.keep _ _ _ = _
    kernel_rfl
 show V _ _ _ _
 refine zG ?_
 refine VE ?_
 refine VC h (fun h => ?_) (fun h => ?_)
 ·refine VE ?_
  cases h
  exact zJ VT
 ·refine zK ?_
  show V _ _ _ _
  obtain ⟨y16, hy16, h⟩ := zA h
  refine VS ?_
  refine YK 2 (s_spec_nuMod hy16) cf_spec_nuMod ?_
  refine YF ?_
  cases h
  exact zJ VT
theorem cf_spec_nuBezout : CfW Tryz.prog 275 := cfW Tryz.func275
theorem s_spec_nuBezout {a1 : Int} {b2 : Int} {r : (Int × Int × Int)} (h : r_spec_nuBezout a1 b2 = some r) : zQ Tryz.prog 275 [I a1, I b2] (.tc (I r.1) (.tc (I r.2.1) (.tc (I r.2.2) .tn))) [] := by
 refine CtW [4, 5, 6] Tryz.func275 rfl rfl 34 ?_
 unfold r_spec_nuBezout at h
 refine VE ?_
 obtain ⟨y3, hy3, h⟩ := zA h
 refine VS ?_
 refine YK 2 (s_spec_nuGcd hy3) cf_spec_nuGcd ?_
 refine YF ?_
 refine zG ?_
 refine VE ?_
 refine VC h (fun h => ?_) (fun h => ?_)
 ·obtain ⟨y5, hy5, h⟩ := zA h
  refine VS ?_
  refine YK 2 (s_spec_l1Sign hy5) cf_spec_l1Sign ?_
  refine YF ?_
  cases h
  exact zJ VT
 ·refine zK ?_
  show V _ _ _ _
  obtain ⟨z6, hz6, h⟩ := zA h
  obtain ⟨y7, hy7, h⟩ := zA h
  obtain ⟨z8, hz8, h⟩ := zA h
  obtain ⟨y9, hy9, h⟩ := zA h
  refine VDS [0, 0, 3, 0, 8, 0, 56, 127, 255] 9 (cdm 9 [10888, 10882, 10885, 2090, 2154, 682, 1386, 5461, 21845]) ?_
  refine ER 2 ?_
  refine E0 2 rfl rfl (zS (a := a1) (b := y3) rfl kk kk (nz_some hz6)) ?_
  refine EK 1 (s_spec_l1Abs hy7) cf_spec_l1Abs ?_
  refine ER 1 ?_
  refine E0 6 rfl rfl (zS (a := y7) (b := y3) rfl kk kk (nz_some hz8)) ?_
  refine EK 0 (s_spec_nuInverse hy9) cf_spec_nuInverse ?_
  refine EF 1 ?_
  obtain ⟨z10, hz10, h⟩ := zA h
  obtain ⟨t11, ht11, h⟩ := zU h
  refine V_sdreg [0, 0, 0, 0, 0, 24, 60, 0, 252, 1, 515, 2047] 12 (cdm 12 [174760, 699042, 2656906, 2654762, 2654378, 2654570, 2655578, 2632362, 2643290, 174761, 436901, 1398101]) (mb 34 112) [] (s1 := ⟨bt 4 (I y3 :: I y9 :: I t11 :: bt 27 []), []⟩) kk kk ?_ ?_
  ·refine DR 8 ?_
   refine DE_0 8 (I (w64 (Int.tdiv (w64 (y3 - (w64 (a1 * y9)))) b2))) kk rfl rfl rfl (zF rfl) kk (zS (a := w64 (y3 - (w64 (a1 * y9)))) (b := b2) rfl kk kk (nz_some hz10)) 33 rfl ?_
   refine DA 3 ?_
   refine zD ?_
   subst ht11
   kernel_rfl
  cases h
  exact zJ VT
theorem cf_spec_vaComplete : CfW Tryz.prog 239 := cfW Tryz.func239
theorem s_spec_vaComplete {f1 : (Int × Int × Int)} {x2 : Int} {y3 : Int} {r : (((Int × Int × Int)) × ((Int × Int × Int × Int)))} (h : r_spec_vaComplete f1 x2 y3 = some r) : zQ Tryz.prog 239 [.ag [Ti f1.1, Ti f1.2.1, Ti f1.2.2], I x2, I y3] (.tc (.ag [Ti r.1.1, Ti r.1.2.1, Ti r.1.2.2]) (.tc (.ag [Ti r.2.1, Ti r.2.2.1, Ti r.2.2.2.1, Ti r.2.2.2.2]) .tn)) [] := by
 refine zT (rs := [.w 6 3, .w 7 4]) (vs := [.cell 6 38, .cell 7 109]) Tryz.func239 rfl rfl (.cons ⟨rfl, wd38⟩ (.cons ⟨rfl, wd109⟩ FitsL.nil)) (by decide) 76 rfl ?_
 unfold r_spec_vaComplete at h
 refine VE ?_
 obtain ⟨y4, hy4, h⟩ := zA h
 refine VS ?_
 refine YK 2 (s_spec_nuBezout hy4) cf_spec_nuBezout ?_
 refine YF ?_
 obtain ⟨y5, hy5, h⟩ := zA h
 obtain ⟨q6, hq6, h⟩ := zU h
 refine zO (mb 76 6862) [56, 48, 24] (s1 := ⟨.bot :: I x2 :: I y3 :: .pt 24 0 :: .bot :: .bot :: .pt 48 0 :: .pt 56 0 :: .bot :: I y4.2.1 :: .bot :: I q6 :: I y5 :: bt 63 [], [(56, .box [Ti 0, Ti 0, Ti 0, Ti 0]), (48, .box [Ti 0, Ti 0, Ti 0]), (24, .box [Ti f1.1, Ti f1.2.1, Ti f1.2.2])]⟩) ?_ ?_
 ·refine XR 5 ?_
  refine XC (s_spec_foValue hy5) cf_spec_foValue rfl rfl rfl ?_
  refine XR 2 ?_
  refine zD ?_
  subst hq6
  kernel_rfl
 obtain ⟨y7, hy7, h⟩ := zA h
 refine VS ?_
 refine YK 5 (s_spec_foPolar hy7) cf_spec_foPolar ?_
 refine YF ?_
 obtain ⟨y8, hy8, h⟩ := zA h
 obtain ⟨z9, hz9, h⟩ := zA h
 obtain ⟨t10, ht10, h⟩ := zU h
 refine zO (mb 76 31438) [56, 48, 24] (s1 := ⟨.bot :: I x2 :: I y3 :: .pt 24 0 :: .bot :: .bot :: .pt 48 0 :: .pt 56 0 :: .bot :: I y4.2.1 :: .bot :: I q6 :: I y5 :: I y7 :: I t10 :: bt 61 [], [(56, .box [Ti 0, Ti 0, Ti 0, Ti 0]), (48, .box [Ti 0, Ti 0, Ti 0]), (24, .box [Ti f1.1, Ti f1.2.1, Ti f1.2.2])]⟩) ?_ ?_
 ·refine XR 3 ?_
  refine XC (s_spec_nuMod hy8) cf_spec_nuMod rfl rfl rfl ?_
  refine XR 4 ?_
  refine L0 rfl rfl (zS (a := w64 (y8 - y7)) (b := w64 (2 * y5)) rfl kk kk (nz_some hz9)) ?_
  refine XR 1 ?_
  refine zD ?_
  subst ht10
  kernel_rfl
 obtain ⟨f11, hf11, h⟩ := zU h
 obtain ⟨f12, hf12, h⟩ := zU h
 refine zO (mb 76 61640) [120, 56, 48, 24] (s1 := ⟨bt 3 (.pt 24 0 :: .bot :: .bot :: .pt 48 0 :: .pt 56 0 :: bt 4 (I y5 :: I y7 :: I t10 :: .pt 120 0 :: bt 60 [])), [(120, .box [Ti x2, Ti f11, Ti y3, Ti f12]), (56, .box [Ti 0, Ti 0, Ti 0, Ti 0]), (48, .box [Ti 0, Ti 0, Ti 0]), (24, .box [Ti f1.1, Ti f1.2.1, Ti f1.2.2])]⟩) ?_ ?_
 ·refine XR 12 ?_
  refine L0 rfl rfl (Y0_build (cs := [Ti x2, Ti (w64 (q6 + (w64 (x2 * t10)))), Ti y3, Ti (w64 (y4.2.1 + (w64 (y3 * t10))))]) pl109 bt109 rfl rfl kk) ?_
  refine XR 2 ?_
  refine zD ?_
  subst hf11 hf12
  kernel_rfl
 obtain ⟨b13, hb13, h⟩ := zU h
 refine zO (mb 76 45256) [120, 56, 48, 24] (s1 := ⟨bt 3 (.pt 24 0 :: .bot :: .bot :: .pt 48 0 :: .pt 56 0 :: bt 4 (I y5 :: I b13 :: .bot :: .pt 120 0 :: bt 60 [])), [(120, .box [Ti x2, Ti f11, Ti y3, Ti f12]), (56, .box [Ti 0, Ti 0, Ti 0, Ti 0]), (48, .box [Ti 0, Ti 0, Ti 0]), (24, .box [Ti f1.1, Ti f1.2.1, Ti f1.2.2])]⟩) ?_ ?_
 ·refine XR 7 ?_
  refine zD ?_
  subst hb13
  kernel_rfl
 obtain ⟨y14, hy14, h⟩ := zA h
 obtain ⟨z15, hz15, h⟩ := zA h
 obtain ⟨f16, hf16, h⟩ := zU h
 refine V_sdreg [0, 0, 0, 0, 12, 0, 32, 124, 0, 256, 1020, 2047, 0, 4095, 16383] 14 [[.z, .b, .b, .b, .b, .b, .b, .b, .b, .b, .b, .z, .b, .z], [.b, .z, .b, .b, .b, .b, .b, .b, .b, .b, .b, .z, .b, .z], [.b, .b, .z, .b, .z, .b, .b, .z, .b, .b, .z, .z, .b, .z], [.b, .b, .b, .z, .z, .b, .b, .z, .b, .b, .z, .z, .b, .z], [.b, .b, .a, .a, .z, .b, .b, .z, .b, .b, .z, .z, .b, .z], [.b, .b, .b, .b, .b, .z, .z, .z, .b, .b, .z, .z, .b, .z], [.b, .b, .b, .b, .b, .a, .z, .z, .b, .b, .z, .z, .b, .z], [.b, .b, .a, .a, .a, .a, .a, .z, .b, .b, .z, .z, .b, .z], [.b, .b, .b, .b, .b, .b, .b, .b, .z, .z, .z, .z, .b, .z], [.b, .b, .b, .b, .b, .b, .b, .b, .a, .z, .z, .z, .b, .z], [.b, .b, .a, .a, .a, .a, .a, .a, .a, .a, .z, .z, .b, .z], [.a, .a, .a, .a, .a, .a, .a, .a, .a, .a, .a, .z, .b, .z], [.b, .b, .b, .b, .b, .b, .b, .b, .b, .b, .b, .b, .z, .r 48], [.a, .a, .a, .a, .a, .a, .a, .a, .a, .a, .a, .a, .b, .z]] (mb 76 192) [56, 48] (s1 := ⟨bt 6 (.pt 48 0 :: .pt 56 0 :: bt 68 []), [(56, .box [Ti x2, Ti f11, Ti y3, Ti f12]), (48, .box [Ti y5, Ti b13, Ti f16])]⟩) kk kk ?_ ?_
 ·refine DR 6 ?_
  refine DC 6 (s_spec_foDisc hy14) cf_spec_foDisc rfl rfl rfl rfl 69 rfl ?_
  refine DR 3 ?_
  refine DE_0 10 (I (w64 (Int.tdiv (w64 ((w64 (b13 * b13)) - y14)) (w64 (4 * y5))))) kk rfl rfl rfl (zF rfl) kk (zS (a := w64 ((w64 (b13 * b13)) - y14)) (b := w64 (4 * y5)) rfl kk kk (nz_some hz15)) 73 rfl ?_
  refine DE_0 11 (.ag [Ti y5, Ti b13, Ti (w64 (Int.tdiv (w64 ((w64 (b13 * b13)) - y14)) (w64 (4 * y5))))]) kk rfl rfl rfl (zF rfl) kk (Y0_build (cs := [Ti y5, Ti b13, Ti (w64 (Int.tdiv (w64 ((w64 (b13 * b13)) - y14)) (w64 (4 * y5))))]) pl38 bt38 rfl rfl kk) 74 rfl ?_
  refine DA 2 ?_
  refine XR 1 ?_
  refine zD ?_
  subst hf16
  kernel_rfl
 cases h
 exact zJ VT
theorem cf_spec_nuCommon : CfW Tryz.prog 240 := cfW Tryz.func240
theorem s_spec_nuCommon {a1 : Int} {vm2 : Int} {b3 : Int} {vn4 : Int} {r : (Int × Int × Bool)} (h : r_spec_nuCommon a1 vm2 b3 vn4 = some r) : zQ Tryz.prog 240 [I a1, I vm2, I b3, I vn4] (.tc (I r.1) (.tc (I r.2.1) (.tc (Bo r.2.2) .tn))) [] := by
 refine CtW [8, 9, 10] Tryz.func240 rfl rfl 53 ?_
 unfold r_spec_nuCommon at h
 refine VE ?_
 obtain ⟨y5, hy5, h⟩ := zA h
 refine VS ?_
 refine YK 2 (s_spec_nuGcd hy5) cf_spec_nuGcd ?_
 refine YF ?_
 refine zG ?_
 obtain ⟨z6, hz6, h⟩ := zA h
 refine VS ?_
 refine YR 4 ?_
 refine L0 rfl rfl (Y0_rem (k := .i64) (a := w64 (b3 - a1)) (b := y5) rfl kk kk (nz_some hz6)) ?_
 refine YF ?_
 refine VC h (fun h => ?_) (fun h => ?_)
 ·refine VE ?_
  cases h
  exact zJ VT
 ·refine zK ?_
  show V _ _ _ _
  obtain ⟨z8, hz8, h⟩ := zA h
  obtain ⟨z9, hz9, h⟩ := zA h
  obtain ⟨z10, hz10, h⟩ := zA h
  obtain ⟨y11, hy11, h⟩ := zA h
  obtain ⟨z12, hz12, h⟩ := zA h
  obtain ⟨y13, hy13, h⟩ := zA h
  refine VDS [0, 0, 3, 0, 15, 0, 0, 96, 0, 0, 768, 2016, 4095, 0, 0, 24576, 65535, 131071] 18 (cdm 18 [2829756552, 2829756546, 2829756549, 2829756458, 2829756501, 2821333674, 2821327530, 2821330602, 2819140266, 2818747050, 2818943658, 2819970730, 2824164693, 581610154, 178956970, 380283562, 1431655765, 5726623061]) ?_
  refine ER 4 ?_
  refine E0 4 rfl rfl (zS (a := w64 (b3 - a1)) (b := y5) rfl kk kk (nz_some hz8)) ?_
  refine ER 2 ?_
  refine E0 7 rfl rfl (zS (a := vm2) (b := y5) rfl kk kk (nz_some hz9)) ?_
  refine ER 2 ?_
  refine E0 10 rfl rfl (zS (a := vn4) (b := y5) rfl kk kk (nz_some hz10)) ?_
  refine EK 0 (s_spec_nuInverse hy11) cf_spec_nuInverse ?_
  refine ER 3 ?_
  refine E0 15 rfl rfl (zS (a := vn4) (b := y5) rfl kk kk (nz_some hz12)) ?_
  refine EK 0 (s_spec_nuMod hy13) cf_spec_nuMod ?_
  refine EF 1 ?_
  obtain ⟨z14, hz14, h⟩ := zA h
  obtain ⟨all15, hall15, h⟩ := zU h
  refine zO (mb 53 12291) [] (s1 := ⟨I a1 :: I vm2 :: bt 10 (I y13 :: I all15 :: bt 39 []), []⟩) ?_ ?_
  ·refine XR 2 ?_
   refine L0 rfl rfl (zS (a := vm2) (b := y5) rfl kk kk (nz_some hz14)) ?_
   refine XR 3 ?_
   refine zD ?_
   subst hall15
   kernel_rfl
  obtain ⟨y16, hy16, h⟩ := zA h
  refine VS ?_
  refine YK 6 (s_spec_nuMod hy16) cf_spec_nuMod ?_
  refine YF ?_
  cases h
  exact zJ VT
theorem cf_spec_coShift : CfW Tryz.prog 241 := cfW Tryz.func241
theorem s_spec_coShift {t1 : Int} {r : (Int × Int × Int × Int)} (h : r_spec_coShift t1 = some r) : zQ Tryz.prog 241 [I t1] (.ag [Ti r.1, Ti r.2.1, Ti r.2.2.1, Ti r.2.2.2]) [] := by
 refine zT (rs := [.w 2 4]) (vs := [.cell 2 109]) Tryz.func241 rfl rfl (.cons ⟨rfl, wd109⟩ FitsL.nil) (by decide) 5 rfl ?_
 unfold r_spec_coShift at h
 refine VE ?_
 refine VS ?_
 refine YR 1 ?_
 refine L0 rfl rfl (Y0_build (cs := [Ti 1, Ti t1, Ti 0, Ti 1]) pl109 bt109 rfl rfl kk) ?_
 refine YF ?_
 cases h
 exact zJ VT
theorem cf_spec_coUnite : CfW Tryz.prog 184 := cfW Tryz.func184
theorem s_spec_coUnite {f1 : (Int × Int × Int)} {g2 : (Int × Int × Int)} {r : (((Int × Int × Int)) × ((Int × Int × Int)) × ((Int × Int × Int × Int)) × ((Int × Int × Int × Int)))} (h : r_spec_coUnite f1 g2 = some r) : zQ Tryz.prog 184 [.ag [Ti f1.1, Ti f1.2.1, Ti f1.2.2], .ag [Ti g2.1, Ti g2.2.1, Ti g2.2.2]] (.tc (.ag [Ti r.1.1, Ti r.1.2.1, Ti r.1.2.2]) (.tc (.ag [Ti r.2.1.1, Ti r.2.1.2.1, Ti r.2.1.2.2]) (.tc (.ag [Ti r.2.2.1.1, Ti r.2.2.1.2.1, Ti r.2.2.1.2.2.1, Ti r.2.2.1.2.2.2]) (.tc (.ag [Ti r.2.2.2.1, Ti r.2.2.2.2.1, Ti r.2.2.2.2.2.1, Ti r.2.2.2.2.2.2]) .tn)))) [] := by
 refine zT (rs := [.w 4 3, .w 5 3, .w 6 4, .w 7 4]) (vs := [.cell 4 38, .cell 5 38, .cell 6 109, .cell 7 109]) Tryz.func184 rfl rfl (.cons ⟨rfl, wd38⟩ (.cons ⟨rfl, wd38⟩ (.cons ⟨rfl, wd109⟩ (.cons ⟨rfl, wd109⟩ FitsL.nil)))) (by decide) 118 rfl ?_
 unfold r_spec_coUnite at h
 refine VE ?_
 obtain ⟨y3, hy3, h⟩ := zA h
 refine VS ?_
 refine YK 1 (s_spec_reReduce hy3) cf_spec_reReduce ?_
 refine YF ?_
 obtain ⟨y4, hy4, h⟩ := zA h
 refine VS ?_
 refine YK 1 (s_spec_reReduce hy4) cf_spec_reReduce ?_
 refine YF ?_
 obtain ⟨y5, hy5, h⟩ := zA h
 refine VS ?_
 refine YK 3 (s_spec_coPoint hy5) cf_spec_coPoint ?_
 refine YF ?_
 obtain ⟨y6, hy6, h⟩ := zA h
 refine VS ?_
 refine YK 3 (s_spec_vaComplete hy6) cf_spec_vaComplete ?_
 refine YF ?_
 obtain ⟨y7, hy7, h⟩ := zA h
 refine VS ?_
 refine YK 2 (s_spec_foMul hy7) cf_spec_foMul ?_
 refine YF ?_
 obtain ⟨y8, hy8, h⟩ := zA h
 obtain ⟨y9, hy9, h⟩ := zA h
 refine VDS [0, 1, 0, 4, 12, 31, 0, 64, 192, 0, 512, 0, 2048, 6144, 16383, 32767, 65535, 65535, 65535, 131071, 786431, 2097151] 22 (cdm 22 [178954912, 178954913, 178954250, 178954266, 178954330, 178954581, 178784938, 178789034, 178805418, 176335530, 176597674, 2796202, 6990506, 23767722, 89478485, 357913941, 173230347605, 697216357717, 2793160398165, 177525314901, 435223352661, 1466015503701]) ?_
 refine EK 5 (s_spec_nuMod hy8) cf_spec_nuMod ?_
 refine EK 8 (s_spec_nuCommon hy9) cf_spec_nuCommon ?_
 refine EF 7 ?_
 obtain ⟨z10, hz10, h⟩ := zA h
 obtain ⟨y11, hy11, h⟩ := zA h
 obtain ⟨y12, hy12, h⟩ := zA h
 refine V_sdreg [0, 0, 0, 4, 14, 0, 32, 96, 254, 510, 1023, 2047] 11 (cdm 11 [699048, 43170, 43018, 43034, 43094, 682, 1706, 5802, 21846, 87382, 349525]) (mb 118 36848) [88, 80, 72, 64, 56, 48, 40, 32] (s1 := ⟨bt 4 (.pt 32 0 :: .pt 40 0 :: .pt 48 0 :: .pt 56 0 :: .pt 64 0 :: .pt 72 0 :: .pt 80 0 :: .pt 88 0 :: bt 3 (I y9.1 :: bt 102 [])), [(88, .box [Ti y7.1, Ti y7.2.1, Ti y7.2.2.1, Ti y7.2.2.2]), (80, .box [Ti y6.1.1, Ti y6.1.2.1, Ti y6.1.2.2]), (72, .box [Ti y12.1, Ti y12.2.1, Ti y12.2.2.1, Ti y12.2.2.2]), (64, .box [Ti y3.1.1, Ti y3.1.2.1, Ti y3.1.2.2]), (56, .box [Ti 0, Ti 0, Ti 0, Ti 0]), (48, .box [Ti 0, Ti 0, Ti 0, Ti 0]), (40, .box [Ti 0, Ti 0, Ti 0]), (32, .box [Ti 0, Ti 0, Ti 0])]⟩) kk kk ?_ ?_
 ·refine ER 8 ?_
  refine E0 8 rfl rfl (zS (a := w64 (y9.1 - y3.1.2.1)) (b := w64 (2 * y3.1.1)) rfl kk kk (nz_some hz10)) ?_
  refine EK 0 (s_spec_coShift hy11) cf_spec_coShift ?_
  refine EK 0 (s_spec_foMul hy12) cf_spec_foMul ?_
  refine EA 0 ?_
  exact XE
 obtain ⟨z13, hz13, h⟩ := zA h
 obtain ⟨y14, hy14, h⟩ := zA h
 obtain ⟨y15, hy15, h⟩ := zA h
 refine VDS [0, 0, 0, 4, 14, 0, 32, 96, 254, 510, 1023, 2047] 11 (cdm 11 [699048, 43170, 43018, 43034, 43094, 682, 1706, 5802, 21846, 87382, 349525]) ?_
 refine ER 8 ?_
 refine E0 8 rfl rfl (zS (a := w64 (y9.1 - y6.1.2.1)) (b := w64 (2 * y6.1.1)) rfl kk kk (nz_some hz13)) ?_
 refine EK 0 (s_spec_coShift hy14) cf_spec_coShift ?_
 refine EK 0 (s_spec_foMul hy15) cf_spec_foMul ?_
 refine EF 0 ?_
 obtain ⟨y16, hy16, h⟩ := zA h
 obtain ⟨z17, hz17, h⟩ := zA h
 obtain ⟨c18, hc18, h⟩ := zU h
 refine V_sdreg [0, 0, 3, 0, 8, 31, 0, 64, 192, 0, 512, 1984, 4095, 8191] 14 (cdm 14 [11182728, 11182722, 11182725, 11182122, 11182186, 11182421, 2624170, 2628266, 2644650, 174762, 436906, 1399466, 5592405, 22369621]) (mb 118 298992) [88, 80, 72, 64, 56, 48, 40, 32] (s1 := ⟨bt 4 (.pt 32 0 :: .pt 40 0 :: .pt 48 0 :: .pt 56 0 :: .pt 64 0 :: .pt 72 0 :: .pt 80 0 :: .pt 88 0 :: bt 3 (I y9.1 :: .bot :: .bot :: I c18 :: bt 99 [])), [(88, .box [Ti y15.1, Ti y15.2.1, Ti y15.2.2.1, Ti y15.2.2.2]), (80, .box [Ti y6.1.1, Ti y6.1.2.1, Ti y6.1.2.2]), (72, .box [Ti y12.1, Ti y12.2.1, Ti y12.2.2.1, Ti y12.2.2.2]), (64, .box [Ti y3.1.1, Ti y3.1.2.1, Ti y3.1.2.2]), (56, .box [Ti 0, Ti 0, Ti 0, Ti 0]), (48, .box [Ti 0, Ti 0, Ti 0, Ti 0]), (40, .box [Ti 0, Ti 0, Ti 0]), (32, .box [Ti 0, Ti 0, Ti 0])]⟩) kk kk ?_ ?_
 ·refine DR 4 ?_
  refine DC 4 (s_spec_foDisc hy16) cf_spec_foDisc rfl rfl rfl rfl 91 rfl ?_
  refine DR 7 ?_
  refine DE_0 12 (I (w64 (Int.tdiv (w64 ((w64 (y9.1 * y9.1)) - y16)) (w64 ((w64 (4 * y3.1.1)) * y6.1.1))))) kk rfl rfl rfl (zF rfl) kk (zS (a := w64 ((w64 (y9.1 * y9.1)) - y16)) (b := w64 ((w64 (4 * y3.1.1)) * y6.1.1)) rfl kk kk (nz_some hz17)) 99 rfl ?_
  refine DA 1 ?_
  refine zD ?_
  subst hc18
  kernel_rfl
 obtain ⟨f19, hf19, h⟩ := zU h
 obtain ⟨f20, hf20, h⟩ := zU h
 refine V_sdreg [0, 1, 0, 0, 8, 0, 56, 127, 0, 256, 0, 0, 2048, 0, 14336, 32512, 0, 0, 255, 327679, 917503, 2097151] 21 [[.z, .z, .b, .b, .b, .b, .b, .z, .b, .b, .b, .b, .b, .b, .b, .b, .b, .b, .z, .z, .z], [.a, .z, .b, .b, .b, .b, .b, .z, .b, .b, .b, .b, .b, .b, .b, .b, .b, .b, .z, .z, .z], [.b, .b, .z, .b, .b, .b, .b, .z, .b, .b, .b, .b, .b, .b, .b, .b, .b, .b, .z, .z, .z], [.b, .b, .b, .z, .z, .b, .z, .z, .b, .b, .b, .b, .b, .b, .b, .b, .b, .b, .z, .z, .z], [.b, .b, .b, .a, .z, .b, .z, .z, .b, .b, .b, .b, .b, .b, .b, .b, .b, .b, .z, .z, .z], [.b, .b, .b, .b, .b, .z, .z, .z, .b, .b, .b, .b, .b, .b, .b, .b, .b, .b, .z, .z, .z], [.b, .b, .b, .a, .a, .a, .z, .z, .b, .b, .b, .b, .b, .b, .b, .b, .b, .b, .z, .z, .z], [.a, .a, .a, .a, .a, .a, .a, .z, .b, .b, .b, .b, .b, .b, .b, .b, .b, .b, .z, .z, .z], [.b, .b, .b, .b, .b, .b, .b, .b, .z, .z, .b, .b, .b, .b, .b, .z, .b, .b, .r 32, .z, .z], [.b, .b, .b, .b, .b, .b, .b, .b, .a, .z, .b, .b, .b, .b, .b, .z, .b, .b, .r 32, .z, .z], [.b, .b, .b, .b, .b, .b, .b, .b, .b, .b, .z, .b, .b, .b, .b, .z, .b, .b, .r 32, .z, .z], [.b, .b, .b, .b, .b, .b, .b, .b, .b, .b, .b, .z, .z, .b, .z, .z, .b, .b, .r 32, .z, .z], [.b, .b, .b, .b, .b, .b, .b, .b, .b, .b, .b, .a, .z, .b, .z, .z, .b, .b, .r 32, .z, .z], [.b, .b, .b, .b, .b, .b, .b, .b, .b, .b, .b, .b, .b, .z, .z, .z, .b, .b, .r 32, .z, .z], [.b, .b, .b, .b, .b, .b, .b, .b, .b, .b, .b, .a, .a, .a, .z, .z, .b, .b, .r 32, .z, .z], [.b, .b, .b, .b, .b, .b, .b, .b, .a, .a, .a, .a, .a, .a, .a, .z, .b, .b, .r 32, .z, .z], [.b, .b, .b, .b, .b, .b, .b, .b, .b, .b, .b, .b, .b, .b, .b, .b, .z, .b, .r 32, .r 40, .z], [.b, .b, .b, .b, .b, .b, .b, .b, .b, .b, .b, .b, .b, .b, .b, .b, .b, .z, .r 32, .r 40, .r 48], [.a, .a, .a, .a, .a, .a, .a, .a, .b, .b, .b, .b, .b, .b, .b, .b, .b, .b, .z, .z, .z], [.a, .a, .a, .a, .a, .a, .a, .a, .a, .a, .a, .a, .a, .a, .a, .a, .b, .b, .a, .z, .z], [.a, .a, .a, .a, .a, .a, .a, .a, .a, .a, .a, .a, .a, .a, .a, .a, .a, .b, .a, .a, .z]] (mb 118 240) [56, 48, 40, 32] (s1 := ⟨bt 4 (.pt 32 0 :: .pt 40 0 :: .pt 48 0 :: .pt 56 0 :: bt 110 []), [(56, .box [Ti y15.1, Ti y15.2.1, Ti y15.2.2.1, Ti y15.2.2.2]), (48, .box [Ti y12.1, Ti y12.2.1, Ti y12.2.2.1, Ti y12.2.2.2]), (40, .box [Ti y6.1.1, Ti y9.1, Ti f19]), (32, .box [Ti y3.1.1, Ti y9.1, Ti f20])]⟩) kk kk ?_ ?_
 ·refine DR 7 ?_
  refine DE_0 7 (.ag [Ti y3.1.1, Ti y9.1, Ti (w64 (y6.1.1 * c18))]) kk rfl rfl rfl (zF rfl) kk (Y0_build (cs := [Ti y3.1.1, Ti y9.1, Ti (w64 (y6.1.1 * c18))]) pl38 bt38 rfl rfl kk) 107 rfl ?_
  refine DR 7 ?_
  refine DE_0 15 (.ag [Ti y6.1.1, Ti y9.1, Ti (w64 (y3.1.1 * c18))]) kk rfl rfl rfl (zF rfl) kk (Y0_build (cs := [Ti y6.1.1, Ti y9.1, Ti (w64 (y3.1.1 * c18))]) pl38 bt38 rfl rfl kk) 115 rfl ?_
  refine DA 5 ?_
  refine XR 1 ?_
  refine zD ?_
  subst hf19 hf20
  kernel_rfl
 cases h
 exact zJ VT
theorem cf_spec_coJoined : CfW Tryz.prog 185 := cfW Tryz.func185
theorem s_spec_coJoined {a1 : (Int × Int × Int)} {e2 : (Int × Int × Int)} {r : (Int × Int × Int)} (h : r_spec_coJoined a1 e2 = some r) : zQ Tryz.prog 185 [.ag [Ti a1.1, Ti a1.2.1, Ti a1.2.2], .ag [Ti e2.1, Ti e2.2.1, Ti e2.2.2]] (.ag [Ti r.1, Ti r.2.1, Ti r.2.2]) [] := by
 refine zT (rs := [.w 4 3]) (vs := [.cell 4 38]) Tryz.func185 rfl rfl (.cons ⟨rfl, wd38⟩ FitsL.nil) (by decide) 18 rfl ?_
 unfold r_spec_coJoined at h
 refine VE ?_
 obtain ⟨z3, hz3, h⟩ := zA h
 obtain ⟨f4, hf4, h⟩ := zU h
 obtain ⟨f5, hf5, h⟩ := zU h
 refine V_sdreg [0, 1, 0, 4, 15, 0, 32, 0, 128, 0, 512, 1920, 4095, 8191] 13 (cdm 13 [11184288, 11184289, 11184138, 11184154, 11184213, 11174570, 11175594, 2632362, 2648746, 174762, 436906, 1403562, 5592405]) (mb 18 16) [32] (s1 := ⟨bt 4 (.pt 32 0 :: bt 13 []), [(32, .box [Ti f4, Ti a1.2.1, Ti f5])]⟩) kk kk ?_ ?_
 ·refine DR 11 ?_
  refine DE_0 11 (I (w64 (Int.tdiv a1.2.2 e2.1))) kk rfl rfl rfl (zF rfl) kk (zS (a := a1.2.2) (b := e2.1) rfl kk kk (nz_some hz3)) 16 rfl ?_
  refine DE_0 12 (.ag [Ti (w64 (a1.1 * e2.1)), Ti a1.2.1, Ti (w64 (Int.tdiv a1.2.2 e2.1))]) kk rfl rfl rfl (zF rfl) kk (Y0_build (cs := [Ti (w64 (a1.1 * e2.1)), Ti a1.2.1, Ti (w64 (Int.tdiv a1.2.2 e2.1))]) pl38 bt38 rfl rfl kk) 17 rfl ?_
  refine DA 0 ?_
  refine XR 1 ?_
  refine zD ?_
  subst hf4 hf5
  kernel_rfl
 cases h
 exact zJ VT
theorem cf_spec_coMul : CfW Tryz.prog 100 := cfW Tryz.func100
theorem s_spec_coMul {f1 : (Int × Int × Int)} {g2 : (Int × Int × Int)} {r : (Int × Int × Int)} (h : r_spec_coMul f1 g2 = some r) : zQ Tryz.prog 100 [.ag [Ti f1.1, Ti f1.2.1, Ti f1.2.2], .ag [Ti g2.1, Ti g2.2.1, Ti g2.2.2]] (.ag [Ti r.1, Ti r.2.1, Ti r.2.2]) [] := by
 refine zT (rs := [.w 4 3]) (vs := [.cell 4 38]) Tryz.func100 rfl rfl (.cons ⟨rfl, wd38⟩ FitsL.nil) (by decide) 21 rfl ?_
 unfold r_spec_coMul at h
 refine VE ?_
 obtain ⟨y3, hy3, h⟩ := zA h
 refine VS ?_
 refine YK 2 (s_spec_coUnite hy3) cf_spec_coUnite ?_
 refine YF ?_
 obtain ⟨y4, hy4, h⟩ := zA h
 obtain ⟨y5, hy5, h⟩ := zA h
 refine VS ?_
 refine YK 2 (s_spec_coJoined hy4) cf_spec_coJoined ?_
 refine YK 0 (s_spec_reClass hy5) cf_spec_reClass ?_
 refine YF ?_
 cases h
 exact zJ VT
theorem cf_spec_coPower : CfW Tryz.prog 223 := cfW Tryz.func223
theorem s_spec_coPower {f1 : (Int × Int × Int)} {k2 : Int} {r : (Int × Int × Int)} (h : r_spec_coPower f1 k2 = some r) : zQ Tryz.prog 223 [.ag [Ti f1.1, Ti f1.2.1, Ti f1.2.2], I k2] (.ag [Ti r.1, Ti r.2.1, Ti r.2.2]) [] := by
 refine zT (rs := [.w 4 3]) (vs := [.cell 4 38]) Tryz.func223 rfl rfl (.cons ⟨rfl, wd38⟩ FitsL.nil) (by decide) 31 rfl ?_
 unfold r_spec_coPower at h
 refine VE ?_
 obtain ⟨y3, hy3, h⟩ := zA h
 refine VS ?_
 refine YK 1 (s_spec_reClass hy3) cf_spec_reClass ?_
 refine YF ?_
 obtain ⟨j4, hj4, h⟩ := zA h
 refine V_cutK (mb 31 22) [32, 16] (s1 := ⟨.bot :: I j4.1 :: .pt 16 0 :: .bot :: .pt 32 0 :: bt 26 [], [(32, .box [Ti 0, Ti 0, Ti 0]), (16, .box [Ti j4.2.1, Ti j4.2.2.1, Ti j4.2.2.2])]⟩) ?_ ?_
 ·clear h
  have h := hj4
  clear hj4
  refine VE ?_
  refine VC h (fun h => ?_) (fun h => ?_)
  ·obtain ⟨y6, hy6, h⟩ := zA h
   obtain ⟨k7, hk7, h⟩ := zU h
   refine V_reg (mb 31 22) [32, 16] (s1 := ⟨.bot :: I k7 :: .pt 16 0 :: .bot :: .pt 32 0 :: bt 26 [], [(32, .box [Ti 0, Ti 0, Ti 0]), (16, .box [Ti y6.1, Ti y6.2.1, Ti y6.2.2])]⟩) ?_ ?_
   ·refine XR 1 ?_
    refine XC (s_spec_coInverse hy6) cf_spec_coInverse rfl rfl rfl ?_
    refine XR 4 ?_
    refine zD ?_
    subst hk7
    kernel_rfl
   obtain rfl := zB h
   show St.keep _ _ _ = _
   kernel_rfl
  ·refine zK ?_
   obtain rfl := zB h
   show St.keep _ _ _ = _
   kernel_rfl
 obtain ⟨y8, hy8, h⟩ := zA h
 obtain ⟨y9, hy9, h⟩ := zA h
 refine VS ?_
 refine YK 1 (s_spec_foDisc hy8) cf_spec_foDisc ?_
 refine YK 0 (s_spec_coOne hy9) cf_spec_coOne ?_
 refine YF ?_
 refine zG ?_
 obtain ⟨o18, hLo18, h⟩ := zA h
 refine V_toK (mb 31 48) [40, 32] (s1 := ⟨bt 4 (.pt 32 0 :: .pt 40 0 :: bt 25 []), [(40, .box [Ti o18.1, Ti o18.2.1, Ti o18.2.2]), (32, .box [Ti 0, Ti 0, Ti 0])]⟩) ?_ ?_
 ·clear h
  refine zH (V_loop (fun n s => ∃ (k10 : Int) (f11 : Int) (f12 : Int) (f13 : Int) (f14 : Int) (f15 : Int) (f16 : Int), s.keep (mb 31 54) [40, 32, 16] = (⟨.bot :: I k10 :: .pt 16 0 :: .bot :: .pt 32 0 :: .pt 40 0 :: bt 25 [], [(40, .box [Ti f11, Ti f12, Ti f13]), (32, .box [Ti 0, Ti 0, Ti 0]), (16, .box [Ti f14, Ti f15, Ti f16])]⟩ : St) ∧ r_spec_coPower_L17 n k10 f11 f12 f13 f14 f15 f16 = some o18) FU ⟨_, _, _, _, _, _, _,  kk, hLo18⟩ ?_)
  clear hLo18
  rintro n s ⟨k10, f11, f12, f13, f14, f15, f16, hs, h⟩
  refine zV _ _ hs ?_
  clear hs
  cases n with
  | zero => cases h
  | succ n =>
   rw [r_spec_coPower_L17] at h
   refine zG ?_
   refine VE ?_
   refine VC h (fun h => ?_) (fun h => ?_)
   ·refine zK ?_
    show V _ _ _ _
    refine zG ?_
    refine zH ?_
    obtain ⟨j20, hj20, h⟩ := zA h
    refine V_cutK (mb 31 54) [40, 32, 16] (s1 := ⟨.bot :: I k10 :: .pt 16 0 :: .bot :: .pt 32 0 :: .pt 40 0 :: bt 25 [], [(40, .box [Ti j20.1, Ti j20.2.1, Ti j20.2.2]), (32, .box [Ti 0, Ti 0, Ti 0]), (16, .box [Ti f14, Ti f15, Ti f16])]⟩) ?_ ?_
    ·clear h
     have h := hj20
     clear hj20
     refine VS ?_
     refine YR 1 ?_
     refine L0 rfl rfl (Y0_rem (k := .i64) (a := k10) (b := 2) rfl kk kk (by decide)) ?_
     refine YF ?_
     refine VC h (fun h => ?_) (fun h => ?_)
     ·obtain ⟨y22, hy22, h⟩ := zA h
      refine zX ?_
      refine YK 2 (s_spec_coMul hy22) cf_spec_coMul ?_
      refine YF ?_
      obtain rfl := zB h
      show St.keep _ _ _ = _
      kernel_rfl
     ·refine zK ?_
      obtain rfl := zB h
      show St.keep _ _ _ = _
      kernel_rfl
    obtain ⟨y23, hy23, h⟩ := zA h
    refine zX ?_
    refine YK 2 (s_spec_coMul hy23) cf_spec_coMul ?_
    refine YF ?_
    show V _ _ _ _
    obtain ⟨k24, hk24, h⟩ := zU h
    refine V_reg (mb 31 54) [40, 32, 16] (s1 := ⟨.bot :: I k24 :: .pt 16 0 :: .bot :: .pt 32 0 :: .pt 40 0 :: bt 25 [], [(40, .box [Ti j20.1, Ti j20.2.1, Ti j20.2.2]), (32, .box [Ti 0, Ti 0, Ti 0]), (16, .box [Ti y23.1, Ti y23.2.1, Ti y23.2.2])]⟩) ?_ ?_
    ·refine XR 1 ?_
     refine L0 rfl rfl (zS (a := k10) (b := 2) rfl kk kk (by decide)) ?_
     refine XR 1 ?_
     refine zD ?_
     subst hk24
     kernel_rfl
    exact ⟨n, Nat.lt_succ_self n, _, _, _, _, _, _, _,  kk, h⟩
   ·refine V_exit ?_
    obtain rfl := zB h
    show St.keep _ _ _ = _
    kernel_rfl
 show V _ _ _ _
 refine VE ?_
 cases h
 exact zJ VT
theorem cf_spec_nuFactors : CfW Tryz.prog 263 := cfW Tryz.func263
theorem s_spec_nuFactors {vn1 : Int} {r : List Int} (h : r_spec_nuFactors vn1 = some r) : zQ Tryz.prog 263 [I vn1] (.ow 0) [(0, .arr 3 1 (r.map c3))] := by
 refine CtW [2] Tryz.func263 rfl rfl 30 ?_
 unfold r_spec_nuFactors at h
 refine VS ?_
 refine L1 rfl rfl (Y1_nil (e := 3) 1 (by decide) (.inl rfl)) ?_
 refine YF ?_
 refine VS ?_
 refine L1 rfl rfl (Y1_nil (e := 3) 1 (by decide) (.inl rfl)) ?_
 refine YF ?_
 refine zG ?_
 refine VE ?_
 obtain ⟨o6, hLo6, h⟩ := zA h
 refine V_toK (mb 30 9) [24] (s1 := ⟨I o6.1 :: .bot :: .bot :: .ow 24 :: bt 26 [], [(24, .arr 3 1 (o6.2.map c3))]⟩) ?_ ?_
 ·clear h
  refine zH (V_loop (fun n s => ∃ (vn2 : Int) (d3 : Int) (l4 : List Int), s.keep (mb 30 25) [24] = (⟨I vn2 :: .bot :: .bot :: .ow 24 :: I d3 :: bt 25 [], [(24, .arr 3 1 (l4.map c3))]⟩ : St) ∧ r_spec_nuFactors_L5 n vn2 d3 l4 = some o6) FU ⟨_, _, _,  kk, hLo6⟩ ?_)
  clear hLo6
  rintro n s ⟨vn2, d3, l4, hs, h⟩
  refine zV _ _ hs ?_
  clear hs
  cases n with
  | zero => cases h
  | succ n =>
   rw [r_spec_nuFactors_L5] at h
   refine zG ?_
   refine VE ?_
   refine VC h (fun h => ?_) (fun h => ?_)
   ·refine zK ?_
    show V _ _ _ _
    refine zG ?_
    refine zH ?_
    obtain ⟨o11, hLo11, h⟩ := zA h
    refine V_toK (mb 30 25) [24] (s1 := ⟨I o11.1 :: .bot :: .bot :: .ow 24 :: I d3 :: bt 25 [], [(24, .arr 3 1 (o11.2.map c3))]⟩) ?_ ?_
    ·clear h
     refine zH (V_loop (fun n s => ∃ (vn8 : Int) (l9 : List Int), s.keep (mb 30 25) [24] = (⟨I vn8 :: .bot :: .bot :: .ow 24 :: I d3 :: bt 25 [], [(24, .arr 3 1 (l9.map c3))]⟩ : St) ∧ r_spec_nuFactors_L10 d3 n vn8 l9 = some o11) FU ⟨_, _,  kk, hLo11⟩ ?_)
     clear hLo11
     rintro n s ⟨vn8, l9, hs, h⟩
     refine zV _ _ hs ?_
     clear hs
     cases n with
     | zero => cases h
     | succ n =>
      rw [r_spec_nuFactors_L10] at h
      refine zG ?_
      obtain ⟨z12, hz12, h⟩ := zA h
      refine VS ?_
      refine YR 2 ?_
      refine L0 rfl rfl (Y0_rem (k := .i64) (a := vn8) (b := d3) rfl kk kk (nz_some hz12)) ?_
      refine YF ?_
      refine VC h (fun h => ?_) (fun h => ?_)
      ·refine zK ?_
       show V _ _ _ _
       refine zH ?_
       obtain ⟨u14, hu14, h⟩ := zA h
       refine VS ?_
       refine YR 2 ?_
       refine L1 rfl rfl (Y1_bslice (z := zv3) (els := [d3].map c3) Tryz.underlying24 iz3 rfl (by decide) rfl kk rfl (by simp [c3]) (by decide) (by decide)) ?_
       refine XL_cons rfl (X_appendM (c := c3) (xs := l9) (ys := [d3]) (id := 24) (z := zv3) rfl rfl Tryz.underlying24 izb3 rfl kk kk kk (fun _ => rfl) (by simp) (room_some hu14) (by decide)) ?_
       refine YF ?_
       obtain ⟨z15, hz15, h⟩ := zA h
       obtain ⟨vn16, hvn16, h⟩ := zU h
       refine V_reg (mb 30 25) [24] (s1 := ⟨I vn16 :: .bot :: .bot :: .ow 24 :: I d3 :: bt 25 [], [(24, .arr 3 1 ((l9 ++ ([d3])).map c3))]⟩) ?_ ?_
       ·refine XR 2 ?_
        refine L0 rfl rfl (zS (a := vn8) (b := d3) rfl kk kk (nz_some hz15)) ?_
        refine XR 1 ?_
        refine zD ?_
        subst hvn16
        kernel_rfl
       exact ⟨n, Nat.lt_succ_self n, _, _,  kk, h⟩
      ·refine V_exit ?_
       obtain rfl := zB h
       show St.keep _ _ _ = _
       kernel_rfl
    show V _ _ _ _
    obtain ⟨d17, hd17, h⟩ := zU h
    refine V_reg (mb 30 25) [24] (s1 := ⟨I o11.1 :: .bot :: .bot :: .ow 24 :: I d17 :: bt 25 [], [(24, .arr 3 1 (o11.2.map c3))]⟩) ?_ ?_
    ·refine XR 3 ?_
     refine zD ?_
     subst hd17
     kernel_rfl
    exact ⟨n, Nat.lt_succ_self n, _, _, _,  kk, h⟩
   ·refine V_exit ?_
    obtain rfl := zB h
    show St.keep _ _ _ = _
    kernel_rfl
 show V _ _ _ _
 refine zG ?_
 refine VE ?_
 refine VC h (fun h => ?_) (fun h => ?_)
 ·obtain ⟨u19, hu19, h⟩ := zA h
  refine zX ?_
  refine YR 2 ?_
  refine L1 rfl rfl (Y1_bslice (z := zv3) (els := [o6.1].map c3) Tryz.underlying24 iz3 rfl (by decide) rfl kk rfl (by simp [c3]) (by decide) (by decide)) ?_
  refine XL_cons rfl (X_appendM (c := c3) (xs := o6.2) (ys := [o6.1]) (id := 24) (z := zv3) rfl rfl Tryz.underlying24 izb3 rfl kk kk kk (fun _ => rfl) (by simp) (room_some hu19) (by decide)) ?_
  refine YF ?_
  show V _ _ _ _
  refine VE ?_
  cases h
  exact zJ VT
 ·refine zK ?_
  show V _ _ _ _
  refine VE ?_
  cases h
  exact zJ VT
theorem cf_spec_l1Put : CfW Tryz.prog 264 := cfW Tryz.func264
theorem s_spec_l1Put {l1 : List Int} {vn2 : Int} {r : List Int} (h : r_spec_l1Put l1 vn2 = some r) : zQ Tryz.prog 264 [.c (.sl (l1.map c3)), I vn2] (.c (.sl (r.map c3))) [] := by
 refine CtW [4] Tryz.func264 rfl rfl 48 ?_
 unfold r_spec_l1Put at h
 refine VS ?_
 refine L1 rfl rfl (Y1_nil (e := 3) 1 (by decide) (.inl rfl)) ?_
 refine YF ?_
 refine VE ?_
 refine zG ?_
 obtain ⟨o5, hLo5, h⟩ := zA h
 refine V_toK (mb 48 35) [] (s1 := ⟨.c (.sl (l1.map c3)) :: I vn2 :: bt 3 (I o5 :: bt 42 []), []⟩) ?_ ?_
 ·clear h
  refine zH (V_loop (fun n s => ∃ (k3 : Int), s.keep (mb 48 35) [] = (⟨.c (.sl (l1.map c3)) :: I vn2 :: bt 3 (I k3 :: bt 42 []), []⟩ : St) ∧ r_spec_l1Put_L4 l1 vn2 n k3 = some o5) FU ⟨_,  kk, hLo5⟩ ?_)
  clear hLo5
  rintro n s ⟨k3, hs, h⟩
  refine zV _ _ hs ?_
  clear hs
  cases n with
  | zero => cases h
  | succ n =>
   rw [r_spec_l1Put_L4] at h
   refine zG ?_
   obtain ⟨b8, hb8, h⟩ := zA h
   refine zO (mb 48 262179) [] (s1 := ⟨.c (.sl (l1.map c3)) :: I vn2 :: bt 3 (I k3 :: bt 12 (Bo b8 :: bt 29 [])), []⟩) ?_ ?_
   ·refine YR 2 ?_
    refine L0 rfl rfl (Y0_lenM (c := c3) (xs := l1) Tryz.underlying24 rfl kk) ?_
    refine YR 2 ?_
    refine zI (ltI k3 ((l1.length : Int))) (fun hc6 => ?_) (fun hc6 => ?_)
    ·have hb8 := zN hb8 hc6
     obtain ⟨e7, he7, hb8⟩ := zA hb8
     have hb8 := zB hb8
     refine YQ hc6 ?_
     refine YR 2 ?_
     refine YT (X_of_Y0 rfl (zM (c := c3) (xs := l1) (v := e7) (n := k3) Tryz.underlying24 sz3 rfl kk kk he7)) ?_
     exact YE (by rw [← hb8]; (try rw [hc6]); kernel_rfl)
    ·have hb8 := zB (zC hb8 hc6)
     refine YQ hc6 ?_
     exact YE (by rw [← hb8]; (try rw [hc6]); kernel_rfl)
   refine VC h (fun h => ?_) (fun h => ?_)
   ·refine zK ?_
    show V _ _ _ _
    refine zH ?_
    obtain ⟨k10, hk10, h⟩ := zU h
    refine V_reg (mb 48 35) [] (s1 := ⟨.c (.sl (l1.map c3)) :: I vn2 :: bt 3 (I k10 :: bt 42 []), []⟩) ?_ ?_
    ·refine XR 3 ?_
     refine zD ?_
     subst hk10
     kernel_rfl
    exact ⟨n, Nat.lt_succ_self n, _,  kk, h⟩
   ·refine V_exit ?_
    obtain rfl := zB h
    show St.keep _ _ _ = _
    kernel_rfl
 show V _ _ _ _
 refine zG ?_
 obtain ⟨b13, hb13, h⟩ := zA h
 refine zO (mb 48 4294967331) [] (s1 := ⟨.c (.sl (l1.map c3)) :: I vn2 :: bt 3 (I o5 :: bt 26 (Bo b13 :: bt 15 [])), []⟩) ?_ ?_
 ·refine YR 2 ?_
  refine L0 rfl rfl (Y0_lenM (c := c3) (xs := l1) Tryz.underlying24 rfl kk) ?_
  refine YR 2 ?_
  refine zI (ltI o5 ((l1.length : Int))) (fun hc11 => ?_) (fun hc11 => ?_)
  ·have hb13 := zN hb13 hc11
   obtain ⟨e12, he12, hb13⟩ := zA hb13
   have hb13 := zB hb13
   refine YQ hc11 ?_
   refine YR 2 ?_
   refine YT (X_of_Y0 rfl (zM (c := c3) (xs := l1) (v := e12) (n := o5) Tryz.underlying24 sz3 rfl kk kk he12)) ?_
   exact YE (by rw [← hb13]; (try rw [hc11]); kernel_rfl)
  ·have hb13 := zB (zC hb13 hc11)
   refine YQ hc11 ?_
   exact YE (by rw [← hb13]; (try rw [hc11]); kernel_rfl)
 refine VC h (fun h => ?_) (fun h => ?_)
 ·refine VE ?_
  cases h
  exact zJ VT
 ·refine zK ?_
  show V _ _ _ _
  obtain ⟨u15, hu15, h⟩ := zA h
  obtain ⟨u16, hu16, h⟩ := zA h
  refine VS ?_
  refine L1 rfl rfl (Y1_bslice0 Tryz.underlying24 sz3 (by decide) rfl rfl) ?_
  refine YR 2 ?_
  refine L0 rfl rfl (Y0_slice (c := c3) (xs := l1) (l := 0) (h := o5) Tryz.underlying24 sz3 (fun _ => rfl) rfl kk (fun y hy => by cases hy) (fun _ => rfl) (fun y hy => by cases hy; exact ⟨.i64, kk⟩) (fun hh => by cases hh) (slc_some hu15)) ?_
  refine XL_cons rfl (X_appendA (c := c3) (xs := ([] : List Int)) (ys := subl l1 0 o5) (id := 272) (z := zv3) rfl rfl Tryz.underlying24 izb3 rfl kk kk kk (fun _ => rfl) (room_some hu16) (by decide)) ?_
  refine YF ?_
  obtain ⟨u17, hu17, h⟩ := zA h
  refine VS ?_
  refine YR 2 ?_
  refine L1 rfl rfl (Y1_bslice (z := zv3) (els := [vn2].map c3) Tryz.underlying24 iz3 rfl (by decide) rfl kk rfl (by simp [c3]) (by decide) (by decide)) ?_
  refine XL_cons rfl (X_appendM (c := c3) (xs := (([] : List Int)) ++ (subl l1 0 o5)) (ys := [vn2]) (id := 272) (z := zv3) rfl rfl Tryz.underlying24 izb3 rfl kk kk kk (fun _ => rfl) (by simp) (room_some hu17) (by decide)) ?_
  refine YF ?_
  obtain ⟨u18, hu18, h⟩ := zA h
  obtain ⟨u19, hu19, h⟩ := zA h
  obtain ⟨l20, hl20, h⟩ := zA h
  have hl20 := zB hl20
  refine zO (mb 48 16) [272] (s1 := ⟨bt 4 (.ow 272 :: bt 43 []), [(272, .arr 3 1 (l20.map c3))]⟩) ?_ ?_
  ·refine XR 3 ?_
   refine L0 rfl rfl (Y0_slice (c := c3) (xs := l1) (l := o5) (h := (l1.length : Int)) Tryz.underlying24 sz3 (fun _ => rfl) rfl kk (fun y hy => by cases hy; exact ⟨.i64, kk⟩) (fun hh => by cases hh) (fun y hy => by cases hy) (fun _ => rfl) (slc_some hu18)) ?_
   refine XL_cons rfl (X_appendA (c := c3) (xs := ((([] : List Int)) ++ (subl l1 0 o5)) ++ ([vn2])) (ys := subl l1 o5 ((l1.length : Int))) (id := 272) (z := zv3) rfl rfl Tryz.underlying24 izb3 rfl kk kk kk (fun _ => rfl) (room_some hu19) (by decide)) ?_
   refine XR 1 ?_
   refine zD ?_
   subst hl20
   kernel_rfl
  refine V_freeze 272 (T := 3) (sz := 1) (els := l20.map c3) kk rfl ?_
  cases h
  exact zJ VT
theorem cf_spec_nuPrimes : CfW Tryz.prog 224 := cfW Tryz.func224
theorem s_spec_nuPrimes {vn1 : Int} {r : List Int} (h : r_spec_nuPrimes vn1 = some r) : zQ Tryz.prog 224 [I vn1] (.c (.sl (r.map c3))) [] := by
 refine CtW [2] Tryz.func224 rfl rfl 18 ?_
 unfold r_spec_nuPrimes at h
 refine VS ?_
 refine L1 rfl rfl (Y1_nil (e := 3) 1 (by decide) (.inl rfl)) ?_
 refine YF ?_
 refine VS ?_
 refine L1 rfl rfl (Y1_nil (e := 3) 1 (by decide) (.inl rfl)) ?_
 refine YF ?_
 refine zG ?_
 obtain ⟨y2, hy2, h⟩ := zA h
 refine VS ?_
 refine YK 1 (s_spec_nuFactors hy2) cf_spec_nuFactors ?_
 refine L0 rfl rfl (Y0_lenM (c := c3) (xs := y2) Tryz.underlying24 rfl kk) ?_
 refine YF ?_
 refine V_freeze 24 (T := 3) (sz := 1) (els := (([] : List Int)).map c3) kk rfl ?_
 obtain ⟨o6, hLo6, h⟩ := zA h
 refine V_toK (mb 18 8) [] (s1 := ⟨bt 3 (.c (.sl (o6.map c3)) :: bt 14 []), []⟩) ?_ ?_
 ·clear h
  refine zH (V_loop (fun n s => ∃ (out3 : List Int) (t4 : Int), s.keep (mb 18 904) [56] = (⟨bt 3 (.c (.sl (out3.map c3)) :: bt 3 (.ow 56 :: I ((y2.length : Int)) :: I t4 :: bt 8 [])), [(56, .arr 3 1 (y2.map c3))]⟩ : St) ∧ r_spec_nuPrimes_L5 y2 n out3 t4 = some o6) FU ⟨_, _,  kk, hLo6⟩ ?_)
  clear hLo6
  rintro n s ⟨out3, t4, hs, h⟩
  refine zV _ _ hs ?_
  clear hs
  cases n with
  | zero => cases h
  | succ n =>
   rw [r_spec_nuPrimes_L5] at h
   refine VE ?_
   refine zG ?_
   refine VC h (fun h => ?_) (fun h => ?_)
   ·refine zK ?_
    show V _ _ _ _
    refine zG ?_
    refine zH ?_
    obtain ⟨e8, he8, h⟩ := zA h
    obtain ⟨e9, he9, h⟩ := zA h
    refine VS ?_
    refine L0 rfl rfl (Y0_idxoM (c := c3) (xs := y2) (v := e8) (id := 56) (T := 3) (sz := 1) (n := t4) Tryz.underlying24 sz3 rfl kk kk kk he8) ?_
    refine L0 rfl rfl (Y0_loado1 (c := c3) (xs := y2) (v := e9) (id := 56) (sz := 1) (T := 3) (off := 0) (n := t4) (d := Ti e9) (ds := []) sc3 rfl kk kk he9 kk) ?_
    refine YF ?_
    obtain ⟨y10, hy10, h⟩ := zA h
    refine zX ?_
    refine YK 2 (s_spec_l1Put hy10) cf_spec_l1Put ?_
    refine YF ?_
    show V _ _ _ _
    obtain ⟨t11, ht11, h⟩ := zU h
    refine V_reg (mb 18 904) [56] (s1 := ⟨bt 3 (.c (.sl (y10.map c3)) :: bt 3 (.ow 56 :: I ((y2.length : Int)) :: I t11 :: bt 8 [])), [(56, .arr 3 1 (y2.map c3))]⟩) ?_ ?_
    ·refine XR 2 ?_
     refine zD ?_
     subst ht11
     kernel_rfl
    exact ⟨n, Nat.lt_succ_self n, _, _,  kk, h⟩
   ·refine V_exit ?_
    obtain rfl := zB h
    show St.keep _ _ _ = _
    kernel_rfl
 show V _ _ _ _
 refine VE ?_
 cases h
 exact zJ VT
theorem cf_spec_prOrder : CfW Tryz.prog 157 := cfW Tryz.func157
theorem s_spec_prOrder {f1 : (Int × Int × Int)} {vn2 : Int} {r : Bool} (h : r_spec_prOrder f1 vn2 = some r) : zQ Tryz.prog 157 [.ag [Ti f1.1, Ti f1.2.1, Ti f1.2.2], I vn2] (Bo r) [] := by
 refine CtW [4] Tryz.func157 rfl rfl 38 ?_
 unfold r_spec_prOrder at h
 refine VE ?_
 refine zG ?_
 obtain ⟨y3, hy3, h⟩ := zA h
 refine zO (mb 38 16390) [16] (s1 := ⟨.bot :: I vn2 :: .pt 16 0 :: bt 11 (Bo (bif (!y3) then true else (ltI vn2 1)) :: bt 23 []), [(16, .box [Ti f1.1, Ti f1.2.1, Ti f1.2.2])]⟩) ?_ ?_
 ·refine YK 1 (s_spec_coGood hy3) cf_spec_coGood ?_
  refine YR 2 ?_
  refine zI (!y3) (fun hc4 => ?_) (fun hc4 => ?_)
  ·refine YQ hc4 ?_
   exact YE (by rw [hc4]; kernel_rfl)
  ·refine YQ hc4 ?_
   exact YE (by rw [hc4]; kernel_rfl)
 refine VC h (fun h => ?_) (fun h => ?_)
 ·refine VE ?_
  cases h
  exact zJ VT
 ·refine zK ?_
  show V _ _ _ _
  obtain ⟨y6, hy6, h⟩ := zA h
  obtain ⟨y7, hy7, h⟩ := zA h
  refine VS ?_
  refine YK 1 (s_spec_foDisc hy6) cf_spec_foDisc ?_
  refine YK 0 (s_spec_coOne hy7) cf_spec_coOne ?_
  refine YF ?_
  refine zG ?_
  obtain ⟨y8, hy8, h⟩ := zA h
  obtain ⟨t9, ht9, h⟩ := zA h
  have ht9 := zB ht9
  refine V_sdreg [0, 0, 3, 0, 15] 5 (cdm 5 [136, 130, 133, 42, 85]) (mb 38 4194342) [40, 16] (s1 := ⟨.bot :: I vn2 :: .pt 16 0 :: .bot :: .bot :: .pt 40 0 :: bt 16 (Bo t9 :: bt 15 []), [(40, .box [Ti y7.1, Ti y7.2.1, Ti y7.2.2]), (16, .box [Ti f1.1, Ti f1.2.1, Ti f1.2.2])]⟩) kk kk ?_ ?_
  ·refine DR 2 ?_
   refine DC 2 (s_spec_coPower hy8) cf_spec_coPower rfl rfl rfl rfl 20 rfl ?_
   refine DR 1 ?_
   refine DE_0 4 (Bo (!((y8.1 == y7.1) && ((y8.2.1 == y7.2.1) && (y8.2.2 == y7.2.2))))) kk rfl rfl rfl (zF rfl) kk (Y0_neg3 (a0 := y8.1) (b0 := y7.1) (a1 := y8.2.1) (b1 := y7.2.1) (a2 := y8.2.2) (b2 := y7.2.2) neg38 rfl kk kk) 22 rfl ?_
   refine DA 0 ?_
   refine zD ?_
   subst ht9
   kernel_rfl
  refine VC h (fun h => ?_) (fun h => ?_)
  ·refine VE ?_
   cases h
   exact zJ VT
  ·refine zK ?_
   show V _ _ _ _
   refine zG ?_
   obtain ⟨y11, hy11, h⟩ := zA h
   refine VS ?_
   refine YK 1 (s_spec_nuPrimes hy11) cf_spec_nuPrimes ?_
   refine L0 rfl rfl (Y0_lenM (c := c3) (xs := y11) Tryz.underlying24 rfl kk) ?_
   refine YF ?_
   obtain ⟨qo14, hLo14, hko14⟩ := zA h
   refine V_toS (q := qo14) (S := fun o14 => ⟨bt 38 [], []⟩) (mb 38 0) [] ?_ ?_
   ·refine zH (V_loop (fun n s => ∃ (t12 : Int), s.keep (mb 38 117440550) [40, 16] = (⟨.bot :: I vn2 :: .pt 16 0 :: .bot :: .bot :: .pt 40 0 :: bt 18 (.c (.sl (y11.map c3)) :: I ((y11.length : Int)) :: I t12 :: bt 11 []), [(40, .box [Ti y7.1, Ti y7.2.1, Ti y7.2.2]), (16, .box [Ti f1.1, Ti f1.2.1, Ti f1.2.2])]⟩ : St) ∧ r_spec_prOrder_L13 f1 vn2 y11 y7 n t12 = some qo14) FU ⟨_,  kk, hLo14⟩ ?_)
    clear hLo14
    rintro n s ⟨t12, hs, h⟩
    refine zV _ _ hs ?_
    clear hs
    cases n with
    | zero => cases h
    | succ n =>
     rw [r_spec_prOrder_L13] at h
     refine VE ?_
     refine zG ?_
     refine VC h (fun h => ?_) (fun h => ?_)
     ·refine zK ?_
      show V _ _ _ _
      refine zG ?_
      refine zH ?_
      obtain ⟨e16, he16, h⟩ := zA h
      refine VS ?_
      refine L0 rfl rfl (zM (c := c3) (xs := y11) (v := e16) (n := t12) Tryz.underlying24 sz3 rfl kk kk he16) ?_
      refine YF ?_
      obtain ⟨z17, hz17, h⟩ := zA h
      obtain ⟨y18, hy18, h⟩ := zA h
      obtain ⟨t19, ht19, h⟩ := zA h
      have ht19 := zB ht19
      refine V_sdreg [0, 0, 0, 6, 15, 0, 63] 7 (cdm 7 [2216, 2082, 2058, 2070, 2133, 682, 1365]) (mb 38 68836917286) [40, 16] (s1 := ⟨.bot :: I vn2 :: .pt 16 0 :: .bot :: .bot :: .pt 40 0 :: bt 18 (.c (.sl (y11.map c3)) :: I ((y11.length : Int)) :: I t12 :: bt 9 (Bo t19 :: .bot :: [])), [(40, .box [Ti y7.1, Ti y7.2.1, Ti y7.2.2]), (16, .box [Ti f1.1, Ti f1.2.1, Ti f1.2.2])]⟩) kk kk ?_ ?_
      ·refine DR 3 ?_
       refine DE_0 3 (I (w64 (Int.tdiv vn2 e16))) kk rfl rfl rfl (zF rfl) kk (zS (a := vn2) (b := e16) rfl kk kk (nz_some hz17)) 33 rfl ?_
       refine DC 4 (s_spec_coPower hy18) cf_spec_coPower rfl rfl rfl rfl 34 rfl ?_
       refine DR 1 ?_
       refine DE_0 6 (Bo (((y18.1 == y7.1) && ((y18.2.1 == y7.2.1) && (y18.2.2 == y7.2.2))))) kk rfl rfl rfl (zF rfl) kk (Y0_eqg3 (a0 := y18.1) (b0 := y7.1) (a1 := y18.2.1) (b1 := y7.2.1) (a2 := y18.2.2) (b2 := y7.2.2) eqg38 rfl kk kk) 36 rfl ?_
       refine DA 0 ?_
       refine zD ?_
       subst ht19
       kernel_rfl
      refine VC h (fun h => ?_) (fun h => ?_)
      ·refine VE ?_
       refine zJ ?_
       obtain rfl := zB h
       have h := hko14
       obtain rfl := zB h
       exact VT
      ·refine zK ?_
       show V _ _ _ _
       obtain ⟨t21, ht21, h⟩ := zU h
       refine V_reg (mb 38 117440550) [40, 16] (s1 := ⟨.bot :: I vn2 :: .pt 16 0 :: .bot :: .bot :: .pt 40 0 :: bt 18 (.c (.sl (y11.map c3)) :: I ((y11.length : Int)) :: I t21 :: bt 11 []), [(40, .box [Ti y7.1, Ti y7.2.1, Ti y7.2.2]), (16, .box [Ti f1.1, Ti f1.2.1, Ti f1.2.2])]⟩) ?_ ?_
       ·refine XR 2 ?_
        refine zD ?_
        subst ht21
        kernel_rfl
       exact ⟨n, Nat.lt_succ_self n, _,  kk, h⟩
     ·refine V_exit ?_
      obtain rfl := zB h
      exact ⟨_, rfl, kk⟩
   rintro o14 rfl
   have h := hko14
   clear hko14
   show V _ _ _ _
   refine VE ?_
   cases h
   exact zJ VT
end Go.Proofs.YtfmjfofocklgpaaGreatDoor
