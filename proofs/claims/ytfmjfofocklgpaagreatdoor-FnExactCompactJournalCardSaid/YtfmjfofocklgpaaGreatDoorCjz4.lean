/-
  Rules of walks, plain functions and their laws, part 4.
  Conditions: none.
-/
import Derived.MapKept
import Derived.Shelf.Strings.Builder1
import Derived.Test.YtfmjfofocklgpaaGreatDoorRows
import Derived.Test.YtfmjfofocklgpaaGreatDoorCjz3
namespace Go.Proofs.YtfmjfofocklgpaaGreatDoor
open Go.RowKit
set_option linter.unusedSimpArgs false
set_option linter.unusedVariables false
section
variable (P : Program)
def ybin (op : BinOp) : AV → AV → Option AV
  | .c (.v (.int k a)), .c (.v (.int k2 b)) => match decEq k k2 with
    | isTrue _ => (match op with
      | .lss => some (Bo (ltI a b))
      | .leq => some (Bo (leI a b))
      | .gtr => some (Bo (ltI b a))
      | .geq => some (Bo (leI b a))
      | .eql => some (Bo (eqI a b))
      | .neq => some (Bo (!eqI a b))
      | _ => none)
    | isFalse _ => none
  | .c (.v (.string a)), .c (.v (.string b)) => match op with
    | .eql => some (Bo (a.toList == b.toList))
    | .neq => some (Bo (!(a.toList == b.toList)))
    | _ => none
  | _, _ => none
/-- The value of an operation that reads alone: more of them. -/
def yv (s : St) : Op → Option AV
  | .binOp op t x y _ => match ybin op (s.ev x) (s.ev y) with
    | some av => some av
    | none => (match s.ev x, s.ev y with
      | .c (.v (.bool a)), .c (.v (.bool b)) => (match P.underlying t with
        | some .bool => (match op with
          | .eql => some (Bo (a == b))
          | .neq => some (Bo (a != b))
          | _ => none)
        | _ => none)
      | _, _ => none)
  | .pick c x y => match s.ev c with
    | .c (.v (.bool b)) => nbA (bif b then s.ev x else s.ev y)
    | _ => none
  | .call c => match c with
    | ⟨.builtin .len, ⟨[x]⟩, ⟨[t]⟩⟩ => match P.underlying t, s.ev x with
      | some .string, .c (.v (.string b)) => some (I (b.size : Int))
      | _, _ => none
    | _ => none
  | _ => none
def yo (o : Oper) (s : St) : Option St := match xo P o s with
  | some s' => some s'
  | none => match o.dst with
    | some d => (match yv P s o.op with
      | some av => some (s.put d av)
      | none => none)
    | none => none
/-- The mark of an operation's guard. -/
def gdt (ops : Array Oper) (j : Nat) : Option Nat := (ops[j]?).bind (·.dst)
/-- Is an operation taken? -/
def yg (ops : Array Oper) (o : Oper) (s : St) : Option Bool := match o.guard with
  | none => some true
  | some (j, b) => match gdt ops j with
    | some t => match s.get t with
      | .c (.v (.bool c)) => some (bif c then b else !b)
      | .tn => some false
      | _ => none
    | none => none
def yr (ops : Array Oper) : List Oper → St → Option St
  | [], s => some s
  | o :: os, s => match yg ops o s with
    | some true => (match yo P o s with
      | some s' => yr ops os s'
      | none => none)
    | some false => (match o.dst with
      | some d => yr ops os (s.put d .tn)
      | none => none)
    | none => none
def yD (ops : Array Oper) (l : List Oper) (s : St) : St := (yr P ops l s).getD s
/-- The arguments of the call that comes first, if it is taken. -/
def yc (ops : Array Oper) (f : FuncId) (l : List Oper) (s : St) : Option (List AV) := match l with
  | o :: _ => match yg ops o s, o.dst with
    | some true, some _ => (match o.op with
      | .call ⟨.value (.func g), xs, _⟩ => bif Nat.beq g f then some (evL s xs.toList) else none
      | _ => none)
    | _, _ => none
  | [] => none
def ycn (ops : Array Oper) (f : FuncId) (n : Nat) (l : List Oper) (s : St) : Option (List AV) := match yr P ops (l.take n) s with
  | some s' => yc ops f (l.drop n) s'
  | none => none
end
def dstH : List Oper → Nat
  | o :: _ => o.dst.getD 0
  | [] => 0
section
variable {P : Program}
theorem ybin_ok {o : Oper} {s : St} {op : BinOp} {t t2 : TypeId} {x y : Operand} {av : AV} (ho : o.op = .binOp op t x y t2) (h : ybin op (s.ev x) (s.ev y) = some av) : Y0 P o s av := by
  generalize hx : s.ev x = a at h
  generalize hy : s.ev y = b at h
  unfold ybin at h
  split at h
  · split at h
    · rename_i hk _
      subst hk
      cases op <;> simp only [Option.some.injEq, reduceCtorEq] at h <;> subst h <;>
        first | exact Y0_eqw ho hx hy | exact Y0_new ho hx hy | exact Y0_ltw ho hx hy | exact Y0_lew ho hx hy | exact Y0_gtw ho hx hy | exact Y0_gew ho hx hy
    · cases h
  · cases op <;> simp only [Option.some.injEq, reduceCtorEq] at h <;> subst h <;>
      first | exact Y0_eqs ho hx hy | exact Y0_nes ho hx hy
  · cases h
theorem yv_ok {o : Oper} {s : St} {av : AV} (h : yv P s o.op = some av) : Y0 P o s av := by
  unfold yv at h
  split at h
  · rename_i ho
    split at h
    · rename_i hb; cases h; exact ybin_ok ho hb
    · split at h
      · rename_i hx hy
        split at h
        · rename_i hu
          split at h
          · cases h; exact Y0_eqb hu ho hx hy
          · cases h; exact Y0_neb hu ho hx hy
          · cases h
        · cases h
      · cases h
  · rename_i ho
    split at h
    · rename_i b hc
      obtain ⟨h1, h2⟩ := nbA_ok h
      rw [← h1]
      exact Y0_pick ho hc
    · cases h
  · rename_i ho
    split at h
    · rename_i x t
      split at h
      · rename_i b hu hx
        cases h
        exact Y0_lens hu ho hx
      · cases h
    · cases h
  · cases h
theorem yo_ok {o : Oper} {s s' : St} (h : yo P o s = some s') : X P o s s' := by
  unfold yo at h
  split at h
  · rename_i h1; cases h; exact xo_ok h1
  · split at h
    · rename_i d hd
      split at h
      · rename_i hv; cases h; exact X_of_Y0 hd (yv_ok hv)
      · cases h
    · cases h
theorem yg_take {ops : Array Oper} {o : Oper} {rest : List Oper} {s s' : St} {J : St → Prop} (hg : yg ops o s = some true) (h : X P o s s') (hk : XL P ops rest s' J) : XL P ops (o :: rest) s J := by
  unfold yg at hg
  split at hg
  · rename_i h1; exact XL_cons h1 h hk
  · rename_i j b h1
    split at hg
    · rename_i t ht
      split at hg
      · rename_i c hc
        have e : c = b := by cases c <;> cases b <;> simp_all
        subst e
        exact XL_take h1 ht hc h hk
      · cases hg
      · cases hg
    · cases hg
/-- An operation that is taken. -/
theorem YT {ops : Array Oper} {o : Oper} {rest : List Oper} {s s' : St} {J : St → Prop} (h : X P o s s') (hk : XL P ops rest s' J) (hg : yg ops o s = some true := by kernel_rfl) : XL P ops (o :: rest) s J := yg_take hg h hk
theorem yg_skip {ops : Array Oper} {o : Oper} {rest : List Oper} {s : St} {d : Nat} {J : St → Prop} (hg : yg ops o s = some false) (hd : o.dst = some d) (hk : XL P ops rest (s.put d .tn) J) : XL P ops (o :: rest) s J := by
  unfold yg at hg
  split at hg
  · cases hg
  · rename_i j b h1
    split at hg
    · rename_i t ht
      split at hg
      · rename_i c hc
        exact XL_skip h1 ht hc (by cases c <;> cases b <;> simp_all) hd hk
      · rename_i hc
        exact XL_skip2 h1 ht hc hd hk
      · cases hg
    · cases hg
theorem yr_ok {ops : Array Oper} {J : St → Prop} (rest : List Oper) : ∀ (l : List Oper) (s s' : St), yr P ops l s = some s' → XL P ops rest s' J → XL P ops (l ++ rest) s J
  | [], s, s', h, hk => by cases h; exact hk
  | o :: os, s, s', h, hk => by
    unfold yr at h
    split at h
    · rename_i hg
      split at h
      · rename_i s1 h1
        exact yg_take hg (yo_ok h1) (yr_ok rest os s1 s' h hk)
      · cases h
    · rename_i hg
      split at h
      · rename_i d hd
        exact yg_skip hg hd (yr_ok rest os _ s' h hk)
      · cases h
    · cases h
/-- A row of operations. -/
theorem YR (n : Nat) {ops : Array Oper} {rest : List Oper} {s : St} {J : St → Prop} (hk : XL P ops (rest.drop n) (yD P ops (rest.take n) s) J) (h : (yr P ops (rest.take n) s).isSome = true := by kernel_rfl) : XL P ops rest s J := by
  cases hx : yr P ops (rest.take n) s with
  | none => rw [hx] at h; cases h
  | some s' =>
    have e : yD P ops (rest.take n) s = s' := by unfold yD; rw [hx]; rfl
    rw [e] at hk
    have := yr_ok (ops := ops) (J := J) (rest.drop n) (rest.take n) s s' hx hk
    rwa [List.take_append_drop] at this
/-- The rest of a region: its state is not named. -/
theorem YF {ops : Array Oper} {rest : List Oper} {s : St} {K : St → Prop} (hk : K (yD P ops rest s)) (h : (yr P ops rest s).isSome = true := by kernel_rfl) : XL P ops rest s K := by
  cases hx : yr P ops rest s with
  | none => rw [hx] at h; cases h
  | some s' =>
    have e : yD P ops rest s = s' := by unfold yD; rw [hx]; rfl
    rw [e] at hk
    have := yr_ok (ops := ops) (J := K) [] rest s s' hx (zJ hk)
    rwa [List.append_nil] at this
/-- The rest of a region, and its state. -/
theorem YE {ops : Array Oper} {rest : List Oper} {s s1 : St} {m : List Bool} {ids : List Nat} (h : (yr P ops rest s).map (fun s' => s'.keep m ids) = some s1 := by kernel_rfl) : XL P ops rest s (fun s' => s'.keep m ids = s1) := by
  cases hx : yr P ops rest s with
  | none => rw [hx] at h; cases h
  | some s' =>
    rw [hx] at h
    have h2 : s'.keep m ids = s1 := by injection h
    have := yr_ok (ops := ops) (J := fun s' => s'.keep m ids = s1) [] rest s s' hx (zJ h2)
    rwa [List.append_nil] at this
/-- Some operations, and a call. -/
theorem YK (n : Nat) {ops : Array Oper} {rest : List Oper} {s : St} {J : St → Prop} {f : FuncId} {args : List AV} {av : AV} {ne : List (Nat × Ent)} (hS : zL P f args av ne) (hc : ∀ args w, (callFunc f args).run P w = .ok (.enter f args) w)
    (hk : XL P ops (rest.drop (n + 1)) ((yD P ops (rest.take n) s).upd (dstH (rest.drop n)) av ne) J) (h : ycn P ops f n rest s = some args := by kernel_rfl) : XL P ops rest s J := by
  unfold ycn at h
  split at h
  · rename_i s' hx
    have e : yD P ops (rest.take n) s = s' := by unfold yD; rw [hx]; rfl
    rw [e] at hk
    unfold yc at h
    split at h
    · rename_i o os hl
      split at h
      · rename_i d hg hd
        split at h
        · rename_i g xs ts ho
          cases hb : Nat.beq g f with
          | false => rw [hb, cond_false] at h; cases h
          | true =>
            rw [hb, cond_true] at h
            have hgf := Nat.eq_of_beq_eq_true hb
            subst hgf
            have e3 : rest.drop (n + 1) = os := by rw [← List.drop_drop, hl]; rfl
            rw [hl, e3, dstH, hd] at hk
            have := yr_ok (ops := ops) (J := J) (rest.drop n) (rest.take n) s s' hx (by rw [hl]; exact yg_take hg (X_of_Y1 hd (Y1_call hS hc ho (by injection h))) hk)
            rwa [List.take_append_drop] at this
        · cases h
      · cases h
    · cases h
  · cases h
/-- The mark on which the next operation hangs. -/
def gtH (ops : Array Oper) : List Oper → Nat
  | o :: _ => match o.guard with
    | some (j, _) => (gdt ops j).getD 0
    | none => match o.op with
      | .pick (.tmp t) _ _ => t
      | _ => 0
  | [] => 0
theorem put_get (s : St) (t : Nat) : s.put t (s.get t) = s := by
  cases s with
  | mk T E =>
    simp only [St.put, St.get]
    congr 1
    apply List.ext_getElem?
    intro i
    rw [List.getElem?_set]
    by_cases h : t = i
    · subst h
      by_cases h2 : t < T.length
      · simp [h2]
      · simp [h2]
    · simp [h]
/-- A mark whose truth is known. -/
theorem YQ {c v : Bool} (hc : c = v) {ops : Array Oper} {rest : List Oper} {s : St} {J : St → Prop} (hk : XL P ops rest (s.put (gtH ops rest) (Bo v)) J) (h : s.get (gtH ops rest) = Bo c := by kernel_rfl) : XL P ops rest s J := by
  subst hc
  rw [← h, put_get] at hk
  exact hk
/-- The way into a function. -/
abbrev CfW (P : Program) (f : FuncId) : Prop := ∀ args w, (callFunc f args).run P w = .ok (.enter f args) w
theorem cfW {f : FuncId} {fn : Func} (hf : P.funcs[f]? = some fn) (hn : (fn.name == "runtime.NumGoroutine") = false := by kernel_rfl) (hb : fn.body.isNone = false := by kernel_rfl) : CfW P f := run_callFunc hf hn hb
theorem fitsT : ∀ ks : List Nat, FitsL P (ks.map RS.t) (ks.map ResultVar.tmp)
  | [] => FitsL.nil
  | k :: ks => .cons rfl (fitsT ks)
theorem CtW (ks : List Nat) {f : FuncId} {fn : Func} {c : Code} {args : List AV} {av : AV} {ne : List (Nat × Ent)} (hf : P.funcs[f]? = some fn) (hb : fn.body = some c) (hvs : fn.results = (ks.map ResultVar.tmp).toArray) (n : Nat)
    (h : V P c ⟨args ++ List.replicate (n - args.length) .bot, []⟩ (Post (ks.map RS.t) av ne)) (hn : fn.ntmps = n := by kernel_rfl) (hl : Nat.ble (ks.map RS.t).length 8 = true := by kernel_rfl) : zL P f args av ne := zO hf hb hvs (fitsT ks) (Nat.le_of_ble_eq_true hl) n hn h
theorem VS {id : Nat} {ops : Array Oper} {y : Code} {s : St} {J : Exit → St → Prop} (h : XL P ops ops.toList s (fun s' => V P y s' J)) : V P (.seq (.region id ops false) y) s J := zH (V_region h)
/-- A whole region of such operations. -/
theorem VE {id : Nat} {ops : Array Oper} {y : Code} {s : St} {J : Exit → St → Prop} (hv : V P y (yD P ops ops.toList s) J) (h : (yr P ops ops.toList s).isSome = true := by kernel_rfl) : V P (.seq (.region id ops false) y) s J := VS (YF hv h)
/-- Two roads. -/
theorem VC {c : Operand} {x y : Code} {s : St} {J : Exit → St → Prop} {b : Bool} {α : Type} {A B : Option α} {r : α} (h : (bif b then A else B) = some r) (ht : A = some r → V P x s J) (hf : B = some r → V P y s J) (hc : s.ev c = .c (.v (.bool b)) := by kernel_rfl) : V P (.cond c x y) s J :=
  V_cond hc (fun e => ht (of_true h e)) (fun e => hf (of_false h e))
/-- The end of a function. -/
theorem VT {rs : List RS} {av : AV} {ne : List (Nat × Ent)} {s : St} (h1 : nodup (ownsS s rs) = true := by kernel_rfl) (h2 : okSL s rs = true := by kernel_rfl) (h3 : outAllS s rs = (av, ne) := by kernel_rfl) : Post rs av ne .ret s := ⟨.inr rfl, h1, h2, h3⟩
theorem VDS {id : Nat} {l : List Oper} {y : Code} {s : St} {J : Exit → St → Prop} (ms : List Nat) (n1 : Nat) (css : List (List Cd))
    (h : DL P l ms n1 css (prep (l.take n1) s) [] (fun s' => XL P l.toArray (l.drop n1) s' (fun s'' => V P y s'' J))) (hm : P.follows .mixedOrders = true := by kernel_rfl) (hchk : drawOk l ms n1 css = true := by kernel_rfl) : V P (.seq (.region id l.toArray true) y) s J := zH (V_draw ms n1 css hm hchk h)
theorem VDR {id : Nat} {l : List Oper} {s : St} {J : Exit → St → Prop} (ms : List Nat) (n1 : Nat) (css : List (List Cd))
    (h : DL P l ms n1 css (prep (l.take n1) s) [] (fun s' => XL P l.toArray (l.drop n1) s' (J .normal))) (hm : P.follows .mixedOrders = true := by kernel_rfl) (hchk : drawOk l ms n1 css = true := by kernel_rfl) : V P (.region id l.toArray true) s J := V_draw ms n1 css hm hchk h
def zv (P : Program) (s : St) (op : Op) : Option AV := match xv P s op with
  | some av => some av
  | none => yv P s op
theorem zv_ok {o : Oper} {s : St} {av : AV} (h : zv P s o.op = some av) : Y0 P o s av := by
  unfold zv at h
  split at h
  · rename_i hx; cases h; exact xv_ok hx
  · exact yv_ok h
theorem gsat_yg {l : List Oper} {o : Oper} {S : St} (h : yg l.toArray o S = some true) : gsat l.toArray o S := by
  unfold yg at h
  split at h
  · rename_i h1; exact gsat_none h1
  · rename_i j b h1
    split at h
    · rename_i t ht
      split at h
      · rename_i c hc
        have e : c = b := by cases c <;> cases b <;> simp_all
        subst e
        exact gsat_some h1 ht hc
      · cases h
      · cases h
    · cases h
theorem gun_yg {l : List Oper} {o : Oper} {S : St} (h : yg l.toArray o S = some false) : gun l.toArray o S := by
  unfold yg at h
  split at h
  · cases h
  · rename_i j b h1
    split at h
    · rename_i t ht
      split at h
      · rename_i c hc
        exact gun_some h1 ht hc (by cases c <;> cases b <;> simp_all)
      · rename_i hc
        exact gun_tn h1 ht hc
      · cases h
    · cases h
section
variable (P)
def er1 (l : List Oper) (ms : List Nat) (n1 : Nat) (css : List (List Cd)) (s0 : St) (rs : List Res) : Option (List Res) := match l[rs.length]?, css[rs.length]? with
  | some o, some c => bif Nat.blt rs.length n1 then (match yg l.toArray o (appC c (l.take n1) rs s0), o.dst with
    | some true, some _ => (match zv P (appC c (l.take n1) rs s0) o.op with
      | some av => bif mentOk ms rs.length av 0 (l.take n1) then some (rs ++ [.r0 av]) else none
      | none => match xn P (appC c (l.take n1) rs s0) o.op with
        | some r => bif keys8 r.2 && (makes o && r.1.small) then some (rs ++ [.r1 r.1 r.2]) else none
        | none => none)
    | some false, some _ => some (rs ++ [.r0 .tn])
    | some true, none => dr2 P l ms n1 css rs (appC c (l.take n1) rs s0) o.op
    | _, _ => none) else none
  | _, _ => none
def erN (l : List Oper) (ms : List Nat) (n1 : Nat) (css : List (List Cd)) (s0 : St) : Nat → List Res → Option (List Res)
  | 0, rs => some rs
  | k + 1, rs => match er1 P l ms n1 css s0 rs with
    | some rs' => erN l ms n1 css s0 k rs'
    | none => none
/-- The results so far. -/
def ego (l : List Oper) (ms : List Nat) (n1 : Nat) (css : List (List Cd)) (s0 : St) (k : Nat) (rs : List Res) : List Res := (erN P l ms n1 css s0 k rs).getD rs
/-- The state behind such a statement. -/
def efi (l : List Oper) (ms : List Nat) (n1 : Nat) (css : List (List Cd)) (s0 : St) (k : Nat) (rs : List Res) : St := fin (l.take n1) (ego P l ms n1 css s0 k rs) s0
def dfi (l : List Oper) (ms : List Nat) (n1 : Nat) (css : List (List Cd)) (s0 : St) (k : Nat) (rs : List Res) : St := yD P l.toArray (l.drop n1) (efi P l ms n1 css s0 k rs)
def dfo (l : List Oper) (ms : List Nat) (n1 : Nat) (css : List (List Cd)) (s0 : St) (k : Nat) (rs : List Res) : Bool := (yr P l.toArray (l.drop n1) (efi P l ms n1 css s0 k rs)).isSome
/-- The arguments of the next call of such a statement. -/
def dka (l : List Oper) (n1 : Nat) (css : List (List Cd)) (s0 : St) (f : FuncId) (rs : List Res) : Option (List AV) := match l[rs.length]?, css[rs.length]? with
  | some o, some c => match yg l.toArray o (appC c (l.take n1) rs s0), o.dst with
    | some true, some _ => (match o.op with
      | .call ⟨.value (.func g), xs, _⟩ => bif Nat.beq g f && (Nat.blt rs.length n1 && makes o) then some (evL (appC c (l.take n1) rs s0) xs.toList) else none
      | _ => none)
    | _, _ => none
  | _, _ => none
end
theorem er1_ok {l : List Oper} {ms : List Nat} {n1 : Nat} {css : List (List Cd)} {s0 : St} {rs rs' : List Res} {K : St → Prop} (h : er1 P l ms n1 css s0 rs = some rs') (hk : DL P l ms n1 css s0 rs' K) : DL P l ms n1 css s0 rs K := by
  unfold er1 at h
  split at h
  · rename_i o c ho hc
    cases hb : Nat.blt rs.length n1 with
    | false => rw [hb, cond_false] at h; cases h
    | true =>
      rw [hb, cond_true] at h
      split at h
      · rename_i d hg hd
        split at h
        · rename_i av hv
          cases hm : mentOk ms rs.length av 0 (l.take n1) with
          | false => rw [hm, cond_false] at h; cases h
          | true =>
            rw [hm, cond_true] at h
            cases h
            exact DE_0 rs.length av rfl hb ho hc (gsat_yg hg) hm (zv_ok hv) d hd hk
        · split at h
          · rename_i r hr
            cases hm : keys8 r.2 && (makes o && r.1.small) with
            | false => rw [hm, cond_false] at h; cases h
            | true =>
              rw [hm, cond_true] at h
              cases h
              rw [Bool.and_eq_true, Bool.and_eq_true] at hm
              exact DE_1 rs.length rfl hb ho hc (gsat_yg hg) (xn_ok hr) hm.1 hm.2.1 hm.2.2 d hd hk
          · cases h
      · rename_i d hg hd
        cases h
        exact DL_t (Nat.le_of_ble_eq_true hb) ho hc (gun_yg hg) ⟨d, hd⟩ hk
      · rename_i hg hd
        unfold dr2 at h
        split at h
        · rename_i t x y hop
          split at h
          · rename_i id off vc hx hy
            split at h
            · rename_i cs he
              cases hm : (sizeT P t == some vc.length) && Nat.ble (off + vc.length) cs.length && (colOk rs.length id css && (mkOk ms rs.length id 0 (l.take n1) && freshW id rs)) with
              | false => rw [hm, cond_false] at h; cases h
              | true =>
                rw [hm, cond_true] at h
                cases h
                rw [Bool.and_eq_true, Bool.and_eq_true, Bool.and_eq_true, Bool.and_eq_true, beq_iff_eq] at hm
                exact DE_2 rs.length id _ rfl hb ho hc (gsat_yg hg) hop hd hx he hy hm.1.1 (Nat.le_of_ble_eq_true hm.1.2) rfl hm.2.1 hm.2.2.1 hm.2.2.2 hk
            · cases h
          · cases h
        · cases h
      · cases h
  · cases h
theorem erN_ok {l : List Oper} {ms : List Nat} {n1 : Nat} {css : List (List Cd)} {s0 : St} {K : St → Prop} : ∀ (k : Nat) (rs rs' : List Res), erN P l ms n1 css s0 k rs = some rs' → DL P l ms n1 css s0 rs' K → DL P l ms n1 css s0 rs K
  | 0, rs, rs', h, hk => by cases h; exact hk
  | k + 1, rs, rs', h, hk => by
    unfold erN at h
    split at h
    · rename_i r1 h1
      exact er1_ok h1 (erN_ok k r1 rs' h hk)
    · cases h
theorem ER (k : Nat) {l : List Oper} {ms : List Nat} {n1 : Nat} {css : List (List Cd)} {s0 : St} {rs : List Res} {K : St → Prop} (hk : DL P l ms n1 css s0 (ego P l ms n1 css s0 k rs) K) (h : (erN P l ms n1 css s0 k rs).isSome = true := by kernel_rfl) : DL P l ms n1 css s0 rs K := by
  cases hx : erN P l ms n1 css s0 k rs with
  | none => rw [hx] at h; cases h
  | some r => rw [ego, hx] at hk; exact erN_ok k rs r hx hk
/-- All of the open part. -/
theorem EA (k : Nat) {l : List Oper} {ms : List Nat} {n1 : Nat} {css : List (List Cd)} {s0 : St} {rs : List Res} {K : St → Prop} (hk : K (efi P l ms n1 css s0 k rs)) (h : (erN P l ms n1 css s0 k rs).map List.length = some n1 := by kernel_rfl) : DL P l ms n1 css s0 rs K := by
  cases hx : erN P l ms n1 css s0 k rs with
  | none => rw [hx] at h; cases h
  | some r =>
    rw [efi, ego, hx] at hk
    rw [hx] at h
    exact erN_ok k rs r hx (DL_nil (by injection h) hk)
theorem dka_ok {l : List Oper} {ms : List Nat} {n1 : Nat} {css : List (List Cd)} {s0 : St} {rs : List Res} {K : St → Prop} {f : FuncId} {args : List AV} {av : AV} {ne : List (Nat × Ent)} (hS : zL P f args av ne) (hcf : ∀ args w, (callFunc f args).run P w = .ok (.enter f args) w)
    (h : DL P l ms n1 css s0 (rs ++ [.r1 av ne]) K) (ha : dka l n1 css s0 f rs = some args) (h1 : keys8 ne = true) (h3 : av.small = true) : DL P l ms n1 css s0 rs K := by
  unfold dka at ha
  split at ha
  · rename_i o c ho hc
    split at ha
    · rename_i d hg hd
      split at ha
      · rename_i g xs ts hop
        cases hb : Nat.beq g f && (Nat.blt rs.length n1 && makes o) with
        | false => rw [hb, cond_false] at ha; cases ha
        | true =>
          rw [hb, cond_true] at ha
          rw [Bool.and_eq_true, Bool.and_eq_true] at hb
          have hgf := Nat.eq_of_beq_eq_true hb.1
          subst hgf
          exact DE_1 rs.length rfl hb.2.1 ho hc (gsat_yg hg) (Y1_call hS hcf hop (by injection ha)) h1 hb.2.2 h3 d hd h
      · cases ha
    · cases ha
  · cases ha
/-- Some of its operations, and a call. -/
theorem EK (k : Nat) {l : List Oper} {ms : List Nat} {n1 : Nat} {css : List (List Cd)} {s0 : St} {rs : List Res} {K : St → Prop} {f : FuncId} {args : List AV} {av : AV} {ne : List (Nat × Ent)} (hS : zL P f args av ne) (hcf : ∀ args w, (callFunc f args).run P w = .ok (.enter f args) w)
    (h : DL P l ms n1 css s0 (ego P l ms n1 css s0 k rs ++ [.r1 av ne]) K) (hs : (erN P l ms n1 css s0 k rs).bind (dka l n1 css s0 f) = some args := by kernel_rfl) (h1 : keys8 ne = true := by kernel_rfl) (h3 : av.small = true := by kernel_rfl) : DL P l ms n1 css s0 rs K := by
  cases hx : erN P l ms n1 css s0 k rs with
  | none => rw [hx] at hs; cases hs
  | some r =>
    rw [ego, hx] at h
    rw [hx] at hs
    exact erN_ok k rs r hx (dka_ok hS hcf h hs h1 h3)
/-- All of the open part, and what comes behind it. -/
theorem EF (k : Nat) {l : List Oper} {ms : List Nat} {n1 : Nat} {css : List (List Cd)} {s0 : St} {rs : List Res} {K : St → Prop} (hk : K (dfi P l ms n1 css s0 k rs)) (h : (erN P l ms n1 css s0 k rs).map List.length = some n1 := by kernel_rfl)
    (h2 : dfo P l ms n1 css s0 k rs = true := by kernel_rfl) : DL P l ms n1 css s0 rs (fun s' => XL P l.toArray (l.drop n1) s' K) := EA k (YF hk h2) h
/-- An operation with a value. -/
theorem E0 (j : Nat) {l : List Oper} {ms : List Nat} {n1 : Nat} {css : List (List Cd)} {s0 : St} {rs : List Res} {K : St → Prop} {o : Oper} {c : List Cd} {av : AV} (ho : l[j]? = some o) (hc : css[j]? = some c) (hY : Y0 P o (appC c (l.take n1) rs s0) av) (h : DL P l ms n1 css s0 (rs ++ [.r0 av]) K)
    (hj : rs.length = j := by kernel_rfl) (hlt : Nat.blt j n1 = true := by kernel_rfl) (hg : yg l.toArray o (appC c (l.take n1) rs s0) = some true := by kernel_rfl) (hm : mentOk ms j av 0 (l.take n1) = true := by kernel_rfl) (hd : o.dst.isSome = true := by kernel_rfl) : DL P l ms n1 css s0 rs K := by
  obtain ⟨d, hd⟩ := Option.isSome_iff_exists.mp hd
  exact DE_0 j av hj hlt ho hc (gsat_yg hg) hm hY d hd h
/-- An operation that makes memory. -/
theorem E1 (j : Nat) {l : List Oper} {ms : List Nat} {n1 : Nat} {css : List (List Cd)} {s0 : St} {rs : List Res} {K : St → Prop} {o : Oper} {c : List Cd} {av : AV} {ne : List (Nat × Ent)} (ho : l[j]? = some o) (hc : css[j]? = some c) (hY : Y1 P o (appC c (l.take n1) rs s0) av ne) (h : DL P l ms n1 css s0 (rs ++ [.r1 av ne]) K)
    (hj : rs.length = j := by kernel_rfl) (hlt : Nat.blt j n1 = true := by kernel_rfl) (hg : yg l.toArray o (appC c (l.take n1) rs s0) = some true := by kernel_rfl) (h1 : keys8 ne = true := by kernel_rfl) (h2 : makes o = true := by kernel_rfl) (h3 : av.small = true := by kernel_rfl) (hd : o.dst.isSome = true := by kernel_rfl) : DL P l ms n1 css s0 rs K := by
  obtain ⟨d, hd⟩ := Option.isSome_iff_exists.mp hd
  exact DE_1 j hj hlt ho hc (gsat_yg hg) hY h1 h2 h3 d hd h
def idT (t : Nat) : List Oper → Nat → Nat
  | [], _ => 0
  | o :: os, k => match o.dst with
    | some d => bif Nat.beq d t then k else idT t os (k + 1)
    | none => idT t os (k + 1)
/-- The mark on which the next operation hangs. -/
def gtD (l : List Oper) (rs : List Res) : Nat := match l[rs.length]? with
  | some o => (match o.guard with
    | some (j, _) => j
    | none => match o.op with
      | .pick (.tmp t) _ _ => idT t l 0
      | _ => 0)
  | none => 0
/-- A mark whose truth is known. -/
theorem EQ {c v : Bool} (hc : c = v) {l : List Oper} {ms : List Nat} {n1 : Nat} {css : List (List Cd)} {s0 : St} {rs : List Res} {K : St → Prop} (hk : DL P l ms n1 css s0 (rs.set (gtD l rs) (.r0 (Bo v))) K) (h : rs[gtD l rs]? = some (.r0 (Bo c)) := by kernel_rfl) : DL P l ms n1 css s0 rs K := by
  subst hc
  have e : rs.set (gtD l rs) (.r0 (Bo c)) = rs := by
    apply List.ext_getElem?
    intro i
    rw [List.getElem?_set]
    by_cases hi : gtD l rs = i
    · subst hi
      have hlt : gtD l rs < rs.length := by
        by_cases h2 : gtD l rs < rs.length
        · exact h2
        · rw [List.getElem?_eq_none (by omega)] at h; cases h
      rw [if_pos rfl, if_pos hlt, h]
    · rw [if_neg hi]
  rwa [e] at hk
end
end Go.Proofs.YtfmjfofocklgpaaGreatDoor
namespace Go.Proofs.YtfmjfofocklgpaaGreatDoor
open Go.RowKit
set_option linter.unusedSimpArgs false
set_option linter.unusedVariables false
theorem ba_beq (a b : ByteArray) : (a == b) = decide (a = b) := by
  have h : (a == b) = (a.data == b.data) := rfl
  rw [h, Bool.eq_iff_iff, beq_iff_eq, decide_eq_true_iff]
  constructor
  · intro h
    cases a
    cases b
    exact congrArg _ h
  · intro h
    rw [h]
section
variable {κ ν : Type} [DecidableEq κ]
theorem ixM_none {a : κ} : ∀ {m : List (κ × ν)}, ixM a (m.map Prod.fst) = none → mGet a m = none ∧ ∀ v, mPut a v m = m ++ [(a, v)]
  | [], _ => ⟨rfl, fun _ => rfl⟩
  | p :: ps, h => by
    simp only [List.map_cons, ixM] at h
    by_cases e : a = p.1
    · rw [if_pos e] at h; cases h
    · rw [if_neg e] at h
      have h2 : ixM a (ps.map Prod.fst) = none := by simpa using h
      obtain ⟨k1, k2⟩ := ixM_none h2
      exact ⟨by unfold mGet; rw [if_neg e, k1], fun v => by unfold mPut; rw [if_neg e, k2]; rfl⟩
theorem ixM_some {a : κ} : ∀ {m : List (κ × ν)} {j : Nat}, ixM a (m.map Prod.fst) = some j → ∃ v0, m[j]? = some (a, v0) ∧ mGet a m = some v0 ∧ ∀ v, mPut a v m = m.set j (a, v)
  | [], j, h => by cases h
  | p :: ps, j, h => by
    simp only [List.map_cons, ixM] at h
    by_cases e : a = p.1
    · rw [if_pos e] at h
      injection h with h
      subst h
      refine ⟨p.2, by rw [e]; rfl, by unfold mGet; rw [if_pos e], fun v => by unfold mPut; rw [if_pos e]; rfl⟩
    · rw [if_neg e] at h
      cases h2 : ixM a (ps.map Prod.fst) with
      | none => rw [h2] at h; cases h
      | some i =>
        rw [h2] at h
        injection h with h
        subst h
        obtain ⟨v0, k1, k2, k3⟩ := ixM_some h2
        exact ⟨v0, by simpa using k1, by unfold mGet; rw [if_neg e, k2], fun v => by unfold mPut; rw [if_neg e, k3]; rfl⟩
end
section
variable {P : Program}
/-- A type of keys: what a key is, and that the model finds it. -/
structure KeyT (P : Program) {κ : Type} [DecidableEq κ] (kt : TypeId) (ek : κ → Value) : Prop where
  chk : ∀ b a w, (Instr.checkKey b 10000 kt (ek a)).run P w = .ok () w
  find : ∀ a (es : List MapEntry) (ks : List κ) w, es.map (·.key) = ks.map ek → (Instr.findKey kt (ek a) es).run P w = .ok ((ixM a ks).bind fun j => (es[j]?).map fun e => (j, e.val)) w
  bits : ∀ a, Instr.sameBits 10000 (ek a) (ek a) = true
theorem findNow_run {κ : Type} [DecidableEq κ] {d : TypeDesc} {ek : κ → Value} (hs : ∀ a b, Instr.sameNow d (ek a) (ek b) = some (decide (a = b))) (a : κ) : ∀ (es : List MapEntry) (ks : List κ) (i : Nat), es.map (·.key) = ks.map ek →
    Instr.findNow d (ek a) es i = some ((ixM a ks).bind fun j => (es[j]?).map fun e => (i + j, e.val))
  | [], [], i, _ => rfl
  | [], k :: ks, i, h => by simp at h
  | e :: es, [], i, h => by simp at h
  | e :: es, k :: ks, i, h => by
    simp only [List.map_cons, List.cons.injEq] at h
    have ih := findNow_run hs a es ks (i + 1) h.2
    unfold Instr.findNow
    rw [h.1, hs]
    by_cases e1 : a = k
    · simp [e1, ixM]
    · simp only [decide_eq_false e1, ih, ixM, if_neg e1]
      cases ixM a ks with
      | none => rfl
      | some j =>
        simp only [Option.bind_some, Option.map_some, List.getElem?_cons_succ]
        rw [show i + 1 + j = i + (j + 1) by omega]
theorem keyT_now {κ : Type} [DecidableEq κ] {kt : TypeId} {ek : κ → Value} (d : TypeDesc) (hd : P.underlying kt = some d) (chk : ∀ b a w, (Instr.checkKey b 10000 kt (ek a)).run P w = .ok () w) (hs : ∀ a b, Instr.sameNow d (ek a) (ek b) = some (decide (a = b)))
    (bits : ∀ a, Instr.sameBits 10000 (ek a) (ek a) = true) : KeyT P kt ek := by
  refine ⟨chk, fun a es ks w h => ?_, bits⟩
  unfold Instr.findKey
  simp only [Sem.run_bind, run_underlying hd, Result.andThen_ok]
  have := findNow_run hs a es ks 0 h
  simp only [Nat.zero_add] at this
  rw [this]
  rfl
theorem run_zero {t : TypeId} {z : Value} (h : (P.info? t).bind (·.zero) = some z) (w : World) : (zeroValue t).run P w = .ok z w := by
  cases hi : P.info? t with
  | none => rw [hi] at h; cases h
  | some i =>
    rw [hi] at h
    have h2 : i.zero = some z := h
    simp [zeroValue, typeInfo, hi, h2]
/-- What the model reads in a map that is a list. -/
theorem run_lookupM {κ ν : Type} [DecidableEq κ] {ek : κ → Value} {ev : ν → Value} {t kt vt : TypeId} {z : ν} (ht : P.underlying t = some (.map kt vt)) (hk : KeyT P kt ek) (hz : (P.info? vt).bind (·.zero) = some (ev z)) {w : World} {b : Nat} {es : Array MapEntry} {clock : Nat} (hb : w.heap[b]? = some (.map es clock))
    {m : List (κ × ν)} (hm : es.toList.map kvOf = m.map fun p => (ek p.1, ev p.2)) (a : κ) (co : Bool) :
    (Instr.lookup t (.map (some b)) (ek a) co).run P w = .ok (if co then .tuple #[ev (mAt a m z), .bool (mHas a m)] else ev (mAt a m z)) w := by
  have hkeys : es.toList.map (·.key) = (m.map Prod.fst).map ek := by
    have := congrArg (List.map Prod.fst) hm
    simpa [kvOf, Function.comp_def] using this
  have hf := hk.find a es.toList (m.map Prod.fst) w hkeys
  unfold Instr.lookup
  simp only [Sem.run_bind, run_underlying ht, Result.andThen_ok, MapKept.run_getObj_map hb, Sem.run_pure, hk.chk, hf]
  cases hi : ixM a (m.map Prod.fst) with
  | none =>
    obtain ⟨k1, _⟩ := ixM_none hi
    simp only [Option.bind_none, Sem.run_bind, run_zero hz, Result.andThen_ok, Sem.run_pure, mAt, mHas, k1, Option.getD_none, Option.isSome_none]
  | some j =>
    obtain ⟨v0, k1, k2, _⟩ := ixM_some hi
    have he : ∃ e, es.toList[j]? = some e ∧ e.val = ev v0 := by
      have h1 := congrArg (fun l => l[j]?) hm
      simp only [List.getElem?_map, k1, Option.map_some] at h1
      cases h2 : es.toList[j]? with
      | none => rw [h2] at h1; cases h1
      | some e =>
        rw [h2] at h1
        simp only [Option.map_some, Option.some.injEq, kvOf, Prod.mk.injEq] at h1
        exact ⟨e, rfl, h1.2⟩
    obtain ⟨e, e1, e2⟩ := he
    simp only [Option.bind_some, e1, Option.map_some, Sem.run_bind, Sem.run_pure, Result.andThen_ok, mAt, mHas, k2, Option.getD_some, Option.isSome_some, e2]
/-- What the model writes into a map that is a list. -/
theorem run_mapUpdateM {κ ν : Type} [DecidableEq κ] {ek : κ → Value} {ev : ν → Value} {t kt vt : TypeId} (ht : P.underlying t = some (.map kt vt)) (hk : KeyT P kt ek) {w : World} {b : Nat} {es : Array MapEntry} {clock : Nat} (hb : w.heap[b]? = some (.map es clock))
    {m : List (κ × ν)} (hm : es.toList.map kvOf = m.map fun p => (ek p.1, ev p.2)) (a : κ) (v : ν) :
    ∃ es' clock', (Instr.mapUpdate t (.map (some b)) (ek a) (ev v)).run P w = .ok () { w with heap := w.heap.setIfInBounds b (.map es' clock') } ∧ es'.toList.map kvOf = (mPut a v m).map fun p => (ek p.1, ev p.2) := by
  have hkeys : es.toList.map (·.key) = (m.map Prod.fst).map ek := by
    have := congrArg (List.map Prod.fst) hm
    simpa [kvOf, Function.comp_def] using this
  have hf := hk.find a es.toList (m.map Prod.fst) w hkeys
  cases hi : ixM a (m.map Prod.fst) with
  | none =>
    obtain ⟨_, k2⟩ := ixM_none hi
    refine ⟨es.push { key := ek a, val := ev v, born := clock }, clock + 1, ?_, ?_⟩
    · unfold Instr.mapUpdate
      rw [hi] at hf
      simp only [Sem.run_bind, run_underlying ht, Result.andThen_ok, MapKept.run_getObj_map hb, Sem.run_pure, hk.chk, hf, Option.bind_none, MapKept.run_setObj_map _ hb]
    · rw [k2]
      simp [hm, kvOf]
  | some j =>
    obtain ⟨v0, k1, _, k3⟩ := ixM_some hi
    have he : ∃ e, es.toList[j]? = some e ∧ e.key = ek a := by
      have h1 := congrArg (fun l => l[j]?) hm
      simp only [List.getElem?_map, k1, Option.map_some] at h1
      cases h2 : es.toList[j]? with
      | none => rw [h2] at h1; cases h1
      | some e =>
        rw [h2] at h1
        simp only [Option.map_some, Option.some.injEq, kvOf, Prod.mk.injEq] at h1
        exact ⟨e, rfl, h1.1⟩
    obtain ⟨e, e1, e2⟩ := he
    have e3 : es[j]? = some e := by simpa using e1
    refine ⟨es.modify j fun e => { e with key := ek a, val := ev v }, clock, ?_, ?_⟩
    · unfold Instr.mapUpdate
      rw [hi] at hf
      simp only [Sem.run_bind, run_underlying ht, Result.andThen_ok, MapKept.run_getObj_map hb, Sem.run_pure, hk.chk, hf, Option.bind_some, e1, Option.map_some, e3, Option.getD_some, e2, Instr.keyThatStays, hk.bits, if_true, MapKept.run_setObj_map _ hb]
    · rw [k3, Array.toList_modify]
      apply List.ext_getElem?
      intro i
      have h1 := congrArg (fun l => l[i]?) hm
      simp only [List.getElem?_map] at h1 ⊢
      rw [List.getElem?_modify, List.getElem?_set]
      by_cases hij : j = i
      · subst hij
        have hlt : j < m.length := (List.getElem?_eq_some_iff.1 k1).1
        simp [e1, hlt, kvOf]
      · simp only [hij, if_false, Option.map_map]
        rw [← h1]
        cases es.toList[i]? <;> rfl
/-- A map of the call's own is written. -/
theorem R.writeG {B : Fr} {w0 : World} {ok0 ok : Nat → Prop} {σ : Nat → Loc} {s : St} {a : Act} {w w' : World} (h : R B w0 ok0 ok σ s a w) {id : Nat} {e e' : Ent} {g : Nat} (he : s.ent id = some e) (hg : (σ id).blk = some g) (hsize : w'.heap.size = w.heap.size)
    (hw : ∀ q, q ≠ g → w'.heap[q]? = w.heap[q]?) (hos : w'.os = w.os) (htp : w'.tape = w.tape) (hou : w'.output = w.output) (E' : List (Nat × Ent)) (hE : ∀ j, (E'.lookup j) = if j = id then some e' else s.ent j) (hok : EntOk ok w' (σ id) e') (hpin : e'.pin = e.pin) :
    R B w0 ok0 ok σ ⟨s.T, E'⟩ a w' := by
  obtain ⟨hb1, hb2⟩ := h.core.blk id e g he hg
  have hB := h.own id e g he hg
  have hwok : ∀ q, ok q → w'.heap[q]? = w.heap[q]? := fun q hq => hw q fun e => hb1 (e ▸ hq)
  have look : ∀ j f, (St.mk s.T E').ent j = some f → (j = id ∧ f = e') ∨ (j ≠ id ∧ s.ent j = some f) := by
    intro j f hj
    have h1 : E'.lookup j = some f := hj
    rw [hE] at h1
    split at h1
    · rename_i hji
      exact .inl ⟨hji, by simpa using h1.symm⟩
    · rename_i hji
      exact .inr ⟨hji, h1⟩
  refine ⟨⟨h.core.len, fun q hq => by rw [hsize]; exact h.core.okL q hq, h.core.lib.mono (fun _ h => h) hwok, fun t => ?_, fun j f hj => ?_, fun j f q hj hq => ?_, fun i j f1 f2 q hi hj h1 h2 => ?_⟩, h.defers, h.below.trans ?_, by rw [hsize]; exact h.base, h.old, h.fresh, fun j f q hj hq => ?_⟩
  · have h1 := h.core.tmp t
    exact h1.mono0 (fun _ h => h) hwok
  · rcases look j f hj with ⟨rfl, rfl⟩ | ⟨h1, h2⟩
    · exact hok
    · refine (h.core.ent j f h2).mono (fun _ h => h) hwok fun q hq => hw q fun e1 => ?_
      subst e1
      exact h1 (h.core.inj _ _ _ _ _ h2 he hq hg)
  · rw [hsize]
    rcases look j f hj with ⟨rfl, rfl⟩ | ⟨h1, h2⟩
    · exact h.core.blk _ _ _ he hq
    · exact h.core.blk _ _ _ h2 hq
  · rcases look i f1 hi with ⟨a1, a2⟩ | ⟨a1, a2⟩ <;> rcases look j f2 hj with ⟨b1, b2⟩ | ⟨b1, b2⟩
    · omega
    · subst a1
      exact h.core.inj _ _ _ _ _ he b2 h1 h2
    · subst b1
      exact h.core.inj _ _ _ _ _ a2 he h1 h2
    · exact h.core.inj _ _ _ _ _ a2 b2 h1 h2
  · refine ⟨hos, htp, hou, by rw [hsize]; exact Nat.le_refl _, fun q hq hx => hw q fun e1 => ?_⟩
    subst e1
    split at hB
    · exact hx hB
    · omega
  · rcases look j f hj with ⟨rfl, rfl⟩ | ⟨h1, h2⟩
    · rw [hpin]
      exact h.own _ _ _ he hq
    · exact h.own _ _ _ h2 hq
def trV : Tr → Option Value
  | .v x => some x
  | _ => none
/-- A slot's value that is known. -/
def keyV : AV → Option Value
  | .c (.v x) => some x
  | .ag cs => (cs.mapM trV).map fun xs => .agg xs.toArray
  | _ => none
theorem mapM_v {ok : Nat → Prop} {w : World} : ∀ (cs : List Tr) (vs xs : List Value), RdL ok w cs vs → (cs.mapM trV) = some xs → vs = xs
  | [], _, xs, .nil, h => by simpa using h
  | c :: cs, _, xs, .cons h1 h2, h => by
    rw [List.mapM_cons] at h
    cases c with
    | v x =>
      simp only [trV, Option.pure_def, Option.bind_eq_bind, Option.bind_some] at h
      cases h3 : (cs.mapM trV) with
      | none => rw [h3] at h; cases h
      | some ys =>
        rw [h3] at h
        simp only [Option.bind_some, Option.some.injEq] at h
        subst h
        have := mapM_v cs _ ys h2 h3
        subst this
        cases h1
        rfl
    | sl e => simp [trV] at h
    | mp e => simp [trV] at h
theorem keyV_eval {ok : Nat → Prop} {σ : Nat → Loc} {s : St} {a : Act} {w : World} (h : Core ok σ s a w) {x : Operand} {v : Value} (hx : keyV (s.ev x) = some v) : a.eval x = v := by
  have h1 := h.ev x
  cases hs : s.ev x with
  | c t =>
    rw [hs] at hx
    cases t with
    | v y =>
      injection hx with hx
      subst hx
      exact h.exact hs
    | sl e => cases hx
    | mp e => cases hx
  | ag cs =>
    rw [hs] at hx h1
    obtain ⟨vs, hv, hr⟩ := (h1 : Rel1 ok σ w (.ag cs) (a.eval x))
    simp only [keyV, Option.map_eq_some_iff] at hx
    obtain ⟨xs, h2, h3⟩ := hx
    have := mapM_v cs vs.toList xs hr h2
    rw [hv, ← h3, ← this]
  | bot => rw [hs] at hx; cases hx
  | ow _ => rw [hs] at hx; cases hx
  | pt _ _ => rw [hs] at hx; cases hx
  | po _ _ _ _ => rw [hs] at hx; cases hx
  | pe _ => rw [hs] at hx; cases hx
  | fn _ _ => rw [hs] at hx; cases hx
  | er _ => rw [hs] at hx; cases hx
  | vw _ _ _ => rw [hs] at hx; cases hx
  | sf _ _ _ => rw [hs] at hx; cases hx
  | tn => rw [hs] at hx; cases hx
  | tc _ _ => rw [hs] at hx; cases hx
def MpOk (P : Program) (t : TypeId) {κ ν : Type} [DecidableEq κ] (ek : κ → Value) (ev : ν → Value) (z : ν) : Prop := ∃ kt vt, P.underlying t = some (.map kt vt) ∧ KeyT P kt ek ∧ (P.info? vt).bind (·.zero) = some (ev z) ∧ ∀ v, (ev v).oneCell' = true
theorem lookup_own {ok : Nat → Prop} {σ : Nat → Loc} {s : St} {a : Act} {w : World} (h : Core ok σ s a w) {x : Operand} {id b : Nat} {kvs : List (Value × Value)} (hx : s.ev x = .c (.v (.map (some b)))) (he : s.ent id = some (.mp b kvs)) : a.eval x = .map (some b) ∧ ∃ es clock, w.heap[b]? = some (.map es clock) ∧ es.toList.map kvOf = kvs := by
  obtain ⟨h1, es, clock, h2, h3⟩ := h.ent id _ he
  exact ⟨h.exact hx, es, clock, h2, h3⟩
theorem Y0_lookM {o : Oper} {s : St} {x k : Operand} {t : TypeId} {κ ν : Type} [DecidableEq κ] {ek : κ → Value} {ev : ν → Value} {z : ν} {id b : Nat} {m : List (κ × ν)} {a : κ} (hm : MpOk P t ek ev z) (ho : o.op = .lookup t x k false) (hx : s.ev x = .c (.v (.map (some b)))) (he : s.ent id = some (.mp b (m.map fun p => (ek p.1, ev p.2)))) (hk : keyV (s.ev k) = some (ek a)) :
    Y0 P o s (.c (.v (ev (mAt a m z)))) :=
  Y0_of_run fun ok σ ac w hC => by
    obtain ⟨kt, vt, h1, h2, h3, h4⟩ := hm
    obtain ⟨e1, es, clock, e2, e3⟩ := lookup_own hC hx he
    have := run_lookupM h1 h2 h3 e2 e3 a false
    refine ⟨_, ?_, Rd.v _ (h4 _)⟩
    unfold execOp
    rw [ho]
    simp only [e1, keyV_eval hC hk, Sem.run_bind, this, Result.andThen_ok, Sem.run_pure]
    rfl
theorem X_putM {o : Oper} {s : St} {x k v : Operand} {t : TypeId} {κ ν : Type} [DecidableEq κ] {ek : κ → Value} {ev : ν → Value} {z : ν} {id b : Nat} {m : List (κ × ν)} {a : κ} {u : ν} (hm : MpOk P t ek ev z) (ho : o.op = .mapUpdate t x k v ∨ o.op = .insert t x k v) (hd : o.dst = none) (hx : s.ev x = .c (.v (.map (some b)))) (he : s.ent id = some (.mp b (m.map fun p => (ek p.1, ev p.2)))) (hk : keyV (s.ev k) = some (ek a)) (hv : s.ev v = .c (.v (ev u))) :
    X P o s ⟨s.T, setE id (.mp b ((mPut a u m).map fun p => (ek p.1, ev p.2))) s.E⟩ := by
  intro B w0 ok0 ok σ ac w hR K Q hK
  obtain ⟨kt, vt, h1, h2, h3, h4⟩ := hm
  obtain ⟨e1, es, clock, e2, e3⟩ := lookup_own hR.core hx he
  obtain ⟨es', clock', r1, r2⟩ := run_mapUpdateM h1 h2 e2 e3 a u
  have ek1 := keyV_eval hR.core hk
  have ev1 := hR.core.exact hv
  have hblk := (hR.core.ent id _ he).1
  have hset := MapKept.heap_set (o' := .map es' clock') e2
  have hR' := hR.writeG (w' := { w with heap := w.heap.setIfInBounds b (.map es' clock') }) he hblk (by simp) (fun q hq => hset.2 q hq) rfl rfl rfl _ (setE_look id (.mp b ((mPut a u m).map fun p => (ek p.1, ev p.2))) s.E _ he) ⟨hblk, es', clock', hset.1, r2⟩ rfl
  have hrun : (execOp ac.eval o).run P w = .ok .skip { w with heap := w.heap.setIfInBounds b (.map es' clock') } := by
    unfold execOp
    rcases ho with ho | ho <;> rw [ho] <;> simp only [e1, ek1, ev1, Sem.run_bind, r1, Result.andThen_ok, Sem.run_pure]
  unfold Oper.wp
  rw [hrun]
  show K (ac.put o.dst undef) _
  rw [hd]
  exact hK _ _ _ _ hR'
/-- A map is made: its place is known from then on. -/
theorem XL_mkmap {ops : Array Oper} {o : Oper} {rest : List Oper} {s : St} {J : St → Prop} {t : TypeId} {d : Nat} (hg : o.guard = none) (ho : o.op = .makeMap t none) (hd : o.dst = some d) (hk : ∀ b : Nat, XL P ops rest ⟨(killT d s.T).set d (.c (.v (.map (some b)))), (d * 8, .mp b []) :: killE d s.E⟩ J) : XL P ops (o :: rest) s J := by
  intro B w0 ok0 ok σ a w hR Q hQ
  refine wpList_plain hg fun K hK => ?_
  have hnew : New w (w.alloc (.map #[] 0)) ok ok (fun _ => ⟨some w.heap.size, 0, 0⟩) (.c (.v (.map (some w.heap.size)))) [(0, .mp w.heap.size [])] (.map (some w.heap.size)) := by
    have ha := MapKept.heap_alloc w (.map #[] 0)
    have hsz : (w.alloc (.map #[] 0)).heap.size = w.heap.size + 1 := by
      show (w.heap.push _).size = _
      simp
    refine ⟨⟨rfl, rfl, rfl, by omega, fun k hk => ha.2 k hk⟩, fun _ h => h, fun _ h => .inl h, fun g hg => by have := hR.core.okL g hg; omega, Rd.v _ rfl, fun id e he => ?_, fun e he => rfl, fun id e he => ?_, fun id e g he hg => ?_, fun i j e f g hi hj _ _ => ?_, fun id e he => ?_⟩
    · obtain ⟨h1, _⟩ := look_one _ _ _ _ he; omega
    · obtain ⟨h1, h2⟩ := look_one _ _ _ _ he
      subst h2
      exact ⟨rfl, #[], 0, ha.1, rfl⟩
    · have e1 : w.heap.size = g := by simpa using hg
      subst e1
      exact ⟨Nat.le_refl _, fun h => Nat.lt_irrefl _ (hR.core.okL _ h), by omega⟩
    · obtain ⟨h1, _⟩ := look_one _ _ _ _ hi
      obtain ⟨h2, _⟩ := look_one _ _ _ _ hj
      omega
    · obtain ⟨_, h2⟩ := look_one _ _ _ _ he
      subst h2; rfl
  have hrun : (execOp a.eval o).run P w = .ok (.value (.map (some w.heap.size))) (w.alloc (.map #[] 0)) := by
    unfold execOp
    rw [ho]
    simp [Instr.makeMap]
  have hR' := hR.upd (d := d) hnew
  unfold Oper.wp
  rw [hrun]
  show K (a.put o.dst _) _
  rw [hd]
  exact hK _ _ (hk w.heap.size B w0 ok0 ok (fun id => if id / 8 = d then ⟨some w.heap.size, 0, 0⟩ else σ id) _ _ hR' Q hQ)
/-- A statement, with a map's place that is known behind it. -/
theorem V_regM {id : Nat} {ops : Array Oper} {s : St} {J : Exit → St → Prop} (S : Nat → St) (m : List Bool) (ids : List Nat) (h : XL P ops ops.toList s (fun s' => ∃ b, s'.keep m ids = S b)) (hj : ∀ b, J .normal (S b)) : V P (.region id ops false) s J := by
  refine V_region fun B w0 ok0 ok σ a w hR Q hQ => ?_
  refine h _ _ _ _ _ _ _ hR Q fun s' a' w' ok' σ' hs hR' => ?_
  obtain ⟨b, hs⟩ := hs
  exact hQ _ a' w' ok' σ' (hj b) (by rw [← hs]; exact hR'.le (keep_le m ids s'))
theorem V_sregM {id : Nat} {ops : Array Oper} {y : Code} {s : St} {J : Exit → St → Prop} (S : Nat → St) (m : List Bool) (ids : List Nat) (h : XL P ops ops.toList s (fun s' => ∃ b, s'.keep m ids = S b)) (hv : ∀ b, V P y (S b) J) : V P (.seq (.region id ops false) y) s J := zH (V_regM S m ids h hv)
end
end Go.Proofs.YtfmjfofocklgpaaGreatDoor
namespace Go.Proofs.YtfmjfofocklgpaaGreatDoor
open Go.RowKit
set_option linter.unusedSimpArgs false
set_option linter.unusedVariables false
section
variable {P : Program}
def ren1 (j k : Nat) : AV → AV
  | .ow i => bif i == j then .ow k else bif i == k then .bot else .ow i
  | .tc _ _ => .bot
  | av => bif av.mid j || av.mid k then .bot else av
def renE (k : Nat) (e : Ent) (E : List (Nat × Ent)) : List (Nat × Ent) := match E.lookup k with
  | some _ => setE k e E
  | none => (k, e) :: E
theorem renE_look (k : Nat) (e : Ent) (E : List (Nat × Ent)) (i : Nat) : (renE k e E).lookup i = if i = k then some e else E.lookup i := by
  unfold renE
  cases h : E.lookup k with
  | some f => exact setE_look k e E f h i
  | none =>
    simp only [List.lookup]
    cases hi : (i == k) with
    | true => simp [show i = k by simpa using hi]
    | false => rw [if_neg (by simpa using hi)]
def St.ren (s : St) (j k : Nat) (e : Ent) : St := ⟨s.T.map (ren1 j k), renE k e (rmE j s.E)⟩
/-- The row that slot t holds, under the number k. -/
def St.adopt (s : St) (t k : Nat) : St :=
  match s.get t with
  | .ow j => bif j == k then s else (match s.ent j with
    | some (.arr T sz els) => s.ren j k (.arr T sz els)
    | _ => s)
  | _ => s
theorem R_ren {B : Fr} {w0 : World} {ok0 ok : Nat → Prop} {σ : Nat → Loc} {s : St} {a : Act} {w : World} (hR : R B w0 ok0 ok σ s a w) {j k : Nat} (hjk : j ≠ k) {T sz : Nat} {els : List (List Tr)} (hj : s.ent j = some (.arr T sz els)) :
    R B w0 ok0 ok (fun i => if i = k then σ j else σ i) (s.ren j k (.arr T sz els)) a w := by
  have lk : ∀ i e, (s.ren j k (.arr T sz els)).ent i = some e → (i = k ∧ e = .arr T sz els) ∨ (i ≠ k ∧ i ≠ j ∧ s.ent i = some e) := by
    intro i e hi
    have hi : (renE k (.arr T sz els) (rmE j s.E)).lookup i = some e := hi
    rw [renE_look] at hi
    by_cases h : i = k
    · rw [if_pos h] at hi
      exact .inl ⟨h, by simpa using hi.symm⟩
    · rw [if_neg h, rmE_look] at hi
      split at hi
      · cases hi
      · rename_i hn
        exact .inr ⟨h, hn, hi⟩
  have hget : ∀ t, (s.ren j k (.arr T sz els)).get t = ren1 j k (s.get t) := by
    intro t
    unfold St.ren St.get
    simp only [List.getElem?_map]
    cases s.T[t]? <;> rfl
  refine ⟨⟨by simpa [St.ren] using hR.core.len, hR.core.okL, hR.core.lib, fun t => ?_, fun i e hi => ?_, fun i e g hi hg => ?_, fun i i2 e f2 g hi hi2 h1 h2 => ?_⟩, hR.defers, hR.below, hR.base, hR.old, hR.fresh, fun i e g hi hg => ?_⟩
  · rw [hget]
    have h1 := hR.core.tmp t
    generalize s.get t = av at h1
    have same : av.mid k = false → (∀ x r, av ≠ .tc x r) → Rel ok (fun i => if i = k then σ j else σ i) w av (a.tmps.getD t undef) := fun hm _ => h1.mid k (fun _ h => h) (fun _ _ => rfl) hm (fun i hi => by simp [hi])
    have other : (∀ x r, av ≠ .tc x r) → Rel ok (fun i => if i = k then σ j else σ i) w (bif av.mid j || av.mid k then AV.bot else av) (a.tmps.getD t undef) := fun ht => by
      cases hm : (av.mid j || av.mid k) with
      | true => exact trivial
      | false =>
        simp only [Bool.or_eq_false_iff] at hm
        exact same hm.2 ht
    cases av with
    | ow i =>
      simp only [ren1]
      cases hi : (i == j) with
      | true =>
        have e1 : i = j := by simpa using hi
        subst e1
        show _ = ownVal _
        simp only [if_true]
        exact h1
      | false =>
        cases hi2 : (i == k) with
        | true => exact trivial
        | false => exact same (by simpa [AV.mid] using hi2) (fun _ _ h => by cases h)
    | tc x r => exact trivial
    | pt i o => exact other (fun _ _ h => by cases h)
    | po i z o q => exact other (fun _ _ h => by cases h)
    | tn => exact other (fun _ _ h => by cases h)
    | bot => exact other (fun _ _ h => by cases h)
    | c t => exact other (fun _ _ h => by cases h)
    | ag cs => exact other (fun _ _ h => by cases h)
    | pe cs => exact other (fun _ _ h => by cases h)
    | fn f caps => exact other (fun _ _ h => by cases h)
    | er b => exact other (fun _ _ h => by cases h)
    | vw i els m => exact other (fun _ _ h => by cases h)
    | sf i z q => exact other (fun _ _ h => by cases h)
  · rcases lk i e hi with ⟨rfl, rfl⟩ | ⟨h1, _, h2⟩
    · simp only [if_true]
      exact hR.core.ent _ _ hj
    · simp only [if_neg h1]
      exact hR.core.ent _ _ h2
  · rcases lk i e hi with ⟨rfl, rfl⟩ | ⟨h1, _, h2⟩
    · simp only [if_true] at hg
      exact hR.core.blk _ _ _ hj hg
    · simp only [if_neg h1] at hg
      exact hR.core.blk _ _ _ h2 hg
  · rcases lk i e hi with ⟨a1, _⟩ | ⟨a1, a3, a2⟩ <;> rcases lk i2 f2 hi2 with ⟨b1, _⟩ | ⟨b1, b3, b2⟩
    · rw [a1, b1]
    · simp only [a1, if_true] at h1
      simp only [if_neg b1] at h2
      exact absurd (hR.core.inj _ _ _ _ _ hj b2 h1 h2).symm b3
    · simp only [b1, if_true] at h2
      simp only [if_neg a1] at h1
      exact absurd (hR.core.inj _ _ _ _ _ hj a2 h2 h1).symm a3
    · simp only [if_neg a1] at h1
      simp only [if_neg b1] at h2
      exact hR.core.inj _ _ _ _ _ a2 b2 h1 h2
  · rcases lk i e hi with ⟨rfl, rfl⟩ | ⟨h1, _, h2⟩
    · simp only [if_true] at hg
      exact hR.own _ _ _ hj hg
    · simp only [if_neg h1] at hg
      exact hR.own _ _ _ h2 hg
theorem R_adopt {B : Fr} {w0 : World} {ok0 ok : Nat → Prop} {σ : Nat → Loc} {s : St} {a : Act} {w : World} (hR : R B w0 ok0 ok σ s a w) (t k : Nat) : ∃ σ', R B w0 ok0 ok σ' (s.adopt t k) a w := by
  unfold St.adopt
  split
  · rename_i j _
    cases hjk : (j == k) with
    | true => exact ⟨σ, hR⟩
    | false =>
      simp only [cond_false]
      split
      · rename_i T sz els h1
        exact ⟨_, R_ren hR (by simpa using hjk) h1⟩
      · exact ⟨σ, hR⟩
  · exact ⟨σ, hR⟩
theorem V_adopt (t k : Nat) {c : Code} {s : St} {J : Exit → St → Prop} (h : V P c (s.adopt t k) J) : V P c s J := fun _ _ _ _ _ _ _ hR => by
  obtain ⟨σ', hR'⟩ := R_adopt hR t k
  exact h _ _ _ _ _ _ _ hR'
end
end Go.Proofs.YtfmjfofocklgpaaGreatDoor
namespace Go.Proofs.YtfmjfofocklgpaaGreatDoor
open Go.RowKit
set_option linter.unusedVariables false
set_option linter.unusedSimpArgs false
/-- Not part of a number. -/
def pFF (x : Nat) : Bool := (x != 45) && (decide (x < 48) || decide (57 < x))
theorem pOf_ff : pOf r_impl_integersIn_1 = pFF := by
  funext x
  unfold pOf pFF r_impl_integersIn_1
  simp only [Option.bind_some, Option.getD_some, eqI_eq, zM]
  have e : ((x : Int) == 45) = (x == 45) := by rw [Bool.eq_iff_iff, beq_iff_eq, beq_iff_eq]; omega
  have e1 : decide ((x : Int) < 48) = decide (x < 48) := by rw [decide_eq_decide]; omega
  have e2 : decide ((57 : Int) < (x : Int)) = decide (57 < x) := by rw [decide_eq_decide]; omega
  rw [e, e1, e2]
  cases h1 : (x == 45) <;> cases h2 : decide (x < 48) <;> cases h3 : decide (57 < x) <;> simp_all [bne]
theorem pFF_int (x : Nat) : pFF x = (((x : Int) != 45) && (decide ((x : Int) < 48) || decide (57 < (x : Int)))) := by
  unfold pFF
  have e : ((x : Int) != 45) = (x != 45) := by rw [Bool.eq_iff_iff, bne_iff_ne, bne_iff_ne]; omega
  have e1 : decide ((x : Int) < 48) = decide (x < 48) := by rw [decide_eq_decide]; omega
  have e2 : decide ((57 : Int) < (x : Int)) = decide (57 < x) := by rw [decide_eq_decide]; omega
  rw [e, e1, e2]
theorem drew0 (W : World) : ∃ q, W = W.drewN q := ⟨0, rfl⟩
theorem ff_gives (w : World) : Go.Proofs.PredAt Tryz.prog 230 #[] (fun x : Nat => Value.int .i32 (x : Int)) pFF w := by
  intro W x hb
  unfold Go.Proofs.FnGives
  go_enter Tryz.func230, Tryz.ntmps230
  go_wp2
  · rename_i h
    go_ret
    refine ⟨?_, drew0 W⟩
    rw [pFF_int, h]
    rfl
  · go_ret
    refine ⟨?_, drew0 W⟩
    rw [pFF_int]
    rfl
  · rename_i h1 h2
    go_ret
    refine ⟨?_, drew0 W⟩
    rw [pFF_int, decide_eq_true h2, Bool.true_or, Bool.and_true]
    rfl
theorem s_strings_FieldsFunc_230 {s : ByteArray} {r : List ByteArray} (h : r_strings_FieldsFunc (pOf r_impl_integersIn_1) s = some r) : zL Tryz.prog 229 [.c (.v (.string s)), .c (.v (.func (.func 230) #[] #[]))] (.ow 0) [(0, .arr 9 1 (r.map cStr))] := by
  rw [pOf_ff] at h
  exact s_FieldsFunc (run_callFunc Tryz.func230 (by kernel_rfl) (by kernel_rfl)) ff_gives h
end Go.Proofs.YtfmjfofocklgpaaGreatDoor
namespace Go.Proofs.YtfmjfofocklgpaaGreatDoor
open Go.RowKit Go.Proofs Go.Lib Go.Shelf
set_option linter.unusedVariables false
set_option linter.unusedSimpArgs false
set_option maxHeartbeats 2000000
set_option maxRecDepth 100000
theorem bd_used (b : Nat) (w : World) (h0 : w.cell? ⟨b, 0, none⟩ = some (.pointer (some ⟨b, 0, none⟩))) :
    Calls Tryz.prog 119 #[.pointer (some ⟨b, 0, none⟩)] w fun e w' => e = .returned (.tuple #[]) ∧ w' = w := by
  obtain ⟨j, hj, _⟩ := Option.map_eq_some_iff.1 (show (Tryz.prog.info? 89).map (·.size) = some 2 by kernel_rfl)
  have mixed : Tryz.prog.follows .mixedOrders = true := by kernel_rfl
  have t72 := Tryz.underlying89; have a72 := Tryz.isAgg89; have z72 := Tryz.sizeOf89; have v72 := Tryz.zeroValue89; have u72 := run_underlying Tryz.underlying89
  have t70 := Tryz.underlying87; have a70 := Tryz.isAgg87; have z70 := Tryz.sizeOf87; have v70 := Tryz.zeroValue87; have u70 := run_underlying Tryz.underlying87
  have t9 := Tryz.underlying9; have a9 := Tryz.isAgg9; have z9 := Tryz.sizeOf9; have v9 := Tryz.zeroValue9; have u9 := run_underlying Tryz.underlying9
  have t4 := Tryz.underlying4; have a4 := Tryz.isAgg4; have z4 := Tryz.sizeOf4; have v4 := Tryz.zeroValue4; have u4 := run_underlying Tryz.underlying4
  have t164 := Tryz.underlying181; have a164 := Tryz.isAgg181; have z164 := Tryz.sizeOf181; have v164 := Tryz.zeroValue181; have u164 := run_underlying Tryz.underlying181
  go_enter Tryz.func119, Tryz.ntmps119
  go_wp2
  rw [Lib.run_neq_ptr_same w _ Tryz.underlying87 hj]
  go_wp2
  go_end0
  exact ⟨rfl, rfl⟩
theorem bd_fresh (b : Nat) (w : World) (h0 : w.cell? ⟨b, 0, none⟩ = some (.pointer none)) (hsh : w.shape? b = some (89, 2)) (hfz : w.frozen? ⟨b, 0, none⟩ = false) :
    Calls Tryz.prog 119 #[.pointer (some ⟨b, 0, none⟩)] w fun e w' => e = .returned (.tuple #[]) ∧ w' = w.setCell ⟨b, 0, none⟩ (.pointer (some ⟨b, 0, none⟩)) := by
  obtain ⟨j, hj, hjs⟩ := Option.map_eq_some_iff.1 (show (Tryz.prog.info? 89).map (·.size) = some 2 by kernel_rfl)
  have mixed : Tryz.prog.follows .mixedOrders = true := by kernel_rfl
  have t72 := Tryz.underlying89; have a72 := Tryz.isAgg89; have z72 := Tryz.sizeOf89; have v72 := Tryz.zeroValue89; have u72 := run_underlying Tryz.underlying89
  have t70 := Tryz.underlying87; have a70 := Tryz.isAgg87; have z70 := Tryz.sizeOf87; have v70 := Tryz.zeroValue87; have u70 := run_underlying Tryz.underlying87
  have t9 := Tryz.underlying9; have a9 := Tryz.isAgg9; have z9 := Tryz.sizeOf9; have v9 := Tryz.zeroValue9; have u9 := run_underlying Tryz.underlying9
  have t4 := Tryz.underlying4; have a4 := Tryz.isAgg4; have z4 := Tryz.sizeOf4; have v4 := Tryz.zeroValue4; have u4 := run_underlying Tryz.underlying4
  have t164 := Tryz.underlying181; have a164 := Tryz.isAgg181; have z164 := Tryz.sizeOf181; have v164 := Tryz.zeroValue181; have u164 := run_underlying Tryz.underlying181
  go_enter Tryz.func119, Tryz.ntmps119
  go_wp2
  rw [Lib.run_to_unsafe w ⟨b, 0, none⟩ Tryz.underlying87 Tryz.underlying181 hj (by rw [hjs]; decide) hsh (Nat.zero_lt_succ 1)]
  simp only [Result.andThen]
  rw [Oper.upon_value]
  go_wp2
  rw [run_callFunc_extern Tryz.func196 (by kernel_rfl) (by kernel_rfl) (by kernel_rfl) (e := Extern.AbiNoEscape.same) (by kernel_rfl)]
  rw [Lib.run_noEscape]
  simp only [Result.andThen]
  rw [Oper.upon_value]
  go_wp2
  rw [Lib.run_from_unsafe w ⟨b, 0, none⟩ Tryz.underlying181 Tryz.underlying87 hj hsh (by kernel_rfl)]
  simp only [Result.andThen]
  rw [Oper.upon_value]
  go_wp2
  go_end0
  exact ⟨rfl, rfl⟩
theorem app2 {P : Program} (w : World) (base : Nat) (t u ty e : TypeId) (i : TypeInfo) (ht : P.underlying t = some (.slice e)) (hu : P.underlying u = some .string) (hi : P.info? e = some i) (hz : i.zero = some (.int .u8 0))
    (hsize : i.size = 1) (hby : i.bytes = 1) (v : Value) (n : Nat) (xs : List Value) (hown : w.ownsRow base e 1 v n xs) (s : ByteArray) (h63 : n + s.size ≤ maxLen) (hbytes : n + s.size ≤ 140737488355328) (hbase : base ≤ w.heap.size) :
    ∃ v' w', (Builtin.append_ #[t, u] ty #[v, .string s]).run P w = .ok v' w' ∧ w'.ownsRow base e 1 v' (n + s.size) (xs ++ strCells s) ∧ w.grownBy w' v.ownBlock ∧ (∀ g, v'.ownBlock = some g → v.ownBlock = some g ∨ w.heap.size ≤ g) := by
  obtain ⟨v', w', hr, h2, h3, _⟩ := run_append_own_string (P := P) w base t u ty e i ht hu hi hz hsize hby v n xs hown s h63 hbytes hbase
  refine ⟨v', w', hr, h2, h3, ?_⟩
  have hxl : xs.length = n := by simpa using hown.1
  have hsmall : n + s.size ≤ 9223372036854775807 := by simp only [maxLen] at h63; omega
  rcases hown.2 with ⟨rfl, rfl⟩ | ⟨g, cap, cur, rfl, hbg, hg, hnc, hcm, hcs, htake⟩
  · obtain ⟨v2, w2, hr2, h5, _, _⟩ := run_append_own_string (P := P) w w.heap.size t u ty e i ht hu hi hz hsize hby (.slice none 0 0) 0 xs ⟨hown.1, .inl ⟨rfl, rfl⟩⟩ s h63 hbytes (Nat.le_refl _)
    have := hr.symm.trans hr2
    injection this with e1 e2
    subst e1
    intro g hg
    rcases h5.2 with ⟨e3, _⟩ | ⟨g2, cap, cur, e3, hb, _⟩
    · rw [e3] at hg; cases hg
    · rw [e3] at hg
      injection hg with hg
      exact .inr (hg ▸ hb)
  · by_cases hroom : n + s.size ≤ cap
    · have hr2 := run_append_room_string (P := P) w t u ty e i ht hu hi hsize g n cap cur hg s hroom (by omega)
      have := hr.symm.trans hr2
      injection this with e1 e2
      subst e1
      exact fun _ h => .inl h
    · have holds : ∀ j u, xs[j]? = some u → w.cell? ((⟨g, 0, none⟩ : Addr).add j) = some u := hown.cells (g := g) rfl
      have hr2 := run_append_grow_string (P := P) w t u ty e i (.int .u8 0) ht hu hi hz ⟨g, 0, none⟩ n cap xs (by rw [hsize]; simpa using hxl) holds s (by omega) (by omega) (by rw [hby]; exact growslice_fits (by omega) (by omega))
      have := hr.symm.trans hr2
      injection this with e1 e2
      subst e1
      intro g2 h
      injection h with h
      exact .inr (by rw [← h]; exact Nat.le_refl _)
theorem wp_app2 {P : Program} {w : World} {ops : Array Oper} {rest : List Oper} {o : Oper} {a : Act} {Q : Exit → Act → World → Prop} (hgd : o.guard = none) (sl x : Operand) (t u : TypeId)
    (ho : o.op = .call { callee := .builtin .append, args := #[sl, x], argTypes := #[t, u] })
    (base : Nat) (e : TypeId) (i : TypeInfo) (ht : P.underlying t = some (.slice e)) (hu : P.underlying u = some .string) (hi : P.info? e = some i) (hz : i.zero = some (.int .u8 0))
    (hsize : i.size = 1) (hby : i.bytes = 1)
    (v : Value) (n : Nat) (xs : List Value) (hs : a.eval sl = v) (hown : w.ownsRow base e 1 v n xs) (s : ByteArray) (hx : a.eval x = .string s)
    (h63 : n + s.size ≤ maxLen) (hbytes : n + s.size ≤ 140737488355328) (hbase : base ≤ w.heap.size)
    (h : ∀ v' w', w'.ownsRow base e 1 v' (n + s.size) (xs ++ strCells s) → w.grownBy w' v.ownBlock → (∀ g, v'.ownBlock = some g → v.ownBlock = some g ∨ w.heap.size ≤ g) → wpList P ops Q rest (a.put o.dst v') w') : wpList P ops Q (o :: rest) a w := by
  refine wpList_plain hgd fun K hK => ?_
  obtain ⟨v', w', hr, h2, h3, h4⟩ := app2 (P := P) w base t u o.type e i ht hu hi hz hsize hby v n xs hown s h63 hbytes hbase
  unfold Oper.wp execOp
  simp only [ho, resolve, invoke, builtin, Sem.run_bind, Sem.run_pure, Result.andThen_ok, List.map_toArray, List.map_cons, List.map_nil, hs, hx, hr]
  exact hK _ _ (h v' w' h2 h3 h4)
/-- A builder: its variable and its row. -/
structure Bd (B b : Nat) (v : Value) (bs : List Value) (w : World) : Prop where
  base : B ≤ b
  cell : ∃ p, (p = .pointer none ∨ p = .pointer (some ⟨b, 0, none⟩)) ∧ w.heap[b]? = some (.cells #[p, v] 89 (0, 0))
  own : w.ownsRow B 5 1 v bs.length bs
  ne : v.ownBlock ≠ some b
/-- What changes but for a builder. -/
structure BdW (b : Nat) (v v' : Value) (w w' : World) : Prop where
  os : w'.os = w.os
  tape : w'.tape = w.tape
  output : w'.output = w.output
  size : w.heap.size ≤ w'.heap.size
  block : ∀ k, k < w.heap.size → k ≠ b → v.ownBlock ≠ some k → w'.heap[k]? = w.heap[k]?
  own : ∀ g, v'.ownBlock = some g → v.ownBlock = some g ∨ w.heap.size ≤ g
theorem Bd.lt {B b : Nat} {v : Value} {bs : List Value} {w : World} (h : Bd B b v bs w) : b < w.heap.size := by
  obtain ⟨p, _, h2⟩ := h.cell
  rcases Nat.lt_or_ge b w.heap.size with h' | h'
  · exact h'
  · simp [Array.getElem?_eq_none h'] at h2
theorem bd_check {B b : Nat} {v : Value} {bs : List Value} {w : World} (h : Bd B b v bs w) : Calls Tryz.prog 119 #[.pointer (some ⟨b, 0, none⟩)] w fun e w' => e = .returned (.tuple #[]) ∧ w'.heap[b]? = some (.cells #[.pointer (some ⟨b, 0, none⟩), v] 89 (0, 0)) ∧ w'.ownsRow B 5 1 v bs.length bs ∧ w'.os = w.os ∧ w'.tape = w.tape ∧ w'.output = w.output ∧ w'.heap.size = w.heap.size ∧ (∀ k, k ≠ b → w'.heap[k]? = w.heap[k]?) := by
  obtain ⟨hB, ⟨p, hp, hb⟩, hown, hne⟩ := h
  have h0 : w.cell? ⟨b, 0, none⟩ = some p := by simp [World.cell?, hb]
  rcases hp with rfl | rfl
  · have hA : BuilderAt 89 5 B b (.pointer none) bs w := ⟨hB, v, hb, hown, hne⟩
    refine (bd_fresh b w h0 hA.shape hA.frozen0).mono ?_
    rintro e w' ⟨rfl, rfl⟩
    have hlt : b < w.heap.size := hA.lt
    refine ⟨rfl, ?_, ?_, rfl, rfl, rfl, by simp [World.setCell], fun k hk => Below.heap_setCell _ _ _ _ (fun e => hk (by simp [e]))⟩
    · simp [World.setCell, Array.getElem?_modify, hb]
    · refine hown.kept (row := some b) ⟨rfl, rfl, rfl, by simp [World.setCell], fun k _ hk => Below.heap_setCell _ _ _ _ (fun e => hk (by simp [e]))⟩ ?_
      exact Or.inr hne
  · refine (bd_used b w h0).mono ?_
    rintro e w' ⟨rfl, rfl⟩
    exact ⟨rfl, hb, hown, rfl, rfl, rfl, rfl, fun _ _ => rfl⟩
theorem bd_write {B b : Nat} {v : Value} {bs : List Value} {w : World} (h : Bd B b v bs w) (s : ByteArray) (hlen : bs.length + s.size ≤ 140737488355328) (hBw : B ≤ w.heap.size) :
    Calls Tryz.prog 61 #[.pointer (some ⟨b, 0, none⟩), .string s] w fun e w' => e = .returned (.tuple #[.int .i64 s.size, .nilIface]) ∧ ∃ v', Bd B b v' (bs ++ strCells s) w' ∧ BdW b v v' w w' := by
  have hX : (Tryz.prog.info? 5).map (fun i => (i.zero, i.size, i.bytes)) = some (some (.int .u8 0), 1, 1) := by kernel_rfl
  obtain ⟨i0, hi, hz0, hz1, hz2⟩ := info_parts hX
  have mixed : Tryz.prog.follows .mixedOrders = true := by kernel_rfl
  have t72 := Tryz.underlying89; have a72 := Tryz.isAgg89; have z72 := Tryz.sizeOf89; have v72 := Tryz.zeroValue89; have u72 := run_underlying Tryz.underlying89
  have t70 := Tryz.underlying87; have a70 := Tryz.isAgg87; have z70 := Tryz.sizeOf87; have v70 := Tryz.zeroValue87; have u70 := run_underlying Tryz.underlying87
  have t37 := Tryz.underlying48; have a37 := Tryz.isAgg48; have z37 := Tryz.sizeOf48; have v37 := Tryz.zeroValue48; have u37 := run_underlying Tryz.underlying48
  have t3 := Tryz.underlying3; have a3 := Tryz.isAgg3; have z3 := Tryz.sizeOf3; have v3 := Tryz.zeroValue3; have u3 := run_underlying Tryz.underlying3
  have t9 := Tryz.underlying9; have a9 := Tryz.isAgg9; have z9 := Tryz.sizeOf9; have v9 := Tryz.zeroValue9; have u9 := run_underlying Tryz.underlying9
  have t4 := Tryz.underlying4; have a4 := Tryz.isAgg4; have z4 := Tryz.sizeOf4; have v4 := Tryz.zeroValue4; have u4 := run_underlying Tryz.underlying4
  have t164 := Tryz.underlying181; have a164 := Tryz.isAgg181; have z164 := Tryz.sizeOf181; have v164 := Tryz.zeroValue181; have u164 := run_underlying Tryz.underlying181
  have t5 := Tryz.underlying5; have a5 := Tryz.isAgg5; have z5 := Tryz.sizeOf5; have v5 := Tryz.zeroValue5; have u5 := run_underlying Tryz.underlying5
  have e240 : ∀ args w, (callFunc 119 args).run Tryz.prog w = .ok (.enter 119 args) w := run_callFunc Tryz.func119 (by kernel_rfl) (by kernel_rfl)
  go_enter Tryz.func61, Tryz.ntmps61
  go_wp2_with (go_at_fn 119; refine (bd_check h).mono ?_)
  rintro e w1 ⟨rfl, hbk, hown, k1, k2, k3, k4, k5⟩
  have hne := h.ne
  have hlt : b < w1.heap.size := by rw [k4]; exact h.lt
  have c0 : w1.cell? ⟨b, 0, none⟩ = some (.pointer (some ⟨b, 0, none⟩)) := by rw [Lib.cell_of_heap hbk]; rfl
  have c1 : w1.cell? ⟨b, 1, none⟩ = some v := by rw [Lib.cell_of_heap hbk]; rfl
  go_wp2_with (at_builtin; refine wp_app2 rfl _ _ 48 9 rfl B 5 i0 Tryz.underlying48 Tryz.underlying9 hi hz0 hz1 hz2 _ _ _ rfl hown s rfl ?c3 ?c4 ?c5 ?_)
  case c3 => unfold maxLen; omega
  case c4 => omega
  case c5 => omega
  intro v' w2 hown' hgrow hnew
  have hb2 : w2.heap[b]? = some (.cells #[.pointer (some ⟨b, 0, none⟩), v] 89 (0, 0)) := by
    rw [hgrow.block b hlt (fun e => hne e.symm)]
    exact hbk
  have d0 : w2.cell? ⟨b, 0, none⟩ = some (.pointer (some ⟨b, 0, none⟩)) := by rw [Lib.cell_of_heap hb2]; rfl
  have d1 : w2.cell? ⟨b, 1, none⟩ = some v := by rw [Lib.cell_of_heap hb2]; rfl
  have f1 : w2.frozen? ⟨b, 1, none⟩ = false := Lib.frozen_of_heap hb2 1
  obtain ⟨ao, n', cap, rfl⟩ : ∃ ao n' cap, v' = .slice ao n' cap := by
    rcases hown'.2 with ⟨hv, _⟩ | ⟨g, cap, cur, hv, _⟩
    · exact ⟨_, _, _, hv⟩
    · exact ⟨_, _, _, hv⟩
  go_wp2
  go_ret2
  have hown2 : w2.ownsRow B 5 1 (.slice ao n' cap) (bs ++ strCells s).length (bs ++ strCells s) := by simpa [Lib.strCells_length] using hown'
  have hne2 := ownBlock_ne hown2 hb2 (by decide)
  refine ⟨rfl, .slice ao n' cap, ⟨h.base, ⟨_, .inr rfl, by simp [World.setCell, Array.getElem?_modify, hb2]⟩, hown2.kept (row := some b) ⟨rfl, rfl, rfl, by simp [World.setCell], fun k _ hk => Below.heap_setCell _ _ _ _ (fun e => hk (by simp [e]))⟩ (Or.inr hne2), hne2⟩, ⟨hgrow.os.trans k1, hgrow.tape.trans k2, hgrow.output.trans k3, ?_, fun k hk hkb hkv => ?_, fun g hg => ?_⟩⟩
  · have := hgrow.size
    simp only [World.setCell, Array.size_modify]
    omega
  · have e1 : (w2.setCell ⟨b, 1, none⟩ (.slice ao n' cap)).heap[k]? = w2.heap[k]? := Below.heap_setCell _ _ _ _ (fun e => hkb (by simp [e]))
    rw [e1, hgrow.block k (by omega) (fun e => hkv e.symm), k5 k hkb]
  · rcases hnew g hg with h1 | h1
    · exact .inl h1
    · exact .inr (by omega)
end Go.Proofs.YtfmjfofocklgpaaGreatDoor
namespace Go.Proofs.YtfmjfofocklgpaaGreatDoor
open Go.RowKit Go.Proofs Go.Lib Go.Shelf
set_option linter.unusedVariables false
set_option linter.unusedSimpArgs false
set_option maxRecDepth 100000
/-- The pointer to a builder. -/
def bp (b : Nat) : AV := .c (.v (.pointer (some ⟨b, 0, none⟩)))
structure RB (B : Fr) (w0 : World) (ok0 ok : Nat → Prop) (σ : Nat → Loc) (b : Nat) (l : List UInt8) (s : St) (a : Act) (w : World) : Prop where
  ex : ∃ w1 ok1 v, R ⟨w1.heap.size, fun _ => False⟩ w1 ok1 ok σ s a w ∧ Bd b b v (byteCells l) w1 ∧ BelowX B w0 w1 ∧ B.n ≤ b ∧ (∀ g, ok0 g → ok1 g) ∧ (∀ g, ok1 g → ok0 g ∨ B.n ≤ g) ∧ ¬ ok1 b ∧ (∀ g, v.ownBlock = some g → ¬ ok1 g) ∧ (∀ g, ok0 g → g < b) ∧ (∀ p, p ∈ TB → p.1 < b)
theorem Bd.ownlt {B b : Nat} {v : Value} {bs : List Value} {w : World} (h : Bd B b v bs w) {g : Nat} (hg : v.ownBlock = some g) : B ≤ g ∧ g < w.heap.size := by
  rcases h.own.2 with ⟨e, _⟩ | ⟨g2, cap, cur, e, h1, h2, _⟩
  · rw [e] at hg; cases hg
  · rw [e] at hg
    injection hg with hg
    have hg : g2 = g := hg
    subst hg
    refine ⟨h1, ?_⟩
    rcases Nat.lt_or_ge g2 w.heap.size with h' | h'
    · exact h'
    · simp [Array.getElem?_eq_none h'] at h2
theorem Bd.keep {B b : Nat} {v : Value} {bs : List Value} {w w' : World} (h : Bd B b v bs w) (hw : ∀ k, k < w.heap.size → w'.heap[k]? = w.heap[k]?) : Bd B b v bs w' := by
  obtain ⟨p, p1, p2⟩ := h.cell
  refine ⟨h.base, ⟨p, p1, by rw [hw b h.lt]; exact p2⟩, ⟨h.own.1, ?_⟩, h.ne⟩
  rcases h.own.2 with e | ⟨g, cap, cur, e, h1, h2, h3⟩
  · exact .inl e
  · refine .inr ⟨g, cap, cur, e, h1, ?_, h3⟩
    rw [hw g (h.ownlt (by rw [e]; rfl)).2]
    exact h2
variable {P : Program}
theorem RB.to {B : Fr} {w0 : World} {ok0 ok : Nat → Prop} {σ : Nat → Loc} {b : Nat} {l : List UInt8} {s : St} {a : Act} {w : World} (h : RB B w0 ok0 ok σ b l s a w) : R B w0 ok0 ok σ s a w := by
  obtain ⟨w1, ok1, v, hR, hb, h1, h2, h3, h4, h5, h6, h7, h8⟩ := h.ex
  have hlt := hb.lt
  have hbe := hR.base
  have hbe : w1.heap.size ≤ w.heap.size := hbe
  refine ⟨hR.core, hR.defers, h1.trans ⟨hR.below.os, hR.below.tape, hR.below.output, hR.below.size, fun k hk _ => hR.below.block k (show k < w1.heap.size by omega) (fun x => x)⟩, by omega, fun g hg => hR.old g (h3 g hg), fun g hg => ?_, fun id e g he hg => ?_⟩
  · rcases hR.fresh g hg with h9 | h9
    · exact h4 g h9
    · have h9 : w1.heap.size ≤ g := h9
      exact .inr (by omega)
  · have := hR.own id e g he hg
    split at this
    · exact this.elim
    · rename_i hp
      rw [if_neg hp]
      have this : w1.heap.size ≤ g := this
      omega
def VB (P : Program) (b : Nat) (l : List UInt8) (c : Code) (s : St) (J : Exit → St → List UInt8 → Prop) : Prop :=
  ∀ B w0 ok0 ok σ a w, RB B w0 ok0 ok σ b l s a w → c.wp P (fun e a' w' => ∃ s' ok' σ' l', J e s' l' ∧ RB B w0 ok0 ok' σ' b l' s' a' w') a w
def thenB (K : St → List UInt8 → Prop) (J : Exit → St → List UInt8 → Prop) : Exit → St → List UInt8 → Prop
  | .normal, s, l => K s l
  | e, s, l => J e s l
def inBlockB (id : Nat) (K : Exit → St → List UInt8 → Prop) : Exit → St → List UInt8 → Prop
  | .exit id', s, l => bif Nat.beq id' id then K .normal s l else K (.exit id') s l
  | e, s, l => K e s l
theorem RB.lift {B : Fr} {w0 : World} {ok0 ok : Nat → Prop} {σ : Nat → Loc} {b : Nat} {l : List UInt8} {s : St} {a : Act} {w : World} {c : Code} {K : Exit → St → Prop} (h : RB B w0 ok0 ok σ b l s a w) (hV : V P c s K) : c.wp P (fun e a' w' => ∃ s' ok' σ', K e s' ∧ RB B w0 ok0 ok' σ' b l s' a' w') a w := by
  obtain ⟨w1, ok1, v, hR, h1⟩ := h.ex
  refine wp_mono (hV _ _ _ _ _ _ _ hR) ?_
  rintro e a' w' ⟨s', ok', σ', hJ, hR'⟩
  exact ⟨s', ok', σ', hJ, ⟨⟨w1, ok1, v, hR', h1⟩⟩⟩
theorem VB_V {b : Nat} {l : List UInt8} {c : Code} {s : St} {J : Exit → St → List UInt8 → Prop} (h : V P c s (fun e s' => J e s' l)) : VB P b l c s J := by
  intro B w0 ok0 ok σ a w hR
  refine wp_mono (hR.lift h) ?_
  rintro e a' w' ⟨s', ok', σ', hJ, hR'⟩
  exact ⟨s', ok', σ', l, hJ, hR'⟩
theorem VB_seq {b : Nat} {l : List UInt8} {x y : Code} {s : St} {J : Exit → St → List UInt8 → Prop} (h : VB P b l x s (thenB (fun s' l' => VB P b l' y s' J) J)) : VB P b l (.seq x y) s J := by
  intro B w0 ok0 ok σ a w hR
  refine wp_seq (wp_mono (h _ _ _ _ _ _ _ hR) ?_)
  rintro e a' w' ⟨s', ok', σ', l', hJ, hR'⟩
  cases e with
  | normal => exact hJ _ _ _ _ _ _ _ hR'
  | exit id => exact ⟨s', ok', σ', l', hJ, hR'⟩
  | goto l => exact ⟨s', ok', σ', l', hJ, hR'⟩
  | ret => exact ⟨s', ok', σ', l', hJ, hR'⟩
  | panic ch => exact ⟨s', ok', σ', l', hJ, hR'⟩
  | outgrown => exact ⟨s', ok', σ', l', hJ, hR'⟩
theorem VB_seqV {b : Nat} {l : List UInt8} {x y : Code} {s : St} {J : Exit → St → List UInt8 → Prop} (h : V P x s (thenA (fun s' => VB P b l y s' J) (fun e s' => J e s' l))) : VB P b l (.seq x y) s J :=
  VB_seq (VB_V (V_mono h fun e s' hh => by cases e <;> exact hh))
theorem VB_block {b : Nat} {l : List UInt8} {id : Nat} {c : Code} {s : St} {J : Exit → St → List UInt8 → Prop} (h : VB P b l c s (inBlockB id J)) : VB P b l (.block id c) s J := by
  intro B w0 ok0 ok σ a w hR
  refine wp_block (wp_mono (h _ _ _ _ _ _ _ hR) ?_)
  rintro e a' w' ⟨s', ok', σ', l', hJ, hR'⟩
  cases e with
  | exit id' =>
    simp only [inBlockB] at hJ
    simp only [Exit.inBlock]
    by_cases hid : id' = id
    · rw [if_pos hid]
      have e : Nat.beq id' id = true := by rw [hid]; exact Nat.beq_refl id
      rw [e] at hJ
      exact ⟨s', ok', σ', l', hJ, hR'⟩
    · rw [if_neg hid]
      have e : Nat.beq id' id = false := by
        cases h : Nat.beq id' id with
        | false => rfl
        | true => exact absurd (Nat.eq_of_beq_eq_true h) hid
      rw [e] at hJ
      exact ⟨s', ok', σ', l', hJ, hR'⟩
  | normal => exact ⟨s', ok', σ', l', hJ, hR'⟩
  | goto l => exact ⟨s', ok', σ', l', hJ, hR'⟩
  | ret => exact ⟨s', ok', σ', l', hJ, hR'⟩
  | panic ch => exact ⟨s', ok', σ', l', hJ, hR'⟩
  | outgrown => exact ⟨s', ok', σ', l', hJ, hR'⟩
theorem VB_loop {b : Nat} {l : List UInt8} {c : Code} {s : St} {J : Exit → St → List UInt8 → Prop} (I : Nat → St → List UInt8 → Prop) (n : Nat) (h0 : I n s l) (round : ∀ n s l, I n s l → VB P b l c s (thenB (fun s' l' => ∃ m, m < n ∧ I m s' l') J)) : VB P b l (.loop c) s J := by
  intro B w0 ok0 ok σ a w hR
  refine wp_loop_ghost (fun n a w => ∃ s l ok σ, I n s l ∧ RB B w0 ok0 ok σ b l s a w) n ⟨s, l, ok, σ, h0, hR⟩ ?_
  rintro n a w ⟨s, l, ok, σ, hI, hR⟩
  refine wp_mono (round n s l hI _ _ _ _ _ _ _ hR) ?_
  rintro e a' w' ⟨s', ok', σ', l', hJ, hR'⟩
  cases e with
  | normal =>
    obtain ⟨m, hm, hI'⟩ := hJ
    exact ⟨m, hm, s', l', ok', σ', hI', hR'⟩
  | exit id => exact ⟨s', ok', σ', l', hJ, hR'⟩
  | goto l => exact ⟨s', ok', σ', l', hJ, hR'⟩
  | ret => exact ⟨s', ok', σ', l', hJ, hR'⟩
  | panic ch => exact ⟨s', ok', σ', l', hJ, hR'⟩
  | outgrown => exact ⟨s', ok', σ', l', hJ, hR'⟩
theorem RB.le {B : Fr} {w0 : World} {ok0 ok : Nat → Prop} {σ : Nat → Loc} {b : Nat} {l : List UInt8} {s s' : St} {a : Act} {w : World} (h : RB B w0 ok0 ok σ b l s a w) (hl : Le s' s) : RB B w0 ok0 ok σ b l s' a w := by
  obtain ⟨w1, ok1, v, hR, h1⟩ := h.ex
  exact ⟨⟨w1, ok1, v, hR.le hl, h1⟩⟩
theorem VB_keep {b : Nat} {l : List UInt8} (m : List Bool) (ids : List Nat) {c : Code} {s s' : St} {J : Exit → St → List UInt8 → Prop} (h : s.keep m ids = s') (hv : VB P b l c s' J) : VB P b l c s J := by
  subst h
  exact fun _ _ _ _ _ _ _ hR => hv _ _ _ _ _ _ _ (hR.le (keep_le m ids s))
theorem R_base {ok : Nat → Prop} {σ : Nat → Loc} {s : St} {a : Act} {w w' : World} (hc : Core ok σ s a w) (hdf : a.defers = []) (hE : s.E = []) (hsz : w.heap.size ≤ w'.heap.size) (hw : ∀ g, ok g → w'.heap[g]? = w.heap[g]?) : R ⟨w'.heap.size, fun _ => False⟩ w' ok ok σ s a w' := by
  have hn : ∀ id, s.ent id = none := fun id => by unfold St.ent; rw [hE]; rfl
  refine ⟨⟨hc.len, fun g hg => Nat.lt_of_lt_of_le (hc.okL g hg) hsz, hc.lib.mono (fun _ h => h) hw, fun t => (hc.tmp t).mono0 (fun _ h => h) hw, fun id e he => ?_, fun id e g he => ?_, fun x y e f g he => ?_⟩, hdf, BelowX.refl _ _, Nat.le_refl _, fun _ h => h, fun _ h => .inl h, fun id e g he => ?_⟩
  · rw [hn] at he; cases he
  · rw [hn] at he; cases he
  · rw [hn] at he; cases he
  · rw [hn] at he; cases he
/-- What ends with the builder gone. -/
def VP (P : Program) (b : Nat) (l : List UInt8) (c : Code) (s : St) (J : Exit → St → Prop) : Prop :=
  ∀ B w0 ok0 ok σ a w, RB B w0 ok0 ok σ b l s a w → c.wp P (fun e a' w' => ∃ s' ok' σ', J e s' ∧ R B w0 ok0 ok' σ' s' a' w') a w
theorem VP_seq {b : Nat} {l : List UInt8} {x y : Code} {s : St} {J : Exit → St → Prop} (h : VB P b l x s (thenB (fun s' l' => VP P b l' y s' J) (fun e s' _ => J e s'))) : VP P b l (.seq x y) s J := by
  intro B w0 ok0 ok σ a w hR
  refine wp_seq (wp_mono (h _ _ _ _ _ _ _ hR) ?_)
  rintro e a' w' ⟨s', ok', σ', l', hJ, hR'⟩
  cases e with
  | normal => exact hJ _ _ _ _ _ _ _ hR'
  | exit id => exact ⟨s', ok', σ', hJ, hR'.to⟩
  | goto l => exact ⟨s', ok', σ', hJ, hR'.to⟩
  | ret => exact ⟨s', ok', σ', hJ, hR'.to⟩
  | panic ch => exact ⟨s', ok', σ', hJ, hR'.to⟩
  | outgrown => exact ⟨s', ok', σ', hJ, hR'.to⟩
theorem VP_seqV {b : Nat} {l : List UInt8} {x y : Code} {s : St} {J : Exit → St → Prop} (h : V P x s (thenA (fun s' => VP P b l y s' J) J)) : VP P b l (.seq x y) s J :=
  VP_seq (VB_V (V_mono h fun e s' hh => by cases e <;> exact hh))
theorem VB_new {id : Nat} {o : Oper} {y : Code} {s : St} {J : Exit → St → Prop} {d : Nat} (ho : o.op = .alloc 89) (hg : o.guard = none) (hd : o.dst = some d) (hz0 : (P.info? 89).bind (·.zero) = some (.agg #[.pointer none, .slice none 0 0])) (hE : s.E = [])
    (h : ∀ b, VP P b [] y (s.put d (bp b)) J) : V P (.seq (.region id #[o] false) y) s J := by
  intro B w0 ok0 ok σ a w hR
  obtain ⟨i, hi, hz⟩ := Option.bind_eq_some_iff.1 hz0
  generalize hzz : (Value.agg #[.pointer none, .slice none 0 0]) = z at hz
  have hcl : z.cells = #[.pointer none, .slice none 0 0] := by rw [← hzz]; rfl
  refine wp_seq (wp_region_list (wpList_plain hg fun K hK => ?_))
  have hrun : (execOp a.eval o).run P w = .ok (.value (.pointer (some ⟨w.heap.size, 0, none⟩))) (w.alloc (.cells z.cells 89)) := by
    unfold execOp
    rw [ho]
    simp [Instr.alloc, zeroValue, typeInfo, hi, hz, newVar, newRow]
  unfold Oper.wp
  rw [hrun]
  refine hK _ _ ?_
  rw [hd]
  have hw : ∀ g, ok g → (w.alloc (.cells z.cells 89)).heap[g]? = w.heap[g]? := fun g hg => Below.heap_alloc _ _ _ (hR.core.okL g hg)
  have hbase := hR.base
  have h1 := (R_base hR.core hR.defers hE (by simp) hw).put (d := d) (av := bp w.heap.size) (v := .pointer (some ⟨w.heap.size, 0, none⟩)) (Rd.v _ rfl)
  refine h w.heap.size _ _ _ _ _ _ _ ⟨⟨_, ok, .slice none 0 0, h1, ⟨Nat.le_refl _, ⟨.pointer none, .inl rfl, ?_⟩, ⟨rfl, .inl ⟨rfl, rfl⟩⟩, (by intro h; cases h)⟩, hR.below.trans (BelowX.of ((Below.refl _ _).alloc (Nat.le_refl _) _) hR.base), hbase, hR.old, hR.fresh, fun h => ?_, fun g h => (by cases h), fun g h => hR.core.okL g (hR.old g h), fun p hp => hR.core.okL _ (hR.core.lib p hp).1⟩⟩
  · rw [hcl]
    exact heap_alloc_new w _
  · have := hR.core.okL _ h
    omega
def XLB (P : Program) (b : Nat) (l : List UInt8) (ops : Array Oper) (rest : List Oper) (s : St) (J : St → List UInt8 → Prop) : Prop :=
  ∀ B w0 ok0 ok σ a w, RB B w0 ok0 ok σ b l s a w → ∀ Q : Exit → Act → World → Prop, (∀ s' l' a' w' ok' σ', J s' l' → RB B w0 ok0 ok' σ' b l' s' a' w' → Q .normal a' w') → wpList P ops Q rest a w
theorem VB_region {b : Nat} {l : List UInt8} {id : Nat} {ops : Array Oper} {s : St} {J : Exit → St → List UInt8 → Prop} (h : XLB P b l ops ops.toList s (J .normal)) : VB P b l (.region id ops false) s J := by
  intro B w0 ok0 ok σ a w hR
  exact wp_region_list (h _ _ _ _ _ _ _ hR _ fun s' l' a' w' ok' σ' hJ hR' => ⟨s', ok', σ', l', hJ, hR'⟩)
theorem XLB_nil {b : Nat} {l : List UInt8} {ops : Array Oper} {s : St} {J : St → List UInt8 → Prop} (h : J s l) : XLB P b l ops [] s J := fun _ _ _ _ _ _ _ hR _ hQ => hQ _ _ _ _ _ _ h hR
theorem XLB_cons {b : Nat} {l : List UInt8} {ops : Array Oper} {o : Oper} {rest : List Oper} {s s' : St} {J : St → List UInt8 → Prop} (hg : o.guard = none) (h : X P o s s') (hk : XLB P b l ops rest s' J) : XLB P b l ops (o :: rest) s J := by
  intro B w0 ok0 ok σ a w hR Q hQ
  refine wpList_plain hg fun K hK => ?_
  obtain ⟨w1, ok1, v, hR1, hx⟩ := hR.ex
  exact h _ _ _ _ _ _ _ hR1 K Q fun a' w' ok' σ' hR' => hK _ _ (hk _ _ _ _ _ _ _ ⟨⟨w1, ok1, v, hR', hx⟩⟩ Q hQ)
theorem XLB_1 {b : Nat} {l : List UInt8} {ops : Array Oper} {o : Oper} {rest : List Oper} {s : St} {J : St → List UInt8 → Prop} (hk : XLB P b l ops rest ((yo P o s).getD s) J) (hg : o.guard = none := by kernel_rfl) (h : (yo P o s).isSome = true := by kernel_rfl) : XLB P b l ops (o :: rest) s J := by
  cases hx : yo P o s with
  | none => rw [hx] at h; cases h
  | some s' => rw [hx] at hk; exact XLB_cons hg (yo_ok hx) hk
theorem ev_bp {ok : Nat → Prop} {σ : Nat → Loc} {w : World} {b : Nat} {y : Value} (h : Rel ok σ w (bp b) y) : y = .pointer (some ⟨b, 0, none⟩) := by
  have h2 : Rd ok w (.v (.pointer (some ⟨b, 0, none⟩))) y := h
  cases h2
  rfl
theorem ev_str {ok : Nat → Prop} {σ : Nat → Loc} {w : World} {s : ByteArray} {y : Value} (h : Rel ok σ w (.c (.v (.string s))) y) : y = .string s := by
  have h2 : Rd ok w (.v (.string s)) y := h
  cases h2
  rfl
theorem XLB_write {b : Nat} {l : List UInt8} {ops : Array Oper} {o : Oper} {rest : List Oper} {s : St} {J : St → List UInt8 → Prop} {d : Nat} {x y : Operand} {ts : Array TypeId} {str : ByteArray} (ho : o.op = .call { callee := .value (.func 61), args := #[x, y], argTypes := ts }) (hg : o.guard = none) (hd : o.dst = some d) (hlen : l.length + str.size ≤ 140737488355328)
    (hk : XLB Tryz.prog b (l ++ str.data.toList) ops rest (s.put d .bot) J) (hE : s.E = [] := by kernel_rfl) (hx : s.ev x = bp b := by kernel_rfl) (hy : s.ev y = .c (.v (.string str)) := by kernel_rfl) : XLB Tryz.prog b l ops (o :: rest) s J := by
  intro B w0 ok0 ok σ a w hR Q hQ
  obtain ⟨w1, ok1, v, hR1, hb, h1, h2, h3, h4, h5, h6, h7, h8⟩ := hR.ex
  have hlt := hb.lt
  have hbase : w1.heap.size ≤ w.heap.size := hR1.base
  have hold : ∀ k, k < w1.heap.size → w.heap[k]? = w1.heap[k]? := fun k hk => hR1.below.block k hk fun x => x
  have hbw := hb.keep hold
  have hokb : ¬ ok b := fun h => by
    rcases hR1.fresh b h with h9 | h9
    · exact h5 h9
    · have h9 : w1.heap.size ≤ b := h9
      omega
  have hokv : ∀ g, v.ownBlock = some g → ¬ ok g := fun g hg h => by
    rcases hR1.fresh g h with h9 | h9
    · exact h6 g hg h9
    · have h9 : w1.heap.size ≤ g := h9
      have := (hb.ownlt hg).2
      omega
  refine wpList_plain hg fun K hK => ?_
  refine wp_call (run_callFunc Tryz.func61 (by kernel_rfl) (by kernel_rfl)) ho ?_
  have e1 : a.eval x = .pointer (some ⟨b, 0, none⟩) := ev_bp (hx ▸ hR1.core.ev x)
  have e2 : a.eval y = .string str := ev_str (hy ▸ hR1.core.ev y)
  have e3 : ((#[x, y] : Array Operand).toList.map a.eval).toArray = #[.pointer (some ⟨b, 0, none⟩), .string str] := by simp [e1, e2]
  rw [e3]
  refine (bd_write hbw str (by rw [byteCells_length]; exact hlen) (by omega)).mono ?_
  rintro e w' ⟨rfl, v', hb', hW⟩
  refine ⟨_, rfl, hK _ _ ?_⟩
  rw [hd]
  have hw : ∀ g, ok g → w'.heap[g]? = w.heap[g]? := fun g hg => hW.block g (hR1.core.okL g hg) (fun e => hokb (e ▸ hg)) (fun e => hokv g e hg)
  have hR2 := (R_base hR1.core hR1.defers hE hW.size hw).put (d := d) (av := .bot) (v := .tuple #[.int .i64 str.size, .nilIface]) trivial
  have hbc : byteCells l ++ strCells str = byteCells (l ++ str.data.toList) := by rw [byteCells_append, strCells_eq]
  rw [hbc] at hb'
  have hoks : ∀ g, ok0 g → ok g := fun g hg => hR1.old g (h3 g hg)
  refine hk _ _ _ _ _ _ _ ⟨⟨w', ok, v', hR2, hb', (h1.trans ⟨hR1.below.os, hR1.below.tape, hR1.below.output, hR1.below.size, fun k hk _ => hold k (by omega)⟩).trans ⟨hW.os, hW.tape, hW.output, hW.size, fun k hk _ => ?_⟩, h2, hoks, fun g hg => ?_, hokb, fun g hg h => ?_, h7, h8⟩⟩ Q hQ
  · refine hW.block k (by omega) (by omega) fun e => ?_
    have := (hb.ownlt e).1
    omega
  · rcases hR1.fresh g hg with h9 | h9
    · exact h4 g h9
    · have h9 : w1.heap.size ≤ g := h9
      exact .inr (by omega)
  · rcases hW.own g hg with h9 | h9
    · exact hokv g h9 h
    · have := hR1.core.okL g h
      omega
def XLP (P : Program) (b : Nat) (l : List UInt8) (ops : Array Oper) (rest : List Oper) (s : St) (J : St → Prop) : Prop :=
  ∀ B w0 ok0 ok σ a w, RB B w0 ok0 ok σ b l s a w → ∀ Q : Exit → Act → World → Prop, (∀ s' a' w' ok' σ', J s' → R B w0 ok0 ok' σ' s' a' w' → Q .normal a' w') → wpList P ops Q rest a w
theorem VP_sreg {b : Nat} {l : List UInt8} {id : Nat} {ops : Array Oper} {y : Code} {s : St} {J : Exit → St → Prop} (h : XLP P b l ops ops.toList s (fun s' => V P y s' J)) : VP P b l (.seq (.region id ops false) y) s J := by
  intro B w0 ok0 ok σ a w hR
  exact wp_seq (wp_region_list (h _ _ _ _ _ _ _ hR _ fun s' a' w' ok' σ' hJ hR' => hJ _ _ _ _ _ _ _ hR'))
theorem XLP_string {b : Nat} {l : List UInt8} {ops : Array Oper} {o : Oper} {rest : List Oper} {s : St} {J : St → Prop} {d : Nat} {x : Operand} {ts : Array TypeId} (ho : o.op = .call { callee := .value (.func 62), args := #[x], argTypes := ts }) (hg : o.guard = none) (hd : o.dst = some d)
    (hk : XL Tryz.prog ops rest ((⟨bt s.T.length [], []⟩ : St).put d (.c (.v (.string ⟨l.toArray⟩)))) J) (hx : s.ev x = bp b := by kernel_rfl) : XLP Tryz.prog b l ops (o :: rest) s J := by
  intro B w0 ok0 ok σ a w hR Q hQ
  obtain ⟨w1, ok1, v, hR1, hb, h1, h2, h3, h4, h5, h6, h7, h8⟩ := hR.ex
  have hlt := hb.lt
  have hbase : w1.heap.size ≤ w.heap.size := hR1.base
  have hold : ∀ k, k < w1.heap.size → w.heap[k]? = w1.heap[k]? := fun k hk => hR1.below.block k hk fun x => x
  have hbw := hb.keep hold
  refine wpList_plain hg fun K hK => ?_
  refine wp_call (run_callFunc Tryz.func62 (by kernel_rfl) (by kernel_rfl)) ho ?_
  have e1 : a.eval x = .pointer (some ⟨b, 0, none⟩) := ev_bp (hx ▸ hR1.core.ev x)
  have e3 : ((#[x] : Array Operand).toList.map a.eval).toArray = #[.pointer (some ⟨b, 0, none⟩)] := by simp [e1]
  rw [e3]
  have hib : IsBuilder 89 5 b b (byteCells l) w := by
    obtain ⟨p, p1, p2⟩ := hbw.cell
    rcases p1 with rfl | rfl
    · exact .inl ⟨hbw.base, v, p2, hbw.own, hbw.ne⟩
    · exact .inr ⟨hbw.base, v, p2, hbw.own, hbw.ne⟩
  refine (show Calls Tryz.prog 62 #[.pointer (some ⟨b, 0, none⟩)] w (fun e w' => e = .returned (.string ⟨l.toArray⟩) ∧ Below b w w') from Any.Builder_String_any { Tryz.lays156 with } Tryz.Builder_Extra_156 b b l w hib (by omega)).mono ?_
  rintro e w' ⟨rfl, hW⟩
  refine ⟨_, rfl, hK _ _ ?_⟩
  rw [hd]
  have hRt := hR.to
  have hlb : Lb (fun g => ok g ∧ g < b) w' := by
    intro p hp
    obtain ⟨k1, cs, T, fz, k2, k3⟩ := hR1.core.lib p hp
    exact ⟨⟨k1, h8 p hp⟩, cs, T, fz, by rw [hW.block _ (h8 p hp)]; exact k2, k3⟩
  have hn : ∀ id, (⟨bt s.T.length [], []⟩ : St).ent id = none := fun id => rfl
  have hlen0 : ∀ k : Nat, (bt k []).length = k := fun k => by induction k with
    | zero => rfl
    | succ k ih => simp only [bt, List.length_cons, ih]
  have hget : ∀ t, (⟨bt s.T.length [], []⟩ : St).get t = .bot := by
    intro t
    have : ∀ (k t : Nat), ((bt k [])[t]?).getD AV.bot = .bot := by
      intro k
      induction k with
      | zero => intro t; rfl
      | succ k ih =>
        intro t
        cases t with
        | zero => rfl
        | succ t => exact ih t
    exact this _ t
  have hC : Core (fun g => ok g ∧ g < b) σ (⟨bt s.T.length [], []⟩ : St) a w' := by
    refine ⟨?_, fun g hg => Nat.lt_of_lt_of_le (hR1.core.okL g hg.1) hW.size, hlb, fun t => ?_, fun id e he => ?_, fun id e g he => ?_, fun x y e f g he => ?_⟩
    · show (bt s.T.length []).length ≤ _
      rw [hlen0]
      exact hR1.core.len
    · rw [hget]; trivial
    · rw [hn] at he; cases he
    · rw [hn] at he; cases he
    · rw [hn] at he; cases he
  have hR2 : R B w0 ok0 (fun g => ok g ∧ g < b) σ (⟨bt s.T.length [], []⟩ : St) a w' := by
    refine ⟨hC, hR1.defers, hRt.below.trans ⟨hW.os, hW.tape, hW.output, hW.size, fun k hk _ => hW.block k (by omega)⟩, Nat.le_trans hRt.base hW.size, fun g hg => ⟨hRt.old g hg, h7 g hg⟩, fun g hg => hRt.fresh g hg.1, fun id e g he => ?_⟩
    rw [hn] at he; cases he
  exact hk _ _ _ _ _ _ _ (hR2.put (Rd.v _ rfl)) Q hQ
end Go.Proofs.YtfmjfofocklgpaaGreatDoor
namespace Go.Proofs.YtfmjfofocklgpaaGreatDoor
open Go.RowKit
set_option linter.unusedVariables false
set_option linter.unusedSimpArgs false
set_option maxRecDepth 100000
set_option maxHeartbeats 400000
def c9 (x : ByteArray) : List Tr := [.v (.string x)]
def c3 (x : Int) : List Tr := [Ti x]
def c5 (x : Int) : List Tr := [.v (.int .u8 x)]
def c73 (x : (ByteArray × ((Int × Int × Int)))) : List Tr := [.v (.string x.1), Ti x.2.1, Ti x.2.2.1, Ti x.2.2.2]
def c40 (x : (Int × ByteArray × ByteArray × ByteArray × ((Int × Int × Int)))) : List Tr := [Ti x.1, .v (.string x.2.1), .v (.string x.2.2.1), .v (.string x.2.2.2.1), Ti x.2.2.2.2.1, Ti x.2.2.2.2.2.1, Ti x.2.2.2.2.2.2]
def zv3 : Value := .int .i64 0
def zv5 : Value := .int .u8 0
def zv9 : Value := .string ByteArray.empty
def zv40 : Value := .agg #[.int .i64 0, .string ByteArray.empty, .string ByteArray.empty, .string ByteArray.empty, .int .i64 0, .int .i64 0, .int .i64 0]
def zv73 : Value := .agg #[.string ByteArray.empty, .int .i64 0, .int .i64 0, .int .i64 0]
theorem iz3 : (Tryz.prog.info? 3).map (fun i => (i.zero, i.size)) = some (some zv3, 1) := by kernel_rfl
theorem iz5 : (Tryz.prog.info? 5).map (fun i => (i.zero, i.size)) = some (some zv5, 1) := by kernel_rfl
theorem iz9 : (Tryz.prog.info? 9).map (fun i => (i.zero, i.size)) = some (some zv9, 1) := by kernel_rfl
theorem iz40 : (Tryz.prog.info? 40).map (fun i => (i.zero, i.size)) = some (some zv40, 7) := by kernel_rfl
theorem iz73 : (Tryz.prog.info? 73).map (fun i => (i.zero, i.size)) = some (some zv73, 4) := by kernel_rfl
theorem izb3 : (Tryz.prog.info? 3).map (fun i => (i.zero, i.size, i.bytes)) = some (some zv3, 1, 8) := by kernel_rfl
theorem izb9 : (Tryz.prog.info? 9).map (fun i => (i.zero, i.size, i.bytes)) = some (some zv9, 1, 16) := by kernel_rfl
theorem izb40 : (Tryz.prog.info? 40).map (fun i => (i.zero, i.size, i.bytes)) = some (some zv40, 7, 80) := by kernel_rfl
theorem izb73 : (Tryz.prog.info? 73).map (fun i => (i.zero, i.size, i.bytes)) = some (some zv73, 4, 40) := by kernel_rfl
theorem sc3 : scalar Tryz.prog 3 := ⟨_, Tryz.underlying3, rfl⟩
theorem sc9 : scalar Tryz.prog 9 := ⟨_, Tryz.underlying9, rfl⟩
theorem sz3 : (Tryz.prog.info? 3).map (·.size) = some 1 := by kernel_rfl
theorem sz9 : (Tryz.prog.info? 9).map (·.size) = some 1 := by kernel_rfl
theorem sz40 : (Tryz.prog.info? 40).map (·.size) = some 7 := by kernel_rfl
theorem sz73 : (Tryz.prog.info? 73).map (·.size) = some 4 := by kernel_rfl
theorem wd38 : wide Tryz.prog 38 3 := ⟨⟨_, Tryz.underlying38, rfl⟩, by kernel_rfl⟩
theorem wd40 : wide Tryz.prog 40 7 := ⟨⟨_, Tryz.underlying40, rfl⟩, by kernel_rfl⟩
theorem wd73 : wide Tryz.prog 73 4 := ⟨⟨_, Tryz.underlying73, rfl⟩, by kernel_rfl⟩
theorem wd109 : wide Tryz.prog 109 4 := ⟨⟨_, Tryz.underlying109, rfl⟩, by kernel_rfl⟩
theorem wd178 : wide Tryz.prog 178 12 := ⟨⟨_, Tryz.underlying178, rfl⟩, by kernel_rfl⟩
def pl38 : Nat → Option (Nat × Nat) := fun i => (#[(0, 1), (1, 1), (2, 1)] : Array (Nat × Nat))[i]?
theorem bt38 : ∀ ps, Tryz.prog.built 38 ps = Instr.fill pl38 #[.int .i64 0, .int .i64 0, .int .i64 0] ps := fun ps => by kernel_rfl
def pl40 : Nat → Option (Nat × Nat) := fun i => (#[(0, 1), (1, 1), (2, 1), (3, 1), (4, 3)] : Array (Nat × Nat))[i]?
theorem bt40 : ∀ ps, Tryz.prog.built 40 ps = Instr.fill pl40 #[.int .i64 0, .string ByteArray.empty, .string ByteArray.empty, .string ByteArray.empty, .int .i64 0, .int .i64 0, .int .i64 0] ps := fun ps => by kernel_rfl
def pl73 : Nat → Option (Nat × Nat) := fun i => (#[(0, 1), (1, 3)] : Array (Nat × Nat))[i]?
theorem bt73 : ∀ ps, Tryz.prog.built 73 ps = Instr.fill pl73 #[.string ByteArray.empty, .int .i64 0, .int .i64 0, .int .i64 0] ps := fun ps => by kernel_rfl
def pl109 : Nat → Option (Nat × Nat) := fun i => (#[(0, 1), (1, 1), (2, 1), (3, 1)] : Array (Nat × Nat))[i]?
theorem bt109 : ∀ ps, Tryz.prog.built 109 ps = Instr.fill pl109 #[.int .i64 0, .int .i64 0, .int .i64 0, .int .i64 0] ps := fun ps => by kernel_rfl
def pl178 : Nat → Option (Nat × Nat) := fun i => (#[(0, 1), (1, 1), (2, 1), (3, 1), (4, 4), (8, 4)] : Array (Nat × Nat))[i]?
theorem bt178 : ∀ ps, Tryz.prog.built 178 ps = Instr.fill pl178 #[.int .i64 0, .int .i64 0, .int .i64 0, .int .i64 0, .int .i64 0, .int .i64 0, .int .i64 0, .int .i64 0, .int .i64 0, .int .i64 0, .int .i64 0, .int .i64 0] ps := fun ps => by kernel_rfl
theorem eqg38 : EqAg3 Tryz.prog .eql 38 := by
 intro a0 a1 a2 b0 b1 b2 x y w
 have hg : (eqGuard .eql 38 x y (.agg #[.int .i64 a0, .int .i64 a1, .int .i64 a2]) (.agg #[.int .i64 b0, .int .i64 b1, .int .i64 b2])).run Tryz.prog w = .ok () w := by simp [eqGuard, (by kernel_rfl : Tryz.prog.eqGuardType Tryz.prog.depth 38 = false)]
 have hf : (Tryz.prog.fieldsOf 38).toList = (match Tryz.prog.underlying 38 with | some (.struct fs) => fs.toList | _ => []) := by kernel_rfl
 refine ⟨hg, ?_⟩
 rw [run_eql_struct, run_equalIn_agg (d := 9999) (ht := by kernel_rfl) (hp := by kernel_rfl), hf, Tryz.underlying38]
 by_cases h0 : a0 = b0 <;> by_cases h1 : a1 = b1 <;> by_cases h2 : a2 = b2 <;> simp [Op.eqFields, part, go_sem, h0, h1, h2]
theorem neg38 : EqAg3 Tryz.prog .neq 38 := by
 intro a0 a1 a2 b0 b1 b2 x y w
 have hg : (eqGuard .neq 38 x y (.agg #[.int .i64 a0, .int .i64 a1, .int .i64 a2]) (.agg #[.int .i64 b0, .int .i64 b1, .int .i64 b2])).run Tryz.prog w = .ok () w := by simp [eqGuard, (by kernel_rfl : Tryz.prog.eqGuardType Tryz.prog.depth 38 = false)]
 have hf : (Tryz.prog.fieldsOf 38).toList = (match Tryz.prog.underlying 38 with | some (.struct fs) => fs.toList | _ => []) := by kernel_rfl
 refine ⟨hg, ?_⟩
 rw [run_neq_struct, run_equalIn_agg (d := 9999) (ht := by kernel_rfl) (hp := by kernel_rfl), hf, Tryz.underlying38]
 by_cases h0 : a0 = b0 <;> by_cases h1 : a1 = b1 <;> by_cases h2 : a2 = b2 <;> simp [Op.eqFields, part, go_sem, h0, h1, h2]
theorem cx_242 : ∀ args w, (callFunc 242 args).run Tryz.prog w = ((Extern.BytealgIndexByte.indexByte args).run Tryz.prog w).andThen fun v w' => .ok (.value v) w' := fun args w => run_callFunc_extern Tryz.func242 kk kk kk kk args w
def ek176 (x : ByteArray) : Value := .string x
def ev176 (x : Int) : Value := .int .i64 x
def kv176 (p : ByteArray × Int) : Value × Value := (ek176 p.1, ev176 p.2)
theorem kt176 : KeyT Tryz.prog 9 ek176 := by
 refine keyT_now (.string) Tryz.underlying9 (fun b a w => ?_) (fun a b => ?_) (fun a => ?_)
 ·exact MapKept.run_checkKey Tryz.underlying9 (by simp [MapKept.IsKey, ek176]) b 9999
 ·simp [ek176, Instr.sameNow, ba_beq]
 ·simp [ek176, Instr.sameBits, ba_beq]
theorem mo176 : MpOk Tryz.prog 176 ek176 ev176 0 := ⟨9, 3, Tryz.underlying176, kt176, by kernel_rfl, fun _ => rfl⟩
theorem cf_spec_l1Split : CfW Tryz.prog 85 := cfW Tryz.func85
theorem s_spec_l1Split {vs1 : ByteArray} {b2 : Int} {r : List ByteArray} (h : r_spec_l1Split vs1 b2 = some r) : zL Tryz.prog 85 [.c (.v (.string vs1)), .c (.v (.int .u8 b2))] (.ow 0) [(0, .arr 9 1 (r.map c9))] := by
 refine CtW [4] Tryz.func85 rfl rfl 34 ?_
 unfold r_spec_l1Split at h
 refine VS ?_
 refine L1 rfl rfl (Y1_nil (e := 9) 1 (by decide) (.inl rfl)) ?_
 refine YF ?_
 refine VS ?_
 refine L1 rfl rfl (Y1_nil (e := 9) 1 (by decide) (.inl rfl)) ?_
 refine YF ?_
 refine VE ?_
 refine zH ?_
 refine VE ?_
 obtain ⟨o7, hLo7, h⟩ := zA h
 refine V_toK (mb 34 97) [40] (s1 := ⟨.c (.v (.string vs1)) :: bt 4 (.ow 40 :: I o7.1 :: bt 27 []), [(40, .arr 9 1 (o7.2.map c9))]⟩) ?_ ?_
 ·clear h
  refine zK (V_loop (fun n s => ∃ (vfrom3 : Int) (i4 : Int) (l5 : List ByteArray), s.keep (mb 34 227) [40] = (⟨.c (.v (.string vs1)) :: .c (.v (.int .u8 b2)) :: bt 3 (.ow 40 :: I vfrom3 :: I i4 :: bt 26 []), [(40, .arr 9 1 (l5.map c9))]⟩ : St) ∧ r_spec_l1Split_L6 b2 vs1 n vfrom3 i4 l5 = some o7) FU ⟨_, _, _,  kk, hLo7⟩ ?_)
  clear hLo7
  rintro n s ⟨vfrom3, i4, l5, hs, h⟩
  refine V_keep _ _ hs ?_
  clear hs
  cases n with
  | zero => cases h
  | succ n =>
   rw [r_spec_l1Split_L6] at h
   refine zH ?_
   refine VS ?_
   refine YF ?_
   refine VC h (fun h => ?_) (fun h => ?_)
   ·refine zI ?_
    show V _ _ _ _
    refine zH ?_
    refine zK ?_
    obtain ⟨e9, he9, h⟩ := zA h
    refine VS ?_
    refine YR 2 ?_
    refine L0 rfl rfl (Y0_idxs (b := vs1) (k := .i64) (n := i4) (v := e9) Tryz.underlying9 rfl kk kk he9) ?_
    refine YF ?_
    refine VC h (fun h => ?_) (fun h => ?_)
    ·obtain ⟨u11, hu11, h⟩ := zA h
     obtain ⟨u12, hu12, h⟩ := zA h
     refine VS ?_
     refine YR 4 ?_
     refine L0 rfl rfl (Y0_slices (b := vs1) (l := vfrom3) (h := i4) Tryz.underlying9 rfl kk (fun y hy => by cases hy; exact ⟨.i64, kk⟩) (fun hh => by cases hh) (fun y hy => by cases hy; exact ⟨.i64, kk⟩) (fun hh => by cases hh) (slc_some hu11)) ?_
     refine L1 rfl rfl (Y1_bslice (z := zv9) (els := [vs1.extract (Int.toNat vfrom3) (Int.toNat i4)].map c9) Tryz.underlying66 iz9 rfl (by decide) rfl kk rfl (by simp [c9]) (by decide) (by decide)) ?_
     refine XL_cons rfl (X_appendM (c := c9) (xs := l5) (ys := [vs1.extract (Int.toNat vfrom3) (Int.toNat i4)]) (id := 40) (z := zv9) rfl rfl Tryz.underlying66 izb9 rfl kk kk kk (fun _ => rfl) (by simp) (room_some hu12) (by decide)) ?_
     refine YF ?_
     obtain ⟨vfrom13, hvfrom13, h⟩ := zQ h
     refine V_reg (mb 34 227) [40] (s1 := ⟨.c (.v (.string vs1)) :: .c (.v (.int .u8 b2)) :: bt 3 (.ow 40 :: I vfrom13 :: I i4 :: bt 26 []), [(40, .arr 9 1 ((l5 ++ ([vs1.extract (Int.toNat vfrom3) (Int.toNat i4)])).map c9))]⟩) ?_ ?_
     ·refine XR 3 ?_
      refine zJ ?_
      subst hvfrom13
      kernel_rfl
     show V _ _ _ _
     obtain ⟨i14, hi14, h⟩ := zQ h
     refine V_reg (mb 34 227) [40] (s1 := ⟨.c (.v (.string vs1)) :: .c (.v (.int .u8 b2)) :: bt 3 (.ow 40 :: I vfrom13 :: I i14 :: bt 26 []), [(40, .arr 9 1 ((l5 ++ ([vs1.extract (Int.toNat vfrom3) (Int.toNat i4)])).map c9))]⟩) ?_ ?_
     ·refine XR 3 ?_
      refine zJ ?_
      subst hi14
      kernel_rfl
     exact ⟨n, Nat.lt_succ_self n, _, _, _,  kk, h⟩
    ·refine zI ?_
     show V _ _ _ _
     obtain ⟨i15, hi15, h⟩ := zQ h
     refine V_reg (mb 34 227) [40] (s1 := ⟨.c (.v (.string vs1)) :: .c (.v (.int .u8 b2)) :: bt 3 (.ow 40 :: I vfrom3 :: I i15 :: bt 26 []), [(40, .arr 9 1 (l5.map c9))]⟩) ?_ ?_
     ·refine XR 3 ?_
      refine zJ ?_
      subst hi15
      kernel_rfl
     exact ⟨n, Nat.lt_succ_self n, _, _, _,  kk, h⟩
   ·refine V_exit ?_
    obtain rfl := zB h
    show St.keep _ _ _ = _
    kernel_rfl
 show V _ _ _ _
 obtain ⟨u16, hu16, h⟩ := zA h
 obtain ⟨u17, hu17, h⟩ := zA h
 obtain ⟨l18, hl18, h⟩ := zA h
 have hl18 := zB hl18
 refine zN (mb 34 16) [40] (s1 := ⟨bt 4 (.ow 40 :: bt 29 []), [(40, .arr 9 1 (l18.map c9))]⟩) ?_ ?_
 ·refine XR 3 ?_
  refine L0 rfl rfl (Y0_slices (b := vs1) (l := o7.1) (h := (vs1.size : Int)) Tryz.underlying9 rfl kk (fun y hy => by cases hy; exact ⟨.i64, kk⟩) (fun hh => by cases hh) (fun y hy => by cases hy) (fun _ => rfl) (slc_some hu16)) ?_
  refine L1 rfl rfl (Y1_bslice (z := zv9) (els := [vs1.extract (Int.toNat o7.1) (Int.toNat ((vs1.size : Int)))].map c9) Tryz.underlying66 iz9 rfl (by decide) rfl kk rfl (by simp [c9]) (by decide) (by decide)) ?_
  refine XL_cons rfl (X_appendM (c := c9) (xs := o7.2) (ys := [vs1.extract (Int.toNat o7.1) (Int.toNat ((vs1.size : Int)))]) (id := 40) (z := zv9) rfl rfl Tryz.underlying66 izb9 rfl kk kk kk (fun _ => rfl) (by simp) (room_some hu17) (by decide)) ?_
  refine XR 1 ?_
  refine zJ ?_
  subst hl18
  kernel_rfl
 cases h
 exact zE VT
theorem cf_spec_l1In : CfW Tryz.prog 91 := cfW Tryz.func91
theorem s_spec_l1In {vn1 : Int} {lo2 : Int} {hi3 : Int} {r : Bool} (h : r_spec_l1In vn1 lo2 hi3 = some r) : zL Tryz.prog 91 [I vn1, I lo2, I hi3] (Bo r) [] := by
 refine CtW [6] Tryz.func91 rfl rfl 15 ?_
 unfold r_spec_l1In at h
 refine VE ?_
 refine zN (mb 15 64) [] (s1 := ⟨bt 6 (Bo (bif (leI lo2 vn1) then (leI vn1 hi3) else false) :: bt 8 []), []⟩) ?_ ?_
 ·refine YR 4 ?_
  refine zD (leI lo2 vn1) (fun hc4 => ?_) (fun hc4 => ?_)
  ·refine YQ hc4 ?_
   exact YE (by rw [hc4]; kernel_rfl)
  ·refine YQ hc4 ?_
   exact YE (by rw [hc4]; kernel_rfl)
 cases h
 exact zE VT
theorem cf_spec_lgWords : CfW Tryz.prog 180 := cfW Tryz.func180
theorem s_spec_lgWords {r : List ByteArray} (h : r_spec_lgWords = some r) : zL Tryz.prog 180 [] (.ow 0) [(0, .arr 9 1 (r.map c9))] := by
 refine CtW [0] Tryz.func180 rfl rfl 2 ?_
 unfold r_spec_lgWords at h
 refine VS ?_
 refine L1 rfl rfl (Y1_nil (e := 9) 1 (by decide) (.inl rfl)) ?_
 refine YF ?_
 obtain ⟨l1, hl1, h⟩ := zA h
 have hl1 := zB hl1
 refine zN (mb 2 1) [8] (s1 := ⟨.ow 8 :: .bot :: [], [(8, .arr 9 1 (l1.map c9))]⟩) ?_ ?_
 ·refine L1 rfl rfl (Y1_bslice (z := zv9) (els := [(⟨#[]⟩ : ByteArray), (⟨#[97, 100, 100]⟩ : ByteArray), (⟨#[100, 114, 111, 112]⟩ : ByteArray), (⟨#[109, 117, 108]⟩ : ByteArray), (⟨#[105, 110, 118]⟩ : ByteArray), (⟨#[109, 111, 118, 101]⟩ : ByteArray)].map c9) Tryz.underlying66 iz9 rfl (by decide) rfl kk rfl (by simp [c9]) (by decide) (by decide)) ?_
  refine XR 1 ?_
  refine zJ ?_
  subst hl1
  kernel_rfl
 cases h
 exact zE VT
theorem cf_spec_lgHasForm : CfW Tryz.prog 93 := cfW Tryz.func93
theorem s_spec_lgHasForm {kind1 : Int} {r : Bool} (h : r_spec_lgHasForm kind1 = some r) : zL Tryz.prog 93 [I kind1] (Bo r) [] := by
 refine CtW [2] Tryz.func93 rfl rfl 9 ?_
 unfold r_spec_lgHasForm at h
 refine VE ?_
 refine zN (mb 9 4) [] (s1 := ⟨.bot :: .bot :: Bo (bif (eqI kind1 1) then true else (eqI kind1 5)) :: bt 6 [], []⟩) ?_ ?_
 ·refine YR 3 ?_
  refine zD (eqI kind1 1) (fun hc2 => ?_) (fun hc2 => ?_)
  ·refine YQ hc2 ?_
   exact YE (by rw [hc2]; kernel_rfl)
  ·refine YQ hc2 ?_
   exact YE (by rw [hc2]; kernel_rfl)
 cases h
 exact zE VT
theorem cf_spec_foInside : CfW Tryz.prog 214 := cfW Tryz.func214
theorem s_spec_foInside {vs1 : ByteArray} {first2 : Int} {last3 : Int} {r : (ByteArray × Bool)} (h : r_spec_foInside vs1 first2 last3 = some r) : zL Tryz.prog 214 [.c (.v (.string vs1)), .c (.v (.int .u8 first2)), .c (.v (.int .u8 last3))] (.tc (.c (.v (.string r.1))) (.tc (Bo r.2) .tn)) [] := by
 refine CtW [6, 7] Tryz.func214 rfl rfl 31 ?_
 unfold r_spec_foInside at h
 refine VE ?_
 refine zH ?_
 obtain ⟨b6, hb6, h⟩ := zA h
 obtain ⟨b9, hb9, h⟩ := zA h
 refine zN (mb 31 33554433) [] (s1 := ⟨.c (.v (.string vs1)) :: bt 24 (Bo b9 :: bt 5 []), []⟩) ?_ ?_
 ·refine YR 4 ?_
  refine zD (ltI ((vs1.size : Int)) 2) (fun hc4 => ?_) (fun hc4 => ?_)
  ·have hb6 := zB (of_true hb6 hc4)
   refine YQ hc4 ?_
   refine YR 6 ?_
   subst hb6
   have hc7 : true = true := rfl
   have hb9 := zB (of_true hb9 hc7)
   exact YE (by rw [← hb9]; (try rw [hc4]); kernel_rfl)
  ·have hb6 := of_false hb6 hc4
   obtain ⟨e5, he5, hb6⟩ := zA hb6
   have hb6 := zB hb6
   refine YQ hc4 ?_
   refine YR 1 ?_
   refine YT (X_of_Y0 rfl (Y0_idxs (b := vs1) (k := .i64) (n := 0) (v := e5) Tryz.underlying9 rfl kk kk he5)) ?_
   refine YR 4 ?_
   refine zD b6 (fun hc7 => ?_) (fun hc7 => ?_)
   ·have hb9 := zB (of_true hb9 hc7)
    refine YQ hc7 ?_ (by rw [← hb6]; (try rw [← hb9]); (try rw [hc4]); kernel_rfl)
    exact YE (by rw [← hb9]; (try rw [hc4]); (try rw [hc7]); kernel_rfl)
   ·have hb9 := of_false hb9 hc7
    obtain ⟨e8, he8, hb9⟩ := zA hb9
    have hb9 := zB hb9
    refine YQ hc7 ?_ (by rw [← hb6]; (try rw [← hb9]); (try rw [hc4]); kernel_rfl)
    refine YR 4 ?_
    refine YT (X_of_Y0 rfl (Y0_idxs (b := vs1) (k := .i64) (n := w64 (((vs1.size : Int)) - 1)) (v := e8) Tryz.underlying9 rfl kk kk he8)) ?_
    exact YE (by rw [← hb9]; (try rw [hc4]); (try rw [hc7]); kernel_rfl)
 refine VC h (fun h => ?_) (fun h => ?_)
 ·refine VE ?_
  cases h
  exact zE VT
 ·refine zI ?_
  show V _ _ _ _
  obtain ⟨u11, hu11, h⟩ := zA h
  refine VS ?_
  refine YR 4 ?_
  refine L0 rfl rfl (Y0_slices (b := vs1) (l := 1) (h := w64 (((vs1.size : Int)) - 1)) Tryz.underlying9 rfl kk (fun y hy => by cases hy; exact ⟨.i64, kk⟩) (fun hh => by cases hh) (fun y hy => by cases hy; exact ⟨.i64, kk⟩) (fun hh => by cases hh) (slc_some hu11)) ?_
  refine YF ?_
  cases h
  exact zE VT
theorem cf_spec_nuRead : CfW Tryz.prog 216 := cfW Tryz.func216
theorem s_spec_nuRead {vs1 : ByteArray} {r : Int} (h : r_spec_nuRead vs1 = some r) : zL Tryz.prog 216 [.c (.v (.string vs1))] (I r) [] := by
 refine CtW [2] Tryz.func216 rfl rfl 44 ?_
 unfold r_spec_nuRead at h
 refine VE ?_
 refine zH ?_
 obtain ⟨y2, hy2, h⟩ := zA h
 obtain ⟨b6, hb6, h⟩ := zA h
 refine zN (mb 44 262145) [] (s1 := ⟨.c (.v (.string vs1)) :: bt 17 (Bo b6 :: bt 25 []), []⟩) ?_ ?_
 ·refine YK 2 (s_spec_l1In hy2) cf_spec_l1In ?_
  refine YR 2 ?_
  refine zD (!y2) (fun hc3 => ?_) (fun hc3 => ?_)
  ·have hb6 := zB (of_true hb6 hc3)
   refine YQ hc3 ?_
   exact YE (by rw [← hb6]; (try rw [hc3]); kernel_rfl)
  ·have hb6 := of_false hb6 hc3
   obtain ⟨e4, he4, hb6⟩ := zA hb6
   have hb6 := zB hb6
   refine YQ hc3 ?_
   refine YR 1 ?_
   refine YT (X_of_Y0 rfl (Y0_idxs (b := vs1) (k := .i64) (n := 0) (v := e4) Tryz.underlying9 rfl kk kk he4)) ?_
   refine YR 2 ?_
   refine zD (eqI e4 48) (fun hc5 => ?_) (fun hc5 => ?_)
   ·refine YQ hc5 ?_
    exact YE (by rw [← hb6]; (try rw [hc5]); (try rw [hc3]); kernel_rfl)
   ·refine YQ hc5 ?_
    exact YE (by rw [← hb6]; (try rw [hc5]); (try rw [hc3]); kernel_rfl)
 refine VC h (fun h => ?_) (fun h => ?_)
 ·refine VE ?_
  cases h
  exact zE VT
 ·refine zI ?_
  show V _ _ _ _
  refine VE ?_
  refine zH ?_
  refine VE ?_
  obtain ⟨qo11, hLo11, hko11⟩ := zA h
  refine V_toS (q := qo11) (S := fun o11 => ⟨bt 3 (I o11 :: bt 40 []), []⟩) (mb 44 8) [] ?_ ?_
  ·refine zK (V_loop (fun n s => ∃ (vn8 : Int) (i9 : Int), s.keep (mb 44 25) [] = (⟨.c (.v (.string vs1)) :: .bot :: .bot :: I vn8 :: I i9 :: bt 39 [], []⟩ : St) ∧ r_spec_nuRead_L10 vs1 n vn8 i9 = some qo11) FU ⟨_, _,  kk, hLo11⟩ ?_)
   clear hLo11
   rintro n s ⟨vn8, i9, hs, h⟩
   refine V_keep _ _ hs ?_
   clear hs
   cases n with
   | zero => cases h
   | succ n =>
    rw [r_spec_nuRead_L10] at h
    refine zH ?_
    refine VS ?_
    refine YF ?_
    refine VC h (fun h => ?_) (fun h => ?_)
    ·refine zI ?_
     show V _ _ _ _
     refine zH ?_
     refine zK ?_
     refine zH ?_
     obtain ⟨e13, he13, h⟩ := zA h
     obtain ⟨b16, hb16, h⟩ := zA h
     refine zN (mb 44 17179869209) [] (s1 := ⟨.c (.v (.string vs1)) :: .bot :: .bot :: I vn8 :: I i9 :: bt 29 (Bo b16 :: bt 9 []), []⟩) ?_ ?_
     ·refine YR 2 ?_
      refine L0 rfl rfl (Y0_idxs (b := vs1) (k := .i64) (n := i9) (v := e13) Tryz.underlying9 rfl kk kk he13) ?_
      refine YR 2 ?_
      refine zD (ltI e13 48) (fun hc14 => ?_) (fun hc14 => ?_)
      ·have hb16 := zB (of_true hb16 hc14)
       refine YQ hc14 ?_
       exact YE (by rw [← hb16]; (try rw [hc14]); kernel_rfl)
      ·have hb16 := of_false hb16 hc14
       obtain ⟨e15, he15, hb16⟩ := zA hb16
       have hb16 := zB hb16
       refine YQ hc14 ?_
       refine YR 2 ?_
       refine YT (X_of_Y0 rfl (Y0_idxs (b := vs1) (k := .i64) (n := i9) (v := e15) Tryz.underlying9 rfl kk kk he15)) ?_
       exact YE (by rw [← hb16]; (try rw [hc14]); kernel_rfl)
     refine VC h (fun h => ?_) (fun h => ?_)
     ·refine VE ?_
      refine zE ?_
      obtain rfl := zB h
      have h := hko11
      obtain rfl := zB h
      exact VT
     ·refine zI ?_
      show V _ _ _ _
      obtain ⟨e18, he18, h⟩ := zA h
      obtain ⟨vn19, hvn19, h⟩ := zQ h
      refine V_reg (mb 44 25) [] (s1 := ⟨.c (.v (.string vs1)) :: .bot :: .bot :: I vn19 :: I i9 :: bt 39 [], []⟩) ?_ ?_
      ·refine XR 4 ?_
       refine L0 rfl rfl (Y0_idxs (b := vs1) (k := .i64) (n := i9) (v := e18) Tryz.underlying9 rfl kk kk he18) ?_
       refine L0 rfl rfl (Y0_sub (k := .u8) (a := e18) (b := 48) rfl kk kk) ?_
       refine L0 rfl rfl (Y0_conv (k2 := .u8) (a := IntKind.u8.wrap (e18 - 48)) Tryz.underlying5 Tryz.underlying3 rfl kk) ?_
       refine XR 2 ?_
       refine zJ ?_
       subst hvn19
       kernel_rfl
      show V _ _ _ _
      obtain ⟨i20, hi20, h⟩ := zQ h
      refine V_reg (mb 44 25) [] (s1 := ⟨.c (.v (.string vs1)) :: .bot :: .bot :: I vn19 :: I i20 :: bt 39 [], []⟩) ?_ ?_
      ·refine XR 3 ?_
       refine zJ ?_
       subst hi20
       kernel_rfl
      exact ⟨n, Nat.lt_succ_self n, _, _,  kk, h⟩
    ·refine V_exit ?_
     obtain rfl := zB h
     exact ⟨_, rfl, kk⟩
  rintro o11 rfl
  have h := hko11
  clear hko11
  show V _ _ _ _
  refine VE ?_
  cases h
  exact zE VT
theorem cf_spec_foInt : CfW Tryz.prog 146 := cfW Tryz.func146
theorem s_spec_foInt {vs1 : ByteArray} {r : (Int × Bool)} (h : r_spec_foInt vs1 = some r) : zL Tryz.prog 146 [.c (.v (.string vs1))] (.tc (I r.1) (.tc (Bo r.2) .tn)) [] := by
 refine CtW [2, 3] Tryz.func146 rfl rfl 36 ?_
 unfold r_spec_foInt at h
 refine VE ?_
 obtain ⟨b4, hb4, h⟩ := zA h
 refine zN (mb 36 17) [] (s1 := ⟨.c (.v (.string vs1)) :: bt 3 (Bo b4 :: bt 31 []), []⟩) ?_ ?_
 ·refine YR 4 ?_
  refine zD (ltI 1 ((vs1.size : Int))) (fun hc2 => ?_) (fun hc2 => ?_)
  ·have hb4 := of_true hb4 hc2
   obtain ⟨e3, he3, hb4⟩ := zA hb4
   have hb4 := zB hb4
   refine YQ hc2 ?_
   refine YR 1 ?_
   refine YT (X_of_Y0 rfl (Y0_idxs (b := vs1) (k := .i64) (n := 0) (v := e3) Tryz.underlying9 rfl kk kk he3)) ?_
   exact YE (by rw [← hb4]; (try rw [hc2]); kernel_rfl)
  ·have hb4 := zB (of_false hb4 hc2)
   refine YQ hc2 ?_
   exact YE (by rw [← hb4]; (try rw [hc2]); kernel_rfl)
 obtain ⟨j5, hj5, h⟩ := zA h
 refine V_cutK (mb 36 17) [] (s1 := ⟨.c (.v (.string j5)) :: bt 3 (Bo b4 :: bt 31 []), []⟩) ?_ ?_
 ·clear h
  have h := hj5
  clear hj5
  refine VE ?_
  refine VC h (fun h => ?_) (fun h => ?_)
  ·obtain ⟨u7, hu7, h⟩ := zA h
   refine V_region ?_
   refine YR 1 ?_
   refine L0 rfl rfl (Y0_slices (b := vs1) (l := 1) (h := (vs1.size : Int)) Tryz.underlying9 rfl kk (fun y hy => by cases hy; exact ⟨.i64, kk⟩) (fun hh => by cases hh) (fun y hy => by cases hy) (fun _ => rfl) (slc_some hu7)) ?_
   refine YF ?_
   obtain rfl := zB h
   show St.keep _ _ _ = _
   kernel_rfl
  ·refine zI ?_
   obtain rfl := zB h
   show St.keep _ _ _ = _
   kernel_rfl
 obtain ⟨y8, hy8, h⟩ := zA h
 refine VS ?_
 refine YK 1 (s_spec_nuRead hy8) cf_spec_nuRead ?_
 refine YF ?_
 refine zH ?_
 obtain ⟨t12, ht12, h⟩ := zA h
 have ht12 := zB ht12
 refine zN (mb 36 2147483696) [] (s1 := ⟨bt 4 (Bo b4 :: I y8 :: bt 25 (Bo t12 :: bt 4 [])), []⟩) ?_ ?_
 ·refine YR 3 ?_
  refine zD (ltI y8 0) (fun hc9 => ?_) (fun hc9 => ?_)
  ·refine YQ hc9 ?_
   refine YR 7 ?_
   refine zD (bif (ltI y8 0) then true else (bif b4 then (eqI y8 0) else false)) (fun hc11 => ?_) (fun hc11 => ?_)
   ·refine YQ hc11 ?_ (by rw [hc9]; kernel_rfl)
    exact YE (by rw [← ht12]; (try rw [hc11]); (try rw [hc9]); kernel_rfl)
   ·refine YQ hc11 ?_ (by rw [hc9]; kernel_rfl)
    exact YE (by rw [← ht12]; (try rw [hc11]); (try rw [hc9]); kernel_rfl)
  ·refine YQ hc9 ?_
   refine YR 2 ?_
   refine zD b4 (fun hc10 => ?_) (fun hc10 => ?_)
   ·refine YQ hc10 ?_
    refine YR 5 ?_
    refine zD (bif (ltI y8 0) then true else (bif b4 then (eqI y8 0) else false)) (fun hc11 => ?_) (fun hc11 => ?_)
    ·refine YQ hc11 ?_ (by rw [hc9]; (try rw [hc10]); kernel_rfl)
     exact YE (by rw [← ht12]; (try rw [hc11]); (try rw [hc9]); (try rw [hc10]); kernel_rfl)
    ·refine YQ hc11 ?_ (by rw [hc9]; (try rw [hc10]); kernel_rfl)
     exact YE (by rw [← ht12]; (try rw [hc11]); (try rw [hc9]); (try rw [hc10]); kernel_rfl)
   ·refine YQ hc10 ?_
    refine YR 5 ?_
    refine zD (bif (ltI y8 0) then true else (bif b4 then (eqI y8 0) else false)) (fun hc11 => ?_) (fun hc11 => ?_)
    ·refine YQ hc11 ?_ (by rw [hc9]; (try rw [hc10]); kernel_rfl)
     exact YE (by rw [← ht12]; (try rw [hc11]); (try rw [hc9]); (try rw [hc10]); kernel_rfl)
    ·refine YQ hc11 ?_ (by rw [hc9]; (try rw [hc10]); kernel_rfl)
     exact YE (by rw [← ht12]; (try rw [hc11]); (try rw [hc9]); (try rw [hc10]); kernel_rfl)
 refine VC h (fun h => ?_) (fun h => ?_)
 ·refine VE ?_
  cases h
  exact zE VT
 ·refine zI ?_
  show V _ _ _ _
  refine zH ?_
  refine VE ?_
  refine VC h (fun h => ?_) (fun h => ?_)
  ·obtain ⟨t15, ht15, h⟩ := zQ h
   refine zN (mb 36 12) [] (s1 := ⟨.bot :: .bot :: I t15 :: Bo true :: bt 32 [], []⟩) ?_ ?_
   ·refine XR 4 ?_
    refine zJ ?_
    subst ht15
    kernel_rfl
   cases h
   exact zE VT
  ·refine zI ?_
   show V _ _ _ _
   refine VE ?_
   cases h
   exact zE VT
theorem cf_spec_foInts : CfW Tryz.prog 215 := cfW Tryz.func215
theorem s_spec_foInts {vs1 : ByteArray} {b2 : Int} {count3 : Int} {r : List Int} (h : r_spec_foInts vs1 b2 count3 = some r) : zL Tryz.prog 215 [.c (.v (.string vs1)), .c (.v (.int .u8 b2)), I count3] (.ow 0) [(0, .arr 3 1 (r.map c3))] := by
 refine CtW [6] Tryz.func215 rfl rfl 39 ?_
 unfold r_spec_foInts at h
 refine VS ?_
 refine L1 rfl rfl (Y1_nil (e := 3) 1 (by decide) (.inl rfl)) ?_
 refine YF ?_
 obtain ⟨y4, hy4, h⟩ := zA h
 refine VS ?_
 refine YK 2 (s_spec_l1Split hy4) cf_spec_l1Split ?_
 refine YF ?_
 refine zH ?_
 refine VS ?_
 refine YR 1 ?_
 refine L0 rfl rfl (Y0_lenM (c := c9) (xs := y4) Tryz.underlying66 rfl kk) ?_
 refine YF ?_
 refine VC h (fun h => ?_) (fun h => ?_)
 ·refine VS ?_
  refine L1 rfl rfl (Y1_nil (e := 3) 1 (by decide) (.inl rfl)) ?_
  refine YF ?_
  cases h
  exact zE VT
 ·refine zI ?_
  show V _ _ _ _
  refine VS ?_
  refine L1 rfl rfl (Y1_nil (e := 3) 1 (by decide) (.inl rfl)) ?_
  refine YF ?_
  refine zH ?_
  refine VS ?_
  refine YR 1 ?_
  refine L0 rfl rfl (Y0_lenM (c := c9) (xs := y4) Tryz.underlying66 rfl kk) ?_
  refine YF ?_
  obtain ⟨qo9, hLo9, hko9⟩ := zA h
  refine V_toS (q := qo9) (S := fun o9 => ⟨bt 8 (.ow 64 :: bt 30 []), [(64, .arr 3 1 (o9.map c3))]⟩) (mb 39 256) [64] ?_ ?_
  ·refine zK (V_loop (fun n s => ∃ (t6 : Int) (l7 : List Int), s.keep (mb 39 7340288) [64, 120] = (⟨bt 8 (.ow 64 :: bt 11 (.ow 120 :: I ((y4.length : Int)) :: I t6 :: bt 16 [])), [(64, .arr 3 1 (l7.map c3)), (120, .arr 9 1 (y4.map c9))]⟩ : St) ∧ r_spec_foInts_L8 y4 n t6 l7 = some qo9) FU ⟨_, _,  kk, hLo9⟩ ?_)
   clear hLo9
   rintro n s ⟨t6, l7, hs, h⟩
   refine V_keep _ _ hs ?_
   clear hs
   cases n with
   | zero => cases h
   | succ n =>
    rw [r_spec_foInts_L8] at h
    refine VE ?_
    refine zH ?_
    refine VC h (fun h => ?_) (fun h => ?_)
    ·refine zI ?_
     show V _ _ _ _
     refine zH ?_
     refine zK ?_
     obtain ⟨e11, he11, h⟩ := zA h
     obtain ⟨e12, he12, h⟩ := zA h
     refine VS ?_
     refine L0 rfl rfl (Y0_idxoM (c := c9) (xs := y4) (v := e11) (id := 120) (T := 9) (sz := 1) (n := t6) Tryz.underlying66 sz9 rfl kk kk kk he11) ?_
     refine L0 rfl rfl (Y0_loado1 (c := c9) (xs := y4) (v := e12) (id := 120) (sz := 1) (T := 9) (off := 0) (n := t6) (d := .v (.string e12)) (ds := []) sc9 rfl kk kk he12 kk) ?_
     refine YF ?_
     obtain ⟨y13, hy13, h⟩ := zA h
     refine VS ?_
     refine YK 1 (s_spec_foInt hy13) cf_spec_foInt ?_
     refine YF ?_
     refine zH ?_
     refine VE ?_
     refine VC h (fun h => ?_) (fun h => ?_)
     ·refine VS ?_
      refine L1 rfl rfl (Y1_nil (e := 3) 1 (by decide) (.inl rfl)) ?_
      refine YF ?_
      refine zE ?_
      obtain rfl := zB h
      have h := hko9
      obtain rfl := zB h
      exact VT
     ·refine zI ?_
      show V _ _ _ _
      obtain ⟨u15, hu15, h⟩ := zA h
      refine V_region ?_
      refine YR 2 ?_
      refine L1 rfl rfl (Y1_bslice (z := zv3) (els := [y13.1].map c3) Tryz.underlying24 iz3 rfl (by decide) rfl kk rfl (by simp [c3]) (by decide) (by decide)) ?_
      refine XL_cons rfl (X_appendM (c := c3) (xs := l7) (ys := [y13.1]) (id := 64) (z := zv3) rfl rfl Tryz.underlying24 izb3 rfl kk kk kk (fun _ => rfl) (by simp) (room_some hu15) (by decide)) ?_
      refine YF ?_
      show V _ _ _ _
      obtain ⟨t16, ht16, h⟩ := zQ h
      refine V_reg (mb 39 7340288) [64, 120] (s1 := ⟨bt 8 (.ow 64 :: bt 11 (.ow 120 :: I ((y4.length : Int)) :: I t16 :: bt 16 [])), [(64, .arr 3 1 ((l7 ++ ([y13.1])).map c3)), (120, .arr 9 1 (y4.map c9))]⟩) ?_ ?_
      ·refine XR 2 ?_
       refine zJ ?_
       subst ht16
       kernel_rfl
      exact ⟨n, Nat.lt_succ_self n, _, _,  kk, h⟩
    ·refine V_exit ?_
     obtain rfl := zB h
     exact ⟨_, rfl, kk⟩
  rintro o9 rfl
  have h := hko9
  clear hko9
  show V _ _ _ _
  refine VE ?_
  cases h
  exact zE VT
theorem cf_spec_foRead : CfW Tryz.prog 144 := cfW Tryz.func144
theorem s_spec_foRead {vs1 : ByteArray} {r : (((Int × Int × Int)) × Bool)} (h : r_spec_foRead vs1 = some r) : zL Tryz.prog 144 [.c (.v (.string vs1))] (.tc (.ag [Ti r.1.1, Ti r.1.2.1, Ti r.1.2.2]) (.tc (Bo r.2) .tn)) [] := by
 refine zO (rs := [.w 2 3, .t 3]) (vs := [.cell 2 38, .tmp 3]) Tryz.func144 rfl rfl (.cons ⟨rfl, wd38⟩ (.cons rfl FitsL.nil)) (by decide) 32 rfl ?_
 unfold r_spec_foRead at h
 refine VE ?_
 obtain ⟨y2, hy2, h⟩ := zA h
 refine VS ?_
 refine YK 1 (s_spec_foInside hy2) cf_spec_foInside ?_
 refine YF ?_
 obtain ⟨y3, hy3, h⟩ := zA h
 refine VS ?_
 refine YK 1 (s_spec_foInts hy3) cf_spec_foInts ?_
 refine YF ?_
 refine zH ?_
 refine zN (mb 32 1048644) [104, 16] (s1 := ⟨.bot :: .bot :: .pt 16 0 :: bt 3 (.ow 104 :: bt 13 (Bo (bif (!y2.2) then true else (!eqI ((y3.length : Int)) 3)) :: bt 11 [])), [(104, .arr 3 1 (y3.map c3)), (16, .box [Ti 0, Ti 0, Ti 0])]⟩) ?_ ?_
 ·refine YR 3 ?_
  refine zD (!y2.2) (fun hc4 => ?_) (fun hc4 => ?_)
  ·refine YQ hc4 ?_
   exact YE (by rw [hc4]; kernel_rfl)
  ·refine YQ hc4 ?_
   refine YR 1 ?_
   refine YT (X_of_Y0 rfl (Y0_lenM (c := c3) (xs := y3) Tryz.underlying24 rfl kk)) ?_
   exact YE (by rw [hc4]; kernel_rfl)
 refine VC h (fun h => ?_) (fun h => ?_)
 ·refine VS ?_
  refine L0 rfl rfl (zP (cs := [Ti 0, Ti 0, Ti 0]) pl38 bt38 rfl rfl kk) ?_
  refine YF ?_
  cases h
  exact zE VT
 ·refine zI ?_
  show V _ _ _ _
  obtain ⟨e6, he6, h⟩ := zA h
  obtain ⟨e7, he7, h⟩ := zA h
  obtain ⟨e8, he8, h⟩ := zA h
  obtain ⟨e9, he9, h⟩ := zA h
  obtain ⟨e10, he10, h⟩ := zA h
  obtain ⟨e11, he11, h⟩ := zA h
  refine VDS [0, 1, 3, 0, 8, 24, 0, 64, 192, 511, 1023, 2047] 10 (cdm 10 [174720, 174721, 174725, 172074, 172138, 172394, 2730, 6826, 23210, 87381]) ?_
  refine ER 1 ?_
  refine E0 1 rfl rfl (Y0_idxoM (c := c3) (xs := y3) (v := e6) (id := 104) (T := 3) (sz := 1) (n := 0) Tryz.underlying24 sz3 rfl kk kk kk he6) ?_
  refine E0 2 rfl rfl (Y0_loado1 (c := c3) (xs := y3) (v := e7) (id := 104) (sz := 1) (T := 3) (off := 0) (n := 0) (d := Ti e7) (ds := []) sc3 rfl kk kk he7 kk) ?_
  refine ER 1 ?_
  refine E0 4 rfl rfl (Y0_idxoM (c := c3) (xs := y3) (v := e8) (id := 104) (T := 3) (sz := 1) (n := 1) Tryz.underlying24 sz3 rfl kk kk kk he8) ?_
  refine E0 5 rfl rfl (Y0_loado1 (c := c3) (xs := y3) (v := e9) (id := 104) (sz := 1) (T := 3) (off := 0) (n := 1) (d := Ti e9) (ds := []) sc3 rfl kk kk he9 kk) ?_
  refine ER 1 ?_
  refine E0 7 rfl rfl (Y0_idxoM (c := c3) (xs := y3) (v := e10) (id := 104) (T := 3) (sz := 1) (n := 2) Tryz.underlying24 sz3 rfl kk kk kk he10) ?_
  refine E0 8 rfl rfl (Y0_loado1 (c := c3) (xs := y3) (v := e11) (id := 104) (sz := 1) (T := 3) (off := 0) (n := 2) (d := Ti e11) (ds := []) sc3 rfl kk kk he11 kk) ?_
  refine E0 9 rfl rfl (zP (cs := [Ti e7, Ti e9, Ti e11]) pl38 bt38 rfl rfl kk) ?_
  refine EF 0 ?_
  cases h
  exact zE VT
theorem cf_spec_lgName : CfW Tryz.prog 92 := cfW Tryz.func92
theorem s_spec_lgName {vs1 : ByteArray} {r : Bool} (h : r_spec_lgName vs1 = some r) : zL Tryz.prog 92 [.c (.v (.string vs1))] (Bo r) [] := by
 refine CtW [2] Tryz.func92 rfl rfl 23 ?_
 unfold r_spec_lgName at h
 refine VE ?_
 refine zH ?_
 refine VE ?_
 obtain ⟨qo4, hLo4, hko4⟩ := zA h
 refine V_toS (q := qo4) (S := fun o4 => ⟨.c (.v (.string vs1)) :: bt 22 [], []⟩) (mb 23 1) [] ?_ ?_
 ·refine zK (V_loop (fun n s => ∃ (i2 : Int), s.keep (mb 23 9) [] = (⟨.c (.v (.string vs1)) :: .bot :: .bot :: I i2 :: bt 19 [], []⟩ : St) ∧ r_spec_lgName_L3 vs1 n i2 = some qo4) FU ⟨_,  kk, hLo4⟩ ?_)
  clear hLo4
  rintro n s ⟨i2, hs, h⟩
  refine V_keep _ _ hs ?_
  clear hs
  cases n with
  | zero => cases h
  | succ n =>
   rw [r_spec_lgName_L3] at h
   refine zH ?_
   refine VS ?_
   refine YF ?_
   refine VC h (fun h => ?_) (fun h => ?_)
   ·refine zI ?_
    show V _ _ _ _
    refine zH ?_
    refine zK ?_
    obtain ⟨e6, he6, h⟩ := zA h
    obtain ⟨b9, hb9, h⟩ := zA h
    refine zN (mb 23 524297) [] (s1 := ⟨.c (.v (.string vs1)) :: .bot :: .bot :: I i2 :: bt 15 (Bo b9 :: bt 3 []), []⟩) ?_ ?_
    ·refine YR 2 ?_
     refine L0 rfl rfl (Y0_idxs (b := vs1) (k := .i64) (n := i2) (v := e6) Tryz.underlying9 rfl kk kk he6) ?_
     refine YR 2 ?_
     refine zD (ltI e6 97) (fun hc7 => ?_) (fun hc7 => ?_)
     ·have hb9 := zB (of_true hb9 hc7)
      refine YQ hc7 ?_
      exact YE (by rw [← hb9]; (try rw [hc7]); kernel_rfl)
     ·have hb9 := of_false hb9 hc7
      obtain ⟨e8, he8, hb9⟩ := zA hb9
      have hb9 := zB hb9
      refine YQ hc7 ?_
      refine YR 2 ?_
      refine YT (X_of_Y0 rfl (Y0_idxs (b := vs1) (k := .i64) (n := i2) (v := e8) Tryz.underlying9 rfl kk kk he8)) ?_
      exact YE (by rw [← hb9]; (try rw [hc7]); kernel_rfl)
    refine VC h (fun h => ?_) (fun h => ?_)
    ·refine VE ?_
     refine zE ?_
     obtain rfl := zB h
     have h := hko4
     obtain rfl := zB h
     exact VT
    ·refine zI ?_
     show V _ _ _ _
     obtain ⟨i11, hi11, h⟩ := zQ h
     refine V_reg (mb 23 9) [] (s1 := ⟨.c (.v (.string vs1)) :: .bot :: .bot :: I i11 :: bt 19 [], []⟩) ?_ ?_
     ·refine XR 3 ?_
      refine zJ ?_
      subst hi11
      kernel_rfl
     exact ⟨n, Nat.lt_succ_self n, _,  kk, h⟩
   ·refine V_exit ?_
    obtain rfl := zB h
    exact ⟨_, rfl, kk⟩
 rintro o4 rfl
 have h := hko4
 clear hko4
 show V _ _ _ _
 obtain ⟨y12, hy12, h⟩ := zA h
 refine VS ?_
 refine YK 2 (s_spec_l1In hy12) cf_spec_l1In ?_
 refine YF ?_
 cases h
 exact zE VT
theorem cf_spec_nuGood : CfW Tryz.prog 211 := cfW Tryz.func211
theorem s_spec_nuGood {vn1 : Int} {r : Bool} (h : r_spec_nuGood vn1 = some r) : zL Tryz.prog 211 [I vn1] (Bo r) [] := by
 refine CtW [2] Tryz.func211 rfl rfl 5 ?_
 unfold r_spec_nuGood at h
 refine VE ?_
 obtain ⟨y2, hy2, h⟩ := zA h
 refine VS ?_
 refine YK 1 (s_spec_l1In hy2) cf_spec_l1In ?_
 refine YF ?_
 cases h
 exact zE VT
theorem cf_spec_foGood : CfW Tryz.prog 200 := cfW Tryz.func200
theorem s_spec_foGood {f1 : (Int × Int × Int)} {r : Bool} (h : r_spec_foGood f1 = some r) : zL Tryz.prog 200 [.ag [Ti f1.1, Ti f1.2.1, Ti f1.2.2]] (Bo r) [] := by
 refine CtW [2] Tryz.func200 rfl rfl 16 ?_
 unfold r_spec_foGood at h
 refine VE ?_
 obtain ⟨y2, hy2, h⟩ := zA h
 obtain ⟨b5, hb5, h⟩ := zA h
 obtain ⟨b8, hb8, h⟩ := zA h
 refine zN (mb 16 4) [] (s1 := ⟨.bot :: .bot :: Bo b8 :: bt 13 [], []⟩) ?_ ?_
 ·refine YK 2 (s_spec_nuGood hy2) cf_spec_nuGood ?_
  refine YR 1 ?_
  refine zD y2 (fun hc3 => ?_) (fun hc3 => ?_)
  ·have hb5 := of_true hb5 hc3
   obtain ⟨y4, hy4, hb5⟩ := zA hb5
   have hb5 := zB hb5
   refine YQ hc3 ?_
   refine YK 2 (s_spec_nuGood hy4) cf_spec_nuGood ?_
   refine YR 2 ?_
   refine zD b5 (fun hc6 => ?_) (fun hc6 => ?_)
   ·have hb8 := of_true hb8 hc6
    obtain ⟨y7, hy7, hb8⟩ := zA hb8
    have hb8 := zB hb8
    refine YQ hc6 ?_ (by rw [← hb5]; (try rw [← hb8]); (try rw [hc3]); kernel_rfl)
    refine YK 2 (s_spec_nuGood hy7) cf_spec_nuGood ?_
    exact YE (by rw [← hb8]; (try rw [hc3]); (try rw [hc6]); kernel_rfl)
   ·have hb8 := zB (of_false hb8 hc6)
    refine YQ hc6 ?_ (by rw [← hb5]; (try rw [← hb8]); (try rw [hc3]); kernel_rfl)
    exact YE (by rw [← hb8]; (try rw [hc3]); (try rw [hc6]); kernel_rfl)
  ·have hb5 := zB (of_false hb5 hc3)
   refine YQ hc3 ?_
   refine YR 5 ?_
   subst hb5
   have hc6 : false = false := rfl
   have hb8 := zB (of_false hb8 hc6)
   exact YE (by rw [← hb8]; (try rw [hc3]); kernel_rfl)
 cases h
 exact zE VT
theorem cf_spec_foDisc : CfW Tryz.prog 99 := cfW Tryz.func99
theorem s_spec_foDisc {f1 : (Int × Int × Int)} {r : Int} (h : r_spec_foDisc f1 = some r) : zL Tryz.prog 99 [.ag [Ti f1.1, Ti f1.2.1, Ti f1.2.2]] (I r) [] := by
 refine CtW [2] Tryz.func99 rfl rfl 15 ?_
 unfold r_spec_foDisc at h
 refine VE ?_
 obtain ⟨t2, ht2, h⟩ := zQ h
 refine zN (mb 15 4) [] (s1 := ⟨.bot :: .bot :: I t2 :: bt 12 [], []⟩) ?_ ?_
 ·refine XR 13 ?_
  refine zJ ?_
  subst ht2
  kernel_rfl
 cases h
 exact zE VT
theorem cf_spec_foDefinite : CfW Tryz.prog 137 := cfW Tryz.func137
theorem s_spec_foDefinite {f1 : (Int × Int × Int)} {r : Bool} (h : r_spec_foDefinite f1 = some r) : zL Tryz.prog 137 [.ag [Ti f1.1, Ti f1.2.1, Ti f1.2.2]] (Bo r) [] := by
 refine CtW [2] Tryz.func137 rfl rfl 15 ?_
 unfold r_spec_foDefinite at h
 refine VE ?_
 obtain ⟨y2, hy2, h⟩ := zA h
 obtain ⟨b5, hb5, h⟩ := zA h
 refine zN (mb 15 4) [] (s1 := ⟨.bot :: .bot :: Bo (bif b5 then (ltI 0 f1.1) else false) :: bt 12 [], []⟩) ?_ ?_
 ·refine YK 1 (s_spec_foGood hy2) cf_spec_foGood ?_
  refine YR 1 ?_
  refine zD y2 (fun hc3 => ?_) (fun hc3 => ?_)
  ·have hb5 := of_true hb5 hc3
   obtain ⟨y4, hy4, hb5⟩ := zA hb5
   have hb5 := zB hb5
   refine YQ hc3 ?_
   refine YK 1 (s_spec_foDisc hy4) cf_spec_foDisc ?_
   refine YR 3 ?_
   refine zD b5 (fun hc6 => ?_) (fun hc6 => ?_)
   ·refine YQ hc6 ?_ (by rw [← hb5]; (try rw [hc3]); kernel_rfl)
    exact YE (by rw [hc6]; kernel_rfl)
   ·refine YQ hc6 ?_ (by rw [← hb5]; (try rw [hc3]); kernel_rfl)
    exact YE (by rw [hc6]; kernel_rfl)
  ·have hb5 := zB (of_false hb5 hc3)
   refine YQ hc3 ?_
   refine YR 5 ?_
   subst hb5
   have hc6 : false = false := rfl
   exact YE
 cases h
 exact zE VT
theorem cf_spec_vaForm : CfW Tryz.prog 181 := cfW Tryz.func181
theorem s_spec_vaForm {f1 : (Int × Int × Int)} {r : Bool} (h : r_spec_vaForm f1 = some r) : zL Tryz.prog 181 [.ag [Ti f1.1, Ti f1.2.1, Ti f1.2.2]] (Bo r) [] := by
 refine CtW [2] Tryz.func181 rfl rfl 10 ?_
 unfold r_spec_vaForm at h
 refine VE ?_
 obtain ⟨y2, hy2, h⟩ := zA h
 obtain ⟨b5, hb5, h⟩ := zA h
 refine zN (mb 10 4) [] (s1 := ⟨.bot :: .bot :: Bo b5 :: bt 7 [], []⟩) ?_ ?_
 ·refine YK 1 (s_spec_foDefinite hy2) cf_spec_foDefinite ?_
  refine YR 1 ?_
  refine zD y2 (fun hc3 => ?_) (fun hc3 => ?_)
  ·have hb5 := of_true hb5 hc3
   obtain ⟨y4, hy4, hb5⟩ := zA hb5
   have hb5 := zB hb5
   refine YQ hc3 ?_
   refine YK 1 (s_spec_foDisc hy4) cf_spec_foDisc ?_
   exact YE (by rw [← hb5]; (try rw [hc3]); kernel_rfl)
  ·have hb5 := zB (of_false hb5 hc3)
   refine YQ hc3 ?_
   exact YE (by rw [← hb5]; (try rw [hc3]); kernel_rfl)
 cases h
 exact zE VT
theorem cf_spec_l1Most : CfW Tryz.prog 225 := cfW Tryz.func225
theorem s_spec_l1Most {a1 : Int} {b2 : Int} {r : Int} (h : r_spec_l1Most a1 b2 = some r) : zL Tryz.prog 225 [I a1, I b2] (I r) [] := by
 refine CtW [4] Tryz.func225 rfl rfl 10 ?_
 unfold r_spec_l1Most at h
 refine VE ?_
 refine zH ?_
 refine VE ?_
 refine VC h (fun h => ?_) (fun h => ?_)
 ·refine VE ?_
  cases h
  exact zE VT
 ·refine zI ?_
  show V _ _ _ _
  refine VE ?_
  cases h
  exact zE VT
theorem cf_spec_l1Abs : CfW Tryz.prog 158 := cfW Tryz.func158
theorem s_spec_l1Abs {vn1 : Int} {r : Int} (h : r_spec_l1Abs vn1 = some r) : zL Tryz.prog 158 [I vn1] (I r) [] := by
 refine CtW [2] Tryz.func158 rfl rfl 7 ?_
 unfold r_spec_l1Abs at h
 refine VE ?_
 obtain ⟨y2, hy2, h⟩ := zA h
 refine VS ?_
 refine YK 3 (s_spec_l1Most hy2) cf_spec_l1Most ?_
 refine YF ?_
 cases h
 exact zE VT
theorem cf_spec_nuGcd : CfW Tryz.prog 151 := cfW Tryz.func151
theorem s_spec_nuGcd {a1 : Int} {b2 : Int} {r : Int} (h : r_spec_nuGcd a1 b2 = some r) : zL Tryz.prog 151 [I a1, I b2] (I r) [] := by
 refine CtW [4] Tryz.func151 rfl rfl 16 ?_
 unfold r_spec_nuGcd at h
 refine VE ?_
 obtain ⟨y3, hy3, h⟩ := zA h
 obtain ⟨y4, hy4, h⟩ := zA h
 refine VS ?_
 refine YK 1 (s_spec_l1Abs hy3) cf_spec_l1Abs ?_
 refine YK 1 (s_spec_l1Abs hy4) cf_spec_l1Abs ?_
 refine YF ?_
 refine zH ?_
 obtain ⟨o8, hLo8, h⟩ := zA h
 refine V_toK (mb 16 1) [] (s1 := ⟨I o8 :: bt 15 [], []⟩) ?_ ?_
 ·clear h
  refine zK (V_loop (fun n s => ∃ (a5 : Int) (b6 : Int), s.keep (mb 16 3) [] = (⟨I a5 :: I b6 :: bt 14 [], []⟩ : St) ∧ r_spec_nuGcd_L7 n a5 b6 = some o8) FU ⟨_, _,  kk, hLo8⟩ ?_)
  clear hLo8
  rintro n s ⟨a5, b6, hs, h⟩
  refine V_keep _ _ hs ?_
  clear hs
  cases n with
  | zero => cases h
  | succ n =>
   rw [r_spec_nuGcd_L7] at h
   refine zH ?_
   refine VE ?_
   refine VC h (fun h => ?_) (fun h => ?_)
   ·refine zI ?_
    show V _ _ _ _
    refine zK ?_
    obtain ⟨z10, hz10, h⟩ := zA h
    obtain ⟨b11, hb11, h⟩ := zQ h
    refine V_dreg [0, 0, 0, 6, 3, 31] 6 (cdm 6 [168, 34, 522, 534, 165, 341]) (mb 16 3) [] (s1 := ⟨I b6 :: I b11 :: bt 14 [], []⟩) kk kk ?_ ?_
    ·refine DR 3 ?_
     refine DE_0 3 (I (Int.tmod a5 b6)) kk rfl rfl rfl (gsat_none rfl) kk (Y0_rem (k := .i64) (a := a5) (b := b6) rfl kk kk (nz_some hz10)) 14 rfl ?_
     refine DA 2 ?_
     refine zJ ?_
     subst hb11
     kernel_rfl
    exact ⟨n, Nat.lt_succ_self n, _, _,  kk, h⟩
   ·refine V_exit ?_
    obtain rfl := zB h
    show St.keep _ _ _ = _
    kernel_rfl
 show V _ _ _ _
 refine VE ?_
 cases h
 exact zE VT
theorem cf_spec_foContent : CfW Tryz.prog 182 := cfW Tryz.func182
theorem s_spec_foContent {f1 : (Int × Int × Int)} {r : Int} (h : r_spec_foContent f1 = some r) : zL Tryz.prog 182 [.ag [Ti f1.1, Ti f1.2.1, Ti f1.2.2]] (I r) [] := by
 refine CtW [2] Tryz.func182 rfl rfl 11 ?_
 unfold r_spec_foContent at h
 refine VE ?_
 obtain ⟨y2, hy2, h⟩ := zA h
 obtain ⟨y3, hy3, h⟩ := zA h
 refine VDS [0, 1, 0, 4, 15, 0, 32, 127, 255] 9 (cdm 9 [10400, 10401, 10250, 10266, 10325, 682, 1706, 5461, 21845]) ?_
 refine EK 4 (s_spec_nuGcd hy2) cf_spec_nuGcd ?_
 refine EK 2 (s_spec_nuGcd hy3) cf_spec_nuGcd ?_
 refine EF 1 ?_
 cases h
 exact zE VT
theorem cf_spec_coGood : CfW Tryz.prog 94 := cfW Tryz.func94
theorem s_spec_coGood {f1 : (Int × Int × Int)} {r : Bool} (h : r_spec_coGood f1 = some r) : zL Tryz.prog 94 [.ag [Ti f1.1, Ti f1.2.1, Ti f1.2.2]] (Bo r) [] := by
 refine CtW [2] Tryz.func94 rfl rfl 10 ?_
 unfold r_spec_coGood at h
 refine VE ?_
 obtain ⟨y2, hy2, h⟩ := zA h
 obtain ⟨b5, hb5, h⟩ := zA h
 refine zN (mb 10 4) [] (s1 := ⟨.bot :: .bot :: Bo b5 :: bt 7 [], []⟩) ?_ ?_
 ·refine YK 1 (s_spec_vaForm hy2) cf_spec_vaForm ?_
  refine YR 1 ?_
  refine zD y2 (fun hc3 => ?_) (fun hc3 => ?_)
  ·have hb5 := of_true hb5 hc3
   obtain ⟨y4, hy4, hb5⟩ := zA hb5
   have hb5 := zB hb5
   refine YQ hc3 ?_
   refine YK 1 (s_spec_foContent hy4) cf_spec_foContent ?_
   exact YE (by rw [← hb5]; (try rw [hc3]); kernel_rfl)
  ·have hb5 := zB (of_false hb5 hc3)
   refine YQ hc3 ?_
   exact YE (by rw [← hb5]; (try rw [hc3]); kernel_rfl)
 cases h
 exact zE VT
theorem cf_spec_lgCommand : CfW Tryz.prog 49 := cfW Tryz.func49
theorem s_spec_lgCommand {c1 : (Int × ByteArray × ByteArray × ByteArray × ((Int × Int × Int)))} {r : Bool} (h : r_spec_lgCommand c1 = some r) : zL Tryz.prog 49 [.ag [Ti c1.1, .v (.string c1.2.1), .v (.string c1.2.2.1), .v (.string c1.2.2.2.1), Ti c1.2.2.2.2.1, Ti c1.2.2.2.2.2.1, Ti c1.2.2.2.2.2.2]] (Bo r) [] := by
 refine CtW [2] Tryz.func49 rfl rfl 63 ?_
 unfold r_spec_lgCommand at h
 refine VE ?_
 refine zH ?_
 obtain ⟨y2, hy2, h⟩ := zA h
 obtain ⟨b5, hb5, h⟩ := zA h
 refine zN (mb 63 4098) [8] (s1 := ⟨.bot :: .pt 8 0 :: bt 10 (Bo b5 :: bt 50 []), [(8, .box [Ti c1.1, .v (.string c1.2.1), .v (.string c1.2.2.1), .v (.string c1.2.2.2.1), Ti c1.2.2.2.2.1, Ti c1.2.2.2.2.2.1, Ti c1.2.2.2.2.2.2])]⟩) ?_ ?_
 ·refine YK 2 (s_spec_l1In hy2) cf_spec_l1In ?_
  refine YR 2 ?_
  refine zD (!y2) (fun hc3 => ?_) (fun hc3 => ?_)
  ·have hb5 := zB (of_true hb5 hc3)
   refine YQ hc3 ?_
   exact YE (by rw [← hb5]; (try rw [hc3]); kernel_rfl)
  ·have hb5 := of_false hb5 hc3
   obtain ⟨y4, hy4, hb5⟩ := zA hb5
   have hb5 := zB hb5
   refine YQ hc3 ?_
   refine YK 2 (s_spec_lgName hy4) cf_spec_lgName ?_
   exact YE (by rw [← hb5]; (try rw [hc3]); kernel_rfl)
 refine VC h (fun h => ?_) (fun h => ?_)
 ·refine VE ?_
  cases h
  exact zE VT
 ·refine zI ?_
  show V _ _ _ _
  refine zH ?_
  obtain ⟨y7, hy7, h⟩ := zA h
  refine VS ?_
  refine YK 2 (s_spec_lgHasForm hy7) cf_spec_lgHasForm ?_
  refine YF ?_
  refine VC h (fun h => ?_) (fun h => ?_)
  ·obtain ⟨y9, hy9, h⟩ := zA h
   obtain ⟨t12, ht12, h⟩ := zA h
   have ht12 := zB ht12
   refine zN (mb 63 4) [] (s1 := ⟨.bot :: .bot :: Bo t12 :: bt 60 [], []⟩) ?_ ?_
   ·refine YK 2 (s_spec_coGood hy9) cf_spec_coGood ?_
    refine YR 1 ?_
    refine zD y9 (fun hc10 => ?_) (fun hc10 => ?_)
    ·refine YQ hc10 ?_
     refine YR 5 ?_
     refine zD (bif y9 then (c1.2.2.1.toList == ((⟨#[]⟩ : ByteArray)).toList) else false) (fun hc11 => ?_) (fun hc11 => ?_)
     ·refine YQ hc11 ?_ (by rw [hc10]; kernel_rfl)
      exact YE (by rw [← ht12]; (try rw [hc11]); (try rw [hc10]); kernel_rfl)
     ·refine YQ hc11 ?_ (by rw [hc10]; kernel_rfl)
      exact YE (by rw [← ht12]; (try rw [hc11]); (try rw [hc10]); kernel_rfl)
    ·refine YQ hc10 ?_
     refine YR 5 ?_
     refine zD (bif y9 then (c1.2.2.1.toList == ((⟨#[]⟩ : ByteArray)).toList) else false) (fun hc11 => ?_) (fun hc11 => ?_)
     ·refine YQ hc11 ?_ (by rw [hc10]; kernel_rfl)
      exact YE (by rw [← ht12]; (try rw [hc11]); (try rw [hc10]); kernel_rfl)
     ·refine YQ hc11 ?_ (by rw [hc10]; kernel_rfl)
      exact YE (by rw [← ht12]; (try rw [hc11]); (try rw [hc10]); kernel_rfl)
   cases h
   exact zE VT
  ·refine zI ?_
   show V _ _ _ _
   refine zH ?_
   obtain ⟨t13, ht13, h⟩ := zA h
   have ht13 := zB ht13
   refine zN (mb 63 4294967298) [8] (s1 := ⟨.bot :: .pt 8 0 :: bt 30 (Bo t13 :: bt 30 []), [(8, .box [Ti c1.1, .v (.string c1.2.1), .v (.string c1.2.2.1), .v (.string c1.2.2.2.1), Ti c1.2.2.2.2.1, Ti c1.2.2.2.2.2.1, Ti c1.2.2.2.2.2.2])]⟩) ?_ ?_
   ·refine XR 2 ?_
    refine L0 rfl rfl (zP (cs := [Ti 0, Ti 0, Ti 0]) pl38 bt38 rfl rfl kk) ?_
    refine L0 rfl rfl (Y0_neg3 (a0 := c1.2.2.2.2.1) (b0 := 0) (a1 := c1.2.2.2.2.2.1) (b1 := 0) (a2 := c1.2.2.2.2.2.2) (b2 := 0) neg38 rfl kk kk) ?_
    refine zJ ?_
    subst ht13
    kernel_rfl
   refine VC h (fun h => ?_) (fun h => ?_)
   ·refine VE ?_
    cases h
    exact zE VT
   ·refine zI ?_
    show V _ _ _ _
    refine zH ?_
    refine VE ?_
    refine zK ?_
    refine VE ?_
    refine VC h (fun h => ?_) (fun h => ?_)
    ·obtain ⟨y16, hy16, h⟩ := zA h
     obtain ⟨b19, hb19, h⟩ := zA h
     refine zN (mb 63 4) [] (s1 := ⟨.bot :: .bot :: Bo b19 :: bt 60 [], []⟩) ?_ ?_
     ·refine YK 2 (s_spec_lgName hy16) cf_spec_lgName ?_
      refine YR 1 ?_
      refine zD y16 (fun hc17 => ?_) (fun hc17 => ?_)
      ·have hb19 := of_true hb19 hc17
       obtain ⟨y18, hy18, hb19⟩ := zA hb19
       have hb19 := zB hb19
       refine YQ hc17 ?_
       refine YK 2 (s_spec_lgName hy18) cf_spec_lgName ?_
       exact YE (by rw [← hb19]; (try rw [hc17]); kernel_rfl)
      ·have hb19 := zB (of_false hb19 hc17)
       refine YQ hc17 ?_
       exact YE (by rw [← hb19]; (try rw [hc17]); kernel_rfl)
     cases h
     exact zE VT
    ·refine VE ?_
     refine VC h (fun h => ?_) (fun h => ?_)
     ·obtain ⟨y21, hy21, h⟩ := zA h
      obtain ⟨t23, ht23, h⟩ := zA h
      have ht23 := zB ht23
      refine zN (mb 63 4) [] (s1 := ⟨.bot :: .bot :: Bo t23 :: bt 60 [], []⟩) ?_ ?_
      ·refine YK 2 (s_spec_lgName hy21) cf_spec_lgName ?_
       refine YR 1 ?_
       refine zD y21 (fun hc22 => ?_) (fun hc22 => ?_)
       ·refine YQ hc22 ?_
        exact YE (by rw [← ht23]; (try rw [hc22]); kernel_rfl)
       ·refine YQ hc22 ?_
        exact YE (by rw [← ht23]; (try rw [hc22]); kernel_rfl)
      cases h
      exact zE VT
     ·refine zI ?_
      show V _ _ _ _
      obtain ⟨t25, ht25, h⟩ := zA h
      have ht25 := zB ht25
      refine zN (mb 63 4) [] (s1 := ⟨.bot :: .bot :: Bo t25 :: bt 60 [], []⟩) ?_ ?_
      ·refine YR 4 ?_
       refine zD (c1.2.2.1.toList == ((⟨#[]⟩ : ByteArray)).toList) (fun hc24 => ?_) (fun hc24 => ?_)
       ·refine YQ hc24 ?_
        exact YE (by rw [← ht25]; (try rw [hc24]); kernel_rfl)
       ·refine YQ hc24 ?_
        exact YE (by rw [← ht25]; (try rw [hc24]); kernel_rfl)
      cases h
      exact zE VT
theorem cf_spec_l1Num : CfW Tryz.prog 102 := cfW Tryz.func102
theorem s_spec_l1Num_rec : ∀ (n : Nat) {vn1 : Int} {r : ByteArray}, r_spec_l1Num n vn1 = some r → zL Tryz.prog 102 [I vn1] (.c (.v (.string r))) [] := by
 intro n
 induction n with
 | zero => intro vn1 r h; cases h
 | succ n ih =>
  intro vn1 r h
  refine CtW [2] Tryz.func102 rfl rfl 20 ?_
  rw [r_spec_l1Num] at h
  show V _ _ ⟨I vn1 :: bt 19 [], []⟩ _
  refine VE ?_
  refine zH ?_
  refine VE ?_
  refine VC h (fun h => ?_) (fun h => ?_)
  ·refine VS ?_
   refine YR 2 ?_
   refine L0 rfl rfl (Y0_conv (k2 := .i64) (a := w64 (48 + vn1)) Tryz.underlying3 Tryz.underlying5 rfl kk) ?_
   refine L1 rfl rfl (Y1_bslice (z := zv5) (els := [IntKind.u8.wrap (w64 (48 + vn1))].map c5) Tryz.underlying48 iz5 rfl (by decide) rfl kk rfl (by simp [c5]) (by decide) (by decide)) ?_
   refine L0 rfl rfl (Y0_b2s (c := c5) (fun _ => rfl) ([IntKind.u8.wrap (w64 (48 + vn1))]) Tryz.underlying48 Tryz.underlying5 Tryz.underlying9 rfl kk) ?_
   refine YF ?_
   cases h
   exact zE VT
  ·refine zI ?_
   show V _ _ _ _
   obtain ⟨y3, hy3, h⟩ := zA h
   obtain ⟨u4, hu4, h⟩ := zA h
   refine VDS [0, 1, 3, 0, 8, 24, 56, 120, 248, 511, 1023] 11 (cdm 11 [174720, 174721, 174725, 42, 106, 362, 1386, 5482, 21866, 87381, 349525]) ?_
   refine ER 1 ?_
   refine E0 1 rfl rfl (Y0_quo64 (a := vn1) (b := 10) rfl kk kk (by decide)) ?_
   refine EK 0 (ih hy3) cf_spec_l1Num ?_
   refine ER 1 ?_
   refine E0 4 rfl rfl (Y0_rem (k := .i64) (a := vn1) (b := 10) rfl kk kk (by decide)) ?_
   refine ER 1 ?_
   refine E0 6 rfl rfl (Y0_conv (k2 := .i64) (a := w64 (48 + (Int.tmod vn1 10))) Tryz.underlying3 Tryz.underlying5 rfl kk) ?_
   refine E1 7 rfl rfl (Y1_bslice (z := zv5) (els := [IntKind.u8.wrap (w64 (48 + (Int.tmod vn1 10)))].map c5) Tryz.underlying48 iz5 rfl (by decide) rfl kk rfl (by simp [c5]) (by decide) (by decide)) ?_
   refine E0 8 rfl rfl (Y0_b2s (c := c5) (fun _ => rfl) ([IntKind.u8.wrap (w64 (48 + (Int.tmod vn1 10)))]) Tryz.underlying48 Tryz.underlying5 Tryz.underlying9 rfl kk) ?_
   refine E0 9 rfl rfl (Y0_cat (a := y3) (b := bytesI ([IntKind.u8.wrap (w64 (48 + (Int.tmod vn1 10)))])) rfl kk kk (catR_some hu4)) ?_
   refine EF 1 ?_
   cases h
   exact zE VT
theorem s_spec_l1Num {vn1 : Int} {r : ByteArray} (h : r_spec_l1Num FU vn1 = some r) : zL Tryz.prog 102 [I vn1] (.c (.v (.string r))) [] := s_spec_l1Num_rec FU h
theorem cf_spec_l1Int : CfW Tryz.prog 136 := cfW Tryz.func136
theorem s_spec_l1Int {vn1 : Int} {r : ByteArray} (h : r_spec_l1Int vn1 = some r) : zL Tryz.prog 136 [I vn1] (.c (.v (.string r))) [] := by
 refine CtW [2] Tryz.func136 rfl rfl 11 ?_
 unfold r_spec_l1Int at h
 refine VE ?_
 refine zH ?_
 refine VE ?_
 refine VC h (fun h => ?_) (fun h => ?_)
 ·obtain ⟨y3, hy3, h⟩ := zA h
  obtain ⟨u4, hu4, h⟩ := zA h
  refine VS ?_
  refine YK 2 (s_spec_l1Num hy3) cf_spec_l1Num ?_
  refine L0 rfl rfl (Y0_cat (a := (⟨#[45]⟩ : ByteArray)) (b := y3) rfl kk kk (catR_some hu4)) ?_
  refine YF ?_
  cases h
  exact zE VT
 ·refine zI ?_
  show V _ _ _ _
  obtain ⟨y5, hy5, h⟩ := zA h
  refine VS ?_
  refine YK 1 (s_spec_l1Num hy5) cf_spec_l1Num ?_
  refine YF ?_
  cases h
  exact zE VT
theorem cf_spec_foText : CfW Tryz.prog 139 := cfW Tryz.func139
theorem s_spec_foText {f1 : (Int × Int × Int)} {r : ByteArray} (h : r_spec_foText f1 = some r) : zL Tryz.prog 139 [.ag [Ti f1.1, Ti f1.2.1, Ti f1.2.2]] (.c (.v (.string r))) [] := by
 refine CtW [2] Tryz.func139 rfl rfl 18 ?_
 unfold r_spec_foText at h
 refine VE ?_
 obtain ⟨y2, hy2, h⟩ := zA h
 obtain ⟨u3, hu3, h⟩ := zA h
 obtain ⟨u4, hu4, h⟩ := zA h
 obtain ⟨y5, hy5, h⟩ := zA h
 obtain ⟨u6, hu6, h⟩ := zA h
 obtain ⟨u7, hu7, h⟩ := zA h
 obtain ⟨y8, hy8, h⟩ := zA h
 obtain ⟨u9, hu9, h⟩ := zA h
 obtain ⟨u10, hu10, h⟩ := zA h
 refine VDS [0, 1, 3, 7, 15, 0, 32, 103, 255, 511, 0, 1024, 3303, 8191, 16383, 32767] 16 (cdm 16 [10496000, 10496001, 10496005, 44083221, 44083285, 10486442, 10487466, 10491541, 44062037, 44127573, 699050, 1747626, 5920405, 22369621, 89478485, 357913941]) ?_
 refine EK 2 (s_spec_l1Int hy2) cf_spec_l1Int ?_
 refine E0 3 rfl rfl (Y0_cat (a := (⟨#[40]⟩ : ByteArray)) (b := y2) rfl kk kk (catR_some hu3)) ?_
 refine E0 4 rfl rfl (Y0_cat (a := ((⟨#[40]⟩ : ByteArray)) ++ y2) (b := (⟨#[44]⟩ : ByteArray)) rfl kk kk (catR_some hu4)) ?_
 refine EK 2 (s_spec_l1Int hy5) cf_spec_l1Int ?_
 refine E0 8 rfl rfl (Y0_cat (a := (((⟨#[40]⟩ : ByteArray)) ++ y2) ++ ((⟨#[44]⟩ : ByteArray))) (b := y5) rfl kk kk (catR_some hu6)) ?_
 refine E0 9 rfl rfl (Y0_cat (a := ((((⟨#[40]⟩ : ByteArray)) ++ y2) ++ ((⟨#[44]⟩ : ByteArray))) ++ y5) (b := (⟨#[44]⟩ : ByteArray)) rfl kk kk (catR_some hu7)) ?_
 refine EK 2 (s_spec_l1Int hy8) cf_spec_l1Int ?_
 refine E0 13 rfl rfl (Y0_cat (a := (((((⟨#[40]⟩ : ByteArray)) ++ y2) ++ ((⟨#[44]⟩ : ByteArray))) ++ y5) ++ ((⟨#[44]⟩ : ByteArray))) (b := y8) rfl kk kk (catR_some hu9)) ?_
 refine E0 14 rfl rfl (Y0_cat (a := ((((((⟨#[40]⟩ : ByteArray)) ++ y2) ++ ((⟨#[44]⟩ : ByteArray))) ++ y5) ++ ((⟨#[44]⟩ : ByteArray))) ++ y8) (b := (⟨#[41]⟩ : ByteArray)) rfl kk kk (catR_some hu10)) ?_
 refine EF 1 ?_
 cases h
 exact zE VT
theorem cf_spec_lgText : CfW Tryz.prog 90 := cfW Tryz.func90
theorem s_spec_lgText {c1 : (Int × ByteArray × ByteArray × ByteArray × ((Int × Int × Int)))} {r : ByteArray} (h : r_spec_lgText c1 = some r) : zL Tryz.prog 90 [.ag [Ti c1.1, .v (.string c1.2.1), .v (.string c1.2.2.1), .v (.string c1.2.2.2.1), Ti c1.2.2.2.2.1, Ti c1.2.2.2.2.2.1, Ti c1.2.2.2.2.2.2]] (.c (.v (.string r))) [] := by
 refine CtW [2] Tryz.func90 rfl rfl 39 ?_
 unfold r_spec_lgText at h
 refine VE ?_
 obtain ⟨y2, hy2, h⟩ := zA h
 obtain ⟨e3, he3, h⟩ := zA h
 obtain ⟨e4, he4, h⟩ := zA h
 obtain ⟨u5, hu5, h⟩ := zA h
 obtain ⟨u6, hu6, h⟩ := zA h
 refine VDS [0, 0, 2, 7, 15, 31, 0, 64, 255, 511] 10 (cdm 10 [41000, 40962, 40966, 40981, 41045, 41301, 2730, 6826, 21845, 87381]) ?_
 refine EK 0 (s_spec_lgWords hy2) cf_spec_lgWords ?_
 refine ER 2 ?_
 refine E0 3 rfl rfl (Y0_idxoM (c := c9) (xs := y2) (v := e3) (id := 32) (T := 9) (sz := 1) (n := c1.1) Tryz.underlying66 sz9 rfl kk kk kk he3) ?_
 refine E0 4 rfl rfl (Y0_loado1 (c := c9) (xs := y2) (v := e4) (id := 32) (sz := 1) (T := 9) (off := 0) (n := c1.1) (d := .v (.string e4)) (ds := []) sc9 rfl kk kk he4 kk) ?_
 refine E0 5 rfl rfl (Y0_cat (a := e4) (b := (⟨#[32]⟩ : ByteArray)) rfl kk kk (catR_some hu5)) ?_
 refine ER 2 ?_
 refine E0 8 rfl rfl (Y0_cat (a := e4 ++ ((⟨#[32]⟩ : ByteArray))) (b := c1.2.1) rfl kk kk (catR_some hu6)) ?_
 refine EF 1 ?_
 obtain ⟨j7, hj7, h⟩ := zA h
 refine V_cutK (mb 39 10) [8] (s1 := ⟨.bot :: .pt 8 0 :: .bot :: .c (.v (.string j7)) :: bt 35 [], [(8, .box [Ti c1.1, .v (.string c1.2.1), .v (.string c1.2.2.1), .v (.string c1.2.2.2.1), Ti c1.2.2.2.2.1, Ti c1.2.2.2.2.2.1, Ti c1.2.2.2.2.2.2])]⟩) ?_ ?_
 ·clear h
  have h := hj7
  clear hj7
  refine VS ?_
  refine YF ?_
  refine VC h (fun h => ?_) (fun h => ?_)
  ·obtain ⟨u9, hu9, h⟩ := zA h
   obtain ⟨u10, hu10, h⟩ := zA h
   refine V_region ?_
   refine YR 3 ?_
   refine L0 rfl rfl (Y0_cat (a := (⟨#[32]⟩ : ByteArray)) (b := c1.2.2.1) rfl kk kk (catR_some hu9)) ?_
   refine L0 rfl rfl (Y0_cat (a := (e4 ++ ((⟨#[32]⟩ : ByteArray))) ++ c1.2.1) (b := ((⟨#[32]⟩ : ByteArray)) ++ c1.2.2.1) rfl kk kk (catR_some hu10)) ?_
   refine YF ?_
   obtain rfl := zB h
   show St.keep _ _ _ = _
   kernel_rfl
  ·refine zI ?_
   obtain rfl := zB h
   show St.keep _ _ _ = _
   kernel_rfl
 obtain ⟨j11, hj11, h⟩ := zA h
 refine V_cutK (mb 39 10) [8] (s1 := ⟨.bot :: .pt 8 0 :: .bot :: .c (.v (.string j11)) :: bt 35 [], [(8, .box [Ti c1.1, .v (.string c1.2.1), .v (.string c1.2.2.1), .v (.string c1.2.2.2.1), Ti c1.2.2.2.2.1, Ti c1.2.2.2.2.2.1, Ti c1.2.2.2.2.2.2])]⟩) ?_ ?_
 ·clear h
  have h := hj11
  clear hj11
  refine VS ?_
  refine YF ?_
  refine VC h (fun h => ?_) (fun h => ?_)
  ·obtain ⟨u13, hu13, h⟩ := zA h
   obtain ⟨u14, hu14, h⟩ := zA h
   refine V_region ?_
   refine YR 3 ?_
   refine L0 rfl rfl (Y0_cat (a := (⟨#[32]⟩ : ByteArray)) (b := c1.2.2.2.1) rfl kk kk (catR_some hu13)) ?_
   refine L0 rfl rfl (Y0_cat (a := j7) (b := ((⟨#[32]⟩ : ByteArray)) ++ c1.2.2.2.1) rfl kk kk (catR_some hu14)) ?_
   refine YF ?_
   obtain rfl := zB h
   show St.keep _ _ _ = _
   kernel_rfl
  ·refine zI ?_
   obtain rfl := zB h
   show St.keep _ _ _ = _
   kernel_rfl
 refine zH ?_
 obtain ⟨y15, hy15, h⟩ := zA h
 refine VS ?_
 refine YK 2 (s_spec_lgHasForm hy15) cf_spec_lgHasForm ?_
 refine YF ?_
 refine VC h (fun h => ?_) (fun h => ?_)
 ·obtain ⟨y17, hy17, h⟩ := zA h
  obtain ⟨u18, hu18, h⟩ := zA h
  obtain ⟨u19, hu19, h⟩ := zA h
  refine V_region ?_
  refine YK 3 (s_spec_foText hy17) cf_spec_foText ?_
  refine L0 rfl rfl (Y0_cat (a := (⟨#[32]⟩ : ByteArray)) (b := y17) rfl kk kk (catR_some hu18)) ?_
  refine L0 rfl rfl (Y0_cat (a := j11) (b := ((⟨#[32]⟩ : ByteArray)) ++ y17) rfl kk kk (catR_some hu19)) ?_
  refine YF ?_
  show V _ _ _ _
  refine VE ?_
  cases h
  exact zE VT
 ·refine zI ?_
  show V _ _ _ _
  refine VE ?_
  cases h
  exact zE VT
theorem cf_spec_lgRead : CfW Tryz.prog 88 := cfW Tryz.func88
theorem s_spec_lgRead {vs1 : ByteArray} {r : (((Int × ByteArray × ByteArray × ByteArray × ((Int × Int × Int)))) × Bool)} (h : r_spec_lgRead vs1 = some r) : zL Tryz.prog 88 [.c (.v (.string vs1))] (.tc (.ag [Ti r.1.1, .v (.string r.1.2.1), .v (.string r.1.2.2.1), .v (.string r.1.2.2.2.1), Ti r.1.2.2.2.2.1, Ti r.1.2.2.2.2.2.1, Ti r.1.2.2.2.2.2.2]) (.tc (Bo r.2) .tn)) [] := by
 refine zO (rs := [.w 2 7, .t 3]) (vs := [.cell 2 40, .tmp 3]) Tryz.func88 rfl rfl (.cons ⟨rfl, wd40⟩ (.cons rfl FitsL.nil)) (by decide) 84 rfl ?_
 unfold r_spec_lgRead at h
 refine VE ?_
 obtain ⟨y2, hy2, h⟩ := zA h
 refine VS ?_
 refine YK 1 (s_spec_l1Split hy2) cf_spec_l1Split ?_
 refine YF ?_
 refine zH ?_
 obtain ⟨y3, hy3, h⟩ := zA h
 refine VS ?_
 refine YR 1 ?_
 refine L0 rfl rfl (Y0_lenM (c := c9) (xs := y2) Tryz.underlying66 rfl kk) ?_
 refine YK 0 (s_spec_l1In hy3) cf_spec_l1In ?_
 refine YF ?_
 refine VC h (fun h => ?_) (fun h => ?_)
 ·refine VS ?_
  refine L0 rfl rfl (zP (cs := [Ti 0, .v (.string ByteArray.empty), .v (.string ByteArray.empty), .v (.string ByteArray.empty), Ti 0, Ti 0, Ti 0]) pl40 bt40 rfl rfl kk) ?_
  refine YF ?_
  cases h
  exact zE VT
 ·refine zI ?_
  show V _ _ _ _
  obtain ⟨e5, he5, h⟩ := zA h
  obtain ⟨e6, he6, h⟩ := zA h
  refine VS ?_
  refine YR 1 ?_
  refine L0 rfl rfl (Y0_idxoM (c := c9) (xs := y2) (v := e5) (id := 88) (T := 9) (sz := 1) (n := 1) Tryz.underlying66 sz9 rfl kk kk kk he5) ?_
  refine L0 rfl rfl (Y0_loado1 (c := c9) (xs := y2) (v := e6) (id := 88) (sz := 1) (T := 9) (off := 0) (n := 1) (d := .v (.string e6)) (ds := []) sc9 rfl kk kk he6 kk) ?_
  refine L0 rfl rfl (zP (cs := [Ti 0, .v (.string e6), .v (.string ByteArray.empty), .v (.string ByteArray.empty), Ti 0, Ti 0, Ti 0]) pl40 bt40 rfl rfl kk) ?_
  refine YF ?_
  refine zH ?_
  obtain ⟨y7, hy7, h⟩ := zA h
  refine VS ?_
  refine YK 0 (s_spec_lgWords hy7) cf_spec_lgWords ?_
  refine L0 rfl rfl (Y0_lenM (c := c9) (xs := y7) Tryz.underlying66 rfl kk) ?_
  refine YF ?_
  obtain ⟨o11, hLo11, h⟩ := zA h
  refine V_toK (mb 84 53) [40, 88, 16] (s1 := ⟨.c (.v (.string vs1)) :: .bot :: .pt 16 0 :: .bot :: .ow 88 :: .pt 40 0 :: bt 78 [], [(40, .box [Ti o11, .v (.string e6), .v (.string ByteArray.empty), .v (.string ByteArray.empty), Ti 0, Ti 0, Ti 0]), (88, .arr 9 1 (y2.map c9)), (16, .box [Ti 0, .v (.string ByteArray.empty), .v (.string ByteArray.empty), .v (.string ByteArray.empty), Ti 0, Ti 0, Ti 0])]⟩) ?_ ?_
  ·clear h
   refine zK (V_loop (fun n s => ∃ (t8 : Int) (f9 : Int), s.keep (mb 84 14680117) [168, 40, 88, 16] = (⟨.c (.v (.string vs1)) :: .bot :: .pt 16 0 :: .bot :: .ow 88 :: .pt 40 0 :: bt 15 (.ow 168 :: I ((y7.length : Int)) :: I t8 :: bt 60 []), [(168, .arr 9 1 (y7.map c9)), (40, .box [Ti f9, .v (.string e6), .v (.string ByteArray.empty), .v (.string ByteArray.empty), Ti 0, Ti 0, Ti 0]), (88, .arr 9 1 (y2.map c9)), (16, .box [Ti 0, .v (.string ByteArray.empty), .v (.string ByteArray.empty), .v (.string ByteArray.empty), Ti 0, Ti 0, Ti 0])]⟩ : St) ∧ r_spec_lgRead_L10 e6 vs1 y2 y7 n t8 f9 = some o11) FU ⟨_, _,  kk, hLo11⟩ ?_)
   clear hLo11
   rintro n s ⟨t8, f9, hs, h⟩
   refine V_keep _ _ hs ?_
   clear hs
   cases n with
   | zero => cases h
   | succ n =>
    rw [r_spec_lgRead_L10] at h
    refine VE ?_
    refine zH ?_
    refine VC h (fun h => ?_) (fun h => ?_)
    ·refine zI ?_
     show V _ _ _ _
     refine zH ?_
     refine zK ?_
     obtain ⟨e13, he13, h⟩ := zA h
     obtain ⟨e14, he14, h⟩ := zA h
     refine VS ?_
     refine YR 1 ?_
     refine L0 rfl rfl (Y0_idxoM (c := c9) (xs := y7) (v := e13) (id := 168) (T := 9) (sz := 1) (n := t8) Tryz.underlying66 sz9 rfl kk kk kk he13) ?_
     refine L0 rfl rfl (Y0_loado1 (c := c9) (xs := y7) (v := e14) (id := 168) (sz := 1) (T := 9) (off := 0) (n := t8) (d := .v (.string e14)) (ds := []) sc9 rfl kk kk he14 kk) ?_
     refine YF ?_
     obtain ⟨b18, hb18, h⟩ := zA h
     refine zN (mb 84 68734156917) [168, 40, 88, 16] (s1 := ⟨.c (.v (.string vs1)) :: .bot :: .pt 16 0 :: .bot :: .ow 88 :: .pt 40 0 :: I t8 :: bt 14 (.ow 168 :: I ((y7.length : Int)) :: I t8 :: bt 12 (Bo b18 :: bt 47 [])), [(168, .arr 9 1 (y7.map c9)), (40, .box [Ti f9, .v (.string e6), .v (.string ByteArray.empty), .v (.string ByteArray.empty), Ti 0, Ti 0, Ti 0]), (88, .arr 9 1 (y2.map c9)), (16, .box [Ti 0, .v (.string ByteArray.empty), .v (.string ByteArray.empty), .v (.string ByteArray.empty), Ti 0, Ti 0, Ti 0])]⟩) ?_ ?_
     ·refine YR 3 ?_
      refine zD (ltI 0 t8) (fun hc15 => ?_) (fun hc15 => ?_)
      ·have hb18 := of_true hb18 hc15
       obtain ⟨e16, he16, hb18⟩ := zA hb18
       obtain ⟨e17, he17, hb18⟩ := zA hb18
       have hb18 := zB hb18
       refine YQ hc15 ?_
       refine YR 2 ?_
       refine YT (X_of_Y0 rfl (Y0_idxoM (c := c9) (xs := y2) (v := e16) (id := 88) (T := 9) (sz := 1) (n := 0) Tryz.underlying66 sz9 rfl kk kk kk he16)) ?_
       refine YT (X_of_Y0 rfl (Y0_loado1 (c := c9) (xs := y2) (v := e17) (id := 88) (sz := 1) (T := 9) (off := 0) (n := 0) (d := .v (.string e17)) (ds := []) sc9 rfl kk kk he17 kk)) ?_
       exact YE (by rw [← hb18]; (try rw [hc15]); kernel_rfl)
      ·have hb18 := zB (of_false hb18 hc15)
       refine YQ hc15 ?_
       exact YE (by rw [← hb18]; (try rw [hc15]); kernel_rfl)
     refine VC h (fun h => ?_) (fun h => ?_)
     ·refine V_region ?_
      refine YF ?_
      show V _ _ _ _
      obtain ⟨t20, ht20, h⟩ := zQ h
      refine V_reg (mb 84 14680117) [168, 40, 88, 16] (s1 := ⟨.c (.v (.string vs1)) :: .bot :: .pt 16 0 :: .bot :: .ow 88 :: .pt 40 0 :: bt 15 (.ow 168 :: I ((y7.length : Int)) :: I t20 :: bt 60 []), [(168, .arr 9 1 (y7.map c9)), (40, .box [Ti t8, .v (.string e6), .v (.string ByteArray.empty), .v (.string ByteArray.empty), Ti 0, Ti 0, Ti 0]), (88, .arr 9 1 (y2.map c9)), (16, .box [Ti 0, .v (.string ByteArray.empty), .v (.string ByteArray.empty), .v (.string ByteArray.empty), Ti 0, Ti 0, Ti 0])]⟩) ?_ ?_
      ·refine XR 2 ?_
       refine zJ ?_
       subst ht20
       kernel_rfl
      exact ⟨n, Nat.lt_succ_self n, _, _,  kk, h⟩
     ·refine zI ?_
      show V _ _ _ _
      obtain ⟨t21, ht21, h⟩ := zQ h
      refine V_reg (mb 84 14680117) [168, 40, 88, 16] (s1 := ⟨.c (.v (.string vs1)) :: .bot :: .pt 16 0 :: .bot :: .ow 88 :: .pt 40 0 :: bt 15 (.ow 168 :: I ((y7.length : Int)) :: I t21 :: bt 60 []), [(168, .arr 9 1 (y7.map c9)), (40, .box [Ti f9, .v (.string e6), .v (.string ByteArray.empty), .v (.string ByteArray.empty), Ti 0, Ti 0, Ti 0]), (88, .arr 9 1 (y2.map c9)), (16, .box [Ti 0, .v (.string ByteArray.empty), .v (.string ByteArray.empty), .v (.string ByteArray.empty), Ti 0, Ti 0, Ti 0])]⟩) ?_ ?_
      ·refine XR 2 ?_
       refine zJ ?_
       subst ht21
       kernel_rfl
      exact ⟨n, Nat.lt_succ_self n, _, _,  kk, h⟩
    ·refine V_exit ?_
     obtain rfl := zB h
     show St.keep _ _ _ = _
     kernel_rfl
  show V _ _ _ _
  obtain ⟨qo22, hLo22, hko22⟩ := zA h
  clear h
  refine V_cutS (q := qo22) (S := fun o22 => ⟨.c (.v (.string vs1)) :: .bot :: .pt 16 0 :: .bot :: .bot :: .pt 40 0 :: bt 78 [], [(40, .box [Ti o11, .v (.string e6), .v (.string o22.1), .v (.string o22.2.1), Ti o22.2.2.1, Ti o22.2.2.2.1, Ti o22.2.2.2.2]), (16, .box [Ti 0, .v (.string ByteArray.empty), .v (.string ByteArray.empty), .v (.string ByteArray.empty), Ti 0, Ti 0, Ti 0])]⟩) (mb 84 37) [40, 16] ?_ ?_
  ·have h := hLo22
   clear hLo22
   obtain ⟨y23, hy23, h⟩ := zA h
   refine VS ?_
   refine YK 2 (s_spec_lgHasForm hy23) cf_spec_lgHasForm ?_
   refine YF ?_
   refine VC h (fun h => ?_) (fun h => ?_)
   ·refine zH ?_
    refine VS ?_
    refine YR 1 ?_
    refine L0 rfl rfl (Y0_lenM (c := c9) (xs := y2) Tryz.underlying66 rfl kk) ?_
    refine YF ?_
    refine VC h (fun h => ?_) (fun h => ?_)
    ·refine VS ?_
     refine L0 rfl rfl (zP (cs := [Ti 0, .v (.string ByteArray.empty), .v (.string ByteArray.empty), .v (.string ByteArray.empty), Ti 0, Ti 0, Ti 0]) pl40 bt40 rfl rfl kk) ?_
     refine YF ?_
     refine zE ?_
     obtain rfl := zB h
     have h := hko22
     obtain rfl := zB h
     exact VT
    ·refine zI ?_
     show V _ _ _ _
     obtain ⟨e26, he26, h⟩ := zA h
     obtain ⟨e27, he27, h⟩ := zA h
     obtain ⟨y28, hy28, h⟩ := zA h
     refine VS ?_
     refine YR 1 ?_
     refine L0 rfl rfl (Y0_idxoM (c := c9) (xs := y2) (v := e26) (id := 88) (T := 9) (sz := 1) (n := 2) Tryz.underlying66 sz9 rfl kk kk kk he26) ?_
     refine L0 rfl rfl (Y0_loado1 (c := c9) (xs := y2) (v := e27) (id := 88) (sz := 1) (T := 9) (off := 0) (n := 2) (d := .v (.string e27)) (ds := []) sc9 rfl kk kk he27 kk) ?_
     refine YK 0 (s_spec_foRead hy28) cf_spec_foRead ?_
     refine YF ?_
     refine zH ?_
     refine VE ?_
     refine VC h (fun h => ?_) (fun h => ?_)
     ·refine VS ?_
      refine L0 rfl rfl (zP (cs := [Ti 0, .v (.string ByteArray.empty), .v (.string ByteArray.empty), .v (.string ByteArray.empty), Ti 0, Ti 0, Ti 0]) pl40 bt40 rfl rfl kk) ?_
      refine YF ?_
      refine zE ?_
      obtain rfl := zB h
      have h := hko22
      obtain rfl := zB h
      exact VT
     ·refine zI ?_
      show V _ _ _ _
      refine V_region ?_
      refine YF ?_
      obtain rfl := zB h
      exact ⟨_, rfl, kk⟩
   ·obtain ⟨j30, hj30, h⟩ := zA h
    refine V_cutK (mb 84 53) [40, 88, 16] (s1 := ⟨.c (.v (.string vs1)) :: .bot :: .pt 16 0 :: .bot :: .ow 88 :: .pt 40 0 :: bt 78 [], [(40, .box [Ti o11, .v (.string e6), .v (.string j30), .v (.string ByteArray.empty), Ti 0, Ti 0, Ti 0]), (88, .arr 9 1 (y2.map c9)), (16, .box [Ti 0, .v (.string ByteArray.empty), .v (.string ByteArray.empty), .v (.string ByteArray.empty), Ti 0, Ti 0, Ti 0])]⟩) ?_ ?_
    ·clear h
     have h := hj30
     clear hj30
     refine VS ?_
     refine YR 1 ?_
     refine L0 rfl rfl (Y0_lenM (c := c9) (xs := y2) Tryz.underlying66 rfl kk) ?_
     refine YF ?_
     refine VC h (fun h => ?_) (fun h => ?_)
     ·obtain ⟨e32, he32, h⟩ := zA h
      obtain ⟨e33, he33, h⟩ := zA h
      refine V_region ?_
      refine YR 1 ?_
      refine L0 rfl rfl (Y0_idxoM (c := c9) (xs := y2) (v := e32) (id := 88) (T := 9) (sz := 1) (n := 2) Tryz.underlying66 sz9 rfl kk kk kk he32) ?_
      refine L0 rfl rfl (Y0_loado1 (c := c9) (xs := y2) (v := e33) (id := 88) (sz := 1) (T := 9) (off := 0) (n := 2) (d := .v (.string e33)) (ds := []) sc9 rfl kk kk he33 kk) ?_
      refine YF ?_
      obtain rfl := zB h
      show St.keep _ _ _ = _
      kernel_rfl
     ·refine zI ?_
      obtain rfl := zB h
      show St.keep _ _ _ = _
      kernel_rfl
    refine VS ?_
    refine YR 1 ?_
    refine L0 rfl rfl (Y0_lenM (c := c9) (xs := y2) Tryz.underlying66 rfl kk) ?_
    refine YF ?_
    refine VC h (fun h => ?_) (fun h => ?_)
    ·obtain ⟨e35, he35, h⟩ := zA h
     obtain ⟨e36, he36, h⟩ := zA h
     refine V_region ?_
     refine YR 1 ?_
     refine L0 rfl rfl (Y0_idxoM (c := c9) (xs := y2) (v := e35) (id := 88) (T := 9) (sz := 1) (n := 3) Tryz.underlying66 sz9 rfl kk kk kk he35) ?_
     refine L0 rfl rfl (Y0_loado1 (c := c9) (xs := y2) (v := e36) (id := 88) (sz := 1) (T := 9) (off := 0) (n := 3) (d := .v (.string e36)) (ds := []) sc9 rfl kk kk he36 kk) ?_
     refine YF ?_
     obtain rfl := zB h
     exact ⟨_, rfl, kk⟩
    ·refine zI ?_
     obtain rfl := zB h
     exact ⟨_, rfl, kk⟩
  rintro o22 rfl
  have h := hko22
  clear hko22
  refine zH ?_
  obtain ⟨y37, hy37, h⟩ := zA h
  obtain ⟨b40, hb40, h⟩ := zA h
  refine zN (mb 84 2417851639229258349412388) [40, 16] (s1 := ⟨.bot :: .bot :: .pt 16 0 :: .bot :: .bot :: .pt 40 0 :: bt 75 (Bo b40 :: .bot :: .bot :: []), [(40, .box [Ti o11, .v (.string e6), .v (.string o22.1), .v (.string o22.2.1), Ti o22.2.2.1, Ti o22.2.2.2.1, Ti o22.2.2.2.2]), (16, .box [Ti 0, .v (.string ByteArray.empty), .v (.string ByteArray.empty), .v (.string ByteArray.empty), Ti 0, Ti 0, Ti 0])]⟩) ?_ ?_
  ·refine YK 1 (s_spec_lgCommand hy37) cf_spec_lgCommand ?_
   refine YR 2 ?_
   refine zD (!y37) (fun hc38 => ?_) (fun hc38 => ?_)
   ·have hb40 := zB (of_true hb40 hc38)
    refine YQ hc38 ?_
    exact YE (by rw [← hb40]; (try rw [hc38]); kernel_rfl)
   ·have hb40 := of_false hb40 hc38
    obtain ⟨y39, hy39, hb40⟩ := zA hb40
    have hb40 := zB hb40
    refine YQ hc38 ?_
    refine YK 1 (s_spec_lgText hy39) cf_spec_lgText ?_
    exact YE (by rw [← hb40]; (try rw [hc38]); kernel_rfl)
  refine VC h (fun h => ?_) (fun h => ?_)
  ·refine VS ?_
   refine L0 rfl rfl (zP (cs := [Ti 0, .v (.string ByteArray.empty), .v (.string ByteArray.empty), .v (.string ByteArray.empty), Ti 0, Ti 0, Ti 0]) pl40 bt40 rfl rfl kk) ?_
   refine YF ?_
   cases h
   exact zE VT
  ·refine zI ?_
   show V _ _ _ _
   refine VE ?_
   cases h
   exact zE VT
theorem cf_spec_lgCheck : CfW Tryz.prog 89 := cfW Tryz.func89
theorem s_spec_lgCheck {vs1 : ByteArray} {before2 : Int} {r : Int} (h : r_spec_lgCheck vs1 before2 = some r) : zL Tryz.prog 89 [.c (.v (.string vs1)), I before2] (I r) [] := by
 refine CtW [4] Tryz.func89 rfl rfl 22 ?_
 unfold r_spec_lgCheck at h
 refine VE ?_
 refine zH ?_
 refine VE ?_
 obtain ⟨o6, hLo6, h⟩ := zA h
 refine V_toK (mb 22 2) [] (s1 := ⟨.bot :: I o6 :: bt 20 [], []⟩) ?_ ?_
 ·clear h
  refine zK (V_loop (fun n s => ∃ (before3 : Int) (i4 : Int), s.keep (mb 22 35) [] = (⟨.c (.v (.string vs1)) :: I before3 :: bt 3 (I i4 :: bt 16 []), []⟩ : St) ∧ r_spec_lgCheck_L5 vs1 n before3 i4 = some o6) FU ⟨_, _,  kk, hLo6⟩ ?_)
  clear hLo6
  rintro n s ⟨before3, i4, hs, h⟩
  refine V_keep _ _ hs ?_
  clear hs
  cases n with
  | zero => cases h
  | succ n =>
   rw [r_spec_lgCheck_L5] at h
   refine zH ?_
   refine VS ?_
   refine YF ?_
   refine VC h (fun h => ?_) (fun h => ?_)
   ·refine zI ?_
    show V _ _ _ _
    refine zH ?_
    refine zK ?_
    obtain ⟨e8, he8, h⟩ := zA h
    obtain ⟨before9, hbefore9, h⟩ := zQ h
    refine V_reg (mb 22 35) [] (s1 := ⟨.c (.v (.string vs1)) :: I before9 :: bt 3 (I i4 :: bt 16 []), []⟩) ?_ ?_
    ·refine XR 4 ?_
     refine L0 rfl rfl (Y0_idxs (b := vs1) (k := .i64) (n := i4) (v := e8) Tryz.underlying9 rfl kk kk he8) ?_
     refine L0 rfl rfl (Y0_conv (k2 := .u8) (a := e8) Tryz.underlying5 Tryz.underlying3 rfl kk) ?_
     refine XR 2 ?_
     refine L0 rfl rfl (Y0_rem (k := .i64) (a := w64 ((w64 ((w64 (31 * before3)) + (IntKind.i64.wrap e8))) + 1)) (b := 9973) rfl kk kk (by decide)) ?_
     refine XR 1 ?_
     refine zJ ?_
     subst hbefore9
     kernel_rfl
    show V _ _ _ _
    obtain ⟨i10, hi10, h⟩ := zQ h
    refine V_reg (mb 22 35) [] (s1 := ⟨.c (.v (.string vs1)) :: I before9 :: bt 3 (I i10 :: bt 16 []), []⟩) ?_ ?_
    ·refine XR 3 ?_
     refine zJ ?_
     subst hi10
     kernel_rfl
    exact ⟨n, Nat.lt_succ_self n, _, _,  kk, h⟩
   ·refine V_exit ?_
    obtain rfl := zB h
    show St.keep _ _ _ = _
    kernel_rfl
 show V _ _ _ _
 refine VE ?_
 cases h
 exact zE VT
theorem cf_spec_lgRecord : CfW Tryz.prog 51 := cfW Tryz.func51
theorem s_spec_lgRecord {c1 : (Int × ByteArray × ByteArray × ByteArray × ((Int × Int × Int)))} {before2 : Int} {r : ByteArray} (h : r_spec_lgRecord c1 before2 = some r) : zL Tryz.prog 51 [.ag [Ti c1.1, .v (.string c1.2.1), .v (.string c1.2.2.1), .v (.string c1.2.2.2.1), Ti c1.2.2.2.2.1, Ti c1.2.2.2.2.2.1, Ti c1.2.2.2.2.2.2], I before2] (.c (.v (.string r))) [] := by
 refine CtW [4] Tryz.func51 rfl rfl 16 ?_
 unfold r_spec_lgRecord at h
 refine VE ?_
 obtain ⟨y3, hy3, h⟩ := zA h
 refine VS ?_
 refine YK 1 (s_spec_lgText hy3) cf_spec_lgText ?_
 refine YF ?_
 obtain ⟨u4, hu4, h⟩ := zA h
 obtain ⟨y5, hy5, h⟩ := zA h
 obtain ⟨y6, hy6, h⟩ := zA h
 obtain ⟨u7, hu7, h⟩ := zA h
 obtain ⟨u8, hu8, h⟩ := zA h
 refine VS ?_
 refine YR 1 ?_
 refine L0 rfl rfl (Y0_cat (a := y3) (b := (⟨#[35]⟩ : ByteArray)) rfl kk kk (catR_some hu4)) ?_
 refine YK 2 (s_spec_lgCheck hy5) cf_spec_lgCheck ?_
 refine YK 0 (s_spec_l1Num hy6) cf_spec_l1Num ?_
 refine L0 rfl rfl (Y0_cat (a := y3 ++ ((⟨#[35]⟩ : ByteArray))) (b := y6) rfl kk kk (catR_some hu7)) ?_
 refine L0 rfl rfl (Y0_cat (a := (y3 ++ ((⟨#[35]⟩ : ByteArray))) ++ y6) (b := (⟨#[10]⟩ : ByteArray)) rfl kk kk (catR_some hu8)) ?_
 refine YF ?_
 cases h
 exact zE VT
theorem cf_spec_lgFind : CfW Tryz.prog 95 := cfW Tryz.func95
theorem s_spec_lgFind {l1 : List ((ByteArray × ((Int × Int × Int))))} {name2 : ByteArray} {r : Int} (h : r_spec_lgFind l1 name2 = some r) : zL Tryz.prog 95 [.c (.sl (l1.map c73)), .c (.v (.string name2))] (I r) [] := by
 refine CtW [4] Tryz.func95 rfl rfl 20 ?_
 unfold r_spec_lgFind at h
 refine VE ?_
 refine zH ?_
 refine VS ?_
 refine YR 1 ?_
 refine L0 rfl rfl (Y0_lenM (c := c73) (xs := l1) Tryz.underlying43 rfl kk) ?_
 refine YF ?_
 obtain ⟨qo5, hLo5, hko5⟩ := zA h
 refine V_toS (q := qo5) (S := fun o5 => ⟨bt 20 [], []⟩) (mb 20 0) [] ?_ ?_
 ·refine zK (V_loop (fun n s => ∃ (t3 : Int), s.keep (mb 20 898) [] = (⟨.bot :: .c (.v (.string name2)) :: bt 5 (.c (.sl (l1.map c73)) :: I ((l1.length : Int)) :: I t3 :: bt 10 []), []⟩ : St) ∧ r_spec_lgFind_L4 l1 name2 n t3 = some qo5) FU ⟨_,  kk, hLo5⟩ ?_)
  clear hLo5
  rintro n s ⟨t3, hs, h⟩
  refine V_keep _ _ hs ?_
  clear hs
  cases n with
  | zero => cases h
  | succ n =>
   rw [r_spec_lgFind_L4] at h
   refine VE ?_
   refine zH ?_
   refine VC h (fun h => ?_) (fun h => ?_)
   ·refine zI ?_
    show V _ _ _ _
    refine zH ?_
    refine zK ?_
    obtain ⟨e7, he7, h⟩ := zA h
    refine VS ?_
    refine YR 1 ?_
    refine L0 rfl rfl (Y0_idxM (c := c73) (xs := l1) (v := e7) (n := t3) Tryz.underlying43 sz73 rfl kk kk he7) ?_
    refine YF ?_
    refine VS ?_
    refine YF ?_
    refine VC h (fun h => ?_) (fun h => ?_)
    ·refine VE ?_
     refine zE ?_
     obtain rfl := zB h
     have h := hko5
     obtain rfl := zB h
     exact VT
    ·refine zI ?_
     show V _ _ _ _
     obtain ⟨t9, ht9, h⟩ := zQ h
     refine V_reg (mb 20 898) [] (s1 := ⟨.bot :: .c (.v (.string name2)) :: bt 5 (.c (.sl (l1.map c73)) :: I ((l1.length : Int)) :: I t9 :: bt 10 []), []⟩) ?_ ?_
     ·refine XR 2 ?_
      refine zJ ?_
      subst ht9
      kernel_rfl
     exact ⟨n, Nat.lt_succ_self n, _,  kk, h⟩
   ·refine V_exit ?_
    obtain rfl := zB h
    exact ⟨_, rfl, kk⟩
 rintro o5 rfl
 have h := hko5
 clear hko5
 show V _ _ _ _
 refine VE ?_
 cases h
 exact zE VT
theorem cf_spec_lgDrop : CfW Tryz.prog 96 := cfW Tryz.func96
theorem s_spec_lgDrop {l1 : List ((ByteArray × ((Int × Int × Int))))} {vat2 : Int} {r : List ((ByteArray × ((Int × Int × Int))))} (h : r_spec_lgDrop l1 vat2 = some r) : zL Tryz.prog 96 [.c (.sl (l1.map c73)), I vat2] (.ow 0) [(0, .arr 73 4 (r.map c73))] := by
 refine CtW [4] Tryz.func96 rfl rfl 17 ?_
 unfold r_spec_lgDrop at h
 refine VS ?_
 refine L1 rfl rfl (Y1_nil (e := 73) 4 (by decide) (.inl rfl)) ?_
 refine YF ?_
 obtain ⟨u3, hu3, h⟩ := zA h
 obtain ⟨u4, hu4, h⟩ := zA h
 obtain ⟨l5, hl5, h⟩ := zA h
 have hl5 := zB hl5
 refine zN (mb 17 35) [48] (s1 := ⟨.c (.sl (l1.map c73)) :: I vat2 :: bt 3 (.ow 48 :: bt 11 []), [(48, .arr 73 4 (l5.map c73))]⟩) ?_ ?_
 ·refine L1 rfl rfl (Y1_bslice0 Tryz.underlying43 sz73 (by decide) rfl rfl) ?_
  refine XR 2 ?_
  refine L0 rfl rfl (Y0_slice (c := c73) (xs := l1) (l := 0) (h := vat2) Tryz.underlying43 sz73 (fun _ => rfl) rfl kk (fun y hy => by cases hy) (fun _ => rfl) (fun y hy => by cases hy; exact ⟨.i64, kk⟩) (fun hh => by cases hh) (slc_some hu3)) ?_
  refine XL_cons rfl (X_appendA (c := c73) (xs := ([] : List ((ByteArray × ((Int × Int × Int)))))) (ys := subl l1 0 vat2) (id := 48) (z := zv73) rfl rfl Tryz.underlying43 izb73 rfl kk kk kk (fun _ => rfl) (room_some hu4) (by decide)) ?_
  refine XR 1 ?_
  refine zJ ?_
  subst hl5
  kernel_rfl
 obtain ⟨u6, hu6, h⟩ := zA h
 obtain ⟨u7, hu7, h⟩ := zA h
 refine VS ?_
 refine YR 4 ?_
 refine L0 rfl rfl (Y0_slice (c := c73) (xs := l1) (l := w64 (vat2 + 1)) (h := (l1.length : Int)) Tryz.underlying43 sz73 (fun _ => rfl) rfl kk (fun y hy => by cases hy; exact ⟨.i64, kk⟩) (fun hh => by cases hh) (fun y hy => by cases hy) (fun _ => rfl) (slc_some hu6)) ?_
 refine XL_cons rfl (X_appendA (c := c73) (xs := l5) (ys := subl l1 (w64 (vat2 + 1)) ((l1.length : Int))) (id := 48) (z := zv73) rfl rfl Tryz.underlying43 izb73 rfl kk kk kk (fun _ => rfl) (room_some hu7) (by decide)) ?_
 refine YF ?_
 cases h
 exact zE VT
theorem cf_spec_reIs : CfW Tryz.prog 149 := cfW Tryz.func149
theorem s_spec_reIs {f1 : (Int × Int × Int)} {r : Bool} (h : r_spec_reIs f1 = some r) : zL Tryz.prog 149 [.ag [Ti f1.1, Ti f1.2.1, Ti f1.2.2]] (Bo r) [] := by
 refine CtW [2] Tryz.func149 rfl rfl 35 ?_
 unfold r_spec_reIs at h
 refine VE ?_
 obtain ⟨t6, ht6, h⟩ := zA h
 have ht6 := zB ht6
 refine zN (mb 35 4) [] (s1 := ⟨.bot :: .bot :: Bo t6 :: bt 32 [], []⟩) ?_ ?_
 ·refine YR 7 ?_
  refine zD (ltI (w64 (0 - f1.1)) f1.2.1) (fun hc2 => ?_) (fun hc2 => ?_)
  ·refine YQ hc2 ?_
   refine YR 7 ?_
   refine zD (bif (ltI (w64 (0 - f1.1)) f1.2.1) then (leI f1.2.1 f1.1) else false) (fun hc3 => ?_) (fun hc3 => ?_)
   ·refine YQ hc3 ?_ (by rw [hc2]; kernel_rfl)
    refine YR 6 ?_
    refine zD (ltI f1.1 f1.2.2) (fun hc4 => ?_) (fun hc4 => ?_)
    ·refine YQ hc4 ?_
     exact YE (by rw [← ht6]; (try rw [hc3]); (try rw [hc2]); (try rw [hc4]); kernel_rfl)
    ·refine YQ hc4 ?_
     refine YR 6 ?_
     refine zD (eqI f1.1 f1.2.2) (fun hc5 => ?_) (fun hc5 => ?_)
     ·refine YQ hc5 ?_
      exact YE (by rw [← ht6]; (try rw [hc3]); (try rw [hc2]); (try rw [hc4]); (try rw [hc5]); kernel_rfl)
     ·refine YQ hc5 ?_
      exact YE (by rw [← ht6]; (try rw [hc3]); (try rw [hc2]); (try rw [hc4]); (try rw [hc5]); kernel_rfl)
   ·refine YQ hc3 ?_ (by rw [hc2]; kernel_rfl)
    exact YE (by rw [← ht6]; (try rw [hc3]); (try rw [hc2]); kernel_rfl)
  ·refine YQ hc2 ?_
   refine YR 7 ?_
   refine zD (bif (ltI (w64 (0 - f1.1)) f1.2.1) then (leI f1.2.1 f1.1) else false) (fun hc3 => ?_) (fun hc3 => ?_)
   ·refine YQ hc3 ?_ (by rw [hc2]; kernel_rfl)
    refine YR 6 ?_
    refine zD (ltI f1.1 f1.2.2) (fun hc4 => ?_) (fun hc4 => ?_)
    ·refine YQ hc4 ?_
     exact YE (by rw [← ht6]; (try rw [hc3]); (try rw [hc2]); (try rw [hc4]); kernel_rfl)
    ·refine YQ hc4 ?_
     refine YR 6 ?_
     refine zD (eqI f1.1 f1.2.2) (fun hc5 => ?_) (fun hc5 => ?_)
     ·refine YQ hc5 ?_
      exact YE (by rw [← ht6]; (try rw [hc3]); (try rw [hc2]); (try rw [hc4]); (try rw [hc5]); kernel_rfl)
     ·refine YQ hc5 ?_
      exact YE (by rw [← ht6]; (try rw [hc3]); (try rw [hc2]); (try rw [hc4]); (try rw [hc5]); kernel_rfl)
   ·refine YQ hc3 ?_ (by rw [hc2]; kernel_rfl)
    exact YE (by rw [← ht6]; (try rw [hc3]); (try rw [hc2]); kernel_rfl)
 cases h
 exact zE VT
theorem cf_spec_nuMod : CfW Tryz.prog 218 := cfW Tryz.func218
theorem s_spec_nuMod {a1 : Int} {vm2 : Int} {r : Int} (h : r_spec_nuMod a1 vm2 = some r) : zL Tryz.prog 218 [I a1, I vm2] (I r) [] := by
 refine CtW [4] Tryz.func218 rfl rfl 15 ?_
 unfold r_spec_nuMod at h
 refine VE ?_
 obtain ⟨z3, hz3, h⟩ := zA h
 obtain ⟨vr4, hvr4, h⟩ := zQ h
 refine zN (mb 15 34) [] (s1 := ⟨.bot :: I vm2 :: bt 3 (I vr4 :: bt 9 []), []⟩) ?_ ?_
 ·refine XR 2 ?_
  refine L0 rfl rfl (Y0_rem (k := .i64) (a := a1) (b := vm2) rfl kk kk (nz_some hz3)) ?_
  refine XR 1 ?_
  refine zJ ?_
  subst hvr4
  kernel_rfl
 refine zH ?_
 refine VE ?_
 refine VC h (fun h => ?_) (fun h => ?_)
 ·obtain ⟨vr6, hvr6, h⟩ := zQ h
  refine V_reg (mb 15 32) [] (s1 := ⟨bt 5 (I vr6 :: bt 9 []), []⟩) ?_ ?_
  ·refine XR 4 ?_
   refine zJ ?_
   subst hvr6
   kernel_rfl
  show V _ _ _ _
  refine VE ?_
  cases h
  exact zE VT
 ·refine zI ?_
  show V _ _ _ _
  refine VE ?_
  cases h
  exact zE VT
theorem cf_spec_reNormal : CfW Tryz.prog 274 := cfW Tryz.func274
theorem s_spec_reNormal {f1 : (Int × Int × Int)} {r : Int} (h : r_spec_reNormal f1 = some r) : zL Tryz.prog 274 [.ag [Ti f1.1, Ti f1.2.1, Ti f1.2.2]] (I r) [] := by
 refine CtW [2] Tryz.func274 rfl rfl 22 ?_
 unfold r_spec_reNormal at h
 refine VE ?_
 obtain ⟨y2, hy2, h⟩ := zA h
 obtain ⟨z3, hz3, h⟩ := zA h
 obtain ⟨t4, ht4, h⟩ := zQ h
 refine V_sdreg [0, 1, 0, 4, 15, 0, 32, 0, 128, 480, 0, 1024, 3072, 8160, 16383, 0, 32768, 98304, 262143, 524287] 20 (cdm 20 [45276113056, 45276113057, 45276112906, 45276112922, 45276112981, 45141361322, 45141362346, 45141207722, 45141224106, 45141284522, 45097855658, 45098904234, 45103098538, 45119526570, 45186635093, 715827882, 1789569706, 6084537002, 22906492245, 91625968981]) (mb 22 4) [] (s1 := ⟨.bot :: .bot :: I t4 :: bt 19 [], []⟩) kk kk ?_ ?_
 ·refine DR 13 ?_
  refine DC 13 (s_spec_nuMod hy2) cf_spec_nuMod rfl rfl rfl rfl 16 rfl ?_
  refine DR 4 ?_
  refine DE_0 18 (I (w64 (Int.tdiv (w64 ((w64 (f1.1 - f1.2.1)) - y2)) (w64 (2 * f1.1))))) kk rfl rfl rfl (gsat_none rfl) kk (Y0_quo64 (a := w64 ((w64 (f1.1 - f1.2.1)) - y2)) (b := w64 (2 * f1.1)) rfl kk kk (nz_some hz3)) 21 rfl ?_
  refine DA 1 ?_
  refine zJ ?_
  subst ht4
  kernel_rfl
 cases h
 exact zE VT
theorem cf_spec_reMove : CfW Tryz.prog 236 := cfW Tryz.func236
theorem s_spec_reMove {f1 : (Int × Int × Int)} {r : (Int × Int × Int × Int)} (h : r_spec_reMove f1 = some r) : zL Tryz.prog 236 [.ag [Ti f1.1, Ti f1.2.1, Ti f1.2.2]] (.ag [Ti r.1, Ti r.2.1, Ti r.2.2.1, Ti r.2.2.2]) [] := by
 refine zO (rs := [.w 2 4]) (vs := [.cell 2 109]) Tryz.func236 rfl rfl (.cons ⟨rfl, wd109⟩ FitsL.nil) (by decide) 14 rfl ?_
 unfold r_spec_reMove at h
 refine VE ?_
 refine zH ?_
 obtain ⟨y2, hy2, h⟩ := zA h
 refine VS ?_
 refine YK 1 (s_spec_reNormal hy2) cf_spec_reNormal ?_
 refine YF ?_
 refine VE ?_
 refine VC h (fun h => ?_) (fun h => ?_)
 ·refine VS ?_
  refine YR 1 ?_
  refine L0 rfl rfl (zP (cs := [Ti 1, Ti y2, Ti 0, Ti 1]) pl109 bt109 rfl rfl kk) ?_
  refine YF ?_
  cases h
  exact zE VT
 ·refine zI ?_
  show V _ _ _ _
  refine zH ?_
  obtain ⟨y4, hy4, h⟩ := zA h
  refine VS ?_
  refine YK 1 (s_spec_reIs hy4) cf_spec_reIs ?_
  refine YF ?_
  refine VC h (fun h => ?_) (fun h => ?_)
  ·refine VS ?_
   refine L0 rfl rfl (zP (cs := [Ti 1, Ti 0, Ti 0, Ti 1]) pl109 bt109 rfl rfl kk) ?_
   refine YF ?_
   cases h
   exact zE VT
  ·refine zI ?_
   show V _ _ _ _
   refine VS ?_
   refine L0 rfl rfl (zP (cs := [Ti 0, Ti (-1), Ti 1, Ti 0]) pl109 bt109 rfl rfl kk) ?_
   refine YF ?_
   cases h
   exact zE VT
theorem cf_spec_foValue : CfW Tryz.prog 150 := cfW Tryz.func150
theorem s_spec_foValue {f1 : (Int × Int × Int)} {x2 : Int} {y3 : Int} {r : Int} (h : r_spec_foValue f1 x2 y3 = some r) : zL Tryz.prog 150 [.ag [Ti f1.1, Ti f1.2.1, Ti f1.2.2], I x2, I y3] (I r) [] := by
 refine CtW [6] Tryz.func150 rfl rfl 27 ?_
 unfold r_spec_foValue at h
 refine VE ?_
 obtain ⟨t4, ht4, h⟩ := zQ h
 refine zN (mb 27 64) [] (s1 := ⟨bt 6 (I t4 :: bt 20 []), []⟩) ?_ ?_
 ·refine XR 21 ?_
  refine zJ ?_
  subst ht4
  kernel_rfl
 cases h
 exact zE VT
theorem cf_spec_foPolar : CfW Tryz.prog 252 := cfW Tryz.func252
theorem s_spec_foPolar {f1 : (Int × Int × Int)} {x2 : Int} {y3 : Int} {u4 : Int} {v5 : Int} {r : Int} (h : r_spec_foPolar f1 x2 y3 u4 v5 = some r) : zL Tryz.prog 252 [.ag [Ti f1.1, Ti f1.2.1, Ti f1.2.2], I x2, I y3, I u4, I v5] (I r) [] := by
 refine CtW [10] Tryz.func252 rfl rfl 37 ?_
 unfold r_spec_foPolar at h
 refine VE ?_
 obtain ⟨t6, ht6, h⟩ := zQ h
 refine zN (mb 37 1024) [] (s1 := ⟨bt 10 (I t6 :: bt 26 []), []⟩) ?_ ?_
 ·refine XR 27 ?_
  refine zJ ?_
  subst ht6
  kernel_rfl
 cases h
 exact zE VT
theorem cf_spec_foAct : CfW Tryz.prog 198 := cfW Tryz.func198
theorem s_spec_foAct {f1 : (Int × Int × Int)} {vm2 : (Int × Int × Int × Int)} {r : (Int × Int × Int)} (h : r_spec_foAct f1 vm2 = some r) : zL Tryz.prog 198 [.ag [Ti f1.1, Ti f1.2.1, Ti f1.2.2], .ag [Ti vm2.1, Ti vm2.2.1, Ti vm2.2.2.1, Ti vm2.2.2.2]] (.ag [Ti r.1, Ti r.2.1, Ti r.2.2]) [] := by
 refine zO (rs := [.w 4 3]) (vs := [.cell 4 38]) Tryz.func198 rfl rfl (.cons ⟨rfl, wd38⟩ FitsL.nil) (by decide) 28 rfl ?_
 unfold r_spec_foAct at h
 refine VE ?_
 obtain ⟨y3, hy3, h⟩ := zA h
 obtain ⟨y4, hy4, h⟩ := zA h
 obtain ⟨y5, hy5, h⟩ := zA h
 refine VDS [0, 0, 2, 0, 8, 31, 0, 0, 128, 0, 512, 0, 2048, 0, 8192, 32767, 0, 0, 131072, 0, 524288, 2097151, 4194303, 8388607] 23 (cdm 23 [2929883521704, 2929883521666, 2929883521670, 2929883521066, 2929883521130, 2929883521365, 2929883515562, 2929883359914, 2929883376298, 2929880902314, 2929881164458, 2929841580714, 2929845775018, 2929212435114, 2929279543978, 2929525609813, 2923441072810, 2760232315562, 2777412184746, 183251937962, 458129844906, 1466015503701, 5864062014805]) ?_
 refine EK 5 (s_spec_foValue hy3) cf_spec_foValue ?_
 refine EK 9 (s_spec_foPolar hy4) cf_spec_foPolar ?_
 refine EK 5 (s_spec_foValue hy5) cf_spec_foValue ?_
 refine E0 22 rfl rfl (zP (cs := [Ti y3, Ti y4, Ti y5]) pl38 bt38 rfl rfl kk) ?_
 refine EF 0 ?_
 cases h
 exact zE VT
theorem cf_spec_foMul : CfW Tryz.prog 237 := cfW Tryz.func237
theorem s_spec_foMul {vm1 : (Int × Int × Int × Int)} {vn2 : (Int × Int × Int × Int)} {r : (Int × Int × Int × Int)} (h : r_spec_foMul vm1 vn2 = some r) : zL Tryz.prog 237 [.ag [Ti vm1.1, Ti vm1.2.1, Ti vm1.2.2.1, Ti vm1.2.2.2], .ag [Ti vn2.1, Ti vn2.2.1, Ti vn2.2.2.1, Ti vn2.2.2.2]] (.ag [Ti r.1, Ti r.2.1, Ti r.2.2.1, Ti r.2.2.2]) [] := by
 refine zO (rs := [.w 4 4]) (vs := [.cell 4 109]) Tryz.func237 rfl rfl (.cons ⟨rfl, wd109⟩ FitsL.nil) (by decide) 50 rfl ?_
 unfold r_spec_foMul at h
 refine VE ?_
 obtain ⟨f3, hf3, h⟩ := zQ h
 obtain ⟨f4, hf4, h⟩ := zQ h
 obtain ⟨f5, hf5, h⟩ := zQ h
 obtain ⟨f6, hf6, h⟩ := zQ h
 refine zN (mb 50 16) [32] (s1 := ⟨bt 4 (.pt 32 0 :: bt 45 []), [(32, .box [Ti f3, Ti f4, Ti f5, Ti f6])]⟩) ?_ ?_
 ·refine XR 44 ?_
  refine L0 rfl rfl (zP (cs := [Ti (w64 ((w64 (vm1.1 * vn2.1)) + (w64 (vm1.2.1 * vn2.2.2.1)))), Ti (w64 ((w64 (vm1.1 * vn2.2.1)) + (w64 (vm1.2.1 * vn2.2.2.2)))), Ti (w64 ((w64 (vm1.2.2.1 * vn2.1)) + (w64 (vm1.2.2.2 * vn2.2.2.1)))), Ti (w64 ((w64 (vm1.2.2.1 * vn2.2.1)) + (w64 (vm1.2.2.2 * vn2.2.2.2))))]) pl109 bt109 rfl rfl kk) ?_
  refine XR 1 ?_
  refine zJ ?_
  subst hf3 hf4 hf5 hf6
  kernel_rfl
 cases h
 exact zE VT
end Go.Proofs.YtfmjfofocklgpaaGreatDoor
namespace Go.Proofs.YtfmjfofocklgpaaGreatDoor
open Go.RowKit
set_option linter.unusedVariables false
set_option linter.unusedSimpArgs false
set_option maxRecDepth 100000
set_option maxHeartbeats 400000
theorem cf_spec_reReduce : CfW Tryz.prog 183 := cfW Tryz.func183
theorem s_spec_reReduce {f1 : (Int × Int × Int)} {r : (((Int × Int × Int)) × ((Int × Int × Int × Int)))} (h : r_spec_reReduce f1 = some r) : zL Tryz.prog 183 [.ag [Ti f1.1, Ti f1.2.1, Ti f1.2.2]] (.tc (.ag [Ti r.1.1, Ti r.1.2.1, Ti r.1.2.2]) (.tc (.ag [Ti r.2.1, Ti r.2.2.1, Ti r.2.2.2.1, Ti r.2.2.2.2]) .tn)) [] := by
 refine zO (rs := [.w 2 3, .w 3 4]) (vs := [.cell 2 38, .cell 3 109]) Tryz.func183 rfl rfl (.cons ⟨rfl, wd38⟩ (.cons ⟨rfl, wd109⟩ FitsL.nil)) (by decide) 20 rfl ?_
 unfold r_spec_reReduce at h
 refine VE ?_
 refine VS ?_
 refine L0 rfl rfl (zP (cs := [Ti 1, Ti 0, Ti 0, Ti 1]) pl109 bt109 rfl rfl kk) ?_
 refine YF ?_
 refine zH ?_
 obtain ⟨o10, hLo10, h⟩ := zA h
 refine V_toK (mb 20 30) [32, 24, 16, 8] (s1 := ⟨.bot :: .pt 8 0 :: .pt 16 0 :: .pt 24 0 :: .pt 32 0 :: bt 15 [], [(32, .box [Ti o10.1, Ti o10.2.1, Ti o10.2.2.1, Ti o10.2.2.2.1]), (24, .box [Ti 0, Ti 0, Ti 0, Ti 0]), (16, .box [Ti 0, Ti 0, Ti 0]), (8, .box [Ti o10.2.2.2.2.1, Ti o10.2.2.2.2.2.1, Ti o10.2.2.2.2.2.2])]⟩) ?_ ?_
 ·clear h
  refine zK (V_loop (fun n s => ∃ (f2 : Int) (f3 : Int) (f4 : Int) (f5 : Int) (f6 : Int) (f7 : Int) (f8 : Int), s.keep (mb 20 30) [32, 24, 16, 8] = (⟨.bot :: .pt 8 0 :: .pt 16 0 :: .pt 24 0 :: .pt 32 0 :: bt 15 [], [(32, .box [Ti f2, Ti f3, Ti f4, Ti f5]), (24, .box [Ti 0, Ti 0, Ti 0, Ti 0]), (16, .box [Ti 0, Ti 0, Ti 0]), (8, .box [Ti f6, Ti f7, Ti f8])]⟩ : St) ∧ r_spec_reReduce_L9 n f2 f3 f4 f5 f6 f7 f8 = some o10) FU ⟨_, _, _, _, _, _, _,  kk, hLo10⟩ ?_)
  clear hLo10
  rintro n s ⟨f2, f3, f4, f5, f6, f7, f8, hs, h⟩
  refine V_keep _ _ hs ?_
  clear hs
  cases n with
  | zero => cases h
  | succ n =>
   rw [r_spec_reReduce_L9] at h
   refine zH ?_
   obtain ⟨y11, hy11, h⟩ := zA h
   refine VS ?_
   refine YK 1 (s_spec_reIs hy11) cf_spec_reIs ?_
   refine YF ?_
   refine VC h (fun h => ?_) (fun h => ?_)
   ·refine zI ?_
    show V _ _ _ _
    refine zK ?_
    obtain ⟨y13, hy13, h⟩ := zA h
    refine VS ?_
    refine YK 1 (s_spec_reMove hy13) cf_spec_reMove ?_
    refine YF ?_
    obtain ⟨y14, hy14, h⟩ := zA h
    obtain ⟨y15, hy15, h⟩ := zA h
    refine VDR [0, 0, 3, 0, 0, 31, 63, 127] 6 (cdm 6 [648, 642, 645, 554, 170, 341]) ?_
    refine EK 2 (s_spec_foAct hy14) cf_spec_foAct ?_
    refine EK 2 (s_spec_foMul hy15) cf_spec_foMul ?_
    refine EF 0 ?_
    exact ⟨n, Nat.lt_succ_self n, _, _, _, _, _, _, _,  kk, h⟩
   ·refine V_exit ?_
    obtain rfl := zB h
    show St.keep _ _ _ = _
    kernel_rfl
 show V _ _ _ _
 refine VDS [0, 0, 1, 7] 3 [[.z, .b, .z], [.b, .z, .r 16], [.a, .b, .z]] ?_
 refine EF 3 ?_
 cases h
 exact zE VT
theorem cf_spec_reClass : CfW Tryz.prog 97 := cfW Tryz.func97
theorem s_spec_reClass {f1 : (Int × Int × Int)} {r : (Int × Int × Int)} (h : r_spec_reClass f1 = some r) : zL Tryz.prog 97 [.ag [Ti f1.1, Ti f1.2.1, Ti f1.2.2]] (.ag [Ti r.1, Ti r.2.1, Ti r.2.2]) [] := by
 refine zO (rs := [.w 2 3]) (vs := [.cell 2 38]) Tryz.func97 rfl rfl (.cons ⟨rfl, wd38⟩ FitsL.nil) (by decide) 11 rfl ?_
 unfold r_spec_reClass at h
 refine VE ?_
 obtain ⟨y2, hy2, h⟩ := zA h
 refine VS ?_
 refine YK 1 (s_spec_reReduce hy2) cf_spec_reReduce ?_
 refine YF ?_
 refine VE ?_
 cases h
 exact zE VT
theorem cf_spec_lgPut : CfW Tryz.prog 98 := cfW Tryz.func98
theorem s_spec_lgPut {l1 : List ((ByteArray × ((Int × Int × Int))))} {e2 : (ByteArray × ((Int × Int × Int)))} {r : List ((ByteArray × ((Int × Int × Int))))} (h : r_spec_lgPut l1 e2 = some r) : zL Tryz.prog 98 [.c (.sl (l1.map c73)), .ag [.v (.string e2.1), Ti e2.2.1, Ti e2.2.2.1, Ti e2.2.2.2]] (.ow 0) [(0, .arr 73 4 (r.map c73))] := by
 refine CtW [4] Tryz.func98 rfl rfl 37 ?_
 unfold r_spec_lgPut at h
 refine VS ?_
 refine YR 1 ?_
 refine L1 rfl rfl (Y1_nil (e := 73) 4 (by decide) (.inl rfl)) ?_
 refine YF ?_
 refine VE ?_
 refine zH ?_
 obtain ⟨o5, hLo5, h⟩ := zA h
 refine V_toK (mb 37 41) [24] (s1 := ⟨.c (.sl (l1.map c73)) :: .bot :: .bot :: .pt 24 0 :: .bot :: I o5 :: bt 31 [], [(24, .box [.v (.string e2.1), Ti e2.2.1, Ti e2.2.2.1, Ti e2.2.2.2])]⟩) ?_ ?_
 ·clear h
  refine zK (V_loop (fun n s => ∃ (k3 : Int), s.keep (mb 37 41) [24] = (⟨.c (.sl (l1.map c73)) :: .bot :: .bot :: .pt 24 0 :: .bot :: I k3 :: bt 31 [], [(24, .box [.v (.string e2.1), Ti e2.2.1, Ti e2.2.2.1, Ti e2.2.2.2])]⟩ : St) ∧ r_spec_lgPut_L4 e2 l1 n k3 = some o5) FU ⟨_,  kk, hLo5⟩ ?_)
  clear hLo5
  rintro n s ⟨k3, hs, h⟩
  refine V_keep _ _ hs ?_
  clear hs
  cases n with
  | zero => cases h
  | succ n =>
   rw [r_spec_lgPut_L4] at h
   refine zH ?_
   obtain ⟨b8, hb8, h⟩ := zA h
   refine V_sdreg [0, 0, 2, 7, 15, 31, 31, 127, 255, 511, 31, 1055, 4095, 8191] 14 (cdm 14 [40, 2, 6, 21, 85, 10494293, 10488149, 10491221, 10507605, 10573141, 698709, 1747285, 5592405, 22369621]) (mb 37 1048617) [24] (s1 := ⟨.c (.sl (l1.map c73)) :: .bot :: .bot :: .pt 24 0 :: .bot :: I k3 :: bt 14 (Bo b8 :: bt 16 []), [(24, .box [.v (.string e2.1), Ti e2.2.1, Ti e2.2.2.1, Ti e2.2.2.2])]⟩) kk kk ?_ ?_
   ·refine ER 2 ?_
    refine E0 2 rfl rfl (Y0_lenM (c := c73) (xs := l1) Tryz.underlying43 rfl kk) ?_
    refine ER 2 ?_
    refine DL_split (ltI k3 ((l1.length : Int))) (fun hc6 => ?_) (fun hc6 => ?_)
    ·have hb8 := of_true hb8 hc6
     obtain ⟨e7, he7, hb8⟩ := zA hb8
     have hb8 := zB hb8
     refine EQ hc6 ?_
     refine ER 2 ?_
     refine E0 7 rfl rfl (Y0_idxM (c := c73) (xs := l1) (v := e7) (n := k3) Tryz.underlying43 sz73 rfl kk kk he7) ?_
     refine ER 4 ?_
     refine E0 12 rfl rfl (Y0_lts (a := e7.1) (b := e2.1) rfl kk kk) ?_
     refine EA 1 ?_
     exact YE (by rw [← hb8]; (try rw [hc6]); kernel_rfl)
    ·have hb8 := zB (of_false hb8 hc6)
     refine EQ hc6 ?_
     refine EA 9 ?_
     exact YE (by rw [← hb8]; (try rw [hc6]); kernel_rfl)
   refine VC h (fun h => ?_) (fun h => ?_)
   ·refine zI ?_
    show V _ _ _ _
    refine zK ?_
    obtain ⟨k10, hk10, h⟩ := zQ h
    refine V_reg (mb 37 41) [24] (s1 := ⟨.c (.sl (l1.map c73)) :: .bot :: .bot :: .pt 24 0 :: .bot :: I k10 :: bt 31 [], [(24, .box [.v (.string e2.1), Ti e2.2.1, Ti e2.2.2.1, Ti e2.2.2.2])]⟩) ?_ ?_
    ·refine XR 3 ?_
     refine zJ ?_
     subst hk10
     kernel_rfl
    exact ⟨n, Nat.lt_succ_self n, _,  kk, h⟩
   ·refine V_exit ?_
    obtain rfl := zB h
    show St.keep _ _ _ = _
    kernel_rfl
 show V _ _ _ _
 obtain ⟨u11, hu11, h⟩ := zA h
 obtain ⟨u12, hu12, h⟩ := zA h
 obtain ⟨l13, hl13, h⟩ := zA h
 have hl13 := zB hl13
 refine zN (mb 37 105) [184, 24] (s1 := ⟨.c (.sl (l1.map c73)) :: .bot :: .bot :: .pt 24 0 :: .bot :: I o5 :: .ow 184 :: bt 30 [], [(184, .arr 73 4 (l13.map c73)), (24, .box [.v (.string e2.1), Ti e2.2.1, Ti e2.2.2.1, Ti e2.2.2.2])]⟩) ?_ ?_
 ·refine L1 rfl rfl (Y1_bslice0 Tryz.underlying43 sz73 (by decide) rfl rfl) ?_
  refine XR 2 ?_
  refine L0 rfl rfl (Y0_slice (c := c73) (xs := l1) (l := 0) (h := o5) Tryz.underlying43 sz73 (fun _ => rfl) rfl kk (fun y hy => by cases hy) (fun _ => rfl) (fun y hy => by cases hy; exact ⟨.i64, kk⟩) (fun hh => by cases hh) (slc_some hu11)) ?_
  refine XL_cons rfl (X_appendA (c := c73) (xs := ([] : List ((ByteArray × ((Int × Int × Int)))))) (ys := subl l1 0 o5) (id := 184) (z := zv73) rfl rfl Tryz.underlying43 izb73 rfl kk kk kk (fun _ => rfl) (room_some hu12) (by decide)) ?_
  refine XR 1 ?_
  refine zJ ?_
  subst hl13
  kernel_rfl
 obtain ⟨u14, hu14, h⟩ := zA h
 refine VS ?_
 refine YR 2 ?_
 refine L1 rfl rfl (Y1_bslice (z := zv73) (els := [e2].map c73) Tryz.underlying43 iz73 rfl (by decide) rfl kk rfl (by simp [c73]) (by decide) (by decide)) ?_
 refine XL_cons rfl (X_appendM (c := c73) (xs := l13) (ys := [e2]) (id := 184) (z := zv73) rfl rfl Tryz.underlying43 izb73 rfl kk kk kk (fun _ => rfl) (by simp) (room_some hu14) (by decide)) ?_
 refine YF ?_
 obtain ⟨u15, hu15, h⟩ := zA h
 obtain ⟨u16, hu16, h⟩ := zA h
 refine VS ?_
 refine YR 3 ?_
 refine L0 rfl rfl (Y0_slice (c := c73) (xs := l1) (l := o5) (h := (l1.length : Int)) Tryz.underlying43 sz73 (fun _ => rfl) rfl kk (fun y hy => by cases hy; exact ⟨.i64, kk⟩) (fun hh => by cases hh) (fun y hy => by cases hy) (fun _ => rfl) (slc_some hu15)) ?_
 refine XL_cons rfl (X_appendA (c := c73) (xs := l13 ++ ([e2])) (ys := subl l1 o5 ((l1.length : Int))) (id := 184) (z := zv73) rfl rfl Tryz.underlying43 izb73 rfl kk kk kk (fun _ => rfl) (room_some hu16) (by decide)) ?_
 refine YF ?_
 cases h
 exact zE VT
theorem cf_spec_coPoint : CfW Tryz.prog 238 := cfW Tryz.func238
theorem s_spec_coPoint {g1 : (Int × Int × Int)} {a2 : Int} {r : (Int × Int)} (h : r_spec_coPoint g1 a2 = some r) : zL Tryz.prog 238 [.ag [Ti g1.1, Ti g1.2.1, Ti g1.2.2], I a2] (.tc (I r.1) (.tc (I r.2) .tn)) [] := by
 refine CtW [4, 5] Tryz.func238 rfl rfl 45 ?_
 unfold r_spec_coPoint at h
 refine VE ?_
 refine zH ?_
 refine VE ?_
 obtain ⟨qo5, hLo5, hko5⟩ := zA h
 refine V_toS (q := qo5) (S := fun o5 => ⟨bt 45 [], []⟩) (mb 45 0) [] ?_ ?_
 ·refine zK (V_loop (fun n s => ∃ (k3 : Int), s.keep (mb 45 70) [16] = (⟨.bot :: I a2 :: .pt 16 0 :: bt 3 (I k3 :: bt 38 []), [(16, .box [Ti g1.1, Ti g1.2.1, Ti g1.2.2])]⟩ : St) ∧ r_spec_coPoint_L4 a2 g1 n k3 = some qo5) FU ⟨_,  kk, hLo5⟩ ?_)
  clear hLo5
  rintro n s ⟨k3, hs, h⟩
  refine V_keep _ _ hs ?_
  clear hs
  cases n with
  | zero => cases h
  | succ n =>
   rw [r_spec_coPoint_L4] at h
   refine zH ?_
   refine VE ?_
   refine VC h (fun h => ?_) (fun h => ?_)
   ·refine zI ?_
    show V _ _ _ _
    refine zH ?_
    refine zK ?_
    refine VE ?_
    obtain ⟨qo9, hLo9, hko9⟩ := zA h
    refine V_toS (q := qo9) (S := fun o9 => ⟨.bot :: I a2 :: .pt 16 0 :: bt 3 (I k3 :: bt 38 []), [(16, .box [Ti g1.1, Ti g1.2.1, Ti g1.2.2])]⟩) (mb 45 70) [16] ?_ ?_
    ·refine zK (V_loop (fun n s => ∃ (x7 : Int), s.keep (mb 45 198) [16] = (⟨.bot :: I a2 :: .pt 16 0 :: bt 3 (I k3 :: I x7 :: bt 37 []), [(16, .box [Ti g1.1, Ti g1.2.1, Ti g1.2.2])]⟩ : St) ∧ r_spec_coPoint_L8 a2 g1 k3 n x7 = some qo9) FU ⟨_,  kk, hLo9⟩ ?_)
     clear hLo9
     rintro n s ⟨x7, hs, h⟩
     refine V_keep _ _ hs ?_
     clear hs
     cases n with
     | zero => cases h
     | succ n =>
      rw [r_spec_coPoint_L8] at h
      refine zH ?_
      refine VE ?_
      refine VC h (fun h => ?_) (fun h => ?_)
      ·refine zI ?_
       show V _ _ _ _
       refine zH ?_
       refine zK ?_
       refine VE ?_
       obtain ⟨qo13, hLo13, hko13⟩ := zA h
       refine V_toS (q := qo13) (S := fun o13 => ⟨.bot :: I a2 :: .pt 16 0 :: bt 3 (I k3 :: I x7 :: bt 37 []), [(16, .box [Ti g1.1, Ti g1.2.1, Ti g1.2.2])]⟩) (mb 45 198) [16] ?_ ?_
       ·refine zK (V_loop (fun n s => ∃ (y11 : Int), s.keep (mb 45 454) [16] = (⟨.bot :: I a2 :: .pt 16 0 :: bt 3 (I k3 :: I x7 :: I y11 :: bt 36 []), [(16, .box [Ti g1.1, Ti g1.2.1, Ti g1.2.2])]⟩ : St) ∧ r_spec_coPoint_L12 a2 g1 k3 x7 n y11 = some qo13) FU ⟨_,  kk, hLo13⟩ ?_)
        clear hLo13
        rintro n s ⟨y11, hs, h⟩
        refine V_keep _ _ hs ?_
        clear hs
        cases n with
        | zero => cases h
        | succ n =>
         rw [r_spec_coPoint_L12] at h
         refine zH ?_
         refine VE ?_
         refine VC h (fun h => ?_) (fun h => ?_)
         ·refine zI ?_
          show V _ _ _ _
          refine zH ?_
          refine zK ?_
          obtain ⟨y15, hy15, h⟩ := zA h
          obtain ⟨b18, hb18, h⟩ := zA h
          obtain ⟨b22, hb22, h⟩ := zA h
          refine zN (mb 45 4398046511558) [16] (s1 := ⟨.bot :: I a2 :: .pt 16 0 :: bt 3 (I k3 :: I x7 :: I y11 :: bt 33 (Bo b22 :: .bot :: .bot :: [])), [(16, .box [Ti g1.1, Ti g1.2.1, Ti g1.2.2])]⟩) ?_ ?_
          ·refine YK 2 (s_spec_l1Most hy15) cf_spec_l1Most ?_
           refine YR 3 ?_
           refine zD (eqI y15 k3) (fun hc16 => ?_) (fun hc16 => ?_)
           ·have hb18 := of_true hb18 hc16
            obtain ⟨y17, hy17, hb18⟩ := zA hb18
            have hb18 := zB hb18
            refine YQ hc16 ?_
            refine YK 2 (s_spec_nuGcd hy17) cf_spec_nuGcd ?_
            refine YR 3 ?_
            refine zD b18 (fun hc19 => ?_) (fun hc19 => ?_)
            ·have hb22 := of_true hb22 hc19
             obtain ⟨y20, hy20, hb22⟩ := zA hb22
             obtain ⟨y21, hy21, hb22⟩ := zA hb22
             have hb22 := zB hb22
             refine YQ hc19 ?_ (by rw [← hb18]; (try rw [← hb22]); (try rw [hc16]); kernel_rfl)
             refine YK 3 (s_spec_foValue hy20) cf_spec_foValue ?_
             refine YK 1 (s_spec_nuGcd hy21) cf_spec_nuGcd ?_
             exact YE (by rw [← hb22]; (try rw [hc16]); (try rw [hc19]); kernel_rfl)
            ·have hb22 := zB (of_false hb22 hc19)
             refine YQ hc19 ?_ (by rw [← hb18]; (try rw [← hb22]); (try rw [hc16]); kernel_rfl)
             exact YE (by rw [← hb22]; (try rw [hc16]); (try rw [hc19]); kernel_rfl)
           ·have hb18 := zB (of_false hb18 hc16)
            refine YQ hc16 ?_
            refine YR 6 ?_
            subst hb18
            have hc19 : false = false := rfl
            have hb22 := zB (of_false hb22 hc19)
            exact YE (by rw [← hb22]; (try rw [hc16]); kernel_rfl)
          refine VC h (fun h => ?_) (fun h => ?_)
          ·refine VE ?_
           refine zE ?_
           obtain rfl := zB h
           have h := hko13
           obtain rfl := zB h
           have h := hko9
           obtain rfl := zB h
           have h := hko5
           obtain rfl := zB h
           exact VT
          ·refine zI ?_
           show V _ _ _ _
           obtain ⟨y24, hy24, h⟩ := zQ h
           refine V_reg (mb 45 454) [16] (s1 := ⟨.bot :: I a2 :: .pt 16 0 :: bt 3 (I k3 :: I x7 :: I y24 :: bt 36 []), [(16, .box [Ti g1.1, Ti g1.2.1, Ti g1.2.2])]⟩) ?_ ?_
           ·refine XR 3 ?_
            refine zJ ?_
            subst hy24
            kernel_rfl
           exact ⟨n, Nat.lt_succ_self n, _,  kk, h⟩
         ·refine V_exit ?_
          obtain rfl := zB h
          exact ⟨_, rfl, kk⟩
       rintro o13 rfl
       have h := hko13
       clear hko13
       show V _ _ _ _
       obtain ⟨x25, hx25, h⟩ := zQ h
       refine V_reg (mb 45 198) [16] (s1 := ⟨.bot :: I a2 :: .pt 16 0 :: bt 3 (I k3 :: I x25 :: bt 37 []), [(16, .box [Ti g1.1, Ti g1.2.1, Ti g1.2.2])]⟩) ?_ ?_
       ·refine XR 3 ?_
        refine zJ ?_
        subst hx25
        kernel_rfl
       exact ⟨n, Nat.lt_succ_self n, _,  kk, h⟩
      ·refine V_exit ?_
       obtain rfl := zB h
       exact ⟨_, rfl, kk⟩
    rintro o9 rfl
    have h := hko9
    clear hko9
    show V _ _ _ _
    obtain ⟨k26, hk26, h⟩ := zQ h
    refine V_reg (mb 45 70) [16] (s1 := ⟨.bot :: I a2 :: .pt 16 0 :: bt 3 (I k26 :: bt 38 []), [(16, .box [Ti g1.1, Ti g1.2.1, Ti g1.2.2])]⟩) ?_ ?_
    ·refine XR 3 ?_
     refine zJ ?_
     subst hk26
     kernel_rfl
    exact ⟨n, Nat.lt_succ_self n, _,  kk, h⟩
   ·refine V_exit ?_
    obtain rfl := zB h
    exact ⟨_, rfl, kk⟩
 rintro o5 rfl
 have h := hko5
 clear hko5
 show V _ _ _ _
 refine VE ?_
 cases h
 exact zE VT
theorem cf_spec_l1Sign : CfW Tryz.prog 299 := cfW Tryz.func299
theorem s_spec_l1Sign {vn1 : Int} {r : Int} (h : r_spec_l1Sign vn1 = some r) : zL Tryz.prog 299 [I vn1] (I r) [] := by
 refine CtW [2] Tryz.func299 rfl rfl 9 ?_
 unfold r_spec_l1Sign at h
 refine VE ?_
 refine zH ?_
 refine zK ?_
 refine VE ?_
 refine VC h (fun h => ?_) (fun h => ?_)
 ·refine VE ?_
  cases h
  exact zE VT
 ·refine VE ?_
  refine VC h (fun h => ?_) (fun h => ?_)
  ·refine VE ?_
   cases h
   exact zE VT
  ·refine zI ?_
   show V _ _ _ _
   refine VE ?_
   cases h
   exact zE VT
theorem cf_spec_nuInverse : CfW Tryz.prog 276 := cfW Tryz.func276
theorem s_spec_nuInverse {a1 : Int} {vm2 : Int} {r : Int} (h : r_spec_nuInverse a1 vm2 = some r) : zL Tryz.prog 276 [I a1, I vm2] (I r) [] := by
 refine CtW [4] Tryz.func276 rfl rfl 36 ?_
 unfold r_spec_nuInverse at h
 refine VE ?_
 obtain ⟨y3, hy3, h⟩ := zA h
 refine VS ?_
 refine YK 3 (s_spec_nuMod hy3) cf_spec_nuMod ?_
 refine YF ?_
 refine zH ?_
 obtain ⟨o9, hLo9, h⟩ := zA h
 refine V_toK (mb 36 162) [] (s1 := ⟨.bot :: I vm2 :: bt 3 (I o9.1 :: .bot :: I o9.2 :: bt 28 []), []⟩) ?_ ?_
 ·clear h
  refine zK (V_loop (fun n s => ∃ (vr4 : Int) (next5 : Int) (x6 : Int) (y7 : Int), s.keep (mb 36 482) [] = (⟨.bot :: I vm2 :: bt 3 (I vr4 :: I next5 :: I x6 :: I y7 :: bt 27 []), []⟩ : St) ∧ r_spec_nuInverse_L8 vm2 n vr4 next5 x6 y7 = some o9) FU ⟨_, _, _, _,  kk, hLo9⟩ ?_)
  clear hLo9
  rintro n s ⟨vr4, next5, x6, y7, hs, h⟩
  refine V_keep _ _ hs ?_
  clear hs
  cases n with
  | zero => cases h
  | succ n =>
   rw [r_spec_nuInverse_L8] at h
   refine zH ?_
   refine VE ?_
   refine VC h (fun h => ?_) (fun h => ?_)
   ·refine zI ?_
    show V _ _ _ _
    refine zK ?_
    obtain ⟨z11, hz11, h⟩ := zA h
    obtain ⟨q12, hq12, h⟩ := zQ h
    refine zN (mb 36 994) [] (s1 := ⟨.bot :: I vm2 :: bt 3 (I vr4 :: I next5 :: I x6 :: I y7 :: I q12 :: bt 26 []), []⟩) ?_ ?_
    ·refine XR 2 ?_
     refine L0 rfl rfl (Y0_quo64 (a := vr4) (b := next5) rfl kk kk (nz_some hz11)) ?_
     refine XR 1 ?_
     refine zJ ?_
     subst hq12
     kernel_rfl
    obtain ⟨next13, hnext13, h⟩ := zQ h
    refine zN (mb 36 994) [] (s1 := ⟨.bot :: I vm2 :: bt 3 (I next5 :: I next13 :: I x6 :: I y7 :: I q12 :: bt 26 []), []⟩) ?_ ?_
    ·refine XR 8 ?_
     refine zJ ?_
     subst hnext13
     kernel_rfl
    obtain ⟨y14, hy14, h⟩ := zQ h
    refine V_reg (mb 36 482) [] (s1 := ⟨.bot :: I vm2 :: bt 3 (I next5 :: I next13 :: I y7 :: I y14 :: bt 27 []), []⟩) ?_ ?_
    ·refine XR 8 ?_
     refine zJ ?_
     subst hy14
     kernel_rfl
    exact ⟨n, Nat.lt_succ_self n, _, _, _, _,  kk, h⟩
   ·refine V_exit ?_
    obtain rfl := zB h
    show St.keep _ _ _ = _
    kernel_rfl
 show V _ _ _ _
 refine zH ?_
 refine VE ?_
 refine VC h (fun h => ?_) (fun h => ?_)
 ·refine VE ?_
  cases h
  exact zE VT
 ·refine zI ?_
  show V _ _ _ _
  obtain ⟨y16, hy16, h⟩ := zA h
  refine VS ?_
  refine YK 2 (s_spec_nuMod hy16) cf_spec_nuMod ?_
  refine YF ?_
  cases h
  exact zE VT
theorem cf_spec_nuBezout : CfW Tryz.prog 275 := cfW Tryz.func275
theorem s_spec_nuBezout {a1 : Int} {b2 : Int} {r : (Int × Int × Int)} (h : r_spec_nuBezout a1 b2 = some r) : zL Tryz.prog 275 [I a1, I b2] (.tc (I r.1) (.tc (I r.2.1) (.tc (I r.2.2) .tn))) [] := by
 refine CtW [4, 5, 6] Tryz.func275 rfl rfl 34 ?_
 unfold r_spec_nuBezout at h
 refine VE ?_
 obtain ⟨y3, hy3, h⟩ := zA h
 refine VS ?_
 refine YK 2 (s_spec_nuGcd hy3) cf_spec_nuGcd ?_
 refine YF ?_
 refine zH ?_
 refine VE ?_
 refine VC h (fun h => ?_) (fun h => ?_)
 ·obtain ⟨y5, hy5, h⟩ := zA h
  refine VS ?_
  refine YK 2 (s_spec_l1Sign hy5) cf_spec_l1Sign ?_
  refine YF ?_
  cases h
  exact zE VT
 ·refine zI ?_
  show V _ _ _ _
  obtain ⟨z6, hz6, h⟩ := zA h
  obtain ⟨y7, hy7, h⟩ := zA h
  obtain ⟨z8, hz8, h⟩ := zA h
  obtain ⟨y9, hy9, h⟩ := zA h
  refine VDS [0, 0, 3, 0, 8, 0, 56, 127, 255] 9 (cdm 9 [10888, 10882, 10885, 2090, 2154, 682, 1386, 5461, 21845]) ?_
  refine ER 2 ?_
  refine E0 2 rfl rfl (Y0_quo64 (a := a1) (b := y3) rfl kk kk (nz_some hz6)) ?_
  refine EK 1 (s_spec_l1Abs hy7) cf_spec_l1Abs ?_
  refine ER 1 ?_
  refine E0 6 rfl rfl (Y0_quo64 (a := y7) (b := y3) rfl kk kk (nz_some hz8)) ?_
  refine EK 0 (s_spec_nuInverse hy9) cf_spec_nuInverse ?_
  refine EF 1 ?_
  obtain ⟨z10, hz10, h⟩ := zA h
  obtain ⟨t11, ht11, h⟩ := zQ h
  refine V_sdreg [0, 0, 0, 0, 0, 24, 60, 0, 252, 1, 515, 2047] 12 (cdm 12 [174760, 699042, 2656906, 2654762, 2654378, 2654570, 2655578, 2632362, 2643290, 174761, 436901, 1398101]) (mb 34 112) [] (s1 := ⟨bt 4 (I y3 :: I y9 :: I t11 :: bt 27 []), []⟩) kk kk ?_ ?_
  ·refine DR 8 ?_
   refine DE_0 8 (I (w64 (Int.tdiv (w64 (y3 - (w64 (a1 * y9)))) b2))) kk rfl rfl rfl (gsat_none rfl) kk (Y0_quo64 (a := w64 (y3 - (w64 (a1 * y9)))) (b := b2) rfl kk kk (nz_some hz10)) 33 rfl ?_
   refine DA 3 ?_
   refine zJ ?_
   subst ht11
   kernel_rfl
  cases h
  exact zE VT
theorem cf_spec_vaComplete : CfW Tryz.prog 239 := cfW Tryz.func239
theorem s_spec_vaComplete {f1 : (Int × Int × Int)} {x2 : Int} {y3 : Int} {r : (((Int × Int × Int)) × ((Int × Int × Int × Int)))} (h : r_spec_vaComplete f1 x2 y3 = some r) : zL Tryz.prog 239 [.ag [Ti f1.1, Ti f1.2.1, Ti f1.2.2], I x2, I y3] (.tc (.ag [Ti r.1.1, Ti r.1.2.1, Ti r.1.2.2]) (.tc (.ag [Ti r.2.1, Ti r.2.2.1, Ti r.2.2.2.1, Ti r.2.2.2.2]) .tn)) [] := by
 refine zO (rs := [.w 6 3, .w 7 4]) (vs := [.cell 6 38, .cell 7 109]) Tryz.func239 rfl rfl (.cons ⟨rfl, wd38⟩ (.cons ⟨rfl, wd109⟩ FitsL.nil)) (by decide) 76 rfl ?_
 unfold r_spec_vaComplete at h
 refine VE ?_
 obtain ⟨y4, hy4, h⟩ := zA h
 refine VS ?_
 refine YK 2 (s_spec_nuBezout hy4) cf_spec_nuBezout ?_
 refine YF ?_
 obtain ⟨y5, hy5, h⟩ := zA h
 obtain ⟨q6, hq6, h⟩ := zQ h
 refine zN (mb 76 6862) [56, 48, 24] (s1 := ⟨.bot :: I x2 :: I y3 :: .pt 24 0 :: .bot :: .bot :: .pt 48 0 :: .pt 56 0 :: .bot :: I y4.2.1 :: .bot :: I q6 :: I y5 :: bt 63 [], [(56, .box [Ti 0, Ti 0, Ti 0, Ti 0]), (48, .box [Ti 0, Ti 0, Ti 0]), (24, .box [Ti f1.1, Ti f1.2.1, Ti f1.2.2])]⟩) ?_ ?_
 ·refine XR 5 ?_
  refine XC (s_spec_foValue hy5) cf_spec_foValue rfl rfl rfl ?_
  refine XR 2 ?_
  refine zJ ?_
  subst hq6
  kernel_rfl
 obtain ⟨y7, hy7, h⟩ := zA h
 refine VS ?_
 refine YK 5 (s_spec_foPolar hy7) cf_spec_foPolar ?_
 refine YF ?_
 obtain ⟨y8, hy8, h⟩ := zA h
 obtain ⟨z9, hz9, h⟩ := zA h
 obtain ⟨t10, ht10, h⟩ := zQ h
 refine zN (mb 76 31438) [56, 48, 24] (s1 := ⟨.bot :: I x2 :: I y3 :: .pt 24 0 :: .bot :: .bot :: .pt 48 0 :: .pt 56 0 :: .bot :: I y4.2.1 :: .bot :: I q6 :: I y5 :: I y7 :: I t10 :: bt 61 [], [(56, .box [Ti 0, Ti 0, Ti 0, Ti 0]), (48, .box [Ti 0, Ti 0, Ti 0]), (24, .box [Ti f1.1, Ti f1.2.1, Ti f1.2.2])]⟩) ?_ ?_
 ·refine XR 3 ?_
  refine XC (s_spec_nuMod hy8) cf_spec_nuMod rfl rfl rfl ?_
  refine XR 4 ?_
  refine L0 rfl rfl (Y0_quo64 (a := w64 (y8 - y7)) (b := w64 (2 * y5)) rfl kk kk (nz_some hz9)) ?_
  refine XR 1 ?_
  refine zJ ?_
  subst ht10
  kernel_rfl
 obtain ⟨f11, hf11, h⟩ := zQ h
 obtain ⟨f12, hf12, h⟩ := zQ h
 refine zN (mb 76 61640) [120, 56, 48, 24] (s1 := ⟨bt 3 (.pt 24 0 :: .bot :: .bot :: .pt 48 0 :: .pt 56 0 :: bt 4 (I y5 :: I y7 :: I t10 :: .pt 120 0 :: bt 60 [])), [(120, .box [Ti x2, Ti f11, Ti y3, Ti f12]), (56, .box [Ti 0, Ti 0, Ti 0, Ti 0]), (48, .box [Ti 0, Ti 0, Ti 0]), (24, .box [Ti f1.1, Ti f1.2.1, Ti f1.2.2])]⟩) ?_ ?_
 ·refine XR 12 ?_
  refine L0 rfl rfl (zP (cs := [Ti x2, Ti (w64 (q6 + (w64 (x2 * t10)))), Ti y3, Ti (w64 (y4.2.1 + (w64 (y3 * t10))))]) pl109 bt109 rfl rfl kk) ?_
  refine XR 2 ?_
  refine zJ ?_
  subst hf11 hf12
  kernel_rfl
 obtain ⟨b13, hb13, h⟩ := zQ h
 refine zN (mb 76 45256) [120, 56, 48, 24] (s1 := ⟨bt 3 (.pt 24 0 :: .bot :: .bot :: .pt 48 0 :: .pt 56 0 :: bt 4 (I y5 :: I b13 :: .bot :: .pt 120 0 :: bt 60 [])), [(120, .box [Ti x2, Ti f11, Ti y3, Ti f12]), (56, .box [Ti 0, Ti 0, Ti 0, Ti 0]), (48, .box [Ti 0, Ti 0, Ti 0]), (24, .box [Ti f1.1, Ti f1.2.1, Ti f1.2.2])]⟩) ?_ ?_
 ·refine XR 7 ?_
  refine zJ ?_
  subst hb13
  kernel_rfl
 obtain ⟨y14, hy14, h⟩ := zA h
 obtain ⟨z15, hz15, h⟩ := zA h
 obtain ⟨f16, hf16, h⟩ := zQ h
 refine V_sdreg [0, 0, 0, 0, 12, 0, 32, 124, 0, 256, 1020, 2047, 0, 4095, 16383] 14 [[.z, .b, .b, .b, .b, .b, .b, .b, .b, .b, .b, .z, .b, .z], [.b, .z, .b, .b, .b, .b, .b, .b, .b, .b, .b, .z, .b, .z], [.b, .b, .z, .b, .z, .b, .b, .z, .b, .b, .z, .z, .b, .z], [.b, .b, .b, .z, .z, .b, .b, .z, .b, .b, .z, .z, .b, .z], [.b, .b, .a, .a, .z, .b, .b, .z, .b, .b, .z, .z, .b, .z], [.b, .b, .b, .b, .b, .z, .z, .z, .b, .b, .z, .z, .b, .z], [.b, .b, .b, .b, .b, .a, .z, .z, .b, .b, .z, .z, .b, .z], [.b, .b, .a, .a, .a, .a, .a, .z, .b, .b, .z, .z, .b, .z], [.b, .b, .b, .b, .b, .b, .b, .b, .z, .z, .z, .z, .b, .z], [.b, .b, .b, .b, .b, .b, .b, .b, .a, .z, .z, .z, .b, .z], [.b, .b, .a, .a, .a, .a, .a, .a, .a, .a, .z, .z, .b, .z], [.a, .a, .a, .a, .a, .a, .a, .a, .a, .a, .a, .z, .b, .z], [.b, .b, .b, .b, .b, .b, .b, .b, .b, .b, .b, .b, .z, .r 48], [.a, .a, .a, .a, .a, .a, .a, .a, .a, .a, .a, .a, .b, .z]] (mb 76 192) [56, 48] (s1 := ⟨bt 6 (.pt 48 0 :: .pt 56 0 :: bt 68 []), [(56, .box [Ti x2, Ti f11, Ti y3, Ti f12]), (48, .box [Ti y5, Ti b13, Ti f16])]⟩) kk kk ?_ ?_
 ·refine DR 6 ?_
  refine DC 6 (s_spec_foDisc hy14) cf_spec_foDisc rfl rfl rfl rfl 69 rfl ?_
  refine DR 3 ?_
  refine DE_0 10 (I (w64 (Int.tdiv (w64 ((w64 (b13 * b13)) - y14)) (w64 (4 * y5))))) kk rfl rfl rfl (gsat_none rfl) kk (Y0_quo64 (a := w64 ((w64 (b13 * b13)) - y14)) (b := w64 (4 * y5)) rfl kk kk (nz_some hz15)) 73 rfl ?_
  refine DE_0 11 (.ag [Ti y5, Ti b13, Ti (w64 (Int.tdiv (w64 ((w64 (b13 * b13)) - y14)) (w64 (4 * y5))))]) kk rfl rfl rfl (gsat_none rfl) kk (zP (cs := [Ti y5, Ti b13, Ti (w64 (Int.tdiv (w64 ((w64 (b13 * b13)) - y14)) (w64 (4 * y5))))]) pl38 bt38 rfl rfl kk) 74 rfl ?_
  refine DA 2 ?_
  refine XR 1 ?_
  refine zJ ?_
  subst hf16
  kernel_rfl
 cases h
 exact zE VT
theorem cf_spec_nuCommon : CfW Tryz.prog 240 := cfW Tryz.func240
theorem s_spec_nuCommon {a1 : Int} {vm2 : Int} {b3 : Int} {vn4 : Int} {r : (Int × Int × Bool)} (h : r_spec_nuCommon a1 vm2 b3 vn4 = some r) : zL Tryz.prog 240 [I a1, I vm2, I b3, I vn4] (.tc (I r.1) (.tc (I r.2.1) (.tc (Bo r.2.2) .tn))) [] := by
 refine CtW [8, 9, 10] Tryz.func240 rfl rfl 53 ?_
 unfold r_spec_nuCommon at h
 refine VE ?_
 obtain ⟨y5, hy5, h⟩ := zA h
 refine VS ?_
 refine YK 2 (s_spec_nuGcd hy5) cf_spec_nuGcd ?_
 refine YF ?_
 refine zH ?_
 obtain ⟨z6, hz6, h⟩ := zA h
 refine VS ?_
 refine YR 4 ?_
 refine L0 rfl rfl (Y0_rem (k := .i64) (a := w64 (b3 - a1)) (b := y5) rfl kk kk (nz_some hz6)) ?_
 refine YF ?_
 refine VC h (fun h => ?_) (fun h => ?_)
 ·refine VE ?_
  cases h
  exact zE VT
 ·refine zI ?_
  show V _ _ _ _
  obtain ⟨z8, hz8, h⟩ := zA h
  obtain ⟨z9, hz9, h⟩ := zA h
  obtain ⟨z10, hz10, h⟩ := zA h
  obtain ⟨y11, hy11, h⟩ := zA h
  obtain ⟨z12, hz12, h⟩ := zA h
  obtain ⟨y13, hy13, h⟩ := zA h
  refine VDS [0, 0, 3, 0, 15, 0, 0, 96, 0, 0, 768, 2016, 4095, 0, 0, 24576, 65535, 131071] 18 (cdm 18 [2829756552, 2829756546, 2829756549, 2829756458, 2829756501, 2821333674, 2821327530, 2821330602, 2819140266, 2818747050, 2818943658, 2819970730, 2824164693, 581610154, 178956970, 380283562, 1431655765, 5726623061]) ?_
  refine ER 4 ?_
  refine E0 4 rfl rfl (Y0_quo64 (a := w64 (b3 - a1)) (b := y5) rfl kk kk (nz_some hz8)) ?_
  refine ER 2 ?_
  refine E0 7 rfl rfl (Y0_quo64 (a := vm2) (b := y5) rfl kk kk (nz_some hz9)) ?_
  refine ER 2 ?_
  refine E0 10 rfl rfl (Y0_quo64 (a := vn4) (b := y5) rfl kk kk (nz_some hz10)) ?_
  refine EK 0 (s_spec_nuInverse hy11) cf_spec_nuInverse ?_
  refine ER 3 ?_
  refine E0 15 rfl rfl (Y0_quo64 (a := vn4) (b := y5) rfl kk kk (nz_some hz12)) ?_
  refine EK 0 (s_spec_nuMod hy13) cf_spec_nuMod ?_
  refine EF 1 ?_
  obtain ⟨z14, hz14, h⟩ := zA h
  obtain ⟨all15, hall15, h⟩ := zQ h
  refine zN (mb 53 12291) [] (s1 := ⟨I a1 :: I vm2 :: bt 10 (I y13 :: I all15 :: bt 39 []), []⟩) ?_ ?_
  ·refine XR 2 ?_
   refine L0 rfl rfl (Y0_quo64 (a := vm2) (b := y5) rfl kk kk (nz_some hz14)) ?_
   refine XR 3 ?_
   refine zJ ?_
   subst hall15
   kernel_rfl
  obtain ⟨y16, hy16, h⟩ := zA h
  refine VS ?_
  refine YK 6 (s_spec_nuMod hy16) cf_spec_nuMod ?_
  refine YF ?_
  cases h
  exact zE VT
theorem cf_spec_coShift : CfW Tryz.prog 241 := cfW Tryz.func241
theorem s_spec_coShift {t1 : Int} {r : (Int × Int × Int × Int)} (h : r_spec_coShift t1 = some r) : zL Tryz.prog 241 [I t1] (.ag [Ti r.1, Ti r.2.1, Ti r.2.2.1, Ti r.2.2.2]) [] := by
 refine zO (rs := [.w 2 4]) (vs := [.cell 2 109]) Tryz.func241 rfl rfl (.cons ⟨rfl, wd109⟩ FitsL.nil) (by decide) 5 rfl ?_
 unfold r_spec_coShift at h
 refine VE ?_
 refine VS ?_
 refine YR 1 ?_
 refine L0 rfl rfl (zP (cs := [Ti 1, Ti t1, Ti 0, Ti 1]) pl109 bt109 rfl rfl kk) ?_
 refine YF ?_
 cases h
 exact zE VT
theorem cf_spec_coUnite : CfW Tryz.prog 184 := cfW Tryz.func184
theorem s_spec_coUnite {f1 : (Int × Int × Int)} {g2 : (Int × Int × Int)} {r : (((Int × Int × Int)) × ((Int × Int × Int)) × ((Int × Int × Int × Int)) × ((Int × Int × Int × Int)))} (h : r_spec_coUnite f1 g2 = some r) : zL Tryz.prog 184 [.ag [Ti f1.1, Ti f1.2.1, Ti f1.2.2], .ag [Ti g2.1, Ti g2.2.1, Ti g2.2.2]] (.tc (.ag [Ti r.1.1, Ti r.1.2.1, Ti r.1.2.2]) (.tc (.ag [Ti r.2.1.1, Ti r.2.1.2.1, Ti r.2.1.2.2]) (.tc (.ag [Ti r.2.2.1.1, Ti r.2.2.1.2.1, Ti r.2.2.1.2.2.1, Ti r.2.2.1.2.2.2]) (.tc (.ag [Ti r.2.2.2.1, Ti r.2.2.2.2.1, Ti r.2.2.2.2.2.1, Ti r.2.2.2.2.2.2]) .tn)))) [] := by
 refine zO (rs := [.w 4 3, .w 5 3, .w 6 4, .w 7 4]) (vs := [.cell 4 38, .cell 5 38, .cell 6 109, .cell 7 109]) Tryz.func184 rfl rfl (.cons ⟨rfl, wd38⟩ (.cons ⟨rfl, wd38⟩ (.cons ⟨rfl, wd109⟩ (.cons ⟨rfl, wd109⟩ FitsL.nil)))) (by decide) 118 rfl ?_
 unfold r_spec_coUnite at h
 refine VE ?_
 obtain ⟨y3, hy3, h⟩ := zA h
 refine VS ?_
 refine YK 1 (s_spec_reReduce hy3) cf_spec_reReduce ?_
 refine YF ?_
 obtain ⟨y4, hy4, h⟩ := zA h
 refine VS ?_
 refine YK 1 (s_spec_reReduce hy4) cf_spec_reReduce ?_
 refine YF ?_
 obtain ⟨y5, hy5, h⟩ := zA h
 refine VS ?_
 refine YK 3 (s_spec_coPoint hy5) cf_spec_coPoint ?_
 refine YF ?_
 obtain ⟨y6, hy6, h⟩ := zA h
 refine VS ?_
 refine YK 3 (s_spec_vaComplete hy6) cf_spec_vaComplete ?_
 refine YF ?_
 obtain ⟨y7, hy7, h⟩ := zA h
 refine VS ?_
 refine YK 2 (s_spec_foMul hy7) cf_spec_foMul ?_
 refine YF ?_
 obtain ⟨y8, hy8, h⟩ := zA h
 obtain ⟨y9, hy9, h⟩ := zA h
 refine VDS [0, 1, 0, 4, 12, 31, 0, 64, 192, 0, 512, 0, 2048, 6144, 16383, 32767, 65535, 65535, 65535, 131071, 786431, 2097151] 22 (cdm 22 [178954912, 178954913, 178954250, 178954266, 178954330, 178954581, 178784938, 178789034, 178805418, 176335530, 176597674, 2796202, 6990506, 23767722, 89478485, 357913941, 173230347605, 697216357717, 2793160398165, 177525314901, 435223352661, 1466015503701]) ?_
 refine EK 5 (s_spec_nuMod hy8) cf_spec_nuMod ?_
 refine EK 8 (s_spec_nuCommon hy9) cf_spec_nuCommon ?_
 refine EF 7 ?_
 obtain ⟨z10, hz10, h⟩ := zA h
 obtain ⟨y11, hy11, h⟩ := zA h
 obtain ⟨y12, hy12, h⟩ := zA h
 refine V_sdreg [0, 0, 0, 4, 14, 0, 32, 96, 254, 510, 1023, 2047] 11 (cdm 11 [699048, 43170, 43018, 43034, 43094, 682, 1706, 5802, 21846, 87382, 349525]) (mb 118 36848) [88, 80, 72, 64, 56, 48, 40, 32] (s1 := ⟨bt 4 (.pt 32 0 :: .pt 40 0 :: .pt 48 0 :: .pt 56 0 :: .pt 64 0 :: .pt 72 0 :: .pt 80 0 :: .pt 88 0 :: bt 3 (I y9.1 :: bt 102 [])), [(88, .box [Ti y7.1, Ti y7.2.1, Ti y7.2.2.1, Ti y7.2.2.2]), (80, .box [Ti y6.1.1, Ti y6.1.2.1, Ti y6.1.2.2]), (72, .box [Ti y12.1, Ti y12.2.1, Ti y12.2.2.1, Ti y12.2.2.2]), (64, .box [Ti y3.1.1, Ti y3.1.2.1, Ti y3.1.2.2]), (56, .box [Ti 0, Ti 0, Ti 0, Ti 0]), (48, .box [Ti 0, Ti 0, Ti 0, Ti 0]), (40, .box [Ti 0, Ti 0, Ti 0]), (32, .box [Ti 0, Ti 0, Ti 0])]⟩) kk kk ?_ ?_
 ·refine ER 8 ?_
  refine E0 8 rfl rfl (Y0_quo64 (a := w64 (y9.1 - y3.1.2.1)) (b := w64 (2 * y3.1.1)) rfl kk kk (nz_some hz10)) ?_
  refine EK 0 (s_spec_coShift hy11) cf_spec_coShift ?_
  refine EK 0 (s_spec_foMul hy12) cf_spec_foMul ?_
  refine EA 0 ?_
  exact XE
 obtain ⟨z13, hz13, h⟩ := zA h
 obtain ⟨y14, hy14, h⟩ := zA h
 obtain ⟨y15, hy15, h⟩ := zA h
 refine VDS [0, 0, 0, 4, 14, 0, 32, 96, 254, 510, 1023, 2047] 11 (cdm 11 [699048, 43170, 43018, 43034, 43094, 682, 1706, 5802, 21846, 87382, 349525]) ?_
 refine ER 8 ?_
 refine E0 8 rfl rfl (Y0_quo64 (a := w64 (y9.1 - y6.1.2.1)) (b := w64 (2 * y6.1.1)) rfl kk kk (nz_some hz13)) ?_
 refine EK 0 (s_spec_coShift hy14) cf_spec_coShift ?_
 refine EK 0 (s_spec_foMul hy15) cf_spec_foMul ?_
 refine EF 0 ?_
 obtain ⟨y16, hy16, h⟩ := zA h
 obtain ⟨z17, hz17, h⟩ := zA h
 obtain ⟨c18, hc18, h⟩ := zQ h
 refine V_sdreg [0, 0, 3, 0, 8, 31, 0, 64, 192, 0, 512, 1984, 4095, 8191] 14 (cdm 14 [11182728, 11182722, 11182725, 11182122, 11182186, 11182421, 2624170, 2628266, 2644650, 174762, 436906, 1399466, 5592405, 22369621]) (mb 118 298992) [88, 80, 72, 64, 56, 48, 40, 32] (s1 := ⟨bt 4 (.pt 32 0 :: .pt 40 0 :: .pt 48 0 :: .pt 56 0 :: .pt 64 0 :: .pt 72 0 :: .pt 80 0 :: .pt 88 0 :: bt 3 (I y9.1 :: .bot :: .bot :: I c18 :: bt 99 [])), [(88, .box [Ti y15.1, Ti y15.2.1, Ti y15.2.2.1, Ti y15.2.2.2]), (80, .box [Ti y6.1.1, Ti y6.1.2.1, Ti y6.1.2.2]), (72, .box [Ti y12.1, Ti y12.2.1, Ti y12.2.2.1, Ti y12.2.2.2]), (64, .box [Ti y3.1.1, Ti y3.1.2.1, Ti y3.1.2.2]), (56, .box [Ti 0, Ti 0, Ti 0, Ti 0]), (48, .box [Ti 0, Ti 0, Ti 0, Ti 0]), (40, .box [Ti 0, Ti 0, Ti 0]), (32, .box [Ti 0, Ti 0, Ti 0])]⟩) kk kk ?_ ?_
 ·refine DR 4 ?_
  refine DC 4 (s_spec_foDisc hy16) cf_spec_foDisc rfl rfl rfl rfl 91 rfl ?_
  refine DR 7 ?_
  refine DE_0 12 (I (w64 (Int.tdiv (w64 ((w64 (y9.1 * y9.1)) - y16)) (w64 ((w64 (4 * y3.1.1)) * y6.1.1))))) kk rfl rfl rfl (gsat_none rfl) kk (Y0_quo64 (a := w64 ((w64 (y9.1 * y9.1)) - y16)) (b := w64 ((w64 (4 * y3.1.1)) * y6.1.1)) rfl kk kk (nz_some hz17)) 99 rfl ?_
  refine DA 1 ?_
  refine zJ ?_
  subst hc18
  kernel_rfl
 obtain ⟨f19, hf19, h⟩ := zQ h
 obtain ⟨f20, hf20, h⟩ := zQ h
 refine V_sdreg [0, 1, 0, 0, 8, 0, 56, 127, 0, 256, 0, 0, 2048, 0, 14336, 32512, 0, 0, 255, 327679, 917503, 2097151] 21 [[.z, .z, .b, .b, .b, .b, .b, .z, .b, .b, .b, .b, .b, .b, .b, .b, .b, .b, .z, .z, .z], [.a, .z, .b, .b, .b, .b, .b, .z, .b, .b, .b, .b, .b, .b, .b, .b, .b, .b, .z, .z, .z], [.b, .b, .z, .b, .b, .b, .b, .z, .b, .b, .b, .b, .b, .b, .b, .b, .b, .b, .z, .z, .z], [.b, .b, .b, .z, .z, .b, .z, .z, .b, .b, .b, .b, .b, .b, .b, .b, .b, .b, .z, .z, .z], [.b, .b, .b, .a, .z, .b, .z, .z, .b, .b, .b, .b, .b, .b, .b, .b, .b, .b, .z, .z, .z], [.b, .b, .b, .b, .b, .z, .z, .z, .b, .b, .b, .b, .b, .b, .b, .b, .b, .b, .z, .z, .z], [.b, .b, .b, .a, .a, .a, .z, .z, .b, .b, .b, .b, .b, .b, .b, .b, .b, .b, .z, .z, .z], [.a, .a, .a, .a, .a, .a, .a, .z, .b, .b, .b, .b, .b, .b, .b, .b, .b, .b, .z, .z, .z], [.b, .b, .b, .b, .b, .b, .b, .b, .z, .z, .b, .b, .b, .b, .b, .z, .b, .b, .r 32, .z, .z], [.b, .b, .b, .b, .b, .b, .b, .b, .a, .z, .b, .b, .b, .b, .b, .z, .b, .b, .r 32, .z, .z], [.b, .b, .b, .b, .b, .b, .b, .b, .b, .b, .z, .b, .b, .b, .b, .z, .b, .b, .r 32, .z, .z], [.b, .b, .b, .b, .b, .b, .b, .b, .b, .b, .b, .z, .z, .b, .z, .z, .b, .b, .r 32, .z, .z], [.b, .b, .b, .b, .b, .b, .b, .b, .b, .b, .b, .a, .z, .b, .z, .z, .b, .b, .r 32, .z, .z], [.b, .b, .b, .b, .b, .b, .b, .b, .b, .b, .b, .b, .b, .z, .z, .z, .b, .b, .r 32, .z, .z], [.b, .b, .b, .b, .b, .b, .b, .b, .b, .b, .b, .a, .a, .a, .z, .z, .b, .b, .r 32, .z, .z], [.b, .b, .b, .b, .b, .b, .b, .b, .a, .a, .a, .a, .a, .a, .a, .z, .b, .b, .r 32, .z, .z], [.b, .b, .b, .b, .b, .b, .b, .b, .b, .b, .b, .b, .b, .b, .b, .b, .z, .b, .r 32, .r 40, .z], [.b, .b, .b, .b, .b, .b, .b, .b, .b, .b, .b, .b, .b, .b, .b, .b, .b, .z, .r 32, .r 40, .r 48], [.a, .a, .a, .a, .a, .a, .a, .a, .b, .b, .b, .b, .b, .b, .b, .b, .b, .b, .z, .z, .z], [.a, .a, .a, .a, .a, .a, .a, .a, .a, .a, .a, .a, .a, .a, .a, .a, .b, .b, .a, .z, .z], [.a, .a, .a, .a, .a, .a, .a, .a, .a, .a, .a, .a, .a, .a, .a, .a, .a, .b, .a, .a, .z]] (mb 118 240) [56, 48, 40, 32] (s1 := ⟨bt 4 (.pt 32 0 :: .pt 40 0 :: .pt 48 0 :: .pt 56 0 :: bt 110 []), [(56, .box [Ti y15.1, Ti y15.2.1, Ti y15.2.2.1, Ti y15.2.2.2]), (48, .box [Ti y12.1, Ti y12.2.1, Ti y12.2.2.1, Ti y12.2.2.2]), (40, .box [Ti y6.1.1, Ti y9.1, Ti f19]), (32, .box [Ti y3.1.1, Ti y9.1, Ti f20])]⟩) kk kk ?_ ?_
 ·refine DR 7 ?_
  refine DE_0 7 (.ag [Ti y3.1.1, Ti y9.1, Ti (w64 (y6.1.1 * c18))]) kk rfl rfl rfl (gsat_none rfl) kk (zP (cs := [Ti y3.1.1, Ti y9.1, Ti (w64 (y6.1.1 * c18))]) pl38 bt38 rfl rfl kk) 107 rfl ?_
  refine DR 7 ?_
  refine DE_0 15 (.ag [Ti y6.1.1, Ti y9.1, Ti (w64 (y3.1.1 * c18))]) kk rfl rfl rfl (gsat_none rfl) kk (zP (cs := [Ti y6.1.1, Ti y9.1, Ti (w64 (y3.1.1 * c18))]) pl38 bt38 rfl rfl kk) 115 rfl ?_
  refine DA 5 ?_
  refine XR 1 ?_
  refine zJ ?_
  subst hf19 hf20
  kernel_rfl
 cases h
 exact zE VT
theorem cf_spec_coJoined : CfW Tryz.prog 185 := cfW Tryz.func185
theorem s_spec_coJoined {a1 : (Int × Int × Int)} {e2 : (Int × Int × Int)} {r : (Int × Int × Int)} (h : r_spec_coJoined a1 e2 = some r) : zL Tryz.prog 185 [.ag [Ti a1.1, Ti a1.2.1, Ti a1.2.2], .ag [Ti e2.1, Ti e2.2.1, Ti e2.2.2]] (.ag [Ti r.1, Ti r.2.1, Ti r.2.2]) [] := by
 refine zO (rs := [.w 4 3]) (vs := [.cell 4 38]) Tryz.func185 rfl rfl (.cons ⟨rfl, wd38⟩ FitsL.nil) (by decide) 18 rfl ?_
 unfold r_spec_coJoined at h
 refine VE ?_
 obtain ⟨z3, hz3, h⟩ := zA h
 obtain ⟨f4, hf4, h⟩ := zQ h
 obtain ⟨f5, hf5, h⟩ := zQ h
 refine V_sdreg [0, 1, 0, 4, 15, 0, 32, 0, 128, 0, 512, 1920, 4095, 8191] 13 (cdm 13 [11184288, 11184289, 11184138, 11184154, 11184213, 11174570, 11175594, 2632362, 2648746, 174762, 436906, 1403562, 5592405]) (mb 18 16) [32] (s1 := ⟨bt 4 (.pt 32 0 :: bt 13 []), [(32, .box [Ti f4, Ti a1.2.1, Ti f5])]⟩) kk kk ?_ ?_
 ·refine DR 11 ?_
  refine DE_0 11 (I (w64 (Int.tdiv a1.2.2 e2.1))) kk rfl rfl rfl (gsat_none rfl) kk (Y0_quo64 (a := a1.2.2) (b := e2.1) rfl kk kk (nz_some hz3)) 16 rfl ?_
  refine DE_0 12 (.ag [Ti (w64 (a1.1 * e2.1)), Ti a1.2.1, Ti (w64 (Int.tdiv a1.2.2 e2.1))]) kk rfl rfl rfl (gsat_none rfl) kk (zP (cs := [Ti (w64 (a1.1 * e2.1)), Ti a1.2.1, Ti (w64 (Int.tdiv a1.2.2 e2.1))]) pl38 bt38 rfl rfl kk) 17 rfl ?_
  refine DA 0 ?_
  refine XR 1 ?_
  refine zJ ?_
  subst hf4 hf5
  kernel_rfl
 cases h
 exact zE VT
theorem cf_spec_coMul : CfW Tryz.prog 100 := cfW Tryz.func100
theorem s_spec_coMul {f1 : (Int × Int × Int)} {g2 : (Int × Int × Int)} {r : (Int × Int × Int)} (h : r_spec_coMul f1 g2 = some r) : zL Tryz.prog 100 [.ag [Ti f1.1, Ti f1.2.1, Ti f1.2.2], .ag [Ti g2.1, Ti g2.2.1, Ti g2.2.2]] (.ag [Ti r.1, Ti r.2.1, Ti r.2.2]) [] := by
 refine zO (rs := [.w 4 3]) (vs := [.cell 4 38]) Tryz.func100 rfl rfl (.cons ⟨rfl, wd38⟩ FitsL.nil) (by decide) 21 rfl ?_
 unfold r_spec_coMul at h
 refine VE ?_
 obtain ⟨y3, hy3, h⟩ := zA h
 refine VS ?_
 refine YK 2 (s_spec_coUnite hy3) cf_spec_coUnite ?_
 refine YF ?_
 obtain ⟨y4, hy4, h⟩ := zA h
 obtain ⟨y5, hy5, h⟩ := zA h
 refine VS ?_
 refine YK 2 (s_spec_coJoined hy4) cf_spec_coJoined ?_
 refine YK 0 (s_spec_reClass hy5) cf_spec_reClass ?_
 refine YF ?_
 cases h
 exact zE VT
theorem cf_spec_foOpposite : CfW Tryz.prog 186 := cfW Tryz.func186
theorem s_spec_foOpposite {f1 : (Int × Int × Int)} {r : (Int × Int × Int)} (h : r_spec_foOpposite f1 = some r) : zL Tryz.prog 186 [.ag [Ti f1.1, Ti f1.2.1, Ti f1.2.2]] (.ag [Ti r.1, Ti r.2.1, Ti r.2.2]) [] := by
 refine zO (rs := [.w 2 3]) (vs := [.cell 2 38]) Tryz.func186 rfl rfl (.cons ⟨rfl, wd38⟩ FitsL.nil) (by decide) 11 rfl ?_
 unfold r_spec_foOpposite at h
 refine VE ?_
 obtain ⟨f2, hf2, h⟩ := zQ h
 refine zN (mb 11 4) [16] (s1 := ⟨.bot :: .bot :: .pt 16 0 :: bt 8 [], [(16, .box [Ti f1.1, Ti f2, Ti f1.2.2])]⟩) ?_ ?_
 ·refine XR 7 ?_
  refine L0 rfl rfl (zP (cs := [Ti f1.1, Ti (w64 (0 - f1.2.1)), Ti f1.2.2]) pl38 bt38 rfl rfl kk) ?_
  refine XR 1 ?_
  refine zJ ?_
  subst hf2
  kernel_rfl
 cases h
 exact zE VT
theorem cf_spec_coInverse : CfW Tryz.prog 101 := cfW Tryz.func101
theorem s_spec_coInverse {f1 : (Int × Int × Int)} {r : (Int × Int × Int)} (h : r_spec_coInverse f1 = some r) : zL Tryz.prog 101 [.ag [Ti f1.1, Ti f1.2.1, Ti f1.2.2]] (.ag [Ti r.1, Ti r.2.1, Ti r.2.2]) [] := by
 refine zO (rs := [.w 2 3]) (vs := [.cell 2 38]) Tryz.func101 rfl rfl (.cons ⟨rfl, wd38⟩ FitsL.nil) (by decide) 6 rfl ?_
 unfold r_spec_coInverse at h
 refine VE ?_
 obtain ⟨y2, hy2, h⟩ := zA h
 obtain ⟨y3, hy3, h⟩ := zA h
 refine VS ?_
 refine YK 1 (s_spec_foOpposite hy2) cf_spec_foOpposite ?_
 refine YK 0 (s_spec_reClass hy3) cf_spec_reClass ?_
 refine YF ?_
 cases h
 exact zE VT
theorem cf_spec_lgRun : CfW Tryz.prog 50 := cfW Tryz.func50
theorem s_spec_lgRun {l1 : List ((ByteArray × ((Int × Int × Int))))} {c2 : (Int × ByteArray × ByteArray × ByteArray × ((Int × Int × Int)))} {r : ((List ((ByteArray × ((Int × Int × Int))))) × Int)} (h : r_spec_lgRun l1 c2 = some r) : zL Tryz.prog 50 [.c (.sl (l1.map c73)), .ag [Ti c2.1, .v (.string c2.2.1), .v (.string c2.2.2.1), .v (.string c2.2.2.2.1), Ti c2.2.2.2.2.1, Ti c2.2.2.2.2.2.1, Ti c2.2.2.2.2.2.2]] (.tc (.ow 0) (.tc (I r.2) .tn)) [(0, .arr 73 4 (r.1.map c73))] := by
 refine CtW [4, 5] Tryz.func50 rfl rfl 133 ?_
 unfold r_spec_lgRun at h
 refine VS ?_
 refine YR 1 ?_
 refine L1 rfl rfl (Y1_nil (e := 73) 4 (by decide) (.inl rfl)) ?_
 refine YF ?_
 obtain ⟨y3, hy3, h⟩ := zA h
 obtain ⟨y4, hy4, h⟩ := zA h
 obtain ⟨y5, hy5, h⟩ := zA h
 refine VDS [0, 0, 2, 7, 0, 0, 32, 127, 0, 0, 512, 2047, 4095, 8191, 16383] 15 (cdm 15 [2763304, 2763266, 2763270, 2763285, 2762922, 2753194, 2754218, 2757973, 2665130, 174762, 436906, 1398101, 5592405, 22369621, 89478485]) ?_
 refine EK 3 (s_spec_lgFind hy3) cf_spec_lgFind ?_
 refine EK 3 (s_spec_lgFind hy4) cf_spec_lgFind ?_
 refine EK 3 (s_spec_lgFind hy5) cf_spec_lgFind ?_
 refine EF 3 ?_
 refine zN (mb 133 969) [24] (s1 := ⟨.c (.sl (l1.map c73)) :: .bot :: .bot :: .pt 24 0 :: .bot :: .bot :: I y3 :: I y4 :: I y5 :: Bo (bif (eqI c2.1 2) then true else (eqI c2.1 5)) :: bt 123 [], [(24, .box [Ti c2.1, .v (.string c2.2.1), .v (.string c2.2.2.1), .v (.string c2.2.2.2.1), Ti c2.2.2.2.2.1, Ti c2.2.2.2.2.2.1, Ti c2.2.2.2.2.2.2])]⟩) ?_ ?_
 ·refine YR 4 ?_
  refine zD (eqI c2.1 2) (fun hc6 => ?_) (fun hc6 => ?_)
  ·refine YQ hc6 ?_
   exact YE (by rw [hc6]; kernel_rfl)
  ·refine YQ hc6 ?_
   exact YE (by rw [hc6]; kernel_rfl)
 refine zH ?_
 obtain ⟨t8, ht8, h⟩ := zA h
 have ht8 := zB ht8
 refine zN (mb 133 68719477705) [24] (s1 := ⟨.c (.sl (l1.map c73)) :: .bot :: .bot :: .pt 24 0 :: .bot :: .bot :: I y3 :: I y4 :: I y5 :: Bo (bif (eqI c2.1 2) then true else (eqI c2.1 5)) :: bt 26 (Bo t8 :: bt 96 []), [(24, .box [Ti c2.1, .v (.string c2.2.1), .v (.string c2.2.2.1), .v (.string c2.2.2.2.1), Ti c2.2.2.2.2.1, Ti c2.2.2.2.2.2.1, Ti c2.2.2.2.2.2.2])]⟩) ?_ ?_
 ·refine YR 3 ?_
  refine zD (!(bif (eqI c2.1 2) then true else (eqI c2.1 5))) (fun hc7 => ?_) (fun hc7 => ?_)
  ·refine YQ hc7 ?_
   exact YE (by rw [← ht8]; (try rw [hc7]); kernel_rfl)
  ·refine YQ hc7 ?_
   exact YE (by rw [← ht8]; (try rw [hc7]); kernel_rfl)
 refine VC h (fun h => ?_) (fun h => ?_)
 ·refine VS ?_
  refine L1 rfl rfl (Y1_nil (e := 73) 4 (by decide) (.inl rfl)) ?_
  refine YF ?_
  cases h
  exact zE VT
 ·refine zI ?_
  show V _ _ _ _
  refine zH ?_
  obtain ⟨t15, ht15, h⟩ := zA h
  have ht15 := zB ht15
  refine zN (mb 133 576460752303423945) [24] (s1 := ⟨.c (.sl (l1.map c73)) :: .bot :: .bot :: .pt 24 0 :: .bot :: .bot :: I y3 :: I y4 :: I y5 :: bt 50 (Bo t15 :: bt 73 []), [(24, .box [Ti c2.1, .v (.string c2.2.1), .v (.string c2.2.2.1), .v (.string c2.2.2.2.1), Ti c2.2.2.2.2.1, Ti c2.2.2.2.2.2.1, Ti c2.2.2.2.2.2.2])]⟩) ?_ ?_
  ·refine YR 2 ?_
   refine zD (bif (eqI c2.1 2) then true else (eqI c2.1 5)) (fun hc10 => ?_) (fun hc10 => ?_)
   ·refine YQ hc10 ?_
    refine YR 4 ?_
    refine zD (bif (bif (eqI c2.1 2) then true else (eqI c2.1 5)) then (ltI y3 0) else false) (fun hc11 => ?_) (fun hc11 => ?_)
    ·refine YQ hc11 ?_ (by rw [hc10]; kernel_rfl)
     refine YR 9 ?_
     refine zD (bif (bif (bif (eqI c2.1 2) then true else (eqI c2.1 5)) then (ltI y3 0) else false) then true else (bif (!(c2.2.2.1.toList == ((⟨#[]⟩ : ByteArray)).toList)) then (ltI y4 0) else false)) (fun hc13 => ?_) (fun hc13 => ?_)
     ·refine YQ hc13 ?_ (by rw [hc11]; (try rw [hc10]); kernel_rfl)
      exact YE (by rw [← ht15]; (try rw [hc13]); (try rw [hc11]); (try rw [hc10]); kernel_rfl)
     ·refine YQ hc13 ?_ (by rw [hc11]; (try rw [hc10]); kernel_rfl)
      refine YR 4 ?_
      refine zD (!(c2.2.2.2.1.toList == ((⟨#[]⟩ : ByteArray)).toList)) (fun hc14 => ?_) (fun hc14 => ?_)
      ·refine YQ hc14 ?_
       exact YE (by rw [← ht15]; (try rw [hc13]); (try rw [hc11]); (try rw [hc14]); (try rw [hc10]); kernel_rfl)
      ·refine YQ hc14 ?_
       exact YE (by rw [← ht15]; (try rw [hc13]); (try rw [hc11]); (try rw [hc14]); (try rw [hc10]); kernel_rfl)
    ·refine YQ hc11 ?_ (by rw [hc10]; kernel_rfl)
     refine YR 4 ?_
     refine zD (!(c2.2.2.1.toList == ((⟨#[]⟩ : ByteArray)).toList)) (fun hc12 => ?_) (fun hc12 => ?_)
     ·refine YQ hc12 ?_
      refine YR 5 ?_
      refine zD (bif (bif (bif (eqI c2.1 2) then true else (eqI c2.1 5)) then (ltI y3 0) else false) then true else (bif (!(c2.2.2.1.toList == ((⟨#[]⟩ : ByteArray)).toList)) then (ltI y4 0) else false)) (fun hc13 => ?_) (fun hc13 => ?_)
      ·refine YQ hc13 ?_ (by rw [hc11]; (try rw [hc12]); (try rw [hc10]); kernel_rfl)
       exact YE (by rw [← ht15]; (try rw [hc13]); (try rw [hc11]); (try rw [hc12]); (try rw [hc10]); kernel_rfl)
      ·refine YQ hc13 ?_ (by rw [hc11]; (try rw [hc12]); (try rw [hc10]); kernel_rfl)
       refine YR 4 ?_
       refine zD (!(c2.2.2.2.1.toList == ((⟨#[]⟩ : ByteArray)).toList)) (fun hc14 => ?_) (fun hc14 => ?_)
       ·refine YQ hc14 ?_
        exact YE (by rw [← ht15]; (try rw [hc13]); (try rw [hc11]); (try rw [hc14]); (try rw [hc12]); (try rw [hc10]); kernel_rfl)
       ·refine YQ hc14 ?_
        exact YE (by rw [← ht15]; (try rw [hc13]); (try rw [hc11]); (try rw [hc14]); (try rw [hc12]); (try rw [hc10]); kernel_rfl)
     ·refine YQ hc12 ?_
      refine YR 5 ?_
      refine zD (bif (bif (bif (eqI c2.1 2) then true else (eqI c2.1 5)) then (ltI y3 0) else false) then true else (bif (!(c2.2.2.1.toList == ((⟨#[]⟩ : ByteArray)).toList)) then (ltI y4 0) else false)) (fun hc13 => ?_) (fun hc13 => ?_)
      ·refine YQ hc13 ?_ (by rw [hc11]; (try rw [hc12]); (try rw [hc10]); kernel_rfl)
       exact YE (by rw [← ht15]; (try rw [hc13]); (try rw [hc11]); (try rw [hc12]); (try rw [hc10]); kernel_rfl)
      ·refine YQ hc13 ?_ (by rw [hc11]; (try rw [hc12]); (try rw [hc10]); kernel_rfl)
       refine YR 4 ?_
       refine zD (!(c2.2.2.2.1.toList == ((⟨#[]⟩ : ByteArray)).toList)) (fun hc14 => ?_) (fun hc14 => ?_)
       ·refine YQ hc14 ?_
        exact YE (by rw [← ht15]; (try rw [hc13]); (try rw [hc11]); (try rw [hc14]); (try rw [hc12]); (try rw [hc10]); kernel_rfl)
       ·refine YQ hc14 ?_
        exact YE (by rw [← ht15]; (try rw [hc13]); (try rw [hc11]); (try rw [hc14]); (try rw [hc12]); (try rw [hc10]); kernel_rfl)
   ·refine YQ hc10 ?_
    refine YR 4 ?_
    refine zD (bif (bif (eqI c2.1 2) then true else (eqI c2.1 5)) then (ltI y3 0) else false) (fun hc11 => ?_) (fun hc11 => ?_)
    ·refine YQ hc11 ?_ (by rw [hc10]; kernel_rfl)
     refine YR 9 ?_
     refine zD (bif (bif (bif (eqI c2.1 2) then true else (eqI c2.1 5)) then (ltI y3 0) else false) then true else (bif (!(c2.2.2.1.toList == ((⟨#[]⟩ : ByteArray)).toList)) then (ltI y4 0) else false)) (fun hc13 => ?_) (fun hc13 => ?_)
     ·refine YQ hc13 ?_ (by rw [hc11]; (try rw [hc10]); kernel_rfl)
      exact YE (by rw [← ht15]; (try rw [hc13]); (try rw [hc11]); (try rw [hc10]); kernel_rfl)
     ·refine YQ hc13 ?_ (by rw [hc11]; (try rw [hc10]); kernel_rfl)
      refine YR 4 ?_
      refine zD (!(c2.2.2.2.1.toList == ((⟨#[]⟩ : ByteArray)).toList)) (fun hc14 => ?_) (fun hc14 => ?_)
      ·refine YQ hc14 ?_
       exact YE (by rw [← ht15]; (try rw [hc13]); (try rw [hc11]); (try rw [hc14]); (try rw [hc10]); kernel_rfl)
      ·refine YQ hc14 ?_
       exact YE (by rw [← ht15]; (try rw [hc13]); (try rw [hc11]); (try rw [hc14]); (try rw [hc10]); kernel_rfl)
    ·refine YQ hc11 ?_ (by rw [hc10]; kernel_rfl)
     refine YR 4 ?_
     refine zD (!(c2.2.2.1.toList == ((⟨#[]⟩ : ByteArray)).toList)) (fun hc12 => ?_) (fun hc12 => ?_)
     ·refine YQ hc12 ?_
      refine YR 5 ?_
      refine zD (bif (bif (bif (eqI c2.1 2) then true else (eqI c2.1 5)) then (ltI y3 0) else false) then true else (bif (!(c2.2.2.1.toList == ((⟨#[]⟩ : ByteArray)).toList)) then (ltI y4 0) else false)) (fun hc13 => ?_) (fun hc13 => ?_)
      ·refine YQ hc13 ?_ (by rw [hc11]; (try rw [hc12]); (try rw [hc10]); kernel_rfl)
       exact YE (by rw [← ht15]; (try rw [hc13]); (try rw [hc11]); (try rw [hc12]); (try rw [hc10]); kernel_rfl)
      ·refine YQ hc13 ?_ (by rw [hc11]; (try rw [hc12]); (try rw [hc10]); kernel_rfl)
       refine YR 4 ?_
       refine zD (!(c2.2.2.2.1.toList == ((⟨#[]⟩ : ByteArray)).toList)) (fun hc14 => ?_) (fun hc14 => ?_)
       ·refine YQ hc14 ?_
        exact YE (by rw [← ht15]; (try rw [hc13]); (try rw [hc11]); (try rw [hc14]); (try rw [hc12]); (try rw [hc10]); kernel_rfl)
       ·refine YQ hc14 ?_
        exact YE (by rw [← ht15]; (try rw [hc13]); (try rw [hc11]); (try rw [hc14]); (try rw [hc12]); (try rw [hc10]); kernel_rfl)
     ·refine YQ hc12 ?_
      refine YR 5 ?_
      refine zD (bif (bif (bif (eqI c2.1 2) then true else (eqI c2.1 5)) then (ltI y3 0) else false) then true else (bif (!(c2.2.2.1.toList == ((⟨#[]⟩ : ByteArray)).toList)) then (ltI y4 0) else false)) (fun hc13 => ?_) (fun hc13 => ?_)
      ·refine YQ hc13 ?_ (by rw [hc11]; (try rw [hc12]); (try rw [hc10]); kernel_rfl)
       exact YE (by rw [← ht15]; (try rw [hc13]); (try rw [hc11]); (try rw [hc12]); (try rw [hc10]); kernel_rfl)
      ·refine YQ hc13 ?_ (by rw [hc11]; (try rw [hc12]); (try rw [hc10]); kernel_rfl)
       refine YR 4 ?_
       refine zD (!(c2.2.2.2.1.toList == ((⟨#[]⟩ : ByteArray)).toList)) (fun hc14 => ?_) (fun hc14 => ?_)
       ·refine YQ hc14 ?_
        exact YE (by rw [← ht15]; (try rw [hc13]); (try rw [hc11]); (try rw [hc14]); (try rw [hc12]); (try rw [hc10]); kernel_rfl)
       ·refine YQ hc14 ?_
        exact YE (by rw [← ht15]; (try rw [hc13]); (try rw [hc11]); (try rw [hc14]); (try rw [hc12]); (try rw [hc10]); kernel_rfl)
  refine VC h (fun h => ?_) (fun h => ?_)
  ·refine VS ?_
   refine L1 rfl rfl (Y1_nil (e := 73) 4 (by decide) (.inl rfl)) ?_
   refine YF ?_
   cases h
   exact zE VT
  ·refine zI ?_
   show V _ _ _ _
   refine VE ?_
   obtain ⟨qo17, hLo17, hko17⟩ := zA h
   clear h
   refine V_cutS (q := qo17) (S := fun o17 => ⟨.c (.sl (l1.map c73)) :: .bot :: .bot :: .pt 24 0 :: bt 6 (.pt 80 0 :: bt 122 []), [(80, .box [Ti o17.1, Ti o17.2.1, Ti o17.2.2]), (24, .box [Ti c2.1, .v (.string c2.2.1), .v (.string c2.2.2.1), .v (.string c2.2.2.2.1), Ti c2.2.2.2.2.1, Ti c2.2.2.2.2.2.1, Ti c2.2.2.2.2.2.2])]⟩) (mb 133 1033) [80, 24] ?_ ?_
   ·have h := hLo17
    clear hLo17
    refine VE ?_
    refine zK ?_
    refine VE ?_
    refine VC h (fun h => ?_) (fun h => ?_)
    ·obtain ⟨y19, hy19, h⟩ := zA h
     refine VS ?_
     refine YK 2 (s_spec_lgDrop hy19) cf_spec_lgDrop ?_
     refine YF ?_
     refine zE ?_
     obtain rfl := zB h
     have h := hko17
     obtain rfl := zB h
     exact VT
    ·refine VE ?_
     refine VC h (fun h => ?_) (fun h => ?_)
     ·refine zH ?_
      obtain ⟨y21, hy21, h⟩ := zA h
      obtain ⟨e22, he22, h⟩ := zA h
      obtain ⟨y23, hy23, h⟩ := zA h
      obtain ⟨t24, ht24, h⟩ := zA h
      have ht24 := zB ht24
      refine V_sdreg [0, 1, 3, 0, 0, 24, 56, 120, 255, 511] 10 (cdm 10 [43648, 43649, 43653, 554, 170, 362, 1386, 5482, 21845, 87381]) (mb 133 1208925819614629174706249) [24] (s1 := ⟨.c (.sl (l1.map c73)) :: .bot :: .bot :: .pt 24 0 :: .bot :: .bot :: I y3 :: bt 73 (Bo t24 :: bt 52 []), [(24, .box [Ti c2.1, .v (.string c2.2.1), .v (.string c2.2.2.1), .v (.string c2.2.2.2.1), Ti c2.2.2.2.2.1, Ti c2.2.2.2.2.2.1, Ti c2.2.2.2.2.2.2])]⟩) kk kk ?_ ?_
      ·refine DR 2 ?_
       refine DC 2 (s_spec_reClass hy21) cf_spec_reClass rfl rfl rfl rfl 73 rfl ?_
       refine DR 2 ?_
       refine DE_0 5 (.pe [.v (.string e22.1), Ti e22.2.1, Ti e22.2.2.1, Ti e22.2.2.2]) kk rfl rfl rfl (gsat_none rfl) kk (Y0_idxM (c := c73) (xs := l1) (v := e22) (n := y3) Tryz.underlying43 sz73 rfl kk kk he22) 76 rfl ?_
       refine DR 2 ?_
       refine DC 8 (s_spec_reClass hy23) cf_spec_reClass rfl rfl rfl rfl 79 rfl ?_
       refine DE_0 9 (Bo (!((y21.1 == y23.1) && ((y21.2.1 == y23.2.1) && (y21.2.2 == y23.2.2))))) kk rfl rfl rfl (gsat_none rfl) kk (Y0_neg3 (a0 := y21.1) (b0 := y23.1) (a1 := y21.2.1) (b1 := y23.2.1) (a2 := y21.2.2) (b2 := y23.2.2) neg38 rfl kk kk) 80 rfl ?_
       refine DA 0 ?_
       refine zJ ?_
       subst ht24
       kernel_rfl
      refine VC h (fun h => ?_) (fun h => ?_)
      ·refine VS ?_
       refine L1 rfl rfl (Y1_nil (e := 73) 4 (by decide) (.inl rfl)) ?_
       refine YF ?_
       refine zE ?_
       obtain rfl := zB h
       have h := hko17
       obtain rfl := zB h
       exact VT
      ·refine zI ?_
       show V _ _ _ _
       obtain ⟨y26, hy26, h⟩ := zA h
       obtain ⟨y27, hy27, h⟩ := zA h
       refine VDS [0, 0, 3, 0, 8, 0, 32, 120, 255, 511, 1023] 11 (cdm 11 [43656, 43650, 43653, 10282, 10346, 682, 1706, 5482, 21845, 87381, 349525]) ?_
       refine EK 2 (s_spec_lgDrop hy26) cf_spec_lgDrop ?_
       refine ER 4 ?_
       refine E0 7 rfl rfl (zP (cs := [.v (.string c2.2.1), Ti c2.2.2.2.2.1, Ti c2.2.2.2.2.2.1, Ti c2.2.2.2.2.2.2]) pl73 bt73 rfl rfl kk) ?_
       refine E1 8 rfl rfl (Y1_callS (s_spec_lgPut hy27) cf_spec_lgPut rfl kk rfl (flatE_cons (fun _ => rfl) rfl)) ?_
       refine EF 2 ?_
       refine zE ?_
       obtain rfl := zB h
       have h := hko17
       obtain rfl := zB h
       exact VT
     ·refine VE ?_
      refine VC h (fun h => ?_) (fun h => ?_)
      ·refine zH ?_
       obtain ⟨e29, he29, h⟩ := zA h
       obtain ⟨y30, hy30, h⟩ := zA h
       obtain ⟨e31, he31, h⟩ := zA h
       obtain ⟨y32, hy32, h⟩ := zA h
       refine VDS [0, 0, 3, 7, 15, 31, 0, 0, 192, 448, 960, 2047, 4095] 13 (cdm 13 [2793480, 2793474, 2793477, 2793493, 2793557, 2793813, 35498, 10922, 23210, 88746, 350890, 1398101, 5592405]) ?_
       refine ER 2 ?_
       refine E0 2 rfl rfl (Y0_idxM (c := c73) (xs := l1) (v := e29) (n := y4) Tryz.underlying43 sz73 rfl kk kk he29) ?_
       refine EK 2 (s_spec_foDisc hy30) cf_spec_foDisc ?_
       refine ER 2 ?_
       refine E0 8 rfl rfl (Y0_idxM (c := c73) (xs := l1) (v := e31) (n := y5) Tryz.underlying43 sz73 rfl kk kk he31) ?_
       refine EK 2 (s_spec_foDisc hy32) cf_spec_foDisc ?_
       refine EF 1 ?_
       refine VC h (fun h => ?_) (fun h => ?_)
       ·refine VS ?_
        refine L1 rfl rfl (Y1_nil (e := 73) 4 (by decide) (.inl rfl)) ?_
        refine YF ?_
        refine zE ?_
        obtain rfl := zB h
        have h := hko17
        obtain rfl := zB h
        exact VT
       ·refine zI ?_
        show V _ _ _ _
        obtain ⟨e34, he34, h⟩ := zA h
        obtain ⟨e35, he35, h⟩ := zA h
        obtain ⟨y36, hy36, h⟩ := zA h
        refine V_dreg [0, 0, 3, 7, 15, 0, 0, 96, 224, 480, 1023, 2047] 11 (cdm 11 [698376, 698370, 698373, 698389, 698453, 8874, 2730, 5802, 22186, 87722, 349525]) (mb 133 1033) [80, 24] (s1 := ⟨.c (.sl (l1.map c73)) :: .bot :: .bot :: .pt 24 0 :: bt 6 (.pt 80 0 :: bt 122 []), [(80, .box [Ti y36.1, Ti y36.2.1, Ti y36.2.2]), (24, .box [Ti c2.1, .v (.string c2.2.1), .v (.string c2.2.2.1), .v (.string c2.2.2.2.1), Ti c2.2.2.2.2.1, Ti c2.2.2.2.2.2.1, Ti c2.2.2.2.2.2.2])]⟩) kk kk ?_ ?_
        ·refine ER 2 ?_
         refine E0 2 rfl rfl (Y0_idxM (c := c73) (xs := l1) (v := e34) (n := y4) Tryz.underlying43 sz73 rfl kk kk he34) ?_
         refine ER 4 ?_
         refine E0 7 rfl rfl (Y0_idxM (c := c73) (xs := l1) (v := e35) (n := y5) Tryz.underlying43 sz73 rfl kk kk he35) ?_
         refine EK 2 (s_spec_coMul hy36) cf_spec_coMul ?_
         refine EA 0 ?_
         exact XE
        obtain rfl := zB h
        exact ⟨_, rfl, kk⟩
      ·refine VE ?_
       refine VC h (fun h => ?_) (fun h => ?_)
       ·obtain ⟨e38, he38, h⟩ := zA h
        obtain ⟨y39, hy39, h⟩ := zA h
        refine V_region ?_
        refine YR 2 ?_
        refine L0 rfl rfl (Y0_idxM (c := c73) (xs := l1) (v := e38) (n := y4) Tryz.underlying43 sz73 rfl kk kk he38) ?_
        refine YK 2 (s_spec_coInverse hy39) cf_spec_coInverse ?_
        refine YF ?_
        obtain rfl := zB h
        exact ⟨_, rfl, kk⟩
       ·refine zI ?_
        obtain rfl := zB h
        exact ⟨_, rfl, kk⟩
   rintro o17 rfl
   have h := hko17
   clear hko17
   refine zH ?_
   refine VS ?_
   refine YR 1 ?_
   refine L0 rfl rfl (Y0_lenM (c := c73) (xs := l1) Tryz.underlying43 rfl kk) ?_
   refine YF ?_
   refine VC h (fun h => ?_) (fun h => ?_)
   ·refine VS ?_
    refine L1 rfl rfl (Y1_nil (e := 73) 4 (by decide) (.inl rfl)) ?_
    refine YF ?_
    cases h
    exact zE VT
   ·refine zI ?_
    show V _ _ _ _
    obtain ⟨y41, hy41, h⟩ := zA h
    refine VS ?_
    refine YR 4 ?_
    refine L0 rfl rfl (zP (cs := [.v (.string c2.2.1), Ti o17.1, Ti o17.2.1, Ti o17.2.2]) pl73 bt73 rfl rfl kk) ?_
    refine YK 0 (s_spec_lgPut hy41) cf_spec_lgPut ?_
    refine YF ?_
    cases h
    exact zE VT
theorem cf_spec_lgReplay : CfW Tryz.prog 47 := cfW Tryz.func47
theorem s_spec_lgReplay {vs1 : ByteArray} {r : ((List ((ByteArray × ((Int × Int × Int))))) × Int × Int × Int)} (h : r_spec_lgReplay vs1 = some r) : zL Tryz.prog 47 [.c (.v (.string vs1))] (.tc (.c (.sl (r.1.map c73))) (.tc (I r.2.1) (.tc (I r.2.2.1) (.tc (I r.2.2.2) .tn)))) [] := by
 refine CtW [2, 3, 4, 5] Tryz.func47 rfl rfl 93 ?_
 unfold r_spec_lgReplay at h
 refine VS ?_
 refine L1 rfl rfl (Y1_nil (e := 73) 4 (by decide) (.inl rfl)) ?_
 refine YF ?_
 refine VS ?_
 refine L1 rfl rfl (Y1_nil (e := 73) 4 (by decide) (.inl rfl)) ?_
 refine YF ?_
 refine VE ?_
 refine zH ?_
 refine V_freeze 48 (T := 73) (sz := 4) (els := (([] : List ((ByteArray × ((Int × Int × Int)))))).map c73) kk rfl ?_
 obtain ⟨o7, hLo7, h⟩ := zA h
 refine V_toK (mb 93 960) [] (s1 := ⟨bt 6 (.c (.sl (o7.1.map c73)) :: I o7.2.1 :: I o7.2.2.1 :: I o7.2.2.2 :: bt 83 []), []⟩) ?_ ?_
 ·clear h
  refine zK (V_loop (fun n s => ∃ (l2 : List ((ByteArray × ((Int × Int × Int))))) (records3 : Int) (vat4 : Int) (check5 : Int), s.keep (mb 93 961) [] = (⟨.c (.v (.string vs1)) :: bt 5 (.c (.sl (l2.map c73)) :: I records3 :: I vat4 :: I check5 :: bt 83 []), []⟩ : St) ∧ r_spec_lgReplay_L6 vs1 n l2 records3 vat4 check5 = some o7) FU ⟨_, _, _, _,  kk, hLo7⟩ ?_)
  clear hLo7
  rintro n s ⟨l2, records3, vat4, check5, hs, h⟩
  refine V_keep _ _ hs ?_
  clear hs
  cases n with
  | zero => cases h
  | succ n =>
   rw [r_spec_lgReplay_L6] at h
   refine zH ?_
   refine VE ?_
   refine VC h (fun h => ?_) (fun h => ?_)
   ·refine zI ?_
    show V _ _ _ _
    refine zK ?_
    refine VE ?_
    refine zH ?_
    obtain ⟨o11, hLo11, h⟩ := zA h
    refine V_toK (mb 93 1985) [] (s1 := ⟨.c (.v (.string vs1)) :: bt 5 (.c (.sl (l2.map c73)) :: I records3 :: I vat4 :: I check5 :: I o11 :: bt 82 []), []⟩) ?_ ?_
    ·clear h
     refine zK (V_loop (fun n s => ∃ (vend9 : Int), s.keep (mb 93 1985) [] = (⟨.c (.v (.string vs1)) :: bt 5 (.c (.sl (l2.map c73)) :: I records3 :: I vat4 :: I check5 :: I vend9 :: bt 82 []), []⟩ : St) ∧ r_spec_lgReplay_L10 check5 l2 records3 vat4 vs1 n vend9 = some o11) FU ⟨_,  kk, hLo11⟩ ?_)
     clear hLo11
     rintro n s ⟨vend9, hs, h⟩
     refine V_keep _ _ hs ?_
     clear hs
     cases n with
     | zero => cases h
     | succ n =>
      rw [r_spec_lgReplay_L10] at h
      refine zH ?_
      obtain ⟨b14, hb14, h⟩ := zA h
      refine zN (mb 93 268437441) [] (s1 := ⟨.c (.v (.string vs1)) :: bt 5 (.c (.sl (l2.map c73)) :: I records3 :: I vat4 :: I check5 :: I vend9 :: bt 17 (Bo b14 :: bt 64 [])), []⟩) ?_ ?_
      ·refine YR 5 ?_
       refine zD (ltI vend9 ((vs1.size : Int))) (fun hc12 => ?_) (fun hc12 => ?_)
       ·have hb14 := of_true hb14 hc12
        obtain ⟨e13, he13, hb14⟩ := zA hb14
        have hb14 := zB hb14
        refine YQ hc12 ?_
        refine YR 2 ?_
        refine YT (X_of_Y0 rfl (Y0_idxs (b := vs1) (k := .i64) (n := vend9) (v := e13) Tryz.underlying9 rfl kk kk he13)) ?_
        exact YE (by rw [← hb14]; (try rw [hc12]); kernel_rfl)
       ·have hb14 := zB (of_false hb14 hc12)
        refine YQ hc12 ?_
        exact YE (by rw [← hb14]; (try rw [hc12]); kernel_rfl)
      refine VC h (fun h => ?_) (fun h => ?_)
      ·refine zI ?_
       show V _ _ _ _
       refine zK ?_
       obtain ⟨vend16, hvend16, h⟩ := zQ h
       refine V_reg (mb 93 1985) [] (s1 := ⟨.c (.v (.string vs1)) :: bt 5 (.c (.sl (l2.map c73)) :: I records3 :: I vat4 :: I check5 :: I vend16 :: bt 82 []), []⟩) ?_ ?_
       ·refine XR 3 ?_
        refine zJ ?_
        subst hvend16
        kernel_rfl
       exact ⟨n, Nat.lt_succ_self n, _,  kk, h⟩
      ·refine V_exit ?_
       obtain rfl := zB h
       show St.keep _ _ _ = _
       kernel_rfl
    show V _ _ _ _
    refine VE ?_
    refine zH ?_
    obtain ⟨o19, hLo19, h⟩ := zA h
    refine V_toK (mb 93 4033) [] (s1 := ⟨.c (.v (.string vs1)) :: bt 5 (.c (.sl (l2.map c73)) :: I records3 :: I vat4 :: I check5 :: I o11 :: I o19 :: bt 81 []), []⟩) ?_ ?_
    ·clear h
     refine zK (V_loop (fun n s => ∃ (mark17 : Int), s.keep (mb 93 4033) [] = (⟨.c (.v (.string vs1)) :: bt 5 (.c (.sl (l2.map c73)) :: I records3 :: I vat4 :: I check5 :: I o11 :: I mark17 :: bt 81 []), []⟩ : St) ∧ r_spec_lgReplay_L18 check5 l2 o11 records3 vat4 vs1 n mark17 = some o19) FU ⟨_,  kk, hLo19⟩ ?_)
     clear hLo19
     rintro n s ⟨mark17, hs, h⟩
     refine V_keep _ _ hs ?_
     clear hs
     cases n with
     | zero => cases h
     | succ n =>
      rw [r_spec_lgReplay_L18] at h
      refine zH ?_
      obtain ⟨b22, hb22, h⟩ := zA h
      refine zN (mb 93 1099511631809) [] (s1 := ⟨.c (.v (.string vs1)) :: bt 5 (.c (.sl (l2.map c73)) :: I records3 :: I vat4 :: I check5 :: I o11 :: I mark17 :: bt 28 (Bo b22 :: bt 52 [])), []⟩) ?_ ?_
      ·refine YR 4 ?_
       refine zD (ltI mark17 o11) (fun hc20 => ?_) (fun hc20 => ?_)
       ·have hb22 := of_true hb22 hc20
        obtain ⟨e21, he21, hb22⟩ := zA hb22
        have hb22 := zB hb22
        refine YQ hc20 ?_
        refine YR 2 ?_
        refine YT (X_of_Y0 rfl (Y0_idxs (b := vs1) (k := .i64) (n := mark17) (v := e21) Tryz.underlying9 rfl kk kk he21)) ?_
        exact YE (by rw [← hb22]; (try rw [hc20]); kernel_rfl)
       ·have hb22 := zB (of_false hb22 hc20)
        refine YQ hc20 ?_
        exact YE (by rw [← hb22]; (try rw [hc20]); kernel_rfl)
      refine VC h (fun h => ?_) (fun h => ?_)
      ·refine zI ?_
       show V _ _ _ _
       refine zK ?_
       obtain ⟨mark24, hmark24, h⟩ := zQ h
       refine V_reg (mb 93 4033) [] (s1 := ⟨.c (.v (.string vs1)) :: bt 5 (.c (.sl (l2.map c73)) :: I records3 :: I vat4 :: I check5 :: I o11 :: I mark24 :: bt 81 []), []⟩) ?_ ?_
       ·refine XR 3 ?_
        refine zJ ?_
        subst hmark24
        kernel_rfl
       exact ⟨n, Nat.lt_succ_self n, _,  kk, h⟩
      ·refine V_exit ?_
       obtain rfl := zB h
       show St.keep _ _ _ = _
       kernel_rfl
    show V _ _ _ _
    obtain ⟨u25, hu25, h⟩ := zA h
    obtain ⟨y26, hy26, h⟩ := zA h
    refine VS ?_
    refine YR 3 ?_
    refine L0 rfl rfl (Y0_slices (b := vs1) (l := vat4) (h := o19) Tryz.underlying9 rfl kk (fun y hy => by cases hy; exact ⟨.i64, kk⟩) (fun hh => by cases hh) (fun y hy => by cases hy; exact ⟨.i64, kk⟩) (fun hh => by cases hh) (slc_some hu25)) ?_
    refine YK 0 (s_spec_lgRead hy26) cf_spec_lgRead ?_
    refine YF ?_
    refine zH ?_
    obtain ⟨b31, hb31, h⟩ := zA h
    refine V_sdreg [0, 0, 2, 7, 15, 31, 63, 127, 255, 511, 511, 511, 2559, 8191, 511, 511, 49663, 131071, 262143] 19 (cdm 19 [40, 2, 6, 21, 85, 341, 1365, 5461, 21845, 11318416725, 11316843861, 11276997973, 11281192277, 11296658773, 2326353237, 715740501, 1521046869, 5726623061, 22906492245]) (mb 93 590295810358705659841) [96] (s1 := ⟨.c (.v (.string vs1)) :: bt 5 (.c (.sl (l2.map c73)) :: I records3 :: I vat4 :: I check5 :: I o11 :: I o19 :: .pt 96 0 :: bt 56 (Bo b31 :: bt 23 [])), [(96, .box [Ti y26.1.1, .v (.string y26.1.2.1), .v (.string y26.1.2.2.1), .v (.string y26.1.2.2.2.1), Ti y26.1.2.2.2.2.1, Ti y26.1.2.2.2.2.2.1, Ti y26.1.2.2.2.2.2.2])]⟩) kk kk ?_ ?_
    ·refine ER 5 ?_
     refine DL_split (eqI o11 ((vs1.size : Int))) (fun hc27 => ?_) (fun hc27 => ?_)
     ·refine EQ hc27 ?_
      refine ER 4 ?_
      refine DL_split (bif (eqI o11 ((vs1.size : Int))) then true else (!y26.2)) (fun hc28 => ?_) (fun hc28 => ?_)
      ·have hb31 := zB (of_true hb31 hc28)
       refine EQ hc28 ?_ (by rw [hc27]; kernel_rfl)
       refine EA 10 ?_
       exact YE (by rw [← hb31]; (try rw [hc28]); (try rw [hc27]); kernel_rfl)
      ·have hb31 := of_false hb31 hc28
       obtain ⟨u29, hu29, hb31⟩ := zA hb31
       obtain ⟨y30, hy30, hb31⟩ := zA hb31
       have hb31 := zB hb31
       refine EQ hc28 ?_ (by rw [hc27]; kernel_rfl)
       refine ER 4 ?_
       refine E0 13 rfl rfl (Y0_slices (b := vs1) (l := vat4) (h := w64 (o11 + 1)) Tryz.underlying9 rfl kk (fun y hy => by cases hy; exact ⟨.i64, kk⟩) (fun hh => by cases hh) (fun y hy => by cases hy; exact ⟨.i64, kk⟩) (fun hh => by cases hh) (slc_some hu29)) ?_
       refine EK 2 (s_spec_lgRecord hy30) cf_spec_lgRecord ?_
       refine EA 2 ?_
       exact YE (by rw [← hb31]; (try rw [hc28]); (try rw [hc27]); kernel_rfl)
     ·refine EQ hc27 ?_
      refine ER 4 ?_
      refine DL_split (bif (eqI o11 ((vs1.size : Int))) then true else (!y26.2)) (fun hc28 => ?_) (fun hc28 => ?_)
      ·have hb31 := zB (of_true hb31 hc28)
       refine EQ hc28 ?_ (by rw [hc27]; kernel_rfl)
       refine EA 10 ?_
       exact YE (by rw [← hb31]; (try rw [hc28]); (try rw [hc27]); kernel_rfl)
      ·have hb31 := of_false hb31 hc28
       obtain ⟨u29, hu29, hb31⟩ := zA hb31
       obtain ⟨y30, hy30, hb31⟩ := zA hb31
       have hb31 := zB hb31
       refine EQ hc28 ?_ (by rw [hc27]; kernel_rfl)
       refine ER 4 ?_
       refine E0 13 rfl rfl (Y0_slices (b := vs1) (l := vat4) (h := w64 (o11 + 1)) Tryz.underlying9 rfl kk (fun y hy => by cases hy; exact ⟨.i64, kk⟩) (fun hh => by cases hh) (fun y hy => by cases hy; exact ⟨.i64, kk⟩) (fun hh => by cases hh) (slc_some hu29)) ?_
       refine EK 2 (s_spec_lgRecord hy30) cf_spec_lgRecord ?_
       refine EA 2 ?_
       exact YE (by rw [← hb31]; (try rw [hc28]); (try rw [hc27]); kernel_rfl)
    refine VC h (fun h => ?_) (fun h => ?_)
    ·refine V_exit ?_
     obtain rfl := zB h
     show St.keep _ _ _ = _
     kernel_rfl
    ·refine zI ?_
     show V _ _ _ _
     obtain ⟨y33, hy33, h⟩ := zA h
     refine VS ?_
     refine YK 2 (s_spec_lgRun hy33) cf_spec_lgRun ?_
     refine YF ?_
     refine zH ?_
     refine VE ?_
     refine VC h (fun h => ?_) (fun h => ?_)
     ·refine V_exit ?_
      obtain rfl := zB h
      show St.keep _ _ _ = _
      kernel_rfl
     ·refine zI ?_
      show V _ _ _ _
      obtain ⟨u35, hu35, h⟩ := zA h
      obtain ⟨y36, hy36, h⟩ := zA h
      refine VS ?_
      refine YR 3 ?_
      refine L0 rfl rfl (Y0_slices (b := vs1) (l := vat4) (h := o19) Tryz.underlying9 rfl kk (fun y hy => by cases hy; exact ⟨.i64, kk⟩) (fun hh => by cases hh) (fun y hy => by cases hy; exact ⟨.i64, kk⟩) (fun hh => by cases hh) (slc_some hu35)) ?_
      refine YK 1 (s_spec_lgCheck hy36) cf_spec_lgCheck ?_
      refine YF ?_
      refine V_freeze 584 (T := 73) (sz := 4) (els := y33.1.map c73) kk rfl ?_
      obtain ⟨vat37, hvat37, h⟩ := zQ h
      refine zN (mb 93 961) [] (s1 := ⟨.c (.v (.string vs1)) :: bt 5 (.c (.sl (y33.1.map c73)) :: I records3 :: I vat37 :: I y36 :: bt 83 []), []⟩) ?_ ?_
      ·refine XR 5 ?_
       refine zJ ?_
       subst hvat37
       kernel_rfl
      obtain ⟨records38, hrecords38, h⟩ := zQ h
      refine V_reg (mb 93 961) [] (s1 := ⟨.c (.v (.string vs1)) :: bt 5 (.c (.sl (y33.1.map c73)) :: I records38 :: I vat37 :: I y36 :: bt 83 []), []⟩) ?_ ?_
      ·refine XR 3 ?_
       refine zJ ?_
       subst hrecords38
       kernel_rfl
      exact ⟨n, Nat.lt_succ_self n, _, _, _, _,  kk, h⟩
   ·refine V_exit ?_
    obtain rfl := zB h
    show St.keep _ _ _ = _
    kernel_rfl
 show V _ _ _ _
 refine VE ?_
 cases h
 exact zE VT
theorem cf_spec_lgJournal : CfW Tryz.prog 48 := cfW Tryz.func48
theorem s_spec_lgJournal {l1 : List ((Int × ByteArray × ByteArray × ByteArray × ((Int × Int × Int))))} {r : ByteArray} (h : r_spec_lgJournal l1 = some r) : zL Tryz.prog 48 [.c (.sl (l1.map c40))] (.c (.v (.string r))) [] := by
 refine CtW [2] Tryz.func48 rfl rfl 24 ?_
 unfold r_spec_lgJournal at h
 refine VE ?_
 refine VE ?_
 refine zH ?_
 refine VS ?_
 refine YR 1 ?_
 refine L0 rfl rfl (Y0_lenM (c := c40) (xs := l1) Tryz.underlying50 rfl kk) ?_
 refine YF ?_
 obtain ⟨o6, hLo6, h⟩ := zA h
 refine V_toK (mb 24 8) [] (s1 := ⟨bt 3 (.c (.v (.string o6)) :: bt 20 []), []⟩) ?_ ?_
 ·clear h
  refine zK (V_loop (fun n s => ∃ (out2 : ByteArray) (check3 : Int) (t4 : Int), s.keep (mb 24 920) [] = (⟨bt 3 (.c (.v (.string out2)) :: I check3 :: .bot :: .bot :: .c (.sl (l1.map c40)) :: I ((l1.length : Int)) :: I t4 :: bt 14 []), []⟩ : St) ∧ r_spec_lgJournal_L5 l1 n out2 check3 t4 = some o6) FU ⟨_, _, _,  kk, hLo6⟩ ?_)
  clear hLo6
  rintro n s ⟨out2, check3, t4, hs, h⟩
  refine V_keep _ _ hs ?_
  clear hs
  cases n with
  | zero => cases h
  | succ n =>
   rw [r_spec_lgJournal_L5] at h
   refine VE ?_
   refine zH ?_
   refine VC h (fun h => ?_) (fun h => ?_)
   ·refine zI ?_
    show V _ _ _ _
    refine zH ?_
    refine zK ?_
    obtain ⟨e8, he8, h⟩ := zA h
    refine VS ?_
    refine L0 rfl rfl (Y0_idxM (c := c40) (xs := l1) (v := e8) (n := t4) Tryz.underlying50 sz40 rfl kk kk he8) ?_
    refine YF ?_
    obtain ⟨y9, hy9, h⟩ := zA h
    obtain ⟨u10, hu10, h⟩ := zA h
    refine VS ?_
    refine YK 3 (s_spec_lgRecord hy9) cf_spec_lgRecord ?_
    refine L0 rfl rfl (Y0_cat (a := out2) (b := y9) rfl kk kk (catR_some hu10)) ?_
    refine YF ?_
    obtain ⟨y11, hy11, h⟩ := zA h
    obtain ⟨y12, hy12, h⟩ := zA h
    refine V_region ?_
    refine YK 1 (s_spec_lgText hy11) cf_spec_lgText ?_
    refine YK 1 (s_spec_lgCheck hy12) cf_spec_lgCheck ?_
    refine YF ?_
    show V _ _ _ _
    obtain ⟨t13, ht13, h⟩ := zQ h
    refine V_reg (mb 24 920) [] (s1 := ⟨bt 3 (.c (.v (.string (out2 ++ y9))) :: I y12 :: .bot :: .bot :: .c (.sl (l1.map c40)) :: I ((l1.length : Int)) :: I t13 :: bt 14 []), []⟩) ?_ ?_
    ·refine XR 2 ?_
     refine zJ ?_
     subst ht13
     kernel_rfl
    exact ⟨n, Nat.lt_succ_self n, _, _, _,  kk, h⟩
   ·refine V_exit ?_
    obtain rfl := zB h
    show St.keep _ _ _ = _
    kernel_rfl
 show V _ _ _ _
 refine VE ?_
 cases h
 exact zE VT
theorem cf_spec_CompactJournal : CfW Tryz.prog 18 := cfW Tryz.func18
theorem s_spec_CompactJournal {vs1 : ByteArray} {r : (ByteArray × Bool)} (h : r_spec_CompactJournal vs1 = some r) : zL Tryz.prog 18 [.c (.v (.string vs1))] (.tc (.c (.v (.string r.1))) (.tc (Bo r.2) .tn)) [] := by
 refine CtW [2, 3] Tryz.func18 rfl rfl 38 ?_
 unfold r_spec_CompactJournal at h
 refine VE ?_
 refine zH ?_
 refine VS ?_
 refine YF ?_
 refine VC h (fun h => ?_) (fun h => ?_)
 ·refine VE ?_
  cases h
  exact zE VT
 ·refine zI ?_
  show V _ _ _ _
  obtain ⟨y3, hy3, h⟩ := zA h
  refine VS ?_
  refine YK 1 (s_spec_lgReplay hy3) cf_spec_lgReplay ?_
  refine YF ?_
  obtain ⟨l4, hl4, h⟩ := zA h
  have hl4 := zB hl4
  refine zN (mb 38 272) [64] (s1 := ⟨bt 4 (.c (.sl (y3.1.map c73)) :: bt 3 (.ow 64 :: bt 29 [])), [(64, .arr 40 7 (l4.map c40))]⟩) ?_ ?_
  ·refine L1 rfl rfl (Y1_nil (e := 40) 7 (by decide) (.inl rfl)) ?_
   refine zJ ?_
   subst hl4
   kernel_rfl
  refine zH ?_
  refine VS ?_
  refine YR 1 ?_
  refine L0 rfl rfl (Y0_lenM (c := c73) (xs := y3.1) Tryz.underlying43 rfl kk) ?_
  refine YF ?_
  obtain ⟨o8, hLo8, h⟩ := zA h
  refine V_toK (mb 38 256) [64] (s1 := ⟨bt 8 (.ow 64 :: bt 29 []), [(64, .arr 40 7 (o8.map c40))]⟩) ?_ ?_
  ·clear h
   refine zK (V_loop (fun n s => ∃ (t5 : Int) (l6 : List ((Int × ByteArray × ByteArray × ByteArray × ((Int × Int × Int))))), s.keep (mb 38 14680320) [64] = (⟨bt 8 (.ow 64 :: bt 12 (.c (.sl (y3.1.map c73)) :: I ((y3.1.length : Int)) :: I t5 :: bt 14 [])), [(64, .arr 40 7 (l6.map c40))]⟩ : St) ∧ r_spec_CompactJournal_L7 y3 n t5 l6 = some o8) FU ⟨_, _,  kk, hLo8⟩ ?_)
   clear hLo8
   rintro n s ⟨t5, l6, hs, h⟩
   refine V_keep _ _ hs ?_
   clear hs
   cases n with
   | zero => cases h
   | succ n =>
    rw [r_spec_CompactJournal_L7] at h
    refine VE ?_
    refine zH ?_
    refine VC h (fun h => ?_) (fun h => ?_)
    ·refine zI ?_
     show V _ _ _ _
     refine zH ?_
     refine zK ?_
     obtain ⟨e10, he10, h⟩ := zA h
     refine VS ?_
     refine L0 rfl rfl (Y0_idxM (c := c73) (xs := y3.1) (v := e10) (n := t5) Tryz.underlying43 sz73 rfl kk kk he10) ?_
     refine YF ?_
     obtain ⟨u11, hu11, h⟩ := zA h
     obtain ⟨l12, hl12, h⟩ := zA h
     have hl12 := zB hl12
     refine V_reg (mb 38 14680320) [64] (s1 := ⟨bt 8 (.ow 64 :: bt 12 (.c (.sl (y3.1.map c73)) :: I ((y3.1.length : Int)) :: I t5 :: bt 14 [])), [(64, .arr 40 7 (l12.map c40))]⟩) ?_ ?_
     ·refine XR 5 ?_
      refine L0 rfl rfl (zP (cs := [Ti 1, .v (.string e10.1), .v (.string ByteArray.empty), .v (.string ByteArray.empty), Ti e10.2.1, Ti e10.2.2.1, Ti e10.2.2.2]) pl40 bt40 rfl rfl kk) ?_
      refine L1 rfl rfl (Y1_bslice (z := zv40) (els := [(1, e10.1, ByteArray.empty, ByteArray.empty, e10.2)].map c40) Tryz.underlying50 iz40 rfl (by decide) rfl kk rfl (by simp [c40]) (by decide) (by decide)) ?_
      refine XL_cons rfl (X_appendM (c := c40) (xs := l6) (ys := [(1, e10.1, ByteArray.empty, ByteArray.empty, e10.2)]) (id := 64) (z := zv40) rfl rfl Tryz.underlying50 izb40 rfl kk kk kk (fun _ => rfl) (by simp) (room_some hu11) (by decide)) ?_
      refine XR 1 ?_
      refine zJ ?_
      subst hl12
      kernel_rfl
     show V _ _ _ _
     obtain ⟨t13, ht13, h⟩ := zQ h
     refine V_reg (mb 38 14680320) [64] (s1 := ⟨bt 8 (.ow 64 :: bt 12 (.c (.sl (y3.1.map c73)) :: I ((y3.1.length : Int)) :: I t13 :: bt 14 [])), [(64, .arr 40 7 (l12.map c40))]⟩) ?_ ?_
     ·refine XR 2 ?_
      refine zJ ?_
      subst ht13
      kernel_rfl
     exact ⟨n, Nat.lt_succ_self n, _, _,  kk, h⟩
    ·refine V_exit ?_
     obtain rfl := zB h
     show St.keep _ _ _ = _
     kernel_rfl
  show V _ _ _ _
  obtain ⟨y14, hy14, h⟩ := zA h
  refine VS ?_
  refine YR 1 ?_
  refine L1 rfl rfl (Y1_callS (s_spec_lgJournal hy14) cf_spec_lgJournal rfl kk rfl rfl) ?_
  refine YF ?_
  cases h
  exact zE VT
theorem cf_internal_stringslite_IndexByte : CfW Tryz.prog 189 := cfW Tryz.func189
theorem s_internal_stringslite_IndexByte {vs1 : ByteArray} {c2 : Int} {r : Int} (h : r_internal_stringslite_IndexByte vs1 c2 = some r) : zL Tryz.prog 189 [.c (.v (.string vs1)), .c (.v (.int .u8 c2))] (I r) [] := by
 refine CtW [4] Tryz.func189 rfl rfl 8 ?_
 unfold r_internal_stringslite_IndexByte at h
 refine VE ?_
 obtain ⟨t3, ht3, h⟩ := zQ h
 refine zN (mb 8 16) [] (s1 := ⟨bt 4 (I t3 :: bt 3 []), []⟩) ?_ ?_
 ·refine XR 2 ?_
  refine L0 rfl rfl (Y0_idxb (b := vs1) (c := c2) cx_242 rfl kk kk) ?_
  refine XR 1 ?_
  refine zJ ?_
  subst ht3
  kernel_rfl
 cases h
 exact zE VT
theorem cf_strings_IndexByte : CfW Tryz.prog 105 := cfW Tryz.func105
theorem s_strings_IndexByte {vs1 : ByteArray} {c2 : Int} {r : Int} (h : r_strings_IndexByte vs1 c2 = some r) : zL Tryz.prog 105 [.c (.v (.string vs1)), .c (.v (.int .u8 c2))] (I r) [] := by
 refine CtW [4] Tryz.func105 rfl rfl 8 ?_
 unfold r_strings_IndexByte at h
 refine VE ?_
 obtain ⟨y3, hy3, h⟩ := zA h
 refine VS ?_
 refine YK 2 (s_internal_stringslite_IndexByte hy3) cf_internal_stringslite_IndexByte ?_
 refine YF ?_
 cases h
 exact zE VT
theorem cf_impl_integersIn : CfW Tryz.prog 160 := cfW Tryz.func160
theorem s_impl_integersIn {vs1 : ByteArray} {r : List Int} (h : r_impl_integersIn vs1 = some r) : zL Tryz.prog 160 [.c (.v (.string vs1))] (.ow 0) [(0, .arr 3 1 (r.map c3))] := by
 refine CtW [2] Tryz.func160 rfl rfl 30 ?_
 unfold r_impl_integersIn at h
 refine VS ?_
 refine L1 rfl rfl (Y1_nil (e := 3) 1 (by decide) (.inl rfl)) ?_
 refine YF ?_
 refine VS ?_
 refine L1 rfl rfl (Y1_bslice0 Tryz.underlying24 sz3 (by decide) rfl rfl) ?_
 refine YF ?_
 refine zH ?_
 obtain ⟨y2, hy2, h⟩ := zA h
 refine VS ?_
 refine YK 1 (s_strings_FieldsFunc_230 hy2) cf_strings_FieldsFunc ?_
 refine L0 rfl rfl (Y0_lenM (c := c9) (xs := y2) Tryz.underlying66 rfl kk) ?_
 refine YF ?_
 obtain ⟨qo6, hLo6, hko6⟩ := zA h
 refine V_toS (q := qo6) (S := fun o6 => ⟨bt 3 (.ow 64 :: bt 26 []), [(64, .arr 3 1 (o6.map c3))]⟩) (mb 30 8) [64] ?_ ?_
 ·refine zK (V_loop (fun n s => ∃ (t3 : Int) (l4 : List Int), s.keep (mb 30 7176) [80, 64] = (⟨bt 3 (.ow 64 :: bt 6 (.ow 80 :: I ((y2.length : Int)) :: I t3 :: bt 17 [])), [(80, .arr 9 1 (y2.map c9)), (64, .arr 3 1 (l4.map c3))]⟩ : St) ∧ r_impl_integersIn_L5 y2 n t3 l4 = some qo6) FU ⟨_, _,  kk, hLo6⟩ ?_)
  clear hLo6
  rintro n s ⟨t3, l4, hs, h⟩
  refine V_keep _ _ hs ?_
  clear hs
  cases n with
  | zero => cases h
  | succ n =>
   rw [r_impl_integersIn_L5] at h
   refine VE ?_
   refine zH ?_
   refine VC h (fun h => ?_) (fun h => ?_)
   ·refine zI ?_
    show V _ _ _ _
    refine zH ?_
    refine zK ?_
    obtain ⟨e8, he8, h⟩ := zA h
    obtain ⟨e9, he9, h⟩ := zA h
    refine VS ?_
    refine L0 rfl rfl (Y0_idxoM (c := c9) (xs := y2) (v := e8) (id := 80) (T := 9) (sz := 1) (n := t3) Tryz.underlying66 sz9 rfl kk kk kk he8) ?_
    refine L0 rfl rfl (Y0_loado1 (c := c9) (xs := y2) (v := e9) (id := 80) (sz := 1) (T := 9) (off := 0) (n := t3) (d := .v (.string e9)) (ds := []) sc9 rfl kk kk he9 kk) ?_
    refine YF ?_
    obtain ⟨y10, hy10, h⟩ := zA h
    refine VS ?_
    refine YK 1 (s_strconv_Atoi hy10) cf_strconv_Atoi ?_
    refine YF ?_
    refine zH ?_
    refine VS ?_
    refine YR 1 ?_
    refine L0 rfl rfl (Y0_erne (b := y10.2) Tryz.underlying91 rfl kk) ?_
    refine YF ?_
    refine VC h (fun h => ?_) (fun h => ?_)
    ·refine VS ?_
     refine L1 rfl rfl (Y1_bslice0 Tryz.underlying24 sz3 (by decide) rfl rfl) ?_
     refine YF ?_
     refine zE ?_
     obtain rfl := zB h
     have h := hko6
     obtain rfl := zB h
     exact VT
    ·refine zI ?_
     show V _ _ _ _
     obtain ⟨u12, hu12, h⟩ := zA h
     refine V_region ?_
     refine YR 2 ?_
     refine L1 rfl rfl (Y1_bslice (z := zv3) (els := [y10.1].map c3) Tryz.underlying24 iz3 rfl (by decide) rfl kk rfl (by simp [c3]) (by decide) (by decide)) ?_
     refine XL_cons rfl (X_appendM (c := c3) (xs := l4) (ys := [y10.1]) (id := 64) (z := zv3) rfl rfl Tryz.underlying24 izb3 rfl kk kk kk (fun _ => rfl) (by simp) (room_some hu12) (by decide)) ?_
     refine YF ?_
     show V _ _ _ _
     obtain ⟨t13, ht13, h⟩ := zQ h
     refine V_reg (mb 30 7176) [80, 64] (s1 := ⟨bt 3 (.ow 64 :: bt 6 (.ow 80 :: I ((y2.length : Int)) :: I t13 :: bt 17 [])), [(80, .arr 9 1 (y2.map c9)), (64, .arr 3 1 ((l4 ++ ([y10.1])).map c3))]⟩) ?_ ?_
     ·refine XR 2 ?_
      refine zJ ?_
      subst ht13
      kernel_rfl
     exact ⟨n, Nat.lt_succ_self n, _, _,  kk, h⟩
   ·refine V_exit ?_
    obtain rfl := zB h
    exact ⟨_, rfl, kk⟩
 rintro o6 rfl
 have h := hko6
 clear hko6
 show V _ _ _ _
 refine VE ?_
 cases h
 exact zE VT
end Go.Proofs.YtfmjfofocklgpaaGreatDoor
