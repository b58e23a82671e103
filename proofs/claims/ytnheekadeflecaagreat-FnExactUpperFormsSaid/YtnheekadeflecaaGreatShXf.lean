/-
  Rows of operations with guards, calls and ends of regions that are worked out by the checker itself; states need not be named.
  Conditions: none.
-/
import Derived.Test.YtnheekadeflecaaGreatShEx
namespace Go.Proofs.YtnheekadeflecaaGreat
open Go.RowKit
set_option linter.unusedSimpArgs false
set_option linter.unusedVariables false
section
variable (P : Program)
def ybin (op : BinOp) : AV → AV → Option AV
  | .c (.v (.int k a)), .c (.v (.int k2 b)) => match decEq k k2 with
    | isTrue _ => (match op with
      | .lss => some (Bo (ltI a b))
      | .leq => some (Bo (leI a b))
      | .gtr => some (Bo (ltI b a))
      | .geq => some (Bo (leI b a))
      | .eql => some (Bo (eqI a b))
      | .neq => some (Bo (!eqI a b))
      | _ => none)
    | isFalse _ => none
  | .c (.v (.string a)), .c (.v (.string b)) => match op with
    | .eql => some (Bo (a.toList == b.toList))
    | .neq => some (Bo (!(a.toList == b.toList)))
    | _ => none
  | _, _ => none
/-- The value of an operation that reads alone: more of them. -/
def yv (s : St) : Op → Option AV
  | .binOp op t x y _ => match ybin op (s.ev x) (s.ev y) with
    | some av => some av
    | none => (match s.ev x, s.ev y with
      | .c (.v (.bool a)), .c (.v (.bool b)) => (match P.underlying t with
        | some .bool => (match op with
          | .eql => some (Bo (a == b))
          | .neq => some (Bo (a != b))
          | _ => none)
        | _ => none)
      | _, _ => none)
  | .pick c x y => match s.ev c with
    | .c (.v (.bool b)) => nbA (bif b then s.ev x else s.ev y)
    | _ => none
  | .call c => match c with
    | ⟨.builtin .len, ⟨[x]⟩, ⟨[t]⟩⟩ => match P.underlying t, s.ev x with
      | some .string, .c (.v (.string b)) => some (I (b.size : Int))
      | _, _ => none
    | _ => none
  | _ => none
def yo (o : Oper) (s : St) : Option St := match xo P o s with
  | some s' => some s'
  | none => match o.dst with
    | some d => (match yv P s o.op with
      | some av => some (s.put d av)
      | none => none)
    | none => none
/-- The mark of an operation's guard. -/
def gdt (ops : Array Oper) (j : Nat) : Option Nat := (ops[j]?).bind (·.dst)
/-- Is an operation taken? -/
def yg (ops : Array Oper) (o : Oper) (s : St) : Option Bool := match o.guard with
  | none => some true
  | some (j, b) => match gdt ops j with
    | some t => match s.get t with
      | .c (.v (.bool c)) => some (bif c then b else !b)
      | .tn => some false
      | _ => none
    | none => none
def yr (ops : Array Oper) : List Oper → St → Option St
  | [], s => some s
  | o :: os, s => match yg ops o s with
    | some true => (match yo P o s with
      | some s' => yr ops os s'
      | none => none)
    | some false => (match o.dst with
      | some d => yr ops os (s.put d .tn)
      | none => none)
    | none => none
def yD (ops : Array Oper) (l : List Oper) (s : St) : St := (yr P ops l s).getD s
/-- The arguments of the call that comes first, if it is taken. -/
def yc (ops : Array Oper) (f : FuncId) (l : List Oper) (s : St) : Option (List AV) := match l with
  | o :: _ => match yg ops o s, o.dst with
    | some true, some _ => (match o.op with
      | .call ⟨.value (.func g), xs, _⟩ => bif Nat.beq g f then some (evL s xs.toList) else none
      | _ => none)
    | _, _ => none
  | [] => none
def ycn (ops : Array Oper) (f : FuncId) (n : Nat) (l : List Oper) (s : St) : Option (List AV) := match yr P ops (l.take n) s with
  | some s' => yc ops f (l.drop n) s'
  | none => none
end
def dstH : List Oper → Nat
  | o :: _ => o.dst.getD 0
  | [] => 0
section
variable {P : Program}
theorem ybin_ok {o : Oper} {s : St} {op : BinOp} {t t2 : TypeId} {x y : Operand} {av : AV} (ho : o.op = .binOp op t x y t2) (h : ybin op (s.ev x) (s.ev y) = some av) : Y0 P o s av := by
  generalize hx : s.ev x = a at h
  generalize hy : s.ev y = b at h
  unfold ybin at h
  split at h
  · split at h
    · rename_i hk _
      subst hk
      cases op <;> simp only [Option.some.injEq, reduceCtorEq] at h <;> subst h <;>
        first | exact Y0_eqw ho hx hy | exact Y0_new ho hx hy | exact Y0_ltw ho hx hy | exact Y0_lew ho hx hy | exact Y0_gtw ho hx hy | exact Y0_gew ho hx hy
    · cases h
  · cases op <;> simp only [Option.some.injEq, reduceCtorEq] at h <;> subst h <;>
      first | exact Y0_eqs ho hx hy | exact Y0_nes ho hx hy
  · cases h
theorem yv_ok {o : Oper} {s : St} {av : AV} (h : yv P s o.op = some av) : Y0 P o s av := by
  unfold yv at h
  split at h
  · rename_i ho
    split at h
    · rename_i hb; cases h; exact ybin_ok ho hb
    · split at h
      · rename_i hx hy
        split at h
        · rename_i hu
          split at h
          · cases h; exact Y0_eqb hu ho hx hy
          · cases h; exact Y0_neb hu ho hx hy
          · cases h
        · cases h
      · cases h
  · rename_i ho
    split at h
    · rename_i b hc
      obtain ⟨h1, h2⟩ := nbA_ok h
      rw [← h1]
      exact Y0_pick ho hc
    · cases h
  · rename_i ho
    split at h
    · rename_i x t
      split at h
      · rename_i b hu hx
        cases h
        exact Y0_lens hu ho hx
      · cases h
    · cases h
  · cases h
theorem yo_ok {o : Oper} {s s' : St} (h : yo P o s = some s') : X P o s s' := by
  unfold yo at h
  split at h
  · rename_i h1; cases h; exact xo_ok h1
  · split at h
    · rename_i d hd
      split at h
      · rename_i hv; cases h; exact X_of_Y0 hd (yv_ok hv)
      · cases h
    · cases h
theorem yg_take {ops : Array Oper} {o : Oper} {rest : List Oper} {s s' : St} {J : St → Prop} (hg : yg ops o s = some true) (h : X P o s s') (hk : XL P ops rest s' J) : XL P ops (o :: rest) s J := by
  unfold yg at hg
  split at hg
  · rename_i h1; exact XL_cons h1 h hk
  · rename_i j b h1
    split at hg
    · rename_i t ht
      split at hg
      · rename_i c hc
        have e : c = b := by cases c <;> cases b <;> simp_all
        subst e
        exact XL_take h1 ht hc h hk
      · cases hg
      · cases hg
    · cases hg
/-- An operation that is taken. -/
theorem YT {ops : Array Oper} {o : Oper} {rest : List Oper} {s s' : St} {J : St → Prop} (h : X P o s s') (hk : XL P ops rest s' J) (hg : yg ops o s = some true := by kernel_rfl) : XL P ops (o :: rest) s J := yg_take hg h hk
theorem yg_skip {ops : Array Oper} {o : Oper} {rest : List Oper} {s : St} {d : Nat} {J : St → Prop} (hg : yg ops o s = some false) (hd : o.dst = some d) (hk : XL P ops rest (s.put d .tn) J) : XL P ops (o :: rest) s J := by
  unfold yg at hg
  split at hg
  · cases hg
  · rename_i j b h1
    split at hg
    · rename_i t ht
      split at hg
      · rename_i c hc
        exact XL_skip h1 ht hc (by cases c <;> cases b <;> simp_all) hd hk
      · rename_i hc
        exact XL_skip2 h1 ht hc hd hk
      · cases hg
    · cases hg
theorem yr_ok {ops : Array Oper} {J : St → Prop} (rest : List Oper) : ∀ (l : List Oper) (s s' : St), yr P ops l s = some s' → XL P ops rest s' J → XL P ops (l ++ rest) s J
  | [], s, s', h, hk => by cases h; exact hk
  | o :: os, s, s', h, hk => by
    unfold yr at h
    split at h
    · rename_i hg
      split at h
      · rename_i s1 h1
        exact yg_take hg (yo_ok h1) (yr_ok rest os s1 s' h hk)
      · cases h
    · rename_i hg
      split at h
      · rename_i d hd
        exact yg_skip hg hd (yr_ok rest os _ s' h hk)
      · cases h
    · cases h
/-- A row of operations. -/
theorem YR (n : Nat) {ops : Array Oper} {rest : List Oper} {s : St} {J : St → Prop} (hk : XL P ops (rest.drop n) (yD P ops (rest.take n) s) J) (h : (yr P ops (rest.take n) s).isSome = true := by kernel_rfl) : XL P ops rest s J := by
  cases hx : yr P ops (rest.take n) s with
  | none => rw [hx] at h; cases h
  | some s' =>
    have e : yD P ops (rest.take n) s = s' := by unfold yD; rw [hx]; rfl
    rw [e] at hk
    have := yr_ok (ops := ops) (J := J) (rest.drop n) (rest.take n) s s' hx hk
    rwa [List.take_append_drop] at this
/-- The rest of a region: its state is not named. -/
theorem YF {ops : Array Oper} {rest : List Oper} {s : St} {K : St → Prop} (hk : K (yD P ops rest s)) (h : (yr P ops rest s).isSome = true := by kernel_rfl) : XL P ops rest s K := by
  cases hx : yr P ops rest s with
  | none => rw [hx] at h; cases h
  | some s' =>
    have e : yD P ops rest s = s' := by unfold yD; rw [hx]; rfl
    rw [e] at hk
    have := yr_ok (ops := ops) (J := K) [] rest s s' hx (XL_nil hk)
    rwa [List.append_nil] at this
/-- The rest of a region, and its state. -/
theorem YE {ops : Array Oper} {rest : List Oper} {s s1 : St} {m : List Bool} {ids : List Nat} (h : (yr P ops rest s).map (fun s' => s'.keep m ids) = some s1 := by kernel_rfl) : XL P ops rest s (fun s' => s'.keep m ids = s1) := by
  cases hx : yr P ops rest s with
  | none => rw [hx] at h; cases h
  | some s' =>
    rw [hx] at h
    have h2 : s'.keep m ids = s1 := by injection h
    have := yr_ok (ops := ops) (J := fun s' => s'.keep m ids = s1) [] rest s s' hx (XL_nil h2)
    rwa [List.append_nil] at this
/-- Some operations, and a call. -/
theorem YK (n : Nat) {ops : Array Oper} {rest : List Oper} {s : St} {J : St → Prop} {f : FuncId} {args : List AV} {av : AV} {ne : List (Nat × Ent)} (hS : CallS P f args av ne) (hc : ∀ args w, (callFunc f args).run P w = .ok (.enter f args) w)
    (hk : XL P ops (rest.drop (n + 1)) ((yD P ops (rest.take n) s).upd (dstH (rest.drop n)) av ne) J) (h : ycn P ops f n rest s = some args := by kernel_rfl) : XL P ops rest s J := by
  unfold ycn at h
  split at h
  · rename_i s' hx
    have e : yD P ops (rest.take n) s = s' := by unfold yD; rw [hx]; rfl
    rw [e] at hk
    unfold yc at h
    split at h
    · rename_i o os hl
      split at h
      · rename_i d hg hd
        split at h
        · rename_i g xs ts ho
          cases hb : Nat.beq g f with
          | false => rw [hb, cond_false] at h; cases h
          | true =>
            rw [hb, cond_true] at h
            have hgf := Nat.eq_of_beq_eq_true hb
            subst hgf
            have e3 : rest.drop (n + 1) = os := by rw [← List.drop_drop, hl]; rfl
            rw [hl, e3, dstH, hd] at hk
            have := yr_ok (ops := ops) (J := J) (rest.drop n) (rest.take n) s s' hx (by rw [hl]; exact yg_take hg (X_of_Y1 hd (Y1_call hS hc ho (by injection h))) hk)
            rwa [List.take_append_drop] at this
        · cases h
      · cases h
    · cases h
  · cases h
/-- The mark on which the next operation hangs. -/
def gtH (ops : Array Oper) : List Oper → Nat
  | o :: _ => match o.guard with
    | some (j, _) => (gdt ops j).getD 0
    | none => match o.op with
      | .pick (.tmp t) _ _ => t
      | _ => 0
  | [] => 0
theorem put_get (s : St) (t : Nat) : s.put t (s.get t) = s := by
  cases s with
  | mk T E =>
    simp only [St.put, St.get]
    congr 1
    apply List.ext_getElem?
    intro i
    rw [List.getElem?_set]
    by_cases h : t = i
    · subst h
      by_cases h2 : t < T.length
      · simp [h2]
      · simp [h2]
    · simp [h]
/-- A mark whose truth is known. -/
theorem YQ {c v : Bool} (hc : c = v) {ops : Array Oper} {rest : List Oper} {s : St} {J : St → Prop} (hk : XL P ops rest (s.put (gtH ops rest) (Bo v)) J) (h : s.get (gtH ops rest) = Bo c := by kernel_rfl) : XL P ops rest s J := by
  subst hc
  rw [← h, put_get] at hk
  exact hk
/-- The way into a function. -/
abbrev CfW (P : Program) (f : FuncId) : Prop := ∀ args w, (callFunc f args).run P w = .ok (.enter f args) w
theorem cfW {f : FuncId} {fn : Func} (hf : P.funcs[f]? = some fn) (hn : (fn.name == "runtime.NumGoroutine") = false := by kernel_rfl) (hb : fn.body.isNone = false := by kernel_rfl) : CfW P f := run_callFunc hf hn hb
theorem fitsT : ∀ ks : List Nat, FitsL P (ks.map RS.t) (ks.map ResultVar.tmp)
  | [] => FitsL.nil
  | k :: ks => .cons rfl (fitsT ks)
theorem CtW (ks : List Nat) {f : FuncId} {fn : Func} {c : Code} {args : List AV} {av : AV} {ne : List (Nat × Ent)} (hf : P.funcs[f]? = some fn) (hb : fn.body = some c) (hvs : fn.results = (ks.map ResultVar.tmp).toArray) (n : Nat)
    (h : V P c ⟨args ++ List.replicate (n - args.length) .bot, []⟩ (Post (ks.map RS.t) av ne)) (hn : fn.ntmps = n := by kernel_rfl) (hl : Nat.ble (ks.map RS.t).length 8 = true := by kernel_rfl) : CallS P f args av ne := CallS_of_text hf hb hvs (fitsT ks) (Nat.le_of_ble_eq_true hl) n hn h
theorem VS {id : Nat} {ops : Array Oper} {y : Code} {s : St} {J : Exit → St → Prop} (h : XL P ops ops.toList s (fun s' => V P y s' J)) : V P (.seq (.region id ops false) y) s J := V_seq (V_region h)
/-- A whole region of such operations. -/
theorem VE {id : Nat} {ops : Array Oper} {y : Code} {s : St} {J : Exit → St → Prop} (hv : V P y (yD P ops ops.toList s) J) (h : (yr P ops ops.toList s).isSome = true := by kernel_rfl) : V P (.seq (.region id ops false) y) s J := VS (YF hv h)
/-- Two roads. -/
theorem VC {c : Operand} {x y : Code} {s : St} {J : Exit → St → Prop} {b : Bool} {α : Type} {A B : Option α} {r : α} (h : (bif b then A else B) = some r) (ht : A = some r → V P x s J) (hf : B = some r → V P y s J) (hc : s.ev c = .c (.v (.bool b)) := by kernel_rfl) : V P (.cond c x y) s J :=
  V_cond hc (fun e => ht (of_true h e)) (fun e => hf (of_false h e))
/-- The end of a function. -/
theorem VT {rs : List RS} {av : AV} {ne : List (Nat × Ent)} {s : St} (h1 : nodup (ownsS s rs) = true := by kernel_rfl) (h2 : okSL s rs = true := by kernel_rfl) (h3 : outAllS s rs = (av, ne) := by kernel_rfl) : Post rs av ne .ret s := ⟨.inr rfl, h1, h2, h3⟩
/-- The end of a function that may write what one argument points to. -/
theorem VTR {rs : List RS} {av : AV} {ne : List (Nat × Ent)} {s : St} {id : Nat} {e : Ent} (h1 : nodup (ownsS s rs) = true := by kernel_rfl) (h2 : okSL s rs = true := by kernel_rfl) (h3 : outAllS s rs = (av, ne) := by kernel_rfl) (h4 : s.ent id = some e := by kernel_rfl) : PostR rs av ne [(id, e)] .ret s := ⟨⟨.inr rfl, h1, h2, h3⟩, ⟨h4, trivial⟩⟩
/-! ### Statements whose order is open -/
theorem VDS {id : Nat} {l : List Oper} {y : Code} {s : St} {J : Exit → St → Prop} (ms : List Nat) (n1 : Nat) (css : List (List Cd))
    (h : DL P l ms n1 css (prep (l.take n1) s) [] (fun s' => XL P l.toArray (l.drop n1) s' (fun s'' => V P y s'' J))) (hm : P.follows .mixedOrders = true := by kernel_rfl) (hchk : drawOk l ms n1 css = true := by kernel_rfl) : V P (.seq (.region id l.toArray true) y) s J := V_seq (V_draw ms n1 css hm hchk h)
theorem VDR {id : Nat} {l : List Oper} {s : St} {J : Exit → St → Prop} (ms : List Nat) (n1 : Nat) (css : List (List Cd))
    (h : DL P l ms n1 css (prep (l.take n1) s) [] (fun s' => XL P l.toArray (l.drop n1) s' (J .normal))) (hm : P.follows .mixedOrders = true := by kernel_rfl) (hchk : drawOk l ms n1 css = true := by kernel_rfl) : V P (.region id l.toArray true) s J := V_draw ms n1 css hm hchk h
def zv (P : Program) (s : St) (op : Op) : Option AV := match xv P s op with
  | some av => some av
  | none => yv P s op
theorem zv_ok {o : Oper} {s : St} {av : AV} (h : zv P s o.op = some av) : Y0 P o s av := by
  unfold zv at h
  split at h
  · rename_i hx; cases h; exact xv_ok hx
  · exact yv_ok h
theorem gsat_yg {l : List Oper} {o : Oper} {S : St} (h : yg l.toArray o S = some true) : gsat l.toArray o S := by
  unfold yg at h
  split at h
  · rename_i h1; exact gsat_none h1
  · rename_i j b h1
    split at h
    · rename_i t ht
      split at h
      · rename_i c hc
        have e : c = b := by cases c <;> cases b <;> simp_all
        subst e
        exact gsat_some h1 ht hc
      · cases h
      · cases h
    · cases h
theorem gun_yg {l : List Oper} {o : Oper} {S : St} (h : yg l.toArray o S = some false) : gun l.toArray o S := by
  unfold yg at h
  split at h
  · cases h
  · rename_i j b h1
    split at h
    · rename_i t ht
      split at h
      · rename_i c hc
        exact gun_some h1 ht hc (by cases c <;> cases b <;> simp_all)
      · rename_i hc
        exact gun_tn h1 ht hc
      · cases h
    · cases h
section
variable (P)
def er1 (l : List Oper) (ms : List Nat) (n1 : Nat) (css : List (List Cd)) (s0 : St) (rs : List Res) : Option (List Res) := match l[rs.length]?, css[rs.length]? with
  | some o, some c => bif Nat.blt rs.length n1 then (match yg l.toArray o (appC c (l.take n1) rs s0), o.dst with
    | some true, some _ => (match zv P (appC c (l.take n1) rs s0) o.op with
      | some av => bif mentOk ms rs.length av 0 (l.take n1) then some (rs ++ [.r0 av]) else none
      | none => match xn P (appC c (l.take n1) rs s0) o.op with
        | some r => bif keys8 r.2 && (makes o && r.1.small) then some (rs ++ [.r1 r.1 r.2]) else none
        | none => none)
    | some false, some _ => some (rs ++ [.r0 .tn])
    | some true, none => dr2 P l ms n1 css rs (appC c (l.take n1) rs s0) o.op
    | _, _ => none) else none
  | _, _ => none
def erN (l : List Oper) (ms : List Nat) (n1 : Nat) (css : List (List Cd)) (s0 : St) : Nat → List Res → Option (List Res)
  | 0, rs => some rs
  | k + 1, rs => match er1 P l ms n1 css s0 rs with
    | some rs' => erN l ms n1 css s0 k rs'
    | none => none
/-- The results so far. -/
def ego (l : List Oper) (ms : List Nat) (n1 : Nat) (css : List (List Cd)) (s0 : St) (k : Nat) (rs : List Res) : List Res := (erN P l ms n1 css s0 k rs).getD rs
/-- The state behind such a statement. -/
def efi (l : List Oper) (ms : List Nat) (n1 : Nat) (css : List (List Cd)) (s0 : St) (k : Nat) (rs : List Res) : St := fin (l.take n1) (ego P l ms n1 css s0 k rs) s0
def dfi (l : List Oper) (ms : List Nat) (n1 : Nat) (css : List (List Cd)) (s0 : St) (k : Nat) (rs : List Res) : St := yD P l.toArray (l.drop n1) (efi P l ms n1 css s0 k rs)
def dfo (l : List Oper) (ms : List Nat) (n1 : Nat) (css : List (List Cd)) (s0 : St) (k : Nat) (rs : List Res) : Bool := (yr P l.toArray (l.drop n1) (efi P l ms n1 css s0 k rs)).isSome
/-- The arguments of the next call of such a statement. -/
def dka (l : List Oper) (n1 : Nat) (css : List (List Cd)) (s0 : St) (f : FuncId) (rs : List Res) : Option (List AV) := match l[rs.length]?, css[rs.length]? with
  | some o, some c => match yg l.toArray o (appC c (l.take n1) rs s0), o.dst with
    | some true, some _ => (match o.op with
      | .call ⟨.value (.func g), xs, _⟩ => bif Nat.beq g f && (Nat.blt rs.length n1 && makes o) then some (evL (appC c (l.take n1) rs s0) xs.toList) else none
      | _ => none)
    | _, _ => none
  | _, _ => none
end
theorem er1_ok {l : List Oper} {ms : List Nat} {n1 : Nat} {css : List (List Cd)} {s0 : St} {rs rs' : List Res} {K : St → Prop} (h : er1 P l ms n1 css s0 rs = some rs') (hk : DL P l ms n1 css s0 rs' K) : DL P l ms n1 css s0 rs K := by
  unfold er1 at h
  split at h
  · rename_i o c ho hc
    cases hb : Nat.blt rs.length n1 with
    | false => rw [hb, cond_false] at h; cases h
    | true =>
      rw [hb, cond_true] at h
      split at h
      · rename_i d hg hd
        split at h
        · rename_i av hv
          cases hm : mentOk ms rs.length av 0 (l.take n1) with
          | false => rw [hm, cond_false] at h; cases h
          | true =>
            rw [hm, cond_true] at h
            cases h
            exact DE_0 rs.length av rfl hb ho hc (gsat_yg hg) hm (zv_ok hv) d hd hk
        · split at h
          · rename_i r hr
            cases hm : keys8 r.2 && (makes o && r.1.small) with
            | false => rw [hm, cond_false] at h; cases h
            | true =>
              rw [hm, cond_true] at h
              cases h
              rw [Bool.and_eq_true, Bool.and_eq_true] at hm
              exact DE_1 rs.length rfl hb ho hc (gsat_yg hg) (xn_ok hr) hm.1 hm.2.1 hm.2.2 d hd hk
          · cases h
      · rename_i d hg hd
        cases h
        exact DL_t (Nat.le_of_ble_eq_true hb) ho hc (gun_yg hg) ⟨d, hd⟩ hk
      · rename_i hg hd
        unfold dr2 at h
        split at h
        · rename_i t x y hop
          split at h
          · rename_i id off vc hx hy
            split at h
            · rename_i cs he
              cases hm : (sizeT P t == some vc.length) && Nat.ble (off + vc.length) cs.length && (colOk rs.length id css && (mkOk ms rs.length id 0 (l.take n1) && freshW id rs)) with
              | false => rw [hm, cond_false] at h; cases h
              | true =>
                rw [hm, cond_true] at h
                cases h
                rw [Bool.and_eq_true, Bool.and_eq_true, Bool.and_eq_true, Bool.and_eq_true, beq_iff_eq] at hm
                exact DE_2 rs.length id _ rfl hb ho hc (gsat_yg hg) hop hd hx he hy hm.1.1 (Nat.le_of_ble_eq_true hm.1.2) rfl hm.2.1 hm.2.2.1 hm.2.2.2 hk
            · cases h
          · cases h
        · cases h
      · cases h
  · cases h
theorem erN_ok {l : List Oper} {ms : List Nat} {n1 : Nat} {css : List (List Cd)} {s0 : St} {K : St → Prop} : ∀ (k : Nat) (rs rs' : List Res), erN P l ms n1 css s0 k rs = some rs' → DL P l ms n1 css s0 rs' K → DL P l ms n1 css s0 rs K
  | 0, rs, rs', h, hk => by cases h; exact hk
  | k + 1, rs, rs', h, hk => by
    unfold erN at h
    split at h
    · rename_i r1 h1
      exact er1_ok h1 (erN_ok k r1 rs' h hk)
    · cases h
theorem ER (k : Nat) {l : List Oper} {ms : List Nat} {n1 : Nat} {css : List (List Cd)} {s0 : St} {rs : List Res} {K : St → Prop} (hk : DL P l ms n1 css s0 (ego P l ms n1 css s0 k rs) K) (h : (erN P l ms n1 css s0 k rs).isSome = true := by kernel_rfl) : DL P l ms n1 css s0 rs K := by
  cases hx : erN P l ms n1 css s0 k rs with
  | none => rw [hx] at h; cases h
  | some r => rw [ego, hx] at hk; exact erN_ok k rs r hx hk
/-- All of the open part. -/
theorem EA (k : Nat) {l : List Oper} {ms : List Nat} {n1 : Nat} {css : List (List Cd)} {s0 : St} {rs : List Res} {K : St → Prop} (hk : K (efi P l ms n1 css s0 k rs)) (h : (erN P l ms n1 css s0 k rs).map List.length = some n1 := by kernel_rfl) : DL P l ms n1 css s0 rs K := by
  cases hx : erN P l ms n1 css s0 k rs with
  | none => rw [hx] at h; cases h
  | some r =>
    rw [efi, ego, hx] at hk
    rw [hx] at h
    exact erN_ok k rs r hx (DL_nil (by injection h) hk)
theorem dka_ok {l : List Oper} {ms : List Nat} {n1 : Nat} {css : List (List Cd)} {s0 : St} {rs : List Res} {K : St → Prop} {f : FuncId} {args : List AV} {av : AV} {ne : List (Nat × Ent)} (hS : CallS P f args av ne) (hcf : ∀ args w, (callFunc f args).run P w = .ok (.enter f args) w)
    (h : DL P l ms n1 css s0 (rs ++ [.r1 av ne]) K) (ha : dka l n1 css s0 f rs = some args) (h1 : keys8 ne = true) (h3 : av.small = true) : DL P l ms n1 css s0 rs K := by
  unfold dka at ha
  split at ha
  · rename_i o c ho hc
    split at ha
    · rename_i d hg hd
      split at ha
      · rename_i g xs ts hop
        cases hb : Nat.beq g f && (Nat.blt rs.length n1 && makes o) with
        | false => rw [hb, cond_false] at ha; cases ha
        | true =>
          rw [hb, cond_true] at ha
          rw [Bool.and_eq_true, Bool.and_eq_true] at hb
          have hgf := Nat.eq_of_beq_eq_true hb.1
          subst hgf
          exact DE_1 rs.length rfl hb.2.1 ho hc (gsat_yg hg) (Y1_call hS hcf hop (by injection ha)) h1 hb.2.2 h3 d hd h
      · cases ha
    · cases ha
  · cases ha
/-- Some of its operations, and a call. -/
theorem EK (k : Nat) {l : List Oper} {ms : List Nat} {n1 : Nat} {css : List (List Cd)} {s0 : St} {rs : List Res} {K : St → Prop} {f : FuncId} {args : List AV} {av : AV} {ne : List (Nat × Ent)} (hS : CallS P f args av ne) (hcf : ∀ args w, (callFunc f args).run P w = .ok (.enter f args) w)
    (h : DL P l ms n1 css s0 (ego P l ms n1 css s0 k rs ++ [.r1 av ne]) K) (hs : (erN P l ms n1 css s0 k rs).bind (dka l n1 css s0 f) = some args := by kernel_rfl) (h1 : keys8 ne = true := by kernel_rfl) (h3 : av.small = true := by kernel_rfl) : DL P l ms n1 css s0 rs K := by
  cases hx : erN P l ms n1 css s0 k rs with
  | none => rw [hx] at hs; cases hs
  | some r =>
    rw [ego, hx] at h
    rw [hx] at hs
    exact erN_ok k rs r hx (dka_ok hS hcf h hs h1 h3)
/-- All of the open part, and what comes behind it. -/
theorem EF (k : Nat) {l : List Oper} {ms : List Nat} {n1 : Nat} {css : List (List Cd)} {s0 : St} {rs : List Res} {K : St → Prop} (hk : K (dfi P l ms n1 css s0 k rs)) (h : (erN P l ms n1 css s0 k rs).map List.length = some n1 := by kernel_rfl)
    (h2 : dfo P l ms n1 css s0 k rs = true := by kernel_rfl) : DL P l ms n1 css s0 rs (fun s' => XL P l.toArray (l.drop n1) s' K) := EA k (YF hk h2) h
/-- An operation with a value. -/
theorem E0 (j : Nat) {l : List Oper} {ms : List Nat} {n1 : Nat} {css : List (List Cd)} {s0 : St} {rs : List Res} {K : St → Prop} {o : Oper} {c : List Cd} {av : AV} (ho : l[j]? = some o) (hc : css[j]? = some c) (hY : Y0 P o (appC c (l.take n1) rs s0) av) (h : DL P l ms n1 css s0 (rs ++ [.r0 av]) K)
    (hj : rs.length = j := by kernel_rfl) (hlt : Nat.blt j n1 = true := by kernel_rfl) (hg : yg l.toArray o (appC c (l.take n1) rs s0) = some true := by kernel_rfl) (hm : mentOk ms j av 0 (l.take n1) = true := by kernel_rfl) (hd : o.dst.isSome = true := by kernel_rfl) : DL P l ms n1 css s0 rs K := by
  obtain ⟨d, hd⟩ := Option.isSome_iff_exists.mp hd
  exact DE_0 j av hj hlt ho hc (gsat_yg hg) hm hY d hd h
/-- An operation that makes memory. -/
theorem E1 (j : Nat) {l : List Oper} {ms : List Nat} {n1 : Nat} {css : List (List Cd)} {s0 : St} {rs : List Res} {K : St → Prop} {o : Oper} {c : List Cd} {av : AV} {ne : List (Nat × Ent)} (ho : l[j]? = some o) (hc : css[j]? = some c) (hY : Y1 P o (appC c (l.take n1) rs s0) av ne) (h : DL P l ms n1 css s0 (rs ++ [.r1 av ne]) K)
    (hj : rs.length = j := by kernel_rfl) (hlt : Nat.blt j n1 = true := by kernel_rfl) (hg : yg l.toArray o (appC c (l.take n1) rs s0) = some true := by kernel_rfl) (h1 : keys8 ne = true := by kernel_rfl) (h2 : makes o = true := by kernel_rfl) (h3 : av.small = true := by kernel_rfl) (hd : o.dst.isSome = true := by kernel_rfl) : DL P l ms n1 css s0 rs K := by
  obtain ⟨d, hd⟩ := Option.isSome_iff_exists.mp hd
  exact DE_1 j hj hlt ho hc (gsat_yg hg) hY h1 h2 h3 d hd h
def idT (t : Nat) : List Oper → Nat → Nat
  | [], _ => 0
  | o :: os, k => match o.dst with
    | some d => bif Nat.beq d t then k else idT t os (k + 1)
    | none => idT t os (k + 1)
/-- The mark on which the next operation hangs. -/
def gtD (l : List Oper) (rs : List Res) : Nat := match l[rs.length]? with
  | some o => (match o.guard with
    | some (j, _) => j
    | none => match o.op with
      | .pick (.tmp t) _ _ => idT t l 0
      | _ => 0)
  | none => 0
/-- A mark whose truth is known. -/
theorem EQ {c v : Bool} (hc : c = v) {l : List Oper} {ms : List Nat} {n1 : Nat} {css : List (List Cd)} {s0 : St} {rs : List Res} {K : St → Prop} (hk : DL P l ms n1 css s0 (rs.set (gtD l rs) (.r0 (Bo v))) K) (h : rs[gtD l rs]? = some (.r0 (Bo c)) := by kernel_rfl) : DL P l ms n1 css s0 rs K := by
  subst hc
  have e : rs.set (gtD l rs) (.r0 (Bo c)) = rs := by
    apply List.ext_getElem?
    intro i
    rw [List.getElem?_set]
    by_cases hi : gtD l rs = i
    · subst hi
      have hlt : gtD l rs < rs.length := by
        by_cases h2 : gtD l rs < rs.length
        · exact h2
        · rw [List.getElem?_eq_none (by omega)] at h; cases h
      rw [if_pos rfl, if_pos hlt, h]
    · rw [if_neg hi]
  rwa [e] at hk
end
end Go.Proofs.YtnheekadeflecaaGreat
