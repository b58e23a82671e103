/-
  Rules of walks, plain functions and their laws, part 5.
  Conditions: none.
-/
import Derived.Test.YtnjhhbcccgbbnaaGreatDoorTx4
set_option linter.unusedSimpArgs false
set_option linter.unusedVariables false
namespace Go.Proofs.YtnjhhbcccgbbnaaGreatDoor
open Go.RowKit
inductive OT:Type 1
  |ok
  |bad
  |eq {α:Type} (a b:α) (k:OT)
  |and (a b:OT)
  |all {α:Type} (f:α→OT)
def OT.holds:OT→Prop
 | .ok=>True
 | .bad=>False
 | .eq a b k=>a=b∧k.holds
 | .and a b=>a.holds∧b.holds
 | .all f=>∀x,(f x).holds
def OT.rf:OT→OT
 | .ok=>.ok
 | .bad=>.ok
 | .eq a _ k=>.eq a a k.rf
 | .and a b=>.and a.rf b.rf
 | .all f=>.all fun x=>(f x).rf
theorem OT.of_rf:∀t:OT,t=t.rf→t.holds
 | .ok,_=>trivial
 | .bad,h=>by cases h
 | .eq a b k,h=>by simp only[OT.rf]at h;injection h with _ _ h2 h3;exact⟨(eq_of_heq (heq_of_eq h2)).symm,OT.of_rf k h3⟩
 | .and a b,h=>by simp only[OT.rf]at h;injection h with h1 h2;exact⟨OT.of_rf a h1,OT.of_rf b h2⟩
 | .all f,h=>fun x=>by simp only[OT.rf]at h;injection h with _ h1;exact OT.of_rf (f x) (congrFun h1 x)
section
variable (P:Program)
structure N0 where
  chk:Oper→St→OT
  av:Oper→St→AV
  ok:∀o s,(chk o s).holds→Y0 P o s (av o s)
structure N1 where
  chk:Oper→St→OT
  av:Oper→St→AV
  ne:Oper→St→List (Nat×Ent)
  ok:∀o s,(chk o s).holds→Y1 P o s (av o s) (ne o s)
inductive NN
  |z (F:N0 P)
  |o (F:N1 P)
structure F0 (α:Type) where
  m:Option α
  chk:Oper→St→OT
  av:Oper→St→α→AV
  ok:∀o s y,m=some y→(chk o s).holds→Y0 P o s (av o s y)
structure F1 (α:Type) where
  m:Option α
  chk:Oper→St→OT
  av:Oper→St→α→AV
  ne:Oper→St→α→List (Nat×Ent)
  ok:∀o s y,m=some y→(chk o s).holds→Y1 P o s (av o s y) (ne o s y)
def XS(o:Oper)(s:St)(J:St→Prop):Prop:=
 ∀B w0 ok0 ok σ a w,R B w0 ok0 ok σ s a w→∀K Q,(∀s' a' w' ok' σ',J s'→R B w0 ok0 ok' σ' s' a' w'→K a' w')→o.wp P a w K Q
structure FX (α:Type) where
  m:Option α
  run:Oper→St→α→(St→OT)→OT
  post:(Nat→Loc)→Oper→St→α→Option St:=fun _ _ _ _=>none
  ok:∀o s K y,m=some y→(run o s y K).holds→XS P o s (fun s'=>(K s').holds)
structure HT where
  run:St→(St→OT)→OT
  post:St→Option St:=fun _=>none
  ok:∀s K,(run s K).holds→∀B w0 ok0 ok σ a w,R B w0 ok0 ok σ s a w→∃s' ok' σ',(K s').holds∧R B w0 ok0 ok' σ' s' a w
inductive Lf (ι o β:Type)
  |again (x:ι)
  |done (y:o)
  |early (r:β)
def kpE(E:List (Nat×Ent)):List Nat→List (Nat×Ent)
 |[]=>[]
 |i::is=>match E.lookup i with
  |some e=>(i,e)::kpE E is
  |none=>kpE E is
def St.kp(s:St)(m:List Bool)(ids:List Nat):St:=⟨zIK m s.T,kpE s.E ids⟩
def setL(T:List AV):List (Nat×AV)→List AV
 |[]=>T
 |p::ps=>setL (T.set p.1 p.2) ps
def St.pc(s:St)(m:List Bool)(ids:List Nat)(ts:List (Nat×AV))(es:List (Nat×Ent)):St:=⟨setL (zIK m s.T) ts,kpE (es++s.E) ids⟩
def St.pbx(s:St)(id:Nat)(cs:List Tr):Ent:=match s.ent id with
 |some (.pbox l _)=>.pbox l cs
 |_=>.box cs
def St.locs(s:St)(id:Nat):Loc:=match s.ent id with
 |some (.qarr l _ _ _)=>l
 |_=>loc0
inductive T:Type→Type 1
  |ret {β:Type} (y:β):T β
  |fail {β:Type}:T β
  |n0 {β:Type} (F:N0 P) (t:T β):T β
  |n1 {β:Type} (F:N1 P) (t:T β):T β
  |op0 {α β:Type} (F:F0 P α) (k:α→T β):T β
  |op1 {α β:Type} (F:F1 P α) (k:α→T β):T β
  |opx {α β:Type} (F:FX P α) (k:α→T β):T β
  |op1o {α β:Type} (F:F1 P (Option α)) (a:T β) (k:α→T β):T β
  |cond {β:Type} (c:Bool) (a b:T β):T β
  |selB {β:Type} (c w:Bool) (ns:List (NN P)) (k:Bool→T β):T β
  |lit {β:Type} (t:T β):T β
  |pl {β:Type} (t:T β):T β
  |dn {β:Type} (t:T β):T β
  |frc {β:Type} (v:Int) (k:Int→T β):T β
  |lt {α β:Type} (v:α) (k:α→T β):T β
  |bnd {α β:Type} (m:Option α) (k:α→T β):T β
  |hint {β:Type} (H:HT) (t:T β):T β
  |late {β:Type} (H:HT) (t:T β):T β
  |seqT {α β:Type} (t:T α) (k:α→T β):T β
  |join {α β:Type} (t:T α) (m:List Bool) (ids:List Nat) (S:St→α→(Nat→Loc)→St) (k:α→T β):T β
  |joinC {α β:Type} (t:T α) (m:List Bool) (ids:List Nat) (S:St→α→(Nat→Loc)→St) (k:α→T β):T β
  |joinS {α γ β:Type} (t:T (α ⊕ γ)) (m:List Bool) (ids:List Nat) (S:St→α→(Nat→Loc)→St) (er:γ→β) (k:α→T β):T β
  |loop {ι o β:Type} (L:Nat→ι→Option o) (x:ι) (m:List Bool) (ids:List Nat) (S:St→ι→(Nat→Loc)→St) (body:ι→T (ι ⊕ o)) (mo:List Bool) (ido:List Nat) (So:St→o→(Nat→Loc)→St) (k:o→T β):T β
  |loopS {ι o γ β:Type} (L:Nat→ι→Option (o ⊕ γ)) (x:ι) (m:List Bool) (ids:List Nat) (S:St→ι→(Nat→Loc)→St) (body:ι→T (Lf ι o γ)) (mo:List Bool) (ido:List Nat) (So:St→o→(Nat→Loc)→St) (er:γ→β) (k:o→T β):T β
  |unroll {β:Type} (n:Nat) (t:T β):T β
  |draw {β:Type} (n1:Nat) (tg:List (Nat×Nat)) (t:T β):T β
  |drawL {β:Type} (au:List Nat) (t:T β):T β
  |drawM {β:Type} (gh:Bool) (n1:Nat) (masks:List Nat) (au:List Nat) (t:T β):T β
def lk{ι o:Type}(L:Nat→ι→Option o)(n:Nat):ι ⊕ o→Option o
 | .inl x=>L n x
 | .inr y=>some y
def lkS{ι o γ:Type}(L:Nat→ι→Option (o ⊕ γ))(n:Nat):Lf ι o γ→Option (o ⊕ γ)
 | .again x=>L n x
 | .done y=>some (.inl y)
 | .early r=>some (.inr r)
end
def elS{α γ ρ:Type}(q:α ⊕ γ)(f:α→ρ)(g:γ→ρ):ρ:=match q with
 | .inl y=>f y
 | .inr r=>g r
section
variable {P:Program}
theorem zGj{o:Oper}{s s':St}{J:St→Prop}(h:X P o s s')(hJ:J s'):XS P o s J:=fun _ _ _ _ _ _ _ hR K Q hK=>h _ _ _ _ _ _ _ hR K Q fun a' w' ok' σ' hR'=>hK s' a' w' ok' σ' hJ hR'
theorem z7h{ops:Array Oper}{o:Oper}{rest:List Oper}{s:St}{I J:St→Prop}(hg:o.guard=none)(h:XS P o s I)(hk:∀s',I s'→XL P ops rest s' J):XL P ops (o::rest) s J:=by
 intro B w0 ok0 ok σ a w hR Q hQ;refine wpList_plain hg fun K hK=>?_
 exact h _ _ _ _ _ _ _ hR K Q fun s' a' w' ok' σ' hI hR'=>hK _ _ (hk s' hI _ _ _ _ _ _ _ hR' Q hQ)
theorem z7g{ops:Array Oper}{o:Oper}{rest:List Oper}{s:St}{I J:St→Prop}{j t:Nat}{b:Bool}(hg:o.guard=some (j,b))(ht:(ops[j]?).bind (·.dst)=some t)(hb:s.get t=.c (.v (.bool b)))
  (h:XS P o s I) (hk:∀s',I s'→XL P ops rest s' J):XL P ops (o::rest) s J:=by
 intro B w0 ok0 ok σ a w hR Q hQ;refine wpList_step fun K hK=>?_
 have h1:=hR.core.tmp t;rw[hb]at h1;have h2:a.tmps.getD t undef=.bool b:=by have h3:Rd ok w (.v (.bool b)) (a.tmps.getD t undef):=h1;generalize a.tmps.getD t undef=y at*;cases h3;rfl
 have hw:Region.wanted o (yielded ops a.tmps)=true:=by
  have h4:a.tmps[t]?=some (.bool b):=by
   rw[Array.getD_eq_getD_getElem?]at h2;cases h5:a.tmps[t]? with
   |none=>rw[h5]at h2;simp[undef]at h2
   |some y=>rw[h5]at h2;simpa using h2
  simp only[Region.wanted,hg,yielded,ht,za,h4];simp
 rw[if_pos hw];exact h _ _ _ _ _ _ _ hR K Q fun s' a' w' ok' σ' hI hR'=>hK _ _ (hk s' hI _ _ _ _ _ _ _ hR' Q hQ)
theorem z3o{ops:Array Oper}{o:Oper}{rest:List Oper}{s:St}{I J:St→Prop}(hg:yg ops o s=some true)(h:XS P o s I)(hk:∀s',I s'→XL P ops rest s' J):XL P ops (o::rest) s J:=by
 unfold yg at hg;split at hg
 ·rename_i h1;exact z7h h1 h hk
 ·rename_i j b h1;split at hg
  ·rename_i t ht;split at hg
   ·rename_i c hc;have e:c=b:=by cases c<;>cases b<;>simp_all
    subst e;exact z7g h1 ht hc h hk
   ·cases hg
   ·cases hg
  ·cases hg
def T.den:{β:Type}→T P β→{ρ:Type}→(β→Option ρ)→Option ρ
 |_,.ret y,_,k=>k y
 |_,.fail,_,_=>none
 |_,.n0 _ t,_,k=>t.den k
 |_,.n1 _ t,_,k=>t.den k
 |_,.op0 F f,_,k=>F.m.bind fun y=>(f y).den k
 |_,.op1 F f,_,k=>F.m.bind fun y=>(f y).den k
 |_,.opx F f,_,k=>F.m.bind fun y=>(f y).den k
 |_,.op1o F a f,_,k=>F.m.bind fun y=>elO y (a.den k) fun x=>(f x).den k
 |_,.cond c a b,_,k=>bif c then a.den k else b.den k
 |_,.selB c _ _ f,_,k=>(f c).den k
 |_,.lit t,_,k=>t.den k
 |_,.pl t,_,k=>t.den k
 |_,.dn t,_,k=>t.den k
 |_,.frc v f,_,k=>sI v fun y=>(f y).den k
 |_,.lt v f,_,k=>(some v).bind fun y=>(f y).den k
 |_,.bnd m f,_,k=>m.bind fun y=>(f y).den k
 |_,.hint _ t,_,k=>t.den k
 |_,.late _ t,_,k=>t.den k
 |_,.seqT t f,_,k=>(t.den some).bind fun y=>(f y).den k
 |_,.join t _ _ _ f,_,k=>(t.den some).bind fun y=>(f y).den k
 |_,.joinC t _ _ _ f,_,k=>t.den fun y=>(f y).den k
 |_,.joinS t _ _ _ er f,_,k=>(t.den some).bind fun q=>elS q (fun y=>(f y).den k) fun r=>k (er r)
 |_,.loop L x _ _ _ _ _ _ _ f,_,k=>(L FU x).bind fun y=>(f y).den k
 |_,.loopS L x _ _ _ _ _ _ _ er f,_,k=>(L FU x).bind fun q=>elS q (fun y=>(f y).den k) fun r=>k (er r)
 |_,.unroll _ t,_,k=>t.den k
 |_,.draw _ _ t,_,k=>t.den k
 |_,.drawL _ t,_,k=>t.den k
 |_,.drawM _ _ _ _ t,_,k=>t.den k
def sqT{α β:Type}(t:T P α)(k:α→T P β):T P β:=match t with
 | .ret a=>k a
 | .fail=>.fail
 | .n0 F t=>.n0 F (.seqT t k)
 | .n1 F t=>.n1 F (.seqT t k)
 | .op0 F f=>.op0 F fun y=>.seqT (f y) k
 | .op1 F f=>.op1 F fun y=>.seqT (f y) k
 | .opx F f=>.opx F fun y=>.seqT (f y) k
 | .cond c a b=>.cond c (.seqT a k) (.seqT b k)
 | .selB c w ns f=>.selB c w ns fun b=>.seqT (f b) k
 | .lit t=>.lit (.seqT t k)
 | .pl t=>.pl (.seqT t k)
 | .dn t=>.dn (.seqT t k)
 | .frc v f=>.frc v fun y=>.seqT (f y) k
 | .lt v f=>.lt v fun y=>.seqT (f y) k
 | .bnd m f=>.bnd m fun y=>.seqT (f y) k
 | .hint H t=>.hint H (.seqT t k)
 | .late H t=>.late H (.seqT t k)
 | .seqT t f=>.seqT t fun a=>.seqT (f a) k
 |t=>.seqT t k
theorem z7X{α ρ:Type}(v:Int)(f:Int→Option α)(g:α→Option ρ):(sI v f).bind g=sI v fun y=>(f y).bind g:=by rw[zI,zI]
theorem zX0{α β ρ:Type}(t:T P α)(k:α→T P β)(κ:β→Option ρ):(sqT t k).den κ=(t.den some).bind fun a=>(k a).den κ:=by
 cases t with
 |cond c a b=>cases c<;>rfl
 |op0 F f=>exact (Option.bind_assoc F.m _ _).symm
 |op1 F f=>exact (Option.bind_assoc F.m _ _).symm
 |opx F f=>exact (Option.bind_assoc F.m _ _).symm
 |bnd m f=>exact (Option.bind_assoc m _ _).symm
 |frc v f=>exact (z7X v _ _).symm
 |seqT t f=>exact (Option.bind_assoc (t.den some) _ _).symm
 |_=>rfl
end
section
variable (P:Program)
def wv(s:St)(o:Oper):Bool:=match o.op with
 | .indexAddr _ x (.tmp _)=>(match s.ev x with
  | .pt _ _=>false
  |_=>true)
 | .load _ x=>(match s.ev x with
  | .po _ _ _ _=>false
  |_=>true)
 | .assign (.const (.slice none 0 0))=>false
 |_=>true
def wo(o:Oper)(s:St):Option St:=bif wv s o then yo P o s else none
def dsl(ops:Array Oper)(o:Oper):Option Nat:=match o.guard with
 |some (j,_)=>gdt ops j
 |none=>match o.op with
  | .pick (.tmp t) _ _=>some t
  |_=>none
def ersO(kn:List Nat):Option Nat→List Nat
 |some d=>kn.erase d
 |none=>kn
def zZX{β:Type}:List (NN P)→T P β→T P β
 |[],t=>t
 | .z F::ns,t=>.n0 F (zZX ns t)
 | .o F::ns,t=>.n1 F (zZX ns t)
def opn{β:Type}(t:T P β)(kn:List Nat):Option Nat→Option (Nat×Bool×T P β×T P β)
 |some d=>bif kn.elem d then none else (match t with
  | .cond c a b=>some (d,c,a,b)
  | .selB c w ns f=>some (d,c,zZX P (bif w then ns else []) (f true),zZX P (bif w then [] else ns) (f false))
  |_=>none)
 |none=>none
def zQZ{β:Type}(t:T P β)(kn:List Nat):Option Nat→T P β×List Nat
 |some d=>bif kn.elem d then (t,kn) else (match t with
  | .lit t'=>(t',d::kn)
  |_=>(t,kn))
 |none=>(t,kn)
def dtn(s:St):Option Nat→Option Nat
 |some d=>(match s.get d with
  | .tn=>none
  |_=>some d)
 |none=>none
def mtX{α:Type}(m:List Bool)(ids:List Nat)(S:St→α→(Nat→Loc)→St)(s:St):T P α→List Nat→St→OT:=fun t' _ s'=>match t' with
 | .ret a=>.eq (s'.kp m ids) (S s a s'.locs) .ok
 |_=>.bad
def goX:Nat→{β:Type}→T P β→List Nat→Array Oper→List Oper→St→(T P β→List Nat→St→OT)→OT
 |0,_,_,_,_,_,_,_=>.bad
 |n+1,β,t,kn,ops,rest,s,K=>match t with
  | .fail=>.ok
  | .hint H t'=>H.run s fun s'=>goX n t' kn ops rest s' K
  | .frc v k=>goX n (k v) kn ops rest s K
  | .lt v k=>goX n (k v) kn ops rest s K
  | .bnd _ k=>.all fun y=>goX n (k y) kn ops rest s K
  | .seqT t1 k=>goX n (sqT t1 k) kn ops rest s K
  | .joinC (.unroll d t1) m ids S f=>.and (goX n t1 kn ops (rest.take d) s (mtX P m ids S s)) (.all fun a=>.all fun γ=>goX n (f a) [] ops (rest.drop d) (S s a γ) K)
  |t=>match rest with
   |[]=>K t kn s
   |o::os=>match opn P t kn (dtn s (dsl ops o)) with
    |some (d,c,a,b)=>.eq (s.get d) (Bo c) (.and (goX n a (d::kn) ops rest (s.put d (Bo true)) K) (goX n b (d::kn) ops rest (s.put d (Bo false)) K))
    |none=>match zQZ P t kn (dtn s (dsl ops o)) with
     |(t,kn)=>match yg ops o s with
      |some true=>(match wo P o s with
       |some s'=>goX n t (ersO kn o.dst) ops os s' K
       |none=>match t with
        | .n0 F t'=>(match o.dst with
         |some d=>.and (F.chk o s) (goX n t' (kn.erase d) ops os (s.put d (F.av o s)) K)
         |none=>.bad)
        | .n1 F t'=>(match o.dst with
         |some d=>.and (F.chk o s) (goX n t' (kn.erase d) ops os (s.upd d (F.av o s) (F.ne o s)) K)
         |none=>.bad)
        | .op0 F k=>(match o.dst with
         |some d=>.and (F.chk o s) (.all fun y=>goX n (k y) (kn.erase d) ops os (s.put d (F.av o s y)) K)
         |none=>.bad)
        | .op1 F k=>(match o.dst with
         |some d=>.and (F.chk o s) (.all fun y=>goX n (k y) (kn.erase d) ops os (s.upd d (F.av o s y) (F.ne o s y)) K)
         |none=>.bad)
        | .late H t'=>H.run s fun s'=>goX n t' kn ops (o::os) s' K
        | .op1o F a k=>(match o.dst with
         |some d=>.and (F.chk o s) (.and (goX n a (kn.erase d) ops os (s.upd d (F.av o s none) (F.ne o s none)) K) (.all fun y=>goX n (k y) (kn.erase d) ops os (s.upd d (F.av o s (some y)) (F.ne o s (some y))) K))
         |none=>.bad)
        | .opx F k=>.all fun y=>F.run o s y fun s'=>goX n (k y) (ersO kn o.dst) ops os s' K
        |_=>.bad)
      |some false=>(match o.dst with
       |some d=>goX n t (kn.erase d) ops os (s.put d .tn) K
       |none=>.bad)
      |none=>.bad
end
section
variable {P:Program}
theorem z7k{ops:Array Oper}{rest:List Oper}{s:St}{J:St→Prop}{d:Nat}{c:Bool}(h:s.get d=Bo c)(h1:c=true→XL P ops rest (s.put d (Bo true)) J)(h2:c=false→XL P ops rest (s.put d (Bo false)) J):XL P ops rest s J:=by
 cases c with
 |true=>have h1:=h1 rfl;rw[←h,zXq]at h1;exact h1
 |false=>have h2:=h2 rfl;rw[←h,zXq]at h2;exact h2
theorem zT9(E:List (Nat×Ent)):∀(ids:List Nat)(id:Nat)(e:Ent),(kpE E ids).lookup id=some e→E.lookup id=some e
 |[],id,e,h=>by simp[kpE]at h
 |i::is,id,e,h=>by
  unfold kpE at h;split at h
  ·rename_i f hf;simp only[List.lookup]at h;split at h
   ·rename_i hq;have:id=i:=by simpa using hq
    subst this;rw[hf];exact h
   ·exact zT9 E is id e h
  ·exact zT9 E is id e h
theorem zWf(m:List Bool)(ids:List Nat)(s:St):Le (s.kp m ids) s:=
 ⟨zPq m s.T,fun t=>zPr m s.T t,fun id e h=>zT9 s.E ids id e h⟩
theorem z9c(m:List Bool)(ids:List Nat){ops:Array Oper}{rest:List Oper}{s s1:St}{J:St→Prop}(h:s.kp m ids=s1)(hT:XL P ops rest s1 J):XL P ops rest s J:=by subst h;intro B w0 ok0 ok σ a w hR Q hQ;exact hT _ _ _ _ _ _ _ (hR.le (zWf m ids s)) Q hQ
theorem z0T(m:List Bool)(ids:List Nat){c:Code}{s s1:St}{J:Exit→St→Prop}(h:s.kp m ids=s1)(hv:V P c s1 J):V P c s J:=by subst h;exact V_le (zWf m ids s) hv
theorem z2r{H:HT}{s:St}{K:St→OT}(h:(H.run s K).holds){ops:Array Oper}{rest:List Oper}{J:St→Prop}(hk:∀s',(K s').holds→XL P ops rest s' J):XL P ops rest s J:=by intro B w0 ok0 ok σ a w hR Q hQ;obtain⟨s',ok',σ',h1,h2⟩:=H.ok s K h _ _ _ _ _ _ _ hR;exact hk s' h1 _ _ _ _ _ _ _ h2 Q hQ
theorem z6P{H:HT}{s:St}{K:St→OT}(h:(H.run s K).holds){c:Code}{J:Exit→St→Prop}(hk:∀s',(K s').holds→V P c s' J):V P c s J:=by intro B w0 ok0 ok σ a w hR;obtain⟨s',ok',σ',h1,h2⟩:=H.ok s K h _ _ _ _ _ _ _ hR;exact hk s' h1 _ _ _ _ _ _ _ h2
theorem z7z{o:Oper}{s s':St}(h:wo P o s=some s'):X P o s s':=by
 unfold wo at h;cases hb:wv s o with
 |false=>rw[hb,zc]at h;cases h
 |true=>rw[hb,zb]at h;exact z7w h
theorem zMA{β ρ:Type}(k:β→Option ρ)(t:T P β):∀ns:List (NN P),(zZX P ns t).den k=t.den k
 |[]=>rfl
 | .z _::ns=>zMA k t ns
 | .o _::ns=>zMA k t ns
theorem zT2{β ρ:Type}{t:T P β}{kn:List Nat}{q:Option Nat}{d:Nat}{c:Bool}{a b:T P β}(h:opn P t kn q=some (d,c,a,b))(k:β→Option ρ):t.den k=bif c then a.den k else b.den k:=by
 unfold opn at h;split at h
 ·rename_i d0;cases hb:kn.elem d0 with
  |true=>rw[hb,zb]at h;cases h
  |false=>
   rw[hb,zc]at h;split at h
   ·injection h with h;injection h with h1 h;injection h with h2 h;injection h with h3 h4;subst h2 h3 h4;rfl
   ·injection h with h;injection h with h1 h;injection h with h2 h;injection h with h3 h4;subst h2 h3 h4;rename_i c w ns f;cases c
    ·exact (zMA k (f false) _).symm
    ·exact (zMA k (f true) _).symm
   ·cases h
 ·cases h
theorem zPM{β ρ:Type}(t:T P β)(kn:List Nat)(q:Option Nat)(k:β→Option ρ):(zQZ P t kn q).1.den k=t.den k:=by
 unfold zQZ;split
 ·rename_i d0;cases hb:kn.elem d0 with
  |true=>rfl
  |false=>rw[zc];split<;>rfl
 ·rfl
theorem zTw{β ρ:Type}{c:Bool}{x y:Option ρ}{r:ρ}(h:(bif c then x else y)=some r):(c=true→x=some r)∧(c=false→y=some r):=by
 cases c with
 |true=>exact⟨fun _=>h,fun h=>by cases h⟩
 |false=>exact⟨fun h=>(by cases h),fun _=>h⟩
theorem z4d{o:Oper}{a:Act}{w:World}{K:Act→World→Prop}{Q Q':Exit→Act→World→Prop}(h1:∀ch a w,Q (.panic ch) a w→Q' (.panic ch) a w)(h2:LetsOut Q→LetsOut Q')(hh:o.wp P a w K Q):o.wp P a w K Q':=by
 unfold Oper.wp at*;generalize (execOp a.eval o).run P w=r at*;cases r with
 |ok n w'=>
  cases n<;>simp only[Oper.upon]at hh ⊢<;>first|exact hh|exact Calls.mono hh (fun e w'' he=>by cases e<;>first|exact he|exact h1 _ _ _ he|exact h2 he)
 |halt x w'=>cases x<;>simp only[Oper.upon]at hh ⊢<;>first|exact hh|exact h1 _ _ _ hh
theorem z9d{ops:Array Oper}{r1 r2:List Oper}{s:St}{J1 J:St→Prop}(h1:XL P ops r1 s J1)(h2:∀s',J1 s'→XL P ops r2 s' J):XL P ops (r1++r2) s J:=by
 intro B w0 ok0 ok σ a w hR Q hQ;have key:∀(l:List Oper)(a:Act)(w:World),wpList P ops (fun e a w=>match e with| .normal=>wpList P ops Q r2 a w|e=>Q e a w) l a w→wpList P ops Q (l++r2) a w:=by
  intro l
  induction l with
  |nil=>exact fun a w h=>h
  |cons o l ih=>
   intro a w h;rw[List.cons_append];unfold wpList at h ⊢;split
   ·rename_i hw;rw[if_pos hw]at h;exact h.imp (fun h=>z4d (fun _ _ _ h=>h) (fun h=>h) (Oper.wp_mono ih h)) (fun h=>⟨h.1,h.2⟩)
   ·rename_i hw;rw[if_neg hw]at h;exact ih _ _ h
 exact key r1 a w (h1 _ _ _ _ _ _ _ hR _ fun s' a' w' ok' σ' hJ hR'=>h2 s' hJ _ _ _ _ _ _ _ hR' Q hQ)
theorem z8w{α ρ:Type}{m:List Bool}{ids:List Nat}{S:St→α→(Nat→Loc)→St}{s:St}{t':T P α}{kn:List Nat}{s':St}(h:(mtX P m ids S s t' kn s').holds){κ:α→Option ρ}{r:ρ}(hd:t'.den κ=some r):∃a,s'.kp m ids=S s a s'.locs∧κ a=some r:=by
 unfold mtX at h;split at h
 ·rename_i a;exact⟨a,h.1,hd⟩
 ·exact h.elim
theorem zEG:∀(n:Nat){β:Type}(t:T P β)(kn:List Nat)(ops:Array Oper)(rest:List Oper)(s:St)(K:T P β→List Nat→St→OT),(goX P n t kn ops rest s K).holds→
  ∀{ρ:Type}(k:β→Option ρ)(r:ρ),t.den k=some r→∀J:St→Prop,(∀t' kn' s',(K t' kn' s').holds→T.den t' k=some r→J s')→XL P ops rest s J
 |0,_,_,_,_,_,_,_,h=>h.elim
 |n+1,β,t,kn,ops,rest,s,K,h=>by
  intro k r hd J hJ;unfold goX at h;split at h
  ·cases hd
  ·rename_i H t';exact z2r h fun s' hs=>zEG n t' kn ops rest s' K hs k r hd J hJ
  ·rename_i v f;have hd:sI v (fun y=>(f y).den k)=some r:=hd;rw[zI]at hd;exact zEG n (f v) kn ops rest s K h k r hd J hJ
  ·rename_i v f;exact zEG n (f v) kn ops rest s K h k r hd J hJ
  ·rename_i m f;obtain⟨y,_,h2⟩:=zD (show m.bind (fun y=>(f y).den k)=some r from hd);exact zEG n (f y) kn ops rest s K (h y) k r h2 J hJ
  ·rename_i t1 f;exact zEG n (sqT t1 f) kn ops rest s K h k r (by rw[zX0];exact hd) J hJ
  ·rename_i d t1 m ids S f;have h1:t1.den (fun y=>(f y).den k)=some r:=hd;rw[←List.take_append_drop d rest];refine z9d (J1:=fun s'=>∃a,s'.kp m ids=S s a s'.locs∧(f a).den k=some r) (zEG n t1 kn ops (rest.take d) s _ h.1 _ r h1 _ fun t' kn' s' hK ht'=>z8w hK ht') ?_
   rintro s' ⟨a,hs,ha⟩;exact z9c m ids hs (zEG n (f a) [] ops (rest.drop d) _ K (h.2 a _) k r ha J hJ)
  ·split at h
   ·exact qR (hJ _ _ _ h hd)
   ·rename_i o os;split at h
    ·rename_i d c a b hq;rw[zT2 hq k]at hd;obtain⟨ha,hb⟩:=zTw (β:=β) hd;exact z7k h.1 (fun hc=>zEG n a _ ops (o::os) _ K h.2.1 k r (ha hc) J hJ) (fun hc=>zEG n b _ ops (o::os) _ K h.2.2 k r (hb hc) J hJ)
    ·rename_i hnn;have hd:(zQZ P t kn (dtn s (dsl ops o))).1.den k=some r:=by rw[zPM];exact hd
     split at h;rename_i t2 kn2 hu;rw[hu]at hd;have hd:t2.den k=some r:=hd;split at h
     ·rename_i hg;split at h
      ·rename_i s' hs;exact zGb hg (z7z hs) (zEG n _ _ ops os s' K h k r hd J hJ)
      ·split at h
       ·rename_i F t' hd;split at h
        ·rename_i d hdst;exact zGb hg (zGi hdst (F.ok o s h.1)) (zEG n t' _ ops os _ K h.2 k r hd J hJ)
        ·exact h.elim
       ·rename_i F t' hd;split at h
        ·rename_i d hdst;exact zGb hg (zGR hdst (F.ok o s h.1)) (zEG n t' _ ops os _ K h.2 k r hd J hJ)
        ·exact h.elim
       ·rename_i F f hd;split at h
        ·rename_i d hdst;obtain⟨y,h1,h2⟩:=zD (show F.m.bind (fun y=>(f y).den k)=some r from hd);exact zGb hg (zGi hdst (F.ok o s y h1 h.1)) (zEG n (f y) _ ops os _ K (h.2 y) k r h2 J hJ)
        ·exact h.elim
       ·rename_i F f hd;split at h
        ·rename_i d hdst;obtain⟨y,h1,h2⟩:=zD (show F.m.bind (fun y=>(f y).den k)=some r from hd);exact zGb hg (zGR hdst (F.ok o s y h1 h.1)) (zEG n (f y) _ ops os _ K (h.2 y) k r h2 J hJ)
        ·exact h.elim
       ·rename_i H t' hd;exact z2r h fun s' hs=>zEG n t' _ ops (o::os) s' K hs k r hd J hJ
       ·rename_i F t' f hd;split at h
        ·rename_i d hdst;obtain⟨y,h1,h2⟩:=zD (show F.m.bind (fun y=>elO y (t'.den k) fun x=>(f x).den k)=some r from hd);obtain⟨h3,h4,h5⟩:=h;cases y with
         |none=>exact zGb hg (zGR hdst (F.ok o s none h1 h3)) (zEG n t' _ ops os _ K h4 k r h2 J hJ)
         |some y=>exact zGb hg (zGR hdst (F.ok o s (some y) h1 h3)) (zEG n (f y) _ ops os _ K (h5 y) k r h2 J hJ)
        ·exact h.elim
       ·rename_i F f hd;obtain⟨y,h1,h2⟩:=zD (show F.m.bind (fun y=>(f y).den k)=some r from hd);exact z3o hg (F.ok o s _ y h1 (h y)) fun s' hs=>zEG n (f y) _ ops os s' K hs k r h2 J hJ
       ·exact h.elim
     ·rename_i hg;split at h
      ·rename_i d hdst;exact z1l hg hdst (zEG n _ _ ops os _ K h k r hd J hJ)
      ·exact h.elim
     ·exact h.elim
end
section
variable (P:Program)
def dslD(l:List Oper)(o:Oper):Option Nat:=match o.guard with
 |some (j,_)=>some j
 |none=>match o.op with
  | .pick (.tmp t) _ _=>some (idT t l 0)
  |_=>none
def opT:Operand→Option Nat
 | .tmp d=>some d
 |_=>none
def dtnD(rs:List Res):Option Nat→Option Nat
 |some d=>(match rs[d]? with
  |some (.r0 .tn)=>none
  |_=>some d)
 |none=>none
def goD:Nat→{β:Type}→T P β→List Nat→List Oper→List Nat→Nat→List (List Cd)→St→List Res→(T P β→St→OT)→OT
 |0,_,_,_,_,_,_,_,_,_,_=>.bad
 |n+1,β,t,kn,l,ms,n1,css,s0,rs,K=>match t with
  | .fail=>.ok
  | .frc v k=>goD n (k v) kn l ms n1 css s0 rs K
  | .lt v k=>goD n (k v) kn l ms n1 css s0 rs K
  | .bnd _ k=>.all fun y=>goD n (k y) kn l ms n1 css s0 rs K
  | .seqT t1 k=>goD n (sqT t1 k) kn l ms n1 css s0 rs K
  |t=>bif Nat.beq rs.length n1 then K t (fin (l.take n1) rs s0) else match l[rs.length]?,css[rs.length]? with
   |some o,some c=>match opn P t kn (dtnD rs (dslD l o)) with
    |some (d,b,t1,t2)=>.eq (rs[d]?) (some (.r0 (Bo b))) (.and (goD n t1 (d::kn) l ms n1 css s0 (rs.set d (.r0 (Bo true))) K) (goD n t2 (d::kn) l ms n1 css s0 (rs.set d (.r0 (Bo false))) K))
    |none=>match zQZ P t kn (dtnD rs (dslD l o)) with
     |(t,kn)=>match (bif wv (appC c (l.take n1) rs s0) o then er1 P l ms n1 css s0 rs else none) with
      |some rs'=>goD n t kn l ms n1 css s0 rs' K
      |none=>.eq (yg l.toArray o (appC c (l.take n1) rs s0)) (some true) (match t with
       | .n0 F t'=>.and (F.chk o (appC c (l.take n1) rs s0)) (.eq (Nat.blt rs.length n1&&(zG2 ms rs.length (F.av o (appC c (l.take n1) rs s0)) 0 (l.take n1)&&o.dst.isSome)) true (goD n t' kn l ms n1 css s0 (rs++[.r0 (F.av o (appC c (l.take n1) rs s0))]) K))
       | .n1 F t'=>.and (F.chk o (appC c (l.take n1) rs s0)) (.eq (Nat.blt rs.length n1&&(zGu (F.ne o (appC c (l.take n1) rs s0))&&(makes o&&((F.av o (appC c (l.take n1) rs s0)).small&&o.dst.isSome)))) true (goD n t' kn l ms n1 css s0 (rs++[.r1 (F.av o (appC c (l.take n1) rs s0)) (F.ne o (appC c (l.take n1) rs s0))]) K))
       | .op0 F k=>.and (F.chk o (appC c (l.take n1) rs s0)) (.all fun y=>.eq (Nat.blt rs.length n1&&(zG2 ms rs.length (F.av o (appC c (l.take n1) rs s0) y) 0 (l.take n1)&&o.dst.isSome)) true (goD n (k y) kn l ms n1 css s0 (rs++[.r0 (F.av o (appC c (l.take n1) rs s0) y)]) K))
       | .op1 F k=>.and (F.chk o (appC c (l.take n1) rs s0)) (.all fun y=>.eq (Nat.blt rs.length n1&&(zGu (F.ne o (appC c (l.take n1) rs s0) y)&&(makes o&&((F.av o (appC c (l.take n1) rs s0) y).small&&o.dst.isSome)))) true (goD n (k y) kn l ms n1 css s0 (rs++[.r1 (F.av o (appC c (l.take n1) rs s0) y) (F.ne o (appC c (l.take n1) rs s0) y)]) K))
       |_=>.bad)
   |_,_=>.bad
def unpl{β:Type}(t:T P β):T P β:=match t with
 | .pl t'=>t'
 |t=>t
def undn{β:Type}(t:T P β):T P β:=match t with
 | .dn t'=>t'
 |t=>t
end
section
variable (P:Program)
inductive DN:Type 1
  |aut
  |n0 (F:N0 P)
  |n1 (F:N1 P)
  |f0 {α:Type} (F:F0 P α) (y:α)
  |f1 {α:Type} (F:F1 P α) (y:α)
  |fx {α:Type} (F:FX P α) (y:α)
  |hn (H:HT) (d:DN)
def allR{α:Type}:List α→(α→OT)→OT
 |[],_=>.ok
 |i::is,g=>.and (g i) (allR is g)
end
section
variable {P:Program}
theorem zUb{α:Type}{g:α→OT}:∀(is:List α),(allR is g).holds→∀i,i∈is→(g i).holds
 |[],_,i,hi=>by cases hi
 |j::is,h,i,hi=>by
  rcases List.mem_cons.1 hi with h1|h1
  ·subst h1;exact h.1
  ·exact zUb is h.2 i h1
def DN.good:DN P→Prop
 | .f0 F y=>F.m=some y
 | .f1 F y=>F.m=some y
 | .fx F y=>F.m=some y
 | .hn _ d=>d.good
 |_=>True
def DN.run:DN P→Oper→St→(St→OT)→OT
 | .aut,o,s,K=>(match wo P o s with
  |some s'=>K s'
  |none=>.bad)
 | .n0 F,o,s,K=>(match o.dst with
  |some d=>.and (F.chk o s) (K (s.put d (F.av o s)))
  |none=>.bad)
 | .n1 F,o,s,K=>(match o.dst with
  |some d=>.and (F.chk o s) (K (s.upd d (F.av o s) (F.ne o s)))
  |none=>.bad)
 | .f0 F y,o,s,K=>(match o.dst with
  |some d=>.and (F.chk o s) (K (s.put d (F.av o s y)))
  |none=>.bad)
 | .f1 F y,o,s,K=>(match o.dst with
  |some d=>.and (F.chk o s) (K (s.upd d (F.av o s y) (F.ne o s y)))
  |none=>.bad)
 | .fx F y,o,s,K=>F.run o s y K
 | .hn H d,o,s,K=>H.run s fun s'=>d.run o s' K
theorem DN.ok:∀(d:DN P)(o:Oper)(s:St)(K:St→OT),d.good→(d.run o s K).holds→XS P o s (fun s'=>(K s').holds)
 | .aut,o,s,K,_,h=>by
  unfold DN.run at h;split at h
  ·rename_i s' hs;exact zGj (z7z hs) h
  ·exact h.elim
 | .n0 F,o,s,K,_,h=>by
  unfold DN.run at h;split at h
  ·rename_i d hd;exact zGj (zGi hd (F.ok o s h.1)) h.2
  ·exact h.elim
 | .n1 F,o,s,K,_,h=>by
  unfold DN.run at h;split at h
  ·rename_i d hd;exact zGj (zGR hd (F.ok o s h.1)) h.2
  ·exact h.elim
 | .f0 F y,o,s,K,hg,h=>by
  unfold DN.run at h;split at h
  ·rename_i d hd;exact zGj (zGi hd (F.ok o s y hg h.1)) h.2
  ·exact h.elim
 | .f1 F y,o,s,K,hg,h=>by
  unfold DN.run at h;split at h
  ·rename_i d hd;exact zGj (zGR hd (F.ok o s y hg h.1)) h.2
  ·exact h.elim
 | .fx F y,o,s,K,hg,h=>F.ok o s K y hg h
 | .hn H d,o,s,K,hg,h=>by intro B w0 ok0 ok σ a w hR K2 Q hK;obtain⟨s',ok',σ',h1,h2⟩:=H.ok s _ h _ _ _ _ _ _ _ hR;exact DN.ok d o s' K hg h1 _ _ _ _ _ _ _ h2 K2 Q hK
def zNm:List HT→DN P→DN P
 |[],d=>d
 |H::hs,d=>.hn H (zNm hs d)
theorem zSB:∀(hs:List HT)(d:DN P),d.good→(zNm hs d).good
 |[],_,h=>h
 |_::hs,d,h=>zSB hs d h
def goP:Nat→{β:Type}→T P β→List Nat→List HT→List (DN P)→(T P β→List (DN P)→OT)→OT
 |0,_,_,_,_,_,_=>.bad
 |f+1,β,t,au,hs,acc,K=>match au with
  |[]=>K t acc
  |b::au'=>match Nat.beq b 1 with
   |true=>goP f t au' hs (acc++[.aut]) K
   |false=>match t with
    | .hint H t'=>goP f t' au (hs++[H]) acc K
    | .late H t'=>goP f t' au (hs++[H]) acc K
    | .fail=>.ok
    |t=>match Nat.beq b 2 with
     |true=>goP f t au' [] (acc++[zNm hs .aut]) K
     |false=>match t with
      | .n0 F t'=>goP f t' au' [] (acc++[zNm hs (.n0 F)]) K
      | .n1 F t'=>goP f t' au' [] (acc++[zNm hs (.n1 F)]) K
      | .op0 F k=>.all fun y=>goP f (k y) au' [] (acc++[zNm hs (.f0 F y)]) K
      | .op1 F k=>.all fun y=>goP f (k y) au' [] (acc++[zNm hs (.f1 F y)]) K
      | .opx F k=>.all fun y=>goP f (k y) au' [] (acc++[zNm hs (.fx F y)]) K
      |_=>.bad
theorem zHq:∀(f:Nat){β:Type}(t:T P β)(au:List Nat)(hs:List HT)(acc:List (DN P))(K:T P β→List (DN P)→OT),(goP f t au hs acc K).holds→(∀d,d∈acc→d.good)→
  ∀{ρ:Type}(k:β→Option ρ)(r:ρ),t.den k=some r→∃t' ds,(∀d,d∈ds→DN.good d)∧T.den t' k=some r∧(K t' ds).holds
 |0,_,_,_,_,_,_,h=>h.elim
 |f+1,β,t,au,hs,acc,K,h=>by
  intro ha ρ k r hd;have ha2:∀d0:DN P,d0.good→∀d,d∈acc++[zNm hs d0]→d.good:=by
   intro d0 h0 d hdm;rcases List.mem_append.1 hdm with h1|h1
   ·exact ha d h1
   ·rw[qd]at h1;subst h1;exact zSB hs d0 h0
  have ha3:∀d,d∈acc++[(DN.aut:DN P)]→d.good:=by
   intro d hdm;rcases List.mem_append.1 hdm with h1|h1
   ·exact ha d h1
   ·rw[qd]at h1;subst h1;trivial
  unfold goP at h;split at h
  ·exact⟨t,acc,ha,hd,h⟩
  ·split at h
   ·exact zHq f _ _ _ _ _ h ha3 k r hd
   ·split at h
    ·exact zHq f _ _ _ _ _ h ha k r hd
    ·exact zHq f _ _ _ _ _ h ha k r hd
    ·cases hd
    ·split at h
     ·exact zHq f _ _ _ _ _ h (ha2 _ trivial) k r hd
     ·split at h
      ·exact zHq f _ _ _ _ _ h (ha2 _ trivial) k r hd
      ·exact zHq f _ _ _ _ _ h (ha2 _ trivial) k r hd
      ·rename_i F g _ _ _;obtain⟨y,h1,h2⟩:=zD (show F.m.bind (fun y=>(g y).den k)=some r from hd);exact zHq f _ _ _ _ _ (h y) (ha2 (.f0 F y) h1) k r h2
      ·rename_i F g _ _ _;obtain⟨y,h1,h2⟩:=zD (show F.m.bind (fun y=>(g y).den k)=some r from hd);exact zHq f _ _ _ _ _ (h y) (ha2 (.f1 F y) h1) k r h2
      ·rename_i F g _ _ _;obtain⟨y,h1,h2⟩:=zD (show F.m.bind (fun y=>(g y).den k)=some r from hd);exact zHq f _ _ _ _ _ (h y) (ha2 (.fx F y) h1) k r h2
      ·exact h.elim
def goL(l:List Oper)(ms:List Nat)(ds:List (DN P)):Nat→Nat→St→(St→OT)→OT
 |0,_,_,_=>.bad
 |f+1,mask,s,K=>bif Nat.beq mask (2 ^l.length - 1) then K s else allR (zNR ms mask l.length) fun i=>match l[i]?,ds[i]? with
  |some o,some d=>(match o.guard with
   |none=>d.run o s fun s'=>goL l ms ds f (mask|||2 ^i) s' K
   |some _=>.bad)
  |_,_=>.bad
theorem zYI{l:List Oper}{ms:List Nat}{ds:List (DN P)}{K:St→OT}{Q:Exit→Act→World→Prop}{B:Fr}{w0:World}{ok0:Nat→Prop}(hc:chk1 ms l.length 0 l=true)(hds:∀d,d∈ds→d.good)
  (hQ:∀s ok σ a w,(K s).holds→R B w0 ok0 ok σ s a w→Q .normal a w):
  ∀(fuel g:Nat)(listed:Array Bool)(mask:Nat)(s:St)(ok:Nat→Prop)(σ:Nat→Loc)(a:Act)(w:World),listed.size=l.length→(∀j,listed.getD j false=mask.testBit j)→(∀j,listed.getD j false=true→∀m,(ms.getD j 0).testBit m=true→listed.getD m false=true)→
   left l.length (fun j=>listed.getD j false)≤fuel→(goL l ms ds g mask s K).holds→R B w0 ok0 ok σ s a w→wpAny P .any l.toArray Q fuel listed a w:=by
 have full:∀(listed:Array Bool)(mask:Nat),listed.size=l.length→(∀j,listed.getD j false=mask.testBit j)→(∀j,j<l.length→listed.getD j false=true)→mask=2 ^l.length - 1:=by
  intro listed mask hs hm hall;apply Nat.eq_of_testBit_eq;intro j;rw[Nat.testBit_two_pow_sub_one,←hm];by_cases hj:j<l.length
  ·rw[hall j hj];simp[hj]
  ·have:listed.getD j false=false:=by
    rw[Array.getD_eq_getD_getElem?,Array.getElem?_eq_none (by omega)];rfl
   rw[this];simp[hj]
 have done:∀(g mask:Nat)(s:St),mask=2 ^l.length - 1→(goL l ms ds g mask s K).holds→(K s).holds:=by
  intro g mask s hmask h;cases g with
  |zero=>exact h.elim
  |succ g=>unfold goL at h;rw[hmask,Nat.beq_refl,zb]at h;exact h
 intro fuel
 induction fuel with
 |zero=>
  intro g listed mask s ok σ a w hs hm hcl hf hl hR;have hall:=zPo (Nat.le_zero.1 hf);have hnil:Region.ready .any l.toArray listed=[]:=by
   rw[List.eq_nil_iff_forall_not_mem];intro i hi;obtain⟨h1,o,h3,_⟩:=(zFf hs i).1 hi;have hlt:i<l.length:=by
    rcases Nat.lt_or_ge i l.length with h4|h4
    ·exact h4
    ·rw[List.getElem?_eq_none h4]at h3;cases h3
   rw[hall i hlt]at h1;cases h1
  exact⟨hnil,hQ s ok σ a w (done g mask s (full listed mask hs hm hall) hl) hR⟩
 |succ fuel ih=>
  intro g listed mask s ok σ a w hs hm hcl hf hl hR;refine⟨fun hnil=>?_,fun i hi=>?_⟩
  ·refine hQ s ok σ a w (done g mask s (full listed mask hs hm fun j hj=>?_) hl) hR;cases h3:listed.getD j false with
   |true=>rfl
   |false=>exact absurd hnil (zJf hc hs j hj h3)
  ·have hbits:=zIJ hc hs hi hcl;obtain⟨h1,o,h3,_⟩:=(zFf hs i).1 hi;have hlt:i<l.length:=by
    rcases Nat.lt_or_ge i l.length with h4|h4
    ·exact h4
    ·rw[List.getElem?_eq_none h4]at h3;cases h3
   have hmem:=zNQ ms mask _ i hlt (by rw[←hm];exact h1) fun j hj=>by rw[←hm];exact hbits j hj
   cases g with
   |zero=>exact hl.elim
   |succ g=>
    unfold goL at hl;have hnb:Nat.beq mask (2 ^l.length - 1)=false:=by
     cases hb:Nat.beq mask (2 ^l.length - 1) with
     |false=>rfl
     |true=>have:=Nat.eq_of_beq_eq_true hb;rw[hm,this,Nat.testBit_two_pow_sub_one]at h1;simp[hlt]at h1
    rw[hnb,zc]at hl;have hl2:=zUb _ hl i hmem;simp only[h3]at hl2;split at hl2
    ·rename_i o2 d he1 he2;injection he1 with he1;subst he1;split at hl2
     ·rename_i hguard;have hx:=DN.ok d o s _ (hds d (List.mem_of_getElem? he2)) hl2;have hset:=zGZ listed i (by omega);have hleft:=zT8 hs hlt h1;unfold wpOp;rw[show l.toArray[i]?=l[i]? by simp,h3];simp only;rw[if_pos (zH8 hR.core (.inl hguard))];refine .inl (hx B w0 ok0 ok σ a w hR _ Q fun s' a' w' ok' σ' hI hR'=>?_);refine ih g (listed.setIfInBounds i true) (mask|||2 ^i) s' ok' σ' a' w' (by simpa using hs) (fun j=>?_) (fun j hj m hmm=>?_) (by omega) hI hR'
      ·rw[hset,Nat.testBit_or,Nat.testBit_two_pow,←hm];by_cases hj:j=i
       ·subst hj;simp
       ·rw[if_neg hj];have:decide (i=j)=false:=by simp;exact fun e=>hj e.symm
        rw[this,Bool.or_false]
      ·rw[hset]at hj ⊢;split
       ·rfl
       ·by_cases hji:j=i
        ·subst hji;exact hbits m hmm
        ·rw[if_neg hji]at hj;exact hcl j hj m hmm
     ·exact hl2.elim
    ·exact hl2.elim
theorem z7o{id:Nat}{l:List Oper}{ms:List Nat}{ds:List (DN P)}{K:St→OT}{s:St}{J:Exit→St→Prop}{g:Nat}(hm:P.follows .mixedOrders=true)(hc:chk1 ms l.length 0 l=true)(hds:∀d,d∈ds→d.good)(h:(goL l ms ds g 0 s K).holds)(hJ:∀s',(K s').holds→J .normal s'):
  V P (.region id l.toArray true) s J:=by
 intro B w0 ok0 ok σ a w hR;refine wp_region_any hm ?_
 have hrep:∀j,(Array.replicate l.toArray.size false).getD j false=false:=by intro j;rw[Array.getD_eq_getD_getElem?,Array.getElem?_replicate];split<;>rfl
 refine zYI (B:=B) (w0:=w0) (ok0:=ok0) hc hds (fun s' ok' σ' a' w' hK hR'=>⟨s',ok',σ',hJ s' hK,hR'⟩) l.toArray.size g _ 0 s ok σ a _ (by simp) (fun j=>by rw[hrep j,Nat.zero_testBit]) (fun j hj=>by rw[hrep j]at hj;cases hj) ?_ h hR.drew
 unfold left;refine Nat.le_trans List.countP_le_length ?_
 simp
def DN.post(γ:Nat→Loc):DN P→Oper→St→Option St
 | .aut,o,s=>wo P o s
 | .n0 F,o,s=>(match o.dst with
  |some d=>some (s.put d (F.av o s))
  |none=>none)
 | .n1 F,o,s=>(match o.dst with
  |some d=>some (s.upd d (F.av o s) (F.ne o s))
  |none=>none)
 | .f0 F y,o,s=>(match o.dst with
  |some d=>some (s.put d (F.av o s y))
  |none=>none)
 | .f1 F y,o,s=>(match o.dst with
  |some d=>some (s.upd d (F.av o s y) (F.ne o s y))
  |none=>none)
 | .fx F y,o,s=>F.post γ o s y
 | .hn H d,o,s=>(match H.post s with
  |some s'=>d.post γ o s'
  |none=>none)
def z4y(s:St):List (Nat×Ent)→OT
 |[]=>.ok
 |p::ps=>.eq (s.ent p.1) (some p.2) (z4y s ps)
theorem zZl{s:St}:∀{E:List (Nat×Ent)},(z4y s E).holds→HasE s E
 |[],_=>trivial
 |(k,e)::ps,h=>⟨h.1,zZl h.2⟩
def bldM(gh:Bool)(l:List Oper)(ds:List (DN P))(s0:St):List Nat→List (Nat×((Nat→Loc)→St))→(List (Nat×((Nat→Loc)→St))→OT)→OT
 |[],tab,K=>K tab
 |m::ms,tab,K=>match l[Nat.log2 m]?,ds[Nat.log2 m]?,tab.lookup (m - 2 ^Nat.log2 m) with
  |some o,some d,some S=>(match gh with
   |true=>bldM gh l ds s0 ms ((m,fun γ=>(d.post γ o (S γ)).getD s0)::tab) K
   |false=>(match d.post (fun _=>loc0) o (S fun _=>loc0) with
    |some s'=>bldM gh l ds s0 ms ((m,fun _=>s')::tab) K
    |none=>.eq m 0 .bad))
  |_,_,_=>.eq m 1 .bad
def stM(l:List Oper)(ds:List (DN P))(f1:Nat)(tab:List (Nat×((Nat→Loc)→St)))(m:Nat)(s:St)(i:Nat):OT:=match l[i]?,ds[i]?,tab.lookup (m|||2 ^i) with
 |some o,some d,some S2=>(match o.guard with
  |none=>.eq (Nat.ble (m|||2 ^i) f1) true (d.run o s fun s'=>.eq (S2 s'.locs).T s'.T (z4y s' (S2 s'.locs).E))
  |some _=>.bad)
 |_,_,_=>.eq (m,i) (0,0) .bad
def trM(l:List Oper)(ms:List Nat)(ds:List (DN P))(f1:Nat)(tab:List (Nat×((Nat→Loc)→St))):List (Nat×((Nat→Loc)→St))→OT
 |[]=>.ok
 |p::ps=>.and (bif Nat.beq p.1 f1 then .ok else .all fun γ=>allR (zNR ms p.1 l.length) fun i=>stM l ds f1 tab p.1 (p.2 γ) i) (trM l ms ds f1 tab ps)
theorem z2k{gh:Bool}{l:List Oper}{ds:List (DN P)}{s0:St}{K:List (Nat×((Nat→Loc)→St))→OT}:∀(ms:List Nat)(tab:List (Nat×((Nat→Loc)→St))),(bldM gh l ds s0 ms tab K).holds→∃tab',(K tab').holds∧∀S,tab.lookup 0=some S→(∀m,m∈ms→m≠0)→tab'.lookup 0=some S
 |[],tab,h=>⟨tab,h,fun s hs _=>hs⟩
 |m::ms,tab,h=>by
  have go:∀S',(bldM gh l ds s0 ms ((m,S')::tab) K).holds→∃tab',(K tab').holds∧∀S,tab.lookup 0=some S→(∀q,q∈m::ms→q≠0)→tab'.lookup 0=some S:=by
   intro S' h;obtain⟨tab',h1,h2⟩:=z2k ms _ h;refine⟨tab',h1,fun s hs hm=>h2 s ?_ fun q hq=>hm q (zm _ hq)⟩;have:(0==m)=false:=by rw[zr];exact fun e=>hm m zl e.symm
   simp only[List.lookup,this];exact hs
  unfold bldM at h;split at h
  ·split at h
   ·exact go _ h
   ·split at h
    ·exact go _ h
    ·exact h.2.elim
  ·exact h.2.elim
theorem z3z{l:List Oper}{ms:List Nat}{ds:List (DN P)}{f1:Nat}{tab:List (Nat×((Nat→Loc)→St))}:∀(ps:List (Nat×((Nat→Loc)→St))),(trM l ms ds f1 tab ps).holds→∀m S,ps.lookup m=some S→m≠f1→∀γ,(allR (zNR ms m l.length) fun i=>stM l ds f1 tab m (S γ) i).holds
 |[],_,m,s,h,_=>by simp at h
 |(q,t)::ps,h,m,s,hl,hne=>by
  simp only[List.lookup]at hl;cases hq:m==q with
  |true=>
   have:m=q:=by simpa using hq
   subst this;rw[hq]at hl;injection hl with hl;subst hl;have h1:=h.1;have:Nat.beq m f1=false:=by
    cases hb:Nat.beq m f1 with
    |false=>rfl
    |true=>exact absurd (Nat.eq_of_beq_eq_true hb) hne
   simp only[this,zc]at h1;exact h1
  |false=>rw[hq]at hl;exact z3z ps h.2 m s hl hne
def nz0:List Nat→Bool
 |[]=>true
 |m::ms=>!Nat.beq m 0&&nz0 ms
theorem z4g:∀{ms:List Nat},nz0 ms=true→∀m,m∈ms→m≠0
 |m::ms,h,q,hq=>by
  simp only[nz0,zj,Bool.not_eq_true']at h;rcases List.mem_cons.1 hq with h1|h1
  ·subst h1;intro e;subst e;exact absurd h.1 (by decide)
  ·exact z4g h.2 q h1
theorem z9E{l:List Oper}{ms:List Nat}{ds:List (DN P)}{K:St→OT}{Q:Exit→Act→World→Prop}{B:Fr}{w0:World}{ok0:Nat→Prop}{f1 g:Nat}{tab:List (Nat×((Nat→Loc)→St))}{s1:(Nat→Loc)→St}(hf1:f1≤2 ^l.length - 1)(hc:chk1 ms l.length 0 l=true)(hds:∀d,d∈ds→d.good)
  (ht:(trM l ms ds f1 tab tab).holds) (h1:tab.lookup f1=some s1) (hg:∀γ,(goL l ms ds g f1 (s1 γ) K).holds) (hQ:∀s ok σ a w,(K s).holds→R B w0 ok0 ok σ s a w→Q .normal a w):
  ∀(fuel:Nat)(listed:Array Bool)(mask:Nat)(s:(Nat→Loc)→St)(γ:Nat→Loc)(ok:Nat→Prop)(σ:Nat→Loc)(a:Act)(w:World),listed.size=l.length→(∀j,listed.getD j false=mask.testBit j)→(∀j,listed.getD j false=true→∀m,(ms.getD j 0).testBit m=true→listed.getD m false=true)→
   left l.length (fun j=>listed.getD j false)≤fuel→tab.lookup mask=some s→mask≤f1→R B w0 ok0 ok σ (s γ) a w→wpAny P .any l.toArray Q fuel listed a w:=by
 intro fuel
 induction fuel with
 |zero=>
  intro listed mask s γ ok σ a w hs hm hcl hf hl hfull hR;by_cases he:mask=f1
  ·subst he;rw[h1]at hl;injection hl with hl;subst hl;exact zYI hc hds hQ 0 g listed mask (s1 γ) ok σ a w hs hm hcl hf (hg γ) hR
  ·exfalso
   have hall:=zPo (Nat.le_zero.1 hf);have hmask:mask=2 ^l.length - 1:=by
    apply Nat.eq_of_testBit_eq;intro j;rw[Nat.testBit_two_pow_sub_one,←hm];by_cases hj:j<l.length
    ·rw[hall j hj];simp[hj]
    ·have:listed.getD j false=false:=by
      rw[Array.getD_eq_getD_getElem?,Array.getElem?_eq_none (by omega)];rfl
     rw[this];simp[hj]
   omega
 |succ fuel ih=>
  intro listed mask s γ ok σ a w hs hm hcl hf hl hfull hR;by_cases he:mask=f1
  ·subst he;rw[h1]at hl;injection hl with hl;subst hl;exact zYI hc hds hQ (fuel+1) g listed mask (s1 γ) ok σ a w hs hm hcl hf (hg γ) hR
  ·have hst:=z3z tab ht mask s hl he γ;refine⟨fun hnil=>?_,fun i hi=>?_⟩
   ·exfalso
    have hall:∀j,j<l.length→listed.getD j false=true:=fun j hj=>by
     cases h3:listed.getD j false with
     |true=>rfl
     |false=>exact absurd hnil (zJf hc hs j hj h3)
    have hmask:mask=2 ^l.length - 1:=by
     apply Nat.eq_of_testBit_eq;intro j;rw[Nat.testBit_two_pow_sub_one,←hm];by_cases hj:j<l.length
     ·rw[hall j hj];simp[hj]
     ·have:listed.getD j false=false:=by
       rw[Array.getD_eq_getD_getElem?,Array.getElem?_eq_none (by omega)];rfl
      rw[this];simp[hj]
    omega
   ·have hbits:=zIJ hc hs hi hcl;obtain⟨h2,o,h3,_⟩:=(zFf hs i).1 hi;have hlt:i<l.length:=by
     rcases Nat.lt_or_ge i l.length with h4|h4
     ·exact h4
     ·rw[List.getElem?_eq_none h4]at h3;cases h3
    have hmem:=zNQ ms mask _ i hlt (by rw[←hm];exact h2) fun j hj=>by rw[←hm];exact hbits j hj
    have hl2:=zUb _ hst i hmem;unfold stM at hl2;simp only[h3]at hl2;split at hl2
    ·rename_i o2 d s2 he1 he2 he3;injection he1 with he1;subst he1;split at hl2
     ·rename_i hguard;obtain⟨hble,hl2⟩:=hl2;have hble:=Nat.le_of_ble_eq_true hble;have hx:=DN.ok d o (s γ) _ (hds d (List.mem_of_getElem? he2)) hl2;have hset:=zGZ listed i (by omega);have hleft:=zT8 hs hlt h2;unfold wpOp;rw[show l.toArray[i]?=l[i]? by simp,h3];simp only;rw[if_pos (zH8 hR.core (.inl hguard))];refine .inl (hx B w0 ok0 ok σ a w hR _ Q fun s' a' w' ok' σ' hI hR'=>?_);obtain⟨hT,hE⟩:=hI;have hE:=zZl hE;have hle:Le (s2 s'.locs) s':=⟨by rw[hT];exact Nat.le_refl _,fun t=>.inr (by unfold St.get;rw[hT]),fun id e he=>zQU s' (s2 s'.locs).E id e hE he⟩
      by_cases hff:mask|||2 ^i=f1
      ·rw[hff,h1]at he3;injection he3 with he3;subst he3;refine zYI hc hds hQ fuel g (listed.setIfInBounds i true) f1 (s1 s'.locs) ok' σ' a' w' (by simpa using hs) (fun j=>?_) (fun j hj m hmm=>?_) (by omega) (hg _) (hR'.le hle)
       ·rw[hset,←hff,Nat.testBit_or,Nat.testBit_two_pow,←hm];by_cases hj:j=i
        ·subst hj;simp
        ·rw[if_neg hj];have:decide (i=j)=false:=by simp;exact fun e=>hj e.symm
         rw[this,Bool.or_false]
       ·rw[hset]at hj ⊢;split
        ·rfl
        ·by_cases hji:j=i
         ·subst hji;exact hbits m hmm
         ·rw[if_neg hji]at hj;exact hcl j hj m hmm
      ·refine ih (listed.setIfInBounds i true) (mask|||2 ^i) s2 s'.locs ok' σ' a' w' (by simpa using hs) (fun j=>?_) (fun j hj m hmm=>?_) (by omega) he3 hble (hR'.le hle)
       ·rw[hset,Nat.testBit_or,Nat.testBit_two_pow,←hm];by_cases hj:j=i
        ·subst hj;simp
        ·rw[if_neg hj];have:decide (i=j)=false:=by simp;exact fun e=>hj e.symm
         rw[this,Bool.or_false]
       ·rw[hset]at hj ⊢;split
        ·rfl
        ·by_cases hji:j=i
         ·subst hji;exact hbits m hmm
         ·rw[if_neg hji]at hj;exact hcl j hj m hmm
     ·exact hl2.elim
    ·exact hl2.2.elim
theorem z7n{id n1:Nat}{l:List Oper}{ms:List Nat}{ds:List (DN P)}{K:St→OT}{s:St}{s1:(Nat→Loc)→St}{J:Exit→St→Prop}{g:Nat}{tab:List (Nat×((Nat→Loc)→St))}(hn:n1≤l.length)(hm:P.follows .mixedOrders=true)(hc:chk1 ms l.length 0 l=true)(hds:∀d,d∈ds→d.good)
  (ht:(trM l ms ds (2 ^n1 - 1) tab tab).holds) (h1:tab.lookup (2 ^n1 - 1)=some s1) (h:∀γ,(goL l ms ds g (2 ^n1 - 1) (s1 γ) K).holds) (h0:tab.lookup 0=some fun _=>s) (hJ:∀s',(K s').holds→J .normal s'):
  V P (.region id l.toArray true) s J:=by
 intro B w0 ok0 ok σ a w hR;refine wp_region_any hm ?_
 have hrep:∀j,(Array.replicate l.toArray.size false).getD j false=false:=by intro j;rw[Array.getD_eq_getD_getElem?,Array.getElem?_replicate];split<;>rfl
 have hf1:2 ^n1 - 1≤2 ^l.length - 1:=Nat.sub_le_sub_right (Nat.pow_le_pow_right (by omega) hn) 1;refine z9E (B:=B) (w0:=w0) (ok0:=ok0) hf1 hc hds ht h1 h (fun s' ok' σ' a' w' hK hR'=>⟨s',ok',σ',hJ s' hK,hR'⟩) l.toArray.size _ 0 (fun _=>s) (fun _=>loc0) ok σ a _ (by simp) (fun j=>by rw[hrep j,Nat.zero_testBit]) (fun j hj=>by rw[hrep j]at hj;cases hj) ?_ h0 (Nat.zero_le _) hR.drew
 unfold left;refine Nat.le_trans List.countP_le_length ?_
 simp
end
section
variable (P:Program)
def goR{β:Type}(g:T P β→St→(Exit→T P β→List Nat→St→OT)→OT):Nat→T P β→St→(Exit→T P β→List Nat→St→OT)→OT
 |0,_,_,_=>.bad
 |j+1,t,s,K=>g t s fun e t' kn' s'=>match e with
  | .normal=>goR g j t' s' K
  |e=>K e t' kn' s'
def mtK{α:Type}(m:List Bool)(ids:List Nat)(S:St→α→(Nat→Loc)→St)(s:St):Exit→T P α→List Nat→St→OT:=fun e t' _ s'=>match e,t' with
 | .normal,.ret a=>.eq (s'.kp m ids) (S s a s'.locs) .ok
 |_,_=>.bad
def mtKS{α γ β:Type}(m:List Bool)(ids:List Nat)(S:St→α→(Nat→Loc)→St)(s:St)(er:γ→β)(K:Exit→T P β→List Nat→St→OT):Exit→T P (α ⊕ γ)→List Nat→St→OT:=fun e t' kn' s'=>match e,t' with
 | .normal,.ret (.inl a)=>.eq (s'.kp m ids) (S s a s'.locs) .ok
 | .ret,.ret (.inr r)=>K .ret (.ret (er r)) kn' s'
 | .exit i,.ret (.inr r)=>K (.exit i) (.ret (er r)) kn' s'
 |_,_=>.bad
def lpK{ι o:Type}(id:Nat)(m:List Bool)(ids:List Nat)(S:St→ι→(Nat→Loc)→St)(mo:List Bool)(ido:List Nat)(So:St→o→(Nat→Loc)→St)(s:St):Exit→T P (ι ⊕ o)→List Nat→St→OT:=fun e t' _ s'=>match e,t' with
 | .normal,.ret (.inl x')=>.eq (s'.kp m ids) (S s x' s'.locs) .ok
 | .exit i,.ret (.inr y)=>bif Nat.beq i id then .eq (s'.kp mo ido) (So s y s'.locs) .ok else .bad
 |_,_=>.bad
def lpKS{ι o γ β:Type}(id:Nat)(m:List Bool)(ids:List Nat)(S:St→ι→(Nat→Loc)→St)(mo:List Bool)(ido:List Nat)(So:St→o→(Nat→Loc)→St)(s:St)(er:γ→β)(K:Exit→T P β→List Nat→St→OT):Exit→T P (Lf ι o γ)→List Nat→St→OT:=fun e t' kn' s'=>match e,t' with
 | .normal,.ret (.again x')=>.eq (s'.kp m ids) (S s x' s'.locs) .ok
 | .exit i,.ret (.done y)=>bif Nat.beq i id then .eq (s'.kp mo ido) (So s y s'.locs) .ok else .bad
 | .ret,.ret (.early r)=>K .ret (.ret (er r)) kn' s'
 | .exit i,.ret (.early r)=>bif Nat.beq i id then .bad else K (.exit i) (.ret (er r)) kn' s'
 |_,_=>.bad
def nxK{β:Type}(g:T P β→St→OT)(K:Exit→T P β→List Nat→St→OT):Exit→T P β→List Nat→St→OT:=fun e t' kn' s'=>match e with
 | .normal=>g t' s'
 |e=>K e t' kn' s'
def bkK{β:Type}(id:Nat)(K:Exit→T P β→List Nat→St→OT):Exit→T P β→List Nat→St→OT:=fun e t' kn' s'=>match e with
 | .exit i=>bif Nat.beq i id then K .normal t' kn' s' else K (.exit i) t' kn' s'
 |e=>K e t' kn' s'
def goV:Nat→{β:Type}→T P β→List Nat→Code→St→(Exit→T P β→List Nat→St→OT)→OT
 |0,_,_,_,_,_,_=>.bad
 |n+1,β,t,kn,code,s,K=>match t with
  | .fail=>.ok
  | .hint H t'=>H.run s fun s'=>goV n t' kn code s' K
  | .late H t'=>H.run s fun s'=>goV n t' kn code s' K
  | .frc v k=>goV n (k v) kn code s K
  | .lt v k=>goV n (k v) kn code s K
  | .bnd _ k=>.all fun y=>goV n (k y) kn code s K
  | .seqT t1 k=>goV n (sqT t1 k) kn code s K
  | .join t1 m ids S f=>(match code with
   | .block id c=>goV n (.join t1 m ids S f) kn c s (bkK P id K)
   | .seq x y=>.and (goV n t1 kn x s (mtK P m ids S s)) (.all fun a=>.all fun γ=>goV n (f a) [] y (S s a γ) K)
   |c=>.and (goV n t1 kn c s (mtK P m ids S s)) (.all fun a=>.all fun γ=>K .normal (f a) [] (S s a γ)))
  | .joinC t1 m ids S f=>(match code with
   | .block id c=>goV n (.joinC t1 m ids S f) kn c s (bkK P id K)
   | .seq x y=>.and (goV n t1 kn x s (mtK P m ids S s)) (.all fun a=>.all fun γ=>goV n (f a) [] y (S s a γ) K)
   |c=>.and (goV n t1 kn c s (mtK P m ids S s)) (.all fun a=>.all fun γ=>K .normal (f a) [] (S s a γ)))
  | .joinS t1 m ids S er f=>(match code with
   | .block id c=>goV n (.joinS t1 m ids S er f) kn c s (bkK P id K)
   | .seq x y=>.and (goV n t1 kn x s (mtKS P m ids S s er K)) (.all fun a=>.all fun γ=>goV n (f a) [] y (S s a γ) K)
   |_=>.bad)
  |t=>match code with
   | .skip=>K .normal (unpl P t) kn s
   | .exit id=>K (.exit id) t kn s
   | .ret=>K .ret t kn s
   | .label _=>K .normal t kn s
   | .cond c x y=>(match opn P t kn (opT c) with
    |some (d,b,t1,t2)=>.eq (s.ev c) (Bo b) (.and (goV n t1 kn x s K) (goV n t2 kn y s K))
    |none=>match zQZ P t kn (opT c) with
     |(t,kn)=>match s.ev c with
      | .c (.v (.bool true))=>goV n t kn x s K
      | .c (.v (.bool false))=>goV n t kn y s K
      |_=>.bad)
   | .seq x y=>goV n (undn P t) kn x s (nxK P (fun t' s'=>goV n t' [] y s' K) K)
   | .region id ops false=>goX P n (unpl P t) [] ops ops.toList s fun t' _ s'=>K .normal t' [] s'
   | .region id ops true=>(match t with
    | .draw n1 tg t'=>.eq (P.follows .mixedOrders&&zI8 ops.toList (amk ops.toList []) n1 (acs (amk ops.toList []) tg n1 n1)) true
      (goD P n t' [] ops.toList (amk ops.toList []) n1 (acs (amk ops.toList []) tg n1 n1) (prep (ops.toList.take n1) s) [] fun t'' s'=>goX P n t'' [] ops (ops.toList.drop n1) s' fun t' _ s'=>K .normal t' [] s')
    | .drawM gh n1 masks au t'=>goP 100000 t' au [] [] fun t'' ds=>.eq (P.follows .mixedOrders&&(chk1 (amk ops.toList []) ops.toList.length 0 ops.toList&&(Nat.ble n1 ops.toList.length&&nz0 masks))) true (bldM gh ops.toList ds s masks [(0,fun _=>s)] fun tab=>(match tab.lookup (2 ^n1 - 1) with
      |some s1=>.and (trM ops.toList (amk ops.toList []) ds (2 ^n1 - 1) tab tab) (.all fun γ=>goL ops.toList (amk ops.toList []) ds (ops.toList.length+1) (2 ^n1 - 1) (s1 γ) fun s'=>K .normal t'' [] s')
      |none=>.bad))
    | .drawL au t'=>goP 100000 t' au [] [] fun t'' ds=>.eq (P.follows .mixedOrders&&chk1 (amk ops.toList []) ops.toList.length 0 ops.toList) true (goL ops.toList (amk ops.toList []) ds (ops.toList.length+1) 0 s fun s'=>K .normal t'' [] s')
    |_=>.bad)
   | .loop c=>(match t with
    | .unroll j t'=>goR P (fun t' s' K'=>goV n t' [] c s' K') j t' s K
    |_=>.bad)
   | .block id body=>(match body,t with
    | .loop c,.loop L x m ids S bt mo ido So f=>.eq (fun x=>L 0 x) (fun _=>none) (.eq (fun n x=>L (n+1) x) (fun n x=>(bt x).den (lk L n)) (.eq (s.kp m ids) (S s x s.locs) (.and
      (.all fun x=>.all fun γ=>goV n (bt x) [] c (S s x γ) (lpK P id m ids S mo ido So s))
      (.all fun y=>.all fun γ=>K .normal (f y) [] (So s y γ)))))
    | .loop c,.loopS L x m ids S bt mo ido So er f=>.eq (fun x=>L 0 x) (fun _=>none) (.eq (fun n x=>L (n+1) x) (fun n x=>(bt x).den (lkS L n)) (.eq (s.kp m ids) (S s x s.locs) (.and
      (.all fun x=>.all fun γ=>goV n (bt x) [] c (S s x γ) (lpKS P id m ids S mo ido So s er K))
      (.all fun y=>.all fun γ=>K .normal (f y) [] (So s y γ)))))
    |body,t=>goV n t kn body s (bkK P id K))
   |_=>.bad
end
section
variable {P:Program}
theorem z9D{l:List Oper}{rs:List Res}{o:Oper}{d:Nat}(ho:l[rs.length]?=some o)(h:dslD l o=some d):gtD l rs=d:=by
 unfold gtD;rw[ho];unfold dslD at h;split at h
 ·rename_i j b hg
  (try simp only[hg])
  injection h
 ·rename_i hg
  (try simp only[hg])
  split at h
  ·rename_i t x y hop
   (try simp only[hop])
   injection h
  ·cases h
theorem opn_q{β:Type}{t:T P β}{kn:List Nat}{q:Option Nat}{d:Nat}{c:Bool}{a b:T P β}(h:opn P t kn q=some (d,c,a,b)):q=some d:=by
 unfold opn at h;split at h
 ·rename_i d0;cases hb:kn.elem d0 with
  |true=>rw[hb,zb]at h;cases h
  |false=>
   rw[hb,zc]at h;split at h
   ·injection h with h;injection h with h1 h;rw[h1]
   ·injection h with h;injection h with h1 h;rw[h1]
   ·cases h
 ·cases h
theorem z9M{rs:List Res}{q:Option Nat}{d:Nat}(h:dtnD rs q=some d):q=some d:=by
 unfold dtnD at h;split at h
 ·split at h
  ·cases h
  ·exact h
 ·cases h
theorem zHJ:∀(n:Nat){β:Type}(t:T P β)(kn:List Nat)(l:List Oper)(ms:List Nat)(n1:Nat)(css:List (List Cd))(s0:St)(rs:List Res)(K:T P β→St→OT),(goD P n t kn l ms n1 css s0 rs K).holds→
  ∀{ρ:Type}(k:β→Option ρ)(r:ρ),t.den k=some r→∀J:St→Prop,(∀t' s',(K t' s').holds→T.den t' k=some r→J s')→DL P l ms n1 css s0 rs J
 |0,_,_,_,_,_,_,_,_,_,_,h=>h.elim
 |n+1,β,t,kn,l,ms,n1,css,s0,rs,K,h=>by
  intro k r hd J hJ;unfold goD at h;split at h
  ·cases hd
  ·rename_i v f;have hd:sI v (fun y=>(f y).den k)=some r:=hd;rw[zI]at hd;exact zHJ n (f v) kn l ms n1 css s0 rs K h k r hd J hJ
  ·rename_i v f;exact zHJ n (f v) kn l ms n1 css s0 rs K h k r hd J hJ
  ·rename_i m f;obtain⟨y,_,h2⟩:=zD (show m.bind (fun y=>(f y).den k)=some r from hd);exact zHJ n (f y) kn l ms n1 css s0 rs K (h y) k r h2 J hJ
  ·rename_i t1 f;exact zHJ n (sqT t1 f) kn l ms n1 css s0 rs K h k r (by rw[zX0];exact hd) J hJ
  ·cases hbe:Nat.beq rs.length n1 with
   |true=>rw[hbe,zb]at h;exact z1h (Nat.eq_of_beq_eq_true hbe) (hJ _ _ h hd)
   |false=>
    rw[hbe,zc]at h;split at h
    ·rename_i o c ho hc;split at h
     ·rename_i d b t1 t2 hq;rw[zT2 hq k]at hd;obtain⟨ha,hb⟩:=zTw (β:=β) hd;have hg:=z9D ho (z9M (opn_q hq));cases b with
      |true=>exact EQ (v:=true) rfl (by rw[hg];exact zHJ n t1 _ l ms n1 css s0 _ K h.2.1 k r (ha rfl) J hJ) (by rw[hg];exact h.1)
      |false=>exact EQ (v:=false) rfl (by rw[hg];exact zHJ n t2 _ l ms n1 css s0 _ K h.2.2 k r (hb rfl) J hJ) (by rw[hg];exact h.1)
     ·have hd:(zQZ P t kn (dtnD rs (dslD l o))).1.den k=some r:=by rw[zPM];exact hd
      split at h;rename_i t2 kn2 hu;rw[hu]at hd;have hd:t2.den k=some r:=hd;split at h
      ·rename_i rs' hr;cases hw:wv (appC c (l.take n1) rs s0) o with
       |false=>rw[hw,zc]at hr;cases hr
       |true=>rw[hw,zb]at hr;exact z5S hr (zHJ n _ _ l ms n1 css s0 rs' K h k r hd J hJ)
      ·obtain⟨hg,h⟩:=h;split at h
       ·rename_i F t' hd;obtain⟨h3,h5,h6⟩:=h;rw[zj,zj]at h5;exact E0 rs.length ho hc (F.ok o _ h3) (zHJ n t' _ l ms n1 css s0 _ K h6 k r hd J hJ) rfl h5.1 hg h5.2.1 h5.2.2
       ·rename_i F t' hd;obtain⟨h3,h5,h6⟩:=h;rw[zj,zj,zj,zj]at h5;exact E1 rs.length ho hc (F.ok o _ h3) (zHJ n t' _ l ms n1 css s0 _ K h6 k r hd J hJ) rfl h5.1 hg h5.2.1 h5.2.2.1 h5.2.2.2.1 h5.2.2.2.2
       ·rename_i F f hd;obtain⟨y,h1,h2⟩:=zD (show F.m.bind (fun y=>(f y).den k)=some r from hd);obtain⟨h3,h4⟩:=h;obtain⟨h5,h6⟩:=h4 y;rw[zj,zj]at h5;exact E0 rs.length ho hc (F.ok o _ y h1 h3) (zHJ n (f y) _ l ms n1 css s0 _ K h6 k r h2 J hJ) rfl h5.1 hg h5.2.1 h5.2.2
       ·rename_i F f hd;obtain⟨y,h1,h2⟩:=zD (show F.m.bind (fun y=>(f y).den k)=some r from hd);obtain⟨h3,h4⟩:=h;obtain⟨h5,h6⟩:=h4 y;rw[zj,zj,zj,zj]at h5;exact E1 rs.length ho hc (F.ok o _ y h1 h3) (zHJ n (f y) _ l ms n1 css s0 _ K h6 k r h2 J hJ) rfl h5.1 hg h5.2.1 h5.2.2.1 h5.2.2.2.1 h5.2.2.2.2
       ·exact h.elim
    ·exact h.elim
theorem zXy{α ρ:Type}{m:List Bool}{ids:List Nat}{S:St→α→(Nat→Loc)→St}{s:St}{e:Exit}{t':T P α}{kn:List Nat}{s':St}(h:(mtK P m ids S s e t' kn s').holds){κ:α→Option ρ}{r:ρ}(hd:t'.den κ=some r):e=.normal∧∃a,s'.kp m ids=S s a s'.locs∧κ a=some r:=by
 unfold mtK at h;split at h
 ·rename_i a;exact⟨rfl,a,h.1,hd⟩
 ·exact h.elim
theorem z2s{c:Code}{s:St}{J' J:Exit→St→Prop}(h:V P c s J')(hJ:∀e s',J' e s'→J e s'∨∃s1,Le s1 s'∧J e s1):V P c s J:=by
 intro B w0 ok0 ok σ a w hR;refine wp_mono (h _ _ _ _ _ _ _ hR) ?_
 rintro e a' w' ⟨s',ok',σ',h1,hR'⟩;rcases hJ e s' h1 with h2|⟨s1,h2,h3⟩
 ·exact⟨s',ok',σ',h2,hR'⟩
 ·exact⟨s1,ok',σ',h3,hR'.le h2⟩
theorem zYs{β ρ:Type}(t:T P β)(k:β→Option ρ):(unpl P t).den k=t.den k:=by cases t<;>rfl
theorem z3x{β ρ:Type}(t:T P β)(k:β→Option ρ):(undn P t).den k=t.den k:=by cases t<;>rfl
theorem z19{β ρ:Type}{id:Nat}{K:Exit→T P β→List Nat→St→OT}{k:β→Option ρ}{r:ρ}{J:Exit→St→Prop}(hJ:∀e t' kn' s',(K e t' kn' s').holds→T.den t' k=some r→J e s'):
  ∀e t' kn' s',(bkK P id K e t' kn' s').holds→T.den t' k=some r→zGL id J e s':=fun e t' kn' s' hK ht'=>by
 unfold bkK at hK;split at hK
 ·rename_i i;simp only[zGL];cases hi:Nat.beq i id with
  |true=>rw[hi,zb]at hK;exact hJ _ _ _ _ hK ht'
  |false=>rw[hi,zc]at hK;exact hJ _ _ _ _ hK ht'
 ·rename_i hne;have:=hJ _ _ _ _ hK ht';cases e<;>first|exact absurd rfl (hne _)|exact this
theorem z5C{β ρ:Type}{g:T P β→St→(Exit→T P β→List Nat→St→OT)→OT}{c:Code}{k:β→Option ρ}{r:ρ}(hg:∀t s K,(g t s K).holds→t.den k=some r→∀J:Exit→St→Prop,(∀e t' kn' s',(K e t' kn' s').holds→T.den t' k=some r→J e s')→V P c s J):
  ∀(j:Nat)(t:T P β)(s:St)(K:Exit→T P β→List Nat→St→OT),(goR P g j t s K).holds→t.den k=some r→∀J:Exit→St→Prop,(∀e t' kn' s',(K e t' kn' s').holds→T.den t' k=some r→J e s')→VR P c j s J
 |0,_,_,_,h=>h.elim
 |j+1,t,s,K,h=>fun hd J hJ=>by
  refine VR_s (hg t s _ h hd _ fun e t' kn' s' hK ht'=>?_);split at hK
  ·exact z5C hg j t' s' K hK ht' J hJ
  ·rename_i hne;have:=hJ _ _ _ _ hK ht';cases e<;>first|exact absurd rfl hne|exact this
theorem zCA:∀(n:Nat){β:Type}(t:T P β)(kn:List Nat)(code:Code)(s:St)(K:Exit→T P β→List Nat→St→OT),(goV P n t kn code s K).holds→
  ∀{ρ:Type}(k:β→Option ρ)(r:ρ),t.den k=some r→∀J:Exit→St→Prop,(∀e t' kn' s',(K e t' kn' s').holds→T.den t' k=some r→J e s')→V P code s J
 |0,_,_,_,_,_,_,h=>h.elim
 |n+1,β,t,kn,code,s,K,h=>by
  intro k r hd J hJ;unfold goV at h;split at h
  ·cases hd
  ·rename_i H t';exact z6P h fun s' hs=>zCA n t' kn code s' K hs k r hd J hJ
  ·rename_i H t';exact z6P h fun s' hs=>zCA n t' kn code s' K hs k r hd J hJ
  ·rename_i v f;have hd:sI v (fun y=>(f y).den k)=some r:=hd;rw[zI]at hd;exact zCA n (f v) kn code s K h k r hd J hJ
  ·rename_i v f;exact zCA n (f v) kn code s K h k r hd J hJ
  ·rename_i m f;obtain⟨y,_,h2⟩:=zD (show m.bind (fun y=>(f y).den k)=some r from hd);exact zCA n (f y) kn code s K (h y) k r h2 J hJ
  ·rename_i t1 f;exact zCA n (sqT t1 f) kn code s K h k r (by rw[zX0];exact hd) J hJ
  ·-- ways that meet
   rename_i α t1 m ids S f;obtain⟨a,h1,h2⟩:=zD (show (t1.den some).bind (fun y=>(f y).den k)=some r from hd);split at h
   ·exact qM (zCA n _ kn _ s _ h k r hd _ (z19 hJ))
   ·rename_i x y;refine qB (zCA n t1 kn x s _ h.1 some a h1 _ fun e t' kn' s' hK ht'=>?_);obtain⟨he,a',hs,ha⟩:=zXy hK ht';subst he;injection ha with ha;subst ha;exact z0T m ids hs (zCA n (f a') [] y _ K (h.2 a' _) k r h2 J hJ)
   ·refine z2s (zCA n t1 kn _ s _ h.1 some a h1 (fun e s'=>e=.normal∧s'.kp m ids=S s a s'.locs) fun e t' kn' s' hK ht'=>?_) fun e s' hh=>?_
    ·obtain⟨he,a',hs,ha⟩:=zXy hK ht';injection ha with ha;subst ha;exact⟨he,hs⟩
    ·obtain⟨he,hs⟩:=hh;subst he;exact .inr ⟨_,zWf m ids s',by rw[hs];exact hJ _ _ _ _ (h.2 a _) h2⟩
  ·-- the same,the plain function goes on
   rename_i α t1 m ids S f;have h1:t1.den (fun y=>(f y).den k)=some r:=hd;split at h
   ·exact qM (zCA n _ kn _ s _ h k r hd _ (z19 hJ))
   ·rename_i x y;refine qB (zCA n t1 kn x s _ h.1 _ r h1 _ fun e t' kn' s' hK ht'=>?_);obtain⟨he,a',hs,ha⟩:=zXy hK ht';subst he;exact z0T m ids hs (zCA n (f a') [] y _ K (h.2 a' _) k r ha J hJ)
   ·refine z2s (zCA n t1 kn _ s _ h.1 _ r h1 (fun e s'=>e=.normal∧∃a,s'.kp m ids=S s a s'.locs∧(f a).den k=some r) fun e t' kn' s' hK ht'=>zXy hK ht') fun e s' hh=>?_
    obtain⟨he,a,hs,ha⟩:=hh;subst he;exact .inr ⟨_,zWf m ids s',by rw[hs];exact hJ _ _ _ _ (h.2 a _) ha⟩
  ·-- ways of which some return
   rename_i α γ t1 m ids S er f;obtain⟨q,h1,h2⟩:=zD (show (t1.den some).bind (fun q=>elS q (fun y=>(f y).den k) fun r=>k (er r))=some r from hd);split at h
   ·exact qM (zCA n _ kn _ s _ h k r hd _ (z19 hJ))
   ·rename_i x y;refine qB (zCA n t1 kn x s _ h.1 some q h1 _ fun e t' kn' s' hK ht'=>?_);unfold mtKS at hK;split at hK
    ·rename_i a';injection ht' with ht';subst ht';exact z0T m ids hK.1 (zCA n (f a') [] y _ K (h.2 a' _) k r h2 J hJ)
    ·rename_i r';injection ht' with ht';subst ht';exact hJ _ _ _ _ hK h2
    ·rename_i i r';injection ht' with ht';subst ht';exact hJ _ _ _ _ hK h2
    ·exact hK.elim
   ·exact h.elim
  ·split at h
   ·exact jC (hJ _ _ _ _ h (by rw[zYs];exact hd))
   ·exact zHN (hJ _ _ _ _ h hd)
   ·exact zCI (hJ _ _ _ _ h hd)
   ·exact z7m (hJ _ _ _ _ h hd)
   ·-- a choice
    rename_i c x y;split at h
    ·rename_i d b t1 t2 hq;rw[zT2 hq k]at hd;obtain⟨ha,hb⟩:=zTw (β:=β) hd;exact zQT h.1 (fun e=>zCA n t1 _ x _ K h.2.1 k r (ha e) J hJ) (fun e=>zCA n t2 _ y _ K h.2.2 k r (hb e) J hJ)
    ·have hd:(zQZ P t kn (opT c)).1.den k=some r:=by rw[zPM];exact hd
     split at h;rename_i t2 kn2 hu;rw[hu]at hd;have hd:t2.den k=some r:=hd;split at h
     ·rename_i hc;exact zQT hc (fun _=>zCA n t2 _ x s K h k r hd J hJ) (fun e=>by cases e)
     ·rename_i hc;exact zQT hc (fun e=>by cases e) (fun _=>zCA n t2 _ y s K h k r hd J hJ)
     ·exact h.elim
   ·-- one after the other
    rename_i x y;refine qB (zCA n _ kn x s _ h k r (by rw[z3x];exact hd) _ fun e t' kn' s' hK ht'=>?_);unfold nxK at hK;split at hK
    ·exact zCA n t' [] y s' K hK k r ht' J hJ
    ·rename_i hne;have:=hJ _ _ _ _ hK ht';cases e<;>first|exact absurd rfl hne|exact this
   ·-- operations in the text's order
    rename_i id ops;exact qX (zEG n _ [] ops ops.toList s _ h k r (by rw[zYs];exact hd) (J .normal) fun t' kn' s' hK ht'=>hJ _ _ _ _ hK ht')
   ·-- operations whose order is open
    rename_i id ops;have eo:ops.toList.toArray=ops:=by simp
    split at h
    ·obtain⟨hc,h⟩:=h;rw[zj]at hc;rw[←eo];refine z1g _ _ _ hc.1 (by simpa using hc.2) ?_
     simp only[eo]at h ⊢;refine zHJ n _ [] ops.toList _ _ _ _ [] _ h k r hd _ fun t'' s' hK ht''=>?_
     exact zEG n t'' [] ops _ s' _ hK k r ht'' (J .normal) fun t3 kn3 s3 hK3 ht3=>hJ _ _ _ _ hK3 ht3
    ·obtain⟨t'',ds,g1,g2,g3⟩:=zHq 100000 _ _ [] [] _ h (fun d hd=>by cases hd) k r hd;obtain⟨hc,h⟩:=g3;simp only[zj]at hc;obtain⟨tab,h1,h2⟩:=z2k _ _ h;split at h1
     ·rename_i s1 hs1;have:=z7n (id:=id) (J:=J) (s:=s) (Nat.le_of_ble_eq_true hc.2.2.1) hc.1 hc.2.1 g1 h1.1 hs1 h1.2 (h2 _ rfl (z4g hc.2.2.2)) fun s' hs=>hJ _ _ _ _ hs g2;rw[eo]at this;exact this
     ·exact h1.elim
    ·obtain⟨t'',ds,g1,g2,g3⟩:=zHq 100000 _ _ [] [] _ h (fun d hd=>by cases hd) k r hd;obtain⟨hc,h⟩:=g3;rw[zj]at hc;have:=z7o (id:=id) (J:=J) hc.1 hc.2 g1 h fun s' hs=>hJ _ _ _ _ hs g2;rw[eo]at this;exact this
    ·exact h.elim
   ·-- rounds,one by one
    split at h
    ·exact zFW _ (z5C (fun t s K hg hd J hJ=>zCA n t [] _ s K hg k r hd J hJ) _ _ s K h hd J hJ)
    ·exact h.elim
   ·-- a block
    rename_i id body;split at h
    ·rename_i c ι o L x m ids S bt mo ido So f _ _ _ _ _ _ _ _ _ _;obtain⟨y0,h1,h2⟩:=zD (show (L FU x).bind (fun y=>(f y).den k)=some r from hd);obtain⟨hL0,hLs,h0,hb,hf⟩:=h;refine qM (z2s (J':=fun e s'=>e=.exit id∧s'.kp mo ido=So s y0 s'.locs) ?_ fun e s' hh=>?_)
     ·refine zYi (fun n s'=>∃x' γ,s'.kp m ids=S s x' γ∧L n x'=some y0) FU ⟨x,s.locs,h0,h1⟩ ?_
      rintro n' s' ⟨x',γ,hs,hl⟩;cases n' with
      |zero=>rw[show L 0 x'=none from congrFun hL0 x']at hl;cases hl
      |succ n'=>
       rw[show L (n'+1) x'=(bt x').den (lk L n') from congrFun (congrFun hLs n') x']at hl;refine z0T m ids hs (zCA n (bt x') [] c _ _ (hb x' γ) _ y0 hl _ fun e t' kn' s2 hK ht'=>?_);unfold lpK at hK;split at hK
       ·rename_i x2;exact⟨n',Nat.lt_succ_self n',x2,_,hK.1,ht'⟩
       ·rename_i i y;cases hi:Nat.beq i id with
        |true=>rw[hi,zb]at hK;have:i=id:=Nat.eq_of_beq_eq_true hi;subst this;injection ht' with ht';subst ht';exact⟨rfl,hK.1⟩
        |false=>rw[hi,zc]at hK;exact hK.elim
       ·exact hK.elim
     ·obtain⟨he,hs⟩:=hh;subst he;refine .inr ⟨_,zWf mo ido s',?_⟩;simp only[zGL,Nat.beq_refl,zb];rw[hs];exact hJ _ _ _ _ (hf y0 _) h2
    ·rename_i c ι o γ' L x m ids S bt mo ido So er f _ _ _ _ _ _ _ _ _ _;obtain⟨q,h1,h2⟩:=zD (show (L FU x).bind (fun q=>elS q (fun y=>(f y).den k) fun r=>k (er r))=some r from hd);obtain⟨hL0,hLs,h0,hb,hf⟩:=h;refine qM (z2s (J':=fun e s'=>(∃y0,q=.inl y0∧e=.exit id∧s'.kp mo ido=So s y0 s'.locs)∨(∃r',q=.inr r'∧zGL id J e s')) ?_ fun e s' hh=>?_)
     ·refine zYi (fun n s'=>∃x' γ,s'.kp m ids=S s x' γ∧L n x'=some q) FU ⟨x,s.locs,h0,h1⟩ ?_
      rintro n' s' ⟨x',γ,hs,hl⟩;cases n' with
      |zero=>rw[show L 0 x'=none from congrFun hL0 x']at hl;cases hl
      |succ n'=>
       rw[show L (n'+1) x'=(bt x').den (lkS L n') from congrFun (congrFun hLs n') x']at hl;refine z0T m ids hs (zCA n (bt x') [] c _ _ (hb x' γ) _ q hl _ fun e t' kn' s2 hK ht'=>?_);unfold lpKS at hK;split at hK
       ·rename_i x2;exact⟨n',Nat.lt_succ_self n',x2,_,hK.1,ht'⟩
       ·rename_i i y;cases hi:Nat.beq i id with
        |true=>rw[hi,zb]at hK;have:i=id:=Nat.eq_of_beq_eq_true hi;subst this;injection ht' with ht';subst ht';exact .inl ⟨_,rfl,rfl,hK.1⟩
        |false=>rw[hi,zc]at hK;exact hK.elim
       ·rename_i r';injection ht' with ht';subst ht';exact .inr ⟨r',rfl,hJ _ _ _ _ hK h2⟩
       ·rename_i i r';injection ht' with ht';subst ht';cases hi:Nat.beq i id with
        |true=>rw[hi,zb]at hK;exact hK.elim
        |false=>rw[hi,zc]at hK;refine .inr ⟨r',rfl,?_⟩;simp only[zGL,hi,zc];exact hJ _ _ _ _ hK h2
       ·exact hK.elim
     ·rcases hh with⟨y0,hq,he,hs⟩|⟨r',_,hj⟩
      ·subst he hq;refine .inr ⟨_,zWf mo ido s',?_⟩;simp only[zGL,Nat.beq_refl,zb];rw[hs];exact hJ _ _ _ _ (hf y0 _) h2
      ·exact .inl hj
    ·refine qM (zCA n t kn _ s _ h k r hd _ fun e t' kn' s' hK ht'=>?_);unfold bkK at hK;split at hK
     ·rename_i i;simp only[zGL];cases hi:Nat.beq i id with
      |true=>rw[hi,zb]at hK;exact hJ _ _ _ _ hK ht'
      |false=>rw[hi,zc]at hK;exact hJ _ _ _ _ hK ht'
     ·rename_i hne;have:=hJ _ _ _ _ hK ht';cases e<;>first|exact absurd rfl (hne _)|exact this
   ·exact h.elim
end
section
variable {P:Program}
def KF{β:Type}(rs:List RS)(enc:β→AV×List (Nat×Ent)):Exit→T P β→List Nat→St→OT:=fun e t' _ s'=>match e,t' with
 | .normal,.ret y=>.eq (zEc (zII s' rs)&&okSL s' rs) true (.eq (zRr s' rs) (enc y) .ok)
 | .ret,.ret y=>.eq (zEc (zII s' rs)&&okSL s' rs) true (.eq (zRr s' rs) (enc y) .ok)
 |_,.fail=>.ok
 |_,_=>.bad
theorem z8W{β:Type}{rs:List RS}{enc:β→AV×List (Nat×Ent)}{e:Exit}{t':T P β}{kn:List Nat}{s':St}{r:β}(h:(KF rs enc e t' kn s').holds)(hd:t'.den some=some r):Post rs (enc r).1 (enc r).2 e s':=by
 unfold KF at h;split at h
 ·rename_i y;injection hd with hd;subst hd;obtain⟨h1,h2,_⟩:=h;rw[zj]at h1;exact⟨.inl rfl,h1.1,h1.2,h2⟩
 ·rename_i y;injection hd with hd;subst hd;obtain⟨h1,h2,_⟩:=h;rw[zj]at h1;exact⟨.inr rfl,h1.1,h1.2,h2⟩
 ·cases hd
 ·exact h.elim
def OF(P:Program){β:Type}(t:T P β)(o:Option β)(c:Code)(s:St)(rs:List RS)(enc:β→AV×List (Nat×Ent)):OT:=.eq o (t.den some) (goV P 100000 t [] c s (KF rs enc))
theorem CtT{β:Type}(t:T P β){f:FuncId}{fn:Func}{c:Code}{args:List AV}{o:Option β}{r:β}(enc:β→AV×List (Nat×Ent)){rs:List RS}{vs:List ResultVar}(hf:P.funcs[f]?=some fn)(hb:fn.body=some c)(hvs:fn.results=vs.toArray)(hfit:FitsL P rs vs)(h:o=some r)
  (hO:OF P t o c ⟨args++List.replicate (fn.ntmps - args.length) .bot,[]⟩ rs enc=(OF P t o c ⟨args++List.replicate (fn.ntmps - args.length) .bot,[]⟩ rs enc).rf:=by kernel_rfl) (hl:Nat.ble rs.length 8=true:=by kernel_rfl):zH P f args (enc r).1 (enc r).2:=by
 obtain⟨h1,h2⟩:=OT.of_rf _ hO;rw[h1]at h;exact zGk hf hb hvs hfit (Nat.le_of_ble_eq_true hl) fn.ntmps rfl (zCA 100000 t [] c _ _ h2 some r h _ fun e t' kn' s' hK ht=>z8W hK ht)
def fC{α:Type}{f:FuncId}(hcf:CfW P f)(m:Option α){args:List AV}{av:α→AV}{ne:α→List (Nat×Ent)}(hS:∀y,m=some y→zH P f args (av y) (ne y)):F1 P α where
 m:=m
 chk o s:=match o.op with
  | .call ⟨.value (.func g),xs,_⟩=>.eq (Nat.beq g f) true (.eq (evL s xs.toList) args .ok)
  |_=>.bad
 av _ _:=av
 ne _ _:=ne
 ok o s y hm h:=by
  split at h
  ·rename_i g xs ts ho;obtain⟨h1,h2,_⟩:=h;have hgf:=Nat.eq_of_beq_eq_true h1;subst hgf;exact zRz (hS y hm) hcf ho h2
  ·exact h.elim
def remF(k:IntKind)(a b:Int):F0 P Unit where
 m:=nz b
 chk o s:=match o.op with
  | .binOp .rem _ x y _=>.eq (s.ev x) (.c (.v (.int k a))) (.eq (s.ev y) (.c (.v (.int k b))) .ok)
  |_=>.bad
 av _ _ _:=.c (.v (.int k (Int.tmod a b)))
 ok o s y hm h:=by
  split at h
  ·rename_i ho;obtain⟨h1,h2,_⟩:=h;exact zAo ho h1 h2 (zO1 hm)
  ·exact h.elim
end
structure CT (α:Type) where
  c:α→List Tr
  sz:Nat
  hc:∀v,(c v).length=sz
section
variable (P:Program)
def zv2(s:St):Op→Option AV
 | .binOp op t x y _=>(match s.ev x,s.ev y with
  | .c (.v (.int k a)),.c (.v (.int k2 b))=>(match decEq k k2 with
   |isTrue _=>(match op with
    | .add=>some (.c (.v (.int k (k.wrap (a+b)))))
    | .sub=>some (.c (.v (.int k (k.wrap (a - b)))))
    | .mul=>some (.c (.v (.int k (k.wrap (a*b)))))
    | .and=>some (.c (.v (.int k (andI k a b))))
    | .or=>some (.c (.v (.int k (orI k a b))))
    | .xor=>some (.c (.v (.int k (xorI k a b))))
    |_=>none)
   |isFalse _=>none)
  | .c (.v (.string a)),.c (.v (.string b))=>(match op with
   | .lss=>some (.c (.v (.bool (Op.bytesLess a.toList b.toList))))
   | .geq=>some (.c (.v (.bool (!(Op.bytesLess a.toList b.toList)))))
   |_=>none)
  |_,_=>none)
 | .unOp .neg t x=>(match s.ev x with
  | .c (.v (.int k a))=>some (.c (.v (.int k (k.wrap (0 - a)))))
  |_=>none)
 | .convert src dst x=>(match P.underlying src,P.underlying dst,s.ev x with
  |some (.int k2),some (.int k),.c (.v (.int k3 a))=>(match decEq k3 k2 with
   |isTrue _=>some (.c (.v (.int k (k.wrap a))))
   |isFalse _=>none)
  |_,_,_=>none)
 | .call ⟨.builtin .max,⟨[x,y]⟩,_⟩=>(match s.ev x,s.ev y with
  | .c (.v (.int .i64 a)),.c (.v (.int .i64 b))=>some (I (mxI a b))
  |_,_=>none)
 | .call ⟨.builtin .min,⟨[x,y]⟩,_⟩=>(match s.ev x,s.ev y with
  | .c (.v (.int .i64 a)),.c (.v (.int .i64 b))=>some (I (mnI a b))
  |_,_=>none)
 | .nilCheck x=>(match (s.ev x).adv 0 with
  | .bot=>none
  |_=>some (s.ev x))
 |_=>none
end
section
variable {P:Program}
theorem z8X{o:Oper}{s:St}{av:AV}(h:zv2 P s o.op=some av):Y0 P o s av:=by
 unfold zv2 at h;split at h
 ·rename_i ho;split at h
  ·rename_i hx hy;split at h
   ·rename_i hk _;subst hk;split at h<;>first|(cases h;done)|skip
    ·cases h;exact z6F ho hx hy
    ·cases h;exact z5r ho hx hy
    ·cases h;exact z5w ho hx hy
    ·cases h;exact z9b ho hx hy
    ·cases h;exact Y0_or ho hx hy
    ·cases h;exact z9X ho hx hy
   ·cases h
  ·rename_i hx hy;split at h
   ·cases h;exact z95 ho hx hy
   ·cases h;exact z98 ho hx hy
   ·cases h
  ·cases h
 ·rename_i ho;split at h
  ·rename_i hx;cases h;exact z5u ho hx
  ·cases h
 ·rename_i ho;split at h
  ·rename_i hs hd hx;split at h
   ·rename_i hk _;subst hk;cases h;exact zYg hs hd ho hx
   ·cases h
  ·cases h
 ·rename_i ho;split at h
  ·rename_i hx hy;cases h;exact z94 ho hx hy
  ·cases h
 ·rename_i ho;split at h
  ·rename_i hx hy;cases h;exact z93 ho hx hy
  ·cases h
 ·rename_i ho;split at h
  ·cases h
  ·rename_i hb;cases h;exact E_nil _ ho rfl hb
 ·cases h
def au:N0 P where
 chk o s:=.eq (zv2 P s o.op).isSome true .ok
 av o s:=(zv2 P s o.op).getD .bot
 ok o s h:=by obtain⟨av,hv⟩:=Option.isSome_iff_exists.mp h.1;rw[hv];exact z8X hv
theorem z1P{b:Int}(h:eqI b 0=false):b≠0:=zO1 (u:=()) (by unfold nz;rw[h];rfl)
def dvN:N0 P where
 chk o s:=match o.op with
  | .binOp op _ x y _=>(match s.ev x,s.ev y with
   | .c (.v (.int k a)),.c (.v (.int k2 b))=>(match op with
    | .quo=>.eq k k2 (.eq (eqI b 0) false .ok)
    | .rem=>.eq k k2 (.eq (eqI b 0) false .ok)
    | .shr=>.eq (decide (b<0)) false .ok
    | .shl=>.eq (decide (b<0)) false .ok
    |_=>.bad)
   |_,_=>.bad)
  |_=>.bad
 av o s:=match o.op with
  | .binOp op _ x y _=>(match s.ev x,s.ev y with
   | .c (.v (.int k a)),.c (.v (.int k2 b))=>(match op with
    | .quo=>(match k with
     | .i64=>I (w64 (a.tdiv b))
     |k=>.c (.v (.int k (k.wrap (a.tdiv b)))))
    | .rem=>.c (.v (.int k (a.tmod b)))
    | .shr=>.c (.v (.int k (shrI k a b)))
    | .shl=>.c (.v (.int k (shlI k a b)))
    |_=>.bot)
   |_,_=>.bot)
  |_=>.bot
 ok o s h:=by
  split at h
  ·rename_i op t x y t2 ho
   try simp only[ho]
   split at h
   ·rename_i k a k2 b hx hy
    try simp only[hx,hy]
    split at h
    ·obtain⟨hk,h0,_⟩:=h;subst hk;split
     ·exact jI ho hx hy (z1P h0)
     ·exact z1c ho hx hy (z1P h0)
    ·obtain⟨hk,h0,_⟩:=h;subst hk;exact zAo ho hx hy (z1P h0)
    ·exact z9Y ho hx hy (by simpa using h.1)
    ·exact z9Z ho hx hy (by simpa using h.1)
    ·exact h.elim
   ·exact h.elim
  ·exact h.elim
def quoF(k:IntKind)(a b:Int):F0 P Unit where
 m:=nz b
 chk o s:=match o.op with
  | .binOp .quo _ x y _=>.eq (s.ev x) (.c (.v (.int k a))) (.eq (s.ev y) (.c (.v (.int k b))) .ok)
  |_=>.bad
 av _ _ _:=match k with
  | .i64=>I (w64 (a.tdiv b))
  |k=>.c (.v (.int k (k.wrap (a.tdiv b))))
 ok o s y hm h:=by
  split at h
  ·rename_i ho;obtain⟨h1,h2,_⟩:=h;split
   ·exact jI ho h1 h2 (zO1 hm)
   ·exact z1c ho h1 h2 (zO1 hm)
  ·exact h.elim
def bld{t0:TypeId}{z:Array Value}(place:Nat→Option (Nat×Nat))(hb:∀ps,P.built t0 ps=Instr.fill place z ps):N0 P where
 chk o s:=match o.op with
  | .build t parts=>.eq (Nat.beq t t0&&(zEd z&&(zQ5 place (z.toList.map Tr.v) (evP s parts.toList)).isSome)) true .ok
  |_=>.bad
 av o s:=match o.op with
  | .build t parts=>.ag ((zQ5 place (z.toList.map Tr.v) (evP s parts.toList)).getD [])
  |_=>.bot
 ok o s h:=by
  split at h
  ·rename_i t parts ho
   try simp only[ho]
   have h:=h.1;rw[zj,zj]at h;have ht:=Nat.eq_of_beq_eq_true h.1;subst ht;obtain⟨cs,hcs⟩:=Option.isSome_iff_exists.mp h.2.2;rw[hcs];exact zGQ place hb ho h.2.1 hcs
  ·exact h.elim
def eqg2{t0:TypeId}(h1:z6T P .eql t0):N0 P where
 chk o s:=match o.op with
  | .binOp .eql t x y _=>.eq t t0 (match s.ev x,s.ev y with
   | .ag [.v (.int .i64 a0),.v (.int .i64 a1)],.ag [.v (.int .i64 b0),.v (.int .i64 b1)]=>.ok
   |_,_=>.bad)
  |_=>.bad
 av o s:=match o.op with
  | .binOp .eql t x y _=>(match s.ev x,s.ev y with
   | .ag [.v (.int .i64 a0),.v (.int .i64 a1)],.ag [.v (.int .i64 b0),.v (.int .i64 b1)]=>Bo (((a0==b0)&&(a1==b1)))
   |_,_=>.bot)
  |_=>.bot
 ok o s h:=by
  split at h
  ·rename_i ho;obtain⟨ht,h⟩:=h;subst ht
   try simp only[ho]
   split at h
   ·rename_i hx hy;(try simp only[hx,hy]);exact z7e h1 ho hx hy
   ·exact h.elim
  ·exact h.elim
def eqg3{t0:TypeId}(h1:zXF P .eql t0):N0 P where
 chk o s:=match o.op with
  | .binOp .eql t x y _=>.eq t t0 (match s.ev x,s.ev y with
   | .ag [.v (.int .i64 a0),.v (.int .i64 a1),.v (.int .i64 a2)],.ag [.v (.int .i64 b0),.v (.int .i64 b1),.v (.int .i64 b2)]=>.ok
   |_,_=>.bad)
  |_=>.bad
 av o s:=match o.op with
  | .binOp .eql t x y _=>(match s.ev x,s.ev y with
   | .ag [.v (.int .i64 a0),.v (.int .i64 a1),.v (.int .i64 a2)],.ag [.v (.int .i64 b0),.v (.int .i64 b1),.v (.int .i64 b2)]=>Bo (((a0==b0)&&((a1==b1)&&(a2==b2))))
   |_,_=>.bot)
  |_=>.bot
 ok o s h:=by
  split at h
  ·rename_i ho;obtain⟨ht,h⟩:=h;subst ht
   try simp only[ho]
   split at h
   ·rename_i hx hy;(try simp only[hx,hy]);exact z7d h1 ho hx hy
   ·exact h.elim
  ·exact h.elim
def neg3{t0:TypeId}(h1:zXF P .neq t0):N0 P where
 chk o s:=match o.op with
  | .binOp .neq t x y _=>.eq t t0 (match s.ev x,s.ev y with
   | .ag [.v (.int .i64 a0),.v (.int .i64 a1),.v (.int .i64 a2)],.ag [.v (.int .i64 b0),.v (.int .i64 b1),.v (.int .i64 b2)]=>.ok
   |_,_=>.bad)
  |_=>.bad
 av o s:=match o.op with
  | .binOp .neq t x y _=>(match s.ev x,s.ev y with
   | .ag [.v (.int .i64 a0),.v (.int .i64 a1),.v (.int .i64 a2)],.ag [.v (.int .i64 b0),.v (.int .i64 b1),.v (.int .i64 b2)]=>Bo (!((a0==b0)&&((a1==b1)&&(a2==b2))))
   |_,_=>.bot)
  |_=>.bot
 ok o s h:=by
  split at h
  ·rename_i ho;obtain⟨ht,h⟩:=h;subst ht
   try simp only[ho]
   split at h
   ·rename_i hx hy;(try simp only[hx,hy]);exact z2o h1 ho hx hy
   ·exact h.elim
  ·exact h.elim
def lenM{α:Type}(d:CT α)(xs:List α):N0 P where
 chk o s:=match o.op with
  | .call ⟨.builtin .len,⟨[x]⟩,⟨[t]⟩⟩=>(match P.underlying t with
   |some (.slice _)=>.eq (zC3 s (s.ev x)) (some (xs.map d.c)) .ok
   |_=>.bad)
  |_=>.bad
 av _ _:=I (xs.length:Int)
 ok o s h:=by
  split at h
  ·rename_i ho;split at h
   ·rename_i hu;exact zOz hu ho h.1
   ·exact h.elim
  ·exact h.elim
def idxM{α:Type}(d:CT α)(xs:List α)(n:Int):F0 P α where
 m:=getI xs n
 chk o s:=match o.op with
  | .indexAddr t x ix=>(match P.underlying t with
   |some (.slice e)=>.eq ((P.info? e).map (·.size)) (some d.sz) (.eq (s.ev x) (.c (.sl (xs.map d.c))) (.eq (s.ev ix) (.c (.v (.int .i64 n))) .ok))
   |_=>.bad)
  |_=>.bad
 av _ _ y:=.pe (d.c y)
 ok o s y hm h:=by
  split at h
  ·rename_i ho;split at h
   ·rename_i hu;obtain⟨h1,h2,h3,_⟩:=h;exact q8 hu (by rw[h1,d.hc]) ho h2 h3 hm
   ·exact h.elim
  ·exact h.elim
def zBi{α:Type}(d:CT α)(xs:List α)(n:Int):F0 P α where
 m:=getI xs n
 chk o s:=match o.op with
  | .indexAddr t x ix=>(match P.underlying t,s.ev x with
   |some (.slice e),.ow id=>(match s.entc id with
    |some (.arr _ sz els)=>.eq ((P.info? e).map (·.size)) (some sz) (.eq els (xs.map d.c) (.eq (s.ev ix) (.c (.v (.int .i64 n))) .ok))
    |_=>.bad)
   |_,_=>.bad)
  |_=>.bad
 av o s _:=match o.op with
  | .indexAddr t x ix=>(match s.ev x with
   | .ow id=>(match s.entc id with
    |some (.arr _ sz _)=>.po id sz n.toNat 0
    |_=>.bot)
   |_=>.bot)
  |_=>.bot
 ok o s y hm h:=by
  split at h
  ·rename_i ho
   try simp only[ho]
   split at h
   ·rename_i hu hx
    try simp only[hx]
    split at h
    ·rename_i he;obtain⟨h1,h2,h3,_⟩:=h;subst h2
     try simp only[he]
     exact zUd hu h1 ho hx he h3 hm
    ·exact h.elim
   ·exact h.elim
  ·exact h.elim
def ldo{α:Type}(d:CT α)(xs:List α)(n:Int):F0 P α where
 m:=getI xs n
 chk o s:=match o.op with
  | .load t x=>(match P.underlying t,s.ev x with
   |some D,.po id sz i off=>(match s.entc id with
    |some (.arr _ sz2 els)=>.eq i n.toNat (.eq sz2 sz (.eq els (xs.map d.c) (bif aggD D then (match zFt P t with
     |some k=>.eq (Nat.ble (off+k) d.sz) true .ok
     |none=>.bad) else .eq (Nat.blt off d.sz) true .ok)))
    |_=>.bad)
   |_,_=>.bad)
  |_=>.bad
 av o s y:=match o.op with
  | .load t x=>(match P.underlying t,s.ev x with
   |some D,.po id sz i off=>bif aggD D then .ag (((d.c y).drop off).take ((zFt P t).getD 0)) else (match (d.c y).drop off with
    |c::_=>.c c
    |[]=>.bot)
   |_,_=>.bot)
  |_=>.bot
 ok o s y hm h:=by
  split at h
  ·rename_i ho
   try simp only[ho]
   split at h
   ·rename_i D id sz i off hu hx
    try simp only[hu,hx]
    split at h
    ·rename_i he;obtain⟨h1,h2,h3,h4⟩:=h;subst h1 h2 h3;have hlen:=d.hc y;cases hD:aggD D with
     |true=>
      rw[hD,zb]at h4;simp only[zb];split at h4
      ·rename_i k hk;rw[hk];exact z6V _ ⟨⟨D,hu,hD⟩,hk⟩ ho hx he hm (by rw[List.length_drop,hlen];have:=Nat.le_of_ble_eq_true h4.1;omega) rfl
      ·exact h4.elim
     |false=>
      rw[hD,zc]at h4;simp only[zc];split
      ·rename_i c cs hcs;exact zQR ⟨D,hu,hD⟩ ho hx he hm hcs
      ·rename_i hcs;have h5:Nat.blt off d.sz=true:=h4.1;have h6:=congrArg List.length hcs;rw[List.length_drop,hlen]at h6;have h7:=Nat.le_of_ble_eq_true h5;simp at h6;omega
    ·exact h.elim
   ·exact h.elim
  ·exact h.elim
def idxs(b:qe)(n:Int):F0 P Int where
 m:=getB b n
 chk o s:=match o.op with
  | .index t x i=>(match P.underlying t,s.ev i with
   |some .string,.c (.v (.int k n2))=>.eq (s.ev x) (.c (.v (.string b))) (.eq n2 n .ok)
   |_,_=>.bad)
  |_=>.bad
 av _ _ y:=.c (.v (.int .u8 y))
 ok o s y hm h:=by
  split at h
  ·rename_i ho;split at h
   ·rename_i hu hi;obtain⟨h1,h2,_⟩:=h;subst h2;exact zYe hu ho h1 hi hm
   ·exact h.elim
  ·exact h.elim
def cat(a b:qe):F0 P Unit where
 m:=catR a b
 chk o s:=match o.op with
  | .binOp .add _ x y _=>.eq (s.ev x) (.c (.v (.string a))) (.eq (s.ev y) (.c (.v (.string b))) .ok)
  |_=>.bad
 av _ _ _:=.c (.v (.string (a++b)))
 ok o s y hm h:=by
  split at h
  ·rename_i ho;exact z6D ho h.1 h.2.1 (zWw hm)
  ·exact h.elim
def bdO(s:St)(x:Option Operand)(l l0:Int):OT:=match x with
 |none=>.eq l l0 .ok
 |some y=>(match s.ev y with
  | .c (.v (.int _ a))=>.eq a l .ok
  |_=>.bad)
theorem zLh{s:St}{x:Option Operand}{l l0:Int}(h:(bdO s x l l0).holds):(∀y,x=some y→∃k,s.ev y=.c (.v (.int k l)))∧(x=none→l=l0):=by
 unfold bdO at h;split at h
 ·exact⟨fun y hy=>(by cases hy),fun _=>h.1⟩
 ·split at h
  ·rename_i k a ha;have h:=h.1;subst h;exact⟨fun y hy=>(by injection hy with hy;subst hy;exact⟨k,ha⟩),fun hh=>(by cases hh)⟩
  ·exact h.elim
def zHE(b:qe)(l h:Int):F0 P Unit where
 m:=slc b.size l h
 chk o s:=match o.op with
  | .slice t x lo hi none=>(match P.underlying t with
   |some .string=>.eq (s.ev x) (.c (.v (.string b))) (.and (bdO s lo l 0) (bdO s hi h (b.size:Int)))
   |_=>.bad)
  |_=>.bad
 av _ _ _:=.c (.v (.string (b.extract l.toNat h.toNat)))
 ok o s y hm hh:=by
  split at hh
  ·rename_i ho;split at hh
   ·rename_i hu;obtain⟨h1,h2,h3⟩:=hh;exact zXE hu ho h1 (zLh h2).1 (zLh h2).2 (zLh h3).1 (zLh h3).2 (zHb hm)
   ·exact hh.elim
  ·exact hh.elim
def slice{α:Type}(d:CT α)(xs:List α)(l h:Int):F0 P Unit where
 m:=slc xs.length l h
 chk o s:=match o.op with
  | .slice t x lo hi none=>(match P.underlying t with
   |some (.slice e)=>.eq ((P.info? e).map (·.size)) (some d.sz) (.eq (s.ev x) (.c (.sl (xs.map d.c))) (.and (bdO s lo l 0) (bdO s hi h (xs.length:Int))))
   |_=>.bad)
  |_=>.bad
 av _ _ _:=.c (.sl ((subl xs l h).map d.c))
 ok o s y hm hh:=by
  split at hh
  ·rename_i ho;split at hh
   ·rename_i hu;obtain⟨h0,h1,h2,h3⟩:=hh;exact zOy hu h0 d.hc ho h1 (zLh h2).1 (zLh h2).2 (zLh h3).1 (zLh h3).2 (zHb hm)
   ·exact hh.elim
  ·exact hh.elim
end
section
variable {P:Program}
def nilN(e sz:Nat)(hz:0<sz):N1 P where
 chk o _:=match o.op with
  | .assign (.const (.slice none 0 0))=>.ok
  | .move (.const (.slice none 0 0))=>.ok
  |_=>.bad
 av _ _:=.ow 0
 ne _ _:=[(0,.arr e sz [])]
 ok o s h:=by
  split at h
  ·rename_i ho;exact z1b sz hz (.inl ho)
  ·rename_i ho;exact z1b sz hz (.inr ho)
  ·exact h.elim
def bsl:N1 P where
 chk o s:=match o.op with
  | .buildSlice t n parts=>(match P.underlying t with
   |some (.slice e)=>(match P.info? e with
    |some i=>(match i.zero,zHm 0 (evP s parts.toList) with
     |some z,some els=>.eq (zEd z.cells&&(Nat.blt 0 i.size&&(Nat.beq els.length n&&(els.all (fun e=>Nat.beq e.length i.size)&&(Nat.ble (n*i.size) 16777216&&Nat.blt 0 n))))) true .ok
     |_,_=>.bad)
    |none=>.bad)
   |_=>.bad)
  |_=>.bad
 av _ _:=.ow 0
 ne o s:=match o.op with
  | .buildSlice t n parts=>(match P.underlying t with
   |some (.slice e)=>[(0,.arr e ((zFt P e).getD 0) ((zHm 0 (evP s parts.toList)).getD []))]
   |_=>[])
  |_=>[]
 ok o s h:=by
  split at h
  ·rename_i t n parts ho;split at h
   ·rename_i e hu;split at h
    ·rename_i i hi;split at h
     ·rename_i z els hz hp;have h:=h.1;simp only[zj]at h;obtain⟨h1,h2,h3,h4,h5,h6⟩:=h;have hn:=Nat.eq_of_beq_eq_true h3;simp only[hu,hp,zFt,hi,Option.map_some,Option.getD_some];refine zFk hu (by rw[hi];simp only[Option.map_some,hz]) h1 (Nat.le_of_ble_eq_true h2) ho hp hn (fun e he=>?_) (Nat.le_of_ble_eq_true h5) (Nat.le_of_ble_eq_true h6);exact Nat.eq_of_beq_eq_true (List.all_eq_true.mp h4 e he)
     ·exact h.elim
    ·exact h.elim
   ·exact h.elim
  ·exact h.elim
def bsl0:N1 P where
 chk o s:=match o.op with
  | .buildSlice t 0 ⟨[]⟩=>(match P.underlying t with
   |some (.slice e)=>(match P.info? e with
    |some i=>.eq (Nat.blt 0 i.size) true .ok
    |none=>.bad)
   |_=>.bad)
  |_=>.bad
 av _ _:=.ow 0
 ne o s:=match o.op with
  | .buildSlice t _ _=>(match P.underlying t with
   |some (.slice e)=>[(0,.arr e ((zFt P e).getD 0) [])]
   |_=>[])
  |_=>[]
 ok o s h:=by
  split at h
  ·rename_i t ho;split at h
   ·rename_i e hu;split at h
    ·rename_i i hi;simp only[ho,hu,zFt,hi,Option.map_some,Option.getD_some];exact zNf hu (by rw[hi];rfl) (Nat.le_of_ble_eq_true h.1) ho rfl
    ·exact h.elim
   ·exact h.elim
  ·exact h.elim
def mkF{α:Type}(d:CT α)(zx:α)(l k:Int):F1 P Unit where
 m:=mk l k
 chk o s:=match o.op with
  | .makeSlice t x y=>(match P.underlying t with
   |some (.slice e)=>(match P.info? e with
    |some i=>(match i.zero with
     |some z=>.eq (zEd z.cells&&(Nat.beq z.cells.size i.size&&(Nat.blt 0 i.size&&Nat.ble i.bytes 128))) true (.eq (z.cells.toList.map Tr.v) (d.c zx) (.eq (s.ev x) (.c (.v (.int .i64 l))) (.eq (s.ev y) (.c (.v (.int .i64 k))) .ok)))
     |none=>.bad)
    |none=>.bad)
   |_=>.bad)
  |_=>.bad
 av _ _ _:=.ow 0
 ne o _ _:=match o.op with
  | .makeSlice t x y=>(match P.underlying t with
   |some (.slice e)=>[(0,.arr e ((zFt P e).getD 0) ((List.replicate l.toNat zx).map d.c))]
   |_=>[])
  |_=>[]
 ok o s y hm h:=by
  split at h
  ·rename_i t x y ho;split at h
   ·rename_i e hu;split at h
    ·rename_i i hi;split at h
     ·rename_i z hz;obtain⟨h0,h1,h2,h3,_⟩:=h;simp only[zj]at h0;simp only[hu,zFt,hi,Option.map_some,Option.getD_some];exact z73 hu (by rw[hi];simp only[Option.map_some,hz]) h0.1 (Nat.eq_of_beq_eq_true h0.2.1) (Nat.le_of_ble_eq_true h0.2.2.1) h1 ho h2 h3 (z6o hm) (Nat.le_of_ble_eq_true h0.2.2.2)
     ·exact h.elim
    ·exact h.elim
   ·exact h.elim
  ·exact h.elim
def fCs{α:Type}{f:FuncId}(hcf:CfW P f)(m:Option α){args:List AV}{av:α→AV}{ne:α→List (Nat×Ent)}(hS:∀y,m=some y→zH P f args (av y) (ne y))(hfl:∀y,zZq (ne y)=true):F1 P α where
 m:=m
 chk o s:=match o.op with
  | .call ⟨.value (.func g),xs,_⟩=>.eq (Nat.beq g f) true (.eq (evS s xs.toList) args (.all fun y=>.eq (av y).flat true .ok))
  |_=>.bad
 av _ _:=av
 ne _ _:=ne
 ok o s y hm h:=by
  split at h
  ·rename_i g xs ts ho;obtain⟨h1,h2,h3⟩:=h;have hgf:=Nat.eq_of_beq_eq_true h1;subst hgf;exact z0P (hS y hm) hcf ho h2 (h3 y).1 (hfl y)
  ·exact h.elim
def app{α:Type}(d:CT α)(xs ys:List α):FX P Unit where
 m:=room (xs.length+ys.length)
 run o s _ K:=match o.op,o.dst with
  | .call ⟨.builtin .append,⟨[x,y]⟩,⟨[t,t2]⟩⟩,some k=>(match P.underlying t,s.ev x with
   |some (.slice e),.ow id=>(match s.ent id,P.info? e with
    |some (.arr e2 sz els),some i=>(match i.zero with
     |some z=>.eq t2 t (.eq e2 e (.eq sz d.sz (.eq i.size d.sz (.eq els (xs.map d.c) (.eq (zC3 s (s.ev y)) (some (ys.map d.c)) (.eq (Nat.beq z.cells.size d.sz&&Nat.ble i.bytes 128) true
       (K ⟨(zDy id s.T).set k (.ow id),setE id (.arr e d.sz ((xs++ys).map d.c)) s.E⟩)))))))
     |none=>.bad)
    |_,_=>.bad)
   |_,_=>.bad)
  |_,_=>.bad
 post _ o s _:=match o.op,o.dst with
  | .call ⟨_,⟨[x,_]⟩,_⟩,some k=>(match s.ev x with
   | .ow id=>(match s.ent id with
    |some (.arr e sz _)=>some ⟨(zDy id s.T).set k (.ow id),setE id (.arr e sz ((xs++ys).map d.c)) s.E⟩
    |_=>none)
   |_=>none)
  |_,_=>none
 ok o s K y hm h:=by
  split at h
  ·rename_i x y t t2 k ho hd;split at h
   ·rename_i e id hu hx;split at h
    ·rename_i e2 sz els i he hi;split at h
     ·rename_i z hz;obtain⟨h1,h2,h3,h4,h5,h6,h7,h8⟩:=h;subst h1 h2 h3 h5;rw[zj]at h7;exact zGj (z3k ho hd hu (by rw[hi];simp only[Option.map_some,hz,h4]) (Nat.eq_of_beq_eq_true h7.1) hx he h6 d.hc (zJG hm) (Nat.le_of_ble_eq_true h7.2)) h8
     ·exact h.elim
    ·exact h.elim
   ·exact h.elim
  ·exact h.elim
def sto{α:Type}(d:CT α)(xs:List α)(n:Int)(u:α→α):FX P α where
 m:=getI xs n
 run o s v K:=match o.op,o.dst with
  | .store t x y,none=>(match s.ev x,zDc (s.ev y) with
   | .po id sz i off,some vc=>(match s.ent id with
    |some (.arr T0 sz2 els)=>.eq i n.toNat (.eq sz2 sz (.eq els (xs.map d.c) (.eq ((P.info? t).map (·.size)) (some vc.length) (.eq (Nat.ble (off+vc.length) d.sz) true (.eq (splice (d.c v) off vc) (d.c (u v))
      (K ⟨s.T,setE id (.arr T0 sz ((xs.set n.toNat (u v)).map d.c)) s.E⟩))))))
    |_=>.bad)
   |_,_=>.bad)
  |_,_=>.bad
 ok o s K v hm h:=by
  split at h
  ·rename_i t x y ho hd;split at h
   ·rename_i id sz i off vc hx hy;split at h
    ·rename_i T0 sz2 els he;obtain⟨h1,h2,h3,h4,h5,h6⟩:=h;subst h1 h2 h3;obtain⟨h7,h8⟩:=h6;exact zGj (z3h ho hd hx he hm hy h4 (by rw[d.hc];exact Nat.le_of_ble_eq_true h5) h7) h8
    ·exact h.elim
   ·exact h.elim
  ·exact h.elim
def renC:List AV→List AV→List (Nat×Nat)
 | .pt a _::xs,.pt b _::ys=>(a,b)::renC xs ys
 | .ow a::xs,.ow b::ys=>(a,b)::renC xs ys
 |_::xs,_::ys=>renC xs ys
 |_,_=>[]
def mOT(m:List (Nat×Nat))(s:St):List (Nat×Ent)→OT→OT
 |[],k=>k
 |p::ps,k=>.eq (s.entc (renI m p.1)) (some p.2) (mOT m s ps k)
theorem z4m{m:List (Nat×Nat)}{s:St}:∀{E:List (Nat×Ent)}{k:OT},(mOT m s E k).holds→zNV m s E∧k.holds
 |[],_,h=>⟨trivial,h⟩
 |(k,e)::ps,_,h=>by obtain⟨h1,h2⟩:=h;obtain⟨h3,h4⟩:=z4m h2;exact⟨⟨h1,h3⟩,h4⟩
def fR{α:Type}{f:FuncId}(hcf:CfW P f)(m:Option α){args:List AV}{E0:List (Nat×Ent)}{av:α→AV}{ne E1:α→List (Nat×Ent)}(hS:∀y,m=some y→zES P f args E0 (av y) (ne y) (E1 y)):FX P α where
 m:=m
 run o s y K:=match o.op with
  | .call ⟨.value (.func g),xs,_⟩=>.eq (Nat.beq g f) true (.eq (evL s xs.toList) (renL (renC args (evL s xs.toList)) args) (.eq (zT4 args&&(zZS (renC args (evL s xs.toList)) E0&&zHo E0)) true (mOT (renC args (evL s xs.toList)) s E0
    (.eq (zEY (E1 y)) (zEY E0) (.eq (zHo (E1 y)) true (match o.dst with
     |some d=>K ((St.mk s.T (updE (renC args (evL s xs.toList)) s.E (E1 y))).upd d (av y) (ne y))
     |none=>K (St.mk s.T (updE (renC args (evL s xs.toList)) s.E (E1 y)))))))))
  |_=>.bad
 post _ o s y:=match o.op with
  | .call ⟨_,xs,_⟩=>(match o.dst with
   |some d=>some ((St.mk s.T (updE (renC args (evL s xs.toList)) s.E (E1 y))).upd d (av y) (ne y))
   |none=>some (St.mk s.T (updE (renC args (evL s xs.toList)) s.E (E1 y))))
  |_=>none
 ok o s K y hm h:=by
  split at h
  ·rename_i g xs ts ho;obtain⟨h1,h2,h3,h4⟩:=h;have hgf:=Nat.eq_of_beq_eq_true h1;subst hgf;simp only[zj]at h3;obtain⟨h5,h6⟩:=z4m h4;obtain⟨h7,h8,h9⟩:=h6;split at h9
   ·rename_i d hd;exact zGj (z7f _ d (hS y hm) hcf ho hd h2 h3.1 h5 h7 h3.2.1 h8 h3.2.2 rfl) h9
   ·rename_i hd;exact zGj (z6J _ (hS y hm) hcf ho hd h2 h3.1 h5 h7 h3.2.1 h8 h3.2.2 rfl) h9
  ·exact h.elim
def frzH(id:Nat):HT where
 run s K:=match s.ent id with
  |some (.arr _ _ els)=>K (s.frz id els)
  |_=>.bad
 ok s K h B w0 ok0 ok σ a w hR:=by
  split at h
  ·rename_i he;exact⟨_,_,_,h,z8U hR id he⟩
  ·exact h.elim
def b2s(d:CT Int)(hd:∀v,d.c v=[.v (.int .u8 v)])(xs:List Int):N0 P where
 chk o s:=match o.op with
  | .convert src dst x=>(match P.underlying src,P.underlying dst with
   |some (.slice e),some .string=>(match P.underlying e with
    |some (.int .u8)=>.eq (zC3 s (s.ev x)) (some (xs.map d.c)) .ok
    |_=>.bad)
   |_,_=>.bad)
  |_=>.bad
 av _ _:=.c (.v (.string (zCj xs)))
 ok o s h:=by
  split at h
  ·rename_i ho;split at h
   ·rename_i hs hdd;split at h
    ·rename_i he;exact z1d hd xs hs he hdd ho h.1
    ·exact h.elim
   ·exact h.elim
  ·exact h.elim
def hOT(s:St):List (Nat×Ent)→OT
 |[]=>.ok
 |p::ps=>.eq (s.ent p.1) (some p.2) (hOT s ps)
theorem z4z{s:St}:∀{E:List (Nat×Ent)},(hOT s E).holds→HasE s E
 |[],_=>trivial
 |(k,e)::ps,h=>⟨h.1,z4z h.2⟩
def KR{β:Type}(rs:List RS)(enc:β→AV×List (Nat×Ent))(E1:β→List (Nat×Ent))(σ:Nat→Loc):Exit→T P β→List Nat→St→OT:=fun e t' kn s'=>.and (KF rs enc e t' kn s') (match t' with
 | .ret y=>hOT s' (pinE σ (E1 y))
 |_=>.bad)
def OR(P:Program){β:Type}(t:T P β)(o:Option β)(c:Code)(s:(Nat→Loc)→St)(rs:List RS)(enc:β→AV×List (Nat×Ent))(E1:β→List (Nat×Ent)):OT:=.eq o (t.den some) (.and (.all fun y=>.eq (zHo (E1 y)) true .ok) (.all fun σ=>goV P 100000 t [] c (s σ) (KR rs enc E1 σ)))
theorem CrT{β:Type}(t:T P β){f:FuncId}{fn:Func}{c:Code}{args:List AV}{E0:List (Nat×Ent)}{o:Option β}{r:β}(enc:β→AV×List (Nat×Ent))(E1:β→List (Nat×Ent)){rs:List RS}{vs:List ResultVar}(hf:P.funcs[f]?=some fn)(hb:fn.body=some c)(hvs:fn.results=vs.toArray)(hfit:FitsL P rs vs)(h:o=some r)
  (hO:OR P t o c (fun σ=>⟨args++List.replicate (fn.ntmps - args.length) .bot,pinE σ E0⟩) rs enc E1=(OR P t o c (fun σ=>⟨args++List.replicate (fn.ntmps - args.length) .bot,pinE σ E0⟩) rs enc E1).rf:=by kernel_rfl) (hl:Nat.ble rs.length 8=true:=by kernel_rfl):zES P f args E0 (enc r).1 (enc r).2 (E1 r):=by
 obtain⟨h1,h2,h3⟩:=OT.of_rf _ hO;rw[h1]at h;refine zMq hf hb hvs hfit (Nat.le_of_ble_eq_true hl) fn.ntmps rfl (h2 r).1 fun σ=>zCA 100000 t [] c _ _ (h3 σ) some r h _ fun e t' kn' s' hK ht=>?_
 refine⟨z8W hK.1 ht,?_⟩;have hK:=hK.2;split at hK
 ·injection ht with ht;subst ht;exact z4z hK
 ·exact hK.elim
end
section
variable {P:Program}
def pinH(t k:Nat):HT where
 run s K:=match s.get t,s.ent k with
  | .ow k',some (.arr T sz els)=>.eq k' k (.all fun l:Loc=>K ⟨s.T.set t (.c (.v (zG l))),setE k (.qarr l T sz els) s.E⟩)
  |_,_=>.bad
 ok s K h B w0 ok0 ok σ a w hR:=by
  split at h
  ·rename_i k' T sz els ht hk;obtain⟨rfl,h⟩:=h;have h1:=hR.core.tmp t;rw[ht]at h1;have h2:a.tmps.getD t undef=zG (σ k'):=h1;refine⟨_,ok,σ,h (σ k'),zKI hR hk (fun h=>⟨rfl,h⟩) rfl ?_⟩;rw[h2];exact Rd.v _ rfl
  ·exact h.elim
def z00(t k:Nat):HT where
 run s K:=match s.get t,s.ent k with
  | .c (.v x),some (.qarr l T sz els)=>.eq x (zG l) (K ⟨s.T.set t (.ow k),setE k (.arr T sz els) s.E⟩)
  |_,_=>.bad
 post s:=match s.ent k with
  |some (.qarr _ T sz els)=>some ⟨s.T.set t (.ow k),setE k (.arr T sz els) s.E⟩
  |_=>none
 ok s K h B w0 ok0 ok σ a w hR:=by
  split at h
  ·rename_i x l T sz els ht hk;obtain⟨rfl,h⟩:=h;refine⟨_,ok,σ,h,zKI hR hk (fun h=>h.2) rfl ?_⟩;have h1:=hR.core.tmp t;rw[ht]at h1;have h2:Rd ok w (.v (zG l)) (a.tmps.getD t undef):=h1;have h3:=(hR.core.ent k _ hk).1;show _=zG (σ k);rw[h3];generalize a.tmps.getD t undef=y at h2;cases h2;rfl
  ·exact h.elim
def nilH(k T sz:Nat):HT where
 run s K:=.eq (s.ent k) none (.eq (Nat.blt 0 sz) true (K ⟨zDy k s.T,(k,.qarr loc0 T sz [])::s.E⟩))
 ok s K h B w0 ok0 ok σ a w hR:=by obtain⟨h1,h2,h3⟩:=h;exact⟨_,ok,_,h3,z0U hR k T sz h1 (Nat.le_of_ble_eq_true h2)⟩
def z5G(k id2 j:Nat):HT where
 run s K:=match s.ent k,s.ent id2 with
  |some (.qarr l _ _ els),some (.box cs)=>(match cs[j]? with
   |some (.v x)=>.eq x (zG l) (K ⟨s.T,setE id2 (.box (cs.set j (.sl els))) (rmE k s.E)⟩)
   |_=>.bad)
  |_,_=>.bad
 ok s K h B w0 ok0 ok σ a w hR:=by
  split at h
  ·rename_i l T sz els cs hk h2;split at h
   ·rename_i x hj;obtain⟨rfl,h⟩:=h;exact⟨_,_,σ,h,z6R hR k id2 j hk h2 hj⟩
   ·exact h.elim
  ·exact h.elim
def z0z(id j:Nat):HT where
 run s K:=match s.ent id with
  |some (.box cs)=>(match cs[j]? with
   |some (.v (.slice none 0 0))=>K ⟨s.T,setE id (.box (cs.set j (.sl []))) s.E⟩
   |_=>.bad)
  |_=>.bad
 ok s K h B w0 ok0 ok σ a w hR:=by
  split at h
  ·rename_i cs he;split at h
   ·rename_i hj;have e0:s.T.set s.T.length .bot=s.T:=List.set_eq_of_length_le (Nat.le_refl _);have hR1:=zKI (t:=s.T.length) (av:=.bot) hR he (e':=.box (cs.set j (.sl []))) (fun h=>by
     obtain⟨g,arr,T',g1,g2,g3⟩:=h;refine⟨g,arr,T',g1,g2,?_⟩;obtain⟨u,hu1,hu2⟩:=g3.get j _ hj;have huv:u=.slice none 0 0:=by cases hu2;rfl
     subst huv;have hset:=g3.set j (Rd.nl (ok:=ok) (w:=w) none 0);have:arr.toList.set j (.slice none 0 0)=arr.toList:=by
      apply List.ext_getElem?;intro q;rw[List.getElem?_set];split
      ·rename_i hq;subst hq;split
       ·exact hu1.symm
       ·rename_i hlt;rw[List.getElem?_eq_none (by omega)]
      ·rfl
     rwa [this]at hset) rfl trivial
    rw[e0]at hR1;exact⟨_,ok,σ,h,hR1⟩
   ·exact h.elim
  ·exact h.elim
end
section
variable {P:Program}
theorem z6Q{B:Fr}{w0:World}{ok0 ok:Nat→Prop}{σ:Nat→Loc}{s:St}{a:Act}{w:World}(hR:R B w0 ok0 ok σ s a w){id e sz n:Nat}{els:List (List Tr)}(he:s.ent id=some (.arr e sz els))(hn:n≤els.length):
  R B w0 ok0 ok (fun j=>if j=id then ⟨(σ id).blk,n,(σ id).cap⟩ else σ j) ⟨zDy id s.T,setE id (.arr e sz (els.take n)) s.E⟩ a w:=by
 obtain⟨h0,hln,hs,vs,hown,hrd⟩:=hR.core.ent id _ he;have look:=zDf id (.arr e sz (els.take n)) s.E _ he;have lk:∀j f,(St.mk (zDy id s.T) (setE id (.arr e sz (els.take n)) s.E)).ent j=some f→(j=id∧f=.arr e sz (els.take n))∨(j≠id∧s.ent j=some f):=by
  intro j f hj;have h7:(setE id (.arr e sz (els.take n)) s.E).lookup j=some f:=hj;rw[look]at h7;by_cases hji:j=id
  ·rw[if_pos hji]at h7;exact .inl ⟨hji,by simpa using h7.symm⟩
  ·rw[if_neg hji]at h7;exact .inr ⟨hji,h7⟩
 refine⟨⟨by simpa [zG3] using hR.core.len,hR.core.okL,hR.core.lib,fun t=>?_,fun i f hi=>?_,fun i f g hi hg=>?_,fun i i2 f f2 g hi hi2 h1 h2=>?_⟩,hR.defers,hR.below,hR.base,hR.old,hR.fresh,fun i f g hi hg=>?_⟩
 ·have e0:(St.mk (zDy id s.T) (setE id (.arr e sz (els.take n)) s.E)).get t=(bif (s.get t).mid id then AV.bot else s.get t):=by
   unfold St.get;exact zJJ id s.T t
  rw[e0];cases hmm:(s.get t).mid id with
  |true=>trivial
  |false=>exact (hR.core.tmp t).mid id (fun _ h=>h) (fun _ _=>rfl) hmm (fun j hj=>by simp[hj])
 ·rcases lk i f hi with⟨rfl,rfl⟩|⟨h1,h2⟩
  ·simp only[if_true];refine⟨h0,by simp;omega,fun el hel=>hs el (List.mem_of_mem_take hel),vs.take (n*sz),⟨?_,?_⟩,?_⟩
   ·have hl:=hown.1;rw[List.length_take,List.length_take,hl,Nat.min_eq_left hn,Nat.min_eq_left (Nat.mul_le_mul_right _ hn)]
   ·rcases hown.2 with⟨h5,h6⟩|⟨g,cap,cur,h5,h6,h7,h8,h9,h10,h11⟩
    ·left;unfold zG at h5 ⊢;injection h5 with q1 q2 q3;refine⟨?_,by rw[List.length_take];omega⟩;simp only[q1,q3];rw[show n=0 by omega]
    ·right;unfold zG at h5 ⊢;injection h5 with q1 q2 q3;refine⟨g,cap,cur,?_,h6,h7,by rw[List.length_take];omega,h9,h10,?_⟩
     ·simp only[q1,q3,List.length_take,Nat.min_eq_left hn]
     ·rw[List.length_take,Nat.min_eq_left hn,←h11,List.take_take,Nat.min_eq_left (Nat.mul_le_mul_right _ hn)]
   ·have e1:(els.take n).flatten=els.flatten.take (n*sz):=by
     have:=zEw (els.take n) sz (fun el hel=>hs el (List.mem_of_mem_take hel));rw[List.length_take,Nat.min_eq_left hn]at this;have e2:els.flatten=(els.take n).flatten++(els.drop n).flatten:=by rw[←List.flatten_append,List.take_append_drop]
     rw[e2,List.take_left' this]
    rw[e1];exact hrd.take _
  ·simp only[if_neg h1];exact hR.core.ent i f h2
 ·rcases lk i f hi with⟨rfl,rfl⟩|⟨h1,h2⟩
  ·simp only[if_true]at hg;exact hR.core.blk _ _ _ he hg
  ·simp only[if_neg h1]at hg;exact hR.core.blk _ _ _ h2 hg
 ·rcases lk i f hi with⟨a1,_⟩|⟨a1,a2⟩<;>rcases lk i2 f2 hi2 with⟨b1,_⟩|⟨b1,b2⟩
  ·rw[a1,b1]
  ·simp only[a1,if_true]at h1;simp only[if_neg b1]at h2;rw[a1];exact hR.core.inj _ _ _ _ _ he b2 h1 h2
  ·simp only[b1,if_true]at h2;simp only[if_neg a1]at h1;rw[b1];exact hR.core.inj _ _ _ _ _ a2 he h1 h2
  ·simp only[if_neg a1]at h1;simp only[if_neg b1]at h2;exact hR.core.inj _ _ _ _ _ a2 b2 h1 h2
 ·rcases lk i f hi with⟨rfl,rfl⟩|⟨h1,h2⟩
  ·simp only[if_true]at hg;have h7:=hR.own _ _ _ he hg;rw[if_neg (fun hc=>by cases hc)]at h7 ⊢;exact h7
  ·simp only[if_neg h1]at hg;exact hR.own _ _ _ h2 hg
theorem z6I{o:Oper}{s:St}{x y:Operand}{t e d id sz:Nat}{n:Int}{els:List (List Tr)}(ht:P.underlying t=some (.slice e))(hsz:(P.info? e).map (·.size)=some sz)(ho:o.op=.slice t x none (some y) none)(hd:o.dst=some d)
  (hx:s.ev x=.ow id) (he:s.ent id=some (.arr e sz els)) (hy:s.ev y=I n) (hn:0≤n∧n≤(els.length:Int)):X P o s ⟨(zDy id s.T).set d (.ow id),setE id (.arr e sz (els.take n.toNat)) s.E⟩:=by
 intro B w0 ok0 ok σ a w hR K Q hK;have h3:=hR.core.ev x;rw[hx]at h3;have h4:a.eval x=zG (σ id):=h3;have h5:a.eval y=.int .i64 n:=hR.core.exact hy;obtain⟨h0,hln,hs,vs,hown,hrd⟩:=hR.core.ent id _ he;have hle:(σ id).n≤(σ id).cap:=by
  rcases hown.2 with⟨hv,hv0⟩|⟨g,cap,cur,hv,_,_,hnc,_⟩
  ·omega
  ·unfold zG at hv;injection hv with _ q1 q2;omega
 have hbounds:∀w,(Instr.sliceBounds true (σ id).n (σ id).cap none (some (.int .i64 n)) none).run P w=.ok (0,n.toNat,(σ id).cap) w:=by intro w;unfold Instr.sliceBounds;simp only[Sem.run_bind,Sem.run_pure,Result.andThen_ok,zJF (P:=P) (k:=.i64) (n:=n) (y:=(σ id).cap) (by omega) (by omega)]
 cases hii:P.info? e with
 |none=>rw[hii]at hsz;cases hsz
 |some i=>
  have hi2:i.size=sz:=by rw[hii]at hsz;simpa using hsz
  have hR2:=z6Q hR he (n:=n.toNat) (by omega);have hrun:(execOp a.eval o).run P w=.ok (.value (zG ⟨(σ id).blk,n.toNat,(σ id).cap⟩)) w:=by unfold execOp;rw[ho];unfold zG at h4 ⊢;cases hb:(σ id).blk<;>rw[hb]at h4<;>simp[h4,h5,Instr.sliceAt,Instr.slice,run_underlying ht,hbounds,sizeOf,typeInfo,hii,hi2,Addr.add]
  unfold Oper.wp;rw[hrun];have h6:=hR2.put (d:=d) (av:=.ow id) (v:=zG ⟨(σ id).blk,n.toNat,(σ id).cap⟩) (by show _=zG _;simp);simp only[Oper.upon,hd];exact hK _ _ _ _ h6
theorem z3i{α:Type}{c:α→List Tr}{xs:List α}{o:Oper}{s:St}{x y:Operand}{t e d id sz:Nat}{n:Int}(ht:P.underlying t=some (.slice e))(hsz:(P.info? e).map (·.size)=some sz)(ho:o.op=.slice t x none (some y) none)(hd:o.dst=some d)
  (hx:s.ev x=.ow id) (he:s.ent id=some (.arr e sz (xs.map c))) (hy:s.ev y=I n) (hn:slc xs.length 0 n=some ()):X P o s ⟨(zDy id s.T).set d (.ow id),setE id (.arr e sz ((subl xs 0 n).map c)) s.E⟩:=by
 have h:=zHb hn;have e1:(subl xs 0 n).map c=(xs.map c).take n.toNat:=by unfold subl;rw[show Int.toNat 0=0 from rfl,List.drop_zero,Nat.sub_zero,List.map_take]
 rw[e1];exact z6I ht hsz ho hd hx he hy (by rw[List.length_map];omega)
end
def tbF{α:Type}(f:Nat→α):Nat→Nat→List α
 |0,_=>[]
 |n+1,k=>f k::tbF f n (k+1)
def tab{α:Type}(n:Nat)(f:Nat→α):List α:=tbF f n 0
section
variable {P:Program}
def shr{α:Type}(d:CT α)(xs:List α)(n:Int):FX P Unit where
 m:=slc xs.length 0 n
 run o s _ K:=match o.op,o.dst with
  | .slice t x none (some y) none,some k=>(match P.underlying t,s.ev x with
   |some (.slice e),.ow id=>(match s.ent id with
    |some (.arr e2 sz els)=>.eq e2 e (.eq sz d.sz (.eq (zFt P e) (some d.sz) (.eq els (xs.map d.c) (.eq (s.ev y) (.c (.v (.int .i64 n))) (K ⟨(zDy id s.T).set k (.ow id),setE id (.arr e d.sz ((subl xs 0 n).map d.c)) s.E⟩)))))
    |_=>.bad)
   |_,_=>.bad)
  |_,_=>.bad
 post _ o s _:=match o.op,o.dst with
  | .slice _ x _ _ _,some k=>(match s.ev x with
   | .ow id=>(match s.ent id with
    |some (.arr e sz _)=>some ⟨(zDy id s.T).set k (.ow id),setE id (.arr e sz ((subl xs 0 n).map d.c)) s.E⟩
    |_=>none)
   |_=>none)
  |_,_=>none
 ok o s K y hm h:=by
  split at h
  ·rename_i t x y k ho hd;split at h
   ·rename_i e id hu hx;split at h
    ·rename_i e2 sz els he;obtain⟨rfl,rfl,h3,rfl,h5,h6⟩:=h;exact zGj (z3i hu h3 ho hd hx he h5 hm) h6
    ·exact h.elim
   ·exact h.elim
  ·exact h.elim
end
end Go.Proofs.YtnjhhbcccgbbnaaGreatDoor
