/-
  Rules of walks, plain functions and their laws, part 2.
  Conditions: none.
-/
import Derived.Lib.ItoaNum
import Derived.Lib.Join
import Derived.Laws.BytesString
import Derived.Laws.Strings2
import Derived.Laws.Slices
import Derived.MapKept
import GoSem.Core.Utf8
import Derived.Test.YtdedjieegpkabaaGreatGt1
set_option linter.unusedSimpArgs false
set_option linter.unusedVariables false
namespace Go.Proofs.YtdedjieegpkabaaGreat
open Go.RowKit
section
variable {P:Program}
def zRU(id:Nat)(cs:List Tr):AV→AV
 | .ow k=>bif k==id then .bot else .ow k
 | .pt k o=>bif k==id then .pe (cs.drop o) else .pt k o
 | .po k z i o=>bif k==id then .bot else .po k z i o
 | .tc _ _=>.bot
 |av=>av
def St.frzB(s:St)(id:Nat)(cs:List Tr):St:=⟨s.T.map (zRU id cs),rmE id s.E⟩
theorem zVD(s:St)(id:Nat)(cs:List Tr)(t:Nat):(s.frzB id cs).get t=zRU id cs (s.get t):=by unfold St.frzB St.get;simp only[List.getElem?_map];cases s.T[t]?<;>rfl
theorem zHK(s:St)(id:Nat)(cs:List Tr)(j:Nat)(e:Ent)(h:(s.frzB id cs).ent j=some e):j≠id∧s.ent j=some e:=by
 have h2:(rmE id s.E).lookup j=some e:=h;rw[zB1]at h2;split at h2
 ·cases h2
 ·rename_i hne;exact⟨hne,h2⟩
theorem zZL{B:Fr}{w0:World}{ok0 ok:Nat→Prop}{σ:Nat→Loc}{s:St}{a:Act}{w:World}(hR:R B w0 ok0 ok σ s a w)(id:Nat){cs:List Tr}(he:s.ent id=some (.box cs)):R B w0 ok0 (fun g=>ok g∨(σ id).blk=some g) σ (s.frzB id cs) a w:=by
 have hup:∀g,ok g→ok g∨(σ id).blk=some g:=fun g hg=>.inl hg;refine⟨⟨by simpa [St.frzB] using hR.core.len,fun g hg=>?_,hR.core.lib.mono hup (fun _ _=>rfl),fun t=>?_,fun j e hj=>?_,fun j e g hj hg=>?_,fun i j e f g hi hj h1 h2=>?_⟩,hR.defers,hR.below,hR.base,fun g hg=>.inl (hR.old g hg),fun g hg=>?_,fun j e g hj hg=>hR.own j e g (zHK s id cs j e hj).2 hg⟩
 ·rcases hg with hg|hg
  ·exact hR.core.okL g hg
  ·exact (hR.core.blk id _ g he hg).2
 ·rw[zVD];have h1:=hR.core.tmp t;generalize s.get t=av at h1;have same:Rel (fun g=>ok g∨(σ id).blk=some g) σ w av (a.tmps.getD t undef):=h1.mono0 hup fun _ _=>rfl;cases av with
  |ow k=>
   simp only[zRU];cases k==id with
   |false=>exact same
   |true=>exact trivial
  |pt k o=>
   simp only[zRU];cases hk:k==id with
   |false=>exact same
   |true=>
    have e1:k=id:=by simpa using hk
    subst e1;have hle:Le ⟨s.T,[(k,.box cs)]⟩ s:=⟨Nat.le_refl _,fun t=>.inr rfl,fun j e hj=>by
     unfold St.ent at hj;simp only[List.lookup]at hj;split at hj
     ·rename_i hjk;have:j=k:=by simpa using hjk
      subst this;injection hj with hj;subst hj;exact he
     ·cases hj⟩
    have h2:=zGz (hR.le hle).core h1;have e2:zFh ⟨s.T,[(k,.box cs)]⟩ (.pt k o)=.pe (cs.drop o):=by simp[zFh,St.entc,St.ent,List.lookup,Ent.core]
    rw[e2]at h2;refine h2.mono0 (fun g hg=>?_) fun _ _=>rfl;rcases hg with hg|⟨j,e,hj,hg⟩
    ·exact .inl hg
    ·refine .inr ?_
     unfold St.ent at hj;simp only[List.lookup]at hj;split at hj
     ·rename_i hjk;have:j=k:=by simpa using hjk
      subst this;exact hg
     ·cases hj
  |po k z i o=>
   simp only[zRU];cases k==id with
   |false=>exact same
   |true=>exact trivial
  |tc x r=>exact trivial
  |tn=>exact same
  |bot=>exact same
  |c t=>exact same
  |ag cs=>exact same
  |pe cs=>exact same
  |fn f caps=>exact same
  |er b=>exact same
  |vw id els m=>exact same
  |sf id z i=>exact same
 ·obtain⟨_,h2⟩:=zHK s id cs j e hj;exact (hR.core.ent j e h2).mono hup (fun _ _=>rfl) fun _ _=>rfl
 ·obtain⟨h1,h2⟩:=zHK s id cs j e hj;obtain⟨h3,h4⟩:=hR.core.blk j e g h2 hg;refine⟨fun h5=>?_,h4⟩;rcases h5 with h5|h5
  ·exact h3 h5
  ·exact h1 (hR.core.inj _ _ _ _ _ h2 he hg h5)
 ·exact hR.core.inj i j e f g (zHK s id cs i e hi).2 (zHK s id cs j f hj).2 h1 h2
 ·rcases hg with hg|hg
  ·exact hR.fresh g hg
  ·exact .inr (hR.own id _ g he hg)
theorem zHf{c:Code}{s s1:St}{J:Exit→St→Prop}(id:Nat){cs:List Tr}(he:s.ent id=some (.box cs))(hs:s.frzB id cs=s1)(h:V P c s1 J):V P c s J:=by subst hs;exact fun _ _ _ _ _ _ _ hR=>h _ _ _ _ _ _ _ (zZL hR id he)
def evPe(s:St):List Operand→Option (List (List Tr))
 |[]=>some []
 |x::xs=>match s.ev x,evPe s xs with
  | .pe cs,some r=>some (cs::r)
  |_,_=>none
theorem zRW{ok:Nat→Prop}{σ:Nat→Loc}{s:St}{a:Act}{w:World}(h:Core ok σ s a w):∀(xs:List Operand)(cs:List (List Tr)),evPe s xs=some cs→PeL ok w cs (xs.map a.eval)
 |[],cs,he=>by injection he with he;subst he;exact .nil
 |x::xs,cs,he=>by
  unfold evPe at he;cases h1:s.ev x with
  |pe c=>
   rw[h1]at he;cases h2:evPe s xs with
   |none=>rw[h2]at he;cases he
   |some r=>rw[h2]at he;injection he with he;subst he;have h3:=h.ev x;rw[h1]at h3;exact .cons h3 (zRW h xs r h2)
  |_=>rw[h1]at he;cases he
theorem zKs{o:Oper}{s:St}{f:FuncId}{xs:Array Operand}{cs:List (List Tr)}(ho:o.op=.makeFunc (.func f) #[] xs)(hx:evPe s xs.toList=some cs):Y0 P o s (.fn f cs):=
 qS fun ok σ a w hC=>by
  have h1:=zRW hC xs.toList cs hx;refine⟨.func (.func f) #[] (xs.toList.map a.eval).toArray,?_,⟨_,rfl,h1⟩⟩;unfold execOp;rw[ho];have e1:xs.map a.eval=(xs.toList.map a.eval).toArray:=by apply Array.ext';rw[Array.toList_map]
  simp[Instr.makeFunc,e1]
theorem zSy{ok:Nat→Prop}{σ:Nat→Loc}{w:World}:∀{cs:List (List Tr)}{ys:List Value},PeL ok w cs ys→RelA ok σ w (cs.map AV.pe) ys
 |[],_,.nil=>.nil
 |c::cs,_,.cons h hs=>.cons h (zSy hs)
theorem RelA.app{ok:Nat→Prop}{σ:Nat→Loc}{w:World}{ts us:List AV}{xs ys:List Value}(h:RelA ok σ w ts xs)(h2:RelA ok σ w us ys):RelA ok σ w (ts++us) (xs++ys):=by
 induction h with
 |nil=>exact h2
 |cons h hs ih=>exact .cons h ih
theorem zRa{o:Oper}{s:St}{f:FuncId}{x:Operand}{caps:List (List Tr)}{xs:Array Operand}{ts:Array TypeId}{args:List AV}{av:AV}{ne:List (Nat×Ent)}(hS:zF P f (args++caps.map AV.pe) av ne)(hc:∀args w,(callFunc f args).run P w=.ok (.enter f args) w)
  (ho:o.op=.call {callee:=.value x,args:=xs,argTypes:=ts}) (hx:s.ev x=.fn f caps) (ha:evL s xs.toList=args):Y1 P o s av ne:=by
 intro ok σ a w hC K Q hK;subst ha;have h1:=hC.ev x;rw[hx]at h1;obtain⟨vs,hv,hp⟩:=(h1:Rel1 ok σ w (.fn f caps) (a.eval x))
 unfold Oper.wp execOp;rw[ho];have e1:xs.map a.eval=(xs.toList.map a.eval).toArray:=by apply Array.ext';rw[Array.toList_map]
 have e2:(xs.toList.map a.eval).toArray++vs.toArray=(xs.toList.map a.eval++vs).toArray:=by simp
 simp only[resolve,hv,Deferred.ofValue,Sem.run_bind,Sem.run_pure,Result.andThen_ok,invoke,hc,e1,Array.empty_append,e2,Oper.upon];refine Calls.mono (hS ok σ w _ hC.okL hC.lib ((zJK hC xs.toList).app (zSy hp))) ?_
 rintro e w' ⟨v,ok',σ',he,hn⟩;subst he;exact hK v w' ok' σ' hn
end
end Go.Proofs.YtdedjieegpkabaaGreat
namespace Go.Proofs.YtdedjieegpkabaaGreat
section
variable {κ ν:Type} [DecidableEq κ]
def ixM(a:κ):List κ→Option Nat
 |[]=>none
 |k::ks=>if a=k then some 0 else (ixM a ks).map (·+1)
def mGet(a:κ):List (κ×ν)→Option ν
 |[]=>none
 |p::ps=>if a=p.1 then some p.2 else mGet a ps
def mPut(a:κ)(v:ν):List (κ×ν)→List (κ×ν)
 |[]=>[(a,v)]
 |p::ps=>if a=p.1 then (a,v)::ps else p::mPut a v ps
def mHas(a:κ)(m:List (κ×ν)):Bool:=(mGet a m).isSome
def mAt(a:κ)(m:List (κ×ν))(z:ν):ν:=(mGet a m).getD z
end
end Go.Proofs.YtdedjieegpkabaaGreat
namespace Go.Proofs.YtdedjieegpkabaaGreat
open Go.RowKit
section
variable {P:Program}
end
section
variable {P:Program}
theorem zKe{f:FuncId}{args:List AV}{k T sz:Nat}{els:List (List Tr)}(h:zF P f args (.ow k) [(k,.arr T sz els)]):zF P f args (.c (.sl els)) []:=by
 intro ok σ w vs hok hlib hargs;refine Calls.mono (h ok σ w vs hok hlib hargs) ?_
 rintro e w' ⟨v,ok',σ',he,hn⟩;have hlib':Lb ok' w':=hlib.mono hn.okM fun g hg=>hn.below.block g (hok g hg);have hC:Core ok' σ' ⟨[],[(k,.arr T sz els)]⟩ (⟨#[],[]⟩:Act) w':=⟨Nat.zero_le _,hn.okL,hlib',fun t=>trivial,hn.ent,fun id e g h1 h2=>⟨(hn.blk id e g h1 h2).2.1,(hn.blk id e g h1 h2).2.2⟩,hn.inj⟩
 have h2:=zGz hC hn.rel;have e2:zFh ⟨[],[(k,.arr T sz els)]⟩ (.ow k)=.c (.sl els):=by simp[zFh,St.entc,St.ent,List.lookup,Ent.core]
 rw[e2]at h2;refine⟨v,_,σ',he,hn.below,fun g hg=>.inl (hn.okM g hg),?_,?_,h2,fun id e hl=>by simp[List.lookup]at hl,fun e _=>rfl,fun id e hl=>by simp[List.lookup]at hl,fun id e g hl=>by simp[List.lookup]at hl,fun i j e f g hl=>by simp[List.lookup]at hl,fun id e hl=>by simp[List.lookup]at hl⟩
 ·rintro g (hg|⟨id,e,h3,hg⟩)
  ·exact hn.okN g hg
  ·exact .inr (hn.blk id e g h3 hg).1
 ·rintro g (hg|⟨id,e,h3,hg⟩)
  ·exact hn.okL g hg
  ·exact (hn.blk id e g h3 hg).2.2
end
section
variable {P:Program}
def bt:Nat→List AV→List AV
 |0,l=>l
 |n+1,l=>.bot::bt n l
def mb:Nat→Nat→List Bool
 |0,_=>[]
 |n+1,x=>Nat.beq (Nat.mod x 2) 1::mb n (Nat.div x 2)
theorem L0{ops:Array Oper}{o:Oper}{rest:List Oper}{s:St}{av:AV}{d:Nat}{J:St→Prop}(hg:o.guard=none)(hd:o.dst=some d)(h:Y0 P o s av)(hk:XL P ops rest (s.put d av) J):XL P ops (o::rest) s J:=jA hg (zB hd h) hk
theorem L1{ops:Array Oper}{o:Oper}{rest:List Oper}{s:St}{av:AV}{ne:List (Nat×Ent)}{d:Nat}{J:St→Prop}(hg:o.guard=none)(hd:o.dst=some d)(h:Y1 P o s av ne)(hk:XL P ops rest (s.upd d av ne) J):XL P ops (o::rest) s J:=jA hg (zFQ hd h) hk
def VR(P:Program)(c:Code):Nat→St→(Exit→St→Prop)→Prop
 |0,_,_=>False
 |n+1,s,J=>V P c s (zMK (fun s'=>VR P c n s' J) J)
theorem VR_s{c:Code}{n:Nat}{s:St}{J:Exit→St→Prop}(h:V P c s (zMK (fun s'=>VR P c n s' J) J)):VR P c (n+1) s J:=h
theorem zVq{c:Code}{s:St}{J:Exit→St→Prop}(n:Nat)(h:VR P c n s J):V P (.loop c) s J:=by
 intro B w0 ok0 ok σ a w hR;refine wp_loop_rounds n ?_
 revert h
 induction n generalizing s ok σ a w with
 |zero=>intro h;exact h.elim
 |succ n ih=>
  intro h;refine wp_mono (h _ _ _ _ _ _ _ hR) ?_
  rintro e a' w' ⟨s',ok',σ',hJ,hR'⟩;cases e with
  |normal=>exact ih _ _ _ _ hR' hJ
  |exit id=>exact⟨s',ok',σ',hJ,hR'⟩
  |goto l=>exact⟨s',ok',σ',hJ,hR'⟩
  |ret=>exact⟨s',ok',σ',hJ,hR'⟩
  |panic ch=>exact⟨s',ok',σ',hJ,hR'⟩
  |outgrown=>exact⟨s',ok',σ',hJ,hR'⟩
theorem zZN{o:Oper}{s:St}{t e:TypeId}{x ix:Operand}{k:IntKind}{N sz:Nat}{n:Int}(av:AV)(hu:P.underlying t=some (.array N e))(hsz:(P.info? e).map (·.size)=some sz)(ho:o.op=.indexAddr t x ix)(hi:s.ev ix=.c (.v (.int k n)))
  (hn:(decide (0≤n)&&decide (n<N))=true) (hx:(s.ev x).adv (n.toNat*sz)=av) (hb:av≠.bot):Y0 P o s av:=
 qS fun ok σ a w hC=>by
  subst hx;obtain⟨g,off,h1,h2⟩:=zQ3 (n.toNat*sz) (hC.ev x) hb;refine⟨_,?_,h2⟩;simp only[ze,decide_eq_true_eq]at hn;have h3:=hC.exact hi;cases hii:P.info? e with
  |none=>rw[hii]at hsz;simp at hsz
  |some i=>
   have h5:i.size=sz:=by rw[hii]at hsz;simpa using hsz
   unfold execOp;rw[ho];simp[h1,h3,Instr.indexAt,asIntOf,run_underlying hu,Instr.sureAddr,sizeOf,typeInfo,hii,h5,hn.1,hn.2,zDr]
end
section
variable {κ ν:Type} [DecidableEq κ]
theorem zNM{a:κ}:∀{m:List (κ×ν)},ixM a (m.map Prod.fst)=none→mGet a m=none∧∀v,mPut a v m=m++[(a,v)]
 |[],_=>⟨rfl,fun _=>rfl⟩
 |p::ps,h=>by
  simp only[List.map_cons,ixM]at h;by_cases e:a=p.1
  ·rw[if_pos e]at h;cases h
  ·rw[if_neg e]at h;have h2:ixM a (ps.map Prod.fst)=none:=by simpa using h
   obtain⟨k1,k2⟩:=zNM h2;exact⟨by unfold mGet;rw[if_neg e,k1],fun v=>by unfold mPut;rw[if_neg e,k2];rfl⟩
theorem zNL{a:κ}:∀{m:List (κ×ν)}{j:Nat},ixM a (m.map Prod.fst)=some j→∃v0,m[j]?=some (a,v0)∧mGet a m=some v0∧∀v,mPut a v m=m.set j (a,v)
 |[],j,h=>by cases h
 |p::ps,j,h=>by
  simp only[List.map_cons,ixM]at h;by_cases e:a=p.1
  ·rw[if_pos e]at h;injection h with h;subst h;refine⟨p.2,by rw[e];rfl,by unfold mGet;rw[if_pos e],fun v=>by unfold mPut;rw[if_pos e];rfl⟩
  ·rw[if_neg e]at h;cases h2:ixM a (ps.map Prod.fst) with
   |none=>rw[h2]at h;cases h
   |some i=>rw[h2]at h;injection h with h;subst h;obtain⟨v0,k1,k2,k3⟩:=zNL h2;exact⟨v0,by simpa using k1,by unfold mGet;rw[if_neg e,k2],fun v=>by unfold mPut;rw[if_neg e,k3];rfl⟩
end
section
variable {P:Program}
structure KeyT (P:Program) {κ:Type} [DecidableEq κ] (kt:TypeId) (ek:κ→Value):Prop where
  chk:∀b a w,(Instr.checkKey b 10000 kt (ek a)).run P w=.ok () w
  find:∀a (es:List MapEntry)(ks:List κ) w,es.map (·.key)=ks.map ek→(Instr.findKey kt (ek a) es).run P w=.ok ((ixM a ks).bind fun j=>(es[j]?).map fun e=>(j,e.val)) w
  bits:∀a,Instr.sameBits 10000 (ek a) (ek a)=true
theorem zHL{κ:Type} [DecidableEq κ]{kt:TypeId}{ek:κ→Value}(heq:∀a b w,(Op.equal kt (ek a) (ek b)).run P w=.ok (decide (a=b)) w)(a:κ)(w:World):∀(es:List MapEntry)(ks:List κ)(i:Nat),es.map (·.key)=ks.map ek→
  (Instr.findAsking kt (ek a) es i).run P w=.ok ((ixM a ks).bind fun j=>(es[j]?).map fun e=>(i+j,e.val)) w
 |[],[],i,_=>rfl
 |[],k::ks,i,h=>by simp at h
 |e::es,[],i,h=>by simp at h
 |e::es,k::ks,i,h=>by
  simp only[List.map_cons,List.cons.injEq]at h;have ih:=zHL heq a w es ks (i+1) h.2;unfold Instr.findAsking;rw[h.1];simp only[Sem.run_bind,heq,Result.andThen_ok];by_cases e1:a=k
  ·simp[e1,ixM]
  ·simp only[decide_eq_false e1,Bool.false_eq_true,if_false,ih,ixM,if_neg e1];cases ixM a ks with
   |none=>rfl
   |some j=>simp only[Option.bind_some,Option.map_some,List.getElem?_cons_succ];rw[show i+1+j=i+(j+1) by omega]
theorem zUk{κ:Type} [DecidableEq κ]{kt:TypeId}{ek:κ→Value}(d:TypeDesc)(hd:P.underlying kt=some d)(chk:∀b a w,(Instr.checkKey b 10000 kt (ek a)).run P w=.ok () w)(heq:∀a b w,(Op.equal kt (ek a) (ek b)).run P w=.ok (decide (a=b)) w)
  (hnow:∀a b,Instr.sameNow d (ek a) (ek b)=none) (bits:∀a,Instr.sameBits 10000 (ek a) (ek a)=true):KeyT P kt ek:=by
 refine⟨chk,fun a es ks w h=>?_,bits⟩;unfold Instr.findKey;simp only[Sem.run_bind,run_underlying hd,Result.andThen_ok];cases es with
 |nil=>
  cases ks with
  |nil=>rfl
  |cons k ks=>simp at h
 |cons e es=>
  cases ks with
  |nil=>simp at h
  |cons k ks=>
   have h1:=h;simp only[List.map_cons,List.cons.injEq]at h1;have h2:Instr.findNow d (ek a) (e::es) 0=none:=by unfold Instr.findNow;rw[h1.1,hnow]
   rw[h2];have:=zHL heq a w (e::es) (k::ks) 0 h;simp only[Nat.zero_add]at this;exact this
theorem zTw(n:Nat)(l:List Int):Instr.sameBits (n+1) (.agg (l.map (Value.int .i64)).toArray) (.agg (l.map (Value.int .i64)).toArray)=true:=by
 unfold Instr.sameBits;simp only[beq_self_eq_true,Bool.true_and,List.all_eq_true];intro p hp;have:∀(l:List Int)(p:Value×Value),p∈(l.map (Value.int .i64)).zip (l.map (Value.int .i64))→∃a,p=(.int .i64 a,.int .i64 a):=by
  intro l
  induction l with
  |nil=>intro p hp;simp at hp
  |cons x xs ih=>
   intro p hp;simp only[List.map_cons,List.zip_cons_cons,List.mem_cons]at hp;rcases hp with h|h
   ·exact⟨x,h⟩
   ·exact ih p h
 obtain⟨a,rfl⟩:=this l p hp;simp[Instr.sameBits]
theorem zUW{t:TypeId}{z:Value}(h:(P.info? t).bind (·.zero)=some z)(w:World):(zeroValue t).run P w=.ok z w:=by
 cases hi:P.info? t with
 |none=>rw[hi]at h;cases h
 |some i=>rw[hi]at h;have h2:i.zero=some z:=h;simp[zeroValue,typeInfo,hi,h2]
theorem zRB{κ ν:Type} [DecidableEq κ]{ek:κ→Value}{ev:ν→Value}{t kt vt:TypeId}{z:ν}(ht:P.underlying t=some (.map kt vt))(hk:KeyT P kt ek)(hz:(P.info? vt).bind (·.zero)=some (ev z)){w:World}{b:Nat}{es:Array MapEntry}{clock:Nat}(hb:w.heap[b]?=some (.map es clock))
  {m:List (κ×ν)} (hm:es.toList.map kvOf=m.map fun p=>(ek p.1,ev p.2)) (a:κ) (co:Bool):
  (Instr.lookup t (.map (some b)) (ek a) co).run P w=.ok (if co then .tuple #[ev (mAt a m z),.bool (mHas a m)] else ev (mAt a m z)) w:=by
 have hkeys:es.toList.map (·.key)=(m.map Prod.fst).map ek:=by have:=congrArg (List.map Prod.fst) hm;simpa [kvOf,Function.comp_def] using this
 have hf:=hk.find a es.toList (m.map Prod.fst) w hkeys;unfold Instr.lookup;simp only[Sem.run_bind,run_underlying ht,Result.andThen_ok,MapKept.run_getObj_map hb,Sem.run_pure,hk.chk,hf];cases hi:ixM a (m.map Prod.fst) with
 |none=>obtain⟨k1,_⟩:=zNM hi;simp only[Option.bind_none,Sem.run_bind,zUW hz,Result.andThen_ok,Sem.run_pure,mAt,mHas,k1,Option.getD_none,Option.isSome_none]
 |some j=>
  obtain⟨v0,k1,k2,_⟩:=zNL hi;have he:∃e,es.toList[j]?=some e∧e.val=ev v0:=by
   have h1:=congrArg (fun l=>l[j]?) hm;simp only[List.getElem?_map,k1,Option.map_some]at h1;cases h2:es.toList[j]? with
   |none=>rw[h2]at h1;cases h1
   |some e=>rw[h2]at h1;simp only[Option.map_some,Option.some.injEq,kvOf,Prod.mk.injEq]at h1;exact⟨e,rfl,h1.2⟩
  obtain⟨e,e1,e2⟩:=he;simp only[Option.bind_some,e1,Option.map_some,Sem.run_bind,Sem.run_pure,Result.andThen_ok,mAt,mHas,k2,Option.getD_some,Option.isSome_some,e2]
theorem zMt{κ ν:Type} [DecidableEq κ]{ek:κ→Value}{ev:ν→Value}{t kt vt:TypeId}(ht:P.underlying t=some (.map kt vt))(hk:KeyT P kt ek){w:World}{b:Nat}{es:Array MapEntry}{clock:Nat}(hb:w.heap[b]?=some (.map es clock))
  {m:List (κ×ν)} (hm:es.toList.map kvOf=m.map fun p=>(ek p.1,ev p.2)) (a:κ) (v:ν):
  ∃es' clock',(Instr.mapUpdate t (.map (some b)) (ek a) (ev v)).run P w=.ok () {w with heap:=w.heap.setIfInBounds b (.map es' clock')}∧es'.toList.map kvOf=(mPut a v m).map fun p=>(ek p.1,ev p.2):=by
 have hkeys:es.toList.map (·.key)=(m.map Prod.fst).map ek:=by have:=congrArg (List.map Prod.fst) hm;simpa [kvOf,Function.comp_def] using this
 have hf:=hk.find a es.toList (m.map Prod.fst) w hkeys;cases hi:ixM a (m.map Prod.fst) with
 |none=>
  obtain⟨_,k2⟩:=zNM hi;refine⟨es.push {key:=ek a,val:=ev v,born:=clock},clock+1,?_,?_⟩
  ·unfold Instr.mapUpdate;rw[hi]at hf;simp only[Sem.run_bind,run_underlying ht,Result.andThen_ok,MapKept.run_getObj_map hb,Sem.run_pure,hk.chk,hf,Option.bind_none,MapKept.run_setObj_map _ hb]
  ·rw[k2];simp[hm,kvOf]
 |some j=>
  obtain⟨v0,k1,_,k3⟩:=zNL hi;have he:∃e,es.toList[j]?=some e∧e.key=ek a:=by
   have h1:=congrArg (fun l=>l[j]?) hm;simp only[List.getElem?_map,k1,Option.map_some]at h1;cases h2:es.toList[j]? with
   |none=>rw[h2]at h1;cases h1
   |some e=>rw[h2]at h1;simp only[Option.map_some,Option.some.injEq,kvOf,Prod.mk.injEq]at h1;exact⟨e,rfl,h1.1⟩
  obtain⟨e,e1,e2⟩:=he;have e3:es[j]?=some e:=by simpa using e1
  refine⟨es.modify j fun e=>{e with key:=ek a,val:=ev v},clock,?_,?_⟩
  ·unfold Instr.mapUpdate;rw[hi]at hf;simp only[Sem.run_bind,run_underlying ht,Result.andThen_ok,MapKept.run_getObj_map hb,Sem.run_pure,hk.chk,hf,Option.bind_some,e1,Option.map_some,e3,Option.getD_some,e2,Instr.keyThatStays,hk.bits,if_true,MapKept.run_setObj_map _ hb]
  ·rw[k3,Array.toList_modify];apply List.ext_getElem?;intro i;have h1:=congrArg (fun l=>l[i]?) hm;simp only[List.getElem?_map]at h1 ⊢;rw[List.getElem?_modify,List.getElem?_set];by_cases hij:j=i
   ·subst hij;have hlt:j<m.length:=(List.getElem?_eq_some_iff.1 k1).1;simp[e1,hlt,kvOf]
   ·simp only[hij,if_false,Option.map_map];rw[←h1];cases es.toList[i]?<;>rfl
theorem R.writeG{B:Fr}{w0:World}{ok0 ok:Nat→Prop}{σ:Nat→Loc}{s:St}{a:Act}{w w':World}(h:R B w0 ok0 ok σ s a w){id:Nat}{e e':Ent}{g:Nat}(he:s.ent id=some e)(hg:(σ id).blk=some g)(hsize:w'.heap.size=w.heap.size)
  (hw:∀q,q≠g→w'.heap[q]?=w.heap[q]?) (hos:w'.os=w.os) (htp:w'.tape=w.tape) (hou:w'.output=w.output) (E':List (Nat×Ent)) (hE:∀j,(E'.lookup j)=if j=id then some e' else s.ent j) (hok:qW ok w' (σ id) e') (hpin:e'.pin=e.pin):
  R B w0 ok0 ok σ ⟨s.T,E'⟩ a w':=by
 obtain⟨hb1,hb2⟩:=h.core.blk id e g he hg;have hB:=h.own id e g he hg;have hwok:∀q,ok q→w'.heap[q]?=w.heap[q]?:=fun q hq=>hw q fun e=>hb1 (e▸hq)
 have look:∀j f,(St.mk s.T E').ent j=some f→(j=id∧f=e')∨(j≠id∧s.ent j=some f):=by
  intro j f hj;have h1:E'.lookup j=some f:=hj;rw[hE]at h1;split at h1
  ·rename_i hji;exact .inl ⟨hji,by simpa using h1.symm⟩
  ·rename_i hji;exact .inr ⟨hji,h1⟩
 refine⟨⟨h.core.len,fun q hq=>by rw[hsize];exact h.core.okL q hq,h.core.lib.mono (fun _ h=>h) hwok,fun t=>?_,fun j f hj=>?_,fun j f q hj hq=>?_,fun i j f1 f2 q hi hj h1 h2=>?_⟩,h.defers,h.below.trans ?_,by rw[hsize];exact h.base,h.old,h.fresh,fun j f q hj hq=>?_⟩
 ·have h1:=h.core.tmp t;exact h1.mono0 (fun _ h=>h) hwok
 ·rcases look j f hj with⟨rfl,rfl⟩|⟨h1,h2⟩
  ·exact hok
  ·refine (h.core.ent j f h2).mono (fun _ h=>h) hwok fun q hq=>hw q fun e1=>?_
   subst e1;exact h1 (h.core.inj _ _ _ _ _ h2 he hq hg)
 ·rw[hsize];rcases look j f hj with⟨rfl,rfl⟩|⟨h1,h2⟩
  ·exact h.core.blk _ _ _ he hq
  ·exact h.core.blk _ _ _ h2 hq
 ·rcases look i f1 hi with⟨a1,a2⟩|⟨a1,a2⟩<;>rcases look j f2 hj with⟨b1,b2⟩|⟨b1,b2⟩
  ·omega
  ·subst a1;exact h.core.inj _ _ _ _ _ he b2 h1 h2
  ·subst b1;exact h.core.inj _ _ _ _ _ a2 he h1 h2
  ·exact h.core.inj _ _ _ _ _ a2 b2 h1 h2
 ·refine⟨hos,htp,hou,by rw[hsize];exact Nat.le_refl _,fun q hq hx=>hw q fun e1=>?_⟩;subst e1;split at hB
  ·exact hx hB
  ·exact hq hB
 ·rcases look j f hj with⟨rfl,rfl⟩|⟨h1,h2⟩
  ·rw[hpin];exact h.own _ _ _ he hq
  ·exact h.own _ _ _ h2 hq
def trV:Tr→Option Value
 | .v x=>some x
 |_=>none
def keyV:AV→Option Value
 | .c (.v x)=>some x
 | .ag cs=>(cs.mapM trV).map fun xs=>.agg xs.toArray
 |_=>none
theorem zUi{ok:Nat→Prop}{w:World}:∀(cs:List Tr)(vs xs:List Value),RdL ok w cs vs→(cs.mapM trV)=some xs→vs=xs
 |[],_,xs,.nil,h=>by simpa using h
 |c::cs,_,xs,.cons h1 h2,h=>by
  rw[List.mapM_cons]at h;cases c with
  |v x=>
   simp only[trV,Option.pure_def,Option.bind_eq_bind,Option.bind_some]at h;cases h3:(cs.mapM trV) with
   |none=>rw[h3]at h;cases h
   |some ys=>rw[h3]at h;simp only[Option.bind_some,Option.some.injEq]at h;subst h;have:=zUi cs _ ys h2 h3;subst this;cases h1;rfl
  |sl e=>simp[trV]at h
  |mp e=>simp[trV]at h
theorem zOw{ok:Nat→Prop}{σ:Nat→Loc}{s:St}{a:Act}{w:World}(h:Core ok σ s a w){x:Operand}{v:Value}(hx:keyV (s.ev x)=some v):a.eval x=v:=by
 have h1:=h.ev x;cases hs:s.ev x with
 |c t=>
  rw[hs]at hx;cases t with
  |v y=>injection hx with hx;subst hx;exact h.exact hs
  |sl e=>cases hx
  |mp e=>cases hx
 |ag cs=>
  rw[hs]at hx h1;obtain⟨vs,hv,hr⟩:=(h1:Rel1 ok σ w (.ag cs) (a.eval x))
  simp only[keyV,Option.map_eq_some_iff]at hx;obtain⟨xs,h2,h3⟩:=hx;have:=zUi cs vs.toList xs hr h2;rw[hv,←h3,←this]
 |bot=>rw[hs]at hx;cases hx
 |ow _=>rw[hs]at hx;cases hx
 |pt _ _=>rw[hs]at hx;cases hx
 |po _ _ _ _=>rw[hs]at hx;cases hx
 |pe _=>rw[hs]at hx;cases hx
 |fn _ _=>rw[hs]at hx;cases hx
 |er _=>rw[hs]at hx;cases hx
 |vw _ _ _=>rw[hs]at hx;cases hx
 |sf _ _ _=>rw[hs]at hx;cases hx
 |tn=>rw[hs]at hx;cases hx
 |tc _ _=>rw[hs]at hx;cases hx
def MpOk(P:Program)(t:TypeId){κ ν:Type} [DecidableEq κ](ek:κ→Value)(ev:ν→Value)(z:ν):Prop:=∃kt vt,P.underlying t=some (.map kt vt)∧KeyT P kt ek∧(P.info? vt).bind (·.zero)=some (ev z)∧∀v,(ev v).oneCell'=true
theorem zSN{ok:Nat→Prop}{σ:Nat→Loc}{s:St}{a:Act}{w:World}(h:Core ok σ s a w){x:Operand}{id b:Nat}{kvs:List (Value×Value)}(hx:s.ev x=.c (.v (.map (some b))))(he:s.ent id=some (.mp b kvs)):a.eval x=.map (some b)∧∃es clock,w.heap[b]?=some (.map es clock)∧es.toList.map kvOf=kvs:=by obtain⟨h1,es,clock,h2,h3⟩:=h.ent id _ he;exact⟨h.exact hx,es,clock,h2,h3⟩
theorem zSO{ok:Nat→Prop}{σ:Nat→Loc}{s:St}{a:Act}{w:World}(h:Core ok σ s a w){x:Operand}{kvs:List (Value×Value)}(hx:s.ev x=.c (.mp kvs)):∃b,a.eval x=.map (some b)∧∃es clock,w.heap[b]?=some (.map es clock)∧es.toList.map kvOf=kvs:=by
 have h1:=h.ev x;rw[hx]at h1;have h2:Rd ok w (.mp kvs) (a.eval x):=h1;generalize a.eval x=y at h2;cases h2 with
 |mp b es clock hok hb=>exact⟨b,rfl,es,clock,hb,rfl⟩
theorem zVh{o:Oper}{s:St}{x k:Operand}{t:TypeId}{κ ν:Type} [DecidableEq κ]{ek:κ→Value}{ev:ν→Value}{z:ν}{m:List (κ×ν)}{a:κ}(hm:MpOk P t ek ev z)(ho:o.op=.lookup t x k false)(hx:s.ev x=.c (.mp (m.map fun p=>(ek p.1,ev p.2))))(hk:keyV (s.ev k)=some (ek a)):
  Y0 P o s (.c (.v (ev (mAt a m z)))):=
 qS fun ok σ ac w hC=>by obtain⟨kt,vt,h1,h2,h3,h4⟩:=hm;obtain⟨b,e1,es,clock,e2,e3⟩:=zSO hC hx;have:=zRB h1 h2 h3 e2 e3 a false;refine⟨_,?_,Rd.v _ (h4 _)⟩;unfold execOp;rw[ho];simp only[e1,zOw hC hk,Sem.run_bind,this,Result.andThen_ok,Sem.run_pure];rfl
theorem zZC{o:Oper}{s:St}{x k v:Operand}{t:TypeId}{κ ν:Type} [DecidableEq κ]{ek:κ→Value}{ev:ν→Value}{z:ν}{id b:Nat}{m:List (κ×ν)}{a:κ}{u:ν}(hm:MpOk P t ek ev z)(ho:o.op=.mapUpdate t x k v∨o.op=.insert t x k v)(hd:o.dst=none)(hx:s.ev x=.c (.v (.map (some b))))(he:s.ent id=some (.mp b (m.map fun p=>(ek p.1,ev p.2))))(hk:keyV (s.ev k)=some (ek a))(hv:s.ev v=.c (.v (ev u))):
  X P o s ⟨s.T,setE id (.mp b ((mPut a u m).map fun p=>(ek p.1,ev p.2))) s.E⟩:=by
 intro B w0 ok0 ok σ ac w hR K Q hK;obtain⟨kt,vt,h1,h2,h3,h4⟩:=hm;obtain⟨e1,es,clock,e2,e3⟩:=zSN hR.core hx he;obtain⟨es',clock',r1,r2⟩:=zMt h1 h2 e2 e3 a u;have ek1:=zOw hR.core hk;have ev1:=hR.core.exact hv;have hblk:=(hR.core.ent id _ he).1;have hset:=MapKept.heap_set (o':=.map es' clock') e2;have hR':=hR.writeG (w':={w with heap:=w.heap.setIfInBounds b (.map es' clock')}) he hblk (by simp) (fun q hq=>hset.2 q hq) rfl rfl rfl _ (jX id (.mp b ((mPut a u m).map fun p=>(ek p.1,ev p.2))) s.E _ he) ⟨hblk,es',clock',hset.1,r2⟩ rfl;have hrun:(execOp ac.eval o).run P w=.ok .skip {w with heap:=w.heap.setIfInBounds b (.map es' clock')}:=by unfold execOp;rcases ho with ho|ho<;>rw[ho]<;>simp only[e1,ek1,ev1,Sem.run_bind,r1,Result.andThen_ok,Sem.run_pure]
 unfold Oper.wp;rw[hrun];show K (ac.put o.dst undef) _;rw[hd];exact hK _ _ _ _ hR'
theorem zVp{ops:Array Oper}{o:Oper}{rest:List Oper}{s:St}{J:St→Prop}{t:TypeId}{d:Nat}(hg:o.guard=none)(ho:o.op=.makeMap t none)(hd:o.dst=some d)(hk:∀b:Nat,XL P ops rest ⟨(zHz d s.T).set d (.c (.v (.map (some b)))),(d*8,.mp b [])::zJG d s.E⟩ J):XL P ops (o::rest) s J:=by
 intro B w0 ok0 ok σ a w hR Q hQ;refine wpList_plain hg fun K hK=>?_
 have hnew:New w (w.alloc (.map #[] 0)) ok ok (fun _=>⟨some w.heap.size,0,0⟩) (.c (.v (.map (some w.heap.size)))) [(0,.mp w.heap.size [])] (.map (some w.heap.size)):=by
  have ha:=MapKept.heap_alloc w (.map #[] 0);have hsz:(w.alloc (.map #[] 0)).heap.size=w.heap.size+1:=by show (w.heap.push _).size=_;simp
  refine⟨⟨rfl,rfl,rfl,by omega,fun k hk=>ha.2 k hk⟩,fun _ h=>h,fun _ h=>.inl h,fun g hg=>by have:=hR.core.okL g hg;omega,Rd.v _ rfl,fun id e he=>?_,fun e he=>rfl,fun id e he=>?_,fun id e g he hg=>?_,fun i j e f g hi hj _ _=>?_,fun id e he=>?_⟩
  ·obtain⟨h1,_⟩:=jN _ _ _ _ he;omega
  ·obtain⟨h1,h2⟩:=jN _ _ _ _ he;subst h2;exact⟨rfl,#[],0,ha.1,rfl⟩
  ·have e1:w.heap.size=g:=by simpa using hg
   subst e1;exact⟨Nat.le_refl _,fun h=>Nat.lt_irrefl _ (hR.core.okL _ h),by omega⟩
  ·obtain⟨h1,_⟩:=jN _ _ _ _ hi;obtain⟨h2,_⟩:=jN _ _ _ _ hj;omega
  ·obtain⟨_,h2⟩:=jN _ _ _ _ he;subst h2;rfl
 have hrun:(execOp a.eval o).run P w=.ok (.value (.map (some w.heap.size))) (w.alloc (.map #[] 0)):=by unfold execOp;rw[ho];simp[Instr.makeMap]
 have hR':=hR.upd (d:=d) hnew;unfold Oper.wp;rw[hrun];show K (a.put o.dst _) _;rw[hd];exact hK _ _ (hk w.heap.size B w0 ok0 ok (fun id=>if id / 8=d then ⟨some w.heap.size,0,0⟩ else σ id) _ _ hR' Q hQ)
theorem zZF{id:Nat}{ops:Array Oper}{s:St}{J:Exit→St→Prop}(S:Nat→St)(m:List Bool)(ids:List Nat)(h:XL P ops ops.toList s (fun s'=>∃b,s'.keep m ids=S b))(hj:∀b,J .normal (S b)):V P (.region id ops false) s J:=by
 refine zNo fun B w0 ok0 ok σ a w hR Q hQ=>?_
 refine h _ _ _ _ _ _ _ hR Q fun s' a' w' ok' σ' hs hR'=>?_
 obtain⟨b,hs⟩:=hs;exact hQ _ a' w' ok' σ' (hj b) (by rw[←hs];exact hR'.le (zLy m ids s'))
theorem zWt{id:Nat}{ops:Array Oper}{y:Code}{s:St}{J:Exit→St→Prop}(S:Nat→St)(m:List Bool)(ids:List Nat)(h:XL P ops ops.toList s (fun s'=>∃b,s'.keep m ids=S b))(hv:∀b,V P y (S b) J):V P (.seq (.region id ops false) y) s J:=zAS (zZF S m ids h hv)
theorem zZK{B:Fr}{w0:World}{ok0 ok:Nat→Prop}{σ:Nat→Loc}{s:St}{a:Act}{w:World}(hR:R B w0 ok0 ok σ s a w)(id id2 j:Nat){b:Nat}{kvs:List (Value×Value)}{cs:List Tr}(he:s.ent id=some (.mp b kvs))(h2:s.ent id2=some (.box cs))(hj:cs[j]?=some (.v (.map (some b)))):
  R B w0 ok0 (fun g=>ok g∨g=b) σ ⟨s.T,setE id2 (.box (cs.set j (.mp kvs))) (rmE id s.E)⟩ a w:=by
 have hup:∀g,ok g→ok g∨g=b:=fun g hg=>.inl hg;obtain⟨hb1,es,clock,hb2,hb3⟩:=hR.core.ent id _ he;have hbb:=hR.core.blk id _ b he hb1;have hne:id2≠id:=fun e=>by rw[e,he]at h2;cases h2
 have hrm:(rmE id s.E).lookup id2=some (.box cs):=by rw[zB1,if_neg hne];exact h2
 have look:∀j e,(St.mk s.T (setE id2 (.box (cs.set j (.mp kvs))) (rmE id s.E))).ent j=some e→True:=fun _ _ _=>trivial;have lk:∀i e,(setE id2 (.box (cs.set j (.mp kvs))) (rmE id s.E)).lookup i=some e→(i=id2∧e=.box (cs.set j (.mp kvs)))∨(i≠id2∧i≠id∧s.ent i=some e):=by
  intro i e hi;rw[jX id2 _ _ _ hrm]at hi;by_cases h:i=id2
  ·rw[if_pos h]at hi;exact .inl ⟨h,by simpa using hi.symm⟩
  ·rw[if_neg h,zB1]at hi;split at hi
   ·cases hi
   ·rename_i hn;exact .inr ⟨h,hn,hi⟩
 refine⟨⟨hR.core.len,fun g hg=>?_,hR.core.lib.mono hup (fun _ _=>rfl),fun t=>(hR.core.tmp t).mono0 hup fun _ _=>rfl,fun i e hi=>?_,fun i e g hi hg=>?_,fun i k e f g hi hk h1 h3=>?_⟩,hR.defers,hR.below,hR.base,fun g hg=>.inl (hR.old g hg),fun g hg=>?_,fun i e g hi hg=>?_⟩
 ·rcases hg with hg|hg
  ·exact hR.core.okL g hg
  ·rw[hg];exact hbb.2
 ·rcases lk i e hi with⟨rfl,rfl⟩|⟨_,_,h5⟩
  ·obtain⟨g,arr,T,g1,g2,g3⟩:=hR.core.ent _ _ h2;refine⟨g,arr,T,g1,g2,?_⟩;have hr:=g3.mono hup (fun _ _=>rfl:∀g,ok g→w.heap[g]?=w.heap[g]?);obtain⟨u,hu1,hu2⟩:=g3.get j _ hj;have huv:u=.map (some b):=by cases hu2;rfl
   subst huv;have hnew:Rd (fun g=>ok g∨g=b) w (.mp kvs) (.map (some b)):=by rw[←hb3];exact .mp b es clock (.inr rfl) hb2
   have hset:=hr.set j hnew;have:arr.toList.set j (.map (some b))=arr.toList:=by
    apply List.ext_getElem?;intro q;rw[List.getElem?_set];split
    ·rename_i hq;subst hq;split
     ·exact hu1.symm
     ·rename_i hlt;rw[List.getElem?_eq_none (by omega)]
    ·rfl
   rwa [this]at hset
  ·exact (hR.core.ent i e h5).mono hup (fun _ _=>rfl) fun _ _=>rfl
 ·have key:∃e0,s.ent i=some e0∧i≠id:=by
   rcases lk i e hi with⟨rfl,rfl⟩|⟨_,h4,h5⟩
   ·exact⟨_,h2,hne⟩
   ·exact⟨e,h5,h4⟩
  obtain⟨e0,k1,k2⟩:=key;obtain⟨h3,h4⟩:=hR.core.blk i e0 g k1 hg;refine⟨fun h5=>?_,h4⟩;rcases h5 with h5|h5
  ·exact h3 h5
  ·exact k2 (hR.core.inj _ _ _ _ _ k1 he (by rw[hg,h5]) hb1)
 ·have key:∀i e,(setE id2 (.box (cs.set j (.mp kvs))) (rmE id s.E)).lookup i=some e→∃e0,s.ent i=some e0:=by
   intro i e hi;rcases lk i e hi with⟨rfl,rfl⟩|⟨_,h4,h5⟩
   ·exact⟨_,h2⟩
   ·exact⟨e,h5⟩
  obtain⟨e0,k1⟩:=key i e hi;obtain⟨f0,k2⟩:=key k f hk;exact hR.core.inj i k e0 f0 g k1 k2 h1 h3
 ·rcases hg with hg|hg
  ·exact hR.fresh g hg
  ·have:=hR.own id _ b he hb1;rw[if_neg (fun hc=>by cases hc)]at this;exact .inr (by rw[hg];exact this)
 ·rcases lk i e hi with⟨rfl,rfl⟩|⟨_,_,h5⟩
  ·have h6:B.n g:=hR.own _ _ g h2 hg;exact h6
  ·exact hR.own i e g h5 hg
theorem zUF{c:Code}{s s1:St}{J:Exit→St→Prop}(id id2 j:Nat){b:Nat}{kvs:List (Value×Value)}{cs:List Tr}(he:s.ent id=some (.mp b kvs))(h2:s.ent id2=some (.box cs))(hj:cs[j]?=some (.v (.map (some b))))(hs:(⟨s.T,setE id2 (.box (cs.set j (.mp kvs))) (rmE id s.E)⟩:St)=s1)(h:V P c s1 J):V P c s J:=by subst hs;exact fun _ _ _ _ _ _ _ hR=>h _ _ _ _ _ _ _ (zZK hR id id2 j he h2 hj)
end
theorem kk{p:Prop}(h:p:=by kernel_rfl):p:=h
section
variable (P:Program)
def nbA:AV→Option AV
 | .bot=>none
 |av=>some av
def xbin(op:BinOp):AV→AV→Option AV
 | .c (.v (.int .i64 a)),.c (.v (.int .i64 b))=>match op with
  | .add=>some (I (w64 (a+b)))
  | .sub=>some (I (w64 (a - b)))
  | .mul=>some (I (w64 (a*b)))
  | .lss=>some (Bo (ltI a b))
  | .leq=>some (Bo (leI a b))
  | .gtr=>some (Bo (ltI b a))
  | .geq=>some (Bo (leI b a))
  | .eql=>some (Bo (eqI a b))
  | .neq=>some (Bo (!eqI a b))
  |_=>none
 |_,_=>none
def xun(op:UnOp):AV→Option AV
 | .c (.v (.int .i64 a))=>match op with
  | .neg=>some (I (w64 (0 - a)))
  |_=>none
 | .c (.v (.bool b))=>match op with
  | .not=>some (.c (.v (.bool (!b))))
  |_=>none
 |_=>none
def zD5(t:TypeId):Option Nat:=(P.info? t).map (·.size)
def xv(s:St):Op→Option AV
 | .move x=>some (s.ev x)
 | .assign x=>some (s.ev x)
 | .extract x n=>match s.ev x with
  | .tc y r=>nbA ((AV.tc y r).nth n)
  |_=>none
 | .fieldAddr t x f=>match P.underlying t with
  |some (.struct fields)=>match fields[f]? with
   |some fd=>match zD5 P fd.type with
    |some (_+1)=>nbA ((s.ev x).adv fd.offset)
    |_=>none
   |none=>none
  |_=>none
 | .load t x=>match P.underlying t with
  |some d=>bif aggD d then (match zD5 P t,jV s (s.ev x) with
    |some n,some cs=>bif Nat.ble n cs.length then some (.ag (cs.take n)) else none
    |_,_=>none)
   else (match jV s (s.ev x) with
    |some (c::_)=>some (.c c)
    |_=>none)
  |none=>none
 | .indexAddr t x ix=>match P.underlying t with
  |some (.array N e)=>match zD5 P e,s.ev ix with
   |some sz,.c (.v (.int _ n))=>bif (decide (0≤n)&&decide (n<N)) then nbA ((s.ev x).adv (n.toNat*sz)) else none
   |_,_=>none
  |_=>none
 | .binOp op _ x y _=>xbin op (s.ev x) (s.ev y)
 | .unOp op _ x=>xun op (s.ev x)
 |_=>none
def xn(s:St):Op→Option (AV×List (Nat×Ent))
 | .alloc e=>match (P.info? e).bind (·.zero) with
  |some z=>bif zCO z.cells then some (.pt 0 0,[(0,.box (z.cells.toList.map Tr.v))]) else none
  |none=>none
 | .box _ x=>match zAE (s.ev x) with
  |some cs=>some (.pt 0 0,[(0,.box cs)])
  |none=>none
 |_=>none
def xs(s:St):Op→Option St
 | .store t x y=>match s.ev x,zAE (s.ev y) with
  | .pt id off,some vc=>match s.ent id with
   |some (.box cs)=>bif (zD5 P t==some vc.length)&&Nat.ble (off+vc.length) cs.length then some ⟨s.T,setE id (.box (splice cs off vc)) s.E⟩ else none
   |some (.pbox l cs)=>bif (zD5 P t==some vc.length)&&Nat.ble (off+vc.length) cs.length then some ⟨s.T,setE id (.pbox l (splice cs off vc)) s.E⟩ else none
   |_=>none
  |_,_=>none
 |_=>none
def xo(o:Oper)(s:St):Option St:=match o.dst with
 |some d=>match xv P s o.op with
  |some av=>some (s.put d av)
  |none=>match xn P s o.op with
   |some r=>some (s.upd d r.1 r.2)
   |none=>none
 |none=>xs P s o.op
end
section
variable {P:Program}
theorem zPv{a b:AV}(h:nbA a=some b):a=b∧b≠.bot:=by
 cases a<;>simp only[nbA]at h<;>first|(cases h;done)|(cases h;exact⟨rfl,fun h=>by cases h⟩)
theorem zWE{o:Oper}{s:St}{op:BinOp}{t t2:TypeId}{x y:Operand}{av:AV}(ho:o.op=.binOp op t x y t2)(h:xbin op (s.ev x) (s.ev y)=some av):Y0 P o s av:=by
 generalize hx:s.ev x=a at h;generalize hy:s.ev y=b at h;unfold xbin at h;split at h
 ·cases op<;>simp only[Option.some.injEq,reduceCtorEq]at h<;>subst h
  ·exact zCP ho hx hy
  ·exact zNj ho hx hy
  ·exact zNl ho hx hy
  all_goals first|exact zIa ho hx hy|exact zSa ho hx hy|exact zDF ho hx hy|exact zSb ho hx hy|exact zSc ho hx hy|exact zNm ho hx hy
 ·cases h
theorem zX1{o:Oper}{s:St}{op:UnOp}{t:TypeId}{x:Operand}{av:AV}(ho:o.op=.unOp op t x)(h:xun op (s.ev x)=some av):Y0 P o s av:=by
 generalize hx:s.ev x=a at h;unfold xun at h;split at h
 ·cases op<;>simp only[Option.some.injEq,reduceCtorEq]at h;subst h;exact zRc ho hx
 ·cases op<;>simp only[Option.some.injEq,reduceCtorEq]at h;subst h;exact zS9 ho hx
 ·cases h
theorem zXG{o:Oper}{s:St}{av:AV}(h:xv P s o.op=some av):Y0 P o s av:=by
 unfold xv at h;split at h
 ·cases h;rename_i ho;exact zT6 ho
 ·cases h;rename_i ho;exact zPM ho
 ·rename_i ho;split at h
  ·rename_i hx;obtain⟨h1,h2⟩:=zPv h;exact zWA _ _ _ ho hx h1 h2
  ·cases h
 ·rename_i ho;split at h
  ·rename_i hu;split at h
   ·rename_i hf;split at h
    ·rename_i hs;obtain⟨h1,h2⟩:=zPv h;exact zAG _ hu hf hs ho h1 h2
    ·cases h
   ·cases h
  ·cases h
 ·rename_i ho;split at h
  ·rename_i d hu;cases ha:aggD d with
   |true=>
    rw[ha,cond_true]at h;split at h
    ·rename_i n cs hn hm;cases hb:Nat.ble n cs.length with
     |true=>rw[hb,cond_true]at h;cases h;exact zFS _ ⟨⟨d,hu,ha⟩,hn⟩ ho hm (Nat.le_of_ble_eq_true hb) rfl
     |false=>rw[hb,cond_false]at h;cases h
    ·cases h
   |false=>
    rw[ha,cond_false]at h;split at h
    ·rename_i c cs hm;cases h;exact qI ⟨d,hu,ha⟩ ho hm
    ·cases h
  ·cases h
 ·rename_i ho;split at h
  ·rename_i N e hu;split at h
   ·rename_i sz k n hs hi;cases hb:(decide (0≤n)&&decide (n<(N:Int))) with
    |true=>rw[hb,cond_true]at h;obtain⟨h1,h2⟩:=zPv h;exact zZN _ hu hs ho hi hb h1 h2
    |false=>rw[hb,cond_false]at h;cases h
   ·cases h
  ·cases h
 ·rename_i ho;exact zWE ho h
 ·rename_i ho;exact zX1 ho h
 ·cases h
theorem zXH{o:Oper}{s:St}{r:AV×List (Nat×Ent)}(h:xn P s o.op=some r):Y1 P o s r.1 r.2:=by
 unfold xn at h;split at h
 ·rename_i e ho;split at h
  ·rename_i z hz;cases hc:zCO z.cells with
   |true=>rw[hc,cond_true]at h;cases h;exact zJ3 ho hz hc
   |false=>rw[hc,cond_false]at h;cases h
  ·cases h
 ·rename_i e x ho;split at h
  ·rename_i cs hx;cases h;exact zK9 ho hx
  ·cases h
 ·cases h
theorem xs_ok{o:Oper}{s s':St}(hd:o.dst=none)(h:xs P s o.op=some s'):X P o s s':=by
 unfold xs at h;split at h
 ·rename_i t x y ho;split at h
  ·rename_i id off vc hx hy;split at h
   ·rename_i cs he;cases hb:(zD5 P t==some vc.length)&&Nat.ble (off+vc.length) cs.length with
    |true=>rw[hb,cond_true]at h;cases h;rw[ze,beq_iff_eq]at hb;exact zMH _ ho hd hx he hy hb.1 (Nat.le_of_ble_eq_true hb.2) rfl
    |false=>rw[hb,cond_false]at h;cases h
   ·rename_i l cs he;cases hb:(zD5 P t==some vc.length)&&Nat.ble (off+vc.length) cs.length with
    |true=>rw[hb,cond_true]at h;cases h;rw[ze,beq_iff_eq]at hb;exact zVz _ ho hd hx he hy hb.1 (Nat.le_of_ble_eq_true hb.2) rfl
    |false=>rw[hb,cond_false]at h;cases h
   ·cases h
  ·cases h
 ·cases h
theorem xo_ok{o:Oper}{s s':St}(h:xo P o s=some s'):X P o s s':=by
 unfold xo at h;split at h
 ·rename_i d hd;split at h
  ·rename_i av hv;cases h;exact zB hd (zXG hv)
  ·split at h
   ·rename_i r hn;cases h;exact zFQ hd (zXH hn)
   ·cases h
 ·rename_i hd;exact xs_ok hd h
section
variable (P)
def dr2(l:List Oper)(ms:List Nat)(n1:Nat)(css:List (List Cd))(rs:List Res)(S:St):Op→Option (List Res)
 | .store t x y=>match S.ev x,zAE (S.ev y) with
  | .pt id off,some vc=>match S.ent id with
   |some (.box cs)=>bif (zD5 P t==some vc.length)&&Nat.ble (off+vc.length) cs.length&&(zJN rs.length id css&&(mkOk ms rs.length id 0 (l.take n1)&&zF2 id rs)) then some (rs++[.r2 id (.box (splice cs off vc))]) else none
   |_=>none
  |_,_=>none
 |_=>none
end
theorem zRJ{ok:Nat→Prop}{σ:Nat→Loc}{w:World}{k:FuncId}(post:List AV):∀(pre:List AV)(vs:List Value),RelA ok σ w (pre++.c (.v (.func (.func k) #[] #[]))::post) vs→RelA ok σ w (pre++.fn k []::post) vs
 |[],vs,h=>by
  cases h with
  |cons h hs=>
   refine .cons ?_ hs
   have h:Rd ok w (.v (.func (.func k) #[] #[])) _:=h;cases h;exact⟨[],rfl,.nil⟩
 |p::pre,vs,h=>by
  cases h with
  |cons h hs=>exact .cons h (zRJ post pre _ hs)
theorem zPQ{f k:FuncId}{av:AV}{ne:List (Nat×Ent)}(pre post:List AV)(h:zF P f (pre++.fn k []::post) av ne):zF P f (pre++.c (.v (.func (.func k) #[] #[]))::post) av ne:=fun ok σ w vs hok hl ha=>h ok σ w vs hok hl (zRJ post pre vs ha)
theorem zQ6{α:Type}{c:α→List Tr}{xs:List α}{v u:α}{o:Oper}{S:St}{t:TypeId}{x y:Operand}{id sz off T0:Nat}{n:Int}{vc:List Tr}(ho:o.op=.store t x y)(hd:o.dst=none)(hx:S.ev x=.po id sz n.toNat off)(he:S.ent id=some (.arr T0 sz (xs.map c)))(hv:getI xs n=some v)
  (hy:zAE (S.ev y)=some vc) (hi:(P.info? t).map (·.size)=some vc.length) (hl:off+vc.length≤(c v).length) (hu:splice (c v) off vc=c u):∀A,Le S A→X P o A ⟨A.T,setE id (.arr T0 sz ((xs.set n.toNat u).map c)) A.E⟩:=by
 intro A hA;refine zHe ho hd ?_ (hA.ent _ _ he) hv ?_ hi hl hu
 ·rcases zTP hA x with h|h
  ·rw[hx]at h;cases h
  ·rw[←h];exact hx
 ·rcases zTP hA y with h|h
  ·rw[h]at hy;simp[zAE]at hy
  ·rw[←h];exact hy
theorem DE_2a{l:List Oper}{ms:List Nat}{n1:Nat}{css:List (List Cd)}{s0:St}{rs:List Res}{K:St→Prop}{o:Oper}{cd:List Cd}{t:TypeId}{x y:Operand}{α:Type}{c:α→List Tr}{xs:List α}{v u:α}{sz off T0:Nat}{n:Int}{vc:List Tr}(j id:Nat)(hj:rs.length=j)(hlt:Nat.blt j n1=true)(ho:l[j]?=some o)(hc:css[j]?=some cd)(hg:gsat l.toArray o (appC cd (l.take n1) rs s0))
  (hop:o.op=.store t x y) (hd:o.dst=none) (hx:(appC cd (l.take n1) rs s0).ev x=.po id sz n.toNat off) (he:(appC cd (l.take n1) rs s0).ent id=some (.arr T0 sz (xs.map c))) (hv:getI xs n=some v) (hy:zAE ((appC cd (l.take n1) rs s0).ev y)=some vc) (hi:(P.info? t).map (·.size)=some vc.length) (hl:off+vc.length≤(c v).length) (hu:splice (c v) off vc=c u)
  (h1:zJN j id css=true) (h2:mkOk ms j id 0 (l.take n1)=true) (h3:zF2 id rs=true) (h:DL P l ms n1 css s0 (rs++[.r2 id (.arr T0 sz ((xs.set n.toNat u).map c))]) K):DL P l ms n1 css s0 rs K:=by
 subst hj;exact DL_2 (Nat.le_of_ble_eq_true hlt) ho hc hg (zQ6 hop hd hx he hv hy hi hl hu) hd h1 h2 h3 h
end
end Go.Proofs.YtdedjieegpkabaaGreat
namespace Go.Proofs.YtdedjieegpkabaaGreat
def elO{α ρ:Type}(o:Option α)(a:ρ)(f:α→ρ):ρ:=match o with
 |none=>a
 |some x=>f x
def zCC(code1:List Int)(more2:List Int):Option Bool:=
 (some (bif (ltI 1048576 ((code1.length:Int))) then true else (ltI (w64 (1048576 - ((code1.length:Int)))) ((more2.length:Int))))).bind fun t4=>
 some t4
def zBI(cc1:((List Int)×Int×Int)):Option (Int×((List Int)×Int×Int)):=
 (
  bif (ltI cc1.2.1 ((cc1.1.length:Int))) then
   (
    (getI cc1.1 cc1.2.1).bind fun e4=>
    sI (IntKind.i64.wrap e4) fun b5=>
    some b5
   )
  else
   (
    some 0
   )
 ).bind fun j2=>
 sI (w64 (cc1.2.1+1)) fun f6=>
 sI (IntKind.u64.wrap ((IntKind.u64.wrap ((IntKind.u64.wrap (cc1.2.2*6364136223846793005))+(IntKind.u64.wrap j2)))+1442695040888963407)) fun f7=>
 bif (leI f6 ((cc1.1.length:Int))) then
  (
   some ((j2,(cc1.1,f6,f7)))
  )
 else
  (
   sI (IntKind.i64.wrap (andI .u64 (shrI .u64 f7 40) 255)) fun t9=>
   some ((t9,(cc1.1,f6,f7)))
  )
def zR(cc1:((List Int)×Int×Int))(vn2:Int):Option (Int×((List Int)×Int×Int)):=
 bif (leI vn2 1) then
  (
   some ((0,cc1))
  )
 else
  (
   (zBI cc1).bind fun y4=>
   bif (ltI 200 vn2) then
    (
     (zBI y4.2).bind fun y6=>
     sI (w64 ((w64 (y4.1*256))+y6.1)) fun x7=>
     (nz vn2).bind fun z8=>
     sI (Int.tmod x7 vn2) fun t9=>
     some ((t9,y6.2))
    )
   else
    (
     (nz vn2).bind fun z10=>
     sI (Int.tmod y4.1 vn2) fun t11=>
     some ((t11,y4.2))
    )
  )
def jR(cc1:((List Int)×Int×Int))(list2:List Int):Option (Int×((List Int)×Int×Int)):=
 (zR cc1 ((list2.length:Int))).bind fun y3=>
 (getI list2 y3.1).bind fun e4=>
 some ((e4,y3.2))
def qM(a1:Int)(vm2:Int):Option Int:=
 (nz vm2).bind fun z3=>
 sI (Int.tmod a1 vm2) fun vr4=>
 bif (ltI vr4 0) then
  (
   sI (w64 (vr4+vm2)) fun vr6=>
   some vr6
  )
 else
  (
   some vr4
  )
def zAv(a1:Int)(b2:Int):Option Int:=
 bif (ltI b2 a1) then
  (
   some a1
  )
 else
  (
   some b2
  )
def zBp(cc1:((List Int)×Int×Int)):Option (Int×((List Int)×Int×Int)):=
 (zR cc1 16).bind fun y2=>
 bif (eqI y2.1 0) then
  (
   (jR y2.2 ([-3,-4,-2000,-1999,-1996,-1995,-163,-2001,-2003,-2004,0,1,5,-1,-2,-5,-9223372036854775808])).bind fun y4=>
   some ((y4.1,y4.2))
  )
 else
  (
   (
    bif (eqI y2.1 1) then
     (
      some (eqI y2.1 1)
     )
    else
     (
      some (eqI y2.1 2)
     )
   ).bind fun j5=>
   bif j5 then
    (
     (zR y2.2 1998).bind fun y8=>
     sI (w64 ((-3) - y8.1)) fun d9=>
     (qM d9 4).bind fun y10=>
     bif (ltI 1 y10) then
      (
       (zAv (-2000) (w64 (d9 - 2))).bind fun y12=>
       some ((y12,y8.2))
      )
     else
      (
       some ((d9,y8.2))
      )
    )
   else
    (
     (
      bif (eqI y2.1 3) then
       (
        some (eqI y2.1 3)
       )
      else
       (
        bif (eqI y2.1 4) then
         (
          some (eqI y2.1 4)
         )
        else
         (
          some (eqI y2.1 5)
         )
       )
     ).bind fun j13=>
     bif j13 then
      (
       (jR y2.2 ([-84,-420,-231,-260,-455,-520,-660,-1155,-1320,-1380,-1428,-1540,-399,-1092,-1560,-1785])).bind fun y17=>
       some ((y17.1,y17.2))
      )
     else
      (
       (
        bif (eqI y2.1 6) then
         (
          some (eqI y2.1 6)
         )
        else
         (
          some (eqI y2.1 7)
         )
       ).bind fun j18=>
       bif j18 then
        (
         (zR y2.2 60).bind fun y21=>
         sI (w64 ((-4)*(w64 (1+y21.1)))) fun t22=>
         some ((t22,y21.2))
        )
       else
        (
         (zR y2.2 50).bind fun y23=>
         sI (w64 ((-3) - (w64 (4*y23.1)))) fun t24=>
         some ((t24,y23.2))
        )
      )
    )
  )
def zBo(vn1:Int)(lo2:Int)(hi3:Int):Option Bool:=
 some (bif (leI lo2 vn1) then (leI vn1 hi3) else false)
def zC8(d1:Int):Option Bool:=
 (zBo d1 (-2000) (-3)).bind fun y2=>
 (bif y2 then ((qM d1 4).bind fun y4=>some (ltI y4 2)) else some false).bind fun b5=>
 some b5
def zAl(cc1:((List Int)×Int×Int)):Option (Int×((List Int)×Int×Int)):=
 (zBp cc1).bind fun y2=>
 (zC8 y2.1).bind fun y3=>
 bif (!y3) then
  (
   some ((-23,y2.2))
  )
 else
  (
   some ((y2.1,y2.2))
  )
def zA4(f1:(Int×Int×Int)):Option Int:=
 sI (w64 ((w64 (f1.2.1*f1.2.1)) - (w64 ((w64 (4*f1.1))*f1.2.2)))) fun t2=>
 some t2
def zBm(f1:(Int×Int×Int)):Option Bool:=
 (some (bif (bif (ltI (w64 (0 - f1.1)) f1.2.1) then (leI f1.2.1 f1.1) else false) then (bif (ltI f1.1 f1.2.2) then true else (bif (eqI f1.1 f1.2.2) then (leI 0 f1.2.1) else false)) else false)).bind fun t6=>
 some t6
def zAn(a2:Int)(d1:Int):Nat→Int→List (Int×Int×Int)→Option (List (Int×Int×Int))
 |0,_,_=>none
 |n+1,b8,l9=>
  bif (leI b8 a2) then
   (
    (nz (w64 (4*a2))).bind fun z13=>
    sI (w64 (Int.tdiv (w64 ((w64 (b8*b8)) - d1)) (w64 (4*a2)))) fun f14=>
    (zA4 ((a2,b8,f14))).bind fun y15=>
    (bif (eqI y15 d1) then ((zBm ((a2,b8,f14))).bind fun y17=>some y17) else some false).bind fun b18=>
    bif b18 then
     (
      (room (l9.length+([(a2,b8,f14)]).length)).bind fun u20=>
      sI (w64 (b8+1)) fun b21=>
      zAn a2 d1 n b21 (l9++([(a2,b8,f14)]))
     )
    else
     (
      sI (w64 (b8+1)) fun b22=>
      zAn a2 d1 n b22 l9
     )
   )
  else
   (
    some l9
   )
def zBQ(d1:Int):Nat→Int→List (Int×Int×Int)→Option (List (Int×Int×Int))
 |0,_,_=>none
 |n+1,a2,l3=>
  bif (leI (w64 ((w64 (3*a2))*a2)) (w64 (0 - d1))) then
   (
    sI (w64 (1 - a2)) fun b7=>
    (zAn a2 d1 FU b7 l3).bind fun o11=>
    sI (w64 (a2+1)) fun a23=>
    zBQ d1 n a23 o11
   )
  else
   (
    some l3
   )
def zCt(d1:Int):Option (List (Int×Int×Int)):=
 (zBQ d1 FU 1 (([]:List (Int×Int×Int)))).bind fun o5=>
 some o5
def zCS(vn1:Int):Option Int:=
 (zAv vn1 (w64 (0 - vn1))).bind fun y2=>
 some y2
def zAP:Nat→Int→Int→Option Int
 |0,_,_=>none
 |n+1,a5,b6=>
  bif (!eqI b6 0) then
   (
    (nz b6).bind fun z10=>
    sI (Int.tmod a5 b6) fun b11=>
    zAP n b6 b11
   )
  else
   (
    some a5
   )
def jZ(a1:Int)(b2:Int):Option Int:=
 (zCS a1).bind fun y3=>
 (zCS b2).bind fun y4=>
 (zAP FU y3 y4).bind fun o8=>
 some o8
def zAo(f1:(Int×Int×Int)):Option Int:=
 (jZ f1.1 f1.2.1).bind fun y2=>
 (jZ y2 f1.2.2).bind fun y3=>
 some y3
def jY(y2:List (Int×Int×Int)):Nat→Int→List (Int×Int×Int)→Option (List (Int×Int×Int))
 |0,_,_=>none
 |n+1,t3,l4=>
  bif (ltI t3 ((y2.length:Int))) then
   (
    (getI y2 t3).bind fun e8=>
    (getI y2 t3).bind fun e9=>
    (zAo e9).bind fun y10=>
    bif (eqI y10 1) then
     (
      (room (l4.length+([e9]).length)).bind fun u12=>
      sI (w64 (t3+1)) fun t13=>
      jY y2 n t13 (l4++([e9]))
     )
    else
     (
      sI (w64 (t3+1)) fun t14=>
      jY y2 n t14 l4
     )
   )
  else
   (
    some l4
   )
def qK(d1:Int):Option (List (Int×Int×Int)):=
 (zCt d1).bind fun y2=>
 (jY y2 FU 0 (([]:List (Int×Int×Int)))).bind fun o6=>
 some o6
def zDP(f1:(Int×Int×Int)):Option Int:=
 (qM (w64 (f1.1 - f1.2.1)) (w64 (2*f1.1))).bind fun y2=>
 (nz (w64 (2*f1.1))).bind fun z3=>
 sI (w64 (Int.tdiv (w64 ((w64 (f1.1 - f1.2.1)) - y2)) (w64 (2*f1.1)))) fun t4=>
 some t4
def zC7(f1:(Int×Int×Int)):Option (Int×Int×Int×Int):=
 (zDP f1).bind fun y2=>
 bif (!eqI y2 0) then
  (
   some ((1,y2,0,1))
  )
 else
  (
   (zBm f1).bind fun y4=>
   bif y4 then
    (
     some ((1,0,0,1))
    )
   else
    (
     some ((0,-1,1,0))
    )
  )
def zA7(f1:(Int×Int×Int))(x2:Int)(y3:Int):Option Int:=
 sI (w64 ((w64 ((w64 ((w64 (f1.1*x2))*x2))+(w64 ((w64 (f1.2.1*x2))*y3))))+(w64 ((w64 (f1.2.2*y3))*y3)))) fun t4=>
 some t4
def zCj(f1:(Int×Int×Int))(x2:Int)(y3:Int)(u4:Int)(v5:Int):Option Int:=
 sI (w64 ((w64 ((w64 ((w64 ((w64 (2*f1.1))*x2))*u4))+(w64 (f1.2.1*(w64 ((w64 (x2*v5))+(w64 (y3*u4))))))))+(w64 ((w64 ((w64 (2*f1.2.2))*y3))*v5)))) fun t6=>
 some t6
def zE8(f1:(Int×Int×Int))(vm2:(Int×Int×Int×Int)):Option (Int×Int×Int):=
 (zA7 f1 vm2.1 vm2.2.2.1).bind fun y3=>
 (zCj f1 vm2.1 vm2.2.2.1 vm2.2.1 vm2.2.2.2).bind fun y4=>
 (zA7 f1 vm2.2.1 vm2.2.2.2).bind fun y5=>
 some ((y3,y4,y5))
def qJ(vm1:(Int×Int×Int×Int))(vn2:(Int×Int×Int×Int)):Option (Int×Int×Int×Int):=
 sI (w64 ((w64 (vm1.1*vn2.1))+(w64 (vm1.2.1*vn2.2.2.1)))) fun f3=>
 sI (w64 ((w64 (vm1.1*vn2.2.1))+(w64 (vm1.2.1*vn2.2.2.2)))) fun f4=>
 sI (w64 ((w64 (vm1.2.2.1*vn2.1))+(w64 (vm1.2.2.2*vn2.2.2.1)))) fun f5=>
 sI (w64 ((w64 (vm1.2.2.1*vn2.2.1))+(w64 (vm1.2.2.2*vn2.2.2.2)))) fun f6=>
 some ((f3,f4,f5,f6))
def zB3:Nat→Int→Int→Int→Int→Int→Int→Int→Option (Int×Int×Int×Int×Int×Int×Int)
 |0,_,_,_,_,_,_,_=>none
 |n+1,f2,f3,f4,f5,f6,f7,f8=>
  (zBm ((f6,f7,f8))).bind fun y11=>
  bif (!y11) then
   (
    (zC7 ((f6,f7,f8))).bind fun y13=>
    (zE8 ((f6,f7,f8)) y13).bind fun y14=>
    (qJ ((f2,f3,f4,f5)) y13).bind fun y15=>
    zB3 n y15.1 y15.2.1 y15.2.2.1 y15.2.2.2 y14.1 y14.2.1 y14.2.2
   )
  else
   (
    some (f2,f3,f4,f5,f6,f7,f8)
   )
def qL(f1:(Int×Int×Int)):Option ((Int×Int×Int)×(Int×Int×Int×Int)):=
 (zB3 FU 1 0 0 1 f1.1 f1.2.1 f1.2.2).bind fun o10=>
 some ((o10.2.2.2.2,(o10.1,o10.2.1,o10.2.2.1,o10.2.2.2.1)))
def zB9(a2:Int)(g1:(Int×Int×Int))(k3:Int)(x7:Int):Nat→Int→Option (Unit ⊕ (Int×Int))
 |0,_=>none
 |n+1,y11=>
  bif (leI y11 k3) then
   (
    (zAv x7 y11).bind fun y15=>
    (bif (eqI y15 k3) then ((jZ x7 y11).bind fun y17=>some (eqI y17 1)) else some false).bind fun b18=>
    (bif b18 then ((zA7 g1 x7 y11).bind fun y20=>(jZ y20 a2).bind fun y21=>some (eqI y21 1)) else some false).bind fun b22=>
    bif b22 then
     (
      some (.inr (((x7,y11))))
     )
    else
     (
      sI (w64 (y11+1)) fun y24=>
      zB9 a2 g1 k3 x7 n y24
     )
   )
  else
   (
    some (.inl ())
   )
def zBt(a2:Int)(g1:(Int×Int×Int))(k3:Int):Nat→Int→Option (Unit ⊕ (Int×Int))
 |0,_=>none
 |n+1,x7=>
  bif (leI x7 k3) then
   (
    (zB9 a2 g1 k3 x7 FU 0).bind fun qo13=>
    match qo13 with
    | .inr r=>some (.inr r)
    | .inl o13=>
     sI (w64 (x7+1)) fun x25=>
     zBt a2 g1 k3 n x25
   )
  else
   (
    some (.inl ())
   )
def zBu(a2:Int)(g1:(Int×Int×Int)):Nat→Int→Option (Unit ⊕ (Int×Int))
 |0,_=>none
 |n+1,k3=>
  bif (leI k3 100) then
   (
    (zBt a2 g1 k3 FU 0).bind fun qo9=>
    match qo9 with
    | .inr r=>some (.inr r)
    | .inl o9=>
     sI (w64 (k3+1)) fun k26=>
     zBu a2 g1 n k26
   )
  else
   (
    some (.inl ())
   )
def zBa(g1:(Int×Int×Int))(a2:Int):Option (Int×Int):=
 (zBu a2 g1 FU 1).bind fun qo5=>
 match qo5 with
 | .inr r=>some r
 | .inl o5=>some ((1,0))
def zFY(vn1:Int):Option Int:=
 bif (ltI 0 vn1) then
  (
   some 1
  )
 else
  (
   bif (ltI vn1 0) then
    (
     some (-1)
    )
   else
    (
     some 0
    )
  )
def zBU(vm2:Int):Nat→Int→Int→Int→Int→Option (Int×Int)
 |0,_,_,_,_=>none
 |n+1,vr4,next5,x6,y7=>
  bif (!eqI next5 0) then
   (
    (nz next5).bind fun z11=>
    sI (w64 (Int.tdiv vr4 next5)) fun q12=>
    sI (w64 (vr4 - (w64 (q12*next5)))) fun next13=>
    sI (w64 (x6 - (w64 (q12*y7)))) fun y14=>
    zBU vm2 n next5 next13 y7 y14
   )
  else
   (
    some (vr4,x6)
   )
def zBX(a1:Int)(vm2:Int):Option Int:=
 (qM a1 vm2).bind fun y3=>
 (zBU vm2 FU vm2 y3 0 1).bind fun o9=>
 bif (!eqI o9.1 1) then
  (
   some (-1)
  )
 else
  (
   (qM o9.2 vm2).bind fun y16=>
   some y16
  )
def zC1(a1:Int)(b2:Int):Option (Int×Int×Int):=
 (jZ a1 b2).bind fun y3=>
 bif (eqI b2 0) then
  (
   (zFY a1).bind fun y5=>
   some ((y3,y5,0))
  )
 else
  (
   (nz y3).bind fun z6=>
   (zCS b2).bind fun y7=>
   (nz y3).bind fun z8=>
   (zBX (w64 (Int.tdiv a1 y3)) (w64 (Int.tdiv y7 y3))).bind fun y9=>
   (nz b2).bind fun z10=>
   sI (w64 (Int.tdiv (w64 (y3 - (w64 (a1*y9)))) b2)) fun t11=>
   some ((y3,y9,t11))
  )
def zAC(f1:(Int×Int×Int))(x2:Int)(y3:Int):Option ((Int×Int×Int)×(Int×Int×Int×Int)):=
 (zC1 x2 y3).bind fun y4=>
 (zA7 f1 x2 y3).bind fun y5=>
 sI (w64 (0 - y4.2.2)) fun q6=>
 (zCj f1 x2 y3 q6 y4.2.1).bind fun y7=>
 (qM y7 (w64 (2*y5))).bind fun y8=>
 (nz (w64 (2*y5))).bind fun z9=>
 sI (w64 (Int.tdiv (w64 (y8 - y7)) (w64 (2*y5)))) fun t10=>
 sI (w64 (q6+(w64 (x2*t10)))) fun f11=>
 sI (w64 (y4.2.1+(w64 (y3*t10)))) fun f12=>
 sI (w64 (y7+(w64 ((w64 (2*y5))*t10)))) fun b13=>
 (zA4 f1).bind fun y14=>
 (nz (w64 (4*y5))).bind fun z15=>
 sI (w64 (Int.tdiv (w64 ((w64 (b13*b13)) - y14)) (w64 (4*y5)))) fun f16=>
 some (((y5,b13,f16),(x2,f11,y3,f12)))
def zBi(a1:Int)(vm2:Int)(b3:Int)(vn4:Int):Option (Int×Int×Bool):=
 (jZ vm2 vn4).bind fun y5=>
 (nz y5).bind fun z6=>
 bif (!eqI (Int.tmod (w64 (b3 - a1)) y5) 0) then
  (
   some ((0,0,false))
  )
 else
  (
   (nz y5).bind fun z8=>
   (nz y5).bind fun z9=>
   (nz y5).bind fun z10=>
   (zBX (w64 (Int.tdiv vm2 y5)) (w64 (Int.tdiv vn4 y5))).bind fun y11=>
   (nz y5).bind fun z12=>
   (qM (w64 ((w64 (Int.tdiv (w64 (b3 - a1)) y5))*y11)) (w64 (Int.tdiv vn4 y5))).bind fun y13=>
   (nz y5).bind fun z14=>
   sI (w64 ((w64 (Int.tdiv vm2 y5))*vn4)) fun all15=>
   (qM (w64 (a1+(w64 (vm2*y13)))) all15).bind fun y16=>
   some ((y16,all15,true))
  )
def zCk(t1:Int):Option (Int×Int×Int×Int):=
 some ((1,t1,0,1))
def zB8(f1:(Int×Int×Int))(g2:(Int×Int×Int)):Option ((Int×Int×Int)×(Int×Int×Int)×(Int×Int×Int×Int)×(Int×Int×Int×Int)):=
 (qL f1).bind fun y3=>
 (qL g2).bind fun y4=>
 (zBa y4.1 y3.1.1).bind fun y5=>
 (zAC y4.1 y5.1 y5.2).bind fun y6=>
 (qJ y4.2 y6.2).bind fun y7=>
 (qM y3.1.2.1 (w64 (2*y3.1.1))).bind fun y8=>
 (zBi y8 (w64 (2*y3.1.1)) y6.1.2.1 (w64 (2*y6.1.1))).bind fun y9=>
 (nz (w64 (2*y3.1.1))).bind fun z10=>
 (zCk (w64 (Int.tdiv (w64 (y9.1 - y3.1.2.1)) (w64 (2*y3.1.1))))).bind fun y11=>
 (qJ y3.2 y11).bind fun y12=>
 (nz (w64 (2*y6.1.1))).bind fun z13=>
 (zCk (w64 (Int.tdiv (w64 (y9.1 - y6.1.2.1)) (w64 (2*y6.1.1))))).bind fun y14=>
 (qJ y7 y14).bind fun y15=>
 (zA4 y3.1).bind fun y16=>
 (nz (w64 ((w64 (4*y3.1.1))*y6.1.1))).bind fun z17=>
 sI (w64 (Int.tdiv (w64 ((w64 (y9.1*y9.1)) - y16)) (w64 ((w64 (4*y3.1.1))*y6.1.1)))) fun cc18=>
 sI (w64 (y3.1.1*cc18)) fun f19=>
 sI (w64 (y6.1.1*cc18)) fun f20=>
 some (((y3.1.1,y9.1,f20),(y6.1.1,y9.1,f19),y12,y15))
def zDQ(a1:(Int×Int×Int))(e2:(Int×Int×Int)):Option (Int×Int×Int):=
 (nz e2.1).bind fun z3=>
 sI (w64 (a1.1*e2.1)) fun f4=>
 sI (w64 (Int.tdiv a1.2.2 e2.1)) fun f5=>
 some ((f4,a1.2.1,f5))
def zB4(f1:(Int×Int×Int)):Option (Int×Int×Int):=
 (qL f1).bind fun y2=>
 some y2.1
def zBv(f1:(Int×Int×Int))(g2:(Int×Int×Int)):Option (Int×Int×Int):=
 (zB8 f1 g2).bind fun y3=>
 (zDQ y3.1 y3.2.1).bind fun y4=>
 (zB4 y4).bind fun y5=>
 some y5
def zBs(f2:(Int×Int×Int))(l1:List (Int×Int×Int)):Nat→Int→Option (Unit ⊕ Int)
 |0,_=>none
 |n+1,t3=>
  bif (ltI t3 ((l1.length:Int))) then
   (
    (getI l1 t3).bind fun e7=>
    (some (((e7.1==f2.1)&&((e7.2.1==f2.2.1)&&(e7.2.2==f2.2.2))))).bind fun t8=>
    bif t8 then
     (
      some (.inr t3)
     )
    else
     (
      sI (w64 (t3+1)) fun t10=>
      zBs f2 l1 n t10
     )
   )
  else
   (
    some (.inl ())
   )
def zCi(l1:List (Int×Int×Int))(f2:(Int×Int×Int)):Option Int:=
 (zBs f2 l1 FU 0).bind fun qo5=>
 match qo5 with
 | .inr r=>some r
 | .inl o5=>some (-1)
def zB5(e11:(Int×Int×Int))(l6:List (List Int))(t5:Int)(y2:List (Int×Int×Int)):Nat→Int→List Int→Option (List Int)
 |0,_,_=>none
 |n+1,t13,l14=>
  bif (ltI t13 ((y2.length:Int))) then
   (
    (getI y2 t13).bind fun e18=>
    (getI y2 t13).bind fun e19=>
    (getI l6 t5).bind fun e16=>
    (getI l6 t5).bind fun e17=>
    (zBv e11 e19).bind fun y20=>
    (zCi y2 y20).bind fun y21=>
    (getI l14 t13).bind fun e22=>
    (getI l14 t13).bind fun e23=>
    sI (w64 (t13+1)) fun t24=>
    zB5 e11 l6 t5 y2 n t24 (l14.set (Int.toNat (t13)) y21)
   )
  else
   (
    some l14
   )
def zBq(y2:List (Int×Int×Int)):Nat→Int→List (List Int)→Option (List (List Int))
 |0,_,_=>none
 |n+1,t5,l6=>
  bif (ltI t5 ((y2.length:Int))) then
   (
    (getI y2 t5).bind fun e10=>
    (getI y2 t5).bind fun e11=>
    (mk ((y2.length:Int)) ((y2.length:Int))).bind fun u12=>
    (getI l6 t5).bind fun e25=>
    (getI l6 t5).bind fun e26=>
    (zB5 e11 l6 t5 y2 FU 0 (List.replicate (Int.toNat ((y2.length:Int))) ((0:Int)))).bind fun o16=>
    sI (w64 (t5+1)) fun t27=>
    zBq y2 n t27 (l6.set (Int.toNat (t5)) o16)
   )
  else
   (
    some l6
   )
def zB6(d1:Int):Option (List (List Int)):=
 (qK d1).bind fun y2=>
 (mk ((y2.length:Int)) ((y2.length:Int))).bind fun u3=>
 (some (List.replicate (Int.toNat ((y2.length:Int))) ((([]:List Int):List Int)))).bind fun l4=>
 (zBq y2 FU 0 l4).bind fun o8=>
 some o8
def zBr(i2:Int)(t1:List (List Int)):Nat→Int→Int→Option Int
 |0,_,_=>none
 |n+1,k3,j4=>
  bif (!eqI j4 0) then
   (
    (getI t1 j4).bind fun e8=>
    (getI e8 i2).bind fun e9=>
    sI (w64 (k3+1)) fun k10=>
    zBr i2 t1 n k10 e9
   )
  else
   (
    some k3
   )
def zCh(t1:List (List Int))(i2:Int):Option Int:=
 (zBr i2 t1 FU 1 i2).bind fun o6=>
 some o6
def zB7(t1:List (List Int)):Nat→Int→List Int→Option (List Int)
 |0,_,_=>none
 |n+1,t3,l4=>
  bif (ltI t3 ((t1.length:Int))) then
   (
    (zCh t1 t3).bind fun y8=>
    (getI l4 t3).bind fun e9=>
    (getI l4 t3).bind fun e10=>
    sI (w64 (t3+1)) fun t11=>
    zB7 t1 n t11 (l4.set (Int.toNat (t3)) y8)
   )
  else
   (
    some l4
   )
def zC2(t1:List (List Int)):Option (List Int):=
 (mk ((t1.length:Int)) ((t1.length:Int))).bind fun u2=>
 (zB7 t1 FU 0 (List.replicate (Int.toNat ((t1.length:Int))) ((0:Int)))).bind fun o6=>
 some o6
def zCg(d3:Int):Nat→Int→List Int→Option (Int×(List Int))
 |0,_,_=>none
 |n+1,vn8,l9=>
  (nz d3).bind fun z12=>
  bif (eqI (Int.tmod vn8 d3) 0) then
   (
    (room (l9.length+([d3]).length)).bind fun u14=>
    (nz d3).bind fun z15=>
    sI (w64 (Int.tdiv vn8 d3)) fun vn16=>
    zCg d3 n vn16 (l9++([d3]))
   )
  else
   (
    some (vn8,l9)
   )
def zDD:Nat→Int→Int→List Int→Option (Int×(List Int))
 |0,_,_,_=>none
 |n+1,vn2,d3,l4=>
  bif (leI (w64 (d3*d3)) vn2) then
   (
    (zCg d3 FU vn2 l4).bind fun o11=>
    sI (w64 (d3+1)) fun d17=>
    zDD n o11.1 d17 o11.2
   )
  else
   (
    some (vn2,l4)
   )
def zEG(vn1:Int):Option (List Int):=
 (zDD FU vn1 2 (([]:List Int))).bind fun o6=>
 bif (ltI 1 o6.1) then
  (
   (room (o6.2.length+([o6.1]).length)).bind fun u19=>
   some (o6.2++([o6.1]))
  )
 else
  (
   some o6.2
  )
def zEW(l1:List Int)(vn2:Int):Nat→Int→Option Int
 |0,_=>none
 |n+1,k3=>
  (bif (ltI k3 ((l1.length:Int))) then ((getI l1 k3).bind fun e7=>some (ltI e7 vn2)) else some false).bind fun b8=>
  bif b8 then
   (
    sI (w64 (k3+1)) fun k10=>
    zEW l1 vn2 n k10
   )
  else
   (
    some k3
   )
def zGP(l1:List Int)(vn2:Int):Option (List Int):=
 (zEW l1 vn2 FU 0).bind fun o5=>
 (bif (ltI o5 ((l1.length:Int))) then ((getI l1 o5).bind fun e12=>some (eqI e12 vn2)) else some false).bind fun b13=>
 bif b13 then
  (
   some l1
  )
 else
  (
   (slc l1.length 0 o5).bind fun u15=>
   (room ((([]:List Int)).length+(subl l1 0 o5).length)).bind fun u16=>
   (room (((([]:List Int))++(subl l1 0 o5)).length+([vn2]).length)).bind fun u17=>
   (slc l1.length o5 ((l1.length:Int))).bind fun u18=>
   (room ((((([]:List Int))++(subl l1 0 o5))++([vn2])).length+(subl l1 o5 ((l1.length:Int))).length)).bind fun u19=>
   (some ((((([]:List Int))++(subl l1 0 o5))++([vn2]))++(subl l1 o5 ((l1.length:Int))))).bind fun l20=>
   some l20
  )
def zDV(y2:List Int):Nat→List Int→Int→Option (List Int)
 |0,_,_=>none
 |n+1,out3,t4=>
  bif (ltI t4 ((y2.length:Int))) then
   (
    (getI y2 t4).bind fun e8=>
    (getI y2 t4).bind fun e9=>
    (zGP out3 e9).bind fun y10=>
    sI (w64 (t4+1)) fun t11=>
    zDV y2 n y10 t11
   )
  else
   (
    some out3
   )
def zBR(vn1:Int):Option (List Int):=
 (zEG vn1).bind fun y2=>
 (zDV y2 FU (([]:List Int)) 0).bind fun o6=>
 some o6
def zAw(p2:Int):Nat→Int→Int→Option Int
 |0,_,_=>none
 |n+1,vn3,k4=>
  (nz p2).bind fun z7=>
  bif (eqI (Int.tmod vn3 p2) 0) then
   (
    (nz p2).bind fun z9=>
    sI (w64 (Int.tdiv vn3 p2)) fun vn10=>
    sI (w64 (k4+1)) fun k11=>
    zAw p2 n vn10 k11
   )
  else
   (
    some k4
   )
def zBn(vn1:Int)(p2:Int):Option Int:=
 (zAw p2 FU vn1 0).bind fun o6=>
 some o6
def zAW(e8:Int)(l11:List Int)(last9:Int)(orders1:List Int)(q10:Int)(t3:Int)(y2:List Int):Nat→Int→Int→Option Int
 |0,_,_=>none
 |n+1,now16,t17=>
  bif (ltI t17 ((orders1.length:Int))) then
   (
    (getI orders1 t17).bind fun e21=>
    (nz e21).bind fun z22=>
    bif (eqI (Int.tmod q10 e21) 0) then
     (
      sI (w64 (now16+1)) fun now24=>
      sI (w64 (t17+1)) fun t25=>
      zAW e8 l11 last9 orders1 q10 t3 y2 n now24 t25
     )
    else
     (
      sI (w64 (t17+1)) fun t26=>
      zAW e8 l11 last9 orders1 q10 t3 y2 n now16 t26
     )
   )
  else
   (
    some now16
   )
def zAy(e8:Int)(o19:Int)(orders1:List Int)(q10:Int)(t3:Int)(y2:List Int)(y28:Int):Nat→List Int→Option (List Int)
 |0,_=>none
 |n+1,l29=>
  bif (ltI ((l29.length:Int)) y28) then
   (
    (room (l29.length+([1]).length)).bind fun u33=>
    zAy e8 o19 orders1 q10 t3 y2 y28 n (l29++([1]))
   )
  else
   (
    some l29
   )
def zAV(e8:Int)(o19:Int)(orders1:List Int)(q10:Int)(t3:Int)(y2:List Int)(y28:Int):Nat→Int→List Int→Option (List Int)
 |0,_,_=>none
 |n+1,i34,l35=>
  bif (ltI i34 y28) then
   (
    (getI l35 i34).bind fun e39=>
    (getI l35 i34).bind fun e40=>
    (getI l35 i34).bind fun e41=>
    (getI l35 i34).bind fun e42=>
    sI (w64 (i34+1)) fun i43=>
    zAV e8 o19 orders1 q10 t3 y2 y28 n i43 (l35.set (Int.toNat (i34)) (w64 (e40*e8)))
   )
  else
   (
    some l35
   )
def qN(e8:Int)(orders1:List Int)(t3:Int)(y2:List Int):Nat→Int→Int→List Int→Option (List Int)
 |0,_,_,_=>none
 |n+1,last9,q10,l11=>
  (nz q10).bind fun z14=>
  bif (eqI (Int.tmod ((orders1.length:Int)) q10) 0) then
   (
    (zAW e8 l11 last9 orders1 q10 t3 y2 FU 0 0).bind fun o19=>
    (nz last9).bind fun z27=>
    (zBn (w64 (Int.tdiv o19 last9)) e8).bind fun y28=>
    (zAy e8 o19 orders1 q10 t3 y2 y28 FU l11).bind fun o31=>
    (zAV e8 o19 orders1 q10 t3 y2 y28 FU 0 o31).bind fun o37=>
    sI (w64 (q10*e8)) fun q44=>
    qN e8 orders1 t3 y2 n o19 q44 o37
   )
  else
   (
    some l11
   )
def zBV(orders1:List Int)(y2:List Int):Nat→Int→List Int→Option (List Int)
 |0,_,_=>none
 |n+1,t3,l4=>
  bif (ltI t3 ((y2.length:Int))) then
   (
    (getI y2 t3).bind fun e8=>
    (qN e8 orders1 t3 y2 FU 1 e8 l4).bind fun o13=>
    sI (w64 (t3+1)) fun t45=>
    zBV orders1 y2 n t45 o13
   )
  else
   (
    some l4
   )
def zAx:Nat→Int→Int→List Int→Option (List Int)
 |0,_,_,_=>none
 |n+1,i47,j48,l49=>
  bif (ltI i47 j48) then
   (
    (getI l49 i47).bind fun e53=>
    (getI l49 i47).bind fun e54=>
    (getI l49 j48).bind fun e55=>
    (getI l49 j48).bind fun e56=>
    (getI l49 i47).bind fun e57=>
    (getI l49 i47).bind fun e58=>
    (getI (l49.set (Int.toNat (i47)) e56) j48).bind fun e59=>
    (getI (l49.set (Int.toNat (i47)) e56) j48).bind fun e60=>
    sI (w64 (j48 - 1)) fun j61=>
    sI (w64 (i47+1)) fun i62=>
    zAx n i62 j61 ((l49.set (Int.toNat (i47)) e56).set (Int.toNat (j48)) e54)
   )
  else
   (
    some l49
   )
def zCJ(orders1:List Int):Option (List Int):=
 (zBR ((orders1.length:Int))).bind fun y2=>
 (zBV orders1 y2 FU 0 (([]:List Int))).bind fun o6=>
 sI (w64 (((o6.length:Int)) - 1)) fun j46=>
 (zAx FU 0 j46 o6).bind fun o51=>
 some o51
def zA5(d1:Int):Option (List Int):=
 (zB6 d1).bind fun y2=>
 (zC2 y2).bind fun y3=>
 (zCJ y3).bind fun y4=>
 some y4
def zW(code1:List Int):Option (List Int):=
 (zR ((code1,0,0)) 8).bind fun y2=>
 bif (eqI y2.1 0) then
  (
   some (([]:List Int))
  )
 else
  (
   bif (eqI y2.1 1) then
    (
     (zR y2.2 4).bind fun y5=>
     (zR y5.2 9).bind fun y6=>
     some ([y5.1,y6.1])
    )
   else
    (
     bif (eqI y2.1 2) then
      (
       some ([2,2,2])
      )
     else
      (
       bif (eqI y2.1 3) then
        (
         (zR y2.2 8).bind fun y9=>
         some ([2,w64 (2*(w64 (1+y9.1)))])
        )
       else
        (
         bif (eqI y2.1 4) then
          (
           some ([1000,1000])
          )
         else
          (
           (zAl y2.2).bind fun y11=>
           (zA5 y11.1).bind fun y12=>
           some y12
          )
        )
      )
    )
  )
def zBK(factors1:List Int):Nat→Int→Int→Option (Int ⊕ (Int×Bool))
 |0,_,_=>none
 |n+1,product2,t3=>
  bif (ltI t3 ((factors1.length:Int))) then
   (
    (getI factors1 t3).bind fun e7=>
    (bif (bif (ltI e7 2) then true else (ltI 1000 e7)) then some true else ((bif (ltI 0 t3) then ((getI factors1 (w64 (t3 - 1))).bind fun e11=>(nz e11).bind fun z12=>some (!eqI (Int.tmod e7 e11) 0)) else some false).bind fun b13=>some b13)).bind fun b14=>
    bif b14 then
     (
      some (.inr (((0,false))))
     )
    else
     (
      sI (w64 (product2*e7)) fun product16=>
      bif (ltI 1000 product16) then
       (
        some (.inr (((0,false))))
       )
      else
       (
        sI (w64 (t3+1)) fun t18=>
        zBK factors1 n product16 t18
       )
     )
   )
  else
   (
    some (.inl product2)
   )
def zCl(factors1:List Int):Option (Int×Bool):=
 (zBK factors1 FU 1 0).bind fun qo5=>
 match qo5 with
 | .inr r=>some r
 | .inl o5=>some ((o5,true))
def j0(a1:Int)(vm2:Int):Option Int:=
 (nz vm2).bind fun z3=>
 sI (Int.tmod a1 vm2) fun vr4=>
 bif (ltI vr4 0) then
  (
   sI (w64 (vr4+vm2)) fun vr6=>
   some vr6
  )
 else
  (
   some vr4
  )
def qG(d1:Int):Option Bool:=
 (bif (bif (leI (-2000) d1) then (leI d1 (-3)) else false) then ((j0 d1 4).bind fun y4=>some (leI y4 1)) else some false).bind fun b5=>
 some b5
def zBM(hi2:Int):Nat→Int→List Int→Option (List Int)
 |0,_,_=>none
 |n+1,d3,l4=>
  bif (leI d3 hi2) then
   (
    (qG d3).bind fun y8=>
    bif y8 then
     (
      (room (l4.length+([d3]).length)).bind fun u10=>
      sI (w64 (d3+1)) fun d11=>
      zBM hi2 n d11 (l4++([d3]))
     )
    else
     (
      sI (w64 (d3+1)) fun d12=>
      zBM hi2 n d12 l4
     )
   )
  else
   (
    some l4
   )
def zAc(lo1:Int)(hi2:Int):Option (List Int):=
 (zBM hi2 FU lo1 (([]:List Int))).bind fun o6=>
 some o6
def zAB(so3:(Int→Option Bool))(y4:List Int):Nat→Int→List Int→Option (List Int)
 |0,_,_=>none
 |n+1,t5,l6=>
  bif (ltI t5 ((y4.length:Int))) then
   (
    (getI y4 t5).bind fun e10=>
    (getI y4 t5).bind fun e11=>
    (so3 e11).bind fun y12=>
    bif y12 then
     (
      (room (l6.length+([e11]).length)).bind fun u14=>
      sI (w64 (t5+1)) fun t15=>
      zAB so3 y4 n t15 (l6++([e11]))
     )
    else
     (
      sI (w64 (t5+1)) fun t16=>
      zAB so3 y4 n t16 l6
     )
   )
  else
   (
    some l6
   )
def zAq(lo1:Int)(hi2:Int)(so3:(Int→Option Bool)):Option (List Int):=
 (zAc lo1 hi2).bind fun y4=>
 (zAB so3 y4 FU 0 (([]:List Int))).bind fun o8=>
 some o8
def zT(f1:(Int×Int×Int)):Option Bool:=
 (some (bif (ltI (w64 (0 - f1.1)) f1.2.1) then (leI f1.2.1 f1.1) else false)).bind fun t3=>
 some t3
def zY(f1:(Int×Int×Int)):Option Bool:=
 (zT f1).bind fun y2=>
 (some (bif y2 then (bif (ltI f1.1 f1.2.2) then true else (bif (eqI f1.1 f1.2.2) then (leI 0 f1.2.1) else false)) else false)).bind fun t6=>
 some t6
def qT(a2:Int)(d1:Int):Nat→Int→List (Int×Int×Int)→Option (List (Int×Int×Int))
 |0,_,_=>none
 |n+1,b8,l9=>
  bif (leI b8 a2) then
   (
    (nz (w64 (4*a2))).bind fun z13=>
    (some (!eqI (Int.tmod (w64 ((w64 (b8*b8)) - d1)) (w64 (4*a2))) 0)).bind fun t14=>
    bif t14 then
     (
      sI (w64 (b8+1)) fun b16=>
      qT a2 d1 n b16 l9
     )
    else
     (
      (nz (w64 (4*a2))).bind fun z17=>
      sI (w64 (Int.tdiv (w64 ((w64 (b8*b8)) - d1)) (w64 (4*a2)))) fun f18=>
      (zY ((a2,b8,f18))).bind fun y19=>
      bif y19 then
       (
        (room (l9.length+([(a2,b8,f18)]).length)).bind fun u21=>
        sI (w64 (b8+1)) fun b22=>
        qT a2 d1 n b22 (l9++([(a2,b8,f18)]))
       )
      else
       (
        sI (w64 (b8+1)) fun b23=>
        qT a2 d1 n b23 l9
       )
     )
   )
  else
   (
    some l9
   )
def zAZ(d1:Int):Nat→Int→List (Int×Int×Int)→Option (List (Int×Int×Int))
 |0,_,_=>none
 |n+1,a2,l3=>
  bif (leI (w64 ((w64 (3*a2))*a2)) (w64 (0 - d1))) then
   (
    sI (w64 (1 - a2)) fun b7=>
    (qT a2 d1 FU b7 l3).bind fun o11=>
    sI (w64 (a2+1)) fun a24=>
    zAZ d1 n a24 o11
   )
  else
   (
    some l3
   )
def zCc(d1:Int):Option (List (Int×Int×Int)):=
 (zAZ d1 FU 1 (([]:List (Int×Int×Int)))).bind fun o5=>
 some o5
def zCo(vn1:Int):Option Int:=
 sI (mxI vn1 (w64 (0 - (mxI vn1 (-9223372036854775807))))) fun t2=>
 some t2
def zAM:Nat→Int→Int→Option Int
 |0,_,_=>none
 |n+1,a3,b4=>
  bif (!eqI b4 0) then
   (
    (nz b4).bind fun z8=>
    sI (Int.tmod a3 b4) fun b9=>
    zAM n b4 b9
   )
  else
   (
    some a3
   )
def zCn(a1:Int)(b2:Int):Option Int:=
 (zAM FU a1 b2).bind fun o6=>
 (zCo o6).bind fun y10=>
 some y10
def zAi(f1:(Int×Int×Int)):Option Int:=
 (zCn f1.2.1 f1.2.2).bind fun y2=>
 (zCn f1.1 y2).bind fun y3=>
 some y3
def zAI(forms1:List (Int×Int×Int)):Nat→Int→List (Int×Int×Int)→Option (List (Int×Int×Int))
 |0,_,_=>none
 |n+1,t2,l3=>
  bif (ltI t2 ((forms1.length:Int))) then
   (
    (getI forms1 t2).bind fun e7=>
    (zAi e7).bind fun y8=>
    bif (eqI y8 1) then
     (
      (room (l3.length+([e7]).length)).bind fun u10=>
      sI (w64 (t2+1)) fun t11=>
      zAI forms1 n t11 (l3++([e7]))
     )
    else
     (
      sI (w64 (t2+1)) fun t12=>
      zAI forms1 n t12 l3
     )
   )
  else
   (
    some l3
   )
def zCU(forms1:List (Int×Int×Int)):Option (List (Int×Int×Int)):=
 (zAI forms1 FU 0 (([]:List (Int×Int×Int)))).bind fun o5=>
 some o5
def zJ(d1:Int):Option (List (Int×Int×Int)):=
 (zCc d1).bind fun y2=>
 (zCU y2).bind fun y3=>
 some y3
def zAb(y2:List (Int×Int×Int)):Nat→Int→List ((Int×Int×Int)×Int)→Option (List ((Int×Int×Int)×Int))
 |0,_,_=>none
 |n+1,t3,l4=>
  bif (ltI t3 ((y2.length:Int))) then
   (
    (getI y2 t3).bind fun e8=>
    sI (w64 (t3+1)) fun t9=>
    zAb y2 n t9 (mPut e8 t3 l4)
   )
  else
   (
    some l4
   )
def q7(d1:Int):Option ((List (Int×Int×Int))×(List ((Int×Int×Int)×Int))):=
 (zJ d1).bind fun y2=>
 (zAb y2 FU 0 (([]:List ((Int×Int×Int)×Int)))).bind fun o6=>
 some ((y2,o6))
def zEI:Option (Int×Int×Int×Int):=
 some ((1,0,0,1))
def zAQ(a1:Int)(vm2:Int):Option Int:=
 (j0 a1 vm2).bind fun y3=>
 (nz vm2).bind fun z4=>
 sI (w64 (Int.tdiv (w64 (a1 - y3)) vm2)) fun t5=>
 some t5
def z5(f1:(Int×Int×Int)):Option (Int×Int×Int×Int):=
 (zY f1).bind fun y2=>
 bif y2 then
  (
   (zEI).bind fun y4=>
   some y4
  )
 else
  (
   (zT f1).bind fun y5=>
   bif (!y5) then
    (
     (zAQ (w64 (f1.1 - f1.2.1)) (w64 (2*f1.1))).bind fun y7=>
     some ((1,y7,0,1))
    )
   else
    (
     some ((0,-1,1,0))
    )
  )
def jU(f1:(Int×Int×Int))(x2:Int)(y3:Int):Option Int:=
 sI (w64 ((w64 ((w64 ((w64 (f1.1*x2))*x2))+(w64 ((w64 (f1.2.1*x2))*y3))))+(w64 ((w64 (f1.2.2*y3))*y3)))) fun t4=>
 some t4
def zAD(f1:(Int×Int×Int))(x2:Int)(y3:Int)(u4:Int)(v5:Int):Option Int:=
 sI (w64 ((w64 ((w64 ((w64 ((w64 (2*f1.1))*x2))*u4))+(w64 (f1.2.1*(w64 ((w64 (x2*v5))+(w64 (y3*u4))))))))+(w64 ((w64 ((w64 (2*f1.2.2))*y3))*v5)))) fun t6=>
 some t6
def zN(f1:(Int×Int×Int))(vm2:(Int×Int×Int×Int)):Option (Int×Int×Int):=
 (jU f1 vm2.1 vm2.2.2.1).bind fun y3=>
 (zAD f1 vm2.1 vm2.2.2.1 vm2.2.1 vm2.2.2.2).bind fun y4=>
 (jU f1 vm2.2.1 vm2.2.2.2).bind fun y5=>
 some ((y3,y4,y5))
def zQ(vm1:(Int×Int×Int×Int))(vn2:(Int×Int×Int×Int)):Option (Int×Int×Int×Int):=
 sI (w64 ((w64 (vm1.1*vn2.1))+(w64 (vm1.2.1*vn2.2.2.1)))) fun f3=>
 sI (w64 ((w64 (vm1.1*vn2.2.1))+(w64 (vm1.2.1*vn2.2.2.2)))) fun f4=>
 sI (w64 ((w64 (vm1.2.2.1*vn2.1))+(w64 (vm1.2.2.2*vn2.2.2.1)))) fun f5=>
 sI (w64 ((w64 (vm1.2.2.1*vn2.2.1))+(w64 (vm1.2.2.2*vn2.2.2.2)))) fun f6=>
 some ((f3,f4,f5,f6))
def zAa:Nat→Int→Int→Int→Int→Int→Int→Int→Option (Int×Int×Int×Int×Int×Int×Int)
 |0,_,_,_,_,_,_,_=>none
 |n+1,f3,f4,f5,f6,f7,f8,f9=>
  (zY ((f7,f8,f9))).bind fun y12=>
  bif (!y12) then
   (
    (z5 ((f7,f8,f9))).bind fun y14=>
    (zN ((f7,f8,f9)) y14).bind fun y15=>
    (zQ ((f3,f4,f5,f6)) y14).bind fun y16=>
    zAa n y16.1 y16.2.1 y16.2.2.1 y16.2.2.2 y15.1 y15.2.1 y15.2.2
   )
  else
   (
    some (f3,f4,f5,f6,f7,f8,f9)
   )
def zAL(f1:(Int×Int×Int)):Option ((Int×Int×Int)×(Int×Int×Int×Int)):=
 (zEI).bind fun y2=>
 (zAa FU y2.1 y2.2.1 y2.2.2.1 y2.2.2.2 f1.1 f1.2.1 f1.2.2).bind fun o11=>
 some ((o11.2.2.2.2,(o11.1,o11.2.1,o11.2.2.1,o11.2.2.2.1)))
def zA9(f1:(Int×Int×Int)):Option (Int×Int×Int):=
 (zAL f1).bind fun y2=>
 some y2.1
def zAm(a2:Int)(g1:(Int×Int×Int))(size3:Int)(x6:Int):Nat→Int→Option (Unit ⊕ (Int×Int))
 |0,_=>none
 |n+1,y10=>
  bif (leI y10 size3) then
   (
    (bif (eqI (mxI x6 y10) size3) then ((zCn x6 y10).bind fun y15=>some (eqI y15 1)) else some false).bind fun b16=>
    (bif b16 then ((jU g1 x6 y10).bind fun y18=>(zCn y18 a2).bind fun y19=>some (eqI y19 1)) else some false).bind fun b20=>
    bif b20 then
     (
      some (.inr (((x6,y10))))
     )
    else
     (
      sI (w64 (y10+1)) fun y22=>
      zAm a2 g1 size3 x6 n y22
     )
   )
  else
   (
    some (.inl ())
   )
def zBD(a2:Int)(g1:(Int×Int×Int))(size3:Int):Nat→Int→Option (Unit ⊕ (Int×Int))
 |0,_=>none
 |n+1,x6=>
  bif (leI x6 size3) then
   (
    (zAm a2 g1 size3 x6 FU 0).bind fun qo12=>
    match qo12 with
    | .inr r=>some (.inr r)
    | .inl o12=>
     sI (w64 (x6+1)) fun x23=>
     zBD a2 g1 size3 n x23
   )
  else
   (
    some (.inl ())
   )
def jT(a2:Int)(g1:(Int×Int×Int)):Nat→Int→Option (Unit ⊕ (Int×Int))
 |0,_=>none
 |n+1,size3=>
  (zBD a2 g1 size3 FU 0).bind fun qo8=>
  match qo8 with
  | .inr r=>some (.inr r)
  | .inl o8=>
   sI (w64 (size3+1)) fun size24=>
   jT a2 g1 n size24
def zBL(g1:(Int×Int×Int))(a2:Int):Option (Int×Int):=
 (jT a2 g1 FU 0).bind fun qo5=>
 match qo5 with
 | .inr r=>some r
 | .inl _=>none
def zDh(vm2:Int):Nat→Int→Int→Int→Int→Option Int
 |0,_,_,_,_=>none
 |n+1,x4,y5,vr6,vs7=>
  bif (!eqI vs7 0) then
   (
    (nz vs7).bind fun z11=>
    sI (w64 (Int.tdiv vr6 vs7)) fun q12=>
    sI (w64 (vr6 - (w64 (q12*vs7)))) fun vs13=>
    sI (w64 (x4 - (w64 (q12*y5)))) fun y14=>
    zDh vm2 n y5 y14 vs7 vs13
   )
  else
   (
    some x4
   )
def zCm(a1:Int)(vm2:Int):Option Int:=
 (j0 a1 vm2).bind fun y3=>
 (zDh vm2 FU 1 0 y3 vm2).bind fun o9=>
 (j0 o9 vm2).bind fun y15=>
 some y15
def zA0(f1:(Int×Int×Int))(x2:Int)(y3:Int):Option ((Int×Int×Int)×(Int×Int×Int×Int)):=
 (
  bif (eqI y3 0) then
   (
    some (0,x2)
   )
  else
   (
    (zCo y3).bind fun y6=>
    (zCm x2 y6).bind fun y7=>
    (nz y3).bind fun z8=>
    sI (w64 (Int.tdiv (w64 ((w64 (x2*y7)) - 1)) y3)) fun f9=>
    some (f9,y7)
   )
 ).bind fun j4=>
 (zN f1 ((x2,j4.1,y3,j4.2))).bind fun y10=>
 (zAQ y10.2.1 (w64 (2*y10.1))).bind fun y11=>
 sI (w64 (0 - y11)) fun t12=>
 sI (w64 (j4.1+(w64 (t12*x2)))) fun f13=>
 sI (w64 (j4.2+(w64 (t12*y3)))) fun f14=>
 (zN f1 ((x2,f13,y3,f14))).bind fun y15=>
 some ((y15,(x2,f13,y3,f14)))
def zAr(f1:(Int×Int×Int)):Option Int:=
 sI (w64 ((w64 (f1.2.1*f1.2.1)) - (w64 ((w64 (4*f1.1))*f1.2.2)))) fun t2=>
 some t2
def zC4(f1:(Int×Int×Int))(y4:((Int×Int×Int)×(Int×Int×Int×Int))):Nat→Int→Option Int
 |0,_=>none
 |n+1,f6=>
  (j0 (w64 (f6 - y4.1.2.1)) (w64 (2*y4.1.1))).bind fun y9=>
  bif (!eqI y9 0) then
   (
    sI (w64 (f6+(w64 (2*f1.1)))) fun f11=>
    zC4 f1 y4 n f11
   )
  else
   (
    some f6
   )
def zCT(f1:(Int×Int×Int))(g2:(Int×Int×Int)):Option (Int×Int×Int×Int×(Int×Int×Int×Int)×(Int×Int×Int×Int)):=
 (zBL g2 f1.1).bind fun y3=>
 (zA0 g2 y3.1 y3.2).bind fun y4=>
 (j0 f1.2.1 (w64 (2*f1.1))).bind fun y5=>
 (zC4 f1 y4 FU y5).bind fun o8=>
 (j0 o8 (w64 ((w64 (2*f1.1))*y4.1.1))).bind fun y12=>
 (zAr f1).bind fun y13=>
 (nz (w64 ((w64 (4*f1.1))*y4.1.1))).bind fun z14=>
 sI (w64 (Int.tdiv (w64 ((w64 (y12*y12)) - y13)) (w64 ((w64 (4*f1.1))*y4.1.1)))) fun f15=>
 (nz (w64 (2*f1.1))).bind fun z16=>
 sI (w64 (Int.tdiv (w64 (y12 - f1.2.1)) (w64 (2*f1.1)))) fun f17=>
 (nz (w64 (2*y4.1.1))).bind fun z18=>
 (zQ y4.2 ((1,w64 (Int.tdiv (w64 (y12 - y4.1.2.1)) (w64 (2*y4.1.1))),0,1))).bind fun y19=>
 some ((f1.1,y4.1.1,y12,f15,(1,f17,0,1),y19))
def zBJ(u1:(Int×Int×Int×Int×(Int×Int×Int×Int)×(Int×Int×Int×Int))):Option (Int×Int×Int):=
 sI (w64 (u1.1*u1.2.1)) fun f2=>
 some ((f2,u1.2.2.1,u1.2.2.2.1))
def zCL(f1:(Int×Int×Int))(g2:(Int×Int×Int)):Option (Int×Int×Int):=
 (zA9 f1).bind fun y3=>
 (zA9 g2).bind fun y4=>
 (zCT y3 y4).bind fun y5=>
 (zBJ y5).bind fun y6=>
 (zA9 y6).bind fun y7=>
 some y7
def zAY(g1:((List (Int×Int×Int))×(List ((Int×Int×Int)×Int))))(i2:Int)(k3:Int):Option Int:=
 (getI g1.1 i2).bind fun e4=>
 (getI g1.1 k3).bind fun e5=>
 (zCL e4 e5).bind fun y6=>
 sI (mAt y6 g1.2 0) fun t7=>
 some t7
def qQ(g1:((List (Int×Int×Int))×(List ((Int×Int×Int)×Int))))(i2:Int):Nat→Int→List Int→Option (List Int)
 |0,_,_=>none
 |n+1,p3,l4=>
  bif (!eqI p3 0) then
   (
    (room (l4.length+([p3]).length)).bind fun u8=>
    (zAY g1 p3 i2).bind fun y9=>
    qQ g1 i2 n y9 (l4++([p3]))
   )
  else
   (
    some l4
   )
def zAN(g1:((List (Int×Int×Int))×(List ((Int×Int×Int)×Int))))(i2:Int):Option (List Int):=
 (qQ g1 i2 FU i2 ([0])).bind fun o6=>
 some o6
def qR(g1:((List (Int×Int×Int))×(List ((Int×Int×Int)×Int)))):Nat→Int→List Int→Option (List Int)
 |0,_,_=>none
 |n+1,t2,l3=>
  bif (ltI t2 ((g1.1.length:Int))) then
   (
    (zAN g1 t2).bind fun y7=>
    (room (l3.length+([(y7.length:Int)]).length)).bind fun u8=>
    sI (w64 (t2+1)) fun t9=>
    qR g1 n t9 (l3++([(y7.length:Int)]))
   )
  else
   (
    some l3
   )
def zM(g1:((List (Int×Int×Int))×(List ((Int×Int×Int)×Int)))):Option (List Int):=
 (qR g1 FU 0 (([]:List Int))).bind fun o5=>
 some o5
def zDY(p3:Int):Nat→Int→List Int→Option (Int×(List Int))
 |0,_,_=>none
 |n+1,vn8,l9=>
  (nz p3).bind fun z12=>
  bif (eqI (Int.tmod vn8 p3) 0) then
   (
    (room (l9.length+([p3]).length)).bind fun u14=>
    (nz p3).bind fun z15=>
    sI (w64 (Int.tdiv vn8 p3)) fun vn16=>
    zDY p3 n vn16 (l9++([p3]))
   )
  else
   (
    some (vn8,l9)
   )
def zDi:Nat→Int→Int→List Int→Option (Int×(List Int))
 |0,_,_,_=>none
 |n+1,vn2,p3,l4=>
  bif (leI (w64 (p3*p3)) vn2) then
   (
    (zDY p3 FU vn2 l4).bind fun o11=>
    sI (w64 (p3+1)) fun p17=>
    zDi n o11.1 p17 o11.2
   )
  else
   (
    some (vn2,l4)
   )
def zEl(vn1:Int):Option (List Int):=
 (zDi FU vn1 2 (([]:List Int))).bind fun o6=>
 bif (ltI 1 o6.1) then
  (
   (room (o6.2.length+([o6.1]).length)).bind fun u19=>
   some (o6.2++([o6.1]))
  )
 else
  (
   some o6.2
  )
def zCV(y2:List Int):Nat→Int→List Int→Option (List Int)
 |0,_,_=>none
 |n+1,t3,l4=>
  bif (ltI t3 ((y2.length:Int))) then
   (
    (getI y2 t3).bind fun e8=>
    (getI y2 t3).bind fun e9=>
    (bif (eqI ((l4.length:Int)) 0) then some true else ((getI l4 (w64 (((l4.length:Int)) - 1))).bind fun e11=>(getI l4 (w64 (((l4.length:Int)) - 1))).bind fun e12=>some (!eqI e12 e9))).bind fun b13=>
    bif b13 then
     (
      (room (l4.length+([e9]).length)).bind fun u15=>
      sI (w64 (t3+1)) fun t16=>
      zCV y2 n t16 (l4++([e9]))
     )
    else
     (
      sI (w64 (t3+1)) fun t17=>
      zCV y2 n t17 l4
     )
   )
  else
   (
    some l4
   )
def zBS(vn1:Int):Option (List Int):=
 (zEl vn1).bind fun y2=>
 (zCV y2 FU 0 (([]:List Int))).bind fun o6=>
 some o6
def zEk(p2:Int):Nat→Int→Int→Option Int
 |0,_,_=>none
 |n+1,vn3,q4=>
  (nz p2).bind fun z7=>
  bif (eqI (Int.tmod vn3 p2) 0) then
   (
    sI (w64 (q4*p2)) fun q9=>
    (nz p2).bind fun z10=>
    sI (w64 (Int.tdiv vn3 p2)) fun vn11=>
    zEk p2 n vn11 q9
   )
  else
   (
    some q4
   )
def zFM(vn1:Int)(p2:Int):Option Int:=
 (zEk p2 FU vn1 1).bind fun o6=>
 some o6
def zBd(p2:Int):Nat→Int→Int→Option Int
 |0,_,_=>none
 |n+1,vn3,k4=>
  (nz p2).bind fun z7=>
  bif (eqI (Int.tmod vn3 p2) 0) then
   (
    sI (w64 (k4+1)) fun k9=>
    (nz p2).bind fun z10=>
    sI (w64 (Int.tdiv vn3 p2)) fun vn11=>
    zBd p2 n vn11 k9
   )
  else
   (
    some k4
   )
def zBk(vn1:Int)(p2:Int):Option Int:=
 (zBd p2 FU vn1 0).bind fun o6=>
 some o6
def jI(before10:Int)(e9:Int)(l12:List Int)(orders1:List Int)(q11:Int)(t3:Int)(y2:List Int):Nat→Int→Int→Option Int
 |0,_,_=>none
 |n+1,many17,t18=>
  bif (ltI t18 ((orders1.length:Int))) then
   (
    (getI orders1 t18).bind fun e22=>
    (nz e22).bind fun z23=>
    bif (eqI (Int.tmod q11 e22) 0) then
     (
      sI (w64 (many17+1)) fun many25=>
      sI (w64 (t18+1)) fun t26=>
      jI before10 e9 l12 orders1 q11 t3 y2 n many25 t26
     )
    else
     (
      sI (w64 (t18+1)) fun t27=>
      jI before10 e9 l12 orders1 q11 t3 y2 n many17 t27
     )
   )
  else
   (
    some many17
   )
def jH(before10:Int)(e9:Int)(o20:Int)(orders1:List Int)(q11:Int)(t3:Int)(y2:List Int):Nat→Int→List Int→Option (List Int)
 |0,_,_=>none
 |n+1,i28,l29=>
  (nz before10).bind fun z32=>
  (zBk (w64 (Int.tdiv o20 before10)) e9).bind fun y33=>
  bif (ltI i28 y33) then
   (
    (
     bif (eqI i28 ((l29.length:Int))) then
      (
       (room (l29.length+([1]).length)).bind fun u37=>
       some (l29++([1]))
      )
     else
      (
       some l29
      )
    ).bind fun j35=>
    (getI j35 i28).bind fun e38=>
    (getI j35 i28).bind fun e39=>
    (getI j35 i28).bind fun e40=>
    (getI j35 i28).bind fun e41=>
    sI (w64 (i28+1)) fun i42=>
    jH before10 e9 o20 orders1 q11 t3 y2 n i42 (j35.set (Int.toNat (i28)) (w64 (e39*e9)))
   )
  else
   (
    some l29
   )
def zAK(e9:Int)(orders1:List Int)(t3:Int)(y2:List Int):Nat→Int→Int→List Int→Option (List Int)
 |0,_,_,_=>none
 |n+1,before10,q11,l12=>
  (zFM ((orders1.length:Int)) e9).bind fun y15=>
  bif (ltI before10 y15) then
   (
    (jI before10 e9 l12 orders1 q11 t3 y2 FU 0 0).bind fun o20=>
    (jH before10 e9 o20 orders1 q11 t3 y2 FU 0 l12).bind fun o31=>
    sI (w64 (q11*e9)) fun q43=>
    zAK e9 orders1 t3 y2 n o20 q43 o31
   )
  else
   (
    some l12
   )
def zAX(orders1:List Int)(y2:List Int):Nat→Int→List Int→Option (List Int)
 |0,_,_=>none
 |n+1,t3,l4=>
  bif (ltI t3 ((y2.length:Int))) then
   (
    (getI y2 t3).bind fun e8=>
    (getI y2 t3).bind fun e9=>
    (zAK e9 orders1 t3 y2 FU 1 e9 l4).bind fun o14=>
    sI (w64 (t3+1)) fun t44=>
    zAX orders1 y2 n t44 o14
   )
  else
   (
    some l4
   )
def zAJ:Nat→Int→Int→List Int→Option (List Int)
 |0,_,_,_=>none
 |n+1,l46,vr47,l48=>
  bif (ltI l46 vr47) then
   (
    (getI l48 vr47).bind fun e52=>
    (getI l48 vr47).bind fun e53=>
    (getI l48 l46).bind fun e54=>
    (getI l48 l46).bind fun e55=>
    (getI l48 l46).bind fun e56=>
    (getI l48 l46).bind fun e57=>
    (getI (l48.set (Int.toNat (l46)) e53) vr47).bind fun e58=>
    (getI (l48.set (Int.toNat (l46)) e53) vr47).bind fun e59=>
    sI (w64 (l46+1)) fun l60=>
    sI (w64 (vr47 - 1)) fun vr61=>
    zAJ n l60 vr61 ((l48.set (Int.toNat (l46)) e53).set (Int.toNat (vr47)) e55)
   )
  else
   (
    some l48
   )
def qV(orders1:List Int):Option (List Int):=
 (zBS ((orders1.length:Int))).bind fun y2=>
 (zAX orders1 y2 FU 0 (([]:List Int))).bind fun o6=>
 sI (w64 (((o6.length:Int)) - 1)) fun vr45=>
 (zAJ FU 0 vr45 o6).bind fun o50=>
 some o50
def zBB(x1:List Int)(y2:List Int):Nat→Int→Option (Unit ⊕ Bool)
 |0,_=>none
 |n+1,t4=>
  bif (ltI t4 ((x1.length:Int))) then
   (
    (getI x1 t4).bind fun e8=>
    (getI y2 t4).bind fun e9=>
    bif (!eqI e9 e8) then
     (
      some (.inr false)
     )
    else
     (
      sI (w64 (t4+1)) fun t11=>
      zBB x1 y2 n t11
     )
   )
  else
   (
    some (.inl ())
   )
def zA8(x1:List Int)(y2:List Int):Option Bool:=
 bif (!eqI ((x1.length:Int)) ((y2.length:Int))) then
  (
   some false
  )
 else
  (
   (zBB x1 y2 FU 0).bind fun qo6=>
   match qo6 with
   | .inr r=>some r
   | .inl o6=>some true
  )
def q8(d1:Int)(cap2:Int)(cap3:List Int):Option Bool:=
 (zJ d1).bind fun y4=>
 (bif (eqI ((y4.length:Int)) cap2) then ((q7 d1).bind fun y6=>(zM y6).bind fun y7=>(qV y7).bind fun y8=>(zA8 y8 cap3).bind fun y9=>some y9) else some false).bind fun b10=>
 some b10
def zL(factors1:List Int):Option ((List Int)×Bool):=
 (zCl factors1).bind fun y2=>
 bif (!y2.2) then
  (
   some ((([]:List Int),false))
  )
 else
  (
   (zAq (-2000) (-3) (fun x0=>q8 x0 y2.1 factors1)).bind fun y4=>
   some ((y4,true))
  )
def zAf(l1:List Int):Nat→Int→Int→Option (Int ⊕ (Int×Bool))
 |0,_,_=>none
 |n+1,vn2,t3=>
  bif (ltI t3 ((l1.length:Int))) then
   (
    (getI l1 t3).bind fun e7=>
    (zBo e7 2 1000).bind fun y8=>
    (bif (!y8) then some true else ((bif (ltI 0 t3) then ((getI l1 (w64 (t3 - 1))).bind fun e11=>(nz e11).bind fun z12=>some (!eqI (Int.tmod e7 e11) 0)) else some false).bind fun b13=>some b13)).bind fun b14=>
    bif b14 then
     (
      some (.inr (((0,false))))
     )
    else
     (
      sI (w64 (vn2*e7)) fun vn16=>
      bif (ltI 1000 vn16) then
       (
        some (.inr (((0,false))))
       )
      else
       (
        sI (w64 (t3+1)) fun t18=>
        zAf l1 n vn16 t18
       )
     )
   )
  else
   (
    some (.inl vn2)
   )
def zBW(l1:List Int):Option (Int×Bool):=
 (zAf l1 FU 1 0).bind fun qo5=>
 match qo5 with
 | .inr r=>some r
 | .inl o5=>some ((o5,true))
def zBH(hi2:Int):Nat→Int→List Int→Option (List Int)
 |0,_,_=>none
 |n+1,d3,l4=>
  bif (leI d3 hi2) then
   (
    (zC8 d3).bind fun y8=>
    bif y8 then
     (
      (room (l4.length+([d3]).length)).bind fun u10=>
      sI (w64 (d3+1)) fun d11=>
      zBH hi2 n d11 (l4++([d3]))
     )
    else
     (
      sI (w64 (d3+1)) fun d12=>
      zBH hi2 n d12 l4
     )
   )
  else
   (
    some l4
   )
def zA6(lo1:Int)(hi2:Int):Option (List Int):=
 (zBH hi2 FU lo1 (([]:List Int))).bind fun o6=>
 some o6
def zCH(a1:List Int)(b2:List Int):Nat→Int→Option (Unit ⊕ Bool)
 |0,_=>none
 |n+1,t4=>
  bif (ltI t4 ((a1.length:Int))) then
   (
    (getI a1 t4).bind fun e8=>
    (getI b2 t4).bind fun e9=>
    bif (!eqI e8 e9) then
     (
      some (.inr false)
     )
    else
     (
      sI (w64 (t4+1)) fun t11=>
      zCH a1 b2 n t11
     )
   )
  else
   (
    some (.inl ())
   )
def zCB(a1:List Int)(b2:List Int):Option Bool:=
 bif (!eqI ((a1.length:Int)) ((b2.length:Int))) then
  (
   some false
  )
 else
  (
   (zCH a1 b2 FU 0).bind fun qo6=>
   match qo6 with
   | .inr r=>some r
   | .inl o6=>some true
  )
def zZ(factors1:List Int)(y2:(Int×Bool))(y4:List Int):Nat→Int→List Int→Option (List Int)
 |0,_,_=>none
 |n+1,t5,l6=>
  bif (ltI t5 ((y4.length:Int))) then
   (
    (getI y4 t5).bind fun e10=>
    (getI y4 t5).bind fun e11=>
    (qK e11).bind fun y12=>
    (bif (eqI ((y12.length:Int)) y2.1) then ((zA5 e11).bind fun y14=>(zCB y14 factors1).bind fun y15=>some y15) else some false).bind fun b16=>
    bif b16 then
     (
      (room (l6.length+([e11]).length)).bind fun u18=>
      sI (w64 (t5+1)) fun t19=>
      zZ factors1 y2 y4 n t19 (l6++([e11]))
     )
    else
     (
      sI (w64 (t5+1)) fun t20=>
      zZ factors1 y2 y4 n t20 l6
     )
   )
  else
   (
    some l6
   )
def zS(factors1:List Int):Option ((List Int)×Bool):=
 (zBW factors1).bind fun y2=>
 bif (!y2.2) then
  (
   some ((([]:List Int),false))
  )
 else
  (
   (zA6 (-2000) (-3)).bind fun y4=>
   (zZ factors1 y2 y4 FU 0 (([]:List Int))).bind fun o8=>
   some ((o8,true))
  )
def zBb(a1:List Int)(b2:List Int):Nat→Int→Option (Unit ⊕ Bool)
 |0,_=>none
 |n+1,t4=>
  bif (ltI t4 ((a1.length:Int))) then
   (
    (getI a1 t4).bind fun e8=>
    (getI b2 t4).bind fun e9=>
    bif (!eqI e8 e9) then
     (
      some (.inr false)
     )
    else
     (
      sI (w64 (t4+1)) fun t11=>
      zBb a1 b2 n t11
     )
   )
  else
   (
    some (.inl ())
   )
def qZ(a1:List Int)(b2:List Int):Option Bool:=
 bif (!eqI ((a1.length:Int)) ((b2.length:Int))) then
  (
   some false
  )
 else
  (
   (zBb a1 b2 FU 0).bind fun qo6=>
   match qo6 with
   | .inr r=>some r
   | .inl o6=>some true
  )
def zAd(d1:Int)(cap2:Int):Option Bool:=
 (zJ d1).bind fun y3=>
 some (eqI ((y3.length:Int)) cap2)
def qA(vh1:Int):Option ((List Int)×Bool):=
 bif (bif (ltI vh1 1) then true else (ltI 1000 vh1)) then
  (
   some ((([]:List Int),false))
  )
 else
  (
   (zAq (-2000) (-3) (fun x0=>zAd x0 vh1)).bind fun y4=>
   some ((y4,true))
  )
def zDJ(l1:List Int)(vn2:Int):Nat→Int→Option (Unit ⊕ Bool)
 |0,_=>none
 |n+1,t3=>
  bif (ltI t3 ((l1.length:Int))) then
   (
    (getI l1 t3).bind fun e7=>
    bif (eqI e7 vn2) then
     (
      some (.inr true)
     )
    else
     (
      sI (w64 (t3+1)) fun t9=>
      zDJ l1 vn2 n t9
     )
   )
  else
   (
    some (.inl ())
   )
def zEj(l1:List Int)(vn2:Int):Option Bool:=
 (zDJ l1 vn2 FU 0).bind fun qo5=>
 match qo5 with
 | .inr r=>some r
 | .inl o5=>some false
def zAp(b1:List Int):Nat→Int→Int→Option Int
 |0,_,_=>none
 |n+1,vn2,t3=>
  bif (ltI t3 ((b1.length:Int))) then
   (
    (getI b1 t3).bind fun e7=>
    sI (Int.tmod (w64 ((w64 (31*vn2))+(IntKind.i64.wrap e7))) 1000003) fun vn8=>
    sI (w64 (t3+1)) fun t9=>
    zAp b1 n vn8 t9
   )
  else
   (
    some vn2
   )
def zBj(b1:List Int):Option Int:=
 (zAp b1 FU 0 0).bind fun o5=>
 some o5
def jP(d1:Int):Option ((List Int)×Bool):=
 (qG d1).bind fun y2=>
 bif (!y2) then
  (
   some ((([]:List Int),false))
  )
 else
  (
   (q7 d1).bind fun y4=>
   (zM y4).bind fun y5=>
   (qV y5).bind fun y6=>
   some ((y6,true))
  )
def zCI(cc1:((List Int)×Int×Int))(vn2:Int):Option (Bool×((List Int)×Int×Int)):=
 (zR cc1 vn2).bind fun y3=>
 some ((eqI y3.1 0,y3.2))
def zAg(cc1:((List Int)×Int×Int)):Option (Int×Int×((List Int)×Int×Int)):=
 (zR cc1 1990).bind fun y2=>
 (zR y2.2 300).bind fun y3=>
 (jR y3.2 ([-2000,-100,-30,-8,-4,-3,-2001,w64 ((-3) - y2.1),w64 ((-3) - y3.1)])).bind fun y4=>
 (zR y4.2 60).bind fun y5=>
 (jR y5.2 ([0,1,2,3,10,30,78,80,82,-1,y5.1])).bind fun y6=>
 sI (w64 (y4.1+y6.1)) fun t7=>
 some ((y4.1,t7,y6.2))
def qY(code1:List Int):Option (Int×Int):=
 (zCI ((code1,0,0)) 8).bind fun y2=>
 bif y2.1 then
  (
   some ((-2000,-3))
  )
 else
  (
   (zAg y2.2).bind fun y4=>
   some ((y4.1,y4.2.1))
  )
def zBC(lo1:Int)(hi2:Int):Option Bool:=
 (some (bif (bif (leI (-2000) lo1) then (leI lo1 hi2) else false) then (leI hi2 (-3)) else false)).bind fun t5=>
 some t5
def jE(y5:List Int):Nat→Int→Int→Int→Option (Int×Int)
 |0,_,_,_=>none
 |n+1,most6,vat7,t8=>
  bif (ltI t8 ((y5.length:Int))) then
   (
    (getI y5 t8).bind fun e12=>
    (getI y5 t8).bind fun e13=>
    (zJ e13).bind fun y14=>
    bif (leI most6 ((y14.length:Int))) then
     (
      sI (w64 (t8+1)) fun t16=>
      jE y5 n ((y14.length:Int)) e13 t16
     )
    else
     (
      sI (w64 (t8+1)) fun t17=>
      jE y5 n most6 vat7 t17
     )
   )
  else
   (
    some (most6,vat7)
   )
def jK(lo1:Int)(hi2:Int):Option (Int×Int×Bool):=
 (zBC lo1 hi2).bind fun y3=>
 bif (!y3) then
  (
   some ((0,0,false))
  )
 else
  (
   (zAc lo1 hi2).bind fun y5=>
   (jE y5 FU 0 0 0).bind fun o10=>
   some ((o10.1,o10.2,ltI 0 o10.1))
  )
def zB2(lo1:Int)(hi2:Int):Option Bool:=
 (zBo lo1 (-2000) hi2).bind fun y3=>
 some (bif y3 then (leI hi2 (-3)) else false)
def jC(y5:List Int):Nat→Int→Int→Int→Option (Int×Int)
 |0,_,_,_=>none
 |n+1,best6,vat7,t8=>
  bif (ltI t8 ((y5.length:Int))) then
   (
    (getI y5 t8).bind fun e12=>
    (getI y5 t8).bind fun e13=>
    (qK e13).bind fun y14=>
    bif (leI best6 ((y14.length:Int))) then
     (
      sI (w64 (t8+1)) fun t16=>
      jC y5 n ((y14.length:Int)) e13 t16
     )
    else
     (
      sI (w64 (t8+1)) fun t17=>
      jC y5 n best6 vat7 t17
     )
   )
  else
   (
    some (best6,vat7)
   )
def jG(lo1:Int)(hi2:Int):Option (Int×Int×Bool):=
 (zB2 lo1 hi2).bind fun y3=>
 bif (!y3) then
  (
   some ((0,0,false))
  )
 else
  (
   (zA6 lo1 hi2).bind fun y5=>
   (jC y5 FU 0 0 0).bind fun o10=>
   some ((o10.1,o10.2,ltI 0 o10.1))
  )
def zAO(t6:Int)(y13:List (Int×Int×Int))(y5:List Int):Nat→List Int→Option (List Int)
 |0,_=>none
 |n+1,l14=>
  bif (leI ((l14.length:Int)) ((y13.length:Int))) then
   (
    (room (l14.length+([0]).length)).bind fun u18=>
    zAO t6 y13 y5 n (l14++([0]))
   )
  else
   (
    some l14
   )
def zA1(y5:List Int):Nat→Int→List Int→Option (List Int)
 |0,_,_=>none
 |n+1,t6,l7=>
  bif (ltI t6 ((y5.length:Int))) then
   (
    (getI y5 t6).bind fun e11=>
    (getI y5 t6).bind fun e12=>
    (zJ e12).bind fun y13=>
    (zAO t6 y13 y5 FU l7).bind fun o16=>
    (getI o16 ((y13.length:Int))).bind fun e19=>
    (getI o16 ((y13.length:Int))).bind fun e20=>
    (getI o16 ((y13.length:Int))).bind fun e21=>
    (getI o16 ((y13.length:Int))).bind fun e22=>
    sI (w64 (t6+1)) fun t23=>
    zA1 y5 n t23 (o16.set (Int.toNat ((y13.length:Int))) (w64 (e20+1)))
   )
  else
   (
    some l7
   )
def zA2(lo1:Int)(hi2:Int):Option ((List Int)×Bool):=
 (zBC lo1 hi2).bind fun y3=>
 bif (!y3) then
  (
   some ((([]:List Int),false))
  )
 else
  (
   (zAc lo1 hi2).bind fun y5=>
   (zA1 y5 FU 0 (([]:List Int))).bind fun o9=>
   some ((o9,true))
  )
def zCG(d1:Int):Option ((List (Int×Int×Int))×Bool):=
 (qG d1).bind fun y2=>
 bif (!y2) then
  (
   some ((([]:List (Int×Int×Int)),false))
  )
 else
  (
   (zJ d1).bind fun y4=>
   some ((y4,true))
  )
def zAs(d1:Int):Option (Int×Bool):=
 (zCG d1).bind fun y2=>
 some (((y2.1.length:Int),y2.2))
def qX(code1:List Int):Option (Int×Int):=
 (zAg ((code1,0,0))).bind fun y2=>
 some ((y2.1,y2.2.1))
def zCW(d1:Int)(y2:List Int):Nat→Int→List (Int×Int)→Option (List (Int×Int))
 |0,_,_=>none
 |n+1,t3,l4=>
  bif (ltI t3 ((y2.length:Int))) then
   (
    (getI y2 t3).bind fun e8=>
    (getI y2 t3).bind fun e9=>
    bif (ltI 2 e9) then
     (
      (room (l4.length+([(1,e9)]).length)).bind fun u11=>
      sI (w64 (t3+1)) fun t12=>
      zCW d1 y2 n t12 (l4++([(1,e9)]))
     )
    else
     (
      sI (w64 (t3+1)) fun t13=>
      zCW d1 y2 n t13 l4
     )
   )
  else
   (
    some l4
   )
def zEY(d1:Int):Option (List (Int×Int)):=
 (zBS (w64 (0 - d1))).bind fun y2=>
 (zCW d1 y2 FU 0 (([]:List (Int×Int)))).bind fun o6=>
 bif (!eqI (Int.tmod d1 2) 0) then
  (
   some o6
  )
 else
  (
   sI (w64 (Int.tdiv (w64 (0 - d1)) 4)) fun vn15=>
   sI (Int.tmod vn15 8) fun t16=>
   (
    bif (eqI t16 1) then
     (
      some (eqI t16 1)
     )
    else
     (
      bif (eqI t16 5) then
       (
        some (eqI t16 5)
       )
      else
       (
        some (eqI t16 4)
       )
     )
   ).bind fun j17=>
   bif j17 then
    (
     (room (o6.length+([(2,0)]).length)).bind fun u21=>
     some (o6++([(2,0)]))
    )
   else
    (
     bif (eqI t16 2) then
      (
       (room (o6.length+([(4,0)]).length)).bind fun u23=>
       some (o6++([(4,0)]))
      )
     else
      (
       bif (eqI t16 6) then
        (
         (room (o6.length+([(3,0)]).length)).bind fun u25=>
         some (o6++([(3,0)]))
        )
       else
        (
         bif (eqI t16 0) then
          (
           (room (o6.length+([(2,0),(3,0)]).length)).bind fun u27=>
           some (o6++([(2,0),(3,0)]))
          )
         else
          (
           some o6
          )
        )
      )
    )
  )
def zBc(vn1:Int):Option Int:=
 (j0 vn1 8).bind fun y2=>
 bif (bif (eqI y2 1) then true else (eqI y2 7)) then
  (
   some 1
  )
 else
  (
   some (-1)
  )
def zDg(vn5:Int):Nat→Int→Int→Option (Int×Int)
 |0,_,_=>none
 |n+1,a10,vs11=>
  bif (eqI (Int.tmod a10 2) 0) then
   (
    sI (w64 (Int.tdiv a10 2)) fun a15=>
    (zBc vn5).bind fun y16=>
    sI (w64 (vs11*y16)) fun vs17=>
    zDg vn5 n a15 vs17
   )
  else
   (
    some (a10,vs11)
   )
def zCu:Nat→Int→Int→Int→Option (Int×Int)
 |0,_,_,_=>none
 |n+1,a4,vn5,vs6=>
  bif (!eqI a4 0) then
   (
    (zDg vn5 FU a4 vs6).bind fun o13=>
    (some (bif (eqI (Int.tmod o13.1 4) 3) then (eqI (Int.tmod vn5 4) 3) else false)).bind fun t19=>
    bif t19 then
     (
      sI (w64 (0 - o13.2)) fun vs21=>
      (nz o13.1).bind fun z22=>
      sI (Int.tmod vn5 o13.1) fun a23=>
      zCu n a23 o13.1 vs21
     )
    else
     (
      (nz o13.1).bind fun z24=>
      sI (Int.tmod vn5 o13.1) fun a25=>
      zCu n a25 o13.1 o13.2
     )
   )
  else
   (
    some (vn5,vs6)
   )
def zF0(a1:Int)(vn2:Int):Option Int:=
 (j0 a1 vn2).bind fun y3=>
 (zCu FU y3 vn2 1).bind fun o8=>
 bif (!eqI o8.1 1) then
  (
   some 0
  )
 else
  (
   some o8.2
  )
def zCX(x1:(Int×Int))(vn2:Int):Option Int:=
 bif (eqI x1.1 1) then
  (
   (zF0 vn2 x1.2).bind fun y4=>
   some y4
  )
 else
  (
   bif (eqI (Int.tmod vn2 2) 0) then
    (
     some 0
    )
   else
    (
     (j0 vn2 4).bind fun y6=>
     sI (w64 (2 - y6)) fun delta7=>
     bif (eqI x1.1 2) then
      (
       some delta7
      )
     else
      (
       bif (eqI x1.1 3) then
        (
         (zBc vn2).bind fun y10=>
         some y10
        )
       else
        (
         (zBc vn2).bind fun y11=>
         sI (w64 (delta7*y11)) fun t12=>
         some t12
        )
      )
    )
  )
def zDX(vn2:Int)(y3:List (Int×Int)):Nat→Int→List Int→Option (List Int)
 |0,_,_=>none
 |n+1,t4,l5=>
  bif (ltI t4 ((y3.length:Int))) then
   (
    (getI y3 t4).bind fun e9=>
    (getI y3 t4).bind fun e10=>
    (zCX e10 vn2).bind fun y11=>
    (room (l5.length+([y11]).length)).bind fun u12=>
    sI (w64 (t4+1)) fun t13=>
    zDX vn2 y3 n t13 (l5++([y11]))
   )
  else
   (
    some l5
   )
def zEX(d1:Int)(vn2:Int):Option (List Int):=
 (zEY d1).bind fun y3=>
 (zDX vn2 y3 FU 0 (([]:List Int))).bind fun o7=>
 some o7
def qH(f1:(Int×Int×Int)):Option (List Int):=
 (zA9 f1).bind fun y2=>
 (zAr y2).bind fun y3=>
 (zBL y2 (w64 (2*y3))).bind fun y4=>
 (jU y2 y4.1 y4.2).bind fun y5=>
 (zEX y3 y5).bind fun y6=>
 some y6
def zAh(values2:List Int)(y3:List (Int×Int×Int)):Nat→Int→List (Int×Int×Int)→Option (List (Int×Int×Int))
 |0,_,_=>none
 |n+1,t4,l5=>
  bif (ltI t4 ((y3.length:Int))) then
   (
    (getI y3 t4).bind fun e9=>
    (getI y3 t4).bind fun e10=>
    (qH e10).bind fun y11=>
    (zA8 y11 values2).bind fun y12=>
    bif y12 then
     (
      (room (l5.length+([e10]).length)).bind fun u14=>
      sI (w64 (t4+1)) fun t15=>
      zAh values2 y3 n t15 (l5++([e10]))
     )
    else
     (
      sI (w64 (t4+1)) fun t16=>
      zAh values2 y3 n t16 l5
     )
   )
  else
   (
    some l5
   )
def zCK(d1:Int)(values2:List Int):Option (List (Int×Int×Int)):=
 (zJ d1).bind fun y3=>
 (zAh values2 y3 FU 0 (([]:List (Int×Int×Int)))).bind fun o7=>
 some o7
def zBY(d1:Int)(y2:List (Int×Int×Int)):Nat→Int→List (List (Int×Int×Int))→Option (List (List (Int×Int×Int)))
 |0,_,_=>none
 |n+1,t3,l4=>
  bif (ltI t3 ((y2.length:Int))) then
   (
    (getI y2 t3).bind fun e8=>
    (getI y2 t3).bind fun e9=>
    (qH e9).bind fun y10=>
    (zCK d1 y10).bind fun y11=>
    (getI y11 0).bind fun e12=>
    (getI y11 0).bind fun e13=>
    (some (((e13.1==e9.1)&&((e13.2.1==e9.2.1)&&(e13.2.2==e9.2.2))))).bind fun t14=>
    bif t14 then
     (
      (room (l4.length+([y11]).length)).bind fun u16=>
      sI (w64 (t3+1)) fun t17=>
      zBY d1 y2 n t17 (l4++([y11]))
     )
    else
     (
      sI (w64 (t3+1)) fun t18=>
      zBY d1 y2 n t18 l4
     )
   )
  else
   (
    some l4
   )
def zEO(d1:Int):Option (List (List (Int×Int×Int))):=
 (zJ d1).bind fun y2=>
 (zBY d1 y2 FU 0 (([]:List (List (Int×Int×Int))))).bind fun o6=>
 some o6
def zBN(d1:Int):Option Bool:=
 (zEO d1).bind fun y2=>
 (zJ d1).bind fun y3=>
 some (eqI ((y2.length:Int)) ((y3.length:Int)))
def jJ(lo1:Int)(hi2:Int):Option ((List Int)×Bool):=
 (zBC lo1 hi2).bind fun y3=>
 bif (!y3) then
  (
   some ((([]:List Int),false))
  )
 else
  (
   (zAq lo1 hi2 (fun x0=>zBN x0)).bind fun y5=>
   some ((y5,true))
  )
def zDW(f1:(Int×Int×Int))(vr3:Int)(x6:Int)(y2:Int):Nat→Int→Option (Unit ⊕ Int)
 |0,_=>none
 |n+1,y10=>
  bif (leI y10 vr3) then
   (
    (zA7 f1 x6 y10).bind fun y14=>
    (bif (bif (eqI x6 vr3) then true else (eqI y10 vr3)) then ((jZ y14 (w64 (2*y2))).bind fun y17=>some (eqI y17 1)) else some false).bind fun b18=>
    bif b18 then
     (
      some (.inr y14)
     )
    else
     (
      sI (w64 (y10+1)) fun y20=>
      zDW f1 vr3 x6 y2 n y20
     )
   )
  else
   (
    some (.inl ())
   )
def zDe(f1:(Int×Int×Int))(vr3:Int)(y2:Int):Nat→Int→Option (Unit ⊕ Int)
 |0,_=>none
 |n+1,x6=>
  bif (leI x6 vr3) then
   (
    (zDW f1 vr3 x6 y2 FU 0).bind fun qo12=>
    match qo12 with
    | .inr r=>some (.inr r)
    | .inl o12=>
     sI (w64 (x6+1)) fun x21=>
     zDe f1 vr3 y2 n x21
   )
  else
   (
    some (.inl ())
   )
def zDf(f1:(Int×Int×Int))(y2:Int):Nat→Int→Option (Unit ⊕ Int)
 |0,_=>none
 |n+1,vr3=>
  (zDe f1 vr3 y2 FU 0).bind fun qo8=>
  match qo8 with
  | .inr r=>some (.inr r)
  | .inl o8=>
   sI (w64 (vr3+1)) fun vr22=>
   zDf f1 y2 n vr22
def zEi(f1:(Int×Int×Int)):Option Int:=
 (zA4 f1).bind fun y2=>
 (zDf f1 y2 FU 1).bind fun qo5=>
 match qo5 with
 | .inr r=>some r
 | .inl _=>none
def zDR(d1:Int)(y2:List Int):Nat→Int→List (Int×Int)→Option (List (Int×Int))
 |0,_,_=>none
 |n+1,t3,l4=>
  bif (ltI t3 ((y2.length:Int))) then
   (
    (getI y2 t3).bind fun e8=>
    bif (ltI 2 e8) then
     (
      (room (l4.length+([(1,e8)]).length)).bind fun u10=>
      sI (w64 (t3+1)) fun t11=>
      zDR d1 y2 n t11 (l4++([(1,e8)]))
     )
    else
     (
      sI (w64 (t3+1)) fun t12=>
      zDR d1 y2 n t12 l4
     )
   )
  else
   (
    some l4
   )
def zGQ(d1:Int):Option (List (Int×Int)):=
 (zBR (w64 (0 - d1))).bind fun y2=>
 (zDR d1 y2 FU 0 (([]:List (Int×Int)))).bind fun o6=>
 bif (!eqI (Int.tmod d1 2) 0) then
  (
   some o6
  )
 else
  (
   sI (w64 (Int.tdiv (w64 (0 - d1)) 4)) fun vn14=>
   bif (eqI (Int.tmod vn14 4) 3) then
    (
     some o6
    )
   else
    (
     (some (bif (eqI (Int.tmod vn14 4) 1) then true else (eqI (Int.tmod vn14 8) 4))).bind fun t17=>
     bif t17 then
      (
       (room (o6.length+([(2,0)]).length)).bind fun u19=>
       some (o6++([(2,0)]))
      )
     else
      (
       bif (eqI (Int.tmod vn14 8) 2) then
        (
         (room (o6.length+([(4,0)]).length)).bind fun u21=>
         some (o6++([(4,0)]))
        )
       else
        (
         bif (eqI (Int.tmod vn14 8) 6) then
          (
           (room (o6.length+([(3,0)]).length)).bind fun u23=>
           some (o6++([(3,0)]))
          )
         else
          (
           (room (o6.length+([(2,0),(3,0)]).length)).bind fun u24=>
           some (o6++([(2,0),(3,0)]))
          )
        )
      )
    )
  )
def zGO(vs1:(Int×Int×Int)):Option Bool:=
 some (bif (eqI vs1.1 0) then true else (eqI vs1.1 1))
def zE7(a1:Int):Option Int:=
 (qM a1 8).bind fun y2=>
 bif (eqI y2 1) then
  (
   bif (eqI y2 1) then
    (
     some 1
    )
   else
    (
     bif (eqI y2 3) then
      (
       bif (eqI y2 3) then
        (
         some (-1)
        )
       else
        (
         some 0
        )
      )
     else
      (
       bif (eqI y2 5) then
        (
         some (-1)
        )
       else
        (
         some 0
        )
      )
    )
  )
 else
  (
   bif (eqI y2 7) then
    (
     some 1
    )
   else
    (
     bif (eqI y2 3) then
      (
       bif (eqI y2 3) then
        (
         some (-1)
        )
       else
        (
         some 0
        )
      )
     else
      (
       bif (eqI y2 5) then
        (
         some (-1)
        )
       else
        (
         some 0
        )
      )
    )
  )
def zDT(vs1:(Int×Int×Int)):Option (Int×Int×Int):=
 (zBo vs1.1 0 (w64 (vs1.2.1 - 1))).bind fun y2=>
 bif (!y2) then
  (
   (qM vs1.1 vs1.2.1).bind fun y4=>
   some ((y4,vs1.2.1,vs1.2.2))
  )
 else
  (
   bif (eqI (Int.tmod vs1.1 2) 0) then
    (
     sI (w64 (Int.tdiv vs1.1 2)) fun f6=>
     (zE7 vs1.2.1).bind fun y7=>
     sI (w64 (vs1.2.2*y7)) fun f8=>
     some ((f6,vs1.2.1,f8))
    )
   else
    (
     (
      (some (bif (eqI (Int.tmod vs1.1 4) 3) then (eqI (Int.tmod vs1.2.1 4) 3) else false)).bind fun t11=>
      bif t11 then
       (
        sI (w64 (0 - vs1.2.2)) fun f13=>
        some f13
       )
      else
       (
        some vs1.2.2
       )
     ).bind fun j9=>
     some ((vs1.2.1,vs1.1,j9))
    )
  )
def zDU:Nat→Int→Int→Int→Option (Int×Int×Int)
 |0,_,_,_=>none
 |n+1,f3,f4,f5=>
  (zGO ((f3,f4,f5))).bind fun y8=>
  bif (!y8) then
   (
    (zDT ((f3,f4,f5))).bind fun y10=>
    zDU n y10.1 y10.2.1 y10.2.2
   )
  else
   (
    some (f3,f4,f5)
   )
def zEV(a1:Int)(vn2:Int):Option Int:=
 (zDU FU a1 vn2 1).bind fun o7=>
 bif (bif (eqI o7.1 0) then (ltI 1 o7.2.1) else false) then
  (
   some 0
  )
 else
  (
   some o7.2.2
  )
def zHH(x1:(Int×Int))(vn2:Int):Option Int:=
 bif (eqI x1.1 1) then
  (
   (zEV vn2 x1.2).bind fun y4=>
   some y4
  )
 else
  (
   bif (eqI (Int.tmod vn2 2) 0) then
    (
     some 0
    )
   else
    (
     (qM vn2 4).bind fun y6=>
     (zE7 vn2).bind fun y7=>
     sI (w64 (2 - y6)) fun delta8=>
     bif (eqI x1.1 2) then
      (
       some delta8
      )
     else
      (
       bif (eqI x1.1 3) then
        (
         some y7
        )
       else
        (
         sI (w64 (delta8*y7)) fun t11=>
         some t11
        )
      )
    )
  )
def zEH(vn2:Int)(y3:List (Int×Int)):Nat→Int→List Int→Option (List Int)
 |0,_,_=>none
 |n+1,t4,l5=>
  bif (ltI t4 ((y3.length:Int))) then
   (
    (getI y3 t4).bind fun e9=>
    (getI y3 t4).bind fun e10=>
    (zHH e10 vn2).bind fun y11=>
    (room (l5.length+([y11]).length)).bind fun u12=>
    sI (w64 (t4+1)) fun t13=>
    zEH vn2 y3 n t13 (l5++([y11]))
   )
  else
   (
    some l5
   )
def zFZ(d1:Int)(vn2:Int):Option (List Int):=
 (zGQ d1).bind fun y3=>
 (zEH vn2 y3 FU 0 (([]:List Int))).bind fun o7=>
 some o7
def zAz(f1:(Int×Int×Int)):Option (List Int):=
 (zA4 f1).bind fun y2=>
 (zB4 f1).bind fun y3=>
 (zEi y3).bind fun y4=>
 (zFZ y2 y4).bind fun y5=>
 some y5
def zAT(a4:List (List (Int×Int×Int)))(a5:(Int×Int×Int)):Nat→Int→Int→Option Int
 |0,_,_=>none
 |n+1,t6,t7=>
  bif (ltI t7 ((a4.length:Int))) then
   (
    (getI a4 t7).bind fun e11=>
    (getI e11 0).bind fun e12=>
    (zAz e12).bind fun y13=>
    (zAz a5).bind fun y14=>
    (zCB y13 y14).bind fun y15=>
    bif y15 then
     (
      sI (w64 (t7+1)) fun t17=>
      zAT a4 a5 n t7 t17
     )
    else
     (
      sI (w64 (t7+1)) fun t18=>
      zAT a4 a5 n t6 t18
     )
   )
  else
   (
    some t6
   )
def jS(l:List (Int×Int×Int)):Nat→List (List (Int×Int×Int))→Int→Option (List (List (Int×Int×Int)))
 |0,_,_=>none
 |n+1,x,i=>
  bif ltI i ((l.length:Int)) then
   (
    (getI l i).bind fun f=>
    (zAT x f FU (-1) 0).bind fun m=>
    bif ltI m 0 then
     (
      (room (x.length+1)).bind fun _=>
      sI (w64 (i+1)) fun j=>jS l n (x++[[f]]) j
     )
    else
     (
      (getI x m).bind fun e=>
      (room (e.length+1)).bind fun _=>
      sI (w64 (i+1)) fun j=>jS l n (x.set m.toNat (e++[f])) j
     )
   )
  else
   (
    some x
   )
def zC3(a1:Int):Option (List (List (Int×Int×Int))):=
 (qK a1).bind fun l=>jS l FU [] 0
def jB(y5:List Int):Nat→Int→List Int→Option (List Int)
 |0,_,_=>none
 |n+1,t6,l7=>
  bif (ltI t6 ((y5.length:Int))) then
   (
    (getI y5 t6).bind fun e11=>
    (getI y5 t6).bind fun e12=>
    (zC3 e12).bind fun y13=>
    (qK e12).bind fun y14=>
    bif (eqI ((y13.length:Int)) ((y14.length:Int))) then
     (
      (room (l7.length+([e12]).length)).bind fun u16=>
      sI (w64 (t6+1)) fun t17=>
      jB y5 n t17 (l7++([e12]))
     )
    else
     (
      sI (w64 (t6+1)) fun t18=>
      jB y5 n t18 l7
     )
   )
  else
   (
    some l7
   )
def zAH(lo1:Int)(hi2:Int):Option ((List Int)×Bool):=
 (zB2 lo1 hi2).bind fun y3=>
 bif (!y3) then
  (
   some ((([]:List Int),false))
  )
 else
  (
   (zA6 lo1 hi2).bind fun y5=>
   (jB y5 FU 0 (([]:List Int))).bind fun o9=>
   some ((o9,true))
  )
def zAA(so2:((Int×Int×Int)→Option Bool))(y3:List (Int×Int×Int)):Nat→Int→List (Int×Int×Int)→Option (List (Int×Int×Int))
 |0,_,_=>none
 |n+1,t4,l5=>
  bif (ltI t4 ((y3.length:Int))) then
   (
    (getI y3 t4).bind fun e9=>
    (getI y3 t4).bind fun e10=>
    (so2 e10).bind fun y11=>
    bif y11 then
     (
      (room (l5.length+([e10]).length)).bind fun u13=>
      sI (w64 (t4+1)) fun t14=>
      zAA so2 y3 n t14 (l5++([e10]))
     )
    else
     (
      sI (w64 (t4+1)) fun t15=>
      zAA so2 y3 n t15 l5
     )
   )
  else
   (
    some l5
   )
def zCv(d1:Int)(so2:((Int×Int×Int)→Option Bool)):Option (List (Int×Int×Int)):=
 (zJ d1).bind fun y3=>
 (zAA so2 y3 FU 0 (([]:List (Int×Int×Int)))).bind fun o7=>
 some o7
def zCN(f1:(Int×Int×Int)):Option Bool:=
 (some (bif (bif (eqI f1.2.1 0) then true else (eqI f1.1 f1.2.1)) then true else (eqI f1.1 f1.2.2))).bind fun t4=>
 some t4
def zCM(d1:Int):Option (List (Int×Int×Int)):=
 (zCv d1 (fun x0=>zCN x0)).bind fun y2=>
 some y2
def zAe(d1:Int):Option (Bool×Bool):=
 (qG d1).bind fun y2=>
 bif (!y2) then
  (
   some ((false,false))
  )
 else
  (
   (zCM d1).bind fun y4=>
   (zJ d1).bind fun y5=>
   some ((eqI ((y4.length:Int)) ((y5.length:Int)),true))
  )
def qC(more2:List Int)(y5:List Int)(y6:((List Int)×Bool)):Nat→Int→Int→Option Int
 |0,_,_=>none
 |n+1,vh14,t15=>
  bif (ltI t15 ((y5.length:Int))) then
   (
    (getI y5 t15).bind fun e19=>
    (getI y5 t15).bind fun e20=>
    sI (w64 (vh14*e20)) fun vh21=>
    sI (w64 (t15+1)) fun t22=>
    qC more2 y5 y6 n vh21 t22
   )
  else
   (
    some vh14
   )
def qO(more2:List Int)(y23:((List Int)×Bool))(y5:List Int)(y6:((List Int)×Bool)):Nat→Int→Option (Unit ⊕ Bool)
 |0,_=>none
 |n+1,t25=>
  bif (ltI t25 ((y6.1.length:Int))) then
   (
    (getI y6.1 t25).bind fun e29=>
    (getI y6.1 t25).bind fun e30=>
    (zEj y23.1 e30).bind fun y31=>
    bif (!y31) then
     (
      some (.inr false)
     )
    else
     (
      sI (w64 (t25+1)) fun t33=>
      qO more2 y23 y5 y6 n t33
     )
   )
  else
   (
    some (.inl ())
   )
def jD(y65:((List Int)×Bool)):Nat→Int→Option (Unit ⊕ Bool)
 |0,_=>none
 |n+1,t71=>
  bif (ltI t71 ((y65.1.length:Int))) then
   (
    (getI y65.1 t71).bind fun e75=>
    (getI y65.1 t71).bind fun e76=>
    (zAe e76).bind fun y77=>
    bif (bif (!y77.2) then true else (!y77.1)) then
     (
      some (.inr false)
     )
    else
     (
      sI (w64 (t71+1)) fun t80=>
      jD y65 n t80
     )
   )
  else
   (
    some (.inl ())
   )
def zBA(code1:List Int)(more2:List Int):Option Bool:=
 (zCC code1 more2).bind fun y3=>
 bif y3 then
  (
   some true
  )
 else
  (
   (zW code1).bind fun y5=>
   (zL y5).bind fun y6=>
   (zS y5).bind fun y7=>
   (bif (y6.2 != y7.2) then some true else ((qZ y6.1 y7.1).bind fun y9=>some (!y9))).bind fun b10=>
   bif b10 then
    (
     some false
    )
   else
    (
     ((
      bif y6.2 then
       (
        (qC more2 y5 y6 FU 1 0).bind fun o17=>
        (qA o17).bind fun y23=>
        bif (!y23.2) then
         (
          some (.inr false)
         )
        else
         (
          (qO more2 y23 y5 y6 FU 0).bind fun qo27=>
          match qo27 with
          | .inr r=>some (.inr r)
          | .inl o27=>
           bif (ltI 0 ((y6.1.length:Int))) then
            (
             (zBj more2).bind fun y35=>
             (nz ((y6.1.length:Int))).bind fun z36=>
             (getI y6.1 (Int.tmod y35 ((y6.1.length:Int)))).bind fun e37=>
             (getI y6.1 (Int.tmod y35 ((y6.1.length:Int)))).bind fun e38=>
             (jP e38).bind fun y39=>
             (bif (!y39.2) then some true else ((qZ y39.1 y5).bind fun y41=>some (!y41))).bind fun b42=>
             bif b42 then
              (
               some (.inr false)
              )
             else
              (
               some (.inl ())
              )
            )
           else
            (
             some (.inl ())
            )
         )
       )
      else
       (
        some (.inl ())
       )
     ):Option (Unit ⊕ Bool)).bind fun qo12=>
     match qo12 with
     | .inr r=>some r
     | .inl o12=>
      (qY more2).bind fun y44=>
      (jK y44.1 y44.2).bind fun y45=>
      (jG y44.1 y44.2).bind fun y46=>
      (some (bif (bif (y45.2.2 != y46.2.2) then true else (!eqI y45.1 y46.1)) then true else (!eqI y45.2.1 y46.2.1))).bind fun t49=>
      bif t49 then
       (
        some false
       )
      else
       (
        ((
         bif y45.2.2 then
          (
           (zA2 y44.1 y44.2).bind fun y53=>
           (zAs y45.2.1).bind fun y54=>
           (bif (bif (!y53.2) then true else (!eqI ((y53.1.length:Int)) (w64 (y45.1+1)))) then some true else ((getI y53.1 y45.1).bind fun e57=>(getI y53.1 y45.1).bind fun e58=>some (ltI e58 1))).bind fun b59=>
           (some (bif (bif b59 then true else (!y54.2)) then true else (!eqI y54.1 y45.1))).bind fun t62=>
           bif t62 then
            (
             some (.inr false)
            )
           else
            (
             some (.inl ())
            )
          )
         else
          (
           some (.inl ())
          )
        ):Option (Unit ⊕ Bool)).bind fun qo51=>
        match qo51 with
        | .inr r=>some r
        | .inl o51=>
         (qX more2).bind fun y64=>
         (jJ y64.1 y64.2).bind fun y65=>
         (zAH y64.1 y64.2).bind fun y66=>
         (bif (y65.2 != y66.2) then some true else ((qZ y65.1 y66.1).bind fun y68=>some (!y68))).bind fun b69=>
         bif b69 then
          (
           some false
          )
         else
          (
           (jD y65 FU 0).bind fun qo73=>
           match qo73 with
           | .inr r=>some r
           | .inl o73=>some true
          )
       )
    )
  )
end Go.Proofs.YtdedjieegpkabaaGreat
namespace Go.Proofs.YtdedjieegpkabaaGreat
open Go.RowKit
section
variable (P:Program)
def ybin(op:BinOp):AV→AV→Option AV
 | .c (.v (.int k a)),.c (.v (.int k2 b))=>match decEq k k2 with
  |isTrue _=>(match op with
   | .lss=>some (Bo (ltI a b))
   | .leq=>some (Bo (leI a b))
   | .gtr=>some (Bo (ltI b a))
   | .geq=>some (Bo (leI b a))
   | .eql=>some (Bo (eqI a b))
   | .neq=>some (Bo (!eqI a b))
   |_=>none)
  |isFalse _=>none
 | .c (.v (.string a)),.c (.v (.string b))=>match op with
  | .eql=>some (Bo (a.toList==b.toList))
  | .neq=>some (Bo (!(a.toList==b.toList)))
  |_=>none
 |_,_=>none
def yv(s:St):Op→Option AV
 | .binOp op t x y _=>match ybin op (s.ev x) (s.ev y) with
  |some av=>some av
  |none=>(match s.ev x,s.ev y with
   | .c (.v (.bool a)),.c (.v (.bool b))=>(match P.underlying t with
    |some .bool=>(match op with
     | .eql=>some (Bo (a==b))
     | .neq=>some (Bo (a != b))
     |_=>none)
    |_=>none)
   |_,_=>none)
 | .pick c x y=>match s.ev c with
  | .c (.v (.bool b))=>nbA (bif b then s.ev x else s.ev y)
  |_=>none
 | .call c=>match c with
  |⟨.builtin .len,⟨[x]⟩,⟨[t]⟩⟩=>match P.underlying t,s.ev x with
   |some .string,.c (.v (.string b))=>some (I (b.size:Int))
   |_,_=>none
  |_=>none
 |_=>none
def yo(o:Oper)(s:St):Option St:=match xo P o s with
 |some s'=>some s'
 |none=>match o.dst with
  |some d=>(match yv P s o.op with
   |some av=>some (s.put d av)
   |none=>none)
  |none=>none
def gdt(ops:Array Oper)(j:Nat):Option Nat:=(ops[j]?).bind (·.dst)
def yg(ops:Array Oper)(o:Oper)(s:St):Option Bool:=match o.guard with
 |none=>some true
 |some (j,b)=>match gdt ops j with
  |some t=>match s.get t with
   | .c (.v (.bool c))=>some (bif c then b else !b)
   | .tn=>some false
   |_=>none
  |none=>none
end
section
variable {P:Program}
theorem zWD{o:Oper}{s:St}{op:BinOp}{t t2:TypeId}{x y:Operand}{av:AV}(ho:o.op=.binOp op t x y t2)(h:ybin op (s.ev x) (s.ev y)=some av):Y0 P o s av:=by
 generalize hx:s.ev x=a at h;generalize hy:s.ev y=b at h;unfold ybin at h;split at h
 ·split at h
  ·rename_i hk _;subst hk;cases op<;>simp only[Option.some.injEq,reduceCtorEq]at h<;>subst h<;>
    first|exact zIa ho hx hy|exact zSa ho hx hy|exact zDF ho hx hy|exact zSb ho hx hy|exact zSc ho hx hy|exact zNm ho hx hy
  ·cases h
 ·cases op<;>simp only[Option.some.injEq,reduceCtorEq]at h<;>subst h<;>
   first|exact zYz ho hx hy|exact zYq ho hx hy
 ·cases h
theorem zXF{o:Oper}{s:St}{av:AV}(h:yv P s o.op=some av):Y0 P o s av:=by
 unfold yv at h;split at h
 ·rename_i ho;split at h
  ·rename_i hb;cases h;exact zWD ho hb
  ·split at h
   ·rename_i hx hy;split at h
    ·rename_i hu;split at h
     ·cases h;exact zZA hu ho hx hy
     ·cases h;exact zYr hu ho hx hy
     ·cases h
    ·cases h
   ·cases h
 ·rename_i ho;split at h
  ·rename_i b hc;obtain⟨h1,h2⟩:=zPv h;rw[←h1];exact zQ4 ho hc
  ·cases h
 ·rename_i ho;split at h
  ·rename_i x t;split at h
   ·rename_i b hu hx;cases h;exact zWm hu ho hx
   ·cases h
  ·cases h
 ·cases h
theorem yo_ok{o:Oper}{s s':St}(h:yo P o s=some s'):X P o s s':=by
 unfold yo at h;split at h
 ·rename_i h1;cases h;exact xo_ok h1
 ·split at h
  ·rename_i d hd;split at h
   ·rename_i hv;cases h;exact zB hd (zXF hv)
   ·cases h
  ·cases h
theorem zGD{ops:Array Oper}{o:Oper}{rest:List Oper}{s s':St}{J:St→Prop}(hg:yg ops o s=some true)(h:X P o s s')(hk:XL P ops rest s' J):XL P ops (o::rest) s J:=by
 unfold yg at hg;split at hg
 ·rename_i h1;exact jA h1 h hk
 ·rename_i j b h1;split at hg
  ·rename_i t ht;split at hg
   ·rename_i c hc;have e:c=b:=by cases c<;>cases b<;>simp_all
    subst e;exact zT8 h1 ht hc h hk
   ·cases hg
   ·cases hg
  ·cases hg
theorem zWC{ops:Array Oper}{o:Oper}{rest:List Oper}{s:St}{d:Nat}{J:St→Prop}(hg:yg ops o s=some false)(hd:o.dst=some d)(hk:XL P ops rest (s.put d .tn) J):XL P ops (o::rest) s J:=by
 unfold yg at hg;split at hg
 ·cases hg
 ·rename_i j b h1;split at hg
  ·rename_i t ht;split at hg
   ·rename_i c hc;exact zQ7 h1 ht hc (by cases c<;>cases b<;>simp_all) hd hk
   ·rename_i hc;exact zU h1 ht hc hd hk
   ·cases hg
  ·cases hg
theorem zSs(s:St)(t:Nat):s.put t (s.get t)=s:=by
 cases s with
 |mk T E=>
  simp only[St.put,St.get];congr 1;apply List.ext_getElem?;intro i;rw[List.getElem?_set];by_cases h:t=i
  ·subst h;by_cases h2:t<T.length
   ·simp[h2]
   ·simp[h2]
  ·simp[h]
abbrev CfW(P:Program)(f:FuncId):Prop:=∀args w,(callFunc f args).run P w=.ok (.enter f args) w
theorem cfW{f:FuncId}{fn:Func}(hf:P.funcs[f]?=some fn)(hn:(fn.name== "runtime.NumGoroutine")=false:=by kernel_rfl)(hb:fn.body.isNone=false:=by kernel_rfl):CfW P f:=jM hf hn hb
def zv(P:Program)(s:St)(op:Op):Option AV:=match xv P s op with
 |some av=>some av
 |none=>yv P s op
theorem zv_ok{o:Oper}{s:St}{av:AV}(h:zv P s o.op=some av):Y0 P o s av:=by
 unfold zv at h;split at h
 ·rename_i hx;cases h;exact zXG hx
 ·exact zXF h
theorem zJH{l:List Oper}{o:Oper}{S:St}(h:yg l.toArray o S=some true):gsat l.toArray o S:=by
 unfold yg at h;split at h
 ·rename_i h1;exact zK h1
 ·rename_i j b h1;split at h
  ·rename_i t ht;split at h
   ·rename_i c hc;have e:c=b:=by cases c<;>cases b<;>simp_all
    subst e;exact zTl h1 ht hc
   ·cases h
   ·cases h
  ·cases h
theorem zY2{l:List Oper}{o:Oper}{S:St}(h:yg l.toArray o S=some false):gun l.toArray o S:=by
 unfold yg at h;split at h
 ·cases h
 ·rename_i j b h1;split at h
  ·rename_i t ht;split at h
   ·rename_i c hc;exact zUr h1 ht hc (by cases c<;>cases b<;>simp_all)
   ·rename_i hc;exact zY3 h1 ht hc
   ·cases h
  ·cases h
section
variable (P)
def er1(l:List Oper)(ms:List Nat)(n1:Nat)(css:List (List Cd))(s0:St)(rs:List Res):Option (List Res):=match l[rs.length]?,css[rs.length]? with
 |some o,some c=>bif Nat.blt rs.length n1 then (match yg l.toArray o (appC c (l.take n1) rs s0),o.dst with
  |some true,some _=>(match zv P (appC c (l.take n1) rs s0) o.op with
   |some av=>bif zEo ms rs.length av 0 (l.take n1) then some (rs++[.r0 av]) else none
   |none=>match xn P (appC c (l.take n1) rs s0) o.op with
    |some r=>bif zFr r.2&&(makes o&&r.1.small) then some (rs++[.r1 r.1 r.2]) else none
    |none=>none)
  |some false,some _=>some (rs++[.r0 .tn])
  |some true,none=>dr2 P l ms n1 css rs (appC c (l.take n1) rs s0) o.op
  |_,_=>none) else none
 |_,_=>none
end
theorem zYd{l:List Oper}{ms:List Nat}{n1:Nat}{css:List (List Cd)}{s0:St}{rs rs':List Res}{K:St→Prop}(h:er1 P l ms n1 css s0 rs=some rs')(hk:DL P l ms n1 css s0 rs' K):DL P l ms n1 css s0 rs K:=by
 unfold er1 at h;split at h
 ·rename_i o c ho hc;cases hb:Nat.blt rs.length n1 with
  |false=>rw[hb,cond_false]at h;cases h
  |true=>
   rw[hb,cond_true]at h;split at h
   ·rename_i d hg hd;split at h
    ·rename_i av hv;cases hm:zEo ms rs.length av 0 (l.take n1) with
     |false=>rw[hm,cond_false]at h;cases h
     |true=>rw[hm,cond_true]at h;cases h;exact DE_0 rs.length av rfl hb ho hc (zJH hg) hm (zv_ok hv) d hd hk
    ·split at h
     ·rename_i r hr;cases hm:zFr r.2&&(makes o&&r.1.small) with
      |false=>rw[hm,cond_false]at h;cases h
      |true=>rw[hm,cond_true]at h;cases h;rw[ze,ze]at hm;exact DE_1 rs.length rfl hb ho hc (zJH hg) (zXH hr) hm.1 hm.2.1 hm.2.2 d hd hk
     ·cases h
   ·rename_i d hg hd;cases h;exact DL_t (Nat.le_of_ble_eq_true hb) ho hc (zY2 hg) ⟨d,hd⟩ hk
   ·rename_i hg hd;unfold dr2 at h;split at h
    ·rename_i t x y hop;split at h
     ·rename_i id off vc hx hy;split at h
      ·rename_i cs he;cases hm:(zD5 P t==some vc.length)&&Nat.ble (off+vc.length) cs.length&&(zJN rs.length id css&&(mkOk ms rs.length id 0 (l.take n1)&&zF2 id rs)) with
       |false=>rw[hm,cond_false]at h;cases h
       |true=>rw[hm,cond_true]at h;cases h;rw[ze,ze,ze,ze,beq_iff_eq]at hm;exact DE_2 rs.length id _ rfl hb ho hc (zJH hg) hop hd hx he hy hm.1.1 (Nat.le_of_ble_eq_true hm.1.2) rfl hm.2.1 hm.2.2.1 hm.2.2.2 hk
      ·cases h
     ·cases h
    ·cases h
   ·cases h
 ·cases h
theorem E0(j:Nat){l:List Oper}{ms:List Nat}{n1:Nat}{css:List (List Cd)}{s0:St}{rs:List Res}{K:St→Prop}{o:Oper}{c:List Cd}{av:AV}(ho:l[j]?=some o)(hc:css[j]?=some c)(hY:Y0 P o (appC c (l.take n1) rs s0) av)(h:DL P l ms n1 css s0 (rs++[.r0 av]) K)
  (hj:rs.length=j:=by kernel_rfl) (hlt:Nat.blt j n1=true:=by kernel_rfl) (hg:yg l.toArray o (appC c (l.take n1) rs s0)=some true:=by kernel_rfl) (hm:zEo ms j av 0 (l.take n1)=true:=by kernel_rfl) (hd:o.dst.isSome=true:=by kernel_rfl):DL P l ms n1 css s0 rs K:=by
 obtain⟨d,hd⟩:=Option.isSome_iff_exists.mp hd;exact DE_0 j av hj hlt ho hc (zJH hg) hm hY d hd h
theorem E1(j:Nat){l:List Oper}{ms:List Nat}{n1:Nat}{css:List (List Cd)}{s0:St}{rs:List Res}{K:St→Prop}{o:Oper}{c:List Cd}{av:AV}{ne:List (Nat×Ent)}(ho:l[j]?=some o)(hc:css[j]?=some c)(hY:Y1 P o (appC c (l.take n1) rs s0) av ne)(h:DL P l ms n1 css s0 (rs++[.r1 av ne]) K)
  (hj:rs.length=j:=by kernel_rfl) (hlt:Nat.blt j n1=true:=by kernel_rfl) (hg:yg l.toArray o (appC c (l.take n1) rs s0)=some true:=by kernel_rfl) (h1:zFr ne=true:=by kernel_rfl) (h2:makes o=true:=by kernel_rfl) (h3:av.small=true:=by kernel_rfl) (hd:o.dst.isSome=true:=by kernel_rfl):DL P l ms n1 css s0 rs K:=by
 obtain⟨d,hd⟩:=Option.isSome_iff_exists.mp hd;exact DE_1 j hj hlt ho hc (zJH hg) hY h1 h2 h3 d hd h
def idT(t:Nat):List Oper→Nat→Nat
 |[],_=>0
 |o::os,k=>match o.dst with
  |some d=>bif Nat.beq d t then k else idT t os (k+1)
  |none=>idT t os (k+1)
def gtD(l:List Oper)(rs:List Res):Nat:=match l[rs.length]? with
 |some o=>(match o.guard with
  |some (j,_)=>j
  |none=>match o.op with
   | .pick (.tmp t) _ _=>idT t l 0
   |_=>0)
 |none=>0
theorem EQ{c v:Bool}(hc:c=v){l:List Oper}{ms:List Nat}{n1:Nat}{css:List (List Cd)}{s0:St}{rs:List Res}{K:St→Prop}(hk:DL P l ms n1 css s0 (rs.set (gtD l rs) (.r0 (Bo v))) K)(h:rs[gtD l rs]?=some (.r0 (Bo c)):=by kernel_rfl):DL P l ms n1 css s0 rs K:=by
 subst hc;have e:rs.set (gtD l rs) (.r0 (Bo c))=rs:=by
  apply List.ext_getElem?;intro i;rw[List.getElem?_set];by_cases hi:gtD l rs=i
  ·subst hi;have hlt:gtD l rs<rs.length:=by
    by_cases h2:gtD l rs<rs.length
    ·exact h2
    ·rw[List.getElem?_eq_none (by omega)]at h;cases h
   rw[if_pos rfl,if_pos hlt,h]
  ·rw[if_neg hi]
 rwa [e]at hk
end
def amk:List Oper→List Nat→List Nat
 |[],acc=>acc
 |o::os,acc=>amk os (acc++[zKn acc o.after.toList])
def acr(ms:List Nat)(tg:List (Nat×Nat))(i n:Nat):Nat→List Cd
 |0=>[]
 |k+1=>(bif (ms.getD i 0).testBit (n - (k+1)) then Cd.a else bif Nat.beq (n - (k+1)) i||(ms.getD (n - (k+1)) 0).testBit i then Cd.z else match tg.lookup (n - (k+1)) with
  |some id=>Cd.r id
  |none=>Cd.b)::acr ms tg i n k
def acs(ms:List Nat)(tg:List (Nat×Nat))(n:Nat):Nat→List (List Cd)
 |0=>[]
 |k+1=>acr ms tg (n - (k+1)) n n::acs ms tg n k
section
variable {P:Program}
end
section
variable {P:Program}
theorem zJ6{B:Fr}{w0:World}{ok0 ok:Nat→Prop}{σ:Nat→Loc}{s:St}{a:Act}{w:World}(hR:R B w0 ok0 ok σ s a w){k t:Nat}{e e':Ent}{av:AV}(he:s.ent k=some e)(hok:qW ok w (σ k) e→qW ok w (σ k) e')(hp:e'.pin=e.pin)(hav:Rel ok σ w av (a.tmps.getD t undef)):
  R B w0 ok0 ok σ ⟨s.T.set t av,setE k e' s.E⟩ a w:=by
 have look:=jX k e' s.E e he;have lk:∀i f,(setE k e' s.E).lookup i=some f→(i=k∧f=e')∨(i≠k∧s.ent i=some f):=by
  intro i f hi;rw[look]at hi;by_cases h:i=k
  ·rw[if_pos h]at hi;exact .inl ⟨h,by simpa using hi.symm⟩
  ·rw[if_neg h]at hi;exact .inr ⟨h,hi⟩
 refine⟨⟨by simpa using hR.core.len,hR.core.okL,hR.core.lib,fun u=>?_,fun i f hi=>?_,fun i f g hi hg=>?_,fun i i2 f f2 g hi hi2 h1 h2=>?_⟩,hR.defers,hR.below,hR.base,hR.old,hR.fresh,fun i f g hi hg=>?_⟩
 ·have e0:=zBf s t u av;unfold St.put at e0;have e1:(St.mk (s.T.set t av) (setE k e' s.E)).get u=if t=u∧t<s.T.length then av else s.get u:=e0;rw[e1];split
  ·rename_i h;rw[←h.1];exact hav
  ·exact hR.core.tmp u
 ·rcases lk i f hi with⟨rfl,rfl⟩|⟨h1,h2⟩
  ·exact hok (hR.core.ent _ _ he)
  ·exact hR.core.ent i f h2
 ·rcases lk i f hi with⟨rfl,rfl⟩|⟨h1,h2⟩
  ·exact hR.core.blk _ _ g he hg
  ·exact hR.core.blk i f g h2 hg
 ·have key:∀i f,(setE k e' s.E).lookup i=some f→∃f0,s.ent i=some f0:=by
   intro i f hi;rcases lk i f hi with⟨rfl,_⟩|⟨_,h⟩
   ·exact⟨_,he⟩
   ·exact⟨_,h⟩
  obtain⟨f0,k1⟩:=key i f hi;obtain⟨f3,k2⟩:=key i2 f2 hi2;exact hR.core.inj _ _ _ _ g k1 k2 h1 h2
 ·rcases lk i f hi with⟨rfl,rfl⟩|⟨h1,h2⟩
  ·rw[hp];exact hR.own _ _ g he hg
  ·exact hR.own i f g h2 hg
end
inductive OT:Type 1
  |ok
  |bad
  |eq {α:Type} (a b:α) (k:OT)
  |and (a b:OT)
  |all {α:Type} (f:α→OT)
def OT.holds:OT→Prop
 | .ok=>True
 | .bad=>False
 | .eq a b k=>a=b∧k.holds
 | .and a b=>a.holds∧b.holds
 | .all f=>∀x,(f x).holds
def OT.rf:OT→OT
 | .ok=>.ok
 | .bad=>.ok
 | .eq a _ k=>.eq a a k.rf
 | .and a b=>.and a.rf b.rf
 | .all f=>.all fun x=>(f x).rf
theorem OT.of_rf:∀t:OT,t=t.rf→t.holds
 | .ok,_=>trivial
 | .bad,h=>by cases h
 | .eq a b k,h=>by simp only[OT.rf]at h;injection h with _ _ h2 h3;exact⟨(eq_of_heq (heq_of_eq h2)).symm,OT.of_rf k h3⟩
 | .and a b,h=>by simp only[OT.rf]at h;injection h with h1 h2;exact⟨OT.of_rf a h1,OT.of_rf b h2⟩
 | .all f,h=>fun x=>by simp only[OT.rf]at h;injection h with _ h1;exact OT.of_rf (f x) (congrFun h1 x)
section
variable (P:Program)
structure N0 where
  chk:Oper→St→OT
  av:Oper→St→AV
  ok:∀o s,(chk o s).holds→Y0 P o s (av o s)
structure N1 where
  chk:Oper→St→OT
  av:Oper→St→AV
  ne:Oper→St→List (Nat×Ent)
  ok:∀o s,(chk o s).holds→Y1 P o s (av o s) (ne o s)
inductive NN
  |z (F:N0 P)
  |o (F:N1 P)
structure F0 (α:Type) where
  m:Option α
  chk:Oper→St→OT
  av:Oper→St→α→AV
  ok:∀o s y,m=some y→(chk o s).holds→Y0 P o s (av o s y)
structure F1 (α:Type) where
  m:Option α
  chk:Oper→St→OT
  av:Oper→St→α→AV
  ne:Oper→St→α→List (Nat×Ent)
  ok:∀o s y,m=some y→(chk o s).holds→Y1 P o s (av o s y) (ne o s y)
def XS(o:Oper)(s:St)(J:St→Prop):Prop:=
 ∀B w0 ok0 ok σ a w,R B w0 ok0 ok σ s a w→∀K Q,(∀s' a' w' ok' σ',J s'→R B w0 ok0 ok' σ' s' a' w'→K a' w')→o.wp P a w K Q
structure FX (α:Type) where
  m:Option α
  run:Oper→St→α→(St→OT)→OT
  post:(Nat→Loc)→Oper→St→α→Option St:=fun _ _ _ _=>none
  ok:∀o s K y,m=some y→(run o s y K).holds→XS P o s (fun s'=>(K s').holds)
structure HT where
  run:St→(St→OT)→OT
  post:St→Option St:=fun _=>none
  ok:∀s K,(run s K).holds→∀B w0 ok0 ok σ a w,R B w0 ok0 ok σ s a w→∃s' ok' σ',(K s').holds∧R B w0 ok0 ok' σ' s' a w
inductive Lf (ι o β:Type)
  |again (x:ι)
  |done (y:o)
  |early (r:β)
def kpE(E:List (Nat×Ent)):List Nat→List (Nat×Ent)
 |[]=>[]
 |i::is=>match E.lookup i with
  |some e=>(i,e)::kpE E is
  |none=>kpE E is
def St.kp(s:St)(m:List Bool)(ids:List Nat):St:=⟨zFO m s.T,kpE s.E ids⟩
def setL(T:List AV):List (Nat×AV)→List AV
 |[]=>T
 |p::ps=>setL (T.set p.1 p.2) ps
def St.pc(s:St)(m:List Bool)(ids:List Nat)(ts:List (Nat×AV))(es:List (Nat×Ent)):St:=⟨setL (zFO m s.T) ts,kpE (es++s.E) ids⟩
def St.locs(s:St)(id:Nat):Loc:=match s.ent id with
 |some (.qarr l _ _ _)=>l
 |_=>loc0
inductive T:Type→Type 1
  |ret {β:Type} (y:β):T β
  |fail {β:Type}:T β
  |n0 {β:Type} (F:N0 P) (t:T β):T β
  |n1 {β:Type} (F:N1 P) (t:T β):T β
  |op0 {α β:Type} (F:F0 P α) (k:α→T β):T β
  |op1 {α β:Type} (F:F1 P α) (k:α→T β):T β
  |opx {α β:Type} (F:FX P α) (k:α→T β):T β
  |op1o {α β:Type} (F:F1 P (Option α)) (a:T β) (k:α→T β):T β
  |cond {β:Type} (c:Bool) (a b:T β):T β
  |selB {β:Type} (c w:Bool) (ns:List (NN P)) (k:Bool→T β):T β
  |lit {β:Type} (t:T β):T β
  |pl {β:Type} (t:T β):T β
  |dn {β:Type} (t:T β):T β
  |frc {β:Type} (v:Int) (k:Int→T β):T β
  |lt {α β:Type} (v:α) (k:α→T β):T β
  |bnd {α β:Type} (m:Option α) (k:α→T β):T β
  |hint {β:Type} (H:HT) (t:T β):T β
  |late {β:Type} (H:HT) (t:T β):T β
  |seqT {α β:Type} (t:T α) (k:α→T β):T β
  |join {α β:Type} (t:T α) (m:List Bool) (ids:List Nat) (S:St→α→(Nat→Loc)→St) (k:α→T β):T β
  |joinC {α β:Type} (t:T α) (m:List Bool) (ids:List Nat) (S:St→α→(Nat→Loc)→St) (k:α→T β):T β
  |joinS {α γ β:Type} (t:T (α ⊕ γ)) (m:List Bool) (ids:List Nat) (S:St→α→(Nat→Loc)→St) (er:γ→β) (k:α→T β):T β
  |loop {ι o β:Type} (L:Nat→ι→Option o) (x:ι) (m:List Bool) (ids:List Nat) (S:St→ι→(Nat→Loc)→St) (body:ι→T (ι ⊕ o)) (mo:List Bool) (ido:List Nat) (So:St→o→(Nat→Loc)→St) (k:o→T β):T β
  |loopS {ι o γ β:Type} (L:Nat→ι→Option (o ⊕ γ)) (x:ι) (m:List Bool) (ids:List Nat) (S:St→ι→(Nat→Loc)→St) (body:ι→T (Lf ι o γ)) (mo:List Bool) (ido:List Nat) (So:St→o→(Nat→Loc)→St) (er:γ→β) (k:o→T β):T β
  |unroll {β:Type} (n:Nat) (t:T β):T β
  |draw {β:Type} (n1:Nat) (tg:List (Nat×Nat)) (t:T β):T β
  |drawL {β:Type} (au:List Nat) (t:T β):T β
  |drawM {β:Type} (gh:Bool) (n1:Nat) (masks:List Nat) (au:List Nat) (t:T β):T β
def lk{ι o:Type}(L:Nat→ι→Option o)(n:Nat):ι ⊕ o→Option o
 | .inl x=>L n x
 | .inr y=>some y
def lkS{ι o γ:Type}(L:Nat→ι→Option (o ⊕ γ))(n:Nat):Lf ι o γ→Option (o ⊕ γ)
 | .again x=>L n x
 | .done y=>some (.inl y)
 | .early r=>some (.inr r)
end
def elS{α γ ρ:Type}(q:α ⊕ γ)(f:α→ρ)(g:γ→ρ):ρ:=match q with
 | .inl y=>f y
 | .inr r=>g r
section
variable {P:Program}
theorem zCe{o:Oper}{s s':St}{J:St→Prop}(h:X P o s s')(hJ:J s'):XS P o s J:=fun _ _ _ _ _ _ _ hR K Q hK=>h _ _ _ _ _ _ _ hR K Q fun a' w' ok' σ' hR'=>hK s' a' w' ok' σ' hJ hR'
theorem zWr{ops:Array Oper}{o:Oper}{rest:List Oper}{s:St}{I J:St→Prop}(hg:o.guard=none)(h:XS P o s I)(hk:∀s',I s'→XL P ops rest s' J):XL P ops (o::rest) s J:=by
 intro B w0 ok0 ok σ a w hR Q hQ;refine wpList_plain hg fun K hK=>?_
 exact h _ _ _ _ _ _ _ hR K Q fun s' a' w' ok' σ' hI hR'=>hK _ _ (hk s' hI _ _ _ _ _ _ _ hR' Q hQ)
theorem zWq{ops:Array Oper}{o:Oper}{rest:List Oper}{s:St}{I J:St→Prop}{j t:Nat}{b:Bool}(hg:o.guard=some (j,b))(ht:(ops[j]?).bind (·.dst)=some t)(hb:s.get t=.c (.v (.bool b)))
  (h:XS P o s I) (hk:∀s',I s'→XL P ops rest s' J):XL P ops (o::rest) s J:=by
 intro B w0 ok0 ok σ a w hR Q hQ;refine wpList_step fun K hK=>?_
 have h1:=hR.core.tmp t;rw[hb]at h1;have h2:a.tmps.getD t undef=.bool b:=by have h3:Rd ok w (.v (.bool b)) (a.tmps.getD t undef):=h1;generalize a.tmps.getD t undef=y at*;cases h3;rfl
 have hw:Region.wanted o (yielded ops a.tmps)=true:=by
  have h4:a.tmps[t]?=some (.bool b):=by
   rw[Array.getD_eq_getD_getElem?]at h2;cases h5:a.tmps[t]? with
   |none=>rw[h5]at h2;simp[undef]at h2
   |some y=>rw[h5]at h2;simpa using h2
  simp only[Region.wanted,hg,yielded,ht,Option.bind_some,h4];simp
 rw[if_pos hw];exact h _ _ _ _ _ _ _ hR K Q fun s' a' w' ok' σ' hI hR'=>hK _ _ (hk s' hI _ _ _ _ _ _ _ hR' Q hQ)
theorem zUG{ops:Array Oper}{o:Oper}{rest:List Oper}{s:St}{I J:St→Prop}(hg:yg ops o s=some true)(h:XS P o s I)(hk:∀s',I s'→XL P ops rest s' J):XL P ops (o::rest) s J:=by
 unfold yg at hg;split at hg
 ·rename_i h1;exact zWr h1 h hk
 ·rename_i j b h1;split at hg
  ·rename_i t ht;split at hg
   ·rename_i c hc;have e:c=b:=by cases c<;>cases b<;>simp_all
    subst e;exact zWq h1 ht hc h hk
   ·cases hg
   ·cases hg
  ·cases hg
def T.den:{β:Type}→T P β→{ρ:Type}→(β→Option ρ)→Option ρ
 |_,.ret y,_,k=>k y
 |_,.fail,_,_=>none
 |_,.n0 _ t,_,k=>t.den k
 |_,.n1 _ t,_,k=>t.den k
 |_,.op0 F f,_,k=>F.m.bind fun y=>(f y).den k
 |_,.op1 F f,_,k=>F.m.bind fun y=>(f y).den k
 |_,.opx F f,_,k=>F.m.bind fun y=>(f y).den k
 |_,.op1o F a f,_,k=>F.m.bind fun y=>elO y (a.den k) fun x=>(f x).den k
 |_,.cond c a b,_,k=>bif c then a.den k else b.den k
 |_,.selB c _ _ f,_,k=>(f c).den k
 |_,.lit t,_,k=>t.den k
 |_,.pl t,_,k=>t.den k
 |_,.dn t,_,k=>t.den k
 |_,.frc v f,_,k=>sI v fun y=>(f y).den k
 |_,.lt v f,_,k=>(some v).bind fun y=>(f y).den k
 |_,.bnd m f,_,k=>m.bind fun y=>(f y).den k
 |_,.hint _ t,_,k=>t.den k
 |_,.late _ t,_,k=>t.den k
 |_,.seqT t f,_,k=>(t.den some).bind fun y=>(f y).den k
 |_,.join t _ _ _ f,_,k=>(t.den some).bind fun y=>(f y).den k
 |_,.joinC t _ _ _ f,_,k=>t.den fun y=>(f y).den k
 |_,.joinS t _ _ _ er f,_,k=>(t.den some).bind fun q=>elS q (fun y=>(f y).den k) fun r=>k (er r)
 |_,.loop L x _ _ _ _ _ _ _ f,_,k=>(L FU x).bind fun y=>(f y).den k
 |_,.loopS L x _ _ _ _ _ _ _ er f,_,k=>(L FU x).bind fun q=>elS q (fun y=>(f y).den k) fun r=>k (er r)
 |_,.unroll _ t,_,k=>t.den k
 |_,.draw _ _ t,_,k=>t.den k
 |_,.drawL _ t,_,k=>t.den k
 |_,.drawM _ _ _ _ t,_,k=>t.den k
def sqT{α β:Type}(t:T P α)(k:α→T P β):T P β:=match t with
 | .ret a=>k a
 | .fail=>.fail
 | .n0 F t=>.n0 F (.seqT t k)
 | .n1 F t=>.n1 F (.seqT t k)
 | .op0 F f=>.op0 F fun y=>.seqT (f y) k
 | .op1 F f=>.op1 F fun y=>.seqT (f y) k
 | .opx F f=>.opx F fun y=>.seqT (f y) k
 | .cond c a b=>.cond c (.seqT a k) (.seqT b k)
 | .selB c w ns f=>.selB c w ns fun b=>.seqT (f b) k
 | .lit t=>.lit (.seqT t k)
 | .pl t=>.pl (.seqT t k)
 | .dn t=>.dn (.seqT t k)
 | .frc v f=>.frc v fun y=>.seqT (f y) k
 | .lt v f=>.lt v fun y=>.seqT (f y) k
 | .bnd m f=>.bnd m fun y=>.seqT (f y) k
 | .hint H t=>.hint H (.seqT t k)
 | .late H t=>.late H (.seqT t k)
 | .seqT t f=>.seqT t fun a=>.seqT (f a) k
 |t=>.seqT t k
theorem zWi{α ρ:Type}(v:Int)(f:Int→Option α)(g:α→Option ρ):(sI v f).bind g=sI v fun y=>(f y).bind g:=by rw[zP,zP]
theorem zP6{α β ρ:Type}(t:T P α)(k:α→T P β)(κ:β→Option ρ):(sqT t k).den κ=(t.den some).bind fun a=>(k a).den κ:=by
 cases t with
 |cond c a b=>cases c<;>rfl
 |op0 F f=>exact (Option.bind_assoc F.m _ _).symm
 |op1 F f=>exact (Option.bind_assoc F.m _ _).symm
 |opx F f=>exact (Option.bind_assoc F.m _ _).symm
 |bnd m f=>exact (Option.bind_assoc m _ _).symm
 |frc v f=>exact (zWi v _ _).symm
 |seqT t f=>exact (Option.bind_assoc (t.den some) _ _).symm
 |_=>rfl
end
section
variable (P:Program)
def wv(s:St)(o:Oper):Bool:=match o.op with
 | .indexAddr _ x (.tmp _)=>(match s.ev x with
  | .pt _ _=>false
  |_=>true)
 | .load _ x=>(match s.ev x with
  | .po _ _ _ _=>false
  |_=>true)
 | .assign (.const (.slice none 0 0))=>false
 |_=>true
def wo(o:Oper)(s:St):Option St:=bif wv s o then yo P o s else none
def dsl(ops:Array Oper)(o:Oper):Option Nat:=match o.guard with
 |some (j,_)=>gdt ops j
 |none=>match o.op with
  | .pick (.tmp t) _ _=>some t
  |_=>none
def ersO(kn:List Nat):Option Nat→List Nat
 |some d=>kn.erase d
 |none=>kn
def zRM{β:Type}:List (NN P)→T P β→T P β
 |[],t=>t
 | .z F::ns,t=>.n0 F (zRM ns t)
 | .o F::ns,t=>.n1 F (zRM ns t)
def opn{β:Type}(t:T P β)(kn:List Nat):Option Nat→Option (Nat×Bool×T P β×T P β)
 |some d=>bif kn.elem d then none else (match t with
  | .cond c a b=>some (d,c,a,b)
  | .selB c w ns f=>some (d,c,zRM P (bif w then ns else []) (f true),zRM P (bif w then [] else ns) (f false))
  |_=>none)
 |none=>none
def zKk{β:Type}(t:T P β)(kn:List Nat):Option Nat→T P β×List Nat
 |some d=>bif kn.elem d then (t,kn) else (match t with
  | .lit t'=>(t',d::kn)
  |_=>(t,kn))
 |none=>(t,kn)
def dtn(s:St):Option Nat→Option Nat
 |some d=>(match s.get d with
  | .tn=>none
  |_=>some d)
 |none=>none
def mtX{α:Type}(m:List Bool)(ids:List Nat)(S:St→α→(Nat→Loc)→St)(s:St):T P α→List Nat→St→OT:=fun t' _ s'=>match t' with
 | .ret a=>.eq (s'.kp m ids) (S s a s'.locs) .ok
 |_=>.bad
def goX:Nat→{β:Type}→T P β→List Nat→Array Oper→List Oper→St→(T P β→List Nat→St→OT)→OT
 |0,_,_,_,_,_,_,_=>.bad
 |n+1,β,t,kn,ops,rest,s,K=>match t with
  | .fail=>.ok
  | .hint H t'=>H.run s fun s'=>goX n t' kn ops rest s' K
  | .frc v k=>goX n (k v) kn ops rest s K
  | .lt v k=>goX n (k v) kn ops rest s K
  | .bnd _ k=>.all fun y=>goX n (k y) kn ops rest s K
  | .seqT t1 k=>goX n (sqT t1 k) kn ops rest s K
  | .joinC (.unroll d t1) m ids S f=>.and (goX n t1 kn ops (rest.take d) s (mtX P m ids S s)) (.all fun a=>.all fun γ=>goX n (f a) [] ops (rest.drop d) (S s a γ) K)
  |t=>match rest with
   |[]=>K t kn s
   |o::os=>match opn P t kn (dtn s (dsl ops o)) with
    |some (d,c,a,b)=>.eq (s.get d) (Bo c) (.and (goX n a (d::kn) ops rest (s.put d (Bo true)) K) (goX n b (d::kn) ops rest (s.put d (Bo false)) K))
    |none=>match zKk P t kn (dtn s (dsl ops o)) with
     |(t,kn)=>match yg ops o s with
      |some true=>(match wo P o s with
       |some s'=>goX n t (ersO kn o.dst) ops os s' K
       |none=>match t with
        | .n0 F t'=>(match o.dst with
         |some d=>.and (F.chk o s) (goX n t' (kn.erase d) ops os (s.put d (F.av o s)) K)
         |none=>.bad)
        | .n1 F t'=>(match o.dst with
         |some d=>.and (F.chk o s) (goX n t' (kn.erase d) ops os (s.upd d (F.av o s) (F.ne o s)) K)
         |none=>.bad)
        | .op0 F k=>(match o.dst with
         |some d=>.and (F.chk o s) (.all fun y=>goX n (k y) (kn.erase d) ops os (s.put d (F.av o s y)) K)
         |none=>.bad)
        | .op1 F k=>(match o.dst with
         |some d=>.and (F.chk o s) (.all fun y=>goX n (k y) (kn.erase d) ops os (s.upd d (F.av o s y) (F.ne o s y)) K)
         |none=>.bad)
        | .late H t'=>H.run s fun s'=>goX n t' kn ops (o::os) s' K
        | .op1o F a k=>(match o.dst with
         |some d=>.and (F.chk o s) (.and (goX n a (kn.erase d) ops os (s.upd d (F.av o s none) (F.ne o s none)) K) (.all fun y=>goX n (k y) (kn.erase d) ops os (s.upd d (F.av o s (some y)) (F.ne o s (some y))) K))
         |none=>.bad)
        | .opx F k=>.all fun y=>F.run o s y fun s'=>goX n (k y) (ersO kn o.dst) ops os s' K
        |_=>.bad)
      |some false=>(match o.dst with
       |some d=>goX n t (kn.erase d) ops os (s.put d .tn) K
       |none=>.bad)
      |none=>.bad
end
section
variable {P:Program}
theorem zWs{ops:Array Oper}{rest:List Oper}{s:St}{J:St→Prop}{d:Nat}{c:Bool}(h:s.get d=Bo c)(h1:c=true→XL P ops rest (s.put d (Bo true)) J)(h2:c=false→XL P ops rest (s.put d (Bo false)) J):XL P ops rest s J:=by
 cases c with
 |true=>have h1:=h1 rfl;rw[←h,zSs]at h1;exact h1
 |false=>have h2:=h2 rfl;rw[←h,zSs]at h2;exact h2
theorem zNK(E:List (Nat×Ent)):∀(ids:List Nat)(id:Nat)(e:Ent),(kpE E ids).lookup id=some e→E.lookup id=some e
 |[],id,e,h=>by simp[kpE]at h
 |i::is,id,e,h=>by
  unfold kpE at h;split at h
  ·rename_i f hf;simp only[List.lookup]at h;split at h
   ·rename_i hq;have:id=i:=by simpa using hq
    subst this;rw[hf];exact h
   ·exact zNK E is id e h
  ·exact zNK E is id e h
theorem zFp(m:List Bool)(ids:List Nat)(s:St):Le (s.kp m ids) s:=
 ⟨zKK m s.T,fun t=>zKL m s.T t,fun id e h=>zNK s.E ids id e h⟩
theorem zZD(m:List Bool)(ids:List Nat){ops:Array Oper}{rest:List Oper}{s s1:St}{J:St→Prop}(h:s.kp m ids=s1)(hT:XL P ops rest s1 J):XL P ops rest s J:=by subst h;intro B w0 ok0 ok σ a w hR Q hQ;exact hT _ _ _ _ _ _ _ (hR.le (zFp m ids s)) Q hQ
theorem zPO(m:List Bool)(ids:List Nat){c:Code}{s s1:St}{J:Exit→St→Prop}(h:s.kp m ids=s1)(hv:V P c s1 J):V P c s J:=by subst h;exact V_le (zFp m ids s) hv
theorem zTa{H:HT}{s:St}{K:St→OT}(h:(H.run s K).holds){ops:Array Oper}{rest:List Oper}{J:St→Prop}(hk:∀s',(K s').holds→XL P ops rest s' J):XL P ops rest s J:=by intro B w0 ok0 ok σ a w hR Q hQ;obtain⟨s',ok',σ',h1,h2⟩:=H.ok s K h _ _ _ _ _ _ _ hR;exact hk s' h1 _ _ _ _ _ _ _ h2 Q hQ
theorem zVr{H:HT}{s:St}{K:St→OT}(h:(H.run s K).holds){c:Code}{J:Exit→St→Prop}(hk:∀s',(K s').holds→V P c s' J):V P c s J:=by intro B w0 ok0 ok σ a w hR;obtain⟨s',ok',σ',h1,h2⟩:=H.ok s K h _ _ _ _ _ _ _ hR;exact hk s' h1 _ _ _ _ _ _ _ h2
theorem zXI{o:Oper}{s s':St}(h:wo P o s=some s'):X P o s s':=by
 unfold wo at h;cases hb:wv s o with
 |false=>rw[hb,cond_false]at h;cases h
 |true=>rw[hb,cond_true]at h;exact yo_ok h
theorem zH7{β ρ:Type}(k:β→Option ρ)(t:T P β):∀ns:List (NN P),(zRM P ns t).den k=t.den k
 |[]=>rfl
 | .z _::ns=>zH7 k t ns
 | .o _::ns=>zH7 k t ns
theorem zNC{β ρ:Type}{t:T P β}{kn:List Nat}{q:Option Nat}{d:Nat}{c:Bool}{a b:T P β}(h:opn P t kn q=some (d,c,a,b))(k:β→Option ρ):t.den k=bif c then a.den k else b.den k:=by
 unfold opn at h;split at h
 ·rename_i d0;cases hb:kn.elem d0 with
  |true=>rw[hb,cond_true]at h;cases h
  |false=>
   rw[hb,cond_false]at h;split at h
   ·injection h with h;injection h with h1 h;injection h with h2 h;injection h with h3 h4;subst h2 h3 h4;rfl
   ·injection h with h;injection h with h1 h;injection h with h2 h;injection h with h3 h4;subst h2 h3 h4;rename_i c w ns f;cases c
    ·exact (zH7 k (f false) _).symm
    ·exact (zH7 k (f true) _).symm
   ·cases h
 ·cases h
theorem zJh{β ρ:Type}(t:T P β)(kn:List Nat)(q:Option Nat)(k:β→Option ρ):(zKk P t kn q).1.den k=t.den k:=by
 unfold zKk;split
 ·rename_i d0;cases hb:kn.elem d0 with
  |true=>rfl
  |false=>rw[cond_false];split<;>rfl
 ·rfl
theorem zNY{β ρ:Type}{c:Bool}{x y:Option ρ}{r:ρ}(h:(bif c then x else y)=some r):(c=true→x=some r)∧(c=false→y=some r):=by
 cases c with
 |true=>exact⟨fun _=>h,fun h=>by cases h⟩
 |false=>exact⟨fun h=>(by cases h),fun _=>h⟩
theorem zU8{o:Oper}{a:Act}{w:World}{K:Act→World→Prop}{Q Q':Exit→Act→World→Prop}(h1:∀ch a w,Q (.panic ch) a w→Q' (.panic ch) a w)(h2:LetsOut Q→LetsOut Q')(hh:o.wp P a w K Q):o.wp P a w K Q':=by
 unfold Oper.wp at*;generalize (execOp a.eval o).run P w=r at*;cases r with
 |ok n w'=>
  cases n<;>simp only[Oper.upon]at hh ⊢<;>first|exact hh|exact Calls.mono hh (fun e w'' he=>by cases e<;>first|exact he|exact h1 _ _ _ he|exact h2 he)
 |halt x w'=>cases x<;>simp only[Oper.upon]at hh ⊢<;>first|exact hh|exact h1 _ _ _ hh
theorem zZE{ops:Array Oper}{r1 r2:List Oper}{s:St}{J1 J:St→Prop}(h1:XL P ops r1 s J1)(h2:∀s',J1 s'→XL P ops r2 s' J):XL P ops (r1++r2) s J:=by
 intro B w0 ok0 ok σ a w hR Q hQ;have key:∀(l:List Oper)(a:Act)(w:World),wpList P ops (fun e a w=>match e with| .normal=>wpList P ops Q r2 a w|e=>Q e a w) l a w→wpList P ops Q (l++r2) a w:=by
  intro l
  induction l with
  |nil=>exact fun a w h=>h
  |cons o l ih=>
   intro a w h;rw[List.cons_append];unfold wpList at h ⊢;split
   ·rename_i hw;rw[if_pos hw]at h;exact h.imp (fun h=>zU8 (fun _ _ _ h=>h) (fun h=>h) (Oper.wp_mono ih h)) (fun h=>⟨h.1,h.2⟩)
   ·rename_i hw;rw[if_neg hw]at h;exact ih _ _ h
 exact key r1 a w (h1 _ _ _ _ _ _ _ hR _ fun s' a' w' ok' σ' hJ hR'=>h2 s' hJ _ _ _ _ _ _ _ hR' Q hQ)
theorem zXl{α ρ:Type}{m:List Bool}{ids:List Nat}{S:St→α→(Nat→Loc)→St}{s:St}{t':T P α}{kn:List Nat}{s':St}(h:(mtX P m ids S s t' kn s').holds){κ:α→Option ρ}{r:ρ}(hd:t'.den κ=some r):∃a,s'.kp m ids=S s a s'.locs∧κ a=some r:=by
 unfold mtX at h;split at h
 ·rename_i a;exact⟨a,h.1,hd⟩
 ·exact h.elim
theorem zCD:∀(n:Nat){β:Type}(t:T P β)(kn:List Nat)(ops:Array Oper)(rest:List Oper)(s:St)(K:T P β→List Nat→St→OT),(goX P n t kn ops rest s K).holds→
  ∀{ρ:Type}(k:β→Option ρ)(r:ρ),t.den k=some r→∀J:St→Prop,(∀t' kn' s',(K t' kn' s').holds→T.den t' k=some r→J s')→XL P ops rest s J
 |0,_,_,_,_,_,_,_,h=>h.elim
 |n+1,β,t,kn,ops,rest,s,K,h=>by
  intro k r hd J hJ;unfold goX at h;split at h
  ·cases hd
  ·rename_i H t';exact zTa h fun s' hs=>zCD n t' kn ops rest s' K hs k r hd J hJ
  ·rename_i v f;have hd:sI v (fun y=>(f y).den k)=some r:=hd;rw[zP]at hd;exact zCD n (f v) kn ops rest s K h k r hd J hJ
  ·rename_i v f;exact zCD n (f v) kn ops rest s K h k r hd J hJ
  ·rename_i m f;obtain⟨y,_,h2⟩:=zI (show m.bind (fun y=>(f y).den k)=some r from hd);exact zCD n (f y) kn ops rest s K (h y) k r h2 J hJ
  ·rename_i t1 f;exact zCD n (sqT t1 f) kn ops rest s K h k r (by rw[zP6];exact hd) J hJ
  ·rename_i d t1 m ids S f;have h1:t1.den (fun y=>(f y).den k)=some r:=hd;rw[←List.take_append_drop d rest];refine zZE (J1:=fun s'=>∃a,s'.kp m ids=S s a s'.locs∧(f a).den k=some r) (zCD n t1 kn ops (rest.take d) s _ h.1 _ r h1 _ fun t' kn' s' hK ht'=>zXl hK ht') ?_
   rintro s' ⟨a,hs,ha⟩;exact zZD m ids hs (zCD n (f a) [] ops (rest.drop d) _ K (h.2 a _) k r ha J hJ)
  ·split at h
   ·exact zC (hJ _ _ _ h hd)
   ·rename_i o os;split at h
    ·rename_i d c a b hq;rw[zNC hq k]at hd;obtain⟨ha,hb⟩:=zNY (β:=β) hd;exact zWs h.1 (fun hc=>zCD n a _ ops (o::os) _ K h.2.1 k r (ha hc) J hJ) (fun hc=>zCD n b _ ops (o::os) _ K h.2.2 k r (hb hc) J hJ)
    ·rename_i hnn;have hd:(zKk P t kn (dtn s (dsl ops o))).1.den k=some r:=by rw[zJh];exact hd
     split at h;rename_i t2 kn2 hu;rw[hu]at hd;have hd:t2.den k=some r:=hd;split at h
     ·rename_i hg;split at h
      ·rename_i s' hs;exact zGD hg (zXI hs) (zCD n _ _ ops os s' K h k r hd J hJ)
      ·split at h
       ·rename_i F t' hd;split at h
        ·rename_i d hdst;exact zGD hg (zB hdst (F.ok o s h.1)) (zCD n t' _ ops os _ K h.2 k r hd J hJ)
        ·exact h.elim
       ·rename_i F t' hd;split at h
        ·rename_i d hdst;exact zGD hg (zFQ hdst (F.ok o s h.1)) (zCD n t' _ ops os _ K h.2 k r hd J hJ)
        ·exact h.elim
       ·rename_i F f hd;split at h
        ·rename_i d hdst;obtain⟨y,h1,h2⟩:=zI (show F.m.bind (fun y=>(f y).den k)=some r from hd);exact zGD hg (zB hdst (F.ok o s y h1 h.1)) (zCD n (f y) _ ops os _ K (h.2 y) k r h2 J hJ)
        ·exact h.elim
       ·rename_i F f hd;split at h
        ·rename_i d hdst;obtain⟨y,h1,h2⟩:=zI (show F.m.bind (fun y=>(f y).den k)=some r from hd);exact zGD hg (zFQ hdst (F.ok o s y h1 h.1)) (zCD n (f y) _ ops os _ K (h.2 y) k r h2 J hJ)
        ·exact h.elim
       ·rename_i H t' hd;exact zTa h fun s' hs=>zCD n t' _ ops (o::os) s' K hs k r hd J hJ
       ·rename_i F t' f hd;split at h
        ·rename_i d hdst;obtain⟨y,h1,h2⟩:=zI (show F.m.bind (fun y=>elO y (t'.den k) fun x=>(f x).den k)=some r from hd);obtain⟨h3,h4,h5⟩:=h;cases y with
         |none=>exact zGD hg (zFQ hdst (F.ok o s none h1 h3)) (zCD n t' _ ops os _ K h4 k r h2 J hJ)
         |some y=>exact zGD hg (zFQ hdst (F.ok o s (some y) h1 h3)) (zCD n (f y) _ ops os _ K (h5 y) k r h2 J hJ)
        ·exact h.elim
       ·rename_i F f hd;obtain⟨y,h1,h2⟩:=zI (show F.m.bind (fun y=>(f y).den k)=some r from hd);exact zUG hg (F.ok o s _ y h1 (h y)) fun s' hs=>zCD n (f y) _ ops os s' K hs k r h2 J hJ
       ·exact h.elim
     ·rename_i hg;split at h
      ·rename_i d hdst;exact zWC hg hdst (zCD n _ _ ops os _ K h k r hd J hJ)
      ·exact h.elim
     ·exact h.elim
end
section
variable (P:Program)
def dslD(l:List Oper)(o:Oper):Option Nat:=match o.guard with
 |some (j,_)=>some j
 |none=>match o.op with
  | .pick (.tmp t) _ _=>some (idT t l 0)
  |_=>none
def opT:Operand→Option Nat
 | .tmp d=>some d
 |_=>none
def dtnD(rs:List Res):Option Nat→Option Nat
 |some d=>(match rs[d]? with
  |some (.r0 .tn)=>none
  |_=>some d)
 |none=>none
def goD:Nat→{β:Type}→T P β→List Nat→List Oper→List Nat→Nat→List (List Cd)→St→List Res→(T P β→St→OT)→OT
 |0,_,_,_,_,_,_,_,_,_,_=>.bad
 |n+1,β,t,kn,l,ms,n1,css,s0,rs,K=>match t with
  | .fail=>.ok
  | .frc v k=>goD n (k v) kn l ms n1 css s0 rs K
  | .lt v k=>goD n (k v) kn l ms n1 css s0 rs K
  | .bnd _ k=>.all fun y=>goD n (k y) kn l ms n1 css s0 rs K
  | .seqT t1 k=>goD n (sqT t1 k) kn l ms n1 css s0 rs K
  |t=>bif Nat.beq rs.length n1 then K t (fin (l.take n1) rs s0) else match l[rs.length]?,css[rs.length]? with
   |some o,some c=>match opn P t kn (dtnD rs (dslD l o)) with
    |some (d,b,t1,t2)=>.eq (rs[d]?) (some (.r0 (Bo b))) (.and (goD n t1 (d::kn) l ms n1 css s0 (rs.set d (.r0 (Bo true))) K) (goD n t2 (d::kn) l ms n1 css s0 (rs.set d (.r0 (Bo false))) K))
    |none=>match zKk P t kn (dtnD rs (dslD l o)) with
     |(t,kn)=>match (bif wv (appC c (l.take n1) rs s0) o then er1 P l ms n1 css s0 rs else none) with
      |some rs'=>goD n t kn l ms n1 css s0 rs' K
      |none=>.eq (yg l.toArray o (appC c (l.take n1) rs s0)) (some true) (match t with
       | .n0 F t'=>.and (F.chk o (appC c (l.take n1) rs s0)) (.eq (Nat.blt rs.length n1&&(zEo ms rs.length (F.av o (appC c (l.take n1) rs s0)) 0 (l.take n1)&&o.dst.isSome)) true (goD n t' kn l ms n1 css s0 (rs++[.r0 (F.av o (appC c (l.take n1) rs s0))]) K))
       | .n1 F t'=>.and (F.chk o (appC c (l.take n1) rs s0)) (.eq (Nat.blt rs.length n1&&(zFr (F.ne o (appC c (l.take n1) rs s0))&&(makes o&&((F.av o (appC c (l.take n1) rs s0)).small&&o.dst.isSome)))) true (goD n t' kn l ms n1 css s0 (rs++[.r1 (F.av o (appC c (l.take n1) rs s0)) (F.ne o (appC c (l.take n1) rs s0))]) K))
       | .op0 F k=>.and (F.chk o (appC c (l.take n1) rs s0)) (.all fun y=>.eq (Nat.blt rs.length n1&&(zEo ms rs.length (F.av o (appC c (l.take n1) rs s0) y) 0 (l.take n1)&&o.dst.isSome)) true (goD n (k y) kn l ms n1 css s0 (rs++[.r0 (F.av o (appC c (l.take n1) rs s0) y)]) K))
       | .op1 F k=>.and (F.chk o (appC c (l.take n1) rs s0)) (.all fun y=>.eq (Nat.blt rs.length n1&&(zFr (F.ne o (appC c (l.take n1) rs s0) y)&&(makes o&&((F.av o (appC c (l.take n1) rs s0) y).small&&o.dst.isSome)))) true (goD n (k y) kn l ms n1 css s0 (rs++[.r1 (F.av o (appC c (l.take n1) rs s0) y) (F.ne o (appC c (l.take n1) rs s0) y)]) K))
       |_=>.bad)
   |_,_=>.bad
def unpl{β:Type}(t:T P β):T P β:=match t with
 | .pl t'=>t'
 |t=>t
def undn{β:Type}(t:T P β):T P β:=match t with
 | .dn t'=>t'
 |t=>t
end
section
variable (P:Program)
inductive DN:Type 1
  |aut
  |n0 (F:N0 P)
  |n1 (F:N1 P)
  |f0 {α:Type} (F:F0 P α) (y:α)
  |f1 {α:Type} (F:F1 P α) (y:α)
  |fx {α:Type} (F:FX P α) (y:α)
  |hn (H:HT) (d:DN)
def allR{α:Type}:List α→(α→OT)→OT
 |[],_=>.ok
 |i::is,g=>.and (g i) (allR is g)
end
section
variable {P:Program}
theorem zNi{α:Type}{g:α→OT}:∀(is:List α),(allR is g).holds→∀i,i∈is→(g i).holds
 |[],_,i,hi=>by cases hi
 |j::is,h,i,hi=>by
  rcases List.mem_cons.1 hi with h1|h1
  ·subst h1;exact h.1
  ·exact zNi is h.2 i h1
def DN.good:DN P→Prop
 | .f0 F y=>F.m=some y
 | .f1 F y=>F.m=some y
 | .fx F y=>F.m=some y
 | .hn _ d=>d.good
 |_=>True
def DN.run:DN P→Oper→St→(St→OT)→OT
 | .aut,o,s,K=>(match wo P o s with
  |some s'=>K s'
  |none=>.bad)
 | .n0 F,o,s,K=>(match o.dst with
  |some d=>.and (F.chk o s) (K (s.put d (F.av o s)))
  |none=>.bad)
 | .n1 F,o,s,K=>(match o.dst with
  |some d=>.and (F.chk o s) (K (s.upd d (F.av o s) (F.ne o s)))
  |none=>.bad)
 | .f0 F y,o,s,K=>(match o.dst with
  |some d=>.and (F.chk o s) (K (s.put d (F.av o s y)))
  |none=>.bad)
 | .f1 F y,o,s,K=>(match o.dst with
  |some d=>.and (F.chk o s) (K (s.upd d (F.av o s y) (F.ne o s y)))
  |none=>.bad)
 | .fx F y,o,s,K=>F.run o s y K
 | .hn H d,o,s,K=>H.run s fun s'=>d.run o s' K
theorem DN.ok:∀(d:DN P)(o:Oper)(s:St)(K:St→OT),d.good→(d.run o s K).holds→XS P o s (fun s'=>(K s').holds)
 | .aut,o,s,K,_,h=>by
  unfold DN.run at h;split at h
  ·rename_i s' hs;exact zCe (zXI hs) h
  ·exact h.elim
 | .n0 F,o,s,K,_,h=>by
  unfold DN.run at h;split at h
  ·rename_i d hd;exact zCe (zB hd (F.ok o s h.1)) h.2
  ·exact h.elim
 | .n1 F,o,s,K,_,h=>by
  unfold DN.run at h;split at h
  ·rename_i d hd;exact zCe (zFQ hd (F.ok o s h.1)) h.2
  ·exact h.elim
 | .f0 F y,o,s,K,hg,h=>by
  unfold DN.run at h;split at h
  ·rename_i d hd;exact zCe (zB hd (F.ok o s y hg h.1)) h.2
  ·exact h.elim
 | .f1 F y,o,s,K,hg,h=>by
  unfold DN.run at h;split at h
  ·rename_i d hd;exact zCe (zFQ hd (F.ok o s y hg h.1)) h.2
  ·exact h.elim
 | .fx F y,o,s,K,hg,h=>F.ok o s K y hg h
 | .hn H d,o,s,K,hg,h=>by intro B w0 ok0 ok σ a w hR K2 Q hK;obtain⟨s',ok',σ',h1,h2⟩:=H.ok s _ h _ _ _ _ _ _ _ hR;exact DN.ok d o s' K hg h1 _ _ _ _ _ _ _ h2 K2 Q hK
def zIf:List HT→DN P→DN P
 |[],d=>d
 |H::hs,d=>.hn H (zIf hs d)
theorem zMJ:∀(hs:List HT)(d:DN P),d.good→(zIf hs d).good
 |[],_,h=>h
 |_::hs,d,h=>zMJ hs d h
def goP:Nat→{β:Type}→T P β→List Nat→List HT→List (DN P)→(T P β→List (DN P)→OT)→OT
 |0,_,_,_,_,_,_=>.bad
 |f+1,β,t,au,hs,acc,K=>match au with
  |[]=>K t acc
  |b::au'=>match Nat.beq b 1 with
   |true=>goP f t au' hs (acc++[.aut]) K
   |false=>match t with
    | .hint H t'=>goP f t' au (hs++[H]) acc K
    | .late H t'=>goP f t' au (hs++[H]) acc K
    | .fail=>.ok
    |t=>match Nat.beq b 2 with
     |true=>goP f t au' [] (acc++[zIf hs .aut]) K
     |false=>match t with
      | .n0 F t'=>goP f t' au' [] (acc++[zIf hs (.n0 F)]) K
      | .n1 F t'=>goP f t' au' [] (acc++[zIf hs (.n1 F)]) K
      | .op0 F k=>.all fun y=>goP f (k y) au' [] (acc++[zIf hs (.f0 F y)]) K
      | .op1 F k=>.all fun y=>goP f (k y) au' [] (acc++[zIf hs (.f1 F y)]) K
      | .opx F k=>.all fun y=>goP f (k y) au' [] (acc++[zIf hs (.fx F y)]) K
      |_=>.bad
theorem zEp:∀(f:Nat){β:Type}(t:T P β)(au:List Nat)(hs:List HT)(acc:List (DN P))(K:T P β→List (DN P)→OT),(goP f t au hs acc K).holds→(∀d,d∈acc→d.good)→
  ∀{ρ:Type}(k:β→Option ρ)(r:ρ),t.den k=some r→∃t' ds,(∀d,d∈ds→DN.good d)∧T.den t' k=some r∧(K t' ds).holds
 |0,_,_,_,_,_,_,h=>h.elim
 |f+1,β,t,au,hs,acc,K,h=>by
  intro ha ρ k r hd;have ha2:∀d0:DN P,d0.good→∀d,d∈acc++[zIf hs d0]→d.good:=by
   intro d0 h0 d hdm;rcases List.mem_append.1 hdm with h1|h1
   ·exact ha d h1
   ·rw[List.mem_singleton]at h1;subst h1;exact zMJ hs d0 h0
  have ha3:∀d,d∈acc++[(DN.aut:DN P)]→d.good:=by
   intro d hdm;rcases List.mem_append.1 hdm with h1|h1
   ·exact ha d h1
   ·rw[List.mem_singleton]at h1;subst h1;trivial
  unfold goP at h;split at h
  ·exact⟨t,acc,ha,hd,h⟩
  ·split at h
   ·exact zEp f _ _ _ _ _ h ha3 k r hd
   ·split at h
    ·exact zEp f _ _ _ _ _ h ha k r hd
    ·exact zEp f _ _ _ _ _ h ha k r hd
    ·cases hd
    ·split at h
     ·exact zEp f _ _ _ _ _ h (ha2 _ trivial) k r hd
     ·split at h
      ·exact zEp f _ _ _ _ _ h (ha2 _ trivial) k r hd
      ·exact zEp f _ _ _ _ _ h (ha2 _ trivial) k r hd
      ·rename_i F g _ _ _;obtain⟨y,h1,h2⟩:=zI (show F.m.bind (fun y=>(g y).den k)=some r from hd);exact zEp f _ _ _ _ _ (h y) (ha2 (.f0 F y) h1) k r h2
      ·rename_i F g _ _ _;obtain⟨y,h1,h2⟩:=zI (show F.m.bind (fun y=>(g y).den k)=some r from hd);exact zEp f _ _ _ _ _ (h y) (ha2 (.f1 F y) h1) k r h2
      ·rename_i F g _ _ _;obtain⟨y,h1,h2⟩:=zI (show F.m.bind (fun y=>(g y).den k)=some r from hd);exact zEp f _ _ _ _ _ (h y) (ha2 (.fx F y) h1) k r h2
      ·exact h.elim
def goL(l:List Oper)(ms:List Nat)(ds:List (DN P)):Nat→Nat→St→(St→OT)→OT
 |0,_,_,_=>.bad
 |f+1,mask,s,K=>bif Nat.beq mask (2 ^l.length - 1) then K s else allR (zIV ms mask l.length) fun i=>match l[i]?,ds[i]? with
  |some o,some d=>(match o.guard with
   |none=>d.run o s fun s'=>goL l ms ds f (mask|||2 ^i) s' K
   |some _=>.bad)
  |_,_=>.bad
theorem zQC{l:List Oper}{ms:List Nat}{ds:List (DN P)}{K:St→OT}{Q:Exit→Act→World→Prop}{B:Fr}{w0:World}{ok0:Nat→Prop}(hc:chk1 ms l.length 0 l=true)(hds:∀d,d∈ds→d.good)
  (hQ:∀s ok σ a w,(K s).holds→R B w0 ok0 ok σ s a w→Q .normal a w):
  ∀(fuel g:Nat)(listed:Array Bool)(mask:Nat)(s:St)(ok:Nat→Prop)(σ:Nat→Loc)(a:Act)(w:World),listed.size=l.length→(∀j,listed.getD j false=mask.testBit j)→(∀j,listed.getD j false=true→∀m,(ms.getD j 0).testBit m=true→listed.getD m false=true)→
   left l.length (fun j=>listed.getD j false)≤fuel→(goL l ms ds g mask s K).holds→R B w0 ok0 ok σ s a w→wpAny P .any l.toArray Q fuel listed a w:=by
 have full:∀(listed:Array Bool)(mask:Nat),listed.size=l.length→(∀j,listed.getD j false=mask.testBit j)→(∀j,j<l.length→listed.getD j false=true)→mask=2 ^l.length - 1:=by
  intro listed mask hs hm hall;apply Nat.eq_of_testBit_eq;intro j;rw[Nat.testBit_two_pow_sub_one,←hm];by_cases hj:j<l.length
  ·rw[hall j hj];simp[hj]
  ·have:listed.getD j false=false:=by
    rw[Array.getD_eq_getD_getElem?,Array.getElem?_eq_none (by omega)];rfl
   rw[this];simp[hj]
 have done:∀(g mask:Nat)(s:St),mask=2 ^l.length - 1→(goL l ms ds g mask s K).holds→(K s).holds:=by
  intro g mask s hmask h;cases g with
  |zero=>exact h.elim
  |succ g=>unfold goL at h;rw[hmask,Nat.beq_refl,cond_true]at h;exact h
 intro fuel
 induction fuel with
 |zero=>
  intro g listed mask s ok σ a w hs hm hcl hf hl hR;have hall:=zKJ (Nat.le_zero.1 hf);have hnil:Region.ready .any l.toArray listed=[]:=by
   rw[List.eq_nil_iff_forall_not_mem];intro i hi;obtain⟨h1,o,h3,_⟩:=(zD6 hs i).1 hi;have hlt:i<l.length:=by
    rcases Nat.lt_or_ge i l.length with h4|h4
    ·exact h4
    ·rw[List.getElem?_eq_none h4]at h3;cases h3
   rw[hall i hlt]at h1;cases h1
  exact⟨hnil,hQ s ok σ a w (done g mask s (full listed mask hs hm hall) hl) hR⟩
 |succ fuel ih=>
  intro g listed mask s ok σ a w hs hm hcl hf hl hR;refine⟨fun hnil=>?_,fun i hi=>?_⟩
  ·refine hQ s ok σ a w (done g mask s (full listed mask hs hm fun j hj=>?_) hl) hR;cases h3:listed.getD j false with
   |true=>rfl
   |false=>exact absurd hnil (zGJ hc hs j hj h3)
  ·have hbits:=zFN hc hs hi hcl;obtain⟨h1,o,h3,_⟩:=(zD6 hs i).1 hi;have hlt:i<l.length:=by
    rcases Nat.lt_or_ge i l.length with h4|h4
    ·exact h4
    ·rw[List.getElem?_eq_none h4]at h3;cases h3
   have hmem:=zIU ms mask _ i hlt (by rw[←hm];exact h1) fun j hj=>by rw[←hm];exact hbits j hj
   cases g with
   |zero=>exact hl.elim
   |succ g=>
    unfold goL at hl;have hnb:Nat.beq mask (2 ^l.length - 1)=false:=by
     cases hb:Nat.beq mask (2 ^l.length - 1) with
     |false=>rfl
     |true=>have:=Nat.eq_of_beq_eq_true hb;rw[hm,this,Nat.testBit_two_pow_sub_one]at h1;simp[hlt]at h1
    rw[hnb,cond_false]at hl;have hl2:=zNi _ hl i hmem;simp only[h3]at hl2;split at hl2
    ·rename_i o2 d he1 he2;injection he1 with he1;subst he1;split at hl2
     ·rename_i hguard;have hx:=DN.ok d o s _ (hds d (List.mem_of_getElem? he2)) hl2;have hset:=zEC listed i (by omega);have hleft:=zNI hs hlt h1;unfold wpOp;rw[show l.toArray[i]?=l[i]? by simp,h3];simp only;rw[if_pos (zEg hR.core (.inl hguard))];refine .inl (hx B w0 ok0 ok σ a w hR _ Q fun s' a' w' ok' σ' hI hR'=>?_);refine ih g (listed.setIfInBounds i true) (mask|||2 ^i) s' ok' σ' a' w' (by simpa using hs) (fun j=>?_) (fun j hj m hmm=>?_) (by omega) hI hR'
      ·rw[hset,Nat.testBit_or,Nat.testBit_two_pow,←hm];by_cases hj:j=i
       ·subst hj;simp
       ·rw[if_neg hj];have:decide (i=j)=false:=by simp;exact fun e=>hj e.symm
        rw[this,Bool.or_false]
      ·rw[hset]at hj ⊢;split
       ·rfl
       ·by_cases hji:j=i
        ·subst hji;exact hbits m hmm
        ·rw[if_neg hji]at hj;exact hcl j hj m hmm
     ·exact hl2.elim
    ·exact hl2.elim
theorem zWy{id:Nat}{l:List Oper}{ms:List Nat}{ds:List (DN P)}{K:St→OT}{s:St}{J:Exit→St→Prop}{g:Nat}(hm:P.follows .mixedOrders=true)(hc:chk1 ms l.length 0 l=true)(hds:∀d,d∈ds→d.good)(h:(goL l ms ds g 0 s K).holds)(hJ:∀s',(K s').holds→J .normal s'):
  V P (.region id l.toArray true) s J:=by
 intro B w0 ok0 ok σ a w hR;refine wp_region_any hm ?_
 have hrep:∀j,(Array.replicate l.toArray.size false).getD j false=false:=by intro j;rw[Array.getD_eq_getD_getElem?,Array.getElem?_replicate];split<;>rfl
 refine zQC (B:=B) (w0:=w0) (ok0:=ok0) hc hds (fun s' ok' σ' a' w' hK hR'=>⟨s',ok',σ',hJ s' hK,hR'⟩) l.toArray.size g _ 0 s ok σ a _ (by simp) (fun j=>by rw[hrep j,Nat.zero_testBit]) (fun j hj=>by rw[hrep j]at hj;cases hj) ?_ h hR.drew
 unfold left;refine Nat.le_trans List.countP_le_length ?_
 simp
def DN.post(γ:Nat→Loc):DN P→Oper→St→Option St
 | .aut,o,s=>wo P o s
 | .n0 F,o,s=>(match o.dst with
  |some d=>some (s.put d (F.av o s))
  |none=>none)
 | .n1 F,o,s=>(match o.dst with
  |some d=>some (s.upd d (F.av o s) (F.ne o s))
  |none=>none)
 | .f0 F y,o,s=>(match o.dst with
  |some d=>some (s.put d (F.av o s y))
  |none=>none)
 | .f1 F y,o,s=>(match o.dst with
  |some d=>some (s.upd d (F.av o s y) (F.ne o s y))
  |none=>none)
 | .fx F y,o,s=>F.post γ o s y
 | .hn H d,o,s=>(match H.post s with
  |some s'=>d.post γ o s'
  |none=>none)
def zUo(s:St):List (Nat×Ent)→OT
 |[]=>.ok
 |p::ps=>.eq (s.ent p.1) (some p.2) (zUo s ps)
theorem zRS{s:St}:∀{E:List (Nat×Ent)},(zUo s E).holds→HasE s E
 |[],_=>trivial
 |(k,e)::ps,h=>⟨h.1,zRS h.2⟩
def bldM(gh:Bool)(l:List Oper)(ds:List (DN P))(s0:St):List Nat→List (Nat×((Nat→Loc)→St))→(List (Nat×((Nat→Loc)→St))→OT)→OT
 |[],tab,K=>K tab
 |m::ms,tab,K=>match l[Nat.log2 m]?,ds[Nat.log2 m]?,tab.lookup (m - 2 ^Nat.log2 m) with
  |some o,some d,some S=>(match gh with
   |true=>bldM gh l ds s0 ms ((m,fun γ=>(d.post γ o (S γ)).getD s0)::tab) K
   |false=>(match d.post (fun _=>loc0) o (S fun _=>loc0) with
    |some s'=>bldM gh l ds s0 ms ((m,fun _=>s')::tab) K
    |none=>.eq m 0 .bad))
  |_,_,_=>.eq m 1 .bad
def stM(l:List Oper)(ds:List (DN P))(f1:Nat)(tab:List (Nat×((Nat→Loc)→St)))(m:Nat)(s:St)(i:Nat):OT:=match l[i]?,ds[i]?,tab.lookup (m|||2 ^i) with
 |some o,some d,some S2=>(match o.guard with
  |none=>.eq (Nat.ble (m|||2 ^i) f1) true (d.run o s fun s'=>.eq (S2 s'.locs).T s'.T (zUo s' (S2 s'.locs).E))
  |some _=>.bad)
 |_,_,_=>.eq (m,i) (0,0) .bad
def trM(l:List Oper)(ms:List Nat)(ds:List (DN P))(f1:Nat)(tab:List (Nat×((Nat→Loc)→St))):List (Nat×((Nat→Loc)→St))→OT
 |[]=>.ok
 |p::ps=>.and (bif Nat.beq p.1 f1 then .ok else .all fun γ=>allR (zIV ms p.1 l.length) fun i=>stM l ds f1 tab p.1 (p.2 γ) i) (trM l ms ds f1 tab ps)
theorem zT2{gh:Bool}{l:List Oper}{ds:List (DN P)}{s0:St}{K:List (Nat×((Nat→Loc)→St))→OT}:∀(ms:List Nat)(tab:List (Nat×((Nat→Loc)→St))),(bldM gh l ds s0 ms tab K).holds→∃tab',(K tab').holds∧∀S,tab.lookup 0=some S→(∀m,m∈ms→m≠0)→tab'.lookup 0=some S
 |[],tab,h=>⟨tab,h,fun s hs _=>hs⟩
 |m::ms,tab,h=>by
  have go:∀S',(bldM gh l ds s0 ms ((m,S')::tab) K).holds→∃tab',(K tab').holds∧∀S,tab.lookup 0=some S→(∀q,q∈m::ms→q≠0)→tab'.lookup 0=some S:=by
   intro S' h;obtain⟨tab',h1,h2⟩:=zT2 ms _ h;refine⟨tab',h1,fun s hs hm=>h2 s ?_ fun q hq=>hm q (List.mem_cons_of_mem _ hq)⟩;have:(0==m)=false:=by rw[zj];exact fun e=>hm m List.mem_cons_self e.symm
   simp only[List.lookup,this];exact hs
  unfold bldM at h;split at h
  ·split at h
   ·exact go _ h
   ·split at h
    ·exact go _ h
    ·exact h.2.elim
  ·exact h.2.elim
theorem zUM{l:List Oper}{ms:List Nat}{ds:List (DN P)}{f1:Nat}{tab:List (Nat×((Nat→Loc)→St))}:∀(ps:List (Nat×((Nat→Loc)→St))),(trM l ms ds f1 tab ps).holds→∀m S,ps.lookup m=some S→m≠f1→∀γ,(allR (zIV ms m l.length) fun i=>stM l ds f1 tab m (S γ) i).holds
 |[],_,m,s,h,_=>by simp at h
 |(q,t)::ps,h,m,s,hl,hne=>by
  simp only[List.lookup]at hl;cases hq:m==q with
  |true=>
   have:m=q:=by simpa using hq
   subst this;rw[hq]at hl;injection hl with hl;subst hl;have h1:=h.1;have:Nat.beq m f1=false:=by
    cases hb:Nat.beq m f1 with
    |false=>rfl
    |true=>exact absurd (Nat.eq_of_beq_eq_true hb) hne
   simp only[this,cond_false]at h1;exact h1
  |false=>rw[hq]at hl;exact zUM ps h.2 m s hl hne
def nz0:List Nat→Bool
 |[]=>true
 |m::ms=>!Nat.beq m 0&&nz0 ms
theorem zUd:∀{ms:List Nat},nz0 ms=true→∀m,m∈ms→m≠0
 |m::ms,h,q,hq=>by
  simp only[nz0,ze,Bool.not_eq_true']at h;rcases List.mem_cons.1 hq with h1|h1
  ·subst h1;intro e;subst e;exact absurd h.1 (by decide)
  ·exact zUd h.2 q h1
theorem zY9{l:List Oper}{ms:List Nat}{ds:List (DN P)}{K:St→OT}{Q:Exit→Act→World→Prop}{B:Fr}{w0:World}{ok0:Nat→Prop}{f1 g:Nat}{tab:List (Nat×((Nat→Loc)→St))}{s1:(Nat→Loc)→St}(hf1:f1≤2 ^l.length - 1)(hc:chk1 ms l.length 0 l=true)(hds:∀d,d∈ds→d.good)
  (ht:(trM l ms ds f1 tab tab).holds) (h1:tab.lookup f1=some s1) (hg:∀γ,(goL l ms ds g f1 (s1 γ) K).holds) (hQ:∀s ok σ a w,(K s).holds→R B w0 ok0 ok σ s a w→Q .normal a w):
  ∀(fuel:Nat)(listed:Array Bool)(mask:Nat)(s:(Nat→Loc)→St)(γ:Nat→Loc)(ok:Nat→Prop)(σ:Nat→Loc)(a:Act)(w:World),listed.size=l.length→(∀j,listed.getD j false=mask.testBit j)→(∀j,listed.getD j false=true→∀m,(ms.getD j 0).testBit m=true→listed.getD m false=true)→
   left l.length (fun j=>listed.getD j false)≤fuel→tab.lookup mask=some s→mask≤f1→R B w0 ok0 ok σ (s γ) a w→wpAny P .any l.toArray Q fuel listed a w:=by
 intro fuel
 induction fuel with
 |zero=>
  intro listed mask s γ ok σ a w hs hm hcl hf hl hfull hR;by_cases he:mask=f1
  ·subst he;rw[h1]at hl;injection hl with hl;subst hl;exact zQC hc hds hQ 0 g listed mask (s1 γ) ok σ a w hs hm hcl hf (hg γ) hR
  ·exfalso
   have hall:=zKJ (Nat.le_zero.1 hf);have hmask:mask=2 ^l.length - 1:=by
    apply Nat.eq_of_testBit_eq;intro j;rw[Nat.testBit_two_pow_sub_one,←hm];by_cases hj:j<l.length
    ·rw[hall j hj];simp[hj]
    ·have:listed.getD j false=false:=by
      rw[Array.getD_eq_getD_getElem?,Array.getElem?_eq_none (by omega)];rfl
     rw[this];simp[hj]
   omega
 |succ fuel ih=>
  intro listed mask s γ ok σ a w hs hm hcl hf hl hfull hR;by_cases he:mask=f1
  ·subst he;rw[h1]at hl;injection hl with hl;subst hl;exact zQC hc hds hQ (fuel+1) g listed mask (s1 γ) ok σ a w hs hm hcl hf (hg γ) hR
  ·have hst:=zUM tab ht mask s hl he γ;refine⟨fun hnil=>?_,fun i hi=>?_⟩
   ·exfalso
    have hall:∀j,j<l.length→listed.getD j false=true:=fun j hj=>by
     cases h3:listed.getD j false with
     |true=>rfl
     |false=>exact absurd hnil (zGJ hc hs j hj h3)
    have hmask:mask=2 ^l.length - 1:=by
     apply Nat.eq_of_testBit_eq;intro j;rw[Nat.testBit_two_pow_sub_one,←hm];by_cases hj:j<l.length
     ·rw[hall j hj];simp[hj]
     ·have:listed.getD j false=false:=by
       rw[Array.getD_eq_getD_getElem?,Array.getElem?_eq_none (by omega)];rfl
      rw[this];simp[hj]
    omega
   ·have hbits:=zFN hc hs hi hcl;obtain⟨h2,o,h3,_⟩:=(zD6 hs i).1 hi;have hlt:i<l.length:=by
     rcases Nat.lt_or_ge i l.length with h4|h4
     ·exact h4
     ·rw[List.getElem?_eq_none h4]at h3;cases h3
    have hmem:=zIU ms mask _ i hlt (by rw[←hm];exact h2) fun j hj=>by rw[←hm];exact hbits j hj
    have hl2:=zNi _ hst i hmem;unfold stM at hl2;simp only[h3]at hl2;split at hl2
    ·rename_i o2 d s2 he1 he2 he3;injection he1 with he1;subst he1;split at hl2
     ·rename_i hguard;obtain⟨hble,hl2⟩:=hl2;have hble:=Nat.le_of_ble_eq_true hble;have hx:=DN.ok d o (s γ) _ (hds d (List.mem_of_getElem? he2)) hl2;have hset:=zEC listed i (by omega);have hleft:=zNI hs hlt h2;unfold wpOp;rw[show l.toArray[i]?=l[i]? by simp,h3];simp only;rw[if_pos (zEg hR.core (.inl hguard))];refine .inl (hx B w0 ok0 ok σ a w hR _ Q fun s' a' w' ok' σ' hI hR'=>?_);obtain⟨hT,hE⟩:=hI;have hE:=zRS hE;have hle:Le (s2 s'.locs) s':=⟨by rw[hT];exact Nat.le_refl _,fun t=>.inr (by unfold St.get;rw[hT]),fun id e he=>zKd s' (s2 s'.locs).E id e hE he⟩
      by_cases hff:mask|||2 ^i=f1
      ·rw[hff,h1]at he3;injection he3 with he3;subst he3;refine zQC hc hds hQ fuel g (listed.setIfInBounds i true) f1 (s1 s'.locs) ok' σ' a' w' (by simpa using hs) (fun j=>?_) (fun j hj m hmm=>?_) (by omega) (hg _) (hR'.le hle)
       ·rw[hset,←hff,Nat.testBit_or,Nat.testBit_two_pow,←hm];by_cases hj:j=i
        ·subst hj;simp
        ·rw[if_neg hj];have:decide (i=j)=false:=by simp;exact fun e=>hj e.symm
         rw[this,Bool.or_false]
       ·rw[hset]at hj ⊢;split
        ·rfl
        ·by_cases hji:j=i
         ·subst hji;exact hbits m hmm
         ·rw[if_neg hji]at hj;exact hcl j hj m hmm
      ·refine ih (listed.setIfInBounds i true) (mask|||2 ^i) s2 s'.locs ok' σ' a' w' (by simpa using hs) (fun j=>?_) (fun j hj m hmm=>?_) (by omega) he3 hble (hR'.le hle)
       ·rw[hset,Nat.testBit_or,Nat.testBit_two_pow,←hm];by_cases hj:j=i
        ·subst hj;simp
        ·rw[if_neg hj];have:decide (i=j)=false:=by simp;exact fun e=>hj e.symm
         rw[this,Bool.or_false]
       ·rw[hset]at hj ⊢;split
        ·rfl
        ·by_cases hji:j=i
         ·subst hji;exact hbits m hmm
         ·rw[if_neg hji]at hj;exact hcl j hj m hmm
     ·exact hl2.elim
    ·exact hl2.2.elim
theorem zWx{id n1:Nat}{l:List Oper}{ms:List Nat}{ds:List (DN P)}{K:St→OT}{s:St}{s1:(Nat→Loc)→St}{J:Exit→St→Prop}{g:Nat}{tab:List (Nat×((Nat→Loc)→St))}(hn:n1≤l.length)(hm:P.follows .mixedOrders=true)(hc:chk1 ms l.length 0 l=true)(hds:∀d,d∈ds→d.good)
  (ht:(trM l ms ds (2 ^n1 - 1) tab tab).holds) (h1:tab.lookup (2 ^n1 - 1)=some s1) (h:∀γ,(goL l ms ds g (2 ^n1 - 1) (s1 γ) K).holds) (h0:tab.lookup 0=some fun _=>s) (hJ:∀s',(K s').holds→J .normal s'):
  V P (.region id l.toArray true) s J:=by
 intro B w0 ok0 ok σ a w hR;refine wp_region_any hm ?_
 have hrep:∀j,(Array.replicate l.toArray.size false).getD j false=false:=by intro j;rw[Array.getD_eq_getD_getElem?,Array.getElem?_replicate];split<;>rfl
 have hf1:2 ^n1 - 1≤2 ^l.length - 1:=Nat.sub_le_sub_right (Nat.pow_le_pow_right (by omega) hn) 1;refine zY9 (B:=B) (w0:=w0) (ok0:=ok0) hf1 hc hds ht h1 h (fun s' ok' σ' a' w' hK hR'=>⟨s',ok',σ',hJ s' hK,hR'⟩) l.toArray.size _ 0 (fun _=>s) (fun _=>loc0) ok σ a _ (by simp) (fun j=>by rw[hrep j,Nat.zero_testBit]) (fun j hj=>by rw[hrep j]at hj;cases hj) ?_ h0 (Nat.zero_le _) hR.drew
 unfold left;refine Nat.le_trans List.countP_le_length ?_
 simp
end
section
variable (P:Program)
def goR{β:Type}(g:T P β→St→(Exit→T P β→List Nat→St→OT)→OT):Nat→T P β→St→(Exit→T P β→List Nat→St→OT)→OT
 |0,_,_,_=>.bad
 |j+1,t,s,K=>g t s fun e t' kn' s'=>match e with
  | .normal=>goR g j t' s' K
  |e=>K e t' kn' s'
def mtK{α:Type}(m:List Bool)(ids:List Nat)(S:St→α→(Nat→Loc)→St)(s:St):Exit→T P α→List Nat→St→OT:=fun e t' _ s'=>match e,t' with
 | .normal,.ret a=>.eq (s'.kp m ids) (S s a s'.locs) .ok
 |_,_=>.bad
def mtKS{α γ β:Type}(m:List Bool)(ids:List Nat)(S:St→α→(Nat→Loc)→St)(s:St)(er:γ→β)(K:Exit→T P β→List Nat→St→OT):Exit→T P (α ⊕ γ)→List Nat→St→OT:=fun e t' kn' s'=>match e,t' with
 | .normal,.ret (.inl a)=>.eq (s'.kp m ids) (S s a s'.locs) .ok
 | .ret,.ret (.inr r)=>K .ret (.ret (er r)) kn' s'
 | .exit i,.ret (.inr r)=>K (.exit i) (.ret (er r)) kn' s'
 |_,_=>.bad
def lpK{ι o:Type}(id:Nat)(m:List Bool)(ids:List Nat)(S:St→ι→(Nat→Loc)→St)(mo:List Bool)(ido:List Nat)(So:St→o→(Nat→Loc)→St)(s:St):Exit→T P (ι ⊕ o)→List Nat→St→OT:=fun e t' _ s'=>match e,t' with
 | .normal,.ret (.inl x')=>.eq (s'.kp m ids) (S s x' s'.locs) .ok
 | .exit i,.ret (.inr y)=>bif Nat.beq i id then .eq (s'.kp mo ido) (So s y s'.locs) .ok else .bad
 |_,_=>.bad
def lpKS{ι o γ β:Type}(id:Nat)(m:List Bool)(ids:List Nat)(S:St→ι→(Nat→Loc)→St)(mo:List Bool)(ido:List Nat)(So:St→o→(Nat→Loc)→St)(s:St)(er:γ→β)(K:Exit→T P β→List Nat→St→OT):Exit→T P (Lf ι o γ)→List Nat→St→OT:=fun e t' kn' s'=>match e,t' with
 | .normal,.ret (.again x')=>.eq (s'.kp m ids) (S s x' s'.locs) .ok
 | .exit i,.ret (.done y)=>bif Nat.beq i id then .eq (s'.kp mo ido) (So s y s'.locs) .ok else .bad
 | .ret,.ret (.early r)=>K .ret (.ret (er r)) kn' s'
 | .exit i,.ret (.early r)=>bif Nat.beq i id then .bad else K (.exit i) (.ret (er r)) kn' s'
 |_,_=>.bad
def nxK{β:Type}(g:T P β→St→OT)(K:Exit→T P β→List Nat→St→OT):Exit→T P β→List Nat→St→OT:=fun e t' kn' s'=>match e with
 | .normal=>g t' s'
 |e=>K e t' kn' s'
def bkK{β:Type}(id:Nat)(K:Exit→T P β→List Nat→St→OT):Exit→T P β→List Nat→St→OT:=fun e t' kn' s'=>match e with
 | .exit i=>bif Nat.beq i id then K .normal t' kn' s' else K (.exit i) t' kn' s'
 |e=>K e t' kn' s'
def goV:Nat→{β:Type}→T P β→List Nat→Code→St→(Exit→T P β→List Nat→St→OT)→OT
 |0,_,_,_,_,_,_=>.bad
 |n+1,β,t,kn,code,s,K=>match t with
  | .fail=>.ok
  | .hint H t'=>H.run s fun s'=>goV n t' kn code s' K
  | .late H t'=>H.run s fun s'=>goV n t' kn code s' K
  | .frc v k=>goV n (k v) kn code s K
  | .lt v k=>goV n (k v) kn code s K
  | .bnd _ k=>.all fun y=>goV n (k y) kn code s K
  | .seqT t1 k=>goV n (sqT t1 k) kn code s K
  | .join t1 m ids S f=>(match code with
   | .block id c=>goV n (.join t1 m ids S f) kn c s (bkK P id K)
   | .seq x y=>.and (goV n t1 kn x s (mtK P m ids S s)) (.all fun a=>.all fun γ=>goV n (f a) [] y (S s a γ) K)
   |c=>.and (goV n t1 kn c s (mtK P m ids S s)) (.all fun a=>.all fun γ=>K .normal (f a) [] (S s a γ)))
  | .joinC t1 m ids S f=>(match code with
   | .block id c=>goV n (.joinC t1 m ids S f) kn c s (bkK P id K)
   | .seq x y=>.and (goV n t1 kn x s (mtK P m ids S s)) (.all fun a=>.all fun γ=>goV n (f a) [] y (S s a γ) K)
   |c=>.and (goV n t1 kn c s (mtK P m ids S s)) (.all fun a=>.all fun γ=>K .normal (f a) [] (S s a γ)))
  | .joinS t1 m ids S er f=>(match code with
   | .block id c=>goV n (.joinS t1 m ids S er f) kn c s (bkK P id K)
   | .seq x y=>.and (goV n t1 kn x s (mtKS P m ids S s er K)) (.all fun a=>.all fun γ=>goV n (f a) [] y (S s a γ) K)
   |_=>.bad)
  |t=>match code with
   | .skip=>K .normal (unpl P t) kn s
   | .exit id=>K (.exit id) t kn s
   | .ret=>K .ret t kn s
   | .label _=>K .normal t kn s
   | .cond c x y=>(match opn P t kn (opT c) with
    |some (d,b,t1,t2)=>.eq (s.ev c) (Bo b) (.and (goV n t1 kn x s K) (goV n t2 kn y s K))
    |none=>match zKk P t kn (opT c) with
     |(t,kn)=>match s.ev c with
      | .c (.v (.bool true))=>goV n t kn x s K
      | .c (.v (.bool false))=>goV n t kn y s K
      |_=>.bad)
   | .seq x y=>goV n (undn P t) kn x s (nxK P (fun t' s'=>goV n t' [] y s' K) K)
   | .region id ops false=>goX P n (unpl P t) [] ops ops.toList s fun t' _ s'=>K .normal t' [] s'
   | .region id ops true=>(match t with
    | .draw n1 tg t'=>.eq (P.follows .mixedOrders&&zGT ops.toList (amk ops.toList []) n1 (acs (amk ops.toList []) tg n1 n1)) true
      (goD P n t' [] ops.toList (amk ops.toList []) n1 (acs (amk ops.toList []) tg n1 n1) (prep (ops.toList.take n1) s) [] fun t'' s'=>goX P n t'' [] ops (ops.toList.drop n1) s' fun t' _ s'=>K .normal t' [] s')
    | .drawM gh n1 masks au t'=>goP 100000 t' au [] [] fun t'' ds=>.eq (P.follows .mixedOrders&&(chk1 (amk ops.toList []) ops.toList.length 0 ops.toList&&(Nat.ble n1 ops.toList.length&&nz0 masks))) true (bldM gh ops.toList ds s masks [(0,fun _=>s)] fun tab=>(match tab.lookup (2 ^n1 - 1) with
      |some s1=>.and (trM ops.toList (amk ops.toList []) ds (2 ^n1 - 1) tab tab) (.all fun γ=>goL ops.toList (amk ops.toList []) ds (ops.toList.length+1) (2 ^n1 - 1) (s1 γ) fun s'=>K .normal t'' [] s')
      |none=>.bad))
    | .drawL au t'=>goP 100000 t' au [] [] fun t'' ds=>.eq (P.follows .mixedOrders&&chk1 (amk ops.toList []) ops.toList.length 0 ops.toList) true (goL ops.toList (amk ops.toList []) ds (ops.toList.length+1) 0 s fun s'=>K .normal t'' [] s')
    |_=>.bad)
   | .loop c=>(match t with
    | .unroll j t'=>goR P (fun t' s' K'=>goV n t' [] c s' K') j t' s K
    |_=>.bad)
   | .block id body=>(match body,t with
    | .loop c,.loop L x m ids S bt mo ido So f=>.eq (fun x=>L 0 x) (fun _=>none) (.eq (fun n x=>L (n+1) x) (fun n x=>(bt x).den (lk L n)) (.eq (s.kp m ids) (S s x s.locs) (.and
      (.all fun x=>.all fun γ=>goV n (bt x) [] c (S s x γ) (lpK P id m ids S mo ido So s))
      (.all fun y=>.all fun γ=>K .normal (f y) [] (So s y γ)))))
    | .loop c,.loopS L x m ids S bt mo ido So er f=>.eq (fun x=>L 0 x) (fun _=>none) (.eq (fun n x=>L (n+1) x) (fun n x=>(bt x).den (lkS L n)) (.eq (s.kp m ids) (S s x s.locs) (.and
      (.all fun x=>.all fun γ=>goV n (bt x) [] c (S s x γ) (lpKS P id m ids S mo ido So s er K))
      (.all fun y=>.all fun γ=>K .normal (f y) [] (So s y γ)))))
    |body,t=>goV n t kn body s (bkK P id K))
   |_=>.bad
end
section
variable {P:Program}
theorem zY4{l:List Oper}{rs:List Res}{o:Oper}{d:Nat}(ho:l[rs.length]?=some o)(h:dslD l o=some d):gtD l rs=d:=by
 unfold gtD;rw[ho];unfold dslD at h;split at h
 ·rename_i j b hg
  (try simp only[hg])
  injection h
 ·rename_i hg
  (try simp only[hg])
  split at h
  ·rename_i t x y hop
   (try simp only[hop])
   injection h
  ·cases h
theorem opn_q{β:Type}{t:T P β}{kn:List Nat}{q:Option Nat}{d:Nat}{c:Bool}{a b:T P β}(h:opn P t kn q=some (d,c,a,b)):q=some d:=by
 unfold opn at h;split at h
 ·rename_i d0;cases hb:kn.elem d0 with
  |true=>rw[hb,cond_true]at h;cases h
  |false=>
   rw[hb,cond_false]at h;split at h
   ·injection h with h;injection h with h1 h;rw[h1]
   ·injection h with h;injection h with h1 h;rw[h1]
   ·cases h
 ·cases h
theorem zYe{rs:List Res}{q:Option Nat}{d:Nat}(h:dtnD rs q=some d):q=some d:=by
 unfold dtnD at h;split at h
 ·split at h
  ·cases h
  ·exact h
 ·cases h
theorem zEZ:∀(n:Nat){β:Type}(t:T P β)(kn:List Nat)(l:List Oper)(ms:List Nat)(n1:Nat)(css:List (List Cd))(s0:St)(rs:List Res)(K:T P β→St→OT),(goD P n t kn l ms n1 css s0 rs K).holds→
  ∀{ρ:Type}(k:β→Option ρ)(r:ρ),t.den k=some r→∀J:St→Prop,(∀t' s',(K t' s').holds→T.den t' k=some r→J s')→DL P l ms n1 css s0 rs J
 |0,_,_,_,_,_,_,_,_,_,_,h=>h.elim
 |n+1,β,t,kn,l,ms,n1,css,s0,rs,K,h=>by
  intro k r hd J hJ;unfold goD at h;split at h
  ·cases hd
  ·rename_i v f;have hd:sI v (fun y=>(f y).den k)=some r:=hd;rw[zP]at hd;exact zEZ n (f v) kn l ms n1 css s0 rs K h k r hd J hJ
  ·rename_i v f;exact zEZ n (f v) kn l ms n1 css s0 rs K h k r hd J hJ
  ·rename_i m f;obtain⟨y,_,h2⟩:=zI (show m.bind (fun y=>(f y).den k)=some r from hd);exact zEZ n (f y) kn l ms n1 css s0 rs K (h y) k r h2 J hJ
  ·rename_i t1 f;exact zEZ n (sqT t1 f) kn l ms n1 css s0 rs K h k r (by rw[zP6];exact hd) J hJ
  ·cases hbe:Nat.beq rs.length n1 with
   |true=>rw[hbe,cond_true]at h;exact zQa (Nat.eq_of_beq_eq_true hbe) (hJ _ _ h hd)
   |false=>
    rw[hbe,cond_false]at h;split at h
    ·rename_i o c ho hc;split at h
     ·rename_i d b t1 t2 hq;rw[zNC hq k]at hd;obtain⟨ha,hb⟩:=zNY (β:=β) hd;have hg:=zY4 ho (zYe (opn_q hq));cases b with
      |true=>exact EQ (v:=true) rfl (by rw[hg];exact zEZ n t1 _ l ms n1 css s0 _ K h.2.1 k r (ha rfl) J hJ) (by rw[hg];exact h.1)
      |false=>exact EQ (v:=false) rfl (by rw[hg];exact zEZ n t2 _ l ms n1 css s0 _ K h.2.2 k r (hb rfl) J hJ) (by rw[hg];exact h.1)
     ·have hd:(zKk P t kn (dtnD rs (dslD l o))).1.den k=some r:=by rw[zJh];exact hd
      split at h;rename_i t2 kn2 hu;rw[hu]at hd;have hd:t2.den k=some r:=hd;split at h
      ·rename_i rs' hr;cases hw:wv (appC c (l.take n1) rs s0) o with
       |false=>rw[hw,cond_false]at hr;cases hr
       |true=>rw[hw,cond_true]at hr;exact zYd hr (zEZ n _ _ l ms n1 css s0 rs' K h k r hd J hJ)
      ·obtain⟨hg,h⟩:=h;split at h
       ·rename_i F t' hd;obtain⟨h3,h5,h6⟩:=h;rw[ze,ze]at h5;exact E0 rs.length ho hc (F.ok o _ h3) (zEZ n t' _ l ms n1 css s0 _ K h6 k r hd J hJ) rfl h5.1 hg h5.2.1 h5.2.2
       ·rename_i F t' hd;obtain⟨h3,h5,h6⟩:=h;rw[ze,ze,ze,ze]at h5;exact E1 rs.length ho hc (F.ok o _ h3) (zEZ n t' _ l ms n1 css s0 _ K h6 k r hd J hJ) rfl h5.1 hg h5.2.1 h5.2.2.1 h5.2.2.2.1 h5.2.2.2.2
       ·rename_i F f hd;obtain⟨y,h1,h2⟩:=zI (show F.m.bind (fun y=>(f y).den k)=some r from hd);obtain⟨h3,h4⟩:=h;obtain⟨h5,h6⟩:=h4 y;rw[ze,ze]at h5;exact E0 rs.length ho hc (F.ok o _ y h1 h3) (zEZ n (f y) _ l ms n1 css s0 _ K h6 k r h2 J hJ) rfl h5.1 hg h5.2.1 h5.2.2
       ·rename_i F f hd;obtain⟨y,h1,h2⟩:=zI (show F.m.bind (fun y=>(f y).den k)=some r from hd);obtain⟨h3,h4⟩:=h;obtain⟨h5,h6⟩:=h4 y;rw[ze,ze,ze,ze]at h5;exact E1 rs.length ho hc (F.ok o _ y h1 h3) (zEZ n (f y) _ l ms n1 css s0 _ K h6 k r h2 J hJ) rfl h5.1 hg h5.2.1 h5.2.2.1 h5.2.2.2.1 h5.2.2.2.2
       ·exact h.elim
    ·exact h.elim
theorem zPw{α ρ:Type}{m:List Bool}{ids:List Nat}{S:St→α→(Nat→Loc)→St}{s:St}{e:Exit}{t':T P α}{kn:List Nat}{s':St}(h:(mtK P m ids S s e t' kn s').holds){κ:α→Option ρ}{r:ρ}(hd:t'.den κ=some r):e=.normal∧∃a,s'.kp m ids=S s a s'.locs∧κ a=some r:=by
 unfold mtK at h;split at h
 ·rename_i a;exact⟨rfl,a,h.1,hd⟩
 ·exact h.elim
theorem zTb{c:Code}{s:St}{J' J:Exit→St→Prop}(h:V P c s J')(hJ:∀e s',J' e s'→J e s'∨∃s1,Le s1 s'∧J e s1):V P c s J:=by
 intro B w0 ok0 ok σ a w hR;refine wp_mono (h _ _ _ _ _ _ _ hR) ?_
 rintro e a' w' ⟨s',ok',σ',h1,hR'⟩;rcases hJ e s' h1 with h2|⟨s1,h2,h3⟩
 ·exact⟨s',ok',σ',h2,hR'⟩
 ·exact⟨s1,ok',σ',h3,hR'.le h2⟩
theorem zQj{β ρ:Type}(t:T P β)(k:β→Option ρ):(unpl P t).den k=t.den k:=by cases t<;>rfl
theorem zUL{β ρ:Type}(t:T P β)(k:β→Option ρ):(undn P t).den k=t.den k:=by cases t<;>rfl
theorem zS6{β ρ:Type}{id:Nat}{K:Exit→T P β→List Nat→St→OT}{k:β→Option ρ}{r:ρ}{J:Exit→St→Prop}(hJ:∀e t' kn' s',(K e t' kn' s').holds→T.den t' k=some r→J e s'):
  ∀e t' kn' s',(bkK P id K e t' kn' s').holds→T.den t' k=some r→zDl id J e s':=fun e t' kn' s' hK ht'=>by
 unfold bkK at hK;split at hK
 ·rename_i i;simp only[zDl];cases hi:Nat.beq i id with
  |true=>rw[hi,cond_true]at hK;exact hJ _ _ _ _ hK ht'
  |false=>rw[hi,cond_false]at hK;exact hJ _ _ _ _ hK ht'
 ·rename_i hne;have:=hJ _ _ _ _ hK ht';cases e<;>first|exact absurd rfl (hne _)|exact this
theorem zUx{β ρ:Type}{g:T P β→St→(Exit→T P β→List Nat→St→OT)→OT}{c:Code}{k:β→Option ρ}{r:ρ}(hg:∀t s K,(g t s K).holds→t.den k=some r→∀J:Exit→St→Prop,(∀e t' kn' s',(K e t' kn' s').holds→T.den t' k=some r→J e s')→V P c s J):
  ∀(j:Nat)(t:T P β)(s:St)(K:Exit→T P β→List Nat→St→OT),(goR P g j t s K).holds→t.den k=some r→∀J:Exit→St→Prop,(∀e t' kn' s',(K e t' kn' s').holds→T.den t' k=some r→J e s')→VR P c j s J
 |0,_,_,_,h=>h.elim
 |j+1,t,s,K,h=>fun hd J hJ=>by
  refine VR_s (hg t s _ h hd _ fun e t' kn' s' hK ht'=>?_);split at hK
  ·exact zUx hg j t' s' K hK ht' J hJ
  ·rename_i hne;have:=hJ _ _ _ _ hK ht';cases e<;>first|exact absurd rfl hne|exact this
theorem zAU:∀(n:Nat){β:Type}(t:T P β)(kn:List Nat)(code:Code)(s:St)(K:Exit→T P β→List Nat→St→OT),(goV P n t kn code s K).holds→
  ∀{ρ:Type}(k:β→Option ρ)(r:ρ),t.den k=some r→∀J:Exit→St→Prop,(∀e t' kn' s',(K e t' kn' s').holds→T.den t' k=some r→J e s')→V P code s J
 |0,_,_,_,_,_,_,h=>h.elim
 |n+1,β,t,kn,code,s,K,h=>by
  intro k r hd J hJ;unfold goV at h;split at h
  ·cases hd
  ·rename_i H t';exact zVr h fun s' hs=>zAU n t' kn code s' K hs k r hd J hJ
  ·rename_i H t';exact zVr h fun s' hs=>zAU n t' kn code s' K hs k r hd J hJ
  ·rename_i v f;have hd:sI v (fun y=>(f y).den k)=some r:=hd;rw[zP]at hd;exact zAU n (f v) kn code s K h k r hd J hJ
  ·rename_i v f;exact zAU n (f v) kn code s K h k r hd J hJ
  ·rename_i m f;obtain⟨y,_,h2⟩:=zI (show m.bind (fun y=>(f y).den k)=some r from hd);exact zAU n (f y) kn code s K (h y) k r h2 J hJ
  ·rename_i t1 f;exact zAU n (sqT t1 f) kn code s K h k r (by rw[zP6];exact hd) J hJ
  ·-- ways that meet
   rename_i α t1 m ids S f;obtain⟨a,h1,h2⟩:=zI (show (t1.den some).bind (fun y=>(f y).den k)=some r from hd);split at h
   ·exact zAF (zAU n _ kn _ s _ h k r hd _ (zS6 hJ))
   ·rename_i x y;refine zAS (zAU n t1 kn x s _ h.1 some a h1 _ fun e t' kn' s' hK ht'=>?_);obtain⟨he,a',hs,ha⟩:=zPw hK ht';subst he;injection ha with ha;subst ha;exact zPO m ids hs (zAU n (f a') [] y _ K (h.2 a' _) k r h2 J hJ)
   ·refine zTb (zAU n t1 kn _ s _ h.1 some a h1 (fun e s'=>e=.normal∧s'.kp m ids=S s a s'.locs) fun e t' kn' s' hK ht'=>?_) fun e s' hh=>?_
    ·obtain⟨he,a',hs,ha⟩:=zPw hK ht';injection ha with ha;subst ha;exact⟨he,hs⟩
    ·obtain⟨he,hs⟩:=hh;subst he;exact .inr ⟨_,zFp m ids s',by rw[hs];exact hJ _ _ _ _ (h.2 a _) h2⟩
  ·-- the same,the plain function goes on
   rename_i α t1 m ids S f;have h1:t1.den (fun y=>(f y).den k)=some r:=hd;split at h
   ·exact zAF (zAU n _ kn _ s _ h k r hd _ (zS6 hJ))
   ·rename_i x y;refine zAS (zAU n t1 kn x s _ h.1 _ r h1 _ fun e t' kn' s' hK ht'=>?_);obtain⟨he,a',hs,ha⟩:=zPw hK ht';subst he;exact zPO m ids hs (zAU n (f a') [] y _ K (h.2 a' _) k r ha J hJ)
   ·refine zTb (zAU n t1 kn _ s _ h.1 _ r h1 (fun e s'=>e=.normal∧∃a,s'.kp m ids=S s a s'.locs∧(f a).den k=some r) fun e t' kn' s' hK ht'=>zPw hK ht') fun e s' hh=>?_
    obtain⟨he,a,hs,ha⟩:=hh;subst he;exact .inr ⟨_,zFp m ids s',by rw[hs];exact hJ _ _ _ _ (h.2 a _) ha⟩
  ·-- ways of which some return
   rename_i α γ t1 m ids S er f;obtain⟨q,h1,h2⟩:=zI (show (t1.den some).bind (fun q=>elS q (fun y=>(f y).den k) fun r=>k (er r))=some r from hd);split at h
   ·exact zAF (zAU n _ kn _ s _ h k r hd _ (zS6 hJ))
   ·rename_i x y;refine zAS (zAU n t1 kn x s _ h.1 some q h1 _ fun e t' kn' s' hK ht'=>?_);unfold mtKS at hK;split at hK
    ·rename_i a';injection ht' with ht';subst ht';exact zPO m ids hK.1 (zAU n (f a') [] y _ K (h.2 a' _) k r h2 J hJ)
    ·rename_i r';injection ht' with ht';subst ht';exact hJ _ _ _ _ hK h2
    ·rename_i i r';injection ht' with ht';subst ht';exact hJ _ _ _ _ hK h2
    ·exact hK.elim
   ·exact h.elim
  ·split at h
   ·exact zCa (hJ _ _ _ _ h (by rw[zQj];exact hd))
   ·exact zEy (hJ _ _ _ _ h hd)
   ·exact zEU (hJ _ _ _ _ h hd)
   ·exact zWw (hJ _ _ _ _ h hd)
   ·-- a choice
    rename_i c x y;split at h
    ·rename_i d b t1 t2 hq;rw[zNC hq k]at hd;obtain⟨ha,hb⟩:=zNY (β:=β) hd;exact zCQ h.1 (fun e=>zAU n t1 _ x _ K h.2.1 k r (ha e) J hJ) (fun e=>zAU n t2 _ y _ K h.2.2 k r (hb e) J hJ)
    ·have hd:(zKk P t kn (opT c)).1.den k=some r:=by rw[zJh];exact hd
     split at h;rename_i t2 kn2 hu;rw[hu]at hd;have hd:t2.den k=some r:=hd;split at h
     ·rename_i hc;exact zCQ hc (fun _=>zAU n t2 _ x s K h k r hd J hJ) (fun e=>by cases e)
     ·rename_i hc;exact zCQ hc (fun e=>by cases e) (fun _=>zAU n t2 _ y s K h k r hd J hJ)
     ·exact h.elim
   ·-- one after the other
    rename_i x y;refine zAS (zAU n _ kn x s _ h k r (by rw[zUL];exact hd) _ fun e t' kn' s' hK ht'=>?_);unfold nxK at hK;split at hK
    ·exact zAU n t' [] y s' K hK k r ht' J hJ
    ·rename_i hne;have:=hJ _ _ _ _ hK ht';cases e<;>first|exact absurd rfl hne|exact this
   ·-- operations in the text's order
    rename_i id ops;exact zNo (zCD n _ [] ops ops.toList s _ h k r (by rw[zQj];exact hd) (J .normal) fun t' kn' s' hK ht'=>hJ _ _ _ _ hK ht')
   ·-- operations whose order is open
    rename_i id ops;have eo:ops.toList.toArray=ops:=by simp
    split at h
    ·obtain⟨hc,h⟩:=h;rw[ze]at hc;rw[←eo];refine zVs _ _ _ hc.1 (by simpa using hc.2) ?_
     simp only[eo]at h ⊢;refine zEZ n _ [] ops.toList _ _ _ _ [] _ h k r hd _ fun t'' s' hK ht''=>?_
     exact zCD n t'' [] ops _ s' _ hK k r ht'' (J .normal) fun t3 kn3 s3 hK3 ht3=>hJ _ _ _ _ hK3 ht3
    ·obtain⟨t'',ds,g1,g2,g3⟩:=zEp 100000 _ _ [] [] _ h (fun d hd=>by cases hd) k r hd;obtain⟨hc,h⟩:=g3;simp only[ze]at hc;obtain⟨tab,h1,h2⟩:=zT2 _ _ h;split at h1
     ·rename_i s1 hs1;have:=zWx (id:=id) (J:=J) (s:=s) (Nat.le_of_ble_eq_true hc.2.2.1) hc.1 hc.2.1 g1 h1.1 hs1 h1.2 (h2 _ rfl (zUd hc.2.2.2)) fun s' hs=>hJ _ _ _ _ hs g2;rw[eo]at this;exact this
     ·exact h1.elim
    ·obtain⟨t'',ds,g1,g2,g3⟩:=zEp 100000 _ _ [] [] _ h (fun d hd=>by cases hd) k r hd;obtain⟨hc,h⟩:=g3;rw[ze]at hc;have:=zWy (id:=id) (J:=J) hc.1 hc.2 g1 h fun s' hs=>hJ _ _ _ _ hs g2;rw[eo]at this;exact this
    ·exact h.elim
   ·-- rounds,one by one
    split at h
    ·exact zVq _ (zUx (fun t s K hg hd J hJ=>zAU n t [] _ s K hg k r hd J hJ) _ _ s K h hd J hJ)
    ·exact h.elim
   ·-- a block
    rename_i id body;split at h
    ·rename_i c ι o L x m ids S bt mo ido So f _ _ _ _ _ _ _ _ _ _;obtain⟨y0,h1,h2⟩:=zI (show (L FU x).bind (fun y=>(f y).den k)=some r from hd);obtain⟨hL0,hLs,h0,hb,hf⟩:=h;refine zAF (zTb (J':=fun e s'=>e=.exit id∧s'.kp mo ido=So s y0 s'.locs) ?_ fun e s' hh=>?_)
     ·refine zE0 (fun n s'=>∃x' γ,s'.kp m ids=S s x' γ∧L n x'=some y0) FU ⟨x,s.locs,h0,h1⟩ ?_
      rintro n' s' ⟨x',γ,hs,hl⟩;cases n' with
      |zero=>rw[show L 0 x'=none from congrFun hL0 x']at hl;cases hl
      |succ n'=>
       rw[show L (n'+1) x'=(bt x').den (lk L n') from congrFun (congrFun hLs n') x']at hl;refine zPO m ids hs (zAU n (bt x') [] c _ _ (hb x' γ) _ y0 hl _ fun e t' kn' s2 hK ht'=>?_);unfold lpK at hK;split at hK
       ·rename_i x2;exact⟨n',zf n',x2,_,hK.1,ht'⟩
       ·rename_i i y;cases hi:Nat.beq i id with
        |true=>rw[hi,cond_true]at hK;have:i=id:=Nat.eq_of_beq_eq_true hi;subst this;injection ht' with ht';subst ht';exact⟨rfl,hK.1⟩
        |false=>rw[hi,cond_false]at hK;exact hK.elim
       ·exact hK.elim
     ·obtain⟨he,hs⟩:=hh;subst he;refine .inr ⟨_,zFp mo ido s',?_⟩;simp only[zDl,Nat.beq_refl,cond_true];rw[hs];exact hJ _ _ _ _ (hf y0 _) h2
    ·rename_i c ι o γ' L x m ids S bt mo ido So er f _ _ _ _ _ _ _ _ _ _;obtain⟨q,h1,h2⟩:=zI (show (L FU x).bind (fun q=>elS q (fun y=>(f y).den k) fun r=>k (er r))=some r from hd);obtain⟨hL0,hLs,h0,hb,hf⟩:=h;refine zAF (zTb (J':=fun e s'=>(∃y0,q=.inl y0∧e=.exit id∧s'.kp mo ido=So s y0 s'.locs)∨(∃r',q=.inr r'∧zDl id J e s')) ?_ fun e s' hh=>?_)
     ·refine zE0 (fun n s'=>∃x' γ,s'.kp m ids=S s x' γ∧L n x'=some q) FU ⟨x,s.locs,h0,h1⟩ ?_
      rintro n' s' ⟨x',γ,hs,hl⟩;cases n' with
      |zero=>rw[show L 0 x'=none from congrFun hL0 x']at hl;cases hl
      |succ n'=>
       rw[show L (n'+1) x'=(bt x').den (lkS L n') from congrFun (congrFun hLs n') x']at hl;refine zPO m ids hs (zAU n (bt x') [] c _ _ (hb x' γ) _ q hl _ fun e t' kn' s2 hK ht'=>?_);unfold lpKS at hK;split at hK
       ·rename_i x2;exact⟨n',zf n',x2,_,hK.1,ht'⟩
       ·rename_i i y;cases hi:Nat.beq i id with
        |true=>rw[hi,cond_true]at hK;have:i=id:=Nat.eq_of_beq_eq_true hi;subst this;injection ht' with ht';subst ht';exact .inl ⟨_,rfl,rfl,hK.1⟩
        |false=>rw[hi,cond_false]at hK;exact hK.elim
       ·rename_i r';injection ht' with ht';subst ht';exact .inr ⟨r',rfl,hJ _ _ _ _ hK h2⟩
       ·rename_i i r';injection ht' with ht';subst ht';cases hi:Nat.beq i id with
        |true=>rw[hi,cond_true]at hK;exact hK.elim
        |false=>rw[hi,cond_false]at hK;refine .inr ⟨r',rfl,?_⟩;simp only[zDl,hi,cond_false];exact hJ _ _ _ _ hK h2
       ·exact hK.elim
     ·rcases hh with⟨y0,hq,he,hs⟩|⟨r',_,hj⟩
      ·subst he hq;refine .inr ⟨_,zFp mo ido s',?_⟩;simp only[zDl,Nat.beq_refl,cond_true];rw[hs];exact hJ _ _ _ _ (hf y0 _) h2
      ·exact .inl hj
    ·refine zAF (zAU n t kn _ s _ h k r hd _ fun e t' kn' s' hK ht'=>?_);unfold bkK at hK;split at hK
     ·rename_i i;simp only[zDl];cases hi:Nat.beq i id with
      |true=>rw[hi,cond_true]at hK;exact hJ _ _ _ _ hK ht'
      |false=>rw[hi,cond_false]at hK;exact hJ _ _ _ _ hK ht'
     ·rename_i hne;have:=hJ _ _ _ _ hK ht';cases e<;>first|exact absurd rfl (hne _)|exact this
   ·exact h.elim
end
section
variable {P:Program}
def KF{β:Type}(rs:List RS)(enc:β→AV×List (Nat×Ent)):Exit→T P β→List Nat→St→OT:=fun e t' _ s'=>match e,t' with
 | .normal,.ret y=>.eq (zCd (zFo s' rs)&&okSL s' rs) true (.eq (zPr s' rs) (enc y) .ok)
 | .ret,.ret y=>.eq (zCd (zFo s' rs)&&okSL s' rs) true (.eq (zPr s' rs) (enc y) .ok)
 |_,.fail=>.ok
 |_,_=>.bad
theorem zVx{β:Type}{rs:List RS}{enc:β→AV×List (Nat×Ent)}{e:Exit}{t':T P β}{kn:List Nat}{s':St}{r:β}(h:(KF rs enc e t' kn s').holds)(hd:t'.den some=some r):Post rs (enc r).1 (enc r).2 e s':=by
 unfold KF at h;split at h
 ·rename_i y;injection hd with hd;subst hd;obtain⟨h1,h2,_⟩:=h;rw[ze]at h1;exact⟨.inl rfl,h1.1,h1.2,h2⟩
 ·rename_i y;injection hd with hd;subst hd;obtain⟨h1,h2,_⟩:=h;rw[ze]at h1;exact⟨.inr rfl,h1.1,h1.2,h2⟩
 ·cases hd
 ·exact h.elim
def OF(P:Program){β:Type}(t:T P β)(o:Option β)(c:Code)(s:St)(rs:List RS)(enc:β→AV×List (Nat×Ent)):OT:=.eq o (t.den some) (goV P 100000 t [] c s (KF rs enc))
theorem CtT{β:Type}(t:T P β){f:FuncId}{fn:Func}{c:Code}{args:List AV}{o:Option β}{r:β}(enc:β→AV×List (Nat×Ent)){rs:List RS}{vs:List ResultVar}(hf:P.funcs[f]?=some fn)(hb:fn.body=some c)(hvs:fn.results=vs.toArray)(hfit:FitsL P rs vs)(h:o=some r)
  (hO:OF P t o c ⟨args++List.replicate (fn.ntmps - args.length) .bot,[]⟩ rs enc=(OF P t o c ⟨args++List.replicate (fn.ntmps - args.length) .bot,[]⟩ rs enc).rf:=by kernel_rfl) (hl:Nat.ble rs.length 8=true:=by kernel_rfl):zF P f args (enc r).1 (enc r).2:=by
 obtain⟨h1,h2⟩:=OT.of_rf _ hO;rw[h1]at h;exact qP hf hb hvs hfit (Nat.le_of_ble_eq_true hl) fn.ntmps rfl (zAU 100000 t [] c _ _ h2 some r h _ fun e t' kn' s' hK ht=>zVx hK ht)
def fC{α:Type}{f:FuncId}(hcf:CfW P f)(m:Option α){args:List AV}{av:α→AV}{ne:α→List (Nat×Ent)}(hS:∀y,m=some y→zF P f args (av y) (ne y)):F1 P α where
 m:=m
 chk o s:=match o.op with
  | .call ⟨.value (.func g),xs,_⟩=>.eq (Nat.beq g f) true (.eq (evL s xs.toList) args .ok)
  |_=>.bad
 av _ _:=av
 ne _ _:=ne
 ok o s y hm h:=by
  split at h
  ·rename_i g xs ts ho;obtain⟨h1,h2,_⟩:=h;have hgf:=Nat.eq_of_beq_eq_true h1;subst hgf;exact zBz (hS y hm) hcf ho h2
  ·exact h.elim
def remF(k:IntKind)(a b:Int):F0 P Unit where
 m:=nz b
 chk o s:=match o.op with
  | .binOp .rem _ x y _=>.eq (s.ev x) (.c (.v (.int k a))) (.eq (s.ev y) (.c (.v (.int k b))) .ok)
  |_=>.bad
 av _ _ _:=.c (.v (.int k (Int.tmod a b)))
 ok o s y hm h:=by
  split at h
  ·rename_i ho;obtain⟨h1,h2,_⟩:=h;exact zS7 ho h1 h2 (zH8 hm)
  ·exact h.elim
end
structure CT (α:Type) where
  c:α→List Tr
  sz:Nat
  hc:∀v,(c v).length=sz
section
variable (P:Program)
def zv2(s:St):Op→Option AV
 | .binOp op t x y _=>(match s.ev x,s.ev y with
  | .c (.v (.int k a)),.c (.v (.int k2 b))=>(match decEq k k2 with
   |isTrue _=>(match op with
    | .add=>some (.c (.v (.int k (k.wrap (a+b)))))
    | .sub=>some (.c (.v (.int k (k.wrap (a - b)))))
    | .mul=>some (.c (.v (.int k (k.wrap (a*b)))))
    | .and=>some (.c (.v (.int k (andI k a b))))
    | .or=>some (.c (.v (.int k (orI k a b))))
    | .xor=>some (.c (.v (.int k (xorI k a b))))
    |_=>none)
   |isFalse _=>none)
  | .c (.v (.string a)),.c (.v (.string b))=>(match op with
   | .lss=>some (.c (.v (.bool (Op.bytesLess a.toList b.toList))))
   | .geq=>some (.c (.v (.bool (!(Op.bytesLess a.toList b.toList)))))
   |_=>none)
  |_,_=>none)
 | .unOp .neg t x=>(match s.ev x with
  | .c (.v (.int k a))=>some (.c (.v (.int k (k.wrap (0 - a)))))
  |_=>none)
 | .convert src dst x=>(match P.underlying src,P.underlying dst,s.ev x with
  |some (.int k2),some (.int k),.c (.v (.int k3 a))=>(match decEq k3 k2 with
   |isTrue _=>some (.c (.v (.int k (k.wrap a))))
   |isFalse _=>none)
  |_,_,_=>none)
 | .call ⟨.builtin .max,⟨[x,y]⟩,_⟩=>(match s.ev x,s.ev y with
  | .c (.v (.int .i64 a)),.c (.v (.int .i64 b))=>some (I (mxI a b))
  |_,_=>none)
 | .call ⟨.builtin .min,⟨[x,y]⟩,_⟩=>(match s.ev x,s.ev y with
  | .c (.v (.int .i64 a)),.c (.v (.int .i64 b))=>some (I (mnI a b))
  |_,_=>none)
 | .nilCheck x=>(match (s.ev x).adv 0 with
  | .bot=>none
  |_=>some (s.ev x))
 |_=>none
end
section
variable {P:Program}
theorem zX0{o:Oper}{s:St}{av:AV}(h:zv2 P s o.op=some av):Y0 P o s av:=by
 unfold zv2 at h;split at h
 ·rename_i ho;split at h
  ·rename_i hx hy;split at h
   ·rename_i hk _;subst hk;split at h<;>first|(cases h;done)|skip
    ·cases h;exact zVj ho hx hy
    ·cases h;exact zVd ho hx hy
    ·cases h;exact zVg ho hx hy
    ·cases h;exact zZB ho hx hy
    ·cases h;exact Y0_or ho hx hy
    ·cases h;exact zYn ho hx hy
   ·cases h
  ·rename_i hx hy;split at h
   ·cases h;exact zYu ho hx hy
   ·cases h;exact zYx ho hx hy
   ·cases h
  ·cases h
 ·rename_i ho;split at h
  ·rename_i hx;cases h;exact zVf ho hx
  ·cases h
 ·rename_i ho;split at h
  ·rename_i hs hd hx;split at h
   ·rename_i hk _;subst hk;cases h;exact zWo hs hd ho hx
   ·cases h
  ·cases h
 ·rename_i ho;split at h
  ·rename_i hx hy;cases h;exact zYt ho hx hy
  ·cases h
 ·rename_i ho;split at h
  ·rename_i hx hy;cases h;exact zYs ho hx hy
  ·cases h
 ·rename_i ho;split at h
  ·cases h
  ·rename_i hb;cases h;exact zNs _ ho rfl hb
 ·cases h
def au:N0 P where
 chk o s:=.eq (zv2 P s o.op).isSome true .ok
 av o s:=(zv2 P s o.op).getD .bot
 ok o s h:=by obtain⟨av,hv⟩:=Option.isSome_iff_exists.mp h.1;rw[hv];exact zX0 hv
theorem zSY{b:Int}(h:eqI b 0=false):b≠0:=zH8 (u:=()) (by unfold nz;rw[h];rfl)
def dvN:N0 P where
 chk o s:=match o.op with
  | .binOp op _ x y _=>(match s.ev x,s.ev y with
   | .c (.v (.int k a)),.c (.v (.int k2 b))=>(match op with
    | .quo=>.eq k k2 (.eq (eqI b 0) false .ok)
    | .rem=>.eq k k2 (.eq (eqI b 0) false .ok)
    | .shr=>.eq (decide (b<0)) false .ok
    | .shl=>.eq (decide (b<0)) false .ok
    |_=>.bad)
   |_,_=>.bad)
  |_=>.bad
 av o s:=match o.op with
  | .binOp op _ x y _=>(match s.ev x,s.ev y with
   | .c (.v (.int k a)),.c (.v (.int k2 b))=>(match op with
    | .quo=>(match k with
     | .i64=>I (w64 (a.tdiv b))
     |k=>.c (.v (.int k (k.wrap (a.tdiv b)))))
    | .rem=>.c (.v (.int k (a.tmod b)))
    | .shr=>.c (.v (.int k (shrI k a b)))
    | .shl=>.c (.v (.int k (shlI k a b)))
    |_=>.bot)
   |_,_=>.bot)
  |_=>.bot
 ok o s h:=by
  split at h
  ·rename_i op t x y t2 ho
   try simp only[ho]
   split at h
   ·rename_i k a k2 b hx hy
    try simp only[hx,hy]
    split at h
    ·obtain⟨hk,h0,_⟩:=h;subst hk;split
     ·exact zNk ho hx hy (zSY h0)
     ·exact zS8 ho hx hy (zSY h0)
    ·obtain⟨hk,h0,_⟩:=h;subst hk;exact zS7 ho hx hy (zSY h0)
    ·exact zYo ho hx hy (by simpa using h.1)
    ·exact zYp ho hx hy (by simpa using h.1)
    ·exact h.elim
   ·exact h.elim
  ·exact h.elim
def quoF(k:IntKind)(a b:Int):F0 P Unit where
 m:=nz b
 chk o s:=match o.op with
  | .binOp .quo _ x y _=>.eq (s.ev x) (.c (.v (.int k a))) (.eq (s.ev y) (.c (.v (.int k b))) .ok)
  |_=>.bad
 av _ _ _:=match k with
  | .i64=>I (w64 (a.tdiv b))
  |k=>.c (.v (.int k (k.wrap (a.tdiv b))))
 ok o s y hm h:=by
  split at h
  ·rename_i ho;obtain⟨h1,h2,_⟩:=h;split
   ·exact zNk ho h1 h2 (zH8 hm)
   ·exact zS8 ho h1 h2 (zH8 hm)
  ·exact h.elim
def bld{t0:TypeId}{z:Array Value}(place:Nat→Option (Nat×Nat))(hb:∀ps,P.built t0 ps=Instr.fill place z ps):N0 P where
 chk o s:=match o.op with
  | .build t parts=>.eq (Nat.beq t t0&&(zCO z&&(zKq place (z.toList.map Tr.v) (evP s parts.toList)).isSome)) true .ok
  |_=>.bad
 av o s:=match o.op with
  | .build t parts=>.ag ((zKq place (z.toList.map Tr.v) (evP s parts.toList)).getD [])
  |_=>.bot
 ok o s h:=by
  split at h
  ·rename_i t parts ho
   try simp only[ho]
   have h:=h.1;rw[ze,ze]at h;have ht:=Nat.eq_of_beq_eq_true h.1;subst ht;obtain⟨cs,hcs⟩:=Option.isSome_iff_exists.mp h.2.2;rw[hcs];exact zRe place hb ho h.2.1 hcs
  ·exact h.elim
def eqg3{t0:TypeId}(h1:zVy P .eql t0):N0 P where
 chk o s:=match o.op with
  | .binOp .eql t x y _=>.eq t t0 (match s.ev x,s.ev y with
   | .ag [.v (.int .i64 a0),.v (.int .i64 a1),.v (.int .i64 a2)],.ag [.v (.int .i64 b0),.v (.int .i64 b1),.v (.int .i64 b2)]=>.ok
   |_,_=>.bad)
  |_=>.bad
 av o s:=match o.op with
  | .binOp .eql t x y _=>(match s.ev x,s.ev y with
   | .ag [.v (.int .i64 a0),.v (.int .i64 a1),.v (.int .i64 a2)],.ag [.v (.int .i64 b0),.v (.int .i64 b1),.v (.int .i64 b2)]=>Bo (((a0==b0)&&((a1==b1)&&(a2==b2))))
   |_,_=>.bot)
  |_=>.bot
 ok o s h:=by
  split at h
  ·rename_i ho;obtain⟨ht,h⟩:=h;subst ht
   try simp only[ho]
   split at h
   ·rename_i hx hy;(try simp only[hx,hy]);exact zWn h1 ho hx hy
   ·exact h.elim
  ·exact h.elim
def lenM{α:Type}(d:CT α)(xs:List α):N0 P where
 chk o s:=match o.op with
  | .call ⟨.builtin .len,⟨[x]⟩,⟨[t]⟩⟩=>(match P.underlying t with
   |some (.slice _)=>.eq (zBT s (s.ev x)) (some (xs.map d.c)) .ok
   |_=>.bad)
  |_=>.bad
 av _ _:=I (xs.length:Int)
 ok o s h:=by
  split at h
  ·rename_i ho;split at h
   ·rename_i hu;exact zDS hu ho h.1
   ·exact h.elim
  ·exact h.elim
def idxM{α:Type}(d:CT α)(xs:List α)(n:Int):F0 P α where
 m:=getI xs n
 chk o s:=match o.op with
  | .indexAddr t x ix=>(match P.underlying t with
   |some (.slice e)=>.eq ((P.info? e).map (·.size)) (some d.sz) (.eq (s.ev x) (.c (.sl (xs.map d.c))) (.eq (s.ev ix) (.c (.v (.int .i64 n))) .ok))
   |_=>.bad)
  |_=>.bad
 av _ _ y:=.pe (d.c y)
 ok o s y hm h:=by
  split at h
  ·rename_i ho;split at h
   ·rename_i hu;obtain⟨h1,h2,h3,_⟩:=h;exact zJ4 hu (by rw[h1,d.hc]) ho h2 h3 hm
   ·exact h.elim
  ·exact h.elim
def zBO{α:Type}(d:CT α)(xs:List α)(n:Int):F0 P α where
 m:=getI xs n
 chk o s:=match o.op with
  | .indexAddr t x ix=>(match P.underlying t,s.ev x with
   |some (.slice e),.ow id=>(match s.entc id with
    |some (.arr _ sz els)=>.eq ((P.info? e).map (·.size)) (some sz) (.eq els (xs.map d.c) (.eq (s.ev ix) (.c (.v (.int .i64 n))) .ok))
    |_=>.bad)
   |_,_=>.bad)
  |_=>.bad
 av o s _:=match o.op with
  | .indexAddr t x ix=>(match s.ev x with
   | .ow id=>(match s.entc id with
    |some (.arr _ sz _)=>.po id sz n.toNat 0
    |_=>.bot)
   |_=>.bot)
  |_=>.bot
 ok o s y hm h:=by
  split at h
  ·rename_i ho
   try simp only[ho]
   split at h
   ·rename_i hu hx
    try simp only[hx]
    split at h
    ·rename_i he;obtain⟨h1,h2,h3,_⟩:=h;subst h2
     try simp only[he]
     exact zDL hu h1 ho hx he h3 hm
    ·exact h.elim
   ·exact h.elim
  ·exact h.elim
def ldo{α:Type}(d:CT α)(xs:List α)(n:Int):F0 P α where
 m:=getI xs n
 chk o s:=match o.op with
  | .load t x=>(match P.underlying t,s.ev x with
   |some D,.po id sz i off=>(match s.entc id with
    |some (.arr _ sz2 els)=>.eq i n.toNat (.eq sz2 sz (.eq els (xs.map d.c) (bif aggD D then (match zD5 P t with
     |some k=>.eq (Nat.ble (off+k) d.sz) true .ok
     |none=>.bad) else .eq (Nat.blt off d.sz) true .ok)))
    |_=>.bad)
   |_,_=>.bad)
  |_=>.bad
 av o s y:=match o.op with
  | .load t x=>(match P.underlying t,s.ev x with
   |some D,.po id sz i off=>bif aggD D then .ag (((d.c y).drop off).take ((zD5 P t).getD 0)) else (match (d.c y).drop off with
    |c::_=>.c c
    |[]=>.bot)
   |_,_=>.bot)
  |_=>.bot
 ok o s y hm h:=by
  split at h
  ·rename_i ho
   try simp only[ho]
   split at h
   ·rename_i D id sz i off hu hx
    try simp only[hu,hx]
    split at h
    ·rename_i he;obtain⟨h1,h2,h3,h4⟩:=h;subst h1 h2 h3;have hlen:=d.hc y;cases hD:aggD D with
     |true=>
      rw[hD,cond_true]at h4;simp only[cond_true];split at h4
      ·rename_i k hk;rw[hk];exact zRi _ ⟨⟨D,hu,hD⟩,hk⟩ ho hx he hm (by rw[List.length_drop,hlen];have:=Nat.le_of_ble_eq_true h4.1;omega) rfl
      ·exact h4.elim
     |false=>
      rw[hD,cond_false]at h4;simp only[cond_false];split
      ·rename_i c cs hcs;exact zEe ⟨D,hu,hD⟩ ho hx he hm hcs
      ·rename_i hcs;have h5:Nat.blt off d.sz=true:=h4.1;have h6:=congrArg List.length hcs;rw[List.length_drop,hlen]at h6;have h7:=Nat.le_of_ble_eq_true h5;simp at h6;omega
    ·exact h.elim
   ·exact h.elim
  ·exact h.elim
def bdO(s:St)(x:Option Operand)(l l0:Int):OT:=match x with
 |none=>.eq l l0 .ok
 |some y=>(match s.ev y with
  | .c (.v (.int _ a))=>.eq a l .ok
  |_=>.bad)
theorem zQ1{s:St}{x:Option Operand}{l l0:Int}(h:(bdO s x l l0).holds):(∀y,x=some y→∃k,s.ev y=.c (.v (.int k l)))∧(x=none→l=l0):=by
 unfold bdO at h;split at h
 ·exact⟨fun y hy=>(by cases hy),fun _=>h.1⟩
 ·split at h
  ·rename_i k a ha;have h:=h.1;subst h;exact⟨fun y hy=>(by injection hy with hy;subst hy;exact⟨k,ha⟩),fun hh=>(by cases hh)⟩
  ·exact h.elim
def slice{α:Type}(d:CT α)(xs:List α)(l h:Int):F0 P Unit where
 m:=slc xs.length l h
 chk o s:=match o.op with
  | .slice t x lo hi none=>(match P.underlying t with
   |some (.slice e)=>.eq ((P.info? e).map (·.size)) (some d.sz) (.eq (s.ev x) (.c (.sl (xs.map d.c))) (.and (bdO s lo l 0) (bdO s hi h (xs.length:Int))))
   |_=>.bad)
  |_=>.bad
 av _ _ _:=.c (.sl ((subl xs l h).map d.c))
 ok o s y hm hh:=by
  split at hh
  ·rename_i ho;split at hh
   ·rename_i hu;obtain⟨h0,h1,h2,h3⟩:=hh;exact zVe hu h0 d.hc ho h1 (zQ1 h2).1 (zQ1 h2).2 (zQ1 h3).1 (zQ1 h3).2 (zQu hm)
   ·exact hh.elim
  ·exact hh.elim
end
section
variable {P:Program}
def nilN(e sz:Nat)(hz:0<sz):N1 P where
 chk o _:=match o.op with
  | .assign (.const (.slice none 0 0))=>.ok
  | .move (.const (.slice none 0 0))=>.ok
  |_=>.bad
 av _ _:=.ow 0
 ne _ _:=[(0,.arr e sz [])]
 ok o s h:=by
  split at h
  ·rename_i ho;exact zEx sz hz (.inl ho)
  ·rename_i ho;exact zEx sz hz (.inr ho)
  ·exact h.elim
def bsl:N1 P where
 chk o s:=match o.op with
  | .buildSlice t n parts=>(match P.underlying t with
   |some (.slice e)=>(match P.info? e with
    |some i=>(match i.zero,zEm 0 (evP s parts.toList) with
     |some z,some els=>.eq (zCO z.cells&&(Nat.blt 0 i.size&&(Nat.beq els.length n&&(els.all (fun e=>Nat.beq e.length i.size)&&(Nat.ble (n*i.size) 16777216&&Nat.blt 0 n))))) true .ok
     |_,_=>.bad)
    |none=>.bad)
   |_=>.bad)
  |_=>.bad
 av _ _:=.ow 0
 ne o s:=match o.op with
  | .buildSlice t n parts=>(match P.underlying t with
   |some (.slice e)=>[(0,.arr e ((zD5 P e).getD 0) ((zEm 0 (evP s parts.toList)).getD []))]
   |_=>[])
  |_=>[]
 ok o s h:=by
  split at h
  ·rename_i t n parts ho;split at h
   ·rename_i e hu;split at h
    ·rename_i i hi;split at h
     ·rename_i z els hz hp;have h:=h.1;simp only[ze]at h;obtain⟨h1,h2,h3,h4,h5,h6⟩:=h;have hn:=Nat.eq_of_beq_eq_true h3;simp only[hu,hp,zD5,hi,Option.map_some,Option.getD_some];refine zEM hu (by rw[hi];simp only[Option.map_some,hz]) h1 (Nat.le_of_ble_eq_true h2) ho hp hn (fun e he=>?_) (Nat.le_of_ble_eq_true h5) (Nat.le_of_ble_eq_true h6);exact Nat.eq_of_beq_eq_true (List.all_eq_true.mp h4 e he)
     ·exact h.elim
    ·exact h.elim
   ·exact h.elim
  ·exact h.elim
def bsl0:N1 P where
 chk o s:=match o.op with
  | .buildSlice t 0 ⟨[]⟩=>(match P.underlying t with
   |some (.slice e)=>(match P.info? e with
    |some i=>.eq (Nat.blt 0 i.size) true .ok
    |none=>.bad)
   |_=>.bad)
  |_=>.bad
 av _ _:=.ow 0
 ne o s:=match o.op with
  | .buildSlice t _ _=>(match P.underlying t with
   |some (.slice e)=>[(0,.arr e ((zD5 P e).getD 0) [])]
   |_=>[])
  |_=>[]
 ok o s h:=by
  split at h
  ·rename_i t ho;split at h
   ·rename_i e hu;split at h
    ·rename_i i hi;simp only[ho,hu,zD5,hi,Option.map_some,Option.getD_some];exact zCq hu (by rw[hi];rfl) (Nat.le_of_ble_eq_true h.1) ho rfl
    ·exact h.elim
   ·exact h.elim
  ·exact h.elim
def mkF{α:Type}(d:CT α)(zx:α)(l k:Int):F1 P Unit where
 m:=mk l k
 chk o s:=match o.op with
  | .makeSlice t x y=>(match P.underlying t with
   |some (.slice e)=>(match P.info? e with
    |some i=>(match i.zero with
     |some z=>.eq (zCO z.cells&&(Nat.beq z.cells.size i.size&&(Nat.blt 0 i.size&&Nat.ble i.bytes 128))) true (.eq (z.cells.toList.map Tr.v) (d.c zx) (.eq (s.ev x) (.c (.v (.int .i64 l))) (.eq (s.ev y) (.c (.v (.int .i64 k))) .ok)))
     |none=>.bad)
    |none=>.bad)
   |_=>.bad)
  |_=>.bad
 av _ _ _:=.ow 0
 ne o _ _:=match o.op with
  | .makeSlice t x y=>(match P.underlying t with
   |some (.slice e)=>[(0,.arr e ((zD5 P e).getD 0) ((List.replicate l.toNat zx).map d.c))]
   |_=>[])
  |_=>[]
 ok o s y hm h:=by
  split at h
  ·rename_i t x y ho;split at h
   ·rename_i e hu;split at h
    ·rename_i i hi;split at h
     ·rename_i z hz;obtain⟨h0,h1,h2,h3,_⟩:=h;simp only[ze]at h0;simp only[hu,zD5,hi,Option.map_some,Option.getD_some];exact zT5 hu (by rw[hi];simp only[Option.map_some,hz]) h0.1 (Nat.eq_of_beq_eq_true h0.2.1) (Nat.le_of_ble_eq_true h0.2.2.1) h1 ho h2 h3 (zTD hm) (Nat.le_of_ble_eq_true h0.2.2.2)
     ·exact h.elim
    ·exact h.elim
   ·exact h.elim
  ·exact h.elim
def fCs{α:Type}{f:FuncId}(hcf:CfW P f)(m:Option α){args:List AV}{av:α→AV}{ne:α→List (Nat×Ent)}(hS:∀y,m=some y→zF P f args (av y) (ne y))(hfl:∀y,zKp (ne y)=true):F1 P α where
 m:=m
 chk o s:=match o.op with
  | .call ⟨.value (.func g),xs,_⟩=>.eq (Nat.beq g f) true (.eq (evS s xs.toList) args (.all fun y=>.eq (av y).flat true .ok))
  |_=>.bad
 av _ _:=av
 ne _ _:=ne
 ok o s y hm h:=by
  split at h
  ·rename_i g xs ts ho;obtain⟨h1,h2,h3⟩:=h;have hgf:=Nat.eq_of_beq_eq_true h1;subst hgf;exact zVc (hS y hm) hcf ho h2 (h3 y).1 (hfl y)
  ·exact h.elim
def app{α:Type}(d:CT α)(xs ys:List α):FX P Unit where
 m:=room (xs.length+ys.length)
 run o s _ K:=match o.op,o.dst with
  | .call ⟨.builtin .append,⟨[x,y]⟩,⟨[t,t2]⟩⟩,some k=>(match P.underlying t,s.ev x with
   |some (.slice e),.ow id=>(match s.ent id,P.info? e with
    |some (.arr e2 sz els),some i=>(match i.zero with
     |some z=>.eq t2 t (.eq e2 e (.eq sz d.sz (.eq i.size d.sz (.eq els (xs.map d.c) (.eq (zBT s (s.ev y)) (some (ys.map d.c)) (.eq (Nat.beq z.cells.size d.sz&&Nat.ble i.bytes 128) true
       (K ⟨(zBx id s.T).set k (.ow id),setE id (.arr e d.sz ((xs++ys).map d.c)) s.E⟩)))))))
     |none=>.bad)
    |_,_=>.bad)
   |_,_=>.bad)
  |_,_=>.bad
 post _ o s _:=match o.op,o.dst with
  | .call ⟨_,⟨[x,_]⟩,_⟩,some k=>(match s.ev x with
   | .ow id=>(match s.ent id with
    |some (.arr e sz _)=>some ⟨(zBx id s.T).set k (.ow id),setE id (.arr e sz ((xs++ys).map d.c)) s.E⟩
    |_=>none)
   |_=>none)
  |_,_=>none
 ok o s K y hm h:=by
  split at h
  ·rename_i x y t t2 k ho hd;split at h
   ·rename_i e id hu hx;split at h
    ·rename_i e2 sz els i he hi;split at h
     ·rename_i z hz;obtain⟨h1,h2,h3,h4,h5,h6,h7,h8⟩:=h;subst h1 h2 h3 h5;rw[ze]at h7;exact zCe (zPN ho hd hu (by rw[hi];simp only[Option.map_some,hz,h4]) (Nat.eq_of_beq_eq_true h7.1) hx he h6 d.hc (zEF hm) (Nat.le_of_ble_eq_true h7.2)) h8
     ·exact h.elim
    ·exact h.elim
   ·exact h.elim
  ·exact h.elim
def sto{α:Type}(d:CT α)(xs:List α)(n:Int)(u:α→α):FX P α where
 m:=getI xs n
 run o s v K:=match o.op,o.dst with
  | .store t x y,none=>(match s.ev x,zAE (s.ev y) with
   | .po id sz i off,some vc=>(match s.ent id with
    |some (.arr T0 sz2 els)=>.eq i n.toNat (.eq sz2 sz (.eq els (xs.map d.c) (.eq ((P.info? t).map (·.size)) (some vc.length) (.eq (Nat.ble (off+vc.length) d.sz) true (.eq (splice (d.c v) off vc) (d.c (u v))
      (K ⟨s.T,setE id (.arr T0 sz ((xs.set n.toNat (u v)).map d.c)) s.E⟩))))))
    |_=>.bad)
   |_,_=>.bad)
  |_,_=>.bad
 ok o s K v hm h:=by
  split at h
  ·rename_i t x y ho hd;split at h
   ·rename_i id sz i off vc hx hy;split at h
    ·rename_i T0 sz2 els he;obtain⟨h1,h2,h3,h4,h5,h6⟩:=h;subst h1 h2 h3;obtain⟨h7,h8⟩:=h6;exact zCe (zHe ho hd hx he hm hy h4 (by rw[d.hc];exact Nat.le_of_ble_eq_true h5) h7) h8
    ·exact h.elim
   ·exact h.elim
  ·exact h.elim
def renC:List AV→List AV→List (Nat×Nat)
 | .pt a _::xs,.pt b _::ys=>(a,b)::renC xs ys
 | .ow a::xs,.ow b::ys=>(a,b)::renC xs ys
 |_::xs,_::ys=>renC xs ys
 |_,_=>[]
def mOT(m:List (Nat×Nat))(s:St):List (Nat×Ent)→OT→OT
 |[],k=>k
 |p::ps,k=>.eq (s.entc (renI m p.1)) (some p.2) (mOT m s ps k)
theorem zUj{m:List (Nat×Nat)}{s:St}:∀{E:List (Nat×Ent)}{k:OT},(mOT m s E k).holds→zIY m s E∧k.holds
 |[],_,h=>⟨trivial,h⟩
 |(k,e)::ps,_,h=>by obtain⟨h1,h2⟩:=h;obtain⟨h3,h4⟩:=zUj h2;exact⟨⟨h1,h3⟩,h4⟩
def fR{α:Type}{f:FuncId}(hcf:CfW P f)(m:Option α){args:List AV}{E0:List (Nat×Ent)}{av:α→AV}{ne E1:α→List (Nat×Ent)}(hS:∀y,m=some y→zFy P f args E0 (av y) (ne y) (E1 y)):FX P α where
 m:=m
 run o s y K:=match o.op with
  | .call ⟨.value (.func g),xs,_⟩=>.eq (Nat.beq g f) true (.eq (evL s xs.toList) (renL (renC args (evL s xs.toList)) args) (.eq (zND args&&(zRG (renC args (evL s xs.toList)) E0&&zEn E0)) true (mOT (renC args (evL s xs.toList)) s E0
    (.eq (zCR (E1 y)) (zCR E0) (.eq (zEn (E1 y)) true (match o.dst with
     |some d=>K ((St.mk s.T (updE (renC args (evL s xs.toList)) s.E (E1 y))).upd d (av y) (ne y))
     |none=>K (St.mk s.T (updE (renC args (evL s xs.toList)) s.E (E1 y)))))))))
  |_=>.bad
 post _ o s y:=match o.op with
  | .call ⟨_,xs,_⟩=>(match o.dst with
   |some d=>some ((St.mk s.T (updE (renC args (evL s xs.toList)) s.E (E1 y))).upd d (av y) (ne y))
   |none=>some (St.mk s.T (updE (renC args (evL s xs.toList)) s.E (E1 y))))
  |_=>none
 ok o s K y hm h:=by
  split at h
  ·rename_i g xs ts ho;obtain⟨h1,h2,h3,h4⟩:=h;have hgf:=Nat.eq_of_beq_eq_true h1;subst hgf;simp only[ze]at h3;obtain⟨h5,h6⟩:=zUj h4;obtain⟨h7,h8,h9⟩:=h6;split at h9
   ·rename_i d hd;exact zCe (zWp _ d (hS y hm) hcf ho hd h2 h3.1 h5 h7 h3.2.1 h8 h3.2.2 rfl) h9
   ·rename_i hd;exact zCe (zVm _ (hS y hm) hcf ho hd h2 h3.1 h5 h7 h3.2.1 h8 h3.2.2 rfl) h9
  ·exact h.elim
def frzH(id:Nat):HT where
 run s K:=match s.ent id with
  |some (.arr _ _ els)=>K (s.frz id els)
  |_=>.bad
 ok s K h B w0 ok0 ok σ a w hR:=by
  split at h
  ·rename_i he;exact⟨_,_,_,h,zVv hR id he⟩
  ·exact h.elim
def hOT(s:St):List (Nat×Ent)→OT
 |[]=>.ok
 |p::ps=>.eq (s.ent p.1) (some p.2) (hOT s ps)
theorem zUp{s:St}:∀{E:List (Nat×Ent)},(hOT s E).holds→HasE s E
 |[],_=>trivial
 |(k,e)::ps,h=>⟨h.1,zUp h.2⟩
def KR{β:Type}(rs:List RS)(enc:β→AV×List (Nat×Ent))(E1:β→List (Nat×Ent))(σ:Nat→Loc):Exit→T P β→List Nat→St→OT:=fun e t' kn s'=>.and (KF rs enc e t' kn s') (match t' with
 | .ret y=>hOT s' (pinE σ (E1 y))
 |_=>.bad)
def OR(P:Program){β:Type}(t:T P β)(o:Option β)(c:Code)(s:(Nat→Loc)→St)(rs:List RS)(enc:β→AV×List (Nat×Ent))(E1:β→List (Nat×Ent)):OT:=.eq o (t.den some) (.and (.all fun y=>.eq (zEn (E1 y)) true .ok) (.all fun σ=>goV P 100000 t [] c (s σ) (KR rs enc E1 σ)))
theorem CrT{β:Type}(t:T P β){f:FuncId}{fn:Func}{c:Code}{args:List AV}{E0:List (Nat×Ent)}{o:Option β}{r:β}(enc:β→AV×List (Nat×Ent))(E1:β→List (Nat×Ent)){rs:List RS}{vs:List ResultVar}(hf:P.funcs[f]?=some fn)(hb:fn.body=some c)(hvs:fn.results=vs.toArray)(hfit:FitsL P rs vs)(h:o=some r)
  (hO:OR P t o c (fun σ=>⟨args++List.replicate (fn.ntmps - args.length) .bot,pinE σ E0⟩) rs enc E1=(OR P t o c (fun σ=>⟨args++List.replicate (fn.ntmps - args.length) .bot,pinE σ E0⟩) rs enc E1).rf:=by kernel_rfl) (hl:Nat.ble rs.length 8=true:=by kernel_rfl):zFy P f args E0 (enc r).1 (enc r).2 (E1 r):=by
 obtain⟨h1,h2,h3⟩:=OT.of_rf _ hO;rw[h1]at h;refine zIB hf hb hvs hfit (Nat.le_of_ble_eq_true hl) fn.ntmps rfl (h2 r).1 fun σ=>zAU 100000 t [] c _ _ (h3 σ) some r h _ fun e t' kn' s' hK ht=>?_
 refine⟨zVx hK.1 ht,?_⟩;have hK:=hK.2;split at hK
 ·injection ht with ht;subst ht;exact zUp hK
 ·exact hK.elim
end
section
variable {P:Program}
def pinH(t k:Nat):HT where
 run s K:=match s.get t,s.ent k with
  | .ow k',some (.arr T sz els)=>.eq k' k (.all fun l:Loc=>K ⟨s.T.set t (.c (.v (zG l))),setE k (.qarr l T sz els) s.E⟩)
  |_,_=>.bad
 ok s K h B w0 ok0 ok σ a w hR:=by
  split at h
  ·rename_i k' T sz els ht hk;obtain⟨rfl,h⟩:=h;have h1:=hR.core.tmp t;rw[ht]at h1;have h2:a.tmps.getD t undef=zG (σ k'):=h1;refine⟨_,ok,σ,h (σ k'),zJ6 hR hk (fun h=>⟨rfl,h⟩) rfl ?_⟩;rw[h2];exact Rd.v _ rfl
  ·exact h.elim
def zX2(t k:Nat):HT where
 run s K:=match s.get t,s.ent k with
  | .c (.v x),some (.qarr l T sz els)=>.eq x (zG l) (K ⟨s.T.set t (.ow k),setE k (.arr T sz els) s.E⟩)
  |_,_=>.bad
 post s:=match s.ent k with
  |some (.qarr _ T sz els)=>some ⟨s.T.set t (.ow k),setE k (.arr T sz els) s.E⟩
  |_=>none
 ok s K h B w0 ok0 ok σ a w hR:=by
  split at h
  ·rename_i x l T sz els ht hk;obtain⟨rfl,h⟩:=h;refine⟨_,ok,σ,h,zJ6 hR hk (fun h=>h.2) rfl ?_⟩;have h1:=hR.core.tmp t;rw[ht]at h1;have h2:Rd ok w (.v (zG l)) (a.tmps.getD t undef):=h1;have h3:=(hR.core.ent k _ hk).1;show _=zG (σ k);rw[h3];generalize a.tmps.getD t undef=y at h2;cases h2;rfl
  ·exact h.elim
def seeH(t k:Nat):HT where
 run s K:=match s.get t,s.ent k with
  | .c (.v x),some (.qarr l T sz els)=>.eq x (zG l) (K ⟨s.T.set t (.ow k),setE k (.qarr l T sz els) s.E⟩)
  |_,_=>.bad
 post s:=match s.ent k with
  |some (.qarr l T sz els)=>some ⟨s.T.set t (.ow k),setE k (.qarr l T sz els) s.E⟩
  |_=>none
 ok s K h B w0 ok0 ok σ a w hR:=by
  split at h
  ·rename_i x l T sz els ht hk;obtain⟨rfl,h⟩:=h;refine⟨_,ok,σ,h,zJ6 hR hk (fun h=>h) rfl ?_⟩;have h1:=hR.core.tmp t;rw[ht]at h1;have h2:Rd ok w (.v (zG l)) (a.tmps.getD t undef):=h1;have h3:=(hR.core.ent k _ hk).1;show _=zG (σ k);rw[h3];generalize a.tmps.getD t undef=y at h2;cases h2;rfl
  ·exact h.elim
def nilC:Tr→Tr
 | .v (.slice none 0 0)=>.sl []
 |c=>c
theorem zWS{ok:Nat→Prop}{w:World}{c:Tr}{x:Value}(h:Rd ok w c x):Rd ok w (nilC c) x:=by
 unfold nilC;split
 ·cases h;exact Rd.nl none 0
 ·exact h
theorem zUf{ok:Nat→Prop}{w:World}{cs:List Tr}{xs:List Value}(h:RdL ok w cs xs):RdL ok w (cs.map nilC) xs:=by
 induction h with
 |nil=>exact .nil
 |cons h hs ih=>exact .cons (zWS h) ih
end
section
variable {P:Program}
theorem zVu{B:Fr}{w0:World}{ok0 ok:Nat→Prop}{σ:Nat→Loc}{s:St}{a:Act}{w:World}(hR:R B w0 ok0 ok σ s a w){id e sz n:Nat}{els:List (List Tr)}(he:s.ent id=some (.arr e sz els))(hn:n≤els.length):
  R B w0 ok0 ok (fun j=>if j=id then ⟨(σ id).blk,n,(σ id).cap⟩ else σ j) ⟨zBx id s.T,setE id (.arr e sz (els.take n)) s.E⟩ a w:=by
 obtain⟨h0,hln,hs,vs,hown,hrd⟩:=hR.core.ent id _ he;have look:=jX id (.arr e sz (els.take n)) s.E _ he;have lk:∀j f,(St.mk (zBx id s.T) (setE id (.arr e sz (els.take n)) s.E)).ent j=some f→(j=id∧f=.arr e sz (els.take n))∨(j≠id∧s.ent j=some f):=by
  intro j f hj;have h7:(setE id (.arr e sz (els.take n)) s.E).lookup j=some f:=hj;rw[look]at h7;by_cases hji:j=id
  ·rw[if_pos hji]at h7;exact .inl ⟨hji,by simpa using h7.symm⟩
  ·rw[if_neg hji]at h7;exact .inr ⟨hji,h7⟩
 refine⟨⟨by simpa [zEL] using hR.core.len,hR.core.okL,hR.core.lib,fun t=>?_,fun i f hi=>?_,fun i f g hi hg=>?_,fun i i2 f f2 g hi hi2 h1 h2=>?_⟩,hR.defers,hR.below,hR.base,hR.old,hR.fresh,fun i f g hi hg=>?_⟩
 ·have e0:(St.mk (zBx id s.T) (setE id (.arr e sz (els.take n)) s.E)).get t=(bif (s.get t).mid id then AV.bot else s.get t):=by
   unfold St.get;exact zFq id s.T t
  rw[e0];cases hmm:(s.get t).mid id with
  |true=>trivial
  |false=>exact (hR.core.tmp t).mid id (fun _ h=>h) (fun _ _=>rfl) hmm (fun j hj=>by simp[hj])
 ·rcases lk i f hi with⟨rfl,rfl⟩|⟨h1,h2⟩
  ·simp only[if_true];refine⟨h0,by simp;omega,fun el hel=>hs el (List.mem_of_mem_take hel),vs.take (n*sz),⟨?_,?_⟩,?_⟩
   ·have hl:=hown.1;rw[List.length_take,List.length_take,hl,Nat.min_eq_left hn,Nat.min_eq_left (Nat.mul_le_mul_right _ hn)]
   ·rcases hown.2 with⟨h5,h6⟩|⟨g,cap,cur,h5,h6,h7,h8,h9,h10,h11⟩
    ·left;unfold zG at h5 ⊢;injection h5 with q1 q2 q3;refine⟨?_,by rw[List.length_take];omega⟩;simp only[q1,q3];rw[show n=0 by omega]
    ·right;unfold zG at h5 ⊢;injection h5 with q1 q2 q3;refine⟨g,cap,cur,?_,h6,h7,by rw[List.length_take];omega,h9,h10,?_⟩
     ·simp only[q1,q3,List.length_take,Nat.min_eq_left hn]
     ·rw[List.length_take,Nat.min_eq_left hn,←h11,List.take_take,Nat.min_eq_left (Nat.mul_le_mul_right _ hn)]
   ·have e1:(els.take n).flatten=els.flatten.take (n*sz):=by
     have:=zCp (els.take n) sz (fun el hel=>hs el (List.mem_of_mem_take hel));rw[List.length_take,Nat.min_eq_left hn]at this;have e2:els.flatten=(els.take n).flatten++(els.drop n).flatten:=by rw[←List.flatten_append,List.take_append_drop]
     rw[e2,List.take_left' this]
    rw[e1];exact hrd.take _
  ·simp only[if_neg h1];exact hR.core.ent i f h2
 ·rcases lk i f hi with⟨rfl,rfl⟩|⟨h1,h2⟩
  ·simp only[if_true]at hg;exact hR.core.blk _ _ _ he hg
  ·simp only[if_neg h1]at hg;exact hR.core.blk _ _ _ h2 hg
 ·rcases lk i f hi with⟨a1,_⟩|⟨a1,a2⟩<;>rcases lk i2 f2 hi2 with⟨b1,_⟩|⟨b1,b2⟩
  ·rw[a1,b1]
  ·simp only[a1,if_true]at h1;simp only[if_neg b1]at h2;rw[a1];exact hR.core.inj _ _ _ _ _ he b2 h1 h2
  ·simp only[b1,if_true]at h2;simp only[if_neg a1]at h1;rw[b1];exact hR.core.inj _ _ _ _ _ a2 he h1 h2
  ·simp only[if_neg a1]at h1;simp only[if_neg b1]at h2;exact hR.core.inj _ _ _ _ _ a2 b2 h1 h2
 ·rcases lk i f hi with⟨rfl,rfl⟩|⟨h1,h2⟩
  ·simp only[if_true]at hg;have h7:=hR.own _ _ _ he hg;rw[if_neg (fun hc=>by cases hc)]at h7 ⊢;exact h7
  ·simp only[if_neg h1]at hg;exact hR.own _ _ _ h2 hg
theorem zVl{o:Oper}{s:St}{x y:Operand}{t e d id sz:Nat}{n:Int}{els:List (List Tr)}(ht:P.underlying t=some (.slice e))(hsz:(P.info? e).map (·.size)=some sz)(ho:o.op=.slice t x none (some y) none)(hd:o.dst=some d)
  (hx:s.ev x=.ow id) (he:s.ent id=some (.arr e sz els)) (hy:s.ev y=I n) (hn:0≤n∧n≤(els.length:Int)):X P o s ⟨(zBx id s.T).set d (.ow id),setE id (.arr e sz (els.take n.toNat)) s.E⟩:=by
 intro B w0 ok0 ok σ a w hR K Q hK;have h3:=hR.core.ev x;rw[hx]at h3;have h4:a.eval x=zG (σ id):=h3;have h5:a.eval y=.int .i64 n:=hR.core.exact hy;obtain⟨h0,hln,hs,vs,hown,hrd⟩:=hR.core.ent id _ he;have hle:(σ id).n≤(σ id).cap:=by
  rcases hown.2 with⟨hv,hv0⟩|⟨g,cap,cur,hv,_,_,hnc,_⟩
  ·omega
  ·unfold zG at hv;injection hv with _ q1 q2;omega
 have hbounds:∀w,(Instr.sliceBounds true (σ id).n (σ id).cap none (some (.int .i64 n)) none).run P w=.ok (0,n.toNat,(σ id).cap) w:=by intro w;unfold Instr.sliceBounds;simp only[Sem.run_bind,Sem.run_pure,Result.andThen_ok,zFn (P:=P) (k:=.i64) (n:=n) (y:=(σ id).cap) (by omega) (by omega)]
 cases hii:P.info? e with
 |none=>rw[hii]at hsz;cases hsz
 |some i=>
  have hi2:i.size=sz:=by rw[hii]at hsz;simpa using hsz
  have hR2:=zVu hR he (n:=n.toNat) (by omega);have hrun:(execOp a.eval o).run P w=.ok (.value (zG ⟨(σ id).blk,n.toNat,(σ id).cap⟩)) w:=by unfold execOp;rw[ho];unfold zG at h4 ⊢;cases hb:(σ id).blk<;>rw[hb]at h4<;>simp[h4,h5,Instr.sliceAt,Instr.slice,run_underlying ht,hbounds,sizeOf,typeInfo,hii,hi2,Addr.add]
  unfold Oper.wp;rw[hrun];have h6:=hR2.put (d:=d) (av:=.ow id) (v:=zG ⟨(σ id).blk,n.toNat,(σ id).cap⟩) (by show _=zG _;simp);simp only[Oper.upon,hd];exact hK _ _ _ _ h6
theorem zUB{α:Type}{c:α→List Tr}{xs:List α}{o:Oper}{s:St}{x y:Operand}{t e d id sz:Nat}{n:Int}(ht:P.underlying t=some (.slice e))(hsz:(P.info? e).map (·.size)=some sz)(ho:o.op=.slice t x none (some y) none)(hd:o.dst=some d)
  (hx:s.ev x=.ow id) (he:s.ent id=some (.arr e sz (xs.map c))) (hy:s.ev y=I n) (hn:slc xs.length 0 n=some ()):X P o s ⟨(zBx id s.T).set d (.ow id),setE id (.arr e sz ((subl xs 0 n).map c)) s.E⟩:=by
 have h:=zQu hn;have e1:(subl xs 0 n).map c=(xs.map c).take n.toNat:=by unfold subl;rw[show Int.toNat 0=0 from rfl,List.drop_zero,Nat.sub_zero,List.map_take]
 rw[e1];exact zVl ht hsz ho hd hx he hy (by rw[List.length_map];omega)
end
def tbF{α:Type}(f:Nat→α):Nat→Nat→List α
 |0,_=>[]
 |n+1,k=>f k::tbF f n (k+1)
def tab{α:Type}(n:Nat)(f:Nat→α):List α:=tbF f n 0
section
variable {P:Program}
def shr{α:Type}(d:CT α)(xs:List α)(n:Int):FX P Unit where
 m:=slc xs.length 0 n
 run o s _ K:=match o.op,o.dst with
  | .slice t x none (some y) none,some k=>(match P.underlying t,s.ev x with
   |some (.slice e),.ow id=>(match s.ent id with
    |some (.arr e2 sz els)=>.eq e2 e (.eq sz d.sz (.eq (zD5 P e) (some d.sz) (.eq els (xs.map d.c) (.eq (s.ev y) (.c (.v (.int .i64 n))) (K ⟨(zBx id s.T).set k (.ow id),setE id (.arr e d.sz ((subl xs 0 n).map d.c)) s.E⟩)))))
    |_=>.bad)
   |_,_=>.bad)
  |_,_=>.bad
 post _ o s _:=match o.op,o.dst with
  | .slice _ x _ _ _,some k=>(match s.ev x with
   | .ow id=>(match s.ent id with
    |some (.arr e sz _)=>some ⟨(zBx id s.T).set k (.ow id),setE id (.arr e sz ((subl xs 0 n).map d.c)) s.E⟩
    |_=>none)
   |_=>none)
  |_,_=>none
 ok o s K y hm h:=by
  split at h
  ·rename_i t x y k ho hd;split at h
   ·rename_i e id hu hx;split at h
    ·rename_i e2 sz els he;obtain⟨rfl,rfl,h3,rfl,h5,h6⟩:=h;exact zCe (zUB hu h3 ho hd hx he h5 hm) h6
    ·exact h.elim
   ·exact h.elim
  ·exact h.elim
end
theorem zPA:∀(els:List (List Tr)),(∀el,el∈els→el.length=1)→els.flatten=els.map fun el=>el.headD (.v .nilIface)
 |[],_=>rfl
 |el::els,h=>by
  have h1:=h el List.mem_cons_self
  match el,h1 with
  |[c],_=>rw[List.flatten_cons,zPA els fun x hx=>h x (List.mem_cons_of_mem _ hx)];rfl
def St.qar(s:St)(k:Nat)(T:TypeId)(sz:Nat)(els:List (List Tr)):Ent:=match s.ent k with
 |some (.qarr l _ _ _)=>.qarr l T sz els
 |_=>.arr T sz els
section
variable {P:Program}
theorem zUA{l:Loc}{o:Oper}{s:St}{t:TypeId}{x y:Operand}{id sz i off T0:Nat}{els:List (List Tr)}{el vc:List Tr}(ho:o.op=.store t x y)(hd:o.dst=none)(hx:s.ev x=.po id sz i off)(he:s.ent id=some (.qarr l T0 sz els))(hel:els[i]?=some el)(hy:zAE (s.ev y)=some vc)
  (hi:(P.info? t).map (·.size)=some vc.length) (hl:off+vc.length≤el.length):X P o s ⟨s.T,setE id (.qarr l T0 sz (els.set i (splice el off vc))) s.E⟩:=by
 intro B w0 ok0 ok σ a w hR K Q hK;obtain⟨hl0,h0,hn,hs,vs,h1,h2⟩:=hR.core.ent id _ he;have hil:i<els.length:=by
  rcases Nat.lt_or_ge i els.length with h|h
  ·exact h
  ·rw[List.getElem?_eq_none h]at hel;cases hel
 have hsz:el.length=sz:=hs el (List.mem_of_getElem? hel);have h4:=hR.core.ev x;rw[hx]at h4;obtain⟨g,h5,h6⟩:=(h4:Rel1 ok σ w (.po id sz i off) (a.eval x))
 rcases h1.2 with⟨hv,hv0⟩|⟨g2,cap,cur,hv,hb,hg,hnc,hcm,hcs,htake⟩
 ·omega
 ·have hg2:g2=g:=by
   unfold zG at hv;rw[h5]at hv;injection hv with h8;simp at h8;exact h8.symm
  subst hg2;have h7:=zD7 (hR.core.ev y) hy;have h8:=h7.len;have hfit:i*sz+sz≤els.length*sz:=by
   have:=Nat.mul_le_mul_right sz (show i+1≤els.length from hil)
   rwa [Nat.add_mul,Nat.one_mul]at this
  have hfit2:els.length*sz≤cur.size:=by rw[hcs];exact Nat.mul_le_mul_right _ hnc
  have hrun:=zE6 (P:=P) (w:=w) (g:=g2) (off:=i*sz+off) (y:=a.eval y) hi (by simpa using h8.symm) hg (by omega) h7.one;unfold Oper.wp execOp;simp only[ho,h6,Instr.storeAt,Instr.sureAddr,Sem.run_bind,Sem.run_pure,Result.andThen_ok,hrun,Oper.upon,hd];refine hK _ _ ok σ (hR.write he h5 _ ⟨cur,T0,hg⟩ _ (jX id _ s.E _ he) (fun hw=>?_) rfl);have hmono:∀q,ok q→(w.setRow g2 (splice cur.toList (i*sz+off) (a.eval y).cells.toList).toArray).heap[q]?=w.heap[q]?:=fun q hq=>hw q fun e=>(hR.core.blk id _ g2 he h5).1 (e▸hq)
  have hlen:(splice el off vc).length=sz:=by rw[zEB _ _ _ hl,hsz]
  have hcl:(a.eval y).cells.toList.length=vc.length:=by rw[h8]
  refine⟨hl0,h0,by simpa using hn,fun e hm=>?_,splice vs (i*sz+off) (a.eval y).cells.toList,⟨?_,.inr ⟨g2,cap,_,by rw[List.length_set];exact hv,hb,setRow_heap w g2 cur _ T0 _ hg,by simpa using hnc,hcm,?_,?_⟩⟩,?_⟩
  ·rcases List.mem_or_eq_of_mem_set hm with h9|h9
   ·exact hs e h9
   ·rw[h9];exact hlen
  ·rw[zEB _ _ _ (by rw[h1.1,hcl];omega),h1.1,List.length_set]
  ·simp only[List.size_toArray];have hq:cur.toList.length=cur.size:=Array.length_toList;rw[zEB _ _ _ (by rw[hcl,hq];omega),hq,hcs]
  ·simp only[List.length_set];show (splice cur.toList (i*sz+off) (a.eval y).cells.toList).take (els.length*sz)=_;rw[zKl _ _ _ _ (by rw[hcl];omega) (by simpa using hfit2),htake]
  ·rw[zEq els sz i off el vc hs hel hl];exact (h2.splice _ h7).mono (fun _ h=>h) hmono
theorem zXC{B:Fr}{w0:World}{ok0 ok:Nat→Prop}{σ:Nat→Loc}{s:St}{a:Act}{w:World}(hR:R B w0 ok0 ok σ s a w)(k id2 j:Nat){T2:TypeId}{els2:List (List Tr)}{l:Loc}{T sz:Nat}{els:List (List Tr)}(he:s.ent k=some (.qarr l T sz els))(h2:s.ent id2=some (.arr T2 1 els2))(hj:els2[j]?=some [.v (zG l)]):
  R B w0 ok0 (fun g=>ok g∨(σ k).blk=some g) σ ⟨s.T,setE id2 (.arr T2 1 (els2.set j [.sl els])) (rmE k s.E)⟩ a w:=by
 have hup:∀g,ok g→ok g∨(σ k).blk=some g:=fun g hg=>.inl hg;have hl:σ k=l:=(hR.core.ent k _ he).1;have hne:id2≠k:=fun e=>by rw[e,he]at h2;cases h2
 have hrm:(rmE k s.E).lookup id2=some (.arr T2 1 els2):=by rw[zB1,if_neg hne];exact h2
 have lk:∀i e,(setE id2 (.arr T2 1 (els2.set j [.sl els])) (rmE k s.E)).lookup i=some e→(i=id2∧e=.arr T2 1 (els2.set j [.sl els]))∨(i≠id2∧i≠k∧s.ent i=some e):=by
  intro i e hi;rw[jX id2 _ _ _ hrm]at hi;by_cases h:i=id2
  ·rw[if_pos h]at hi;exact .inl ⟨h,by simpa using hi.symm⟩
  ·rw[if_neg h,zB1]at hi;split at hi
   ·cases hi
   ·rename_i hn;exact .inr ⟨h,hn,hi⟩
 -- the row,read
 have hread:Rd (fun g=>ok g∨(σ k).blk=some g) w (.sl els) (zG l):=by
  have hR1:=zJ6 (t:=s.T.length) (av:=.bot) hR he (fun h=>h.2) (e':=.arr T sz els) rfl trivial;have hk1:(St.mk (s.T.set s.T.length .bot) (setE k (.arr T sz els) s.E)).ent k=some (.arr T sz els):=by have:=jX k (.arr T sz els) s.E _ he k;rw[if_pos rfl]at this;exact this
  have hle:Le ⟨[],[(k,.arr T sz els)]⟩ ⟨s.T.set s.T.length .bot,setE k (.arr T sz els) s.E⟩:=⟨Nat.zero_le _,fun t=>.inl (by simp[St.get]),fun i e hi=>by
   unfold St.ent at hi;simp only[List.lookup]at hi;split at hi
   ·rename_i hik;have:i=k:=by simpa using hik
    subst this;injection hi with hi;subst hi;exact hk1
   ·cases hi⟩
  have h1:Rel ok σ w (.ow k) (zG (σ k)):=rfl;have h3:=zGz (hR1.le hle).core h1;have e2:zFh ⟨[],[(k,.arr T sz els)]⟩ (.ow k)=.c (.sl els):=by simp[zFh,St.entc,St.ent,List.lookup,Ent.core]
  rw[e2,hl]at h3;have h4:Rel (fun g=>ok g∨(σ k).blk=some g) σ w (.c (.sl els)) (zG l):=by
   refine h3.mono0 (fun g hg=>?_) fun _ _=>rfl;rcases hg with hg|⟨i,e,hi,hg⟩
   ·exact .inl hg
   ·refine .inr ?_
    unfold St.ent at hi;simp only[List.lookup]at hi;split at hi
    ·rename_i hik;have:i=k:=by simpa using hik
     subst this;exact hg
    ·cases hi
  exact h4
 refine⟨⟨hR.core.len,fun g hg=>?_,hR.core.lib.mono hup (fun _ _=>rfl),fun t=>(hR.core.tmp t).mono0 hup fun _ _=>rfl,fun i e hi=>?_,fun i e g hi hg=>?_,fun i i2 e f g hi hk h1 h3=>?_⟩,hR.defers,hR.below,hR.base,fun g hg=>.inl (hR.old g hg),fun g hg=>?_,fun i e g hi hg=>?_⟩
 ·rcases hg with hg|hg
  ·exact hR.core.okL g hg
  ·exact (hR.core.blk k _ g he hg).2
 ·rcases lk i e hi with⟨rfl,rfl⟩|⟨_,_,h5⟩
  ·obtain⟨h0,hn,hs,vs,h1,hv⟩:=hR.core.ent _ _ h2;have hjl:j<els2.length:=by
    rcases Nat.lt_or_ge j els2.length with h|h
    ·exact h
    ·rw[List.getElem?_eq_none h]at hj;cases hj
   have hfl:els2.flatten[j]?=some (.v (zG l)):=by rw[zPA els2 hs,List.getElem?_map,hj];rfl
   have hset:(els2.set j [.sl els]).flatten=els2.flatten.set j (.sl els):=by
    rw[zPA _ (fun el hel=>by
     rcases List.mem_or_eq_of_mem_set hel with h|h
     ·exact hs el h
     ·rw[h];rfl),zPA els2 hs,List.map_set]
    rfl
   obtain⟨u,hu1,hu2⟩:=hv.get j _ hfl;have huv:u=zG l:=by generalize zG l=v at hu2;cases hu2;rfl
   subst huv;refine⟨h0,by rw[List.length_set];exact hn,fun el hel=>?_,vs,by rw[List.length_set];exact h1,?_⟩
   ·rcases List.mem_or_eq_of_mem_set hel with h|h
    ·exact hs el h
    ·rw[h];rfl
   ·rw[hset];have hr:=(hv.mono hup (fun _ _=>rfl:∀g,ok g→w.heap[g]?=w.heap[g]?)).set j hread;have:vs.set j (zG l)=vs:=by
     apply List.ext_getElem?;intro q;rw[List.getElem?_set];split
     ·rename_i hq;subst hq;split
      ·exact hu1.symm
      ·rename_i hlt;rw[List.getElem?_eq_none (by omega)]
     ·rfl
    rwa [this]at hr
  ·exact (hR.core.ent i e h5).mono hup (fun _ _=>rfl) fun _ _=>rfl
 ·have key:∃e0,s.ent i=some e0∧i≠k:=by
   rcases lk i e hi with⟨rfl,rfl⟩|⟨_,h4,h5⟩
   ·exact⟨_,h2,hne⟩
   ·exact⟨e,h5,h4⟩
  obtain⟨e0,k1,k2⟩:=key;obtain⟨h3,h4⟩:=hR.core.blk i e0 g k1 hg;refine⟨fun h5=>?_,h4⟩;rcases h5 with h5|h5
  ·exact h3 h5
  ·exact k2 (hR.core.inj _ _ _ _ _ k1 he hg h5)
 ·have key:∀i e,(setE id2 (.arr T2 1 (els2.set j [.sl els])) (rmE k s.E)).lookup i=some e→∃e0,s.ent i=some e0:=by
   intro i e hi;rcases lk i e hi with⟨rfl,rfl⟩|⟨_,h4,h5⟩
   ·exact⟨_,h2⟩
   ·exact⟨e,h5⟩
  obtain⟨e0,k1⟩:=key i e hi;obtain⟨f0,k2⟩:=key i2 f hk;exact hR.core.inj i i2 e0 f0 g k1 k2 h1 h3
 ·rcases hg with hg|hg
  ·exact hR.fresh g hg
  ·have:=hR.own k _ g he hg;rw[if_neg (fun hc=>by cases hc)]at this;exact .inr this
 ·rcases lk i e hi with⟨rfl,rfl⟩|⟨_,_,h5⟩
  ·have h6:B.n g:=hR.own _ _ g h2 hg;exact h6
  ·exact hR.own i e g h5 hg
def stoQ{α:Type}(d:CT α)(xs:List α)(n:Int)(u:α→α):FX P α where
 m:=getI xs n
 run o s v K:=match o.op,o.dst with
  | .store t x y,none=>(match s.ev x,zAE (s.ev y) with
   | .po id sz i off,some vc=>(match s.ent id with
    |some (.qarr l T0 sz2 els)=>.eq i n.toNat (.eq sz2 sz (.eq els (xs.map d.c) (.eq ((P.info? t).map (·.size)) (some vc.length) (.eq (Nat.ble (off+vc.length) d.sz) true (.eq (splice (d.c v) off vc) (d.c (u v))
      (K ⟨s.T,setE id (.qarr l T0 sz ((xs.set n.toNat (u v)).map d.c)) s.E⟩))))))
    |_=>.bad)
   |_,_=>.bad)
  |_,_=>.bad
 ok o s K v hm h:=by
  split at h
  ·rename_i t x y ho hd;split at h
   ·rename_i id sz i off vc hx hy;split at h
    ·rename_i l T0 sz2 els he;obtain⟨h1,h2,h3,h4,h5,h6⟩:=h;subst h1 h2 h3;obtain⟨h7,h8⟩:=h6;obtain⟨h9,h10⟩:=zBl hm;refine zCe (s':=⟨s.T,setE id (.qarr l T0 sz2 ((xs.set n.toNat (u v)).map d.c)) s.E⟩) ?_ h8
     rw[List.map_set,←h7];exact zUA ho hd hx he (by rw[List.getElem?_map,h10];rfl) hy h4 (by rw[d.hc];exact Nat.le_of_ble_eq_true h5)
    ·exact h.elim
   ·exact h.elim
  ·exact h.elim
def idxV{α:Type}(d:CT α)(xs:List α)(n:Int)(k:Nat):F0 P α where
 m:=getI xs n
 chk o s:=match o.op,s.ent k with
  | .indexAddr t x ix,some (.qarr l _ _ _)=>(match P.underlying t,s.ev x with
   |some (.slice e),.ow id=>(match s.entc id with
    |some (.arr _ sz els)=>.eq ((P.info? e).map (·.size)) (some sz) (.eq els ((xs.map d.c).set n.toNat [.v (zG l)]) (.eq (s.ev ix) (.c (.v (.int .i64 n))) .ok))
    |_=>.bad)
   |_,_=>.bad)
  |_,_=>.bad
 av o s _:=match o.op with
  | .indexAddr t x ix=>(match s.ev x with
   | .ow id=>(match s.entc id with
    |some (.arr _ sz _)=>.po id sz n.toNat 0
    |_=>.bot)
   |_=>.bot)
  |_=>.bot
 ok o s y hm h:=by
  split at h
  ·rename_i t x ix l _ _ _ ho hk
   try simp only[ho]
   split at h
   ·rename_i e id hu hx
    try simp only[hx]
    split at h
    ·rename_i T sz els he;obtain⟨h1,h2,h3,_⟩:=h;subst h2
     try simp only[he]
     obtain⟨h4,h5⟩:=zBl hm;refine zQ5 hu h1 ho hx he h3 h4 ?_
     rw[List.length_set,List.length_map];rcases Nat.lt_or_ge n.toNat xs.length with h|h
     ·exact h
     ·rw[List.getElem?_eq_none h]at h5;cases h5
    ·exact h.elim
   ·exact h.elim
  ·exact h.elim
def ldV{α:Type}(d:CT α)(xs:List α)(n:Int)(k:Nat):F0 P α where
 m:=getI xs n
 chk o s:=match o.op,s.ent k with
  | .load t x,some (.qarr l _ _ _)=>(match P.underlying t,s.ev x with
   |some D,.po id sz i off=>(match s.entc id with
    |some (.arr _ sz2 els)=>.eq i n.toNat (.eq sz2 sz (.eq off 0 (.eq els ((xs.map d.c).set n.toNat [.v (zG l)]) (.eq (aggD D) false .ok))))
    |_=>.bad)
   |_,_=>.bad)
  |_,_=>.bad
 av o s _:=match s.ent k with
  |some (.qarr l _ _ _)=>.c (.v (zG l))
  |_=>.bot
 ok o s y hm h:=by
  split at h
  ·rename_i t x l _ _ _ ho hk
   try simp only[hk]
   split at h
   ·rename_i D id sz i off hu hx;split at h
    ·rename_i T sz2 els he;obtain⟨h1,h2,h3,h4,h5,_⟩:=h;subst h1 h2 h3 h4;obtain⟨h6,h7⟩:=zBl hm;have hlt:n.toNat<xs.length:=by
      rcases Nat.lt_or_ge n.toNat xs.length with h|h
      ·exact h
      ·rw[List.getElem?_eq_none h]at h7;cases h7
     refine qI (cs:=[]) ⟨D,hu,h5⟩ ho ?_
     rw[hx];unfold jV;simp only[he,if_true];rw[List.getElem?_set,if_pos rfl,if_pos (by rw[List.length_map];exact hlt)];rfl
    ·exact h.elim
   ·exact h.elim
  ·exact h.elim
def stoV{α:Type}(d:CT α)(xs:List α)(n:Int):FX P α where
 m:=getI xs n
 run o s v K:=match o.op,o.dst with
  | .store t x y,none=>(match s.ev x,zAE (s.ev y) with
   | .po id sz i off,some [c]=>(match s.ent id with
    |some (.arr T0 sz2 els)=>.eq i n.toNat (.eq sz2 sz (.eq off 0 (.eq sz 1 (.eq els (xs.map d.c) (.eq ((P.info? t).map (·.size)) (some 1) (.eq d.sz 1
      (K ⟨s.T,setE id (.arr T0 1 ((xs.map d.c).set n.toNat [c])) s.E⟩)))))))
    |_=>.bad)
   |_,_=>.bad)
  |_,_=>.bad
 post _ o s _:=match o.op with
  | .store _ x y=>(match s.ev x,zAE (s.ev y) with
   | .po id _ _ _,some [c]=>(match s.ent id with
    |some (.arr T0 _ _)=>some ⟨s.T,setE id (.arr T0 1 ((xs.map d.c).set n.toNat [c])) s.E⟩
    |_=>none)
   |_,_=>none)
  |_=>none
 ok o s K v hm h:=by
  split at h
  ·rename_i t x y ho hd;split at h
   ·rename_i id sz i off c hx hy;split at h
    ·rename_i T0 sz2 els he;obtain⟨h1,h2,h3,h4,h5,h6,h7⟩:=h;subst h1 h2 h3 h4 h5;obtain⟨h8,h9⟩:=h7;obtain⟨h10,h11⟩:=zBl hm;refine zCe (s':=⟨s.T,setE id (.arr T0 1 ((xs.map d.c).set n.toNat [c])) s.E⟩) ?_ h9
     have hlen:(d.c v).length=1:=by rw[d.hc];exact h8
     have hsp:splice (d.c v) 0 [c]=[c]:=by unfold splice;rw[List.take_zero,zi,List.drop_eq_nil_of_le (by rw[hlen];simp)];rfl
     have:=zNn (P:=P) (vc:=[c]) ho hd hx he (by rw[List.getElem?_map,h11];rfl) hy h6 (by rw[hlen];exact Nat.le_refl _);rw[hsp]at this;exact this
    ·exact h.elim
   ·exact h.elim
  ·exact h.elim
def frzQV{α:Type}(d:CT α)(xs:List α)(n:Int)(y:α)(k id2:Nat):HT where
 run s K:=match s.ent k,s.ent id2 with
  |some (.qarr l _ _ els),some (.arr T2 1 els2)=>.eq els2 ((xs.map d.c).set n.toNat [.v (zG l)]) (.eq (d.c y) [.sl els] (K ⟨s.T,setE id2 (.arr T2 1 ((xs.set n.toNat y).map d.c)) (rmE k s.E)⟩))
  |_,_=>.bad
 ok s K h B w0 ok0 ok σ a w hR:=by
  split at h
  ·rename_i l T sz els T2 els2 hk h2;obtain⟨h3,h4,h⟩:=h;subst h3;by_cases hlt:n.toNat<xs.length
   ·have hj:((xs.map d.c).set n.toNat [.v (zG l)])[n.toNat]?=some [.v (zG l)]:=by
     rw[List.getElem?_set,if_pos rfl,if_pos (by rw[List.length_map];exact hlt)]
    have h5:=zXC hR k id2 n.toNat hk h2 hj;rw[List.set_set,←h4,←List.map_set]at h5;exact⟨_,_,σ,h,h5⟩
   ·have e1:xs.set n.toNat y=xs:=List.set_eq_of_length_le (by omega);have e2:(xs.map d.c).set n.toNat [.v (zG l)]=xs.map d.c:=List.set_eq_of_length_le (by rw[List.length_map];omega);rw[e2]at h2;have hne:id2≠k:=fun e=>by rw[e,hk]at h2;cases h2
    refine⟨_,ok,σ,h,hR.le ⟨Nat.le_refl _,fun t=>.inr rfl,fun i e hi=>?_⟩⟩;have hrm:(rmE k s.E).lookup id2=some (.arr T2 1 (xs.map d.c)):=by rw[zB1,if_neg hne];exact h2
    have hi:(setE id2 (.arr T2 1 ((xs.set n.toNat y).map d.c)) (rmE k s.E)).lookup i=some e:=hi;rw[e1,jX id2 _ _ _ hrm]at hi;split at hi
    ·rename_i hq;rw[hq,←hi];exact h2
    ·rw[zB1]at hi;split at hi
     ·cases hi
     ·exact hi
  ·exact h.elim
theorem zYm{o:Oper}{s:St}{av:AV}{e sz:Nat}{els els':List (List Tr)}(h:Y1 P o s av [(0,.arr e sz els)])(he:∀ok w l,qW ok w l (.arr e sz els)→qW ok w l (.arr e sz els')):Y1 P o s av [(0,.arr e sz els')]:=by
 intro ok σ a w hC K Q hK;refine h ok σ a w hC K Q fun v w' ok' σ' hn=>hK v w' ok' σ' ?_
 have lk:∀{x:Ent}{id:Nat}{y:Ent},List.lookup id [(0,x)]=some y→id=0∧x=y:=by
  intro x id y hq;simp only[List.lookup]at hq;split at hq
  ·rename_i hb;exact⟨by simpa using hb,Option.some.inj hq⟩
  ·cases hq
 have l0:∀{x:Ent},List.lookup 0 [((0:Nat),x)]=some x:=rfl;refine⟨hn.below,hn.okM,hn.okN,hn.okL,hn.rel,fun id y hy=>?_,hn.ids,fun id y hy=>?_,fun id y g hy hg=>?_,fun i j y z g hi hj h1 h2=>?_,fun id y hy=>?_⟩
 ·rw[(lk hy).1];decide
 ·obtain⟨rfl,rfl⟩:=lk hy;exact he _ _ _ (hn.ent 0 _ l0)
 ·obtain⟨rfl,rfl⟩:=lk hy;exact hn.blk 0 _ g l0 hg
 ·rw[(lk hi).1,(lk hj).1]
 ·obtain⟨rfl,rfl⟩:=lk hy;rfl
theorem zVN{ok:Nat→Prop}{w:World}{l:Loc}{e sz:Nat}{els:List (List Tr)}(h:qW ok w l (.arr e sz els)):qW ok w l (.arr e sz (els.map fun el=>el.map nilC)):=by
 obtain⟨h0,h1,h2,vs,h3,h4⟩:=h;refine⟨h0,by rw[List.length_map];exact h1,fun el hel=>?_,vs,by rw[List.length_map];exact h3,?_⟩
 ·obtain⟨x,hx,rfl⟩:=List.mem_map.1 hel;rw[List.length_map];exact h2 x hx
 ·rw[←List.map_flatten];exact zUf h4
def mkN{α:Type}(d:CT α)(zx:α)(l k:Int):F1 P Unit where
 m:=mk l k
 chk o s:=match o.op with
  | .makeSlice t x y=>(match P.underlying t with
   |some (.slice e)=>(match P.info? e with
    |some i=>(match i.zero with
     |some z=>.eq (zCO z.cells&&(Nat.beq z.cells.size i.size&&(Nat.blt 0 i.size&&Nat.ble i.bytes 128))) true (.eq ((z.cells.toList.map Tr.v).map nilC) (d.c zx) (.eq (s.ev x) (.c (.v (.int .i64 l))) (.eq (s.ev y) (.c (.v (.int .i64 k))) .ok)))
     |none=>.bad)
    |none=>.bad)
   |_=>.bad)
  |_=>.bad
 av _ _ _:=.ow 0
 ne o _ _:=match o.op with
  | .makeSlice t x y=>(match P.underlying t with
   |some (.slice e)=>[(0,.arr e ((zD5 P e).getD 0) ((List.replicate l.toNat zx).map d.c))]
   |_=>[])
  |_=>[]
 ok o s y hm h:=by
  split at h
  ·rename_i t x y ho;split at h
   ·rename_i e hu;split at h
    ·rename_i i hi;split at h
     ·rename_i z hz;obtain⟨h0,h1,h2,h3,_⟩:=h;simp only[ze]at h0;simp only[hu,zD5,hi,Option.map_some,Option.getD_some];have h5:=zT5 (P:=P) (c:=fun _:Unit=>z.cells.toList.map Tr.v) (zx:=()) hu (by rw[hi];simp only[Option.map_some,hz]) h0.1 (Nat.eq_of_beq_eq_true h0.2.1) (Nat.le_of_ble_eq_true h0.2.2.1) rfl ho h2 h3 (zTD hm) (Nat.le_of_ble_eq_true h0.2.2.2);refine zYm h5 fun ok w l he=>?_
      have h6:=zVN he;rw[List.map_replicate,List.map_replicate,h1]at h6;rw[List.map_replicate];exact h6
     ·exact h.elim
    ·exact h.elim
   ·exact h.elim
  ·exact h.elim
end
section
variable {P:Program}
structure Kept (H:Nat→Prop) (ok ok':Nat→Prop) (w w':World):Prop where
  up:∀g,ok g→ok' g
  at1:∀g,ok g→w'.heap[g]?=w.heap[g]?
  at2:∀g,H g→w'.heap[g]?=w.heap[g]?
  no:∀g,H g→¬ok g→¬ok' g
  size:w.heap.size≤w'.heap.size
theorem zQ8{c:Code}{s:St}{J:Exit→St→Prop}(h:V P c s J){B:Fr}{w0:World}{ok0 ok:Nat→Prop}{σ:Nat→Loc}{a:Act}{w:World}(hR:R B w0 ok0 ok σ s a w)(H:Nat→Prop)(h1:∀g,H g→g<w.heap.size)(h2:∀id e g,s.ent id=some e→(σ id).blk=some g→¬H g):
  c.wp P (fun e a' w'=>∃s' ok' σ',J e s'∧R B w0 ok0 ok' σ' s' a' w'∧Kept H ok ok' w w'∧∀id e g,s'.ent id=some e→(σ' id).blk=some g→¬H g) a w:=by
 have hR':R ⟨fun g=>B.n g∧¬(H g∨ok g),fun g=>B.ex g∧¬(H g∨ok g)⟩ w ok ok σ s a w:=by
  refine⟨hR.core,hR.defers,BelowX.refl _ _,fun g hg=>⟨hR.base g hg,fun h3=>?_⟩,fun g hg=>hg,fun g hg=>.inl hg,fun id e g he hg=>?_⟩
  ·rcases h3 with h3|h3
   ·have:=h1 g h3;omega
   ·have:=hR.core.okL g h3;omega
  ·have h4:¬(H g∨ok g):=fun h3=>by
    rcases h3 with h3|h3
    ·exact h2 id e g he hg h3
    ·exact (hR.core.blk id e g he hg).1 h3
   have h5:=hR.own id e g he hg;split
   ·rename_i hp;rw[if_pos hp]at h5;exact⟨h5,h4⟩
   ·rename_i hp;rw[if_neg hp]at h5;exact⟨h5,h4⟩
 refine wp_mono (h _ _ _ _ _ _ _ hR') ?_
 rintro e a' w' ⟨s',ok',σ',hJ,hS⟩;have hb:∀g,H g∨ok g→w'.heap[g]?=w.heap[g]?:=fun g hg=>hS.below.block g (fun x=>x.2 hg) fun x=>x.2 hg
 refine⟨s',ok',σ',hJ,⟨hS.core,hS.defers,hR.below.trans ⟨hS.below.os,hS.below.tape,hS.below.output,hS.below.size,fun k hk hx=>hS.below.block k (fun x=>hk x.1) fun x=>hx x.1⟩,fun g hg=>(hS.base g hg).1,fun g hg=>hS.old g (hR.old g hg),fun g hg=>?_,fun id e g he hg=>?_⟩,⟨hS.old,fun g hg=>hb g (.inr hg),fun g hg=>hb g (.inl hg),fun g hg hn hk=>?_,hS.below.size⟩,fun id e g he hg hH=>?_⟩
 ·rcases hS.fresh g hg with h3|h3
  ·exact hR.fresh g h3
  ·exact .inr h3.1
 ·have h5:=hS.own id e g he hg;split
  ·rename_i hp;rw[if_pos hp]at h5;exact h5.1
  ·rename_i hp;rw[if_neg hp]at h5;exact h5.1
 ·rcases hS.fresh g hk with h3|h3
  ·exact hn h3
  ·exact h3.2 (.inl hg)
 ·have h5:=hS.own id e g he hg;split at h5
  ·exact h5.2 (.inl hH)
  ·exact h5.2 (.inl hH)
theorem zXD{B:Fr}{w0:World}{ok0 ok:Nat→Prop}{σ:Nat→Loc}{s:St}{a:Act}{w:World}(hR:R B w0 ok0 ok σ s a w)(k T sz:Nat){l:Loc}{els:List (List Tr)}(hk:s.ent k=none)
  (he:qW ok w l (.arr T sz els)) (hb:∀g,l.blk=some g→¬ok g∧g<w.heap.size∧B.n g) (hi0:∀id e g,s.ent id=some e→(σ id).blk=some g→l.blk≠some g):
  R B w0 ok0 ok (fun i=>if i=k then l else σ i) ⟨zBx k s.T,(k,.qarr l T sz els)::s.E⟩ a w:=by
 have lk:∀i e,(St.mk (zBx k s.T) ((k,.qarr l T sz els)::s.E)).ent i=some e→(i=k∧e=.qarr l T sz els)∨(i≠k∧s.ent i=some e):=by
  intro i e hi;unfold St.ent at hi;simp only[List.lookup]at hi;cases hik:(i==k) with
  |true=>rw[hik]at hi;exact .inl ⟨by simpa using hik,by simpa using hi.symm⟩
  |false=>rw[hik]at hi;exact .inr ⟨by simpa using hik,hi⟩
 refine⟨⟨by simpa [zEL] using hR.core.len,hR.core.okL,hR.core.lib,fun t=>?_,fun i e hi=>?_,fun i e g hi hg=>?_,fun i i2 e f2 g hi hi2 h1 h2=>?_⟩,hR.defers,hR.below,hR.base,hR.old,hR.fresh,fun i e g hi hg=>?_⟩
 ·have e0:(St.mk (zBx k s.T) ((k,.qarr l T sz els)::s.E)).get t=(bif (s.get t).mid k then AV.bot else s.get t):=by
   unfold St.get;exact zFq k s.T t
  rw[e0];cases hm:(s.get t).mid k with
  |true=>trivial
  |false=>exact (hR.core.tmp t).mid k (fun _ h=>h) (fun _ _=>rfl) hm (fun i hi=>by simp[hi])
 ·rcases lk i e hi with⟨rfl,rfl⟩|⟨h1,h2⟩
  ·simp only[if_true];exact⟨rfl,he⟩
  ·simp only[if_neg h1];exact hR.core.ent i e h2
 ·rcases lk i e hi with⟨rfl,rfl⟩|⟨h1,h2⟩
  ·simp only[if_true]at hg;exact⟨(hb g hg).1,(hb g hg).2.1⟩
  ·simp only[if_neg h1]at hg;exact hR.core.blk i e g h2 hg
 ·rcases lk i e hi with⟨a1,_⟩|⟨a1,a2⟩<;>rcases lk i2 f2 hi2 with⟨b1,_⟩|⟨b1,b2⟩
  ·rw[a1,b1]
  ·simp only[a1,if_true]at h1;simp only[if_neg b1]at h2;exact absurd h1 (hi0 _ _ _ b2 h2)
  ·simp only[b1,if_true]at h2;simp only[if_neg a1]at h1;exact absurd h2 (hi0 _ _ _ a2 h1)
  ·simp only[if_neg a1]at h1;simp only[if_neg b1]at h2;exact hR.core.inj _ _ _ _ _ a2 b2 h1 h2
 ·rcases lk i e hi with⟨rfl,rfl⟩|⟨h1,h2⟩
  ·simp only[if_true]at hg;exact (hb g hg).2.2
  ·simp only[if_neg h1]at hg;exact hR.own i e g h2 hg
structure Hid (B:Fr) (ok:Nat→Prop) (w:World) (T sz:Nat) (L:List Loc) (X:List (List (List Tr))):Prop where
  len:L.length=X.length
  row:∀(i:Nat) l x,L[i]?=some l→X[i]?=some x→qW ok w l (.arr T sz x)
  blk:∀(i:Nat) l g,L[i]?=some l→l.blk=some g→¬ok g∧g<w.heap.size∧B.n g
  inj:∀(i j:Nat) l m g,L[i]?=some l→L[j]?=some m→l.blk=some g→m.blk=some g→i=j
def hidB(L:List Loc)(g:Nat):Prop:=∃(i:Nat) (l:Loc),L[i]?=some l∧l.blk=some g
theorem Hid.kept{B:Fr}{H ok ok':Nat→Prop}{w w':World}{T sz:Nat}{L:List Loc}{X:List (List (List Tr))}(h:Hid B ok w T sz L X)(k:Kept H ok ok' w w')(hH:∀g,hidB L g→H g):Hid B ok' w' T sz L X:=by
 refine⟨h.len,fun i l x h1 h2=>?_,fun i l g h1 h2=>?_,h.inj⟩
 ·exact (h.row i l x h1 h2).mono k.up k.at1 fun g hg=>k.at2 g (hH g ⟨i,l,h1,hg⟩)
 ·obtain⟨b1,b2,b3⟩:=h.blk i l g h1 h2;exact⟨k.no g (hH g ⟨i,l,h1,h2⟩) b1,Nat.lt_of_lt_of_le b2 k.size,b3⟩
theorem zX7{ok ok':Nat→Prop}{w:World}{l:Loc}{T sz:Nat}{els:List (List Tr)}(h:qW ok w l (.arr T sz els))(hup:∀g,ok g→ok' g)(hb':∀g,l.blk=some g→ok' g):Rd ok' w (.sl els) (zG l):=by
 obtain⟨h0,hn,hs,vs,h1,h2⟩:=h;cases hb:l.blk with
 |none=>
  have hz:els=[]:=by
   rcases Nat.eq_zero_or_pos els.length with h3|h3
   ·exact List.eq_nil_of_length_eq_zero h3
   ·obtain⟨g,hg⟩:=zLw h1 h3;rw[hb]at hg;cases hg
  subst hz;unfold zG;rw[hn];exact Rd.nl _ _
 |some g=>
  unfold zG;rw[hb,hn];refine Rd.sl g 0 els.length _ sz els (fun i j=>vs.getD (i*sz+j) undef) rfl ?_ (hb' g hb) hs (fun i j c hc=>?_) (fun i j c hc=>?_)
  ·rcases h1.2 with⟨_,hv0⟩|⟨g2,cap,cur,hv,_,hg,hnc,_⟩
   ·omega
   ·unfold zG at hv;injection hv with _ _ h3;omega
  all_goals
   have hc2:∃el,els[i]?=some el∧el[j]?=some c:=by
    unfold at2 at hc;cases h3:els[i]? with
    |none=>rw[h3]at hc;cases hc
    |some el=>rw[h3]at hc;exact⟨el,rfl,hc⟩
   obtain⟨el,h3,h4⟩:=hc2;obtain⟨u,h5,h6⟩:=h2.get _ c (zMA els sz i j el c hs h3 h4);have h7:vs.getD (i*sz+j) undef=u:=by rw[List.getD_eq_getElem?_getD,h5];rfl
  ·rw[Nat.zero_add,h7];exact zJD h1 hb _ u h5
  ·rw[h7];exact h6.mono hup fun _ _=>rfl
theorem zRL{ok ok':Nat→Prop}{w:World}{T sz:Nat}:∀{L:List Loc}{X:List (List (List Tr))}{vs:List Value},L.length=X.length→(∀(i:Nat) l x,L[i]?=some l→X[i]?=some x→qW ok w l (.arr T sz x))→(∀g,ok g→ok' g)→(∀g,hidB L g→ok' g)→
  RdL ok w (L.map fun l=>Tr.v (zG l)) vs→RdL ok' w (X.map fun x=>Tr.sl x) vs
 |[],[],vs,_,_,_,_,h=>by cases h;exact .nil
 |l::L,x::X,vs,hl,hr,hup,hb,h=>by
  cases h with
  |cons h1 h2=>
   refine .cons ?_ (zRL (by simpa using hl) (fun i l x a b=>hr (i+1) l x (by simpa using a) (by simpa using b)) hup (fun g hg=>by obtain⟨i,m,a,b⟩:=hg;exact hb g ⟨i+1,m,by simpa using a,b⟩) h2)
   have h3:=zX7 (hr 0 l x rfl rfl) hup fun g hg=>hb g ⟨0,l,rfl,hg⟩;have h4:∀{y:Value}{u:Value},Rd ok w (.v y) u→u=y:=fun h=>by cases h;rfl
   have h1:Rd ok w (.v (zG l)) _:=h1;rw[h4 h1];exact h3
 |[],_::_,_,hl,_,_,_,_=>by simp at hl
 |_::_,[],_,hl,_,_,_,_=>by simp at hl
theorem zPP{B:Fr}{w0:World}{ok0 ok:Nat→Prop}{σ:Nat→Loc}{s:St}{a:Act}{w:World}(hR:R B w0 ok0 ok σ s a w)(oid:Nat){T2 T sz:Nat}{L:List Loc}{X:List (List (List Tr))}(ho:s.ent oid=some (.arr T2 1 (L.map fun l=>[Tr.v (zG l)])))(hd:Hid B ok w T sz L X)
  (hne:∀id e g,s.ent id=some e→(σ id).blk=some g→¬hidB L g):R B w0 ok0 (fun g=>ok g∨hidB L g) σ ⟨s.T,setE oid (.arr T2 1 (X.map fun x=>[Tr.sl x])) s.E⟩ a w:=by
 have hup:∀g,ok g→ok g∨hidB L g:=fun g hg=>.inl hg;have lk:∀i e,(setE oid (.arr T2 1 (X.map fun x=>[Tr.sl x])) s.E).lookup i=some e→(i=oid∧e=.arr T2 1 (X.map fun x=>[Tr.sl x]))∨(i≠oid∧s.ent i=some e):=by
  intro i e hi;rw[jX oid _ _ _ ho]at hi;by_cases h:i=oid
  ·rw[if_pos h]at hi;exact .inl ⟨h,by simpa using hi.symm⟩
  ·rw[if_neg h]at hi;exact .inr ⟨h,hi⟩
 have old:∀i e,(setE oid (.arr T2 1 (X.map fun x=>[Tr.sl x])) s.E).lookup i=some e→∃e0,s.ent i=some e0:=by
  intro i e hi;rcases lk i e hi with⟨rfl,rfl⟩|⟨_,h5⟩
  ·exact⟨_,ho⟩
  ·exact⟨e,h5⟩
 refine⟨⟨hR.core.len,fun g hg=>?_,hR.core.lib.mono hup (fun _ _=>rfl),fun t=>(hR.core.tmp t).mono0 hup fun _ _=>rfl,fun i e hi=>?_,fun i e g hi hg=>?_,fun i i2 e f g hi hk h1 h3=>?_⟩,hR.defers,hR.below,hR.base,fun g hg=>.inl (hR.old g hg),fun g hg=>?_,fun i e g hi hg=>?_⟩
 ·rcases hg with hg|⟨i,l,h1,h2⟩
  ·exact hR.core.okL g hg
  ·exact (hd.blk i l g h1 h2).2.1
 ·rcases lk i e hi with⟨rfl,rfl⟩|⟨_,h5⟩
  ·obtain⟨h0,hn,hs,vs,h1,hv⟩:=hR.core.ent _ _ ho;have e1:(L.map fun l=>[Tr.v (zG l)]).flatten=L.map fun l=>Tr.v (zG l):=by
    rw[zPA _ hs,List.map_map];rfl
   have hs2:∀el,el∈X.map (fun x=>[Tr.sl x])→el.length=1:=by intro el hel;obtain⟨x,_,rfl⟩:=List.mem_map.1 hel;rfl
   have e2:(X.map fun x=>[Tr.sl x]).flatten=X.map fun x=>Tr.sl x:=by rw[zPA _ hs2,List.map_map];rfl
   rw[e1]at hv;have hlen:(L.map fun l=>[Tr.v (zG l)]).length=(X.map fun x=>[Tr.sl x]).length:=by rw[List.length_map,List.length_map,hd.len]
   refine⟨h0,by rw[←hlen];exact hn,hs2,vs,by rw[←hlen];exact h1,?_⟩;rw[e2];exact zRL hd.len hd.row hup (fun g hg=>.inr hg) hv
  ·exact (hR.core.ent i e h5).mono hup (fun _ _=>rfl) fun _ _=>rfl
 ·obtain⟨e0,k1⟩:=old i e hi;obtain⟨h3,h4⟩:=hR.core.blk i e0 g k1 hg;refine⟨fun h5=>?_,h4⟩;rcases h5 with h5|h5
  ·exact h3 h5
  ·exact hne i e0 g k1 hg h5
 ·obtain⟨e0,k1⟩:=old i e hi;obtain⟨f0,k2⟩:=old i2 f hk;exact hR.core.inj i i2 e0 f0 g k1 k2 h1 h3
 ·rcases hg with hg|⟨i,l,h1,h2⟩
  ·exact hR.fresh g hg
  ·exact .inr (hd.blk i l g h1 h2).2.2
 ·rcases lk i e hi with⟨rfl,rfl⟩|⟨_,h5⟩
  ·have h6:=hR.own _ _ g ho hg;simpa [Ent.pin] using h6
  ·exact hR.own i e g h5 hg
theorem zZJ{B:Fr}{w0:World}{ok0 okA okZ:Nat→Prop}{σA σZ:Nat→Loc}{sA sZ:St}{aA a:Act}{wA w:World}(hA:R B w0 ok0 okA σA sA aA wA)(hZ:R B w0 ok0 okZ σZ sZ a w)(k1:∀g,okA g→okZ g)(k2:∀g,okA g→w.heap[g]?=wA.heap[g]?)(oid T2 sz2:Nat){els:List (List Tr)}(ho:sA.ent oid=some (.arr T2 sz2 els))
  (kb:∀g,(σA oid).blk=some g→okZ g∧w.heap[g]?=wA.heap[g]?) (T3:List AV) (E3:List (Nat×Ent)) (hT0:T3.length≤a.tmps.size) (hT:∀t,Rel okA (fun i=>if i=oid then σA oid else σZ i) w ((T3[t]?).getD .bot) (a.tmps.getD t undef))
  (hE:∀i e,E3.lookup i=some e→i≠oid∧sZ.ent i=some e∧qW okA w (σZ i) e):R B w0 ok0 okA (fun i=>if i=oid then σA oid else σZ i) ⟨T3,(oid,.arr T2 sz2 els)::E3⟩ a w:=by
 have lk:∀i e,(St.mk T3 ((oid,.arr T2 sz2 els)::E3)).ent i=some e→(i=oid∧e=.arr T2 sz2 els)∨(i≠oid∧sZ.ent i=some e∧qW okA w (σZ i) e):=by
  intro i e hi;unfold St.ent at hi;simp only[List.lookup]at hi;cases hik:(i==oid) with
  |true=>rw[hik]at hi;exact .inl ⟨by simpa using hik,by simpa using hi.symm⟩
  |false=>rw[hik]at hi;exact .inr (hE i e hi)
 refine⟨⟨hT0,fun g hg=>hZ.core.okL g (k1 g hg),hA.core.lib.mono (fun _ h=>h) k2,hT,fun i e hi=>?_,fun i e g hi hg=>?_,fun i i2 e f2 g hi hi2 h1 h2=>?_⟩,hZ.defers,hZ.below,hZ.base,hA.old,hA.fresh,fun i e g hi hg=>?_⟩
 ·rcases lk i e hi with⟨rfl,rfl⟩|⟨h1,h2,h3⟩
  ·simp only[if_true];exact (hA.core.ent _ _ ho).mono (fun _ h=>h) k2 fun g hg=>(kb g hg).2
  ·simp only[if_neg h1];exact h3
 ·rcases lk i e hi with⟨rfl,rfl⟩|⟨h1,h2,h3⟩
  ·simp only[if_true]at hg;exact⟨(hA.core.blk _ _ g ho hg).1,hZ.core.okL g (kb g hg).1⟩
  ·simp only[if_neg h1]at hg;obtain⟨h4,h5⟩:=hZ.core.blk i e g h2 hg;exact⟨fun h=>h4 (k1 g h),h5⟩
 ·rcases lk i e hi with⟨a1,_⟩|⟨a1,a2,_⟩<;>rcases lk i2 f2 hi2 with⟨b1,_⟩|⟨b1,b2,_⟩
  ·rw[a1,b1]
  ·simp only[a1,if_true]at h1;simp only[if_neg b1]at h2;exact absurd (kb g h1).1 (hZ.core.blk _ _ g b2 h2).1
  ·simp only[b1,if_true]at h2;simp only[if_neg a1]at h1;exact absurd (kb g h2).1 (hZ.core.blk _ _ g a2 h1).1
  ·simp only[if_neg a1]at h1;simp only[if_neg b1]at h2;exact hZ.core.inj _ _ _ _ _ a2 b2 h1 h2
 ·rcases lk i e hi with⟨rfl,rfl⟩|⟨h1,h2,h3⟩
  ·simp only[if_true]at hg;have h6:=hA.own _ _ g ho hg;simpa [Ent.pin] using h6
  ·simp only[if_neg h1]at hg;exact hZ.own i e g h2 hg
theorem Hid.still{B:Fr}{ok:Nat→Prop}{w w':World}{T sz:Nat}{L:List Loc}{X:List (List (List Tr))}(h:Hid B ok w T sz L X)(k1:∀g,ok g→w'.heap[g]?=w.heap[g]?)(k2:∀g,hidB L g→w'.heap[g]?=w.heap[g]?)(hs:w.heap.size≤w'.heap.size):Hid B ok w' T sz L X:=by
 refine⟨h.len,fun i l x h1 h2=>?_,fun i l g h1 h2=>?_,h.inj⟩
 ·exact (h.row i l x h1 h2).mono (fun _ h=>h) k1 fun g hg=>k2 g ⟨i,l,h1,hg⟩
 ·obtain⟨b1,b2,b3⟩:=h.blk i l g h1 h2;exact⟨b1,Nat.lt_of_lt_of_le b2 hs,b3⟩
def hidX(L:List Loc)(n:Nat)(g:Nat):Prop:=∃(i:Nat) (l:Loc),i≠n∧L[i]?=some l∧l.blk=some g
theorem Hid.set{B:Fr}{ok ok':Nat→Prop}{w w':World}{T sz:Nat}{L:List Loc}{X:List (List (List Tr))}(h:Hid B ok w T sz L X){n:Nat}{l':Loc}{x':List (List Tr)}(k:Kept (hidX L n) ok ok' w w')(he:qW ok' w' l' (.arr T sz x'))(hb:∀g,l'.blk=some g→¬ok' g∧g<w'.heap.size∧B.n g∧¬hidX L n g):
  Hid B ok' w' T sz (L.set n l') (X.set n x'):=by
 have key:∀(i:Nat) l,(L.set n l')[i]?=some l→(i=n∧l=l')∨(i≠n∧L[i]?=some l):=by
  intro i l h1;rw[List.getElem?_set]at h1;by_cases hi:n=i
  ·rw[if_pos hi]at h1;split at h1
   ·exact .inl ⟨hi.symm,(Option.some.inj h1).symm⟩
   ·cases h1
  ·rw[if_neg hi]at h1;exact .inr ⟨fun e=>hi e.symm,h1⟩
 refine⟨by rw[List.length_set,List.length_set,h.len],fun i l x h1 h2=>?_,fun i l g h1 h2=>?_,fun i j l m g h1 h2 h3 h4=>?_⟩
 ·rcases key i l h1 with⟨rfl,rfl⟩|⟨hi,h3⟩
  ·rw[List.getElem?_set]at h2;rw[if_pos rfl]at h2;split at h2
   ·rw[←Option.some.inj h2];exact he
   ·cases h2
  ·rw[List.getElem?_set,if_neg (fun e=>hi e.symm)]at h2;exact (h.row i l x h3 h2).mono k.up k.at1 fun g hg=>k.at2 g ⟨i,l,hi,h3,hg⟩
 ·rcases key i l h1 with⟨rfl,rfl⟩|⟨hi,h3⟩
  ·exact⟨(hb g h2).1,(hb g h2).2.1,(hb g h2).2.2.1⟩
  ·obtain⟨b1,b2,b3⟩:=h.blk i l g h3 h2;exact⟨k.no g ⟨i,l,hi,h3,h2⟩ b1,Nat.lt_of_lt_of_le b2 k.size,b3⟩
 ·rcases key i l h1 with⟨a1,a2⟩|⟨a1,a2⟩<;>rcases key j m h2 with⟨b1,b2⟩|⟨b1,b2⟩
  ·rw[a1,b1]
  ·subst a2;exact absurd ⟨j,m,b1,b2,h4⟩ (hb g h3).2.2.2
  ·subst b2;exact absurd ⟨i,l,a1,a2,h3⟩ (hb g h4).2.2.2
  ·exact h.inj i j l m g a2 b2 h3 h4
theorem Hid.snoc{B:Fr}{ok ok':Nat→Prop}{w w':World}{T sz:Nat}{L:List Loc}{X:List (List (List Tr))}(h:Hid B ok w T sz L X){l':Loc}{x':List (List Tr)}(k:Kept (hidB L) ok ok' w w')(he:qW ok' w' l' (.arr T sz x'))(hb:∀g,l'.blk=some g→¬ok' g∧g<w'.heap.size∧B.n g∧¬hidB L g):
  Hid B ok' w' T sz (L++[l']) (X++[x']):=by
 have key:∀(i:Nat) l,(L++[l'])[i]?=some l→(i=L.length∧l=l')∨(i<L.length∧L[i]?=some l):=by
  intro i l h1;rw[List.getElem?_append]at h1;split at h1
  ·rename_i hi;exact .inr ⟨hi,h1⟩
  ·rename_i hi;cases hq:i - L.length with
   |zero=>rw[hq]at h1;exact .inl ⟨by omega,(Option.some.inj h1).symm⟩
   |succ q=>rw[hq]at h1;cases h1
 refine⟨by rw[zb,zb,h.len];rfl,fun i l x h1 h2=>?_,fun i l g h1 h2=>?_,fun i j l m g h1 h2 h3 h4=>?_⟩
 ·rcases key i l h1 with⟨rfl,rfl⟩|⟨hi,h3⟩
  ·rw[h.len,List.getElem?_append_right (Nat.le_refl _),Nat.sub_self]at h2;rw[←Option.some.inj h2];exact he
  ·rw[List.getElem?_append_left (by rw[←h.len];exact hi)]at h2;exact (h.row i l x h3 h2).mono k.up k.at1 fun g hg=>k.at2 g ⟨i,l,h3,hg⟩
 ·rcases key i l h1 with⟨rfl,rfl⟩|⟨hi,h3⟩
  ·exact⟨(hb g h2).1,(hb g h2).2.1,(hb g h2).2.2.1⟩
  ·obtain⟨b1,b2,b3⟩:=h.blk i l g h3 h2;exact⟨k.no g ⟨i,l,h3,h2⟩ b1,Nat.lt_of_lt_of_le b2 k.size,b3⟩
 ·rcases key i l h1 with⟨a1,a2⟩|⟨a1,a2⟩<;>rcases key j m h2 with⟨b1,b2⟩|⟨b1,b2⟩
  ·rw[a1,b1]
  ·subst a2;exact absurd ⟨j,m,b2,h4⟩ (hb g h3).2.2.2
  ·subst b2;exact absurd ⟨i,l,a2,h3⟩ (hb g h4).2.2.2
  ·exact h.inj i j l m g a2 b2 h3 h4
end
end Go.Proofs.YtdedjieegpkabaaGreat
