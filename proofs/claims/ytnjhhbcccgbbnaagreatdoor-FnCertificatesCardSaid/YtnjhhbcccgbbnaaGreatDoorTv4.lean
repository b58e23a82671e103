/-
  Rules of walks, plain functions and their laws, part 4.
  Conditions: none.
-/
import Derived.Laws.BytesString
import Derived.Laws.Strings2
import Derived.Laws.Slices
import Derived.Laws.Externs
import Derived.Lib.AtoiTie
import Derived.KernelRfl
import Derived.Shelf.Strings.Builder1
import Derived.Shelf.Strings.OnBuilder
import Derived.Shelf.LaysM
import Derived.Shelf.Strconv.Itoa3
import Derived.Shelf.LaysC
import Derived.Shelf.Strconv.AtoiAll
import Derived.Shelf.Strings.Prefix
import Derived.Shelf.Strings.Split
import Derived.Shelf.Strings.FieldsFuncAny
import Derived.Test.YtnjhhbcccgbbnaaGreatDoorProg
import Derived.Test.YtnjhhbcccgbbnaaGreatDoorRows
import Derived.MapKept
import Derived.Test.YtnjhhbcccgbbnaaGreatDoorTv3
set_option linter.unusedSimpArgs false
set_option linter.unusedVariables false
namespace Go.Proofs.YtnjhhbcccgbbnaaGreatDoor
open Go.RowKit
section
variable {P:Program}
theorem zWv{a b:qd}{u:Unit}(h:catR a b=some u):a.size+b.size≤9223372036854775807:=by
 unfold catR at h;split at h
 ·assumption
 ·cases h
theorem z3B{b:qd}{i v:Int}(h:getB b i=some v):∃h:0≤i∧i<b.size,v=(b[i.toNat]'(by omega)).toNat:=by
 unfold getB at h;split at h
 ·rename_i hi;injection h with h;refine⟨hi,?_⟩;rw[←h];have h2:i.toNat<b.data.toList.length:=by
   have:b.data.toList.length=b.size:=by simp
   omega
  rw[zu h2];rfl
 ·cases h
theorem z7T{o:Oper}{s:St}{x i:Operand}{t:TypeId}{b:qd}{k:IntKind}{n v:Int}(hu:P.underlying t=some .string)(ho:o.op=.index t x i)(hx:s.ev x=.c (.v (.string b)))(hi:s.ev i=.c (.v (.int k n)))(hg:getB b n=some v):Y0 P o s (.c (.v (.int .u8 v))):=
 qI fun ok σ a w hC=>by obtain⟨h1,h2⟩:=z3B hg;refine⟨.int .u8 v,?_,zIY _ _ _ _⟩;unfold execOp;rw[ho];simp only[hC.exact hx,hC.exact hi,Sem.run_bind,run_index_string w t b k n hu,dif_pos h1,Result.andThen_ok,Sem.run_pure];rw[h2]
theorem z4H(ok:Nat→Prop)(σ:Nat→Loc)(w:World)(b:qd):Rel ok σ w (.c (.v (.string b))) (.string b):=Rd.v _ rfl
theorem z5q{o:Oper}{s:St}{src dst e:TypeId}{x:Operand}{c:Int→List Tr}(hc:∀v,c v=[.v (.int .u8 v)])(xs:List Int)(hs:P.underlying src=some (.slice e))(he:P.underlying e=some (.int .u8))(hd:P.underlying dst=some .string)(ho:o.op=.convert src dst x)
  (hx:zCX s (s.ev x)=some (xs.map c)):Y0 P o s (.c (.v (.string (zHa xs)))):=
 qI fun ok σ a w hC=>by
  obtain⟨A,cap,h1,h2,h3⟩:=zIP hC (hC.ev x) hx;refine⟨.string (zHa xs),?_,z4H _ _ _ _⟩;unfold execOp;rw[ho];have hrun:(convert src dst (a.eval x)).run P w=.ok (.string (zHa xs)) w:=by
   rw[h1,run_convert_bytes_string w src dst e A _ cap hs he hd];by_cases hn:xs=[]
   ·subst hn;cases A with
    |none=>simp[Conv.bytesToString,zHa]
    |some A=>have:=run_bytesToString (P:=P) w A 0 cap [] (by simpa using run_loadCells_list (P:=P) w A [] (fun j v hj=>by simp at hj));simpa [zHa] using this
   ·obtain⟨g,off,sz,vs,rfl,hs1,hr,hcell⟩:=h3 (by simpa using hn);have hflat:(xs.map c).flatten=xs.map fun v=>Tr.v (.int .u8 v):=by
     clear h1 h2 h3 hs1 hr hcell hn hx
     induction xs with
     |nil=>rfl
     |cons v xs ih=>rw[List.map_cons,List.flatten_cons,ih,hc];rfl
    rw[hflat]at hr;have hvs:vs=xs.map fun v=>Value.int .u8 v:=by
     clear h1 h2 h3 hs1 hcell hn hx hflat
     induction xs generalizing vs with
     |nil=>cases hr;rfl
     |cons v xs ih=>
      cases hr with
      |cons h hs=>cases h;rw[ih _ hs];rfl
    have:=run_bytesToString (P:=P) w ⟨g,off,none⟩ xs.length cap xs (by
     have hl:=run_loadCells_list (P:=P) w ⟨g,off,none⟩ (xs.map (Value.int .u8)) (fun j v hj=>by rw[zCm];exact hcell j v (by rw[hvs];exact hj))
     simpa using hl)
    simpa [zHa] using this
  simp only[Sem.run_bind,hrun,Result.andThen_ok,Sem.run_pure]
theorem zXI{f:FuncId}{args:List AV}{b:qd}(h:∀ok σ w vs,(∀g,ok g→g<w.heap.size)→Lb ok w→RelA ok σ w args vs→Calls P f vs.toArray w fun e w'=>e=.returned (.string b)∧Below w.heap.size w w'):zH P f args (.c (.v (.string b))) []:=by
 intro ok σ w vs hok hlib hargs;refine (h ok σ w vs hok hlib hargs).mono ?_
 rintro e w' ⟨rfl,hb⟩;refine⟨_,ok,σ,rfl,⟨hb,fun _ h=>h,fun _ h=>.inl h,fun g hg=>Nat.lt_of_lt_of_le (hok g hg) hb.size,z4H _ _ _ _,fun id e h=>by simp at h,fun e he=>rfl,fun id e h=>by simp at h,fun id e g h=>by simp at h,fun i j e f g h=>by simp at h,fun id e h=>by simp at h⟩⟩
theorem zZS{ok:Nat→Prop}{σ:Nat→Loc}{w:World}{k:IntKind}{n:Int}{v:Value}(h:Rel ok σ w (.c (.v (.int k n))) v):v=.int k n:=by have h2:Rd ok w (.v (.int k n)) v:=h;cases h2;rfl
theorem zHA{ok:Nat→Prop}{σ:Nat→Loc}{w:World}{b:qd}{v:Value}(h:Rel ok σ w (.c (.v (.string b))) v):v=.string b:=by have h2:Rd ok w (.v (.string b)) v:=h;cases h2;rfl
theorem z1L{f:FuncId}(hc:∀ok w n,Lb ok w→-9223372036854775808≤n→n≤9223372036854775807→Calls P f #[.int .i64 n] w fun e w'=>e=.returned (.string ⟨(Go.Lib.itoa n).toArray⟩)∧Below w.heap.size w w'){n:Int}{r:qd}(h:zR n=some r):zH P f [I n] (.c (.v (.string r))) []:=by
 unfold zR at h;split at h
 ·rename_i hn;injection h with h;subst h;refine zXI fun ok σ w vs hok hlib hargs=>?_
  cases hargs with
  |cons h1 h2=>cases h2;have:=zZS h1;subst this;exact hc ok w n hlib hn.1 hn.2
 ·cases h
theorem z1K{f:FuncId}{c:qd→List Tr}(hcc:∀v,c v=[.v (.string v)])
  (hc0:∀(A:Option Addr)(c:Nat)(sep:qd)(w:World),Calls P f #[.slice A 0 c,.string sep] w fun e w'=>e=.returned (.string ⟨#[]⟩)∧w'=w)
  (hc:∀(bk o c:Nat)(xs:List qd)(sep:qd)(w:World),(∀(j:Nat) x,xs[j]?=some x→w.cell? ⟨bk,o+j,none⟩=some (.string x))→bk<w.heap.size→xs.length≤140737488355328→xs.length≤c→(Go.Lib.join (xs.map (·.data.toList)) sep.data.toList).length≤140737488355328→
   Calls P f #[.slice (some ⟨bk,o,none⟩) xs.length c,.string sep] w fun e w'=>e=.returned (.string ⟨(Go.Lib.join (xs.map (·.data.toList)) sep.data.toList).toArray⟩)∧Below w.heap.size w w')
  {xs:List qd} {sep r:qd} (h:zDZ xs sep=some r):zH P f [.c (.sl (xs.map c)),.c (.v (.string sep))] (.c (.v (.string r))) []:=by
 unfold zDZ at h;split at h
 ·rename_i hn;injection h with h;subst h;refine zXI fun ok σ w vs hok hlib hargs=>?_
  cases hargs with
  |cons h1 h2=>
   cases h2 with
   |cons h3 h4=>
    cases h4;have:=zHA h3;subst this;rename_i v;have h1:Rd ok w (.sl (xs.map c)) v:=h1;generalize hT:Tr.sl (xs.map c)=T at h1;cases h1 with
    |v y hy=>cases hT
    |mp b es clock hb hm=>cases hT
    |nl A cap=>
     injection hT with hT;have e1:xs=[]:=by simpa using hT
     subst e1;refine (hc0 A cap sep w).mono ?_
     rintro e w' ⟨rfl,rfl⟩;exact⟨rfl,Below.refl _ _⟩
    |sl g off n cap sz els f hn1 hcap hok1 hs hcell hrr=>
     injection hT with hT;subst hT;subst hn1;rw[List.length_map];refine hc g off cap xs sep w (fun j x hj=>?_) (hok g hok1) hn.1 (by simpa using hcap) hn.2;have hce:c x=[.v (.string x)]:=hcc x;have hxl:j<xs.length:=by have:=List.getElem?_eq_some_iff.1 hj;exact this.1
     have hs1:sz=1:=by have:=hs (c x) (List.mem_map.2 ⟨x,List.mem_of_getElem? hj,rfl⟩);rw[hce]at this;simpa using this.symm
     have hat:at2 (xs.map c) j 0=some (.v (.string x)):=by unfold at2;rw[List.getElem?_map,hj];simp[hce]
     have h5:=hcell j 0 _ hat;have h6:=hrr j 0 _ hat;rw[hs1]at h5;rw[Nat.mul_one,Nat.add_zero]at h5;rw[h5];generalize f j 0=u at h6;cases h6;rfl
 ·cases h
end
section
variable {P:Program}
end
section
variable {P:Program}
def bt:Nat→List AV→List AV
 |0,l=>l
 |n+1,l=>.bot::bt n l
def mb:Nat→Nat→List Bool
 |0,_=>[]
 |n+1,x=>Nat.beq (Nat.mod x 2) 1::mb n (Nat.div x 2)
theorem L0{ops:Array Oper}{o:Oper}{rest:List Oper}{s:St}{av:AV}{d:Nat}{J:St→Prop}(hg:o.guard=none)(hd:o.dst=some d)(h:Y0 P o s av)(hk:XL P ops rest (s.put d av) J):XL P ops (o::rest) s J:=zB2 hg (zAn hd h) hk
theorem L1{ops:Array Oper}{o:Oper}{rest:List Oper}{s:St}{av:AV}{ne:List (Nat×Ent)}{d:Nat}{J:St→Prop}(hg:o.guard=none)(hd:o.dst=some d)(h:Y1 P o s av ne)(hk:XL P ops rest (s.upd d av ne) J):XL P ops (o::rest) s J:=zB2 hg (zE1 hd h) hk
def VR(P:Program)(c:Code):Nat→St→(Exit→St→Prop)→Prop
 |0,_,_=>False
 |n+1,s,J=>V P c s (zOh (fun s'=>VR P c n s' J) J)
theorem VR_s{c:Code}{n:Nat}{s:St}{J:Exit→St→Prop}(h:V P c s (zOh (fun s'=>VR P c n s' J) J)):VR P c (n+1) s J:=h
theorem zF3{c:Code}{s:St}{J:Exit→St→Prop}(n:Nat)(h:VR P c n s J):V P (.loop c) s J:=by
 intro B w0 ok0 ok σ a w hR;refine wp_loop_rounds n ?_
 revert h
 induction n generalizing s ok σ a w with
 |zero=>intro h;exact h.elim
 |succ n ih=>
  intro h;refine wp_mono (h _ _ _ _ _ _ _ hR) ?_
  rintro e a' w' ⟨s',ok',σ',hJ,hR'⟩;cases e with
  |normal=>exact ih _ _ _ _ hR' hJ
  |exit id=>exact⟨s',ok',σ',hJ,hR'⟩
  |goto l=>exact⟨s',ok',σ',hJ,hR'⟩
  |ret=>exact⟨s',ok',σ',hJ,hR'⟩
  |panic ch=>exact⟨s',ok',σ',hJ,hR'⟩
  |outgrown=>exact⟨s',ok',σ',hJ,hR'⟩
theorem z9h{o:Oper}{s:St}{t e:TypeId}{x ix:Operand}{k:IntKind}{N sz:Nat}{n:Int}(av:AV)(hu:P.underlying t=some (.array N e))(hsz:(P.info? e).map (·.size)=some sz)(ho:o.op=.indexAddr t x ix)(hi:s.ev ix=.c (.v (.int k n)))
  (hn:(decide (0≤n)&&decide (n<N))=true) (hx:(s.ev x).adv (n.toNat*sz)=av) (hb:av≠.bot):Y0 P o s av:=
 qI fun ok σ a w hC=>by
  subst hx;obtain⟨g,off,h1,h2⟩:=zY9 (n.toNat*sz) (hC.ev x) hb;refine⟨_,?_,h2⟩;simp only[zh,decide_eq_true_eq]at hn;have h3:=hC.exact hi;cases hii:P.info? e with
  |none=>rw[hii]at hsz;simp at hsz
  |some i=>
   have h5:i.size=sz:=by rw[hii]at hsz;simpa using hsz
   unfold execOp;rw[ho];simp[h1,h3,Instr.indexAt,asIntOf,run_underlying hu,Instr.sureAddr,sizeOf,typeInfo,hii,h5,hn.1,hn.2,zCm]
theorem zBJ{α:Type}{c:α→List Tr}{xs:List α}{v:α}{d:Tr}{o:Oper}{s:St}{t e:TypeId}{x ix:Operand}{k:IntKind}{N:Nat}{n:Int}(hu:P.underlying t=some (.array N e))(hs:zQR P e)(hsz:(P.info? e).map (·.size)=some 1)(ho:o.op=.index t x ix)(hi:s.ev ix=.c (.v (.int k n)))
  (hx:s.ev x=.ag (xs.map c).flatten) (hl:xs.length=N) (hc:∀v,(c v).length=1) (hv:getI xs n=some v) (hd:c v=[d]):Y0 P o s (.c d):=
 qI fun ok σ a w hC=>by
  have h1:=hC.ev x;rw[hx]at h1;obtain⟨vs,h2,h3⟩:=(h1:Rel1 ok σ w (.ag (xs.map c).flatten) (a.eval x))
  have h4:=hC.exact hi;obtain⟨g1,g2⟩:=zFm hv;have hfl:∀(l:List α)(j:Nat)(u:α),l[j]?=some u→(l.map c).flatten[j]?=(c u)[0]?:=by
   intro l
   induction l with
   |nil=>intro j u h;simp at h
   |cons y l ih=>
    intro j u h;obtain⟨d',hd'⟩:∃d',c y=[d']:=by
     have:=hc y
     match hcy:c y with
     |[]=>rw[hcy]at this;cases this
     |[d']=>exact⟨d',rfl⟩
     |_::_::_=>rw[hcy]at this;simp at this
    rw[List.map_cons,List.flatten_cons,hd'];cases j with
    |zero=>simp at h;subst h;simp[hd']
    |succ j=>simpa using ih j u (by simpa using h)
  have h5:=hfl xs n.toNat v g2;rw[hd]at h5;obtain⟨y,h6,h7⟩:=h3.get n.toNat d (by simpa using h5);have hlt:n<(N:Int):=by have:=(List.getElem?_eq_some_iff.1 g2).1;omega
  refine⟨y,?_,h7⟩;obtain⟨dd,hd1,hd2⟩:=hs;cases hii:P.info? e with
  |none=>rw[hii]at hsz;simp at hsz
  |some i=>
   have h8:i.size=1:=by rw[hii]at hsz;simpa using hsz
   have h9:vs[n.toNat]?=some y:=by simpa using h6
   unfold execOp;rw[ho];simp[h2,h4,Instr.index,asIntOf,run_underlying hu,part,zQ3 hd1,hd2,sizeOf,typeInfo,hii,h8,g1,hlt,h9]
theorem zFN{α:Type}{c:α→List Tr}{xs:List α}{o:Oper}{s:St}{t e:TypeId}{N sz:Nat}{x:Operand}(hu:P.underlying t=some (.array N e))(hsz:(P.info? e).map (·.size)=some sz)(hc:∀v,(c v).length=sz)(hN:0<N)(hl:xs.length=N)(ho:o.op=.slice t x none none none)
  (hx:s.ev x=.pe (xs.map c).flatten):Y0 P o s (.c (.sl (xs.map c))):=
 qI fun ok σ a w hC=>by
  have h1:=hC.ev x;rw[hx]at h1;obtain⟨g,off,hok,hy,hcell⟩:=(h1:Rel1 ok σ w (.pe (xs.map c).flatten) (a.eval x))
  have hels:∀el,el∈xs.map c→el.length=sz:=fun el hel=>by obtain⟨v,_,rfl⟩:=List.mem_map.1 hel;exact hc v
  refine⟨.slice (some ⟨g,off,none⟩) N N,?_,Rd.sl g off N N sz (xs.map c) (fun i j=>(w.cell? ⟨g,off+(i*sz+j),none⟩).getD undef) (by simp[hl]) (Nat.le_refl _) hok hels (fun i j d hd=>?_) (fun i j d hd=>?_)⟩
  ·cases hii:P.info? e with
   |none=>rw[hii]at hsz;simp at hsz
   |some i=>
    have hN0:¬N=0:=by omega
    unfold execOp;rw[ho];simp[hy,Instr.sliceAt,Instr.sliceBounds,run_underlying hu,Instr.sureAddr,sizeOf,typeInfo,hii,hN0,zCm]
  ·unfold at2 at hd;obtain⟨el,he,hj⟩:=Option.bind_eq_some_iff.1 hd;obtain⟨u,hu2,_⟩:=hcell _ d (zKy _ sz i j el d hels he hj);rw[hu2];rfl
  ·unfold at2 at hd;obtain⟨el,he,hj⟩:=Option.bind_eq_some_iff.1 hd;obtain⟨u,hu2,hr⟩:=hcell _ d (zKy _ sz i j el d hels he hj);rw[hu2];exact hr
theorem z23{α:Type}{c:α→List Tr}{xs ys:List α}{o:Oper}{s:St}{t e:TypeId}{N sz:Nat}{x:Operand}(hu:P.underlying t=some (.array N e))(hN:0<N)(hc:∀v,(c v).length=sz)(ho:o.op=.sliceToArrayPointer t x)
  (hx:s.ev x=.c (.sl (xs.map c))) (ht:xs.take N=ys) (hl:ys.length=N):Y0 P o s (.pe (ys.map c).flatten):=
 qI fun ok σ a w hC=>by
  subst ht;have hNx:N≤xs.length:=by rw[List.length_take]at hl;omega
  have h1:=hC.ev x;rw[hx]at h1;have h2:Rd ok w (.sl (xs.map c)) (a.eval x):=h1;generalize hv:a.eval x=v at h2;generalize hT:Tr.sl (xs.map c)=T at h2;cases h2 with
  |v y hy=>cases hT
  |mp b es clock hb hm=>cases hT
  |nl A cap=>
   injection hT with hT;have:xs=[]:=by simpa using hT
   subst this;simp at hNx;omega
  |sl g off n cap sz' els f hn hcap hok hs hcell hr=>
   injection hT with hT;subst hT;have hne:xs≠[]:=fun h=>by subst h;simp at hNx;omega
   obtain⟨x0,hx0⟩:=List.exists_mem_of_ne_nil xs hne;have e1:sz'=sz:=by have:=hs (c x0) (List.mem_map.2 ⟨x0,hx0,rfl⟩);rw[hc]at this;exact this.symm
   subst e1;refine⟨.pointer (some ⟨g,off,none⟩),?_,⟨g,off,hok,rfl,fun j d hj=>?_⟩⟩
   ·have hlt:¬n<N:=by rw[hn,List.length_map];omega
    unfold execOp;rw[ho];simp[hv,Instr.arrayAt,run_underlying hu,hlt]
   ·have hels:∀el,el∈(xs.take N).map c→el.length=sz':=fun el hel=>by
     obtain⟨v,_,rfl⟩:=List.mem_map.1 hel;exact hc v
    have hat:=zKx ((xs.take N).map c) sz' j d hels hj;have hat2:at2 (xs.map c) (j / sz') (j % sz')=some d:=by
     unfold at2 at hat ⊢;obtain⟨el,he,hj2⟩:=Option.bind_eq_some_iff.1 hat;rw[List.map_take,List.getElem?_take]at he;split at he
     ·rw[he];exact hj2
     ·cases he
    have h3:=hcell _ _ d hat2;have h4:=hr _ _ d hat2;have e2:j / sz'*sz'+j % sz'=j:=by rw[Nat.mul_comm];exact Nat.div_add_mod j sz'
    rw[e2]at h3;exact⟨_,h3,h4⟩
theorem z3k{α:Type}{xs:List α}{n:Nat}:(xs.drop n).take 0=[]:=rfl
theorem zIj{α:Type}{xs ys:List α}{a:α}{i:Int}(n m:Nat)(h:getI xs i=some a)(hi:i.toNat=n)(k:(xs.drop (n+1)).take m=ys):(xs.drop n).take (m+1)=a::ys:=by obtain⟨_,h2⟩:=zFm h;rw[hi]at h2;obtain⟨h3,h4⟩:=List.getElem?_eq_some_iff.1 h2;rw[List.drop_eq_getElem_cons h3,List.take_succ_cons,k,h4]
end
theorem kk{p:Prop}(h:p:=by kernel_rfl):p:=h
section
variable (P:Program)
def nbA:AV→Option AV
 | .bot=>none
 |av=>some av
def xbin(op:BinOp):AV→AV→Option AV
 | .c (.v (.int .i64 a)),.c (.v (.int .i64 b))=>match op with
  | .add=>some (I (w64 (a+b)))
  | .sub=>some (I (w64 (a - b)))
  | .mul=>some (I (w64 (a*b)))
  | .lss=>some (Bo (ltI a b))
  | .leq=>some (Bo (leI a b))
  | .gtr=>some (Bo (ltI b a))
  | .geq=>some (Bo (leI b a))
  | .eql=>some (Bo (eqI a b))
  | .neq=>some (Bo (!eqI a b))
  |_=>none
 |_,_=>none
def xun(op:UnOp):AV→Option AV
 | .c (.v (.int .i64 a))=>match op with
  | .neg=>some (I (w64 (0 - a)))
  |_=>none
 | .c (.v (.bool b))=>match op with
  | .not=>some (.c (.v (.bool (!b))))
  |_=>none
 |_=>none
def zGX(t:TypeId):Option Nat:=(P.info? t).map (·.size)
def xv(s:St):Op→Option AV
 | .move x=>some (s.ev x)
 | .assign x=>some (s.ev x)
 | .extract x n=>match s.ev x with
  | .tc y r=>nbA ((AV.tc y r).nth n)
  |_=>none
 | .fieldAddr t x f=>match P.underlying t with
  |some (.struct fields)=>match fields[f]? with
   |some fd=>match zGX P fd.type with
    |some (_+1)=>nbA ((s.ev x).adv fd.offset)
    |_=>none
   |none=>none
  |_=>none
 | .load t x=>match P.underlying t with
  |some d=>bif aggD d then (match zGX P t,zBi s (s.ev x) with
    |some n,some cs=>bif Nat.ble n cs.length then some (.ag (cs.take n)) else none
    |_,_=>none)
   else (match zBi s (s.ev x) with
    |some (c::_)=>some (.c c)
    |_=>none)
  |none=>none
 | .indexAddr t x ix=>match P.underlying t with
  |some (.array N e)=>match zGX P e,s.ev ix with
   |some sz,.c (.v (.int _ n))=>bif (decide (0≤n)&&decide (n<N)) then nbA ((s.ev x).adv (n.toNat*sz)) else none
   |_,_=>none
  |_=>none
 | .binOp op _ x y _=>xbin op (s.ev x) (s.ev y)
 | .unOp op _ x=>xun op (s.ev x)
 |_=>none
def xn(s:St):Op→Option (AV×List (Nat×Ent))
 | .alloc e=>match (P.info? e).bind (·.zero) with
  |some z=>bif zEc z.cells then some (.pt 0 0,[(0,.box (z.cells.toList.map Tr.v))]) else none
  |none=>none
 | .box _ x=>match zDa (s.ev x) with
  |some cs=>some (.pt 0 0,[(0,.box cs)])
  |none=>none
 |_=>none
def xs(s:St):Op→Option St
 | .store t x y=>match s.ev x,zDa (s.ev y) with
  | .pt id off,some vc=>match s.ent id with
   |some (.box cs)=>bif (zGX P t==some vc.length)&&Nat.ble (off+vc.length) cs.length then some ⟨s.T,setE id (.box (splice cs off vc)) s.E⟩ else none
   |some (.pbox l cs)=>bif (zGX P t==some vc.length)&&Nat.ble (off+vc.length) cs.length then some ⟨s.T,setE id (.pbox l (splice cs off vc)) s.E⟩ else none
   |_=>none
  |_,_=>none
 |_=>none
def xo(o:Oper)(s:St):Option St:=match o.dst with
 |some d=>match xv P s o.op with
  |some av=>some (s.put d av)
  |none=>match xn P s o.op with
   |some r=>some (s.upd d r.1 r.2)
   |none=>none
 |none=>xs P s o.op
def xr:List Oper→St→Option St
 |[],s=>some s
 |o::os,s=>match o.guard with
  |none=>match xo P o s with
   |some s'=>xr os s'
   |none=>none
  |some _=>none
def rD(l:List Oper)(s:St):St:=(xr P l s).getD s
end
section
variable {P:Program}
theorem zYA{a b:AV}(h:nbA a=some b):a=b∧b≠.bot:=by
 cases a<;>simp only[nbA]at h<;>first|(cases h;done)|(cases h;exact⟨rfl,fun h=>by cases h⟩)
theorem z6K{o:Oper}{s:St}{op:BinOp}{t t2:TypeId}{x y:Operand}{av:AV}(ho:o.op=.binOp op t x y t2)(h:xbin op (s.ev x) (s.ev y)=some av):Y0 P o s av:=by
 generalize hx:s.ev x=a at h;generalize hy:s.ev y=b at h;unfold xbin at h;split at h
 ·cases op<;>simp only[Option.some.injEq,reduceCtorEq]at h<;>subst h
  ·exact z5r ho hx hy
  ·exact z57 ho hx hy
  ·exact z5c ho hx hy
  all_goals first|exact zRM ho hx hy|exact z59 ho hx hy|exact z5f ho hx hy|exact z5i ho hx hy|exact z5l ho hx hy|exact z5m ho hx hy
 ·cases h
theorem z8Q{o:Oper}{s:St}{op:UnOp}{t:TypeId}{x:Operand}{av:AV}(ho:o.op=.unOp op t x)(h:xun op (s.ev x)=some av):Y0 P o s av:=by
 generalize hx:s.ev x=a at h;unfold xun at h;split at h
 ·cases op<;>simp only[Option.some.injEq,reduceCtorEq]at h;subst h;exact z5a ho hx
 ·cases op<;>simp only[Option.some.injEq,reduceCtorEq]at h;subst h;exact z9Y ho hx
 ·cases h
theorem z1P{o:Oper}{s:St}{av:AV}(h:xv P s o.op=some av):Y0 P o s av:=by
 unfold xv at h;split at h
 ·cases h;rename_i ho;exact z7P ho
 ·cases h;rename_i ho;exact zXE ho
 ·rename_i ho;split at h
  ·rename_i hx;obtain⟨h1,h2⟩:=zYA h;exact E_ext _ _ _ ho hx h1 h2
  ·cases h
 ·rename_i ho;split at h
  ·rename_i hu;split at h
   ·rename_i hf;split at h
    ·rename_i hs;obtain⟨h1,h2⟩:=zYA h;exact zSt _ hu hf hs ho h1 h2
    ·cases h
   ·cases h
  ·cases h
 ·rename_i ho;split at h
  ·rename_i d hu;cases ha:aggD d with
   |true=>
    rw[ha,za]at h;split at h
    ·rename_i n cs hn hm;cases hb:Nat.ble n cs.length with
     |true=>rw[hb,za]at h;cases h;exact z7k _ ⟨⟨d,hu,ha⟩,hn⟩ ho hm (Nat.le_of_ble_eq_true hb) rfl
     |false=>rw[hb,cond_false]at h;cases h
    ·cases h
   |false=>
    rw[ha,cond_false]at h;split at h
    ·rename_i c cs hm;cases h;exact zMd ⟨d,hu,ha⟩ ho hm
    ·cases h
  ·cases h
 ·rename_i ho;split at h
  ·rename_i N e hu;split at h
   ·rename_i sz k n hs hi;cases hb:(decide (0≤n)&&decide (n<(N:Int))) with
    |true=>rw[hb,za]at h;obtain⟨h1,h2⟩:=zYA h;exact z9h _ hu hs ho hi hb h1 h2
    |false=>rw[hb,cond_false]at h;cases h
   ·cases h
  ·cases h
 ·rename_i ho;exact z6K ho h
 ·rename_i ho;exact z8Q ho h
 ·cases h
theorem z39{o:Oper}{s:St}{r:AV×List (Nat×Ent)}(h:xn P s o.op=some r):Y1 P o s r.1 r.2:=by
 unfold xn at h;split at h
 ·rename_i e ho;split at h
  ·rename_i z hz;cases hc:zEc z.cells with
   |true=>rw[hc,za]at h;cases h;exact z55 ho hz hc
   |false=>rw[hc,cond_false]at h;cases h
  ·cases h
 ·rename_i e x ho;split at h
  ·rename_i cs hx;cases h;exact z9U ho hx
  ·cases h
 ·cases h
theorem xs_ok{o:Oper}{s s':St}(hd:o.dst=none)(h:xs P s o.op=some s'):X P o s s':=by
 unfold xs at h;split at h
 ·rename_i t x y ho;split at h
  ·rename_i id off vc hx hy;split at h
   ·rename_i cs he;cases hb:(zGX P t==some vc.length)&&Nat.ble (off+vc.length) cs.length with
    |true=>rw[hb,za]at h;cases h;rw[zh,beq_iff_eq]at hb;exact z7j _ ho hd hx he hy hb.1 (Nat.le_of_ble_eq_true hb.2) rfl
    |false=>rw[hb,cond_false]at h;cases h
   ·rename_i l cs he;cases hb:(zGX P t==some vc.length)&&Nat.ble (off+vc.length) cs.length with
    |true=>rw[hb,za]at h;cases h;rw[zh,beq_iff_eq]at hb;exact z6G _ ho hd hx he hy hb.1 (Nat.le_of_ble_eq_true hb.2) rfl
    |false=>rw[hb,cond_false]at h;cases h
   ·cases h
  ·cases h
 ·cases h
theorem z7o{o:Oper}{s s':St}(h:xo P o s=some s'):X P o s s':=by
 unfold xo at h;split at h
 ·rename_i d hd;split at h
  ·rename_i av hv;cases h;exact zAn hd (z1P hv)
  ·split at h
   ·rename_i r hn;cases h;exact zE1 hd (z39 hn)
   ·cases h
 ·rename_i hd;exact xs_ok hd h
theorem z38{ops:Array Oper}{J:St→Prop}(rest:List Oper):∀(l:List Oper)(s s':St),xr P l s=some s'→XL P ops rest s' J→XL P ops (l++rest) s J
 |[],s,s',h,hk=>by cases h;exact hk
 |o::os,s,s',h,hk=>by
  unfold xr at h;split at h
  ·rename_i hg;split at h
   ·rename_i s1 h1;exact zB2 hg (z7o h1) (z38 rest os s1 s' h hk)
   ·cases h
  ·cases h
theorem XR(n:Nat){ops:Array Oper}{rest:List Oper}{s:St}{J:St→Prop}(hk:XL P ops (rest.drop n) (rD P (rest.take n) s) J)(h:(xr P (rest.take n) s).isSome=true:=by kernel_rfl):XL P ops rest s J:=by
 cases hx:xr P (rest.take n) s with
 |none=>rw[hx]at h;cases h
 |some s'=>
  have e:rD P (rest.take n) s=s':=by unfold rD;rw[hx];rfl
  rw[e]at hk;have:=z38 (ops:=ops) (J:=J) (rest.drop n) (rest.take n) s s' hx hk
  rwa [List.take_append_drop]at this
theorem XE{ops:Array Oper}{rest:List Oper}{s s1:St}{m:List Bool}{ids:List Nat}(h:(xr P rest s).map (fun s'=>s'.keep m ids)=some s1:=by kernel_rfl):XL P ops rest s (fun s'=>s'.keep m ids=s1):=by
 cases hx:xr P rest s with
 |none=>rw[hx]at h;cases h
 |some s'=>
  rw[hx]at h;have h2:s'.keep m ids=s1:=by injection h
  have:=z38 (ops:=ops) (J:=fun s'=>s'.keep m ids=s1) [] rest s s' hx (qN h2)
  rwa [List.append_nil]at this
theorem V_e{id:Nat}{ops:Array Oper}{y:Code}{s s1:St}{J:Exit→St→Prop}(m:List Bool)(ids:List Nat)(hv:V P y s1 J)(h:(xr P ops.toList s).map (fun s'=>s'.keep m ids)=some s1:=by kernel_rfl):V P (.seq (.region id ops false) y) s J:=zDL m ids (XE h) hv
theorem XC{ops:Array Oper}{o:Oper}{rest:List Oper}{s:St}{J:St→Prop}{d:Nat}{f:FuncId}{xs:Array Operand}{ts:Array TypeId}{args:List AV}{av:AV}{ne:List (Nat×Ent)}(hS:zH P f args av ne)(hc:∀args w,(callFunc f args).run P w=.ok (.enter f args) w)(hg:o.guard=none)(hd:o.dst=some d)
  (ho:o.op=.call {callee:=.value (.func f),args:=xs,argTypes:=ts}) (hk:XL P ops rest (s.upd d av ne) J) (ha:evL s xs.toList=args:=by kernel_rfl):XL P ops (o::rest) s J:=L1 hg hd (zSr hS hc ho ha) hk
def cdr:Nat→Nat→List Cd
 |0,_=>[]
 |k+1,n=>(match Nat.mod n 4 with|0=>Cd.z|1=>Cd.a|_=>Cd.b)::cdr k (Nat.div n 4)
def cdm(k:Nat):List Nat→List (List Cd)
 |[]=>[]
 |n::ns=>cdr k n::cdm k ns
section
variable (P)
def dr2(l:List Oper)(ms:List Nat)(n1:Nat)(css:List (List Cd))(rs:List Res)(S:St):Op→Option (List Res)
 | .store t x y=>match S.ev x,zDa (S.ev y) with
  | .pt id off,some vc=>match S.ent id with
   |some (.box cs)=>bif (zGX P t==some vc.length)&&Nat.ble (off+vc.length) cs.length&&(zPd rs.length id css&&(mkOk ms rs.length id 0 (l.take n1)&&zJR id rs)) then some (rs++[.r2 id (.box (splice cs off vc))]) else none
   |_=>none
  |_,_=>none
 |_=>none
def dr1(l:List Oper)(ms:List Nat)(n1:Nat)(css:List (List Cd))(s0:St)(rs:List Res):Option (List Res):=match l[rs.length]?,css[rs.length]? with
 |some o,some c=>bif Nat.blt rs.length n1 then (match o.guard,o.dst with
  |none,some _=>match xv P (appC c (l.take n1) rs s0) o.op with
   |some av=>bif zG6 ms rs.length av 0 (l.take n1) then some (rs++[.r0 av]) else none
   |none=>match xn P (appC c (l.take n1) rs s0) o.op with
    |some r=>bif zHE r.2&&(makes o&&r.1.small) then some (rs++[.r1 r.1 r.2]) else none
    |none=>none
  |none,none=>dr2 P l ms n1 css rs (appC c (l.take n1) rs s0) o.op
  |_,_=>none) else none
 |_,_=>none
def drN(l:List Oper)(ms:List Nat)(n1:Nat)(css:List (List Cd))(s0:St):Nat→List Res→Option (List Res)
 |0,rs=>some rs
 |k+1,rs=>match dr1 P l ms n1 css s0 rs with
  |some rs'=>drN l ms n1 css s0 k rs'
  |none=>none
end
theorem z9H{l:List Oper}{ms:List Nat}{n1:Nat}{css:List (List Cd)}{s0:St}{rs rs':List Res}{K:St→Prop}(h:dr1 P l ms n1 css s0 rs=some rs')(hk:DL P l ms n1 css s0 rs' K):DL P l ms n1 css s0 rs K:=by
 unfold dr1 at h;split at h
 ·rename_i o c ho hc;cases hb:Nat.blt rs.length n1 with
  |false=>rw[hb,cond_false]at h;cases h
  |true=>
   rw[hb,za]at h;split at h
   ·rename_i d hg hd;split at h
    ·rename_i av hv;cases hm:zG6 ms rs.length av 0 (l.take n1) with
     |false=>rw[hm,cond_false]at h;cases h
     |true=>rw[hm,za]at h;cases h;exact DE_0 rs.length av rfl hb ho hc (zL hg) hm (z1P hv) d hd hk
    ·split at h
     ·rename_i r hr;cases hm:zHE r.2&&(makes o&&r.1.small) with
      |false=>rw[hm,cond_false]at h;cases h
      |true=>rw[hm,za]at h;cases h;rw[zh,zh]at hm;exact DE_1 rs.length rfl hb ho hc (zL hg) (z39 hr) hm.1 hm.2.1 hm.2.2 d hd hk
     ·cases h
   ·rename_i hg hd;unfold dr2 at h;split at h
    ·rename_i t x y hop;split at h
     ·rename_i id off vc hx hy;split at h
      ·rename_i cs he;cases hm:(zGX P t==some vc.length)&&Nat.ble (off+vc.length) cs.length&&(zPd rs.length id css&&(mkOk ms rs.length id 0 (l.take n1)&&zJR id rs)) with
       |false=>rw[hm,cond_false]at h;cases h
       |true=>rw[hm,za]at h;cases h;rw[zh,zh,zh,zh,beq_iff_eq]at hm;exact DE_2 rs.length id _ rfl hb ho hc (zL hg) hop hd hx he hy hm.1.1 (Nat.le_of_ble_eq_true hm.1.2) rfl hm.2.1 hm.2.2.1 hm.2.2.2 hk
      ·cases h
     ·cases h
    ·cases h
   ·cases h
 ·cases h
theorem z0y{l:List Oper}{ms:List Nat}{n1:Nat}{css:List (List Cd)}{s0:St}{K:St→Prop}:∀(k:Nat)(rs rs':List Res),drN P l ms n1 css s0 k rs=some rs'→DL P l ms n1 css s0 rs' K→DL P l ms n1 css s0 rs K
 |0,rs,rs',h,hk=>by cases h;exact hk
 |k+1,rs,rs',h,hk=>by
  unfold drN at h;split at h
  ·rename_i r1 h1;exact z9H h1 (z0y k r1 rs' h hk)
  ·cases h
theorem DR(k:Nat){l:List Oper}{ms:List Nat}{n1:Nat}{css:List (List Cd)}{s0:St}{rs:List Res}{K:St→Prop}(hk:DL P l ms n1 css s0 ((drN P l ms n1 css s0 k rs).getD rs) K)(h:(drN P l ms n1 css s0 k rs).isSome=true:=by kernel_rfl):DL P l ms n1 css s0 rs K:=by
 cases hx:drN P l ms n1 css s0 k rs with
 |none=>rw[hx]at h;cases h
 |some r=>rw[hx]at hk;exact z0y k rs r hx hk
theorem DA{l:List Oper}{ms:List Nat}{n1:Nat}{css:List (List Cd)}{s0:St}{rs:List Res}{K:St→Prop}(k:Nat)(hk:K (fin (l.take n1) ((drN P l ms n1 css s0 k rs).getD rs) s0))(h:(drN P l ms n1 css s0 k rs).map List.length=some n1:=by kernel_rfl):DL P l ms n1 css s0 rs K:=by
 cases hx:drN P l ms n1 css s0 k rs with
 |none=>rw[hx]at h;cases h
 |some r=>rw[hx]at hk h;exact z0y k rs r hx (z1J (by injection h) hk)
end
section
variable {P:Program}
theorem z7X{o:Oper}{s:St}{x:Operand}{t t2:TypeId}{ms:Array (String×TypeId)}{b:Bool}(hu:P.underlying t=some (.interface ms))(ho:o.op=.binOp .neq t x (.const .nilIface) t2)(hx:s.ev x=.er b):Y0 P o s (Bo (!b)):=
 qI fun ok σ a w hC=>by
  have h1:=hC.ev x;rw[hx]at h1;have h2:(b=true∧a.eval x=.nilIface)∨(b=false∧∃t v,a.eval x=.iface t v):=h1;refine⟨.bool (!b),?_,zMu _ _ _⟩;unfold execOp;rw[ho];have e1:∀w,(eqGuard .neq t x (.const .nilIface) (a.eval x) .nilIface).run P w=.ok () w:=fun w=>by rcases h2 with⟨_,h3⟩|⟨_,tx,v,h3⟩<;>rw[h3]<;>simp[eqGuard]
  have e2:∀d:Nat,(Op.equalIn (d+1) t (a.eval x) .nilIface).run P w=.ok b w:=fun d=>by rcases h2 with⟨h4,h3⟩|⟨h4,tx,v,h3⟩<;>rw[h3,h4]<;>simp[Op.equalIn,run_underlying hu]
  have e3:(binOp .neq t (a.eval x) .nilIface).run P w=.ok (.bool (!b)) w:=by have e4:=e2 9999;rcases h2 with⟨h4,h3⟩|⟨h4,tx,v,h3⟩<;>rw[h3]at e4 ⊢<;>simp only[binOp]<;>simp[Op.equal,Op.maxDepth,e4]
  have e5:a.eval (.const .nilIface)=.nilIface:=rfl;simp only[e5,Sem.run_bind,e1,e3,Result.andThen_ok,Sem.run_pure]
theorem z7Y{o:Oper}{s:St}{x:Operand}{t t2:TypeId}{ms:Array (String×TypeId)}{b:Bool}(hu:P.underlying t=some (.interface ms))(ho:o.op=.binOp .eql t x (.const .nilIface) t2)(hx:s.ev x=.er b):Y0 P o s (Bo b):=
 qI fun ok σ a w hC=>by
  have h1:=hC.ev x;rw[hx]at h1;have h2:(b=true∧a.eval x=.nilIface)∨(b=false∧∃t v,a.eval x=.iface t v):=h1;refine⟨.bool b,?_,zMu _ _ _⟩;unfold execOp;rw[ho];have e1:∀w,(eqGuard .eql t x (.const .nilIface) (a.eval x) .nilIface).run P w=.ok () w:=fun w=>by rcases h2 with⟨_,h3⟩|⟨_,tx,v,h3⟩<;>rw[h3]<;>simp[eqGuard]
  have e2:∀d:Nat,(Op.equalIn (d+1) t (a.eval x) .nilIface).run P w=.ok b w:=fun d=>by rcases h2 with⟨h4,h3⟩|⟨h4,tx,v,h3⟩<;>rw[h3,h4]<;>simp[Op.equalIn,run_underlying hu]
  have e3:(binOp .eql t (a.eval x) .nilIface).run P w=.ok (.bool b) w:=by have e4:=e2 9999;rcases h2 with⟨h4,h3⟩|⟨h4,tx,v,h3⟩<;>rw[h3]at e4 ⊢<;>simp only[binOp]<;>simp[Op.equal,Op.maxDepth,e4]
  have e5:a.eval (.const .nilIface)=.nilIface:=rfl;simp only[e5,Sem.run_bind,e1,e3,Result.andThen_ok,Sem.run_pure]
theorem zZr{c:qd→List Tr}(hcc:∀v,c v=[.v (.string v)]):∀(xs:List qd),(xs.map c).flatten=xs.map fun x=>Tr.v (.string x)
 |[]=>rfl
 |x::xs=>by simp[hcc,zZr hcc xs]
theorem z1f{ok:Nat→Prop}{w:World}:∀(xs:List qd),RdL ok w (xs.map fun x=>Tr.v (.string x)) (xs.map Value.string)
 |[]=>.nil
 |x::xs=>.cons (Rd.v _ rfl) (z1f xs)
theorem zXJ{f:FuncId}{args:List AV}{T:TypeId}{c:qd→List Tr}(hcc:∀v,c v=[.v (.string v)]){xs:List qd}
  (h:∀ok σ w vs,(∀g,ok g→g<w.heap.size)→Lb ok w→RelA ok σ w args vs→Calls P f vs.toArray w fun e w'=>∃A cap,e=.returned (.slice (some ⟨A,0,none⟩) xs.length cap)∧w.heap.size≤A∧
   w'.ownsRow w.heap.size T 1 (.slice (some ⟨A,0,none⟩) xs.length cap) xs.length (xs.map Value.string)∧Below w.heap.size w w'):zH P f args (.ow 0) [(0,.arr T 1 (xs.map c))]:=by
 intro ok σ w vs hok hlib hargs;refine (h ok σ w vs hok hlib hargs).mono ?_
 rintro e w' ⟨A,cap,rfl,hA,hown,hb⟩;refine⟨_,ok,fun _=>⟨some A,xs.length,cap⟩,rfl,⟨hb,fun _ h=>h,fun _ h=>.inl h,fun g hg=>Nat.lt_of_lt_of_le (hok g hg) hb.size,rfl,?_,?_,?_,?_,?_,?_⟩⟩
 ·intro id e he;obtain⟨rfl,_⟩:=zAR _ _ _ _ he;decide
 ·intro e he;simp only[AV.ment];cases h:(0 / 8==e) with
  |false=>rfl
  |true=>exact absurd (by simpa using h:0=e).symm he
 ·intro id e he;obtain⟨rfl,rfl⟩:=zAR _ _ _ _ he;refine⟨by decide,(List.length_map ..).symm,fun el hel=>?_,xs.map Value.string,?_,?_⟩
  ·obtain⟨x,_,rfl⟩:=List.mem_map.1 hel;rw[hcc];rfl
  ·refine⟨by simp,?_⟩;rcases hown.2 with⟨h1,_⟩|⟨g,cap2,cur,h1,h2,h3,h4,h5,h6,h7⟩
   ·cases h1
   ·refine .inr ⟨g,cap2,cur,?_,Nat.zero_le _,h3,by simpa using h4,h5,h6,by simpa using h7⟩;rw[List.length_map];exact h1
  ·rw[zZr hcc];exact z1f xs
 ·intro id e g he hg;obtain⟨rfl,rfl⟩:=zAR _ _ _ _ he;have hg2:some A=some g:=hg;injection hg2 with hg2;subst hg2;refine⟨hA,fun h=>?_,?_⟩
  ·have:=hok _ h;omega
  ·rcases hown.2 with⟨h1,_⟩|⟨g,cap2,cur,h1,h2,h3,h4,h5,h6,h7⟩
   ·cases h1
   ·injection h1 with h1;injection h1 with h1;injection h1 with h1;subst h1;by_cases hlt:A<w'.heap.size
    ·exact hlt
    ·have:=Array.getElem?_eq_none (xs:=w'.heap) (i:=A) (by omega);rw[this]at h3;cases h3
 ·intro i j e f g hi hj h1 h2;obtain⟨rfl,_⟩:=zAR _ _ _ _ hi;obtain⟨rfl,_⟩:=zAR _ _ _ _ hj;rfl
 ·intro id e he;obtain⟨rfl,rfl⟩:=zAR _ _ _ _ he;rfl
theorem z0N{f:FuncId}{T:TypeId}{c:qd→List Tr}(hcc:∀v,c v=[.v (.string v)])
  (hc:∀ok w (s sep:qd),Lb ok w→s.size<4294967281→1≤sep.size→Calls P f #[.string s,.string sep] w fun e w'=>e=.returned (.slice (some ⟨w.heap.size,0,none⟩) (Go.Lib.countB s sep+1) (Go.Lib.countB s sep+1))∧w'=w.alloc (.cells ((Go.Lib.splitB sep 0 (Go.Lib.countB s sep) s).map Value.string).toArray T))
  {s sep:qd} {r:List qd} (h:zCx s sep=some r):zH P f [.c (.v (.string s)),.c (.v (.string sep))] (.ow 0) [(0,.arr T 1 (r.map c))]:=by
 unfold zCx at h;split at h
 ·rename_i hn;injection h with h;subst h;have hlen:=Go.Lib.splitB_all sep hn.2 0 _ s rfl;refine zXJ hcc fun ok σ w vs hok hlib hargs=>?_
  cases hargs with
  |cons h1 h2=>
   cases h2 with
   |cons h3 h4=>
    cases h4;have:=zHA h1;subst this;have:=zHA h3;subst this;refine (hc ok w s sep hlib hn.1 hn.2).mono ?_
    rintro e w' ⟨rfl,rfl⟩;have hle:=Go.Lib.countB_le sep hn.2 s.size s (Nat.le_refl _);refine⟨w.heap.size,Go.Lib.countB s sep+1,by rw[hlen],Nat.le_refl _,⟨by simp,.inr ⟨w.heap.size,Go.Lib.countB s sep+1,((Go.Lib.splitB sep 0 (Go.Lib.countB s sep) s).map Value.string).toArray,rfl,Nat.le_refl _,?_,by omega,?_,?_,?_⟩⟩,(Below.refl _ _).alloc (Nat.le_refl _) _⟩
    ·exact (MapKept.heap_alloc w _).1
    ·unfold maxLen;omega
    ·simp[hlen]
    ·rw[List.take_of_length_le (by simp)]
 ·cases h
theorem z1M{f:FuncId}(hc:∀ok w (s:qd),Lb ok w→s.size≤281474976710656→∀r,zBK s=some r→Calls P f #[.string s] w fun e w'=>(∃v,e=.returned (.tuple #[.int .i64 r.1,v])∧((r.2=true∧v=.nilIface)∨(r.2=false∧∃t u,v=.iface t u)))∧Below w.heap.size w w')
  {s:qd} {r:Int×Bool} (h:zBK s=some r):zH P f [.c (.v (.string s))] (.tc (I r.1) (.tc (.er r.2) .tn)) []:=by
 have hn:s.size≤281474976710656:=by
  unfold zBK at h;split at h
  ·assumption
  ·cases h
 intro ok σ w vs hok hlib hargs;cases hargs with
 |cons h1 h2=>
  cases h2;have:=zHA h1;subst this;refine (hc ok w s hlib hn r h).mono ?_
  rintro e w' ⟨⟨v,rfl,hv⟩,hb⟩;exact⟨_,ok,σ,rfl,⟨hb,fun _ h=>h,fun _ h=>.inl h,fun g hg=>Nat.lt_of_lt_of_le (hok g hg) hb.size,⟨_,rfl,zIY _ _ _ _,hv,trivial⟩,fun id e h=>by simp at h,fun e he=>rfl,fun id e h=>by simp at h,fun id e g h=>by simp at h,fun i j e f g h=>by simp at h,fun id e h=>by simp at h⟩⟩
end
end Go.Proofs.YtnjhhbcccgbbnaaGreatDoor
namespace Go.Proofs.YtnjhhbcccgbbnaaGreatDoor
def spl(c:UInt8):List UInt8→List (List UInt8)
 |[]=>[[]]
 |b::l=>if b=c then []::spl c l else match spl c l with
  |w::ws=>(b::w)::ws
  |[]=>[[b]]
theorem z8T(c:UInt8):∀l,spl c l≠[]
 |[]=>by simp[spl]
 |b::l=>by
  unfold spl;split
  ·simp
  ·split<;>simp
theorem zX6(c:UInt8)(l:List UInt8):spl c (c::l)=[]::spl c l:=by simp[spl]
theorem zJk{b c:UInt8}(h:b≠c){l w:List UInt8}{ws:List (List UInt8)}(e:spl c l=w::ws):spl c (b::l)=(b::w)::ws:=by simp[spl,h,e]
theorem z49(c:UInt8)(l:List UInt8):Go.Lib.index (c::l) [c]=0:=by simp[Go.Lib.index]
theorem z48{b c:UInt8}(h:b≠c)(l:List UInt8):Go.Lib.index (b::l) [c]=if Go.Lib.index l [c]==-1 then -1 else Go.Lib.index l [c]+1:=by
 have:([c]:List UInt8).isPrefixOf (b::l)=false:=by simp[List.isPrefixOf,Ne.symm h]
 rw[show Go.Lib.index (b::l) [c]=if ([c]:List UInt8).isPrefixOf (b::l)=true then 0 else if Go.Lib.index l [c]==-1 then -1 else Go.Lib.index l [c]+1 from rfl,this];rfl
theorem zTY(c:UInt8):∀(l:List UInt8),Go.Lib.splitK [c] 0 (l.count c) l=spl c l
 |[]=>rfl
 |b::l=>by
  have ih:=zTY c l;by_cases h:b=c
  ·subst h;rw[List.count_cons_self,zX6,←ih,Go.Lib.splitK,z49];rfl
  ·rw[List.count_cons_of_ne (by exact fun e=>h e)];cases hk:l.count c with
   |zero=>rw[hk]at ih;have ih:[l]=spl c l:=ih;rw[zJk h ih.symm];rfl
   |succ k=>
    rw[hk]at ih;rw[Go.Lib.splitK]at ih ⊢;rw[z48 h];cases hi:(Go.Lib.index l [c]==-1) with
    |true=>rw[hi,if_pos rfl]at ih;rw[if_pos (by rfl),zJk h ih.symm]
    |false=>
     rw[hi,if_neg (by decide)]at ih;have hge:=Go.Lib.index_ge l [c];have hne:Go.Lib.index l [c]≠-1:=by rw[zr]at hi;exact hi
     have e1:(if false=true then (-1:Int) else Go.Lib.index l [c]+1)=Go.Lib.index l [c]+1:=rfl;have e2:(Go.Lib.index l [c]+1==-1)=false:=by rw[zr];omega
     have e3:(Go.Lib.index l [c]+1).toNat=(Go.Lib.index l [c]).toNat+1:=by omega
     rw[e1,e2,if_neg (by decide),zJk h ih.symm,e3];rfl
theorem z2o(s:qd)(c:UInt8)(h:s.size<4294967281):zCx s ⟨#[c]⟩=some ((spl c s.data.toList).map bl):=by
 have h1:1≤(⟨#[c]⟩:qd).size:=Nat.le_refl 1;unfold zCx;rw[if_pos ⟨h,h1⟩];have e1:=Go.Lib.splitB_data ⟨#[c]⟩ 0 (Go.Lib.countB s ⟨#[c]⟩) s;have e2:Go.Lib.countB s ⟨#[c]⟩=s.data.toList.count c:=Go.Lib.count_one c _;have e3:(⟨#[c]⟩:qd).data.toList=[c]:=rfl;rw[e2]at e1 ⊢;rw[e3,zTY]at e1;rw[←e1,List.map_map];have:(bl∘fun x:qd=>x.data.toList)=id:=by
  funext x
  rfl
 rw[this,List.map_id]
def fld(p:UInt8→Bool):List UInt8→List UInt8→List (List UInt8)
 |cur,[]=>if cur=[] then [] else [cur]
 |cur,b::l=>if p b=true then (if cur=[] then fld p [] l else cur::fld p [] l) else fld p (cur++[b]) l
theorem z6o{p:UInt8→Bool}{cur:List UInt8}(h:cur≠[]):fld p cur []=[cur]:=by unfold fld;rw[if_neg h]
theorem z2F{p:UInt8→Bool}{cur l:List UInt8}{b:UInt8}(hb:p b=true)(h:cur≠[]):fld p cur (b::l)=cur::fld p [] l:=by rw[fld,if_pos hb,if_neg h]
theorem zUX{p:UInt8→Bool}{l:List UInt8}{b:UInt8}(hb:p b=true):fld p [] (b::l)=fld p [] l:=by rw[fld,if_pos hb,if_pos rfl]
theorem z0p{p:UInt8→Bool}{cur l:List UInt8}{b:UInt8}(hb:p b=false):fld p cur (b::l)=fld p (cur++[b]) l:=by rw[fld,if_neg (by rw[hb];decide)]
theorem z3L{s:qd}{i:Nat}(hi:i<s.size)(h:(s.data.toList[i]'hi).toNat<128):Utf8.decode s i=((s.data.toList[i]'hi).toNat,1):=by
 have e:(s.get! (i+0)).toNat=(s.data.toList[i]'hi).toNat:=by
  have:s.get! (i+0)=s.data.toList[i]'hi:=by show s.data[i+0]! =_;have hi2:i<s.data.size:=hi;rw[Nat.add_zero,getElem!_pos s.data i hi2];rfl
  rw[this]
 unfold Utf8.decode;simp only[e];rw[if_pos h]
def curO(s:qd)(pos:Nat):Option Nat→List UInt8
 |some a=>(s.data.toList.drop a).take (pos - a)
 |none=>[]
theorem z2l{α:Type}{l:List α}{a i:Nat}{x:α}(ha:a≤i)(h:l[i]?=some x):(l.drop a).take (i+1 - a)=(l.drop a).take (i - a)++[x]:=by rw[show i+1 - a=(i - a)+1 by omega,List.take_add_one,List.getElem?_drop,show a+(i - a)=i by omega,h];rfl
theorem z6Q{α:Type}{l:List α}{a i:Nat}(h:a<i)(hi:i≤l.length):(l.drop a).take (i - a)≠[]:=by intro e;have:=congrArg List.length e;simp at this;omega
theorem zYL(s:qd)(a b:Nat):s.extract a b=bl ((s.data.toList.drop a).take (b - a)):=by have h:=Go.Lib.extract_data s a b;have e:∀x:qd,x=bl x.data.toList:=fun x=>rfl;rw[e (s.extract a b),h]
theorem z2G(p:Nat→Bool)(s:qd)(st:Option Nat)(acc:List (Nat×Nat))(hst:∀a,st=some a→a<s.size):
  (Go.Lib.closeSpans s (acc,st)).map (fun x=>s.extract x.1 x.2)=acc.map (fun x=>s.extract x.1 x.2)++(fld (fun b=>p b.toNat) (curO s s.size st) []).map bl:=by
 cases st with
 |none=>simp[Go.Lib.closeSpans,fld,curO]
 |some a=>
  have ha:=hst a rfl;have hne:(s.data.toList.drop a).take (s.size - a)≠[]:=by intro h;have:=congrArg List.length h;simp at this;have e:s.data.size=s.size:=rfl;omega
  simp only[Go.Lib.closeSpans,curO,List.map_append,List.map_cons,zp,zYL];rw[z6o hne];rfl
theorem z3D(p:Nat→Bool)(s:qd)(ha:∀b∈s.data.toList,b.toNat<128):∀(f pos:Nat)(st:Option Nat)(acc:List (Nat×Nat)),s.size≤pos+f→pos≤s.size→(∀a,st=some a→a<pos)→
  (Go.Lib.closeSpans s (Go.Lib.spansFromP p s f pos st acc)).map (fun x=>s.extract x.1 x.2)=acc.map (fun x=>s.extract x.1 x.2)++(fld (fun b=>p b.toNat) (curO s pos st) (s.data.toList.drop pos)).map bl:=by
 intro f;have hsz:s.data.toList.length=s.size:=rfl
 induction f with
 |zero=>
  intro pos st acc hf hp hst;have e:pos=s.size:=by omega
  subst e;rw[List.drop_of_length_le (by omega)];rw[show Go.Lib.spansFromP p s 0 s.size st acc=(acc,st) from rfl];exact z2G p s st acc hst
 |succ f ih=>
  intro pos st acc hf hp hst;by_cases hlt:pos<s.size
  ·have hd:=z3L hlt (ha _ (zt ..));have hdr:s.data.toList.drop pos=s.data.toList[pos]'hlt::s.data.toList.drop (pos+1):=List.drop_eq_getElem_cons hlt;generalize hb:s.data.toList[pos]'hlt=b at hd hdr;have hget:s.data.toList[pos]?=some b:=by rw[←hb];exact zu hlt
   unfold Go.Lib.spansFromP;rw[if_pos hlt,hd,hdr];cases hpb:p b.toNat with
   |true=>
    rw[if_pos rfl];cases st with
    |some a=>have hap:=hst a rfl;have hne:(s.data.toList.drop a).take (pos - a)≠[]:=z6Q hap (by omega);rw[ih (pos+1) none _ (by omega) (by omega) (fun a h=>by cases h)];simp only[curO,List.map_append,List.map_cons,zp,zYL,List.append_assoc,List.singleton_append];rw[z2F (p:=fun b=>p b.toNat) hpb hne];rfl
    |none=>rw[ih (pos+1) none _ (by omega) (by omega) (fun a h=>by cases h)];simp only[curO];rw[zUX (p:=fun b=>p b.toNat) hpb]
   |false=>
    rw[if_neg (by decide)];cases st with
    |some a=>have hap:=hst a rfl;rw[ih (pos+1) (some a) _ (by omega) (by omega) (fun a' h=>by injection h with h;omega)];simp only[curO,z2l (Nat.le_of_lt hap) hget];rw[z0p (p:=fun b=>p b.toNat) hpb]
    |none=>
     rw[ih (pos+1) (some pos) _ (by omega) (by omega) (fun a' h=>by injection h with h;omega)];have e:(s.data.toList.drop pos).take (pos+1 - pos)=[b]:=by rw[hdr,Nat.add_sub_cancel_left];rfl
     simp only[curO,e];rw[z0p (p:=fun b=>p b.toNat) hpb];rfl
  ·have e:pos=s.size:=by omega
   rw[Go.Lib.spansFromP_end _ _ _ _ _ _ hlt];subst e;rw[List.drop_of_length_le (by omega)];exact z2G p s st acc hst
theorem zU0(p:Nat→Bool)(s:qd)(ha:∀b∈s.data.toList,b.toNat<128):Go.Lib.goFieldsP p s=(fld (fun b=>p b.toNat) [] s.data.toList).map bl:=by have h:=z3D p s ha s.size 0 none [] (by omega) (by omega) (fun a h=>by cases h);exact h
end Go.Proofs.YtnjhhbcccgbbnaaGreatDoor
namespace Go.Proofs.YtnjhhbcccgbbnaaGreatDoor
open Go.Lib
def isD(b:UInt8):Bool:=decide (48≤b.toNat)&&decide (b.toNat≤57)
theorem zM0{d:Nat}(h:d<10):(UInt8.ofNat (48+d)).toNat=48+d:=by rw[UInt8.toNat_ofNat'];omega
theorem zNE{u:Nat}(h:u<10):decDigits u=[UInt8.ofNat (48+u)]:=by rw[decDigits,dif_pos h]
theorem zKG{u:Nat}(h:¬u<10):decDigits u=decDigits (u / 10)++[UInt8.ofNat (48+u % 10)]:=by rw[decDigits,dif_neg h]
theorem zSn(Q:Nat→Prop)(h1:∀u,u<10→Q u)(h2:∀u,¬u<10→Q (u / 10)→Q u):∀u,Q u:=by
 intro u
 induction u using Nat.strongRecOn with
 |ind u ih=>
  by_cases h:u<10
  ·exact h1 u h
  ·exact h2 u h (ih _ (by omega))
theorem zPc:∀u,∀b∈decDigits u,isD b=true:=by
 refine zSn _ (fun u h b hb=>?_) fun u h ih b hb=>?_
 ·rw[zNE h,qc]at hb;subst hb;simp only[isD,zM0 h,zh,decide_eq_true_eq];omega
 ·rw[zKG h,zm,qc]at hb;rcases hb with hb|rfl
  ·exact ih b hb
  ·simp only[isD,zM0 (show u % 10<10 by omega),zh,decide_eq_true_eq];omega
theorem zQm(u:Nat):decDigits u≠[]:=by
 by_cases h:u<10
 ·rw[zNE h];simp
 ·rw[zKG h];simp
theorem zRZ:∀(l:List UInt8)(acc n:Nat)(b:UInt8)(d:Nat),decFrom acc l=some n→digitVal b=some d→decFrom acc (l++[b])=some (n*10+d)
 |[],acc,n,b,d,h,hb=>by simp only[decFrom,Option.some.injEq]at h;subst h;simp[decFrom,hb]
 |c::r,acc,n,b,d,h,hb=>by
  simp only[List.cons_append,decFrom]at h ⊢;cases hc:digitVal c with
  |none=>rw[hc]at h;cases h
  |some e=>rw[hc]at h;exact zRZ r _ n b d h hb
theorem z5B{d:Nat}(h:d<10):digitVal (UInt8.ofNat (48+d))=some d:=by unfold digitVal;rw[zM0 h];rw[if_pos (by omega)];congr 1;omega
theorem zZv:∀u,decFrom 0 (decDigits u)=some u:=by
 refine zSn _ (fun u h=>?_) fun u h ih=>?_
 ·rw[zNE h];show (match digitVal (UInt8.ofNat (48+u)) with|some d=>decFrom (0*10+d) []|none=>none)=_;rw[z5B h];simp[decFrom]
 ·rw[zKG h,zRZ _ _ _ _ _ ih (z5B (show u % 10<10 by omega))];congr 1;omega
theorem zU9(u:Nat):decNat (decDigits u)=some u:=by
 unfold decNat;have:(decDigits u).isEmpty=false:=by
  cases h:decDigits u with
  |nil=>exact absurd h (zQm u)
  |cons a l=>rfl
 rw[this];exact zZv u
theorem zIo{n:Int}(h:0≤n):Go.Lib.itoa n=decDigits n.toNat:=by unfold Go.Lib.itoa;rw[if_neg (by omega)]
theorem zKu{n:Int}(h:n<0):Go.Lib.itoa n=45::decDigits n.natAbs:=by unfold Go.Lib.itoa;rw[if_pos h]
theorem z5C(u:Nat):∃b r,decDigits u=b::r∧isD b=true:=by
 cases h:decDigits u with
 |nil=>exact absurd h (zQm u)
 |cons b r=>exact⟨b,r,rfl,zPc u b (by rw[h];exact zk ..)⟩
theorem z43{b:UInt8}(h:isD b=true)(c:UInt8)(hc:isD c=false):b≠c:=by intro e;rw[e,hc]at h;cases h
theorem zGf(n:Int):atoi (Go.Lib.itoa n)=some n:=by
 by_cases h:n<0
 ·rw[zKu h];show (if (45:UInt8)==45 then (decNat (decDigits n.natAbs)).map fun (m:Nat)=>-(m:Int) else if (45:UInt8)==43 then (decNat (decDigits n.natAbs)).map fun (m:Nat)=>(m:Int) else (decNat (45::decDigits n.natAbs)).map fun (m:Nat)=>(m:Int))=_;rw[if_pos (by rfl),zU9];simp only[Option.map_some];congr 1;omega
 ·rw[zIo (by omega)];obtain⟨b,r,e,hb⟩:=z5C n.toNat;rw[e];show (if b==45 then (decNat r).map fun (m:Nat)=>-(m:Int) else if b==43 then (decNat r).map fun (m:Nat)=>(m:Int) else (decNat (b::r)).map fun (m:Nat)=>(m:Int))=_;have h1:(b==45)=false:=by rw[zr];exact z43 hb 45 (by decide)
  have h2:(b==43)=false:=by rw[zr];exact z43 hb 43 (by decide)
  rw[h1,h2,if_neg (by decide),if_neg (by decide),←e,zU9];simp only[Option.map_some];congr 1;omega
theorem zUO{n:Int}(h1:-1000000≤n)(h2:n≤1000000):(Go.Lib.itoa n).length≤8:=by
 by_cases h:n<0
 ·rw[zKu h,ze,decDigits_length];have:=zP0 7 n.natAbs (by omega) (by decide);omega
 ·rw[zIo (by omega),decDigits_length];have:=zP0 7 n.toNat (by omega) (by decide);omega
theorem z0F{n:Int}(h1:-1000000≤n)(h2:n≤1000000):zBK (bl (Go.Lib.itoa n))=some (n,true):=by have hl:=zUO h1 h2;unfold zBK;rw[if_pos (by rw[zGN];omega),zF7,atoiAll_short _ (by omega),zGf];rfl
theorem zWz(s:qd)(h:s.size≤281474976710656):∃r,zBK s=some r:=by unfold zBK;rw[if_pos h];cases atoiAll s.data.toList<;>exact⟨_,rfl⟩
def isN(b:UInt8):Bool:=(b.toNat==45)||isD b
theorem zGI(n:Int):∀b∈Go.Lib.itoa n,isN b=true:=by
 intro b hb;by_cases h:n<0
 ·rw[zKu h]at hb;cases hb with
  |head=>rfl
  |tail _ hb=>simp only[isN,zPc _ b hb,Bool.or_true]
 ·rw[zIo (by omega)]at hb;simp only[isN,zPc _ b hb,Bool.or_true]
theorem z6g(n:Int):Go.Lib.itoa n≠[]:=by
 by_cases h:n<0
 ·rw[zKu h];simp
 ·rw[zIo (by omega)];exact zQm _
theorem zG7{b:UInt8}(h:isN b=true):b.toNat<128:=by simp only[isN,isD,Bool.or_eq_true,zh,decide_eq_true_eq,beq_iff_eq]at h;omega
theorem zZq{p:UInt8→Bool}:∀(w cur l:List UInt8),(∀b∈w,p b=false)→fld p cur (w++l)=fld p (cur++w) l
 |[],cur,l,h=>by rw[zq,List.append_nil]
 |b::w,cur,l,h=>by rw[List.cons_append,z0p (h b (zk ..)),zZq w _ l (fun x hx=>h x (zl _ hx)),List.append_assoc];rfl
theorem zKw{p:UInt8→Bool}(hp:∀b,isN b=true→p b=false){c:UInt8}(hc:p c=true)(n:Int)(l:List UInt8):fld p [] (Go.Lib.itoa n++c::l)=Go.Lib.itoa n::fld p [] l:=by rw[zZq _ _ _ (fun b hb=>hp b (zGI n b hb)),zq,z2F hc (z6g n)]
theorem z6f(n:Int)(c:UInt8)(hc:isN c=false):∀b∈Go.Lib.itoa n,b≠c:=fun b hb e=>by have:=zGI n b hb;rw[e,hc]at this;cases this
theorem z4o(f:Int×Int×Int):fB f=40::(Go.Lib.itoa f.1++44::(Go.Lib.itoa f.2.1++44::(Go.Lib.itoa f.2.2++[41]))):=by simp[fB]
def pN(x:Nat):Bool:=(x != 45)&&(decide (x<48)||decide (57<x))
theorem z4P(b:UInt8):pN b.toNat=!isN b:=by unfold pN isN isD;rw[Bool.eq_iff_iff];simp only[zh,Bool.or_eq_true,bne_iff_ne,decide_eq_true_eq,Bool.not_eq_true',Bool.or_eq_false_iff,zr,Bool.and_eq_false_iff,decide_eq_false_iff_not];omega
theorem z3E(f:Int×Int×Int):fld (fun b=>pN b.toNat) [] (fB f)=[Go.Lib.itoa f.1,Go.Lib.itoa f.2.1,Go.Lib.itoa f.2.2]:=by
 have hp:∀b,isN b=true→(fun b:UInt8=>pN b.toNat) b=false:=fun b h=>by simp only[z4P,h,Bool.not_true]
 rw[z4o,zUX (by decide),zKw hp (by decide),zKw hp (by decide),zKw hp (by decide)];rfl
theorem z4p(f:Int×Int×Int):∀b∈fB f,b.toNat<128:=by
 intro b hb;rw[z4o]at hb;simp only[zj,zm,zo,or_false]at hb;rcases hb with rfl|hb|rfl|hb|rfl|hb|rfl
 ·decide
 ·exact zG7 (zGI _ b hb)
 ·decide
 ·exact zG7 (zGI _ b hb)
 ·decide
 ·exact zG7 (zGI _ b hb)
 ·decide
theorem zMY(f:Int×Int×Int):goFieldsP pN (bl (fB f))=[bl (Go.Lib.itoa f.1),bl (Go.Lib.itoa f.2.1),bl (Go.Lib.itoa f.2.2)]:=by rw[zU0 pN (bl (fB f)) (by rw[zF7];exact z4p f),zF7,z3E];rfl
theorem z0E(x:qd):x=bl x.data.toList:=rfl
theorem zO8{a b:List UInt8}(h:bl a=bl b):a=b:=by have:=congrArg (fun x:qd=>x.data.toList) h;simpa [bl] using this
theorem eqS(a b:qd):(a.toList==b.toList)=decide (a=b):=by
 rw[ByteArray.toList_eq,ByteArray.toList_eq,Bool.eq_iff_iff,beq_iff_eq,qa];constructor
 ·intro h;rw[z0E a,z0E b,h]
 ·intro h;rw[h]
theorem zMV{s:qd}{i:Nat}(h:i<s.size):getB s (i:Int)=some (((s.data.toList[i]'h).toNat:Nat):Int):=by have h2:i<s.data.toList.length:=h;unfold getB;rw[if_pos (by omega)];simp only[zg,zu h2,Option.getD_some]
theorem z7x{n l h:Nat}(h1:l≤h)(h2:h≤n):slc n (l:Int) (h:Int)=some ():=by unfold slc;rw[qK,qK,qK,zb (by omega),zb (by omega),zb (by omega)];rfl
def dvF(n:Nat)(l:List UInt8):Nat:=l.foldl (fun n b=>10*n+(b.toNat - 48)) n
def dv(l:List UInt8):Nat:=dvF 0 l
theorem zMZ(n:Nat)(b:UInt8)(l:List UInt8):dvF n (b::l)=dvF (10*n+(b.toNat - 48)) l:=by unfold dvF;rw[List.foldl_cons]
theorem z4x(l:List UInt8)(b:UInt8):dv (l++[b])=10*dv l+(b.toNat - 48):=by simp[dv,dvF]
theorem z4y:∀(l:List UInt8)(n:Nat),n≤dvF n l
 |[],n=>Nat.le_refl _
 |b::l,n=>by have:=z4y l (10*n+(b.toNat - 48));rw[zMZ];omega
theorem zIp{b:UInt8}:isD b=true↔48≤b.toNat∧b.toNat≤57:=by unfold isD;rw[zh,qa,qa]
theorem zWy{b:UInt8}(h:isD b=true):UInt8.ofNat (48+(b.toNat - 48))=b:=by have h:=zIp.1 h;apply UInt8.toNat_inj.1;rw[UInt8.toNat_ofNat'];omega
def canD(l:List UInt8):Bool:=!l.isEmpty&&l.all isD&&(l.length==1||l.head? != some 48)
theorem zWs:∀(k:Nat)(l:List UInt8),l.length=k→l≠[]→(∀b∈l,isD b=true)→(l.head?=some 48→l.length=1)→decDigits (dv l)=l
 |0,l,hk,h,_,_=>absurd (List.length_eq_zero_iff.1 hk) h
 |k+1,l,hk,h,hd,h0=>by
  obtain⟨m,b,rfl⟩:∃m b,l=m++[b]:=⟨l.dropLast,l.getLast h,(List.dropLast_concat_getLast h).symm⟩
  have hb:isD b=true:=hd b (by simp);have hb2:=zIp.1 hb;rw[z4x];cases m with
  |nil=>rw[show dv []=0 from rfl,zNE (by omega),show 10*0+(b.toNat - 48)=b.toNat - 48 by omega,zWy hb];rfl
  |cons c m=>
   have hc:isD c=true:=hd c (by simp);have hc2:=zIp.1 hc;have hc3:c≠48:=by intro e;have:=h0 (by simp[e]);simp at this
   have hc4:c.toNat≠48:=fun e=>hc3 (UInt8.toNat_inj.1 (by rw[e];rfl));have hpos:1≤dv (c::m):=by have:=z4y m (10*0+(c.toNat - 48));show 1≤dvF 0 (c::m);rw[zMZ];omega
   rw[zKG (by omega),show (10*dv (c::m)+(b.toNat - 48)) / 10=dv (c::m) by omega,show (10*dv (c::m)+(b.toNat - 48)) % 10=b.toNat - 48 by omega,zWy hb];rw[zWs k (c::m) (by simp at hk;simp;omega) (by simp) (fun x hx=>hd x (List.mem_append_left _ hx)) (fun e=>by injection e with e;exact absurd e hc3)]
theorem zYT(u:Nat):dv (decDigits u)=u:=by
 revert u;refine zSn _ (fun u h=>?_) fun u h ih=>?_
 ·rw[zNE h];unfold dv;rw[zMZ,zM0 h];unfold dvF;rw[List.foldl_nil];omega
 ·rw[zKG h,z4x,ih,zM0 (by omega)];omega
theorem z0D(u:Nat):canD (decDigits u)=true:=by
 have h1:=zQm u;have h2:=zPc u;have h3:∀u,(decDigits u).head?=some 48→(decDigits u).length=1:=by
  refine zSn _ (fun u h=>?_) fun u h ih=>?_
  ·rw[zNE h];intro _;rfl
  ·rw[zKG h];intro e
   exfalso
   have h4:=zQm (u / 10);cases hm:decDigits (u / 10) with
   |nil=>exact h4 hm
   |cons c m=>
    rw[hm]at e;have h5:=ih (by rw[hm];exact e);rw[hm]at h5;have h6:m=[]:=by
     cases m with
     |nil=>rfl
     |cons _ _=>simp at h5
    subst h6;have h7:=zYT (u / 10);rw[hm]at h7;injection e with e;subst e;unfold dv at h7;rw[zMZ]at h7;have h8:dvF (10*0+((48:UInt8).toNat - 48)) []=0:=rfl;omega
 unfold canD;have h3:=h3 u;cases hl:decDigits u with
 |nil=>exact absurd hl h1
 |cons c m=>
  rw[hl]at h2 h3;have ha:(c::m).all isD=true:=by rw[List.all_eq_true];exact h2
  rw[ha];by_cases hc:c=48
  ·have:=h3 (by rw[hc];rfl);rw[this];rfl
  ·have:((c::m).head? != some 48)=true:=by
    rw[bne_iff_ne];intro e;injection e with e;exact hc e
   rw[this,Bool.or_true];rfl
theorem zWw{l:List UInt8}(h:canD l=true):decDigits (dv l)=l:=by
 unfold canD at h;simp only[zh,Bool.not_eq_true',Bool.or_eq_true,beq_iff_eq,bne_iff_ne,List.all_eq_true]at h;refine zWs l.length l rfl (fun e=>by rw[e]at h;cases h.1.1) h.1.2 fun e=>?_
 rcases h.2 with h2|h2
 ·exact h2
 ·exact absurd e h2
theorem i8w{x:Int}(h0:0≤x)(h1:x<256):IntKind.i64.wrap (IntKind.u8.wrap x)=x:=by
 rw[IntKind.wrap_u8];have e:x % 256=x:=by omega
 rw[e];exact zMr (by omega)
theorem dstep{v:Nat}{b:UInt8}(hv:v<1000000000000000)(hb:isD b=true):w64 ((w64 (10*(v:Int)))+(IntKind.i64.wrap (IntKind.u8.wrap ((b.toNat:Int) - 48))))=((10*v+(b.toNat - 48):Nat):Int):=by have hb:=zIp.1 hb;have e1:w64 (10*(v:Int))=10*(v:Int):=zB (by omega);rw[i8w (by omega) (by omega),e1,zB (by omega)];omega
theorem z0h(s:qd)(hs:s.size≤10):∀(k n i v:Nat),s.size - i=k→k<n→i≤s.size→v<10 ^i→
  zCo s n (v:Int) (i:Int)=some (if (s.data.toList.drop i).all isD then .inl ((dvF v (s.data.toList.drop i):Nat):Int) else .inr (-1)):=by
 have hsz:s.data.toList.length=s.size:=rfl;intro k
 induction k with
 |zero=>
  intro n i v hk hn hi hv;obtain⟨n,rfl⟩:∃m,n=m+1:=⟨n - 1,by omega⟩
  unfold zCo;rw[zS,zc (by omega),cond_false,List.drop_of_length_le (by omega)];rfl
 |succ k ih=>
  intro n i v hk hn hi hv;obtain⟨n,rfl⟩:∃m,n=m+1:=⟨n - 1,by omega⟩
  have hlt:i<s.size:=by omega
  have hdr:s.data.toList.drop i=s.data.toList[i]'hlt::s.data.toList.drop (i+1):=List.drop_eq_getElem_cons hlt;have hg:=zMV hlt;generalize s.data.toList[i]'hlt=b at hdr hg;have hp:(10:Nat) ^i≤10 ^10:=Nat.pow_le_pow_right (by omega) (by omega);have hp2:(10:Nat) ^10=10000000000:=by decide
  unfold zCo;rw[zS,zb (by omega),za];simp only[hg,Option.bind_some,zS,zO];rw[hdr,List.all_cons];by_cases h1:b.toNat<48
  ·have e:isD b=false:=by
    rw[Bool.eq_false_iff];intro e;have:=zIp.1 e;omega
   rw[zb (show (b.toNat:Int)<48 by omega),e];rfl
  ·rw[zc (show ¬(b.toNat:Int)<48 by omega)];by_cases h2:57<b.toNat
   ·have e:isD b=false:=by
     rw[Bool.eq_false_iff];intro e;have:=zIp.1 e;omega
    rw[zb (show (57:Int)<(b.toNat:Int) by omega),e];rfl
   ·have e:isD b=true:=zIp.2 (by omega);rw[zc (show ¬(57:Int)<(b.toNat:Int) by omega),e,Bool.true_and,zMZ,dstep (by omega) e,zEJ (by omega)];have hb:=zIp.1 e;exact ih n (i+1) _ (by omega) (by omega) (by omega) (by rw[Nat.pow_succ];omega)
theorem zUG(s:qd):zJN s=some (if canD s.data.toList=true∧s.size≤10 then ((dv s.data.toList:Nat):Int) else -1):=by
 have hF:1000000<FU:=by decide
 have hsz:s.data.toList.length=s.size:=rfl;unfold zJN zAX;rw[qK,qK];by_cases h0:s.size=0
 ·have hl:s.data.toList=[]:=List.length_eq_zero_iff.1 (by omega);rw[zc (by omega),if_neg (fun h=>by rw[hl]at h;exact absurd h.1 (by decide))];rfl
 ·rw[zb (by omega)];by_cases h10:s.size≤10
  ·rw[zb (show ((s.size:Nat):Int)≤10 by omega)];have hlt:0<s.size:=by omega
   have hg:=zMV hlt;have hg:getB s 0=_:=hg;obtain⟨b,r,hl⟩:∃b r,s.data.toList=b::r:=by
    cases h:s.data.toList with
    |nil=>rw[h]at hsz;simp at hsz;omega
    |cons b r=>exact⟨b,r,rfl⟩
   have hg:getB s 0=some ((b.toNat:Nat):Int):=by rw[hg];congr 3;simp only[hl];rfl
   have hr:r.length+1=s.size:=by rw[←hsz,hl];simp
   simp only[Bool.cond_true_left,za,Option.bind_some,Bool.not_true,cond_false,hg,zBD,zS];by_cases hz:b=48∧1<s.size
   ·have e1:(((b.toNat:Nat):Int)==48)=true:=by rw[hz.1];rfl
    rw[e1,za,zb (by omega),za,if_neg];intro h;have h:=h.1;rw[hl]at h;unfold canD at h;simp only[zh,Bool.or_eq_true,beq_iff_eq,bne_iff_ne,ze,List.head?_cons]at h;rcases h.2 with h2|h2
    ·omega
    ·exact h2 (by rw[hz.1])
   ·have e1:(bif (((b.toNat:Nat):Int)==48) then decide ((1:Int)<((s.size:Nat):Int)) else false)=false:=by
     cases hb:(((b.toNat:Nat):Int)==48) with
     |false=>rfl
     |true=>rw[beq_iff_eq]at hb;have:b=48:=UInt8.toNat_inj.1 (by show b.toNat=48;omega);rw[za,zc];intro h;exact hz ⟨this,by omega⟩
    rw[e1,cond_false];have h:=z0h s h10 s.size FU 0 0 rfl (by omega) (by omega) (by decide);have h:zCo s FU 0 0=_:=h;rw[h,List.drop_zero];by_cases hd:s.data.toList.all isD=true
    ·have hc:canD s.data.toList=true:=by
      rw[hl]at hd ⊢;unfold canD;rw[hd];simp only[List.isEmpty_cons,zf,Bool.true_and,Bool.or_eq_true,beq_iff_eq,bne_iff_ne,ze,List.head?_cons];by_cases hb:b=48
      ·exact .inl (by have:¬1<s.size:=fun h=>hz ⟨hb,h⟩;omega)
      ·exact .inr (fun e=>by injection e with e;exact hb e)
     rw[if_pos hd,if_pos ⟨hc,h10⟩];rfl
    ·rw[if_neg hd,if_neg]
     ·rfl
     ·intro h;have h:=h.1;unfold canD at h;simp only[zh]at h;exact hd h.1.2
  ·rw[zc (show ¬((s.size:Nat):Int)≤10 by omega),if_neg (fun h=>h10 h.2)];rfl
def NB(n:Int):Prop:=-1000000≤n∧n≤1000000
theorem zZu{u:Nat}(h:u≤1000000):(decDigits u).length≤8:=by have:=zUO (n:=(u:Int)) (by omega) (by omega);rw[zIo (by omega)]at this;exact this
theorem zUW(s:qd):(∃n,NB n∧s=bl (itoa n)∧zGA s=some (n,true))∨((∀n,NB n→s≠bl (itoa n))∧zGA s=some (0,false)):=by
 have hsz:s.data.toList.length=s.size:=rfl;have fin:∀(m:Bool)(t:qd),(if canD t.data.toList=true∧t.size≤10 then ((dv t.data.toList:Nat):Int) else -1)=-1∨(canD t.data.toList=true∧t.size≤10∧(if canD t.data.toList=true∧t.size≤10 then ((dv t.data.toList:Nat):Int) else -1)=((dv t.data.toList:Nat):Int)):=by
  intro m t;by_cases h:canD t.data.toList=true∧t.size≤10
  ·rw[if_pos h];exact .inr ⟨h.1,h.2,rfl⟩
  ·rw[if_neg h];exact .inl rfl
 by_cases hm:∃r,s.data.toList=45::r∧r≠[]
 ·obtain⟨r,hl,hr⟩:=hm;have hlen:1<s.size:=by
   rw[←hsz,hl];have:=List.length_pos_iff.2 hr;simp;omega
  have hg:getB s 0=some 45:=by have hg:=zMV (show 0<s.size by omega);have hg:getB s 0=_:=hg;rw[hg];simp only[hl];rfl
  have hj:s.extract 1 s.size=bl r:=by
   rw[zYL,hl,List.drop_succ_cons,List.drop_zero,List.take_of_length_le];have:r.length+1=s.size:=by rw[←hsz,hl];simp
   omega
  unfold zGA;rw[zS,zb (by omega),za,hg];have hsl:slc s.size 1 (s.size:Int)=some ():=z7x (l:=1) (by omega) (Nat.le_refl _);simp only[Option.bind_some,zBD,show ((45:Int)==45)=true from rfl,za,hsl,show Int.toNat 1=1 from rfl,zg,hj,zUG];by_cases hc:canD r=true∧r.length≤10∧dv r≠0∧dv r≤1000000
  ·left;refine⟨-((dv r:Nat):Int),⟨by omega,by omega⟩,?_,?_⟩
   ·rw[zKu (by omega),Int.natAbs_neg,Int.natAbs_natCast,zWw hc.1,z0E s,hl]
   ·rw[if_pos ⟨by rw[zF7];exact hc.1,by rw[zGN];exact hc.2.1⟩,zF7,zS,zS,zc (by omega),cond_false,zc (by omega)];have e:(((dv r:Nat):Int)==0)=false:=by rw[zr];omega
    rw[e,zO];simp only[cond_false];rw[zB (by omega)];congr 2;omega
  ·right;constructor
   ·intro n hn e;apply hc;have e2:45::r=itoa n:=by
     rw[←hl];exact zO8 (by rw[←z0E s];exact e)
    have hneg:n<0:=by
     by_cases h:n<0
     ·exact h
     ·exfalso
      rw[zIo (by omega)]at e2;have:=zPc n.toNat 45 (by rw[←e2];exact zk ..);exact absurd this (by decide)
    rw[zKu hneg]at e2;injection e2 with _ e2;subst e2;have hb:=hn.1;refine⟨z0D _,?_,?_,?_⟩
    ·have:=zZu (u:=n.natAbs) (by omega);omega
    ·rw[zYT];omega
    ·rw[zYT];omega
   ·rcases fin true (bl r) with h|⟨h1,h2,h⟩
    ·rw[h];rfl
    ·rw[h];rw[zF7]at h1;rw[zGN]at h2;rw[zF7,zS,zS,zc (by omega),cond_false];by_cases h3:dv r=0
     ·rw[h3];rfl
     ·have e:(((dv r:Nat):Int)==0)=false:=by rw[zr];omega
      rw[e,cond_false,zb]
      ·rfl
      ·have:¬dv r≤1000000:=fun h4=>hc ⟨h1,h2,h3,h4⟩;omega
 ·have hb4:(bif ltI 1 (s.size:Int) then (getB s 0).bind fun e3=>some (eqI e3 45) else some false)=some false:=by
   rw[zS];by_cases h1:1<s.size
   ·rw[zb (by omega),za];obtain⟨b,r,hl⟩:∃b r,s.data.toList=b::r:=by
     cases h:s.data.toList with
     |nil=>rw[h]at hsz;simp at hsz;omega
     |cons b r=>exact⟨b,r,rfl⟩
    have hg:getB s 0=some ((b.toNat:Nat):Int):=by have hg:=zMV (show 0<s.size by omega);have hg:getB s 0=_:=hg;rw[hg];simp only[hl];rfl
    rw[hg,Option.bind_some,zBD,beq_eq_false_iff_ne.2];intro e;have hb:b=45:=UInt8.toNat_inj.1 (by show b.toNat=45;omega);refine hm ⟨r,by rw[hl,hb],?_⟩;intro hr;rw[hl,hr]at hsz;simp at hsz;omega
   ·rw[zc (by omega),cond_false]
  unfold zGA;rw[hb4];simp only[Option.bind_some,cond_false,zUG];by_cases hc:canD s.data.toList=true∧s.size≤10∧dv s.data.toList≤1000000
  ·left;refine⟨((dv s.data.toList:Nat):Int),⟨by omega,by omega⟩,?_,?_⟩
   ·rw[zIo (by omega),zg,zWw hc.1];rfl
   ·rw[if_pos ⟨hc.1,hc.2.1⟩,zS,zS,zc (by omega),zc (by omega)];rfl
  ·right;constructor
   ·intro n hn e;have e2:s.data.toList=itoa n:=zO8 (by rw[←z0E s];exact e);have hb:=hn.1;have hb2:=hn.2;by_cases hneg:n<0
    ·rw[zKu hneg]at e2;exact hm ⟨_,e2,zQm _⟩
    ·rw[zIo (by omega)]at e2;apply hc;rw[←hsz,e2];refine⟨z0D _,?_,?_⟩
     ·have:=zZu (u:=n.toNat) (by omega);omega
     ·rw[zYT];omega
   ·rcases fin false s with h|⟨h1,h2,h⟩
    ·rw[h];rfl
    ·rw[h,zS,zS,zc (by omega),cond_false,zb]
     ·rfl
     ·have:¬dv s.data.toList≤1000000:=fun h4=>hc ⟨h1,h2,h4⟩;omega
def FB(f:Int×Int×Int):Prop:=NB f.1∧NB f.2.1∧NB f.2.2
theorem z9E{f g:Int×Int×Int}(h:fB f=fB g):f=g:=by
 have h1:=zMY f;rw[h,zMY g]at h1;obtain⟨a,b,c⟩:=f;obtain⟨a',b',c'⟩:=g;simp only[List.cons.injEq,and_true]at h1;have inj:∀{x y:Int},bl (itoa x)=bl (itoa y)→x=y:=fun {x y} e=>by have e:=zO8 e;have h2:=zGf x;rw[e,zGf y]at h2;exact (Option.some.inj h2).symm
 rw[inj h1.1,inj h1.2.1,inj h1.2.2]
theorem z4O:pOf zCR=pN:=by
 funext x
 unfold pOf pN zCR;simp only[Option.bind_some,Option.getD_some,zBD,zS];have e:((x:Int)==45)=(x==45):=by rw[Bool.eq_iff_iff,beq_iff_eq,beq_iff_eq];omega
 have e1:decide ((x:Int)<48)=decide (x<48):=by rw[decide_eq_decide];omega
 have e2:decide ((57:Int)<(x:Int))=decide (57<x):=by rw[decide_eq_decide];omega
 rw[e,e1,e2];cases h1:(x==45)<;>cases h2:decide (x<48)<;>cases h3:decide (57<x)<;>simp_all [bne]
theorem zJl(p:Nat→Bool)(s:qd):∀(f pos:Nat)(st:Option Nat)(acc:List (Nat×Nat)),(Go.Lib.spansFromP p s f pos st acc).1.length≤acc.length+f
 |0,pos,st,acc=>by simp[Go.Lib.spansFromP]
 |f+1,pos,st,acc=>by
  unfold Go.Lib.spansFromP;split
  ·split
   ·split
    ·have:=zJl p s f (pos+(Utf8.decode s pos).2) none (acc++[(‹Nat›,pos)]);simp at this ⊢;omega
    ·have:=zJl p s f (pos+(Utf8.decode s pos).2) none acc;omega
   ·split
    ·have:=zJl p s f (pos+(Utf8.decode s pos).2) (some ‹Nat›) acc;omega
    ·have:=zJl p s f (pos+(Utf8.decode s pos).2) (some pos) acc;omega
  ·simp
theorem z0r(p:Nat→Bool)(s:qd):(goFieldsP p s).length≤s.size+1:=by
 have h:=zJl p s s.size 0 none [];unfold goFieldsP Go.Lib.spansOfP;rw[List.length_map];generalize Go.Lib.spansFromP p s s.size 0 none []=x at h;obtain⟨acc,st⟩:=x;cases st with
 |none=>simp[Go.Lib.closeSpans]at h ⊢;omega
 |some a=>simp[Go.Lib.closeSpans]at h ⊢;omega
theorem zZt(p:Nat→Bool)(s:qd):∀w∈goFieldsP p s,w.size≤s.size:=by intro w hw;unfold goFieldsP at hw;obtain⟨x,_,rfl⟩:=List.mem_map.1 hw;rw[zYL,zGN];have:s.data.toList.length=s.size:=rfl;simp;omega
theorem z45(ws:List qd)(hw:ws.length≤100000001)(hz:∀w∈ws,w.size≤100000000):∀(m n k:Nat)(acc:List Int),ws.length - k=m→m<n→k≤ws.length→acc.length≤k→∃r,q8 ws n (k:Int) acc=some r:=by
 intro m
 induction m with
 |zero=>
  intro n k acc hk hn hkl ha;obtain⟨n,rfl⟩:∃m,n=m+1:=⟨n - 1,by omega⟩
  unfold q8;rw[zS,zc (by omega),cond_false];exact⟨_,rfl⟩
 |succ m ih=>
  intro n k acc hk hn hkl ha;obtain⟨n,rfl⟩:∃m,n=m+1:=⟨n - 1,by omega⟩
  have hlt:k<ws.length:=by omega
  have hg:getI ws (k:Int)=some (ws[k]'hlt):=zDz hlt;have hs:=hz _ (zt hlt);generalize ws[k]'hlt=w at hg hs;unfold q8;rw[zS,zb (by omega),za];obtain⟨r,hr⟩:=zWz w (by omega);simp only[hg,Option.bind_some,hr];cases r.2 with
  |false=>exact⟨_,rfl⟩
  |true=>simp only[Bool.not_true,cond_false,zO];rw[zCw (by simp;omega),Option.bind_some,zEJ (by omega)];exact ih n (k+1) _ (by omega) (by omega) (by omega) (by simp;omega)
theorem zUR(s:qd)(hs:s.size≤100000000):∃l,zAz s=some l:=by
 have hF:200000000<FU:=by decide
 have hl:=z0r pN s;obtain⟨r,hr⟩:=z45 (goFieldsP pN s) (by omega) (fun w hw=>by have:=zZt pN s w hw;omega) _ FU 0 [] rfl (by omega) (by omega) (by simp);have hr:q8 (goFieldsP pN s) FU 0 []=_:=hr;unfold zAz zBp;rw[z4O,if_pos (by omega),Option.bind_some,hr];cases r with
 |inl x=>exact⟨_,rfl⟩
 |inr x=>exact⟨_,rfl⟩
theorem z47(ns:List Int)(hw:ns.length≤1000)(hz:∀x∈ns,NB x):∀(m n k:Nat)(acc:List Int),ns.length - k=m→m<n→k≤ns.length→acc.length≤k→q8 (ns.map fun x=>bl (itoa x)) n (k:Int) acc=some (.inl (acc++ns.drop k)):=by
 intro m
 induction m with
 |zero=>
  intro n k acc hk hn hkl ha;obtain⟨n,rfl⟩:∃m,n=m+1:=⟨n - 1,by omega⟩
  unfold q8;rw[zS,List.length_map,zc (by omega),cond_false,List.drop_of_length_le (by omega),List.append_nil]
 |succ m ih=>
  intro n k acc hk hn hkl ha;obtain⟨n,rfl⟩:∃m,n=m+1:=⟨n - 1,by omega⟩
  have hlt:k<ns.length:=by omega
  have hg:getI (ns.map fun x=>bl (itoa x)) (k:Int)=some (bl (itoa (ns[k]'hlt))):=by rw[zDz (by rw[List.length_map];exact hlt),List.getElem_map]
  have hdr:ns.drop k=ns[k]'hlt::ns.drop (k+1):=List.drop_eq_getElem_cons hlt;have hs:=hz _ (zt hlt);generalize ns[k]'hlt=w at hg hs hdr;unfold q8;rw[zS,List.length_map,zb (by omega),za];simp only[hg,Option.bind_some,z0F hs.1 hs.2,Bool.not_true,cond_false,zO];rw[zCw (by simp;omega),Option.bind_some,zEJ (by omega),ih n (k+1) _ (by omega) (by omega) (by omega) (by simp;omega),hdr,List.append_assoc];rfl
theorem zWj{s:qd}(hs:s.size≤100000000){ns:List Int}(hw:ns.length≤1000)(hz:∀x∈ns,NB x)(h:goFieldsP pN s=ns.map fun x=>bl (itoa x)):zAz s=some ns:=by
 have hF:200000000<FU:=by decide
 have hr:=z47 ns hw hz _ FU 0 [] rfl (by omega) (by omega) (by simp);have hr:q8 (ns.map fun x=>bl (itoa x)) FU 0 []=_:=hr;unfold zAz zBp;rw[z4O,if_pos (by omega),Option.bind_some,h,hr];rfl
theorem zAS{n:Int}(h:NB n):sm18 n:=by have h1:=h.1;have h2:=h.2;exact⟨by omega,by omega⟩
theorem zFS{n:Int}:NB n↔inN n=true:=by unfold NB inN;rw[zh,qK,qK,qa,qa]
theorem zUB(s:qd)(hs:s.size≤100000000):(∃f,FB f∧s=bl (fB f)∧zBs s=some (f,true))∨((∀f,FB f→s≠bl (fB f))∧zBs s=some ((0,0,0),false)):=by
 by_cases hf:∃f,FB f∧s=bl (fB f)
 ·obtain⟨f,hf,rfl⟩:=hf;refine .inl ⟨f,hf,rfl,?_⟩;obtain⟨a,b,c⟩:=f;have hi:=zWj (ns:=[a,b,c]) hs (by simp) (fun x hx=>by
   simp only[zj,zo,or_false]at hx;rcases hx with rfl|rfl|rfl
   ·exact hf.1
   ·exact hf.2.1
   ·exact hf.2.2) (zMY (a,b,c))
  unfold zBs;rw[hi];have g0:getI [a,b,c] 0=some a:=rfl;have g1:getI [a,b,c] 1=some b:=rfl;have g2:getI [a,b,c] 2=some c:=rfl;simp only[Option.bind_some,g0,g1,g2,zF1,zFS.1 hf.1,zFS.1 hf.2.1,zFS.1 hf.2.2,Bool.and_self,Bool.not_true,cond_false,jA (zAS hf.1) (zAS hf.2.1) (zAS hf.2.2),eqS,decide_true];rfl
 ·refine .inr ⟨fun f h e=>hf ⟨f,h,e⟩,?_⟩;obtain⟨l,hl⟩:=zUR s hs;unfold zBs;rw[hl,Option.bind_some];by_cases h3:l.length=3
  ·match l,h3 with
   |[a,b,c],_=>
    have g0:getI [a,b,c] 0=some a:=rfl;have g1:getI [a,b,c] 1=some b:=rfl;have g2:getI [a,b,c] 2=some c:=rfl;simp only[show eqI (([a,b,c].length:Nat):Int) 3=true from rfl,Bool.not_true,cond_false,Option.bind_some,g0,g1,g2,zF1];cases hb:(inN a&&(inN b&&inN c)) with
    |false=>rfl
    |true=>simp only[zh]at hb;have f1:=zFS.2 hb.1;have f2:=zFS.2 hb.2.1;have f3:=zFS.2 hb.2.2;simp only[Bool.not_true,cond_false,jA (f:=(a,b,c)) (zAS f1) (zAS f2) (zAS f3),Option.bind_some,eqS];rw[zc (fun e=>hf ⟨(a,b,c),⟨f1,f2,f3⟩,e.symm⟩)];rfl
  ·rw[eqNe (by omega)];rfl
theorem zZ9(w:qd)(hw:w.size≤100000000):∃a b ok,zDB w=some (a,ok)∧zGA w=some (b,ok)∧(ok=true→a=b):=by
 unfold zDB;rcases zUW w with⟨n,hn,rfl,h⟩|⟨hn,h⟩
 ·refine⟨n,n,true,?_,h,fun _=>rfl⟩;have hnum:qS [n]=some true:=by
   rw[zGH _ (by simp)];simp[zFS.1 hn]
  rw[z0F hn.1 hn.2];simp only[Option.bind_some,za,hnum,zBa (zAS hn),eqS,decide_true]
 ·obtain⟨r,hr⟩:=zWz w (by omega);refine⟨r.1,0,false,?_,h,fun e=>by cases e⟩;rw[hr];simp only[Option.bind_some];cases hr2:r.2 with
  |false=>rfl
  |true=>
   rw[zGH _ (by simp)];cases hin:inN r.1 with
   |false=>simp only[List.all_cons,List.all_nil,hin,Bool.and_true,za,Option.bind_some,cond_false]
   |true=>have hb:=zFS.2 hin;have hne:bl (itoa r.1)≠w:=fun e=>hn r.1 hb e.symm;simp only[List.all_cons,List.all_nil,hin,Bool.and_true,za,Option.bind_some,zBa (zAS hb),eqS,zc hne]
def MB(m:Int×Int×Int×Int):Prop:=NB m.1∧NB m.2.1∧NB m.2.2.1∧NB m.2.2.2
theorem z4Z(m:Int×Int×Int×Int):mB m=91::(itoa m.1++44::(itoa m.2.1++59::(itoa m.2.2.1++44::(itoa m.2.2.2++[93])))):=by simp[mB]
theorem zMT(m:Int×Int×Int×Int):goFieldsP pN (bl (mB m))=[m.1,m.2.1,m.2.2.1,m.2.2.2].map fun x=>bl (itoa x):=by
 have hp:∀b,isN b=true→(fun b:UInt8=>pN b.toNat) b=false:=fun b h=>by simp only[z4P,h,Bool.not_true]
 have ha:∀b∈mB m,b.toNat<128:=by
  intro b hb;rw[z4Z]at hb;simp only[zj,zm,zo,or_false]at hb;rcases hb with rfl|hb|rfl|hb|rfl|hb|rfl|hb|rfl
  ·decide
  ·exact zG7 (zGI _ b hb)
  ·decide
  ·exact zG7 (zGI _ b hb)
  ·decide
  ·exact zG7 (zGI _ b hb)
  ·decide
  ·exact zG7 (zGI _ b hb)
  ·decide
 rw[zU0 pN (bl (mB m)) (by rw[zF7];exact ha),zF7,z4Z,zUX (by decide),zKw hp (by decide),zKw hp (by decide),zKw hp (by decide),zKw hp (by decide)];rfl
theorem z8s{f g:Int×Int×Int×Int}(h:mB f=mB g):f=g:=by
 have h1:=zMT f;rw[h,zMT g]at h1;obtain⟨a,b,c,d⟩:=f;obtain⟨a',b',c',d'⟩:=g;simp only[List.map_cons,zp,List.cons.injEq,and_true]at h1;have inj:∀{x y:Int},bl (itoa x)=bl (itoa y)→x=y:=fun {x y} e=>by have e:=zO8 e;have h2:=zGf x;rw[e,zGf y]at h2;exact (Option.some.inj h2).symm
 rw[inj h1.1,inj h1.2.1,inj h1.2.2.1,inj h1.2.2.2]
theorem zUP(m:Int×Int×Int×Int):zY m=some (inN m.1&&(inN m.2.1&&(inN m.2.2.1&&inN m.2.2.2))):=by unfold zY;rw[zGH _ (by simp)];simp
theorem zZ5(s:qd)(hs:s.size≤100000000):(∃m,MB m∧s=bl (mB m)∧zBT s=some (m,true))∨((∀m,MB m→s≠bl (mB m))∧zBT s=some ((0,0,0,0),false)):=by
 by_cases hf:∃f,MB f∧s=bl (mB f)
 ·obtain⟨f,hf,rfl⟩:=hf;refine .inl ⟨f,hf,rfl,?_⟩;obtain⟨a,b,c,d⟩:=f;have hi:=zWj (ns:=[a,b,c,d]) hs (by simp) (fun x hx=>by
   simp only[zj,zo,or_false]at hx;rcases hx with rfl|rfl|rfl|rfl
   ·exact hf.1
   ·exact hf.2.1
   ·exact hf.2.2.1
   ·exact hf.2.2.2) (zMT (a,b,c,d))
  unfold zBT;rw[hi];have g0:getI [a,b,c,d] 0=some a:=rfl;have g1:getI [a,b,c,d] 1=some b:=rfl;have g2:getI [a,b,c,d] 2=some c:=rfl;have g3:getI [a,b,c,d] 3=some d:=rfl;simp only[Option.bind_some,g0,g1,g2,g3,zUP,zFS.1 hf.1,zFS.1 hf.2.1,zFS.1 hf.2.2.1,zFS.1 hf.2.2.2,Bool.and_self,Bool.not_true,cond_false,zEZ (zAS hf.1) (zAS hf.2.1) (zAS hf.2.2.1) (zAS hf.2.2.2),eqS,decide_true];rfl
 ·refine .inr ⟨fun f h e=>hf ⟨f,h,e⟩,?_⟩;obtain⟨l,hl⟩:=zUR s hs;unfold zBT;rw[hl,Option.bind_some];by_cases h3:l.length=4
  ·match l,h3 with
   |[a,b,c,d],_=>
    have g0:getI [a,b,c,d] 0=some a:=rfl;have g1:getI [a,b,c,d] 1=some b:=rfl;have g2:getI [a,b,c,d] 2=some c:=rfl;have g3:getI [a,b,c,d] 3=some d:=rfl;simp only[show eqI (([a,b,c,d].length:Nat):Int) 4=true from rfl,Bool.not_true,cond_false,Option.bind_some,g0,g1,g2,g3,zUP];cases hb:(inN a&&(inN b&&(inN c&&inN d))) with
    |false=>rfl
    |true=>simp only[zh]at hb;have f1:=zFS.2 hb.1;have f2:=zFS.2 hb.2.1;have f3:=zFS.2 hb.2.2.1;have f4:=zFS.2 hb.2.2.2;simp only[Bool.not_true,cond_false,zEZ (m:=(a,b,c,d)) (zAS f1) (zAS f2) (zAS f3) (zAS f4),Option.bind_some,eqS];rw[zc (fun e=>hf ⟨(a,b,c,d),⟨f1,f2,f3,f4⟩,e.symm⟩)];rfl
  ·rw[eqNe (by omega)];rfl
theorem nbN{n:Int}(h:NB n):n.natAbs≤1000000:=by have:=h.1;have:=h.2;omega
end Go.Proofs.YtnjhhbcccgbbnaaGreatDoor
namespace Go.Proofs.YtnjhhbcccgbbnaaGreatDoor
theorem z0l{D:Int}(hD:D<0){f:F3}(h:CFc D f):∃r:Nat,zD3 f=some (r:Int)∧1≤r∧r≤1600∧gP (gC D hD f) r=g1 D hD∧∀j,1≤j→j<r→gP (gC D hD f) j≠g1 D hD:=by have hF:=FUge;have hD1:=h.2.2.2.1;have hcf:=h.2.2.1;obtain⟨g,j1,j2,j3,j4,j5⟩:=redG hD hcf;obtain⟨M,m1,m2,m3⟩:=zZ7 hD1 hD hcf;obtain⟨r,r1,r2,r3,r4,r5⟩:=zQb hD1 hD hcf m2 m3 FU 1 g (by omega) (by omega) m1 j4 (by rw[j5,zUV (z2C hcf)]);have r1':zCJ f FU 1 g.1 g.2.1 g.2.2=some (r:Int):=r1;exact⟨r,by simp only[zD3,h.1,Option.bind_some,Bool.not_true,cond_false,j1,r1'],r2,by omega,r4,r5⟩
end Go.Proofs.YtnjhhbcccgbbnaaGreatDoor
namespace Go.Proofs.YtnjhhbcccgbbnaaGreatDoor
open Go.Lib
def kA1:qd:=⟨#[101,113,117,105,118,97,108,101,110,116]⟩
def kA2:qd:=⟨#[100,105,102,102,101,114,101,110,116]⟩
def kA3:qd:=⟨#[118,97,108,117,101]⟩
def kA4:qd:=⟨#[111,98,115,116,114,117,99,116,105,111,110]⟩
def kA5:qd:=⟨#[99,111,109,112,111,115,105,116,101]⟩
def kA6:qd:=⟨#[111,114,100,101,114]⟩
def kA8:qd:=⟨#[97,117,116,111,109,111,114,112,104]⟩
def kA9:qd:=⟨#[115,111,108,117,116,105,111,110]⟩
theorem gi0{α:Type}(a:α)(l:List α):getI (a::l) 0=some a:=rfl
theorem gi1{α:Type}(a b:α)(l:List α):getI (a::b::l) 1=some b:=rfl
theorem gi2{α:Type}(a b c:α)(l:List α):getI (a::b::c::l) 2=some c:=rfl
theorem gi3{α:Type}(a b c d:α)(l:List α):getI (a::b::c::d::l) 3=some d:=rfl
theorem len1{α:Type}{l:List α}(h:l.length=1):∃a,l=[a]:=by
 match l,h with
 |[a],_=>exact⟨a,rfl⟩
theorem len0{α:Type}{l:List α}(h:l.length=0):l=[]:=List.length_eq_zero_iff.1 h
theorem z1W(c:UInt8)(q:List UInt8):∀p,spl c (p++c::q)=spl c p++spl c q
 |[]=>by rw[zq,zX6];rfl
 |b::p=>by
  have ih:=z1W c q p;by_cases h:b=c
  ·subst h;rw[List.cons_append,zX6,zX6,ih];rfl
  ·cases e:spl c p with
   |nil=>exact absurd e (z8T c p)
   |cons w ws=>rw[e]at ih;rw[List.cons_append,zJk h ih,zJk h e];rfl
theorem zT0(c:UInt8):∀p,(∀b∈p,b≠c)→spl c p=[p]
 |[],_=>rfl
 |b::p,h=>zJk (h b zk) (zT0 c p fun x hx=>h x (zl _ hx))
theorem z2z{x y:Int}(h:itoa x=itoa y):x=y:=by have h1:=zGf x;rw[h,zGf]at h1;exact (Option.some.inj h1).symm
theorem pf_ok{f:Int×Int×Int}(h:FB f):zBs (bl (fB f))=some (f,true):=by
 have hz:(bl (fB f)).size≤100000000:=by rw[zGN];have:=zDC (zAS h.1) (zAS h.2.1) (zAS h.2.2);omega
 rcases zUB _ hz with⟨g,_,h2,h3⟩|⟨h2,_⟩
 ·rw[h3,z9E (zO8 h2)]
 ·exact absurd rfl (h2 f h)
theorem zSi{m:Int×Int×Int×Int}(h:MB m):(mB m).length≤100:=zQf (zAS h.1) (zAS h.2.1) (zAS h.2.2.1) (zAS h.2.2.2)
theorem pm_ok{m:Int×Int×Int×Int}(h:MB m):zBT (bl (mB m))=some (m,true):=by
 have hz:(bl (mB m)).size≤100000000:=by rw[zGN];have:=zSi h;omega
 rcases zZ5 _ hz with⟨g,_,h2,h3⟩|⟨h2,_⟩
 ·rw[h3,z8s (zO8 h2)]
 ·exact absurd rfl (h2 m h)
theorem pn_ok{n:Int}(h:NB n):zDB (bl (itoa n))=some (n,true):=by
 have hz:(bl (itoa n)).size≤100000000:=by rw[zGN];have:=qR (zAS h);omega
 obtain⟨a,b,ok,h1,h2,h3⟩:=zZ9 _ hz;rcases zUW (bl (itoa n)) with⟨g,_,h4,h5⟩|⟨h4,_⟩
 ·have e:=z2z (zO8 h4);subst e;rw[h5]at h2;injection h2 with h2;injection h2 with h2 h6;subst h6 h2;rw[h1,h3 rfl]
 ·exact absurd rfl (h4 n h)
inductive Wd where
  |f (x:Int×Int×Int)
  |m (x:Int×Int×Int×Int)
  |n (x:Int)
def Wd.tx:Wd→List UInt8
 | .f x=>fB x
 | .m x=>mB x
 | .n x=>itoa x
def Wd.lt:Wd→UInt8
 | .f _=>102
 | .m _=>109
 | .n _=>110
def Wd.ok:Wd→Prop
 | .f x=>FB x
 | .m x=>MB x
 | .n x=>NB x
def wF:List Wd→List (Int×Int×Int)
 |[]=>[]
 | .f x::l=>x::wF l
 |_::l=>wF l
def wM:List Wd→List (Int×Int×Int×Int)
 |[]=>[]
 | .m x::l=>x::wM l
 |_::l=>wM l
def wN:List Wd→List Int
 |[]=>[]
 | .n x::l=>x::wN l
 |_::l=>wN l
theorem Wd.len{w:Wd}(h:w.ok):w.tx.length≤100:=by
 cases w with
 |f x=>exact zDC (zAS h.1) (zAS h.2.1) (zAS h.2.2)
 |m x=>exact zSi h
 |n x=>exact Nat.le_trans (qR (zAS h)) (by omega)
theorem Wd.no32(w:Wd):∀b∈w.tx,b≠32:=by
 have key:∀x b,b∈itoa x→b≠32:=fun x b h=>z6f x 32 (by decide) b h;cases w with
 |f x=>
  intro b hb;have hb:b∈fB x:=hb;rw[z4o]at hb;simp only[zj,zm,zo,or_false]at hb;rcases hb with rfl|h|rfl|h|rfl|h|rfl
  ·decide
  ·exact key _ _ h
  ·decide
  ·exact key _ _ h
  ·decide
  ·exact key _ _ h
  ·decide
 |m x=>
  intro b hb;have hb:b∈mB x:=hb;rw[z4Z]at hb;simp only[zj,zm,zo,or_false]at hb;rcases hb with rfl|h|rfl|h|rfl|h|rfl|h|rfl
  ·decide
  ·exact key _ _ h
  ·decide
  ·exact key _ _ h
  ·decide
  ·exact key _ _ h
  ·decide
  ·exact key _ _ h
  ·decide
 |n x=>exact key x
theorem zKq(e4:qd)(w0 t:qd)(W:List Wd)(hW:∀w∈W,w.ok)(hl:W.length≤11)(ht:t.data.toList=W.map Wd.lt):∀(n k:Nat)(F:List (Int×Int×Int))(M:List (Int×Int×Int×Int))(N:List Int),k≤W.length→W.length - k<n→F.length≤k→M.length≤k→N.length≤k→
  zAm e4 ((W.length:Nat):Int) (w0::W.map fun w=>bl w.tx) t n (k:Int) F M N=some (.inl (N++wN (W.drop k),M++wM (W.drop k),F++wF (W.drop k)))
 |0,k,F,M,N,h0,h1,hF,hM,hN=>by omega
 |n+1,k,F,M,N,h0,h1,hF,hM,hN=>by
  have hts:t.size=W.length:=by have:t.data.toList.length=t.size:=Array.length_toList;rw[←this,ht,List.length_map]
  unfold zAm;by_cases hk:k<W.length
  ·have hg:getB t (k:Int)=some (((W[k]'hk).lt.toNat:Nat):Int):=by
    rw[zMV (by omega)];congr 3;simp[ht]
   have hw:getI (subl (w0::W.map fun w=>bl w.tx) 1 ((w0::W.map fun w=>bl w.tx).length:Int)) (k:Int)=some (bl (W[k]'hk).tx):=by unfold subl;rw[zg,show Int.toNat 1=1 from rfl,List.take_of_length_le (by simp),zDz (by simp;omega)];simp
   have hdr:W.drop k=W[k]'hk::W.drop (k+1):=List.drop_eq_getElem_cons hk;have ho:=hW _ (zt hk);rw[zS,zb (by omega),za];simp only[hw,hg,Option.bind_some,hdr];generalize W[k]'hk=w at ho;cases w with
   |f x=>have e1:eqI (((Wd.f x).lt.toNat:Nat):Int) 102=true:=rfl;have e2:zBs (bl (Wd.f x).tx)=some (x,true):=pf_ok ho;rw[e1,za,e2];simp only[Option.bind_some,Bool.not_true,cond_false,zCw (show F.length+[x].length≤1000000000 by simp;omega),zO,zEJ (show k<1000000000 by omega)];rw[zKq e4 w0 t W hW hl ht n (k+1) _ _ _ (by omega) (by omega) (by simp;omega) (by omega) (by omega)];simp[wF,wM,wN]
   |m x=>have e1:eqI (((Wd.m x).lt.toNat:Nat):Int) 102=false:=rfl;have e3:eqI (((Wd.m x).lt.toNat:Nat):Int) 109=true:=rfl;have e2:zBT (bl (Wd.m x).tx)=some (x,true):=pm_ok ho;rw[e1,cond_false,e3,za,e2];simp only[Option.bind_some,Bool.not_true,cond_false,zCw (show M.length+[x].length≤1000000000 by simp;omega),zO,zEJ (show k<1000000000 by omega)];rw[zKq e4 w0 t W hW hl ht n (k+1) _ _ _ (by omega) (by omega) (by omega) (by simp;omega) (by omega)];simp[wF,wM,wN]
   |n x=>have e1:eqI (((Wd.n x).lt.toNat:Nat):Int) 102=false:=rfl;have e3:eqI (((Wd.n x).lt.toNat:Nat):Int) 109=false:=rfl;have e2:zDB (bl (Wd.n x).tx)=some (x,true):=pn_ok ho;rw[e1,cond_false,e3,cond_false,e2];simp only[Option.bind_some,Bool.not_true,cond_false,zCw (show N.length+[x].length≤1000000000 by simp;omega),zO,zEJ (show k<1000000000 by omega)];rw[zKq e4 w0 t W hW hl ht n (k+1) _ _ _ (by omega) (by omega) (by omega) (by omega) (by simp;omega)];simp[wF,wM,wN]
  ·rw[zS,zc (by omega),cond_false,List.drop_of_length_le (by omega)];simp[wF,wM,wN]
theorem zW4(k:List UInt8)(hk:∀b∈k,b≠32):∀W:List Wd,spl 32 (k++joinTail [32] (W.map Wd.tx))=k::W.map Wd.tx
 |[]=>by rw[zp,show joinTail [32] []=[] from rfl,List.append_nil];exact zT0 32 k hk
 |w::W=>by rw[List.map_cons,zQF,z1W,zT0 32 k hk,zW4 w.tx w.no32 W];rfl
def ctx(k:List UInt8)(W:List Wd):qd:=bl (k++joinTail [32] (W.map Wd.tx))
theorem z0e{k:List UInt8}{t:qd}{W:List Wd}(hk:∀b∈k,b≠32)(hkl:k.length≤1000)(hs:zEx (bl k)=some t)(ht:t.data.toList=W.map Wd.lt)(hl:W.length≤11)(h1:1≤W.length)(hW:∀w∈W,w.ok):
  zEG (ctx k W)=some ((bl k,wF W,wM W,wN W),true):=by
 have hts:t.size=W.length:=by have:t.data.toList.length=t.size:=Array.length_toList;rw[←this,ht,List.length_map]
 have hz:(ctx k W).size≤1048576:=by
  have:=txl (x:=k) (r:=W.map Wd.tx) (by rw[List.length_map];omega) (by
   intro y hy;rcases List.mem_cons.1 hy with rfl|hy
   ·exact hkl
   ·obtain⟨w,hw,rfl⟩:=List.mem_map.1 hy;exact Nat.le_trans (Wd.len (hW w hw)) (by omega))
  exact Nat.le_trans this (by omega)
 have e1:zCx (ctx k W) ⟨#[32]⟩=some (bl k::W.map fun w=>bl w.tx):=by have:=z2o (ctx k W) 32 (by omega);rw[this];congr 1;have e:(ctx k W).data.toList=k++joinTail [32] (W.map Wd.tx):=zF7 _;rw[e,zW4 k hk W,List.map_cons,List.map_map];rfl
 have g0:getI (bl k::W.map fun w=>bl w.tx) 0=some (bl k):=rfl;have hne:¬t=⟨#[]⟩:=fun h=>by rw[h]at hts;have:(⟨#[]⟩:qd).size=0:=rfl;omega
 have hlen:(bl k::W.map fun w=>bl w.tx).length=W.length+1:=by simp
 unfold zEG;rw[e1,Option.bind_some];simp only[g0,Option.bind_some,hs,eqS];rw[zc hne,cond_false,hts,zEJ (by omega),hlen,zGK,Bool.not_true,cond_false];have hsl:slc (W.length+1) 1 ((W.length+1:Nat):Int)=some ():=z7x (l:=1) (by omega) (Nat.le_refl _);have hsub:((subl (bl k::W.map fun w=>bl w.tx) 1 ((W.length+1:Nat):Int)).length:Int)=((W.length:Nat):Int):=by unfold subl;rw[zg,show Int.toNat 1=1 from rfl,List.length_take,List.length_drop,hlen];simp
 rw[hsl,hsub];simp only[Option.bind_some,zO];have hF:200000000<FU:=by decide
 have hr:=zKq (bl k) (bl k) t W hW hl ht FU 0 [] [] [] (by omega) (by omega) (by simp) (by simp) (by simp);have hr:zAm (bl k) ((W.length:Nat):Int) (bl k::W.map fun w=>bl w.tx) t FU 0 [] [] []=_:=hr;rw[hr];simp only[List.drop_zero,zq];rfl
theorem zFB{k:List UInt8}{t:qd}{W:List Wd}(hk:∀b∈k,b≠32)(hkl:k.length≤1000)(hs:zEx (bl k)=some t)(ht:t.data.toList=W.map Wd.lt)(hl:W.length≤11)(h1:1≤W.length)(hW:∀w∈W,w.ok)
  (hc:zT (bl k,wF W,wM W,wN W)=some true):zG (ctx k W)=some 2:=by
 unfold zG;simp only[z0e hk hkl hs ht hl h1 hW,hc,Option.bind_some,Bool.not_true,cond_false,za]
end Go.Proofs.YtnjhhbcccgbbnaaGreatDoor
namespace Go.Proofs.YtnjhhbcccgbbnaaGreatDoor
theorem inNB{n:Int}(h:inN n=true):NB n:=qO.1 h
theorem zW7{a b c:Int}(ha:0≤a)(h1:-a≤b)(h2:b≤a)(h3:a≤c){x y:Int}(hy:y≠0):c≤a*x*x+b*x*y+c*y*y:=by
 have hyy:1≤y*y:=by
  rcases Int.lt_or_gt_of_ne hy with h|h
  ·have:=Int.mul_le_mul (a:=1) (b:=1) (c:=-y) (d:=-y) (by omega) (by omega) (by decide) (by omega);rw[Int.neg_mul_neg]at this;omega
  ·have:=Int.mul_le_mul (a:=1) (b:=1) (c:=y) (d:=y) (by omega) (by omega) (by decide) (by omega);omega
 have k1:(c - a)*1≤(c - a)*(y*y):=zn hyy (by omega);have e2:(c - a)*(y*y)=c*(y*y) - a*(y*y):=by grind
 have e3:a*x*x+b*x*y+c*y*y=a*(x*x)+b*(x*y)+c*(y*y):=by grind
 have sq:∀z:Int,0≤z*z:=fun z=>by
  rcases Int.le_total 0 z with h|h
  ·exact Int.mul_nonneg h h
  ·exact Int.mul_nonneg_of_nonpos_of_nonpos h h
 rcases Int.le_total 0 (x*y) with hP|hP
 ·have k2:-a*(x*y)≤b*(x*y):=Int.mul_le_mul_of_nonneg_right h1 hP;have hS:1≤x*x - x*y+y*y:=by
   have s0:=sq (2*x - y);have e:(2*x - y)*(2*x - y)=4*(x*x) - 4*(x*y)+y*y:=by grind
   omega
  have k3:a*1≤a*(x*x - x*y+y*y):=zn hS ha;have e1:a*(x*x - x*y+y*y)=a*(x*x) - a*(x*y)+a*(y*y):=by grind
  have e4:-a*(x*y)=-(a*(x*y)):=by grind
  omega
 ·have k2:a*(x*y)≤b*(x*y):=Int.mul_le_mul_of_nonpos_right h2 hP;have hS:1≤x*x+x*y+y*y:=by
   have s0:=sq (2*x+y);have e:(2*x+y)*(2*x+y)=4*(x*x)+4*(x*y)+y*y:=by grind
   omega
  have k3:a*1≤a*(x*x+x*y+y*y):=zn hS ha;have e1:a*(x*x+x*y+y*y)=a*(x*x)+a*(x*y)+a*(y*y):=by grind
  omega
theorem zKr{A B C p q r s a b c:Int}(h:MatInv A B C p q r s a b c)(ha:sm18 a)(hb:sm18 b)(hc:sm18 c):zBP (A,B,C) (p,q,r,s) (a,b,c)=some true:=by
 obtain⟨e1,e2,e3,dt⟩:=h;unfold sm18 at ha hb hc;have e2':2*A*p*q+B*(p*s+r*q)+2*C*r*s=b:=by rw[Int.mul_comm r q];exact e2
 have hd:w64 (w64 (p*s) - w64 (q*r))=1:=by rw[wsl,wsr,dt];rfl
 unfold zBP zBA;simp only[z7v,zO,Option.bind_some,hd,e1,e2',e3,zB (n:=a) (by omega),zB (n:=b) (by omega),zB (n:=c) (by omega),zGK,za,beq_self_eq_true,Bool.and_self]
theorem MatInv.comp{A B C p q r s a b c p' q' r' s' a' b' c':Int}(h:MatInv A B C p q r s a b c)(k:MatInv a b c p' q' r' s' a' b' c'):MatInv A B C (p*p'+q*r') (p*q'+q*s') (r*p'+s*r') (r*q'+s*s') a' b' c':=by
 obtain⟨e1,e2,e3,dt⟩:=h;obtain⟨k1,k2,k3,kt⟩:=k;subst e1 e2 e3 k1 k2 k3;refine⟨by grind,by grind,by grind,?_⟩;have:(p*p'+q*r')*(r*q'+s*s') - (p*q'+q*s')*(r*p'+s*r')=(p*s - q*r)*(p'*s' - q'*r'):=by grind
 rw[this,dt,kt];rfl
theorem MatInv.inv{A B C p q r s a b c:Int}(h:MatInv A B C p q r s a b c):MatInv a b c s (-q) (-r) p A B C:=by obtain⟨b1,b2,b3⟩:=h.back;have dt:=h.dt;exact⟨by rw[b1];grind,by rw[b2];grind,by rw[b3];grind,by grind⟩
theorem zM2{f:Int×Int×Int}(h:zI f=some true):∃m1 m2 m3 m4 a b c,zQ f=some ((a,b,c),(m1,m2,m3,m4))∧MatInv f.1 f.2.1 f.2.2 m1 m2 m3 m4 a b c∧(m1.natAbs≤2000∧m2.natAbs≤2000∧m3.natAbs≤2000∧m4.natAbs≤2000)∧(1≤a∧zC2 a b c)∧FB (a,b,c)∧b*b - 4*a*c=f.2.1*f.2.1 - 4*f.1*f.2.2:=by
 obtain⟨A,B,C⟩:=f;obtain⟨g,hi,hcM⟩:=zOH h;obtain⟨m1,m2,m3,m4,a,b,c,k1,q2,q3,q4,s1,s2,s3,s4⟩:=z1e hi hcM;have ha1:=q2.a1;have haM:=hi.aM;obtain⟨⟨r1,r2⟩,r3⟩:=q3;have hac:a≤c:=by omega
 have hcb:c≤1000000:=by
  obtain⟨b1,_,b3⟩:=q4.back;by_cases hr:m3=0
  ·have hp:m1≠0:=fun e=>by
    have:=q4.dt;rw[hr,e]at this;omega
   have:=zW7 (a:=a) (b:=b) (c:=c) (by omega) (by omega) r2 hac (x:=m2) (y:=-m1) (by omega);have e:a*m2*m2+b*m2*-m1+c*-m1*-m1=C:=by rw[b3];grind
   omega
  ·have:=zW7 (a:=a) (b:=b) (c:=c) (by omega) (by omega) r2 hac (x:=m4) (y:=-m3) (by omega);have e:a*m4*m4+b*m4*-m3+c*-m3*-m3=A:=by rw[b1];grind
   omega
 exact⟨m1,m2,m3,m4,a,b,c,k1,q4,⟨s1,s2,s3,s4⟩,⟨ha1,⟨r1,r2⟩,r3⟩,⟨⟨by show _≤a;omega,by show a≤_;omega⟩,⟨by show _≤b;omega,by show b≤_;omega⟩,⟨by show _≤c;omega,by show c≤_;omega⟩⟩,q2.dis⟩
theorem zIG{m1 m2 m3 m4:Int}(h:m1.natAbs≤2000∧m2.natAbs≤2000∧m3.natAbs≤2000∧m4.natAbs≤2000):MB (m1,m2,m3,m4):=by obtain⟨h1,h2,h3,h4⟩:=h;exact⟨⟨by show _≤m1;omega,by show m1≤_;omega⟩,⟨by show _≤m2;omega,by show m2≤_;omega⟩,⟨by show _≤m3;omega,by show m3≤_;omega⟩,⟨by show _≤m4;omega,by show m4≤_;omega⟩⟩
theorem z5N{f0 f1:F3}{m0:Int×Int×Int×Int}(h:zBP f0 m0 f1=some true):zT (kA1,[f0,f1],[m0],[])=some true:=by simp only[zT,eqS,show decide (kA1=(⟨#[101,113,117,105,118,97,108,101,110,116]⟩:qd))=true by decide,Option.bind_some,za,cond_false,gi0,gi1,h]
theorem z5O{f0 f1 f2 f3:F3}{m0 m1:Int×Int×Int×Int}(h0:zI f0=some true)(h2:zI f2=some true)(h3:zBP f0 m0 f1=some true)(h4:zBP f2 m1 f3=some true)(h5:zX f1=some true)(h6:zX f3=some true)
  (h7:((f1.1==f3.1)&&((f1.2.1==f3.2.1)&&(f1.2.2==f3.2.2)))=false):zT (kA2,[f0,f1,f2,f3],[m0,m1],[])=some true:=by
 simp only[zT,eqS,show decide (kA2=(⟨#[101,113,117,105,118,97,108,101,110,116]⟩:qd))=false by decide,show decide (kA2=(⟨#[100,105,102,102,101,114,101,110,116]⟩:qd))=true by decide,Option.bind_some,za,cond_false,gi0,gi1,gi2,gi3,h0,h2,h3,h4,h5,h6,h7,zf]
theorem z4T{k:List UInt8}(h:k.all (fun b=>b != 32)=true):∀b∈k,b≠32:=fun b hb e=>by have:=List.all_eq_true.1 h b hb;rw[e]at this;cases this
theorem z6x{f g:F3}{t:qd}(h:qB f g=some (t,true)):zG t=some 2∧zI f=some true∧zI g=some true∧∃f2 g2 m n,zQ f=some (f2,m)∧zQ g=some (g2,n)∧((f2.1==g2.1)&&((f2.2.1==g2.2.1)&&(f2.2.2==g2.2.2)))=false:=by
 obtain⟨bf,hf⟩:=zEb f;obtain⟨bg,hg⟩:=zEb g;have no:∀{h:Int×Int×Int},zI h=some false→jQ h=some ((0,0,0),(0,0,0,0),false):=by intro h hh;simp only[jQ,hh,Option.bind_some,zf,za]
 have yes:∀{h:Int×Int×Int}{r m},zI h=some true→zQ h=some (r,m)→MB m→jQ h=some (r,m,true):=by intro h r m hh k1 hm;obtain⟨i1,i2,i3,i4⟩:=hm;have i1:=qO.2 i1;have i2:=qO.2 i2;have i3:=qO.2 i3;have i4:=qO.2 i4;simp only[jQ,hh,Option.bind_some,Bool.not_true,cond_false,k1,zKC,i1,i2,i3,i4,Bool.and_self]
 have some2:∀{h:Int×Int×Int},∃r m b,jQ h=some (r,m,b):=by
  intro h;obtain⟨b,hb⟩:=zEb h;cases b with
  |false=>exact⟨_,_,_,no hb⟩
  |true=>obtain⟨m1,m2,m3,m4,a,b,c,k1,_,k3,_⟩:=zM2 hb;exact⟨_,_,_,yes hb k1 (zIG k3)⟩
 cases bf with
 |false=>obtain⟨r,m,b,e⟩:=some2 (h:=g);simp only[qB,no hf,e,Option.bind_some,zf,za]at h;cases h
 |true=>
  obtain⟨m1,m2,m3,m4,a,b,c,k1,k2,k3,⟨ka,k4⟩,k5,_⟩:=zM2 hf;cases bg with
  |false=>simp only[qB,yes hf k1 (zIG k3),no hg,Option.bind_some,Bool.not_true,zf,cond_false,za]at h;cases h
  |true=>
   obtain⟨n1,n2,n3,n4,a',b',c',l1,l2,l3,⟨la,l4⟩,l5,_⟩:=zM2 hg;cases hc:(a==a'&&(b==b'&&c==c')) with
   |true=>simp only[qB,yes hf k1 (zIG k3),yes hg l1 (zIG l3),Option.bind_some,Bool.not_true,cond_false,hc,za]at h;cases h
   |false=>
    obtain⟨a1,a2,a3⟩:=zFl hf;obtain⟨b1,b2,b3⟩:=zFl hg;have hm:=zIG k3;have hn:=zIG l3;have e1:(⟨#[100,105,102,102,101,114,101,110,116]⟩:qd)=bl [100,105,102,102,101,114,101,110,116]:=rfl;have hL:=zMs (x:=[100,105,102,102,101,114,101,110,116]) (ws:=[fB f,mB (m1,m2,m3,m4),fB (a,b,c),fB g,mB (n1,n2,n3,n4),fB (a',b',c')]) (by simp) (by
     intro y hy;simp only[zj,zo,or_false]at hy;rcases hy with rfl|rfl|rfl|rfl|rfl|rfl
     ·exact zDC (zJ a1) (zJ a2) (zJ a3)
     ·exact zSi hm
     ·exact zDC (zAS k5.1) (zAS k5.2.1) (zAS k5.2.2)
     ·exact zDC (zJ b1) (zJ b2) (zJ b3)
     ·exact zSi hn
     ·exact zDC (zAS l5.1) (zAS l5.2.1) (zAS l5.2.2))
    have t2:=zEo [100,105,102,102,101,114,101,110,116] [fB f,mB (m1,m2,m3,m4),fB (a,b,c),fB g,mB (n1,n2,n3,n4),fB (a',b',c')] (by simp) (by simp) hL;simp only[List.map_cons,zp]at t2;simp only[qB,yes hf k1 hm,yes hg l1 hn,Option.bind_some,Bool.not_true,cond_false,hc,jA (zJ a1) (zJ a2) (zJ a3),jA (zJ b1) (zJ b2) (zJ b3),jA (zAS k5.1) (zAS k5.2.1) (zAS k5.2.2),jA (zAS l5.1) (zAS l5.2.1) (zAS l5.2.2),
     zEZ (zAS hm.1) (zAS hm.2.1) (zAS hm.2.2.1) (zAS hm.2.2.2),zEZ (zAS hn.1) (zAS hn.2.1) (zAS hn.2.2.1) (zAS hn.2.2.2),e1,t2]at h
    have ht:=(Prod.mk.inj (zD h)).1;refine⟨?_,hf,hg,(a,b,c),(a',b',c'),_,_,k1,l1,hc⟩;rw[←ht];refine zFB (k:=[100,105,102,102,101,114,101,110,116]) (t:=⟨#[102,109,102,102,109,102]⟩) (W:=[.f f,.m (m1,m2,m3,m4),.f (a,b,c),.f g,.m (n1,n2,n3,n4),.f (a',b',c')]) (z4T rfl) (by decide) (by decide+kernel) rfl (by simp) (by simp) ?_ ?_
    ·intro w hw;simp only[zj,zo,or_false]at hw;rcases hw with rfl|rfl|rfl|rfl|rfl|rfl
     ·exact⟨inNB a1,inNB a2,inNB a3⟩
     ·exact hm
     ·exact k5
     ·exact⟨inNB b1,inNB b2,inNB b3⟩
     ·exact hn
     ·exact l5
    ·exact z5O hf hg (zKr k2 (zAS k5.1) (zAS k5.2.1) (zAS k5.2.2)) (zKr l2 (zAS l5.1) (zAS l5.2.1) (zAS l5.2.2)) (by rw[zH1 ka k5.1.2,zb k4]) (by rw[zH1 la l5.1.2,zb l4]) hc
theorem z7J{x y:F3}(h:((x.1==y.1)&&((x.2.1==y.2.1)&&(x.2.2==y.2.2)))=true):x=y:=by simp only[zh,beq_iff_eq]at h;obtain⟨a,b,c⟩:=x;obtain⟨a',b',c'⟩:=y;obtain⟨h1,h2,h3⟩:=h;dsimp only at h1 h2 h3;rw[h1,h2,h3]
theorem zU1{f g:F3}{t:qd}(h:zU f g=some (t,true)):zG t=some 2∧zI f=some true∧zI g=some true∧∃f2 m n,zQ f=some (f2,m)∧zQ g=some (f2,n):=by
 obtain⟨bf,hf⟩:=zEb f;obtain⟨bg,hg⟩:=zEb g;cases bf with
 |false=>simp only[zU,qX,hf,Option.bind_some,zf,za]at h;cases h
 |true=>
  cases bg with
  |false=>simp only[zU,qX,hf,hg,Option.bind_some,Bool.not_true,zf,cond_false,za]at h;cases h
  |true=>
   obtain⟨m1,m2,m3,m4,a,b,c,k1,k2,k3,⟨ka,k4⟩,k5,_⟩:=zM2 hf;obtain⟨n1,n2,n3,n4,a',b',c',l1,l2,l3,⟨la,l4⟩,l5,_⟩:=zM2 hg;have hi:=zP6 l3.1 l3.2.1 l3.2.2.1 l3.2.2.2 l2.dt;have hz:=zQE (x:=(m1,m2,m3,m4)) (y:=(n4,-n2,-n3,n1)) (X:=2000) (Y:=2000) k3 ⟨l3.2.2.2,by rw[Int.natAbs_neg];exact l3.2.1,by rw[Int.natAbs_neg];exact l3.2.2.1,l3.1⟩ (by decide);simp only at hz;cases hc:(a==a'&&(b==b'&&c==c')) with
   |false=>simp only[zU,qX,hf,hg,k1,l1,Option.bind_some,Bool.not_true,zf,cond_false,za,hc]at h;cases h
   |true=>
    have e:=z7J (x:=(a,b,c)) (y:=(a',b',c')) hc;simp only[Prod.mk.injEq]at e;obtain⟨rfl,rfl,rfl⟩:=e;have hinv:=k2.comp l2.inv;generalize m1*n4+m2*-n3=z1 at hz hinv;generalize m1*-n2+m2*n1=z2 at hz hinv;generalize m3*n4+m4*-n3=z3 at hz hinv;generalize m3*-n2+m4*n1=z4 at hz hinv;obtain⟨a1,a2,a3⟩:=zFl hf;obtain⟨b1,b2,b3⟩:=zFl hg;cases hb:(inN z1&&(inN z2&&(inN z3&&inN z4))) with
    |false=>simp only[zU,qX,hf,hg,k1,l1,hi,hz,Option.bind_some,Bool.not_true,zf,cond_false,za,hc,zEH,zKC,hb]at h;cases h
    |true=>
     have hb2:=hb;simp only[zh]at hb2;obtain⟨i1,i2,i3,i4⟩:=hb2;have e1:(⟨#[101,113,117,105,118,97,108,101,110,116]⟩:qd)=bl [101,113,117,105,118,97,108,101,110,116]:=rfl;have hL:=zMs (x:=[101,113,117,105,118,97,108,101,110,116]) (ws:=[fB f,fB g,mB (z1,z2,z3,z4)]) (by simp) (by
      intro y hy;simp only[zj,zo,or_false]at hy;rcases hy with rfl|rfl|rfl
      ·exact zDC (zJ a1) (zJ a2) (zJ a3)
      ·exact zDC (zJ b1) (zJ b2) (zJ b3)
      ·exact zQf (zJ i1) (zJ i2) (zJ i3) (zJ i4))
     have t2:=zEo [101,113,117,105,118,97,108,101,110,116] [fB f,fB g,mB (z1,z2,z3,z4)] (by simp) (by simp) hL;simp only[List.map_cons,zp]at t2;simp only[zU,qX,hf,hg,k1,l1,hi,hz,Option.bind_some,Bool.not_true,zf,cond_false,za,hc,zEH,zKC,hb,
      jA (zJ a1) (zJ a2) (zJ a3),jA (zJ b1) (zJ b2) (zJ b3),zEZ (m:=(z1,z2,z3,z4)) (zJ i1) (zJ i2) (zJ i3) (zJ i4),e1,t2]at h
     have ht:=(Prod.mk.inj (zD h)).1;refine⟨?_,hf,hg,(a,b,c),_,_,k1,l1⟩;rw[←ht];refine zFB (k:=[101,113,117,105,118,97,108,101,110,116]) (t:=⟨#[102,102,109]⟩) (W:=[.f f,.f g,.m (z1,z2,z3,z4)]) (z4T rfl) (by decide) (by decide+kernel) rfl (by simp) (by simp) ?_ ?_
     ·intro w hw;simp only[zj,zo,or_false]at hw;rcases hw with rfl|rfl|rfl
      ·exact⟨inNB a1,inNB a2,inNB a3⟩
      ·exact⟨inNB b1,inNB b2,inNB b3⟩
      ·exact⟨inNB i1,inNB i2,inNB i3,inNB i4⟩
     ·exact z5N (zKr hinv (zJ b1) (zJ b2) (zJ b3))
theorem eq_df{f g:F3}{s t:qd}{b1 b2:Bool}(h1:qB f g=some (s,b1))(h2:zU f g=some (t,b2)):
  (b1&&b2)=false∧(b1=true→zG s=some 2)∧(b2=true→zG t=some 2)∧((b1||b2)=true→zBv f g=some (b2,true)):=by
 have key:∀{x y:F3}{m n:Int×Int×Int×Int},zI f=some true→zI g=some true→zQ f=some (x,m)→zQ g=some (y,n)→zBv f g=some (((x.1==y.1)&&((x.2.1==y.2.1)&&(x.2.2==y.2.2))),true):=by intro x y m n d1 d2 r1 r2;simp only[zBv,zAE,d1,d2,r1,r2,Option.bind_some,Bool.not_true,cond_false]
 cases b1 with
 |false=>
  refine⟨rfl,(fun h=>by cases h),?_,?_⟩
  ·intro h;subst h;exact (zU1 h2).1
  ·intro h;have h:b2=true:=h;subst h;obtain⟨_,d1,d2,f2,m,n,r1,r2⟩:=zU1 h2;rw[key d1 d2 r1 r2];simp
 |true=>
  obtain⟨c1,d1,d2,f2,g2,m,n,r1,r2,hne⟩:=z6x h1;cases b2 with
  |false=>exact⟨rfl,fun _=>c1,(fun h=>by cases h),fun _=>by rw[key d1 d2 r1 r2,hne]⟩
  |true=>
   exfalso
   obtain⟨_,_,_,f3,m',n',r1',r2'⟩:=zU1 h2;rw[r1]at r1';rw[r2]at r2';have e1:=(Prod.mk.inj (zD r1')).1;have e2:=(Prod.mk.inj (zD r2')).1;rw[e1,e2]at hne;simp at hne
theorem z5Q{f0:F3}{m0:Int×Int×Int×Int}(h:zBP f0 m0 f0=some true):zT (kA8,[f0],[m0],[])=some true:=by
 simp only[zT,eqS,show decide (kA8=(⟨#[101,113,117,105,118,97,108,101,110,116]⟩:qd))=false by decide,show decide (kA8=(⟨#[100,105,102,102,101,114,101,110,116]⟩:qd))=false by decide,show decide (kA8=(⟨#[118,97,108,117,101]⟩:qd))=false by decide,
  show decide (kA8=(⟨#[111,98,115,116,114,117,99,116,105,111,110]⟩:qd))=false by decide,show decide (kA8=(⟨#[99,111,109,112,111,115,105,116,101]⟩:qd))=false by decide,show decide (kA8=(⟨#[111,114,100,101,114]⟩:qd))=false by decide,show decide (kA8=(⟨#[114,111,111,116]⟩:qd))=false by decide,
  show decide (kA8=(⟨#[97,117,116,111,109,111,114,112,104]⟩:qd))=true by decide,Option.bind_some,za,cond_false,gi0,gi1,h]
theorem z7M{f:F3}{r:List qd}{b:Bool}(h:jU f=some (r,b)):∀x∈r,zG x=some 2:=by
 obtain⟨r',b',_,h2,_,h4⟩:=z22 f;rw[h]at h2;have e:=(Prod.mk.inj (zD h2)).1;subst e;intro x hx;obtain⟨i1,i2,i3,m,hm,hi,rfl⟩:=h4 x hx;rw[isMat_val']at hm;have hm:=zD hm;simp only[zh]at hm;obtain⟨j1,j2,j3,j4⟩:=hm;refine zFB (k:=[97,117,116,111,109,111,114,112,104]) (t:=⟨#[102,109]⟩) (W:=[.f f,.m m]) (z4T rfl) (by decide) (by decide+kernel) rfl (by simp) (by simp) ?_ ?_
 ·intro w hw;simp only[zj,zo,or_false]at hw;rcases hw with rfl|rfl
  ·exact⟨inNB i1,inNB i2,inNB i3⟩
  ·exact⟨inNB j1,inNB j2,inNB j3,inNB j4⟩
 ·exact z5Q (zKr hi (zJ i1) (zJ i2) (zJ i3))
theorem zGY{n:Int}(h:inN n=true):NB n:=qO.1 h
theorem zUI{k:List UInt8}(h:k.all (fun b=>b != 32)=true):∀b∈k,b≠32:=fun b hb e=>by have:=List.all_eq_true.1 h b hb;rw[e]at this;cases this
theorem z5J{a b c n x y:Int}(bx:NB x)(bY:NB y)(h:w64 (a*x*x+b*x*y+c*y*y)=n)(hg:Int.gcd x y=1):zT (kA3,[(a,b,c)],[],[n,x,y])=some true:=by have g1:=zNB (a:=x) (b:=y) (Nat.le_trans (nbN bx) (by omega)) (Nat.le_trans (nbN bY) (by omega));simp only[zT,eqS,show decide (kA3=(⟨#[101,113,117,105,118,97,108,101,110,116]⟩:qd))=false by decide,show decide (kA3=(⟨#[100,105,102,102,101,114,101,110,116]⟩:qd))=false by decide,show decide (kA3=(⟨#[118,97,108,117,101]⟩:qd))=true by decide,Option.bind_some,za,cond_false,gi0,gi1,gi2,at_w,h,g1,hg,zGK];rfl
theorem z6L{f:F3}{n:Int}{t:qd}(h:zAe f n=some (t,true)):zG t=some 2:=by
 obtain⟨l,b,h1,h2,h3,_⟩:=zQ6 f n;simp only[zAe,h2,Option.bind_some]at h;cases b with
 |false=>cases h
 |true=>
  obtain⟨⟨a1,a2,a3⟩,⟨n1,n2⟩,hp⟩:=h3 rfl;cases l with
  |nil=>cases h
  |cons p l=>
   obtain⟨p1,p2,p3,p4⟩:=hp p zk;have bn:NB n:=⟨by omega,by omega⟩
   have bx:NB p.1:=⟨by omega,by omega⟩
   have bY:NB p.2:=⟨by omega,by omega⟩
   have e0:eqI (((p::l).length:Nat):Int) 0=false:=eqNe (by simp;omega);have eg:getI (p::l) 0=some p:=rfl;have e1:(⟨#[118,97,108,117,101]⟩:qd)=bl [118,97,108,117,101]:=rfl;have hL:∀y∈[118,97,108,117,101]::[fB f,Go.Lib.itoa n,Go.Lib.itoa p.1,Go.Lib.itoa p.2],y.length≤1000:=by
    have b1:=zDC (zC3 a1) (zC3 a2) (zC3 a3);have b2:=qR (zAS bn);have b3:=qR (zAS bx);have b4:=qR (zAS bY);intro y hy;simp only[zj,zo,or_false]at hy;rcases hy with rfl|rfl|rfl|rfl|rfl
    ·decide
    ·omega
    ·omega
    ·omega
    ·omega
   have t2:=zEo [118,97,108,117,101] [fB f,Go.Lib.itoa n,Go.Lib.itoa p.1,Go.Lib.itoa p.2] (by simp) (by simp) hL;simp only[List.map_cons,zp]at t2;simp only[e0,eg,Bool.not_true,cond_false,jA (zC3 a1) (zC3 a2) (zC3 a3),zBa (zAS bn),zBa (zAS bx),zBa (zAS bY),Option.bind_some,e1,t2]at h;have ht:=(Prod.mk.inj (zD h)).1;rw[←ht];obtain⟨A,B,C⟩:=f;obtain⟨x,y⟩:=p;refine zFB (k:=[118,97,108,117,101]) (t:=⟨#[102,110,110,110]⟩) (W:=[.f (A,B,C),.n n,.n x,.n y]) (zUI rfl) (by decide) (by decide+kernel) rfl (by simp) (by simp) ?_ ?_
   ·intro w hw;simp only[zj,zo,or_false]at hw;rcases hw with rfl|rfl|rfl|rfl
    ·exact⟨zGY a1,zGY a2,zGY a3⟩
    ·exact bn
    ·exact bx
    ·exact bY
   ·have p4:A*x*x+B*x*y+C*y*y=n:=p4;exact z5J bx bY (by rw[p4];exact zB (by omega)) p3
theorem zMz{d a:Int}(ha1:1≤a)(ha:a≤1000)(hd1:-2000≤d)(hd2:d≤-3):∀(m fu:Nat)(b:Int)(acc:List (Int×Int×Int)),b+m=a+1→-1000≤b→m<fu→acc.length+m≤100000000→
  zA6 a d fu b acc=some (acc++rowR d a m b)
 |m,0,b,acc,_,_,h,_=>by omega
 |0,fu+1,b,acc,hb,hb0,hf,hl=>by rw[zA6,qK,zc (by omega),cond_false];simp[rowR,upz]
 |m+1,fu+1,b,acc,hb,hb0,hf,hl=>by
  rw[zA6,qK,zb (by omega),za];have b1:=zN (x:=b) (y:=b) (A:=1000) (B:=1000) (by omega) (by omega);have e4:w64 (4*a)=4*a:=zB (by omega);have e5:w64 (w64 (b*b) - d)=b*b - d:=by rw[qH (n:=b*b) (by omega),qH (by omega)]
  have q1:=z1R (x:=b*b - d) (m:=4*a) (by omega);have q2:=Int.tmod_add_mul_tdiv (b*b - d) (4*a);generalize hc:Int.tdiv (b*b - d) (4*a)=c at q1 q2;generalize hr:Int.tmod (b*b - d) (4*a)=r at q2;have ew:w64 (b+1)=b+1:=zB (by omega);have hcf:cfR d a b=(a,b,c):=by unfold cfR;rw[hc]
  have hrow:rowR d a (m+1) b=(if okR d (a,b,c) then [(a,b,c)] else [])++rowR d a m (b+1):=by unfold rowR;rw[upz,List.map_cons,List.filter_cons,hcf];cases okR d (a,b,c)<;>simp
  have hdis:eqI (b*b - 4*a*c) d=eqI r 0:=by rw[zBD,zBD,Bool.eq_iff_iff,beq_iff_eq,beq_iff_eq];omega
  rw[e4,nzOk (by omega),e5,hr,hc,qH (n:=c) (by omega),hrow];simp only[Option.bind_some,zO,zH1 ha1 (show a≤1000000 by omega),ew];unfold okR;dsimp only;rw[hdis];cases h1:eqI r 0 with
  |true=>
   simp only[Bool.not_true,cond_false,Bool.true_and];cases h2:decide (zC2 a b c) with
   |true=>rw[za,zCw (by simp;omega)];simp only[Option.bind_some];rw[zMz ha1 ha hd1 hd2 m fu (b+1) _ (by omega) (by omega) (by omega) (by simp;omega)];simp
   |false=>rw[cond_false];rw[zMz ha1 ha hd1 hd2 m fu (b+1) _ (by omega) (by omega) (by omega) (by omega)];simp
  |false=>simp only[zf,za,Bool.false_and];rw[zMz ha1 ha hd1 hd2 m fu (b+1) _ (by omega) (by omega) (by omega) (by omega)];simp
theorem zWi{d:Int}(hd1:-2000≤d)(hd2:d≤-3):∀(m fu:Nat)(a:Int)(acc:List (Int×Int×Int)),1≤a→a+m=27→m<fu→(acc.length:Int)≤1000*a→
  ∃L,zCj d fu a acc=some (acc++L)∧(L.length:Int)+1000*a≤28000∧(∀f,f∈L↔a≤f.1∧3*f.1*f.1≤-d∧f∈rowR d f.1 (2*f.1).toNat (1 - f.1))∧∃asq:List Int,asq.Pairwise (·<·)∧(∀x∈asq,a≤x∧x≤26)∧L=asq.flatMap fun a=>rowR d a (2*a).toNat (1 - a)
 |m,0,a,acc,_,_,h,_=>by omega
 |m,fu+1,a,acc,ha,hm,hf,hl=>by
  have b1:=zN (x:=3*a) (y:=a) (A:=81) (B:=27) (by omega) (by omega);have e1:w64 (w64 (3*a)*a)=3*a*a:=by rw[zB (n:=3*a) (by omega),qH (by omega)]
  have e2:w64 (0 - d)=-d:=by rw[zB (by omega)];omega
  rw[zCj,e1,e2,qK];by_cases h:3*a*a≤-d
  ·have ha2:a≤26:=by
    rcases Int.lt_or_le 26 a with h2|h2
    ·have h3:=zIk (a:=27) (b:=a) (by omega) (by omega);have e:3*a*a=3*(a*a):=by grind
     omega
    ·exact h2
   obtain⟨m',rfl⟩:∃m',m=m'+1:=⟨m - 1,by omega⟩
   have hF:=FUge;rw[zb h,za,zB (n:=1 - a) (by omega),zB (n:=a+1) (by omega)];simp only[zO];rw[zMz ha (by omega) hd1 hd2 (2*a).toNat FU (1 - a) acc (by omega) (by omega) (by omega) (by omega)];simp only[Option.bind_some];have hrl:(rowR d a (2*a).toNat (1 - a)).length≤(2*a).toNat:=by
    unfold rowR;refine Nat.le_trans (List.length_filter_le _ _) ?_
    rw[List.length_map,zXK];exact Nat.le_refl _
   obtain⟨L,k1,k2,k3,asq,k4,k5,k6⟩:=zWi hd1 hd2 m' fu (a+1) (acc++rowR d a (2*a).toNat (1 - a)) (by omega) (by omega) (by omega) (by rw[zd];omega);refine⟨rowR d a (2*a).toNat (1 - a)++L,by rw[k1,List.append_assoc],by rw[zd];omega,fun f=>?_,a::asq,?_,?_,?_⟩
   ·rw[zm,k3];constructor
    ·rintro (h1|⟨h1,h2,h3⟩)
     ·rw[zJy h1];exact⟨Int.le_refl _,h,h1⟩
     ·exact⟨by omega,h2,h3⟩
    ·rintro⟨h1,h2,h3⟩;by_cases hfa:f.1=a
     ·rw[hfa]at h3;exact .inl h3
     ·exact .inr ⟨by omega,h2,h3⟩
   ·rw[List.pairwise_cons];exact⟨fun x hx=>by have:=k5 x hx;omega,k4⟩
   ·intro x hx;rcases List.mem_cons.1 hx with e|e
    ·omega
    ·have:=k5 x e;omega
   ·rw[List.flatMap_cons,k6]
  ·rw[zc h,cond_false];refine⟨[],by simp,by simp;omega,fun f=>?_,[],List.Pairwise.nil,fun x hx=>(by cases hx),rfl⟩;refine⟨fun hf=>(by cases hf),fun hf=>?_⟩;obtain⟨h1,h2,h3⟩:=hf
   exfalso
   have h4:=zIk (a:=a) (b:=f.1) (by omega) h1;have e3:3*a*a=3*(a*a):=by grind
   have e4:3*f.1*f.1=3*(f.1*f.1):=by grind
   omega
theorem zKt{l:List (Int×Int×Int)}(hl:l.length≤1000000)(hb:∀f∈l,inN f.1=true∧inN f.2.1=true∧inN f.2.2=true):∀(fu k:Nat)(acc:List (Int×Int×Int)),k≤l.length→l.length - k<fu→acc.length≤k→
  zBc l fu (k:Int) acc=some (acc++(l.drop k).filter fun f=>eqI (Int.gcd f.1 (Int.gcd f.2.1 f.2.2):Int) 1)
 |0,k,acc,h0,h1,h2=>by omega
 |fu+1,k,acc,h0,h1,h2=>by
  rw[zBc];rw[zS];by_cases hk:k<l.length
  ·obtain⟨c1,c2,c3⟩:=hb (l[k]) (zt hk);have hcon:zB5 l[k]=some (Int.gcd l[k].1 (Int.gcd l[k].2.1 l[k].2.2):Int):=zHG c1 c2 c3;rw[zb (by omega),za,zDz hk,List.drop_eq_getElem_cons hk,List.filter_cons];simp only[Option.bind_some,hcon,zO,zEJ (show k<1000000000 by omega)];cases eqI (Int.gcd l[k].1 (Int.gcd l[k].2.1 l[k].2.2):Int) 1 with
   |true=>rw[za,zCw (by simp;omega),if_pos rfl];simp only[Option.bind_some];rw[zKt hl hb fu (k+1) _ (by omega) (by omega) (by simp;omega)];simp
   |false=>rw[cond_false,if_neg (by simp)];exact zKt hl hb fu (k+1) acc (by omega) (by omega) (by omega)
  ·rw[zc (by omega),cond_false,List.drop_eq_nil_of_le (by omega)];simp
theorem z2y{d:Int}(hd1:-2000≤d)(hd2:d≤-3):∃L,zDH d=some L∧L.length≤27000∧(∀f,f∈L↔PrR d f)∧L.Nodup:=by
 have hF:=FUge;obtain⟨L,k1,k2,k3,asq,k4,k5,k6⟩:=zWi hd1 hd2 26 FU 1 [] (by omega) (by omega) (by omega) (by simp);rw[zq]at k1;have hLl:L.length≤27000:=by omega
 have hmem:∀f∈L,1≤f.1∧zC2 f.1 f.2.1 f.2.2∧f.2.1*f.2.1 - 4*f.1*f.2.2=d:=fun f hf=>(zSf hd1 hd2).1 ((k3 f).1 hf);have hbd:∀f∈L,inN f.1=true∧inN f.2.1=true∧inN f.2.2=true:=by
  intro f hf;obtain⟨h1,h2,h3⟩:=hmem f hf;have h4:=z0a h1 h2 h3;obtain⟨⟨h5,h6⟩,h7⟩:=h2;have ha:f.1≤26:=by
   rcases Int.lt_or_le 26 f.1 with h8|h8
   ·have:=zIk (a:=27) (b:=f.1) (by omega) (by omega);have e:3*f.1*f.1=3*(f.1*f.1):=by grind
    omega
   ·exact h8
  have hb:=zN (x:=f.2.1) (y:=f.2.1) (A:=26) (B:=26) (by omega) (by omega);have hc:f.2.2≤1000:=by
   have h9:4*1*f.2.2≤4*f.1*f.2.2:=by have:4*1*f.2.2≤(4*f.1)*f.2.2:=Int.mul_le_mul_of_nonneg_right (by omega) (by omega);exact this
   omega
  rw[qO,qO,qO];omega
 have h2:=zKt (l:=L) (by omega) hbd FU 0 [] (by omega) (by omega) (by simp);rw[zq,List.drop_zero]at h2;refine⟨_,by simp only[zDH,zEn,zEW,k1,Option.bind_some];exact congrArg (fun z=>(z.bind fun o=>some o).bind fun o=>some o) h2,Nat.le_trans (List.length_filter_le _ _) hLl,fun f=>?_,?_⟩
 ·rw[List.mem_filter,k3,zSf hd1 hd2,zBD,beq_iff_eq];unfold PrR;constructor
  ·rintro⟨⟨a1,a2,a3⟩,a4⟩;exact⟨a1,a2,a3,by omega⟩
  ·rintro⟨a1,a2,a3,a4⟩;exact⟨⟨a1,a2,a3⟩,by omega⟩
 ·refine List.Pairwise.filter _ ?_
  rw[k6];have hrow:∀a:Int,(rowR d a (2*a).toNat (1 - a)).Nodup:=by
   intro a;unfold rowR;refine List.Pairwise.filter _ ?_
   rw[List.pairwise_map];refine (z0S (2*a).toNat (1 - a)).imp ?_
   intro x y hxy e;have:=congrArg (fun f:Int×Int×Int=>f.2.1) e;simp only[cfR]at this;omega
  rw[List.pairwise_flatMap];refine⟨fun a _=>hrow a,k4.imp ?_⟩;intro x y hxy f hf g hg e;have fx:=zJy hf;have gy:=zJy hg;rw[e]at fx;omega
theorem zZM{d p:Int}(h1:2≤p)(h2:p≤10000)(hd1:-2000≤d)(hd2:d≤0):∀(fu k:Nat),(k:Int)≤2*p→2*p - k<fu→
  zM d p fu (k:Int) []=some []→∀b:Nat,k≤b→(b:Int)<2*p→¬4*p∣(b:Int)*b - d
 |0,k,h3,h4,h=>by omega
 |fu+1,k,h3,h4,h=>by
  intro b hb1 hb2;have hw:w64 (2*p)=2*p:=zB (by omega);have hk:(k:Int)<2*p:=by omega
  have hz:nz (w64 (4*p))=some ():=nzOk (by rw[zB (by omega)];omega);obtain⟨i1,i2⟩:=z0m (d:=d) h1 h2 fu (k+1) (by omega) (by omega);unfold zM at h;rw[zS,hw,zb hk,za,hz]at h;simp only[Option.bind_some,zO,zEJ (show k<1000000000 by omega)]at h;cases he:eqI (Int.tmod (w64 (w64 ((k:Int)*k) - d)) (w64 (4*p))) 0 with
  |true=>rw[he,za,zCw (by simp)]at h;simp only[Option.bind_some]at h;obtain⟨l,g1,g2,g3⟩:=i1 ([]++[(k:Int)]) (by simp) (by simp);rw[g1]at h;exact absurd (zD h) g2
  |false=>
   rw[he,cond_false]at h;by_cases e:b=k
   ·subst e;intro hdv;have hbb:(b:Int)*b≤20000*20000:=Int.mul_le_mul (by omega) (by omega) (by omega) (by omega);have hb0:(0:Int)≤(b:Int)*b:=Int.mul_nonneg (by omega) (by omega);have e1:w64 ((b:Int)*b)=(b:Int)*b:=zB (by omega);have e2:w64 ((b:Int)*b - d)=(b:Int)*b - d:=zB (by omega);have e3:w64 (4*p)=4*p:=zB (by omega);rw[e1,e2,e3,zBD,zr]at he;exact he (Int.tmod_eq_zero_of_dvd hdv)
   ·exact zZM h1 h2 hd1 hd2 fu (k+1) (by omega) (by omega) h b (by omega) hb2
theorem z4D{A B C x y n p d:Int}(hp:2≤p)(hd:B*B - 4*A*C=d)(hs:A*x*x+B*x*y+C*y*y=n)(hg:Int.gcd x y=1)(hn:p∣n):∃b:Nat,(b:Int)<2*p∧4*p∣(b:Int)*b - d:=by
 obtain⟨u,v,huv⟩:=zSq x y;rw[hg]at huv;have hdet:u*x+v*y=1:=by omega
 obtain⟨m,hm⟩:=hn;obtain⟨b0,hb0⟩:∃b0,b0=2*A*x*-v+B*(x*u+y*-v)+2*C*y*u:=⟨_,rfl⟩
 have key:b0*b0 - d=4*(A*x*x+B*x*y+C*y*y)*(A*-v*-v+B*-v*u+C*u*u):=by
  have e1:b0*b0 - d*((u*x+v*y)*(u*x+v*y))=4*(A*x*x+B*x*y+C*y*y)*(A*-v*-v+B*-v*u+C*u*u):=by rw[hb0,←hd];grind
  rw[hdet]at e1;omega
 rw[hs,hm]at key;have q1:=Int.emod_add_mul_ediv b0 (2*p);have q2:0≤b0 % (2*p):=zy _ (by omega);have q3:b0 % (2*p)<2*p:=zz _ (by omega);generalize b0 % (2*p)=r at*;generalize b0 / (2*p)=k at*;obtain⟨r,rfl⟩:=Int.eq_ofNat_of_zero_le q2;refine⟨r,q3,m*(A*-v*-v+B*-v*u+C*u*u) - k*(r:Int) - p*k*k,?_⟩;have e2:b0*b0=(r:Int)*r+4*p*(k*r)+4*p*(p*k*k):=by rw[←q1];grind
 rw[e2]at key;grind
theorem z6s{n p e:Int}(h1:1≤n)(h2:n≤10000)(h3:2≤p)(h4:p≤10000)(he:zAD n p=some e)(ho:eqI (Int.tmod e 2) 1=true):p∣n:=by
 obtain⟨m,hm⟩:∃m,FU=m+1:=⟨FU - 1,by have:=FUge;omega⟩
 unfold zAD at he;rw[hm]at he;unfold zEY at he;rw[nzOk (by omega)]at he;simp only[Option.bind_some]at he;cases hc:eqI (Int.tmod n p) 0 with
 |true=>rw[zBD,beq_iff_eq]at hc;exact Int.dvd_of_tmod_eq_zero hc
 |false=>rw[hc,cond_false]at he;have he:some (0:Int)=some e:=he;rw[←zD he]at ho;cases ho
theorem zZP{n:Int}{L:List F3}(h:∀f∈L,∃b,jJ f n=some ([],b))(hL:L.length≤27000):∀(fu k:Nat),k≤L.length→L.length - k<fu→zAV n L fu (k:Int) []=some []
 |0,k,h0,h1=>by omega
 |fu+1,k,h0,h1=>by
  rw[zAV,zS];by_cases hk:k<L.length
  ·obtain⟨b,hb⟩:=h _ (zt hk);rw[zb (by omega),za,zDz hk];simp only[Option.bind_some,hb,zO,zEJ (show k<1000000000 by omega)];have e:ltI 0 ((([]:List (Int×Int)).length:Nat):Int)=false:=rfl;rw[e,cond_false];exact zZP h hL fu (k+1) (by omega) (by omega)
  ·rw[zc (by omega),cond_false]
theorem z5M{d n q:Int}{e:Int}(h1:zAG d=some true)(h2:1≤n)(h3:q≤2500)(h4:zBR q=some true)(h5:zAD n q=some e)(h6:eqI (Int.tmod e 2) 1=true)(h7:qP d q=some []):zT (kA4,[],[],[d,n,q])=some true:=by
 have ho:zDs d n q=some true:=by simp only[zDs,h1,qK,zb h2,zb h3,h4,h5,h6,h7,Option.bind_some,za];rfl
 simp only[zT,eqS,show decide (kA4=(⟨#[101,113,117,105,118,97,108,101,110,116]⟩:qd))=false by decide,show decide (kA4=(⟨#[100,105,102,102,101,114,101,110,116]⟩:qd))=false by decide,show decide (kA4=(⟨#[118,97,108,117,101]⟩:qd))=false by decide,
  show decide (kA4=(⟨#[111,98,115,116,114,117,99,116,105,111,110]⟩:qd))=true by decide,Option.bind_some,za,cond_false,gi0,gi1,gi2,ho]
theorem z66{d n:Int}{t:qd}(h:jL d n=some (t,true)):zG t=some 2∧zAt d n=some ([],true):=by
 have hF:=FUge;obtain⟨q,b,h1,h2,h3⟩:=z2E d n;simp only[jL,h2,Option.bind_some]at h;cases b with
 |false=>cases h
 |true=>
  obtain⟨d1,d2,n1,n2,q1,q2,hneg,hpr,⟨e,he,ho⟩,hr⟩:=h3 rfl;cases hq:ltI 2500 q with
  |true=>rw[hq]at h;cases h
  |false=>
   have hd:sm18 d:=by unfold sm18;omega
   have hn:sm18 n:=by unfold sm18;omega
   have hqs:sm18 q:=by unfold sm18;omega
   have e1:(⟨#[111,98,115,116,114,117,99,116,105,111,110]⟩:qd)=bl [111,98,115,116,114,117,99,116,105,111,110]:=rfl;have hL:∀y∈[111,98,115,116,114,117,99,116,105,111,110]::[Go.Lib.itoa d,Go.Lib.itoa n,Go.Lib.itoa q],y.length≤1000:=by
    have a1:=qR hd;have a2:=qR hn;have a3:=qR hqs;intro y hy;simp only[zj,zo,or_false]at hy;rcases hy with rfl|rfl|rfl|rfl
    ·decide
    ·omega
    ·omega
    ·omega
   have t2:=zEo [111,98,115,116,114,117,99,116,105,111,110] [Go.Lib.itoa d,Go.Lib.itoa n,Go.Lib.itoa q] (by simp) (by simp) hL;simp only[List.map_cons,zp]at t2;simp only[hq,Bool.not_true,cond_false,zBa hd,zBa hn,zBa hqs,e1,t2,Option.bind_some]at h;have ht:=(Prod.mk.inj (zD h)).1;rw[zS,decide_eq_false_iff_not]at hq;constructor
   ·rw[←ht];refine zFB (k:=[111,98,115,116,114,117,99,116,105,111,110]) (t:=⟨#[110,110,110]⟩) (W:=[.n d,.n n,.n q]) (zUI rfl) (by decide) (by decide+kernel) rfl (by simp) (by simp) ?_ (z5M hneg n1 (by omega) hpr he ho hr)
    intro w hw;simp only[zj,zo,or_false]at hw;rcases hw with rfl|rfl|rfl
    ·exact⟨by omega,by omega⟩
    ·exact⟨by omega,by omega⟩
    ·exact⟨by omega,by omega⟩
   ·obtain⟨L,l1,l2,l3,_⟩:=z2y d1 d2;have hno:∀f∈L,∃b,jJ f n=some ([],b):=by
     intro f hf;obtain⟨l,b,_,p2,p3,p4⟩:=zQ6 f n;cases b with
     |false=>exact⟨false,by rw[p2,p4 rfl]⟩
     |true=>
      cases l with
      |nil=>exact⟨true,p2⟩
      |cons z l=>
       exfalso
       obtain⟨_,_,g1,g2⟩:=(p3 rfl).2.2 z zk;obtain⟨_,_,f3,_⟩:=(l3 f).1 hf;obtain⟨r,r1,r2⟩:=z4D q1 f3 g2 g1 (z6s n1 n2 q1 q2 he ho);have hr2:zM d q FU 0 []=some []:=by
        unfold qP at hr;cases hx:zM d q FU 0 [] with
        |none=>rw[hx]at hr;cases hr
        |some y=>rw[hx]at hr;exact hr
       exact zZM (d:=d) (p:=q) q1 q2 d1 (by omega) FU 0 (by omega) (by omega) hr2 r (Nat.zero_le _) r1 r2
    have hrun:=zZP hno l2 FU 0 (by omega) (by omega);have e0:(((0:Nat):Int))=0:=rfl;rw[e0]at hrun;have hs:zAY n=some true:=by simp only[zAY,qK,zb n1,zb n2,za]
    simp only[zAt,hneg,hs,l1,hrun,Option.bind_some,Bool.not_true,za,cond_false]
structure Cf9 (f g h:F3) (p q:M4):Prop where
  c00:h.1*(p.1*p.1)+h.2.1*(p.1*q.1)+h.2.2*(q.1*q.1)=f.1*g.1
  c01:h.1*(p.1*p.2.1+p.2.1*p.1)+h.2.1*(p.1*q.2.1+p.2.1*q.1)+h.2.2*(q.1*q.2.1+q.2.1*q.1)=f.1*g.2.1
  c02:h.1*(p.2.1*p.2.1)+h.2.1*(p.2.1*q.2.1)+h.2.2*(q.2.1*q.2.1)=f.1*g.2.2
  c10:h.1*(p.1*p.2.2.1+p.2.2.1*p.1)+h.2.1*(p.1*q.2.2.1+p.2.2.1*q.1)+h.2.2*(q.1*q.2.2.1+q.2.2.1*q.1)=f.2.1*g.1
  c11:h.1*(p.1*p.2.2.2+p.2.1*p.2.2.1+p.2.2.1*p.2.1+p.2.2.2*p.1)+h.2.1*(p.1*q.2.2.2+p.2.1*q.2.2.1+p.2.2.1*q.2.1+p.2.2.2*q.1)+h.2.2*(q.1*q.2.2.2+q.2.1*q.2.2.1+q.2.2.1*q.2.1+q.2.2.2*q.1)=f.2.1*g.2.1
  c12:h.1*(p.2.1*p.2.2.2+p.2.2.2*p.2.1)+h.2.1*(p.2.1*q.2.2.2+p.2.2.2*q.2.1)+h.2.2*(q.2.1*q.2.2.2+q.2.2.2*q.2.1)=f.2.1*g.2.2
  c20:h.1*(p.2.2.1*p.2.2.1)+h.2.1*(p.2.2.1*q.2.2.1)+h.2.2*(q.2.2.1*q.2.2.1)=f.2.2*g.1
  c21:h.1*(p.2.2.1*p.2.2.2+p.2.2.2*p.2.2.1)+h.2.1*(p.2.2.1*q.2.2.2+p.2.2.2*q.2.2.1)+h.2.2*(q.2.2.1*q.2.2.2+q.2.2.2*q.2.2.1)=f.2.2*g.2.1
  c22:h.1*(p.2.2.2*p.2.2.2)+h.2.1*(p.2.2.2*q.2.2.2)+h.2.2*(q.2.2.2*q.2.2.2)=f.2.2*g.2.2
theorem z9R{f g h:F3}{p q:M4}(id:∀x y u v,FV h (bil p x y u v) (bil q x y u v)=FV f x y*FV g u v):Cf9 f g h p q:=by obtain⟨p1,p2,p3,p4⟩:=p;obtain⟨q1,q2,q3,q4⟩:=q;obtain⟨a,b,c⟩:=h;obtain⟨f1,f2,f3⟩:=f;obtain⟨g1,g2,g3⟩:=g;have t1:=id 1 0 1 0;have t2:=id 1 0 0 1;have t3:=id 1 0 1 1;have t4:=id 0 1 1 0;have t5:=id 0 1 0 1;have t6:=id 0 1 1 1;have t7:=id 1 1 1 0;have t8:=id 1 1 0 1;have t9:=id 1 1 1 1;simp only[FV,bil,Int.mul_one,Int.mul_zero,Int.add_zero,Int.zero_add,Int.one_mul,Int.zero_mul]at t1 t2 t3 t4 t5 t6 t7 t8 t9;refine⟨?_,?_,?_,?_,?_,?_,?_,?_,?_⟩<;>(simp only[];clear id;grind)
theorem nine{a b c P Q R t:Int}(h:a*P+b*Q+c*R=t):eqI (w64 (w64 (w64 (a*w64 P)+w64 (b*w64 Q))+w64 (c*w64 R))) (w64 t)=true:=by
 have e:w64 (w64 (w64 (a*w64 P)+w64 (b*w64 Q))+w64 (c*w64 R))=w64 t:=by simp only[wmr,wal,war];rw[h]
 rw[e,zBy]
theorem sq_w(p1 p2 p3 p4 q1 q2 q3 q4:Int):zA9 (w64 p1,w64 p2,w64 p3,w64 p4) (w64 q1,w64 q2,w64 q3,w64 q4)=some ((w64 (p1*q1),w64 (p1*q2+p2*q1),w64 (p2*q2)),(w64 (p1*q3+p3*q1),w64 (p1*q4+p2*q3+p3*q2+p4*q1),w64 (p2*q4+p4*q2)),(w64 (p3*q3),w64 (p3*q4+p4*q3),w64 (p4*q4))):=by have z1:∀a b c:Int,w64 (w64 a+b+c)=w64 (a+b+c):=fun a b c=>zAa (by simp only[zHb,zFT]);have z2:∀a:Int,w64 (w64 a)=w64 a:=fun a=>zAa (zFT a);have z3:∀a b c d:Int,w64 (w64 a+b+c+d)=w64 (a+b+c+d):=fun a b c d=>zAa (by simp only[zHb,zFT]);simp only[zA9,zO,wml,wmr,wal,war,Int.zero_add,z1,z2,z3]
theorem k8_s0(p q:M4):slc (k8 p q).length 0 4=some ():=rfl
theorem k8_s4(p q:M4):slc (k8 p q).length 4 ((k8 p q).length:Int)=some ():=rfl
theorem k8_g0(p q:M4):getI (subl (k8 p q) 0 4) 0=some (w64 p.1):=rfl
theorem k8_g1(p q:M4):getI (subl (k8 p q) 0 4) 1=some (w64 p.2.1):=rfl
theorem k8_g2(p q:M4):getI (subl (k8 p q) 0 4) 2=some (w64 p.2.2.1):=rfl
theorem k8_g3(p q:M4):getI (subl (k8 p q) 0 4) 3=some (w64 p.2.2.2):=rfl
theorem k8_h0(p q:M4):getI (subl (k8 p q) 4 ((k8 p q).length:Int)) 0=some (w64 q.1):=rfl
theorem k8_h1(p q:M4):getI (subl (k8 p q) 4 ((k8 p q).length:Int)) 1=some (w64 q.2.1):=rfl
theorem k8_h2(p q:M4):getI (subl (k8 p q) 4 ((k8 p q).length:Int)) 2=some (w64 q.2.2.1):=rfl
theorem k8_h3(p q:M4):getI (subl (k8 p q) 4 ((k8 p q).length:Int)) 3=some (w64 q.2.2.2):=rfl
theorem z8v(p q:M4):eqI (((k8 p q).length:Nat):Int) 8=true:=rfl
theorem k8_lt(p q:M4):(k8 p q).length<1000000:=by simp[k8]
theorem z4V{f g h:F3}{p q:M4}(hc:Cf9 f g h p q){y27 y28 y29:F3×F3×F3}(e1:zA9 (w4 p) (w4 p)=some y27)(e2:zA9 (w4 p) (w4 q)=some y28)(e3:zA9 (w4 q) (w4 q)=some y29):
  eqI (w64 ((w64 ((w64 (h.1*y27.1.1))+(w64 (h.2.1*y28.1.1))))+(w64 (h.2.2*y29.1.1)))) (w64 (f.1*g.1))=true∧eqI (w64 ((w64 ((w64 (h.1*y27.1.2.1))+(w64 (h.2.1*y28.1.2.1))))+(w64 (h.2.2*y29.1.2.1)))) (w64 (f.1*g.2.1))=true∧eqI (w64 ((w64 ((w64 (h.1*y27.1.2.2))+(w64 (h.2.1*y28.1.2.2))))+(w64 (h.2.2*y29.1.2.2)))) (w64 (f.1*g.2.2))=true∧
  eqI (w64 ((w64 ((w64 (h.1*y27.2.1.1))+(w64 (h.2.1*y28.2.1.1))))+(w64 (h.2.2*y29.2.1.1)))) (w64 (f.2.1*g.1))=true∧eqI (w64 ((w64 ((w64 (h.1*y27.2.1.2.1))+(w64 (h.2.1*y28.2.1.2.1))))+(w64 (h.2.2*y29.2.1.2.1)))) (w64 (f.2.1*g.2.1))=true∧eqI (w64 ((w64 ((w64 (h.1*y27.2.1.2.2))+(w64 (h.2.1*y28.2.1.2.2))))+(w64 (h.2.2*y29.2.1.2.2)))) (w64 (f.2.1*g.2.2))=true∧
  eqI (w64 ((w64 ((w64 (h.1*y27.2.2.1))+(w64 (h.2.1*y28.2.2.1))))+(w64 (h.2.2*y29.2.2.1)))) (w64 (f.2.2*g.1))=true∧eqI (w64 ((w64 ((w64 (h.1*y27.2.2.2.1))+(w64 (h.2.1*y28.2.2.2.1))))+(w64 (h.2.2*y29.2.2.2.1)))) (w64 (f.2.2*g.2.1))=true∧eqI (w64 ((w64 ((w64 (h.1*y27.2.2.2.2))+(w64 (h.2.1*y28.2.2.2.2))))+(w64 (h.2.2*y29.2.2.2.2)))) (w64 (f.2.2*g.2.2))=true:=by
 unfold w4 at e1 e2 e3;rw[sq_w]at e1 e2 e3;have e1:=zD e1;have e2:=zD e2;have e3:=zD e3;rw[←e1,←e2,←e3];obtain⟨c00,c01,c02,c10,c11,c12,c20,c21,c22⟩:=hc;exact⟨nine c00,nine c01,nine c02,nine c10,nine c11,nine c12,nine c20,nine c21,nine c22⟩
theorem zX4(p q:M4):∃y,zA9 p q=some y:=by simp only[zA9,zO];exact⟨_,rfl⟩
theorem z0k{D:Int}{f g h:F3}{p q:M4}(hf:CFc D f)(hg:CFc D g)(hh:CFc D h)(hr:PrRc D h)(hc:Cf9 f g h p q)(hall:(k8 p q).all inN=true):zBt f g h (k8 p q)=some (true,true):=by
 have hred:zX h=some true:=by have:=zH1 (a:=h.1) (b:=h.2.1) (c:=h.2.2) hr.1 hh.2.2.1.1.aM;rw[zb hr.2.1]at this;exact this
 obtain⟨y27,e1⟩:=zX4 (w4 p) (w4 p);obtain⟨y28,e2⟩:=zX4 (w4 p) (w4 q);obtain⟨y29,e3⟩:=zX4 (w4 q) (w4 q);obtain⟨n1,n2,n3,n4,n5,n6,n7,n8,n9⟩:=z4V hc e1 e2 e3;unfold w4 at e1 e2 e3;have hn:=zGH _ (k8_lt p q);rw[hall]at hn;unfold zBt;rw[(zQ9 hf hg).1,Option.bind_some,Bool.not_true,cond_false,(zQ9 hf hh).1];simp only[Option.bind_some,Bool.not_true,cond_false,hred,z8v,hn,k8_s0,k8_s4,k8_g0,k8_g1,k8_g2,k8_g3,k8_h0,k8_h1,k8_h2,k8_h3,e1,e2,e3,n1,n2,n3,n4,n5,n6,n7,n8,n9]
theorem z5L{f:F3}{n:Int}(h:zFJ f n=some true):zT (kA6,[f],[],[n])=some true:=by
 simp only[zT,eqS,show decide (kA6=(⟨#[101,113,117,105,118,97,108,101,110,116]⟩:qd))=false by decide,show decide (kA6=(⟨#[100,105,102,102,101,114,101,110,116]⟩:qd))=false by decide,show decide (kA6=(⟨#[118,97,108,117,101]⟩:qd))=false by decide,
  show decide (kA6=(⟨#[111,98,115,116,114,117,99,116,105,111,110]⟩:qd))=false by decide,show decide (kA6=(⟨#[99,111,109,112,111,115,105,116,101]⟩:qd))=false by decide,show decide (kA6=(⟨#[111,114,100,101,114]⟩:qd))=true by decide,Option.bind_some,za,cond_false,gi0,h]
theorem z64{f:F3}{t:qd}(h:jR f=some (t,true)):zG t=some 2:=by
 obtain⟨cb,hcb⟩:=zI5 f;cases cb with
 |false=>simp only[jR,zBg,hcb,Option.bind_some,zf,za]at h;cases h
 |true=>
  have hf:=zUb hcb;obtain⟨r,r1,r2,r3,r4,r5⟩:=z0l hf.2.2.2.2 hf;have hr:zBg f=some ((r:Int),true):=by simp only[zBg,hcb,r1,Option.bind_some,Bool.not_true,cond_false]
  obtain⟨t1,t2,t3⟩:=zZa (r:=r) (by omega);obtain⟨ha,hb,hc,_⟩:=zD7 (a:=f.1) (b:=f.2.1) (c:=f.2.2) hcb;have e1:(⟨#[111,114,100,101,114]⟩:qd)=bl [111,114,100,101,114]:=rfl;have hL:∀y∈[111,114,100,101,114]::[fB f,Go.Lib.itoa (r:Int)],y.length≤1000:=by
   intro y hy;simp only[zj,zo,or_false]at hy;rcases hy with rfl|rfl|rfl
   ·decide
   ·exact Nat.le_trans (zDC (zF9 ha) (zF9 hb) (zF9 hc)) (by omega)
   ·omega
  have p2:=zEo [111,114,100,101,114] [fB f,Go.Lib.itoa (r:Int)] (by simp) (by simp) hL;simp only[List.map_cons,zp]at p2;simp only[jR,hr,Option.bind_some,Bool.not_true,cond_false,jA (zF9 ha) (zF9 hb) (zF9 hc),t2,e1,p2]at h;have ht:=(Prod.mk.inj (zD h)).1;rw[←ht];refine zFB (k:=[111,114,100,101,114]) (t:=⟨#[102,110]⟩) (W:=[.f f,.n (r:Int)]) (zUI rfl) (by decide) (by decide+kernel) rfl (by simp) (by simp) ?_ (z5L ?_)
  ·intro w hw;simp only[zj,zo,or_false]at hw;rcases hw with rfl|rfl
   ·exact⟨zGY ha,zGY hb,zGY hc⟩
   ·exact⟨by omega,by omega⟩
  ·simp only[zFJ,hcb,r1,Option.bind_some,qK,zb (show (1:Int)≤(r:Int) by omega),za,zGK]
theorem z5P{f g h:F3}{N:List Int}(e:zBt f g h N=some (true,true)):zT (kA5,[f,g,h],[],N)=some true:=by
 simp only[zT,eqS,show decide (kA5=(⟨#[101,113,117,105,118,97,108,101,110,116]⟩:qd))=false by decide,show decide (kA5=(⟨#[100,105,102,102,101,114,101,110,116]⟩:qd))=false by decide,show decide (kA5=(⟨#[118,97,108,117,101]⟩:qd))=false by decide,
  show decide (kA5=(⟨#[111,98,115,116,114,117,99,116,105,111,110]⟩:qd))=false by decide,show decide (kA5=(⟨#[99,111,109,112,111,115,105,116,101]⟩:qd))=true by decide,Option.bind_some,za,cond_false,gi0,gi1,gi2,e]
theorem z7E{f g:F3}{t:qd}(h:qF f g=some (t,true)):zG t=some 2:=by
 have hF:=FUge;obtain⟨pb,p1,p2,p3⟩:=zZ6 f g;cases pb with
 |false=>simp only[qF,zAK,p1,Option.bind_some,zf,za]at h;cases h
 |true=>
  obtain⟨D,hf,hg⟩:=p3 rfl;obtain⟨h',p,q,e1,e2,e4,e5⟩:=z2Q hf hg;cases hall:(k8 p q).all inN with
  |false=>
   have ecp:cpR h' (k8 p q)=((0,0,0),[],false):=by unfold cpR;rw[hall];rfl
   rw[ecp]at e1;simp only[qF,e1,Option.bind_some,zf,za]at h;cases h
  |true=>
   have ecp:cpR h' (k8 p q)=(h',k8 p q,true):=by unfold cpR;rw[hall];rfl
   rw[ecp]at e1 e2;have hh:=z2V hf.2.2.2.1 hf.2.2.2.2 e4;obtain⟨fa,fb,fc,_⟩:=zD7 (a:=f.1) (b:=f.2.1) (c:=f.2.2) hf.1;obtain⟨ga,gb,gc,_⟩:=zD7 (a:=g.1) (b:=g.2.1) (c:=g.2.2) hg.1;obtain⟨ha,hb,hc,_⟩:=zD7 (a:=h'.1) (b:=h'.2.1) (c:=h'.2.2) hh.1;have hin:∀x∈k8 p q,inN x=true:=List.all_eq_true.1 hall;have hlen:(k8 p q).length=8:=rfl;have e9:(⟨#[99,111,109,112,111,115,105,116,101]⟩:qd)=bl [99,111,109,112,111,115,105,116,101]:=rfl;obtain⟨a1,_⟩:=zY7 (h:=h') (b:=true) (l:=k8 p q) (by omega) hin 8 FU 0 [bl (fB f),bl (fB g),bl (fB h')] (by omega) (by omega) (by simp);have e0:(((0:Nat):Int))=0:=rfl;rw[e0,List.drop_zero]at a1;have hL:∀y∈[99,111,109,112,111,115,105,116,101]::(fB f::fB g::fB h'::(k8 p q).map Go.Lib.itoa),y.length≤1000:=by
    intro y hy;rcases List.mem_cons.1 hy with rfl|hy
    ·decide
    rcases List.mem_cons.1 hy with rfl|hy
    ·exact Nat.le_trans (zDC (zAB fa) (zAB fb) (zAB fc)) (by omega)
    rcases List.mem_cons.1 hy with rfl|hy
    ·exact Nat.le_trans (zDC (zAB ga) (zAB gb) (zAB gc)) (by omega)
    rcases List.mem_cons.1 hy with rfl|hy
    ·exact Nat.le_trans (zDC (zAB ha) (zAB hb) (zAB hc)) (by omega)
    obtain⟨x,hx,rfl⟩:=List.mem_map.1 hy;have:=qR (zAB (hin x hx));omega
   have t2:=zEo [99,111,109,112,111,115,105,116,101] (fB f::fB g::fB h'::(k8 p q).map Go.Lib.itoa) (by simp) (by simp[k8]) hL;simp only[List.map_cons,List.map_map]at t2;have em:∀l:List Int,l.map (fun x=>bl (Go.Lib.itoa x))=l.map (bl∘Go.Lib.itoa):=fun l=>rfl;rw[em]at a1;simp only[List.cons_append,zq]at a1;simp only[qF,e1,Option.bind_some,Bool.not_true,cond_false,jA (zAB fa) (zAB fb) (zAB fc),jA (zAB ga) (zAB gb) (zAB gc),jA (zAB ha) (zAB hb) (zAB hc),e9,a1,t2]at h;have ht:=(Prod.mk.inj (zD h)).1;rw[←ht];have hW:Wd.tx (.f f)::Wd.tx (.f g)::Wd.tx (.f h')::((k8 p q).map Wd.n).map Wd.tx=fB f::fB g::fB h'::(k8 p q).map Go.Lib.itoa:=by rw[List.map_map];rfl
   have hwN:∀l:List Int,wN (l.map Wd.n)=l:=fun l=>by
    induction l with
    |nil=>rfl
    |cons a l ih=>show a::wN (l.map Wd.n)=_;rw[ih]
   have:=zFB (k:=[99,111,109,112,111,115,105,116,101]) (t:=⟨#[102,102,102,110,110,110,110,110,110,110,110]⟩) (W:=.f f::.f g::.f h'::(k8 p q).map Wd.n) (zUI rfl) (by decide) (by decide+kernel) rfl (by simp[k8]) (by simp) (by
    intro w hw;rcases List.mem_cons.1 hw with rfl|hw
    ·exact⟨zGY fa,zGY fb,zGY fc⟩
    rcases List.mem_cons.1 hw with rfl|hw
    ·exact⟨zGY ga,zGY gb,zGY gc⟩
    rcases List.mem_cons.1 hw with rfl|hw
    ·exact⟨zGY ha,zGY hb,zGY hc⟩
    obtain⟨x,hx,rfl⟩:=List.mem_map.1 hw;exact zGY (hin x hx)) (z5P (z0k hf hg hh e4 (z9R e5) hall))
   exact this
theorem z5K{d T U:Int}(hT:inN T=true)(hU:inN U=true)(h:T*T=d*U*U+4)(hd1:0≤d)(hd2:d≤1000):zT (kA9,[],[],[d,T,U])=some true:=by
 have iT:=qO.1 hT;have hTT:T*T≤1000000*1000000:=by have:=zN (x:=T) (y:=T) (A:=1000000) (B:=1000000) (by omega) (by omega);omega
 have hw:w64 (w64 (T*T) - w64 (w64 (d*U)*U))=4:=by
  have e:w64 (w64 (T*T) - w64 (w64 (d*U)*U))=w64 (T*T - d*U*U):=zAa (by simp only[zMb,zJ1,zFT]);rw[e,h];have:d*U*U+4 - d*U*U=4:=by omega
  rw[this];rfl
 have ha:zD5 4=some 4:=by rw[zYa (by decide)];rfl
 simp only[zT,eqS,show decide (kA9=(⟨#[101,113,117,105,118,97,108,101,110,116]⟩:qd))=false by decide,show decide (kA9=(⟨#[100,105,102,102,101,114,101,110,116]⟩:qd))=false by decide,show decide (kA9=(⟨#[118,97,108,117,101]⟩:qd))=false by decide,
  show decide (kA9=(⟨#[111,98,115,116,114,117,99,116,105,111,110]⟩:qd))=false by decide,show decide (kA9=(⟨#[99,111,109,112,111,115,105,116,101]⟩:qd))=false by decide,show decide (kA9=(⟨#[111,114,100,101,114]⟩:qd))=false by decide,show decide (kA9=(⟨#[114,111,111,116]⟩:qd))=false by decide,
  show decide (kA9=(⟨#[97,117,116,111,109,111,114,112,104]⟩:qd))=false by decide,Option.bind_some,za,cond_false,gi0,gi1,gi2,hw,ha,zGK]
theorem z60{d:Int}{t:qd}(h:qJ d=some (t,true)):zG t=some 2:=by
 obtain⟨t',b,_,h2,_,h4⟩:=z1p d;rw[h]at h2;have h2:=zD h2;have e1:=(Prod.mk.inj h2).1;have e2:=(Prod.mk.inj h2).2;subst e1 e2;obtain⟨T,U,ht,hT,hU,hs,hd⟩:=h4 rfl;have hdn:NB d:=⟨by omega,by omega⟩
 rw[ht];refine zFB (k:=[115,111,108,117,116,105,111,110]) (t:=⟨#[110,110,110]⟩) (W:=[.n d,.n T,.n U]) (zUI rfl) (by decide) (by decide+kernel) rfl (by simp) (by simp) ?_ (z5K hT hU hs (by omega) (by omega))
 intro w hw;simp only[zj,zo,or_false]at hw;rcases hw with rfl|rfl|rfl
 ·exact hdn
 ·exact zGY hT
 ·exact zGY hU
def zAd(y86:((List qd)×Bool))(y87:((List qd)×Bool)):Nat→Int→Option (Unit ⊕ Bool)
 |0,_=>none
 |n+1,t91=>
  bif (ltI t91 ((y86.1.length:Int))) then
   (
    (getI y86.1 t91).bind fun e95=>
    (getI y86.1 t91).bind fun e96=>
    (getI y87.1 t91).bind fun e97=>
    (getI y87.1 t91).bind fun e98=>
    (bif (!(e96.toList==e98.toList)) then some true else ((zG e96).bind fun y100=>some (!eqI y100 2))).bind fun b101=>
    bif b101 then
     (
      some (.inr false)
     )
    else
     (
      sI (w64 (t91+1)) fun t103=>
      zAd y86 y87 n t103
     )
   )
  else
   (
    some (.inl ())
   )
def zEV(code1:List Int)(more2:List Int):Option Bool:=
 (zEU code1 more2).bind fun y3=>
 bif y3 then
  (
   some true
  )
 else
  (
   (jP code1).bind fun y5=>
   (qB y5.1 y5.2).bind fun y6=>
   (zAq y5.1 y5.2).bind fun y7=>
   (zU y5.1 y5.2).bind fun y8=>
   (zAi y5.1 y5.2).bind fun y9=>
   (bif (bif (bif (bif (y6.2 != y7.2) then true else (!(y6.1.toList==y7.1.toList))) then true else (y8.2 != y9.2)) then true else (!(y8.1.toList==y9.1.toList))) then some true else (some (bif y6.2 then y8.2 else false))).bind fun b15=>
   (bif b15 then some true else ((bif y6.2 then ((zG y6.1).bind fun y18=>some (!eqI y18 2)) else some false).bind fun b19=>some b19)).bind fun b20=>
   (bif b20 then some true else ((bif y8.2 then ((zG y8.1).bind fun y23=>some (!eqI y23 2)) else some false).bind fun b24=>some b24)).bind fun b25=>
   bif b25 then
    (
     some false
    )
   else
    (
     ((
      bif (bif y6.2 then true else y8.2) then
       (
        (zBv y5.1 y5.2).bind fun y30=>
        bif (bif (!y30.2) then true else (y30.1 != y8.2)) then
         (
          some (.inr false)
         )
        else
         (
          some (.inl ())
         )
       )
      else
       (
        some (.inl ())
       )
     ):Option (Unit ⊕ Bool)).bind fun qo27=>
     match qo27 with
     | .inr r=>some r
     | .inl o27=>
      (zAx more2).bind fun y33=>
      (zAe y33.1 y33.2).bind fun y34=>
      (zBr y33.1 y33.2).bind fun y35=>
      (bif (bif (y34.2 != y35.2) then true else (!(y34.1.toList==y35.1.toList))) then some true else ((bif y34.2 then ((zG y34.1).bind fun y39=>some (!eqI y39 2)) else some false).bind fun b40=>some b40)).bind fun b41=>
      bif b41 then
       (
        some false
       )
      else
       (
        (zAQ more2).bind fun y43=>
        (jL y43.1 y43.2).bind fun y44=>
        (zAh y43.1 y43.2).bind fun y45=>
        (some (bif (y44.2 != y45.2) then true else (!(y44.1.toList==y45.1.toList)))).bind fun t47=>
        bif t47 then
         (
          some false
         )
        else
         (
          ((
           bif y44.2 then
            (
             (zAt y43.1 y43.2).bind fun y51=>
             (zG y44.1).bind fun y52=>
             (some (bif (bif (!eqI y52 2) then true else (!y51.2)) then true else (!eqI ((y51.1.length:Int)) 0))).bind fun t55=>
             bif t55 then
              (
               some (.inr false)
              )
             else
              (
               some (.inl ())
              )
            )
           else
            (
             some (.inl ())
            )
          ):Option (Unit ⊕ Bool)).bind fun qo49=>
          match qo49 with
          | .inr r=>some r
          | .inl o49=>
           (zA1 more2).bind fun y57=>
           (qF y57.1 y57.2).bind fun y58=>
           (jZ y57.1 y57.2).bind fun y59=>
           (jR y57.1).bind fun y60=>
           (zBG y57.1).bind fun y61=>
           (bif (bif (bif (bif (y58.2 != y59.2) then true else (!(y58.1.toList==y59.1.toList))) then true else (y60.2 != y61.2)) then true else (!(y60.1.toList==y61.1.toList))) then some true else ((bif y58.2 then ((zG y58.1).bind fun y67=>some (!eqI y67 2)) else some false).bind fun b68=>some b68)).bind fun b69=>
           (bif b69 then some true else ((bif y60.2 then ((zG y60.1).bind fun y72=>some (!eqI y72 2)) else some false).bind fun b73=>some b73)).bind fun b74=>
           bif b74 then
            (
             some false
            )
           else
            (
             (zBN more2).bind fun y76=>
             (qJ y76).bind fun y77=>
             (qY y76).bind fun y78=>
             (bif (bif (y77.2 != y78.2) then true else (!(y77.1.toList==y78.1.toList))) then some true else ((bif y77.2 then ((zG y77.1).bind fun y82=>some (!eqI y82 2)) else some false).bind fun b83=>some b83)).bind fun b84=>
             bif b84 then
              (
               some false
              )
             else
              (
               (jU y5.1).bind fun y86=>
               (zAU y5.1).bind fun y87=>
               (some (bif (y86.2 != y87.2) then true else (!eqI ((y86.1.length:Int)) ((y87.1.length:Int))))).bind fun t89=>
               bif t89 then
                (
                 some false
                )
               else
                (
                 (zAd y86 y87 FU 0).bind fun qo93=>
                 match qo93 with
                 | .inr r=>some r
                 | .inl o93=>some true
                )
              )
            )
         )
       )
    )
  )
theorem zZp(f:F3):∃D,qT f=some D:=by obtain⟨a,b,c⟩:=f;exact⟨_,by rw[zGL,zU5]⟩
theorem z52{code:List Int}(h1:code.length≤1048576)(h2:∀x∈code,0≤x∧x≤255):OkO (zBe code) (fun _=>True):=by
 unfold zBe;refine (zOP (CurB.start h1 h2) (by omega)).bind fun y2 hy=>?_
 obtain⟨b,hb⟩:=zEb y2.1;have e:jO y2.1=some b:=by rw[zND,hb]
 rw[e,Option.bind_some];refine OkO.bind (Q:=fun b6:Bool×Cur3=>CurB 100 b6.2) (OkO.cond (fun _=>(z8A 4 hy (by omega)).bind fun y5 h5=>OkO.some (h5.up (by omega))) fun _=>OkO.some (hy.up (by omega))) fun b6 h6=>?_
 refine OkO.cond (fun _=>(zZc y2.1 h6 (by omega)).bind fun y8 _=>OkO.some trivial) fun _=>?_
 obtain⟨D,hD⟩:=zZp y2.1;rw[Option.bind_some,hD];simp only[Option.bind_some,z1q];cases hok:decide (OkD D) with
 |false=>
  cases b
  all_goals exact (zOP h6 (by omega)).bind fun y18 _=>OkO.some trivial
 |true=>
  cases b with
  |false=>exact (zOP h6 (by omega)).bind fun y18 _=>OkO.some trivial
  |true=>obtain⟨g,c',e2,_,h7⟩:=zG3 (of_decide_eq_true hok) h6 (by omega);simp only[za,Option.bind_some,e2];exact (zZc g h7 (by omega)).bind fun y17 _=>OkO.some trivial
theorem z9J{code:List Int}(h1:code.length≤1048576)(h2:∀x∈code,0≤x∧x≤255):∃p,jP code=some p:=by
 have h:OkO (jP code) (fun _=>True):=by
  unfold jP;refine (z8A 2 (CurB.start h1 h2) (by omega)).bind fun y2 hy=>?_
  exact OkO.cond (fun _=>(z52 h1 h2).bind fun y4 _=>OkO.some trivial) fun _=>(zPf hy (by omega)).bind fun y5 _=>OkO.some trivial
 obtain⟨p,hp,_⟩:=h;exact⟨p,hp⟩
theorem z8R{code:List Int}(h1:code.length≤1048576)(h2:∀x∈code,0≤x∧x≤255):∃p,zAx code=some p:=by obtain⟨y,e,_⟩:=z3b (CurB.start h1 h2) (by omega);exact⟨(y.1,y.2.1),by simp only[zAx,zCF,e,Option.bind_some]⟩
theorem z8p{code:List Int}(h1:code.length≤1048576)(h2:∀x∈code,0≤x∧x≤255):∃p,zAQ code=some p:=by obtain⟨d,c1,e1,k1⟩:=z2P (CurB.start h1 h2) (by omega);obtain⟨x,c2,e2,_,_,_,k2⟩:=qW 400 k1 (by omega);obtain⟨y,c3,e3,_,_,_,k3⟩:=qW 10000 k2 (by omega);obtain⟨z,c4,e4,_,k4⟩:=zGP (l:=[w64 (1+x),w64 (1+y),0,10001,2503,9973]) (by simp) k3 (by omega);exact⟨(d,z),by simp only[zAQ,e1,e2,e3,e4,Option.bind_some]⟩
theorem z9S{code:List Int}(h1:code.length≤1048576)(h2:∀x∈code,0≤x∧x≤255):∃p,zA1 code=some p:=by obtain⟨y,e,_⟩:=zPf (CurB.start h1 h2) (by omega);exact⟨(y.1,y.2.1),by simp only[zA1,e,Option.bind_some]⟩
theorem z8l{code:List Int}(h1:code.length≤1048576)(h2:∀x∈code,0≤x∧x≤255):∃p,zBN code=some p:=by obtain⟨d,c',e,_⟩:=zZ0 (CurB.start h1 h2) (by omega);exact⟨d,by simp only[zBN,zCG,e,Option.bind_some]⟩
theorem tlS(x:qd):(x.toList==x.toList)=true:=beq_self_eq_true _
theorem bindF{α:Type}{x:Option Bool}{f:Bool→Option α}{r:Option α}(h:x=some false)(h2:f false=r):x.bind f=r:=by rw[h];exact h2
theorem z8I{α:Type}{x:Option (Unit ⊕ Bool)}{f:Unit ⊕ Bool→Option α}{r:Option α}(h:x=some (.inl ()))(h2:f (.inl ())=r):x.bind f=r:=by rw[h];exact h2
theorem ckB{t:qd}{b:Bool}(h:b=true→zG t=some 2):(bif b then ((zG t).bind fun y=>some (!eqI y 2)) else some false:Option Bool)=some false:=by
 cases b with
 |false=>rfl
 |true=>rw[za,h rfl];rfl
theorem cvL{l:List qd}{b:Bool}(hl:l.length≤50)(hx:∀x∈l,zG x=some 2):∀(fu k:Nat),k≤l.length→l.length - k<fu→zAd (l,b) (l,b) fu (k:Int)=some (.inl ())
 |0,k,h0,h1=>by omega
 |fu+1,k,h0,h1=>by
  unfold zAd;dsimp only;rw[zS];by_cases hk:k<l.length
  ·rw[zb (by omega),za,zDz hk];simp only[Option.bind_some,tlS,Bool.not_true,cond_false,hx _ (zt hk),zO,zEJ (show k<1000000000 by omega),zBy];exact cvL hl hx fu (k+1) (by omega) (by omega)
  ·rw[zc (by omega),cond_false]
theorem zQ5(code more:List Int)(hc8:∀x∈code,0≤x∧x≤255)(hm8:∀x∈more,0≤x∧x≤255):zEV code more=some true:=by
 have hF:200000000<FU:=by decide
 unfold zEV;rcases z3S code more with h|⟨h,hc,hm⟩
 ·rw[h];rfl
 ·obtain⟨p,p1⟩:=z9J hc hc8;obtain⟨q,q1⟩:=z8R hm hm8;obtain⟨o,o1⟩:=z8p hm hm8;obtain⟨a,a1⟩:=z9S hm hm8;obtain⟨k,k1⟩:=z8l hm hm8;obtain⟨s,ok,s1,s2,_⟩:=z6y p.1 p.2;obtain⟨t,one,t1,t2,_⟩:=z4t p.1 p.2;obtain⟨e1,e2,e3,e4⟩:=eq_df s2 t2;obtain⟨v,three,v1,v2,_⟩:=z6M q.1 q.2;have v3:three=true→zG v=some 2:=fun hh=>by subst hh;exact z6L v2
  obtain⟨w,five,w1,w2,_⟩:=z67 o.1 o.2;have w3:five=true→zG w=some 2∧zAt o.1 o.2=some ([],true):=fun hh=>by subst hh;exact z66 w2
  obtain⟨c,seven,c1,c2,_⟩:=z7F a.1 a.2;have c3:seven=true→zG c=some 2:=fun hh=>by subst hh;exact z7E c2
  obtain⟨x,nine,x1,x2,_⟩:=z65 a.1;have x3:nine=true→zG x=some 2:=fun hh=>by subst hh;exact z64 x2
  obtain⟨y,el,y1,y2,_⟩:=z1p k;have y3:el=true→zG y=some 2:=fun hh=>by subst hh;exact z60 y2
  obtain⟨l,last,l1,l2,l3,_⟩:=z22 p.1;have l4:=z7M l2;rw[h,Option.bind_some,cond_false,p1,Option.bind_some,s2,Option.bind_some,s1,Option.bind_some,t2,Option.bind_some,t1,Option.bind_some];dsimp only;simp only[bne_self_eq_false,tlS,Bool.not_true,cond_false];refine bindF ?_ ?_
  ·cases ok with
   |false=>rfl
   |true=>
    cases one with
    |true=>exact absurd e1 (by decide)
    |false=>rfl
  rw[cond_false,ckB e2,Option.bind_some,Option.bind_some,cond_false,ckB e3,Option.bind_some,Option.bind_some,cond_false];refine z8I ?_ ?_
  ·have hb:(bif ok then true else one)=(ok||one):=by cases ok<;>rfl
   rw[hb];cases hh:ok||one with
   |false=>rfl
   |true=>rw[za,e4 hh];simp only[Option.bind_some,Bool.not_true,cond_false,bne_self_eq_false]
  dsimp only;rw[q1,Option.bind_some,v2,Option.bind_some,v1,Option.bind_some];dsimp only;simp only[bne_self_eq_false,tlS,Bool.not_true,cond_false];rw[ckB v3,Option.bind_some,Option.bind_some,cond_false,o1,Option.bind_some,w2,Option.bind_some,w1,Option.bind_some];dsimp only;simp only[bne_self_eq_false,tlS,Bool.not_true,cond_false,Option.bind_some];refine z8I ?_ ?_
  ·cases five with
   |false=>rfl
   |true=>obtain⟨w4,w5⟩:=w3 rfl;rw[za,w5,Option.bind_some,w4,Option.bind_some];rfl
  dsimp only;rw[a1,Option.bind_some,c2,Option.bind_some,c1,Option.bind_some,x2,Option.bind_some,x1,Option.bind_some];dsimp only;simp only[bne_self_eq_false,tlS,Bool.not_true,cond_false];rw[ckB c3,Option.bind_some,Option.bind_some,cond_false,ckB x3,Option.bind_some,Option.bind_some,cond_false,k1,Option.bind_some,y2,Option.bind_some,y1,Option.bind_some];dsimp only;simp only[bne_self_eq_false,tlS,Bool.not_true,cond_false];rw[ckB y3,Option.bind_some,Option.bind_some,cond_false,l2,Option.bind_some,l1,Option.bind_some];dsimp only;simp only[bne_self_eq_false,zBy,Bool.not_true,cond_false,Option.bind_some];have hrun:=cvL (b:=last) l3 l4 FU 0 (by omega) (by omega);have hrun:zAd (l,last) (l,last) FU 0=some (.inl ()):=hrun;rw[hrun];rfl
end Go.Proofs.YtnjhhbcccgbbnaaGreatDoor
namespace Go.Proofs
def Tryz.lays156_ren:Go.Shelf.Ren:=⟨fun|156=>95|165=>181|166=>182|169=>183|240=>235|241=>236|276=>262|277=>263|n=>n,fun|31=>45|9=>9|3=>3|4=>4|0=>0|20=>20|72=>160|76=>164|70=>158|37=>22|75=>163|127=>191|164=>210|5=>5|80=>104|n=>n,fun|n=>n⟩
theorem Tryz.lays156:Go.Proofs.Lays.n156 Tryz.prog Tryz.lays156_ren:={
 mixed:=by kernel_rfl
 f156:=Tryz.func95.trans (congrArg some (by kernel_rfl))
 f165:=Tryz.func181.trans (congrArg some (by kernel_rfl))
 f166:=Tryz.func182.trans (congrArg some (by kernel_rfl))
 f169:=Tryz.func183.trans (congrArg some (by kernel_rfl))
 f240:=Tryz.func235.trans (congrArg some (by kernel_rfl))
 f241:=Tryz.func236.trans (congrArg some (by kernel_rfl))
 f276:=Tryz.func262.trans (congrArg some (by kernel_rfl))
 f277:=Tryz.func263.trans (congrArg some (by kernel_rfl))
 t0:=Tryz.underlying0
 a0:=Tryz.isAgg0
 z0:=Tryz.sizeOf0
 v0:=Tryz.zeroValue0
 t3:=Tryz.underlying3
 a3:=Tryz.isAgg3
 z3:=Tryz.sizeOf3
 v3:=Tryz.zeroValue3
 t4:=Tryz.underlying4
 a4:=Tryz.isAgg4
 z4:=Tryz.sizeOf4
 v4:=Tryz.zeroValue4
 t9:=Tryz.underlying9
 a9:=Tryz.isAgg9
 z9:=Tryz.sizeOf9
 v9:=Tryz.zeroValue9
 t20:=Tryz.underlying20
 a20:=Tryz.isAgg20
 z20:=Tryz.sizeOf20
 v20:=Tryz.zeroValue20
 t31:=Tryz.underlying45
 a31:=Tryz.isAgg45
 z31:=Tryz.sizeOf45
 v31:=Tryz.zeroValue45
 t37:=Tryz.underlying22
 a37:=Tryz.isAgg22
 z37:=Tryz.sizeOf22
 v37:=Tryz.zeroValue22
 t70:=Tryz.underlying158
 a70:=Tryz.isAgg158
 z70:=Tryz.sizeOf158
 v70:=Tryz.zeroValue158
 t72:=Tryz.underlying160
 a72:=Tryz.isAgg160
 z72:=Tryz.sizeOf160
 v72:=Tryz.zeroValue160
 t75:=Tryz.underlying163
 a75:=Tryz.isAgg163
 z75:=Tryz.sizeOf163
 v75:=Tryz.zeroValue163
 t76:=Tryz.underlying164
 a76:=Tryz.isAgg164
 z76:=Tryz.sizeOf164
 v76:=Tryz.zeroValue164
 t127:=Tryz.underlying191
 a127:=Tryz.isAgg191
 z127:=Tryz.sizeOf191
 v127:=Tryz.zeroValue191
 t164:=Tryz.underlying210
 a164:=Tryz.isAgg210
 z164:=Tryz.sizeOf210
 v164:=Tryz.zeroValue210}
theorem Tryz.Builder_Extra_156:Builder.Extra Tryz.prog Tryz.lays156_ren:={
 sizeBuilder:=by kernel_rfl
 liesBuilder:=by kernel_rfl
 t5:=Tryz.underlying5
 a5:=Tryz.isAgg5
 z5:=Tryz.sizeOf5
 v5:=Tryz.zeroValue5
 infoByte:=by kernel_rfl
 cellsByte:=by kernel_rfl
 sizeByte:=by kernel_rfl
 neB5:=by decide}
open Go.RowKit in
theorem Tryz.strings_Join_none(a:Option Addr)(c:Nat)(sep:ByteArray)(w:World):
  Calls Tryz.prog 95 #[.slice a 0 c,.string sep] w fun e w'=>e=.returned (.string ⟨#[]⟩)∧w'=w:=Any.strings_Join_none Tryz.lays156 Tryz.Builder_Extra_156 a c sep w
open Go.RowKit in
theorem Tryz.strings_Join(bk o c:Nat)(xs:List ByteArray)(sep:ByteArray)(w:World)(hcells:∀(j:Nat) x,xs[j]?=some x→w.cell? ⟨bk,o+j,none⟩=some (.string x))(hbk:bk<w.heap.size)(hN:xs.length≤140737488355328)(hcap:xs.length≤c)(hlen:(Lib.join (xs.map (·.data.toList)) sep.data.toList).length≤140737488355328):
  Calls Tryz.prog 95 #[.slice (some ⟨bk,o,none⟩) xs.length c,.string sep] w fun e w'=>e=.returned (.string ⟨(Lib.join (xs.map (·.data.toList)) sep.data.toList).toArray⟩)∧Below w.heap.size w w':=Any.strings_Join Tryz.lays156 Tryz.Builder_Extra_156 bk o c xs sep w hcells hbk hN hcap hlen
def Tryz.laysM171_ren:Go.Shelf.Ren:=⟨fun|171=>58|243=>123|246=>198|283=>245|284=>246|285=>247|286=>248|129=>274|317=>273|318=>275|319=>276|320=>277|337=>291|338=>292|n=>n,fun|3=>3|9=>9|2=>2|4=>4|171=>197|0=>0|53=>55|37=>22|5=>5|173=>200|212=>226|51=>227|20=>20|213=>228|46=>179|232=>250|233=>251|n=>n,fun|17=>0|18=>7|19=>8|n=>n⟩
theorem Tryz.laysM171:Go.Proofs.LaysM.n171 Tryz.prog Tryz.laysM171_ren:={
 mixed:=by kernel_rfl
 f129:=Tryz.func274.trans (congrArg some (by kernel_rfl))
 f171:=Tryz.func58.trans (congrArg some (by kernel_rfl))
 f243:=Tryz.func123.trans (congrArg some (by kernel_rfl))
 f246:=Tryz.func198.trans (congrArg some (by kernel_rfl))
 f283:=Tryz.func245.trans (congrArg some (by kernel_rfl))
 f284:=Tryz.func246.trans (congrArg some (by kernel_rfl))
 f285:=Tryz.func247.trans (congrArg some (by kernel_rfl))
 f286:=Tryz.func248.trans (congrArg some (by kernel_rfl))
 f317:=Tryz.func273.trans (congrArg some (by kernel_rfl))
 f318:=Tryz.func275.trans (congrArg some (by kernel_rfl))
 f319:=Tryz.func276.trans (congrArg some (by kernel_rfl))
 f320:=Tryz.func277.trans (congrArg some (by kernel_rfl))
 f337:=Tryz.func291.trans (congrArg some (by kernel_rfl))
 f338:=Tryz.func292.trans (congrArg some (by kernel_rfl))
 t0:=Tryz.underlying0
 a0:=Tryz.isAgg0
 z0:=Tryz.sizeOf0
 v0:=Tryz.zeroValue0
 t2:=Tryz.underlying2
 a2:=Tryz.isAgg2
 z2:=Tryz.sizeOf2
 v2:=Tryz.zeroValue2
 t3:=Tryz.underlying3
 a3:=Tryz.isAgg3
 z3:=Tryz.sizeOf3
 v3:=Tryz.zeroValue3
 t4:=Tryz.underlying4
 a4:=Tryz.isAgg4
 z4:=Tryz.sizeOf4
 v4:=Tryz.zeroValue4
 t5:=Tryz.underlying5
 a5:=Tryz.isAgg5
 z5:=Tryz.sizeOf5
 v5:=Tryz.zeroValue5
 t9:=Tryz.underlying9
 a9:=Tryz.isAgg9
 z9:=Tryz.sizeOf9
 v9:=Tryz.zeroValue9
 t20:=Tryz.underlying20
 a20:=Tryz.isAgg20
 z20:=Tryz.sizeOf20
 v20:=Tryz.zeroValue20
 t37:=Tryz.underlying22
 a37:=Tryz.isAgg22
 z37:=Tryz.sizeOf22
 v37:=Tryz.zeroValue22
 t46:=Tryz.underlying179
 a46:=Tryz.isAgg179
 z46:=Tryz.sizeOf179
 v46:=Tryz.zeroValue179
 t51:=Tryz.underlying227
 a51:=Tryz.isAgg227
 z51:=Tryz.sizeOf227
 v51:=Tryz.zeroValue227
 t53:=Tryz.underlying55
 a53:=Tryz.isAgg55
 z53:=Tryz.sizeOf55
 v53:=Tryz.zeroValue55
 t171:=Tryz.underlying197
 a171:=Tryz.isAgg197
 z171:=Tryz.sizeOf197
 v171:=Tryz.zeroValue197
 t173:=Tryz.underlying200
 a173:=Tryz.isAgg200
 z173:=Tryz.sizeOf200
 v173:=Tryz.zeroValue200
 t212:=Tryz.underlying226
 a212:=Tryz.isAgg226
 z212:=Tryz.sizeOf226
 v212:=Tryz.zeroValue226
 t213:=Tryz.underlying228
 a213:=Tryz.isAgg228
 z213:=Tryz.sizeOf228
 t232:=Tryz.underlying250
 a232:=Tryz.isAgg250
 z232:=Tryz.sizeOf250
 v232:=Tryz.zeroValue250
 t233:=Tryz.underlying251
 a233:=Tryz.isAgg251
 z233:=Tryz.sizeOf251
 v233:=Tryz.zeroValue251
 g17:=by kernel_rfl
 g18:=by kernel_rfl
 g19:=by kernel_rfl
 i0:=by kernel_rfl
 i2:=by kernel_rfl
 i3:=by kernel_rfl
 i4:=by kernel_rfl
 i5:=by kernel_rfl
 i9:=by kernel_rfl
 i20:=by kernel_rfl
 i37:=by kernel_rfl
 i46:=by kernel_rfl
 i51:=by kernel_rfl
 i53:=by kernel_rfl
 i171:=by kernel_rfl
 i173:=by kernel_rfl
 i212:=by kernel_rfl
 i232:=by kernel_rfl
 i233:=by kernel_rfl
 m17:=by kernel_rfl
 m18:=by kernel_rfl
 m19:=by kernel_rfl}
open Go.RowKit Go.Sort Go.Lib in
theorem Tryz.strconv_Itoa(n:Int)(h0:-9223372036854775808≤n)(h1:n≤9223372036854775807)(w:World)(htab:Lib.TabIs Tryz.prog w "internal/strconv.uint64pow10" .u64 Lib.pow10Tab):
    Calls Tryz.prog 58 #[.int .i64 n] w fun e w'=>e=.returned (.string ⟨(Lib.itoa n).toArray⟩)∧∃k os,w'=grow (w.drewN k) os:=Any.strconv_Itoa Tryz.laysM171 n h0 h1 w htab
def Tryz.laysC172_ren:Go.Shelf.Ren:=⟨fun|172=>191|244=>242|245=>243|247=>268|279=>269|280=>270|281=>271|282=>272|287=>288|316=>289|171=>58|205=>290|321=>297|322=>298|243=>123|246=>198|283=>245|284=>246|285=>247|286=>248|129=>274|317=>273|318=>275|319=>276|320=>277|337=>291|338=>292|n=>n,fun|9=>9|3=>3|75=>163|76=>164|4=>4|5=>5|167=>219|37=>22|0=>0|85=>220|2=>2|168=>222|53=>55|175=>233|46=>179|210=>236|127=>191|145=>249|143=>247|21=>21|171=>197|173=>200|212=>226|51=>227|20=>20|213=>228|232=>250|233=>251|80=>104|n=>n,fun|15=>3|16=>4|17=>0|18=>7|19=>8|n=>n⟩
theorem Tryz.laysC172:Go.Proofs.LaysC.n172 Tryz.prog Tryz.laysC172_ren:={
 mixed:=by kernel_rfl
 f129:=Tryz.func274.trans (congrArg some (by kernel_rfl))
 f171:=Tryz.func58.trans (congrArg some (by kernel_rfl))
 f172:=Tryz.func191.trans (congrArg some (by kernel_rfl))
 f205:=Tryz.func290.trans (congrArg some (by kernel_rfl))
 f243:=Tryz.func123.trans (congrArg some (by kernel_rfl))
 f244:=Tryz.func242.trans (congrArg some (by kernel_rfl))
 f245:=Tryz.func243.trans (congrArg some (by kernel_rfl))
 f246:=Tryz.func198.trans (congrArg some (by kernel_rfl))
 f247:=Tryz.func268.trans (congrArg some (by kernel_rfl))
 f279:=Tryz.func269.trans (congrArg some (by kernel_rfl))
 f280:=Tryz.func270.trans (congrArg some (by kernel_rfl))
 f281:=Tryz.func271.trans (congrArg some (by kernel_rfl))
 f282:=Tryz.func272.trans (congrArg some (by kernel_rfl))
 f283:=Tryz.func245.trans (congrArg some (by kernel_rfl))
 f284:=Tryz.func246.trans (congrArg some (by kernel_rfl))
 f285:=Tryz.func247.trans (congrArg some (by kernel_rfl))
 f286:=Tryz.func248.trans (congrArg some (by kernel_rfl))
 f287:=Tryz.func288.trans (congrArg some (by kernel_rfl))
 f316:=Tryz.func289.trans (congrArg some (by kernel_rfl))
 f317:=Tryz.func273.trans (congrArg some (by kernel_rfl))
 f318:=Tryz.func275.trans (congrArg some (by kernel_rfl))
 f319:=Tryz.func276.trans (congrArg some (by kernel_rfl))
 f320:=Tryz.func277.trans (congrArg some (by kernel_rfl))
 f321:=Tryz.func297.trans (congrArg some (by kernel_rfl))
 f322:=Tryz.func298.trans (congrArg some (by kernel_rfl))
 f337:=Tryz.func291.trans (congrArg some (by kernel_rfl))
 f338:=Tryz.func292.trans (congrArg some (by kernel_rfl))
 t0:=Tryz.underlying0
 a0:=Tryz.isAgg0
 z0:=Tryz.sizeOf0
 v0:=Tryz.zeroValue0
 t2:=Tryz.underlying2
 a2:=Tryz.isAgg2
 z2:=Tryz.sizeOf2
 v2:=Tryz.zeroValue2
 t3:=Tryz.underlying3
 a3:=Tryz.isAgg3
 z3:=Tryz.sizeOf3
 v3:=Tryz.zeroValue3
 t4:=Tryz.underlying4
 a4:=Tryz.isAgg4
 z4:=Tryz.sizeOf4
 v4:=Tryz.zeroValue4
 t5:=Tryz.underlying5
 a5:=Tryz.isAgg5
 z5:=Tryz.sizeOf5
 v5:=Tryz.zeroValue5
 t9:=Tryz.underlying9
 a9:=Tryz.isAgg9
 z9:=Tryz.sizeOf9
 v9:=Tryz.zeroValue9
 t20:=Tryz.underlying20
 a20:=Tryz.isAgg20
 z20:=Tryz.sizeOf20
 v20:=Tryz.zeroValue20
 t21:=Tryz.underlying21
 a21:=Tryz.isAgg21
 z21:=Tryz.sizeOf21
 v21:=Tryz.zeroValue21
 t37:=Tryz.underlying22
 a37:=Tryz.isAgg22
 z37:=Tryz.sizeOf22
 v37:=Tryz.zeroValue22
 t46:=Tryz.underlying179
 a46:=Tryz.isAgg179
 z46:=Tryz.sizeOf179
 v46:=Tryz.zeroValue179
 t51:=Tryz.underlying227
 a51:=Tryz.isAgg227
 z51:=Tryz.sizeOf227
 v51:=Tryz.zeroValue227
 t53:=Tryz.underlying55
 a53:=Tryz.isAgg55
 z53:=Tryz.sizeOf55
 v53:=Tryz.zeroValue55
 t75:=Tryz.underlying163
 a75:=Tryz.isAgg163
 z75:=Tryz.sizeOf163
 v75:=Tryz.zeroValue163
 t76:=Tryz.underlying164
 a76:=Tryz.isAgg164
 z76:=Tryz.sizeOf164
 v76:=Tryz.zeroValue164
 t85:=Tryz.underlying220
 a85:=Tryz.isAgg220
 z85:=Tryz.sizeOf220
 v85:=Tryz.zeroValue220
 t127:=Tryz.underlying191
 a127:=Tryz.isAgg191
 z127:=Tryz.sizeOf191
 v127:=Tryz.zeroValue191
 t143:=Tryz.underlying247
 a143:=Tryz.isAgg247
 z143:=Tryz.sizeOf247
 v143:=Tryz.zeroValue247
 t145:=Tryz.underlying249
 a145:=Tryz.isAgg249
 z145:=Tryz.sizeOf249
 v145:=Tryz.zeroValue249
 t167:=Tryz.underlying219
 a167:=Tryz.isAgg219
 z167:=Tryz.sizeOf219
 v167:=Tryz.zeroValue219
 t168:=Tryz.underlying222
 a168:=Tryz.isAgg222
 z168:=Tryz.sizeOf222
 v168:=Tryz.zeroValue222
 t171:=Tryz.underlying197
 a171:=Tryz.isAgg197
 z171:=Tryz.sizeOf197
 v171:=Tryz.zeroValue197
 t173:=Tryz.underlying200
 a173:=Tryz.isAgg200
 z173:=Tryz.sizeOf200
 v173:=Tryz.zeroValue200
 t175:=Tryz.underlying233
 a175:=Tryz.isAgg233
 z175:=Tryz.sizeOf233
 v175:=Tryz.zeroValue233
 t210:=Tryz.underlying236
 a210:=Tryz.isAgg236
 z210:=Tryz.sizeOf236
 v210:=Tryz.zeroValue236
 t212:=Tryz.underlying226
 a212:=Tryz.isAgg226
 z212:=Tryz.sizeOf226
 v212:=Tryz.zeroValue226
 t213:=Tryz.underlying228
 a213:=Tryz.isAgg228
 z213:=Tryz.sizeOf228
 t232:=Tryz.underlying250
 a232:=Tryz.isAgg250
 z232:=Tryz.sizeOf250
 v232:=Tryz.zeroValue250
 t233:=Tryz.underlying251
 a233:=Tryz.isAgg251
 z233:=Tryz.sizeOf251
 v233:=Tryz.zeroValue251
 g15:=by kernel_rfl
 g16:=by kernel_rfl
 g17:=by kernel_rfl
 g18:=by kernel_rfl
 g19:=by kernel_rfl
 t80:=Tryz.underlying104
 a80:=Tryz.isAgg104
 z80:=Tryz.sizeOf104
 v80:=Tryz.zeroValue104
 i0:=by kernel_rfl
 i2:=by kernel_rfl
 i3:=by kernel_rfl
 i4:=by kernel_rfl
 i5:=by kernel_rfl
 i9:=by kernel_rfl
 i20:=by kernel_rfl
 i21:=by kernel_rfl
 i37:=by kernel_rfl
 i46:=by kernel_rfl
 i51:=by kernel_rfl
 i53:=by kernel_rfl
 i75:=by kernel_rfl
 i76:=by kernel_rfl
 i80:=by kernel_rfl
 i85:=by kernel_rfl
 i127:=by kernel_rfl
 i143:=by kernel_rfl
 i145:=by kernel_rfl
 i167:=by kernel_rfl
 i168:=by kernel_rfl
 i171:=by kernel_rfl
 i173:=by kernel_rfl
 i175:=by kernel_rfl
 i210:=by kernel_rfl
 i212:=by kernel_rfl
 i232:=by kernel_rfl
 i233:=by kernel_rfl
 m15:=by kernel_rfl
 m16:=by kernel_rfl
 m17:=by kernel_rfl
 m18:=by kernel_rfl
 m19:=by kernel_rfl
 c0:=by kernel_rfl
 c2:=by kernel_rfl
 c3:=by kernel_rfl
 c4:=by kernel_rfl
 c5:=by kernel_rfl
 c9:=by kernel_rfl
 c20:=by kernel_rfl
 c21:=by kernel_rfl
 c37:=by kernel_rfl
 c46:=by kernel_rfl
 c51:=by kernel_rfl
 c53:=by kernel_rfl
 c75:=by kernel_rfl
 c76:=by kernel_rfl
 c80:=by kernel_rfl
 c85:=by kernel_rfl
 c127:=by kernel_rfl
 c143:=by kernel_rfl
 c145:=by kernel_rfl
 c167:=by kernel_rfl
 c168:=by kernel_rfl
 c171:=by kernel_rfl
 c173:=by kernel_rfl
 c175:=by kernel_rfl
 c210:=by kernel_rfl
 c212:=by kernel_rfl
 c213:=by kernel_rfl
 c232:=by kernel_rfl
 c233:=by kernel_rfl}
open Go.RowKit in
theorem Tryz.strconv_Atoi_ok(s:ByteArray)(hmax:s.size≤9223372036854775806)(v:Int)(h:Lib.atoiAll s.data.toList=.ok v)(w:World):
  Calls Tryz.prog 191 #[.string s] w fun e w'=>e=.returned (.tuple #[.int .i64 v,.nilIface])∧(w'=w∨∃t,w'=Lib.bytesWorld w 5 t):=Any.strconv_Atoi_ok Tryz.laysC172 s hmax v h w
open Go.RowKit in
theorem Tryz.strconv_Atoi_syntax(s:ByteArray)(hlim:s.size≤281474976710656)(h:Lib.atoiAll s.data.toList=.«syntax»)(ev:Value)(w:World)(hv:w.cell? ⟨3,0,none⟩=some ev)(hev:ev=.nilIface∨∃te pe,ev=.iface te pe):
  Calls Tryz.prog 191 #[.string s] w fun e w'=>∃N,e=.returned (.tuple #[.int .i64 (0),.iface 222 (.pointer (some ⟨N,0,none⟩))])∧w.heap.size≤N∧w'.heap[N]?=some (.cells #[.string ⟨#[65,116,111,105]⟩,.string s,ev] 236 (0,0))∧Below w.heap.size w w':=Any.strconv_Atoi_syntax Tryz.laysC172 s hlim h ev w hv hev
open Go.RowKit in
theorem Tryz.strconv_Atoi_range(s:ByteArray)(hlim:s.size≤281474976710656)(h:Lib.atoiAll s.data.toList=.range)(ev:Value)(w:World)(hv:w.cell? ⟨4,0,none⟩=some ev)(hev:ev=.nilIface∨∃te pe,ev=.iface te pe):
  Calls Tryz.prog 191 #[.string s] w fun e w'=>∃N,e=.returned (.tuple #[.int .i64 (Lib.atoiSat s.data.toList),.iface 222 (.pointer (some ⟨N,0,none⟩))])∧w.heap.size≤N∧w'.heap[N]?=some (.cells #[.string ⟨#[65,116,111,105]⟩,.string s,ev] 236 (0,0))∧Below w.heap.size w w':=Any.strconv_Atoi_range Tryz.laysC172 s hlim h ev w hv hev
def Tryz.lays146_ren:Go.Shelf.Ren:=⟨fun|146=>106|221=>189|268=>237|138=>238|143=>239|195=>264|197=>265|218=>266|219=>267|260=>283|217=>284|225=>285|224=>286|267=>287|266=>295|314=>296|n=>n,fun|9=>9|31=>45|3=>3|4=>4|0=>0|105=>213|21=>21|5=>5|46=>179|119=>239|139=>242|138=>241|146=>243|51=>227|n=>n,fun|1=>2|3=>5|4=>6|n=>n⟩
theorem Tryz.lays146:Go.Proofs.Lays.n146 Tryz.prog Tryz.lays146_ren:={
 mixed:=by kernel_rfl
 f138:=Tryz.func238.trans (congrArg some (by kernel_rfl))
 f143:=Tryz.func239.trans (congrArg some (by kernel_rfl))
 f146:=Tryz.func106.trans (congrArg some (by kernel_rfl))
 f195:=Tryz.func264.trans (congrArg some (by kernel_rfl))
 f197:=Tryz.func265.trans (congrArg some (by kernel_rfl))
 f217:=Tryz.func284.trans (congrArg some (by kernel_rfl))
 f218:=Tryz.func266.trans (congrArg some (by kernel_rfl))
 f219:=Tryz.func267.trans (congrArg some (by kernel_rfl))
 f221:=Tryz.func189.trans (congrArg some (by kernel_rfl))
 f224:=Tryz.func286.trans (congrArg some (by kernel_rfl))
 f225:=Tryz.func285.trans (congrArg some (by kernel_rfl))
 f260:=Tryz.func283.trans (congrArg some (by kernel_rfl))
 f266:=Tryz.func295.trans (congrArg some (by kernel_rfl))
 f267:=Tryz.func287.trans (congrArg some (by kernel_rfl))
 f268:=Tryz.func237.trans (congrArg some (by kernel_rfl))
 f314:=Tryz.func296.trans (congrArg some (by kernel_rfl))
 t0:=Tryz.underlying0
 a0:=Tryz.isAgg0
 z0:=Tryz.sizeOf0
 v0:=Tryz.zeroValue0
 t3:=Tryz.underlying3
 a3:=Tryz.isAgg3
 z3:=Tryz.sizeOf3
 v3:=Tryz.zeroValue3
 t4:=Tryz.underlying4
 a4:=Tryz.isAgg4
 z4:=Tryz.sizeOf4
 v4:=Tryz.zeroValue4
 t5:=Tryz.underlying5
 a5:=Tryz.isAgg5
 z5:=Tryz.sizeOf5
 v5:=Tryz.zeroValue5
 t9:=Tryz.underlying9
 a9:=Tryz.isAgg9
 z9:=Tryz.sizeOf9
 v9:=Tryz.zeroValue9
 t21:=Tryz.underlying21
 a21:=Tryz.isAgg21
 z21:=Tryz.sizeOf21
 v21:=Tryz.zeroValue21
 t31:=Tryz.underlying45
 a31:=Tryz.isAgg45
 z31:=Tryz.sizeOf45
 v31:=Tryz.zeroValue45
 t46:=Tryz.underlying179
 a46:=Tryz.isAgg179
 z46:=Tryz.sizeOf179
 v46:=Tryz.zeroValue179
 t51:=Tryz.underlying227
 a51:=Tryz.isAgg227
 z51:=Tryz.sizeOf227
 v51:=Tryz.zeroValue227
 t105:=Tryz.underlying213
 a105:=Tryz.isAgg213
 z105:=Tryz.sizeOf213
 v105:=Tryz.zeroValue213
 t119:=Tryz.underlying239
 a119:=Tryz.isAgg239
 z119:=Tryz.sizeOf239
 t138:=Tryz.underlying241
 a138:=Tryz.isAgg241
 z138:=Tryz.sizeOf241
 v138:=Tryz.zeroValue241
 t139:=Tryz.underlying242
 a139:=Tryz.isAgg242
 z139:=Tryz.sizeOf242
 v139:=Tryz.zeroValue242
 t146:=Tryz.underlying243
 a146:=Tryz.isAgg243
 z146:=Tryz.sizeOf243
 v146:=Tryz.zeroValue243
 g1:=by kernel_rfl
 g3:=by kernel_rfl
 g4:=by kernel_rfl}
open Go.RowKit Go.Lib in
theorem Tryz.strings_Split(s sep:ByteArray)(m:Int)(w:World)(hs:s.size<4294967281)(hm:w.cell? ⟨2,0,none⟩=some (.int .i64 m))(h1:1≤sep.size):
  Calls Tryz.prog 106 #[.string s,.string sep] w fun e w'=>e=.returned (.slice (some ⟨w.heap.size,0,none⟩) (Lib.countB s sep+1) (Lib.countB s sep+1))∧w'=w.alloc (.cells ((Lib.splitB sep 0 (Lib.countB s sep) s).map Value.string).toArray 9):=Any.strings_Split Tryz.lays146 (by kernel_rfl) s sep m w hs hm h1
def Tryz.lays229_ren:Go.Shelf.Ren:=⟨fun|229=>240|n=>n,fun|9=>9|40=>195|31=>45|152=>216|3=>3|0=>0|4=>4|21=>21|154=>218|n=>n,fun|n=>n⟩
theorem Tryz.lays229:Go.Proofs.Lays.n229 Tryz.prog Tryz.lays229_ren:={
 mixed:=by kernel_rfl
 f229:=Tryz.func240.trans (congrArg some (by kernel_rfl))
 t0:=Tryz.underlying0
 a0:=Tryz.isAgg0
 z0:=Tryz.sizeOf0
 v0:=Tryz.zeroValue0
 t3:=Tryz.underlying3
 a3:=Tryz.isAgg3
 z3:=Tryz.sizeOf3
 v3:=Tryz.zeroValue3
 t4:=Tryz.underlying4
 a4:=Tryz.isAgg4
 z4:=Tryz.sizeOf4
 v4:=Tryz.zeroValue4
 t9:=Tryz.underlying9
 a9:=Tryz.isAgg9
 z9:=Tryz.sizeOf9
 v9:=Tryz.zeroValue9
 t21:=Tryz.underlying21
 a21:=Tryz.isAgg21
 z21:=Tryz.sizeOf21
 v21:=Tryz.zeroValue21
 t31:=Tryz.underlying45
 a31:=Tryz.isAgg45
 z31:=Tryz.sizeOf45
 v31:=Tryz.zeroValue45
 t40:=Tryz.underlying195
 a40:=Tryz.isAgg195
 z40:=Tryz.sizeOf195
 v40:=Tryz.zeroValue195
 t152:=Tryz.underlying216
 a152:=Tryz.isAgg216
 z152:=Tryz.sizeOf216
 v152:=Tryz.zeroValue216
 t154:=Tryz.underlying218
 a154:=Tryz.isAgg218
 z154:=Tryz.sizeOf218
 v154:=Tryz.zeroValue218}
open Go.RowKit Go.Lib in
theorem Tryz.strings_FieldsFunc(g:Nat)(lb:Array Value)(eg:∀args w,(callFunc g args).run Tryz.prog w=.ok (.enter g args) w)(p:Nat→Bool)(s:ByteArray)(w:World)(hs:s.size≤4294967296)(hp:PredAt Tryz.prog g lb encR p w):
  Calls Tryz.prog 240 #[.string s,.func (.func g) #[] lb] w fun e w'=>∃A,e=.returned (.slice (some ⟨A,0,none⟩) (Lib.goFieldsP p s).length (Lib.goFieldsP p s).length)∧w.heap.size≤A∧
   w'.ownsRow w.heap.size 9 1 (.slice (some ⟨A,0,none⟩) (Lib.goFieldsP p s).length (Lib.goFieldsP p s).length) (Lib.goFieldsP p s).length ((Lib.goFieldsP p s).map Value.string)∧Below w.heap.size w w':=Any.strings_FieldsFunc Tryz.lays229 g lb eg p s w hs hp (by kernel_rfl) (by kernel_rfl)
end Go.Proofs
namespace Go.Proofs.YtnjhhbcccgbbnaaGreatDoor
open Go.RowKit
noncomputable abbrev qf:=Tryz.prog
noncomputable section
def cStr(x:qd):List Tr:=[.v (.string x)]
theorem z2m{ok:Nat→Prop}{w:World}(h:Lb ok w):Go.Lib.TabIs qf w "internal/strconv.uint64pow10" .u64 Go.Lib.pow10Tab:=by
  have hg:Tryz.prog.globalNamed "internal/strconv.uint64pow10"=some 0:=by kernel_rfl
  obtain⟨_,cs,T,fz,h2,h3⟩:=h (0,fun cs=>cs=(Go.Lib.pow10Tab.map fun z=>Value.int .u64 z).toArray) (by simp[TB]);have h3:cs=(Go.Lib.pow10Tab.map fun z=>Value.int .u64 z).toArray:=h3;subst h3;unfold Go.Lib.TabIs World.var?;rw[hg];simp only[Option.bind_some,h2]
theorem zKs{w:World}{g:Nat}{o:Obj}(h:w.heap[g]?=some o):g<w.heap.size:=by
 by_cases hlt:g<w.heap.size
 ·exact hlt
 ·rw[Array.getElem?_eq_none (by omega)]at h;cases h
theorem zY6{w:World}(h:Go.Lib.TabIs qf w "internal/strconv.uint64pow10" .u64 Go.Lib.pow10Tab):∃cs T fz,w.heap[0]?=some (.cells cs T fz)∧cs=(Go.Lib.pow10Tab.map fun z=>Value.int .u64 z).toArray:=by
  have hg:Tryz.prog.globalNamed "internal/strconv.uint64pow10"=some 0:=by kernel_rfl
  unfold Go.Lib.TabIs World.var? at h;rw[hg]at h;simp only[Option.bind_some]at h;have key:∀(o:Option Obj)(cs:Array Value),(match o with|some (.cells cs _ _)=>some cs|_=>none)=some cs→∃T fz,o=some (.cells cs T fz):=by
    intro o cs ho;split at ho
    · rename_i cs2 T fz
      injection ho with ho;subst ho;exact⟨T,fz,rfl⟩
    · cases ho
  obtain⟨T,fz,he⟩:=key _ _ h;exact⟨_,T,fz,he,rfl⟩
theorem zRI{w:World}{g:Nat}{v:Value}(h:w.cell? ⟨g,0,none⟩=some v):∃cs T fz,w.heap[g]?=some (.cells cs T fz)∧cs[0]?=some v:=by
 unfold World.cell? at h;split at h
 ·rename_i c T fz hc;exact⟨c,T,fz,hc,by simpa using h⟩
 ·cases h
theorem zQj{w:World}{g:Nat}{v:Value}{cs:Array Value}{T:TypeId}{fz:Nat×Nat}(h:w.heap[g]?=some (.cells cs T fz))(hv:cs[0]?=some v):w.cell? ⟨g,0,none⟩=some v:=by simp[World.cell?,h,hv]
theorem z2x{ok:Nat→Prop}{w:World}(hok:∀g,g<w.heap.size→ok g)(h:Go.Lib.TabIs qf w "internal/strconv.uint64pow10" .u64 Go.Lib.pow10Tab)(hm:∃m,w.cell? ⟨2,0,none⟩=some (.int .i64 m))(he3:∃te pe,w.cell? ⟨3,0,none⟩=some (.iface te pe))(he4:∃te pe,w.cell? ⟨4,0,none⟩=some (.iface te pe)):Lb ok w:=by
  intro p hp;simp only[TB,zj,zo,or_false]at hp;rcases hp with rfl|rfl|rfl|rfl
  · obtain⟨cs,T,fz,h1,h2⟩:=zY6 h
    exact⟨hok _ (zKs h1),cs,T,fz,h1,h2⟩
  · obtain⟨m,hm⟩:=hm
    obtain⟨cs,T,fz,h1,h2⟩:=zRI hm;exact⟨hok _ (zKs h1),cs,T,fz,h1,m,h2⟩
  · obtain⟨te,pe,he⟩:=he3
    obtain⟨cs,T,fz,h1,h2⟩:=zRI he;exact⟨hok _ (zKs h1),cs,T,fz,h1,te,pe,h2⟩
  · obtain⟨te,pe,he⟩:=he4
    obtain⟨cs,T,fz,h1,h2⟩:=zRI he;exact⟨hok _ (zKs h1),cs,T,fz,h1,te,pe,h2⟩
theorem zLT:∀args w,(callFunc 58 args).run qf w=.ok (.enter 58 args) w:=zEP Tryz.func58 (by kernel_rfl) (by kernel_rfl)
theorem zMB{n:Int}{r:qd}(h:zR n=some r):zH qf 58 [I n] (.c (.v (.string r))) []:=
 z1L (fun ok w n hl h0 h1=>(Go.Proofs.Tryz.strconv_Itoa n h0 h1 w (z2m hl)).mono (by
  rintro e w' ⟨he,k,os,hw⟩;subst hw;refine⟨he,rfl,rfl,rfl,?_,fun q hq=>?_⟩
  ·show w.heap.size≤(w.heap++os).size;simp
  ·show (w.heap++os)[q]?=w.heap[q]?
   exact Array.getElem?_append_left hq)) h
theorem zSH:∀args w,(callFunc 95 args).run qf w=.ok (.enter 95 args) w:=zEP Tryz.func95 (by kernel_rfl) (by kernel_rfl)
theorem zT3{xs:List qd}{sep r:qd}(h:zDZ xs sep=some r):zH qf 95 [.c (.sl (xs.map cStr)),.c (.v (.string sep))] (.c (.v (.string r))) []:=
 z1K (fun _=>rfl) (fun a c sep w=>Go.Proofs.Tryz.strings_Join_none a c sep w) (fun bk o c xs sep w h1 h2 h3 h4 h5=>Go.Proofs.Tryz.strings_Join bk o c xs sep w h1 h2 h3 h4 h5) h
theorem z2w{ok:Nat→Prop}{w:World}(h:Lb ok w):∃m,w.cell? ⟨2,0,none⟩=some (.int .i64 m):=by obtain⟨_,cs,T,fz,h2,m,h3⟩:=h (2,fun cs=>∃m,cs[0]?=some (.int .i64 m)) (by simp[TB]);exact⟨m,zQj h2 h3⟩
theorem z0t{ok:Nat→Prop}{w:World}(h:Lb ok w):∃te pe,w.cell? ⟨3,0,none⟩=some (.iface te pe):=by obtain⟨_,cs,T,fz,h2,te,pe,h3⟩:=h (3,fun cs=>∃te pe,cs[0]?=some (.iface te pe)) (by simp[TB]);exact⟨te,pe,zQj h2 h3⟩
theorem z0s{ok:Nat→Prop}{w:World}(h:Lb ok w):∃te pe,w.cell? ⟨4,0,none⟩=some (.iface te pe):=by obtain⟨_,cs,T,fz,h2,te,pe,h3⟩:=h (4,fun cs=>∃te pe,cs[0]?=some (.iface te pe)) (by simp[TB]);exact⟨te,pe,zQj h2 h3⟩
theorem zQo:∀args w,(callFunc 106 args).run qf w=.ok (.enter 106 args) w:=zEP Tryz.func106 (by kernel_rfl) (by kernel_rfl)
theorem zRn{s sep:qd}{r:List qd}(h:zCx s sep=some r):zH qf 106 [.c (.v (.string s)),.c (.v (.string sep))] (.ow 0) [(0,.arr 9 1 (r.map cStr))]:=
 z0N (fun _=>rfl) (fun ok w s sep hl h1 h2=>by obtain⟨m,hm⟩:=z2w hl;exact Go.Proofs.Tryz.strings_Split s sep m w h1 hm h2) h
theorem zLU:∀args w,(callFunc 191 args).run qf w=.ok (.enter 191 args) w:=zEP Tryz.func191 (by kernel_rfl) (by kernel_rfl)
theorem zMC{s:qd}{r:Int×Bool}(h:zBK s=some r):zH qf 191 [.c (.v (.string s))] (.tc (I r.1) (.tc (.er r.2) .tn)) []:=
 z1M (fun ok w s hl hs r hr=>by
  obtain⟨te1,pe1,h1⟩:=z0t hl;obtain⟨te2,pe2,h2⟩:=z0s hl;unfold zBK at hr;rw[if_pos hs]at hr;cases ha:Go.Lib.atoiAll s.data.toList with
  |ok v=>
   rw[ha]at hr;injection hr with hr;subst hr;refine (Go.Proofs.Tryz.strconv_Atoi_ok s (by omega) v ha w).mono ?_
   rintro e w' ⟨he,hw⟩;refine⟨⟨_,he,.inl ⟨rfl,rfl⟩⟩,?_⟩;rcases hw with rfl|⟨t,rfl⟩
   ·exact Below.refl _ _
   ·exact Go.Lib.bytesWorld_below _ _ _
  |«syntax»=>
   rw[ha]at hr;injection hr with hr;subst hr;refine (Go.Proofs.Tryz.strconv_Atoi_syntax s hs ha _ w h1 (.inr ⟨te1,pe1,rfl⟩)).mono ?_
   rintro e w' ⟨N,he,_,_,hb⟩;exact⟨⟨_,he,.inr ⟨rfl,_,_,rfl⟩⟩,hb⟩
  |range=>
   rw[ha]at hr;injection hr with hr;subst hr;refine (Go.Proofs.Tryz.strconv_Atoi_range s hs ha _ w h2 (.inr ⟨te2,pe2,rfl⟩)).mono ?_
   rintro e w' ⟨N,he,_,_,hb⟩;exact⟨⟨_,he,.inr ⟨rfl,_,_,rfl⟩⟩,hb⟩) h
theorem zLe:∀args w,(callFunc 240 args).run qf w=.ok (.enter 240 args) w:=zEP Tryz.func240 (by kernel_rfl) (by kernel_rfl)
theorem zXp{s:qd}{r:List qd}{p:Nat→Bool}{g:Nat}(eg:∀args w,(callFunc g args).run qf w=.ok (.enter g args) w)(hp:∀w,Go.Proofs.PredAt qf g #[] (fun x:Nat=>Value.int .i32 (x:Int)) p w)(h:zBp p s=some r):zH qf 240 [.c (.v (.string s)),.c (.v (.func (.func g) #[] #[]))] (.ow 0) [(0,.arr 9 1 (r.map cStr))]:=by
 unfold zBp at h;split at h
 ·rename_i hn;injection h with h;subst h;refine zXJ (fun _=>rfl) fun ok σ w vs hok hlib hargs=>?_
  cases hargs with
  |cons h1 h2=>
   cases h2 with
   |cons h3 h4=>
    cases h4;have:=zHA h1;subst this;have h5:Rd ok w (.v (.func (.func g) #[] #[])) _:=h3;cases h5;refine (Go.Proofs.Tryz.strings_FieldsFunc g #[] eg p s w hn (hp w)).mono ?_
    rintro e w' ⟨B,he,h6,h7,h8⟩;exact⟨B,_,he,h6,h7,h8⟩
 ·cases h
end
def vloop(fn:Func):Code:=match fn.body with
 |some (.seq _ (.seq _ (.seq _ (.seq x _))))=>x
 |_=>.skip
section
variable {P:Program}
theorem z7O{o:Oper}{s:St}{t e T sz id:Nat}{x y z:Operand}{els:List (List Tr)}(hu:P.underlying t=some (.slice e))(hsz:(P.info? e).map (·.size)=some sz)(ho:o.op=.slice t x none (some y) (some z))
  (hx:s.ev x=.ow id) (he:s.entc id=some (.arr T sz els)) (hne:els≠[]) (hy:s.ev y=.c (.v (.int .i64 (els.length:Int)))) (hz:s.ev z=.c (.v (.int .i64 (els.length:Int)))):Y0 P o s (.vw id els .whole):=
 qI fun ok σ a w hC=>by
  have h1:=hC.ev x;rw[hx]at h1;have h6:a.eval x=zK (σ id):=h1;obtain⟨h3,hn,hs,vs,h4,h5⟩:=hC.entc id _ he;have hpos:0<els.length:=List.length_pos_iff.2 hne;obtain⟨g,hg⟩:=zMw h4 hpos;have hcap:els.length≤(σ id).cap:=by
   rcases h4.2 with⟨_,hv0⟩|⟨g2,cap,cur,hv,hb,hg2,hnc,_⟩
   ·omega
   ·unfold zK at hv;injection hv with _ _ h3;omega
  refine⟨.slice (some ⟨g,0,none⟩) els.length els.length,?_,⟨g,sz,els.length,hpos,Nat.le_refl _,h3,hs,rfl,.inl hg⟩⟩;cases hii:P.info? e with
  |none=>rw[hii]at hsz;simp at hsz
  |some i=>
   have h7:i.size=sz:=by rw[hii]at hsz;simpa using hsz
   have hb:∀w,(Instr.sliceBounds true (σ id).n (σ id).cap none (some (.int .i64 (els.length:Int))) (some (.int .i64 (els.length:Int)))).run P w=.ok (0,els.length,els.length) w:=by intro w;unfold Instr.sliceBounds;simp[zG2 (P:=P) (k:=.i64) (n:=(els.length:Int)) (y:=(σ id).cap) (by omega) (by omega),zG2 (P:=P) (k:=.i64) (n:=(els.length:Int)) (y:=els.length) (by omega) (by omega)]
   have h0:¬els.length=0:=by omega
   unfold execOp;rw[ho];simp[h6,zK,hg,hC.exact hy,hC.exact hz,Instr.sliceAt,Instr.slice,run_underlying hu,hb,sizeOf,typeInfo,hii,h7,h0,zCm,hne]
theorem z7R{o:Oper}{s:St}{x:Operand}{t e:TypeId}{id:Nat}{els:List (List Tr)}(hu:P.underlying t=some (.slice e))(ho:o.op=.call {callee:=.builtin .len,args:=#[x],argTypes:=#[t]})(hx:s.ev x=.vw id els .whole):Y0 P o s (.c (.v (.int .i64 (els.length:Int)))):=
 qI fun ok σ a w hC=>by
  have h1:=hC.ev x;rw[hx]at h1;obtain⟨g,sz,cap,h2,h3,h4,h5,h6,h7⟩:=(h1:VwOk ok (σ id) w els .whole (a.eval x))
  refine⟨_,?_,zIY _ _ _ _⟩;unfold execOp;rw[ho];simp[resolve,invoke,builtin,h6,z3a,Builtin.len_,run_underlying hu,goInt]
theorem z7V{o:Oper}{s:St}{t e:TypeId}{x ix:Operand}{id sz:Nat}{els:List (List Tr)}{k:IntKind}{n:Int}(hu:P.underlying t=some (.slice e))(hsz:(P.info? e).map (·.size)=some sz)(hs:∀el,el∈els→el.length=sz)(ho:o.op=.indexAddr t x ix)(hx:s.ev x=.vw id els .whole)(hi:s.ev ix=.c (.v (.int k n)))
  (h0:0≤n) (hlt:n.toNat<els.length):Y0 P o s (.vw id els (.elem n.toNat)):=
 qI fun ok σ a w hC=>by
  have h1:=hC.ev x;rw[hx]at h1;have h2:=hC.exact hi;obtain⟨g,sz2,cap,g2,g3,g4,g5,g6,g7⟩:=(h1:VwOk ok (σ id) w els .whole (a.eval x))
  obtain⟨e0,he0⟩:=List.exists_mem_of_ne_nil els (List.length_pos_iff.1 g2);have hz:sz2=sz:=by rw[←g5 e0 he0,hs e0 he0]
  subst hz;cases hii:P.info? e with
  |none=>rw[hii]at hsz;simp at hsz
  |some i=>
   have h7:i.size=sz2:=by rw[hii]at hsz;simpa using hsz
   refine⟨.pointer (some ⟨g,n.toNat*sz2,none⟩),?_,⟨g,sz2,cap,g2,g3,g4,g5,rfl,g7⟩⟩;unfold execOp;rw[ho];have hm:n<(els.length:Int):=by omega
   simp[h2,g6,z3a,Instr.indexAt,asIntOf,run_underlying hu,sizeOf,typeInfo,hii,h7,h0,hm,zCm]
theorem z2i{ok:Nat→Prop}{σ:Nat→Loc}{s:St}{a:Act}{w:World}(h:Core ok σ s a w){id T sz i:Nat}{els r:List (List Tr)}{el:List Tr}{y:Value}(hv:VwOk ok (σ id) w els (.elem i) y)(he:s.entc id=some (.arr T sz (els++r)))(hel:els[i]?=some el):
  ∃g off,y=.pointer (some ⟨g,off,none⟩)∧∀j c,el[j]?=some c→∃u,w.cell? ⟨g,off+j,none⟩=some u∧Rd ok w c u:=by
 obtain⟨g,sz2,cap,g2,g3,g4,g5,g6,g7⟩:=hv;obtain⟨h0,hn,hs,vs,h3,h4⟩:=h.entc id _ he;obtain⟨e0,he0⟩:=List.exists_mem_of_ne_nil els (List.length_pos_iff.1 g2);have hz:sz2=sz:=by rw[←g5 e0 he0,hs e0 (List.mem_append_left _ he0)]
 subst hz;refine⟨g,i*sz2,g6,fun j c hj=>?_⟩;rcases g7 with g7|⟨_,us,g8,g9⟩
 ·have h5:=zKy (els++r) sz2 i j el c hs (by rw[List.getElem?_append_left (by
    rcases Nat.lt_or_ge i els.length with q|q
    ·exact q
    ·rw[List.getElem?_eq_none q]at hel;cases hel)];exact hel) hj
  obtain⟨u,h6,h7⟩:=h4.get _ c h5;exact⟨u,zMR h3 g7 _ u h6,h7⟩
 ·have h5:=zKy els sz2 i j el c g5 hel hj;obtain⟨u,h6,h7⟩:=g8.get _ c h5;exact⟨u,g9 _ u h6,h7⟩
theorem z5h{o:Oper}{s:St}{t:TypeId}{x:Operand}{n id T sz i:Nat}{els r:List (List Tr)}{el:List Tr}(hs:wide P t n)(ho:o.op=.load t x)(hx:s.ev x=.vw id els (.elem i))(he:s.entc id=some (.arr T sz (els++r)))(hel:els[i]?=some el)(hn:el.length=n):Y0 P o s (.ag el):=
 qI fun ok σ a w hC=>by
  have h1:=hC.ev x;rw[hx]at h1;obtain⟨g,off,h2,h3⟩:=z2i hC (h1:VwOk ok (σ id) w els (.elem i) (a.eval x)) he hel;obtain⟨vs,h4,h5⟩:=zIs g off el 0 fun j c hj=>by simpa using h3 j c hj
  have hl:vs.length=n:=by rw[←h4.len];exact hn
  have h6:=zKl (P:=P) hs (g:=g) (off:=off) hl (fun j u hu=>by simpa using h5 j u hu);refine⟨.agg vs.toArray,?_,⟨_,rfl,by simpa using h4⟩⟩;unfold execOp;rw[ho];simp only[h2,Instr.loadAt,Instr.sureAddr,Sem.run_bind,Sem.run_pure,Result.andThen_ok,h6]
theorem zQ4(w:World)(t ty e:TypeId)(i:TypeInfo)(z:Value)(ht:P.underlying t=some (.slice e))(hi:P.info? e=some i)(hz:i.zero=some z)(hzs:z.cells.size=i.size)
  (g n cap0:Nat) (xs:List Value) (hown:w.ownsRow 0 e i.size (.slice (some ⟨g,0,none⟩) n cap0) n xs) (ad:Addr) (m c:Nat) (news:List Value) (hl:news.length=m*i.size)
  (hnews:∀j u,news[j]?=some u→w.cell? (ad.add j)=some u) (h1:∀u∈news,u.oneCell'=true) (h63:n+m≤maxLen) (hbytes:(n+m)*i.bytes≤140737488355328):
  ∃g2 cap w',(Builtin.append_ #[t,t] ty #[.slice (some ⟨g,0,none⟩) n cap0,.slice (some ad) m c]).run P w=.ok (.slice (some ⟨g2,0,none⟩) (n+m) cap) w'∧
   w'.ownsRow 0 e i.size (.slice (some ⟨g2,0,none⟩) (n+m) cap) (n+m) (xs++news)∧g2<w'.heap.size∧((g2=g∧w.grownBy w' (some g))∨(g2=w.heap.size∧w.grownBy w' none)):=by
 have hsmall:n+m≤9223372036854775807:=by simp only[maxLen]at h63;omega
 have hlen:(xs++news).length=(n+m)*i.size:=by rw[zd,hown.1,hl,Nat.add_mul]
 rcases hown.2 with⟨h0,_⟩|⟨q,cap,cur,hv,hbg,hg,hnc,hcm,hcs,htake⟩
 ·cases h0
 ·injection hv with hv1 hv2 hv3;injection hv1 with hv1;injection hv1 with hv1 _ _;subst hv1 hv3;by_cases hroom:n+m≤cap0
  ·have hfit:n*i.size+news.length≤cur.size:=by rw[hl,hcs,←Nat.add_mul];exact Nat.mul_le_mul_right _ hroom
   have hr:=run_append_room (P:=P) w t ty e i ht hi g n cap0 cur hg ad m c news hl hnews h1 hroom hfit;refine⟨g,cap0,_,hr,⟨hlen,.inr ⟨g,cap0,_,rfl,Nat.zero_le _,setRow_heap w g cur _ e _ hg,hroom,hcm,?_,?_⟩⟩,?_,.inl ⟨rfl,rfl,rfl,rfl,by simp,fun k _ hk=>setRow_other w g k _ (fun e=>hk (by simp[e]))⟩⟩
   ·simp only[List.size_toArray,zd,List.length_take,List.length_drop,Array.length_toList];omega
   ·rw[htake,←hlen];exact List.take_left
   ·rcases Nat.lt_or_ge g w.heap.size with hlt|hge
    ·simpa using hlt
    ·rw[Array.getElem?_eq_none hge]at hg;cases hg
  ·have holds:∀j u,xs[j]?=some u→w.cell? ((⟨g,0,none⟩:Addr).add j)=some u:=hown.cells (g:=g) rfl
   have hr:=run_append_grow (P:=P) w t ty e i z ht hi hz ⟨g,0,none⟩ n cap0 xs hown.1 holds ad m c news hl hnews (by omega) (by omega) (growslice_fits (by omega) hbytes);have hge:=grownCap_ge w (n+m) cap0 e;have hcm2:grownCap w (n+m) cap0 e≤maxLen:=grownCap_le_maxLen w (n+m) cap0 e h63;refine⟨_,_,_,hr,⟨hlen,.inr ⟨w.heap.size,_,_,rfl,Nat.zero_le _,heap_alloc_new w.drew _,hge,hcm2,?_,?_⟩⟩,by simp,.inr ⟨rfl,rfl,rfl,rfl,by simp,fun k hk _=>heap_alloc_old w.drew _ hk⟩⟩
   ·simp only[Array.size_append,List.size_toArray,size_zeroCells,hzs,hown.1,hl,←Nat.add_mul];congr 1;omega
   ·simp only[Array.toList_append,List.append_assoc];rw[←List.append_assoc,←hlen];exact List.take_left
theorem z3X{o:Oper}{s:St}{x y:Operand}{t e d id sz bytes vt:Nat}{z:Value}{m:VwM}{els0 r els2:List (List Tr)}(ho:o.op=.call {callee:=.builtin .append,args:=#[x,y],argTypes:=#[t,t]})(hd:o.dst=some d)(ht:P.underlying t=some (.slice e))
  (hi:(P.info? e).map (fun i=>(i.zero,i.size,i.bytes))=some (some z,sz,bytes)) (hzs:z.cells.size=sz) (hx:s.ev x=.ow id) (he:s.ent id=some (.arr e sz (els0++r))) (hy:zCX s (s.ev y)=some els2) (h2:∀el,el∈els2→el.length=sz) (hne:els2≠[])
  (hlen:(els0++r).length+els2.length≤1099511627776) (hby:bytes≤128) (hvt:s.get vt=.vw id els0 m) (hdv:d≠vt):X P o s ⟨((zEM id s.T).set vt (.vw id els0 m)).set d (.ow id),setE id (.arr e sz ((els0++r)++els2)) s.E⟩:=by
 intro B w0 ok0 ok σ a w hR K Q hK;obtain⟨h0,hn,hs,vs,hown,hrd⟩:=hR.core.ent id _ he;have h3:=hR.core.ev x;rw[hx]at h3;have h4:a.eval x=zK (σ id):=h3;obtain⟨A,cap2,h5,_,h6⟩:=zIP hR.core (hR.core.ev y) hy;obtain⟨g2,off2,sz2,vs2,hA,hs2,hrd2,hc2⟩:=h6 hne;have hm:0<els2.length:=List.length_pos_iff.2 hne;have hview:=hR.core.tmp vt;rw[hvt]at hview;obtain⟨gv,szv,capv,v2,v3,v4,v5,v6,v7⟩:=(hview:VwOk ok (σ id) w els0 m (a.tmps.getD vt undef))
 obtain⟨e0,he0⟩:=List.exists_mem_of_ne_nil els0 (List.length_pos_iff.1 v2);have hzv:szv=sz:=by rw[←v5 e0 he0,hs e0 (List.mem_append_left _ he0)]
 subst hzv;obtain⟨gb,hgb⟩:=zMw hown (by rw[zd];omega);cases hii:P.info? e with
 |none=>rw[hii]at hi;simp at hi
 |some i=>
  have hi2:i.zero=some z∧i.size=szv∧i.bytes=bytes:=by rw[hii]at hi;simpa using hi
  have hl2:vs2.length=els2.length*szv:=by rw[←hrd2.len];exact zEO els2 szv h2
  have hbytes:((els0++r).length+els2.length)*i.bytes≤140737488355328:=by rw[hi2.2.2];have:=Nat.mul_le_mul hlen hby;omega
  obtain⟨hiz,his,_⟩:=hi2;subst his;have hov:zK (σ id)=.slice (some ⟨gb,0,none⟩) (els0++r).length (σ id).cap:=by unfold zK;rw[hgb,hn];rfl
  rw[hov]at hown;obtain⟨g,cap,w',hrun,hown',hlt,hat⟩:=zQ4 (P:=P) w t o.type e i z ht hii hiz hzs gb (els0++r).length (σ id).cap vs hown ⟨g2,off2,none⟩ els2.length cap2 vs2 hl2 (fun j u hu=>by rw[zCm];exact hc2 j u hu) hrd2.one (by unfold maxLen;omega) hbytes;have hgrow:w.grownBy w' (some gb):=by
   rcases hat with⟨_,h7⟩|⟨_,h7⟩
   ·exact h7
   ·exact⟨h7.os,h7.tape,h7.output,h7.size,fun k hk _=>h7.block k hk (by simp)⟩
  have hwq:∀q,q<w.heap.size→q≠gb→w'.heap[q]?=w.heap[q]?:=fun q hq hne=>hgrow.block q hq (fun e1=>by injection e1 with e1;exact hne e1)
  obtain⟨nb1,nb2⟩:=hR.core.blk id _ gb he hgb;have hgo:g≠gb→w'.heap[gb]?=w.heap[gb]?:=fun h7=>by
   rcases hat with⟨h8,_⟩|⟨_,h8⟩
   ·exact absurd h8 h7
   ·exact h8.block gb nb2 (by simp)
  have hwok:∀q,ok q→w'.heap[q]?=w.heap[q]?:=fun q hq=>hwq q (hR.core.okL q hq) fun e1=>nb1 (e1▸hq)
  have hok:∀q,ok q→ok q∨(g≠gb∧q=gb):=fun q hq=>.inl hq;have hsz:w.heap.size≤w'.heap.size:=hgrow.size;have hσ:∀j,j≠id→(fun j=>if j=id then (⟨some g,(els0++r).length+els2.length,cap⟩:Loc) else σ j) j=σ j:=fun j hj=>by simp[hj]
  have hB:B.n gb:=by have h7:=hR.own id _ gb he hgb;rw[if_neg (fun hc=>by cases hc)]at h7;exact h7
  have hgB:B.n g∧¬ok g:=by
   rcases hat with⟨h7,_⟩|⟨h7,_⟩
   ·rw[h7];exact⟨hB,nb1⟩
   ·rw[h7];exact⟨hR.base _ (Nat.le_refl _),fun hq=>Nat.lt_irrefl _ (hR.core.okL _ hq)⟩
  have look:=zDS id (.arr e i.size ((els0++r)++els2)) s.E _ he;have hfar:∀j f q,j≠id→s.ent j=some f→(σ j).blk=some q→q≠g∧q≠gb:=by
   intro j f q hj hf hq;have hne2:q≠gb:=fun e1=>hj (hR.core.inj _ _ _ _ _ hf he (by rw[←e1];exact hq) hgb);refine⟨fun e1=>?_,hne2⟩;rcases hat with⟨h7,_⟩|⟨h7,_⟩
   ·exact hne2 (e1.trans h7)
   ·have:=(hR.core.blk j f q hf hq).2;omega
  have hview2:VwOk (fun q=>ok q∨(g≠gb∧q=gb)) ⟨some g,(els0++r).length+els2.length,cap⟩ w' els0 m (a.tmps.getD vt undef):=by
   refine⟨gv,i.size,capv,v2,v3,v4,v5,v6,?_⟩;rcases v7 with v7|⟨v7,us,v8,v9⟩
   ·have e1:gv=gb:=by rw[hgb]at v7;simpa using v7.symm
    subst e1;by_cases hg:g=gv
    ·exact .inl (by rw[hg])
    ·refine .inr ⟨.inr ⟨hg,rfl⟩,vs.take els0.flatten.length,?_,fun j u hj=>?_⟩
     ·have h8:=(hrd.mono hok hwok).take els0.flatten.length;rw[List.flatten_append,List.take_left]at h8;exact h8
     ·rw[List.getElem?_take]at hj;split at hj
      ·have h8:=(show (w.cell? ⟨gv,0+j,none⟩=some u) from by
        have h9:=hown.cells (g:=gv) rfl j u hj;rw[zCm]at h9;exact h9)
       rw[Nat.zero_add]at h8;rw[World.cell?_of_block (w:=w) (hgo hg)];exact h8
      ·cases hj
   ·refine .inr ⟨.inl v7,us,v8.mono hok hwok,fun j u hj=>?_⟩;rw[World.cell?_of_block (w:=w) (hwok gv v7)];exact v9 j u hj
  unfold Oper.wp execOp;simp only[ho,resolve,invoke,builtin,Sem.run_bind,Sem.run_pure,Result.andThen_ok,List.map_toArray,List.map_cons,zp,h4,hov,h5,hA,hrun];show K (a.put o.dst _) w';rw[hd];refine hK _ _ (fun q=>ok q∨(g≠gb∧q=gb)) (fun j=>if j=id then ⟨some g,(els0++r).length+els2.length,cap⟩ else σ j) ⟨⟨?_,fun q hq=>?_,hR.core.lib.mono hok hwok,fun u=>?_,fun j f hj=>?_,fun j f q hj hq=>?_,fun j k f1 f2 q hj hk q1 q2=>?_⟩,hR.defers,hR.below.grown hgrow hR.base (fun k hk=>by injection hk with hk;rw[←hk];exact hB),fun q hq=>hR.base q (Nat.le_trans hsz hq),fun q hq=>.inl (hR.old q hq),fun q hq=>?_,fun j f q hj hq=>?_⟩
  ·rw[zMA];simpa [zFk] using hR.core.len
  ·rcases hq with hq|⟨_,hq⟩
   ·exact Nat.lt_of_lt_of_le (hR.core.okL q hq) hsz
   ·rw[hq];exact Nat.lt_of_lt_of_le nb2 hsz
  ·have e0:=zCu ⟨(zEM id s.T).set vt (.vw id els0 m),s.E⟩ d u (.ow id);have e1:=zCu ⟨zEM id s.T,s.E⟩ vt u (.vw id els0 m);have hk:St.get ⟨((zEM id s.T).set vt (.vw id els0 m)).set d (.ow id),setE id (.arr e i.size ((els0++r)++els2)) s.E⟩ u=if d=u∧d<s.T.length then .ow id else if vt=u∧vt<s.T.length then .vw id els0 m else (bif (s.get u).mid id then AV.bot else s.get u):=by
    unfold St.put St.get at e0 e1;simp only[zFk,zKB,List.length_set]at e0 e1;rw[e1]at e0;exact e0
   rw[hk,zMU];by_cases hdu:d=u∧d<s.T.length
   ·rw[if_pos hdu,if_pos ⟨hdu.1,Nat.lt_of_lt_of_le hdu.2 hR.core.len⟩];show _=zK _;simp[zK]
   ·rw[if_neg hdu];by_cases hd2:d=u∧d<a.tmps.size
    ·have hne3:¬(vt=u∧vt<s.T.length):=fun h=>hdv (hd2.1.trans h.1.symm);rw[if_pos hd2,if_neg hne3];have hb:s.get u=.bot:=by
      unfold St.get;rw[List.getElem?_eq_none (by omega)];rfl
     rw[hb];trivial
    ·rw[if_neg hd2];by_cases hv:vt=u∧vt<s.T.length
     ·rw[if_pos hv];obtain⟨hv,_⟩:=hv;subst hv;show VwOk _ _ _ _ _ _;simp only[if_true];exact hview2
     ·rw[if_neg hv];cases hmm:(s.get u).mid id with
      |true=>trivial
      |false=>exact (hR.core.tmp u).mid id hok hwok hmm hσ
  ·have h7:(setE id (.arr e i.size ((els0++r)++els2)) s.E).lookup j=some f:=hj;rw[look]at h7;by_cases hji:j=id
   ·rw[if_pos hji]at h7;injection h7 with h7;subst h7;simp only[hji,if_true];refine⟨h0,by simp only[zd],fun el hel=>?_,vs++vs2,?_,?_⟩
    ·rcases List.mem_append.1 hel with h8|h8
     ·exact hs el h8
     ·exact h2 el h8
    ·rw[@zd _ (els0++r) els2];exact hown'
    ·rw[List.flatten_append];exact (hrd.mono hok hwok).app (hrd2.mono hok hwok)
   ·rw[if_neg hji]at h7;simp only[hji,if_false];refine (hR.core.ent j f h7).mono hok hwok fun q hq=>?_
    exact hwq q (hR.core.blk j f q h7 hq).2 (hfar j f q hji h7 hq).2
  ·have h7:(setE id (.arr e i.size ((els0++r)++els2)) s.E).lookup j=some f:=hj;rw[look]at h7;by_cases hji:j=id
   ·simp only[hji,if_true]at hq;have hqg:g=q:=by simpa using hq
    subst hqg;exact⟨fun h=>h.elim hgB.2 fun h=>h.1 h.2,hlt⟩
   ·rw[if_neg hji]at h7;simp only[hji,if_false]at hq;obtain⟨h8,h9⟩:=hR.core.blk j f q h7 hq;exact⟨fun h=>h.elim h8 fun h=>(hfar j f q hji h7 hq).2 h.2,Nat.lt_of_lt_of_le h9 hsz⟩
  ·have h7:(setE id (.arr e i.size ((els0++r)++els2)) s.E).lookup j=some f1:=hj;have h8:(setE id (.arr e i.size ((els0++r)++els2)) s.E).lookup k=some f2:=hk;rw[look]at h7 h8;by_cases hji:j=id
   ·by_cases hki:k=id
    ·omega
    ·rw[if_neg hki]at h8;simp only[hji,if_true]at q1;simp only[hki,if_false]at q2;have hqg:g=q:=by simpa using q1
     subst hqg;exact absurd rfl (hfar k f2 g hki h8 q2).1
   ·rw[if_neg hji]at h7;simp only[hji,if_false]at q1;by_cases hki:k=id
    ·simp only[hki,if_true]at q2;have hqg:g=q:=by simpa using q2
     subst hqg;exact absurd rfl (hfar j f1 g hji h7 q1).1
    ·rw[if_neg hki]at h8;simp only[hki,if_false]at q2;exact hR.core.inj _ _ _ _ _ h7 h8 q1 q2
  ·rcases hq with hq|⟨_,hq⟩
   ·exact hR.fresh q hq
   ·rw[hq];exact .inr hB
  ·have h7:(setE id (.arr e i.size ((els0++r)++els2)) s.E).lookup j=some f:=hj;rw[look]at h7;by_cases hji:j=id
   ·simp only[hji,if_true]at hq;have hqg:g=q:=by simpa using hq
    subst hqg;rw[if_pos hji]at h7;injection h7 with h7;subst h7;rw[if_neg (fun hc=>by cases hc)];exact hgB.1
   ·rw[if_neg hji]at h7;simp only[hji,if_false]at hq;exact hR.own j f q h7 hq
theorem z56{α:Type}{c:α→List Tr}{xs:List α}{o:Oper}{s:St}{t e T sz id:Nat}{x y z:Operand}(hu:P.underlying t=some (.slice e))(hsz:(P.info? e).map (·.size)=some sz)(ho:o.op=.slice t x none (some y) (some z))
  (hx:s.ev x=.ow id) (he:s.entc id=some (.arr T sz (xs.map c))) (hne:xs≠[]) (hy:s.ev y=I (xs.length:Int)) (hz:s.ev z=I (xs.length:Int)):Y0 P o s (.vw id (xs.map c) .whole):=
 z7O hu hsz ho hx he (by simpa using hne) (by rw[List.length_map];exact hy) (by rw[List.length_map];exact hz)
theorem z5j{α:Type}{c:α→List Tr}{xs:List α}{o:Oper}{s:St}{x:Operand}{t e:TypeId}{id:Nat}(hu:P.underlying t=some (.slice e))(ho:o.op=.call {callee:=.builtin .len,args:=#[x],argTypes:=#[t]})(hx:s.ev x=.vw id (xs.map c) .whole):Y0 P o s (I (xs.length:Int)):=by have h:=z7R (P:=P) hu ho hx;rw[List.length_map]at h;exact h
theorem z5k{α:Type}{c:α→List Tr}{xs:List α}{v:α}{o:Oper}{s:St}{t e:TypeId}{x ix:Operand}{id sz:Nat}{n:Int}(hu:P.underlying t=some (.slice e))(hsz:(P.info? e).map (·.size)=some sz)(hc:∀v,(c v).length=sz)(ho:o.op=.indexAddr t x ix)(hx:s.ev x=.vw id (xs.map c) .whole)(hi:s.ev ix=.c (.v (.int .i64 n)))
  (he:getI xs n=some v):Y0 P o s (.vw id (xs.map c) (.elem n.toNat)):=by
 obtain⟨h1,h2⟩:=zFm he;refine z7V hu hsz (fun el hel=>?_) ho hx hi h1 ?_
 ·obtain⟨y,_,rfl⟩:=List.mem_map.1 hel;exact hc y
 ·rw[List.length_map];rcases Nat.lt_or_ge n.toNat xs.length with h|h
  ·exact h
  ·rw[List.getElem?_eq_none h]at h2;cases h2
theorem z3W{α:Type}{c:α→List Tr}{xs ys:List α}{v:α}{o:Oper}{s:St}{t:TypeId}{x:Operand}{m id T sz:Nat}{n:Int}(ds:List Tr)(hs:wide P t m)(ho:o.op=.load t x)(hx:s.ev x=.vw id (xs.map c) (.elem n.toNat))(he:s.entc id=some (.arr T sz ((xs++ys).map c)))(hv:getI xs n=some v)(hm:(c v).length=m)(hd:c v=ds):Y0 P o s (.ag ds):=by subst hd;obtain⟨h1,h2⟩:=zFm hv;exact z5h (r:=ys.map c) hs ho hx (by rw[←List.map_append];exact he) (by rw[List.getElem?_map,h2];rfl) hm
theorem z1F{α:Type}{c:α→List Tr}{xs ys zs:List α}{o:Oper}{s:St}{x y:Operand}{t e d id sz bytes:Nat}{z:Value}{m:VwM}(vt:Nat)(ho:o.op=.call {callee:=.builtin .append,args:=#[x,y],argTypes:=#[t,t]})(hd:o.dst=some d)(ht:P.underlying t=some (.slice e))
  (hi:(P.info? e).map (fun i=>(i.zero,i.size,i.bytes))=some (some z,sz,bytes)) (hzs:z.cells.size=sz) (hx:s.ev x=.ow id) (he:s.ent id=some (.arr e sz ((xs++ys).map c))) (hy:zCX s (s.ev y)=some (zs.map c)) (hc:∀v,(c v).length=sz) (hne:zs≠[])
  (hr:(xs++ys).length+zs.length≤1099511627776) (hby:bytes≤128) (hvt:s.get vt=.vw id (xs.map c) m) (hdv:d≠vt):X P o s ⟨((zEM id s.T).set vt (.vw id (xs.map c) m)).set d (.ow id),setE id (.arr e sz ((xs++(ys++zs)).map c)) s.E⟩:=by
 have h:=z3X (P:=P) (els0:=xs.map c) (r:=ys.map c) (els2:=zs.map c) ho hd ht hi hzs hx (by rw[←List.map_append];exact he) hy (fun el hel=>by obtain⟨y,_,rfl⟩:=List.mem_map.1 hel;exact hc y) (by simpa using hne)
  (by simpa using hr) hby hvt hdv
 rw[←List.map_append,←List.map_append,List.append_assoc]at h;exact h
theorem zQl:∀(els:List (List Tr))(sz k:Nat),(∀e,e∈els→e.length=sz)→(els.drop k).flatten=els.flatten.drop (k*sz)
 |[],sz,k,_=>by simp
 |e::es,sz,0,_=>by simp
 |e::es,sz,k+1,h=>by have h1:=h e (by simp);rw[List.drop_succ_cons,zQl es sz k (fun x hx=>h x (by simp[hx])),List.flatten_cons,Nat.add_mul,Nat.one_mul,Nat.add_comm,←List.drop_drop,←h1,List.drop_left]
theorem zQk:∀(els:List (List Tr))(sz k:Nat),(∀e,e∈els→e.length=sz)→(els.take k).flatten=els.flatten.take (k*sz)
 |[],sz,k,_=>by simp
 |e::es,sz,0,_=>by simp
 |e::es,sz,k+1,h=>by
  have h1:=h e (by simp);have e2:(k+1)*sz=e.length+k*sz:=by rw[Nat.add_mul,h1];omega
  rw[List.take_succ_cons,List.flatten_cons,List.flatten_cons,zQk es sz k (fun x hx=>h x (by simp[hx])),e2,List.take_length_add_append]
theorem z3M{α β:Type}(c:α→β)(l:List α)(k1 k2:Nat):(zLS l k1 k2).map c=zLS (l.map c) k1 k2:=by unfold zLS splice;simp only[List.map_append,List.map_take,List.map_drop,List.length_map,List.length_take,List.length_drop]
theorem zXD{α:Type}{c:α→List Tr}{xs:List α}{o:Oper}{s:St}{t e T sz id:Nat}{x y:Operand}{l:Int}{u:Unit}(hu:P.underlying t=some (.slice e))(hsz:(P.info? e).map (·.size)=some sz)(ho:o.op=.slice t x (some y) none none)
  (hx:s.ev x=.ow id) (he:s.entc id=some (.arr T sz (xs.map c))) (hy:s.ev y=I l) (hl:slc xs.length l (xs.length:Int)=some u):Y0 P o s (.sf id sz l.toNat):=
 qI fun ok σ a w hC=>by
  have h1:=hC.ev x;rw[hx]at h1;have h6:a.eval x=zK (σ id):=h1;obtain⟨h3,hn,hs,vs,h4,h5⟩:=hC.entc id _ he;obtain⟨b1,b2,_⟩:=zJm hl;rw[List.length_map]at hn;refine⟨zPA (σ id) sz l.toNat,?_,rfl⟩;cases hii:P.info? e with
  |none=>rw[hii]at hsz;simp at hsz
  |some i=>
   have h7:i.size=sz:=by rw[hii]at hsz;simpa using hsz
   have hb:∀w,(Instr.sliceBounds true (σ id).n (σ id).cap (some (.int .i64 l)) none none).run P w=.ok (l.toNat,(σ id).n,(σ id).cap) w:=by intro w;unfold Instr.sliceBounds;simp[zG2 (P:=P) (k:=.i64) (n:=l) (y:=(σ id).n) (by omega) (by omega)]
   unfold execOp;rw[ho];simp only[h6,zK,hC.exact hy,Option.map_some,Option.map_none,Instr.sliceAt,Instr.slice,run_underlying hu,Sem.run_bind,Sem.run_pure,Result.andThen_ok,hb,sizeOf,typeInfo,hii,h7,zPA];cases hq:Nat.beq (σ id).cap l.toNat with
   |true=>have e1:(σ id).cap=l.toNat:=Nat.eq_of_beq_eq_true hq;simp[e1,hii,h7]
   |false=>
    have e1:¬(σ id).cap=l.toNat:=fun h=>by rw[h,Nat.beq_refl]at hq;cases hq
    cases (σ id).blk<;>simp[e1,zCm,hii,h7]
theorem z74{α:Type}{c:α→List Tr}{xs:List α}{o:Oper}{s:St}{x y:Operand}{t e d id sz T k1 k2:Nat}(ho:o.op=.call {callee:=.builtin .copy,args:=#[x,y],argTypes:=#[t,t]})(hd:o.dst=some d)(hu:P.underlying t=some (.slice e))
  (hsz:(P.info? e).map (·.size)=some sz) (hx:s.ev x=.sf id sz k1) (hy:s.ev y=.sf id sz k2) (he:s.ent id=some (.arr T sz (xs.map c))) (h1:k1≤xs.length) (h2:k2≤xs.length) (hne:xs≠[]):X P o s ⟨s.T.set d (I (cpN xs.length k1 k2:Nat)),setE id (.arr T sz ((zLS xs k1 k2).map c)) s.E⟩:=by
 intro B w0 ok0 ok σ a w hR K Q hK;obtain⟨h0,hn,hs,vs,hown,hrd⟩:=hR.core.ent id _ he;have hx1:=hR.core.ev x;rw[hx]at hx1;have hx2:a.eval x=zPA (σ id) sz k1:=hx1;have hy1:=hR.core.ev y;rw[hy]at hy1;have hy2:a.eval y=zPA (σ id) sz k2:=hy1;rw[z3M]at hK;have hlen:(xs.map c).length=xs.length:=List.length_map ..;have hmap:xs.map c≠[]:=by simpa using hne
 generalize xs.map c=els at*;rw[←hlen]at h1 h2 hK;clear hne hlen;have hpos:0<els.length:=List.length_pos_iff.2 hmap;obtain⟨g,hg⟩:=zMw hown hpos;rcases hown.2 with⟨_,hv0⟩|⟨g2,cap,cur,hv,hb,hgc,hnc,hcm,hcs,htake⟩
 ·omega
 ·have hg2:g2=g∧(σ id).cap=cap:=by
   unfold zK at hv;rw[hg]at hv;injection hv with h8 _ h9;simp at h8;exact⟨h8.symm,h9⟩
  obtain⟨rfl,hcap⟩:=hg2;have hvl:vs.length=els.length*sz:=hown.1;have hmdef:cpN els.length k1 k2≤els.length - k1∧cpN els.length k1 k2≤els.length - k2:=⟨Nat.min_le_right _ _,Nat.min_le_left _ _⟩
  generalize hm:cpN els.length k1 k2=m at*;have hms:k2*sz+m*sz≤els.length*sz∧k1*sz+m*sz≤els.length*sz:=by rw[←Nat.add_mul,←Nat.add_mul];exact⟨Nat.mul_le_mul_right _ (by omega),Nat.mul_le_mul_right _ (by omega)⟩
  have hfit2:els.length*sz≤cur.size:=by rw[hcs];exact Nat.mul_le_mul_right _ hnc
  have hcl:((vs.drop (k2*sz)).take (m*sz)).length=m*sz:=by simp only[List.length_take,List.length_drop];omega
  have hcells:RdL ok w (els.flatten.drop (k2*sz)|>.take (m*sz)) ((vs.drop (k2*sz)).take (m*sz)):=(hrd.drop _).take _;have hread:∀j u,((vs.drop (k2*sz)).take (m*sz))[j]?=some u→w.cell? ⟨g2,k2*sz+j,none⟩=some u:=fun j u hj=>by
   rw[List.getElem?_take]at hj;split at hj
   ·rw[List.getElem?_drop]at hj;exact zMR hown hg _ u hj
   ·cases hj
  generalize hcsd:(vs.drop (k2*sz)).take (m*sz)=cs at*;have hrun:(Builtin.copy_ #[t,t] o.type #[zPA (σ id) sz k1,zPA (σ id) sz k2]).run P w=.ok (goInt m) (w.setRow g2 (splice cur.toList (k1*sz) cs).toArray):=by
   cases hii:P.info? e with
   |none=>rw[hii]at hsz;simp at hsz
   |some i=>
    have h7:i.size=sz:=by rw[hii]at hsz;simpa using hsz
    have hmm:Nat.min (els.length - k2) (els.length - k1)=m:=hm;rcases Nat.eq_zero_or_pos m with hz|hz
    ·have hcs0:cs=[]:=List.eq_nil_of_length_eq_zero (by rw[hcl,hz,Nat.zero_mul]);have hid:w.setRow g2 (splice cur.toList (k1*sz) []).toArray=w:=by
      rw[zTZ];simpa using setRow_self w g2 cur T (0,0) hgc
     have hnn:(σ id).n=els.length:=hn;rw[hcs0,hid];unfold zPA;rw[hg,hnn];cases Nat.beq (σ id).cap k1<;>cases Nat.beq (σ id).cap k2<;>simp[Builtin.copy_,run_underlying hu,Builtin.lenOf,Builtin.firstCells,sizeOf,typeInfo,hii,h7,hmm,hz,loadCells,loadCellsFrom,storeCells]
    ·have n1:Nat.beq (σ id).cap k1=false:=by
      cases hq:Nat.beq (σ id).cap k1 with
      |false=>rfl
      |true=>have:=Nat.eq_of_beq_eq_true hq;omega
     have n2:Nat.beq (σ id).cap k2=false:=by
      cases hq:Nat.beq (σ id).cap k2 with
      |false=>rfl
      |true=>have:=Nat.eq_of_beq_eq_true hq;omega
     have hl:=run_loadCells_list (P:=P) w ⟨g2,k2*sz,none⟩ cs (fun j u hj=>by rw[zCm];exact hread j u hj);have hone:∀v∈cs,v.oneCell'=true:=hcells.one;have hst:=run_storeCells_at P g2 (k1*sz) T cs 0 cur w hgc (by rw[hcl];omega) hone;rw[hcl]at hl;have hsp:cur.toList.take (k1*sz+0)++cs++cur.toList.drop (k1*sz+0+cs.length)=splice cur.toList (k1*sz) cs:=rfl;rw[hsp]at hst;have hnn:(σ id).n=els.length:=hn;unfold zPA;rw[n1,n2,hg,hnn];simp[Builtin.copy_,run_underlying hu,Builtin.lenOf,Builtin.firstCells,sizeOf,typeInfo,hii,h7,hmm,hl,hst]
  unfold Oper.wp execOp;simp only[ho,resolve,invoke,builtin,Sem.run_bind,Sem.run_pure,Result.andThen_ok,List.map_toArray,List.map_cons,zp,hx2,hy2,hrun];show K (a.put o.dst _) _;rw[hd];have hflat:(zLS els k1 k2).flatten=splice els.flatten (k1*sz) (els.flatten.drop (k2*sz)|>.take (m*sz)):=by
   unfold zLS splice;rw[hm];have e1:(((els.drop k2).take m)).flatten=(els.flatten.drop (k2*sz)).take (m*sz):=by rw[zQk _ sz m (fun e he=>hs e (List.mem_of_mem_drop he)),zQl els sz k2 hs]
   rw[List.flatten_append,List.flatten_append,zQk els sz k1 hs,e1,zQl els sz _ hs];have e2:(List.take m (List.drop k2 els)).length=m:=by simp only[List.length_take,List.length_drop];omega
   have e3:(List.take (m*sz) (List.drop (k2*sz) els.flatten)).length=m*sz:=by simp only[List.length_take,List.length_drop,zEO els sz hs];omega
   rw[e2,e3,Nat.add_mul]
  have hclen:(zLS els k1 k2).length=els.length:=by
   unfold zLS;refine zG1 _ _ _ ?_
   rw[hm];simp only[List.length_take,List.length_drop];omega
  refine hK _ _ ok σ ((hR.write he hg _ ⟨cur,T,hgc⟩ _ (zDS id _ s.E _ he) fun hw=>?_).put (d:=d) (av:=I (m:Nat)) (zIY _ _ _ _));have hmono:∀q,ok q→(w.setRow g2 (splice cur.toList (k1*sz) cs).toArray).heap[q]?=w.heap[q]?:=fun q hq=>hw q fun e=>(hR.core.blk id _ g2 he hg).1 (e▸hq)
  have hq:cur.toList.length=cur.size:=Array.length_toList;refine⟨h0,by rw[hclen];exact hn,fun e hm2=>?_,splice vs (k1*sz) cs,⟨?_,.inr ⟨g2,cap,_,by rw[hclen];exact hv,hb,setRow_heap w g2 cur _ T _ hgc,by rw[hclen];exact hnc,hcm,?_,?_⟩⟩,?_⟩
  ·unfold zLS splice at hm2;simp only[zm]at hm2;rcases hm2 with (h9|h9)|h9
   ·exact hs e (List.mem_of_mem_take h9)
   ·exact hs e (List.mem_of_mem_drop (List.mem_of_mem_take h9))
   ·exact hs e (List.mem_of_mem_drop h9)
  ·rw[zG1 _ _ _ (by rw[hvl,hcl];omega),hvl,hclen]
  ·simp only[List.size_toArray];rw[zG1 _ _ _ (by rw[hcl,hq];omega),hq,hcs]
  ·rw[hclen];show (splice cur.toList (k1*sz) cs).take (els.length*sz)=_;rw[zRT _ _ _ _ (by rw[hcl];omega) (by rw[hq];exact hfit2),htake]
  ·rw[hflat];exact (hrd.mono (fun _ h=>h) hmono).splice _ (hcells.mono (fun _ h=>h) hmono)
theorem z3w{n:Nat}{l h:Int}{u:Unit}(hh:slc n l h=some u):l.toNat≤n:=by obtain⟨h1,h2,h3⟩:=zJm hh;omega
theorem z73{o:Oper}{s:St}{av:AV}{E:List (Nat×Ent)}(d:Nat)(h:X P o s ⟨s.T.set d av,E⟩):X P o s ⟨s.T.set d .bot,E⟩:=by
 intro B w0 ok0 ok σ a w hR K Q hK;refine h _ _ _ _ _ _ _ hR K Q fun a' w' ok' σ' hR'=>hK a' w' ok' σ' (hR'.le ⟨by simp,fun t=>?_,fun id e he=>he⟩);unfold St.get;simp only[List.getElem?_set];by_cases hd:d=t
 ·subst hd;by_cases h2:d<s.T.length
  ·simp[h2]
  ·simp[h2]
 ·simp[hd]
end
theorem z5W(a b:qd):(a==b)=decide (a=b):=by
 have h:(a==b)=(a.data==b.data):=rfl;rw[h,Bool.eq_iff_iff,beq_iff_eq,qa];constructor
 ·intro h;cases a;cases b;exact congrArg _ h
 ·intro h;rw[h]
section
variable {κ ν:Type} [DecidableEq κ]
theorem zUN{a:κ}:∀{m:List (κ×ν)},ixM a (m.map Prod.fst)=none→mGet a m=none∧∀v,mPut a v m=m++[(a,v)]
 |[],_=>⟨rfl,fun _=>rfl⟩
 |p::ps,h=>by
  simp only[List.map_cons,ixM]at h;by_cases e:a=p.1
  ·rw[if_pos e]at h;cases h
  ·rw[if_neg e]at h;have h2:ixM a (ps.map Prod.fst)=none:=by simpa using h
   obtain⟨k1,k2⟩:=zUN h2;exact⟨by unfold mGet;rw[if_neg e,k1],fun v=>by unfold mPut;rw[if_neg e,k2];rfl⟩
theorem zUM{a:κ}:∀{m:List (κ×ν)}{j:Nat},ixM a (m.map Prod.fst)=some j→∃v0,m[j]?=some (a,v0)∧mGet a m=some v0∧∀v,mPut a v m=m.set j (a,v)
 |[],j,h=>by cases h
 |p::ps,j,h=>by
  simp only[List.map_cons,ixM]at h;by_cases e:a=p.1
  ·rw[if_pos e]at h;injection h with h;subst h;refine⟨p.2,by rw[e];rfl,by unfold mGet;rw[if_pos e],fun v=>by unfold mPut;rw[if_pos e];rfl⟩
  ·rw[if_neg e]at h;cases h2:ixM a (ps.map Prod.fst) with
   |none=>rw[h2]at h;cases h
   |some i=>rw[h2]at h;injection h with h;subst h;obtain⟨v0,k1,k2,k3⟩:=zUM h2;exact⟨v0,by simpa using k1,by unfold mGet;rw[if_neg e,k2],fun v=>by unfold mPut;rw[if_neg e,k3];rfl⟩
end
section
variable {P:Program}
structure KeyT (P:Program) {κ:Type} [DecidableEq κ] (kt:TypeId) (ek:κ→Value):Prop where
  chk:∀b a w,(Instr.checkKey b 10000 kt (ek a)).run P w=.ok () w
  find:∀a (es:List MapEntry)(ks:List κ) w,es.map (·.key)=ks.map ek→(Instr.findKey kt (ek a) es).run P w=.ok ((ixM a ks).bind fun j=>(es[j]?).map fun e=>(j,e.val)) w
  bits:∀a,Instr.sameBits 10000 (ek a) (ek a)=true
theorem zRX{κ:Type} [DecidableEq κ]{d:TypeDesc}{ek:κ→Value}(hs:∀a b,Instr.sameNow d (ek a) (ek b)=some (decide (a=b)))(a:κ):∀(es:List MapEntry)(ks:List κ)(i:Nat),es.map (·.key)=ks.map ek→
  Instr.findNow d (ek a) es i=some ((ixM a ks).bind fun j=>(es[j]?).map fun e=>(i+j,e.val))
 |[],[],i,_=>rfl
 |[],k::ks,i,h=>by simp at h
 |e::es,[],i,h=>by simp at h
 |e::es,k::ks,i,h=>by
  simp only[List.map_cons,List.cons.injEq]at h;have ih:=zRX hs a es ks (i+1) h.2;unfold Instr.findNow;rw[h.1,hs];by_cases e1:a=k
  ·simp[e1,ixM]
  ·simp only[zc e1,ih,ixM,if_neg e1];cases ixM a ks with
   |none=>rfl
   |some j=>simp only[Option.bind_some,Option.map_some,List.getElem?_cons_succ];rw[show i+1+j=i+(j+1) by omega]
theorem z42{κ:Type} [DecidableEq κ]{kt:TypeId}{ek:κ→Value}(d:TypeDesc)(hd:P.underlying kt=some d)(chk:∀b a w,(Instr.checkKey b 10000 kt (ek a)).run P w=.ok () w)(hs:∀a b,Instr.sameNow d (ek a) (ek b)=some (decide (a=b)))
  (bits:∀a,Instr.sameBits 10000 (ek a) (ek a)=true):KeyT P kt ek:=by
 refine⟨chk,fun a es ks w h=>?_,bits⟩;unfold Instr.findKey;simp only[Sem.run_bind,run_underlying hd,Result.andThen_ok];have:=zRX hs a es ks 0 h;simp only[Nat.zero_add]at this;rw[this];rfl
theorem z3z{t:TypeId}{z:Value}(h:(P.info? t).bind (·.zero)=some z)(w:World):(zeroValue t).run P w=.ok z w:=by
 cases hi:P.info? t with
 |none=>rw[hi]at h;cases h
 |some i=>rw[hi]at h;have h2:i.zero=some z:=h;simp[zeroValue,typeInfo,hi,h2]
theorem zZL{κ ν:Type} [DecidableEq κ]{ek:κ→Value}{ev:ν→Value}{t kt vt:TypeId}{z:ν}(ht:P.underlying t=some (.map kt vt))(hk:KeyT P kt ek)(hz:(P.info? vt).bind (·.zero)=some (ev z)){w:World}{b:Nat}{es:Array MapEntry}{clock:Nat}(hb:w.heap[b]?=some (.map es clock))
  {m:List (κ×ν)} (hm:es.toList.map kvOf=m.map fun p=>(ek p.1,ev p.2)) (a:κ) (co:Bool):
  (Instr.lookup t (.map (some b)) (ek a) co).run P w=.ok (if co then .tuple #[ev (mAt a m z),.bool (mHas a m)] else ev (mAt a m z)) w:=by
 have hkeys:es.toList.map (·.key)=(m.map Prod.fst).map ek:=by have:=congrArg (List.map Prod.fst) hm;simpa [kvOf,Function.comp_def] using this
 have hf:=hk.find a es.toList (m.map Prod.fst) w hkeys;unfold Instr.lookup;simp only[Sem.run_bind,run_underlying ht,Result.andThen_ok,MapKept.run_getObj_map hb,Sem.run_pure,hk.chk,hf];cases hi:ixM a (m.map Prod.fst) with
 |none=>obtain⟨k1,_⟩:=zUN hi;simp only[Option.bind_none,Sem.run_bind,z3z hz,Result.andThen_ok,Sem.run_pure,mAt,mHas,k1,Option.getD_none,Option.isSome_none]
 |some j=>
  obtain⟨v0,k1,k2,_⟩:=zUM hi;have he:∃e,es.toList[j]?=some e∧e.val=ev v0:=by
   have h1:=congrArg (fun l=>l[j]?) hm;simp only[List.getElem?_map,k1,Option.map_some]at h1;cases h2:es.toList[j]? with
   |none=>rw[h2]at h1;cases h1
   |some e=>rw[h2]at h1;simp only[Option.map_some,Option.some.injEq,kvOf,Prod.mk.injEq]at h1;exact⟨e,rfl,h1.2⟩
  obtain⟨e,e1,e2⟩:=he;simp only[Option.bind_some,e1,Option.map_some,Sem.run_bind,Sem.run_pure,Result.andThen_ok,mAt,mHas,k2,Option.getD_some,Option.isSome_some,e2]
theorem zTt{κ ν:Type} [DecidableEq κ]{ek:κ→Value}{ev:ν→Value}{t kt vt:TypeId}(ht:P.underlying t=some (.map kt vt))(hk:KeyT P kt ek){w:World}{b:Nat}{es:Array MapEntry}{clock:Nat}(hb:w.heap[b]?=some (.map es clock))
  {m:List (κ×ν)} (hm:es.toList.map kvOf=m.map fun p=>(ek p.1,ev p.2)) (a:κ) (v:ν):
  ∃es' clock',(Instr.mapUpdate t (.map (some b)) (ek a) (ev v)).run P w=.ok () {w with heap:=w.heap.setIfInBounds b (.map es' clock')}∧es'.toList.map kvOf=(mPut a v m).map fun p=>(ek p.1,ev p.2):=by
 have hkeys:es.toList.map (·.key)=(m.map Prod.fst).map ek:=by have:=congrArg (List.map Prod.fst) hm;simpa [kvOf,Function.comp_def] using this
 have hf:=hk.find a es.toList (m.map Prod.fst) w hkeys;cases hi:ixM a (m.map Prod.fst) with
 |none=>
  obtain⟨_,k2⟩:=zUN hi;refine⟨es.push {key:=ek a,val:=ev v,born:=clock},clock+1,?_,?_⟩
  ·unfold Instr.mapUpdate;rw[hi]at hf;simp only[Sem.run_bind,run_underlying ht,Result.andThen_ok,MapKept.run_getObj_map hb,Sem.run_pure,hk.chk,hf,Option.bind_none,MapKept.run_setObj_map _ hb]
  ·rw[k2];simp[hm,kvOf]
 |some j=>
  obtain⟨v0,k1,_,k3⟩:=zUM hi;have he:∃e,es.toList[j]?=some e∧e.key=ek a:=by
   have h1:=congrArg (fun l=>l[j]?) hm;simp only[List.getElem?_map,k1,Option.map_some]at h1;cases h2:es.toList[j]? with
   |none=>rw[h2]at h1;cases h1
   |some e=>rw[h2]at h1;simp only[Option.map_some,Option.some.injEq,kvOf,Prod.mk.injEq]at h1;exact⟨e,rfl,h1.1⟩
  obtain⟨e,e1,e2⟩:=he;have e3:es[j]?=some e:=by simpa using e1
  refine⟨es.modify j fun e=>{e with key:=ek a,val:=ev v},clock,?_,?_⟩
  ·unfold Instr.mapUpdate;rw[hi]at hf;simp only[Sem.run_bind,run_underlying ht,Result.andThen_ok,MapKept.run_getObj_map hb,Sem.run_pure,hk.chk,hf,Option.bind_some,e1,Option.map_some,e3,Option.getD_some,e2,Instr.keyThatStays,hk.bits,if_true,MapKept.run_setObj_map _ hb]
  ·rw[k3,Array.toList_modify];apply List.ext_getElem?;intro i;have h1:=congrArg (fun l=>l[i]?) hm;simp only[List.getElem?_map]at h1 ⊢;rw[List.getElem?_modify,List.getElem?_set];by_cases hij:j=i
   ·subst hij;have hlt:j<m.length:=(List.getElem?_eq_some_iff.1 k1).1;simp[e1,hlt,kvOf]
   ·simp only[hij,if_false,Option.map_map];rw[←h1];cases es.toList[i]?<;>rfl
theorem R.writeG{B:Fr}{w0:World}{ok0 ok:Nat→Prop}{σ:Nat→Loc}{s:St}{a:Act}{w w':World}(h:R B w0 ok0 ok σ s a w){id:Nat}{e e':Ent}{g:Nat}(he:s.ent id=some e)(hg:(σ id).blk=some g)(hsize:w'.heap.size=w.heap.size)
  (hw:∀q,q≠g→w'.heap[q]?=w.heap[q]?) (hos:w'.os=w.os) (htp:w'.tape=w.tape) (hou:w'.output=w.output) (E':List (Nat×Ent)) (hE:∀j,(E'.lookup j)=if j=id then some e' else s.ent j) (hok:zCN ok w' (σ id) e') (hpin:e'.pin=e.pin):
  R B w0 ok0 ok σ ⟨s.T,E'⟩ a w':=by
 obtain⟨hb1,hb2⟩:=h.core.blk id e g he hg;have hB:=h.own id e g he hg;have hwok:∀q,ok q→w'.heap[q]?=w.heap[q]?:=fun q hq=>hw q fun e=>hb1 (e▸hq)
 have look:∀j f,(St.mk s.T E').ent j=some f→(j=id∧f=e')∨(j≠id∧s.ent j=some f):=by
  intro j f hj;have h1:E'.lookup j=some f:=hj;rw[hE]at h1;split at h1
  ·rename_i hji;exact .inl ⟨hji,by simpa using h1.symm⟩
  ·rename_i hji;exact .inr ⟨hji,h1⟩
 refine⟨⟨h.core.len,fun q hq=>by rw[hsize];exact h.core.okL q hq,h.core.lib.mono (fun _ h=>h) hwok,fun t=>?_,fun j f hj=>?_,fun j f q hj hq=>?_,fun i j f1 f2 q hi hj h1 h2=>?_⟩,h.defers,h.below.trans ?_,by rw[hsize];exact h.base,h.old,h.fresh,fun j f q hj hq=>?_⟩
 ·have h1:=h.core.tmp t;exact h1.mono0 (fun _ h=>h) hwok
 ·rcases look j f hj with⟨rfl,rfl⟩|⟨h1,h2⟩
  ·exact hok
  ·refine (h.core.ent j f h2).mono (fun _ h=>h) hwok fun q hq=>hw q fun e1=>?_
   subst e1;exact h1 (h.core.inj _ _ _ _ _ h2 he hq hg)
 ·rw[hsize];rcases look j f hj with⟨rfl,rfl⟩|⟨h1,h2⟩
  ·exact h.core.blk _ _ _ he hq
  ·exact h.core.blk _ _ _ h2 hq
 ·rcases look i f1 hi with⟨a1,a2⟩|⟨a1,a2⟩<;>rcases look j f2 hj with⟨b1,b2⟩|⟨b1,b2⟩
  ·omega
  ·subst a1;exact h.core.inj _ _ _ _ _ he b2 h1 h2
  ·subst b1;exact h.core.inj _ _ _ _ _ a2 he h1 h2
  ·exact h.core.inj _ _ _ _ _ a2 b2 h1 h2
 ·refine⟨hos,htp,hou,by rw[hsize];exact Nat.le_refl _,fun q hq hx=>hw q fun e1=>?_⟩;subst e1;split at hB
  ·exact hx hB
  ·exact hq hB
 ·rcases look j f hj with⟨rfl,rfl⟩|⟨h1,h2⟩
  ·rw[hpin];exact h.own _ _ _ he hq
  ·exact h.own _ _ _ h2 hq
def trV:Tr→Option Value
 | .v x=>some x
 |_=>none
def keyV:AV→Option Value
 | .c (.v x)=>some x
 | .ag cs=>(cs.mapM trV).map fun xs=>.agg xs.toArray
 |_=>none
theorem z4X{ok:Nat→Prop}{w:World}:∀(cs:List Tr)(vs xs:List Value),RdL ok w cs vs→(cs.mapM trV)=some xs→vs=xs
 |[],_,xs,.nil,h=>by simpa using h
 |c::cs,_,xs,.cons h1 h2,h=>by
  rw[List.mapM_cons]at h;cases c with
  |v x=>
   simp only[trV,Option.pure_def,Option.bind_eq_bind,Option.bind_some]at h;cases h3:(cs.mapM trV) with
   |none=>rw[h3]at h;cases h
   |some ys=>rw[h3]at h;simp only[Option.bind_some,Option.some.injEq]at h;subst h;have:=z4X cs _ ys h2 h3;subst this;cases h1;rfl
  |sl e=>simp[trV]at h
  |mp e=>simp[trV]at h
theorem zWg{ok:Nat→Prop}{σ:Nat→Loc}{s:St}{a:Act}{w:World}(h:Core ok σ s a w){x:Operand}{v:Value}(hx:keyV (s.ev x)=some v):a.eval x=v:=by
 have h1:=h.ev x;cases hs:s.ev x with
 |c t=>
  rw[hs]at hx;cases t with
  |v y=>injection hx with hx;subst hx;exact h.exact hs
  |sl e=>cases hx
  |mp e=>cases hx
 |ag cs=>
  rw[hs]at hx h1;obtain⟨vs,hv,hr⟩:=(h1:Rel1 ok σ w (.ag cs) (a.eval x))
  simp only[keyV,Option.map_eq_some_iff]at hx;obtain⟨xs,h2,h3⟩:=hx;have:=z4X cs vs.toList xs hr h2;rw[hv,←h3,←this]
 |bot=>rw[hs]at hx;cases hx
 |ow _=>rw[hs]at hx;cases hx
 |pt _ _=>rw[hs]at hx;cases hx
 |po _ _ _ _=>rw[hs]at hx;cases hx
 |pe _=>rw[hs]at hx;cases hx
 |fn _ _=>rw[hs]at hx;cases hx
 |er _=>rw[hs]at hx;cases hx
 |vw _ _ _=>rw[hs]at hx;cases hx
 |sf _ _ _=>rw[hs]at hx;cases hx
 |tn=>rw[hs]at hx;cases hx
 |tc _ _=>rw[hs]at hx;cases hx
def MpOk(P:Program)(t:TypeId){κ ν:Type} [DecidableEq κ](ek:κ→Value)(ev:ν→Value)(z:ν):Prop:=∃kt vt,P.underlying t=some (.map kt vt)∧KeyT P kt ek∧(P.info? vt).bind (·.zero)=some (ev z)∧∀v,(ev v).oneCell'=true
theorem zUK{ok:Nat→Prop}{σ:Nat→Loc}{s:St}{a:Act}{w:World}(h:Core ok σ s a w){x:Operand}{id b:Nat}{kvs:List (Value×Value)}(hx:s.ev x=.c (.v (.map (some b))))(he:s.ent id=some (.mp b kvs)):a.eval x=.map (some b)∧∃es clock,w.heap[b]?=some (.map es clock)∧es.toList.map kvOf=kvs:=by obtain⟨h1,es,clock,h2,h3⟩:=h.ent id _ he;exact⟨h.exact hx,es,clock,h2,h3⟩
theorem z5g{o:Oper}{s:St}{x k:Operand}{t:TypeId}{κ ν:Type} [DecidableEq κ]{ek:κ→Value}{ev:ν→Value}{z:ν}{id b:Nat}{m:List (κ×ν)}{a:κ}(hm:MpOk P t ek ev z)(ho:o.op=.lookup t x k false)(hx:s.ev x=.c (.v (.map (some b))))(he:s.ent id=some (.mp b (m.map fun p=>(ek p.1,ev p.2))))(hk:keyV (s.ev k)=some (ek a)):
  Y0 P o s (.c (.v (ev (mAt a m z)))):=
 qI fun ok σ ac w hC=>by obtain⟨kt,vt,h1,h2,h3,h4⟩:=hm;obtain⟨e1,es,clock,e2,e3⟩:=zUK hC hx he;have:=zZL h1 h2 h3 e2 e3 a false;refine⟨_,?_,Rd.v _ (h4 _)⟩;unfold execOp;rw[ho];simp only[e1,zWg hC hk,Sem.run_bind,this,Result.andThen_ok,Sem.run_pure];rfl
theorem zLH{o:Oper}{s:St}{x k v:Operand}{t:TypeId}{κ ν:Type} [DecidableEq κ]{ek:κ→Value}{ev:ν→Value}{z:ν}{id b:Nat}{m:List (κ×ν)}{a:κ}{u:ν}(hm:MpOk P t ek ev z)(ho:o.op=.mapUpdate t x k v∨o.op=.insert t x k v)(hd:o.dst=none)(hx:s.ev x=.c (.v (.map (some b))))(he:s.ent id=some (.mp b (m.map fun p=>(ek p.1,ev p.2))))(hk:keyV (s.ev k)=some (ek a))(hv:s.ev v=.c (.v (ev u))):
  X P o s ⟨s.T,setE id (.mp b ((mPut a u m).map fun p=>(ek p.1,ev p.2))) s.E⟩:=by
 intro B w0 ok0 ok σ ac w hR K Q hK;obtain⟨kt,vt,h1,h2,h3,h4⟩:=hm;obtain⟨e1,es,clock,e2,e3⟩:=zUK hR.core hx he;obtain⟨es',clock',r1,r2⟩:=zTt h1 h2 e2 e3 a u;have ek1:=zWg hR.core hk;have ev1:=hR.core.exact hv;have hblk:=(hR.core.ent id _ he).1;have hset:=MapKept.heap_set (o':=.map es' clock') e2;have hR':=hR.writeG (w':={w with heap:=w.heap.setIfInBounds b (.map es' clock')}) he hblk (by simp) (fun q hq=>hset.2 q hq) rfl rfl rfl _ (zDS id (.mp b ((mPut a u m).map fun p=>(ek p.1,ev p.2))) s.E _ he) ⟨hblk,es',clock',hset.1,r2⟩ rfl;have hrun:(execOp ac.eval o).run P w=.ok .skip {w with heap:=w.heap.setIfInBounds b (.map es' clock')}:=by unfold execOp;rcases ho with ho|ho<;>rw[ho]<;>simp only[e1,ek1,ev1,Sem.run_bind,r1,Result.andThen_ok,Sem.run_pure]
 unfold Oper.wp;rw[hrun];show K (ac.put o.dst undef) _;rw[hd];exact hK _ _ _ _ hR'
theorem z5z{ops:Array Oper}{o:Oper}{rest:List Oper}{s:St}{J:St→Prop}{t:TypeId}{d:Nat}(hg:o.guard=none)(ho:o.op=.makeMap t none)(hd:o.dst=some d)(hk:∀b:Nat,XL P ops rest ⟨(zNc d s.T).set d (.c (.v (.map (some b)))),(d*8,.mp b [])::zP5 d s.E⟩ J):XL P ops (o::rest) s J:=by
 intro B w0 ok0 ok σ a w hR Q hQ;refine wpList_plain hg fun K hK=>?_
 have hnew:New w (w.alloc (.map #[] 0)) ok ok (fun _=>⟨some w.heap.size,0,0⟩) (.c (.v (.map (some w.heap.size)))) [(0,.mp w.heap.size [])] (.map (some w.heap.size)):=by
  have ha:=MapKept.heap_alloc w (.map #[] 0);have hsz:(w.alloc (.map #[] 0)).heap.size=w.heap.size+1:=by show (w.heap.push _).size=_;simp
  refine⟨⟨rfl,rfl,rfl,by omega,fun k hk=>ha.2 k hk⟩,fun _ h=>h,fun _ h=>.inl h,fun g hg=>by have:=hR.core.okL g hg;omega,Rd.v _ rfl,fun id e he=>?_,fun e he=>rfl,fun id e he=>?_,fun id e g he hg=>?_,fun i j e f g hi hj _ _=>?_,fun id e he=>?_⟩
  ·obtain⟨h1,_⟩:=zAR _ _ _ _ he;omega
  ·obtain⟨h1,h2⟩:=zAR _ _ _ _ he;subst h2;exact⟨rfl,#[],0,ha.1,rfl⟩
  ·have e1:w.heap.size=g:=by simpa using hg
   subst e1;exact⟨Nat.le_refl _,fun h=>Nat.lt_irrefl _ (hR.core.okL _ h),by omega⟩
  ·obtain⟨h1,_⟩:=zAR _ _ _ _ hi;obtain⟨h2,_⟩:=zAR _ _ _ _ hj;omega
  ·obtain⟨_,h2⟩:=zAR _ _ _ _ he;subst h2;rfl
 have hrun:(execOp a.eval o).run P w=.ok (.value (.map (some w.heap.size))) (w.alloc (.map #[] 0)):=by unfold execOp;rw[ho];simp[Instr.makeMap]
 have hR':=hR.upd (d:=d) hnew;unfold Oper.wp;rw[hrun];show K (a.put o.dst _) _;rw[hd];exact hK _ _ (hk w.heap.size B w0 ok0 ok (fun id=>if id / 8=d then ⟨some w.heap.size,0,0⟩ else σ id) _ _ hR' Q hQ)
theorem z9c{id:Nat}{ops:Array Oper}{s:St}{J:Exit→St→Prop}(S:Nat→St)(m:List Bool)(ids:List Nat)(h:XL P ops ops.toList s (fun s'=>∃b,s'.keep m ids=S b))(hj:∀b,J .normal (S b)):V P (.region id ops false) s J:=by
 refine q7 fun B w0 ok0 ok σ a w hR Q hQ=>?_
 refine h _ _ _ _ _ _ _ hR Q fun s' a' w' ok' σ' hs hR'=>?_
 obtain⟨b,hs⟩:=hs;exact hQ _ a' w' ok' σ' (hj b) (by rw[←hs];exact hR'.le (zIm m ids s'))
theorem z7c{id:Nat}{ops:Array Oper}{y:Code}{s:St}{J:Exit→St→Prop}(S:Nat→St)(m:List Bool)(ids:List Nat)(h:XL P ops ops.toList s (fun s'=>∃b,s'.keep m ids=S b))(hv:∀b,V P y (S b) J):V P (.seq (.region id ops false) y) s J:=zV (z9c S m ids h hv)
end
section
variable (P:Program)
def ybin(op:BinOp):AV→AV→Option AV
 | .c (.v (.int k a)),.c (.v (.int k2 b))=>match decEq k k2 with
  |isTrue _=>(match op with
   | .lss=>some (Bo (ltI a b))
   | .leq=>some (Bo (leI a b))
   | .gtr=>some (Bo (ltI b a))
   | .geq=>some (Bo (leI b a))
   | .eql=>some (Bo (eqI a b))
   | .neq=>some (Bo (!eqI a b))
   |_=>none)
  |isFalse _=>none
 | .c (.v (.string a)),.c (.v (.string b))=>match op with
  | .eql=>some (Bo (a.toList==b.toList))
  | .neq=>some (Bo (!(a.toList==b.toList)))
  |_=>none
 |_,_=>none
def yv(s:St):Op→Option AV
 | .binOp op t x y _=>match ybin op (s.ev x) (s.ev y) with
  |some av=>some av
  |none=>(match s.ev x,s.ev y with
   | .c (.v (.bool a)),.c (.v (.bool b))=>(match P.underlying t with
    |some .bool=>(match op with
     | .eql=>some (Bo (a==b))
     | .neq=>some (Bo (a != b))
     |_=>none)
    |_=>none)
   |_,_=>none)
 | .pick c x y=>match s.ev c with
  | .c (.v (.bool b))=>nbA (bif b then s.ev x else s.ev y)
  |_=>none
 | .call c=>match c with
  |⟨.builtin .len,⟨[x]⟩,⟨[t]⟩⟩=>match P.underlying t,s.ev x with
   |some .string,.c (.v (.string b))=>some (I (b.size:Int))
   |_,_=>none
  |_=>none
 |_=>none
def yo(o:Oper)(s:St):Option St:=match xo P o s with
 |some s'=>some s'
 |none=>match o.dst with
  |some d=>(match yv P s o.op with
   |some av=>some (s.put d av)
   |none=>none)
  |none=>none
def gdt(ops:Array Oper)(j:Nat):Option Nat:=(ops[j]?).bind (·.dst)
def yg(ops:Array Oper)(o:Oper)(s:St):Option Bool:=match o.guard with
 |none=>some true
 |some (j,b)=>match gdt ops j with
  |some t=>match s.get t with
   | .c (.v (.bool c))=>some (bif c then b else !b)
   | .tn=>some false
   |_=>none
  |none=>none
def yr(ops:Array Oper):List Oper→St→Option St
 |[],s=>some s
 |o::os,s=>match yg ops o s with
  |some true=>(match yo P o s with
   |some s'=>yr ops os s'
   |none=>none)
  |some false=>(match o.dst with
   |some d=>yr ops os (s.put d .tn)
   |none=>none)
  |none=>none
def yD(ops:Array Oper)(l:List Oper)(s:St):St:=(yr P ops l s).getD s
def yc(ops:Array Oper)(f:FuncId)(l:List Oper)(s:St):Option (List AV):=match l with
 |o::_=>match yg ops o s,o.dst with
  |some true,some _=>(match o.op with
   | .call ⟨.value (.func g),xs,_⟩=>bif Nat.beq g f then some (evL s xs.toList) else none
   |_=>none)
  |_,_=>none
 |[]=>none
def ycn(ops:Array Oper)(f:FuncId)(n:Nat)(l:List Oper)(s:St):Option (List AV):=match yr P ops (l.take n) s with
 |some s'=>yc ops f (l.drop n) s'
 |none=>none
end
def dstH:List Oper→Nat
 |o::_=>o.dst.getD 0
 |[]=>0
section
variable {P:Program}
theorem z6J{o:Oper}{s:St}{op:BinOp}{t t2:TypeId}{x y:Operand}{av:AV}(ho:o.op=.binOp op t x y t2)(h:ybin op (s.ev x) (s.ev y)=some av):Y0 P o s av:=by
 generalize hx:s.ev x=a at h;generalize hy:s.ev y=b at h;unfold ybin at h;split at h
 ·split at h
  ·rename_i hk _;subst hk;cases op<;>simp only[Option.some.injEq,reduceCtorEq]at h<;>subst h<;>
    first|exact zRM ho hx hy|exact z59 ho hx hy|exact z5f ho hx hy|exact z5i ho hx hy|exact z5l ho hx hy|exact z5m ho hx hy
  ·cases h
 ·cases op<;>simp only[Option.some.injEq,reduceCtorEq]at h<;>subst h<;>
   first|exact zLG ho hx hy|exact z9Z ho hx hy
 ·cases h
theorem z7m{o:Oper}{s:St}{av:AV}(h:yv P s o.op=some av):Y0 P o s av:=by
 unfold yv at h;split at h
 ·rename_i ho;split at h
  ·rename_i hb;cases h;exact z6J ho hb
  ·split at h
   ·rename_i hx hy;split at h
    ·rename_i hu;split at h
     ·cases h;exact z97 hu ho hx hy
     ·cases h;exact z90 hu ho hx hy
     ·cases h
    ·cases h
   ·cases h
 ·rename_i ho;split at h
  ·rename_i b hc;obtain⟨h1,h2⟩:=zYA h;rw[←h1];exact zYb ho hc
  ·cases h
 ·rename_i ho;split at h
  ·rename_i x t;split at h
   ·rename_i b hu hx;cases h;exact z7Q hu ho hx
   ·cases h
  ·cases h
 ·cases h
theorem z7n{o:Oper}{s s':St}(h:yo P o s=some s'):X P o s s':=by
 unfold yo at h;split at h
 ·rename_i h1;cases h;exact z7o h1
 ·split at h
  ·rename_i d hd;split at h
   ·rename_i hv;cases h;exact zAn hd (z7m hv)
   ·cases h
  ·cases h
theorem zGh{ops:Array Oper}{o:Oper}{rest:List Oper}{s s':St}{J:St→Prop}(hg:yg ops o s=some true)(h:X P o s s')(hk:XL P ops rest s' J):XL P ops (o::rest) s J:=by
 unfold yg at hg;split at hg
 ·rename_i h1;exact zB2 h1 h hk
 ·rename_i j b h1;split at hg
  ·rename_i t ht;split at hg
   ·rename_i c hc;have e:c=b:=by cases c<;>cases b<;>simp_all
    subst e;exact z27 h1 ht hc h hk
   ·cases hg
   ·cases hg
  ·cases hg
theorem YT{ops:Array Oper}{o:Oper}{rest:List Oper}{s s':St}{J:St→Prop}(h:X P o s s')(hk:XL P ops rest s' J)(hg:yg ops o s=some true:=by kernel_rfl):XL P ops (o::rest) s J:=zGh hg h hk
theorem z1O{ops:Array Oper}{o:Oper}{rest:List Oper}{s:St}{d:Nat}{J:St→Prop}(hg:yg ops o s=some false)(hd:o.dst=some d)(hk:XL P ops rest (s.put d .tn) J):XL P ops (o::rest) s J:=by
 unfold yg at hg;split at hg
 ·cases hg
 ·rename_i j b h1;split at hg
  ·rename_i t ht;split at hg
   ·rename_i c hc;exact z29 h1 ht hc (by cases c<;>cases b<;>simp_all) hd hk
   ·rename_i hc;exact z5y h1 ht hc hd hk
   ·cases hg
  ·cases hg
theorem zW0{ops:Array Oper}{J:St→Prop}(rest:List Oper):∀(l:List Oper)(s s':St),yr P ops l s=some s'→XL P ops rest s' J→XL P ops (l++rest) s J
 |[],s,s',h,hk=>by cases h;exact hk
 |o::os,s,s',h,hk=>by
  unfold yr at h;split at h
  ·rename_i hg;split at h
   ·rename_i s1 h1;exact zGh hg (z7n h1) (zW0 rest os s1 s' h hk)
   ·cases h
  ·rename_i hg;split at h
   ·rename_i d hd;exact z1O hg hd (zW0 rest os _ s' h hk)
   ·cases h
  ·cases h
theorem YR(n:Nat){ops:Array Oper}{rest:List Oper}{s:St}{J:St→Prop}(hk:XL P ops (rest.drop n) (yD P ops (rest.take n) s) J)(h:(yr P ops (rest.take n) s).isSome=true:=by kernel_rfl):XL P ops rest s J:=by
 cases hx:yr P ops (rest.take n) s with
 |none=>rw[hx]at h;cases h
 |some s'=>
  have e:yD P ops (rest.take n) s=s':=by unfold yD;rw[hx];rfl
  rw[e]at hk;have:=zW0 (ops:=ops) (J:=J) (rest.drop n) (rest.take n) s s' hx hk
  rwa [List.take_append_drop]at this
theorem YF{ops:Array Oper}{rest:List Oper}{s:St}{K:St→Prop}(hk:K (yD P ops rest s))(h:(yr P ops rest s).isSome=true:=by kernel_rfl):XL P ops rest s K:=by
 cases hx:yr P ops rest s with
 |none=>rw[hx]at h;cases h
 |some s'=>
  have e:yD P ops rest s=s':=by unfold yD;rw[hx];rfl
  rw[e]at hk;have:=zW0 (ops:=ops) (J:=K) [] rest s s' hx (qN hk)
  rwa [List.append_nil]at this
theorem YE{ops:Array Oper}{rest:List Oper}{s s1:St}{m:List Bool}{ids:List Nat}(h:(yr P ops rest s).map (fun s'=>s'.keep m ids)=some s1:=by kernel_rfl):XL P ops rest s (fun s'=>s'.keep m ids=s1):=by
 cases hx:yr P ops rest s with
 |none=>rw[hx]at h;cases h
 |some s'=>
  rw[hx]at h;have h2:s'.keep m ids=s1:=by injection h
  have:=zW0 (ops:=ops) (J:=fun s'=>s'.keep m ids=s1) [] rest s s' hx (qN h2)
  rwa [List.append_nil]at this
theorem YK(n:Nat){ops:Array Oper}{rest:List Oper}{s:St}{J:St→Prop}{f:FuncId}{args:List AV}{av:AV}{ne:List (Nat×Ent)}(hS:zH P f args av ne)(hc:∀args w,(callFunc f args).run P w=.ok (.enter f args) w)
  (hk:XL P ops (rest.drop (n+1)) ((yD P ops (rest.take n) s).upd (dstH (rest.drop n)) av ne) J) (h:ycn P ops f n rest s=some args:=by kernel_rfl):XL P ops rest s J:=by
 unfold ycn at h;split at h
 ·rename_i s' hx;have e:yD P ops (rest.take n) s=s':=by unfold yD;rw[hx];rfl
  rw[e]at hk;unfold yc at h;split at h
  ·rename_i o os hl;split at h
   ·rename_i d hg hd;split at h
    ·rename_i g xs ts ho;cases hb:Nat.beq g f with
     |false=>rw[hb,cond_false]at h;cases h
     |true=>
      rw[hb,za]at h;have hgf:=Nat.eq_of_beq_eq_true hb;subst hgf;have e3:rest.drop (n+1)=os:=by rw[←List.drop_drop,hl];rfl
      rw[hl,e3,dstH,hd]at hk;have:=zW0 (ops:=ops) (J:=J) (rest.drop n) (rest.take n) s s' hx (by rw[hl];exact zGh hg (zE1 hd (zSr hS hc ho (by injection h))) hk)
      rwa [List.take_append_drop]at this
    ·cases h
   ·cases h
  ·cases h
 ·cases h
def gtH(ops:Array Oper):List Oper→Nat
 |o::_=>match o.guard with
  |some (j,_)=>(gdt ops j).getD 0
  |none=>match o.op with
   | .pick (.tmp t) _ _=>t
   |_=>0
 |[]=>0
theorem zXv(s:St)(t:Nat):s.put t (s.get t)=s:=by
 cases s with
 |mk T E=>
  simp only[St.put,St.get];congr 1;apply List.ext_getElem?;intro i;rw[List.getElem?_set];by_cases h:t=i
  ·subst h;by_cases h2:t<T.length
   ·simp[h2]
   ·simp[h2]
  ·simp[h]
theorem YQ{c v:Bool}(hc:c=v){ops:Array Oper}{rest:List Oper}{s:St}{J:St→Prop}(hk:XL P ops rest (s.put (gtH ops rest) (Bo v)) J)(h:s.get (gtH ops rest)=Bo c:=by kernel_rfl):XL P ops rest s J:=by subst hc;rw[←h,zXv]at hk;exact hk
abbrev CfW(P:Program)(f:FuncId):Prop:=∀args w,(callFunc f args).run P w=.ok (.enter f args) w
theorem cfW{f:FuncId}{fn:Func}(hf:P.funcs[f]?=some fn)(hn:(fn.name== "runtime.NumGoroutine")=false:=by kernel_rfl)(hb:fn.body.isNone=false:=by kernel_rfl):CfW P f:=zEP hf hn hb
theorem z8E:∀ks:List Nat,FitsL P (ks.map RS.t) (ks.map ResultVar.tmp)
 |[]=>FitsL.nil
 |k::ks=>.cons rfl (z8E ks)
theorem CtW(ks:List Nat){f:FuncId}{fn:Func}{c:Code}{args:List AV}{av:AV}{ne:List (Nat×Ent)}(hf:P.funcs[f]?=some fn)(hb:fn.body=some c)(hvs:fn.results=(ks.map ResultVar.tmp).toArray)(n:Nat)
  (h:V P c ⟨args++List.replicate (n - args.length) .bot,[]⟩ (Post (ks.map RS.t) av ne)) (hn:fn.ntmps=n:=by kernel_rfl) (hl:Nat.ble (ks.map RS.t).length 8=true:=by kernel_rfl):zH P f args av ne:=zEA hf hb hvs (z8E ks) (Nat.le_of_ble_eq_true hl) n hn h
theorem VS{id:Nat}{ops:Array Oper}{y:Code}{s:St}{J:Exit→St→Prop}(h:XL P ops ops.toList s (fun s'=>V P y s' J)):V P (.seq (.region id ops false) y) s J:=zV (q7 h)
theorem VE{id:Nat}{ops:Array Oper}{y:Code}{s:St}{J:Exit→St→Prop}(hv:V P y (yD P ops ops.toList s) J)(h:(yr P ops ops.toList s).isSome=true:=by kernel_rfl):V P (.seq (.region id ops false) y) s J:=VS (YF hv h)
theorem VC{c:Operand}{x y:Code}{s:St}{J:Exit→St→Prop}{b:Bool}{α:Type}{A B:Option α}{r:α}(h:(bif b then A else B)=some r)(ht:A=some r→V P x s J)(hf:B=some r→V P y s J)(hc:s.ev c=.c (.v (.bool b)):=by kernel_rfl):V P (.cond c x y) s J:=
 zLI hc (fun e=>ht (zCW h e)) (fun e=>hf (jB h e))
theorem VT{rs:List RS}{av:AV}{ne:List (Nat×Ent)}{s:St}(h1:zEa (zIl s rs)=true:=by kernel_rfl)(h2:okSL s rs=true:=by kernel_rfl)(h3:zSh s rs=(av,ne):=by kernel_rfl):Post rs av ne .ret s:=⟨.inr rfl,h1,h2,h3⟩
theorem VDS{id:Nat}{l:List Oper}{y:Code}{s:St}{J:Exit→St→Prop}(ms:List Nat)(n1:Nat)(css:List (List Cd))
  (h:DL P l ms n1 css (prep (l.take n1) s) [] (fun s'=>XL P l.toArray (l.drop n1) s' (fun s''=>V P y s'' J))) (hm:P.follows .mixedOrders=true:=by kernel_rfl) (hchk:zJS l ms n1 css=true:=by kernel_rfl):V P (.seq (.region id l.toArray true) y) s J:=zV (z1H ms n1 css hm hchk h)
def zv(P:Program)(s:St)(op:Op):Option AV:=match xv P s op with
 |some av=>some av
 |none=>yv P s op
theorem zv_ok{o:Oper}{s:St}{av:AV}(h:zv P s o.op=some av):Y0 P o s av:=by
 unfold zv at h;split at h
 ·rename_i hx;cases h;exact z1P hx
 ·exact z7m h
theorem zNA{l:List Oper}{o:Oper}{S:St}(h:yg l.toArray o S=some true):gsat l.toArray o S:=by
 unfold yg at h;split at h
 ·rename_i h1;exact zL h1
 ·rename_i j b h1;split at h
  ·rename_i t ht;split at h
   ·rename_i c hc;have e:c=b:=by cases c<;>cases b<;>simp_all
    subst e;exact z3A h1 ht hc
   ·cases h
   ·cases h
  ·cases h
theorem z8w{l:List Oper}{o:Oper}{S:St}(h:yg l.toArray o S=some false):gun l.toArray o S:=by
 unfold yg at h;split at h
 ·cases h
 ·rename_i j b h1;split at h
  ·rename_i t ht;split at h
   ·rename_i c hc;exact z4d h1 ht hc (by cases c<;>cases b<;>simp_all)
   ·rename_i hc;exact z8x h1 ht hc
   ·cases h
  ·cases h
section
variable (P)
def er1(l:List Oper)(ms:List Nat)(n1:Nat)(css:List (List Cd))(s0:St)(rs:List Res):Option (List Res):=match l[rs.length]?,css[rs.length]? with
 |some o,some c=>bif Nat.blt rs.length n1 then (match yg l.toArray o (appC c (l.take n1) rs s0),o.dst with
  |some true,some _=>(match zv P (appC c (l.take n1) rs s0) o.op with
   |some av=>bif zG6 ms rs.length av 0 (l.take n1) then some (rs++[.r0 av]) else none
   |none=>match xn P (appC c (l.take n1) rs s0) o.op with
    |some r=>bif zHE r.2&&(makes o&&r.1.small) then some (rs++[.r1 r.1 r.2]) else none
    |none=>none)
  |some false,some _=>some (rs++[.r0 .tn])
  |some true,none=>dr2 P l ms n1 css rs (appC c (l.take n1) rs s0) o.op
  |_,_=>none) else none
 |_,_=>none
def erN(l:List Oper)(ms:List Nat)(n1:Nat)(css:List (List Cd))(s0:St):Nat→List Res→Option (List Res)
 |0,rs=>some rs
 |k+1,rs=>match er1 P l ms n1 css s0 rs with
  |some rs'=>erN l ms n1 css s0 k rs'
  |none=>none
def ego(l:List Oper)(ms:List Nat)(n1:Nat)(css:List (List Cd))(s0:St)(k:Nat)(rs:List Res):List Res:=(erN P l ms n1 css s0 k rs).getD rs
def efi(l:List Oper)(ms:List Nat)(n1:Nat)(css:List (List Cd))(s0:St)(k:Nat)(rs:List Res):St:=fin (l.take n1) (ego P l ms n1 css s0 k rs) s0
def dfi(l:List Oper)(ms:List Nat)(n1:Nat)(css:List (List Cd))(s0:St)(k:Nat)(rs:List Res):St:=yD P l.toArray (l.drop n1) (efi P l ms n1 css s0 k rs)
def dfo(l:List Oper)(ms:List Nat)(n1:Nat)(css:List (List Cd))(s0:St)(k:Nat)(rs:List Res):Bool:=(yr P l.toArray (l.drop n1) (efi P l ms n1 css s0 k rs)).isSome
def dka(l:List Oper)(n1:Nat)(css:List (List Cd))(s0:St)(f:FuncId)(rs:List Res):Option (List AV):=match l[rs.length]?,css[rs.length]? with
 |some o,some c=>match yg l.toArray o (appC c (l.take n1) rs s0),o.dst with
  |some true,some _=>(match o.op with
   | .call ⟨.value (.func g),xs,_⟩=>bif Nat.beq g f&&(Nat.blt rs.length n1&&makes o) then some (evL (appC c (l.take n1) rs s0) xs.toList) else none
   |_=>none)
  |_,_=>none
 |_,_=>none
end
theorem z4q{l:List Oper}{ms:List Nat}{n1:Nat}{css:List (List Cd)}{s0:St}{rs rs':List Res}{K:St→Prop}(h:er1 P l ms n1 css s0 rs=some rs')(hk:DL P l ms n1 css s0 rs' K):DL P l ms n1 css s0 rs K:=by
 unfold er1 at h;split at h
 ·rename_i o c ho hc;cases hb:Nat.blt rs.length n1 with
  |false=>rw[hb,cond_false]at h;cases h
  |true=>
   rw[hb,za]at h;split at h
   ·rename_i d hg hd;split at h
    ·rename_i av hv;cases hm:zG6 ms rs.length av 0 (l.take n1) with
     |false=>rw[hm,cond_false]at h;cases h
     |true=>rw[hm,za]at h;cases h;exact DE_0 rs.length av rfl hb ho hc (zNA hg) hm (zv_ok hv) d hd hk
    ·split at h
     ·rename_i r hr;cases hm:zHE r.2&&(makes o&&r.1.small) with
      |false=>rw[hm,cond_false]at h;cases h
      |true=>rw[hm,za]at h;cases h;rw[zh,zh]at hm;exact DE_1 rs.length rfl hb ho hc (zNA hg) (z39 hr) hm.1 hm.2.1 hm.2.2 d hd hk
     ·cases h
   ·rename_i d hg hd;cases h;exact DL_t (Nat.le_of_ble_eq_true hb) ho hc (z8w hg) ⟨d,hd⟩ hk
   ·rename_i hg hd;unfold dr2 at h;split at h
    ·rename_i t x y hop;split at h
     ·rename_i id off vc hx hy;split at h
      ·rename_i cs he;cases hm:(zGX P t==some vc.length)&&Nat.ble (off+vc.length) cs.length&&(zPd rs.length id css&&(mkOk ms rs.length id 0 (l.take n1)&&zJR id rs)) with
       |false=>rw[hm,cond_false]at h;cases h
       |true=>rw[hm,za]at h;cases h;rw[zh,zh,zh,zh,beq_iff_eq]at hm;exact DE_2 rs.length id _ rfl hb ho hc (zNA hg) hop hd hx he hy hm.1.1 (Nat.le_of_ble_eq_true hm.1.2) rfl hm.2.1 hm.2.2.1 hm.2.2.2 hk
      ·cases h
     ·cases h
    ·cases h
   ·cases h
 ·cases h
theorem zYN{l:List Oper}{ms:List Nat}{n1:Nat}{css:List (List Cd)}{s0:St}{K:St→Prop}:∀(k:Nat)(rs rs':List Res),erN P l ms n1 css s0 k rs=some rs'→DL P l ms n1 css s0 rs' K→DL P l ms n1 css s0 rs K
 |0,rs,rs',h,hk=>by cases h;exact hk
 |k+1,rs,rs',h,hk=>by
  unfold erN at h;split at h
  ·rename_i r1 h1;exact z4q h1 (zYN k r1 rs' h hk)
  ·cases h
theorem ER(k:Nat){l:List Oper}{ms:List Nat}{n1:Nat}{css:List (List Cd)}{s0:St}{rs:List Res}{K:St→Prop}(hk:DL P l ms n1 css s0 (ego P l ms n1 css s0 k rs) K)(h:(erN P l ms n1 css s0 k rs).isSome=true:=by kernel_rfl):DL P l ms n1 css s0 rs K:=by
 cases hx:erN P l ms n1 css s0 k rs with
 |none=>rw[hx]at h;cases h
 |some r=>rw[ego,hx]at hk;exact zYN k rs r hx hk
theorem EA(k:Nat){l:List Oper}{ms:List Nat}{n1:Nat}{css:List (List Cd)}{s0:St}{rs:List Res}{K:St→Prop}(hk:K (efi P l ms n1 css s0 k rs))(h:(erN P l ms n1 css s0 k rs).map List.length=some n1:=by kernel_rfl):DL P l ms n1 css s0 rs K:=by
 cases hx:erN P l ms n1 css s0 k rs with
 |none=>rw[hx]at h;cases h
 |some r=>rw[efi,ego,hx]at hk;rw[hx]at h;exact zYN k rs r hx (z1J (by injection h) hk)
theorem z9I{l:List Oper}{ms:List Nat}{n1:Nat}{css:List (List Cd)}{s0:St}{rs:List Res}{K:St→Prop}{f:FuncId}{args:List AV}{av:AV}{ne:List (Nat×Ent)}(hS:zH P f args av ne)(hcf:∀args w,(callFunc f args).run P w=.ok (.enter f args) w)
  (h:DL P l ms n1 css s0 (rs++[.r1 av ne]) K) (ha:dka l n1 css s0 f rs=some args) (h1:zHE ne=true) (h3:av.small=true):DL P l ms n1 css s0 rs K:=by
 unfold dka at ha;split at ha
 ·rename_i o c ho hc;split at ha
  ·rename_i d hg hd;split at ha
   ·rename_i g xs ts hop;cases hb:Nat.beq g f&&(Nat.blt rs.length n1&&makes o) with
    |false=>rw[hb,cond_false]at ha;cases ha
    |true=>rw[hb,za]at ha;rw[zh,zh]at hb;have hgf:=Nat.eq_of_beq_eq_true hb.1;subst hgf;exact DE_1 rs.length rfl hb.2.1 ho hc (zNA hg) (zSr hS hcf hop (by injection ha)) h1 hb.2.2 h3 d hd h
   ·cases ha
  ·cases ha
 ·cases ha
theorem EK(k:Nat){l:List Oper}{ms:List Nat}{n1:Nat}{css:List (List Cd)}{s0:St}{rs:List Res}{K:St→Prop}{f:FuncId}{args:List AV}{av:AV}{ne:List (Nat×Ent)}(hS:zH P f args av ne)(hcf:∀args w,(callFunc f args).run P w=.ok (.enter f args) w)
  (h:DL P l ms n1 css s0 (ego P l ms n1 css s0 k rs++[.r1 av ne]) K) (hs:(erN P l ms n1 css s0 k rs).bind (dka l n1 css s0 f)=some args:=by kernel_rfl) (h1:zHE ne=true:=by kernel_rfl) (h3:av.small=true:=by kernel_rfl):DL P l ms n1 css s0 rs K:=by
 cases hx:erN P l ms n1 css s0 k rs with
 |none=>rw[hx]at hs;cases hs
 |some r=>rw[ego,hx]at h;rw[hx]at hs;exact zYN k rs r hx (z9I hS hcf h hs h1 h3)
theorem EF(k:Nat){l:List Oper}{ms:List Nat}{n1:Nat}{css:List (List Cd)}{s0:St}{rs:List Res}{K:St→Prop}(hk:K (dfi P l ms n1 css s0 k rs))(h:(erN P l ms n1 css s0 k rs).map List.length=some n1:=by kernel_rfl)
  (h2:dfo P l ms n1 css s0 k rs=true:=by kernel_rfl):DL P l ms n1 css s0 rs (fun s'=>XL P l.toArray (l.drop n1) s' K):=EA k (YF hk h2) h
theorem E0(j:Nat){l:List Oper}{ms:List Nat}{n1:Nat}{css:List (List Cd)}{s0:St}{rs:List Res}{K:St→Prop}{o:Oper}{c:List Cd}{av:AV}(ho:l[j]?=some o)(hc:css[j]?=some c)(hY:Y0 P o (appC c (l.take n1) rs s0) av)(h:DL P l ms n1 css s0 (rs++[.r0 av]) K)
  (hj:rs.length=j:=by kernel_rfl) (hlt:Nat.blt j n1=true:=by kernel_rfl) (hg:yg l.toArray o (appC c (l.take n1) rs s0)=some true:=by kernel_rfl) (hm:zG6 ms j av 0 (l.take n1)=true:=by kernel_rfl) (hd:o.dst.isSome=true:=by kernel_rfl):DL P l ms n1 css s0 rs K:=by
 obtain⟨d,hd⟩:=Option.isSome_iff_exists.mp hd;exact DE_0 j av hj hlt ho hc (zNA hg) hm hY d hd h
theorem E1(j:Nat){l:List Oper}{ms:List Nat}{n1:Nat}{css:List (List Cd)}{s0:St}{rs:List Res}{K:St→Prop}{o:Oper}{c:List Cd}{av:AV}{ne:List (Nat×Ent)}(ho:l[j]?=some o)(hc:css[j]?=some c)(hY:Y1 P o (appC c (l.take n1) rs s0) av ne)(h:DL P l ms n1 css s0 (rs++[.r1 av ne]) K)
  (hj:rs.length=j:=by kernel_rfl) (hlt:Nat.blt j n1=true:=by kernel_rfl) (hg:yg l.toArray o (appC c (l.take n1) rs s0)=some true:=by kernel_rfl) (h1:zHE ne=true:=by kernel_rfl) (h2:makes o=true:=by kernel_rfl) (h3:av.small=true:=by kernel_rfl) (hd:o.dst.isSome=true:=by kernel_rfl):DL P l ms n1 css s0 rs K:=by
 obtain⟨d,hd⟩:=Option.isSome_iff_exists.mp hd;exact DE_1 j hj hlt ho hc (zNA hg) hY h1 h2 h3 d hd h
def idT(t:Nat):List Oper→Nat→Nat
 |[],_=>0
 |o::os,k=>match o.dst with
  |some d=>bif Nat.beq d t then k else idT t os (k+1)
  |none=>idT t os (k+1)
def gtD(l:List Oper)(rs:List Res):Nat:=match l[rs.length]? with
 |some o=>(match o.guard with
  |some (j,_)=>j
  |none=>match o.op with
   | .pick (.tmp t) _ _=>idT t l 0
   |_=>0)
 |none=>0
theorem EQ{c v:Bool}(hc:c=v){l:List Oper}{ms:List Nat}{n1:Nat}{css:List (List Cd)}{s0:St}{rs:List Res}{K:St→Prop}(hk:DL P l ms n1 css s0 (rs.set (gtD l rs) (.r0 (Bo v))) K)(h:rs[gtD l rs]?=some (.r0 (Bo c)):=by kernel_rfl):DL P l ms n1 css s0 rs K:=by
 subst hc;have e:rs.set (gtD l rs) (.r0 (Bo c))=rs:=by
  apply List.ext_getElem?;intro i;rw[List.getElem?_set];by_cases hi:gtD l rs=i
  ·subst hi;have hlt:gtD l rs<rs.length:=by
    by_cases h2:gtD l rs<rs.length
    ·exact h2
    ·rw[List.getElem?_eq_none (by omega)]at h;cases h
   rw[if_pos rfl,if_pos hlt,h]
  ·rw[if_neg hi]
 rwa [e]at hk
end
section
variable {P:Program}
theorem V_gen{α:Type}{c:Code}{s:St}{J:Exit→St→Prop}(S:α→St)(g:α)(h0:s=S g)(h:∀g,V P c (S g) J):V P c s J:=by rw[h0];exact h g
theorem z6D{B:Fr}{w0:World}{ok0 ok:Nat→Prop}{σ:Nat→Loc}{s:St}{a:Act}{w:World}(hR:R B w0 ok0 ok σ s a w)(k T sz:Nat)(hk:s.ent k=none)(hz:0<sz):
  R B w0 ok0 ok (fun i=>if i=k then loc0 else σ i) ⟨zEM k s.T,(k,.qarr loc0 T sz [])::s.E⟩ a w:=by
 have lk:∀i e,(St.mk (zEM k s.T) ((k,.qarr loc0 T sz [])::s.E)).ent i=some e→(i=k∧e=.qarr loc0 T sz [])∨(i≠k∧s.ent i=some e):=by
  intro i e hi;unfold St.ent at hi;simp only[List.lookup]at hi;cases hik:(i==k) with
  |true=>rw[hik]at hi;exact .inl ⟨by simpa using hik,by simpa using hi.symm⟩
  |false=>rw[hik]at hi;exact .inr ⟨by simpa using hik,hi⟩
 refine⟨⟨by simpa [zFk] using hR.core.len,hR.core.okL,hR.core.lib,fun t=>?_,fun i e hi=>?_,fun i e g hi hg=>?_,fun i i2 e f2 g hi hi2 h1 h2=>?_⟩,hR.defers,hR.below,hR.base,hR.old,hR.fresh,fun i e g hi hg=>?_⟩
 ·have e0:(St.mk (zEM k s.T) ((k,.qarr loc0 T sz [])::s.E)).get t=(bif (s.get t).mid k then AV.bot else s.get t):=by
   unfold St.get;exact zKB k s.T t
  rw[e0];cases hm:(s.get t).mid k with
  |true=>trivial
  |false=>exact (hR.core.tmp t).mid k (fun _ h=>h) (fun _ _=>rfl) hm (fun i hi=>by simp[hi])
 ·rcases lk i e hi with⟨rfl,rfl⟩|⟨h1,h2⟩
  ·simp only[if_true];exact⟨rfl,hz,rfl,(by intro el h;cases h),[],World.ownsRow_nil w 0 _ sz,RdL.nil⟩
  ·simp only[if_neg h1];exact hR.core.ent i e h2
 ·rcases lk i e hi with⟨rfl,rfl⟩|⟨h1,h2⟩
  ·simp only[if_true]at hg;cases hg
  ·simp only[if_neg h1]at hg;exact hR.core.blk i e g h2 hg
 ·rcases lk i e hi with⟨a1,_⟩|⟨a1,a2⟩<;>rcases lk i2 f2 hi2 with⟨b1,_⟩|⟨b1,b2⟩
  ·rw[a1,b1]
  ·simp only[a1,if_true]at h1;cases h1
  ·simp only[b1,if_true]at h2;cases h2
  ·simp only[if_neg a1]at h1;simp only[if_neg b1]at h2;exact hR.core.inj _ _ _ _ _ a2 b2 h1 h2
 ·rcases lk i e hi with⟨rfl,rfl⟩|⟨h1,h2⟩
  ·simp only[if_true]at hg;cases hg
  ·simp only[if_neg h1]at hg;exact hR.own i e g h2 hg
theorem zVF{c:Code}{s:St}{J:Exit→St→Prop}(k T sz:Nat)(hk:s.ent k=none)(hz:0<sz)(h:V P c ⟨zEM k s.T,(k,.qarr loc0 T sz [])::s.E⟩ J):V P c s J:=fun _ _ _ _ _ _ _ hR=>h _ _ _ _ _ _ _ (z6D hR k T sz hk hz)
theorem zSs{B:Fr}{w0:World}{ok0 ok:Nat→Prop}{σ:Nat→Loc}{s:St}{a:Act}{w:World}(hR:R B w0 ok0 ok σ s a w){k t:Nat}{e e':Ent}{av:AV}(he:s.ent k=some e)(hok:zCN ok w (σ k) e→zCN ok w (σ k) e')(hp:e'.pin=e.pin)(hav:Rel ok σ w av (a.tmps.getD t undef)):
  R B w0 ok0 ok σ ⟨s.T.set t av,setE k e' s.E⟩ a w:=by
 have look:=zDS k e' s.E e he;have lk:∀i f,(setE k e' s.E).lookup i=some f→(i=k∧f=e')∨(i≠k∧s.ent i=some f):=by
  intro i f hi;rw[look]at hi;by_cases h:i=k
  ·rw[if_pos h]at hi;exact .inl ⟨h,by simpa using hi.symm⟩
  ·rw[if_neg h]at hi;exact .inr ⟨h,hi⟩
 refine⟨⟨by simpa using hR.core.len,hR.core.okL,hR.core.lib,fun u=>?_,fun i f hi=>?_,fun i f g hi hg=>?_,fun i i2 f f2 g hi hi2 h1 h2=>?_⟩,hR.defers,hR.below,hR.base,hR.old,hR.fresh,fun i f g hi hg=>?_⟩
 ·have e0:=zCu s t u av;unfold St.put at e0;have e1:(St.mk (s.T.set t av) (setE k e' s.E)).get u=if t=u∧t<s.T.length then av else s.get u:=e0;rw[e1];split
  ·rename_i h;rw[←h.1];exact hav
  ·exact hR.core.tmp u
 ·rcases lk i f hi with⟨rfl,rfl⟩|⟨h1,h2⟩
  ·exact hok (hR.core.ent _ _ he)
  ·exact hR.core.ent i f h2
 ·rcases lk i f hi with⟨rfl,rfl⟩|⟨h1,h2⟩
  ·exact hR.core.blk _ _ g he hg
  ·exact hR.core.blk i f g h2 hg
 ·have key:∀i f,(setE k e' s.E).lookup i=some f→∃f0,s.ent i=some f0:=by
   intro i f hi;rcases lk i f hi with⟨rfl,_⟩|⟨_,h⟩
   ·exact⟨_,he⟩
   ·exact⟨_,h⟩
  obtain⟨f0,k1⟩:=key i f hi;obtain⟨f3,k2⟩:=key i2 f2 hi2;exact hR.core.inj _ _ _ _ g k1 k2 h1 h2
 ·rcases lk i f hi with⟨rfl,rfl⟩|⟨h1,h2⟩
  ·rw[hp];exact hR.own _ _ g he hg
  ·exact hR.own i f g h2 hg
theorem zRN{ops:Array Oper}{rest:List Oper}{s:St}{J:St→Prop}(t k:Nat){l:Loc}{T sz:Nat}{els:List (List Tr)}(ht:s.get t=.c (.v (zK l)))(hk:s.ent k=some (.qarr l T sz els))(h:XL P ops rest ⟨s.T.set t (.ow k),setE k (.arr T sz els) s.E⟩ J):XL P ops rest s J:=by intro B w0 ok0 ok σ a w hR Q hQ;refine h _ _ _ _ _ _ _ (zSs hR hk (fun h=>h.2) rfl ?_) Q hQ;have h1:=hR.core.tmp t;rw[ht]at h1;have h2:Rd ok w (.v (zK l)) (a.tmps.getD t undef):=h1;have h3:=(hR.core.ent k _ hk).1;show _=zK (σ k);rw[h3];generalize a.tmps.getD t undef=y at h2;cases h2;rfl
theorem zYd{ops:Array Oper}{rest:List Oper}{s:St}{J:St→Prop}(t k:Nat){T sz:Nat}{els:List (List Tr)}(ht:s.get t=.ow k)(hk:s.ent k=some (.arr T sz els))(h:∀l:Loc,XL P ops rest ⟨s.T.set t (.c (.v (zK l))),setE k (.qarr l T sz els) s.E⟩ J):XL P ops rest s J:=by intro B w0 ok0 ok σ a w hR Q hQ;have h1:=hR.core.tmp t;rw[ht]at h1;have h2:a.tmps.getD t undef=zK (σ k):=h1;refine h (σ k) _ _ _ _ _ _ _ (zSs hR hk (fun h=>⟨rfl,h⟩) rfl ?_) Q hQ;rw[h2];exact Rd.v _ rfl
theorem zO9{α:Type}{id:Nat}{ops:Array Oper}{s:St}{J:Exit→St→Prop}(S:α→St)(m:List Bool)(ids:List Nat)(h:XL P ops ops.toList s (fun s'=>∃b,s'.keep m ids=S b))(hj:∀b,J .normal (S b)):V P (.region id ops false) s J:=by
 refine q7 fun B w0 ok0 ok σ a w hR Q hQ=>?_
 refine h _ _ _ _ _ _ _ hR Q fun s' a' w' ok' σ' hs hR'=>?_
 obtain⟨b,hs⟩:=hs;exact hQ _ a' w' ok' σ' (hj b) (by rw[←hs];exact hR'.le (zIm m ids s'))
theorem zE2{α:Type}{id:Nat}{ops:Array Oper}{y:Code}{s:St}{J:Exit→St→Prop}(S:α→St)(m:List Bool)(ids:List Nat)(h:XL P ops ops.toList s (fun s'=>∃b,s'.keep m ids=S b))(hv:∀b,V P y (S b) J):V P (.seq (.region id ops false) y) s J:=zV (zO9 S m ids h hv)
theorem z9b{α β γ:Type}{q:α ⊕ β}{c:Code}{s:St}{S:α→γ→St}{J:Exit→St→Prop}(m:List Bool)(ids:List Nat)(h1:V P c s (zOh (fun s'=>∃o,q=.inl o∧∃g,s'.keep m ids=S o g) J))(h2:∀o,q=.inl o→∀g,J .normal (S o g)):V P c s J:=by
 intro B w0 ok0 ok σ a w hR;refine wp_mono (h1 _ _ _ _ _ _ _ hR) ?_
 rintro e a' w' ⟨s',ok',σ',hJ,hR'⟩;cases e with
 |normal=>obtain⟨o,ho,g,hk⟩:∃o,q=.inl o∧∃g,s'.keep m ids=S o g:=hJ;have h3:=h2 o ho g;rw[←hk]at h3;exact⟨_,ok',σ',h3,hR'.le (zIm m ids s')⟩
 |exit id=>exact⟨s',ok',σ',hJ,hR'⟩
 |goto l=>exact⟨s',ok',σ',hJ,hR'⟩
 |ret=>exact⟨s',ok',σ',hJ,hR'⟩
 |panic ch=>exact⟨s',ok',σ',hJ,hR'⟩
 |outgrown=>exact⟨s',ok',σ',hJ,hR'⟩
theorem z9e{B:Fr}{w0:World}{ok0 ok:Nat→Prop}{σ:Nat→Loc}{s:St}{a:Act}{w:World}(hR:R B w0 ok0 ok σ s a w)(k id2 j:Nat){l:Loc}{T sz:Nat}{els:List (List Tr)}{cs:List Tr}(he:s.ent k=some (.qarr l T sz els))(h2:s.ent id2=some (.box cs))(hj:cs[j]?=some (.v (zK l))):
  R B w0 ok0 (fun g=>ok g∨(σ k).blk=some g) σ ⟨s.T,setE id2 (.box (cs.set j (.sl els))) (rmE k s.E)⟩ a w:=by
 have hup:∀g,ok g→ok g∨(σ k).blk=some g:=fun g hg=>.inl hg;have hl:σ k=l:=(hR.core.ent k _ he).1;have hne:id2≠k:=fun e=>by rw[e,he]at h2;cases h2
 have hrm:(rmE k s.E).lookup id2=some (.box cs):=by rw[zEr,if_neg hne];exact h2
 have lk:∀i e,(setE id2 (.box (cs.set j (.sl els))) (rmE k s.E)).lookup i=some e→(i=id2∧e=.box (cs.set j (.sl els)))∨(i≠id2∧i≠k∧s.ent i=some e):=by
  intro i e hi;rw[zDS id2 _ _ _ hrm]at hi;by_cases h:i=id2
  ·rw[if_pos h]at hi;exact .inl ⟨h,by simpa using hi.symm⟩
  ·rw[if_neg h,zEr]at hi;split at hi
   ·cases hi
   ·rename_i hn;exact .inr ⟨h,hn,hi⟩
 -- the row,read
 have hread:Rd (fun g=>ok g∨(σ k).blk=some g) w (.sl els) (zK l):=by
  have hR1:=zSs (t:=s.T.length) (av:=.bot) hR he (fun h=>h.2) (e':=.arr T sz els) rfl trivial;have hk1:(St.mk (s.T.set s.T.length .bot) (setE k (.arr T sz els) s.E)).ent k=some (.arr T sz els):=by have:=zDS k (.arr T sz els) s.E _ he k;rw[if_pos rfl]at this;exact this
  have hle:Le ⟨[],[(k,.arr T sz els)]⟩ ⟨s.T.set s.T.length .bot,setE k (.arr T sz els) s.E⟩:=⟨Nat.zero_le _,fun t=>.inl (by simp[St.get]),fun i e hi=>by
   unfold St.ent at hi;simp only[List.lookup]at hi;split at hi
   ·rename_i hik;have:i=k:=by simpa using hik
    subst this;injection hi with hi;subst hi;exact hk1
   ·cases hi⟩
  have h1:Rel ok σ w (.ow k) (zK (σ k)):=rfl;have h3:=zOz (hR1.le hle).core h1;have e2:zLz ⟨[],[(k,.arr T sz els)]⟩ (.ow k)=.c (.sl els):=by simp[zLz,St.entc,St.ent,List.lookup,Ent.core]
  rw[e2,hl]at h3;have h4:Rel (fun g=>ok g∨(σ k).blk=some g) σ w (.c (.sl els)) (zK l):=by
   refine h3.mono0 (fun g hg=>?_) fun _ _=>rfl;rcases hg with hg|⟨i,e,hi,hg⟩
   ·exact .inl hg
   ·refine .inr ?_
    unfold St.ent at hi;simp only[List.lookup]at hi;split at hi
    ·rename_i hik;have:i=k:=by simpa using hik
     subst this;exact hg
    ·cases hi
  exact h4
 refine⟨⟨hR.core.len,fun g hg=>?_,hR.core.lib.mono hup (fun _ _=>rfl),fun t=>(hR.core.tmp t).mono0 hup fun _ _=>rfl,fun i e hi=>?_,fun i e g hi hg=>?_,fun i i2 e f g hi hk h1 h3=>?_⟩,hR.defers,hR.below,hR.base,fun g hg=>.inl (hR.old g hg),fun g hg=>?_,fun i e g hi hg=>?_⟩
 ·rcases hg with hg|hg
  ·exact hR.core.okL g hg
  ·exact (hR.core.blk k _ g he hg).2
 ·rcases lk i e hi with⟨rfl,rfl⟩|⟨_,_,h5⟩
  ·obtain⟨g,arr,T',g1,g2,g3⟩:=hR.core.ent _ _ h2;refine⟨g,arr,T',g1,g2,?_⟩;have hr:=g3.mono hup (fun _ _=>rfl:∀g,ok g→w.heap[g]?=w.heap[g]?);obtain⟨u,hu1,hu2⟩:=g3.get j _ hj;have huv:u=zK l:=by
    generalize zK l=v at hu2;cases hu2;rfl
   subst huv;have hset:=hr.set j hread;have:arr.toList.set j (zK l)=arr.toList:=by
    apply List.ext_getElem?;intro q;rw[List.getElem?_set];split
    ·rename_i hq;subst hq;split
     ·exact hu1.symm
     ·rename_i hlt;rw[List.getElem?_eq_none (by omega)]
    ·rfl
   rwa [this]at hset
  ·exact (hR.core.ent i e h5).mono hup (fun _ _=>rfl) fun _ _=>rfl
 ·have key:∃e0,s.ent i=some e0∧i≠k:=by
   rcases lk i e hi with⟨rfl,rfl⟩|⟨_,h4,h5⟩
   ·exact⟨_,h2,hne⟩
   ·exact⟨e,h5,h4⟩
  obtain⟨e0,k1,k2⟩:=key;obtain⟨h3,h4⟩:=hR.core.blk i e0 g k1 hg;refine⟨fun h5=>?_,h4⟩;rcases h5 with h5|h5
  ·exact h3 h5
  ·exact k2 (hR.core.inj _ _ _ _ _ k1 he hg h5)
 ·have key:∀i e,(setE id2 (.box (cs.set j (.sl els))) (rmE k s.E)).lookup i=some e→∃e0,s.ent i=some e0:=by
   intro i e hi;rcases lk i e hi with⟨rfl,rfl⟩|⟨_,h4,h5⟩
   ·exact⟨_,h2⟩
   ·exact⟨e,h5⟩
  obtain⟨e0,k1⟩:=key i e hi;obtain⟨f0,k2⟩:=key i2 f hk;exact hR.core.inj i i2 e0 f0 g k1 k2 h1 h3
 ·rcases hg with hg|hg
  ·exact hR.fresh g hg
  ·have:=hR.own k _ g he hg;rw[if_neg (fun hc=>by cases hc)]at this;exact .inr this
 ·rcases lk i e hi with⟨rfl,rfl⟩|⟨_,_,h5⟩
  ·have h6:B.n g:=hR.own _ _ g h2 hg;exact h6
  ·exact hR.own i e g h5 hg
theorem z1G{c:Code}{s s1:St}{J:Exit→St→Prop}(k id2 j:Nat){l:Loc}{T sz:Nat}{els:List (List Tr)}{cs:List Tr}(he:s.ent k=some (.qarr l T sz els))(h2:s.ent id2=some (.box cs))(hj:cs[j]?=some (.v (zK l)))(hs:(⟨s.T,setE id2 (.box (cs.set j (.sl els))) (rmE k s.E)⟩:St)=s1)(h:V P c s1 J):V P c s J:=by subst hs;exact fun _ _ _ _ _ _ _ hR=>h _ _ _ _ _ _ _ (z9e hR k id2 j he h2 hj)
theorem zF8{c:Code}{s s1:St}{J:Exit→St→Prop}(id j:Nat){cs:List Tr}(he:s.ent id=some (.box cs))(hj:cs[j]?=some (.v (.slice none 0 0)))(hs:(⟨s.T,setE id (.box (cs.set j (.sl []))) s.E⟩:St)=s1)(h:V P c s1 J):V P c s J:=by
 subst hs;intro B w0 ok0 ok σ a w hR;have e0:s.T.set s.T.length .bot=s.T:=List.set_eq_of_length_le (Nat.le_refl _);have hR1:=zSs (t:=s.T.length) (av:=.bot) hR he (e':=.box (cs.set j (.sl []))) (fun h=>by
  obtain⟨g,arr,T',g1,g2,g3⟩:=h;refine⟨g,arr,T',g1,g2,?_⟩;obtain⟨u,hu1,hu2⟩:=g3.get j _ hj;have huv:u=.slice none 0 0:=by cases hu2;rfl
  subst huv;have hset:=g3.set j (Rd.nl (ok:=ok) (w:=w) none 0);have:arr.toList.set j (.slice none 0 0)=arr.toList:=by
   apply List.ext_getElem?;intro q;rw[List.getElem?_set];split
   ·rename_i hq;subst hq;split
    ·exact hu1.symm
    ·rename_i hlt;rw[List.getElem?_eq_none (by omega)]
   ·rfl
  rwa [this]at hset) rfl trivial
 rw[e0]at hR1;exact h _ _ _ _ _ _ _ hR1
end
section
variable {P:Program}
theorem zZW(ok:Nat→Prop)(w:World)(k:FloatKind)(n:Nat):Rd ok w (.v (.float k n)) (.float k n):=.v _ rfl
theorem z7S{o:Oper}{s:St}{x:Operand}{src dst:TypeId}{k2:IntKind}{a:Int}(hs:P.underlying src=some (.int k2))(hd:P.underlying dst=some (.float .f64))(ho:o.op=.convert src dst x)(hx:s.ev x=.c (.v (.int k2 a))):Y0 P o s (.c (.v (.float .f64 (floatOfInt .f64 a)))):=
 qI fun ok σ ac w hC=>by refine⟨_,?_,zZW _ _ _ _⟩;unfold execOp;rw[ho];simp[hC.exact hx,convert,run_underlying hs,run_underlying hd,Conv.intToFloat,floatOfInt]
theorem z7W{o:Oper}{s:St}{x:Operand}{src dst:TypeId}{b:Nat}{a:Int}(hs:P.underlying src=some (.float .f64))(hd:P.underlying dst=some (.int .i64))(ho:o.op=.convert src dst x)(hx:s.ev x=.c (.v (.float .f64 b)))(h:floatToIntVal .f64 b .i64=some a):Y0 P o s (I a):=
 qI fun ok σ ac w hC=>by refine⟨_,?_,zIY _ _ _ _⟩;unfold execOp;rw[ho];have h1:=run_convert_float_int (P:=P) w src dst .f64 .i64 b a (by rw[hs];rfl) hd h;simp[hC.exact hx,h1]
theorem z5n{o:Oper}{s:St}{x:Operand}{f:FuncId}{ts:Array TypeId}{b r:Nat}(hc:∀args w,(callFunc f args).run P w=((Extern.MathSqrt.sqrt args).run P w).andThen fun v w'=>.ok (.value v) w')(ho:o.op=.call {callee:=.value (.func f),args:=#[x],argTypes:=ts})(hx:s.ev x=.c (.v (.float .f64 b)))(h:z2D b=some r):Y0 P o s (.c (.v (.float .f64 r))):=
 qI fun ok σ ac w hC=>by
  refine⟨_,?_,zZW _ _ _ _⟩;have h1:(callFunc f #[.float .f64 b]).run P w=.ok (.value (.float .f64 r)) w:=by
   rw[hc];unfold z2D at h;have h2:(Extern.MathSqrt.sqrt #[.float .f64 b]).run P w=.ok (.float .f64 r) w:=by show ((match FloatKind.f64.format.sqrt b with|some r=>pure (.float .f64 r)|none=>do pure (.float .f64 (←choose (.nanBits .f64 b b))):Sem Value)).run P w=_;rw[h];rfl
   rw[h2];rfl
  have h3:(#[x]:Array Operand).map ac.eval=#[.float .f64 b]:=by rw[List.map_toArray];show #[ac.eval x]=_;rw[hC.exact hx]
  unfold execOp;rw[ho];simp only[resolve,Act.eval,Deferred.ofValue,Sem.run_bind,Sem.run_pure,Result.andThen_ok,invoke,h3,Array.append_empty,Array.empty_append];exact h1
end
def pFF(x:Nat):Bool:=(x != 45)&&(decide (x<48)||decide (57<x))
theorem z8m:pOf zCR=pFF:=by
 funext x
 unfold pOf pFF zCR;simp only[Option.bind_some,Option.getD_some,zBD,zS];have e:((x:Int)==45)=(x==45):=by rw[Bool.eq_iff_iff,beq_iff_eq,beq_iff_eq];omega
 have e1:decide ((x:Int)<48)=decide (x<48):=by rw[decide_eq_decide];omega
 have e2:decide ((57:Int)<(x:Int))=decide (57<x):=by rw[decide_eq_decide];omega
 rw[e,e1,e2];cases h1:(x==45)<;>cases h2:decide (x<48)<;>cases h3:decide (57<x)<;>simp_all [bne]
theorem zXz(x:Nat):pFF x=(((x:Int) != 45)&&(decide ((x:Int)<48)||decide (57<(x:Int)))):=by
 unfold pFF;have e:((x:Int) != 45)=(x != 45):=by rw[Bool.eq_iff_iff,bne_iff_ne,bne_iff_ne];omega
 have e1:decide ((x:Int)<48)=decide (x<48):=by rw[decide_eq_decide];omega
 have e2:decide ((57:Int)<(x:Int))=decide (57<x):=by rw[decide_eq_decide];omega
 rw[e,e1,e2]
theorem z5A(W:World):∃q,W=W.drewN q:=⟨0,rfl⟩
theorem z4n(w:World):Go.Proofs.PredAt Tryz.prog 241 #[] (fun x:Nat=>Value.int .i32 (x:Int)) pFF w:=by
 intro W x hb;unfold Go.Proofs.FnGives
 go_enter Tryz.func241,Tryz.ntmps241
 go_wp2
 ·rename_i h
  go_ret
  refine⟨?_,z5A W⟩;rw[zXz,h];rfl
 ·go_ret
  refine⟨?_,z5A W⟩;rw[zXz];rfl
 ·rename_i h1 h2
  go_ret
  refine⟨?_,z5A W⟩;rw[zXz,zb h2,Bool.true_or,Bool.and_true];rfl
theorem zJG{s:ByteArray}{r:List ByteArray}(h:zBp (pOf zCR) s=some r):zH Tryz.prog 240 [.c (.v (.string s)),.c (.v (.func (.func 241) #[] #[]))] (.ow 0) [(0,.arr 9 1 (r.map cStr))]:=by rw[z8m]at h;exact zXp (zEP Tryz.func241 (by kernel_rfl) (by kernel_rfl)) z4n h
def amk:List Oper→List Nat→List Nat
 |[],acc=>acc
 |o::os,acc=>amk os (acc++[zRU acc o.after.toList])
def acr(ms:List Nat)(tg:List (Nat×Nat))(i n:Nat):Nat→List Cd
 |0=>[]
 |k+1=>(bif (ms.getD i 0).testBit (n - (k+1)) then Cd.a else bif Nat.beq (n - (k+1)) i||(ms.getD (n - (k+1)) 0).testBit i then Cd.z else match tg.lookup (n - (k+1)) with
  |some id=>Cd.r id
  |none=>Cd.b)::acr ms tg i n k
def acs(ms:List Nat)(tg:List (Nat×Nat))(n:Nat):Nat→List (List Cd)
 |0=>[]
 |k+1=>acr ms tg (n - (k+1)) n n::acs ms tg n k
section
variable {P:Program}
end
inductive OT:Type 1
  |ok
  |bad
  |eq {α:Type} (a b:α) (k:OT)
  |and (a b:OT)
  |all {α:Type} (f:α→OT)
def OT.holds:OT→Prop
 | .ok=>True
 | .bad=>False
 | .eq a b k=>a=b∧k.holds
 | .and a b=>a.holds∧b.holds
 | .all f=>∀x,(f x).holds
def OT.rf:OT→OT
 | .ok=>.ok
 | .bad=>.ok
 | .eq a _ k=>.eq a a k.rf
 | .and a b=>.and a.rf b.rf
 | .all f=>.all fun x=>(f x).rf
theorem OT.of_rf:∀t:OT,t=t.rf→t.holds
 | .ok,_=>trivial
 | .bad,h=>by cases h
 | .eq a b k,h=>by simp only[OT.rf]at h;injection h with _ _ h2 h3;exact⟨(eq_of_heq (heq_of_eq h2)).symm,OT.of_rf k h3⟩
 | .and a b,h=>by simp only[OT.rf]at h;injection h with h1 h2;exact⟨OT.of_rf a h1,OT.of_rf b h2⟩
 | .all f,h=>fun x=>by simp only[OT.rf]at h;injection h with _ h1;exact OT.of_rf (f x) (congrFun h1 x)
section
variable (P:Program)
structure N0 where
  chk:Oper→St→OT
  av:Oper→St→AV
  ok:∀o s,(chk o s).holds→Y0 P o s (av o s)
structure N1 where
  chk:Oper→St→OT
  av:Oper→St→AV
  ne:Oper→St→List (Nat×Ent)
  ok:∀o s,(chk o s).holds→Y1 P o s (av o s) (ne o s)
inductive NN
  |z (F:N0 P)
  |o (F:N1 P)
structure F0 (α:Type) where
  m:Option α
  chk:Oper→St→OT
  av:Oper→St→α→AV
  ok:∀o s y,m=some y→(chk o s).holds→Y0 P o s (av o s y)
structure F1 (α:Type) where
  m:Option α
  chk:Oper→St→OT
  av:Oper→St→α→AV
  ne:Oper→St→α→List (Nat×Ent)
  ok:∀o s y,m=some y→(chk o s).holds→Y1 P o s (av o s y) (ne o s y)
def XS(o:Oper)(s:St)(J:St→Prop):Prop:=
 ∀B w0 ok0 ok σ a w,R B w0 ok0 ok σ s a w→∀K Q,(∀s' a' w' ok' σ',J s'→R B w0 ok0 ok' σ' s' a' w'→K a' w')→o.wp P a w K Q
structure FX (α:Type) where
  m:Option α
  run:Oper→St→α→(St→OT)→OT
  post:(Nat→Loc)→Oper→St→α→Option St:=fun _ _ _ _=>none
  ok:∀o s K y,m=some y→(run o s y K).holds→XS P o s (fun s'=>(K s').holds)
structure HT where
  run:St→(St→OT)→OT
  post:St→Option St:=fun _=>none
  ok:∀s K,(run s K).holds→∀B w0 ok0 ok σ a w,R B w0 ok0 ok σ s a w→∃s' ok' σ',(K s').holds∧R B w0 ok0 ok' σ' s' a w
inductive Lf (ι o β:Type)
  |again (x:ι)
  |done (y:o)
  |early (r:β)
def kpE(E:List (Nat×Ent)):List Nat→List (Nat×Ent)
 |[]=>[]
 |i::is=>match E.lookup i with
  |some e=>(i,e)::kpE E is
  |none=>kpE E is
def St.kp(s:St)(m:List Bool)(ids:List Nat):St:=⟨zIn m s.T,kpE s.E ids⟩
def setL(T:List AV):List (Nat×AV)→List AV
 |[]=>T
 |p::ps=>setL (T.set p.1 p.2) ps
def St.pc(s:St)(m:List Bool)(ids:List Nat)(ts:List (Nat×AV))(es:List (Nat×Ent)):St:=⟨setL (zIn m s.T) ts,kpE (es++s.E) ids⟩
def St.pbx(s:St)(id:Nat)(cs:List Tr):Ent:=match s.ent id with
 |some (.pbox l _)=>.pbox l cs
 |_=>.box cs
def St.locs(s:St)(id:Nat):Loc:=match s.ent id with
 |some (.qarr l _ _ _)=>l
 |_=>loc0
inductive T:Type→Type 1
  |ret {β:Type} (y:β):T β
  |fail {β:Type}:T β
  |n0 {β:Type} (F:N0 P) (t:T β):T β
  |n1 {β:Type} (F:N1 P) (t:T β):T β
  |op0 {α β:Type} (F:F0 P α) (k:α→T β):T β
  |op1 {α β:Type} (F:F1 P α) (k:α→T β):T β
  |opx {α β:Type} (F:FX P α) (k:α→T β):T β
  |op1o {α β:Type} (F:F1 P (Option α)) (a:T β) (k:α→T β):T β
  |cond {β:Type} (c:Bool) (a b:T β):T β
  |selB {β:Type} (c w:Bool) (ns:List (NN P)) (k:Bool→T β):T β
  |lit {β:Type} (t:T β):T β
  |pl {β:Type} (t:T β):T β
  |dn {β:Type} (t:T β):T β
  |frc {β:Type} (v:Int) (k:Int→T β):T β
  |lt {α β:Type} (v:α) (k:α→T β):T β
  |bnd {α β:Type} (m:Option α) (k:α→T β):T β
  |hint {β:Type} (H:HT) (t:T β):T β
  |late {β:Type} (H:HT) (t:T β):T β
  |seqT {α β:Type} (t:T α) (k:α→T β):T β
  |join {α β:Type} (t:T α) (m:List Bool) (ids:List Nat) (S:St→α→(Nat→Loc)→St) (k:α→T β):T β
  |joinC {α β:Type} (t:T α) (m:List Bool) (ids:List Nat) (S:St→α→(Nat→Loc)→St) (k:α→T β):T β
  |joinS {α γ β:Type} (t:T (α ⊕ γ)) (m:List Bool) (ids:List Nat) (S:St→α→(Nat→Loc)→St) (er:γ→β) (k:α→T β):T β
  |loop {ι o β:Type} (L:Nat→ι→Option o) (x:ι) (m:List Bool) (ids:List Nat) (S:St→ι→(Nat→Loc)→St) (body:ι→T (ι ⊕ o)) (mo:List Bool) (ido:List Nat) (So:St→o→(Nat→Loc)→St) (k:o→T β):T β
  |loopS {ι o γ β:Type} (L:Nat→ι→Option (o ⊕ γ)) (x:ι) (m:List Bool) (ids:List Nat) (S:St→ι→(Nat→Loc)→St) (body:ι→T (Lf ι o γ)) (mo:List Bool) (ido:List Nat) (So:St→o→(Nat→Loc)→St) (er:γ→β) (k:o→T β):T β
  |unroll {β:Type} (n:Nat) (t:T β):T β
  |draw {β:Type} (n1:Nat) (tg:List (Nat×Nat)) (t:T β):T β
  |drawL {β:Type} (au:List Nat) (t:T β):T β
  |drawM {β:Type} (gh:Bool) (n1:Nat) (masks:List Nat) (au:List Nat) (t:T β):T β
def lk{ι o:Type}(L:Nat→ι→Option o)(n:Nat):ι ⊕ o→Option o
 | .inl x=>L n x
 | .inr y=>some y
def lkS{ι o γ:Type}(L:Nat→ι→Option (o ⊕ γ))(n:Nat):Lf ι o γ→Option (o ⊕ γ)
 | .again x=>L n x
 | .done y=>some (.inl y)
 | .early r=>some (.inr r)
end
def elS{α γ ρ:Type}(q:α ⊕ γ)(f:α→ρ)(g:γ→ρ):ρ:=match q with
 | .inl y=>f y
 | .inr r=>g r
section
variable {P:Program}
theorem zHz{o:Oper}{s s':St}{J:St→Prop}(h:X P o s s')(hJ:J s'):XS P o s J:=fun _ _ _ _ _ _ _ hR K Q hK=>h _ _ _ _ _ _ _ hR K Q fun a' w' ok' σ' hR'=>hK s' a' w' ok' σ' hJ hR'
theorem z7a{ops:Array Oper}{o:Oper}{rest:List Oper}{s:St}{I J:St→Prop}(hg:o.guard=none)(h:XS P o s I)(hk:∀s',I s'→XL P ops rest s' J):XL P ops (o::rest) s J:=by
 intro B w0 ok0 ok σ a w hR Q hQ;refine wpList_plain hg fun K hK=>?_
 exact h _ _ _ _ _ _ _ hR K Q fun s' a' w' ok' σ' hI hR'=>hK _ _ (hk s' hI _ _ _ _ _ _ _ hR' Q hQ)
theorem z79{ops:Array Oper}{o:Oper}{rest:List Oper}{s:St}{I J:St→Prop}{j t:Nat}{b:Bool}(hg:o.guard=some (j,b))(ht:(ops[j]?).bind (·.dst)=some t)(hb:s.get t=.c (.v (.bool b)))
  (h:XS P o s I) (hk:∀s',I s'→XL P ops rest s' J):XL P ops (o::rest) s J:=by
 intro B w0 ok0 ok σ a w hR Q hQ;refine wpList_step fun K hK=>?_
 have h1:=hR.core.tmp t;rw[hb]at h1;have h2:a.tmps.getD t undef=.bool b:=by have h3:Rd ok w (.v (.bool b)) (a.tmps.getD t undef):=h1;generalize a.tmps.getD t undef=y at*;cases h3;rfl
 have hw:Region.wanted o (yielded ops a.tmps)=true:=by
  have h4:a.tmps[t]?=some (.bool b):=by
   rw[Array.getD_eq_getD_getElem?]at h2;cases h5:a.tmps[t]? with
   |none=>rw[h5]at h2;simp[undef]at h2
   |some y=>rw[h5]at h2;simpa using h2
  simp only[Region.wanted,hg,yielded,ht,Option.bind_some,h4];simp
 rw[if_pos hw];exact h _ _ _ _ _ _ _ hR K Q fun s' a' w' ok' σ' hI hR'=>hK _ _ (hk s' hI _ _ _ _ _ _ _ hR' Q hQ)
theorem z36{ops:Array Oper}{o:Oper}{rest:List Oper}{s:St}{I J:St→Prop}(hg:yg ops o s=some true)(h:XS P o s I)(hk:∀s',I s'→XL P ops rest s' J):XL P ops (o::rest) s J:=by
 unfold yg at hg;split at hg
 ·rename_i h1;exact z7a h1 h hk
 ·rename_i j b h1;split at hg
  ·rename_i t ht;split at hg
   ·rename_i c hc;have e:c=b:=by cases c<;>cases b<;>simp_all
    subst e;exact z79 h1 ht hc h hk
   ·cases hg
   ·cases hg
  ·cases hg
def T.den:{β:Type}→T P β→{ρ:Type}→(β→Option ρ)→Option ρ
 |_,.ret y,_,k=>k y
 |_,.fail,_,_=>none
 |_,.n0 _ t,_,k=>t.den k
 |_,.n1 _ t,_,k=>t.den k
 |_,.op0 F f,_,k=>F.m.bind fun y=>(f y).den k
 |_,.op1 F f,_,k=>F.m.bind fun y=>(f y).den k
 |_,.opx F f,_,k=>F.m.bind fun y=>(f y).den k
 |_,.op1o F a f,_,k=>F.m.bind fun y=>elO y (a.den k) fun x=>(f x).den k
 |_,.cond c a b,_,k=>bif c then a.den k else b.den k
 |_,.selB c _ _ f,_,k=>(f c).den k
 |_,.lit t,_,k=>t.den k
 |_,.pl t,_,k=>t.den k
 |_,.dn t,_,k=>t.den k
 |_,.frc v f,_,k=>sI v fun y=>(f y).den k
 |_,.lt v f,_,k=>(some v).bind fun y=>(f y).den k
 |_,.bnd m f,_,k=>m.bind fun y=>(f y).den k
 |_,.hint _ t,_,k=>t.den k
 |_,.late _ t,_,k=>t.den k
 |_,.seqT t f,_,k=>(t.den some).bind fun y=>(f y).den k
 |_,.join t _ _ _ f,_,k=>(t.den some).bind fun y=>(f y).den k
 |_,.joinC t _ _ _ f,_,k=>t.den fun y=>(f y).den k
 |_,.joinS t _ _ _ er f,_,k=>(t.den some).bind fun q=>elS q (fun y=>(f y).den k) fun r=>k (er r)
 |_,.loop L x _ _ _ _ _ _ _ f,_,k=>(L FU x).bind fun y=>(f y).den k
 |_,.loopS L x _ _ _ _ _ _ _ er f,_,k=>(L FU x).bind fun q=>elS q (fun y=>(f y).den k) fun r=>k (er r)
 |_,.unroll _ t,_,k=>t.den k
 |_,.draw _ _ t,_,k=>t.den k
 |_,.drawL _ t,_,k=>t.den k
 |_,.drawM _ _ _ _ t,_,k=>t.den k
def sqT{α β:Type}(t:T P α)(k:α→T P β):T P β:=match t with
 | .ret a=>k a
 | .fail=>.fail
 | .n0 F t=>.n0 F (.seqT t k)
 | .n1 F t=>.n1 F (.seqT t k)
 | .op0 F f=>.op0 F fun y=>.seqT (f y) k
 | .op1 F f=>.op1 F fun y=>.seqT (f y) k
 | .opx F f=>.opx F fun y=>.seqT (f y) k
 | .cond c a b=>.cond c (.seqT a k) (.seqT b k)
 | .selB c w ns f=>.selB c w ns fun b=>.seqT (f b) k
 | .lit t=>.lit (.seqT t k)
 | .pl t=>.pl (.seqT t k)
 | .dn t=>.dn (.seqT t k)
 | .frc v f=>.frc v fun y=>.seqT (f y) k
 | .lt v f=>.lt v fun y=>.seqT (f y) k
 | .bnd m f=>.bnd m fun y=>.seqT (f y) k
 | .hint H t=>.hint H (.seqT t k)
 | .late H t=>.late H (.seqT t k)
 | .seqT t f=>.seqT t fun a=>.seqT (f a) k
 |t=>.seqT t k
theorem z7G{α ρ:Type}(v:Int)(f:Int→Option α)(g:α→Option ρ):(sI v f).bind g=sI v fun y=>(f y).bind g:=by rw[zO,zO]
theorem zX5{α β ρ:Type}(t:T P α)(k:α→T P β)(κ:β→Option ρ):(sqT t k).den κ=(t.den some).bind fun a=>(k a).den κ:=by
 cases t with
 |cond c a b=>cases c<;>rfl
 |op0 F f=>exact (Option.bind_assoc F.m _ _).symm
 |op1 F f=>exact (Option.bind_assoc F.m _ _).symm
 |opx F f=>exact (Option.bind_assoc F.m _ _).symm
 |bnd m f=>exact (Option.bind_assoc m _ _).symm
 |frc v f=>exact (z7G v _ _).symm
 |seqT t f=>exact (Option.bind_assoc (t.den some) _ _).symm
 |_=>rfl
end
section
variable (P:Program)
def wv(s:St)(o:Oper):Bool:=match o.op with
 | .indexAddr _ x (.tmp _)=>(match s.ev x with
  | .pt _ _=>false
  |_=>true)
 | .load _ x=>(match s.ev x with
  | .po _ _ _ _=>false
  |_=>true)
 | .assign (.const (.slice none 0 0))=>false
 |_=>true
def wo(o:Oper)(s:St):Option St:=bif wv s o then yo P o s else none
def dsl(ops:Array Oper)(o:Oper):Option Nat:=match o.guard with
 |some (j,_)=>gdt ops j
 |none=>match o.op with
  | .pick (.tmp t) _ _=>some t
  |_=>none
def ersO(kn:List Nat):Option Nat→List Nat
 |some d=>kn.erase d
 |none=>kn
def zZX{β:Type}:List (NN P)→T P β→T P β
 |[],t=>t
 | .z F::ns,t=>.n0 F (zZX ns t)
 | .o F::ns,t=>.n1 F (zZX ns t)
def opn{β:Type}(t:T P β)(kn:List Nat):Option Nat→Option (Nat×Bool×T P β×T P β)
 |some d=>bif kn.elem d then none else (match t with
  | .cond c a b=>some (d,c,a,b)
  | .selB c w ns f=>some (d,c,zZX P (bif w then ns else []) (f true),zZX P (bif w then [] else ns) (f false))
  |_=>none)
 |none=>none
def zRR{β:Type}(t:T P β)(kn:List Nat):Option Nat→T P β×List Nat
 |some d=>bif kn.elem d then (t,kn) else (match t with
  | .lit t'=>(t',d::kn)
  |_=>(t,kn))
 |none=>(t,kn)
def dtn(s:St):Option Nat→Option Nat
 |some d=>(match s.get d with
  | .tn=>none
  |_=>some d)
 |none=>none
def mtX{α:Type}(m:List Bool)(ids:List Nat)(S:St→α→(Nat→Loc)→St)(s:St):T P α→List Nat→St→OT:=fun t' _ s'=>match t' with
 | .ret a=>.eq (s'.kp m ids) (S s a s'.locs) .ok
 |_=>.bad
def goX:Nat→{β:Type}→T P β→List Nat→Array Oper→List Oper→St→(T P β→List Nat→St→OT)→OT
 |0,_,_,_,_,_,_,_=>.bad
 |n+1,β,t,kn,ops,rest,s,K=>match t with
  | .fail=>.ok
  | .hint H t'=>H.run s fun s'=>goX n t' kn ops rest s' K
  | .frc v k=>goX n (k v) kn ops rest s K
  | .lt v k=>goX n (k v) kn ops rest s K
  | .bnd _ k=>.all fun y=>goX n (k y) kn ops rest s K
  | .seqT t1 k=>goX n (sqT t1 k) kn ops rest s K
  | .joinC (.unroll d t1) m ids S f=>.and (goX n t1 kn ops (rest.take d) s (mtX P m ids S s)) (.all fun a=>.all fun γ=>goX n (f a) [] ops (rest.drop d) (S s a γ) K)
  |t=>match rest with
   |[]=>K t kn s
   |o::os=>match opn P t kn (dtn s (dsl ops o)) with
    |some (d,c,a,b)=>.eq (s.get d) (Bo c) (.and (goX n a (d::kn) ops rest (s.put d (Bo true)) K) (goX n b (d::kn) ops rest (s.put d (Bo false)) K))
    |none=>match zRR P t kn (dtn s (dsl ops o)) with
     |(t,kn)=>match yg ops o s with
      |some true=>(match wo P o s with
       |some s'=>goX n t (ersO kn o.dst) ops os s' K
       |none=>match t with
        | .n0 F t'=>(match o.dst with
         |some d=>.and (F.chk o s) (goX n t' (kn.erase d) ops os (s.put d (F.av o s)) K)
         |none=>.bad)
        | .n1 F t'=>(match o.dst with
         |some d=>.and (F.chk o s) (goX n t' (kn.erase d) ops os (s.upd d (F.av o s) (F.ne o s)) K)
         |none=>.bad)
        | .op0 F k=>(match o.dst with
         |some d=>.and (F.chk o s) (.all fun y=>goX n (k y) (kn.erase d) ops os (s.put d (F.av o s y)) K)
         |none=>.bad)
        | .op1 F k=>(match o.dst with
         |some d=>.and (F.chk o s) (.all fun y=>goX n (k y) (kn.erase d) ops os (s.upd d (F.av o s y) (F.ne o s y)) K)
         |none=>.bad)
        | .late H t'=>H.run s fun s'=>goX n t' kn ops (o::os) s' K
        | .op1o F a k=>(match o.dst with
         |some d=>.and (F.chk o s) (.and (goX n a (kn.erase d) ops os (s.upd d (F.av o s none) (F.ne o s none)) K) (.all fun y=>goX n (k y) (kn.erase d) ops os (s.upd d (F.av o s (some y)) (F.ne o s (some y))) K))
         |none=>.bad)
        | .opx F k=>.all fun y=>F.run o s y fun s'=>goX n (k y) (ersO kn o.dst) ops os s' K
        |_=>.bad)
      |some false=>(match o.dst with
       |some d=>goX n t (kn.erase d) ops os (s.put d .tn) K
       |none=>.bad)
      |none=>.bad
end
section
variable {P:Program}
theorem z7b{ops:Array Oper}{rest:List Oper}{s:St}{J:St→Prop}{d:Nat}{c:Bool}(h:s.get d=Bo c)(h1:c=true→XL P ops rest (s.put d (Bo true)) J)(h2:c=false→XL P ops rest (s.put d (Bo false)) J):XL P ops rest s J:=by
 cases c with
 |true=>have h1:=h1 rfl;rw[←h,zXv]at h1;exact h1
 |false=>have h2:=h2 rfl;rw[←h,zXv]at h2;exact h2
theorem zUL(E:List (Nat×Ent)):∀(ids:List Nat)(id:Nat)(e:Ent),(kpE E ids).lookup id=some e→E.lookup id=some e
 |[],id,e,h=>by simp[kpE]at h
 |i::is,id,e,h=>by
  unfold kpE at h;split at h
  ·rename_i f hf;simp only[List.lookup]at h;split at h
   ·rename_i hq;have:id=i:=by simpa using hq
    subst this;rw[hf];exact h
   ·exact zUL E is id e h
  ·exact zUL E is id e h
theorem zWf(m:List Bool)(ids:List Nat)(s:St):Le (s.kp m ids) s:=
 ⟨zQh m s.T,fun t=>zQi m s.T t,fun id e h=>zUL s.E ids id e h⟩
theorem z99(m:List Bool)(ids:List Nat){ops:Array Oper}{rest:List Oper}{s s1:St}{J:St→Prop}(h:s.kp m ids=s1)(hT:XL P ops rest s1 J):XL P ops rest s J:=by subst h;intro B w0 ok0 ok σ a w hR Q hQ;exact hT _ _ _ _ _ _ _ (hR.le (zWf m ids s)) Q hQ
theorem z0M(m:List Bool)(ids:List Nat){c:Code}{s s1:St}{J:Exit→St→Prop}(h:s.kp m ids=s1)(hv:V P c s1 J):V P c s J:=by subst h;exact V_le (zWf m ids s) hv
theorem z2b{H:HT}{s:St}{K:St→OT}(h:(H.run s K).holds){ops:Array Oper}{rest:List Oper}{J:St→Prop}(hk:∀s',(K s').holds→XL P ops rest s' J):XL P ops rest s J:=by intro B w0 ok0 ok σ a w hR Q hQ;obtain⟨s',ok',σ',h1,h2⟩:=H.ok s K h _ _ _ _ _ _ _ hR;exact hk s' h1 _ _ _ _ _ _ _ h2 Q hQ
theorem z6C{H:HT}{s:St}{K:St→OT}(h:(H.run s K).holds){c:Code}{J:Exit→St→Prop}(hk:∀s',(K s').holds→V P c s' J):V P c s J:=by intro B w0 ok0 ok σ a w hR;obtain⟨s',ok',σ',h1,h2⟩:=H.ok s K h _ _ _ _ _ _ _ hR;exact hk s' h1 _ _ _ _ _ _ _ h2
theorem z7q{o:Oper}{s s':St}(h:wo P o s=some s'):X P o s s':=by
 unfold wo at h;cases hb:wv s o with
 |false=>rw[hb,cond_false]at h;cases h
 |true=>rw[hb,za]at h;exact z7n h
theorem zMv{β ρ:Type}(k:β→Option ρ)(t:T P β):∀ns:List (NN P),(zZX P ns t).den k=t.den k
 |[]=>rfl
 | .z _::ns=>zMv k t ns
 | .o _::ns=>zMv k t ns
theorem zUF{β ρ:Type}{t:T P β}{kn:List Nat}{q:Option Nat}{d:Nat}{c:Bool}{a b:T P β}(h:opn P t kn q=some (d,c,a,b))(k:β→Option ρ):t.den k=bif c then a.den k else b.den k:=by
 unfold opn at h;split at h
 ·rename_i d0;cases hb:kn.elem d0 with
  |true=>rw[hb,za]at h;cases h
  |false=>
   rw[hb,cond_false]at h;split at h
   ·injection h with h;injection h with h1 h;injection h with h2 h;injection h with h3 h4;subst h2 h3 h4;rfl
   ·injection h with h;injection h with h1 h;injection h with h2 h;injection h with h3 h4;subst h2 h3 h4;rename_i c w ns f;cases c
    ·exact (zMv k (f false) _).symm
    ·exact (zMv k (f true) _).symm
   ·cases h
 ·cases h
theorem zQD{β ρ:Type}(t:T P β)(kn:List Nat)(q:Option Nat)(k:β→Option ρ):(zRR P t kn q).1.den k=t.den k:=by
 unfold zRR;split
 ·rename_i d0;cases hb:kn.elem d0 with
  |true=>rfl
  |false=>rw[cond_false];split<;>rfl
 ·rfl
theorem zU7{β ρ:Type}{c:Bool}{x y:Option ρ}{r:ρ}(h:(bif c then x else y)=some r):(c=true→x=some r)∧(c=false→y=some r):=by
 cases c with
 |true=>exact⟨fun _=>h,fun h=>by cases h⟩
 |false=>exact⟨fun h=>(by cases h),fun _=>h⟩
theorem z4Q{o:Oper}{a:Act}{w:World}{K:Act→World→Prop}{Q Q':Exit→Act→World→Prop}(h1:∀ch a w,Q (.panic ch) a w→Q' (.panic ch) a w)(h2:LetsOut Q→LetsOut Q')(hh:o.wp P a w K Q):o.wp P a w K Q':=by
 unfold Oper.wp at*;generalize (execOp a.eval o).run P w=r at*;cases r with
 |ok n w'=>
  cases n<;>simp only[Oper.upon]at hh ⊢<;>first|exact hh|exact Calls.mono hh (fun e w'' he=>by cases e<;>first|exact he|exact h1 _ _ _ he|exact h2 he)
 |halt x w'=>cases x<;>simp only[Oper.upon]at hh ⊢<;>first|exact hh|exact h1 _ _ _ hh
theorem z9a{ops:Array Oper}{r1 r2:List Oper}{s:St}{J1 J:St→Prop}(h1:XL P ops r1 s J1)(h2:∀s',J1 s'→XL P ops r2 s' J):XL P ops (r1++r2) s J:=by
 intro B w0 ok0 ok σ a w hR Q hQ;have key:∀(l:List Oper)(a:Act)(w:World),wpList P ops (fun e a w=>match e with| .normal=>wpList P ops Q r2 a w|e=>Q e a w) l a w→wpList P ops Q (l++r2) a w:=by
  intro l
  induction l with
  |nil=>exact fun a w h=>h
  |cons o l ih=>
   intro a w h;rw[List.cons_append];unfold wpList at h ⊢;split
   ·rename_i hw;rw[if_pos hw]at h;exact h.imp (fun h=>z4Q (fun _ _ _ h=>h) (fun h=>h) (Oper.wp_mono ih h)) (fun h=>⟨h.1,h.2⟩)
   ·rename_i hw;rw[if_neg hw]at h;exact ih _ _ h
 exact key r1 a w (h1 _ _ _ _ _ _ _ hR _ fun s' a' w' ok' σ' hJ hR'=>h2 s' hJ _ _ _ _ _ _ _ hR' Q hQ)
theorem z8r{α ρ:Type}{m:List Bool}{ids:List Nat}{S:St→α→(Nat→Loc)→St}{s:St}{t':T P α}{kn:List Nat}{s':St}(h:(mtX P m ids S s t' kn s').holds){κ:α→Option ρ}{r:ρ}(hd:t'.den κ=some r):∃a,s'.kp m ids=S s a s'.locs∧κ a=some r:=by
 unfold mtX at h;split at h
 ·rename_i a;exact⟨a,h.1,hd⟩
 ·exact h.elim
theorem zDy:∀(n:Nat){β:Type}(t:T P β)(kn:List Nat)(ops:Array Oper)(rest:List Oper)(s:St)(K:T P β→List Nat→St→OT),(goX P n t kn ops rest s K).holds→
  ∀{ρ:Type}(k:β→Option ρ)(r:ρ),t.den k=some r→∀J:St→Prop,(∀t' kn' s',(K t' kn' s').holds→T.den t' k=some r→J s')→XL P ops rest s J
 |0,_,_,_,_,_,_,_,h=>h.elim
 |n+1,β,t,kn,ops,rest,s,K,h=>by
  intro k r hd J hJ;unfold goX at h;split at h
  ·cases hd
  ·rename_i H t';exact z2b h fun s' hs=>zDy n t' kn ops rest s' K hs k r hd J hJ
  ·rename_i v f;have hd:sI v (fun y=>(f y).den k)=some r:=hd;rw[zO]at hd;exact zDy n (f v) kn ops rest s K h k r hd J hJ
  ·rename_i v f;exact zDy n (f v) kn ops rest s K h k r hd J hJ
  ·rename_i m f;obtain⟨y,_,h2⟩:=zA (show m.bind (fun y=>(f y).den k)=some r from hd);exact zDy n (f y) kn ops rest s K (h y) k r h2 J hJ
  ·rename_i t1 f;exact zDy n (sqT t1 f) kn ops rest s K h k r (by rw[zX5];exact hd) J hJ
  ·rename_i d t1 m ids S f;have h1:t1.den (fun y=>(f y).den k)=some r:=hd;rw[←List.take_append_drop d rest];refine z9a (J1:=fun s'=>∃a,s'.kp m ids=S s a s'.locs∧(f a).den k=some r) (zDy n t1 kn ops (rest.take d) s _ h.1 _ r h1 _ fun t' kn' s' hK ht'=>z8r hK ht') ?_
   rintro s' ⟨a,hs,ha⟩;exact z99 m ids hs (zDy n (f a) [] ops (rest.drop d) _ K (h.2 a _) k r ha J hJ)
  ·split at h
   ·exact qN (hJ _ _ _ h hd)
   ·rename_i o os;split at h
    ·rename_i d c a b hq;rw[zUF hq k]at hd;obtain⟨ha,hb⟩:=zU7 (β:=β) hd;exact z7b h.1 (fun hc=>zDy n a _ ops (o::os) _ K h.2.1 k r (ha hc) J hJ) (fun hc=>zDy n b _ ops (o::os) _ K h.2.2 k r (hb hc) J hJ)
    ·rename_i hnn;have hd:(zRR P t kn (dtn s (dsl ops o))).1.den k=some r:=by rw[zQD];exact hd
     split at h;rename_i t2 kn2 hu;rw[hu]at hd;have hd:t2.den k=some r:=hd;split at h
     ·rename_i hg;split at h
      ·rename_i s' hs;exact zGh hg (z7q hs) (zDy n _ _ ops os s' K h k r hd J hJ)
      ·split at h
       ·rename_i F t' hd;split at h
        ·rename_i d hdst;exact zGh hg (zAn hdst (F.ok o s h.1)) (zDy n t' _ ops os _ K h.2 k r hd J hJ)
        ·exact h.elim
       ·rename_i F t' hd;split at h
        ·rename_i d hdst;exact zGh hg (zE1 hdst (F.ok o s h.1)) (zDy n t' _ ops os _ K h.2 k r hd J hJ)
        ·exact h.elim
       ·rename_i F f hd;split at h
        ·rename_i d hdst;obtain⟨y,h1,h2⟩:=zA (show F.m.bind (fun y=>(f y).den k)=some r from hd);exact zGh hg (zAn hdst (F.ok o s y h1 h.1)) (zDy n (f y) _ ops os _ K (h.2 y) k r h2 J hJ)
        ·exact h.elim
       ·rename_i F f hd;split at h
        ·rename_i d hdst;obtain⟨y,h1,h2⟩:=zA (show F.m.bind (fun y=>(f y).den k)=some r from hd);exact zGh hg (zE1 hdst (F.ok o s y h1 h.1)) (zDy n (f y) _ ops os _ K (h.2 y) k r h2 J hJ)
        ·exact h.elim
       ·rename_i H t' hd;exact z2b h fun s' hs=>zDy n t' _ ops (o::os) s' K hs k r hd J hJ
       ·rename_i F t' f hd;split at h
        ·rename_i d hdst;obtain⟨y,h1,h2⟩:=zA (show F.m.bind (fun y=>elO y (t'.den k) fun x=>(f x).den k)=some r from hd);obtain⟨h3,h4,h5⟩:=h;cases y with
         |none=>exact zGh hg (zE1 hdst (F.ok o s none h1 h3)) (zDy n t' _ ops os _ K h4 k r h2 J hJ)
         |some y=>exact zGh hg (zE1 hdst (F.ok o s (some y) h1 h3)) (zDy n (f y) _ ops os _ K (h5 y) k r h2 J hJ)
        ·exact h.elim
       ·rename_i F f hd;obtain⟨y,h1,h2⟩:=zA (show F.m.bind (fun y=>(f y).den k)=some r from hd);exact z36 hg (F.ok o s _ y h1 (h y)) fun s' hs=>zDy n (f y) _ ops os s' K hs k r h2 J hJ
       ·exact h.elim
     ·rename_i hg;split at h
      ·rename_i d hdst;exact z1O hg hdst (zDy n _ _ ops os _ K h k r hd J hJ)
      ·exact h.elim
     ·exact h.elim
end
end Go.Proofs.YtnjhhbcccgbbnaaGreatDoor
