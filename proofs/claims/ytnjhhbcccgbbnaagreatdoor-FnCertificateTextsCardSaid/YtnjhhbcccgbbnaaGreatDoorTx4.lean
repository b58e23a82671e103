/-
  Rules of walks, plain functions and their laws, part 4.
  Conditions: none.
-/
import Derived.Laws.BytesString
import Derived.Laws.Strings2
import Derived.Laws.Slices
import Derived.Laws.Externs
import Derived.Lib.AtoiTie
import Derived.KernelRfl
import Derived.Shelf.Strings.Builder1
import Derived.Shelf.Strings.OnBuilder
import Derived.Shelf.LaysM
import Derived.Shelf.Strconv.Itoa3
import Derived.Shelf.LaysC
import Derived.Shelf.Strconv.AtoiAll
import Derived.Shelf.Strings.Prefix
import Derived.Shelf.Strings.Split
import Derived.Shelf.Strings.FieldsFuncAny
import Derived.Test.YtnjhhbcccgbbnaaGreatDoorProg
import Derived.Test.YtnjhhbcccgbbnaaGreatDoorRows
import Derived.MapKept
import Derived.Test.YtnjhhbcccgbbnaaGreatDoorTx3
set_option linter.unusedSimpArgs false
set_option linter.unusedVariables false
namespace Go.Proofs.YtnjhhbcccgbbnaaGreatDoor
open Go.RowKit
section
variable {P:Program}
theorem zHb{n:Nat}{l h:Int}{u:Unit}(hh:slc n l h=some u):0≤l∧l≤h∧h≤n:=by
 unfold slc at hh;cases hb:(leI 0 l&&(leI l h&&leI h n)) with
 |false=>rw[hb]at hh;cases hh
 |true=>simpa [zS] using hb
theorem zJF{k:IntKind}{n:Int}{y:Nat}{code:BoundsCode}(h0:0≤n)(h1:n≤y)(w:World):(Instr.sliceBound (.int k n) y code).run P w=.ok n.toNat w:=by unfold Instr.sliceBound;simp[asIntOf,h0,h1]
theorem z6d{ok:Nat→Prop}{w:World}{els:List (List Tr)}{A:Option Addr}{n cap sz:Nat}(h:Rd ok w (.sl els) (.slice A n cap))(hs:∀el,el∈els→el.length=sz){l h':Nat}(h1:l≤h')(h2:h'≤els.length):
  Rd ok w (.sl ((els.drop l).take (h' - l))) (.slice (if cap=l then A else A.map (·.add (l*sz))) (h' - l) (cap - l)):=by
 cases h with
 |nl A cap=>
  have e1:l=0:=by simp at h2;omega
  have e2:h'=0:=by simp at h2;omega
  subst e1 e2;simpa using Rd.nl _ _
 |sl g off n cap sz2 els f hn hcap hok hsz hc hr=>
  rcases Nat.eq_zero_or_pos (h' - l) with h0|h0
  ·rw[h0];simpa using Rd.nl _ _
  ·have hlen:els≠[]:=by intro e;subst e;simp at h2;omega
   have hcl:¬cap=l:=by omega
   rw[if_neg hcl];have hz:sz2=sz:=by obtain⟨e,he⟩:=List.exists_mem_of_ne_nil els hlen;rw[←hsz e he,hs e he]
   subst hz;have hat:∀i j c,at2 ((els.drop l).take (h' - l)) i j=some c→at2 els (l+i) j=some c:=by
    intro i j c hh;unfold at2 at hh ⊢;rw[List.getElem?_take]at hh;split at hh
    ·rw[List.getElem?_drop]at hh;exact hh
    ·cases hh
   have ha:(Option.map (fun x:Addr=>x.add (l*sz2)) (some ⟨g,off,none⟩))=some ⟨g,off+l*sz2,none⟩:=by rw[Option.map_some,zFV]
   rw[ha];refine .sl g (off+l*sz2) (h' - l) (cap - l) sz2 _ (fun i j=>f (l+i) j) ?_ (by omega) hok (fun el hel=>hsz el (List.mem_of_mem_drop (List.mem_of_mem_take hel))) (fun i j c hh=>?_) (fun i j c hh=>hr _ _ _ (hat i j c hh))
   ·simp;omega
   ·have h3:=hc _ _ _ (hat i j c hh);have e:off+l*sz2+(i*sz2+j)=off+((l+i)*sz2+j):=by rw[Nat.add_mul];omega
    rw[e];exact h3
theorem zOy{α:Type}{c:α→List Tr}{xs:List α}{o:Oper}{s:St}{t e sz:Nat}{x:Operand}{lo hi:Option Operand}{l h:Int}(hu:P.underlying t=some (.slice e))(hsz:(P.info? e).map (·.size)=some sz)(hc:∀v,(c v).length=sz)(ho:o.op=.slice t x lo hi none)
  (hx:s.ev x=.c (.sl (xs.map c))) (hlo:∀y,lo=some y→∃k,s.ev y=.c (.v (.int k l))) (hlo0:lo=none→l=0) (hhi:∀y,hi=some y→∃k,s.ev y=.c (.v (.int k h))) (hhi0:hi=none→h=(xs.length:Int)) (hb:0≤l∧l≤h∧h≤xs.length):Y0 P o s (.c (.sl ((subl xs l h).map c))):=
 qZ fun ok σ a w hC=>by
  obtain⟨b1,b2,b3⟩:=hb;have h1:=hC.ev x;rw[hx]at h1;have h2:Rd ok w (.sl (xs.map c)) (a.eval x):=h1;generalize hv:a.eval x=v at h2;obtain⟨A,n,cap,rfl,hn,hcap⟩:∃A n cap,v=.slice A n cap∧n=xs.length∧n≤cap:=by
   generalize hT:Tr.sl (xs.map c)=T at h2;cases h2 with
   |v y hy=>cases hT
   |mp b es clock hb hm=>cases hT
   |nl A cap=>
    injection hT with hT;have:xs=[]:=by simpa using hT
    subst this;exact⟨A,0,cap,rfl,rfl,Nat.zero_le _⟩
   |sl g off n cap sz els f hn hcap hok hsz hc hr=>injection hT with hT;subst hT;exact⟨_,n,cap,rfl,by rw[hn];simp,hcap⟩
  have h3:=z6d (sz:=sz) h2 (fun el hel=>by obtain⟨y,_,rfl⟩:=List.mem_map.1 hel;exact hc y) (l:=l.toNat) (h':=h.toNat) (by omega) (by simp;omega);have e1:((xs.map c).drop l.toNat).take (h.toNat - l.toNat)=(subl xs l h).map c:=by unfold subl;rw[←List.map_drop,←List.map_take]
  rw[e1]at h3;refine⟨_,?_,h3⟩;have eL:(lo.map a.eval)=none∧l=0∨∃k,lo.map a.eval=some (.int k l):=by
   cases lo with
   |none=>exact .inl ⟨rfl,hlo0 rfl⟩
   |some y=>obtain⟨k,hk⟩:=hlo y rfl;exact .inr ⟨k,by simp[hC.exact hk]⟩
  have eH:(hi.map a.eval)=none∧h=(n:Int)∨∃k,hi.map a.eval=some (.int k h):=by
   cases hi with
   |none=>exact .inl ⟨rfl,by rw[hhi0 rfl,hn]⟩
   |some y=>obtain⟨k,hk⟩:=hhi y rfl;exact .inr ⟨k,by simp[hC.exact hk]⟩
  have hbounds:∀w,(Instr.sliceBounds true n cap (lo.map a.eval) (hi.map a.eval) none).run P w=.ok (l.toNat,h.toNat,cap) w:=by
   intro w;unfold Instr.sliceBounds;rcases eL with⟨e2,e3⟩|⟨k,e2⟩<;>rcases eH with⟨e4,e5⟩|⟨k2,e4⟩
   ·subst e3 e5;simp[e2,e4]
   ·subst e3;simp only[e2,e4,Sem.run_bind,Sem.run_pure,Result.andThen_ok,zJF (P:=P) (k:=k2) (n:=h) (y:=cap) (by omega) (by omega)];rfl
   ·subst e5;simp only[e2,e4,Sem.run_bind,Sem.run_pure,Result.andThen_ok,zJF (P:=P) (k:=k) (n:=l) (y:=n) b1 (by omega)];simp
   ·simp only[e2,e4,Sem.run_bind,Sem.run_pure,Result.andThen_ok,zJF (P:=P) (k:=k2) (n:=h) (y:=cap) (by omega) (by omega),zJF (P:=P) (k:=k) (n:=l) (y:=h.toNat) b1 (by omega)]
  cases hii:P.info? e with
  |none=>rw[hii]at hsz;cases hsz
  |some i=>
   have hi2:i.size=sz:=by rw[hii]at hsz;simpa using hsz
   unfold execOp;rw[ho];simp[hv,Instr.sliceAt,Instr.slice,run_underlying hu,hbounds,sizeOf,typeInfo,hii,hi2]
theorem z3l{o:Oper}{s:St}{x y:Operand}{t e d id sz bytes:Nat}{z:Value}{els:List (List Tr)}(ho:o.op=.call {callee:=.builtin .append,args:=#[x,y],argTypes:=#[t,t]})(hd:o.dst=some d)(ht:P.underlying t=some (.slice e))
  (hi:(P.info? e).map (fun i=>(i.zero,i.size,i.bytes))=some (some z,sz,bytes)) (hx:s.ev x=.ow id) (he:s.ent id=some (.arr e sz els)) (hy:zC3 s (s.ev y)=some []):X P o s ⟨(zDy id s.T).set d (.ow id),setE id (.arr e sz (els++[])) s.E⟩:=by
 intro B w0 ok0 ok σ a w hR K Q hK;have h3:=hR.core.ev x;rw[hx]at h3;have h4:a.eval x=zG (σ id):=h3;obtain⟨A,cap2,h5,_,_⟩:=zJh hR.core (hR.core.ev y) hy;obtain⟨h0,hn,hs,vs,hown,hrd⟩:=hR.core.ent id _ he;have hle:(σ id).n≤(σ id).cap:=by
  rcases hown.2 with⟨hv,hv0⟩|⟨g,cap,cur,hv,_,_,hnc,_⟩
  ·omega
  ·unfold zG at hv;injection hv with _ q1 q2;omega
 cases hii:P.info? e with
 |none=>rw[hii]at hi;simp at hi
 |some i=>
  have hi2:i.size=sz:=by rw[hii]at hi;simp at hi;exact hi.2.1
  have hrun:(Builtin.append_ #[t,t] o.type #[zG (σ id),.slice A 0 cap2]).run P w=.ok (zG (σ id)) w:=by
   unfold Builtin.append_ zG;cases A<;>cases (σ id).blk<;>simp[run_underlying ht,sizeOf,typeInfo,hii,hi2,Builtin.lenOf,Builtin.firstCells,hle,loadCells,loadCellsFrom,storeCells]
  unfold Oper.wp execOp;simp only[ho,resolve,invoke,builtin,Sem.run_bind,Sem.run_pure,Result.andThen_ok,List.map_toArray,List.map_cons,List.map_nil,h4,h5,List.length_nil,hrun,Oper.upon,hd];refine hK _ _ ok σ ((hR.put (d:=d) (av:=.ow id) (v:=zG (σ id)) rfl).le ⟨by simp[St.put,zG3],fun u=>?_,fun j f hj=>?_⟩)
  ·have e0:=zDb ⟨zDy id s.T,s.E⟩ d u (.ow id);have e1:=zDb s d u (.ow id);unfold St.put St.get at e0 e1;unfold St.get St.put;simp only[zG3,zJJ]at e0;rw[e0,e1];split
   ·exact .inr rfl
   ·cases ((s.T[u]?).getD .bot).mid id with
    |true=>exact .inl rfl
    |false=>exact .inr rfl
  ·have h7:(setE id (.arr e sz (els++[])) s.E).lookup j=some f:=hj;rw[zDf id _ s.E _ he,List.append_nil]at h7;show s.ent j=some f;split at h7
   ·rename_i hji;subst hji;rw[he];exact h7
   ·exact h7
theorem z3k{α:Type}{c:α→List Tr}{xs ys:List α}{o:Oper}{s:St}{x y:Operand}{t e d id sz bytes:Nat}{z:Value}(ho:o.op=.call {callee:=.builtin .append,args:=#[x,y],argTypes:=#[t,t]})(hd:o.dst=some d)(ht:P.underlying t=some (.slice e))
  (hi:(P.info? e).map (fun i=>(i.zero,i.size,i.bytes))=some (some z,sz,bytes)) (hzs:z.cells.size=sz) (hx:s.ev x=.ow id) (he:s.ent id=some (.arr e sz (xs.map c))) (hy:zC3 s (s.ev y)=some (ys.map c)) (hc:∀v,(c v).length=sz)
  (hr:xs.length+ys.length≤1099511627776) (hby:bytes≤128):X P o s ⟨(zDy id s.T).set d (.ow id),setE id (.arr e sz ((xs++ys).map c)) s.E⟩:=by
 cases ys with
 |nil=>have:=z3l ho hd ht hi hx he (by simpa using hy);simpa using this
 |cons v vs=>exact zJY ho hd ht hi hzs hx he hy hc (by simp) hr hby
end
section
variable {P:Program}
theorem RelA.app{ok:Nat→Prop}{σ:Nat→Loc}{w:World}{ts us:List AV}{xs ys:List Value}(h:RelA ok σ w ts xs)(h2:RelA ok σ w us ys):RelA ok σ w (ts++us) (xs++ys):=by
 induction h with
 |nil=>exact h2
 |cons h hs ih=>exact .cons h ih
end
section
variable {P:Program}
theorem zWw{a b:qe}{u:Unit}(h:catR a b=some u):a.size+b.size≤9223372036854775807:=by
 unfold catR at h;split at h
 ·assumption
 ·cases h
theorem z3Q{b:qe}{i v:Int}(h:getB b i=some v):∃h:0≤i∧i<b.size,v=(b[i.toNat]'(by omega)).toNat:=by
 unfold getB at h;split at h
 ·rename_i hi;injection h with h;refine⟨hi,?_⟩;rw[←h];have h2:i.toNat<b.data.toList.length:=by
   have:b.data.toList.length=b.size:=by simp
   omega
  rw[zu h2];rfl
 ·cases h
theorem zYe{o:Oper}{s:St}{x i:Operand}{t:TypeId}{b:qe}{k:IntKind}{n v:Int}(hu:P.underlying t=some .string)(ho:o.op=.index t x i)(hx:s.ev x=.c (.v (.string b)))(hi:s.ev i=.c (.v (.int k n)))(hg:getB b n=some v):Y0 P o s (.c (.v (.int .u8 v))):=
 qZ fun ok σ a w hC=>by obtain⟨h1,h2⟩:=z3Q hg;refine⟨.int .u8 v,?_,zLO _ _ _ _⟩;unfold execOp;rw[ho];simp only[hC.exact hx,hC.exact hi,Sem.run_bind,run_index_string w t b k n hu,dif_pos h1,Result.andThen_ok,Sem.run_pure];rw[h2]
theorem z0o(ok:Nat→Prop)(σ:Nat→Loc)(w:World)(b:qe):Rel ok σ w (.c (.v (.string b))) (.string b):=Rd.v _ rfl
theorem zXE{o:Oper}{s:St}{t:TypeId}{x:Operand}{lo hi:Option Operand}{b:qe}{l h:Int}(hu:P.underlying t=some .string)(ho:o.op=.slice t x lo hi none)
  (hx:s.ev x=.c (.v (.string b))) (hlo:∀y,lo=some y→∃k,s.ev y=.c (.v (.int k l))) (hlo0:lo=none→l=0) (hhi:∀y,hi=some y→∃k,s.ev y=.c (.v (.int k h))) (hhi0:hi=none→h=(b.size:Int)) (hb:0≤l∧l≤h∧h≤b.size):Y0 P o s (.c (.v (.string (b.extract l.toNat h.toNat)))):=
 qZ fun ok σ a w hC=>by
  obtain⟨b1,b2,b3⟩:=hb;refine⟨.string (b.extract l.toNat h.toNat),?_,z0o _ _ _ _⟩;unfold execOp;rw[ho];have hrun:(Instr.sliceAt t (.string b) (lo.map a.eval) (hi.map a.eval) none).run P w=.ok (.string (b.extract l.toNat h.toNat)) w:=by
   rw[run_sliceAt_string w t (.string b) (lo.map a.eval) (hi.map a.eval) none hu];cases lo with
   |none=>
    have hl:=hlo0 rfl;subst hl;cases hi with
    |none=>have hh:=hhi0 rfl;subst hh;simpa using run_slice_string_all w t b hu
    |some y=>obtain⟨k,hk⟩:=hhi y rfl;simp only[Option.map_none,Option.map_some,hC.exact hk];simpa using run_slice_string_h w t b hu k h b2 b3
   |some z=>
    obtain⟨k1,hk1⟩:=hlo z rfl;cases hi with
    |none=>have hh:=hhi0 rfl;subst hh;simp only[Option.map_none,Option.map_some,hC.exact hk1];simpa using run_slice_string_l w t b hu k1 l b1 b2
    |some y=>obtain⟨k,hk⟩:=hhi y rfl;simp only[Option.map_some,hC.exact hk,hC.exact hk1];exact run_slice_string w t b k1 k l h hu b1 b2 b3
  simp only[hC.exact hx,Option.map_none,Sem.run_bind,hrun,Result.andThen_ok,Sem.run_pure]
theorem z1d{o:Oper}{s:St}{src dst e:TypeId}{x:Operand}{c:Int→List Tr}(hc:∀v,c v=[.v (.int .u8 v)])(xs:List Int)(hs:P.underlying src=some (.slice e))(he:P.underlying e=some (.int .u8))(hd:P.underlying dst=some .string)(ho:o.op=.convert src dst x)
  (hx:zC3 s (s.ev x)=some (xs.map c)):Y0 P o s (.c (.v (.string (zCj xs)))):=
 qZ fun ok σ a w hC=>by
  obtain⟨A,cap,h1,h2,h3⟩:=zJh hC (hC.ev x) hx;refine⟨.string (zCj xs),?_,z0o _ _ _ _⟩;unfold execOp;rw[ho];have hrun:(convert src dst (a.eval x)).run P w=.ok (.string (zCj xs)) w:=by
   rw[h1,run_convert_bytes_string w src dst e A _ cap hs he hd];by_cases hn:xs=[]
   ·subst hn;cases A with
    |none=>simp[Conv.bytesToString,zCj]
    |some A=>have:=run_bytesToString (P:=P) w A 0 cap [] (by simpa using run_loadCells_list (P:=P) w A [] (fun j v hj=>by simp at hj));simpa [zCj] using this
   ·obtain⟨g,off,sz,vs,rfl,hs1,hr,hcell⟩:=h3 (by simpa using hn);have hflat:(xs.map c).flatten=xs.map fun v=>Tr.v (.int .u8 v):=by
     clear h1 h2 h3 hs1 hr hcell hn hx
     induction xs with
     |nil=>rfl
     |cons v xs ih=>rw[List.map_cons,List.flatten_cons,ih,hc];rfl
    rw[hflat]at hr;have hvs:vs=xs.map fun v=>Value.int .u8 v:=by
     clear h1 h2 h3 hs1 hcell hn hx hflat
     induction xs generalizing vs with
     |nil=>cases hr;rfl
     |cons v xs ih=>
      cases hr with
      |cons h hs=>cases h;rw[ih _ hs];rfl
    have:=run_bytesToString (P:=P) w ⟨g,off,none⟩ xs.length cap xs (by
     have hl:=run_loadCells_list (P:=P) w ⟨g,off,none⟩ (xs.map (Value.int .u8)) (fun j v hj=>by rw[zFV];exact hcell j v (by rw[hvs];exact hj))
     simpa using hl)
    simpa [zCj] using this
  simp only[Sem.run_bind,hrun,Result.andThen_ok,Sem.run_pure]
theorem z3n{f:FuncId}{args:List AV}{b:qe}(h:∀ok σ w vs,(∀g,ok g→g<w.heap.size)→Lb ok w→RelA ok σ w args vs→Calls P f vs.toArray w fun e w'=>e=.returned (.string b)∧Below w.heap.size w w'):zH P f args (.c (.v (.string b))) []:=by
 intro ok σ w vs hok hlib hargs;refine (h ok σ w vs hok hlib hargs).mono ?_
 rintro e w' ⟨rfl,hb⟩;refine⟨_,ok,σ,rfl,⟨hb,fun _ h=>h,fun _ h=>.inl h,fun g hg=>Nat.lt_of_lt_of_le (hok g hg) hb.size,z0o _ _ _ _,fun id e h=>by simp at h,fun e he=>rfl,fun id e h=>by simp at h,fun id e g h=>by simp at h,fun i j e f g h=>by simp at h,fun id e h=>by simp at h⟩⟩
theorem zZT{ok:Nat→Prop}{σ:Nat→Loc}{w:World}{k:IntKind}{n:Int}{v:Value}(h:Rel ok σ w (.c (.v (.int k n))) v):v=.int k n:=by have h2:Rd ok w (.v (.int k n)) v:=h;cases h2;rfl
theorem zIG{ok:Nat→Prop}{σ:Nat→Loc}{w:World}{b:qe}{v:Value}(h:Rel ok σ w (.c (.v (.string b))) v):v=.string b:=by have h2:Rd ok w (.v (.string b)) v:=h;cases h2;rfl
theorem z1i{f:FuncId}(hc:∀ok w n,Lb ok w→-9223372036854775808≤n→n≤9223372036854775807→Calls P f #[.int .i64 n] w fun e w'=>e=.returned (.string ⟨(Go.Lib.itoa n).toArray⟩)∧Below w.heap.size w w'){n:Int}{r:qe}(h:zR n=some r):zH P f [I n] (.c (.v (.string r))) []:=by
 unfold zR at h;split at h
 ·rename_i hn;injection h with h;subst h;refine z3n fun ok σ w vs hok hlib hargs=>?_
  cases hargs with
  |cons h1 h2=>cases h2;have:=zZT h1;subst this;exact hc ok w n hlib hn.1 hn.2
 ·cases h
end
section
variable {P:Program}
end
section
variable {P:Program}
def bt:Nat→List AV→List AV
 |0,l=>l
 |n+1,l=>.bot::bt n l
def mb:Nat→Nat→List Bool
 |0,_=>[]
 |n+1,x=>Nat.beq (Nat.mod x 2) 1::mb n (Nat.div x 2)
theorem L0{ops:Array Oper}{o:Oper}{rest:List Oper}{s:St}{av:AV}{d:Nat}{J:St→Prop}(hg:o.guard=none)(hd:o.dst=some d)(h:Y0 P o s av)(hk:XL P ops rest (s.put d av) J):XL P ops (o::rest) s J:=zDz hg (zGi hd h) hk
theorem L1{ops:Array Oper}{o:Oper}{rest:List Oper}{s:St}{av:AV}{ne:List (Nat×Ent)}{d:Nat}{J:St→Prop}(hg:o.guard=none)(hd:o.dst=some d)(h:Y1 P o s av ne)(hk:XL P ops rest (s.upd d av ne) J):XL P ops (o::rest) s J:=zDz hg (zGR hd h) hk
def VR(P:Program)(c:Code):Nat→St→(Exit→St→Prop)→Prop
 |0,_,_=>False
 |n+1,s,J=>V P c s (zQ0 (fun s'=>VR P c n s' J) J)
theorem VR_s{c:Code}{n:Nat}{s:St}{J:Exit→St→Prop}(h:V P c s (zQ0 (fun s'=>VR P c n s' J) J)):VR P c (n+1) s J:=h
theorem zFW{c:Code}{s:St}{J:Exit→St→Prop}(n:Nat)(h:VR P c n s J):V P (.loop c) s J:=by
 intro B w0 ok0 ok σ a w hR;refine wp_loop_rounds n ?_
 revert h
 induction n generalizing s ok σ a w with
 |zero=>intro h;exact h.elim
 |succ n ih=>
  intro h;refine wp_mono (h _ _ _ _ _ _ _ hR) ?_
  rintro e a' w' ⟨s',ok',σ',hJ,hR'⟩;cases e with
  |normal=>exact ih _ _ _ _ hR' hJ
  |exit id=>exact⟨s',ok',σ',hJ,hR'⟩
  |goto l=>exact⟨s',ok',σ',hJ,hR'⟩
  |ret=>exact⟨s',ok',σ',hJ,hR'⟩
  |panic ch=>exact⟨s',ok',σ',hJ,hR'⟩
  |outgrown=>exact⟨s',ok',σ',hJ,hR'⟩
theorem z9i{o:Oper}{s:St}{t e:TypeId}{x ix:Operand}{k:IntKind}{N sz:Nat}{n:Int}(av:AV)(hu:P.underlying t=some (.array N e))(hsz:(P.info? e).map (·.size)=some sz)(ho:o.op=.indexAddr t x ix)(hi:s.ev ix=.c (.v (.int k n)))
  (hn:(decide (0≤n)&&decide (n<N))=true) (hx:(s.ev x).adv (n.toNat*sz)=av) (hb:av≠.bot):Y0 P o s av:=
 qZ fun ok σ a w hC=>by
  subst hx;obtain⟨g,off,h1,h2⟩:=zYc (n.toNat*sz) (hC.ev x) hb;refine⟨_,?_,h2⟩;simp only[zj,decide_eq_true_eq]at hn;have h3:=hC.exact hi;cases hii:P.info? e with
  |none=>rw[hii]at hsz;simp at hsz
  |some i=>
   have h5:i.size=sz:=by rw[hii]at hsz;simpa using hsz
   unfold execOp;rw[ho];simp[h1,h3,Instr.indexAt,asIntOf,run_underlying hu,Instr.sureAddr,sizeOf,typeInfo,hii,h5,hn.1,hn.2,zFV]
theorem zAu{α:Type}{c:α→List Tr}{xs:List α}{v:α}{d:Tr}{o:Oper}{s:St}{t e:TypeId}{x ix:Operand}{k:IntKind}{N:Nat}{n:Int}(hu:P.underlying t=some (.array N e))(hs:zPZ P e)(hsz:(P.info? e).map (·.size)=some 1)(ho:o.op=.index t x ix)(hi:s.ev ix=.c (.v (.int k n)))
  (hx:s.ev x=.ag (xs.map c).flatten) (hl:xs.length=N) (hc:∀v,(c v).length=1) (hv:getI xs n=some v) (hd:c v=[d]):Y0 P o s (.c d):=
 qZ fun ok σ a w hC=>by
  have h1:=hC.ev x;rw[hx]at h1;obtain⟨vs,h2,h3⟩:=(h1:Rel1 ok σ w (.ag (xs.map c).flatten) (a.eval x))
  have h4:=hC.exact hi;obtain⟨g1,g2⟩:=zH6 hv;have hfl:∀(l:List α)(j:Nat)(u:α),l[j]?=some u→(l.map c).flatten[j]?=(c u)[0]?:=by
   intro l
   induction l with
   |nil=>intro j u h;simp at h
   |cons y l ih=>
    intro j u h;obtain⟨d',hd'⟩:∃d',c y=[d']:=by
     have:=hc y
     match hcy:c y with
     |[]=>rw[hcy]at this;cases this
     |[d']=>exact⟨d',rfl⟩
     |_::_::_=>rw[hcy]at this;simp at this
    rw[List.map_cons,List.flatten_cons,hd'];cases j with
    |zero=>simp at h;subst h;simp[hd']
    |succ j=>simpa using ih j u (by simpa using h)
  have h5:=hfl xs n.toNat v g2;rw[hd]at h5;obtain⟨y,h6,h7⟩:=h3.get n.toNat d (by simpa using h5);have hlt:n<(N:Int):=by have:=(List.getElem?_eq_some_iff.1 g2).1;omega
  refine⟨y,?_,h7⟩;obtain⟨dd,hd1,hd2⟩:=hs;cases hii:P.info? e with
  |none=>rw[hii]at hsz;simp at hsz
  |some i=>
   have h8:i.size=1:=by rw[hii]at hsz;simpa using hsz
   have h9:vs[n.toNat]?=some y:=by simpa using h6
   unfold execOp;rw[ho];simp[h2,h4,Instr.index,asIntOf,run_underlying hu,part,zPc hd1,hd2,sizeOf,typeInfo,hii,h8,g1,hlt,h9]
theorem z2n{α:Type}{c:α→List Tr}{xs ys:List α}{o:Oper}{s:St}{t e:TypeId}{N sz:Nat}{x:Operand}(hu:P.underlying t=some (.array N e))(hN:0<N)(hc:∀v,(c v).length=sz)(ho:o.op=.sliceToArrayPointer t x)
  (hx:s.ev x=.c (.sl (xs.map c))) (ht:xs.take N=ys) (hl:ys.length=N):Y0 P o s (.pe (ys.map c).flatten):=
 qZ fun ok σ a w hC=>by
  subst ht;have hNx:N≤xs.length:=by rw[List.length_take]at hl;omega
  have h1:=hC.ev x;rw[hx]at h1;have h2:Rd ok w (.sl (xs.map c)) (a.eval x):=h1;generalize hv:a.eval x=v at h2;generalize hT:Tr.sl (xs.map c)=T at h2;cases h2 with
  |v y hy=>cases hT
  |mp b es clock hb hm=>cases hT
  |nl A cap=>
   injection hT with hT;have:xs=[]:=by simpa using hT
   subst this;simp at hNx;omega
  |sl g off n cap sz' els f hn hcap hok hs hcell hr=>
   injection hT with hT;subst hT;have hne:xs≠[]:=fun h=>by subst h;simp at hNx;omega
   obtain⟨x0,hx0⟩:=List.exists_mem_of_ne_nil xs hne;have e1:sz'=sz:=by have:=hs (c x0) (List.mem_map.2 ⟨x0,hx0,rfl⟩);rw[hc]at this;exact this.symm
   subst e1;refine⟨.pointer (some ⟨g,off,none⟩),?_,⟨g,off,hok,rfl,fun j d hj=>?_⟩⟩
   ·have hlt:¬n<N:=by rw[hn,List.length_map];omega
    unfold execOp;rw[ho];simp[hv,Instr.arrayAt,run_underlying hu,hlt]
   ·have hels:∀el,el∈(xs.take N).map c→el.length=sz':=fun el hel=>by
     obtain⟨v,_,rfl⟩:=List.mem_map.1 hel;exact hc v
    have hat:=zJz ((xs.take N).map c) sz' j d hels hj;have hat2:at2 (xs.map c) (j / sz') (j % sz')=some d:=by
     unfold at2 at hat ⊢;obtain⟨el,he,hj2⟩:=Option.bind_eq_some_iff.1 hat;rw[List.map_take,List.getElem?_take]at he;split at he
     ·rw[he];exact hj2
     ·cases he
    have h3:=hcell _ _ d hat2;have h4:=hr _ _ d hat2;have e2:j / sz'*sz'+j % sz'=j:=by rw[Nat.mul_comm];exact Nat.div_add_mod j sz'
    rw[e2]at h3;exact⟨_,h3,h4⟩
theorem z4C{α:Type}{xs:List α}{n:Nat}:(xs.drop n).take 0=[]:=rfl
theorem zIF{α:Type}{xs ys:List α}{a:α}{i:Int}(n m:Nat)(h:getI xs i=some a)(hi:i.toNat=n)(k:(xs.drop (n+1)).take m=ys):(xs.drop n).take (m+1)=a::ys:=by obtain⟨_,h2⟩:=zH6 h;rw[hi]at h2;obtain⟨h3,h4⟩:=List.getElem?_eq_some_iff.1 h2;rw[List.drop_eq_getElem_cons h3,List.take_succ_cons,k,h4]
end
theorem kk{p:Prop}(h:p:=by kernel_rfl):p:=h
section
variable (P:Program)
def nbA:AV→Option AV
 | .bot=>none
 |av=>some av
def xbin(op:BinOp):AV→AV→Option AV
 | .c (.v (.int .i64 a)),.c (.v (.int .i64 b))=>match op with
  | .add=>some (I (w64 (a+b)))
  | .sub=>some (I (w64 (a - b)))
  | .mul=>some (I (w64 (a*b)))
  | .lss=>some (Bo (ltI a b))
  | .leq=>some (Bo (leI a b))
  | .gtr=>some (Bo (ltI b a))
  | .geq=>some (Bo (leI b a))
  | .eql=>some (Bo (eqI a b))
  | .neq=>some (Bo (!eqI a b))
  |_=>none
 |_,_=>none
def xun(op:UnOp):AV→Option AV
 | .c (.v (.int .i64 a))=>match op with
  | .neg=>some (I (w64 (0 - a)))
  |_=>none
 | .c (.v (.bool b))=>match op with
  | .not=>some (.c (.v (.bool (!b))))
  |_=>none
 |_=>none
def zFt(t:TypeId):Option Nat:=(P.info? t).map (·.size)
def xv(s:St):Op→Option AV
 | .move x=>some (s.ev x)
 | .assign x=>some (s.ev x)
 | .extract x n=>match s.ev x with
  | .tc y r=>nbA ((AV.tc y r).nth n)
  |_=>none
 | .fieldAddr t x f=>match P.underlying t with
  |some (.struct fields)=>match fields[f]? with
   |some fd=>match zFt P fd.type with
    |some (_+1)=>nbA ((s.ev x).adv fd.offset)
    |_=>none
   |none=>none
  |_=>none
 | .load t x=>match P.underlying t with
  |some d=>bif aggD d then (match zFt P t,zBZ s (s.ev x) with
    |some n,some cs=>bif Nat.ble n cs.length then some (.ag (cs.take n)) else none
    |_,_=>none)
   else (match zBZ s (s.ev x) with
    |some (c::_)=>some (.c c)
    |_=>none)
  |none=>none
 | .indexAddr t x ix=>match P.underlying t with
  |some (.array N e)=>match zFt P e,s.ev ix with
   |some sz,.c (.v (.int _ n))=>bif (decide (0≤n)&&decide (n<N)) then nbA ((s.ev x).adv (n.toNat*sz)) else none
   |_,_=>none
  |_=>none
 | .binOp op _ x y _=>xbin op (s.ev x) (s.ev y)
 | .unOp op _ x=>xun op (s.ev x)
 |_=>none
def xn(s:St):Op→Option (AV×List (Nat×Ent))
 | .alloc e=>match (P.info? e).bind (·.zero) with
  |some z=>bif zEd z.cells then some (.pt 0 0,[(0,.box (z.cells.toList.map Tr.v))]) else none
  |none=>none
 | .box _ x=>match zDc (s.ev x) with
  |some cs=>some (.pt 0 0,[(0,.box cs)])
  |none=>none
 |_=>none
def xs(s:St):Op→Option St
 | .store t x y=>match s.ev x,zDc (s.ev y) with
  | .pt id off,some vc=>match s.ent id with
   |some (.box cs)=>bif (zFt P t==some vc.length)&&Nat.ble (off+vc.length) cs.length then some ⟨s.T,setE id (.box (splice cs off vc)) s.E⟩ else none
   |some (.pbox l cs)=>bif (zFt P t==some vc.length)&&Nat.ble (off+vc.length) cs.length then some ⟨s.T,setE id (.pbox l (splice cs off vc)) s.E⟩ else none
   |_=>none
  |_,_=>none
 |_=>none
def xo(o:Oper)(s:St):Option St:=match o.dst with
 |some d=>match xv P s o.op with
  |some av=>some (s.put d av)
  |none=>match xn P s o.op with
   |some r=>some (s.upd d r.1 r.2)
   |none=>none
 |none=>xs P s o.op
def xr:List Oper→St→Option St
 |[],s=>some s
 |o::os,s=>match o.guard with
  |none=>match xo P o s with
   |some s'=>xr os s'
   |none=>none
  |some _=>none
def rD(l:List Oper)(s:St):St:=(xr P l s).getD s
end
section
variable {P:Program}
theorem zXx{a b:AV}(h:nbA a=some b):a=b∧b≠.bot:=by
 cases a<;>simp only[nbA]at h<;>first|(cases h;done)|(cases h;exact⟨rfl,fun h=>by cases h⟩)
theorem z6Y{o:Oper}{s:St}{op:BinOp}{t t2:TypeId}{x y:Operand}{av:AV}(ho:o.op=.binOp op t x y t2)(h:xbin op (s.ev x) (s.ev y)=some av):Y0 P o s av:=by
 generalize hx:s.ev x=a at h;generalize hy:s.ev y=b at h;unfold xbin at h;split at h
 ·cases op<;>simp only[zw,reduceCtorEq]at h<;>subst h
  ·exact z6E ho hx hy
  ·exact z5q ho hx hy
  ·exact z5v ho hx hy
  all_goals first|exact zYf ho hx hy|exact z5s ho hx hy|exact z5x ho hx hy|exact z5z ho hx hy|exact z6A ho hx hy|exact z6B ho hx hy
 ·cases h
theorem z8Y{o:Oper}{s:St}{op:UnOp}{t:TypeId}{x:Operand}{av:AV}(ho:o.op=.unOp op t x)(h:xun op (s.ev x)=some av):Y0 P o s av:=by
 generalize hx:s.ev x=a at h;unfold xun at h;split at h
 ·cases op<;>simp only[zw,reduceCtorEq]at h;subst h;exact z5t ho hx
 ·cases op<;>simp only[zw,reduceCtorEq]at h;subst h;exact z90 ho hx
 ·cases h
theorem z3p{o:Oper}{s:St}{av:AV}(h:xv P s o.op=some av):Y0 P o s av:=by
 unfold xv at h;split at h
 ·cases h;rename_i ho;exact z77 ho
 ·cases h;rename_i ho;exact z3g ho
 ·rename_i ho;split at h
  ·rename_i hx;obtain⟨h1,h2⟩:=zXx h;exact E_ext _ _ _ ho hx h1 h2
  ·cases h
 ·rename_i ho;split at h
  ·rename_i hu;split at h
   ·rename_i hf;split at h
    ·rename_i hs;obtain⟨h1,h2⟩:=zXx h;exact z7t _ hu hf hs ho h1 h2
    ·cases h
   ·cases h
  ·cases h
 ·rename_i ho;split at h
  ·rename_i d hu;cases ha:aggD d with
   |true=>
    rw[ha,zb]at h;split at h
    ·rename_i n cs hn hm;cases hb:Nat.ble n cs.length with
     |true=>rw[hb,zb]at h;cases h;exact z7s _ ⟨⟨d,hu,ha⟩,hn⟩ ho hm (Nat.le_of_ble_eq_true hb) rfl
     |false=>rw[hb,zc]at h;cases h
    ·cases h
   |false=>
    rw[ha,zc]at h;split at h
    ·rename_i c cs hm;cases h;exact z0S ⟨d,hu,ha⟩ ho hm
    ·cases h
  ·cases h
 ·rename_i ho;split at h
  ·rename_i N e hu;split at h
   ·rename_i sz k n hs hi;cases hb:(decide (0≤n)&&decide (n<(N:Int))) with
    |true=>rw[hb,zb]at h;obtain⟨h1,h2⟩:=zXx h;exact z9i _ hu hs ho hi hb h1 h2
    |false=>rw[hb,zc]at h;cases h
   ·cases h
  ·cases h
 ·rename_i ho;exact z6Y ho h
 ·rename_i ho;exact z8Y ho h
 ·cases h
theorem z3r{o:Oper}{s:St}{r:AV×List (Nat×Ent)}(h:xn P s o.op=some r):Y1 P o s r.1 r.2:=by
 unfold xn at h;split at h
 ·rename_i e ho;split at h
  ·rename_i z hz;cases hc:zEd z.cells with
   |true=>rw[hc,zb]at h;cases h;exact z5p ho hz hc
   |false=>rw[hc,zc]at h;cases h
  ·cases h
 ·rename_i e x ho;split at h
  ·rename_i cs hx;cases h;exact z9W ho hx
  ·cases h
 ·cases h
theorem xs_ok{o:Oper}{s s':St}(hd:o.dst=none)(h:xs P s o.op=some s'):X P o s s':=by
 unfold xs at h;split at h
 ·rename_i t x y ho;split at h
  ·rename_i id off vc hx hy;split at h
   ·rename_i cs he;cases hb:(zFt P t==some vc.length)&&Nat.ble (off+vc.length) cs.length with
    |true=>rw[hb,zb]at h;cases h;rw[zj,beq_iff_eq]at hb;exact z7r _ ho hd hx he hy hb.1 (Nat.le_of_ble_eq_true hb.2) rfl
    |false=>rw[hb,zc]at h;cases h
   ·rename_i l cs he;cases hb:(zFt P t==some vc.length)&&Nat.ble (off+vc.length) cs.length with
    |true=>rw[hb,zb]at h;cases h;rw[zj,beq_iff_eq]at hb;exact z6U _ ho hd hx he hy hb.1 (Nat.le_of_ble_eq_true hb.2) rfl
    |false=>rw[hb,zc]at h;cases h
   ·cases h
  ·cases h
 ·cases h
theorem z7x{o:Oper}{s s':St}(h:xo P o s=some s'):X P o s s':=by
 unfold xo at h;split at h
 ·rename_i d hd;split at h
  ·rename_i av hv;cases h;exact zGi hd (z3p hv)
  ·split at h
   ·rename_i r hn;cases h;exact zGR hd (z3r hn)
   ·cases h
 ·rename_i hd;exact xs_ok hd h
theorem z3q{ops:Array Oper}{J:St→Prop}(rest:List Oper):∀(l:List Oper)(s s':St),xr P l s=some s'→XL P ops rest s' J→XL P ops (l++rest) s J
 |[],s,s',h,hk=>by cases h;exact hk
 |o::os,s,s',h,hk=>by
  unfold xr at h;split at h
  ·rename_i hg;split at h
   ·rename_i s1 h1;exact zDz hg (z7x h1) (z3q rest os s1 s' h hk)
   ·cases h
  ·cases h
theorem XR(n:Nat){ops:Array Oper}{rest:List Oper}{s:St}{J:St→Prop}(hk:XL P ops (rest.drop n) (rD P (rest.take n) s) J)(h:(xr P (rest.take n) s).isSome=true:=by kernel_rfl):XL P ops rest s J:=by
 cases hx:xr P (rest.take n) s with
 |none=>rw[hx]at h;cases h
 |some s'=>
  have e:rD P (rest.take n) s=s':=by unfold rD;rw[hx];rfl
  rw[e]at hk;have:=z3q (ops:=ops) (J:=J) (rest.drop n) (rest.take n) s s' hx hk
  rwa [List.take_append_drop]at this
theorem XE{ops:Array Oper}{rest:List Oper}{s s1:St}{m:List Bool}{ids:List Nat}(h:(xr P rest s).map (fun s'=>s'.keep m ids)=some s1:=by kernel_rfl):XL P ops rest s (fun s'=>s'.keep m ids=s1):=by
 cases hx:xr P rest s with
 |none=>rw[hx]at h;cases h
 |some s'=>
  rw[hx]at h;have h2:s'.keep m ids=s1:=by injection h
  have:=z3q (ops:=ops) (J:=fun s'=>s'.keep m ids=s1) [] rest s s' hx (qR h2)
  rwa [List.append_nil]at this
theorem XC{ops:Array Oper}{o:Oper}{rest:List Oper}{s:St}{J:St→Prop}{d:Nat}{f:FuncId}{xs:Array Operand}{ts:Array TypeId}{args:List AV}{av:AV}{ne:List (Nat×Ent)}(hS:zH P f args av ne)(hc:∀args w,(callFunc f args).run P w=.ok (.enter f args) w)(hg:o.guard=none)(hd:o.dst=some d)
  (ho:o.op=.call {callee:=.value (.func f),args:=xs,argTypes:=ts}) (hk:XL P ops rest (s.upd d av ne) J) (ha:evL s xs.toList=args:=by kernel_rfl):XL P ops (o::rest) s J:=L1 hg hd (zRz hS hc ho ha) hk
def cdr:Nat→Nat→List Cd
 |0,_=>[]
 |k+1,n=>(match Nat.mod n 4 with|0=>Cd.z|1=>Cd.a|_=>Cd.b)::cdr k (Nat.div n 4)
def cdm(k:Nat):List Nat→List (List Cd)
 |[]=>[]
 |n::ns=>cdr k n::cdm k ns
section
variable (P)
def dr2(l:List Oper)(ms:List Nat)(n1:Nat)(css:List (List Cd))(rs:List Res)(S:St):Op→Option (List Res)
 | .store t x y=>match S.ev x,zDc (S.ev y) with
  | .pt id off,some vc=>match S.ent id with
   |some (.box cs)=>bif (zFt P t==some vc.length)&&Nat.ble (off+vc.length) cs.length&&(zOh rs.length id css&&(mkOk ms rs.length id 0 (l.take n1)&&zI6 id rs)) then some (rs++[.r2 id (.box (splice cs off vc))]) else none
   |_=>none
  |_,_=>none
 |_=>none
def dr1(l:List Oper)(ms:List Nat)(n1:Nat)(css:List (List Cd))(s0:St)(rs:List Res):Option (List Res):=match l[rs.length]?,css[rs.length]? with
 |some o,some c=>bif Nat.blt rs.length n1 then (match o.guard,o.dst with
  |none,some _=>match xv P (appC c (l.take n1) rs s0) o.op with
   |some av=>bif zG2 ms rs.length av 0 (l.take n1) then some (rs++[.r0 av]) else none
   |none=>match xn P (appC c (l.take n1) rs s0) o.op with
    |some r=>bif zGu r.2&&(makes o&&r.1.small) then some (rs++[.r1 r.1 r.2]) else none
    |none=>none
  |none,none=>dr2 P l ms n1 css rs (appC c (l.take n1) rs s0) o.op
  |_,_=>none) else none
 |_,_=>none
def drN(l:List Oper)(ms:List Nat)(n1:Nat)(css:List (List Cd))(s0:St):Nat→List Res→Option (List Res)
 |0,rs=>some rs
 |k+1,rs=>match dr1 P l ms n1 css s0 rs with
  |some rs'=>drN l ms n1 css s0 k rs'
  |none=>none
end
theorem z9N{l:List Oper}{ms:List Nat}{n1:Nat}{css:List (List Cd)}{s0:St}{rs rs':List Res}{K:St→Prop}(h:dr1 P l ms n1 css s0 rs=some rs')(hk:DL P l ms n1 css s0 rs' K):DL P l ms n1 css s0 rs K:=by
 unfold dr1 at h;split at h
 ·rename_i o c ho hc;cases hb:Nat.blt rs.length n1 with
  |false=>rw[hb,zc]at h;cases h
  |true=>
   rw[hb,zb]at h;split at h
   ·rename_i d hg hd;split at h
    ·rename_i av hv;cases hm:zG2 ms rs.length av 0 (l.take n1) with
     |false=>rw[hm,zc]at h;cases h
     |true=>rw[hm,zb]at h;cases h;exact DE_0 rs.length av rfl hb ho hc (zK hg) hm (z3p hv) d hd hk
    ·split at h
     ·rename_i r hr;cases hm:zGu r.2&&(makes o&&r.1.small) with
      |false=>rw[hm,zc]at h;cases h
      |true=>rw[hm,zb]at h;cases h;rw[zj,zj]at hm;exact DE_1 rs.length rfl hb ho hc (zK hg) (z3r hr) hm.1 hm.2.1 hm.2.2 d hd hk
     ·cases h
   ·rename_i hg hd;unfold dr2 at h;split at h
    ·rename_i t x y hop;split at h
     ·rename_i id off vc hx hy;split at h
      ·rename_i cs he;cases hm:(zFt P t==some vc.length)&&Nat.ble (off+vc.length) cs.length&&(zOh rs.length id css&&(mkOk ms rs.length id 0 (l.take n1)&&zI6 id rs)) with
       |false=>rw[hm,zc]at h;cases h
       |true=>rw[hm,zb]at h;cases h;rw[zj,zj,zj,zj,beq_iff_eq]at hm;exact DE_2 rs.length id _ rfl hb ho hc (zK hg) hop hd hx he hy hm.1.1 (Nat.le_of_ble_eq_true hm.1.2) rfl hm.2.1 hm.2.2.1 hm.2.2.2 hk
      ·cases h
     ·cases h
    ·cases h
   ·cases h
 ·cases h
theorem z1S{l:List Oper}{ms:List Nat}{n1:Nat}{css:List (List Cd)}{s0:St}{K:St→Prop}:∀(k:Nat)(rs rs':List Res),drN P l ms n1 css s0 k rs=some rs'→DL P l ms n1 css s0 rs' K→DL P l ms n1 css s0 rs K
 |0,rs,rs',h,hk=>by cases h;exact hk
 |k+1,rs,rs',h,hk=>by
  unfold drN at h;split at h
  ·rename_i r1 h1;exact z9N h1 (z1S k r1 rs' h hk)
  ·cases h
theorem DR(k:Nat){l:List Oper}{ms:List Nat}{n1:Nat}{css:List (List Cd)}{s0:St}{rs:List Res}{K:St→Prop}(hk:DL P l ms n1 css s0 ((drN P l ms n1 css s0 k rs).getD rs) K)(h:(drN P l ms n1 css s0 k rs).isSome=true:=by kernel_rfl):DL P l ms n1 css s0 rs K:=by
 cases hx:drN P l ms n1 css s0 k rs with
 |none=>rw[hx]at h;cases h
 |some r=>rw[hx]at hk;exact z1S k rs r hx hk
theorem DA{l:List Oper}{ms:List Nat}{n1:Nat}{css:List (List Cd)}{s0:St}{rs:List Res}{K:St→Prop}(k:Nat)(hk:K (fin (l.take n1) ((drN P l ms n1 css s0 k rs).getD rs) s0))(h:(drN P l ms n1 css s0 k rs).map List.length=some n1:=by kernel_rfl):DL P l ms n1 css s0 rs K:=by
 cases hx:drN P l ms n1 css s0 k rs with
 |none=>rw[hx]at h;cases h
 |some r=>rw[hx]at hk h;exact z1S k rs r hx (z1h (by injection h) hk)
end
section
variable {P:Program}
theorem z7b{o:Oper}{s:St}{x:Operand}{t t2:TypeId}{ms:Array (String×TypeId)}{b:Bool}(hu:P.underlying t=some (.interface ms))(ho:o.op=.binOp .neq t x (.const .nilIface) t2)(hx:s.ev x=.er b):Y0 P o s (Bo (!b)):=
 qZ fun ok σ a w hC=>by
  have h1:=hC.ev x;rw[hx]at h1;have h2:(b=true∧a.eval x=.nilIface)∨(b=false∧∃t v,a.eval x=.iface t v):=h1;refine⟨.bool (!b),?_,zLz _ _ _⟩;unfold execOp;rw[ho];have e1:∀w,(eqGuard .neq t x (.const .nilIface) (a.eval x) .nilIface).run P w=.ok () w:=fun w=>by rcases h2 with⟨_,h3⟩|⟨_,tx,v,h3⟩<;>rw[h3]<;>simp[eqGuard]
  have e2:∀d:Nat,(Op.equalIn (d+1) t (a.eval x) .nilIface).run P w=.ok b w:=fun d=>by rcases h2 with⟨h4,h3⟩|⟨h4,tx,v,h3⟩<;>rw[h3,h4]<;>simp[Op.equalIn,run_underlying hu]
  have e3:(binOp .neq t (a.eval x) .nilIface).run P w=.ok (.bool (!b)) w:=by have e4:=e2 9999;rcases h2 with⟨h4,h3⟩|⟨h4,tx,v,h3⟩<;>rw[h3]at e4 ⊢<;>simp only[binOp]<;>simp[Op.equal,Op.maxDepth,e4]
  have e5:a.eval (.const .nilIface)=.nilIface:=rfl;simp only[e5,Sem.run_bind,e1,e3,Result.andThen_ok,Sem.run_pure]
theorem z7c{o:Oper}{s:St}{x:Operand}{t t2:TypeId}{ms:Array (String×TypeId)}{b:Bool}(hu:P.underlying t=some (.interface ms))(ho:o.op=.binOp .eql t x (.const .nilIface) t2)(hx:s.ev x=.er b):Y0 P o s (Bo b):=
 qZ fun ok σ a w hC=>by
  have h1:=hC.ev x;rw[hx]at h1;have h2:(b=true∧a.eval x=.nilIface)∨(b=false∧∃t v,a.eval x=.iface t v):=h1;refine⟨.bool b,?_,zLz _ _ _⟩;unfold execOp;rw[ho];have e1:∀w,(eqGuard .eql t x (.const .nilIface) (a.eval x) .nilIface).run P w=.ok () w:=fun w=>by rcases h2 with⟨_,h3⟩|⟨_,tx,v,h3⟩<;>rw[h3]<;>simp[eqGuard]
  have e2:∀d:Nat,(Op.equalIn (d+1) t (a.eval x) .nilIface).run P w=.ok b w:=fun d=>by rcases h2 with⟨h4,h3⟩|⟨h4,tx,v,h3⟩<;>rw[h3,h4]<;>simp[Op.equalIn,run_underlying hu]
  have e3:(binOp .eql t (a.eval x) .nilIface).run P w=.ok (.bool b) w:=by have e4:=e2 9999;rcases h2 with⟨h4,h3⟩|⟨h4,tx,v,h3⟩<;>rw[h3]at e4 ⊢<;>simp only[binOp]<;>simp[Op.equal,Op.maxDepth,e4]
  have e5:a.eval (.const .nilIface)=.nilIface:=rfl;simp only[e5,Sem.run_bind,e1,e3,Result.andThen_ok,Sem.run_pure]
theorem zZp{c:qe→List Tr}(hcc:∀v,c v=[.v (.string v)]):∀(xs:List qe),(xs.map c).flatten=xs.map fun x=>Tr.v (.string x)
 |[]=>rfl
 |x::xs=>by simp[hcc,zZp hcc xs]
theorem z2E{ok:Nat→Prop}{w:World}:∀(xs:List qe),RdL ok w (xs.map fun x=>Tr.v (.string x)) (xs.map Value.string)
 |[]=>.nil
 |x::xs=>.cons (Rd.v _ rfl) (z2E xs)
theorem zXG{f:FuncId}{args:List AV}{T:TypeId}{c:qe→List Tr}(hcc:∀v,c v=[.v (.string v)]){xs:List qe}
  (h:∀ok σ w vs,(∀g,ok g→g<w.heap.size)→Lb ok w→RelA ok σ w args vs→Calls P f vs.toArray w fun e w'=>∃A cap,e=.returned (.slice (some ⟨A,0,none⟩) xs.length cap)∧w.heap.size≤A∧
   w'.ownsRow w.heap.size T 1 (.slice (some ⟨A,0,none⟩) xs.length cap) xs.length (xs.map Value.string)∧Below w.heap.size w w'):zH P f args (.ow 0) [(0,.arr T 1 (xs.map c))]:=by
 intro ok σ w vs hok hlib hargs;refine (h ok σ w vs hok hlib hargs).mono ?_
 rintro e w' ⟨A,cap,rfl,hA,hown,hb⟩;refine⟨_,ok,fun _=>⟨some A,xs.length,cap⟩,rfl,⟨hb,fun _ h=>h,fun _ h=>.inl h,fun g hg=>Nat.lt_of_lt_of_le (hok g hg) hb.size,rfl,?_,?_,?_,?_,?_,?_⟩⟩
 ·intro id e he;obtain⟨rfl,_⟩:=zAE _ _ _ _ he;decide
 ·intro e he;simp only[AV.ment];cases h:(0 / 8==e) with
  |false=>rfl
  |true=>exact absurd (by simpa using h:0=e).symm he
 ·intro id e he;obtain⟨rfl,rfl⟩:=zAE _ _ _ _ he;refine⟨by decide,(List.length_map ..).symm,fun el hel=>?_,xs.map Value.string,?_,?_⟩
  ·obtain⟨x,_,rfl⟩:=List.mem_map.1 hel;rw[hcc];rfl
  ·refine⟨by simp,?_⟩;rcases hown.2 with⟨h1,_⟩|⟨g,cap2,cur,h1,h2,h3,h4,h5,h6,h7⟩
   ·cases h1
   ·refine .inr ⟨g,cap2,cur,?_,Nat.zero_le _,h3,by simpa using h4,h5,h6,by simpa using h7⟩;rw[List.length_map];exact h1
  ·rw[zZp hcc];exact z2E xs
 ·intro id e g he hg;obtain⟨rfl,rfl⟩:=zAE _ _ _ _ he;have hg2:some A=some g:=hg;injection hg2 with hg2;subst hg2;refine⟨hA,fun h=>?_,?_⟩
  ·have:=hok _ h;omega
  ·rcases hown.2 with⟨h1,_⟩|⟨g,cap2,cur,h1,h2,h3,h4,h5,h6,h7⟩
   ·cases h1
   ·injection h1 with h1;injection h1 with h1;injection h1 with h1;subst h1;by_cases hlt:A<w'.heap.size
    ·exact hlt
    ·have:=Array.getElem?_eq_none (xs:=w'.heap) (i:=A) (by omega);rw[this]at h3;cases h3
 ·intro i j e f g hi hj h1 h2;obtain⟨rfl,_⟩:=zAE _ _ _ _ hi;obtain⟨rfl,_⟩:=zAE _ _ _ _ hj;rfl
 ·intro id e he;obtain⟨rfl,rfl⟩:=zAE _ _ _ _ he;rfl
theorem z0V{f:FuncId}{T:TypeId}{c:qe→List Tr}(hcc:∀v,c v=[.v (.string v)])
  (hc:∀ok w (s sep:qe),Lb ok w→s.size<4294967281→1≤sep.size→Calls P f #[.string s,.string sep] w fun e w'=>e=.returned (.slice (some ⟨w.heap.size,0,none⟩) (Go.Lib.countB s sep+1) (Go.Lib.countB s sep+1))∧w'=w.alloc (.cells ((Go.Lib.splitB sep 0 (Go.Lib.countB s sep) s).map Value.string).toArray T))
  {s sep:qe} {r:List qe} (h:zAG s sep=some r):zH P f [.c (.v (.string s)),.c (.v (.string sep))] (.ow 0) [(0,.arr T 1 (r.map c))]:=by
 unfold zAG at h;split at h
 ·rename_i hn;injection h with h;subst h;have hlen:=Go.Lib.splitB_all sep hn.2 0 _ s rfl;refine zXG hcc fun ok σ w vs hok hlib hargs=>?_
  cases hargs with
  |cons h1 h2=>
   cases h2 with
   |cons h3 h4=>
    cases h4;have:=zIG h1;subst this;have:=zIG h3;subst this;refine (hc ok w s sep hlib hn.1 hn.2).mono ?_
    rintro e w' ⟨rfl,rfl⟩;have hle:=Go.Lib.countB_le sep hn.2 s.size s (Nat.le_refl _);refine⟨w.heap.size,Go.Lib.countB s sep+1,by rw[hlen],Nat.le_refl _,⟨by simp,.inr ⟨w.heap.size,Go.Lib.countB s sep+1,((Go.Lib.splitB sep 0 (Go.Lib.countB s sep) s).map Value.string).toArray,rfl,Nat.le_refl _,?_,by omega,?_,?_,?_⟩⟩,(Below.refl _ _).alloc (Nat.le_refl _) _⟩
    ·exact (MapKept.heap_alloc w _).1
    ·unfold maxLen;omega
    ·simp[hlen]
    ·rw[List.take_of_length_le (by simp)]
 ·cases h
theorem z1j{f:FuncId}(hc:∀ok w (s:qe),Lb ok w→s.size≤281474976710656→∀r,zAw s=some r→Calls P f #[.string s] w fun e w'=>(∃v,e=.returned (.tuple #[.int .i64 r.1,v])∧((r.2=true∧v=.nilIface)∨(r.2=false∧∃t u,v=.iface t u)))∧Below w.heap.size w w')
  {s:qe} {r:Int×Bool} (h:zAw s=some r):zH P f [.c (.v (.string s))] (.tc (I r.1) (.tc (.er r.2) .tn)) []:=by
 have hn:s.size≤281474976710656:=by
  unfold zAw at h;split at h
  ·assumption
  ·cases h
 intro ok σ w vs hok hlib hargs;cases hargs with
 |cons h1 h2=>
  cases h2;have:=zIG h1;subst this;refine (hc ok w s hlib hn r h).mono ?_
  rintro e w' ⟨⟨v,rfl,hv⟩,hb⟩;exact⟨_,ok,σ,rfl,⟨hb,fun _ h=>h,fun _ h=>.inl h,fun g hg=>Nat.lt_of_lt_of_le (hok g hg) hb.size,⟨_,rfl,zLO _ _ _ _,hv,trivial⟩,fun id e h=>by simp at h,fun e he=>rfl,fun id e h=>by simp at h,fun id e g h=>by simp at h,fun i j e f g h=>by simp at h,fun id e h=>by simp at h⟩⟩
end
end Go.Proofs.YtnjhhbcccgbbnaaGreatDoor
namespace Go.Proofs.YtnjhhbcccgbbnaaGreatDoor
def spl(c:UInt8):List UInt8→List (List UInt8)
 |[]=>[[]]
 |b::l=>if b=c then []::spl c l else match spl c l with
  |w::ws=>(b::w)::ws
  |[]=>[[b]]
theorem zHa(c:UInt8):∀l,spl c l≠[]
 |[]=>by simp[spl]
 |b::l=>by
  unfold spl;split
  ·simp
  ·split<;>simp
theorem zGX(c:UInt8)(l:List UInt8):spl c (c::l)=[]::spl c l:=by simp[spl]
theorem zDW{b c:UInt8}(h:b≠c){l w:List UInt8}{ws:List (List UInt8)}(e:spl c l=w::ws):spl c (b::l)=(b::w)::ws:=by simp[spl,h,e]
theorem z4v(c:UInt8)(l:List UInt8):Go.Lib.index (c::l) [c]=0:=by simp[Go.Lib.index]
theorem z4u{b c:UInt8}(h:b≠c)(l:List UInt8):Go.Lib.index (b::l) [c]=if Go.Lib.index l [c]==-1 then -1 else Go.Lib.index l [c]+1:=by
 have:([c]:List UInt8).isPrefixOf (b::l)=false:=by simp[List.isPrefixOf,Ne.symm h]
 rw[show Go.Lib.index (b::l) [c]=if ([c]:List UInt8).isPrefixOf (b::l)=true then 0 else if Go.Lib.index l [c]==-1 then -1 else Go.Lib.index l [c]+1 from rfl,this];rfl
theorem zS9(c:UInt8):∀(l:List UInt8),Go.Lib.splitK [c] 0 (l.count c) l=spl c l
 |[]=>rfl
 |b::l=>by
  have ih:=zS9 c l;by_cases h:b=c
  ·subst h;rw[List.count_cons_self,zGX,←ih,Go.Lib.splitK,z4v];rfl
  ·rw[List.count_cons_of_ne (by exact fun e=>h e)];cases hk:l.count c with
   |zero=>rw[hk]at ih;have ih:[l]=spl c l:=ih;rw[zDW h ih.symm];rfl
   |succ k=>
    rw[hk]at ih;rw[Go.Lib.splitK]at ih ⊢;rw[z4u h];cases hi:(Go.Lib.index l [c]==-1) with
    |true=>rw[hi,if_pos rfl]at ih;rw[if_pos (by rfl),zDW h ih.symm]
    |false=>
     rw[hi,if_neg (by decide)]at ih;have hge:=Go.Lib.index_ge l [c];have hne:Go.Lib.index l [c]≠-1:=by rw[zr]at hi;exact hi
     have e1:(if false=true then (-1:Int) else Go.Lib.index l [c]+1)=Go.Lib.index l [c]+1:=rfl;have e2:(Go.Lib.index l [c]+1==-1)=false:=by rw[zr];omega
     have e3:(Go.Lib.index l [c]+1).toNat=(Go.Lib.index l [c]).toNat+1:=by omega
     rw[e1,e2,if_neg (by decide),zDW h ih.symm,e3];rfl
theorem zIv(s:qe)(c:UInt8)(h:s.size<4294967281):zAG s ⟨#[c]⟩=some ((spl c s.data.toList).map bl):=by
 have h1:1≤(⟨#[c]⟩:qe).size:=Nat.le_refl 1;unfold zAG;rw[if_pos ⟨h,h1⟩];have e1:=Go.Lib.splitB_data ⟨#[c]⟩ 0 (Go.Lib.countB s ⟨#[c]⟩) s;have e2:Go.Lib.countB s ⟨#[c]⟩=s.data.toList.count c:=Go.Lib.count_one c _;have e3:(⟨#[c]⟩:qe).data.toList=[c]:=rfl;rw[e2]at e1 ⊢;rw[e3,zS9]at e1;rw[←e1,List.map_map];have:(bl∘fun x:qe=>x.data.toList)=id:=by
  funext x
  rfl
 rw[this,List.map_id]
def fld(p:UInt8→Bool):List UInt8→List UInt8→List (List UInt8)
 |cur,[]=>if cur=[] then [] else [cur]
 |cur,b::l=>if p b=true then (if cur=[] then fld p [] l else cur::fld p [] l) else fld p (cur++[b]) l
theorem z7F{p:UInt8→Bool}{cur:List UInt8}(h:cur≠[]):fld p cur []=[cur]:=by unfold fld;rw[if_neg h]
theorem z22{p:UInt8→Bool}{cur l:List UInt8}{b:UInt8}(hb:p b=true)(h:cur≠[]):fld p cur (b::l)=cur::fld p [] l:=by rw[fld,if_pos hb,if_neg h]
theorem zTn{p:UInt8→Bool}{l:List UInt8}{b:UInt8}(hb:p b=true):fld p [] (b::l)=fld p [] l:=by rw[fld,if_pos hb,if_pos rfl]
theorem z1L{p:UInt8→Bool}{cur l:List UInt8}{b:UInt8}(hb:p b=false):fld p cur (b::l)=fld p (cur++[b]) l:=by rw[fld,if_neg (by rw[hb];decide)]
theorem z34{s:qe}{i:Nat}(hi:i<s.size)(h:(s.data.toList[i]'hi).toNat<128):Utf8.decode s i=((s.data.toList[i]'hi).toNat,1):=by
 have e:(s.get! (i+0)).toNat=(s.data.toList[i]'hi).toNat:=by
  have:s.get! (i+0)=s.data.toList[i]'hi:=by show s.data[i+0]! =_;have hi2:i<s.data.size:=hi;rw[Nat.add_zero,getElem!_pos s.data i hi2];rfl
  rw[this]
 unfold Utf8.decode;simp only[e];rw[if_pos h]
def curO(s:qe)(pos:Nat):Option Nat→List UInt8
 |some a=>(s.data.toList.drop a).take (pos - a)
 |none=>[]
theorem zWZ{α:Type}{l:List α}{a i:Nat}{x:α}(ha:a≤i)(h:l[i]?=some x):(l.drop a).take (i+1 - a)=(l.drop a).take (i - a)++[x]:=by rw[show i+1 - a=(i - a)+1 by omega,List.take_add_one,List.getElem?_drop,show a+(i - a)=i by omega,h];rfl
theorem z64{α:Type}{l:List α}{a i:Nat}(h:a<i)(hi:i≤l.length):(l.drop a).take (i - a)≠[]:=by intro e;have:=congrArg List.length e;simp at this;omega
theorem zI7(s:qe)(a b:Nat):s.extract a b=bl ((s.data.toList.drop a).take (b - a)):=by have h:=Go.Lib.extract_data s a b;have e:∀x:qe,x=bl x.data.toList:=fun x=>rfl;rw[e (s.extract a b),h]
theorem z23(p:Nat→Bool)(s:qe)(st:Option Nat)(acc:List (Nat×Nat))(hst:∀a,st=some a→a<s.size):
  (Go.Lib.closeSpans s (acc,st)).map (fun x=>s.extract x.1 x.2)=acc.map (fun x=>s.extract x.1 x.2)++(fld (fun b=>p b.toNat) (curO s s.size st) []).map bl:=by
 cases st with
 |none=>simp[Go.Lib.closeSpans,fld,curO]
 |some a=>
  have ha:=hst a rfl;have hne:(s.data.toList.drop a).take (s.size - a)≠[]:=by intro h;have:=congrArg List.length h;simp at this;have e:s.data.size=s.size:=rfl;omega
  simp only[Go.Lib.closeSpans,curO,List.map_append,List.map_cons,List.map_nil,zI7];rw[z7F hne];rfl
theorem z3S(p:Nat→Bool)(s:qe)(ha:∀b∈s.data.toList,b.toNat<128):∀(f pos:Nat)(st:Option Nat)(acc:List (Nat×Nat)),s.size≤pos+f→pos≤s.size→(∀a,st=some a→a<pos)→
  (Go.Lib.closeSpans s (Go.Lib.spansFromP p s f pos st acc)).map (fun x=>s.extract x.1 x.2)=acc.map (fun x=>s.extract x.1 x.2)++(fld (fun b=>p b.toNat) (curO s pos st) (s.data.toList.drop pos)).map bl:=by
 intro f;have hsz:s.data.toList.length=s.size:=rfl
 induction f with
 |zero=>
  intro pos st acc hf hp hst;have e:pos=s.size:=by omega
  subst e;rw[List.drop_of_length_le (by omega)];rw[show Go.Lib.spansFromP p s 0 s.size st acc=(acc,st) from rfl];exact z23 p s st acc hst
 |succ f ih=>
  intro pos st acc hf hp hst;by_cases hlt:pos<s.size
  ·have hd:=z34 hlt (ha _ (zt ..));have hdr:s.data.toList.drop pos=s.data.toList[pos]'hlt::s.data.toList.drop (pos+1):=List.drop_eq_getElem_cons hlt;generalize hb:s.data.toList[pos]'hlt=b at hd hdr;have hget:s.data.toList[pos]?=some b:=by rw[←hb];exact zu hlt
   unfold Go.Lib.spansFromP;rw[if_pos hlt,hd,hdr];cases hpb:p b.toNat with
   |true=>
    rw[if_pos rfl];cases st with
    |some a=>have hap:=hst a rfl;have hne:(s.data.toList.drop a).take (pos - a)≠[]:=z64 hap (by omega);rw[ih (pos+1) none _ (by omega) (by omega) (fun a h=>by cases h)];simp only[curO,List.map_append,List.map_cons,List.map_nil,zI7,List.append_assoc,List.singleton_append];rw[z22 (p:=fun b=>p b.toNat) hpb hne];rfl
    |none=>rw[ih (pos+1) none _ (by omega) (by omega) (fun a h=>by cases h)];simp only[curO];rw[zTn (p:=fun b=>p b.toNat) hpb]
   |false=>
    rw[if_neg (by decide)];cases st with
    |some a=>have hap:=hst a rfl;rw[ih (pos+1) (some a) _ (by omega) (by omega) (fun a' h=>by injection h with h;omega)];simp only[curO,zWZ (Nat.le_of_lt hap) hget];rw[z1L (p:=fun b=>p b.toNat) hpb]
    |none=>
     rw[ih (pos+1) (some pos) _ (by omega) (by omega) (fun a' h=>by injection h with h;omega)];have e:(s.data.toList.drop pos).take (pos+1 - pos)=[b]:=by rw[hdr,Nat.add_sub_cancel_left];rfl
     simp only[curO,e];rw[z1L (p:=fun b=>p b.toNat) hpb];rfl
  ·have e:pos=s.size:=by omega
   rw[Go.Lib.spansFromP_end _ _ _ _ _ _ hlt];subst e;rw[List.drop_of_length_le (by omega)];exact z23 p s st acc hst
theorem zTq(p:Nat→Bool)(s:qe)(ha:∀b∈s.data.toList,b.toNat<128):Go.Lib.goFieldsP p s=(fld (fun b=>p b.toNat) [] s.data.toList).map bl:=by have h:=z3S p s ha s.size 0 none [] (by omega) (by omega) (fun a h=>by cases h);exact h
end Go.Proofs.YtnjhhbcccgbbnaaGreatDoor
namespace Go.Proofs.YtnjhhbcccgbbnaaGreatDoor
open Go.Lib
def isD(b:UInt8):Bool:=decide (48≤b.toNat)&&decide (b.toNat≤57)
theorem zL3{d:Nat}(h:d<10):(UInt8.ofNat (48+d)).toNat=48+d:=by rw[UInt8.toNat_ofNat'];omega
theorem zMG{u:Nat}(h:u<10):decDigits u=[UInt8.ofNat (48+u)]:=by rw[decDigits,dif_pos h]
theorem zJN{u:Nat}(h:¬u<10):decDigits u=decDigits (u / 10)++[UInt8.ofNat (48+u % 10)]:=by rw[decDigits,dif_neg h]
theorem zRw(Q:Nat→Prop)(h1:∀u,u<10→Q u)(h2:∀u,¬u<10→Q (u / 10)→Q u):∀u,Q u:=by
 intro u
 induction u using Nat.strongRecOn with
 |ind u ih=>
  by_cases h:u<10
  ·exact h1 u h
  ·exact h2 u h (ih _ (by omega))
theorem zOg:∀u,∀b∈decDigits u,isD b=true:=by
 refine zRw _ (fun u h b hb=>?_) fun u h ih b hb=>?_
 ·rw[zMG h,qd]at hb;subst hb;simp only[isD,zL3 h,zj,decide_eq_true_eq];omega
 ·rw[zJN h,zn,qd]at hb;rcases hb with hb|rfl
  ·exact ih b hb
  ·simp only[isD,zL3 (show u % 10<10 by omega),zj,decide_eq_true_eq];omega
theorem zPu(u:Nat):decDigits u≠[]:=by
 by_cases h:u<10
 ·rw[zMG h];simp
 ·rw[zJN h];simp
theorem zQ6:∀(l:List UInt8)(acc n:Nat)(b:UInt8)(d:Nat),decFrom acc l=some n→digitVal b=some d→decFrom acc (l++[b])=some (n*10+d)
 |[],acc,n,b,d,h,hb=>by simp only[decFrom,zw]at h;subst h;simp[decFrom,hb]
 |c::r,acc,n,b,d,h,hb=>by
  simp only[List.cons_append,decFrom]at h ⊢;cases hc:digitVal c with
  |none=>rw[hc]at h;cases h
  |some e=>rw[hc]at h;exact zQ6 r _ n b d h hb
theorem z55{d:Nat}(h:d<10):digitVal (UInt8.ofNat (48+d))=some d:=by unfold digitVal;rw[zL3 h];rw[if_pos (by omega)];congr 1;omega
theorem zZw:∀u,decFrom 0 (decDigits u)=some u:=by
 refine zRw _ (fun u h=>?_) fun u h ih=>?_
 ·rw[zMG h];show (match digitVal (UInt8.ofNat (48+u)) with|some d=>decFrom (0*10+d) []|none=>none)=_;rw[z55 h];simp[decFrom]
 ·rw[zJN h,zQ6 _ _ _ _ _ ih (z55 (show u % 10<10 by omega))];congr 1;omega
theorem zTz(u:Nat):decNat (decDigits u)=some u:=by
 unfold decNat;have:(decDigits u).isEmpty=false:=by
  cases h:decDigits u with
  |nil=>exact absurd h (zPu u)
  |cons a l=>rfl
 rw[this];exact zZw u
theorem zIL{n:Int}(h:0≤n):Go.Lib.itoa n=decDigits n.toNat:=by unfold Go.Lib.itoa;rw[if_neg (by omega)]
theorem zJw{n:Int}(h:n<0):Go.Lib.itoa n=45::decDigits n.natAbs:=by unfold Go.Lib.itoa;rw[if_pos h]
theorem z56(u:Nat):∃b r,decDigits u=b::r∧isD b=true:=by
 cases h:decDigits u with
 |nil=>exact absurd h (zPu u)
 |cons b r=>exact⟨b,r,rfl,zOg u b (by rw[h];exact zl ..)⟩
theorem z4q{b:UInt8}(h:isD b=true)(c:UInt8)(hc:isD c=false):b≠c:=by intro e;rw[e,hc]at h;cases h
theorem zJX(n:Int):atoi (Go.Lib.itoa n)=some n:=by
 by_cases h:n<0
 ·rw[zJw h];show (if (45:UInt8)==45 then (decNat (decDigits n.natAbs)).map fun (m:Nat)=>-(m:Int) else if (45:UInt8)==43 then (decNat (decDigits n.natAbs)).map fun (m:Nat)=>(m:Int) else (decNat (45::decDigits n.natAbs)).map fun (m:Nat)=>(m:Int))=_;rw[if_pos (by rfl),zTz];simp only[Option.map_some];congr 1;omega
 ·rw[zIL (by omega)];obtain⟨b,r,e,hb⟩:=z56 n.toNat;rw[e];show (if b==45 then (decNat r).map fun (m:Nat)=>-(m:Int) else if b==43 then (decNat r).map fun (m:Nat)=>(m:Int) else (decNat (b::r)).map fun (m:Nat)=>(m:Int))=_;have h1:(b==45)=false:=by rw[zr];exact z4q hb 45 (by decide)
  have h2:(b==43)=false:=by rw[zr];exact z4q hb 43 (by decide)
  rw[h1,h2,if_neg (by decide),if_neg (by decide),←e,zTz];simp only[Option.map_some];congr 1;omega
theorem zTd{n:Int}(h1:-1000000≤n)(h2:n≤1000000):(Go.Lib.itoa n).length≤8:=by
 by_cases h:n<0
 ·rw[zJw h,zf,decDigits_length];have:=zO2 7 n.natAbs (by omega) (by decide);omega
 ·rw[zIL (by omega),decDigits_length];have:=zO2 7 n.toNat (by omega) (by decide);omega
theorem z0L{n:Int}(h1:-1000000≤n)(h2:n≤1000000):zAw (bl (Go.Lib.itoa n))=some (n,true):=by have hl:=zTd h1 h2;unfold zAw;rw[if_pos (by rw[zCB];omega),zDK,atoiAll_short _ (by omega),zJX];rfl
theorem zXA(s:qe)(h:s.size≤281474976710656):∃r,zAw s=some r:=by unfold zAw;rw[if_pos h];cases atoiAll s.data.toList<;>exact⟨_,rfl⟩
def isN(b:UInt8):Bool:=(b.toNat==45)||isD b
theorem zGJ(n:Int):∀b∈Go.Lib.itoa n,isN b=true:=by
 intro b hb;by_cases h:n<0
 ·rw[zJw h]at hb;cases hb with
  |head=>rfl
  |tail _ hb=>simp only[isN,zOg _ b hb,Bool.or_true]
 ·rw[zIL (by omega)]at hb;simp only[isN,zOg _ b hb,Bool.or_true]
theorem z6v(n:Int):Go.Lib.itoa n≠[]:=by
 by_cases h:n<0
 ·rw[zJw h];simp
 ·rw[zIL (by omega)];exact zPu _
theorem zG4{b:UInt8}(h:isN b=true):b.toNat<128:=by simp only[isN,isD,Bool.or_eq_true,zj,decide_eq_true_eq,beq_iff_eq]at h;omega
theorem zZo{p:UInt8→Bool}:∀(w cur l:List UInt8),(∀b∈w,p b=false)→fld p cur (w++l)=fld p (cur++w) l
 |[],cur,l,h=>by rw[zq,List.append_nil]
 |b::w,cur,l,h=>by rw[List.cons_append,z1L (h b (zl ..)),zZo w _ l (fun x hx=>h x (zm _ hx)),List.append_assoc];rfl
theorem zJy{p:UInt8→Bool}(hp:∀b,isN b=true→p b=false){c:UInt8}(hc:p c=true)(n:Int)(l:List UInt8):fld p [] (Go.Lib.itoa n++c::l)=Go.Lib.itoa n::fld p [] l:=by rw[zZo _ _ _ (fun b hb=>hp b (zGJ n b hb)),zq,z22 hc (z6v n)]
theorem z1s{c:UInt8}:∀(w:List UInt8),(∀b∈w,b≠c)→spl c w=[w]
 |[],_=>rfl
 |b::w,h=>zDW (h b (zl ..)) (z1s w fun x hx=>h x (zm _ hx))
theorem zZD{c:UInt8}:∀(w l:List UInt8),(∀b∈w,b≠c)→spl c (w++c::l)=w::spl c l
 |[],l,_=>zGX c l
 |b::w,l,h=>zDW (h b (zl ..)) (zZD w l fun x hx=>h x (zm _ hx))
theorem zYE(n:Int)(c:UInt8)(hc:isN c=false):∀b∈Go.Lib.itoa n,b≠c:=fun b hb e=>by have:=zGJ n b hb;rw[e,hc]at this;cases this
theorem z8O(f:Int×Int×Int):fB f=40::(Go.Lib.itoa f.1++44::(Go.Lib.itoa f.2.1++44::(Go.Lib.itoa f.2.2++[41]))):=by simp[fB]
def pN(x:Nat):Bool:=(x != 45)&&(decide (x<48)||decide (57<x))
theorem z4c(b:UInt8):pN b.toNat=!isN b:=by unfold pN isN isD;rw[Bool.eq_iff_iff];simp only[zj,Bool.or_eq_true,bne_iff_ne,decide_eq_true_eq,Bool.not_eq_true',Bool.or_eq_false_iff,zr,Bool.and_eq_false_iff,decide_eq_false_iff_not];omega
theorem z3T(f:Int×Int×Int):fld (fun b=>pN b.toNat) [] (fB f)=[Go.Lib.itoa f.1,Go.Lib.itoa f.2.1,Go.Lib.itoa f.2.2]:=by
 have hp:∀b,isN b=true→(fun b:UInt8=>pN b.toNat) b=false:=fun b h=>by simp only[z4c,h,zg]
 rw[z8O,zTn (by decide),zJy hp (by decide),zJy hp (by decide),zJy hp (by decide)];rfl
theorem z5P(f:Int×Int×Int):∀b∈fB f,b.toNat<128:=by
 intro b hb;rw[z8O]at hb;simp only[zk,zn,zp,or_false]at hb;rcases hb with rfl|hb|rfl|hb|rfl|hb|rfl
 ·decide
 ·exact zG4 (zGJ _ b hb)
 ·decide
 ·exact zG4 (zGJ _ b hb)
 ·decide
 ·exact zG4 (zGJ _ b hb)
 ·decide
theorem zL0(f:Int×Int×Int):goFieldsP pN (bl (fB f))=[bl (Go.Lib.itoa f.1),bl (Go.Lib.itoa f.2.1),bl (Go.Lib.itoa f.2.2)]:=by rw[zTq pN (bl (fB f)) (by rw[zDK];exact z5P f),zDK,z3T];rfl
theorem zLg(x:qe):x=bl x.data.toList:=rfl
theorem zG9{a b:List UInt8}(h:bl a=bl b):a=b:=by have:=congrArg (fun x:qe=>x.data.toList) h;simpa [bl] using this
theorem eqS(a b:qe):(a.toList==b.toList)=decide (a=b):=by
 rw[ByteArray.toList_eq,ByteArray.toList_eq,Bool.eq_iff_iff,beq_iff_eq,qc];constructor
 ·intro h;rw[zLg a,zLg b,h]
 ·intro h;rw[h]
theorem zER{s:qe}{i:Nat}(h:i<s.size):getB s (i:Int)=some (((s.data.toList[i]'h).toNat:Nat):Int):=by have h2:i<s.data.toList.length:=h;unfold getB;rw[if_pos (by omega)];simp only[zi,zu h2,Option.getD_some]
theorem zMj{n l h:Nat}(h1:l≤h)(h2:h≤n):slc n (l:Int) (h:Int)=some ():=by unfold slc;rw[zS,zS,zS,zd (by omega),zd (by omega),zd (by omega)];rfl
def splP(c:UInt8)(cur l:List UInt8):List (List UInt8):=match spl c l with
 |w::ws=>(cur++w)::ws
 |[]=>[cur]
theorem zZF(c:UInt8)(l:List UInt8):splP c [] l=spl c l:=by
 unfold splP;cases h:spl c l with
 |nil=>exact absurd h (zHa c l)
 |cons w ws=>rfl
theorem z69(c:UInt8)(cur l:List UInt8):splP c cur (c::l)=cur::spl c l:=by unfold splP;rw[zGX];simp
theorem z68{b c:UInt8}(h:b≠c)(cur l:List UInt8):splP c cur (b::l)=splP c (cur++[b]) l:=by
 unfold splP;cases e:spl c l with
 |nil=>exact absurd e (zHa c l)
 |cons w ws=>rw[zDW h e];simp
theorem zOD(c:UInt8):∀l,(spl c l).length≤l.length+1
 |[]=>by simp[spl]
 |b::l=>by
  have ih:=zOD c l;by_cases h:b=c
  ·subst h;rw[zGX];simp;omega
  ·cases e:spl c l with
   |nil=>exact absurd e (zHa c l)
   |cons w ws=>rw[zDW h e];rw[e]at ih;simp at ih ⊢;omega
theorem zYa(b c:UInt8):((b.toNat:Int)==(c.toNat:Int))=decide (b=c):=by
 rw[Bool.eq_iff_iff,beq_iff_eq,qc];constructor
 ·intro h;exact UInt8.toNat_inj.1 (by omega)
 ·intro h;rw[h]
theorem zZh(s:qe)(c:UInt8)(hs:s.size≤100000000):∀(k n f i:Nat)(l:List qe),s.size - i=k→k<n→f≤i→i≤s.size→l.length≤i→
  ∃f' l',zBP ((c.toNat:Nat):Int) s n (f:Int) (i:Int) l=some (((f':Nat):Int),l')∧f'≤s.size∧l'.length≤s.size∧l'++[bl (s.data.toList.drop f')]=l++(splP c ((s.data.toList.drop f).take (i - f)) (s.data.toList.drop i)).map bl:=by
 have hsz:s.data.toList.length=s.size:=rfl;intro k
 induction k with
 |zero=>
  intro n f i l hk hn hfi his hl;obtain⟨n,rfl⟩:∃m,n=m+1:=⟨n - 1,by omega⟩
  refine⟨f,l,?_,by omega,by omega,?_⟩
  ·unfold zBP;rw[zJ,ze (by omega),zc]
  ·have e:i=s.size:=by omega
   subst e;rw[List.drop_of_length_le (show s.data.toList.length≤s.size by omega),splP];simp only[spl,List.append_nil,List.map_cons,List.map_nil];rw[List.take_of_length_le (by simp)]
 |succ k ih=>
  intro n f i l hk hn hfi his hl;obtain⟨n,rfl⟩:∃m,n=m+1:=⟨n - 1,by omega⟩
  have hlt:i<s.size:=by omega
  have hdr:s.data.toList.drop i=s.data.toList[i]'hlt::s.data.toList.drop (i+1):=List.drop_eq_getElem_cons hlt;have hg:=zER hlt;have hget:s.data.toList[i]?=some (s.data.toList[i]'hlt):=zu hlt
  generalize s.data.toList[i]'hlt=b at hdr hg hget;unfold zBP;rw[zJ,zd (by omega),zb,hg,za,zA7,zYa,hdr];by_cases hb:b=c
  ·subst hb;rw[zd rfl,zb,zMj hfi (by omega),za,zA9 (by simp;omega),za,zI,zI,zBa (by omega)];obtain⟨f',l',h1,h2,h3,h4⟩:=ih n (i+1) (i+1) (l++[s.extract f i]) (by omega) (by omega) (Nat.le_refl _) (by omega) (by simp;omega);refine⟨f',l',h1,h2,h3,?_⟩;rw[h4,z69,Nat.sub_self,List.take_zero,zZF,zI7];simp
  ·rw[ze hb,zc,zI,zBa (by omega)];obtain⟨f',l',h1,h2,h3,h4⟩:=ih n f (i+1) l (by omega) (by omega) (by omega) (by omega) (by omega);refine⟨f',l',h1,h2,h3,?_⟩;rw[h4,z68 hb,zWZ hfi hget]
theorem zEv(s:qe)(c:UInt8)(hs:s.size≤100000000):zAJ s ((c.toNat:Nat):Int)=some ((spl c s.data.toList).map bl):=by
 have hF:100000001<FU:=by decide
 obtain⟨f',l',h1,h2,h3,h4⟩:=zZh s c hs s.size FU 0 0 [] rfl (by omega) (Nat.le_refl _) (Nat.zero_le _) (Nat.zero_le _);have h1:zBP ((c.toNat:Nat):Int) s FU 0 0 []=some (((f':Nat):Int),l'):=h1;unfold zAJ;rw[h1];simp only[za];rw[zMj h2 (Nat.le_refl _),za,zA9 (by simp;omega),za];have e:s.extract ((f':Nat):Int).toNat ((s.size:Nat):Int).toNat=bl (s.data.toList.drop f'):=by rw[zi,zi,zI7,List.take_of_length_le (by simp)]
 rw[e,h4];simp[zZF]
end Go.Proofs.YtnjhhbcccgbbnaaGreatDoor
namespace Go.Proofs.YtnjhhbcccgbbnaaGreatDoor
abbrev CrR:=qe×List Int×Int×Int
theorem z5j{k:Nat}{c:Cur3}{f:Int×Int×Int}{l:List (Int×Int×Int×Int)}(hf:inN f.1=true∧inN f.2.1=true∧inN f.2.2=true)(hl:0<l.length)(hm:∀m∈l,zX m=some true)(h:CurB k c)(hk:k≤1000000):
  OkO ((jS f).bind fun y36=>(zA c ((l.length:Int))).bind fun y37=>(getI l y37.1).bind fun e38=>(getI l y37.1).bind fun e39=>(zAT e39).bind fun y40=>(j0 ([(⟨#[97,117,116,111,109,111,114,112,104]⟩:qe),y36,y40])).bind fun y41=>some (y41,y37.2.1,y37.2.2.1,y37.2.2.2)) (fun j:CrR=>j.1.size≤20000∧CurB (k+2) j.2):=by
 obtain⟨i1,i2,i3⟩:=hf;rw[zDo (zGK i1) (zGK i2) (zGK i3),za];refine (z2N hl h (by omega)).bind fun y hy=>?_
 obtain⟨m,e,hmem⟩:=zRt hy.1 hy.2.1;have hx:=hm m hmem;rw[isMat_val']at hx;have hx:=zF hx;rw[zj,zj,zj]at hx;obtain⟨j1,j2,j3,j4⟩:=hx;have e1:(⟨#[97,117,116,111,109,111,114,112,104]⟩:qe)=bl [97,117,116,111,109,111,114,112,104]:=rfl;have hL:∀y∈[97,117,116,111,109,111,114,112,104]::[fB f,mB m],y.length≤1000:=by
  have a1:=zHK (zGK i1) (zGK i2) (zGK i3);have a2:=zYB (zGK j1) (zGK j2) (zGK j3) (zGK j4);intro y hy;simp only[zk,zp,or_false]at hy;rcases hy with rfl|rfl|rfl
  ·decide
  ·omega
  ·omega
 have t1:=zFG [97,117,116,111,109,111,114,112,104] [fB f,mB m] (by simp) hL;simp only[List.map_cons,List.map_nil]at t1;simp only[e,za,zJx (zGK j1) (zGK j2) (zGK j3) (zGK j4),e1,t1];exact OkO.some ⟨txl (by simp) hL,hy.2.2⟩
theorem z0m{k:Nat}{c:Cur3}(h:CurB k c)(hk:k≤1000000):
  OkO ((zU (-23)).bind fun y25=>(zA c 9).bind fun y26=>(zU (w64 (1+y26.1))).bind fun y27=>(zA y26.2 9).bind fun y28=>(zU y28.1).bind fun y29=>(j0 ([(⟨#[114,111,111,116]⟩:qe),y25,y27,y29])).bind fun y30=>some (y30,y28.2.1,y28.2.2.1,y28.2.2.2)) (fun j:CrR=>j.1.size≤20000∧CurB (k+4) j.2):=by
 have s0:sm18 (-23):=zSd (by omega) (by omega);rw[zB0 s0,za];refine (zPg 9 h (by omega)).bind fun y hy=>?_
 obtain⟨a0,_,a1,a2⟩:=hy;have a1:=a1 (by omega);have s1:sm18 (w64 (1+y.1)):=by rw[zB (by omega)];exact zSd (by omega) (by omega)
 rw[zB0 s1,za];refine (zPg 9 a2 (by omega)).bind fun z hz=>?_
 obtain⟨b0,_,b1,b2⟩:=hz;have b1:=b1 (by omega);have s2:sm18 z.1:=zSd (by omega) (by omega);have e1:(⟨#[114,111,111,116]⟩:qe)=bl [114,111,111,116]:=rfl;have hL:∀q∈[114,111,111,116]::[Go.Lib.itoa (-23),Go.Lib.itoa (w64 (1+y.1)),Go.Lib.itoa z.1],q.length≤1000:=by
  have l0:=jD s0;have l1:=jD s1;have l2:=jD s2;intro q hq;simp only[zk,zp,or_false]at hq;rcases hq with rfl|rfl|rfl|rfl
  ·decide
  ·omega
  ·omega
  ·omega
 have t1:=zFG [114,111,111,116] [Go.Lib.itoa (-23),Go.Lib.itoa (w64 (1+y.1)),Go.Lib.itoa z.1] (by simp) hL;simp only[List.map_cons,List.map_nil]at t1;simp only[zB0 s2,za,e1,t1];exact OkO.some ⟨txl (by simp) hL,b2⟩
theorem zMp{k:Nat}{c:Cur3}(h:CurB k c)(hk:k≤100000):OkO (zAg c) (fun y=>y.1.size≤20100∧CurB (k+400) y.2):=by
 unfold zAg;refine OkO.bind (Q:=fun j:CrR=>j.1.size≤20000∧CurB (k+300) j.2) ?_ fun j2 h2=>?_
 ·refine (zPg 9 h (by omega)).bind fun y3 h3=>?_
  obtain⟨_,_,_,h3⟩:=h3;refine OkO.cond (fun _=>?_) fun _=>OkO.cond (fun _=>?_) fun _=>OkO.cond (fun _=>?_) fun _=>OkO.cond (fun _=>?_) fun _=>OkO.cond (fun _=>?_) fun _=>OkO.cond (fun _=>?_) fun _=>OkO.cond (fun _=>?_) fun _=>OkO.cond (fun _=>?_) fun _=>?_
  ·refine (zTx h3 (by omega)).bind fun y5 h5=>?_
   refine (z4j y5.1 h5 (by omega)).bind fun y6 h6=>?_
   exact (zWv (z5V y5.1 y6.1)).bind fun y7 h7=>OkO.some ⟨h7,h6.up (by omega)⟩
  ·refine (zOj h3 (by omega)).bind fun y9 h9=>?_
   exact (zWv (z7O y9.1 y9.2.1)).bind fun y10 h10=>OkO.some ⟨h10,h9.up (by omega)⟩
  ·refine (z3s h3 (by omega)).bind fun y12 h12=>?_
   exact (zWv (z6Z y12.1 y12.2.1)).bind fun y13 h13=>OkO.some ⟨h13,h12.up (by omega)⟩
  ·refine (z1G h3 (by omega)).bind fun y15 h15=>?_
   refine (zPg 400 h15 (by omega)).bind fun y16 h16=>?_
   exact (zWv (z6m y15.1 (w64 (1+y16.1)))).bind fun y17 h17=>OkO.some ⟨h17,h16.2.2.2.up (by omega)⟩
  ·refine (zOj h3 (by omega)).bind fun y19 h19=>?_
   exact (zWv (z7V y19.1 y19.2.1)).bind fun y20 h20=>OkO.some ⟨h20,h19.up (by omega)⟩
  ·refine (z0C h3 (by omega)).bind fun y22 h22=>?_
   exact (zWv (z6l y22.1)).bind fun y23 h23=>OkO.some ⟨h23,h22.up (by omega)⟩
  ·exact (z0m h3 (by omega)).mono fun j hj=>⟨hj.1,hj.2.up (by omega)⟩
  ·refine (zTx h3 (by omega)).bind fun y32 h32=>?_
   obtain⟨b,hb⟩:=zGw y32.1;rw[zOf,hb,za];cases b with
   |false=>exact OkO.some ⟨Nat.zero_le _,h32.up (by omega)⟩
   |true=>obtain⟨l,p1,_,p3,p4,p5,_⟩:=z3d (A:=y32.1.1) (B:=y32.1.2.1) (C:=y32.1.2.2) hb;have p1:zBL y32.1=some l:=p1;rw[zb,p1,za];exact (z5j (in_of_def' hb) p5 p4 h32 (by omega)).mono fun j hj=>⟨hj.1,hj.2.up (by omega)⟩
  ·refine (zTk h3 (by omega)).bind fun y42 h42=>?_
   obtain⟨t,b,q1,_,q2,_⟩:=z6h y42.1;rw[q1,za];exact OkO.some ⟨q2,h42.up (by omega)⟩
 ·refine OkO.bind (Q:=fun s:qe=>s.size≤20000) (OkO.cond (fun _=>OkO.some (by decide)) fun _=>OkO.some h2.1) fun j44 h44=>?_
  refine (z2Q 4 h2.2 (by omega)).bind fun y46 h46=>?_
  refine OkO.cond (fun _=>?_) fun _=>?_
  ·exact (z4H j44 _ (by decide) (by omega) h46 (by omega)).bind fun y48 h48=>OkO.some ⟨by have:=h48.1;simp only;omega,h48.2.up (by omega)⟩
  ·refine (z2Q 6 h46 (by omega)).bind fun y49 h49=>?_
   refine OkO.cond (fun _=>?_) fun _=>OkO.some ⟨by simp only;omega,h49.up (by omega)⟩;refine (ofS_O (by decide) (by decide) h49 (by omega)).bind fun y51 h51=>?_
   exact (z1Y h44 h51.1).bind fun u hu=>OkO.some ⟨Nat.le_trans hu (by omega),h51.2.up (by omega)⟩
theorem zZy{code:List Int}(h1:code.length≤1048576)(h2:∀x∈code,0≤x∧x≤255):OkO (zAP code) (fun s=>s.size≤20100):=by unfold zAP;exact (zMp (CurB.start h1 h2) (by omega)).bind fun y hy=>OkO.some hy.1
theorem zQa:∀(m f:Nat)(t:qe)(a:List Int)(b c:Int)(k:Nat),m<f→m≤6→t.size≤(6 - m)*20101→CurB k (a,b,c)→k≤100000 - 400*m→
  OkO (zA5 f t (m:Int) a b c) (fun y=>y.1.size≤120606∧CurB 100000 y.2)
 |0,f,t,a,b,c,k,hf,hm,ht,hc,hk=>by
  obtain⟨f,rfl⟩:∃m,f=m+1:=⟨f - 1,by omega⟩
  unfold zA5;rw[zJ,ze (by omega),zc];exact OkO.some ⟨by simp only;omega,hc.up (by omega)⟩
 |m+1,f,t,a,b,c,k,hf,hm,ht,hc,hk=>by
  obtain⟨f,rfl⟩:∃m,f=m+1:=⟨f - 1,by omega⟩
  unfold zA5;rw[zJ,zd (by omega),zb];have e1:w64 (((m+1:Nat):Int) - 1)=(m:Int):=by rw[zB (by omega)];omega
  refine (zMp hc (by omega)).bind fun y hy=>?_
  have s1:(⟨#[10]⟩:qe).size≤1:=by decide
  have ht2:t.size≤120606:=Nat.le_trans ht (Nat.mul_le_mul_right 20101 (show 6 - (m+1)≤6 by omega));refine (z1Y hy.1 s1).bind fun u hu=>?_
  refine (z1Y ht2 hu).bind fun v hv=>?_
  rw[zI,e1];refine zQa m f _ _ _ _ (k+400) (by omega) (by omega) ?_ hy.2 (by omega)
  have hu:(y.1++(⟨#[10]⟩:qe)).size≤20100+1:=hu;rw[ByteArray.size_append];omega
theorem zQ9:∀(m f:Nat)(t:qe),m<f→m≤41→t.size≤120606+13*(41 - m)→OkO (zAX f t (m:Int)) (fun s=>s.size≤130000)
 |0,f,t,hf,hm,ht=>by
  obtain⟨f,rfl⟩:∃m,f=m+1:=⟨f - 1,by omega⟩
  unfold zAX;rw[zJ,ze (by omega),zc];exact OkO.some (by omega)
 |m+1,f,t,hf,hm,ht=>by
  obtain⟨f,rfl⟩:∃m,f=m+1:=⟨f - 1,by omega⟩
  unfold zAX;rw[zJ,zd (by omega),zb];have e1:w64 (((m+1:Nat):Int) - 1)=(m:Int):=by rw[zB (by omega)];omega
  have s1:(⟨#[114,111,111,116,32,45,50,51,32,49,32,49,10]⟩:qe).size=13:=by decide
  rw[catI (by rw[s1];omega),za,zI,e1];exact zQ9 m f _ (by omega) (by omega) (by rw[ByteArray.size_append,s1];omega)
theorem z1T{code:List Int}(h1:code.length≤1048576)(h2:∀x∈code,0≤x∧x≤255):OkO (zBt code) (fun s=>s.size≤130000):=by
 have hF:200000000<FU:=by decide
 unfold zBt;refine (zPg 6 (CurB.start h1 h2) (by omega)).bind fun y2 hy=>?_
 obtain⟨a0,_,a1,a2⟩:=hy;have a1:=a1 (by omega);obtain⟨m,hm⟩:=Int.eq_ofNat_of_zero_le a0;rw[hm];refine OkO.bind (zQa m FU ⟨#[]⟩ y2.2.1 y2.2.2.1 y2.2.2.2 2 (by omega) (by omega) (Nat.zero_le _) a2 (by omega)) fun o9 h9=>?_
 refine OkO.bind (Q:=fun j:CrR=>j.1.size≤120606∧CurB 100002 j.2) ?_ fun j15 h15=>?_
 ·refine (z2Q 12 h9.2 (by omega)).bind fun y16 h16=>?_
  refine OkO.bind (Q:=fun b:Bool=>b=true→0<o9.1.size) (OkO.some fun hb=>?_) fun t18 h18=>?_
  ·cases hq:y16.1 with
   |false=>rw[hq]at hb;cases hb
   |true=>
    rw[hq,zb,eqS,Bool.not_eq_true',decide_eq_false_iff_not]at hb;rcases Nat.eq_zero_or_pos o9.1.size with h|h
    ·exact absurd (ByteArray.ext (Array.eq_empty_of_size_eq_zero h)) hb
    ·exact h
  ·refine OkO.cond (fun ht=>?_) fun _=>OkO.some ⟨h9.1,h16⟩;have hp:=h18 ht;have hs:=h9.1;rw[zB (n:=(o9.1.size:Int) - 1) (by omega),slcI (by omega) (by omega) (by omega),za];refine OkO.some ⟨?_,h16⟩;show (o9.1.extract (Int.toNat 0) (Int.toNat ((o9.1.size:Int) - 1))).size≤120606;rw[zYP o9.1 (by omega) (by omega) (by omega)];omega
 ·refine (z2Q 16 h15.2 (by omega)).bind fun y21 h21=>?_
  refine OkO.cond (fun _=>?_) fun _=>OkO.some (Nat.le_trans h15.1 (by omega));refine (z70 (by simp) h21 (by omega)).bind fun y23 h23=>?_
  have hmem:=h23.1;have hr:∃n:Nat,y23.1=(n:Int)∧n≤41:=by
   simp only[zk,zp,or_false]at hmem;rcases hmem with e|e|e
   ·exact⟨39,e,by omega⟩
   ·exact⟨40,e,by omega⟩
   ·exact⟨41,e,by omega⟩
  obtain⟨n,hn,hn2⟩:=hr;rw[hn];exact (zQ9 n FU j15.1 (by omega) hn2 (by have:=h15.1;omega)).bind fun o ho=>OkO.some ho
end Go.Proofs.YtnjhhbcccgbbnaaGreatDoor
namespace Go.Proofs.YtnjhhbcccgbbnaaGreatDoor
open Go.Lib
def dvF(n:Nat)(l:List UInt8):Nat:=l.foldl (fun n b=>10*n+(b.toNat - 48)) n
def dv(l:List UInt8):Nat:=dvF 0 l
theorem zL2(n:Nat)(b:UInt8)(l:List UInt8):dvF n (b::l)=dvF (10*n+(b.toNat - 48)) l:=by unfold dvF;rw[List.foldl_cons]
theorem z5Z(l:List UInt8)(b:UInt8):dv (l++[b])=10*dv l+(b.toNat - 48):=by simp[dv,dvF]
theorem z50:∀(l:List UInt8)(n:Nat),n≤dvF n l
 |[],n=>Nat.le_refl _
 |b::l,n=>by have:=z50 l (10*n+(b.toNat - 48));rw[zL2];omega
theorem zIM{b:UInt8}:isD b=true↔48≤b.toNat∧b.toNat≤57:=by unfold isD;rw[zj,qc,qc]
theorem zWz{b:UInt8}(h:isD b=true):UInt8.ofNat (48+(b.toNat - 48))=b:=by have h:=zIM.1 h;apply UInt8.toNat_inj.1;rw[UInt8.toNat_ofNat'];omega
def canD(l:List UInt8):Bool:=!l.isEmpty&&l.all isD&&(l.length==1||l.head? != some 48)
theorem zWr:∀(k:Nat)(l:List UInt8),l.length=k→l≠[]→(∀b∈l,isD b=true)→(l.head?=some 48→l.length=1)→decDigits (dv l)=l
 |0,l,hk,h,_,_=>absurd (List.length_eq_zero_iff.1 hk) h
 |k+1,l,hk,h,hd,h0=>by
  obtain⟨m,b,rfl⟩:∃m b,l=m++[b]:=⟨l.dropLast,l.getLast h,(List.dropLast_concat_getLast h).symm⟩
  have hb:isD b=true:=hd b (by simp);have hb2:=zIM.1 hb;rw[z5Z];cases m with
  |nil=>rw[show dv []=0 from rfl,zMG (by omega),show 10*0+(b.toNat - 48)=b.toNat - 48 by omega,zWz hb];rfl
  |cons c m=>
   have hc:isD c=true:=hd c (by simp);have hc2:=zIM.1 hc;have hc3:c≠48:=by intro e;have:=h0 (by simp[e]);simp at this
   have hc4:c.toNat≠48:=fun e=>hc3 (UInt8.toNat_inj.1 (by rw[e];rfl));have hpos:1≤dv (c::m):=by have:=z50 m (10*0+(c.toNat - 48));show 1≤dvF 0 (c::m);rw[zL2];omega
   rw[zJN (by omega),show (10*dv (c::m)+(b.toNat - 48)) / 10=dv (c::m) by omega,show (10*dv (c::m)+(b.toNat - 48)) % 10=b.toNat - 48 by omega,zWz hb];rw[zWr k (c::m) (by simp at hk;simp;omega) (by simp) (fun x hx=>hd x (List.mem_append_left _ hx)) (fun e=>by injection e with e;exact absurd e hc3)]
theorem zYX(u:Nat):dv (decDigits u)=u:=by
 revert u;refine zRw _ (fun u h=>?_) fun u h ih=>?_
 ·rw[zMG h];unfold dv;rw[zL2,zL3 h];unfold dvF;rw[List.foldl_nil];omega
 ·rw[zJN h,z5Z,ih,zL3 (by omega)];omega
theorem z0J(u:Nat):canD (decDigits u)=true:=by
 have h1:=zPu u;have h2:=zOg u;have h3:∀u,(decDigits u).head?=some 48→(decDigits u).length=1:=by
  refine zRw _ (fun u h=>?_) fun u h ih=>?_
  ·rw[zMG h];intro _;rfl
  ·rw[zJN h];intro e
   exfalso
   have h4:=zPu (u / 10);cases hm:decDigits (u / 10) with
   |nil=>exact h4 hm
   |cons c m=>
    rw[hm]at e;have h5:=ih (by rw[hm];exact e);rw[hm]at h5;have h6:m=[]:=by
     cases m with
     |nil=>rfl
     |cons _ _=>simp at h5
    subst h6;have h7:=zYX (u / 10);rw[hm]at h7;injection e with e;subst e;unfold dv at h7;rw[zL2]at h7;have h8:dvF (10*0+((48:UInt8).toNat - 48)) []=0:=rfl;omega
 unfold canD;have h3:=h3 u;cases hl:decDigits u with
 |nil=>exact absurd hl h1
 |cons c m=>
  rw[hl]at h2 h3;have ha:(c::m).all isD=true:=by rw[List.all_eq_true];exact h2
  rw[ha];by_cases hc:c=48
  ·have:=h3 (by rw[hc];rfl);rw[this];rfl
  ·have:((c::m).head? != some 48)=true:=by
    rw[bne_iff_ne];intro e;injection e with e;exact hc e
   rw[this,Bool.or_true];rfl
theorem zWx{l:List UInt8}(h:canD l=true):decDigits (dv l)=l:=by
 unfold canD at h;simp only[zj,Bool.not_eq_true',Bool.or_eq_true,beq_iff_eq,bne_iff_ne,List.all_eq_true]at h;refine zWr l.length l rfl (fun e=>by rw[e]at h;cases h.1.1) h.1.2 fun e=>?_
 rcases h.2 with h2|h2
 ·exact h2
 ·exact absurd e h2
theorem i8w{x:Int}(h0:0≤x)(h1:x<256):IntKind.i64.wrap (IntKind.u8.wrap x)=x:=by
 rw[IntKind.wrap_u8];have e:x % 256=x:=by omega
 rw[e];exact zLx (by omega)
theorem dstep{v:Nat}{b:UInt8}(hv:v<1000000000000000)(hb:isD b=true):w64 ((w64 (10*(v:Int)))+(IntKind.i64.wrap (IntKind.u8.wrap ((b.toNat:Int) - 48))))=((10*v+(b.toNat - 48):Nat):Int):=by have hb:=zIM.1 hb;have e1:w64 (10*(v:Int))=10*(v:Int):=zB (by omega);rw[i8w (by omega) (by omega),e1,zB (by omega)];omega
theorem z0x(s:qe)(hs:s.size≤10):∀(k n i v:Nat),s.size - i=k→k<n→i≤s.size→v<10 ^i→
  zBp s n (v:Int) (i:Int)=some (if (s.data.toList.drop i).all isD then .inl ((dvF v (s.data.toList.drop i):Nat):Int) else .inr (-1)):=by
 have hsz:s.data.toList.length=s.size:=rfl;intro k
 induction k with
 |zero=>
  intro n i v hk hn hi hv;obtain⟨n,rfl⟩:∃m,n=m+1:=⟨n - 1,by omega⟩
  unfold zBp;rw[zJ,ze (by omega),zc,List.drop_of_length_le (by omega)];rfl
 |succ k ih=>
  intro n i v hk hn hi hv;obtain⟨n,rfl⟩:∃m,n=m+1:=⟨n - 1,by omega⟩
  have hlt:i<s.size:=by omega
  have hdr:s.data.toList.drop i=s.data.toList[i]'hlt::s.data.toList.drop (i+1):=List.drop_eq_getElem_cons hlt;have hg:=zER hlt;generalize s.data.toList[i]'hlt=b at hdr hg;have hp:(10:Nat) ^i≤10 ^10:=Nat.pow_le_pow_right (by omega) (by omega);have hp2:(10:Nat) ^10=10000000000:=by decide
  unfold zBp;rw[zJ,zd (by omega),zb];simp only[hg,za,zJ,zI];rw[hdr,List.all_cons];by_cases h1:b.toNat<48
  ·have e:isD b=false:=by
    rw[Bool.eq_false_iff];intro e;have:=zIM.1 e;omega
   rw[zd (show (b.toNat:Int)<48 by omega),e];rfl
  ·rw[ze (show ¬(b.toNat:Int)<48 by omega)];by_cases h2:57<b.toNat
   ·have e:isD b=false:=by
     rw[Bool.eq_false_iff];intro e;have:=zIM.1 e;omega
    rw[zd (show (57:Int)<(b.toNat:Int) by omega),e];rfl
   ·have e:isD b=true:=zIM.2 (by omega);rw[ze (show ¬(57:Int)<(b.toNat:Int) by omega),e,Bool.true_and,zL2,dstep (by omega) e,zBa (by omega)];have hb:=zIM.1 e;exact ih n (i+1) _ (by omega) (by omega) (by omega) (by rw[Nat.pow_succ];omega)
theorem zT3(s:qe):zGe s=some (if canD s.data.toList=true∧s.size≤10 then ((dv s.data.toList:Nat):Int) else -1):=by
 have hF:1000000<FU:=by decide
 have hsz:s.data.toList.length=s.size:=rfl;unfold zGe qP;rw[zS,zS];by_cases h0:s.size=0
 ·have hl:s.data.toList=[]:=List.length_eq_zero_iff.1 (by omega);rw[ze (by omega),if_neg (fun h=>by rw[hl]at h;exact absurd h.1 (by decide))];rfl
 ·rw[zd (by omega)];by_cases h10:s.size≤10
  ·rw[zd (show ((s.size:Nat):Int)≤10 by omega)];have hlt:0<s.size:=by omega
   have hg:=zER hlt;have hg:getB s 0=_:=hg;obtain⟨b,r,hl⟩:∃b r,s.data.toList=b::r:=by
    cases h:s.data.toList with
    |nil=>rw[h]at hsz;simp at hsz;omega
    |cons b r=>exact⟨b,r,rfl⟩
   have hg:getB s 0=some ((b.toNat:Nat):Int):=by rw[hg];congr 3;simp only[hl];rfl
   have hr:r.length+1=s.size:=by rw[←hsz,hl];simp
   simp only[Bool.cond_true_left,zb,za,zg,zc,hg,zA7,zJ];by_cases hz:b=48∧1<s.size
   ·have e1:(((b.toNat:Nat):Int)==48)=true:=by rw[hz.1];rfl
    rw[e1,zb,zd (by omega),zb,if_neg];intro h;have h:=h.1;rw[hl]at h;unfold canD at h;simp only[zj,Bool.or_eq_true,beq_iff_eq,bne_iff_ne,zf,List.head?_cons]at h;rcases h.2 with h2|h2
    ·omega
    ·exact h2 (by rw[hz.1])
   ·have e1:(bif (((b.toNat:Nat):Int)==48) then decide ((1:Int)<((s.size:Nat):Int)) else false)=false:=by
     cases hb:(((b.toNat:Nat):Int)==48) with
     |false=>rfl
     |true=>rw[beq_iff_eq]at hb;have:b=48:=UInt8.toNat_inj.1 (by show b.toNat=48;omega);rw[zb,ze];intro h;exact hz ⟨this,by omega⟩
    rw[e1,zc];have h:=z0x s h10 s.size FU 0 0 rfl (by omega) (by omega) (by decide);have h:zBp s FU 0 0=_:=h;rw[h,List.drop_zero];by_cases hd:s.data.toList.all isD=true
    ·have hc:canD s.data.toList=true:=by
      rw[hl]at hd ⊢;unfold canD;rw[hd];simp only[List.isEmpty_cons,zh,Bool.true_and,Bool.or_eq_true,beq_iff_eq,bne_iff_ne,zf,List.head?_cons];by_cases hb:b=48
      ·exact .inl (by have:¬1<s.size:=fun h=>hz ⟨hb,h⟩;omega)
      ·exact .inr (fun e=>by injection e with e;exact hb e)
     rw[if_pos hd,if_pos ⟨hc,h10⟩];rfl
    ·rw[if_neg hd,if_neg]
     ·rfl
     ·intro h;have h:=h.1;unfold canD at h;simp only[zj]at h;exact hd h.1.2
  ·rw[ze (show ¬((s.size:Nat):Int)≤10 by omega),if_neg (fun h=>h10 h.2)];rfl
def NB(n:Int):Prop:=-1000000≤n∧n≤1000000
theorem zZv{u:Nat}(h:u≤1000000):(decDigits u).length≤8:=by have:=zTd (n:=(u:Int)) (by omega) (by omega);rw[zIL (by omega)]at this;exact this
theorem zNY(s:qe):(∃n,NB n∧s=bl (itoa n)∧zBr s=some (n,true))∨((∀n,NB n→s≠bl (itoa n))∧zBr s=some (0,false)):=by
 have hsz:s.data.toList.length=s.size:=rfl;have fin:∀(m:Bool)(t:qe),(if canD t.data.toList=true∧t.size≤10 then ((dv t.data.toList:Nat):Int) else -1)=-1∨(canD t.data.toList=true∧t.size≤10∧(if canD t.data.toList=true∧t.size≤10 then ((dv t.data.toList:Nat):Int) else -1)=((dv t.data.toList:Nat):Int)):=by
  intro m t;by_cases h:canD t.data.toList=true∧t.size≤10
  ·rw[if_pos h];exact .inr ⟨h.1,h.2,rfl⟩
  ·rw[if_neg h];exact .inl rfl
 by_cases hm:∃r,s.data.toList=45::r∧r≠[]
 ·obtain⟨r,hl,hr⟩:=hm;have hlen:1<s.size:=by
   rw[←hsz,hl];have:=List.length_pos_iff.2 hr;simp;omega
  have hg:getB s 0=some 45:=by have hg:=zER (show 0<s.size by omega);have hg:getB s 0=_:=hg;rw[hg];simp only[hl];rfl
  have hj:s.extract 1 s.size=bl r:=by
   rw[zI7,hl,List.drop_succ_cons,List.drop_zero,List.take_of_length_le];have:r.length+1=s.size:=by rw[←hsz,hl];simp
   omega
  unfold zBr;rw[zJ,zd (by omega),zb,hg];have hsl:slc s.size 1 (s.size:Int)=some ():=zMj (l:=1) (by omega) (Nat.le_refl _);simp only[za,zA7,show ((45:Int)==45)=true from rfl,zb,hsl,show Int.toNat 1=1 from rfl,zi,hj,zT3];by_cases hc:canD r=true∧r.length≤10∧dv r≠0∧dv r≤1000000
  ·left;refine⟨-((dv r:Nat):Int),⟨by omega,by omega⟩,?_,?_⟩
   ·rw[zJw (by omega),Int.natAbs_neg,Int.natAbs_natCast,zWx hc.1,zLg s,hl]
   ·rw[if_pos ⟨by rw[zDK];exact hc.1,by rw[zCB];exact hc.2.1⟩,zDK,zJ,zJ,ze (by omega),zc,ze (by omega)];have e:(((dv r:Nat):Int)==0)=false:=by rw[zr];omega
    rw[e,zI];simp only[zc];rw[zB (by omega)];congr 2;omega
  ·right;constructor
   ·intro n hn e;apply hc;have e2:45::r=itoa n:=by
     rw[←hl];exact zG9 (by rw[←zLg s];exact e)
    have hneg:n<0:=by
     by_cases h:n<0
     ·exact h
     ·exfalso
      rw[zIL (by omega)]at e2;have:=zOg n.toNat 45 (by rw[←e2];exact zl ..);exact absurd this (by decide)
    rw[zJw hneg]at e2;injection e2 with _ e2;subst e2;have hb:=hn.1;refine⟨z0J _,?_,?_,?_⟩
    ·have:=zZv (u:=n.natAbs) (by omega);omega
    ·rw[zYX];omega
    ·rw[zYX];omega
   ·rcases fin true (bl r) with h|⟨h1,h2,h⟩
    ·rw[h];rfl
    ·rw[h];rw[zDK]at h1;rw[zCB]at h2;rw[zDK,zJ,zJ,ze (by omega),zc];by_cases h3:dv r=0
     ·rw[h3];rfl
     ·have e:(((dv r:Nat):Int)==0)=false:=by rw[zr];omega
      rw[e,zc,zd]
      ·rfl
      ·have:¬dv r≤1000000:=fun h4=>hc ⟨h1,h2,h3,h4⟩;omega
 ·have hb4:(bif ltI 1 (s.size:Int) then (getB s 0).bind fun e3=>some (eqI e3 45) else some false)=some false:=by
   rw[zJ];by_cases h1:1<s.size
   ·rw[zd (by omega),zb];obtain⟨b,r,hl⟩:∃b r,s.data.toList=b::r:=by
     cases h:s.data.toList with
     |nil=>rw[h]at hsz;simp at hsz;omega
     |cons b r=>exact⟨b,r,rfl⟩
    have hg:getB s 0=some ((b.toNat:Nat):Int):=by have hg:=zER (show 0<s.size by omega);have hg:getB s 0=_:=hg;rw[hg];simp only[hl];rfl
    rw[hg,za,zA7,beq_eq_false_iff_ne.2];intro e;have hb:b=45:=UInt8.toNat_inj.1 (by show b.toNat=45;omega);refine hm ⟨r,by rw[hl,hb],?_⟩;intro hr;rw[hl,hr]at hsz;simp at hsz;omega
   ·rw[ze (by omega),zc]
  unfold zBr;rw[hb4];simp only[za,zc,zT3];by_cases hc:canD s.data.toList=true∧s.size≤10∧dv s.data.toList≤1000000
  ·left;refine⟨((dv s.data.toList:Nat):Int),⟨by omega,by omega⟩,?_,?_⟩
   ·rw[zIL (by omega),zi,zWx hc.1];rfl
   ·rw[if_pos ⟨hc.1,hc.2.1⟩,zJ,zJ,ze (by omega),ze (by omega)];rfl
  ·right;constructor
   ·intro n hn e;have e2:s.data.toList=itoa n:=zG9 (by rw[←zLg s];exact e);have hb:=hn.1;have hb2:=hn.2;by_cases hneg:n<0
    ·rw[zJw hneg]at e2;exact hm ⟨_,e2,zPu _⟩
    ·rw[zIL (by omega)]at e2;apply hc;rw[←hsz,e2];refine⟨z0J _,?_,?_⟩
     ·have:=zZv (u:=n.toNat) (by omega);omega
     ·rw[zYX];omega
   ·rcases fin false s with h|⟨h1,h2,h⟩
    ·rw[h];rfl
    ·rw[h,zJ,zJ,ze (by omega),zc,zd]
     ·rfl
     ·have:¬dv s.data.toList≤1000000:=fun h4=>hc ⟨h1,h2,h4⟩;omega
def jn(c:UInt8):List (List UInt8)→List UInt8
 |[]=>[]
 |[w]=>w
 |w::v::ws=>w++c::jn c (v::ws)
theorem zYD(c:UInt8)(w:List UInt8){ws:List (List UInt8)}(h:ws≠[]):jn c (w::ws)=w++c::jn c ws:=by
 cases ws with
 |nil=>exact absurd rfl h
 |cons v ws=>rfl
theorem z1E(c:UInt8):∀l,jn c (spl c l)=l
 |[]=>rfl
 |b::l=>by
  have ih:=z1E c l;by_cases h:b=c
  ·subst h;rw[zGX,zYD _ _ (zHa b l),ih];rfl
  ·cases e:spl c l with
   |nil=>exact absurd e (zHa c l)
   |cons w ws=>
    rw[zDW h e];rw[e]at ih;cases ws with
    |nil=>show b::w=b::l;have ih:w=l:=ih;rw[ih]
    |cons v ws=>rw[zYD _ _ (by simp)]at ih ⊢;rw[List.cons_append,ih]
theorem z0f(c:UInt8):∀ws:List (List UInt8),ws≠[]→(∀w∈ws,∀b∈w,b≠c)→spl c (jn c ws)=ws
 |[],h,_=>absurd rfl h
 |[w],_,h=>z1s w (h w (List.mem_singleton.2 rfl))
 |w::v::ws,_,h=>by rw[zYD _ _ (by simp),zZD w _ (h w (zl ..)),z0f c (v::ws) (by simp) fun x hx=>h x (zm _ hx)]
theorem z1J(ws:List (List UInt8))(hw:ws.length≤100000001):∀(m n k:Nat)(acc:List Int),ws.length - k=m→m<n→k≤ws.length→acc.length≤k→
  (∃ns:List Int,(∀x∈ns,NB x)∧ws.drop k=ns.map itoa∧zBF (ws.map bl) n (k:Int) acc=some (.inl (acc++ns)))∨
  ((∀ns:List Int,(∀x∈ns,NB x)→ws.drop k≠ns.map itoa)∧zBF (ws.map bl) n (k:Int) acc=some (.inr [])):=by
 intro m
 induction m with
 |zero=>
  intro n k acc hk hn hkl ha;obtain⟨n,rfl⟩:∃m,n=m+1:=⟨n - 1,by omega⟩
  left;refine⟨[],(fun x h=>by cases h),by rw[List.drop_of_length_le (by omega)];rfl,?_⟩;unfold zBF;rw[zJ,List.length_map,ze (by omega),zc,List.append_nil]
 |succ m ih=>
  intro n k acc hk hn hkl ha;obtain⟨n,rfl⟩:∃m,n=m+1:=⟨n - 1,by omega⟩
  have hlt:k<ws.length:=by omega
  have hdr:ws.drop k=ws[k]'hlt::ws.drop (k+1):=List.drop_eq_getElem_cons hlt;have hg:getI (ws.map bl) (k:Int)=some (bl (ws[k]'hlt)):=by rw[zCh (by rw[List.length_map];exact hlt),List.getElem_map]
  generalize ws[k]'hlt=w at hdr hg;unfold zBF;rw[zJ,List.length_map,zd (by omega),zb];simp only[hg,za,hdr];rcases zNY (bl w) with⟨x,hx,hw1,hw2⟩|⟨hw1,hw2⟩
  ·have hw1:=zG9 hw1;subst hw1;simp only[hw2,za,zg,zc,zI];rw[zA9 (by simp;omega),za,zBa (by omega)];rcases ih n (k+1) (acc++[x]) (by omega) (by omega) (by omega) (by simp;omega) with⟨ns,h1,h2,h3⟩|⟨h1,h3⟩
   ·left;refine⟨x::ns,fun y hy=>?_,by rw[h2];rfl,?_⟩
    ·rcases List.mem_cons.1 hy with rfl|hy
     ·exact hx
     ·exact h1 y hy
    ·rw[h3,List.append_assoc];rfl
   ·right;refine⟨fun ns hns e=>?_,h3⟩;cases ns with
    |nil=>cases e
    |cons y ns=>injection e with _ e;exact h1 ns (fun z hz=>hns z (zm _ hz)) e
  ·right;simp only[hw2,za,zh,zb];refine⟨fun ns hns e=>?_,trivial⟩;cases ns with
   |nil=>cases e
   |cons y ns=>injection e with e _;exact hw1 y (hns y (zl ..)) (by rw[e])
theorem zIN{c:UInt8}(hc:isN c=false)(s:qe)(hs:s.size≤100000000){cnt:Nat}(h1:1≤cnt):
  (∃ns:List Int,(∀x∈ns,NB x)∧ns.length=cnt∧s=bl (jn c (ns.map itoa))∧zAB s ((c.toNat:Nat):Int) (cnt:Int)=some ns)∨
  ((∀ns:List Int,(∀x∈ns,NB x)→ns.length=cnt→s≠bl (jn c (ns.map itoa)))∧zAB s ((c.toNat:Nat):Int) (cnt:Int)=some []):=by
 have hF:200000000<FU:=by decide
 have back:∀ns:List Int,ns.length=cnt→s=bl (jn c (ns.map itoa))→spl c s.data.toList=ns.map itoa:=by
  intro ns hl e;rw[e,zDK];refine z0f c _ (fun h=>?_) fun w hw=>?_
  ·have:=congrArg List.length h;simp at this;rw[this]at hl;simp at hl;omega
  ·obtain⟨n,_,rfl⟩:=List.mem_map.1 hw;exact zYE n c hc
 have hlen:=zOD c s.data.toList;have hsz:s.data.toList.length=s.size:=rfl;unfold zAB;rw[zEv s c hs,za,List.length_map];by_cases hcnt:(spl c s.data.toList).length=cnt
 ·rw[hcnt,zGM,zg,zc];have hr:=z1J (spl c s.data.toList) (by omega) _ FU 0 [] rfl (by omega) (by omega) (by simp);simp only[List.drop_zero,zq]at hr;rcases hr with⟨ns,a1,a2,a3⟩|⟨a1,a3⟩
  ·have a3:zBF ((spl c s.data.toList).map bl) FU 0 []=_:=a3;refine .inl ⟨ns,a1,by rw[←hcnt,a2,List.length_map],?_,?_⟩
   ·rw[←a2,z1E];rfl
   ·rw[a3];rfl
  ·have a3:zBF ((spl c s.data.toList).map bl) FU 0 []=_:=a3;refine .inr ⟨fun ns b1 b2 b3=>a1 ns b1 (back ns b2 b3),?_⟩;rw[a3];rfl
 ·refine .inr ⟨fun ns b1 b2 b3=>hcnt ?_,?_⟩
  ·rw[back ns b2 b3,List.length_map,b2]
  ·rw[eqNe (by omega),zh,zb]
theorem zMm(s:qe)(hs:s.size≤100000000)(a z:UInt8):(∃m,s=bl (a::(m++[z]))∧zAc s ((a.toNat:Nat):Int) ((z.toNat:Nat):Int)=some (bl m,true))∨
  ((∀m,s≠bl (a::(m++[z])))∧zAc s ((a.toNat:Nat):Int) ((z.toNat:Nat):Int)=some (bl [],false)):=by
 have hsz:s.data.toList.length=s.size:=rfl;unfold zAc;rw[zJ];by_cases h2:s.size<2
 ·refine .inr ⟨fun m e=>?_,?_⟩
  ·rw[e,zCB]at h2;simp at h2;omega
  ·rw[zd (by omega)];rfl
 ·have hg0:=zER (show 0<s.size by omega);have hg0:getB s 0=_:=hg0;have hg1:=zER (show s.size - 1<s.size by omega);have e1:w64 (((s.size:Nat):Int) - 1)=((s.size - 1:Nat):Int):=by rw[zB (by omega)];omega
  have hl0:s.data.toList=s.data.toList[0]::s.data.toList.drop 1:=by have:=List.drop_eq_getElem_cons (l:=s.data.toList) (i:=0) (by omega);simpa using this
  have hl1:s.data.toList.drop 1=(s.data.toList.drop 1).take (s.size - 1 - 1)++[s.data.toList[s.size - 1]'(by omega)]:=by
   have h3:(s.data.toList.drop 1).drop (s.size - 1 - 1)=[s.data.toList[s.size - 1]'(by omega)]:=by rw[List.drop_drop,show 1+(s.size - 1 - 1)=s.size - 1 by omega,List.drop_eq_getElem_cons (by omega),List.drop_of_length_le (by omega)]
   rw[←h3,List.take_append_drop]
  generalize s.data.toList[0]'(by omega)=b0 at hg0 hl0;generalize s.data.toList[s.size - 1]'(by omega)=b1 at hg1 hl1;rw[ze (by omega),zc,hg0,e1,hg1];simp only[za,zA7,zYa];by_cases hb0:b0=a
  ·subst hb0;simp only[decide_true,zg,zc,za];by_cases hb1:b1=z
   ·subst hb1;simp only[decide_true,zg,zc];refine .inl ⟨(s.data.toList.drop 1).take (s.size - 1 - 1),?_,?_⟩
    ·rw[←hl1,←hl0];rfl
    ·have hsl:slc s.size 1 ((s.size - 1:Nat):Int)=some ():=zMj (l:=1) (by omega) (by omega);rw[hsl];simp only[za,show Int.toNat 1=1 from rfl,zi,zI7]
   ·refine .inr ⟨fun m e=>hb1 ?_,?_⟩
    ·have h4:s.data.toList=b0::(m++[z]):=by rw[e,zDK]
     have h5:b0::((s.data.toList.drop 1).take (s.size - 1 - 1)++[b1])=b0::(m++[z]):=by rw[←hl1,←hl0];exact h4
     injection h5 with _ h5;have:=congrArg List.getLast? h5;simpa using this
    ·simp only[ze hb1,zh,zb];rfl
  ·refine .inr ⟨fun m e=>hb0 ?_,?_⟩
   ·have h4:s.data.toList=a::(m++[z]):=by rw[e,zDK]
    rw[hl0]at h4;injection h4
   ·simp only[ze hb0,zh,zb,za];rfl
def FB(f:Int×Int×Int):Prop:=NB f.1∧NB f.2.1∧NB f.2.2
theorem z5O(f:Int×Int×Int):fB f=40::(jn 44 ([f.1,f.2.1,f.2.2].map itoa)++[41]):=by simp[fB,jn]
theorem z9K{f g:Int×Int×Int}(h:fB f=fB g):f=g:=by
 have h1:=zL0 f;rw[h,zL0 g]at h1;obtain⟨a,b,c⟩:=f;obtain⟨a',b',c'⟩:=g;simp only[List.cons.injEq,and_true]at h1;have inj:∀{x y:Int},bl (itoa x)=bl (itoa y)→x=y:=fun {x y} e=>by have e:=zG9 e;have h2:=zJX x;rw[e,zJX y]at h2;exact (Option.some.inj h2).symm
 rw[inj h1.1,inj h1.2.1,inj h1.2.2]
theorem zQ3(s:qe)(hs:s.size≤100000000):(∃f,FB f∧s=bl (fB f)∧zDO s=some (f,true))∨((∀f,FB f→s≠bl (fB f))∧zDO s=some ((0,0,0),false)):=by
 unfold zDO;rcases zMm s hs 40 41 with⟨m,h1,h2⟩|⟨h1,h2⟩
 ·have h2:zAc s 40 41=_:=h2;rw[h2,za];have hm:(bl m).size≤100000000:=by
   rw[h1,zCB]at hs;rw[zCB];simp at hs;omega
  rcases zIN (c:=44) (by decide) (bl m) hm (cnt:=3) (by omega) with⟨ns,a1,a2,a3,a4⟩|⟨a1,a4⟩
  ·have a4:zAB (bl m) 44 3=_:=a4
   match ns,a2 with
   |[a,b,c],_=>
    refine .inl ⟨(a,b,c),⟨a1 a (by simp),a1 b (by simp),a1 c (by simp)⟩,?_,?_⟩
    ·rw[h1,z5O,zG9 a3]
    ·rw[a4];rfl
  ·have a4:zAB (bl m) 44 3=_:=a4;refine .inr ⟨fun f hf e=>?_,?_⟩
   ·rw[h1,z5O]at e;have e:=zG9 e;injection e with _ e;have e:=List.append_cancel_right e;refine a1 [f.1,f.2.1,f.2.2] (fun x hx=>?_) rfl (by rw[e]);simp only[zk,zp,or_false]at hx;rcases hx with rfl|rfl|rfl
    ·exact hf.1
    ·exact hf.2.1
    ·exact hf.2.2
   ·rw[a4];rfl
 ·have h2:zAc s 40 41=_:=h2;rw[h2,za];have h3:∃l,zAB (bl []) 44 3=some l:=by
   rcases zIN (c:=44) (by decide) (bl []) (by decide) (cnt:=3) (by omega) with⟨ns,_,_,_,a4⟩|⟨_,a4⟩
   ·exact⟨_,a4⟩
   ·exact⟨_,a4⟩
  obtain⟨l,h3⟩:=h3;refine .inr ⟨fun f hf e=>h1 _ (by rw[e,z5O]),?_⟩;rw[h3];rfl
theorem z4b:pOf zCF=pN:=by
 funext x
 unfold pOf pN zCF;simp only[za,Option.getD_some,zA7,zJ];have e:((x:Int)==45)=(x==45):=by rw[Bool.eq_iff_iff,beq_iff_eq,beq_iff_eq];omega
 have e1:decide ((x:Int)<48)=decide (x<48):=by rw[decide_eq_decide];omega
 have e2:decide ((57:Int)<(x:Int))=decide (57<x):=by rw[decide_eq_decide];omega
 rw[e,e1,e2];cases h1:(x==45)<;>cases h2:decide (x<48)<;>cases h3:decide (57<x)<;>simp_all [bne]
theorem zIw(p:Nat→Bool)(s:qe):∀(f pos:Nat)(st:Option Nat)(acc:List (Nat×Nat)),(Go.Lib.spansFromP p s f pos st acc).1.length≤acc.length+f
 |0,pos,st,acc=>by simp[Go.Lib.spansFromP]
 |f+1,pos,st,acc=>by
  unfold Go.Lib.spansFromP;split
  ·split
   ·split
    ·have:=zIw p s f (pos+(Utf8.decode s pos).2) none (acc++[(‹Nat›,pos)]);simp at this ⊢;omega
    ·have:=zIw p s f (pos+(Utf8.decode s pos).2) none acc;omega
   ·split
    ·have:=zIw p s f (pos+(Utf8.decode s pos).2) (some ‹Nat›) acc;omega
    ·have:=zIw p s f (pos+(Utf8.decode s pos).2) (some pos) acc;omega
  ·simp
theorem z1M(p:Nat→Bool)(s:qe):(goFieldsP p s).length≤s.size+1:=by
 have h:=zIw p s s.size 0 none [];unfold goFieldsP Go.Lib.spansOfP;rw[List.length_map];generalize Go.Lib.spansFromP p s s.size 0 none []=x at h;obtain⟨acc,st⟩:=x;cases st with
 |none=>simp[Go.Lib.closeSpans]at h ⊢;omega
 |some a=>simp[Go.Lib.closeSpans]at h ⊢;omega
theorem zZs(p:Nat→Bool)(s:qe):∀w∈goFieldsP p s,w.size≤s.size:=by intro w hw;unfold goFieldsP at hw;obtain⟨x,_,rfl⟩:=List.mem_map.1 hw;rw[zI7,zCB];have:s.data.toList.length=s.size:=rfl;simp;omega
theorem z4s(ws:List qe)(hw:ws.length≤100000001)(hz:∀w∈ws,w.size≤100000000):∀(m n k:Nat)(acc:List Int),ws.length - k=m→m<n→k≤ws.length→acc.length≤k→∃r,qY ws n (k:Int) acc=some r:=by
 intro m
 induction m with
 |zero=>
  intro n k acc hk hn hkl ha;obtain⟨n,rfl⟩:∃m,n=m+1:=⟨n - 1,by omega⟩
  unfold qY;rw[zJ,ze (by omega),zc];exact⟨_,rfl⟩
 |succ m ih=>
  intro n k acc hk hn hkl ha;obtain⟨n,rfl⟩:∃m,n=m+1:=⟨n - 1,by omega⟩
  have hlt:k<ws.length:=by omega
  have hg:getI ws (k:Int)=some (ws[k]'hlt):=zCh hlt;have hs:=hz _ (zt hlt);generalize ws[k]'hlt=w at hg hs;unfold qY;rw[zJ,zd (by omega),zb];obtain⟨r,hr⟩:=zXA w (by omega);simp only[hg,za,hr];cases r.2 with
  |false=>exact⟨_,rfl⟩
  |true=>simp only[zg,zc,zI];rw[zA9 (by simp;omega),za,zBa (by omega)];exact ih n (k+1) _ (by omega) (by omega) (by omega) (by simp;omega)
theorem zTg(s:qe)(hs:s.size≤100000000):∃l,zAl s=some l:=by
 have hF:200000000<FU:=by decide
 have hl:=z1M pN s;obtain⟨r,hr⟩:=z4s (goFieldsP pN s) (by omega) (fun w hw=>by have:=zZs pN s w hw;omega) _ FU 0 [] rfl (by omega) (by omega) (by simp);have hr:qY (goFieldsP pN s) FU 0 []=_:=hr;unfold zAl zBb;rw[z4b,if_pos (by omega),za,hr];cases r with
 |inl x=>exact⟨_,rfl⟩
 |inr x=>exact⟨_,rfl⟩
theorem z4t(ns:List Int)(hw:ns.length≤1000)(hz:∀x∈ns,NB x):∀(m n k:Nat)(acc:List Int),ns.length - k=m→m<n→k≤ns.length→acc.length≤k→qY (ns.map fun x=>bl (itoa x)) n (k:Int) acc=some (.inl (acc++ns.drop k)):=by
 intro m
 induction m with
 |zero=>
  intro n k acc hk hn hkl ha;obtain⟨n,rfl⟩:∃m,n=m+1:=⟨n - 1,by omega⟩
  unfold qY;rw[zJ,List.length_map,ze (by omega),zc,List.drop_of_length_le (by omega),List.append_nil]
 |succ m ih=>
  intro n k acc hk hn hkl ha;obtain⟨n,rfl⟩:∃m,n=m+1:=⟨n - 1,by omega⟩
  have hlt:k<ns.length:=by omega
  have hg:getI (ns.map fun x=>bl (itoa x)) (k:Int)=some (bl (itoa (ns[k]'hlt))):=by rw[zCh (by rw[List.length_map];exact hlt),List.getElem_map]
  have hdr:ns.drop k=ns[k]'hlt::ns.drop (k+1):=List.drop_eq_getElem_cons hlt;have hs:=hz _ (zt hlt);generalize ns[k]'hlt=w at hg hs hdr;unfold qY;rw[zJ,List.length_map,zd (by omega),zb];simp only[hg,za,z0L hs.1 hs.2,zg,zc,zI];rw[zA9 (by simp;omega),za,zBa (by omega),ih n (k+1) _ (by omega) (by omega) (by omega) (by simp;omega),hdr,List.append_assoc];rfl
theorem zWj{s:qe}(hs:s.size≤100000000){ns:List Int}(hw:ns.length≤1000)(hz:∀x∈ns,NB x)(h:goFieldsP pN s=ns.map fun x=>bl (itoa x)):zAl s=some ns:=by
 have hF:200000000<FU:=by decide
 have hr:=z4t ns hw hz _ FU 0 [] rfl (by omega) (by omega) (by simp);have hr:qY (ns.map fun x=>bl (itoa x)) FU 0 []=_:=hr;unfold zAl zBb;rw[z4b,if_pos (by omega),za,h,hr];rfl
theorem zHQ{n:Int}(h:NB n):sm18 n:=by have h1:=h.1;have h2:=h.2;exact⟨by omega,by omega⟩
theorem zEu{n:Int}:NB n↔inN n=true:=by unfold NB inN;rw[zj,zS,zS,qc,qc]
theorem zTW(s:qe)(hs:s.size≤100000000):(∃f,FB f∧s=bl (fB f)∧zCV s=some (f,true))∨((∀f,FB f→s≠bl (fB f))∧zCV s=some ((0,0,0),false)):=by
 by_cases hf:∃f,FB f∧s=bl (fB f)
 ·obtain⟨f,hf,rfl⟩:=hf;refine .inl ⟨f,hf,rfl,?_⟩;obtain⟨a,b,c⟩:=f;have hi:=zWj (ns:=[a,b,c]) hs (by simp) (fun x hx=>by
   simp only[zk,zp,or_false]at hx;rcases hx with rfl|rfl|rfl
   ·exact hf.1
   ·exact hf.2.1
   ·exact hf.2.2) (zL0 (a,b,c))
  unfold zCV;rw[hi];have g0:getI [a,b,c] 0=some a:=rfl;have g1:getI [a,b,c] 1=some b:=rfl;have g2:getI [a,b,c] 2=some c:=rfl;simp only[za,g0,g1,g2,zFU,zEu.1 hf.1,zEu.1 hf.2.1,zEu.1 hf.2.2,Bool.and_self,zg,zc,zBj (zHQ hf.1) (zHQ hf.2.1) (zHQ hf.2.2),eqS,decide_true];rfl
 ·refine .inr ⟨fun f h e=>hf ⟨f,h,e⟩,?_⟩;obtain⟨l,hl⟩:=zTg s hs;unfold zCV;rw[hl,za];by_cases h3:l.length=3
  ·match l,h3 with
   |[a,b,c],_=>
    have g0:getI [a,b,c] 0=some a:=rfl;have g1:getI [a,b,c] 1=some b:=rfl;have g2:getI [a,b,c] 2=some c:=rfl;simp only[show eqI (([a,b,c].length:Nat):Int) 3=true from rfl,zg,zc,za,g0,g1,g2,zFU];cases hb:(inN a&&(inN b&&inN c)) with
    |false=>rfl
    |true=>simp only[zj]at hb;have f1:=zEu.2 hb.1;have f2:=zEu.2 hb.2.1;have f3:=zEu.2 hb.2.2;simp only[zg,zc,zBj (f:=(a,b,c)) (zHQ f1) (zHQ f2) (zHQ f3),za,eqS];rw[ze (fun e=>hf ⟨(a,b,c),⟨f1,f2,f3⟩,e.symm⟩)];rfl
  ·rw[eqNe (by omega)];rfl
theorem zHn(s:qe)(hs:s.size≤100000000):∃r,zCV s=some r∧zDO s=some r∧((∃f,FB f∧s=bl (fB f)∧r=(f,true))∨((∀f,FB f→s≠bl (fB f))∧r=((0,0,0),false))):=by
 rcases zTW s hs with⟨f,h1,h2,h3⟩|⟨h1,h3⟩<;>rcases zQ3 s hs with⟨g,g1,g2,g3⟩|⟨g1,g3⟩
 ·have e:f=g:=z9K (zG9 (h2.symm.trans g2));subst e;exact⟨_,h3,g3,.inl ⟨f,h1,h2,rfl⟩⟩
 ·exact absurd h2 (g1 f h1)
 ·exact absurd g2 (h1 g g1)
 ·exact⟨_,h3,g3,.inr ⟨h1,rfl⟩⟩
theorem zLV(w:qe)(hw:w.size≤100000000):∃a b ok,zEa w=some (a,ok)∧zBr w=some (b,ok)∧(ok=true→a=b):=by
 unfold zEa;rcases zNY w with⟨n,hn,rfl,h⟩|⟨hn,h⟩
 ·refine⟨n,n,true,?_,h,fun _=>rfl⟩;have hnum:qK [n]=some true:=by
   rw[zGI _ (by simp)];simp[zEu.1 hn]
  rw[z0L hn.1 hn.2];simp only[za,zb,hnum,zCr (zHQ hn),eqS,decide_true]
 ·obtain⟨r,hr⟩:=zXA w (by omega);refine⟨r.1,0,false,?_,h,fun e=>by cases e⟩;rw[hr];simp only[za];cases hr2:r.2 with
  |false=>rfl
  |true=>
   rw[zGI _ (by simp)];cases hin:inN r.1 with
   |false=>simp only[List.all_cons,List.all_nil,hin,Bool.and_true,zb,za,zc]
   |true=>have hb:=zEu.2 hin;have hne:bl (itoa r.1)≠w:=fun e=>hn r.1 hb e.symm;simp only[List.all_cons,List.all_nil,hin,Bool.and_true,zb,za,zCr (zHQ hb),eqS,ze hne]
def MB(m:Int×Int×Int×Int):Prop:=NB m.1∧NB m.2.1∧NB m.2.2.1∧NB m.2.2.2
theorem z8G(m:Int×Int×Int×Int):mB m=91::(itoa m.1++44::(itoa m.2.1++59::(itoa m.2.2.1++44::(itoa m.2.2.2++[93])))):=by simp[mB]
theorem z4n(m:Int×Int×Int×Int):mB m=91::(jn 59 [jn 44 ([m.1,m.2.1].map itoa),jn 44 ([m.2.2.1,m.2.2.2].map itoa)]++[93]):=by simp[mB,jn]
theorem zLY(m:Int×Int×Int×Int):goFieldsP pN (bl (mB m))=[m.1,m.2.1,m.2.2.1,m.2.2.2].map fun x=>bl (itoa x):=by
 have hp:∀b,isN b=true→(fun b:UInt8=>pN b.toNat) b=false:=fun b h=>by simp only[z4c,h,zg]
 have ha:∀b∈mB m,b.toNat<128:=by
  intro b hb;rw[z8G]at hb;simp only[zk,zn,zp,or_false]at hb;rcases hb with rfl|hb|rfl|hb|rfl|hb|rfl|hb|rfl
  ·decide
  ·exact zG4 (zGJ _ b hb)
  ·decide
  ·exact zG4 (zGJ _ b hb)
  ·decide
  ·exact zG4 (zGJ _ b hb)
  ·decide
  ·exact zG4 (zGJ _ b hb)
  ·decide
 rw[zTq pN (bl (mB m)) (by rw[zDK];exact ha),zDK,z8G,zTn (by decide),zJy hp (by decide),zJy hp (by decide),zJy hp (by decide),zJy hp (by decide)];rfl
theorem z8y{f g:Int×Int×Int×Int}(h:mB f=mB g):f=g:=by
 have h1:=zLY f;rw[h,zLY g]at h1;obtain⟨a,b,c,d⟩:=f;obtain⟨a',b',c',d'⟩:=g;simp only[List.map_cons,List.map_nil,List.cons.injEq,and_true]at h1;have inj:∀{x y:Int},bl (itoa x)=bl (itoa y)→x=y:=fun {x y} e=>by have e:=zG9 e;have h2:=zJX x;rw[e,zJX y]at h2;exact (Option.some.inj h2).symm
 rw[inj h1.1,inj h1.2.1,inj h1.2.2.1,inj h1.2.2.2]
theorem zTe(m:Int×Int×Int×Int):zX m=some (inN m.1&&(inN m.2.1&&(inN m.2.2.1&&inN m.2.2.2))):=by unfold zX;rw[zGI _ (by simp)];simp
theorem z8x{m:Int×Int×Int×Int}:∀w∈[jn 44 ([m.1,m.2.1].map itoa),jn 44 ([m.2.2.1,m.2.2.2].map itoa)],∀b∈w,b≠59:=by
 have key:∀x y:Int,∀b∈jn 44 ([x,y].map itoa),b≠59:=by
  intro x y b hb;simp only[List.map_cons,List.map_nil,jn,zn,zk]at hb;rcases hb with hb|rfl|hb
  ·exact zYE x 59 (by decide) b hb
  ·decide
  ·exact zYE y 59 (by decide) b hb
 intro w hw;simp only[zk,zp,or_false]at hw;rcases hw with rfl|rfl
 ·exact key _ _
 ·exact key _ _
theorem zOb(s:qe)(hs:s.size≤100000000):(∃m,MB m∧s=bl (mB m)∧zAi s=some (m,true))∨((∀m,MB m→s≠bl (mB m))∧zAi s=some ((0,0,0,0),false)):=by
 unfold zAi;rcases zMm s hs 91 93 with⟨q,h1,h2⟩|⟨h1,h2⟩
 ·have h2:zAc s 91 93=_:=h2;rw[h2,za];have hq:(bl q).size≤100000000:=by
   rw[h1,zCB]at hs;rw[zCB];simp at hs;omega
  have hsp:zAJ (bl q) 59=some ((spl 59 q).map bl):=by have:=zEv (bl q) 59 hq;rw[zDK]at this;exact this
  have hback:∀m,s=bl (mB m)→spl 59 q=[jn 44 ([m.1,m.2.1].map itoa),jn 44 ([m.2.2.1,m.2.2.2].map itoa)]:=by intro m e;rw[h1,z4n]at e;have e:=zG9 e;injection e with _ e;have e:=List.append_cancel_right e;rw[e];exact z0f 59 _ (by simp) z8x
  have hjq:=z1E 59 q;have hwl:∀w∈spl 59 q,(bl w).size≤100000000:=by
   intro w hw;have:∀(l:List UInt8),∀w∈spl 59 l,w.length≤l.length:=by
    intro l
    induction l with
    |nil=>intro w hw;simp[spl]at hw;simp[hw]
    |cons b l ih=>
     intro w hw;by_cases h:b=59
     ·subst h;rw[zGX]at hw;rcases List.mem_cons.1 hw with rfl|hw
      ·exact Nat.zero_le _
      ·have:=ih w hw;simp;omega
     ·cases e:spl 59 l with
      |nil=>exact absurd e (zHa 59 l)
      |cons v ws=>
       rw[zDW h e]at hw;rw[e]at ih;rcases List.mem_cons.1 hw with rfl|hw
       ·have:=ih v (zl ..);simp;omega
       ·have:=ih w (zm _ hw);simp;omega
   have:=this q w hw;rw[zCB]at hq ⊢;omega
  simp only[hsp,za,zg,zc];by_cases hlen:(spl 59 q).length=2
  ·generalize spl 59 q=W at hlen hback hjq hwl
   match W,hlen with
   |[x,y],_=>
    have g0:getI ([x,y].map bl) 0=some (bl x):=rfl;have g1:getI ([x,y].map bl) 1=some (bl y):=rfl;rw[show eqI ((([x,y].map bl).length:Nat):Int) 2=true from rfl,zg,zc,g0,g1];simp only[za];have hx:=zIN (c:=44) (by decide) (bl x) (hwl x (by simp)) (cnt:=2) (by omega);have hy:=zIN (c:=44) (by decide) (bl y) (hwl y (by simp)) (cnt:=2) (by omega);rcases hx with⟨ns,a1,a2,a3,a4⟩|⟨a1,a4⟩
    ·have a4:zAB (bl x) 44 2=_:=a4;rcases hy with⟨ms,b1,b2,b3,b4⟩|⟨b1,b4⟩
     ·have b4:zAB (bl y) 44 2=_:=b4
      match ns,a2,ms,b2 with
      |[a,b],_,[c,d],_=>
       refine .inl ⟨(a,b,c,d),⟨a1 a (by simp),a1 b (by simp),b1 c (by simp),b1 d (by simp)⟩,?_,?_⟩
       ·rw[h1,z4n,←hjq,zG9 a3,zG9 b3]
       ·rw[a4,b4];rfl
     ·have b4:zAB (bl y) 44 2=_:=b4;refine .inr ⟨fun m hm e=>?_,?_⟩
      ·have:=hback m e;injection this with _ this;injection this with this _;refine b1 [m.2.2.1,m.2.2.2] (fun z hz=>?_) rfl (by rw[this]);simp only[zk,zp,or_false]at hz;rcases hz with rfl|rfl
       ·exact hm.2.2.1
       ·exact hm.2.2.2
      ·rw[a4,b4];simp only[za];rw[show eqI (((([]:List Int).length:Nat)):Int) 2=false from rfl];cases eqI ((ns.length:Nat):Int) 2<;>rfl
    ·have a4:zAB (bl x) 44 2=_:=a4;have b4:∃l,zAB (bl y) 44 2=some l:=by
      rcases hy with⟨ms,b1,b2,b3,b4⟩|⟨b1,b4⟩
      ·exact⟨_,b4⟩
      ·exact⟨_,b4⟩
     obtain⟨l,b4⟩:=b4;refine .inr ⟨fun m hm e=>?_,?_⟩
     ·have:=hback m e;injection this with this _;refine a1 [m.1,m.2.1] (fun z hz=>?_) rfl (by rw[this]);simp only[zk,zp,or_false]at hz;rcases hz with rfl|rfl
      ·exact hm.1
      ·exact hm.2.1
     ·rw[a4,b4];rfl
  ·refine .inr ⟨fun m hm e=>hlen ?_,?_⟩
   ·rw[hback m e];rfl
   ·rw[eqNe (by rw[List.length_map];omega)];rfl
 ·have h2:zAc s 91 93=_:=h2;rw[h2,za];have hsp:zAJ (bl []) 59=some ((spl 59 (bl []).data.toList).map bl):=zEv (bl []) 59 (by decide);refine .inr ⟨fun m hm e=>h1 _ (by rw[e,z4n]),?_⟩;rw[hsp];rfl
theorem zZ5(s:qe)(hs:s.size≤100000000):(∃m,MB m∧s=bl (mB m)∧zB9 s=some (m,true))∨((∀m,MB m→s≠bl (mB m))∧zB9 s=some ((0,0,0,0),false)):=by
 by_cases hf:∃f,MB f∧s=bl (mB f)
 ·obtain⟨f,hf,rfl⟩:=hf;refine .inl ⟨f,hf,rfl,?_⟩;obtain⟨a,b,c,d⟩:=f;have hi:=zWj (ns:=[a,b,c,d]) hs (by simp) (fun x hx=>by
   simp only[zk,zp,or_false]at hx;rcases hx with rfl|rfl|rfl|rfl
   ·exact hf.1
   ·exact hf.2.1
   ·exact hf.2.2.1
   ·exact hf.2.2.2) (zLY (a,b,c,d))
  unfold zB9;rw[hi];have g0:getI [a,b,c,d] 0=some a:=rfl;have g1:getI [a,b,c,d] 1=some b:=rfl;have g2:getI [a,b,c,d] 2=some c:=rfl;have g3:getI [a,b,c,d] 3=some d:=rfl;simp only[za,g0,g1,g2,g3,zTe,zEu.1 hf.1,zEu.1 hf.2.1,zEu.1 hf.2.2.1,zEu.1 hf.2.2.2,Bool.and_self,zg,zc,zHp (zHQ hf.1) (zHQ hf.2.1) (zHQ hf.2.2.1) (zHQ hf.2.2.2),eqS,decide_true];rfl
 ·refine .inr ⟨fun f h e=>hf ⟨f,h,e⟩,?_⟩;obtain⟨l,hl⟩:=zTg s hs;unfold zB9;rw[hl,za];by_cases h3:l.length=4
  ·match l,h3 with
   |[a,b,c,d],_=>
    have g0:getI [a,b,c,d] 0=some a:=rfl;have g1:getI [a,b,c,d] 1=some b:=rfl;have g2:getI [a,b,c,d] 2=some c:=rfl;have g3:getI [a,b,c,d] 3=some d:=rfl;simp only[show eqI (([a,b,c,d].length:Nat):Int) 4=true from rfl,zg,zc,za,g0,g1,g2,g3,zTe];cases hb:(inN a&&(inN b&&(inN c&&inN d))) with
    |false=>rfl
    |true=>simp only[zj]at hb;have f1:=zEu.2 hb.1;have f2:=zEu.2 hb.2.1;have f3:=zEu.2 hb.2.2.1;have f4:=zEu.2 hb.2.2.2;simp only[zg,zc,zHp (m:=(a,b,c,d)) (zHQ f1) (zHQ f2) (zHQ f3) (zHQ f4),za,eqS];rw[ze (fun e=>hf ⟨(a,b,c,d),⟨f1,f2,f3,f4⟩,e.symm⟩)];rfl
  ·rw[eqNe (by omega)];rfl
theorem zLX(s:qe)(hs:s.size≤100000000):∃r,zB9 s=some r∧zAi s=some r:=by
 rcases zZ5 s hs with⟨f,h1,h2,h3⟩|⟨h1,h3⟩<;>rcases zOb s hs with⟨g,g1,g2,g3⟩|⟨g1,g3⟩
 ·have e:f=g:=z8y (zG9 (h2.symm.trans g2));subst e;exact⟨_,h3,g3⟩
 ·exact absurd h2 (g1 f h1)
 ·exact absurd g2 (h1 g g1)
 ·exact⟨_,h3,g3⟩
theorem zSf(w:qe):∃t,zEq w=some t∧zBo w=some t∧t.size≤11:=by
 by_cases h1:w=⟨#[101,113,117,105,118,97,108,101,110,116]⟩
 ·subst h1;exact⟨⟨#[102,102,109]⟩,by decide+kernel,by decide+kernel,by decide⟩
 by_cases h2:w=⟨#[100,105,102,102,101,114,101,110,116]⟩
 ·subst h2;exact⟨⟨#[102,109,102,102,109,102]⟩,by decide+kernel,by decide+kernel,by decide⟩
 by_cases h3:w=⟨#[118,97,108,117,101]⟩
 ·subst h3;exact⟨⟨#[102,110,110,110]⟩,by decide+kernel,by decide+kernel,by decide⟩
 by_cases h4:w=⟨#[111,98,115,116,114,117,99,116,105,111,110]⟩
 ·subst h4;exact⟨⟨#[110,110,110]⟩,by decide+kernel,by decide+kernel,by decide⟩
 by_cases h5:w=⟨#[99,111,109,112,111,115,105,116,101]⟩
 ·subst h5;exact⟨⟨#[102,102,102,110,110,110,110,110,110,110,110]⟩,by decide+kernel,by decide+kernel,by decide⟩
 by_cases h6:w=⟨#[111,114,100,101,114]⟩
 ·subst h6;exact⟨⟨#[102,110]⟩,by decide+kernel,by decide+kernel,by decide⟩
 by_cases h7:w=⟨#[114,111,111,116]⟩
 ·subst h7;exact⟨⟨#[110,110,110]⟩,by decide+kernel,by decide+kernel,by decide⟩
 by_cases h8:w=⟨#[97,117,116,111,109,111,114,112,104]⟩
 ·subst h8;exact⟨⟨#[102,109]⟩,by decide+kernel,by decide+kernel,by decide⟩
 by_cases h9:w=⟨#[115,111,108,117,116,105,111,110]⟩
 ·subst h9;exact⟨⟨#[110,110,110]⟩,by decide+kernel,by decide+kernel,by decide⟩
 refine⟨⟨#[]⟩,?_,?_,by decide⟩
 ·unfold zEq;have e:(mPut ((⟨#[115,111,108,117,116,105,111,110]⟩:qe)) ((⟨#[110,110,110]⟩:qe)) (mPut ((⟨#[97,117,116,111,109,111,114,112,104]⟩:qe)) ((⟨#[102,109]⟩:qe)) (mPut ((⟨#[114,111,111,116]⟩:qe)) ((⟨#[110,110,110]⟩:qe)) (mPut ((⟨#[111,114,100,101,114]⟩:qe)) ((⟨#[102,110]⟩:qe)) (mPut ((⟨#[99,111,109,112,111,115,105,116,101]⟩:qe)) ((⟨#[102,102,102,110,110,110,110,110,110,110,110]⟩:qe)) (mPut ((⟨#[111,98,115,116,114,117,99,116,105,111,110]⟩:qe)) ((⟨#[110,110,110]⟩:qe)) (mPut ((⟨#[118,97,108,117,101]⟩:qe)) ((⟨#[102,110,110,110]⟩:qe)) (mPut ((⟨#[100,105,102,102,101,114,101,110,116]⟩:qe)) ((⟨#[102,109,102,102,109,102]⟩:qe)) (mPut ((⟨#[101,113,117,105,118,97,108,101,110,116]⟩:qe)) ((⟨#[102,102,109]⟩:qe)) (([]:List ((qe×qe)))))))))))))=[(⟨#[101,113,117,105,118,97,108,101,110,116]⟩,⟨#[102,102,109]⟩),(⟨#[100,105,102,102,101,114,101,110,116]⟩,⟨#[102,109,102,102,109,102]⟩),(⟨#[118,97,108,117,101]⟩,⟨#[102,110,110,110]⟩),(⟨#[111,98,115,116,114,117,99,116,105,111,110]⟩,⟨#[110,110,110]⟩),(⟨#[99,111,109,112,111,115,105,116,101]⟩,⟨#[102,102,102,110,110,110,110,110,110,110,110]⟩),(⟨#[111,114,100,101,114]⟩,⟨#[102,110]⟩),(⟨#[114,111,111,116]⟩,⟨#[110,110,110]⟩),(⟨#[97,117,116,111,109,111,114,112,104]⟩,⟨#[102,109]⟩),(⟨#[115,111,108,117,116,105,111,110]⟩,⟨#[110,110,110]⟩)]:=by decide+kernel
  rw[e,za];simp[mAt,mGet,ixM,h1,h2,h3,h4,h5,h6,h7,h8,h9];rfl
 ·unfold zBo;simp only[eqS,ze h1,ze h2,ze h3,ze h4,ze h5,ze h6,ze h7,ze h8,ze h9,za,zc]
section
variable (y2:List qe) (t e4:qe) (hl:y2.length=t.size+1) (hz:∀w∈y2,w.size≤2000000) (ht:t.size≤11)
include hl hz ht
theorem zXH{k:Nat}(hk:k<t.size):∃w,getI (subl y2 1 (y2.length:Int)) (k:Int)=some w∧getI y2 (w64 ((k:Int)+1))=some w∧w.size≤2000000:=by
 have h1:k+1<y2.length:=by omega
 refine⟨y2[k+1]'h1,?_,?_,hz _ (zt h1)⟩
 ·unfold subl;rw[zi,show Int.toNat 1=1 from rfl,List.take_of_length_le (by simp),zCh (by simp;omega)];congr 1;rw[List.getElem_drop];congr 1;omega
 ·rw[zBa (by omega),zCh h1]
theorem zGY:∀(m n k:Nat)(F:List (Int×Int×Int))(M:List (Int×Int×Int×Int))(N:List Int),t.size - k=m→m<n→k≤t.size→F.length≤k→M.length≤k→N.length≤k→
  ∃N' M' F',zO y2 t n false (k:Int) F M N=some (false,N',M',F'):=by
 intro m
 induction m with
 |zero=>
  intro n k F M N hk hn hkt hF hM hN;obtain⟨n,rfl⟩:∃m,n=m+1:=⟨n - 1,by omega⟩
  unfold zO;rw[zJ,ze (by omega),zc];exact⟨_,_,_,rfl⟩
 |succ m ih=>
  intro n k F M N hk hn hkt hF hM hN;obtain⟨n,rfl⟩:∃m,n=m+1:=⟨n - 1,by omega⟩
  obtain⟨w,_,w2,w3⟩:=zXH y2 t hl hz ht (show k<t.size by omega);have hlt:k<t.size:=by omega
  have hg:=zER hlt;generalize t.data.toList[k]'hlt=b at hg;unfold zO;rw[zJ,zd (by omega),zb];simp only[w2,hg,za,zc,zI];cases eqI ((b.toNat:Nat):Int) 102 with
  |true=>obtain⟨r,_,h2,_⟩:=zHn w (by omega);rw[zb,h2,za,zA9 (by simp;omega),za,zBa (by omega)];exact ih n (k+1) _ _ _ (by omega) (by omega) (by omega) (by simp;omega) (by omega) (by omega)
  |false=>
   rw[zc];cases eqI ((b.toNat:Nat):Int) 109 with
   |true=>obtain⟨r,_,h2⟩:=zLX w (by omega);rw[zb,h2,za,zA9 (by simp;omega),za,zBa (by omega)];exact ih n (k+1) _ _ _ (by omega) (by omega) (by omega) (by omega) (by simp;omega) (by omega)
   |false=>obtain⟨a,b,ok,_,h2,_⟩:=zLV w (by omega);rw[zc,h2,za,zA9 (by simp;omega),za,zBa (by omega)];exact ih n (k+1) _ _ _ (by omega) (by omega) (by omega) (by omega) (by omega) (by simp;omega)
theorem zWc:∀(m n k:Nat)(F:List (Int×Int×Int))(M:List (Int×Int×Int×Int))(N:List Int),t.size - k=m→m<n→k≤t.size→F.length≤k→M.length≤k→N.length≤k→
  (∃N' M' F',zO y2 t n true (k:Int) F M N=some (true,N',M',F')∧qW e4 ((t.size:Nat):Int) y2 t n (k:Int) F M N=some (.inl (N',M',F')))∨
  (∃N' M' F',zO y2 t n true (k:Int) F M N=some (false,N',M',F')∧qW e4 ((t.size:Nat):Int) y2 t n (k:Int) F M N=some (.inr ((qf,[],[],[]),false))):=by
 intro m
 induction m with
 |zero=>
  intro n k F M N hk hn hkt hF hM hN;obtain⟨n,rfl⟩:∃m,n=m+1:=⟨n - 1,by omega⟩
  unfold zO qW;rw[zJ,ze (by omega),zc,zc];exact .inl ⟨_,_,_,rfl,rfl⟩
 |succ m ih=>
  intro n k F M N hk hn hkt hF hM hN;obtain⟨n,rfl⟩:∃m,n=m+1:=⟨n - 1,by omega⟩
  obtain⟨w,w1,w2,w3⟩:=zXH y2 t hl hz ht (show k<t.size by omega);have hlt:k<t.size:=by omega
  have hg:=zER hlt;generalize t.data.toList[k]'hlt=b at hg;unfold zO qW;rw[zJ,zd (by omega),zb,zb];simp only[w1,w2,hg,za,zb,zI];cases eqI ((b.toNat:Nat):Int) 102 with
  |true=>
   obtain⟨r,h1,h2,_⟩:=zHn w (by omega);rw[zb,zb,h1,h2,za,za,zA9 (by simp;omega),za,za,zBa (by omega)];cases hr:r.2 with
   |true=>rw[zg,zc];exact ih n (k+1) _ _ _ (by omega) (by omega) (by omega) (by simp;omega) (by omega) (by omega)
   |false=>obtain⟨N',M',F',h⟩:=zGY y2 t hl hz ht m n (k+1) (F++[r.1]) M N (by omega) (by omega) (by omega) (by simp;omega) (by omega) (by omega);exact .inr ⟨N',M',F',h,rfl⟩
  |false=>
   rw[zc,zc];cases eqI ((b.toNat:Nat):Int) 109 with
   |true=>
    obtain⟨r,h1,h2⟩:=zLX w (by omega);rw[zb,zb,h1,h2,za,za,zA9 (by simp;omega),za,za,zBa (by omega)];cases hr:r.2 with
    |true=>rw[zg,zc];exact ih n (k+1) _ _ _ (by omega) (by omega) (by omega) (by omega) (by simp;omega) (by omega)
    |false=>obtain⟨N',M',F',h⟩:=zGY y2 t hl hz ht m n (k+1) F (M++[r.1]) N (by omega) (by omega) (by omega) (by omega) (by simp;omega) (by omega);exact .inr ⟨N',M',F',h,rfl⟩
   |false=>
    obtain⟨a,b,ok,h1,h2,h3⟩:=zLV w (by omega);rw[zc,zc,h1,h2,za,za,zA9 (by simp;omega),za,zA9 (by simp;omega),za,zBa (by omega)];cases ok with
    |true=>have e:=h3 rfl;subst e;rw[zg,zc];exact ih n (k+1) _ _ _ (by omega) (by omega) (by omega) (by omega) (by omega) (by simp;omega)
    |false=>obtain⟨N',M',F',h⟩:=zGY y2 t hl hz ht m n (k+1) F M (N++[b]) (by omega) (by omega) (by omega) (by omega) (by omega) (by simp;omega);exact .inr ⟨N',M',F',h,rfl⟩
end
theorem zGc(c:UInt8):∀(l:List UInt8),∀w∈spl c l,w.length≤l.length
 |[],w,hw=>by
  have:w=[]:=by simpa [spl] using hw
  rw[this];exact Nat.zero_le _
 |b::l,w,hw=>by
  have ih:=zGc c l;by_cases h:b=c
  ·subst h;rw[zGX]at hw;rcases List.mem_cons.1 hw with rfl|hw
   ·exact Nat.zero_le _
   ·have:=ih w hw;simp;omega
  ·cases e:spl c l with
   |nil=>exact absurd e (zHa c l)
   |cons v ws=>
    rw[zDW h e]at hw;rw[e]at ih;rcases List.mem_cons.1 hw with rfl|hw
    ·have:=ih v (zl ..);simp;omega
    ·have:=ih w (zm _ hw);simp;omega
theorem z0u(s:qe)(hs:s.size≤1048576):(∃k F M N,zAx s=some ((k,F,M,N),true)∧zBV s=some (k,(F,M,N),true))∨
  (zAx s=some ((qf,[],[],[]),false)∧∃k x,zBV s=some (k,x,false)):=by
 have hF:200000000<FU:=by decide
 have hsz:s.data.toList.length=s.size:=rfl;unfold zAx zBV;have e1:zAG s ⟨#[32]⟩=some ((spl 32 s.data.toList).map bl):=zIv s 32 (by omega);have e2:zAJ s 32=some ((spl 32 s.data.toList).map bl):=zEv s 32 (by omega);rw[e1,e2,za,za];have hz:∀w∈(spl 32 s.data.toList).map bl,w.size≤2000000:=by intro w hw;obtain⟨x,hx,rfl⟩:=List.mem_map.1 hw;have:=zGc 32 _ x hx;rw[zCB];omega
 have hlen:=zOD 32 s.data.toList;have hyl:((spl 32 s.data.toList).map bl).length≤1048577:=by rw[List.length_map];omega
 have hne:(spl 32 s.data.toList).map bl≠[]:=fun h=>zHa 32 _ (List.map_eq_nil_iff.1 h);generalize (spl 32 s.data.toList).map bl=y2 at hz hyl hne;obtain⟨x,r,rfl⟩:∃x r,y2=x::r:=by
  cases y2 with
  |nil=>exact absurd rfl hne
  |cons x r=>exact⟨x,r,rfl⟩
 have g0:getI (x::r) 0=some x:=rfl;obtain⟨t,t1,t2,t3⟩:=zSf x;simp only[g0,za,t1,t2,eqS];by_cases ht:t=⟨#[]⟩
 ·subst ht;simp only[decide_true,zb];exact .inr ⟨by first|trivial|rfl,_,_,rfl⟩
 ·rw[ze ht,zc,zBa (by omega)];by_cases hl:(x::r).length=t.size+1
  ·rw[hl,zGM,zg,zc];simp only[zc];have hsl:slc (t.size+1) 1 ((t.size+1:Nat):Int)=some ():=zMj (l:=1) (by omega) (Nat.le_refl _);have hsub:((subl (x::r) 1 ((t.size+1:Nat):Int)).length:Int)=((t.size:Nat):Int):=by
    unfold subl;rw[zi,show Int.toNat 1=1 from rfl,List.length_take,List.length_drop,hl];simp
   rw[hsl,hsub];simp only[za,zI];rcases zWc (x::r) t x hl hz t3 t.size FU 0 [] [] [] rfl (by omega) (by omega) (by simp) (by simp) (by simp) with⟨N,M,F,h1,h2⟩|⟨N,M,F,h1,h2⟩
   ·have h1:zO (x::r) t FU true 0 [] [] []=_:=h1;have h2:qW x ((t.size:Nat):Int) (x::r) t FU 0 [] [] []=_:=h2;rw[h1,h2];exact .inl ⟨_,_,_,_,rfl,rfl⟩
   ·have h1:zO (x::r) t FU true 0 [] [] []=_:=h1;have h2:qW x ((t.size:Nat):Int) (x::r) t FU 0 [] [] []=_:=h2;rw[h1,h2];exact .inr ⟨rfl,_,_,rfl⟩
  ·rw[eqNe (by omega),zh];exact .inr ⟨rfl,_,_,rfl⟩
theorem z3N(s:qe)(hs:s.size≤100000000){r:(Int×Int×Int×Int)×Bool}(h:zAi s=some r)(h2:r.2=true):MB r.1:=by
 rcases zOb s hs with⟨m,m1,_,m3⟩|⟨_,m3⟩
 ·rw[m3]at h;cases h;exact m1
 ·rw[m3]at h;cases h;cases h2
theorem z3L(s:qe){r:Int×Bool}(h:zBr s=some r)(h2:r.2=true):NB r.1:=by
 rcases zNY s with⟨n,n1,_,n3⟩|⟨_,n3⟩
 ·rw[n3]at h;cases h;exact n1
 ·rw[n3]at h;cases h;cases h2
theorem z7E(s:qe)(hs:s.size≤100000000){r:(Int×Int×Int)×Bool}(h:zDO s=some r)(h2:r.2=true):FB r.1:=by
 rcases zQ3 s hs with⟨m,m1,_,m3⟩|⟨_,m3⟩
 ·rw[m3]at h;cases h;exact m1
 ·rw[m3]at h;cases h;cases h2
theorem zPn(b c:UInt8):eqI ((b.toNat:Nat):Int) ((c.toNat:Nat):Int)=decide (b=c):=by rw[zA7,zYa]
section
variable (y2:List qe) (t:qe) (hl:y2.length=t.size+1) (hz:∀w∈y2,w.size≤2000000) (ht:t.size≤11)
include hl hz ht
theorem z1C:∀(m n k:Nat)(F:List (Int×Int×Int))(M:List (Int×Int×Int×Int))(N:List Int)(F':List (Int×Int×Int))(M':List (Int×Int×Int×Int))(N':List Int),t.size - k=m→m<n→k≤t.size→F.length≤k→M.length≤k→N.length≤k→
  zO y2 t n true (k:Int) F M N=some (true,N',M',F')→
  F'.length=F.length+(t.data.toList.drop k).countP (fun b=>decide (b=102))∧M'.length=M.length+(t.data.toList.drop k).countP (fun b=>decide (b=109))∧N'.length=N.length+(t.data.toList.drop k).countP (fun b=>!decide (b=102)&&!decide (b=109))∧
  (∀f∈F',f∈F∨FB f)∧(∀f∈M',f∈M∨MB f)∧(∀f∈N',f∈N∨NB f):=by
 intro m
 induction m with
 |zero=>
  intro n k F M N F' M' N' hk hn hkt hF hM hN h;obtain⟨n,rfl⟩:∃m,n=m+1:=⟨n - 1,by omega⟩
  unfold zO at h;rw[zJ,ze (by omega),zc]at h;cases h;have e:t.data.toList.drop k=[]:=List.drop_eq_nil_of_le (by show t.size≤k;omega);rw[e];exact⟨rfl,rfl,rfl,fun _ h=>.inl h,fun _ h=>.inl h,fun _ h=>.inl h⟩
 |succ m ih=>
  intro n k F M N F' M' N' hk hn hkt hF hM hN h;obtain⟨n,rfl⟩:∃m,n=m+1:=⟨n - 1,by omega⟩
  obtain⟨w,_,w2,w3⟩:=zXH y2 t hl hz ht (show k<t.size by omega);have hlt:k<t.size:=by omega
  have hg:=zER hlt;have hd:t.data.toList.drop k=t.data.toList[k]'hlt::t.data.toList.drop (k+1):=List.drop_eq_getElem_cons hlt;generalize t.data.toList[k]'hlt=b at hg hd;rw[hd];unfold zO at h;rw[zJ,zd (by omega),zb]at h;have e1:eqI ((b.toNat:Nat):Int) 102=decide (b=102):=zPn b 102;have e2:eqI ((b.toNat:Nat):Int) 109=decide (b=109):=zPn b 109;simp only[w2,hg,za,zb,zI,e1,e2]at h;by_cases h1:b=102
  ·subst h1;rw[zd rfl,zb]at h;obtain⟨r,_,r2,_⟩:=zHn w (by omega);rw[r2,za,zA9 (by simp;omega),za,zBa (by omega)]at h;cases hr:r.2 with
   |false=>obtain⟨N2,M2,F2,hx⟩:=zGY y2 t hl hz ht m n (k+1) (F++[r.1]) M N (by omega) (by omega) (by omega) (by simp;omega) (by omega) (by omega);have h:zO y2 t n r.2 ((k+1:Nat):Int) (F++[r.1]) M N=_:=h;rw[hr,hx]at h;cases h
   |true=>
    have h:zO y2 t n r.2 ((k+1:Nat):Int) (F++[r.1]) M N=_:=h;rw[hr]at h;obtain⟨a1,a2,a3,a4,a5,a6⟩:=ih n (k+1) (F++[r.1]) M N F' M' N' (by omega) (by omega) (by omega) (by simp;omega) (by omega) (by omega) h;refine⟨?_,?_,?_,fun f hf=>?_,a5,a6⟩
    ·rw[a1,List.length_append,List.countP_cons];simp;omega
    ·rw[a2,List.countP_cons];simp
    ·rw[a3,List.countP_cons];simp
    ·rcases a4 f hf with h3|h3
     ·rcases List.mem_append.1 h3 with h4|h4
      ·exact .inl h4
      ·rw[qd]at h4;subst h4;exact .inr (z7E w (by omega) r2 hr)
     ·exact .inr h3
  ·rw[ze h1,zc]at h;by_cases h5:b=109
   ·subst h5;rw[zd rfl,zb]at h;obtain⟨r,_,r2⟩:=zLX w (by omega);rw[r2,za,zA9 (by simp;omega),za,zBa (by omega)]at h;cases hr:r.2 with
    |false=>obtain⟨N2,M2,F2,hx⟩:=zGY y2 t hl hz ht m n (k+1) F (M++[r.1]) N (by omega) (by omega) (by omega) (by omega) (by simp;omega) (by omega);have h:zO y2 t n r.2 ((k+1:Nat):Int) F (M++[r.1]) N=_:=h;rw[hr,hx]at h;cases h
    |true=>
     have h:zO y2 t n r.2 ((k+1:Nat):Int) F (M++[r.1]) N=_:=h;rw[hr]at h;obtain⟨a1,a2,a3,a4,a5,a6⟩:=ih n (k+1) F (M++[r.1]) N F' M' N' (by omega) (by omega) (by omega) (by omega) (by simp;omega) (by omega) h;refine⟨?_,?_,?_,a4,fun f hf=>?_,a6⟩
     ·rw[a1,List.countP_cons];simp
     ·rw[a2,List.length_append,List.countP_cons];simp;omega
     ·rw[a3,List.countP_cons];simp
     ·rcases a5 f hf with h3|h3
      ·rcases List.mem_append.1 h3 with h4|h4
       ·exact .inl h4
       ·rw[qd]at h4;subst h4;exact .inr (z3N w (by omega) r2 hr)
      ·exact .inr h3
   ·rw[ze h5,zc]at h;obtain⟨a,b2,ok,_,r2,_⟩:=zLV w (by omega);rw[r2,za,zA9 (by simp;omega),za,zBa (by omega)]at h;cases hr:ok with
    |false=>obtain⟨N2,M2,F2,hx⟩:=zGY y2 t hl hz ht m n (k+1) F M (N++[b2]) (by omega) (by omega) (by omega) (by omega) (by omega) (by simp;omega);have h:zO y2 t n ok ((k+1:Nat):Int) F M (N++[b2])=_:=h;rw[hr,hx]at h;cases h
    |true=>
     have h:zO y2 t n ok ((k+1:Nat):Int) F M (N++[b2])=_:=h;rw[hr]at h;obtain⟨a1,a2,a3,a4,a5,a6⟩:=ih n (k+1) F M (N++[b2]) F' M' N' (by omega) (by omega) (by omega) (by omega) (by omega) (by simp;omega) h;refine⟨?_,?_,?_,a4,a5,fun f hf=>?_⟩
     ·rw[a1,List.countP_cons];simp[h1]
     ·rw[a2,List.countP_cons];simp[h5]
     ·rw[a3,List.length_append,List.countP_cons];simp[h1,h5];omega
     ·rcases a6 f hf with h3|h3
      ·rcases List.mem_append.1 h3 with h4|h4
       ·exact .inl h4
       ·rw[qd]at h4;subst h4;exact .inr (z3L w r2 hr)
      ·exact .inr h3
end
theorem z0t(s:qe)(hs:s.size≤1048576):(∃k F M N t,zAx s=some ((k,F,M,N),true)∧zBV s=some (k,(F,M,N),true)∧zBo k=some t∧t≠⟨#[]⟩∧
      F.length=t.data.toList.countP (fun b=>decide (b=102))∧M.length=t.data.toList.countP (fun b=>decide (b=109))∧N.length=t.data.toList.countP (fun b=>!decide (b=102)&&!decide (b=109))∧(∀f∈F,FB f)∧(∀f∈M,MB f)∧(∀f∈N,NB f))∨
    (zAx s=some ((qf,[],[],[]),false)∧∃k x,zBV s=some (k,x,false)):=by
  have hF:200000000<FU:=by decide
  have hsz:s.data.toList.length=s.size:=rfl;unfold zAx zBV;have e1:zAG s ⟨#[32]⟩=some ((spl 32 s.data.toList).map bl):=zIv s 32 (by omega);have e2:zAJ s 32=some ((spl 32 s.data.toList).map bl):=zEv s 32 (by omega);rw[e1,e2,za,za];have hz:∀w∈(spl 32 s.data.toList).map bl,w.size≤2000000:=by intro w hw;obtain⟨x,hx,rfl⟩:=List.mem_map.1 hw;have:=zGc 32 _ x hx;rw[zCB];omega
  have hlen:=zOD 32 s.data.toList;have hyl:((spl 32 s.data.toList).map bl).length≤1048577:=by rw[List.length_map];omega
  have hne:(spl 32 s.data.toList).map bl≠[]:=fun h=>zHa 32 _ (List.map_eq_nil_iff.1 h);generalize (spl 32 s.data.toList).map bl=y2 at hz hyl hne;obtain⟨x,r,rfl⟩:∃x r,y2=x::r:=by
    cases y2 with
    |nil=>exact absurd rfl hne
    |cons x r=>exact⟨x,r,rfl⟩
  have g0:getI (x::r) 0=some x:=rfl;obtain⟨t,t1,t2,t3⟩:=zSf x;simp only[g0,za,t1,t2,eqS];by_cases ht:t=⟨#[]⟩
  · subst ht
    simp only[decide_true,zb];exact .inr ⟨by first|trivial|rfl,_,_,rfl⟩
  · rw[ze ht,zc,zBa (by omega)]
    by_cases hl:(x::r).length=t.size+1
    · rw[hl,zGM,zg,zc]
      simp only[zc];have hsl:slc (t.size+1) 1 ((t.size+1:Nat):Int)=some ():=zMj (l:=1) (by omega) (Nat.le_refl _);have hsub:((subl (x::r) 1 ((t.size+1:Nat):Int)).length:Int)=((t.size:Nat):Int):=by unfold subl;rw[zi,show Int.toNat 1=1 from rfl,List.length_take,List.length_drop,hl];simp
      rw[hsl,hsub];simp only[za,zI];rcases zWc (x::r) t x hl hz t3 t.size FU 0 [] [] [] rfl (by omega) (by omega) (by simp) (by simp) (by simp) with⟨N,M,F,h1,h2⟩|⟨N,M,F,h1,h2⟩
      · obtain⟨a1,a2,a3,a4,a5,a6⟩:=z1C (x::r) t hl hz t3 t.size FU 0 [] [] [] F M N rfl (by omega) (by omega) (by simp) (by simp) (by simp) h1
        have h1:zO (x::r) t FU true 0 [] [] []=_:=h1;have h2:qW x ((t.size:Nat):Int) (x::r) t FU 0 [] [] []=_:=h2;rw[h1,h2];refine .inl ⟨_,_,_,_,t,rfl,rfl,t2,ht,?_,?_,?_,fun f hf=>?_,fun f hf=>?_,fun f hf=>?_⟩
        · simpa using a1
        · simpa using a2
        · simpa using a3
        · exact (a4 f hf).resolve_left (by simp)
        · exact (a5 f hf).resolve_left (by simp)
        · exact (a6 f hf).resolve_left (by simp)
      · have h1:zO (x::r) t FU true 0 [] [] []=_:=h1
        have h2:qW x ((t.size:Nat):Int) (x::r) t FU 0 [] [] []=_:=h2;rw[h1,h2];exact .inr ⟨rfl,_,_,rfl⟩
    · rw[eqNe (by omega),zh]
      exact .inr ⟨rfl,_,_,rfl⟩
theorem z8H{k t:qe}(h:zBo k=some t)(ht:t≠⟨#[]⟩):
  (k=⟨#[101,113,117,105,118,97,108,101,110,116]⟩∧t=⟨#[102,102,109]⟩)∨(k=⟨#[100,105,102,102,101,114,101,110,116]⟩∧t=⟨#[102,109,102,102,109,102]⟩)∨(k=⟨#[118,97,108,117,101]⟩∧t=⟨#[102,110,110,110]⟩)∨
  (k=⟨#[111,98,115,116,114,117,99,116,105,111,110]⟩∧t=⟨#[110,110,110]⟩)∨(k=⟨#[99,111,109,112,111,115,105,116,101]⟩∧t=⟨#[102,102,102,110,110,110,110,110,110,110,110]⟩)∨(k=⟨#[111,114,100,101,114]⟩∧t=⟨#[102,110]⟩)∨
  (k=⟨#[114,111,111,116]⟩∧t=⟨#[110,110,110]⟩)∨(k=⟨#[97,117,116,111,109,111,114,112,104]⟩∧t=⟨#[102,109]⟩)∨(k=⟨#[115,111,108,117,116,105,111,110]⟩∧t=⟨#[110,110,110]⟩):=by
 unfold zBo at h;simp only[eqS,za]at h;by_cases h1:k=⟨#[101,113,117,105,118,97,108,101,110,116]⟩
 ·simp only[zd h1,zb,za,zw]at h;exact .inl ⟨h1,h.symm⟩
 by_cases h2:k=⟨#[100,105,102,102,101,114,101,110,116]⟩
 ·simp only[ze h1,zd h2,zb,zc,za,zw]at h;exact .inr (.inl ⟨h2,h.symm⟩)
 by_cases h3:k=⟨#[118,97,108,117,101]⟩
 ·simp only[ze h1,ze h2,zd h3,zb,zc,za,zw]at h;exact .inr (.inr (.inl ⟨h3,h.symm⟩))
 by_cases h4:k=⟨#[111,98,115,116,114,117,99,116,105,111,110]⟩
 ·simp only[ze h1,ze h2,ze h3,zd h4,zb,zc,za,zw]at h;exact .inr (.inr (.inr (.inl ⟨h4,h.symm⟩)))
 by_cases h7:k=⟨#[114,111,111,116]⟩
 ·simp only[ze h1,ze h2,ze h3,ze h4,zd h7,zb,zc,za,zw]at h;exact .inr (.inr (.inr (.inr (.inr (.inr (.inl ⟨h7,h.symm⟩))))))
 by_cases h9:k=⟨#[115,111,108,117,116,105,111,110]⟩
 ·simp only[ze h1,ze h2,ze h3,ze h4,ze h7,zd h9,zb,zc,za,zw]at h;exact .inr (.inr (.inr (.inr (.inr (.inr (.inr (.inr ⟨h9,h.symm⟩)))))))
 by_cases h5:k=⟨#[99,111,109,112,111,115,105,116,101]⟩
 ·simp only[ze h1,ze h2,ze h3,ze h4,ze h7,ze h9,zd h5,zb,zc,za,zw]at h;exact .inr (.inr (.inr (.inr (.inl ⟨h5,h.symm⟩))))
 by_cases h6:k=⟨#[111,114,100,101,114]⟩
 ·simp only[ze h1,ze h2,ze h3,ze h4,ze h7,ze h9,ze h5,zd h6,zb,zc,za,zw]at h;exact .inr (.inr (.inr (.inr (.inr (.inl ⟨h6,h.symm⟩)))))
 by_cases h8:k=⟨#[97,117,116,111,109,111,114,112,104]⟩
 ·simp only[ze h1,ze h2,ze h3,ze h4,ze h7,ze h9,ze h5,ze h6,zd h8,zb,zc,za,zw]at h;exact .inr (.inr (.inr (.inr (.inr (.inr (.inr (.inl ⟨h8,h.symm⟩)))))))
 simp only[ze h1,ze h2,ze h3,ze h4,ze h7,ze h9,ze h5,ze h6,ze h8,zc,za,zw]at h;exact absurd h.symm ht
end Go.Proofs.YtnjhhbcccgbbnaaGreatDoor
namespace Go.Proofs.YtnjhhbcccgbbnaaGreatDoor
theorem z0N(l:List Int)(hl:l.length<1000000):∀(n i:Nat),i≤l.length→l.length - i<n→zCu 1000000 l (-1000000) n (i:Int)=some (if (l.drop i).all inN then .inl () else .inr false)
 |0,i,_,h=>by omega
 |n+1,i,hi,h=>by
  unfold zCu;rw[zJ];by_cases h1:(i:Int)<(l.length:Int)
  ·have h2:i<l.length:=by omega
   rw[zd h1,zb];rw[zCh h2,za,List.drop_eq_getElem_cons h2,List.all_cons];have hin:qP l[i] (-1000000) 1000000=some (inN l[i]):=by simp only[qP,inN];cases leI (-1000000) l[i]<;>rfl
   rw[hin,za];have ih:=z0N l hl n (i+1) (by omega) (by omega);cases hb:inN l[i] with
   |false=>simp
   |true=>simp only[zg,zc,zI,Bool.true_and];rw[zB (by omega),show ((i:Int)+1)=((i+1:Nat):Int) by omega,ih]
  ·rw[ze h1,zc,List.drop_eq_nil_of_le (by omega)];simp
theorem z5n(l:List Int)(hl:l.length<1000000):zBq l (-1000000) 1000000=some (l.all inN):=by have h:=z0N l hl FU 0 (Nat.zero_le _) (by have:=FUge;omega);have e0:(((0:Nat):Int))=0:=rfl;rw[e0,List.drop_zero]at h;unfold zBq;rw[h];cases l.all inN<;>simp
theorem zPd{d n:Int}(h1:1≤n)(h2:n≤2500):∀(fu k:Nat)(acc:List Int),(k:Int)≤2*n→2*n - k<fu→acc.length≤k→(∀x∈acc,0≤x∧x≤5000)→
  ∃l,zDQ d n fu (k:Int) acc=some l∧zP d n fu (k:Int) acc=some l∧l.length≤5000∧∀x∈l,0≤x∧x≤5000
 |0,k,acc,h3,h4,h5,h6=>by omega
 |fu+1,k,acc,h3,h4,h5,h6=>by
  unfold zDQ zP;rw[zJ,zB (show -9223372036854775808≤2*n∧2*n≤9223372036854775807 by omega)];by_cases hk:(k:Int)<2*n
  ·have hz:nz (w64 (4*n))=some ():=nzOk (by rw[zB (by omega)];omega);rw[zd hk,zb,zb,hz];simp only[za,zI,zBa (show k<1000000000 by omega)];cases eqI (Int.tmod (w64 (w64 ((k:Int)*k) - d)) (w64 (4*n))) 0 with
   |true=>
    rw[zb,zb,zA9 (by simp;omega)];simp only[za];refine zPd h1 h2 fu (k+1) _ (by omega) (by omega) (by simp;omega) ?_
    intro x hx;rw[zn]at hx;rcases hx with hx|hx
    ·exact h6 x hx
    ·rw[qd]at hx;omega
   |false=>rw[zc,zc];exact zPd h1 h2 fu (k+1) acc (by omega) (by omega) (by omega) h6
  ·rw[ze hk,zc,zc];exact⟨acc,rfl,rfl,by omega,h6⟩
theorem z0l{d n:Int}(h1:1≤n)(h2:n≤2500):∃l,zEe d n=some l∧qN d n=some l∧l.length≤5000∧∀x∈l,0≤x∧x≤5000:=by
 have hF:=FUge;obtain⟨l,g1,g2,g3,g4⟩:=zPd (d:=d) h1 h2 FU 0 [] (by omega) (by omega) (by simp) (by simp);refine⟨l,?_,?_,g3,g4⟩
 ·unfold zEe;rw[show (0:Int)=((0:Nat):Int) from rfl,g1];rfl
 ·unfold qN;rw[show (0:Int)=((0:Nat):Int) from rfl,g2];rfl
end Go.Proofs.YtnjhhbcccgbbnaaGreatDoor
namespace Go.Proofs.YtnjhhbcccgbbnaaGreatDoor
open Go.Lib
theorem zT6(f:F3)(m:Int×Int×Int×Int)(g:F3):zC6 f m g=zBw f m g:=by unfold zC6 zBw;rw[z7M,z2e]
theorem zJs(f:F3)(m:Int×Int×Int×Int)(g:F3):∃b,zBw f m g=some b:=by obtain⟨a,b,c⟩:=f;obtain⟨p,q,r,s⟩:=m;unfold zBw zA0;simp only[z8C,zI,za];cases eqI (w64 (w64 (p*s) - w64 (q*r))) 1<;>exact⟨_,rfl⟩
theorem zTM(f:F3):∃b,qA f=some b:=by unfold qA;exact⟨_,rfl⟩
theorem nbN{n:Int}(h:NB n):n.natAbs≤1000000:=by have:=h.1;have:=h.2;omega
theorem z5Q(p:Int):∀(n:Nat)(v k:Int),zC8 p n v k=zB8 p n v k
 |0,v,k=>rfl
 |n+1,v,k=>by unfold zC8 zB8;simp only[zI,z5Q p n]
theorem zZu{p:Int}(hp:2≤p)(hp2:p≤1000000):∀(n:Nat)(v k:Int),1≤v→v≤1000000→v.toNat<n→∃r,zB8 p n v k=some r
 |0,v,k,h1,h2,h3=>by omega
 |n+1,v,k,h1,h2,h3=>by
  unfold zB8;rw[zEQ (show p≠0 by omega)];simp only[za,zI];cases h:eqI (Int.tmod v p) 0 with
  |false=>exact⟨_,rfl⟩
  |true=>
   rw[zb];have e:v.tdiv p=v / p:=Int.tdiv_eq_ediv_of_nonneg (by omega);have e1:v.tmod p=v % p:=Int.tmod_eq_emod_of_nonneg (by omega);rw[zA7,beq_iff_eq,e1]at h;have h4:p*(v / p)=v:=Int.mul_ediv_cancel' (Int.dvd_of_emod_eq_zero h);have h5:1≤v / p:=by
    rcases Int.lt_or_le 0 (v / p) with h6|h6
    ·omega
    ·have:=zo h6 (show 0≤p by omega);omega
   have h6:2*(v / p)≤p*(v / p):=Int.mul_le_mul_of_nonneg_right hp (by omega);rw[e,zB (by omega)];exact zZu hp hp2 n (v / p) _ h5 (by omega) (by omega)
theorem z5R{p n:Int}(hp:2≤p)(hp2:p≤1000000)(hn:1≤n)(hn2:n≤1000000):∃r,zAI n p=some r∧jT n p=some r:=by
 have hF:1000001<FU:=by decide
 obtain⟨r,h⟩:=zZu hp hp2 FU n 0 hn hn2 (by omega);refine⟨r,?_,?_⟩
 ·unfold zAI;rw[h];rfl
 ·unfold jT;rw[z5Q,h];rfl
theorem z3F{p:Int}(h:p<2):jP p=some false:=by unfold jP;rw[zJ,zd h,zb]
theorem z4f{d n p:Int}(hd:NB d)(hn:NB n)(hp:NB p):∃b,zDw d n p=some b∧
  ((zBD d).bind fun y52=>
   (bif (bif y52 then (leI 1 n) else false) then ((qP p 2 2500).bind fun y55=>some y55) else some false).bind fun b56=>
   (bif b56 then ((zEL p).bind fun y58=>some y58) else some false).bind fun b59=>
   (bif b59 then ((jT n p).bind fun y61=>some (eqI (Int.tmod y61 2) 1)) else some false).bind fun b62=>
   (bif b62 then ((zEe d p).bind fun y64=>some (eqI ((y64.length:Int)) 0)) else some false).bind fun b65=>
   some b65)=some b:=by
 unfold zDw;rw[z1A,zZa];simp only[za,qP,z44,zS];by_cases hh:(-2000≤d∧d≤-3∧d % 4≤1)
 ·rw[zd hh,zb];by_cases h1:(1:Int)≤n
  ·rw[zd h1,zb];by_cases h2:p≤2500
   ·rw[zd h2,zb];by_cases h3:2≤p
    ·rw[zd h3,zb];obtain⟨b,hb⟩:=z0q p hp.2;simp only[hb,za,zb];cases b with
     |false=>exact⟨false,rfl,rfl⟩
     |true=>obtain⟨r,r1,r2⟩:=z5R (p:=p) (n:=n) h3 hp.2 h1 hn.2;obtain⟨l,l1,l2,_⟩:=z0l (d:=d) (n:=p) (by omega) h2;simp only[zb,r1,r2,za,l1,l2];cases eqI (Int.tmod r 2) 1<;>exact⟨_,rfl,rfl⟩
    ·rw[ze h3,zc,z3F (by omega)];exact⟨false,rfl,rfl⟩
   ·rw[ze h2,zc];cases decide (2≤p)<;>exact⟨false,rfl,rfl⟩
  ·rw[ze h1,zc];exact⟨false,rfl,rfl⟩
 ·rw[ze hh,zc];exact⟨false,rfl,rfl⟩
def fitT(h:F3)(x y u v:Int):Int:=w64 ((w64 ((w64 ((w64 (h.1*x))*y))+(w64 ((w64 (h.2.1*x))*v))))+(w64 ((w64 (h.2.2*u))*v)))
theorem z5J(f g h:F3)(a0 a1 a2 a3 b0 b1 b2 b3:Int):zFE f g [a0,a1,a2,a3,b0,b1,b2,b3] h FU 0 (List.replicate (Int.toNat 9) 0)=some [w64 (0+fitT h a0 a0 b0 b0),w64 (w64 (0+fitT h a0 a1 b0 b1)+fitT h a1 a0 b1 b0),w64 (0+fitT h a1 a1 b1 b1),
  w64 (w64 (0+fitT h a0 a2 b0 b2)+fitT h a2 a0 b2 b0),w64 (w64 (w64 (w64 (0+fitT h a0 a3 b0 b3)+fitT h a1 a2 b1 b2)+fitT h a2 a1 b2 b1)+fitT h a3 a0 b3 b0),w64 (w64 (0+fitT h a1 a3 b1 b3)+fitT h a3 a1 b3 b1),
  w64 (0+fitT h a2 a2 b2 b2),w64 (w64 (0+fitT h a2 a3 b2 b3)+fitT h a3 a2 b3 b2),w64 (0+fitT h a3 a3 b3 b3)]:=by kernel_rfl
def cmp9{α:Type}(no yes:α):List (Int×Int)→α
 |[]=>yes
 |p::l=>bif (!eqI p.1 p.2) then no else cmp9 no yes l
theorem z5K(f g:F3)(c0 c1 c2 c3 c4 c5 c6 c7 c8:Int):zEk f g [c0,c1,c2,c3,c4,c5,c6,c7,c8] FU 0=cmp9 (some (.inr false)) (some (.inl ())) [(c0,w64 (f.1*g.1)),(c1,w64 (f.1*g.2.1)),(c2,w64 (f.1*g.2.2)),(c3,w64 (f.2.1*g.1)),(c4,w64 (f.2.1*g.2.1)),(c5,w64 (f.2.1*g.2.2)),(c6,w64 (f.2.2*g.1)),(c7,w64 (f.2.2*g.2.1)),(c8,w64 (f.2.2*g.2.2))]:=by kernel_rfl
theorem zWt:∀l:List (Int×Int),(cmp9 (α:=Option (Unit ⊕ Bool)) (some (.inr false)) (some (.inl ())) l=some (.inr false)∧cmp9 (α:=Option (Bool×Bool)) (some (false,true)) (some (true,true)) l=some (false,true))∨(cmp9 (α:=Option (Unit ⊕ Bool)) (some (.inr false)) (some (.inl ())) l=some (.inl ())∧cmp9 (α:=Option (Bool×Bool)) (some (false,true)) (some (true,true)) l=some (true,true))
 |[]=>.inr ⟨rfl,rfl⟩
 |p::l=>by
  unfold cmp9;cases eqI p.1 p.2 with
  |false=>exact .inl ⟨rfl,rfl⟩
  |true=>exact zWt l
theorem z0d(p1 p2 p3 p4 q1 q2 q3 q4:Int):zCx (p1,p2,p3,p4) (q1,q2,q3,q4)=some ((w64 (p1*q1),w64 (p1*q2+p2*q1),w64 (p2*q2)),(w64 (p1*q3+p3*q1),w64 (p1*q4+p2*q3+p3*q2+p4*q1),w64 (p2*q4+p4*q2)),(w64 (p3*q3),w64 (p3*q4+p4*q3),w64 (p4*q4))):=by have ww:∀x,w64 (w64 x)=w64 x:=fun x=>zAO (by rw[zEx]);simp only[zCx,zI,wml,wmr,wal,war,Int.zero_add,ww,Int.add_assoc]
theorem fit1(h:F3)(a0 b0:Int):w64 (0+fitT h a0 a0 b0 b0)=w64 (h.1*(a0*a0)+h.2.1*(a0*b0)+h.2.2*(b0*b0)):=by
 simp only[fitT];refine zAO ?_
 simp only[zGN,zG8,zEx,Int.zero_add];generalize bv h.1=x;generalize bv h.2.1=y;generalize bv h.2.2=z;generalize bv a0=p;generalize bv b0=q;grind
theorem fit2(h:F3)(a0 a1 b0 b1:Int):w64 (w64 (0+fitT h a0 a1 b0 b1)+fitT h a1 a0 b1 b0)=w64 (h.1*(a0*a1+a1*a0)+h.2.1*(a0*b1+a1*b0)+h.2.2*(b0*b1+b1*b0)):=by
 simp only[fitT];refine zAO ?_
 simp only[zGN,zG8,zEx,Int.zero_add];generalize bv h.1=x;generalize bv h.2.1=y;generalize bv h.2.2=z;generalize bv a0=p;generalize bv b0=q;generalize bv a1=p1;generalize bv b1=q1;grind
theorem fit4(h:F3)(a0 a1 a2 a3 b0 b1 b2 b3:Int):w64 (w64 (w64 (w64 (0+fitT h a0 a3 b0 b3)+fitT h a1 a2 b1 b2)+fitT h a2 a1 b2 b1)+fitT h a3 a0 b3 b0)=w64 (h.1*(a0*a3+a1*a2+a2*a1+a3*a0)+h.2.1*(a0*b3+a1*b2+a2*b1+a3*b0)+h.2.2*(b0*b3+b1*b2+b2*b1+b3*b0)):=by
 simp only[fitT];refine zAO ?_
 simp only[zGN,zG8,zEx,Int.zero_add];generalize bv h.1=x;generalize bv h.2.1=y;generalize bv h.2.2=z;generalize bv a0=p;generalize bv b0=q;generalize bv a1=p1;generalize bv b1=q1;generalize bv a2=p2;generalize bv b2=q2;generalize bv a3=p3;generalize bv b3=q3;grind
theorem imp_c(x y z A B C:Int):w64 ((w64 ((w64 (x*w64 A))+(w64 (y*w64 B))))+(w64 (z*w64 C)))=w64 (x*A+y*B+z*C):=zAO (by simp only[zGN,zG8,zEx])
theorem z35(f g h:F3)(N:List Int)(hl:N.length=8)(hN:∀x∈N,NB x):∃r,zCg f g h N=some r∧zCa f g h N=some r:=by
 obtain⟨b1,p1,p2,_⟩:=zTX f g;obtain⟨b2,p3,p4,_⟩:=zTX f h;obtain⟨b3,p5⟩:=zTM h;have p6:zBc h=some b3:=by rw[zTu];exact p5
 have hall:N.all inN=true:=List.all_eq_true.2 fun x hx=>zEu.1 (hN x hx);have p7:qK N=some true:=by rw[zGI N (by omega),hall]
 have p8:zBq N (-1000000) 1000000=some true:=by rw[z5n N (by omega),hall]
 have p9:eqI ((N.length:Nat):Int) 8=true:=by rw[hl];rfl
 unfold zCg zCa;simp only[p1,p2,p3,p4,p5,p6,p7,p8,p9,za];have hbad:∀b:Bool,b=(bif (bif (!b1) then true else (!b2)) then true else (!b3))→True:=fun _ _=>trivial;cases b1 with
 |false=>exact⟨(false,false),rfl,rfl⟩
 |true=>
  cases b2 with
  |false=>exact⟨(false,false),rfl,rfl⟩
  |true=>
   cases b3 with
   |false=>exact⟨(false,false),rfl,rfl⟩
   |true=>
    match N,hl with
    |[a0,a1,a2,a3,c0,c1,c2,c3],_=>
     have s1:slc ([a0,a1,a2,a3,c0,c1,c2,c3]:List Int).length 0 4=some ():=rfl;have s2:slc ([a0,a1,a2,a3,c0,c1,c2,c3]:List Int).length 4 (([a0,a1,a2,a3,c0,c1,c2,c3]:List Int).length:Int)=some ():=rfl;have e1:subl [a0,a1,a2,a3,c0,c1,c2,c3] 0 4=[a0,a1,a2,a3]:=rfl;have e2:subl [a0,a1,a2,a3,c0,c1,c2,c3] 4 (([a0,a1,a2,a3,c0,c1,c2,c3]:List Int).length:Int)=[c0,c1,c2,c3]:=rfl;have g0:∀x y z w:Int,getI [x,y,z,w] 0=some x:=fun _ _ _ _=>rfl;have g1:∀x y z w:Int,getI [x,y,z,w] 1=some y:=fun _ _ _ _=>rfl;have g2:∀x y z w:Int,getI [x,y,z,w] 2=some z:=fun _ _ _ _=>rfl;have g3:∀x y z w:Int,getI [x,y,z,w] 3=some w:=fun _ _ _ _=>rfl;have m9:mk 9 9=some ():=rfl;simp only[zg,zc,za,s1,s2,e1,e2,g0,g1,g2,g3,z0d,imp_c,zGg,m9,z5J,z5K,fit1,fit2,fit4];rcases zWt [(w64 (h.1*(a0*a0)+h.2.1*(a0*c0)+h.2.2*(c0*c0)),w64 (f.1*g.1)),(w64 (h.1*(a0*a1+a1*a0)+h.2.1*(a0*c1+a1*c0)+h.2.2*(c0*c1+c1*c0)),w64 (f.1*g.2.1)),(w64 (h.1*(a1*a1)+h.2.1*(a1*c1)+h.2.2*(c1*c1)),w64 (f.1*g.2.2)),
      (w64 (h.1*(a0*a2+a2*a0)+h.2.1*(a0*c2+a2*c0)+h.2.2*(c0*c2+c2*c0)),w64 (f.2.1*g.1)),(w64 (h.1*(a0*a3+a1*a2+a2*a1+a3*a0)+h.2.1*(a0*c3+a1*c2+a2*c1+a3*c0)+h.2.2*(c0*c3+c1*c2+c2*c1+c3*c0)),w64 (f.2.1*g.2.1)),(w64 (h.1*(a1*a3+a3*a1)+h.2.1*(a1*c3+a3*c1)+h.2.2*(c1*c3+c3*c1)),w64 (f.2.1*g.2.2)),
      (w64 (h.1*(a2*a2)+h.2.1*(a2*c2)+h.2.2*(c2*c2)),w64 (f.2.2*g.1)),(w64 (h.1*(a2*a3+a3*a2)+h.2.1*(a2*c3+a3*c2)+h.2.2*(c2*c3+c3*c2)),w64 (f.2.2*g.2.1)),(w64 (h.1*(a3*a3)+h.2.1*(a3*c3)+h.2.2*(c3*c3)),w64 (f.2.2*g.2.2))] with⟨k1,k2⟩|⟨k1,k2⟩
     ·rw[k1];exact⟨(false,true),k2,rfl⟩
     ·rw[k1];exact⟨(true,true),k2,rfl⟩
end Go.Proofs.YtnjhhbcccgbbnaaGreatDoor
namespace Go.Proofs.YtnjhhbcccgbbnaaGreatDoor
theorem zW2{D:Int}(hD1:-2000≤D)(hD:D<0)(h4:D % 4≤1):zDF D=some (pF D):=by simp only[zDF];rw[zF2,zA4 (by omega) (by omega)];simp only[za,zI];rw[zB (n:=D % 2 - D) (by omega),tdv (a:=D % 2 - D) (b:=4) (c:=(D % 2 - D) / 4) (by decide) (by omega),zB (by omega)];rfl
theorem z1F{D:Int}(hD:D<0){f:F3}(h:CFc D f):∃r:Nat,zD5 f=some (r:Int)∧1≤r∧r≤1600∧gP (gC D hD f) r=g1 D hD∧∀j,1≤j→j<r→gP (gC D hD f) j≠g1 D hD:=by have hF:=FUge;have hD1:=h.2.2.2.1;have hcf:=h.2.2.1;obtain⟨g,j1,j2,j3,j4,j5⟩:=redG hD hcf;obtain⟨M,m1,m2,m3⟩:=zZ6 hD1 hD hcf;obtain⟨r,r1,r2,r3,r4,r5⟩:=zPj hD1 hD hcf m2 m3 FU 1 g (by omega) (by omega) m1 j4 (by rw[j5,zTm (zZn hcf)]);have r1':zBv f FU 1 g.1 g.2.1 g.2.2=some (r:Int):=r1;exact⟨r,by simp only[zD5,h.1,za,zg,zc,j1,r1'],r2,by omega,r4,r5⟩
theorem zS8{D:Int}(hD1:-2000≤D)(hD:D<0):∀(n k:Nat)(p f:F3),k<n→k≤1000000→CF D p→PrRc D p→CF D f→∃h,zD0 n (k:Int) p.1 p.2.1 p.2.2 f.1 f.2.1 f.2.2=some h∧PrRc D h∧gC D hD h=gM (gC D hD p) (gP (gC D hD f) k)
 |0,k,p,f,hk,_,_,_,_=>by omega
 |n+1,k,p,f,hk,hM,hp,hpp,hf=>by
  rw[zD0,zJ];have h1:=zYM hD (cf_4 hf) hD1;by_cases h0:k=0
  ·subst h0;rw[ze (by omega),zc];exact⟨p,rfl,hpp,(z5E (zZn hp)).symm⟩
  ·rw[zd (show (0:Int)<(k:Int) by omega),zb];have et:Int.tmod (k:Int) 2=((k % 2:Nat):Int):=rfl;have ed:Int.tdiv (k:Int) 2=((k / 2:Nat):Int):=rfl;obtain⟨ff,f1,f2,f3,f4,f5⟩:=z0A hD1 hD hf hf;have hsplit:=z8J (x:=gC D hD f) h1 (k / 2);by_cases ho:k % 2=1
   ·obtain⟨j,j1,j2,j3,j4,j5⟩:=z0A hD1 hD hp hf;have e1:eqI (Int.tmod (k:Int) 2) 1=true:=by rw[et,ho];rfl
    have e2:zB4 (p.1,p.2.1,p.2.2) (f.1,f.2.1,f.2.2)=some j:=j2;have e3:zB4 (f.1,f.2.1,f.2.2) (f.1,f.2.1,f.2.2)=some ff:=f2;rw[e1,zb,e2];simp only[za,e3,zI,ed];rw[zB (n:=((k / 2:Nat):Int)) (by omega)];obtain⟨h,i1,i2,i3⟩:=zS8 hD1 hD n (k / 2) j ff (by omega) (by omega) j4 j3 f4;refine⟨h,i1,i2,?_⟩;rw[i3,j5,f5,hsplit,zFT,zO9 (gC D hD f) (gP _ _)];have:k=2*(k / 2)+1:=by omega
    exact congrArg (fun z=>gM (gC D hD p) (gP (gC D hD f) z)) this.symm
   ·have e1:eqI (Int.tmod (k:Int) 2) 1=false:=by rw[et,show k % 2=0 by omega];rfl
    have e3:zB4 (f.1,f.2.1,f.2.2) (f.1,f.2.1,f.2.2)=some ff:=f2;rw[e1,zc];simp only[za,e3,zI,ed];rw[zB (n:=((k / 2:Nat):Int)) (by omega)];obtain⟨h,i1,i2,i3⟩:=zS8 hD1 hD n (k / 2) p ff (by omega) (by omega) hp hpp f4;refine⟨h,i1,i2,?_⟩;rw[i3,f5,hsplit];have:k=2*(k / 2):=by omega
    exact congrArg (fun z=>gM (gC D hD p) (gP (gC D hD f) z)) this.symm
theorem z4G{D:Int}(hD:D<0){f:F3}(h:CFc D f)(k:Nat)(hk:k≤1000000):∃g,zD1 f (k:Int)=some g∧PrRc D g∧gC D hD g=gP (gC D hD f) k:=by
 have hF:=FUge;have hD1:=h.2.2.2.1;have hcf:=h.2.2.1;have h4:=cf_4 hcf;have hp:=zPh hD1 hD h4;obtain⟨ru,j1,j2,j3,j4,j5⟩:=redG hD hcf;obtain⟨g,i1,i2,i3⟩:=zS8 hD1 hD FU k (pF D) ru (Nat.lt_of_le_of_lt hk (by decide)) hk (zFj hD1 hD hp) hp j4;refine⟨g,?_,i2,?_⟩
 ·unfold zD1;rw[j2,za,zJ,ze (by omega),zc];have e:qO (ru.1,ru.2.1,ru.2.2)=some D:=by rw[zF3];exact zGy hD1 j4
  simp only[za,e,zW2 hD1 hD h4,i1]
 ·rw[i3,j5];exact gP_F (zYM hD h4 hD1) k
def IsP(q:Nat):Prop:=2≤q∧∀a,a∣q→a=1∨a=q
theorem z24{d:Nat}(hd:2≤d)(hd2:d≤1000000):∀(fu v:Nat)(l:List Int),1≤v→v≤1000000→v<fu→l.length+v≤2000000→∃(v':Nat) (m:List Int),zC7 (d:Int) fu (v:Int) l=some ((v':Int),l++m)∧1≤v'∧v'≤v∧¬d∣v'∧v'∣v∧(∀x∈m,x=(d:Int)∧d∣v)∧(∀q,IsP q→q∣v→q∣v'∨((d:Int)∈m∧q∣d))∧(m=[]→v'=v)∧m.length+v'≤v
 |0,v,l,h1,h2,h3,h4=>by omega
 |fu+1,v,l,h1,h2,h3,h4=>by
  rw[zC7,zEQ (show (d:Int)≠0 by omega),za];have et:Int.tmod (v:Int) (d:Int)=((v % d:Nat):Int):=rfl;have ed:Int.tdiv (v:Int) (d:Int)=((v / d:Nat):Int):=rfl;rw[et,ed,zA7];by_cases h:v % d=0
  ·have hdv:d∣v:=Nat.dvd_of_mod_eq_zero h;have hm:d*(v / d)=v:=Nat.mul_div_cancel' hdv;have h5:1≤v / d:=Nat.div_pos (Nat.le_of_dvd (by omega) hdv) (by omega);have h6:2*(v / d)≤d*(v / d):=Nat.mul_le_mul_right _ hd;have hb:(((v % d:Nat):Int)==0)=true:=by rw[h];rfl
   rw[hb,zb,zA9 (by simp;omega),za];simp only[za,zI];rw[zB (n:=((v / d:Nat):Int)) (by omega)];obtain⟨v',m,a1,a2,a3,a4,a5,a6,a7,a8,a9⟩:=z24 hd hd2 fu (v / d) (l++[(d:Int)]) h5 (by omega) (by omega) (by simp;omega);refine⟨v',(d:Int)::m,by rw[a1,List.append_assoc];rfl,a2,by omega,a4,Nat.dvd_trans a5 ⟨d,by rw[Nat.mul_comm];exact hm.symm⟩,?_,?_,by simp,by simp;omega⟩
   ·intro x hx;rcases List.mem_cons.1 hx with rfl|hx
    ·exact⟨rfl,hdv⟩
    ·exact⟨(a6 x hx).1,hdv⟩
   ·intro q hq hqv;by_cases hqd:q∣d
    ·exact .inr ⟨zl ..,hqd⟩
    ·have hc:Nat.Coprime q d:=by
      rcases hq.2 _ (Nat.gcd_dvd_left q d) with h7|h7
      ·exact h7
      ·exact absurd (h7▸Nat.gcd_dvd_right q d) hqd
     have:q∣v / d:=hc.dvd_of_dvd_mul_left (by rw[hm];exact hqv);rcases a7 q hq this with h8|⟨h8,h9⟩
     ·exact .inl h8
     ·exact absurd h9 hqd
  ·have hb:(((v % d:Nat):Int)==0)=false:=by rw[zr];omega
   rw[hb,zc];exact⟨v,[],by simp,h1,Nat.le_refl _,fun hh=>h (Nat.mod_eq_zero_of_dvd hh),Nat.dvd_refl _,by simp,fun q _ hq=>.inl hq,fun _=>rfl,by simp⟩
theorem zZt(N:Nat)(hN:N≤1000000)(hN1:1≤N):∀(fu v d:Nat)(l:List Int),1≤v→v∣N→2≤d→d≤1001→1002 - d<fu→l.length+v≤1000000→(∀a,2≤a→a<d→¬a∣v)→(∀x∈l,∃a:Nat,x=(a:Int)∧2≤a∧a∣N)→(∀q,IsP q→q∣N→q∣v∨(q:Int)∈l)→
  ∃(v':Nat) (l':List Int),zCD fu (v:Int) (d:Int) l=some ((v':Int),l')∧1≤v'∧v'∣N∧(v'=1∨IsP v')∧(∀x∈l',∃a:Nat,x=(a:Int)∧2≤a∧a∣N)∧(∀q,IsP q→q∣N→q∣v'∨(q:Int)∈l')∧l'.length+v'≤1000000
 |0,v,d,l,h1,h2,h3,h4,h5,h6,h7,h8,h9=>by omega
 |fu+1,v,d,l,h1,h2,h3,h4,h5,h6,h7,h8,h9=>by
  have hv:v≤N:=Nat.le_of_dvd (by omega) h2;have hF:1000001<FU:=by decide
  have hdd:d*d≤1001*1001:=Nat.mul_le_mul h4 h4;have edd:(d:Int)*(d:Int)=((d*d:Nat):Int):=by push_cast;rfl
  rw[zCD,zS,zB (n:=(d:Int)*(d:Int)) (by omega)];by_cases h:d*d≤v
  ·have hb:decide ((d:Int)*(d:Int)≤(v:Int))=true:=by
    rw[qc];omega
   have hd3:d≤1000:=by
    rcases Nat.lt_or_ge 1000 d with h10|h10
    ·have:1001*1001≤d*d:=Nat.mul_le_mul h10 h10;omega
    ·exact h10
   obtain⟨v',m,a1,a2,a3,a4,a5,a6,a7,a8,a9⟩:=z24 h3 (by omega) FU v l h1 (by omega) (by omega) (by omega);rw[hb,zb,a1,za];simp only[zI];rw[zBa (by omega)];refine zZt N hN hN1 fu v' (d+1) (l++m) a2 (Nat.dvd_trans a5 h2) (by omega) (by omega) (by omega) (by simp;omega) ?_ ?_ ?_
   ·intro a ha1 ha2 ha3;by_cases e:a=d
    ·subst e;exact a4 ha3
    ·exact h7 a ha1 (by omega) (Nat.dvd_trans ha3 a5)
   ·intro x hx;rcases List.mem_append.1 hx with hx|hx
    ·exact h8 x hx
    ·obtain⟨e,e2⟩:=a6 x hx;exact⟨d,e,h3,Nat.dvd_trans e2 h2⟩
   ·intro q hq hqN;rcases h9 q hq hqN with h10|h10
    ·rcases a7 q hq h10 with h11|⟨h11,h12⟩
     ·exact .inl h11
     ·have hdP:d∣v:=(a6 _ h11).2;have:q=d:=by
       rcases Nat.lt_or_ge q d with h13|h13
       ·exact absurd h10 (h7 q hq.1 h13)
       ·have:=Nat.le_of_dvd (by omega) h12;omega
      rw[this];exact .inr (List.mem_append_right _ h11)
    ·exact .inr (List.mem_append_left _ h10)
  ·have hb:decide ((d:Int)*(d:Int)≤(v:Int))=false:=by
    rw[decide_eq_false_iff_not];omega
   rw[hb,zc];refine⟨v,l,rfl,h1,h2,?_,h8,h9,h6⟩;by_cases h10:v=1
   ·exact .inl h10
   ·refine .inr ⟨by omega,fun a ha=>?_⟩;by_cases h11:a=1
    ·exact .inl h11
    ·have ha0:0<a:=Nat.pos_of_dvd_of_pos ha (by omega);have h12:d≤a:=by
      rcases Nat.lt_or_ge a d with h13|h13
      ·exact absurd ha (h7 a (by omega) h13)
      ·exact h13
     obtain⟨b,hb2⟩:=ha;by_cases h13:b=1
     ·rw[h13,Nat.mul_one]at hb2;exact .inr hb2.symm
     ·have hb0:0<b:=by
       rcases Nat.eq_zero_or_pos b with h14|h14
       ·rw[h14,Nat.mul_zero]at hb2;omega
       ·exact h14
      have h14:d≤b:=by
       rcases Nat.lt_or_ge b d with h15|h15
       ·exact absurd ⟨a,by rw[Nat.mul_comm];exact hb2⟩ (h7 b (by omega) h15)
       ·exact h15
      have:=Nat.mul_le_mul h12 h14;omega
theorem z5N{N:Nat}(h1:1≤N)(h2:N≤1000000):∃l,zEM (N:Int)=some l∧(∀x∈l,∃a:Nat,x=(a:Int)∧2≤a∧a∣N)∧(∀q,IsP q→q∣N→(q:Int)∈l)∧l.length≤1000000:=by
 have hF:=FUge;obtain⟨v',l',a1,a2,a3,a4,a5,a6,a7⟩:=zZt N h2 h1 FU N 2 [] h1 (Nat.dvd_refl _) (by omega) (by omega) (by omega) (by simp;omega) (fun a _ _=>by omega) (by simp) (fun q _ h=>.inl h);have a1':zCD FU (N:Int) 2 []=some ((v':Int),l'):=a1;unfold zEM;rw[a1',za,zJ];by_cases h:v'=1
 ·rw[ze (by rw[h];show ¬(1:Int)<((1:Nat):Int);omega),zc];refine⟨l',rfl,a5,fun q hq hqN=>?_,by omega⟩;rcases a6 q hq hqN with h3|h3
  ·have:=Nat.le_of_dvd (by omega) h3;have:=hq.1;omega
  ·exact h3
 ·have hp:=a4.resolve_left h;rw[zd (show (1:Int)<(v':Int) by omega),zb,zA9 (by simp;omega),za];refine⟨l'++[(v':Int)],rfl,?_,fun q hq hqN=>?_,by simp;omega⟩
  ·intro x hx;rcases List.mem_append.1 hx with hx|hx
   ·exact a5 x hx
   ·rw[qd]at hx;exact⟨v',hx,hp.1,a3⟩
  ·rcases a6 q hq hqN with h3|h3
   ·rcases hp.2 q h3 with h4|h4
    ·have:=hq.1;omega
    ·exact List.mem_append_right _ (by rw[h4];exact List.mem_singleton.2 rfl)
   ·exact List.mem_append_left _ h3
theorem z41(l:List Int)(v:Int)(hl:l.length≤1000000):∀(fu k:Nat),k≤l.length→l.length - k<fu→∃j:Nat,zDk l v fu (k:Int)=some (j:Int)∧j≤l.length
 |0,k,h1,h2=>by omega
 |fu+1,k,h1,h2=>by
  rw[zDk,zJ];by_cases h:k<l.length
  ·rw[zd (show (k:Int)<(l.length:Int) by omega),zb,zCh h];simp only[za,zI];cases ltI l[k] v with
   |false=>exact⟨k,rfl,h1⟩
   |true=>rw[zb,zBa (by omega)];exact z41 l v hl fu (k+1) (by omega) (by omega)
  ·rw[ze (show ¬(k:Int)<(l.length:Int) by omega),zc];exact⟨k,rfl,h1⟩
theorem z4Z(l:List Int)(v:Int)(hl:l.length≤1000000):∃l',zGA l v=some l'∧(∀x,x∈l'↔x=v∨x∈l)∧l'.length≤l.length+1:=by
 have hF:1000001<FU:=by decide
 obtain⟨j,j1,j2⟩:=z41 l v hl FU 0 (Nat.zero_le _) (by omega);have j1':zDk l v FU 0=some (j:Int):=j1;unfold zGA;rw[j1',za,zJ];have hins:∃l',((slc l.length 0 (j:Int)).bind fun u15=>(room ((([]:List Int)).length+(subl l 0 (j:Int)).length)).bind fun u16=>(room (((([]:List Int))++(subl l 0 (j:Int))).length+([v]).length)).bind fun u17=>(slc l.length (j:Int) ((l.length:Int))).bind fun u18=>(room ((((([]:List Int))++(subl l 0 (j:Int)))++([v])).length+(subl l (j:Int) ((l.length:Int))).length)).bind fun u19=>(some ((((([]:List Int))++(subl l 0 (j:Int)))++([v]))++(subl l (j:Int) ((l.length:Int))))).bind fun l20=>some l20)=some l'∧(∀x,x∈l'↔x=v∨x∈l)∧l'.length≤l.length+1:=by
  have e1:subl l 0 (j:Int)=l.take j:=by simp[subl]
  have e2:subl l (j:Int) (l.length:Int)=l.drop j:=by unfold subl;rw[zi,zi,List.take_of_length_le (by simp)]
  have s1:slc l.length 0 (j:Int)=some ():=by unfold slc;rw[zS,zS,zS,zd (by omega),zd (by omega),zd (by omega)];rfl
  have s2:slc l.length (j:Int) (l.length:Int)=some ():=by unfold slc;rw[zS,zS,zS,zd (by omega),zd (by omega),zd (by omega)];rfl
  have hlt:(l.take j).length=j:=by rw[List.length_take];omega
  have hld:(l.drop j).length=l.length - j:=List.length_drop;rw[s1,s2,e1,e2];rw[za,zA9 (by simp;omega),za,zA9 (by simp;omega),za,za,zA9 (by simp;omega),za,za];refine⟨_,rfl,fun x=>?_,by simp;omega⟩;have hm:x∈l↔x∈l.take j∨x∈l.drop j:=by rw[←zn,List.take_append_drop]
  simp only[zq,zn,qd,hm];constructor
  ·rintro ((h|h)|h)
   ·exact .inr (.inl h)
   ·exact .inl h
   ·exact .inr (.inr h)
  ·rintro (h|h|h)
   ·exact .inl (.inr h)
   ·exact .inl (.inl h)
   ·exact .inr h
 by_cases h:j<l.length
 ·rw[zd (show (j:Int)<(l.length:Int) by omega),zb,zCh h];simp only[za];cases he:eqI l[j] v with
  |true=>
   rw[zb];rw[zA7,beq_iff_eq]at he;refine⟨l,rfl,fun x=>⟨.inr,?_⟩,by omega⟩;rintro (h2|h2)
   ·rw[h2,←he];exact zt h
   ·exact h2
  |false=>rw[zc];exact hins
 ·rw[ze (show ¬(j:Int)<(l.length:Int) by omega),zc];exact hins
theorem zTS(y:List Int)(hy:y.length≤1000000):∀(fu k:Nat)(out:List Int),k≤y.length→y.length - k<fu→out.length≤k→∃l,zCQ y fu out (k:Int)=some l∧(∀x,x∈l↔x∈out∨x∈y.drop k)∧l.length≤y.length
 |0,k,out,h1,h2,h3=>by omega
 |fu+1,k,out,h1,h2,h3=>by
  rw[zCQ,zJ];by_cases h:k<y.length
  ·rw[zd (show (k:Int)<(y.length:Int) by omega),zb,zCh h];obtain⟨o,o1,o2,o3⟩:=z4Z out y[k] (by omega);simp only[za,zI,o1];rw[zBa (by omega)];obtain⟨l,l1,l2,l3⟩:=zTS y hy fu (k+1) o (by omega) (by omega) (by omega);refine⟨l,l1,fun x=>?_,l3⟩;rw[l2,o2,List.drop_eq_getElem_cons h,zk];constructor
   ·rintro ((h4|h4)|h4)
    ·exact .inr (.inl h4)
    ·exact .inl h4
    ·exact .inr (.inr h4)
   ·rintro (h4|h4|h4)
    ·exact .inl (.inr h4)
    ·exact .inl (.inl h4)
    ·exact .inr h4
  ·rw[ze (show ¬(k:Int)<(y.length:Int) by omega),zc,List.drop_eq_nil_of_le (by omega)];exact⟨out,rfl,fun x=>by simp,by omega⟩
theorem z0p{N:Nat}(h1:1≤N)(h2:N≤1000000):∃l,zB2 (N:Int)=some l∧(∀x∈l,∃a:Nat,x=(a:Int)∧2≤a∧a∣N)∧(∀q,IsP q→q∣N→(q:Int)∈l)∧l.length≤1000000:=by
 have hF:1000001<FU:=by decide
 obtain⟨y,y1,y2,y3,y4⟩:=z5N h1 h2;obtain⟨l,l1,l2,l3⟩:=zTS y y4 FU 0 [] (Nat.zero_le _) (by omega) (by simp);have l1':zCQ y FU [] 0=some l:=l1;have hm:∀x,x∈l↔x∈y:=fun x=>by rw[l2];simp
 unfold zB2;rw[y1,za,l1'];exact⟨l,rfl,fun x hx=>y2 x ((hm x).1 hx),fun q hq hqN=>(hm _).2 (y3 q hq hqN),by omega⟩
theorem zZY:∀(k m:Nat),m≤k→2≤m→∃q,IsP q∧q∣m
 |0,m,h1,h2=>by omega
 |k+1,m,h1,h2=>by
  by_cases h:∀a,a∣m→a=1∨a=m
  ·exact⟨m,⟨h2,h⟩,Nat.dvd_refl _⟩
  ·have ⟨a,ha⟩:∃a,¬(a∣m→a=1∨a=m):=Classical.not_forall.1 h;have ha1:a∣m:=Classical.byContradiction fun hh=>ha fun h3=>absurd h3 hh;have ha2:a≠1:=fun hh=>ha fun _=>.inl hh;have ha3:a≠m:=fun hh=>ha fun _=>.inr hh;have ha4:a≤m:=Nat.le_of_dvd (by omega) ha1;have ha5:0<a:=Nat.pos_of_dvd_of_pos ha1 (by omega);obtain⟨q,q1,q2⟩:=zZY k a (by omega) (by omega);exact⟨q,q1,Nat.dvd_trans q2 ha1⟩
theorem z1H{D:Int}{hD:D<0}{x:GG D hD}(h1:gF (g1 D hD)){r:Nat}(h:gP x r=g1 D hD):∀k,gP x (r*k)=g1 D hD
 |0=>rfl
 |k+1=>by rw[Nat.mul_succ,zYL h1,z1H h1 h k,h];exact h1
theorem z9H{D:Int}{hD:D<0}{x:GG D hD}(h1:gF (g1 D hD)){r n:Nat}(h:gP x r=g1 D hD)(hn:gP x n=g1 D hD):gP x (n % r)=g1 D hD:=by have e:gP x (r*(n / r)+n % r)=gM (gP x (r*(n / r))) (gP x (n % r)):=zYL h1 _ _;rw[Nat.div_add_mod,hn,z1H h1 h]at e;rw[e];exact (gP_F h1 _).symm
theorem eq3{f g:F3}{b:Bool}(h:((f.1==g.1)&&((f.2.1==g.2.1)&&(f.2.2==g.2.2)))=b):b=true↔f=g:=by
 rw[←h,zj,zj,beq_iff_eq,beq_iff_eq,beq_iff_eq];constructor
 ·rintro⟨a,b,c⟩;exact Prod.ext a (Prod.ext b c)
 ·rintro rfl;exact⟨rfl,rfl,rfl⟩
theorem z47{D:Int}(hD:D<0){f:F3}(h:CFc D f)(k:Nat)(hk:k≤1000000):∃g b,zD1 f (k:Int)=some g∧((g.1==(pF D).1)&&((g.2.1==(pF D).2.1)&&(g.2.2==(pF D).2.2)))=b∧(b=true↔gP (gC D hD f) k=g1 D hD):=by
 have hp:=zPh h.2.2.2.1 hD (cf_4 h.2.2.1);obtain⟨g,g1',g2,g3⟩:=z4G hD h k hk;refine⟨g,_,g1',rfl,(eq3 rfl).trans ?_⟩;rw[←g3];constructor
 ·rintro rfl;rfl
 ·intro e;exact zXt g2 hp e
theorem z2P{D:Int}(hD:D<0){f:F3}(h:CFc D f){N:Nat}(hN:N≤1000000)(L:List Int)(hl:L.length≤1000000)(hL:∀x∈L,∃a:Nat,x=(a:Int)∧2≤a∧a∣N):∀(fu k:Nat),k≤L.length→L.length - k<fu→
  (zCP f (N:Int) L (pF D) fu (k:Int)=some (.inr false)∧∃a:Nat,(a:Int)∈L∧2≤a∧a∣N∧gP (gC D hD f) (N / a)=g1 D hD)∨
  (zCP f (N:Int) L (pF D) fu (k:Int)=some (.inl ())∧∀a:Nat,(a:Int)∈L.drop k→gP (gC D hD f) (N / a)≠g1 D hD)
 |0,k,h1,h2=>by omega
 |fu+1,k,h1,h2=>by
  rw[zCP,zJ];by_cases hk:k<L.length
  ·rw[zd (show (k:Int)<(L.length:Int) by omega),zb,zCh hk];obtain⟨a,a1,a2,a3⟩:=hL L[k] (zt hk);have hmem:(a:Int)∈L:=a1▸zt hk;have hd:L.drop k=(a:Int)::L.drop (k+1):=by rw[List.drop_eq_getElem_cons hk,a1]
   rw[a1];have ed:Int.tdiv (N:Int) (a:Int)=((N / a:Nat):Int):=rfl;have hle:N / a≤N:=Nat.div_le_self _ _;obtain⟨g,b,p1,p2,p3⟩:=z47 hD h (N / a) (by omega);simp only[za,zI,zEQ (show (a:Int)≠0 by omega),ed];have hw:w64 ((N / a:Nat):Int)=((N / a:Nat):Int):=by generalize N / a=c at hle;exact zB (by omega)
   rw[hw,p1];simp only[za];rw[p2];cases b with
   |true=>rw[zb];exact .inl ⟨rfl,a,hmem,a2,a3,p3.1 rfl⟩
   |false=>
    rw[zc,zBa (by omega)];rcases z2P hD h hN L hl hL fu (k+1) (by omega) (by omega) with⟨h3,h4⟩|⟨h3,h4⟩
    ·exact .inl ⟨h3,h4⟩
    ·refine .inr ⟨h3,fun c hc=>?_⟩;rw[hd]at hc;rcases List.mem_cons.1 hc with h5|h5
     ·have:c=a:=by omega
      rw[this];intro h6;exact absurd (p3.2 h6) (by decide)
     ·exact h4 c h5
  ·rw[ze (show ¬(k:Int)<(L.length:Int) by omega),zc,List.drop_eq_nil_of_le (by omega)];exact .inr ⟨rfl,by simp⟩
theorem zZ7(f:F3){n:Int}(hn:NB n):∃b,zFF f n=some b∧zEm f n=some b:=by
 have hF:1000001<FU:=by decide
 unfold zFF zEm;rw[zFi];obtain⟨cb,hcb⟩:=zHs f;rw[hcb,za,za];cases cb with
 |false=>exact⟨false,rfl,rfl⟩
 |true=>
  by_cases h1:n<1
  ·have e1:leI 1 n=false:=by rw[zS,ze (by omega)]
   have e2:ltI n 1=true:=by rw[zJ,zd h1]
   rw[e1,e2];exact⟨false,rfl,rfl⟩
  ·have e1:leI 1 n=true:=by rw[zS,zd (by omega)]
   have e2:ltI n 1=false:=by rw[zJ,ze h1]
   obtain⟨N,rfl⟩:∃N:Nat,n=(N:Int):=⟨n.toNat,by omega⟩
   have hN:N≤1000000:=by have:=hn.2;omega
   have hN1:1≤N:=by omega
   have hf:=zUC hcb;generalize hDD:f.2.1*f.2.1 - 4*f.1*f.2.2=D at hf;have hD:=hf.2.2.2.2;have h4:=cf_4 hf.2.2.1;have hone:=zYM hD h4 hf.2.2.2.1;obtain⟨r,r1,r2,r3,r4,r5⟩:=z1F hD hf;rw[e1,e2,r1];simp only[zb,za,zg,zc];rw[zF3,hf.2.1,za,zW2 hf.2.2.2.1 hD h4,za];obtain⟨g,b,p1,p2,p3⟩:=z47 hD hf N hN;rw[p1];simp only[za];rw[p2];cases b with
   |false=>
    refine⟨false,?_,rfl⟩;rw[zA7];congr 1;rw[zr];intro h6;have:r=N:=by omega
    rw[this]at r4;exact absurd (p3.2 r4) (by decide)
   |true=>
    have hNe:=p3.1 rfl;obtain⟨L,l1,l2,l3,l4⟩:=z0p hN1 hN;rw[l1];simp only[zg,zc,za];have hrun:=z2P hD hf hN L l4 l2 FU 0 (Nat.zero_le _) (by omega);have e0:(((0:Nat):Int))=0:=rfl;rw[e0,List.drop_zero]at hrun;by_cases hr:r=N
    ·refine⟨true,by rw[hr,zB1],?_⟩;rcases hrun with⟨_,a,_,a2,a3,a4⟩|⟨h5,_⟩
     ·have hpos:1≤N / a:=Nat.div_pos (Nat.le_of_dvd (by omega) a3) (by omega);have hlt:N / a<N:=Nat.div_lt_self (by omega) (by omega);exact absurd a4 (r5 (N / a) hpos (by omega))
     ·rw[h5];rfl
    ·refine⟨false,by rw[zDU (by omega)],?_⟩;have hrem:=z9H hone r4 hNe;have hrem0:N % r=0:=by
      rcases Nat.eq_zero_or_pos (N % r) with h6|h6
      ·exact h6
      ·exact absurd hrem (r5 _ h6 (Nat.mod_lt _ (by omega)))
     have hm:r*(N / r)=N:=Nat.mul_div_cancel' (Nat.dvd_of_mod_eq_zero hrem0);have hm2:2≤N / r:=by
      rcases Nat.lt_or_ge (N / r) 2 with h6|h6
      ·have h8:N / r=0∨N / r=1:=by
        generalize N / r=c at h6;omega
       rcases h8 with h7|h7
       ·rw[h7]at hm;omega
       ·rw[h7]at hm;omega
      ·exact h6
     obtain⟨q,q1,q2⟩:=zZY (N / r) (N / r) (Nat.le_refl _) hm2;have hqN:q∣N:=Nat.dvd_trans q2 ⟨r,by rw[Nat.mul_comm];exact hm.symm⟩;have hq0:0<q:=by have:=q1.1;omega
     rcases hrun with⟨h5,_⟩|⟨_,h5⟩
     ·rw[h5];rfl
     ·refine absurd ?_ (h5 q (l3 q q1 hqN))
      obtain⟨c,hc⟩:=q2;have:N / q=r*c:=by rw[←hm,hc,show r*(q*c)=q*(r*c) by rw[←Nat.mul_assoc,←Nat.mul_assoc,Nat.mul_comm r q],Nat.mul_div_cancel_left _ hq0]
      rw[this];exact z1H hone r4 c
end Go.Proofs.YtnjhhbcccgbbnaaGreatDoor
namespace Go.Proofs.YtnjhhbcccgbbnaaGreatDoor
open Go.Lib
def kA1:qe:=⟨#[101,113,117,105,118,97,108,101,110,116]⟩
def kA2:qe:=⟨#[100,105,102,102,101,114,101,110,116]⟩
def kA3:qe:=⟨#[118,97,108,117,101]⟩
def kA4:qe:=⟨#[111,98,115,116,114,117,99,116,105,111,110]⟩
def kA5:qe:=⟨#[99,111,109,112,111,115,105,116,101]⟩
def kA6:qe:=⟨#[111,114,100,101,114]⟩
def kA7:qe:=⟨#[114,111,111,116]⟩
def kA8:qe:=⟨#[97,117,116,111,109,111,114,112,104]⟩
def kA9:qe:=⟨#[115,111,108,117,116,105,111,110]⟩
theorem gi0{α:Type}(a:α)(l:List α):getI (a::l) 0=some a:=rfl
theorem gi1{α:Type}(a b:α)(l:List α):getI (a::b::l) 1=some b:=rfl
theorem gi2{α:Type}(a b c:α)(l:List α):getI (a::b::c::l) 2=some c:=rfl
theorem gi3{α:Type}(a b c d:α)(l:List α):getI (a::b::c::d::l) 3=some d:=rfl
theorem k1(f0 f1:F3)(m0:Int×Int×Int×Int):∃b,zL (kA1,[f0,f1],[m0],[])=some b∧qE kA1 ([f0,f1],[m0],[])=some b:=by
 obtain⟨b,hb⟩:=zJs f0 m0 f1;refine⟨b,?_,?_⟩
 ·simp only[zL,eqS,show decide (kA1=(⟨#[101,113,117,105,118,97,108,101,110,116]⟩:qe))=true by decide,za,zb,zc,gi0,gi1,hb]
 ·simp only[qE,eqS,show decide (kA1=(⟨#[101,113,117,105,118,97,108,101,110,116]⟩:qe))=true by decide,za,zb,zc,gi0,gi1,zT6,hb]
theorem k2(f0 f1 f2 f3:F3)(m0 m1:Int×Int×Int×Int):∃b,zL (kA2,[f0,f1,f2,f3],[m0,m1],[])=some b∧qE kA2 ([f0,f1,f2,f3],[m0,m1],[])=some b:=by
 obtain⟨d0,h0⟩:=zGw f0;obtain⟨d2,h2⟩:=zGw f2;obtain⟨a0,h3⟩:=zJs f0 m0 f1;obtain⟨a1,h4⟩:=zJs f2 m1 f3;obtain⟨r1,h5⟩:=zTM f1;obtain⟨r3,h6⟩:=zTM f3;have e1:zL (kA2,[f0,f1,f2,f3],[m0,m1],[])=some (bif d0 then (bif d2 then (bif a0 then (bif a1 then (bif r1 then (bif r3 then (!((f1.1==f3.1)&&((f1.2.1==f3.2.1)&&(f1.2.2==f3.2.2)))) else false) else false) else false) else false) else false) else false):=by simp only[zL,eqS,show decide (kA2=(⟨#[101,113,117,105,118,97,108,101,110,116]⟩:qe))=false by decide,show decide (kA2=(⟨#[100,105,102,102,101,114,101,110,116]⟩:qe))=true by decide,za,zb,zc,gi0,gi1,gi2,gi3,h0,h2,h3,h4,h5,h6];cases d0<;>cases d2<;>cases a0<;>cases a1<;>cases r1<;>cases r3<;>rfl
 have e2:qE kA2 ([f0,f1,f2,f3],[m0,m1],[])=some (bif d0 then (bif d2 then (bif a0 then (bif a1 then (bif r1 then (bif r3 then (!((f1.1==f3.1)&&((f1.2.1==f3.2.1)&&(f1.2.2==f3.2.2)))) else false) else false) else false) else false) else false) else false):=by simp only[qE,eqS,show decide (kA2=(⟨#[101,113,117,105,118,97,108,101,110,116]⟩:qe))=false by decide,show decide (kA2=(⟨#[100,105,102,102,101,114,101,110,116]⟩:qe))=true by decide,za,zb,zc,gi0,gi1,gi2,gi3,zT6,zTu,zOf,h0,h2,h3,h4,h5,h6];cases d0<;>cases d2<;>cases a0<;>cases a1<;>cases r1<;>cases r3<;>rfl
 exact⟨_,e1,e2⟩
theorem k3(f0:F3)(n0 n1 n2:Int)(b1:NB n1)(b2:NB n2):∃b,zL (kA3,[f0],[],[n0,n1,n2])=some b∧qE kA3 ([f0],[],[n0,n1,n2])=some b:=by
 have g1:=zME (a:=n1) (b:=n2) (Nat.le_trans (nbN b1) (by omega)) (Nat.le_trans (nbN b2) (by omega));have g2:=zHe (a:=n1) (b:=n2) (Nat.le_trans (nbN b1) (by omega)) (Nat.le_trans (nbN b2) (by omega));obtain⟨a,b,c⟩:=f0;have v1:=at_w a b c n1 n2;have e1:zL (kA3,[(a,b,c)],[],[n0,n1,n2])=some (bif eqI (w64 (a*n1*n1+b*n1*n2+c*n2*n2)) n0 then eqI (Int.gcd n1 n2:Int) 1 else false):=by simp only[zL,eqS,show decide (kA3=(⟨#[101,113,117,105,118,97,108,101,110,116]⟩:qe))=false by decide,show decide (kA3=(⟨#[100,105,102,102,101,114,101,110,116]⟩:qe))=false by decide,show decide (kA3=(⟨#[118,97,108,117,101]⟩:qe))=true by decide,za,zb,zc,gi0,gi1,gi2,v1,g1];cases eqI (w64 (a*n1*n1+b*n1*n2+c*n2*n2)) n0<;>rfl
 have e2:qE kA3 ([(a,b,c)],[],[n0,n1,n2])=some (bif eqI (w64 (a*n1*n1+b*n1*n2+c*n2*n2)) n0 then eqI (Int.gcd n1 n2:Int) 1 else false):=by simp only[qE,eqS,show decide (kA3=(⟨#[101,113,117,105,118,97,108,101,110,116]⟩:qe))=false by decide,show decide (kA3=(⟨#[100,105,102,102,101,114,101,110,116]⟩:qe))=false by decide,show decide (kA3=(⟨#[118,97,108,117,101]⟩:qe))=true by decide,za,zb,zc,gi0,gi1,gi2,zPt,v1,g2];cases eqI (w64 (a*n1*n1+b*n1*n2+c*n2*n2)) n0<;>rfl
 exact⟨_,e1,e2⟩
theorem k4(n0 n1 n2:Int)(b0:NB n0)(b1:NB n1)(b2:NB n2):∃b,zL (kA4,[],[],[n0,n1,n2])=some b∧qE kA4 ([],[],[n0,n1,n2])=some b:=by
 obtain⟨b,h1,h2⟩:=z4f b0 b1 b2;refine⟨b,?_,?_⟩
 ·simp only[zL,eqS,show decide (kA4=(⟨#[101,113,117,105,118,97,108,101,110,116]⟩:qe))=false by decide,show decide (kA4=(⟨#[100,105,102,102,101,114,101,110,116]⟩:qe))=false by decide,show decide (kA4=(⟨#[118,97,108,117,101]⟩:qe))=false by decide,show decide (kA4=(⟨#[111,98,115,116,114,117,99,116,105,111,110]⟩:qe))=true by decide,za,zb,zc,gi0,gi1,gi2,h1]
 ·simp only[qE,eqS,show decide (kA4=(⟨#[101,113,117,105,118,97,108,101,110,116]⟩:qe))=false by decide,show decide (kA4=(⟨#[100,105,102,102,101,114,101,110,116]⟩:qe))=false by decide,show decide (kA4=(⟨#[118,97,108,117,101]⟩:qe))=false by decide,show decide (kA4=(⟨#[111,98,115,116,114,117,99,116,105,111,110]⟩:qe))=true by decide,za,zb,zc,gi0,gi1,gi2];exact h2
theorem k5(f0 f1 f2:F3)(N:List Int)(hl:N.length=8)(hN:∀x∈N,NB x):∃b,zL (kA5,[f0,f1,f2],[],N)=some b∧qE kA5 ([f0,f1,f2],[],N)=some b:=by
 obtain⟨r,h1,h2⟩:=z35 f0 f1 f2 N hl hN;refine⟨bif r.1 then r.2 else false,?_,?_⟩
 ·simp only[zL,eqS,show decide (kA5=(⟨#[101,113,117,105,118,97,108,101,110,116]⟩:qe))=false by decide,show decide (kA5=(⟨#[100,105,102,102,101,114,101,110,116]⟩:qe))=false by decide,show decide (kA5=(⟨#[118,97,108,117,101]⟩:qe))=false by decide,show decide (kA5=(⟨#[111,98,115,116,114,117,99,116,105,111,110]⟩:qe))=false by decide,show decide (kA5=(⟨#[99,111,109,112,111,115,105,116,101]⟩:qe))=true by decide,za,zb,zc,gi0,gi1,gi2,h1]
 ·simp only[qE,eqS,show decide (kA5=(⟨#[101,113,117,105,118,97,108,101,110,116]⟩:qe))=false by decide,show decide (kA5=(⟨#[100,105,102,102,101,114,101,110,116]⟩:qe))=false by decide,show decide (kA5=(⟨#[118,97,108,117,101]⟩:qe))=false by decide,show decide (kA5=(⟨#[111,98,115,116,114,117,99,116,105,111,110]⟩:qe))=false by decide,show decide (kA5=(⟨#[99,111,109,112,111,115,105,116,101]⟩:qe))=true by decide,za,zb,zc,gi0,gi1,gi2,h2]
theorem k6(f0:F3)(n0:Int)(b0:NB n0):∃b,zL (kA6,[f0],[],[n0])=some b∧qE kA6 ([f0],[],[n0])=some b:=by
 obtain⟨r,h1,h2⟩:=zZ7 f0 b0;refine⟨r,?_,?_⟩
 ·simp only[zL,eqS,show decide (kA6=(⟨#[101,113,117,105,118,97,108,101,110,116]⟩:qe))=false by decide,show decide (kA6=(⟨#[100,105,102,102,101,114,101,110,116]⟩:qe))=false by decide,show decide (kA6=(⟨#[118,97,108,117,101]⟩:qe))=false by decide,show decide (kA6=(⟨#[111,98,115,116,114,117,99,116,105,111,110]⟩:qe))=false by decide,show decide (kA6=(⟨#[99,111,109,112,111,115,105,116,101]⟩:qe))=false by decide,show decide (kA6=(⟨#[111,114,100,101,114]⟩:qe))=true by decide,za,zb,zc,gi0,h1]
 ·simp only[qE,eqS,show decide (kA6=(⟨#[101,113,117,105,118,97,108,101,110,116]⟩:qe))=false by decide,show decide (kA6=(⟨#[100,105,102,102,101,114,101,110,116]⟩:qe))=false by decide,show decide (kA6=(⟨#[118,97,108,117,101]⟩:qe))=false by decide,show decide (kA6=(⟨#[111,98,115,116,114,117,99,116,105,111,110]⟩:qe))=false by decide,show decide (kA6=(⟨#[99,111,109,112,111,115,105,116,101]⟩:qe))=false by decide,show decide (kA6=(⟨#[111,114,100,101,114]⟩:qe))=true by decide,za,zb,zc,gi0,h2]
theorem k7(n0 n1 n2:Int)(b1:NB n1):∃b,zL (kA7,[],[],[n0,n1,n2])=some b∧qE kA7 ([],[],[n0,n1,n2])=some b:=by
 by_cases h:1≤n1
 ·have e:leI 1 n1=true:=by rw[zS,zd h]
  have hz:nz (w64 (4*n1))=some ():=zEQ (by have:=b1.2;rw[zB (by omega)];omega);refine⟨eqI (Int.tmod (w64 ((w64 (n2*n2)) - n0)) (w64 (4*n1))) 0,?_,?_⟩
  ·simp only[zL,eqS,show decide (kA7=(⟨#[101,113,117,105,118,97,108,101,110,116]⟩:qe))=false by decide,show decide (kA7=(⟨#[100,105,102,102,101,114,101,110,116]⟩:qe))=false by decide,show decide (kA7=(⟨#[118,97,108,117,101]⟩:qe))=false by decide,show decide (kA7=(⟨#[111,98,115,116,114,117,99,116,105,111,110]⟩:qe))=false by decide,show decide (kA7=(⟨#[99,111,109,112,111,115,105,116,101]⟩:qe))=false by decide,show decide (kA7=(⟨#[111,114,100,101,114]⟩:qe))=false by decide,show decide (kA7=(⟨#[114,111,111,116]⟩:qe))=true by decide,za,zb,zc,gi0,gi1,gi2,e,hz]
  ·simp only[qE,eqS,show decide (kA7=(⟨#[101,113,117,105,118,97,108,101,110,116]⟩:qe))=false by decide,show decide (kA7=(⟨#[100,105,102,102,101,114,101,110,116]⟩:qe))=false by decide,show decide (kA7=(⟨#[118,97,108,117,101]⟩:qe))=false by decide,show decide (kA7=(⟨#[111,98,115,116,114,117,99,116,105,111,110]⟩:qe))=false by decide,show decide (kA7=(⟨#[99,111,109,112,111,115,105,116,101]⟩:qe))=false by decide,show decide (kA7=(⟨#[111,114,100,101,114]⟩:qe))=false by decide,show decide (kA7=(⟨#[114,111,111,116]⟩:qe))=true by decide,za,zb,zc,gi0,gi1,gi2,e,hz]
 ·have e:leI 1 n1=false:=by rw[zS,ze h]
  refine⟨false,?_,?_⟩
  ·simp only[zL,eqS,show decide (kA7=(⟨#[101,113,117,105,118,97,108,101,110,116]⟩:qe))=false by decide,show decide (kA7=(⟨#[100,105,102,102,101,114,101,110,116]⟩:qe))=false by decide,show decide (kA7=(⟨#[118,97,108,117,101]⟩:qe))=false by decide,show decide (kA7=(⟨#[111,98,115,116,114,117,99,116,105,111,110]⟩:qe))=false by decide,show decide (kA7=(⟨#[99,111,109,112,111,115,105,116,101]⟩:qe))=false by decide,show decide (kA7=(⟨#[111,114,100,101,114]⟩:qe))=false by decide,show decide (kA7=(⟨#[114,111,111,116]⟩:qe))=true by decide,za,zb,zc,gi0,gi1,gi2,e]
  ·simp only[qE,eqS,show decide (kA7=(⟨#[101,113,117,105,118,97,108,101,110,116]⟩:qe))=false by decide,show decide (kA7=(⟨#[100,105,102,102,101,114,101,110,116]⟩:qe))=false by decide,show decide (kA7=(⟨#[118,97,108,117,101]⟩:qe))=false by decide,show decide (kA7=(⟨#[111,98,115,116,114,117,99,116,105,111,110]⟩:qe))=false by decide,show decide (kA7=(⟨#[99,111,109,112,111,115,105,116,101]⟩:qe))=false by decide,show decide (kA7=(⟨#[111,114,100,101,114]⟩:qe))=false by decide,show decide (kA7=(⟨#[114,111,111,116]⟩:qe))=true by decide,za,zb,zc,gi0,gi1,gi2,e]
theorem k8c(f0:F3)(m0:Int×Int×Int×Int):∃b,zL (kA8,[f0],[m0],[])=some b∧qE kA8 ([f0],[m0],[])=some b:=by
 obtain⟨b,hb⟩:=zJs f0 m0 f0;refine⟨b,?_,?_⟩
 ·simp only[zL,eqS,show decide (kA8=(⟨#[101,113,117,105,118,97,108,101,110,116]⟩:qe))=false by decide,show decide (kA8=(⟨#[100,105,102,102,101,114,101,110,116]⟩:qe))=false by decide,show decide (kA8=(⟨#[118,97,108,117,101]⟩:qe))=false by decide,show decide (kA8=(⟨#[111,98,115,116,114,117,99,116,105,111,110]⟩:qe))=false by decide,show decide (kA8=(⟨#[99,111,109,112,111,115,105,116,101]⟩:qe))=false by decide,show decide (kA8=(⟨#[111,114,100,101,114]⟩:qe))=false by decide,show decide (kA8=(⟨#[114,111,111,116]⟩:qe))=false by decide,show decide (kA8=(⟨#[97,117,116,111,109,111,114,112,104]⟩:qe))=true by decide,za,zb,zc,gi0,hb]
 ·simp only[qE,eqS,show decide (kA8=(⟨#[101,113,117,105,118,97,108,101,110,116]⟩:qe))=false by decide,show decide (kA8=(⟨#[100,105,102,102,101,114,101,110,116]⟩:qe))=false by decide,show decide (kA8=(⟨#[118,97,108,117,101]⟩:qe))=false by decide,show decide (kA8=(⟨#[111,98,115,116,114,117,99,116,105,111,110]⟩:qe))=false by decide,show decide (kA8=(⟨#[99,111,109,112,111,115,105,116,101]⟩:qe))=false by decide,show decide (kA8=(⟨#[111,114,100,101,114]⟩:qe))=false by decide,show decide (kA8=(⟨#[114,111,111,116]⟩:qe))=false by decide,show decide (kA8=(⟨#[97,117,116,111,109,111,114,112,104]⟩:qe))=true by decide,za,zb,zc,gi0,zT6,hb]
theorem k9(n0 n1 n2:Int)(b0:NB n0)(b1:NB n1)(b2:NB n2):∃b,zL (kA9,[],[],[n0,n1,n2])=some b∧qE kA9 ([],[],[n0,n1,n2])=some b:=by
 have a1:=zM (nbN b1) (nbN b1);have a2:=zM (nbN b0) (nbN b2);have a3:=zM a2 (nbN b2);have hx:(w64 ((w64 (n1*n1)) - (w64 ((w64 (n0*n2))*n2)))).natAbs≤9223372036854775806:=by rw[zB (n:=n1*n1) (by omega),zB (n:=n0*n2) (by omega),zB (n:=n0*n2*n2) (by omega),zB (by omega)];omega
 refine⟨eqI ((w64 ((w64 (n1*n1)) - (w64 ((w64 (n0*n2))*n2)))).natAbs:Int) 4,?_,?_⟩
 ·simp only[zL,eqS,show decide (kA9=(⟨#[101,113,117,105,118,97,108,101,110,116]⟩:qe))=false by decide,show decide (kA9=(⟨#[100,105,102,102,101,114,101,110,116]⟩:qe))=false by decide,show decide (kA9=(⟨#[118,97,108,117,101]⟩:qe))=false by decide,show decide (kA9=(⟨#[111,98,115,116,114,117,99,116,105,111,110]⟩:qe))=false by decide,show decide (kA9=(⟨#[99,111,109,112,111,115,105,116,101]⟩:qe))=false by decide,show decide (kA9=(⟨#[111,114,100,101,114]⟩:qe))=false by decide,show decide (kA9=(⟨#[114,111,111,116]⟩:qe))=false by decide,show decide (kA9=(⟨#[97,117,116,111,109,111,114,112,104]⟩:qe))=false by decide,za,zb,zc,gi0,gi1,gi2,zYd hx]
 ·simp only[qE,eqS,show decide (kA9=(⟨#[101,113,117,105,118,97,108,101,110,116]⟩:qe))=false by decide,show decide (kA9=(⟨#[100,105,102,102,101,114,101,110,116]⟩:qe))=false by decide,show decide (kA9=(⟨#[118,97,108,117,101]⟩:qe))=false by decide,show decide (kA9=(⟨#[111,98,115,116,114,117,99,116,105,111,110]⟩:qe))=false by decide,show decide (kA9=(⟨#[99,111,109,112,111,115,105,116,101]⟩:qe))=false by decide,show decide (kA9=(⟨#[111,114,100,101,114]⟩:qe))=false by decide,show decide (kA9=(⟨#[114,111,111,116]⟩:qe))=false by decide,show decide (kA9=(⟨#[97,117,116,111,109,111,114,112,104]⟩:qe))=false by decide,za,zb,zc,gi0,gi1,gi2,zHf hx]
theorem len1{α:Type}{l:List α}(h:l.length=1):∃a,l=[a]:=by
 match l,h with
 |[a],_=>exact⟨a,rfl⟩
theorem len0{α:Type}{l:List α}(h:l.length=0):l=[]:=List.length_eq_zero_iff.1 h
theorem len2{α:Type}{l:List α}(h:l.length=2):∃a b,l=[a,b]:=by
 match l,h with
 |[a,b],_=>exact⟨a,b,rfl⟩
theorem len3{α:Type}{l:List α}(h:l.length=3):∃a b c,l=[a,b,c]:=by
 match l,h with
 |[a,b,c],_=>exact⟨a,b,c,rfl⟩
theorem len4{α:Type}{l:List α}(h:l.length=4):∃a b c d,l=[a,b,c,d]:=by
 match l,h with
 |[a,b,c,d],_=>exact⟨a,b,c,d,rfl⟩
theorem z1W{k t:qe}{F:List F3}{M:List (Int×Int×Int×Int)}{N:List Int}(h:zBo k=some t)(ht:t≠⟨#[]⟩)(hF:F.length=t.data.toList.countP (fun b=>decide (b=102)))(hM:M.length=t.data.toList.countP (fun b=>decide (b=109)))(hN:N.length=t.data.toList.countP (fun b=>!decide (b=102)&&!decide (b=109)))
  (bF:∀f∈F,FB f) (bM:∀f∈M,MB f) (bN:∀f∈N,NB f):∃b,zL (k,F,M,N)=some b∧qE k (F,M,N)=some b:=by
 rcases z8H h ht with⟨rfl,rfl⟩|⟨rfl,rfl⟩|⟨rfl,rfl⟩|⟨rfl,rfl⟩|⟨rfl,rfl⟩|⟨rfl,rfl⟩|⟨rfl,rfl⟩|⟨rfl,rfl⟩|⟨rfl,rfl⟩
 ·have hF:F.length=2:=hF;have hM:M.length=1:=hM;have hN:N.length=0:=hN;obtain⟨f0,f1,rfl⟩:=len2 hF;obtain⟨m0,rfl⟩:=len1 hM;rw[len0 hN];exact k1 f0 f1 m0
 ·have hF:F.length=4:=hF;have hM:M.length=2:=hM;have hN:N.length=0:=hN;obtain⟨f0,f1,f2,f3,rfl⟩:=len4 hF;obtain⟨m0,m1,rfl⟩:=len2 hM;rw[len0 hN];exact k2 f0 f1 f2 f3 m0 m1
 ·have hF:F.length=1:=hF;have hM:M.length=0:=hM;have hN:N.length=3:=hN;obtain⟨f0,rfl⟩:=len1 hF;obtain⟨n0,n1,n2,rfl⟩:=len3 hN;rw[len0 hM];exact k3 f0 n0 n1 n2 (bN _ (by simp)) (bN _ (by simp))
 ·have hF:F.length=0:=hF;have hM:M.length=0:=hM;have hN:N.length=3:=hN;obtain⟨n0,n1,n2,rfl⟩:=len3 hN;rw[len0 hM,len0 hF];exact k4 n0 n1 n2 (bN _ (by simp)) (bN _ (by simp)) (bN _ (by simp))
 ·have hF:F.length=3:=hF;have hM:M.length=0:=hM;have hN:N.length=8:=hN;obtain⟨f0,f1,f2,rfl⟩:=len3 hF;rw[len0 hM];exact k5 f0 f1 f2 N hN bN
 ·have hF:F.length=1:=hF;have hM:M.length=0:=hM;have hN:N.length=1:=hN;obtain⟨f0,rfl⟩:=len1 hF;obtain⟨n0,rfl⟩:=len1 hN;rw[len0 hM];exact k6 f0 n0 (bN _ (by simp))
 ·have hF:F.length=0:=hF;have hM:M.length=0:=hM;have hN:N.length=3:=hN;obtain⟨n0,n1,n2,rfl⟩:=len3 hN;rw[len0 hM,len0 hF];exact k7 n0 n1 n2 (bN _ (by simp))
 ·have hF:F.length=1:=hF;have hM:M.length=1:=hM;have hN:N.length=0:=hN;obtain⟨f0,rfl⟩:=len1 hF;obtain⟨m0,rfl⟩:=len1 hM;rw[len0 hN];exact k8c f0 m0
 ·have hF:F.length=0:=hF;have hM:M.length=0:=hM;have hN:N.length=3:=hN;obtain⟨n0,n1,n2,rfl⟩:=len3 hN;rw[len0 hM,len0 hF];exact k9 n0 n1 n2 (bN _ (by simp)) (bN _ (by simp)) (bN _ (by simp))
theorem zUB(s:qe)(hs:s.size≤1048576):∃n,qI s=some n∧zEK s=some n∧0≤n∧n≤2:=by
 unfold qI zEK;rcases z0t s hs with⟨k,F,M,N,t,h1,h2,h3,h4,h5,h6,h7,h8,h9,h10⟩|⟨h1,k,x,h2⟩
 ·obtain⟨b,c1,c2⟩:=z1W h3 h4 h5 h6 h7 h8 h9 h10;simp only[h1,h2,za,zg,zc,c1,c2];cases b
  ·exact⟨1,rfl,rfl,by omega,by omega⟩
  ·exact⟨2,rfl,rfl,by omega,by omega⟩
 ·simp only[h1,h2,za,zh,zb];exact⟨0,rfl,rfl,by omega,by omega⟩
theorem zZE(c:UInt8):∀l,spl c (l++[c])=spl c l++[[]]
 |[]=>by rw[zq,zGX];rfl
 |b::l=>by
  have ih:=zZE c l;by_cases h:b=c
  ·subst h;rw[List.cons_append,zGX,zGX,ih];rfl
  ·cases e:spl c l with
   |nil=>exact absurd e (zHa c l)
   |cons w ws=>rw[e]at ih;rw[List.cons_append,zDW h ih,zDW h e];rfl
theorem zWd(L:List qe)(hl:L.length≤40)(hz:∀w∈L,w.size≤1048576):∀(n k:Nat)(acc:List Int)(a b:Bool),k≤L.length→L.length - k<n→acc.length≤k→∃r,jN (L,a) n (k:Int) acc=some r∧zBT (L,b) n (k:Int) acc=some r∧r.length≤40
 |0,k,acc,a,b,h1,h2,h3=>by omega
 |n+1,k,acc,a,b,h1,h2,h3=>by
  unfold jN zBT;rw[zJ];by_cases hk:k<L.length
  ·obtain⟨v,v1,v2,_⟩:=zUB L[k] (hz _ (zt hk));rw[zd (show (k:Int)<(L.length:Int) by omega),zb,zb];simp only[zCh hk,za,v1,v2,zI,zA9 (show acc.length+([v]:List Int).length≤1000000000 by simp;omega),zBa (show k<1000000000 by omega)];exact zWd L hl hz n (k+1) (acc++[v]) a b (by omega) (by omega) (by simp;omega)
  ·rw[ze (show ¬(k:Int)<(L.length:Int) by omega),zc,zc];exact⟨acc,rfl,rfl,by omega⟩
theorem zU4(L:List qe)(hl:L.length≤40)(hz:∀w∈L,w.size≤1048576)(a b:Bool):∃r,jN (L,a) FU 0 []=some r∧zBT (L,b) FU 0 []=some r∧r.length≤40:=by
 have hF:1000001<FU:=by decide
 exact zWd L hl hz FU 0 [] a b (by omega) (by omega) (by simp)
theorem zNZ(b:UInt8):eqI ((b.toNat:Nat):Int) 10=decide (b=10):=zPn b 10
theorem zTi(p:List UInt8)(b:UInt8)(h:p.length≤2000000):qV (bl (p++[b])) ⟨#[10]⟩=some (decide (b=10))∧w64 (((bl (p++[b])).size:Int) - ((⟨#[10]⟩:qe).size:Int))=(p.length:Int):=by
 have e1:((⟨#[10]⟩:qe).size:Int)=1:=rfl;have e2:((bl (p++[b])).size:Int)=(p.length:Int)+1:=by rw[zCB];simp
 have e3:w64 (((bl (p++[b])).size:Int) - ((⟨#[10]⟩:qe).size:Int))=(p.length:Int):=by rw[e1,e2,zB (by omega)];omega
 refine⟨?_,e3⟩;unfold qV;rw[e3,e1,e2,zS,zd (by omega),zb];have hs:slc (bl (p++[b])).size (p.length:Int) ((p.length:Int)+1)=some ():=by
  have:((p.length:Int)+1)=((p.length+1:Nat):Int):=by omega
  rw[this];exact zMj (by omega) (by rw[zCB];simp)
 have hx:(bl (p++[b])).extract (Int.toNat (p.length:Int)) (Int.toNat ((p.length:Int)+1))=bl [b]:=by
  rw[zI7,zDK];have:Int.toNat ((p.length:Int)+1)=p.length+1:=by omega
  rw[this,zi];congr 1;simp
 rw[hs,hx];simp only[za,eqS];congr 1;rw[decide_eq_decide];constructor
 ·intro h;have:[b]=[10]:=zG9 h;injection this
 ·rintro rfl;rfl
theorem z0K(s:qe)(hs:s.size≤1048576):∃r,zBC s=some r∧zD4 s=some r∧r.1.length≤40:=by
 unfold zBC zD4 zFz zD6;simp only[eqS];by_cases h0:s=⟨#[]⟩
 ·subst h0;have e:zAJ ⟨#[]⟩ 10=some ((spl 10 (⟨#[]⟩:qe).data.toList).map bl):=zEv ⟨#[]⟩ 10 (by decide);obtain⟨r,r1,r2,r3⟩:=zU4 [] (by simp) (by simp) true true;refine⟨(r,true),?_,?_,r3⟩
  ·rw[zd rfl,zb];simp only[za];have e2:(bif (bif (!true) then true else (ltI 4000 (((⟨#[]⟩:qe).size:Nat):Int))) then true else (ltI 40 ((([]:List qe).length:Nat):Int)))=false:=rfl;rw[e2,zc,r1];rfl
  ·have e1:ltI 4000 (((⟨#[]⟩:qe).size:Nat):Int)=false:=rfl;rw[e1,zc,zd rfl,zg,zc];simp only[za,zc,e];have e3:slc ((spl 10 (⟨#[]⟩:qe).data.toList).map bl).length 0 (w64 ((((spl 10 (⟨#[]⟩:qe).data.toList).map bl).length:Int) - 1))=some ():=rfl;have e4:subl ((spl 10 (⟨#[]⟩:qe).data.toList).map bl) 0 (w64 ((((spl 10 (⟨#[]⟩:qe).data.toList).map bl).length:Int) - 1))=[]:=rfl;rw[e3,e4];have e5:leI (([]:List qe).length:Int) 40=true:=rfl;simp only[za,e5,zg,zc,r2]
 ·have hne:s.data.toList≠[]:=by
   intro h;apply h0;rw[zLg s,h];rfl
  obtain⟨p,b,hp⟩:∃p b,s.data.toList=p++[b]:=⟨_,_,(List.dropLast_concat_getLast hne).symm⟩
  have hsb:s=bl (p++[b]):=by rw[zLg s,hp]
  have hsz:s.size=p.length+1:=by rw[hsb,zCB];simp
  obtain⟨hh,hw⟩:=zTi p b (by omega);rw[←hsb]at hh hw;have hgb:getB s (w64 ((s.size:Int) - 1))=some ((b.toNat:Nat):Int):=by have e1:w64 ((s.size:Int) - 1)=(p.length:Int):=hw;rw[e1,zER (show p.length<s.size by omega)];congr 2;simp[hp]
  rw[ze h0,zc];simp only[zh,zb,hgb,za,zNZ,zC4,zCz,zAD,hh];by_cases hb:b=10
  ·subst hb;have hx:s.extract (Int.toNat 0) (Int.toNat (w64 ((s.size:Int) - ((⟨#[10]⟩:qe).size:Int))))=bl p:=by
    rw[hw,zI7,hp];congr 1;simp
   have hsl:slc s.size 0 (w64 ((s.size:Int) - ((⟨#[10]⟩:qe).size:Int)))=some ():=by rw[hw];exact zMj (l:=0) (by omega) (by omega)
   have hsp:zAG (bl p) ⟨#[10]⟩=some ((spl 10 p).map bl):=by
    have:=zIv (bl p) 10 (by rw[zCB];omega)
    rwa [zDK]at this
   have hsl2:zAJ s 10=some ((spl 10 p++[[]]).map bl):=by have:=zEv s 10 (by omega);rw[hp,zZE]at this;exact this
   have hlen:=zOD 10 p;have hlm:((spl 10 p++[[]]).map bl).length=(spl 10 p).length+1:=by simp
   have hw2:w64 ((((spl 10 p++[[]]).map bl).length:Int) - 1)=(((spl 10 p).length:Nat):Int):=by rw[hlm,zB (by omega)];omega
   have hsub:subl ((spl 10 p++[[]]).map bl) 0 (((spl 10 p).length:Nat):Int)=(spl 10 p).map bl:=by unfold subl;rw[zi,List.map_append];simp
   have hs3:slc ((spl 10 p++[[]]).map bl).length 0 (((spl 10 p).length:Nat):Int)=some ():=zMj (l:=0) (by omega) (by omega);rw[zd rfl];simp only[zb,hsl,hx,za,hsp,zg,zc,zJ];by_cases h4:(4000:Int)<(s.size:Int)
   ·rw[zd h4];exact⟨([],false),rfl,rfl,by simp⟩
   ·rw[ze h4];simp only[zc,hsl2,za,hw2,hs3,hsub,zS];by_cases h5:(40:Int)<(((spl 10 p).map bl).length:Int)
    ·rw[zd h5,ze (by omega)];exact⟨([],false),rfl,rfl,by simp⟩
    ·rw[ze h5,zd (by omega)];obtain⟨r,r1,r2,r3⟩:=zU4 ((spl 10 p).map bl) (by omega) (by
      intro w hw;obtain⟨x,hx,rfl⟩:=List.mem_map.1 hw;have:=zGc 10 _ x hx;rw[zCB];omega) true true
     refine⟨(r,true),?_,?_,r3⟩
     ·simp only[zc,r1,za]
     ·simp only[zg,zc,r2,za]
  ·have hsp:zAG s ⟨#[10]⟩=some ((spl 10 s.data.toList).map bl):=zIv s 10 (by omega);rw[ze hb];simp only[zc,hsp,za,zh,zb];cases ltI 4000 (s.size:Int)<;>exact⟨([],false),rfl,rfl,by simp⟩
theorem z1t(c:UInt8)(q:List UInt8):∀p,spl c (p++c::q)=spl c p++spl c q
 |[]=>by rw[zq,zGX];rfl
 |b::p=>by
  have ih:=z1t c q p;by_cases h:b=c
  ·subst h;rw[List.cons_append,zGX,zGX,ih];rfl
  ·cases e:spl c p with
   |nil=>exact absurd e (zHa c p)
   |cons w ws=>rw[e]at ih;rw[List.cons_append,zDW h ih,zDW h e];rfl
theorem zSa(c:UInt8):∀p,(∀b∈p,b≠c)→spl c p=[p]
 |[],_=>rfl
 |b::p,h=>zDW (h b zl) (zSa c p fun x hx=>h x (zm _ hx))
theorem z6s{t:qe}{p:List UInt8}(hp:t.data.toList=p++[10])(hs:t.size≤1048576):zD6 t=some ((spl 10 p).map bl,true):=by
 have h0:¬t=⟨#[]⟩:=by intro h;rw[h,show (⟨#[]⟩:qe).data.toList=[] from rfl]at hp;exact absurd hp (by simp)
 have hsb:t=bl (p++[10]):=by rw[zLg t,hp]
 have hsz:t.size=p.length+1:=by rw[hsb,zCB];simp
 obtain⟨hh,hw⟩:=zTi p 10 (by omega);rw[←hsb]at hh hw;have hh:qV t ⟨#[10]⟩=some true:=hh;have hx:t.extract (Int.toNat 0) (Int.toNat (w64 ((t.size:Int) - ((⟨#[10]⟩:qe).size:Int))))=bl p:=by rw[hw,zI7,hp];congr 1;simp
 have hsl:slc t.size 0 (w64 ((t.size:Int) - ((⟨#[10]⟩:qe).size:Int)))=some ():=by rw[hw];exact zMj (l:=0) (by omega) (by omega)
 have hsp:zAG (bl p) ⟨#[10]⟩=some ((spl 10 p).map bl):=by
  have:=zIv (bl p) 10 (by rw[zCB];omega)
  rwa [zDK]at this
 unfold zD6;simp only[eqS];rw[ze h0,zc];simp only[zh,zb,za,zC4,zCz,zAD,hh];simp only[zb,hsl,hx,za,hsp,zg,zc]
theorem z1Z{s t:qe}{va vb:Int}(ha:∀b∈s.data.toList,b≠10)(hb:∀b∈t.data.toList,b≠10)(hz:s.size+t.size+2≤4000)(h1:qI s=some va)(h2:qI t=some vb):
  zBC (((s++⟨#[10]⟩)++t)++⟨#[10]⟩)=some ([va,vb],true):=by
 have e10:(⟨#[10]⟩:qe)=bl [10]:=rfl;have hu:((s++⟨#[10]⟩)++t)++(⟨#[10]⟩:qe)=bl ((s.data.toList++10::t.data.toList)++[10]):=by
  conv=>lhs;rw[zLg s,zLg t,e10,zAf,zAf,zAf]
  simp
 have hd:(((s++⟨#[10]⟩)++t)++(⟨#[10]⟩:qe)).data.toList=(s.data.toList++10::t.data.toList)++[10]:=by rw[hu,zDK]
 have hsz:(((s++⟨#[10]⟩)++t)++(⟨#[10]⟩:qe)).size=s.size+t.size+2:=by rw[ByteArray.size_append,ByteArray.size_append,ByteArray.size_append,show (⟨#[10]⟩:qe).size=1 from rfl];omega
 have hl:=z6s hd (by omega);rw[z1t,zSa 10 _ ha,zSa 10 _ hb]at hl;have hl:zD6 (((s++⟨#[10]⟩)++t)++(⟨#[10]⟩:qe))=some ([s,t],true):=by rw[hl];simp only[List.cons_append,zq,List.map_cons,List.map_nil,←zLg]
 obtain⟨m,hm⟩:∃m,FU=m+1+1+1:=⟨FU - 3,rfl⟩
 have g0:getI [s,t] 0=some s:=rfl;have g1:getI [s,t] 1=some t:=rfl;have w0:w64 (0+1)=1:=rfl;have w1:w64 (1+1)=2:=rfl;have r0:room (([]:List Int).length+[va].length)=some ():=rfl;have r1:room (([]++[va]:List Int).length+[vb].length)=some ():=rfl;have hrun:jN ([s,t],true) FU 0 []=some [va,vb]:=by rw[hm];unfold jN;rw[show ltI 0 (([s,t]:List qe).length:Int)=true from rfl,zb];simp only[g0,h1,za,r0,zI,w0];unfold jN;rw[show ltI 1 (([s,t]:List qe).length:Int)=true from rfl,zb];simp only[g1,h2,za,r1,zI,w1];unfold jN;rw[show ltI 2 (([s,t]:List qe).length:Int)=false from rfl,zc];rfl
 unfold zBC;simp only[hl,za,hsz];have hc:(bif (bif (!true) then true else (ltI 4000 ((s.size+t.size+2:Nat):Int))) then true else (ltI 40 (([s,t]:List qe).length:Int)))=false:=by rw[zJ,ze (by omega)];rfl
 rw[hc,zc,hrun];rfl
end Go.Proofs.YtnjhhbcccgbbnaaGreatDoor
namespace Go.Proofs.YtnjhhbcccgbbnaaGreatDoor
theorem z1v(l:List Int)(hl:l.length≤1000000):∀(k fu i:Nat),i+k=l.length→k<fu→zCU l l fu (i:Int)=some (.inl ())
 |k,0,i,_,hf=>by omega
 |0,fu+1,i,hi,hf=>by rw[zCU,zJ,ze (by omega),zc]
 |k+1,fu+1,i,hi,hf=>by rw[zCU,zJ,zd (by omega),zb,zCh (show i<l.length by omega)];simp only[za,zGM,zg,zc,zI,zBa (show i<1000000000 by omega)];exact z1v l hl k fu (i+1) (by omega) (by omega)
theorem zZH(l:List Int)(hl:l.length<1000000):zDm l l=some true:=by have hF:=FUge;have:=z1v l (by omega) l.length FU 0 (by omega) (by omega);have e0:(((0:Nat):Int))=0:=rfl;rw[e0]at this;simp only[zDm,zGM,zg,zc,this,za]
theorem zTa(s:qe)(hs:s.size≤1048576):∃a k,qI s=some a∧zAY s=some a∧zBH s=some (k,!eqI a 0)∧zBG s=some (k,!eqI a 0):=by
 have ee:qf=(⟨#[]⟩:qe):=rfl;obtain⟨n,h1,h2,_⟩:=zUB s hs;have h3:zAY s=some n:=by simp only[zAY,h2,za]
 rcases z0u s hs with⟨k,F,M,N,p1,p2⟩|⟨p1,k,x,p2⟩
 ·refine⟨n,k,h1,h3,?_,?_⟩
  all_goals
   have hn:eqI n 0=false:=by
    simp only[qI,p1,za,zg,zc]at h1;cases hc:zL (k,F,M,N) with
    |none=>rw[hc]at h1;cases h1
    |some b=>
     rw[hc]at h1;cases b with
     |true=>have h1:some (2:Int)=some n:=h1;rw[←zF h1];rfl
     |false=>have h1:some (1:Int)=some n:=h1;rw[←zF h1];rfl
  ·simp only[zBH,p1,za,hn,zh]
  ·simp only[zBG,p2,za,zg,zc,hn,zh]
 ·have hn:n=0:=by
   simp only[qI,p1,za,zh,zb]at h1;exact (zF h1).symm
  subst hn;refine⟨0,⟨#[]⟩,h1,h3,?_,?_⟩
  ·simp only[zBH,p1,za,zB1,zg,ee]
  ·simp only[zBG,p2,za,zh,zb,zB1,zg]
theorem z0y(s t:qe)(va vb:Int)(hz:s.size+t.size≤100000):∀(m f i c:Nat),s.size+t.size - i=m→m<f→i≤s.size+t.size→c≤i→
  ∃r:Nat,qJ s t va vb f (c:Int) (i:Int)=some (r:Int)∧c≤r∧(r=c→∀(j:Nat) b,i≤j→(s.data.toList++t.data.toList)[j]?=some b→b≠10)
 |m,0,i,c,hm,hf,hi,hc=>by omega
 |m,f+1,i,c,hm,hf,hi,hc=>by
  have l1:s.data.toList.length=s.size:=Array.length_toList;have l2:t.data.toList.length=t.size:=Array.length_toList;unfold qJ;rw[zB (n:=(s.size:Int)+(t.size:Int)) (by omega),zJ];by_cases h:i<s.size+t.size
  ·rw[zd (by omega),zb];have hlt:i<(s.data.toList++t.data.toList).length:=by rw[List.length_append];omega
   have hb:(bif (ltI (i:Int) ((s.size:Int))) then ((getB s (i:Int)).bind fun e33=>some (eqI e33 10)) else some false).bind (fun b34=>
    (bif b34 then some true else ((bif (leI ((s.size:Int)) (i:Int)) then ((getB t (w64 ((i:Int) - ((s.size:Int))))).bind fun e37=>some (eqI e37 10)) else some false).bind fun b38=>some b38)))=some (decide ((s.data.toList++t.data.toList)[i]=10)):=by
    rw[zJ,zS];by_cases hs:i<s.size
    ·rw[zd (show (i:Int)<(s.size:Int) by omega),zb,zER hs,za,zNZ,za,ze (show ¬(s.size:Int)≤(i:Int) by omega)];rw[List.getElem_append_left (by omega)];cases decide (s.data.toList[i]'(by omega)=10)<;>rfl
    ·have hs2:i - s.size<t.size:=by omega
     have e:w64 ((i:Int) - (s.size:Int))=((i - s.size:Nat):Int):=by rw[zB (by omega)];omega
     rw[ze (show ¬(i:Int)<(s.size:Int) by omega),zc,za,zc,zd (show (s.size:Int)≤(i:Int) by omega),zb,e,zER hs2,za,zNZ,za];rw[List.getElem_append_right (by omega)];simp only[l1]
   have hb2:=congrArg (fun z=>Option.bind z fun b39=>bif b39 then
     (
      sI (w64 ((c:Int)+1)) fun lines41=>
      sI (w64 ((i:Int)+1)) fun i42=>
      qJ s t va vb f lines41 i42
     )
    else
     (
      sI (w64 ((i:Int)+1)) fun i43=>
      qJ s t va vb f (c:Int) i43
     )) hb
   rw[Option.bind_assoc]at hb2;refine (show ∃r:Nat,_=some (r:Int)∧_ from ?_);rw[hb2,za,zI,zI,zI,zBa (show i<1000000000 by omega),zBa (show c<1000000000 by omega)];have hg:(s.data.toList++t.data.toList)[i]?=some ((s.data.toList++t.data.toList)[i]):=zu hlt
   by_cases h10:(s.data.toList++t.data.toList)[i]=10
   ·rw[zd h10,zb];obtain⟨r,r1,r2,r3⟩:=z0y s t va vb hz (s.size+t.size - (i+1)) f (i+1) (c+1) rfl (by omega) (by omega) (by omega);exact⟨r,r1,by omega,fun e=>by omega⟩
   ·rw[ze h10,zc];obtain⟨r,r1,r2,r3⟩:=z0y s t va vb hz (s.size+t.size - (i+1)) f (i+1) c rfl (by omega) (by omega) (by omega);refine⟨r,r1,r2,fun e j b hj hg2=>?_⟩;by_cases hji:j=i
    ·subst hji;rw[hg]at hg2;rw[←zF hg2];exact h10
    ·exact r3 e j b (by omega) hg2
  ·rw[ze (by omega),zc];refine⟨c,rfl,Nat.le_refl _,fun _ j b hj hg=>?_⟩;rw[List.getElem?_eq_none (by rw[List.length_append];omega)]at hg;cases hg
theorem zLP(code more:List Int)(hc8:∀x∈code,0≤x∧x≤255)(hm8:∀x∈more,0≤x∧x≤255):zDe code more=some true:=by
 have hF:200000000<FU:=by decide
 unfold zDe;rcases z3c code more with h|⟨h,hc,hm⟩
 ·rw[h];rfl
 ·obtain⟨s,s1,s2⟩:=zZy hc hc8;obtain⟨t,t1,t2⟩:=zZy hm hm8;obtain⟨u,u1,u2⟩:=z1T hm hm8;obtain⟨a,k,a1,a2,a3,a4⟩:=zTa s (by omega);obtain⟨b,k',b1,b2,_,_⟩:=zTa t (by omega);obtain⟨r,r1,r2,r3⟩:=z0K u (by omega);obtain⟨n,n1,n2,n3⟩:=z0y s t a b (by omega) (s.size+t.size) FU 0 0 rfl (by omega) (Nat.zero_le _) (Nat.le_refl _);have n1:qJ s t a b FU 0 0=some (n:Int):=n1;have tl:∀x:qe,(x.toList==x.toList)=true:=fun x=>beq_self_eq_true _;have hi:=zZH r.1 (by omega);rw[h,za,zc];simp only[s1,t1,u1,a1,a2,a3,a4,b1,b2,r1,r2,hi,n1,tl,za,zB1,bne_self_eq_false,zg,zc];cases hg:(bif eqI (n:Int) 0 then leI (w64 (w64 ((s.size:Int)+(t.size:Int))+2)) 4000 else false) with
  |false=>rfl
  |true=>
   have hn:n=0:=by
    cases hq:eqI (n:Int) 0 with
    |false=>rw[hq]at hg;cases hg
    |true=>rw[zA7,beq_iff_eq]at hq;omega
   subst hn;have hz:s.size+t.size+2≤4000:=by have hg:leI (w64 (w64 ((s.size:Int)+(t.size:Int))+2)) 4000=true:=hg;rw[zS,zB (n:=(s.size:Int)+(t.size:Int)) (by omega),zB (by omega)]at hg;have:=of_decide_eq_true hg;omega
   have hno:=n3 rfl;have l1:s.data.toList.length=s.size:=Array.length_toList;have hs:∀b∈s.data.toList,b≠10:=fun b hb=>by obtain⟨j,hj,e⟩:=List.getElem_of_mem hb;exact hno j b (Nat.zero_le _) (by rw[List.getElem?_append_left hj,zu hj,e])
   have ht:∀b∈t.data.toList,b≠10:=fun b hb=>by obtain⟨j,hj,e⟩:=List.getElem_of_mem hb;exact hno (s.data.toList.length+j) b (Nat.zero_le _) (by rw[List.getElem?_append_right (by omega),Nat.add_sub_cancel_left,zu hj,e])
   have hb:=z1Z hs ht hz a1 b1;have z1:(⟨#[10]⟩:qe).size=1:=by decide
   have hi2:=zZH [a,b] (by simp);rw[catI (a:=s) (b:=⟨#[10]⟩) (by rw[z1];omega),catI (a:=s++⟨#[10]⟩) (b:=t) (by rw[ByteArray.size_append,z1];omega),catI (a:=(s++⟨#[10]⟩)++t) (b:=⟨#[10]⟩) (by rw[ByteArray.size_append,ByteArray.size_append,z1];omega)];simp only[zb,za,hb,hi2]
end Go.Proofs.YtnjhhbcccgbbnaaGreatDoor
namespace Go.Proofs
def Tryz.laysM171_ren:Go.Shelf.Ren:=⟨fun|171=>58|243=>123|246=>198|283=>245|284=>246|285=>247|286=>248|129=>274|317=>273|318=>275|319=>276|320=>277|337=>291|338=>292|n=>n,fun|3=>3|9=>9|2=>2|4=>4|171=>197|0=>0|53=>55|37=>22|5=>5|173=>200|212=>226|51=>227|20=>20|213=>228|46=>179|232=>250|233=>251|n=>n,fun|17=>0|18=>7|19=>8|n=>n⟩
theorem Tryz.laysM171:Go.Proofs.LaysM.n171 Tryz.prog Tryz.laysM171_ren:={
 mixed:=by kernel_rfl
 f129:=Tryz.func274.trans (congrArg some (by kernel_rfl))
 f171:=Tryz.func58.trans (congrArg some (by kernel_rfl))
 f243:=Tryz.func123.trans (congrArg some (by kernel_rfl))
 f246:=Tryz.func198.trans (congrArg some (by kernel_rfl))
 f283:=Tryz.func245.trans (congrArg some (by kernel_rfl))
 f284:=Tryz.func246.trans (congrArg some (by kernel_rfl))
 f285:=Tryz.func247.trans (congrArg some (by kernel_rfl))
 f286:=Tryz.func248.trans (congrArg some (by kernel_rfl))
 f317:=Tryz.func273.trans (congrArg some (by kernel_rfl))
 f318:=Tryz.func275.trans (congrArg some (by kernel_rfl))
 f319:=Tryz.func276.trans (congrArg some (by kernel_rfl))
 f320:=Tryz.func277.trans (congrArg some (by kernel_rfl))
 f337:=Tryz.func291.trans (congrArg some (by kernel_rfl))
 f338:=Tryz.func292.trans (congrArg some (by kernel_rfl))
 t0:=Tryz.underlying0
 a0:=Tryz.isAgg0
 z0:=Tryz.sizeOf0
 v0:=Tryz.zeroValue0
 t2:=Tryz.underlying2
 a2:=Tryz.isAgg2
 z2:=Tryz.sizeOf2
 v2:=Tryz.zeroValue2
 t3:=Tryz.underlying3
 a3:=Tryz.isAgg3
 z3:=Tryz.sizeOf3
 v3:=Tryz.zeroValue3
 t4:=Tryz.underlying4
 a4:=Tryz.isAgg4
 z4:=Tryz.sizeOf4
 v4:=Tryz.zeroValue4
 t5:=Tryz.underlying5
 a5:=Tryz.isAgg5
 z5:=Tryz.sizeOf5
 v5:=Tryz.zeroValue5
 t9:=Tryz.underlying9
 a9:=Tryz.isAgg9
 z9:=Tryz.sizeOf9
 v9:=Tryz.zeroValue9
 t20:=Tryz.underlying20
 a20:=Tryz.isAgg20
 z20:=Tryz.sizeOf20
 v20:=Tryz.zeroValue20
 t37:=Tryz.underlying22
 a37:=Tryz.isAgg22
 z37:=Tryz.sizeOf22
 v37:=Tryz.zeroValue22
 t46:=Tryz.underlying179
 a46:=Tryz.isAgg179
 z46:=Tryz.sizeOf179
 v46:=Tryz.zeroValue179
 t51:=Tryz.underlying227
 a51:=Tryz.isAgg227
 z51:=Tryz.sizeOf227
 v51:=Tryz.zeroValue227
 t53:=Tryz.underlying55
 a53:=Tryz.isAgg55
 z53:=Tryz.sizeOf55
 v53:=Tryz.zeroValue55
 t171:=Tryz.underlying197
 a171:=Tryz.isAgg197
 z171:=Tryz.sizeOf197
 v171:=Tryz.zeroValue197
 t173:=Tryz.underlying200
 a173:=Tryz.isAgg200
 z173:=Tryz.sizeOf200
 v173:=Tryz.zeroValue200
 t212:=Tryz.underlying226
 a212:=Tryz.isAgg226
 z212:=Tryz.sizeOf226
 v212:=Tryz.zeroValue226
 t213:=Tryz.underlying228
 a213:=Tryz.isAgg228
 z213:=Tryz.sizeOf228
 t232:=Tryz.underlying250
 a232:=Tryz.isAgg250
 z232:=Tryz.sizeOf250
 v232:=Tryz.zeroValue250
 t233:=Tryz.underlying251
 a233:=Tryz.isAgg251
 z233:=Tryz.sizeOf251
 v233:=Tryz.zeroValue251
 g17:=by kernel_rfl
 g18:=by kernel_rfl
 g19:=by kernel_rfl
 i0:=by kernel_rfl
 i2:=by kernel_rfl
 i3:=by kernel_rfl
 i4:=by kernel_rfl
 i5:=by kernel_rfl
 i9:=by kernel_rfl
 i20:=by kernel_rfl
 i37:=by kernel_rfl
 i46:=by kernel_rfl
 i51:=by kernel_rfl
 i53:=by kernel_rfl
 i171:=by kernel_rfl
 i173:=by kernel_rfl
 i212:=by kernel_rfl
 i232:=by kernel_rfl
 i233:=by kernel_rfl
 m17:=by kernel_rfl
 m18:=by kernel_rfl
 m19:=by kernel_rfl}
open Go.RowKit Go.Sort Go.Lib in
theorem Tryz.strconv_Itoa(n:Int)(h0:-9223372036854775808≤n)(h1:n≤9223372036854775807)(w:World)(htab:Lib.TabIs Tryz.prog w "internal/strconv.uint64pow10" .u64 Lib.pow10Tab):
    Calls Tryz.prog 58 #[.int .i64 n] w fun e w'=>e=.returned (.string ⟨(Lib.itoa n).toArray⟩)∧∃k os,w'=grow (w.drewN k) os:=Any.strconv_Itoa Tryz.laysM171 n h0 h1 w htab
def Tryz.laysC172_ren:Go.Shelf.Ren:=⟨fun|172=>191|244=>242|245=>243|247=>268|279=>269|280=>270|281=>271|282=>272|287=>288|316=>289|171=>58|205=>290|321=>297|322=>298|243=>123|246=>198|283=>245|284=>246|285=>247|286=>248|129=>274|317=>273|318=>275|319=>276|320=>277|337=>291|338=>292|n=>n,fun|9=>9|3=>3|75=>163|76=>164|4=>4|5=>5|167=>219|37=>22|0=>0|85=>220|2=>2|168=>222|53=>55|175=>233|46=>179|210=>236|127=>191|145=>249|143=>247|21=>21|171=>197|173=>200|212=>226|51=>227|20=>20|213=>228|232=>250|233=>251|80=>104|n=>n,fun|15=>3|16=>4|17=>0|18=>7|19=>8|n=>n⟩
theorem Tryz.laysC172:Go.Proofs.LaysC.n172 Tryz.prog Tryz.laysC172_ren:={
 mixed:=by kernel_rfl
 f129:=Tryz.func274.trans (congrArg some (by kernel_rfl))
 f171:=Tryz.func58.trans (congrArg some (by kernel_rfl))
 f172:=Tryz.func191.trans (congrArg some (by kernel_rfl))
 f205:=Tryz.func290.trans (congrArg some (by kernel_rfl))
 f243:=Tryz.func123.trans (congrArg some (by kernel_rfl))
 f244:=Tryz.func242.trans (congrArg some (by kernel_rfl))
 f245:=Tryz.func243.trans (congrArg some (by kernel_rfl))
 f246:=Tryz.func198.trans (congrArg some (by kernel_rfl))
 f247:=Tryz.func268.trans (congrArg some (by kernel_rfl))
 f279:=Tryz.func269.trans (congrArg some (by kernel_rfl))
 f280:=Tryz.func270.trans (congrArg some (by kernel_rfl))
 f281:=Tryz.func271.trans (congrArg some (by kernel_rfl))
 f282:=Tryz.func272.trans (congrArg some (by kernel_rfl))
 f283:=Tryz.func245.trans (congrArg some (by kernel_rfl))
 f284:=Tryz.func246.trans (congrArg some (by kernel_rfl))
 f285:=Tryz.func247.trans (congrArg some (by kernel_rfl))
 f286:=Tryz.func248.trans (congrArg some (by kernel_rfl))
 f287:=Tryz.func288.trans (congrArg some (by kernel_rfl))
 f316:=Tryz.func289.trans (congrArg some (by kernel_rfl))
 f317:=Tryz.func273.trans (congrArg some (by kernel_rfl))
 f318:=Tryz.func275.trans (congrArg some (by kernel_rfl))
 f319:=Tryz.func276.trans (congrArg some (by kernel_rfl))
 f320:=Tryz.func277.trans (congrArg some (by kernel_rfl))
 f321:=Tryz.func297.trans (congrArg some (by kernel_rfl))
 f322:=Tryz.func298.trans (congrArg some (by kernel_rfl))
 f337:=Tryz.func291.trans (congrArg some (by kernel_rfl))
 f338:=Tryz.func292.trans (congrArg some (by kernel_rfl))
 t0:=Tryz.underlying0
 a0:=Tryz.isAgg0
 z0:=Tryz.sizeOf0
 v0:=Tryz.zeroValue0
 t2:=Tryz.underlying2
 a2:=Tryz.isAgg2
 z2:=Tryz.sizeOf2
 v2:=Tryz.zeroValue2
 t3:=Tryz.underlying3
 a3:=Tryz.isAgg3
 z3:=Tryz.sizeOf3
 v3:=Tryz.zeroValue3
 t4:=Tryz.underlying4
 a4:=Tryz.isAgg4
 z4:=Tryz.sizeOf4
 v4:=Tryz.zeroValue4
 t5:=Tryz.underlying5
 a5:=Tryz.isAgg5
 z5:=Tryz.sizeOf5
 v5:=Tryz.zeroValue5
 t9:=Tryz.underlying9
 a9:=Tryz.isAgg9
 z9:=Tryz.sizeOf9
 v9:=Tryz.zeroValue9
 t20:=Tryz.underlying20
 a20:=Tryz.isAgg20
 z20:=Tryz.sizeOf20
 v20:=Tryz.zeroValue20
 t21:=Tryz.underlying21
 a21:=Tryz.isAgg21
 z21:=Tryz.sizeOf21
 v21:=Tryz.zeroValue21
 t37:=Tryz.underlying22
 a37:=Tryz.isAgg22
 z37:=Tryz.sizeOf22
 v37:=Tryz.zeroValue22
 t46:=Tryz.underlying179
 a46:=Tryz.isAgg179
 z46:=Tryz.sizeOf179
 v46:=Tryz.zeroValue179
 t51:=Tryz.underlying227
 a51:=Tryz.isAgg227
 z51:=Tryz.sizeOf227
 v51:=Tryz.zeroValue227
 t53:=Tryz.underlying55
 a53:=Tryz.isAgg55
 z53:=Tryz.sizeOf55
 v53:=Tryz.zeroValue55
 t75:=Tryz.underlying163
 a75:=Tryz.isAgg163
 z75:=Tryz.sizeOf163
 v75:=Tryz.zeroValue163
 t76:=Tryz.underlying164
 a76:=Tryz.isAgg164
 z76:=Tryz.sizeOf164
 v76:=Tryz.zeroValue164
 t85:=Tryz.underlying220
 a85:=Tryz.isAgg220
 z85:=Tryz.sizeOf220
 v85:=Tryz.zeroValue220
 t127:=Tryz.underlying191
 a127:=Tryz.isAgg191
 z127:=Tryz.sizeOf191
 v127:=Tryz.zeroValue191
 t143:=Tryz.underlying247
 a143:=Tryz.isAgg247
 z143:=Tryz.sizeOf247
 v143:=Tryz.zeroValue247
 t145:=Tryz.underlying249
 a145:=Tryz.isAgg249
 z145:=Tryz.sizeOf249
 v145:=Tryz.zeroValue249
 t167:=Tryz.underlying219
 a167:=Tryz.isAgg219
 z167:=Tryz.sizeOf219
 v167:=Tryz.zeroValue219
 t168:=Tryz.underlying222
 a168:=Tryz.isAgg222
 z168:=Tryz.sizeOf222
 v168:=Tryz.zeroValue222
 t171:=Tryz.underlying197
 a171:=Tryz.isAgg197
 z171:=Tryz.sizeOf197
 v171:=Tryz.zeroValue197
 t173:=Tryz.underlying200
 a173:=Tryz.isAgg200
 z173:=Tryz.sizeOf200
 v173:=Tryz.zeroValue200
 t175:=Tryz.underlying233
 a175:=Tryz.isAgg233
 z175:=Tryz.sizeOf233
 v175:=Tryz.zeroValue233
 t210:=Tryz.underlying236
 a210:=Tryz.isAgg236
 z210:=Tryz.sizeOf236
 v210:=Tryz.zeroValue236
 t212:=Tryz.underlying226
 a212:=Tryz.isAgg226
 z212:=Tryz.sizeOf226
 v212:=Tryz.zeroValue226
 t213:=Tryz.underlying228
 a213:=Tryz.isAgg228
 z213:=Tryz.sizeOf228
 t232:=Tryz.underlying250
 a232:=Tryz.isAgg250
 z232:=Tryz.sizeOf250
 v232:=Tryz.zeroValue250
 t233:=Tryz.underlying251
 a233:=Tryz.isAgg251
 z233:=Tryz.sizeOf251
 v233:=Tryz.zeroValue251
 g15:=by kernel_rfl
 g16:=by kernel_rfl
 g17:=by kernel_rfl
 g18:=by kernel_rfl
 g19:=by kernel_rfl
 t80:=Tryz.underlying104
 a80:=Tryz.isAgg104
 z80:=Tryz.sizeOf104
 v80:=Tryz.zeroValue104
 i0:=by kernel_rfl
 i2:=by kernel_rfl
 i3:=by kernel_rfl
 i4:=by kernel_rfl
 i5:=by kernel_rfl
 i9:=by kernel_rfl
 i20:=by kernel_rfl
 i21:=by kernel_rfl
 i37:=by kernel_rfl
 i46:=by kernel_rfl
 i51:=by kernel_rfl
 i53:=by kernel_rfl
 i75:=by kernel_rfl
 i76:=by kernel_rfl
 i80:=by kernel_rfl
 i85:=by kernel_rfl
 i127:=by kernel_rfl
 i143:=by kernel_rfl
 i145:=by kernel_rfl
 i167:=by kernel_rfl
 i168:=by kernel_rfl
 i171:=by kernel_rfl
 i173:=by kernel_rfl
 i175:=by kernel_rfl
 i210:=by kernel_rfl
 i212:=by kernel_rfl
 i232:=by kernel_rfl
 i233:=by kernel_rfl
 m15:=by kernel_rfl
 m16:=by kernel_rfl
 m17:=by kernel_rfl
 m18:=by kernel_rfl
 m19:=by kernel_rfl
 c0:=by kernel_rfl
 c2:=by kernel_rfl
 c3:=by kernel_rfl
 c4:=by kernel_rfl
 c5:=by kernel_rfl
 c9:=by kernel_rfl
 c20:=by kernel_rfl
 c21:=by kernel_rfl
 c37:=by kernel_rfl
 c46:=by kernel_rfl
 c51:=by kernel_rfl
 c53:=by kernel_rfl
 c75:=by kernel_rfl
 c76:=by kernel_rfl
 c80:=by kernel_rfl
 c85:=by kernel_rfl
 c127:=by kernel_rfl
 c143:=by kernel_rfl
 c145:=by kernel_rfl
 c167:=by kernel_rfl
 c168:=by kernel_rfl
 c171:=by kernel_rfl
 c173:=by kernel_rfl
 c175:=by kernel_rfl
 c210:=by kernel_rfl
 c212:=by kernel_rfl
 c213:=by kernel_rfl
 c232:=by kernel_rfl
 c233:=by kernel_rfl}
open Go.RowKit in
theorem Tryz.strconv_Atoi_ok(s:ByteArray)(hmax:s.size≤9223372036854775806)(v:Int)(h:Lib.atoiAll s.data.toList=.ok v)(w:World):
  Calls Tryz.prog 191 #[.string s] w fun e w'=>e=.returned (.tuple #[.int .i64 v,.nilIface])∧(w'=w∨∃t,w'=Lib.bytesWorld w 5 t):=Any.strconv_Atoi_ok Tryz.laysC172 s hmax v h w
open Go.RowKit in
theorem Tryz.strconv_Atoi_syntax(s:ByteArray)(hlim:s.size≤281474976710656)(h:Lib.atoiAll s.data.toList=.«syntax»)(ev:Value)(w:World)(hv:w.cell? ⟨3,0,none⟩=some ev)(hev:ev=.nilIface∨∃te pe,ev=.iface te pe):
  Calls Tryz.prog 191 #[.string s] w fun e w'=>∃N,e=.returned (.tuple #[.int .i64 (0),.iface 222 (.pointer (some ⟨N,0,none⟩))])∧w.heap.size≤N∧w'.heap[N]?=some (.cells #[.string ⟨#[65,116,111,105]⟩,.string s,ev] 236 (0,0))∧Below w.heap.size w w':=Any.strconv_Atoi_syntax Tryz.laysC172 s hlim h ev w hv hev
open Go.RowKit in
theorem Tryz.strconv_Atoi_range(s:ByteArray)(hlim:s.size≤281474976710656)(h:Lib.atoiAll s.data.toList=.range)(ev:Value)(w:World)(hv:w.cell? ⟨4,0,none⟩=some ev)(hev:ev=.nilIface∨∃te pe,ev=.iface te pe):
  Calls Tryz.prog 191 #[.string s] w fun e w'=>∃N,e=.returned (.tuple #[.int .i64 (Lib.atoiSat s.data.toList),.iface 222 (.pointer (some ⟨N,0,none⟩))])∧w.heap.size≤N∧w'.heap[N]?=some (.cells #[.string ⟨#[65,116,111,105]⟩,.string s,ev] 236 (0,0))∧Below w.heap.size w w':=Any.strconv_Atoi_range Tryz.laysC172 s hlim h ev w hv hev
def Tryz.lays146_ren:Go.Shelf.Ren:=⟨fun|146=>106|221=>189|268=>237|138=>238|143=>239|195=>264|197=>265|218=>266|219=>267|260=>283|217=>284|225=>285|224=>286|267=>287|266=>295|314=>296|n=>n,fun|9=>9|31=>45|3=>3|4=>4|0=>0|105=>213|21=>21|5=>5|46=>179|119=>239|139=>242|138=>241|146=>243|51=>227|n=>n,fun|1=>2|3=>5|4=>6|n=>n⟩
theorem Tryz.lays146:Go.Proofs.Lays.n146 Tryz.prog Tryz.lays146_ren:={
 mixed:=by kernel_rfl
 f138:=Tryz.func238.trans (congrArg some (by kernel_rfl))
 f143:=Tryz.func239.trans (congrArg some (by kernel_rfl))
 f146:=Tryz.func106.trans (congrArg some (by kernel_rfl))
 f195:=Tryz.func264.trans (congrArg some (by kernel_rfl))
 f197:=Tryz.func265.trans (congrArg some (by kernel_rfl))
 f217:=Tryz.func284.trans (congrArg some (by kernel_rfl))
 f218:=Tryz.func266.trans (congrArg some (by kernel_rfl))
 f219:=Tryz.func267.trans (congrArg some (by kernel_rfl))
 f221:=Tryz.func189.trans (congrArg some (by kernel_rfl))
 f224:=Tryz.func286.trans (congrArg some (by kernel_rfl))
 f225:=Tryz.func285.trans (congrArg some (by kernel_rfl))
 f260:=Tryz.func283.trans (congrArg some (by kernel_rfl))
 f266:=Tryz.func295.trans (congrArg some (by kernel_rfl))
 f267:=Tryz.func287.trans (congrArg some (by kernel_rfl))
 f268:=Tryz.func237.trans (congrArg some (by kernel_rfl))
 f314:=Tryz.func296.trans (congrArg some (by kernel_rfl))
 t0:=Tryz.underlying0
 a0:=Tryz.isAgg0
 z0:=Tryz.sizeOf0
 v0:=Tryz.zeroValue0
 t3:=Tryz.underlying3
 a3:=Tryz.isAgg3
 z3:=Tryz.sizeOf3
 v3:=Tryz.zeroValue3
 t4:=Tryz.underlying4
 a4:=Tryz.isAgg4
 z4:=Tryz.sizeOf4
 v4:=Tryz.zeroValue4
 t5:=Tryz.underlying5
 a5:=Tryz.isAgg5
 z5:=Tryz.sizeOf5
 v5:=Tryz.zeroValue5
 t9:=Tryz.underlying9
 a9:=Tryz.isAgg9
 z9:=Tryz.sizeOf9
 v9:=Tryz.zeroValue9
 t21:=Tryz.underlying21
 a21:=Tryz.isAgg21
 z21:=Tryz.sizeOf21
 v21:=Tryz.zeroValue21
 t31:=Tryz.underlying45
 a31:=Tryz.isAgg45
 z31:=Tryz.sizeOf45
 v31:=Tryz.zeroValue45
 t46:=Tryz.underlying179
 a46:=Tryz.isAgg179
 z46:=Tryz.sizeOf179
 v46:=Tryz.zeroValue179
 t51:=Tryz.underlying227
 a51:=Tryz.isAgg227
 z51:=Tryz.sizeOf227
 v51:=Tryz.zeroValue227
 t105:=Tryz.underlying213
 a105:=Tryz.isAgg213
 z105:=Tryz.sizeOf213
 v105:=Tryz.zeroValue213
 t119:=Tryz.underlying239
 a119:=Tryz.isAgg239
 z119:=Tryz.sizeOf239
 t138:=Tryz.underlying241
 a138:=Tryz.isAgg241
 z138:=Tryz.sizeOf241
 v138:=Tryz.zeroValue241
 t139:=Tryz.underlying242
 a139:=Tryz.isAgg242
 z139:=Tryz.sizeOf242
 v139:=Tryz.zeroValue242
 t146:=Tryz.underlying243
 a146:=Tryz.isAgg243
 z146:=Tryz.sizeOf243
 v146:=Tryz.zeroValue243
 g1:=by kernel_rfl
 g3:=by kernel_rfl
 g4:=by kernel_rfl}
open Go.RowKit Go.Lib in
theorem Tryz.strings_Split(s sep:ByteArray)(m:Int)(w:World)(hs:s.size<4294967281)(hm:w.cell? ⟨2,0,none⟩=some (.int .i64 m))(h1:1≤sep.size):
  Calls Tryz.prog 106 #[.string s,.string sep] w fun e w'=>e=.returned (.slice (some ⟨w.heap.size,0,none⟩) (Lib.countB s sep+1) (Lib.countB s sep+1))∧w'=w.alloc (.cells ((Lib.splitB sep 0 (Lib.countB s sep) s).map Value.string).toArray 9):=Any.strings_Split Tryz.lays146 (by kernel_rfl) s sep m w hs hm h1
def Tryz.lays229_ren:Go.Shelf.Ren:=⟨fun|229=>240|n=>n,fun|9=>9|40=>195|31=>45|152=>216|3=>3|0=>0|4=>4|21=>21|154=>218|n=>n,fun|n=>n⟩
theorem Tryz.lays229:Go.Proofs.Lays.n229 Tryz.prog Tryz.lays229_ren:={
 mixed:=by kernel_rfl
 f229:=Tryz.func240.trans (congrArg some (by kernel_rfl))
 t0:=Tryz.underlying0
 a0:=Tryz.isAgg0
 z0:=Tryz.sizeOf0
 v0:=Tryz.zeroValue0
 t3:=Tryz.underlying3
 a3:=Tryz.isAgg3
 z3:=Tryz.sizeOf3
 v3:=Tryz.zeroValue3
 t4:=Tryz.underlying4
 a4:=Tryz.isAgg4
 z4:=Tryz.sizeOf4
 v4:=Tryz.zeroValue4
 t9:=Tryz.underlying9
 a9:=Tryz.isAgg9
 z9:=Tryz.sizeOf9
 v9:=Tryz.zeroValue9
 t21:=Tryz.underlying21
 a21:=Tryz.isAgg21
 z21:=Tryz.sizeOf21
 v21:=Tryz.zeroValue21
 t31:=Tryz.underlying45
 a31:=Tryz.isAgg45
 z31:=Tryz.sizeOf45
 v31:=Tryz.zeroValue45
 t40:=Tryz.underlying195
 a40:=Tryz.isAgg195
 z40:=Tryz.sizeOf195
 v40:=Tryz.zeroValue195
 t152:=Tryz.underlying216
 a152:=Tryz.isAgg216
 z152:=Tryz.sizeOf216
 v152:=Tryz.zeroValue216
 t154:=Tryz.underlying218
 a154:=Tryz.isAgg218
 z154:=Tryz.sizeOf218
 v154:=Tryz.zeroValue218}
open Go.RowKit Go.Lib in
theorem Tryz.strings_FieldsFunc(g:Nat)(lb:Array Value)(eg:∀args w,(callFunc g args).run Tryz.prog w=.ok (.enter g args) w)(p:Nat→Bool)(s:ByteArray)(w:World)(hs:s.size≤4294967296)(hp:PredAt Tryz.prog g lb encR p w):
  Calls Tryz.prog 240 #[.string s,.func (.func g) #[] lb] w fun e w'=>∃A,e=.returned (.slice (some ⟨A,0,none⟩) (Lib.goFieldsP p s).length (Lib.goFieldsP p s).length)∧w.heap.size≤A∧
   w'.ownsRow w.heap.size 9 1 (.slice (some ⟨A,0,none⟩) (Lib.goFieldsP p s).length (Lib.goFieldsP p s).length) (Lib.goFieldsP p s).length ((Lib.goFieldsP p s).map Value.string)∧Below w.heap.size w w':=Any.strings_FieldsFunc Tryz.lays229 g lb eg p s w hs hp (by kernel_rfl) (by kernel_rfl)
end Go.Proofs
namespace Go.Proofs.YtnjhhbcccgbbnaaGreatDoor
open Go.RowKit
noncomputable abbrev qg:=Tryz.prog
noncomputable section
def cStr(x:qe):List Tr:=[.v (.string x)]
theorem z3A{ok:Nat→Prop}{w:World}(h:Lb ok w):Go.Lib.TabIs qg w "internal/strconv.uint64pow10" .u64 Go.Lib.pow10Tab:=by
  have hg:Tryz.prog.globalNamed "internal/strconv.uint64pow10"=some 0:=by kernel_rfl
  obtain⟨_,cs,T,fz,h2,h3⟩:=h (0,fun cs=>cs=(Go.Lib.pow10Tab.map fun z=>Value.int .u64 z).toArray) (by simp[TB]);have h3:cs=(Go.Lib.pow10Tab.map fun z=>Value.int .u64 z).toArray:=h3;subst h3;unfold Go.Lib.TabIs World.var?;rw[hg];simp only[za,h2]
theorem zJt{w:World}{g:Nat}{o:Obj}(h:w.heap[g]?=some o):g<w.heap.size:=by
 by_cases hlt:g<w.heap.size
 ·exact hlt
 ·rw[Array.getElem?_eq_none (by omega)]at h;cases h
theorem zY9{w:World}(h:Go.Lib.TabIs qg w "internal/strconv.uint64pow10" .u64 Go.Lib.pow10Tab):∃cs T fz,w.heap[0]?=some (.cells cs T fz)∧cs=(Go.Lib.pow10Tab.map fun z=>Value.int .u64 z).toArray:=by
  have hg:Tryz.prog.globalNamed "internal/strconv.uint64pow10"=some 0:=by kernel_rfl
  unfold Go.Lib.TabIs World.var? at h;rw[hg]at h;simp only[za]at h;have key:∀(o:Option Obj)(cs:Array Value),(match o with|some (.cells cs _ _)=>some cs|_=>none)=some cs→∃T fz,o=some (.cells cs T fz):=by
    intro o cs ho;split at ho
    · rename_i cs2 T fz
      injection ho with ho;subst ho;exact⟨T,fz,rfl⟩
    · cases ho
  obtain⟨T,fz,he⟩:=key _ _ h;exact⟨_,T,fz,he,rfl⟩
theorem zQP{w:World}{g:Nat}{v:Value}(h:w.cell? ⟨g,0,none⟩=some v):∃cs T fz,w.heap[g]?=some (.cells cs T fz)∧cs[0]?=some v:=by
 unfold World.cell? at h;split at h
 ·rename_i c T fz hc;exact⟨c,T,fz,hc,by simpa using h⟩
 ·cases h
theorem zPs{w:World}{g:Nat}{v:Value}{cs:Array Value}{T:TypeId}{fz:Nat×Nat}(h:w.heap[g]?=some (.cells cs T fz))(hv:cs[0]?=some v):w.cell? ⟨g,0,none⟩=some v:=by simp[World.cell?,h,hv]
theorem z3O{ok:Nat→Prop}{w:World}(hok:∀g,g<w.heap.size→ok g)(h:Go.Lib.TabIs qg w "internal/strconv.uint64pow10" .u64 Go.Lib.pow10Tab)(hm:∃m,w.cell? ⟨2,0,none⟩=some (.int .i64 m))(he3:∃te pe,w.cell? ⟨3,0,none⟩=some (.iface te pe))(he4:∃te pe,w.cell? ⟨4,0,none⟩=some (.iface te pe)):Lb ok w:=by
  intro p hp;simp only[TB,zk,zp,or_false]at hp;rcases hp with rfl|rfl|rfl|rfl
  · obtain⟨cs,T,fz,h1,h2⟩:=zY9 h
    exact⟨hok _ (zJt h1),cs,T,fz,h1,h2⟩
  · obtain⟨m,hm⟩:=hm
    obtain⟨cs,T,fz,h1,h2⟩:=zQP hm;exact⟨hok _ (zJt h1),cs,T,fz,h1,m,h2⟩
  · obtain⟨te,pe,he⟩:=he3
    obtain⟨cs,T,fz,h1,h2⟩:=zQP he;exact⟨hok _ (zJt h1),cs,T,fz,h1,te,pe,h2⟩
  · obtain⟨te,pe,he⟩:=he4
    obtain⟨cs,T,fz,h1,h2⟩:=zQP he;exact⟨hok _ (zJt h1),cs,T,fz,h1,te,pe,h2⟩
theorem zKW:∀args w,(callFunc 58 args).run qg w=.ok (.enter 58 args) w:=zFC Tryz.func58 (by kernel_rfl) (by kernel_rfl)
theorem zKz{n:Int}{r:qe}(h:zR n=some r):zH qg 58 [I n] (.c (.v (.string r))) []:=
 z1i (fun ok w n hl h0 h1=>(Go.Proofs.Tryz.strconv_Itoa n h0 h1 w (z3A hl)).mono (by
  rintro e w' ⟨he,k,os,hw⟩;subst hw;refine⟨he,rfl,rfl,rfl,?_,fun q hq=>?_⟩
  ·show w.heap.size≤(w.heap++os).size;simp
  ·show (w.heap++os)[q]?=w.heap[q]?
   exact Array.getElem?_append_left hq)) h
theorem z3M{ok:Nat→Prop}{w:World}(h:Lb ok w):∃m,w.cell? ⟨2,0,none⟩=some (.int .i64 m):=by obtain⟨_,cs,T,fz,h2,m,h3⟩:=h (2,fun cs=>∃m,cs[0]?=some (.int .i64 m)) (by simp[TB]);exact⟨m,zPs h2 h3⟩
theorem z1O{ok:Nat→Prop}{w:World}(h:Lb ok w):∃te pe,w.cell? ⟨3,0,none⟩=some (.iface te pe):=by obtain⟨_,cs,T,fz,h2,te,pe,h3⟩:=h (3,fun cs=>∃te pe,cs[0]?=some (.iface te pe)) (by simp[TB]);exact⟨te,pe,zPs h2 h3⟩
theorem z1N{ok:Nat→Prop}{w:World}(h:Lb ok w):∃te pe,w.cell? ⟨4,0,none⟩=some (.iface te pe):=by obtain⟨_,cs,T,fz,h2,te,pe,h3⟩:=h (4,fun cs=>∃te pe,cs[0]?=some (.iface te pe)) (by simp[TB]);exact⟨te,pe,zPs h2 h3⟩
theorem zJO:∀args w,(callFunc 106 args).run qg w=.ok (.enter 106 args) w:=zFC Tryz.func106 (by kernel_rfl) (by kernel_rfl)
theorem zKU{s sep:qe}{r:List qe}(h:zAG s sep=some r):zH qg 106 [.c (.v (.string s)),.c (.v (.string sep))] (.ow 0) [(0,.arr 9 1 (r.map cStr))]:=
 z0V (fun _=>rfl) (fun ok w s sep hl h1 h2=>by obtain⟨m,hm⟩:=z3M hl;exact Go.Proofs.Tryz.strings_Split s sep m w h1 hm h2) h
theorem zKX:∀args w,(callFunc 191 args).run qg w=.ok (.enter 191 args) w:=zFC Tryz.func191 (by kernel_rfl) (by kernel_rfl)
theorem zLA{s:qe}{r:Int×Bool}(h:zAw s=some r):zH qg 191 [.c (.v (.string s))] (.tc (I r.1) (.tc (.er r.2) .tn)) []:=
 z1j (fun ok w s hl hs r hr=>by
  obtain⟨te1,pe1,h1⟩:=z1O hl;obtain⟨te2,pe2,h2⟩:=z1N hl;unfold zAw at hr;rw[if_pos hs]at hr;cases ha:Go.Lib.atoiAll s.data.toList with
  |ok v=>
   rw[ha]at hr;injection hr with hr;subst hr;refine (Go.Proofs.Tryz.strconv_Atoi_ok s (by omega) v ha w).mono ?_
   rintro e w' ⟨he,hw⟩;refine⟨⟨_,he,.inl ⟨rfl,rfl⟩⟩,?_⟩;rcases hw with rfl|⟨t,rfl⟩
   ·exact Below.refl _ _
   ·exact Go.Lib.bytesWorld_below _ _ _
  |«syntax»=>
   rw[ha]at hr;injection hr with hr;subst hr;refine (Go.Proofs.Tryz.strconv_Atoi_syntax s hs ha _ w h1 (.inr ⟨te1,pe1,rfl⟩)).mono ?_
   rintro e w' ⟨N,he,_,_,hb⟩;exact⟨⟨_,he,.inr ⟨rfl,_,_,rfl⟩⟩,hb⟩
  |range=>
   rw[ha]at hr;injection hr with hr;subst hr;refine (Go.Proofs.Tryz.strconv_Atoi_range s hs ha _ w h2 (.inr ⟨te2,pe2,rfl⟩)).mono ?_
   rintro e w' ⟨N,he,_,_,hb⟩;exact⟨⟨_,he,.inr ⟨rfl,_,_,rfl⟩⟩,hb⟩) h
theorem zKf:∀args w,(callFunc 240 args).run qg w=.ok (.enter 240 args) w:=zFC Tryz.func240 (by kernel_rfl) (by kernel_rfl)
theorem zXk{s:qe}{r:List qe}{p:Nat→Bool}{g:Nat}(eg:∀args w,(callFunc g args).run qg w=.ok (.enter g args) w)(hp:∀w,Go.Proofs.PredAt qg g #[] (fun x:Nat=>Value.int .i32 (x:Int)) p w)(h:zBb p s=some r):zH qg 240 [.c (.v (.string s)),.c (.v (.func (.func g) #[] #[]))] (.ow 0) [(0,.arr 9 1 (r.map cStr))]:=by
 unfold zBb at h;split at h
 ·rename_i hn;injection h with h;subst h;refine zXG (fun _=>rfl) fun ok σ w vs hok hlib hargs=>?_
  cases hargs with
  |cons h1 h2=>
   cases h2 with
   |cons h3 h4=>
    cases h4;have:=zIG h1;subst this;have h5:Rd ok w (.v (.func (.func g) #[] #[])) _:=h3;cases h5;refine (Go.Proofs.Tryz.strings_FieldsFunc g #[] eg p s w hn (hp w)).mono ?_
    rintro e w' ⟨B,he,h6,h7,h8⟩;exact⟨B,_,he,h6,h7,h8⟩
 ·cases h
end
theorem z5i(a b:qe):(a==b)=decide (a=b):=by
 have h:(a==b)=(a.data==b.data):=rfl;rw[h,Bool.eq_iff_iff,beq_iff_eq,qc];constructor
 ·intro h;cases a;cases b;exact congrArg _ h
 ·intro h;rw[h]
section
variable {κ ν:Type} [DecidableEq κ]
theorem zTc{a:κ}:∀{m:List (κ×ν)},ixM a (m.map Prod.fst)=none→mGet a m=none∧∀v,mPut a v m=m++[(a,v)]
 |[],_=>⟨rfl,fun _=>rfl⟩
 |p::ps,h=>by
  simp only[List.map_cons,ixM]at h;by_cases e:a=p.1
  ·rw[if_pos e]at h;cases h
  ·rw[if_neg e]at h;have h2:ixM a (ps.map Prod.fst)=none:=by simpa using h
   obtain⟨k1,k2⟩:=zTc h2;exact⟨by unfold mGet;rw[if_neg e,k1],fun v=>by unfold mPut;rw[if_neg e,k2];rfl⟩
theorem zTb{a:κ}:∀{m:List (κ×ν)}{j:Nat},ixM a (m.map Prod.fst)=some j→∃v0,m[j]?=some (a,v0)∧mGet a m=some v0∧∀v,mPut a v m=m.set j (a,v)
 |[],j,h=>by cases h
 |p::ps,j,h=>by
  simp only[List.map_cons,ixM]at h;by_cases e:a=p.1
  ·rw[if_pos e]at h;injection h with h;subst h;refine⟨p.2,by rw[e];rfl,by unfold mGet;rw[if_pos e],fun v=>by unfold mPut;rw[if_pos e];rfl⟩
  ·rw[if_neg e]at h;cases h2:ixM a (ps.map Prod.fst) with
   |none=>rw[h2]at h;cases h
   |some i=>rw[h2]at h;injection h with h;subst h;obtain⟨v0,k1,k2,k3⟩:=zTb h2;exact⟨v0,by simpa using k1,by unfold mGet;rw[if_neg e,k2],fun v=>by unfold mPut;rw[if_neg e,k3];rfl⟩
end
section
variable {P:Program}
structure KeyT (P:Program) {κ:Type} [DecidableEq κ] (kt:TypeId) (ek:κ→Value):Prop where
  chk:∀b a w,(Instr.checkKey b 10000 kt (ek a)).run P w=.ok () w
  find:∀a (es:List MapEntry)(ks:List κ) w,es.map (·.key)=ks.map ek→(Instr.findKey kt (ek a) es).run P w=.ok ((ixM a ks).bind fun j=>(es[j]?).map fun e=>(j,e.val)) w
  bits:∀a,Instr.sameBits 10000 (ek a) (ek a)=true
theorem zQ4{κ:Type} [DecidableEq κ]{d:TypeDesc}{ek:κ→Value}(hs:∀a b,Instr.sameNow d (ek a) (ek b)=some (decide (a=b)))(a:κ):∀(es:List MapEntry)(ks:List κ)(i:Nat),es.map (·.key)=ks.map ek→
  Instr.findNow d (ek a) es i=some ((ixM a ks).bind fun j=>(es[j]?).map fun e=>(i+j,e.val))
 |[],[],i,_=>rfl
 |[],k::ks,i,h=>by simp at h
 |e::es,[],i,h=>by simp at h
 |e::es,k::ks,i,h=>by
  simp only[List.map_cons,List.cons.injEq]at h;have ih:=zQ4 hs a es ks (i+1) h.2;unfold Instr.findNow;rw[h.1,hs];by_cases e1:a=k
  ·simp[e1,ixM]
  ·simp only[ze e1,ih,ixM,if_neg e1];cases ixM a ks with
   |none=>rfl
   |some j=>simp only[za,Option.map_some,List.getElem?_cons_succ];rw[show i+1+j=i+(j+1) by omega]
theorem z4p{κ:Type} [DecidableEq κ]{kt:TypeId}{ek:κ→Value}(d:TypeDesc)(hd:P.underlying kt=some d)(chk:∀b a w,(Instr.checkKey b 10000 kt (ek a)).run P w=.ok () w)(hs:∀a b,Instr.sameNow d (ek a) (ek b)=some (decide (a=b)))
  (bits:∀a,Instr.sameBits 10000 (ek a) (ek a)=true):KeyT P kt ek:=by
 refine⟨chk,fun a es ks w h=>?_,bits⟩;unfold Instr.findKey;simp only[Sem.run_bind,run_underlying hd,Result.andThen_ok];have:=zQ4 hs a es ks 0 h;simp only[Nat.zero_add]at this;rw[this];rfl
theorem z4R{t:TypeId}{z:Value}(h:(P.info? t).bind (·.zero)=some z)(w:World):(zeroValue t).run P w=.ok z w:=by
 cases hi:P.info? t with
 |none=>rw[hi]at h;cases h
 |some i=>rw[hi]at h;have h2:i.zero=some z:=h;simp[zeroValue,typeInfo,hi,h2]
theorem zZO{κ ν:Type} [DecidableEq κ]{ek:κ→Value}{ev:ν→Value}{t kt vt:TypeId}{z:ν}(ht:P.underlying t=some (.map kt vt))(hk:KeyT P kt ek)(hz:(P.info? vt).bind (·.zero)=some (ev z)){w:World}{b:Nat}{es:Array MapEntry}{clock:Nat}(hb:w.heap[b]?=some (.map es clock))
  {m:List (κ×ν)} (hm:es.toList.map kvOf=m.map fun p=>(ek p.1,ev p.2)) (a:κ) (co:Bool):
  (Instr.lookup t (.map (some b)) (ek a) co).run P w=.ok (if co then .tuple #[ev (mAt a m z),.bool (mHas a m)] else ev (mAt a m z)) w:=by
 have hkeys:es.toList.map (·.key)=(m.map Prod.fst).map ek:=by have:=congrArg (List.map Prod.fst) hm;simpa [kvOf,Function.comp_def] using this
 have hf:=hk.find a es.toList (m.map Prod.fst) w hkeys;unfold Instr.lookup;simp only[Sem.run_bind,run_underlying ht,Result.andThen_ok,MapKept.run_getObj_map hb,Sem.run_pure,hk.chk,hf];cases hi:ixM a (m.map Prod.fst) with
 |none=>obtain⟨k1,_⟩:=zTc hi;simp only[Option.bind_none,Sem.run_bind,z4R hz,Result.andThen_ok,Sem.run_pure,mAt,mHas,k1,Option.getD_none,Option.isSome_none]
 |some j=>
  obtain⟨v0,k1,k2,_⟩:=zTb hi;have he:∃e,es.toList[j]?=some e∧e.val=ev v0:=by
   have h1:=congrArg (fun l=>l[j]?) hm;simp only[List.getElem?_map,k1,Option.map_some]at h1;cases h2:es.toList[j]? with
   |none=>rw[h2]at h1;cases h1
   |some e=>rw[h2]at h1;simp only[Option.map_some,zw,kvOf,Prod.mk.injEq]at h1;exact⟨e,rfl,h1.2⟩
  obtain⟨e,e1,e2⟩:=he;simp only[za,e1,Option.map_some,Sem.run_bind,Sem.run_pure,Result.andThen_ok,mAt,mHas,k2,Option.getD_some,Option.isSome_some,e2]
theorem zTJ{κ ν:Type} [DecidableEq κ]{ek:κ→Value}{ev:ν→Value}{t kt vt:TypeId}(ht:P.underlying t=some (.map kt vt))(hk:KeyT P kt ek){w:World}{b:Nat}{es:Array MapEntry}{clock:Nat}(hb:w.heap[b]?=some (.map es clock))
  {m:List (κ×ν)} (hm:es.toList.map kvOf=m.map fun p=>(ek p.1,ev p.2)) (a:κ) (v:ν):
  ∃es' clock',(Instr.mapUpdate t (.map (some b)) (ek a) (ev v)).run P w=.ok () {w with heap:=w.heap.setIfInBounds b (.map es' clock')}∧es'.toList.map kvOf=(mPut a v m).map fun p=>(ek p.1,ev p.2):=by
 have hkeys:es.toList.map (·.key)=(m.map Prod.fst).map ek:=by have:=congrArg (List.map Prod.fst) hm;simpa [kvOf,Function.comp_def] using this
 have hf:=hk.find a es.toList (m.map Prod.fst) w hkeys;cases hi:ixM a (m.map Prod.fst) with
 |none=>
  obtain⟨_,k2⟩:=zTc hi;refine⟨es.push {key:=ek a,val:=ev v,born:=clock},clock+1,?_,?_⟩
  ·unfold Instr.mapUpdate;rw[hi]at hf;simp only[Sem.run_bind,run_underlying ht,Result.andThen_ok,MapKept.run_getObj_map hb,Sem.run_pure,hk.chk,hf,Option.bind_none,MapKept.run_setObj_map _ hb]
  ·rw[k2];simp[hm,kvOf]
 |some j=>
  obtain⟨v0,k1,_,k3⟩:=zTb hi;have he:∃e,es.toList[j]?=some e∧e.key=ek a:=by
   have h1:=congrArg (fun l=>l[j]?) hm;simp only[List.getElem?_map,k1,Option.map_some]at h1;cases h2:es.toList[j]? with
   |none=>rw[h2]at h1;cases h1
   |some e=>rw[h2]at h1;simp only[Option.map_some,zw,kvOf,Prod.mk.injEq]at h1;exact⟨e,rfl,h1.1⟩
  obtain⟨e,e1,e2⟩:=he;have e3:es[j]?=some e:=by simpa using e1
  refine⟨es.modify j fun e=>{e with key:=ek a,val:=ev v},clock,?_,?_⟩
  ·unfold Instr.mapUpdate;rw[hi]at hf;simp only[Sem.run_bind,run_underlying ht,Result.andThen_ok,MapKept.run_getObj_map hb,Sem.run_pure,hk.chk,hf,za,e1,Option.map_some,e3,Option.getD_some,e2,Instr.keyThatStays,hk.bits,if_true,MapKept.run_setObj_map _ hb]
  ·rw[k3,Array.toList_modify];apply List.ext_getElem?;intro i;have h1:=congrArg (fun l=>l[i]?) hm;simp only[List.getElem?_map]at h1 ⊢;rw[List.getElem?_modify,List.getElem?_set];by_cases hij:j=i
   ·subst hij;have hlt:j<m.length:=(List.getElem?_eq_some_iff.1 k1).1;simp[e1,hlt,kvOf]
   ·simp only[hij,if_false,Option.map_map];rw[←h1];cases es.toList[i]?<;>rfl
theorem R.writeG{B:Fr}{w0:World}{ok0 ok:Nat→Prop}{σ:Nat→Loc}{s:St}{a:Act}{w w':World}(h:R B w0 ok0 ok σ s a w){id:Nat}{e e':Ent}{g:Nat}(he:s.ent id=some e)(hg:(σ id).blk=some g)(hsize:w'.heap.size=w.heap.size)
  (hw:∀q,q≠g→w'.heap[q]?=w.heap[q]?) (hos:w'.os=w.os) (htp:w'.tape=w.tape) (hou:w'.output=w.output) (E':List (Nat×Ent)) (hE:∀j,(E'.lookup j)=if j=id then some e' else s.ent j) (hok:zCC ok w' (σ id) e') (hpin:e'.pin=e.pin):
  R B w0 ok0 ok σ ⟨s.T,E'⟩ a w':=by
 obtain⟨hb1,hb2⟩:=h.core.blk id e g he hg;have hB:=h.own id e g he hg;have hwok:∀q,ok q→w'.heap[q]?=w.heap[q]?:=fun q hq=>hw q fun e=>hb1 (e▸hq)
 have look:∀j f,(St.mk s.T E').ent j=some f→(j=id∧f=e')∨(j≠id∧s.ent j=some f):=by
  intro j f hj;have h1:E'.lookup j=some f:=hj;rw[hE]at h1;split at h1
  ·rename_i hji;exact .inl ⟨hji,by simpa using h1.symm⟩
  ·rename_i hji;exact .inr ⟨hji,h1⟩
 refine⟨⟨h.core.len,fun q hq=>by rw[hsize];exact h.core.okL q hq,h.core.lib.mono (fun _ h=>h) hwok,fun t=>?_,fun j f hj=>?_,fun j f q hj hq=>?_,fun i j f1 f2 q hi hj h1 h2=>?_⟩,h.defers,h.below.trans ?_,by rw[hsize];exact h.base,h.old,h.fresh,fun j f q hj hq=>?_⟩
 ·have h1:=h.core.tmp t;exact h1.mono0 (fun _ h=>h) hwok
 ·rcases look j f hj with⟨rfl,rfl⟩|⟨h1,h2⟩
  ·exact hok
  ·refine (h.core.ent j f h2).mono (fun _ h=>h) hwok fun q hq=>hw q fun e1=>?_
   subst e1;exact h1 (h.core.inj _ _ _ _ _ h2 he hq hg)
 ·rw[hsize];rcases look j f hj with⟨rfl,rfl⟩|⟨h1,h2⟩
  ·exact h.core.blk _ _ _ he hq
  ·exact h.core.blk _ _ _ h2 hq
 ·rcases look i f1 hi with⟨a1,a2⟩|⟨a1,a2⟩<;>rcases look j f2 hj with⟨b1,b2⟩|⟨b1,b2⟩
  ·omega
  ·subst a1;exact h.core.inj _ _ _ _ _ he b2 h1 h2
  ·subst b1;exact h.core.inj _ _ _ _ _ a2 he h1 h2
  ·exact h.core.inj _ _ _ _ _ a2 b2 h1 h2
 ·refine⟨hos,htp,hou,by rw[hsize];exact Nat.le_refl _,fun q hq hx=>hw q fun e1=>?_⟩;subst e1;split at hB
  ·exact hx hB
  ·exact hq hB
 ·rcases look j f hj with⟨rfl,rfl⟩|⟨h1,h2⟩
  ·rw[hpin];exact h.own _ _ _ he hq
  ·exact h.own _ _ _ h2 hq
def trV:Tr→Option Value
 | .v x=>some x
 |_=>none
def keyV:AV→Option Value
 | .c (.v x)=>some x
 | .ag cs=>(cs.mapM trV).map fun xs=>.agg xs.toArray
 |_=>none
theorem z4l{ok:Nat→Prop}{w:World}:∀(cs:List Tr)(vs xs:List Value),RdL ok w cs vs→(cs.mapM trV)=some xs→vs=xs
 |[],_,xs,.nil,h=>by simpa using h
 |c::cs,_,xs,.cons h1 h2,h=>by
  rw[List.mapM_cons]at h;cases c with
  |v x=>
   simp only[trV,Option.pure_def,Option.bind_eq_bind,za]at h;cases h3:(cs.mapM trV) with
   |none=>rw[h3]at h;cases h
   |some ys=>rw[h3]at h;simp only[za,zw]at h;subst h;have:=z4l cs _ ys h2 h3;subst this;cases h1;rfl
  |sl e=>simp[trV]at h
  |mp e=>simp[trV]at h
theorem zWg{ok:Nat→Prop}{σ:Nat→Loc}{s:St}{a:Act}{w:World}(h:Core ok σ s a w){x:Operand}{v:Value}(hx:keyV (s.ev x)=some v):a.eval x=v:=by
 have h1:=h.ev x;cases hs:s.ev x with
 |c t=>
  rw[hs]at hx;cases t with
  |v y=>injection hx with hx;subst hx;exact h.exact hs
  |sl e=>cases hx
  |mp e=>cases hx
 |ag cs=>
  rw[hs]at hx h1;obtain⟨vs,hv,hr⟩:=(h1:Rel1 ok σ w (.ag cs) (a.eval x))
  simp only[keyV,Option.map_eq_some_iff]at hx;obtain⟨xs,h2,h3⟩:=hx;have:=z4l cs vs.toList xs hr h2;rw[hv,←h3,←this]
 |bot=>rw[hs]at hx;cases hx
 |ow _=>rw[hs]at hx;cases hx
 |pt _ _=>rw[hs]at hx;cases hx
 |po _ _ _ _=>rw[hs]at hx;cases hx
 |pe _=>rw[hs]at hx;cases hx
 |fn _ _=>rw[hs]at hx;cases hx
 |er _=>rw[hs]at hx;cases hx
 |vw _ _ _=>rw[hs]at hx;cases hx
 |sf _ _ _=>rw[hs]at hx;cases hx
 |tn=>rw[hs]at hx;cases hx
 |tc _ _=>rw[hs]at hx;cases hx
def MpOk(P:Program)(t:TypeId){κ ν:Type} [DecidableEq κ](ek:κ→Value)(ev:ν→Value)(z:ν):Prop:=∃kt vt,P.underlying t=some (.map kt vt)∧KeyT P kt ek∧(P.info? vt).bind (·.zero)=some (ev z)∧∀v,(ev v).oneCell'=true
theorem zT7{ok:Nat→Prop}{σ:Nat→Loc}{s:St}{a:Act}{w:World}(h:Core ok σ s a w){x:Operand}{id b:Nat}{kvs:List (Value×Value)}(hx:s.ev x=.c (.v (.map (some b))))(he:s.ent id=some (.mp b kvs)):a.eval x=.map (some b)∧∃es clock,w.heap[b]?=some (.map es clock)∧es.toList.map kvOf=kvs:=by obtain⟨h1,es,clock,h2,h3⟩:=h.ent id _ he;exact⟨h.exact hx,es,clock,h2,h3⟩
theorem z5y{o:Oper}{s:St}{x k:Operand}{t:TypeId}{κ ν:Type} [DecidableEq κ]{ek:κ→Value}{ev:ν→Value}{z:ν}{id b:Nat}{m:List (κ×ν)}{a:κ}(hm:MpOk P t ek ev z)(ho:o.op=.lookup t x k false)(hx:s.ev x=.c (.v (.map (some b))))(he:s.ent id=some (.mp b (m.map fun p=>(ek p.1,ev p.2))))(hk:keyV (s.ev k)=some (ek a)):
  Y0 P o s (.c (.v (ev (mAt a m z)))):=
 qZ fun ok σ ac w hC=>by obtain⟨kt,vt,h1,h2,h3,h4⟩:=hm;obtain⟨e1,es,clock,e2,e3⟩:=zT7 hC hx he;have:=zZO h1 h2 h3 e2 e3 a false;refine⟨_,?_,Rd.v _ (h4 _)⟩;unfold execOp;rw[ho];simp only[e1,zWg hC hk,Sem.run_bind,this,Result.andThen_ok,Sem.run_pure];rfl
theorem zKH{o:Oper}{s:St}{x k v:Operand}{t:TypeId}{κ ν:Type} [DecidableEq κ]{ek:κ→Value}{ev:ν→Value}{z:ν}{id b:Nat}{m:List (κ×ν)}{a:κ}{u:ν}(hm:MpOk P t ek ev z)(ho:o.op=.mapUpdate t x k v∨o.op=.insert t x k v)(hd:o.dst=none)(hx:s.ev x=.c (.v (.map (some b))))(he:s.ent id=some (.mp b (m.map fun p=>(ek p.1,ev p.2))))(hk:keyV (s.ev k)=some (ek a))(hv:s.ev v=.c (.v (ev u))):
  X P o s ⟨s.T,setE id (.mp b ((mPut a u m).map fun p=>(ek p.1,ev p.2))) s.E⟩:=by
 intro B w0 ok0 ok σ ac w hR K Q hK;obtain⟨kt,vt,h1,h2,h3,h4⟩:=hm;obtain⟨e1,es,clock,e2,e3⟩:=zT7 hR.core hx he;obtain⟨es',clock',r1,r2⟩:=zTJ h1 h2 e2 e3 a u;have ek1:=zWg hR.core hk;have ev1:=hR.core.exact hv;have hblk:=(hR.core.ent id _ he).1;have hset:=MapKept.heap_set (o':=.map es' clock') e2;have hR':=hR.writeG (w':={w with heap:=w.heap.setIfInBounds b (.map es' clock')}) he hblk (by simp) (fun q hq=>hset.2 q hq) rfl rfl rfl _ (zDf id (.mp b ((mPut a u m).map fun p=>(ek p.1,ev p.2))) s.E _ he) ⟨hblk,es',clock',hset.1,r2⟩ rfl;have hrun:(execOp ac.eval o).run P w=.ok .skip {w with heap:=w.heap.setIfInBounds b (.map es' clock')}:=by unfold execOp;rcases ho with ho|ho<;>rw[ho]<;>simp only[e1,ek1,ev1,Sem.run_bind,r1,Result.andThen_ok,Sem.run_pure]
 unfold Oper.wp;rw[hrun];show K (ac.put o.dst undef) _;rw[hd];exact hK _ _ _ _ hR'
theorem z6N{ops:Array Oper}{o:Oper}{rest:List Oper}{s:St}{J:St→Prop}{t:TypeId}{d:Nat}(hg:o.guard=none)(ho:o.op=.makeMap t none)(hd:o.dst=some d)(hk:∀b:Nat,XL P ops rest ⟨(zMl d s.T).set d (.c (.v (.map (some b)))),(d*8,.mp b [])::zO6 d s.E⟩ J):XL P ops (o::rest) s J:=by
 intro B w0 ok0 ok σ a w hR Q hQ;refine wpList_plain hg fun K hK=>?_
 have hnew:New w (w.alloc (.map #[] 0)) ok ok (fun _=>⟨some w.heap.size,0,0⟩) (.c (.v (.map (some w.heap.size)))) [(0,.mp w.heap.size [])] (.map (some w.heap.size)):=by
  have ha:=MapKept.heap_alloc w (.map #[] 0);have hsz:(w.alloc (.map #[] 0)).heap.size=w.heap.size+1:=by show (w.heap.push _).size=_;simp
  refine⟨⟨rfl,rfl,rfl,by omega,fun k hk=>ha.2 k hk⟩,fun _ h=>h,fun _ h=>.inl h,fun g hg=>by have:=hR.core.okL g hg;omega,Rd.v _ rfl,fun id e he=>?_,fun e he=>rfl,fun id e he=>?_,fun id e g he hg=>?_,fun i j e f g hi hj _ _=>?_,fun id e he=>?_⟩
  ·obtain⟨h1,_⟩:=zAE _ _ _ _ he;omega
  ·obtain⟨h1,h2⟩:=zAE _ _ _ _ he;subst h2;exact⟨rfl,#[],0,ha.1,rfl⟩
  ·have e1:w.heap.size=g:=by simpa using hg
   subst e1;exact⟨Nat.le_refl _,fun h=>Nat.lt_irrefl _ (hR.core.okL _ h),by omega⟩
  ·obtain⟨h1,_⟩:=zAE _ _ _ _ hi;obtain⟨h2,_⟩:=zAE _ _ _ _ hj;omega
  ·obtain⟨_,h2⟩:=zAE _ _ _ _ he;subst h2;rfl
 have hrun:(execOp a.eval o).run P w=.ok (.value (.map (some w.heap.size))) (w.alloc (.map #[] 0)):=by unfold execOp;rw[ho];simp[Instr.makeMap]
 have hR':=hR.upd (d:=d) hnew;unfold Oper.wp;rw[hrun];show K (a.put o.dst _) _;rw[hd];exact hK _ _ (hk w.heap.size B w0 ok0 ok (fun id=>if id / 8=d then ⟨some w.heap.size,0,0⟩ else σ id) _ _ hR' Q hQ)
theorem z9f{id:Nat}{ops:Array Oper}{s:St}{J:Exit→St→Prop}(S:Nat→St)(m:List Bool)(ids:List Nat)(h:XL P ops ops.toList s (fun s'=>∃b,s'.keep m ids=S b))(hj:∀b,J .normal (S b)):V P (.region id ops false) s J:=by
 refine qX fun B w0 ok0 ok σ a w hR Q hQ=>?_
 refine h _ _ _ _ _ _ _ hR Q fun s' a' w' ok' σ' hs hR'=>?_
 obtain⟨b,hs⟩:=hs;exact hQ _ a' w' ok' σ' (hj b) (by rw[←hs];exact hR'.le (zJv m ids s'))
theorem z7l{id:Nat}{ops:Array Oper}{y:Code}{s:St}{J:Exit→St→Prop}(S:Nat→St)(m:List Bool)(ids:List Nat)(h:XL P ops ops.toList s (fun s'=>∃b,s'.keep m ids=S b))(hv:∀b,V P y (S b) J):V P (.seq (.region id ops false) y) s J:=qB (z9f S m ids h hv)
end
section
variable (P:Program)
def ybin(op:BinOp):AV→AV→Option AV
 | .c (.v (.int k a)),.c (.v (.int k2 b))=>match decEq k k2 with
  |isTrue _=>(match op with
   | .lss=>some (Bo (ltI a b))
   | .leq=>some (Bo (leI a b))
   | .gtr=>some (Bo (ltI b a))
   | .geq=>some (Bo (leI b a))
   | .eql=>some (Bo (eqI a b))
   | .neq=>some (Bo (!eqI a b))
   |_=>none)
  |isFalse _=>none
 | .c (.v (.string a)),.c (.v (.string b))=>match op with
  | .eql=>some (Bo (a.toList==b.toList))
  | .neq=>some (Bo (!(a.toList==b.toList)))
  |_=>none
 |_,_=>none
def yv(s:St):Op→Option AV
 | .binOp op t x y _=>match ybin op (s.ev x) (s.ev y) with
  |some av=>some av
  |none=>(match s.ev x,s.ev y with
   | .c (.v (.bool a)),.c (.v (.bool b))=>(match P.underlying t with
    |some .bool=>(match op with
     | .eql=>some (Bo (a==b))
     | .neq=>some (Bo (a != b))
     |_=>none)
    |_=>none)
   |_,_=>none)
 | .pick c x y=>match s.ev c with
  | .c (.v (.bool b))=>nbA (bif b then s.ev x else s.ev y)
  |_=>none
 | .call c=>match c with
  |⟨.builtin .len,⟨[x]⟩,⟨[t]⟩⟩=>match P.underlying t,s.ev x with
   |some .string,.c (.v (.string b))=>some (I (b.size:Int))
   |_,_=>none
  |_=>none
 |_=>none
def yo(o:Oper)(s:St):Option St:=match xo P o s with
 |some s'=>some s'
 |none=>match o.dst with
  |some d=>(match yv P s o.op with
   |some av=>some (s.put d av)
   |none=>none)
  |none=>none
def gdt(ops:Array Oper)(j:Nat):Option Nat:=(ops[j]?).bind (·.dst)
def yg(ops:Array Oper)(o:Oper)(s:St):Option Bool:=match o.guard with
 |none=>some true
 |some (j,b)=>match gdt ops j with
  |some t=>match s.get t with
   | .c (.v (.bool c))=>some (bif c then b else !b)
   | .tn=>some false
   |_=>none
  |none=>none
def yr(ops:Array Oper):List Oper→St→Option St
 |[],s=>some s
 |o::os,s=>match yg ops o s with
  |some true=>(match yo P o s with
   |some s'=>yr ops os s'
   |none=>none)
  |some false=>(match o.dst with
   |some d=>yr ops os (s.put d .tn)
   |none=>none)
  |none=>none
def yD(ops:Array Oper)(l:List Oper)(s:St):St:=(yr P ops l s).getD s
def yc(ops:Array Oper)(f:FuncId)(l:List Oper)(s:St):Option (List AV):=match l with
 |o::_=>match yg ops o s,o.dst with
  |some true,some _=>(match o.op with
   | .call ⟨.value (.func g),xs,_⟩=>bif Nat.beq g f then some (evL s xs.toList) else none
   |_=>none)
  |_,_=>none
 |[]=>none
def ycn(ops:Array Oper)(f:FuncId)(n:Nat)(l:List Oper)(s:St):Option (List AV):=match yr P ops (l.take n) s with
 |some s'=>yc ops f (l.drop n) s'
 |none=>none
end
def dstH:List Oper→Nat
 |o::_=>o.dst.getD 0
 |[]=>0
section
variable {P:Program}
theorem z6X{o:Oper}{s:St}{op:BinOp}{t t2:TypeId}{x y:Operand}{av:AV}(ho:o.op=.binOp op t x y t2)(h:ybin op (s.ev x) (s.ev y)=some av):Y0 P o s av:=by
 generalize hx:s.ev x=a at h;generalize hy:s.ev y=b at h;unfold ybin at h;split at h
 ·split at h
  ·rename_i hk _;subst hk;cases op<;>simp only[zw,reduceCtorEq]at h<;>subst h<;>
    first|exact zYf ho hx hy|exact z5s ho hx hy|exact z5x ho hx hy|exact z5z ho hx hy|exact z6A ho hx hy|exact z6B ho hx hy
  ·cases h
 ·cases op<;>simp only[zw,reduceCtorEq]at h<;>subst h<;>
   first|exact zKG ho hx hy|exact z91 ho hx hy
 ·cases h
theorem z7v{o:Oper}{s:St}{av:AV}(h:yv P s o.op=some av):Y0 P o s av:=by
 unfold yv at h;split at h
 ·rename_i ho;split at h
  ·rename_i hb;cases h;exact z6X ho hb
  ·split at h
   ·rename_i hx hy;split at h
    ·rename_i hu;split at h
     ·cases h;exact z9a hu ho hx hy
     ·cases h;exact z92 hu ho hx hy
     ·cases h
    ·cases h
   ·cases h
 ·rename_i ho;split at h
  ·rename_i b hc;obtain⟨h1,h2⟩:=zXx h;rw[←h1];exact z74 ho hc
  ·cases h
 ·rename_i ho;split at h
  ·rename_i x t;split at h
   ·rename_i b hu hx;cases h;exact z79 hu ho hx
   ·cases h
  ·cases h
 ·cases h
theorem z7w{o:Oper}{s s':St}(h:yo P o s=some s'):X P o s s':=by
 unfold yo at h;split at h
 ·rename_i h1;cases h;exact z7x h1
 ·split at h
  ·rename_i d hd;split at h
   ·rename_i hv;cases h;exact zGi hd (z7v hv)
   ·cases h
  ·cases h
theorem zGb{ops:Array Oper}{o:Oper}{rest:List Oper}{s s':St}{J:St→Prop}(hg:yg ops o s=some true)(h:X P o s s')(hk:XL P ops rest s' J):XL P ops (o::rest) s J:=by
 unfold yg at hg;split at hg
 ·rename_i h1;exact zDz h1 h hk
 ·rename_i j b h1;split at hg
  ·rename_i t ht;split at hg
   ·rename_i c hc;have e:c=b:=by cases c<;>cases b<;>simp_all
    subst e;exact z7i h1 ht hc h hk
   ·cases hg
   ·cases hg
  ·cases hg
theorem YT{ops:Array Oper}{o:Oper}{rest:List Oper}{s s':St}{J:St→Prop}(h:X P o s s')(hk:XL P ops rest s' J)(hg:yg ops o s=some true:=by kernel_rfl):XL P ops (o::rest) s J:=zGb hg h hk
theorem z1l{ops:Array Oper}{o:Oper}{rest:List Oper}{s:St}{d:Nat}{J:St→Prop}(hg:yg ops o s=some false)(hd:o.dst=some d)(hk:XL P ops rest (s.put d .tn) J):XL P ops (o::rest) s J:=by
 unfold yg at hg;split at hg
 ·cases hg
 ·rename_i j b h1;split at hg
  ·rename_i t ht;split at hg
   ·rename_i c hc;exact z7j h1 ht hc (by cases c<;>cases b<;>simp_all) hd hk
   ·rename_i hc;exact z6M h1 ht hc hd hk
   ·cases hg
  ·cases hg
theorem zWT{ops:Array Oper}{J:St→Prop}(rest:List Oper):∀(l:List Oper)(s s':St),yr P ops l s=some s'→XL P ops rest s' J→XL P ops (l++rest) s J
 |[],s,s',h,hk=>by cases h;exact hk
 |o::os,s,s',h,hk=>by
  unfold yr at h;split at h
  ·rename_i hg;split at h
   ·rename_i s1 h1;exact zGb hg (z7w h1) (zWT rest os s1 s' h hk)
   ·cases h
  ·rename_i hg;split at h
   ·rename_i d hd;exact z1l hg hd (zWT rest os _ s' h hk)
   ·cases h
  ·cases h
theorem YR(n:Nat){ops:Array Oper}{rest:List Oper}{s:St}{J:St→Prop}(hk:XL P ops (rest.drop n) (yD P ops (rest.take n) s) J)(h:(yr P ops (rest.take n) s).isSome=true:=by kernel_rfl):XL P ops rest s J:=by
 cases hx:yr P ops (rest.take n) s with
 |none=>rw[hx]at h;cases h
 |some s'=>
  have e:yD P ops (rest.take n) s=s':=by unfold yD;rw[hx];rfl
  rw[e]at hk;have:=zWT (ops:=ops) (J:=J) (rest.drop n) (rest.take n) s s' hx hk
  rwa [List.take_append_drop]at this
theorem YF{ops:Array Oper}{rest:List Oper}{s:St}{K:St→Prop}(hk:K (yD P ops rest s))(h:(yr P ops rest s).isSome=true:=by kernel_rfl):XL P ops rest s K:=by
 cases hx:yr P ops rest s with
 |none=>rw[hx]at h;cases h
 |some s'=>
  have e:yD P ops rest s=s':=by unfold yD;rw[hx];rfl
  rw[e]at hk;have:=zWT (ops:=ops) (J:=K) [] rest s s' hx (qR hk)
  rwa [List.append_nil]at this
theorem YE{ops:Array Oper}{rest:List Oper}{s s1:St}{m:List Bool}{ids:List Nat}(h:(yr P ops rest s).map (fun s'=>s'.keep m ids)=some s1:=by kernel_rfl):XL P ops rest s (fun s'=>s'.keep m ids=s1):=by
 cases hx:yr P ops rest s with
 |none=>rw[hx]at h;cases h
 |some s'=>
  rw[hx]at h;have h2:s'.keep m ids=s1:=by injection h
  have:=zWT (ops:=ops) (J:=fun s'=>s'.keep m ids=s1) [] rest s s' hx (qR h2)
  rwa [List.append_nil]at this
theorem YK(n:Nat){ops:Array Oper}{rest:List Oper}{s:St}{J:St→Prop}{f:FuncId}{args:List AV}{av:AV}{ne:List (Nat×Ent)}(hS:zH P f args av ne)(hc:∀args w,(callFunc f args).run P w=.ok (.enter f args) w)
  (hk:XL P ops (rest.drop (n+1)) ((yD P ops (rest.take n) s).upd (dstH (rest.drop n)) av ne) J) (h:ycn P ops f n rest s=some args:=by kernel_rfl):XL P ops rest s J:=by
 unfold ycn at h;split at h
 ·rename_i s' hx;have e:yD P ops (rest.take n) s=s':=by unfold yD;rw[hx];rfl
  rw[e]at hk;unfold yc at h;split at h
  ·rename_i o os hl;split at h
   ·rename_i d hg hd;split at h
    ·rename_i g xs ts ho;cases hb:Nat.beq g f with
     |false=>rw[hb,zc]at h;cases h
     |true=>
      rw[hb,zb]at h;have hgf:=Nat.eq_of_beq_eq_true hb;subst hgf;have e3:rest.drop (n+1)=os:=by rw[←List.drop_drop,hl];rfl
      rw[hl,e3,dstH,hd]at hk;have:=zWT (ops:=ops) (J:=J) (rest.drop n) (rest.take n) s s' hx (by rw[hl];exact zGb hg (zGR hd (zRz hS hc ho (by injection h))) hk)
      rwa [List.take_append_drop]at this
    ·cases h
   ·cases h
  ·cases h
 ·cases h
def gtH(ops:Array Oper):List Oper→Nat
 |o::_=>match o.guard with
  |some (j,_)=>(gdt ops j).getD 0
  |none=>match o.op with
   | .pick (.tmp t) _ _=>t
   |_=>0
 |[]=>0
theorem zXq(s:St)(t:Nat):s.put t (s.get t)=s:=by
 cases s with
 |mk T E=>
  simp only[St.put,St.get];congr 1;apply List.ext_getElem?;intro i;rw[List.getElem?_set];by_cases h:t=i
  ·subst h;by_cases h2:t<T.length
   ·simp[h2]
   ·simp[h2]
  ·simp[h]
theorem YQ{c v:Bool}(hc:c=v){ops:Array Oper}{rest:List Oper}{s:St}{J:St→Prop}(hk:XL P ops rest (s.put (gtH ops rest) (Bo v)) J)(h:s.get (gtH ops rest)=Bo c:=by kernel_rfl):XL P ops rest s J:=by subst hc;rw[←h,zXq]at hk;exact hk
abbrev CfW(P:Program)(f:FuncId):Prop:=∀args w,(callFunc f args).run P w=.ok (.enter f args) w
theorem cfW{f:FuncId}{fn:Func}(hf:P.funcs[f]?=some fn)(hn:(fn.name== "runtime.NumGoroutine")=false:=by kernel_rfl)(hb:fn.body.isNone=false:=by kernel_rfl):CfW P f:=zFC hf hn hb
theorem z8M:∀ks:List Nat,FitsL P (ks.map RS.t) (ks.map ResultVar.tmp)
 |[]=>FitsL.nil
 |k::ks=>.cons rfl (z8M ks)
theorem CtW(ks:List Nat){f:FuncId}{fn:Func}{c:Code}{args:List AV}{av:AV}{ne:List (Nat×Ent)}(hf:P.funcs[f]?=some fn)(hb:fn.body=some c)(hvs:fn.results=(ks.map ResultVar.tmp).toArray)(n:Nat)
  (h:V P c ⟨args++List.replicate (n - args.length) .bot,[]⟩ (Post (ks.map RS.t) av ne)) (hn:fn.ntmps=n:=by kernel_rfl) (hl:Nat.ble (ks.map RS.t).length 8=true:=by kernel_rfl):zH P f args av ne:=zGk hf hb hvs (z8M ks) (Nat.le_of_ble_eq_true hl) n hn h
theorem VS{id:Nat}{ops:Array Oper}{y:Code}{s:St}{J:Exit→St→Prop}(h:XL P ops ops.toList s (fun s'=>V P y s' J)):V P (.seq (.region id ops false) y) s J:=qB (qX h)
theorem VE{id:Nat}{ops:Array Oper}{y:Code}{s:St}{J:Exit→St→Prop}(hv:V P y (yD P ops ops.toList s) J)(h:(yr P ops ops.toList s).isSome=true:=by kernel_rfl):V P (.seq (.region id ops false) y) s J:=VS (YF hv h)
theorem VC{c:Operand}{x y:Code}{s:St}{J:Exit→St→Prop}{b:Bool}{α:Type}{A B:Option α}{r:α}(h:(bif b then A else B)=some r)(ht:A=some r→V P x s J)(hf:B=some r→V P y s J)(hc:s.ev c=.c (.v (.bool b)):=by kernel_rfl):V P (.cond c x y) s J:=
 zQT hc (fun e=>ht (zDI h e)) (fun e=>hf (jK h e))
theorem VT{rs:List RS}{av:AV}{ne:List (Nat×Ent)}{s:St}(h1:zEc (zII s rs)=true:=by kernel_rfl)(h2:okSL s rs=true:=by kernel_rfl)(h3:zRr s rs=(av,ne):=by kernel_rfl):Post rs av ne .ret s:=⟨.inr rfl,h1,h2,h3⟩
theorem VDS{id:Nat}{l:List Oper}{y:Code}{s:St}{J:Exit→St→Prop}(ms:List Nat)(n1:Nat)(css:List (List Cd))
  (h:DL P l ms n1 css (prep (l.take n1) s) [] (fun s'=>XL P l.toArray (l.drop n1) s' (fun s''=>V P y s'' J))) (hm:P.follows .mixedOrders=true:=by kernel_rfl) (hchk:zI8 l ms n1 css=true:=by kernel_rfl):V P (.seq (.region id l.toArray true) y) s J:=qB (z1g ms n1 css hm hchk h)
def zv(P:Program)(s:St)(op:Op):Option AV:=match xv P s op with
 |some av=>some av
 |none=>yv P s op
theorem zv_ok{o:Oper}{s:St}{av:AV}(h:zv P s o.op=some av):Y0 P o s av:=by
 unfold zv at h;split at h
 ·rename_i hx;cases h;exact z3p hx
 ·exact z7v h
theorem zMD{l:List Oper}{o:Oper}{S:St}(h:yg l.toArray o S=some true):gsat l.toArray o S:=by
 unfold yg at h;split at h
 ·rename_i h1;exact zK h1
 ·rename_i j b h1;split at h
  ·rename_i t ht;split at h
   ·rename_i c hc;have e:c=b:=by cases c<;>cases b<;>simp_all
    subst e;exact z3P h1 ht hc
   ·cases h
   ·cases h
  ·cases h
theorem z9B{l:List Oper}{o:Oper}{S:St}(h:yg l.toArray o S=some false):gun l.toArray o S:=by
 unfold yg at h;split at h
 ·cases h
 ·rename_i j b h1;split at h
  ·rename_i t ht;split at h
   ·rename_i c hc;exact z5A h1 ht hc (by cases c<;>cases b<;>simp_all)
   ·rename_i hc;exact z9C h1 ht hc
   ·cases h
  ·cases h
section
variable (P)
def er1(l:List Oper)(ms:List Nat)(n1:Nat)(css:List (List Cd))(s0:St)(rs:List Res):Option (List Res):=match l[rs.length]?,css[rs.length]? with
 |some o,some c=>bif Nat.blt rs.length n1 then (match yg l.toArray o (appC c (l.take n1) rs s0),o.dst with
  |some true,some _=>(match zv P (appC c (l.take n1) rs s0) o.op with
   |some av=>bif zG2 ms rs.length av 0 (l.take n1) then some (rs++[.r0 av]) else none
   |none=>match xn P (appC c (l.take n1) rs s0) o.op with
    |some r=>bif zGu r.2&&(makes o&&r.1.small) then some (rs++[.r1 r.1 r.2]) else none
    |none=>none)
  |some false,some _=>some (rs++[.r0 .tn])
  |some true,none=>dr2 P l ms n1 css rs (appC c (l.take n1) rs s0) o.op
  |_,_=>none) else none
 |_,_=>none
def erN(l:List Oper)(ms:List Nat)(n1:Nat)(css:List (List Cd))(s0:St):Nat→List Res→Option (List Res)
 |0,rs=>some rs
 |k+1,rs=>match er1 P l ms n1 css s0 rs with
  |some rs'=>erN l ms n1 css s0 k rs'
  |none=>none
def ego(l:List Oper)(ms:List Nat)(n1:Nat)(css:List (List Cd))(s0:St)(k:Nat)(rs:List Res):List Res:=(erN P l ms n1 css s0 k rs).getD rs
def efi(l:List Oper)(ms:List Nat)(n1:Nat)(css:List (List Cd))(s0:St)(k:Nat)(rs:List Res):St:=fin (l.take n1) (ego P l ms n1 css s0 k rs) s0
def dfi(l:List Oper)(ms:List Nat)(n1:Nat)(css:List (List Cd))(s0:St)(k:Nat)(rs:List Res):St:=yD P l.toArray (l.drop n1) (efi P l ms n1 css s0 k rs)
def dfo(l:List Oper)(ms:List Nat)(n1:Nat)(css:List (List Cd))(s0:St)(k:Nat)(rs:List Res):Bool:=(yr P l.toArray (l.drop n1) (efi P l ms n1 css s0 k rs)).isSome
def dka(l:List Oper)(n1:Nat)(css:List (List Cd))(s0:St)(f:FuncId)(rs:List Res):Option (List AV):=match l[rs.length]?,css[rs.length]? with
 |some o,some c=>match yg l.toArray o (appC c (l.take n1) rs s0),o.dst with
  |some true,some _=>(match o.op with
   | .call ⟨.value (.func g),xs,_⟩=>bif Nat.beq g f&&(Nat.blt rs.length n1&&makes o) then some (evL (appC c (l.take n1) rs s0) xs.toList) else none
   |_=>none)
  |_,_=>none
 |_,_=>none
end
theorem z5S{l:List Oper}{ms:List Nat}{n1:Nat}{css:List (List Cd)}{s0:St}{rs rs':List Res}{K:St→Prop}(h:er1 P l ms n1 css s0 rs=some rs')(hk:DL P l ms n1 css s0 rs' K):DL P l ms n1 css s0 rs K:=by
 unfold er1 at h;split at h
 ·rename_i o c ho hc;cases hb:Nat.blt rs.length n1 with
  |false=>rw[hb,zc]at h;cases h
  |true=>
   rw[hb,zb]at h;split at h
   ·rename_i d hg hd;split at h
    ·rename_i av hv;cases hm:zG2 ms rs.length av 0 (l.take n1) with
     |false=>rw[hm,zc]at h;cases h
     |true=>rw[hm,zb]at h;cases h;exact DE_0 rs.length av rfl hb ho hc (zMD hg) hm (zv_ok hv) d hd hk
    ·split at h
     ·rename_i r hr;cases hm:zGu r.2&&(makes o&&r.1.small) with
      |false=>rw[hm,zc]at h;cases h
      |true=>rw[hm,zb]at h;cases h;rw[zj,zj]at hm;exact DE_1 rs.length rfl hb ho hc (zMD hg) (z3r hr) hm.1 hm.2.1 hm.2.2 d hd hk
     ·cases h
   ·rename_i d hg hd;cases h;exact DL_t (Nat.le_of_ble_eq_true hb) ho hc (z9B hg) ⟨d,hd⟩ hk
   ·rename_i hg hd;unfold dr2 at h;split at h
    ·rename_i t x y hop;split at h
     ·rename_i id off vc hx hy;split at h
      ·rename_i cs he;cases hm:(zFt P t==some vc.length)&&Nat.ble (off+vc.length) cs.length&&(zOh rs.length id css&&(mkOk ms rs.length id 0 (l.take n1)&&zI6 id rs)) with
       |false=>rw[hm,zc]at h;cases h
       |true=>rw[hm,zb]at h;cases h;rw[zj,zj,zj,zj,beq_iff_eq]at hm;exact DE_2 rs.length id _ rfl hb ho hc (zMD hg) hop hd hx he hy hm.1.1 (Nat.le_of_ble_eq_true hm.1.2) rfl hm.2.1 hm.2.2.1 hm.2.2.2 hk
      ·cases h
     ·cases h
    ·cases h
   ·cases h
 ·cases h
theorem zYR{l:List Oper}{ms:List Nat}{n1:Nat}{css:List (List Cd)}{s0:St}{K:St→Prop}:∀(k:Nat)(rs rs':List Res),erN P l ms n1 css s0 k rs=some rs'→DL P l ms n1 css s0 rs' K→DL P l ms n1 css s0 rs K
 |0,rs,rs',h,hk=>by cases h;exact hk
 |k+1,rs,rs',h,hk=>by
  unfold erN at h;split at h
  ·rename_i r1 h1;exact z5S h1 (zYR k r1 rs' h hk)
  ·cases h
theorem ER(k:Nat){l:List Oper}{ms:List Nat}{n1:Nat}{css:List (List Cd)}{s0:St}{rs:List Res}{K:St→Prop}(hk:DL P l ms n1 css s0 (ego P l ms n1 css s0 k rs) K)(h:(erN P l ms n1 css s0 k rs).isSome=true:=by kernel_rfl):DL P l ms n1 css s0 rs K:=by
 cases hx:erN P l ms n1 css s0 k rs with
 |none=>rw[hx]at h;cases h
 |some r=>rw[ego,hx]at hk;exact zYR k rs r hx hk
theorem EA(k:Nat){l:List Oper}{ms:List Nat}{n1:Nat}{css:List (List Cd)}{s0:St}{rs:List Res}{K:St→Prop}(hk:K (efi P l ms n1 css s0 k rs))(h:(erN P l ms n1 css s0 k rs).map List.length=some n1:=by kernel_rfl):DL P l ms n1 css s0 rs K:=by
 cases hx:erN P l ms n1 css s0 k rs with
 |none=>rw[hx]at h;cases h
 |some r=>rw[efi,ego,hx]at hk;rw[hx]at h;exact zYR k rs r hx (z1h (by injection h) hk)
theorem z9O{l:List Oper}{ms:List Nat}{n1:Nat}{css:List (List Cd)}{s0:St}{rs:List Res}{K:St→Prop}{f:FuncId}{args:List AV}{av:AV}{ne:List (Nat×Ent)}(hS:zH P f args av ne)(hcf:∀args w,(callFunc f args).run P w=.ok (.enter f args) w)
  (h:DL P l ms n1 css s0 (rs++[.r1 av ne]) K) (ha:dka l n1 css s0 f rs=some args) (h1:zGu ne=true) (h3:av.small=true):DL P l ms n1 css s0 rs K:=by
 unfold dka at ha;split at ha
 ·rename_i o c ho hc;split at ha
  ·rename_i d hg hd;split at ha
   ·rename_i g xs ts hop;cases hb:Nat.beq g f&&(Nat.blt rs.length n1&&makes o) with
    |false=>rw[hb,zc]at ha;cases ha
    |true=>rw[hb,zb]at ha;rw[zj,zj]at hb;have hgf:=Nat.eq_of_beq_eq_true hb.1;subst hgf;exact DE_1 rs.length rfl hb.2.1 ho hc (zMD hg) (zRz hS hcf hop (by injection ha)) h1 hb.2.2 h3 d hd h
   ·cases ha
  ·cases ha
 ·cases ha
theorem EK(k:Nat){l:List Oper}{ms:List Nat}{n1:Nat}{css:List (List Cd)}{s0:St}{rs:List Res}{K:St→Prop}{f:FuncId}{args:List AV}{av:AV}{ne:List (Nat×Ent)}(hS:zH P f args av ne)(hcf:∀args w,(callFunc f args).run P w=.ok (.enter f args) w)
  (h:DL P l ms n1 css s0 (ego P l ms n1 css s0 k rs++[.r1 av ne]) K) (hs:(erN P l ms n1 css s0 k rs).bind (dka l n1 css s0 f)=some args:=by kernel_rfl) (h1:zGu ne=true:=by kernel_rfl) (h3:av.small=true:=by kernel_rfl):DL P l ms n1 css s0 rs K:=by
 cases hx:erN P l ms n1 css s0 k rs with
 |none=>rw[hx]at hs;cases hs
 |some r=>rw[ego,hx]at h;rw[hx]at hs;exact zYR k rs r hx (z9O hS hcf h hs h1 h3)
theorem EF(k:Nat){l:List Oper}{ms:List Nat}{n1:Nat}{css:List (List Cd)}{s0:St}{rs:List Res}{K:St→Prop}(hk:K (dfi P l ms n1 css s0 k rs))(h:(erN P l ms n1 css s0 k rs).map List.length=some n1:=by kernel_rfl)
  (h2:dfo P l ms n1 css s0 k rs=true:=by kernel_rfl):DL P l ms n1 css s0 rs (fun s'=>XL P l.toArray (l.drop n1) s' K):=EA k (YF hk h2) h
theorem E0(j:Nat){l:List Oper}{ms:List Nat}{n1:Nat}{css:List (List Cd)}{s0:St}{rs:List Res}{K:St→Prop}{o:Oper}{c:List Cd}{av:AV}(ho:l[j]?=some o)(hc:css[j]?=some c)(hY:Y0 P o (appC c (l.take n1) rs s0) av)(h:DL P l ms n1 css s0 (rs++[.r0 av]) K)
  (hj:rs.length=j:=by kernel_rfl) (hlt:Nat.blt j n1=true:=by kernel_rfl) (hg:yg l.toArray o (appC c (l.take n1) rs s0)=some true:=by kernel_rfl) (hm:zG2 ms j av 0 (l.take n1)=true:=by kernel_rfl) (hd:o.dst.isSome=true:=by kernel_rfl):DL P l ms n1 css s0 rs K:=by
 obtain⟨d,hd⟩:=Option.isSome_iff_exists.mp hd;exact DE_0 j av hj hlt ho hc (zMD hg) hm hY d hd h
theorem E1(j:Nat){l:List Oper}{ms:List Nat}{n1:Nat}{css:List (List Cd)}{s0:St}{rs:List Res}{K:St→Prop}{o:Oper}{c:List Cd}{av:AV}{ne:List (Nat×Ent)}(ho:l[j]?=some o)(hc:css[j]?=some c)(hY:Y1 P o (appC c (l.take n1) rs s0) av ne)(h:DL P l ms n1 css s0 (rs++[.r1 av ne]) K)
  (hj:rs.length=j:=by kernel_rfl) (hlt:Nat.blt j n1=true:=by kernel_rfl) (hg:yg l.toArray o (appC c (l.take n1) rs s0)=some true:=by kernel_rfl) (h1:zGu ne=true:=by kernel_rfl) (h2:makes o=true:=by kernel_rfl) (h3:av.small=true:=by kernel_rfl) (hd:o.dst.isSome=true:=by kernel_rfl):DL P l ms n1 css s0 rs K:=by
 obtain⟨d,hd⟩:=Option.isSome_iff_exists.mp hd;exact DE_1 j hj hlt ho hc (zMD hg) hY h1 h2 h3 d hd h
def idT(t:Nat):List Oper→Nat→Nat
 |[],_=>0
 |o::os,k=>match o.dst with
  |some d=>bif Nat.beq d t then k else idT t os (k+1)
  |none=>idT t os (k+1)
def gtD(l:List Oper)(rs:List Res):Nat:=match l[rs.length]? with
 |some o=>(match o.guard with
  |some (j,_)=>j
  |none=>match o.op with
   | .pick (.tmp t) _ _=>idT t l 0
   |_=>0)
 |none=>0
theorem EQ{c v:Bool}(hc:c=v){l:List Oper}{ms:List Nat}{n1:Nat}{css:List (List Cd)}{s0:St}{rs:List Res}{K:St→Prop}(hk:DL P l ms n1 css s0 (rs.set (gtD l rs) (.r0 (Bo v))) K)(h:rs[gtD l rs]?=some (.r0 (Bo c)):=by kernel_rfl):DL P l ms n1 css s0 rs K:=by
 subst hc;have e:rs.set (gtD l rs) (.r0 (Bo c))=rs:=by
  apply List.ext_getElem?;intro i;rw[List.getElem?_set];by_cases hi:gtD l rs=i
  ·subst hi;have hlt:gtD l rs<rs.length:=by
    by_cases h2:gtD l rs<rs.length
    ·exact h2
    ·rw[List.getElem?_eq_none (by omega)]at h;cases h
   rw[if_pos rfl,if_pos hlt,h]
  ·rw[if_neg hi]
 rwa [e]at hk
end
section
variable {P:Program}
theorem V_gen{α:Type}{c:Code}{s:St}{J:Exit→St→Prop}(S:α→St)(g:α)(h0:s=S g)(h:∀g,V P c (S g) J):V P c s J:=by rw[h0];exact h g
theorem z0U{B:Fr}{w0:World}{ok0 ok:Nat→Prop}{σ:Nat→Loc}{s:St}{a:Act}{w:World}(hR:R B w0 ok0 ok σ s a w)(k T sz:Nat)(hk:s.ent k=none)(hz:0<sz):
  R B w0 ok0 ok (fun i=>if i=k then loc0 else σ i) ⟨zDy k s.T,(k,.qarr loc0 T sz [])::s.E⟩ a w:=by
 have lk:∀i e,(St.mk (zDy k s.T) ((k,.qarr loc0 T sz [])::s.E)).ent i=some e→(i=k∧e=.qarr loc0 T sz [])∨(i≠k∧s.ent i=some e):=by
  intro i e hi;unfold St.ent at hi;simp only[List.lookup]at hi;cases hik:(i==k) with
  |true=>rw[hik]at hi;exact .inl ⟨by simpa using hik,by simpa using hi.symm⟩
  |false=>rw[hik]at hi;exact .inr ⟨by simpa using hik,hi⟩
 refine⟨⟨by simpa [zG3] using hR.core.len,hR.core.okL,hR.core.lib,fun t=>?_,fun i e hi=>?_,fun i e g hi hg=>?_,fun i i2 e f2 g hi hi2 h1 h2=>?_⟩,hR.defers,hR.below,hR.base,hR.old,hR.fresh,fun i e g hi hg=>?_⟩
 ·have e0:(St.mk (zDy k s.T) ((k,.qarr loc0 T sz [])::s.E)).get t=(bif (s.get t).mid k then AV.bot else s.get t):=by
   unfold St.get;exact zJJ k s.T t
  rw[e0];cases hm:(s.get t).mid k with
  |true=>trivial
  |false=>exact (hR.core.tmp t).mid k (fun _ h=>h) (fun _ _=>rfl) hm (fun i hi=>by simp[hi])
 ·rcases lk i e hi with⟨rfl,rfl⟩|⟨h1,h2⟩
  ·simp only[if_true];exact⟨rfl,hz,rfl,(by intro el h;cases h),[],World.ownsRow_nil w 0 _ sz,RdL.nil⟩
  ·simp only[if_neg h1];exact hR.core.ent i e h2
 ·rcases lk i e hi with⟨rfl,rfl⟩|⟨h1,h2⟩
  ·simp only[if_true]at hg;cases hg
  ·simp only[if_neg h1]at hg;exact hR.core.blk i e g h2 hg
 ·rcases lk i e hi with⟨a1,_⟩|⟨a1,a2⟩<;>rcases lk i2 f2 hi2 with⟨b1,_⟩|⟨b1,b2⟩
  ·rw[a1,b1]
  ·simp only[a1,if_true]at h1;cases h1
  ·simp only[b1,if_true]at h2;cases h2
  ·simp only[if_neg a1]at h1;simp only[if_neg b1]at h2;exact hR.core.inj _ _ _ _ _ a2 b2 h1 h2
 ·rcases lk i e hi with⟨rfl,rfl⟩|⟨h1,h2⟩
  ·simp only[if_true]at hg;cases hg
  ·simp only[if_neg h1]at hg;exact hR.own i e g h2 hg
theorem zUe{c:Code}{s:St}{J:Exit→St→Prop}(k T sz:Nat)(hk:s.ent k=none)(hz:0<sz)(h:V P c ⟨zDy k s.T,(k,.qarr loc0 T sz [])::s.E⟩ J):V P c s J:=fun _ _ _ _ _ _ _ hR=>h _ _ _ _ _ _ _ (z0U hR k T sz hk hz)
theorem zKI{B:Fr}{w0:World}{ok0 ok:Nat→Prop}{σ:Nat→Loc}{s:St}{a:Act}{w:World}(hR:R B w0 ok0 ok σ s a w){k t:Nat}{e e':Ent}{av:AV}(he:s.ent k=some e)(hok:zCC ok w (σ k) e→zCC ok w (σ k) e')(hp:e'.pin=e.pin)(hav:Rel ok σ w av (a.tmps.getD t undef)):
  R B w0 ok0 ok σ ⟨s.T.set t av,setE k e' s.E⟩ a w:=by
 have look:=zDf k e' s.E e he;have lk:∀i f,(setE k e' s.E).lookup i=some f→(i=k∧f=e')∨(i≠k∧s.ent i=some f):=by
  intro i f hi;rw[look]at hi;by_cases h:i=k
  ·rw[if_pos h]at hi;exact .inl ⟨h,by simpa using hi.symm⟩
  ·rw[if_neg h]at hi;exact .inr ⟨h,hi⟩
 refine⟨⟨by simpa using hR.core.len,hR.core.okL,hR.core.lib,fun u=>?_,fun i f hi=>?_,fun i f g hi hg=>?_,fun i i2 f f2 g hi hi2 h1 h2=>?_⟩,hR.defers,hR.below,hR.base,hR.old,hR.fresh,fun i f g hi hg=>?_⟩
 ·have e0:=zDb s t u av;unfold St.put at e0;have e1:(St.mk (s.T.set t av) (setE k e' s.E)).get u=if t=u∧t<s.T.length then av else s.get u:=e0;rw[e1];split
  ·rename_i h;rw[←h.1];exact hav
  ·exact hR.core.tmp u
 ·rcases lk i f hi with⟨rfl,rfl⟩|⟨h1,h2⟩
  ·exact hok (hR.core.ent _ _ he)
  ·exact hR.core.ent i f h2
 ·rcases lk i f hi with⟨rfl,rfl⟩|⟨h1,h2⟩
  ·exact hR.core.blk _ _ g he hg
  ·exact hR.core.blk i f g h2 hg
 ·have key:∀i f,(setE k e' s.E).lookup i=some f→∃f0,s.ent i=some f0:=by
   intro i f hi;rcases lk i f hi with⟨rfl,_⟩|⟨_,h⟩
   ·exact⟨_,he⟩
   ·exact⟨_,h⟩
  obtain⟨f0,k1⟩:=key i f hi;obtain⟨f3,k2⟩:=key i2 f2 hi2;exact hR.core.inj _ _ _ _ g k1 k2 h1 h2
 ·rcases lk i f hi with⟨rfl,rfl⟩|⟨h1,h2⟩
  ·rw[hp];exact hR.own _ _ g he hg
  ·exact hR.own i f g h2 hg
theorem zQS{ops:Array Oper}{rest:List Oper}{s:St}{J:St→Prop}(t k:Nat){l:Loc}{T sz:Nat}{els:List (List Tr)}(ht:s.get t=.c (.v (zG l)))(hk:s.ent k=some (.qarr l T sz els))(h:XL P ops rest ⟨s.T.set t (.ow k),setE k (.arr T sz els) s.E⟩ J):XL P ops rest s J:=by intro B w0 ok0 ok σ a w hR Q hQ;refine h _ _ _ _ _ _ _ (zKI hR hk (fun h=>h.2) rfl ?_) Q hQ;have h1:=hR.core.tmp t;rw[ht]at h1;have h2:Rd ok w (.v (zG l)) (a.tmps.getD t undef):=h1;have h3:=(hR.core.ent k _ hk).1;show _=zG (σ k);rw[h3];generalize a.tmps.getD t undef=y at h2;cases h2;rfl
theorem zYh{ops:Array Oper}{rest:List Oper}{s:St}{J:St→Prop}(t k:Nat){T sz:Nat}{els:List (List Tr)}(ht:s.get t=.ow k)(hk:s.ent k=some (.arr T sz els))(h:∀l:Loc,XL P ops rest ⟨s.T.set t (.c (.v (zG l))),setE k (.qarr l T sz els) s.E⟩ J):XL P ops rest s J:=by intro B w0 ok0 ok σ a w hR Q hQ;have h1:=hR.core.tmp t;rw[ht]at h1;have h2:a.tmps.getD t undef=zG (σ k):=h1;refine h (σ k) _ _ _ _ _ _ _ (zKI hR hk (fun h=>⟨rfl,h⟩) rfl ?_) Q hQ;rw[h2];exact Rd.v _ rfl
theorem zNg{α:Type}{id:Nat}{ops:Array Oper}{s:St}{J:Exit→St→Prop}(S:α→St)(m:List Bool)(ids:List Nat)(h:XL P ops ops.toList s (fun s'=>∃b,s'.keep m ids=S b))(hj:∀b,J .normal (S b)):V P (.region id ops false) s J:=by
 refine qX fun B w0 ok0 ok σ a w hR Q hQ=>?_
 refine h _ _ _ _ _ _ _ hR Q fun s' a' w' ok' σ' hs hR'=>?_
 obtain⟨b,hs⟩:=hs;exact hQ _ a' w' ok' σ' (hj b) (by rw[←hs];exact hR'.le (zJv m ids s'))
theorem zE4{α:Type}{id:Nat}{ops:Array Oper}{y:Code}{s:St}{J:Exit→St→Prop}(S:α→St)(m:List Bool)(ids:List Nat)(h:XL P ops ops.toList s (fun s'=>∃b,s'.keep m ids=S b))(hv:∀b,V P y (S b) J):V P (.seq (.region id ops false) y) s J:=qB (zNg S m ids h hv)
theorem z9e{α β γ:Type}{q:α ⊕ β}{c:Code}{s:St}{S:α→γ→St}{J:Exit→St→Prop}(m:List Bool)(ids:List Nat)(h1:V P c s (zQ0 (fun s'=>∃o,q=.inl o∧∃g,s'.keep m ids=S o g) J))(h2:∀o,q=.inl o→∀g,J .normal (S o g)):V P c s J:=by
 intro B w0 ok0 ok σ a w hR;refine wp_mono (h1 _ _ _ _ _ _ _ hR) ?_
 rintro e a' w' ⟨s',ok',σ',hJ,hR'⟩;cases e with
 |normal=>obtain⟨o,ho,g,hk⟩:∃o,q=.inl o∧∃g,s'.keep m ids=S o g:=hJ;have h3:=h2 o ho g;rw[←hk]at h3;exact⟨_,ok',σ',h3,hR'.le (zJv m ids s')⟩
 |exit id=>exact⟨s',ok',σ',hJ,hR'⟩
 |goto l=>exact⟨s',ok',σ',hJ,hR'⟩
 |ret=>exact⟨s',ok',σ',hJ,hR'⟩
 |panic ch=>exact⟨s',ok',σ',hJ,hR'⟩
 |outgrown=>exact⟨s',ok',σ',hJ,hR'⟩
theorem z6R{B:Fr}{w0:World}{ok0 ok:Nat→Prop}{σ:Nat→Loc}{s:St}{a:Act}{w:World}(hR:R B w0 ok0 ok σ s a w)(k id2 j:Nat){l:Loc}{T sz:Nat}{els:List (List Tr)}{cs:List Tr}(he:s.ent k=some (.qarr l T sz els))(h2:s.ent id2=some (.box cs))(hj:cs[j]?=some (.v (zG l))):
  R B w0 ok0 (fun g=>ok g∨(σ k).blk=some g) σ ⟨s.T,setE id2 (.box (cs.set j (.sl els))) (rmE k s.E)⟩ a w:=by
 have hup:∀g,ok g→ok g∨(σ k).blk=some g:=fun g hg=>.inl hg;have hl:σ k=l:=(hR.core.ent k _ he).1;have hne:id2≠k:=fun e=>by rw[e,he]at h2;cases h2
 have hrm:(rmE k s.E).lookup id2=some (.box cs):=by rw[zFQ,if_neg hne];exact h2
 have lk:∀i e,(setE id2 (.box (cs.set j (.sl els))) (rmE k s.E)).lookup i=some e→(i=id2∧e=.box (cs.set j (.sl els)))∨(i≠id2∧i≠k∧s.ent i=some e):=by
  intro i e hi;rw[zDf id2 _ _ _ hrm]at hi;by_cases h:i=id2
  ·rw[if_pos h]at hi;exact .inl ⟨h,by simpa using hi.symm⟩
  ·rw[if_neg h,zFQ]at hi;split at hi
   ·cases hi
   ·rename_i hn;exact .inr ⟨h,hn,hi⟩
 -- the row,read
 have hread:Rd (fun g=>ok g∨(σ k).blk=some g) w (.sl els) (zG l):=by
  have hR1:=zKI (t:=s.T.length) (av:=.bot) hR he (fun h=>h.2) (e':=.arr T sz els) rfl trivial;have hk1:(St.mk (s.T.set s.T.length .bot) (setE k (.arr T sz els) s.E)).ent k=some (.arr T sz els):=by have:=zDf k (.arr T sz els) s.E _ he k;rw[if_pos rfl]at this;exact this
  have hle:Le ⟨[],[(k,.arr T sz els)]⟩ ⟨s.T.set s.T.length .bot,setE k (.arr T sz els) s.E⟩:=⟨Nat.zero_le _,fun t=>.inl (by simp[St.get]),fun i e hi=>by
   unfold St.ent at hi;simp only[List.lookup]at hi;split at hi
   ·rename_i hik;have:i=k:=by simpa using hik
    subst this;injection hi with hi;subst hi;exact hk1
   ·cases hi⟩
  have h1:Rel ok σ w (.ow k) (zG (σ k)):=rfl;have h3:=zSc (hR1.le hle).core h1;have e2:zOE ⟨[],[(k,.arr T sz els)]⟩ (.ow k)=.c (.sl els):=by simp[zOE,St.entc,St.ent,List.lookup,Ent.core]
  rw[e2,hl]at h3;have h4:Rel (fun g=>ok g∨(σ k).blk=some g) σ w (.c (.sl els)) (zG l):=by
   refine h3.mono0 (fun g hg=>?_) fun _ _=>rfl;rcases hg with hg|⟨i,e,hi,hg⟩
   ·exact .inl hg
   ·refine .inr ?_
    unfold St.ent at hi;simp only[List.lookup]at hi;split at hi
    ·rename_i hik;have:i=k:=by simpa using hik
     subst this;exact hg
    ·cases hi
  exact h4
 refine⟨⟨hR.core.len,fun g hg=>?_,hR.core.lib.mono hup (fun _ _=>rfl),fun t=>(hR.core.tmp t).mono0 hup fun _ _=>rfl,fun i e hi=>?_,fun i e g hi hg=>?_,fun i i2 e f g hi hk h1 h3=>?_⟩,hR.defers,hR.below,hR.base,fun g hg=>.inl (hR.old g hg),fun g hg=>?_,fun i e g hi hg=>?_⟩
 ·rcases hg with hg|hg
  ·exact hR.core.okL g hg
  ·exact (hR.core.blk k _ g he hg).2
 ·rcases lk i e hi with⟨rfl,rfl⟩|⟨_,_,h5⟩
  ·obtain⟨g,arr,T',g1,g2,g3⟩:=hR.core.ent _ _ h2;refine⟨g,arr,T',g1,g2,?_⟩;have hr:=g3.mono hup (fun _ _=>rfl:∀g,ok g→w.heap[g]?=w.heap[g]?);obtain⟨u,hu1,hu2⟩:=g3.get j _ hj;have huv:u=zG l:=by
    generalize zG l=v at hu2;cases hu2;rfl
   subst huv;have hset:=hr.set j hread;have:arr.toList.set j (zG l)=arr.toList:=by
    apply List.ext_getElem?;intro q;rw[List.getElem?_set];split
    ·rename_i hq;subst hq;split
     ·exact hu1.symm
     ·rename_i hlt;rw[List.getElem?_eq_none (by omega)]
    ·rfl
   rwa [this]at hset
  ·exact (hR.core.ent i e h5).mono hup (fun _ _=>rfl) fun _ _=>rfl
 ·have key:∃e0,s.ent i=some e0∧i≠k:=by
   rcases lk i e hi with⟨rfl,rfl⟩|⟨_,h4,h5⟩
   ·exact⟨_,h2,hne⟩
   ·exact⟨e,h5,h4⟩
  obtain⟨e0,k1,k2⟩:=key;obtain⟨h3,h4⟩:=hR.core.blk i e0 g k1 hg;refine⟨fun h5=>?_,h4⟩;rcases h5 with h5|h5
  ·exact h3 h5
  ·exact k2 (hR.core.inj _ _ _ _ _ k1 he hg h5)
 ·have key:∀i e,(setE id2 (.box (cs.set j (.sl els))) (rmE k s.E)).lookup i=some e→∃e0,s.ent i=some e0:=by
   intro i e hi;rcases lk i e hi with⟨rfl,rfl⟩|⟨_,h4,h5⟩
   ·exact⟨_,h2⟩
   ·exact⟨e,h5⟩
  obtain⟨e0,k1⟩:=key i e hi;obtain⟨f0,k2⟩:=key i2 f hk;exact hR.core.inj i i2 e0 f0 g k1 k2 h1 h3
 ·rcases hg with hg|hg
  ·exact hR.fresh g hg
  ·have:=hR.own k _ g he hg;rw[if_neg (fun hc=>by cases hc)]at this;exact .inr this
 ·rcases lk i e hi with⟨rfl,rfl⟩|⟨_,_,h5⟩
  ·have h6:B.n g:=hR.own _ _ g h2 hg;exact h6
  ·exact hR.own i e g h5 hg
theorem z1f{c:Code}{s s1:St}{J:Exit→St→Prop}(k id2 j:Nat){l:Loc}{T sz:Nat}{els:List (List Tr)}{cs:List Tr}(he:s.ent k=some (.qarr l T sz els))(h2:s.ent id2=some (.box cs))(hj:cs[j]?=some (.v (zG l)))(hs:(⟨s.T,setE id2 (.box (cs.set j (.sl els))) (rmE k s.E)⟩:St)=s1)(h:V P c s1 J):V P c s J:=by subst hs;exact fun _ _ _ _ _ _ _ hR=>h _ _ _ _ _ _ _ (z6R hR k id2 j he h2 hj)
theorem zF5{c:Code}{s s1:St}{J:Exit→St→Prop}(id j:Nat){cs:List Tr}(he:s.ent id=some (.box cs))(hj:cs[j]?=some (.v (.slice none 0 0)))(hs:(⟨s.T,setE id (.box (cs.set j (.sl []))) s.E⟩:St)=s1)(h:V P c s1 J):V P c s J:=by
 subst hs;intro B w0 ok0 ok σ a w hR;have e0:s.T.set s.T.length .bot=s.T:=List.set_eq_of_length_le (Nat.le_refl _);have hR1:=zKI (t:=s.T.length) (av:=.bot) hR he (e':=.box (cs.set j (.sl []))) (fun h=>by
  obtain⟨g,arr,T',g1,g2,g3⟩:=h;refine⟨g,arr,T',g1,g2,?_⟩;obtain⟨u,hu1,hu2⟩:=g3.get j _ hj;have huv:u=.slice none 0 0:=by cases hu2;rfl
  subst huv;have hset:=g3.set j (Rd.nl (ok:=ok) (w:=w) none 0);have:arr.toList.set j (.slice none 0 0)=arr.toList:=by
   apply List.ext_getElem?;intro q;rw[List.getElem?_set];split
   ·rename_i hq;subst hq;split
    ·exact hu1.symm
    ·rename_i hlt;rw[List.getElem?_eq_none (by omega)]
   ·rfl
  rwa [this]at hset) rfl trivial
 rw[e0]at hR1;exact h _ _ _ _ _ _ _ hR1
end
def pFF(x:Nat):Bool:=(x != 45)&&(decide (x<48)||decide (57<x))
theorem z8s:pOf zCF=pFF:=by
 funext x
 unfold pOf pFF zCF;simp only[za,Option.getD_some,zA7,zJ];have e:((x:Int)==45)=(x==45):=by rw[Bool.eq_iff_iff,beq_iff_eq,beq_iff_eq];omega
 have e1:decide ((x:Int)<48)=decide (x<48):=by rw[decide_eq_decide];omega
 have e2:decide ((57:Int)<(x:Int))=decide (57<x):=by rw[decide_eq_decide];omega
 rw[e,e1,e2];cases h1:(x==45)<;>cases h2:decide (x<48)<;>cases h3:decide (57<x)<;>simp_all [bne]
theorem zXv(x:Nat):pFF x=(((x:Int) != 45)&&(decide ((x:Int)<48)||decide (57<(x:Int)))):=by
 unfold pFF;have e:((x:Int) != 45)=(x != 45):=by rw[Bool.eq_iff_iff,bne_iff_ne,bne_iff_ne];omega
 have e1:decide ((x:Int)<48)=decide (x<48):=by rw[decide_eq_decide];omega
 have e2:decide ((57:Int)<(x:Int))=decide (57<x):=by rw[decide_eq_decide];omega
 rw[e,e1,e2]
theorem z54(W:World):∃q,W=W.drewN q:=⟨0,rfl⟩
theorem z5M(w:World):Go.Proofs.PredAt Tryz.prog 241 #[] (fun x:Nat=>Value.int .i32 (x:Int)) pFF w:=by
 intro W x hb;unfold Go.Proofs.FnGives
 go_enter Tryz.func241,Tryz.ntmps241
 go_wp2
 ·rename_i h
  go_ret
  refine⟨?_,z54 W⟩;rw[zXv,h];rfl
 ·go_ret
  refine⟨?_,z54 W⟩;rw[zXv];rfl
 ·rename_i h1 h2
  go_ret
  refine⟨?_,z54 W⟩;rw[zXv,zd h2,Bool.true_or,Bool.and_true];rfl
theorem zIY{s:ByteArray}{r:List ByteArray}(h:zBb (pOf zCF) s=some r):zH Tryz.prog 240 [.c (.v (.string s)),.c (.v (.func (.func 241) #[] #[]))] (.ow 0) [(0,.arr 9 1 (r.map cStr))]:=by rw[z8s]at h;exact zXk (zFC Tryz.func241 (by kernel_rfl) (by kernel_rfl)) z5M h
def amk:List Oper→List Nat→List Nat
 |[],acc=>acc
 |o::os,acc=>amk os (acc++[zQ1 acc o.after.toList])
def acr(ms:List Nat)(tg:List (Nat×Nat))(i n:Nat):Nat→List Cd
 |0=>[]
 |k+1=>(bif (ms.getD i 0).testBit (n - (k+1)) then Cd.a else bif Nat.beq (n - (k+1)) i||(ms.getD (n - (k+1)) 0).testBit i then Cd.z else match tg.lookup (n - (k+1)) with
  |some id=>Cd.r id
  |none=>Cd.b)::acr ms tg i n k
def acs(ms:List Nat)(tg:List (Nat×Nat))(n:Nat):Nat→List (List Cd)
 |0=>[]
 |k+1=>acr ms tg (n - (k+1)) n n::acs ms tg n k
section
variable {P:Program}
end
end Go.Proofs.YtnjhhbcccgbbnaaGreatDoor
