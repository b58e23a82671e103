/-
  Rules of walks, plain functions and their laws, part 5.
  Conditions: none.
-/
import Derived.Test.YtahdjphocippeaaGreatDoorRows
import Derived.Test.YtahdjphocippeaaGreatDoorRu4
set_option linter.unusedSimpArgs false
set_option linter.unusedVariables false
namespace Go.Proofs.YtahdjphocippeaaGreatDoor
open Go.RowKit
def tbF {α:Type} (f:Nat→α):Nat→Nat→List α
 |0,_=>[]
 |n+1,k=>f k::tbF f n (k+1)
def tab {α:Type} (n:Nat) (f:Nat→α):List α:=tbF f n 0
def flA {α:Type} (c:α→List Tr):List α→List Tr
 |[]=>[]
 |x::xs=>c x++flA c xs
theorem zJa {α:Type} {n:Nat} {f:Nat→α} {i:Int} {v:α} (h:getA n f i=some v):0≤i∧i<n∧v=f i.toNat:=by
 cases i with
 |ofNat k=>
  have h:(bif Nat.blt k n then some (f k) else none)=some v:=h;cases hb:Nat.blt k n with
  |false=>rw[hb]at h;cases h
  |true=>
   rw[hb]at h;have h1:k<n:=Nat.le_of_ble_eq_true hb;injection h with h;exact⟨Int.natCast_nonneg k,Int.ofNat_lt.2 h1,h.symm⟩
 |negSucc k=>cases h
theorem z0X {α:Type} {c:α→List Tr} {sz:Nat} (hc:∀v,(c v).length=sz):∀xs:List α,(flA c xs).length=xs.length*sz
 |[]=>by simp[flA]
 |x::xs=>by simp only[flA,zf,hc,z0X hc xs,zg];rw[Nat.add_mul];omega
theorem zZm {α:Type} (f:Nat→α):∀n k:Nat,(tbF f n k).length=n
 |0,_=>rfl
 |n+1,k=>by simp[tbF,zZm f n (k+1)]
theorem zWO {α:Type} {c:α→List Tr} {sz:Nat} (hc:∀v,(c v).length=sz) (f:Nat→α):∀n k i:Nat,i<n→((flA c (tbF f n k)).drop (i*sz)).take sz=c (f (k+i))
 |0,_,i,h=>absurd h (Nat.not_lt_zero i)
 |n+1,k,0,_=>by simp[tbF,flA,List.take_append,hc]
 |n+1,k,i+1,h=>by
  have ih:=zWO hc f n (k+1) i (by omega);have e:(i+1)*sz=sz+i*sz:=by rw[Nat.add_mul];omega
  simp only[tbF,flA];rw[e,List.drop_append,hc,List.drop_eq_nil_of_le (by rw[hc];omega),zt,show sz+i*sz - sz=i*sz by omega,ih];congr 1;congr 1;omega
theorem zXL {α:Type} {f g:Nat→α}:∀n k:Nat,(∀j,k≤j→f j=g j)→tbF f n k=tbF g n k
 |0,_,_=>rfl
 |n+1,k,h=>by simp only[tbF];rw[h k (Nat.le_refl k),zXL n (k+1) fun j hj=>h j (by omega)]
theorem zWN {α:Type} {c:α→List Tr} {sz:Nat} (hc:∀v,(c v).length=sz) (f:Nat→α) (v:α):∀n k i:Nat,i<n→splice (flA c (tbF f n k)) (i*sz) (c v)=flA c (tbF (upA f (k+i) v) n k)
 |0,_,i,h=>absurd h (Nat.not_lt_zero i)
 |n+1,k,0,_=>by
  have e1:upA f (k+0) v k=v:=by simp[upA]
  have e2:tbF (upA f (k+0) v) n (k+1)=tbF f n (k+1):=zXL n (k+1) fun j hj=>by
   unfold upA;have:Nat.beq j (k+0)=false:=by
    cases hb:Nat.beq j (k+0) with
    |false=>rfl
    |true=>have:=Nat.eq_of_beq_eq_true hb;omega
   rw[this];rfl
  simp only[tbF,flA,e1,e2];simp[splice,hc,List.drop_append,List.drop_eq_nil_of_le]
 |n+1,k,i+1,h=>by
  have ih:=zWN hc f v n (k+1) i (by omega);have e:(i+1)*sz=sz+i*sz:=by rw[Nat.add_mul];omega
  have e1:upA f (k+(i+1)) v k=f k:=by
   unfold upA;have:Nat.beq k (k+(i+1))=false:=by
    cases hb:Nat.beq k (k+(i+1)) with
    |false=>rfl
    |true=>have:=Nat.eq_of_beq_eq_true hb;omega
   rw[this];rfl
  simp only[tbF,flA,e1];rw[show k+(i+1)=k+1+i by omega,←ih];unfold splice;rw[e,List.take_append,List.drop_append,hc,List.take_of_length_le (by rw[hc];omega),List.drop_eq_nil_of_le (by rw[hc];omega)];rw[show sz+i*sz - sz=i*sz by omega,hc,show sz+i*sz+sz - sz=i*sz+sz by omega];simp
section
variable {P:Program}
theorem z4H {o:Oper} {s:St} {t e:TypeId} {x ix:Operand} {k:IntKind} {N sz id off:Nat} {n:Int} (hu:P.underlying t=some (.array N e)) (hsz:(P.info? e).map (·.size)=some sz) (ho:o.op=.indexAddr t x ix) (hi:s.ev ix=.c (.v (.int k n)))
  (h0:0≤n) (hn:n<N) (hx:s.ev x=.pt id off):Y0 P o s (.po id sz n.toNat off):=
 qH fun ok σ a w hC=>by
  have h1:=hC.ev x;rw[hx]at h1;obtain⟨g,h2,h3⟩:=(h1:Rel1 ok σ w (.pt id off) (a.eval x))
  refine⟨.pointer (some ⟨g,n.toNat*sz+off,none⟩),?_,⟨g,h2,rfl⟩⟩;have h4:=hC.exact hi;cases hii:P.info? e with
  |none=>rw[hii]at hsz;simp at hsz
  |some i=>
   have h5:i.size=sz:=by rw[hii]at hsz;simpa using hsz
   unfold execOp;rw[ho];simp[h3,h4,Instr.indexAt,asIntOf,run_underlying hu,Instr.sureAddr,sizeOf,typeInfo,hii,h5,h0,hn,zEK,Nat.add_comm off]
theorem z7p {o:Oper} {s:St} {t:TypeId} {x:Operand} {id sz i off n:Nat} {cs ds:List Tr} (hs:wide P t n) (ho:o.op=.load t x) (hx:s.ev x=.po id sz i off) (he:s.entc id=some (.box cs)) (hd:(cs.drop (i*sz+off)).take n=ds) (hl:ds.length=n):Y0 P o s (.ag ds):=
 qH fun ok σ a w hC=>by
  have hr:=hC.ev x;rw[hx]at hr;have hr:Rel ok σ w (.pt id (i*sz+off)) (a.eval x):=hr;obtain⟨g,of2,h1,h2⟩:=zHS hC hr (cs:=cs.drop (i*sz+off)) (by simp only[zA2,he]);obtain⟨vs,h3,h4⟩:=zGl g of2 ds 0 fun j c hj=>by
   subst hd;have:=h2 j c (by
    rw[List.getElem?_take]at hj;split at hj
    ·exact hj
    ·cases hj)
   simpa using this
  have h5:=zHk (P:=P) hs (g:=g) (off:=of2) (by rw[←h3.len];exact hl) (fun j u hu=>by simpa using h4 j u hu);refine⟨.agg vs.toArray,?_,⟨_,rfl,by simpa using h3⟩⟩;unfold execOp;rw[ho];simp only[h1,Instr.loadAt,Instr.sureAddr,Sem.run_bind,Sem.run_pure,Result.andThen_ok,h5]
theorem X_stA {o:Oper} {s:St} {t:TypeId} {x y:Operand} {id sz i off:Nat} {cs vc:List Tr} (ho:o.op=.store t x y) (hd:o.dst=none) (hx:s.ev x=.po id sz i off) (he:s.ent id=some (.box cs)) (hy:zBd (s.ev y)=some vc) (hi:(P.info? t).map (·.size)=some vc.length) (hl:i*sz+off+vc.length≤cs.length):
  X P o s ⟨s.T,setE id (.box (splice cs (i*sz+off) vc)) s.E⟩:=by
 intro B w0 ok0 ok σ a w hR K Q hK;obtain⟨g,arr,T,h1,h2,h3⟩:=hR.core.ent id _ he;have h4:=hR.core.ev x;rw[hx]at h4;obtain⟨g2,h5,h6⟩:=(h4:Rel1 ok σ w (.po id sz i off) (a.eval x))
 rw[h1]at h5;injection h5 with h5;subst h5;have h7:=zDf (hR.core.ev y) hy;have h8:=h7.len;have h9:=h3.len;have hrun:=zEe (P:=P) (w:=w) (g:=g) (off:=i*sz+off) (y:=a.eval y) hi (by simpa using h8.symm) h2 (by simp at h9;omega) h7.one;unfold Oper.wp execOp;simp only[ho,h6,Instr.storeAt,Instr.sureAddr,Sem.run_bind,Sem.run_pure,Result.andThen_ok,hrun,Oper.upon,hd];refine hK _ _ ok σ (hR.write he h1 _ ⟨arr,T,h2⟩ _ (zB0 id _ s.E _ he) fun hw=>?_);refine⟨g,_,T,h1,setRow_heap w g arr _ T _ h2,?_⟩;have hmono:∀q,ok q→(w.setRow g (splice arr.toList (i*sz+off) (a.eval y).cells.toList).toArray).heap[q]?=w.heap[q]?:=fun q hq=>hw q fun e=>(hR.core.blk id _ g he h1).1 (e▸hq)
 simpa using (h3.splice (i*sz+off) h7).mono (fun _ h=>h) hmono
theorem z7x {o:Oper} {s:St} {t:TypeId} {x y:Operand} {id sz i off:Nat} {l:Loc} {cs vc:List Tr} (ho:o.op=.store t x y) (hd:o.dst=none) (hx:s.ev x=.po id sz i off) (he:s.ent id=some (.pbox l cs)) (hy:zBd (s.ev y)=some vc) (hi:(P.info? t).map (·.size)=some vc.length) (hl:i*sz+off+vc.length≤cs.length):
  X P o s ⟨s.T,setE id (.pbox l (splice cs (i*sz+off) vc)) s.E⟩:=by
 intro B w0 ok0 ok σ a w hR K Q hK;obtain⟨h0,g,arr,T,h1,h2,h3⟩:=hR.core.ent id _ he;have h4:=hR.core.ev x;rw[hx]at h4;obtain⟨g2,h5,h6⟩:=(h4:Rel1 ok σ w (.po id sz i off) (a.eval x))
 rw[h1]at h5;injection h5 with h5;subst h5;have h7:=zDf (hR.core.ev y) hy;have h8:=h7.len;have h9:=h3.len;have hrun:=zEe (P:=P) (w:=w) (g:=g) (off:=i*sz+off) (y:=a.eval y) hi (by simpa using h8.symm) h2 (by simp at h9;omega) h7.one;unfold Oper.wp execOp;simp only[ho,h6,Instr.storeAt,Instr.sureAddr,Sem.run_bind,Sem.run_pure,Result.andThen_ok,hrun,Oper.upon,hd];refine hK _ _ ok σ (hR.write he h1 _ ⟨arr,T,h2⟩ _ (zB0 id _ s.E _ he) fun hw=>?_);refine⟨h0,g,_,T,h1,setRow_heap w g arr _ T _ h2,?_⟩;have hmono:∀q,ok q→(w.setRow g (splice arr.toList (i*sz+off) (a.eval y).cells.toList).toArray).heap[q]?=w.heap[q]?:=fun q hq=>hw q fun e=>(hR.core.blk id _ g he h1).1 (e▸hq)
 simpa using (h3.splice (i*sz+off) h7).mono (fun _ h=>h) hmono
def ixA {α:Type} (N:Nat) (f:Nat→α) (n:Int):F0 P α where
 m:=getA N f n
 chk o s:=match o.op with
  | .indexAddr t x ix=>(match P.underlying t,s.ev x,s.ev ix with
   |some (.array N' e),.pt _ _,.c (.v (.int _ n'))=>.eq N' N (.eq n' n (.eq (zDv P e).isSome true .ok))
   |_,_,_=>.bad)
  |_=>.bad
 av o s _:=match o.op with
  | .indexAddr t x ix=>(match P.underlying t,s.ev x with
   |some (.array _ e),.pt id off=>.po id ((zDv P e).getD 0) n.toNat off
   |_,_=>.bot)
  |_=>.bot
 ok o s y hm h:=by
  obtain⟨g1,g2,_⟩:=zJa hm;split at h
  ·rename_i ho
   try simp only[ho]
   split at h
   ·rename_i N' e id off k n' hu hx hi;obtain⟨rfl,rfl,h3,_⟩:=h
    try simp only[hu,hx]
    obtain⟨z,hz⟩:=Option.isSome_iff_exists.mp h3;rw[hz];exact z4H hu hz ho hi g1 g2 hx
   ·exact h.elim
  ·exact h.elim
def ldA {α:Type} (d:CT α) (N:Nat) (f:Nat→α) (n:Int) (off:Nat):F0 P α where
 m:=getA N f n
 chk o s:=match o.op with
  | .load t x=>(match P.underlying t,s.ev x with
   |some D,.po id sz i of2=>(match s.entc id with
    |some (.box cs)=>.eq i n.toNat (.eq sz d.sz (.eq of2 off (.eq ((cs.drop off).take (N*d.sz)) (flA d.c (tab N f)) (.eq (aggD D) true (.eq (zDv P t) (some d.sz) .ok)))))
    |_=>.bad)
   |_,_=>.bad)
  |_=>.bad
 av _ _ y:=.ag (d.c y)
 ok o s y hm h:=by
  obtain⟨g1,g2,g3⟩:=zJa hm;split at h
  ·rename_i ho;split at h
   ·rename_i D id sz i of2 hu hx;split at h
    ·rename_i cs he;obtain⟨rfl,rfl,rfl,h4,h5,h6,_⟩:=h;refine z7p ⟨⟨D,hu,h5⟩,h6⟩ ho hx he ?_ (d.hc y)
     have h7:=zWO d.hc f N 0 n.toNat (by omega);rw[Nat.zero_add,←g3]at h7;rw[←h7];show _=List.take d.sz (List.drop (n.toNat*d.sz) (flA d.c (tab N f)));rw[←h4,List.drop_take,List.take_take,List.drop_drop];have e1:n.toNat*d.sz+d.sz≤N*d.sz:=by
      have:(n.toNat+1)*d.sz≤N*d.sz:=Nat.mul_le_mul_right _ (by omega);rw[Nat.add_mul]at this;omega
     rw[show min d.sz (N*d.sz - n.toNat*d.sz)=d.sz by omega,Nat.add_comm]
    ·exact h.elim
   ·exact h.elim
  ·exact h.elim
def stA {α:Type} (d:CT α) (N:Nat) (f:Nat→α) (n:Int) (off:Nat) (v:α):FX P (Nat→α) where
 m:=(getA N f n).map fun _=>upA f n.toNat v
 run o s g K:=match o.op,o.dst with
  | .store t x y,none=>(match s.ev x,zBd (s.ev y) with
   | .po id sz i of2,some vc=>(match s.ent id with
    |some (.box cs)=>.eq i n.toNat (.eq sz d.sz (.eq of2 off (.eq ((cs.drop off).take (N*d.sz)) (flA d.c (tab N f)) (.eq vc (d.c v) (.eq (zDv P t) (some d.sz) (.eq (Nat.blt 0 d.sz) true (K ⟨s.T,setE id (.box (cs.take off++(flA d.c (tab N g)++cs.drop (off+N*d.sz)))) s.E⟩)))))))
    |some (.pbox l cs)=>.eq i n.toNat (.eq sz d.sz (.eq of2 off (.eq ((cs.drop off).take (N*d.sz)) (flA d.c (tab N f)) (.eq vc (d.c v) (.eq (zDv P t) (some d.sz) (.eq (Nat.blt 0 d.sz) true (K ⟨s.T,setE id (.pbox l (cs.take off++(flA d.c (tab N g)++cs.drop (off+N*d.sz)))) s.E⟩)))))))
    |_=>.bad)
   |_,_=>.bad)
  |_,_=>.bad
 ok o s K g hm h:=by
  obtain⟨y,hy,hy2⟩:=Option.map_eq_some_iff.mp hm;obtain⟨g1,g2,g3⟩:=zJa hy;have e1:n.toNat*d.sz+d.sz≤N*d.sz:=by
   have:(n.toNat+1)*d.sz≤N*d.sz:=Nat.mul_le_mul_right _ (by omega);rw[Nat.add_mul]at this;omega
  have key:∀cs:List Tr,0<d.sz→(cs.drop off).take (N*d.sz)=flA d.c (tab N f)→off+N*d.sz≤cs.length∧splice cs (n.toNat*d.sz+off) (d.c v)=cs.take off++(flA d.c (tab N g)++cs.drop (off+N*d.sz)):=by
   intro cs hz h4;have h5:=z0X d.hc (tab N f);rw[←h4,List.length_take,List.length_drop,tab,zZm]at h5;have h6:0<N*d.sz:=by omega
   refine⟨by omega,?_⟩;have h7:=zWN d.hc f y N 0 n.toNat (by omega);rw[Nat.zero_add]at h7;have h8:flA d.c (tab N g)=splice ((cs.drop off).take (N*d.sz)) (n.toNat*d.sz) (d.c v):=by
    rw[h4];subst hy2;exact (zWN d.hc f v N 0 n.toNat (by omega)).symm▸(by rw[Nat.zero_add];rfl)
   rw[h8];unfold splice;rw[d.hc,List.take_take,show min (n.toNat*d.sz) (N*d.sz)=n.toNat*d.sz by omega,Nat.add_comm (n.toNat*d.sz) off,List.take_add,zu,zu,zu,zu];congr 2;congr 1;rw[←List.drop_append_of_le_length (by rw[List.length_take,List.length_drop];omega),show List.drop (off+N*d.sz) cs=List.drop (N*d.sz) (List.drop off cs) by rw[List.drop_drop],List.take_append_drop,List.drop_drop];congr 1;omega
  split at h
  ·rename_i t x y ho hd;split at h
   ·rename_i id sz i of2 vc hx hy3;split at h
    ·rename_i cs he;obtain⟨rfl,rfl,rfl,h4,rfl,h6,h7,h8⟩:=h;obtain⟨k1,k2⟩:=key cs (Nat.le_of_ble_eq_true h7) h4;refine zDr (X_stA ho hd hx he hy3 (by rw[d.hc];exact h6) (by rw[d.hc];omega)) ?_
     rw[k2];exact h8
    ·rename_i l cs he;obtain⟨rfl,rfl,rfl,h4,rfl,h6,h7,h8⟩:=h;obtain⟨k1,k2⟩:=key cs (Nat.le_of_ble_eq_true h7) h4;refine zDr (z7x ho hd hx he hy3 (by rw[d.hc];exact h6) (by rw[d.hc];omega)) ?_
     rw[k2];exact h8
    ·exact h.elim
   ·exact h.elim
  ·exact h.elim
theorem z7q {o:Oper} {s:St} {t e:TypeId} {x ix:Operand} {k:IntKind} {N sz:Nat} {n:Int} {cs ds:List Tr} (hu:P.underlying t=some (.array N e)) (hw:wide P e sz) (ho:o.op=.index t x ix) (hi:s.ev ix=.c (.v (.int k n)))
  (h0:0≤n) (hn:n<N) (hx:s.ev x=.ag cs) (hd:(cs.drop (n.toNat*sz)).take sz=ds):Y0 P o s (.ag ds):=
 qH fun ok σ a w hC=>by
  have h1:=hC.ev x;rw[hx]at h1;obtain⟨vs,h2,h3⟩:=(h1:Rel1 ok σ w (.ag cs) (a.eval x))
  have h4:=hC.exact hi;subst hd;obtain⟨⟨d,hd1,hd2⟩,hsz⟩:=hw;cases hii:P.info? e with
  |none=>rw[hii]at hsz;simp at hsz
  |some i=>
   have h8:i.size=sz:=by rw[hii]at hsz;simpa using hsz
   refine⟨.agg (vs.extract (n.toNat*sz) (n.toNat*sz+sz)),?_,⟨_,rfl,?_⟩⟩
   ·unfold execOp;rw[ho];simp[h2,h4,Instr.index,asIntOf,run_underlying hu,part,zNe hd1,hd2,sizeOf,typeInfo,hii,h8,h0,hn]
   ·have h5:=(h3.drop (n.toNat*sz)).take sz;have e:(vs.extract (n.toNat*sz) (n.toNat*sz+sz)).toList=(vs.toList.drop (n.toNat*sz)).take sz:=by
     rw[Array.toList_extract,List.extract_eq_take_drop];congr 1;omega
    rw[e];exact h5
theorem z7s {o:Oper} {s:St} {x:Operand} {src dst:TypeId} {k:IntKind} {k2:IntKind} {a:Int} (hs:P.underlying src=some (.int k2)) (hd:P.underlying dst=some .string) (ho:o.op=.convert src dst x) (hx:s.ev x=.c (.v (.int k a))):Y0 P o s (.c (.v (.string (Utf8.encode a)))):=
 qH fun ok σ ac w hC=>by
  refine⟨.string (Utf8.encode a),?_,Rd.v _ rfl⟩;unfold execOp;rw[ho];simp[hC.exact hx,convert,run_underlying hs,run_underlying hd,Conv.intToString]
def i2s:N0 P where
 chk o s:=match o.op with
  | .convert src dst x=>(match P.underlying src,P.underlying dst,s.ev x with
   |some (.int _),some .string,.c (.v (.int _ _))=>.ok
   |_,_,_=>.bad)
  |_=>.bad
 av o s:=match o.op with
  | .convert _ _ x=>(match s.ev x with
   | .c (.v (.int _ a))=>.c (.v (.string (Utf8.encode a)))
   |_=>.bot)
  |_=>.bot
 ok o s h:=by
  split at h
  ·rename_i ho
   try simp only[ho]
   split at h
   ·rename_i hs hd hx
    try simp only[hx]
    exact z7s hs hd ho hx
   ·exact h.elim
  ·exact h.elim
def igA {α:Type} (d:CT α) (N:Nat) (f:Nat→α) (n:Int):F0 P α where
 m:=getA N f n
 chk o s:=match o.op with
  | .index t x ix=>(match P.underlying t,s.ev x,s.ev ix with
   |some (.array N' e),.ag cs,.c (.v (.int _ n'))=>(match P.underlying e with
    |some D=>.eq N' N (.eq n' n (.eq cs (flA d.c (tab N f)) (.eq (aggD D) true (.eq (zDv P e) (some d.sz) .ok))))
    |none=>.bad)
   |_,_,_=>.bad)
  |_=>.bad
 av _ _ y:=.ag (d.c y)
 ok o s y hm h:=by
  obtain⟨g1,g2,g3⟩:=zJa hm;split at h
  ·rename_i ho;split at h
   ·rename_i N' e cs k n' hu hx hi;split at h
    ·rename_i D hD;obtain⟨rfl,rfl,rfl,h4,h5,_⟩:=h;refine z7q hu ⟨⟨D,hD,h4⟩,h5⟩ ho hi g1 g2 hx ?_
     have h7:=zWO d.hc f N' 0 n'.toNat (by omega);rw[Nat.zero_add,←g3]at h7;exact h7
    ·exact h.elim
   ·exact h.elim
  ·exact h.elim
def shr {α:Type} (d:CT α) (xs:List α) (n:Int):FX P Unit where
 m:=slc xs.length 0 n
 run o s _ K:=match o.op,o.dst with
  | .slice t x none (some y) none,some k=>(match P.underlying t,s.ev x with
   |some (.slice e),.ow id=>(match s.ent id with
    |some (.arr e2 sz els)=>.eq e2 e (.eq sz d.sz (.eq (zDv P e) (some d.sz) (.eq els (xs.map d.c) (.eq (s.ev y) (.c (.v (.int .i64 n))) (K ⟨(zBY id s.T).set k (.ow id),setE id (.arr e d.sz ((subl xs 0 n).map d.c)) s.E⟩)))))
    |_=>.bad)
   |_,_=>.bad)
  |_,_=>.bad
 post _ o s _:=match o.op,o.dst with
  | .slice _ x _ _ _,some k=>(match s.ev x with
   | .ow id=>(match s.ent id with
    |some (.arr e sz _)=>some ⟨(zBY id s.T).set k (.ow id),setE id (.arr e sz ((subl xs 0 n).map d.c)) s.E⟩
    |_=>none)
   |_=>none)
  |_,_=>none
 ok o s K y hm h:=by
  split at h
  ·rename_i t x y k ho hd;split at h
   ·rename_i e id hu hx;split at h
    ·rename_i e2 sz els he;obtain⟨rfl,rfl,h3,rfl,h5,h6⟩:=h;exact zDr (z19 hu h3 ho hd hx he h5 hm) h6
    ·exact h.elim
   ·exact h.elim
  ·exact h.elim
def appB {α:Type} (d:CT α) (xs ys:List α):FX P Unit where
 m:=room (8*(xs.length+ys.length))
 run o s _ K:=match o.op,o.dst with
  | .call ⟨.builtin .append,⟨[x,y]⟩,⟨[t,t2]⟩⟩,some k=>(match P.underlying t,s.ev x with
   |some (.slice e),.ow id=>(match s.ent id,P.info? e with
    |some (.arr e2 sz els),some i=>(match i.zero,ys with
     |some z,_::_=>.eq t2 t (.eq e2 e (.eq sz d.sz (.eq i.size d.sz (.eq els (xs.map d.c) (.eq (zBe s (s.ev y)) (some (ys.map d.c)) (.eq (Nat.beq z.cells.size d.sz&&Nat.ble i.bytes 1024) true
       (K ⟨(zBY id s.T).set k (.ow id),setE id (.arr e d.sz ((xs++ys).map d.c)) s.E⟩)))))))
     |_,_=>.bad)
    |_,_=>.bad)
   |_,_=>.bad)
  |_,_=>.bad
 post _ o s _:=match o.op,o.dst with
  | .call ⟨_,⟨[x,_]⟩,_⟩,some k=>(match s.ev x with
   | .ow id=>(match s.ent id with
    |some (.arr e sz _)=>some ⟨(zBY id s.T).set k (.ow id),setE id (.arr e sz ((xs++ys).map d.c)) s.E⟩
    |_=>none)
   |_=>none)
  |_,_=>none
 ok o s K u hm h:=by
  split at h
  ·rename_i x y t t2 k ho hd;split at h
   ·rename_i e id hu hx;split at h
    ·rename_i e2 sz els i he hi;split at h
     ·rename_i z y0 ys0 hz;obtain⟨h1,h2,h3,h4,h5,h6,h7,h8⟩:=h;subst h1 h2 h3 h5;rw[zk]at h7;have hr:=zJY hm;have hb:=Nat.le_of_ble_eq_true h7.2;refine zDr ?_ h8
      rw[List.map_append];refine zUs (bytes:=i.bytes) ho hd hu (by rw[hi];simp only[Option.map_some,hz,h4]) (Nat.eq_of_beq_eq_true h7.1) hx he h6 (fun el hel=>?_) (by simp) (by simp only[List.length_map];omega) ?_
      ·obtain⟨v,_,rfl⟩:=List.mem_map.1 hel;exact d.hc v
      ·simp only[List.length_map];have h9:xs.length+(y0::ys0).length≤137438953472:=by omega
       have:=Nat.mul_le_mul h9 hb;omega
     ·exact h.elim
    ·exact h.elim
   ·exact h.elim
  ·exact h.elim
theorem zMm {f:FuncId} {fn:Func} {c:Code} {args:List AV} {x:Nat} {cs:List Tr} (hf:P.funcs[f]?=some fn) (hb:fn.body=some c) (hvs:fn.results=[ResultVar.tmp x].toArray) (n:Nat) (hn:fn.ntmps=n)
  (h:V P c ⟨args++List.replicate (n - args.length) .bot,[]⟩ (fun e s=>(e=.normal∨e=.ret)∧∃id,s.get x=.pt id 0∧s.ent id=some (.box cs))):zD P f args (.pt 0 0) [(0,.box cs)]:=by
 intro ok σ w vs hok hlib hargs;refine calls_of_wp hf hb ?_
 subst hn;have hR:R ⟨fun g=>w.heap.size≤g,fun _=>False⟩ w ok ok σ ⟨args++List.replicate (fn.ntmps - args.length) .bot,[]⟩ {tmps:=vs.toArray++Array.replicate (fn.ntmps - vs.toArray.size) undef,defers:=[]} w:=by
  refine⟨⟨?_,hok,hlib,fun t=>hargs.init fn.ntmps t,fun id e he=>?_,fun id e g he=>?_,fun i j e f g he=>?_⟩,rfl,BelowX.refl _ _,fun _ h=>h,fun g hg=>hg,fun g hg=>.inl hg,fun id e g he=>?_⟩
  ·simp[hargs.len]
  all_goals
   simp[St.ent]at he
 refine wp_mono (h _ _ _ _ _ _ _ hR) ?_
 rintro e a' w' ⟨s',ok',σ',⟨he,id,hx,hid⟩,hR'⟩;have h1:=hR'.core.tmp x;rw[hx]at h1;obtain⟨g,hg,hv⟩:=(h1:Rel1 ok' σ' w' (.pt id 0) (a'.tmps.getD x undef))
 have h2:=hR'.own id _ g hid hg;rw[if_neg (fun hc=>by cases hc)]at h2;have hlk:∀k e,([(0,Ent.box cs)]:List (Nat×Ent)).lookup k=some e→k=0∧e=.box cs:=fun k e hk=>by
  obtain⟨a1,a2⟩:=jU _ _ _ _ hk;exact⟨a1,a2.symm⟩
 have hres:(results fn a'.tmps).run P w'=.ok (a'.tmps.getD x undef) w':=zXa (t:=x) (by rw[hvs];rfl) a'.tmps w';have hfin:bodyPost P fn (fun e w'=>∃v ok' σ',e=.returned v∧New w w' ok ok' σ' (.pt 0 0) [(0,.box cs)] v) .ret a' w':=by
  refine⟨hR'.defers,_,hres,_,ok',fun _=>σ' id,rfl,hR'.below.to,hR'.old,hR'.fresh,hR'.core.okL,⟨g,hg,hv⟩,fun k e hk=>?_,fun e he=>?_,fun k e hk=>?_,fun k e q hk hq=>?_,fun i j e f q hi hj _ _=>?_,fun k e hk=>?_⟩
  ·rw[(hlk k e hk).1];omega
  ·show (0 / 8==e)=false;rw[zw];omega
  ·rw[(hlk k e hk).2];exact hR'.core.ent id _ hid
  ·rw[hg]at hq;injection hq with hq;subst hq;exact⟨h2,hR'.core.blk id _ g hid hg⟩
  ·rw[(hlk i e hi).1,(hlk j f hj).1]
  ·rw[(hlk k e hk).2];rfl
 rcases he with rfl|rfl
 ·exact hfin
 ·exact hfin
def KB {β:Type} (x:Nat) (cs:β→List Tr):Exit→T P β→List Nat→St→OT:=fun e t' _ s'=>match e,t' with
 | .normal,.ret y=>(match s'.get x with
  | .pt id off=>.eq off 0 (.eq (s'.ent id) (some (.box (cs y))) .ok)
  |_=>.bad)
 | .ret,.ret y=>(match s'.get x with
  | .pt id off=>.eq off 0 (.eq (s'.ent id) (some (.box (cs y))) .ok)
  |_=>.bad)
 |_,_=>.bad
def OB (P:Program) {β:Type} (t:T P β) (o:Option β) (c:Code) (s:St) (x:Nat) (cs:β→List Tr):OT:=.eq o (t.den some) (goV P 100000 t [] c s (KB x cs))
theorem CbT {β:Type} (t:T P β) {f:FuncId} {fn:Func} {c:Code} {args:List AV} {o:Option β} {r:β} (x:Nat) (cs:β→List Tr) (hf:P.funcs[f]?=some fn) (hb:fn.body=some c) (hvs:fn.results=[ResultVar.tmp x].toArray) (h:o=some r)
  (hO:OB P t o c ⟨args++List.replicate (fn.ntmps - args.length) .bot,[]⟩ x cs=(OB P t o c ⟨args++List.replicate (fn.ntmps - args.length) .bot,[]⟩ x cs).rf:=by kernel_rfl):zD P f args (.pt 0 0) [(0,.box (cs r))]:=by
 obtain⟨h1,h2⟩:=OT.of_rf _ hO;rw[h1]at h;refine zMm hf hb hvs fn.ntmps rfl (zAs 100000 t [] c _ _ h2 some r h _ fun e t' kn' s' hK ht=>?_);unfold KB at hK;split at hK
 ·injection ht with ht;subst ht;split at hK
  ·rename_i id off hx;obtain⟨rfl,h3,_⟩:=hK;exact⟨.inl rfl,id,hx,h3⟩
  ·exact hK.elim
 ·injection ht with ht;subst ht;split at hK
  ·rename_i id off hx;obtain⟨rfl,h3,_⟩:=hK;exact⟨.inr rfl,id,hx,h3⟩
  ·exact hK.elim
 ·exact hK.elim
end
abbrev τF:=Int×Int×Int
abbrev τM:=Int×Int×Int×Int
abbrev τI:=Int×(Nat→τF)
abbrev τS:=Int×ByteArray×(List τF)
theorem CtU {β:Type} (t:T Tryz.prog β) (k:Nat) {f:FuncId} {fn:Func} {c:Code} {args:List AV} {o:Option β} {r:β} (g:β→AV) (hf:Tryz.prog.funcs[f]?=some fn) (hb:fn.body=some c) (hvs:fn.results=[ResultVar.tmp k].toArray) (h:o=some r)
  (hO:OF Tryz.prog t o c ⟨args++List.replicate (fn.ntmps - args.length) .bot,[]⟩ [.t k] (fun r=>(g r,[]))=(OF Tryz.prog t o c ⟨args++List.replicate (fn.ntmps - args.length) .bot,[]⟩ [.t k] (fun r=>(g r,[]))).rf:=by kernel_rfl):zD Tryz.prog f args (g r) []:=
 CtT t (fun r=>(g r,[])) (rs:=[.t k]) (vs:=[.tmp k]) hf hb hvs (.cons rfl FitsL.nil) h hO
@[reducible] def q78 (F:Nat→Int×Int×Int) (tl:List Tr):List Tr:=Ti ((F 0).1)::Ti ((F 0).2.1)::Ti ((F 0).2.2)::Ti ((F 1).1)::Ti ((F 1).2.1)::Ti ((F 1).2.2)::Ti ((F 2).1)::Ti ((F 2).2.1)::Ti ((F 2).2.2)::Ti ((F 3).1)::Ti ((F 3).2.1)::Ti ((F 3).2.2)::Ti ((F 4).1)::Ti ((F 4).2.1)::Ti ((F 4).2.2)::Ti ((F 5).1)::Ti ((F 5).2.1)::Ti ((F 5).2.2)::Ti ((F 6).1)::Ti ((F 6).2.1)::Ti ((F 6).2.2)::Ti ((F 7).1)::Ti ((F 7).2.1)::Ti ((F 7).2.2)::Ti ((F 8).1)::Ti ((F 8).2.1)::Ti ((F 8).2.2)::Ti ((F 9).1)::Ti ((F 9).2.1)::Ti ((F 9).2.2)::Ti ((F 10).1)::Ti ((F 10).2.1)::Ti ((F 10).2.2)::Ti ((F 11).1)::Ti ((F 11).2.1)::Ti ((F 11).2.2)::Ti ((F 12).1)::Ti ((F 12).2.1)::Ti ((F 12).2.2)::Ti ((F 13).1)::Ti ((F 13).2.1)::Ti ((F 13).2.2)::Ti ((F 14).1)::Ti ((F 14).2.1)::Ti ((F 14).2.2)::Ti ((F 15).1)::Ti ((F 15).2.1)::Ti ((F 15).2.2)::Ti ((F 16).1)::Ti ((F 16).2.1)::Ti ((F 16).2.2)::Ti ((F 17).1)::Ti ((F 17).2.1)::Ti ((F 17).2.2)::Ti ((F 18).1)::Ti ((F 18).2.1)::Ti ((F 18).2.2)::Ti ((F 19).1)::Ti ((F 19).2.1)::Ti ((F 19).2.2)::Ti ((F 20).1)::Ti ((F 20).2.1)::Ti ((F 20).2.2)::Ti ((F 21).1)::Ti ((F 21).2.1)::Ti ((F 21).2.2)::Ti ((F 22).1)::Ti ((F 22).2.1)::Ti ((F 22).2.2)::Ti ((F 23).1)::Ti ((F 23).2.1)::Ti ((F 23).2.2)::Ti ((F 24).1)::Ti ((F 24).2.1)::Ti ((F 24).2.2)::Ti ((F 25).1)::Ti ((F 25).2.1)::Ti ((F 25).2.2)::tl
def c9 (x:ByteArray):List Tr:=[.v (.string x)]
def c42 (x:τF):List Tr:=[Ti x.1,Ti x.2.1,Ti x.2.2]
def c53 (x:τS):List Tr:=[Ti x.1,.v (.string x.2.1),.sl (x.2.2.map c42)]
def c3 (x:Int):List Tr:=[Ti x]
def c5 (x:Int):List Tr:=[.v (.int .u8 x)]
def c181 (x:(Int×Int)):List Tr:=[Ti x.1,Ti x.2]
def c184 (x:(Int×Int)):List Tr:=[Ti x.1,Ti x.2]
def c62 (x:τI):List Tr:=(Ti x.1::q78 (x.2) [])
def ct3:CT Int:=⟨c3,1,fun _=>rfl⟩
def ct9:CT ByteArray:=⟨c9,1,fun _=>rfl⟩
def ct42:CT τF:=⟨c42,3,fun _=>rfl⟩
def ct53:CT τS:=⟨c53,3,fun _=>rfl⟩
def ct62:CT τI:=⟨c62,79,fun _=>rfl⟩
def zFs:CT (Int×Int):=⟨c181,2,fun _=>rfl⟩
def zG0:CT (Int×Int):=⟨c184,2,fun _=>rfl⟩
def zv3:Value:=.int .i64 0
def zv5:Value:=.int .u8 0
def zv42:Value:=.agg #[.int .i64 0,.int .i64 0,.int .i64 0]
theorem zf42:(Tryz.prog.info? 42).bind (·.zero)=some zv42:=by kernel_rfl
def z1i:Value:=.agg #[.string ByteArray.empty,.slice none 0 0,.int .i64 0,.int .i64 0,.int .i64 0,.int .i64 0]
theorem z5k:(Tryz.prog.info? 111).bind (·.zero)=some z1i:=by kernel_rfl
theorem iz3:(Tryz.prog.info? 3).map (fun i=>(i.zero,i.size))=some (some zv3,1):=by kernel_rfl
theorem iz5:(Tryz.prog.info? 5).map (fun i=>(i.zero,i.size))=some (some zv5,1):=by kernel_rfl
theorem izb3:(Tryz.prog.info? 3).map (fun i=>(i.zero,i.size,i.bytes))=some (some zv3,1,8):=by kernel_rfl
theorem sc3:zIc Tryz.prog 3:=⟨_,Tryz.underlying3,rfl⟩
theorem sc9:zIc Tryz.prog 9:=⟨_,Tryz.underlying9,rfl⟩
theorem sc22:zIc Tryz.prog 22:=⟨_,Tryz.underlying22,rfl⟩
theorem sc37:zIc Tryz.prog 37:=⟨_,Tryz.underlying37,rfl⟩
theorem z5y:zIc Tryz.prog 162:=⟨_,Tryz.underlying162,rfl⟩
theorem sz3:(Tryz.prog.info? 3).map (·.size)=some 1:=by kernel_rfl
theorem sz9:(Tryz.prog.info? 9).map (·.size)=some 1:=by kernel_rfl
theorem sz22:(Tryz.prog.info? 22).map (·.size)=some 1:=by kernel_rfl
theorem sz37:(Tryz.prog.info? 37).map (·.size)=some 1:=by kernel_rfl
theorem sz42:(Tryz.prog.info? 42).map (·.size)=some 3:=by kernel_rfl
theorem zUT:(Tryz.prog.info? 111).map (·.size)=some 6:=by kernel_rfl
theorem z5u:(Tryz.prog.info? 162).map (·.size)=some 1:=by kernel_rfl
theorem wd42:wide Tryz.prog 42 3:=⟨⟨_,Tryz.underlying42,rfl⟩,by kernel_rfl⟩
theorem wd98:wide Tryz.prog 98 5:=⟨⟨_,Tryz.underlying98,rfl⟩,by kernel_rfl⟩
theorem z5p:wide Tryz.prog 111 6:=⟨⟨_,Tryz.underlying111,rfl⟩,by kernel_rfl⟩
theorem zFF:wide Tryz.prog 120 4:=⟨⟨_,Tryz.underlying120,rfl⟩,by kernel_rfl⟩
theorem wd159:wide Tryz.prog 159 12:=⟨⟨_,Tryz.underlying159,rfl⟩,by kernel_rfl⟩
theorem wd223:wide Tryz.prog 223 3:=⟨⟨_,Tryz.underlying223,rfl⟩,by kernel_rfl⟩
def pl42:Nat→Option (Nat×Nat):=fun i=>(#[(0,1),(1,1),(2,1)]:Array (Nat×Nat))[i]?
theorem bt42:∀ps,Tryz.prog.built 42 ps=Instr.fill pl42 #[.int .i64 0,.int .i64 0,.int .i64 0] ps:=fun ps=>by kernel_rfl
def pl53:Nat→Option (Nat×Nat):=fun i=>(#[(0,1),(1,1),(2,1)]:Array (Nat×Nat))[i]?
theorem bt53:∀ps,Tryz.prog.built 53 ps=Instr.fill pl53 #[.int .i64 0,.string ByteArray.empty,.slice none 0 0] ps:=fun ps=>by kernel_rfl
def pl56:Nat→Option (Nat×Nat):=fun i=>(#[(0,3),(3,1)]:Array (Nat×Nat))[i]?
theorem bt56:∀ps,Tryz.prog.built 56 ps=Instr.fill pl56 #[.int .i64 0,.string ByteArray.empty,.slice none 0 0,.slice none 0 0] ps:=fun ps=>by kernel_rfl
def pl62:Nat→Option (Nat×Nat):=fun i=>(#[(0,1),(1,78)]:Array (Nat×Nat))[i]?
theorem bt62:∀ps,Tryz.prog.built 62 ps=Instr.fill pl62 #[.int .i64 0,.int .i64 0,.int .i64 0,.int .i64 0,.int .i64 0,.int .i64 0,.int .i64 0,.int .i64 0,.int .i64 0,.int .i64 0,.int .i64 0,.int .i64 0,.int .i64 0,.int .i64 0,.int .i64 0,.int .i64 0,.int .i64 0,.int .i64 0,.int .i64 0,.int .i64 0,.int .i64 0,.int .i64 0,.int .i64 0,.int .i64 0,.int .i64 0,.int .i64 0,.int .i64 0,.int .i64 0,.int .i64 0,.int .i64 0,.int .i64 0,.int .i64 0,.int .i64 0,.int .i64 0,.int .i64 0,.int .i64 0,.int .i64 0,.int .i64 0,.int .i64 0,.int .i64 0,.int .i64 0,.int .i64 0,.int .i64 0,.int .i64 0,.int .i64 0,.int .i64 0,.int .i64 0,.int .i64 0,.int .i64 0,.int .i64 0,.int .i64 0,.int .i64 0,.int .i64 0,.int .i64 0,.int .i64 0,.int .i64 0,.int .i64 0,.int .i64 0,.int .i64 0,.int .i64 0,.int .i64 0,.int .i64 0,.int .i64 0,.int .i64 0,.int .i64 0,.int .i64 0,.int .i64 0,.int .i64 0,.int .i64 0,.int .i64 0,.int .i64 0,.int .i64 0,.int .i64 0,.int .i64 0,.int .i64 0,.int .i64 0,.int .i64 0,.int .i64 0,.int .i64 0] ps:=fun ps=>by kernel_rfl
def pl65:Nat→Option (Nat×Nat):=fun i=>(#[(0,79),(79,1),(80,1)]:Array (Nat×Nat))[i]?
theorem bt65:∀ps,Tryz.prog.built 65 ps=Instr.fill pl65 #[.int .i64 0,.int .i64 0,.int .i64 0,.int .i64 0,.int .i64 0,.int .i64 0,.int .i64 0,.int .i64 0,.int .i64 0,.int .i64 0,.int .i64 0,.int .i64 0,.int .i64 0,.int .i64 0,.int .i64 0,.int .i64 0,.int .i64 0,.int .i64 0,.int .i64 0,.int .i64 0,.int .i64 0,.int .i64 0,.int .i64 0,.int .i64 0,.int .i64 0,.int .i64 0,.int .i64 0,.int .i64 0,.int .i64 0,.int .i64 0,.int .i64 0,.int .i64 0,.int .i64 0,.int .i64 0,.int .i64 0,.int .i64 0,.int .i64 0,.int .i64 0,.int .i64 0,.int .i64 0,.int .i64 0,.int .i64 0,.int .i64 0,.int .i64 0,.int .i64 0,.int .i64 0,.int .i64 0,.int .i64 0,.int .i64 0,.int .i64 0,.int .i64 0,.int .i64 0,.int .i64 0,.int .i64 0,.int .i64 0,.int .i64 0,.int .i64 0,.int .i64 0,.int .i64 0,.int .i64 0,.int .i64 0,.int .i64 0,.int .i64 0,.int .i64 0,.int .i64 0,.int .i64 0,.int .i64 0,.int .i64 0,.int .i64 0,.int .i64 0,.int .i64 0,.int .i64 0,.int .i64 0,.int .i64 0,.int .i64 0,.int .i64 0,.int .i64 0,.int .i64 0,.int .i64 0,.slice none 0 0,.slice none 0 0] ps:=fun ps=>by kernel_rfl
def zUX:Nat→Option (Nat×Nat):=fun i=>(#[(0,1),(1,1),(2,3),(5,1)]:Array (Nat×Nat))[i]?
theorem zYO:∀ps,Tryz.prog.built 111 ps=Instr.fill zUX #[.string ByteArray.empty,.slice none 0 0,.int .i64 0,.int .i64 0,.int .i64 0,.int .i64 0] ps:=fun ps=>by kernel_rfl
def zDW:Nat→Option (Nat×Nat):=fun i=>(#[(0,1),(1,1),(2,1),(3,1)]:Array (Nat×Nat))[i]?
theorem zDe:∀ps,Tryz.prog.built 120 ps=Instr.fill zDW #[.int .i64 0,.int .i64 0,.int .i64 0,.int .i64 0] ps:=fun ps=>by kernel_rfl
def z6B:Nat→Option (Nat×Nat):=fun i=>(#[(0,1),(1,1),(2,1),(3,1),(4,4),(8,4)]:Array (Nat×Nat))[i]?
theorem bt159:∀ps,Tryz.prog.built 159 ps=Instr.fill z6B #[.int .i64 0,.int .i64 0,.int .i64 0,.int .i64 0,.int .i64 0,.int .i64 0,.int .i64 0,.int .i64 0,.int .i64 0,.int .i64 0,.int .i64 0,.int .i64 0] ps:=fun ps=>by kernel_rfl
def z6A:Nat→Option (Nat×Nat):=fun i=>(#[(0,1),(1,1)]:Array (Nat×Nat))[i]?
theorem bt164:∀ps,Tryz.prog.built 164 ps=Instr.fill z6A #[.slice none 0 0,.map none] ps:=fun ps=>by kernel_rfl
def zIr:Nat→Option (Nat×Nat):=fun i=>(#[(0,1),(1,1)]:Array (Nat×Nat))[i]?
theorem zKR:∀ps,Tryz.prog.built 181 ps=Instr.fill zIr #[.int .i64 0,.int .i64 0] ps:=fun ps=>by kernel_rfl
def z0H:Nat→Option (Nat×Nat):=fun i=>(#[(0,1),(1,1)]:Array (Nat×Nat))[i]?
theorem z3m:∀ps,Tryz.prog.built 184 ps=Instr.fill z0H #[.int .i64 0,.int .i64 0] ps:=fun ps=>by kernel_rfl
def z5z:Nat→Option (Nat×Nat):=fun i=>(#[(0,1),(1,1),(2,1)]:Array (Nat×Nat))[i]?
theorem bt223:∀ps,Tryz.prog.built 223 ps=Instr.fill z5z #[.int .i64 0,.int .i64 0,.int .i64 0] ps:=fun ps=>by kernel_rfl
theorem zUc:zUu Tryz.prog .eql 42:=by
 intro a0 a1 a2 b0 b1 b2 x y w;have hg:(eqGuard .eql 42 x y (.agg #[.int .i64 a0,.int .i64 a1,.int .i64 a2]) (.agg #[.int .i64 b0,.int .i64 b1,.int .i64 b2])).run Tryz.prog w=.ok () w:=by simp[eqGuard,(by kernel_rfl:Tryz.prog.eqGuardType Tryz.prog.depth 42=false)]
 have hf:(Tryz.prog.fieldsOf 42).toList=(match Tryz.prog.underlying 42 with|some (.struct fs)=>fs.toList|_=>[]):=by kernel_rfl
 refine⟨hg,?_⟩;rw[run_eql_struct,run_equalIn_agg (d:=9999) (ht:=by kernel_rfl) (hp:=by kernel_rfl),hf,Tryz.underlying42];by_cases h0:a0=b0<;>by_cases h1:a1=b1<;>by_cases h2:a2=b2<;>simp[Op.eqFields,part,go_sem,h0,h1,h2]
theorem z0K:zUu Tryz.prog .neq 42:=by
 intro a0 a1 a2 b0 b1 b2 x y w;have hg:(eqGuard .neq 42 x y (.agg #[.int .i64 a0,.int .i64 a1,.int .i64 a2]) (.agg #[.int .i64 b0,.int .i64 b1,.int .i64 b2])).run Tryz.prog w=.ok () w:=by simp[eqGuard,(by kernel_rfl:Tryz.prog.eqGuardType Tryz.prog.depth 42=false)]
 have hf:(Tryz.prog.fieldsOf 42).toList=(match Tryz.prog.underlying 42 with|some (.struct fs)=>fs.toList|_=>[]):=by kernel_rfl
 refine⟨hg,?_⟩;rw[run_neq_struct,run_equalIn_agg (d:=9999) (ht:=by kernel_rfl) (hp:=by kernel_rfl),hf,Tryz.underlying42];by_cases h0:a0=b0<;>by_cases h1:a1=b1<;>by_cases h2:a2=b2<;>simp[Op.eqFields,part,go_sem,h0,h1,h2]
theorem z7W:z44 Tryz.prog .eql 184:=by
 intro a0 a1 b0 b1 x y w;have hg:(eqGuard .eql 184 x y (.agg #[.int .i64 a0,.int .i64 a1]) (.agg #[.int .i64 b0,.int .i64 b1])).run Tryz.prog w=.ok () w:=by simp[eqGuard,(by kernel_rfl:Tryz.prog.eqGuardType Tryz.prog.depth 184=false)]
 have hf:(Tryz.prog.fieldsOf 184).toList=(match Tryz.prog.underlying 184 with|some (.struct fs)=>fs.toList|_=>[]):=by kernel_rfl
 refine⟨hg,?_⟩;rw[run_eql_struct,run_equalIn_agg (d:=9999) (ht:=by kernel_rfl) (hp:=by kernel_rfl),hf,Tryz.underlying184];by_cases h0:a0=b0<;>by_cases h1:a1=b1<;>simp[Op.eqFields,part,go_sem,h0,h1]
def zEJ (x:ByteArray):Value:=.string x
def zF6 (x:ByteArray):Value:=.string x
def kv156 (p:ByteArray×ByteArray):Value×Value:=(zEJ p.1,zF6 p.2)
theorem kt156:KeyT Tryz.prog 9 zEJ:=by
 refine z2l (.string) Tryz.underlying9 (fun b a w=>?_) (fun a b=>?_) (fun a=>?_)
 ·exact MapKept.run_checkKey Tryz.underlying9 (by simp[MapKept.IsKey,zEJ]) b 9999
 ·simp[zEJ,Instr.sameNow,z3t]
 ·simp[zEJ,Instr.sameBits,z3t]
theorem zGV:MpOk Tryz.prog 156 zEJ zF6 ByteArray.empty:=⟨9,9,Tryz.underlying156,kt156,by kernel_rfl,fun _=>rfl⟩
def zUd (x:τF):Value:=.agg #[.int .i64 x.1,.int .i64 x.2.1,.int .i64 x.2.2]
def z01 (x:Int):Value:=.int .i64 x
def zEI (p:τF×Int):Value×Value:=(zUd p.1,z01 p.2)
theorem kt162:KeyT Tryz.prog 42 zUd:=by
 have hf:(Tryz.prog.fieldsOf 42).toList=(match Tryz.prog.underlying 42 with|some (.struct fs)=>fs.toList|_=>[]):=by kernel_rfl
 refine z2m _ Tryz.underlying42 (fun b a w=>?_) (fun a b w=>?_) (fun _ _=>rfl) (fun a=>?_)
 ·obtain⟨a0,a1,a2⟩:=a;have hi:∀(b:Bool) (a:Int) (w:World),(Instr.checkKey b 9999 3 (.int .i64 a)).run Tryz.prog w=.ok () w:=fun b a w=>MapKept.run_checkKey Tryz.underlying3 (by simp[MapKept.IsKey]) b 9998;show (Instr.checkKey b (9998+1+1) _ (.agg #[.int .i64 a0,.int .i64 a1,.int .i64 a2])).run _ w=_;unfold Instr.checkKey;simp[part,go_sem,hi]
 ·obtain⟨a0,a1,a2⟩:=a;obtain⟨b0,b1,b2⟩:=b;unfold zUd;rw[show Op.equal 42=Op.equalIn 10000 42 from rfl,run_equalIn_agg (d:=9999) (ht:=by kernel_rfl) (hp:=by kernel_rfl),hf,Tryz.underlying42];by_cases h0:a0=b0<;>by_cases h1:a1=b1<;>by_cases h2:a2=b2<;>simp[Op.eqFields,part,go_sem,h0,h1,h2]
 ·obtain⟨a0,a1,a2⟩:=a;exact z1V 9999 [a0,a1,a2]
theorem z6E:MpOk Tryz.prog 162 zUd z01 0:=⟨42,3,Tryz.underlying162,kt162,by kernel_rfl,fun _=>rfl⟩
def zPo (a0:ByteArray) (a1:ByteArray):=fC zHY (jW a0 a1) fun _=>zIG
def zAl (a0:Int):=fC zFn (qJ a0) fun _=>zGP
def zSa (a0:List ByteArray) (a1:ByteArray):=fC zPX (zCN a0 a1) fun _=>zQw
theorem zP3:CfW Tryz.prog 64:=cfW Tryz.func64
noncomputable def zQ5 (vs1:ByteArray) (b2:Int):T Tryz.prog (List ByteArray):=
 .n1 (nilN 9 1 (by decide))<|
 .n1 (nilN 9 1 (by decide))<|
 .loop (fun n X_1=>zA7 b2 vs1 n X_1.1 X_1.2.1 X_1.2.2) ((0,0,([]:List ByteArray))) (mb 34 227) [40] (fun s X_1 γ=>s.pc (mb 34 227) [40] [(6,I X_1.1),(7,I X_1.2.1)] [(40,.arr 9 1 (X_1.2.2.map c9))]) (fun X_1=>
 .cond (ltI X_1.2.1 ((vs1.size:Int))) (.op0 (idxs vs1 X_1.2.1) fun e9=>
 .cond (eqI e9 b2) (.op0 (zHe vs1 X_1.1 X_1.2.1) fun u11=>.n1 bsl<|.opx (app ct9 X_1.2.2 ([vs1.extract (Int.toNat X_1.1) (Int.toNat X_1.2.1)])) fun u12=>
 .frc (w64 (X_1.2.1+1)) fun vfrom13=>
 .frc (w64 (X_1.2.1+1)) fun i14=>.ret (.inl ((vfrom13,i14,X_1.2.2++([vs1.extract (Int.toNat X_1.1) (Int.toNat X_1.2.1)])))))<|
 .frc (w64 (X_1.2.1+1)) fun i15=>.ret (.inl ((X_1.1,i15,X_1.2.2))))<|.ret (.inr ((X_1.1,X_1.2.2)))) (mb 34 97) [40] (fun s o7 γ=>s.pc (mb 34 97) [40] [(6,I o7.1)] [(40,.arr 9 1 (o7.2.map c9))]) fun o7=>
 .op0 (zHe vs1 o7.1 ((vs1.size:Int))) fun u16=>.n1 bsl<|.opx (app ct9 o7.2 ([vs1.extract (Int.toNat o7.1) (Int.toNat ((vs1.size:Int)))])) fun u17=>
 .lt (o7.2++([vs1.extract (Int.toNat o7.1) (Int.toNat ((vs1.size:Int)))])) fun l18=>.ret l18
theorem zRC {vs1:ByteArray} {b2:Int} {r:List ByteArray} (h:zAf vs1 b2=some r):zD Tryz.prog 64 [.c (.v (.string vs1)),.c (.v (.int .u8 b2))] (.ow 0) [(0,.arr 9 1 (r.map c9))]:=CtT (zQ5 vs1 b2) (fun r=>(.ow 0,[(0,.arr 9 1 (r.map c9))])) (rs:=[.t 4]) (vs:=[.tmp 4]) Tryz.func64 rfl rfl (.cons rfl FitsL.nil) h
def zG9 (vs1:ByteArray) (b2:Int):=fC zP3 (zAf vs1 b2) fun _=>zRC
theorem zP1:CfW Tryz.prog 46:=cfW Tryz.func46
noncomputable def zQ3 (vs1:ByteArray) (bytes2:Int) (most3:Int):T Tryz.prog (((List ByteArray)×Bool)):=
 .n1 (nilN 9 1 (by decide))<|
 .dn<|.joinC (.seqT (.cond (ltI bytes2 ((vs1.size:Int))) (.ret true) (.seqT (.cond (!(vs1.toList==((⟨#[]⟩:ByteArray)).toList)) (.op0 (idxs vs1 (w64 (((vs1.size:Int)) - 1))) fun e6=>.ret (!eqI e6 10)) (.ret false)) fun b7=>.ret b7)) fun b8=>.ret b8) (mb 37 16777221) [] (fun s q_1 γ=>s.pc (mb 37 16777221) [] [(24,Bo q_1)] []) fun q_1=>
 .cond q_1 (.n1 (nilN 9 1 (by decide))<|
 .late (frzH 48)<|.ret ((([]:List ByteArray),false)))<|.op1 (zG9 vs1 10) fun y10=>
 .n0 (lenM ct9 y10)<|.hint (frzH 208)<|.op0 (slice ct9 y10 0 (w64 (((y10.length:Int)) - 1))) fun u11=>
 .n0 (lenM ct9 (subl y10 0 (w64 (((y10.length:Int)) - 1))))<|
 .lt (leI (((subl y10 0 (w64 (((y10.length:Int)) - 1))).length:Int)) most3) fun t12=>.ret ((subl y10 0 (w64 (((y10.length:Int)) - 1)),t12))
theorem zRA {vs1:ByteArray} {bytes2:Int} {most3:Int} {r:((List ByteArray)×Bool)} (h:zD0 vs1 bytes2 most3=some r):zD Tryz.prog 46 [.c (.v (.string vs1)),I bytes2,I most3] (.tc (.c (.sl (r.1.map c9))) (.tc (Bo r.2) .tn)) []:=CtT (zQ3 vs1 bytes2 most3) (fun r=>(.tc (.c (.sl (r.1.map c9))) (.tc (Bo r.2) .tn),[])) (rs:=[.t 6,.t 7]) (vs:=[.tmp 6,.tmp 7]) Tryz.func46 rfl rfl (.cons rfl (.cons rfl FitsL.nil)) h
def zSd (vs1:ByteArray) (bytes2:Int) (most3:Int):=fC zP1 (zD0 vs1 bytes2 most3) fun _=>zRA
theorem zTm:CfW Tryz.prog 47:=cfW Tryz.func47
noncomputable def zVF:T Tryz.prog ((τS×(List τS))):=
 .n0 (bld pl53 bt53)<|.n0 (bld pl56 bt56)<|
 .ret (((-23,ByteArray.empty,([]:List τF)),([]:List τS)))
theorem zV3 {r:(τS×(List τS))} (h:zEg=some r):zD Tryz.prog 47 [] (.pt 0 0) [(0,.box [Ti r.1.1,.v (.string r.1.2.1),.v (.slice none 0 0),.v (.slice none 0 0)])]:=CbT (zVF) 0 (fun r=>[Ti r.1.1,.v (.string r.1.2.1),.v (.slice none 0 0),.v (.slice none 0 0)]) Tryz.func47 rfl rfl h
def zWt:=fC zTm (zEg) fun _=>zV3
theorem zPZ:CfW Tryz.prog 89:=cfW Tryz.func89
noncomputable def zQ1 (word1:ByteArray):T Tryz.prog ((ByteArray×Bool)):=
 .lt (word1.toList==((⟨#[100,105,115,99]⟩:ByteArray)).toList) fun t2=>.cond t2 (
 .ret (((⟨#[110]⟩:ByteArray),true)))<|
 .cond (word1.toList==((⟨#[115,101,116]⟩:ByteArray)).toList) (
 .ret (((⟨#[108,102]⟩:ByteArray),true)))<|.join (
 .lt (word1.toList==((⟨#[112,114,105,109,101]⟩:ByteArray)).toList) fun t6=>.cond t6 (.ret t6)<|
 .lt (word1.toList==((⟨#[118,97,108,117,101]⟩:ByteArray)).toList) fun t8=>.ret t8) (mb 27 528) [] (fun s j5 γ=>s.pc (mb 27 528) [] [(9,Bo j5)] []) fun j5=>
 .cond j5 (
 .ret (((⟨#[108,110]⟩:ByteArray),true)))<|
 .cond (word1.toList==((⟨#[109,117,108]⟩:ByteArray)).toList) (
 .ret (((⟨#[108,108,108]⟩:ByteArray),true)))<|
 .cond (word1.toList==((⟨#[112,111,119]⟩:ByteArray)).toList) (
 .ret (((⟨#[108,108,110]⟩:ByteArray),true)))<|
 .lt (word1.toList==((⟨#[115,97,109,101]⟩:ByteArray)).toList) fun t12=>.cond t12 (
 .ret (((⟨#[108,108]⟩:ByteArray),true)))<|.join (
 .lt (word1.toList==((⟨#[102,114,101,101]⟩:ByteArray)).toList) fun t15=>.cond t15 (.ret t15)<|
 .lt (word1.toList==((⟨#[115,104,111,119]⟩:ByteArray)).toList) fun t17=>.cond t17 (.ret t17)<|
 .lt (word1.toList==((⟨#[105,110,100,101,120]⟩:ByteArray)).toList) fun t19=>.cond t19 (.ret t19)<|
 .lt (word1.toList==((⟨#[111,114,100,101,114]⟩:ByteArray)).toList) fun t21=>.cond t21 (.ret t21)<|
 .lt (word1.toList==((⟨#[103,101,110,117,115]⟩:ByteArray)).toList) fun t23=>.ret t23) (mb 27 262160) [] (fun s j14 γ=>s.pc (mb 27 262160) [] [(18,Bo j14)] []) fun j14=>
 .cond j14 (
 .ret (((⟨#[108]⟩:ByteArray),true)))<|
 .lt (word1.toList==((⟨#[110,97,109,101,115]⟩:ByteArray)).toList) fun t25=>.cond t25 (.cond t25 (
 .ret (((⟨#[]⟩:ByteArray),true)))<|
 .ret (((⟨#[]⟩:ByteArray),false)))<|
 .lt (word1.toList==((⟨#[117,110,100,111]⟩:ByteArray)).toList) fun t28=>.cond t28 (
 .ret (((⟨#[]⟩:ByteArray),true)))<|
 .ret (((⟨#[]⟩:ByteArray),false))
theorem zQy {word1:ByteArray} {r:(ByteArray×Bool)} (h:zCo word1=some r):zD Tryz.prog 89 [.c (.v (.string word1))] (.tc (.c (.v (.string r.1))) (.tc (Bo r.2) .tn)) []:=CtT (zQ1 word1) (fun r=>(.tc (.c (.v (.string r.1))) (.tc (Bo r.2) .tn),[])) (rs:=[.t 2,.t 3]) (vs:=[.tmp 2,.tmp 3]) Tryz.func89 rfl rfl (.cons rfl (.cons rfl FitsL.nil)) h
def zSc (word1:ByteArray):=fC zPZ (zCo word1) fun _=>zQy
theorem zNw:CfW Tryz.prog 90:=cfW Tryz.func90
noncomputable def zOo (w1:ByteArray):T Tryz.prog Bool:=
 .pl<|.joinC (.seqT (.cond (eqI ((w1.size:Int)) 1) (.op0 (idxs w1 0) fun e3=>.ret (leI 97 e3)) (.ret false)) fun b4=>.seqT (.cond b4 (.op0 (idxs w1 0) fun e6=>.ret (leI e6 122)) (.ret false)) fun b7=>.ret (b4,b7)) (mb 16 4) [] (fun s q_1 γ=>s.pc (mb 16 4) [] [(2,Bo q_1.2)] []) fun q_1=>
 .ret q_1.2
theorem zPF {w1:ByteArray} {r:Bool} (h:jY w1=some r):zD Tryz.prog 90 [.c (.v (.string w1))] (Bo r) []:=CtU (zOo w1) 2 (fun r=>Bo r) Tryz.func90 rfl rfl h
def zPq (w1:ByteArray):=fC zNw (jY w1) fun _=>zPF
theorem zOD:CfW Tryz.prog 136:=cfW Tryz.func136
noncomputable def zOv (vs1:ByteArray) (first2:Int) (last3:Int):T Tryz.prog ((ByteArray×Bool)):=
 .pl<|.dn<|.joinC (.seqT (.cond (ltI ((vs1.size:Int)) 2) (.ret true) (.op0 (idxs vs1 0) fun e5=>.ret (!eqI e5 first2))) fun b6=>.seqT (.cond b6 (.ret true) (.op0 (idxs vs1 (w64 (((vs1.size:Int)) - 1))) fun e8=>.ret (!eqI e8 last3))) fun b9=>.ret (b6,b9)) (mb 31 33554433) [] (fun s q_1 γ=>s.pc (mb 31 33554433) [] [(25,Bo q_1.2)] []) fun q_1=>
 .cond q_1.2 (
 .ret (((⟨#[]⟩:ByteArray),false)))<|.op0 (zHe vs1 1 (w64 (((vs1.size:Int)) - 1))) fun u11=>
 .ret ((vs1.extract (Int.toNat 1) (Int.toNat (w64 (((vs1.size:Int)) - 1))),true))
theorem zPM {vs1:ByteArray} {first2:Int} {last3:Int} {r:(ByteArray×Bool)} (h:zBV vs1 first2 last3=some r):zD Tryz.prog 136 [.c (.v (.string vs1)),.c (.v (.int .u8 first2)),.c (.v (.int .u8 last3))] (.tc (.c (.v (.string r.1))) (.tc (Bo r.2) .tn)) []:=CtT (zOv vs1 first2 last3) (fun r=>(.tc (.c (.v (.string r.1))) (.tc (Bo r.2) .tn),[])) (rs:=[.t 6,.t 7]) (vs:=[.tmp 6,.tmp 7]) Tryz.func136 rfl rfl (.cons rfl (.cons rfl FitsL.nil)) h
def zPw (vs1:ByteArray) (first2:Int) (last3:Int):=fC zOD (zBV vs1 first2 last3) fun _=>zPM
theorem zW8:CfW Tryz.prog 93:=cfW Tryz.func93
noncomputable def zXP (vn1:Int) (lo2:Int) (hi3:Int):T Tryz.prog Bool:=
 .pl<|.joinC (.selB (leI lo2 vn1) true [] fun w_2=>.ret w_2) (mb 15 64) [] (fun s q_3 γ=>s.pc (mb 15 64) [] [(6,Bo (bif q_3 then (leI vn1 hi3) else false))] []) fun q_3=>
 .ret (bif q_3 then (leI vn1 hi3) else false)
theorem zX4 {vn1:Int} {lo2:Int} {hi3:Int} {r:Bool} (h:zAv vn1 lo2 hi3=some r):zD Tryz.prog 93 [I vn1,I lo2,I hi3] (Bo r) []:=CtU (zXP vn1 lo2 hi3) 6 (fun r=>Bo r) Tryz.func93 rfl rfl h
def zE6 (vn1:Int) (lo2:Int) (hi3:Int):=fC zW8 (zAv vn1 lo2 hi3) fun _=>zX4
theorem zSD:CfW Tryz.prog 138:=cfW Tryz.func138
noncomputable def zTB (vs1:ByteArray):T Tryz.prog Int:=
 .pl<|.dn<|.joinC (.op1 (zE6 ((vs1.size:Int)) 1 10) fun y2=>.seqT (.cond (!y2) (.ret true) (.op0 (idxs vs1 0) fun e4=>.selB (eqI e4 48) true [] fun w_4=>.ret (bif w_4 then (ltI 1 ((vs1.size:Int))) else false))) fun b6=>.ret (y2,b6)) (mb 44 262145) [] (fun s q_7 γ=>s.pc (mb 44 262145) [] [(18,Bo q_7.2)] []) fun q_7=>
 .cond q_7.2 (
 .ret (-1))<|
 .loopS (fun n X_6=>zBK vs1 n X_6.1 X_6.2) ((0,0)) (mb 44 25) [] (fun s X_6 γ=>s.pc (mb 44 25) [] [(3,I X_6.1),(4,I X_6.2)] []) (fun X_6=>
 .cond (ltI X_6.2 ((vs1.size:Int))) (.pl<|.dn<|.dn<|.joinC (.op0 (idxs vs1 X_6.2) fun e13=>.seqT (.cond (ltI e13 48) (.ret true) (.op0 (idxs vs1 X_6.2) fun e15=>.ret (ltI 57 e15))) fun b16=>.ret (e13,b16)) (mb 44 17179869209) [] (fun s q_5 γ=>s.pc (mb 44 17179869209) [] [(34,Bo q_5.2)] []) fun q_5=>
 .cond q_5.2 (
 .ret (.early (-1)))<|.op0 (idxs vs1 X_6.2) fun e18=>.n0 au<|.n0 au<|
 .frc (w64 ((w64 (10*X_6.1))+(IntKind.i64.wrap (IntKind.u8.wrap (e18 - 48))))) fun vn19=>
 .frc (w64 (X_6.2+1)) fun i20=>.ret (.again ((vn19,i20))))<|.ret (.done X_6.1)) (mb 44 8) [] (fun s o11 γ=>s.pc (mb 44 8) [] [(3,I o11)] []) (fun r=>r) fun o11=>
 .ret o11
theorem zTY {vs1:ByteArray} {r:Int} (h:zFQ vs1=some r):zD Tryz.prog 138 [.c (.v (.string vs1))] (I r) []:=CtU (zTB vs1) 2 (fun r=>I r) Tryz.func138 rfl rfl h
theorem zTu:∀args w,(callFunc 92 args).run Tryz.prog w=.ok (.enter 92 args) w:=qN Tryz.func92 kk kk
set_option maxRecDepth 100000 in
set_option maxHeartbeats 400000 in
theorem zVc {vs1:ByteArray} {r:(Int×Bool)} (h:zBM vs1=some r):zD Tryz.prog 92 [.c (.v (.string vs1))] (.tc (I r.1) (.tc (Bo r.2) .tn)) []:=by
  refine zAW (rs:=[.t 2,.t 3]) (vs:=[.tmp 2,.tmp 3]) Tryz.func92 rfl rfl (.cons rfl (.cons rfl FitsL.nil)) (by decide) 36 rfl ?_
  unfold zBM at h;show V _ _ ⟨.c (.v (.string vs1))::bt 35 [],[]⟩ _;refine jB (mb 36 1) [] (s1:=⟨.c (.v (.string vs1))::bt 35 [],[]⟩) ?_ ?_
  ·refine L0 rfl rfl (zF (I 0) rfl kk) ?_
   refine L0 rfl rfl (zF (Bo false) rfl kk) ?_
   refine zH ?_
   kernel_rfl
  obtain⟨b4,hb4,h⟩:=zP h;refine jB (mb 36 17) [] (s1:=⟨.c (.v (.string vs1))::bt 3 (Bo b4::bt 31 []),[]⟩) ?_ ?_
  ·refine L0 rfl rfl (zJ (.c (.v (.string vs1))) rfl kk) ?_
   refine L0 rfl rfl (zWi (b:=vs1) Tryz.underlying9 rfl kk) ?_
   refine L0 rfl rfl (zOV (k:=.i64) (a:=(vs1.size:Int)) (b:=1) rfl kk kk) ?_
   refine L0 rfl rfl (zJ (Bo (ltI 1 ((vs1.size:Int)))) rfl kk) ?_
   refine zBG (ltI 1 ((vs1.size:Int))) (fun hc2=>?_) (fun hc2=>?_)
   ·have hb4:=zBq hb4 hc2;obtain⟨e3,he3,hb4⟩:=zP hb4;have hb4:=zV hb4;refine zC _ rfl rfl kk hc2 (zB rfl (zJ (.c (.v (.string vs1))) rfl kk)) ?_
    refine zC _ rfl rfl kk hc2 (zB rfl (zWj (b:=vs1) (k:=.i64) (n:=0) (v:=e3) Tryz.underlying9 rfl kk kk he3)) ?_
    refine zC _ rfl rfl kk hc2 (zB rfl (zIB (k:=.u8) (a:=e3) (b:=45) rfl kk kk)) ?_
    refine zR rfl (zB rfl (zJe (b:=ltI 1 ((vs1.size:Int))) (p:=eqI e3 45) rfl kk hc2 kk hb4)) ?_
    refine L0 rfl rfl (zF (Bo b4) rfl kk) ?_
    refine zH ?_
    kernel_rfl
   ·have hb4:=zV (zBC hb4 hc2);refine zU _ rfl rfl kk hc2 rfl ?_
    refine zU _ rfl rfl kk hc2 rfl ?_
    refine zU _ rfl rfl kk hc2 rfl ?_
    refine zR rfl (zB rfl (zJf (b:=ltI 1 ((vs1.size:Int))) (p:=false) rfl kk hc2 kk hb4)) ?_
    refine L0 rfl rfl (zF (Bo b4) rfl kk) ?_
    refine zH ?_
    kernel_rfl
  obtain⟨j5,hj5,h⟩:=zP h;refine z8B (mb 36 17) [] (s1:=⟨.c (.v (.string j5))::bt 3 (Bo b4::bt 31 []),[]⟩) ?_ ?_
  ·clear h;have h:=hj5;clear hj5;refine jB (mb 36 16401) [] (s1:=⟨.c (.v (.string vs1))::bt 3 (Bo b4::bt 9 (Bo b4::bt 21 [])),[]⟩) ?_ ?_
   ·refine L0 rfl rfl (zJ (Bo b4) rfl kk) ?_
    refine zH ?_
    kernel_rfl
   refine zCh rfl (fun hc6=>?_) (fun hc6=>?_)
   ·have h:=zBq h hc6;obtain⟨u7,hu7,h⟩:=zP h;refine zYX (mb 36 17) [] (s1:=⟨.c (.v (.string (vs1.extract (Int.toNat 1) (Int.toNat ((vs1.size:Int))))))::bt 3 (Bo b4::bt 31 []),[]⟩) ?_ ?_
    ·refine L0 rfl rfl (zJ (.c (.v (.string vs1))) rfl kk) ?_
     refine L0 rfl rfl (zUq (b:=vs1) (l:=1) (h:=(vs1.size:Int)) Tryz.underlying9 rfl kk (fun y hy=>by cases hy;exact⟨.i64,kk⟩) (fun hh=>by cases hh) (fun y hy=>by cases hy) (fun _=>rfl) (zIa hu7)) ?_
     refine L0 rfl rfl (zF (.c (.v (.string (vs1.extract (Int.toNat 1) (Int.toNat ((vs1.size:Int))))))) rfl kk) ?_
     refine zH ?_
     kernel_rfl
    obtain rfl:=zV h;show St.keep _ _ _=_;rfl
   ·have h:=zBC h hc6;refine zEA ?_
    obtain rfl:=zV h;show St.keep _ _ _=_;rfl
  obtain⟨y8,hy8,h⟩:=zP h;refine jB (mb 36 48) [] (s1:=⟨bt 4 (Bo b4::I y8::bt 30 []),[]⟩) ?_ ?_
  ·refine L0 rfl rfl (zJ (.c (.v (.string j5))) rfl kk) ?_
   refine L1 rfl rfl (zBt (zTY hy8) zSD rfl kk) ?_
   refine L0 rfl rfl (zF (I y8) rfl kk) ?_
   refine zH ?_
   kernel_rfl
  refine zCk ?_
  obtain⟨t12,ht12,h⟩:=zP h;have ht12:=zV ht12;refine jB (mb 36 2147483696) [] (s1:=⟨bt 4 (Bo b4::I y8::bt 25 (Bo t12::bt 4 [])),[]⟩) ?_ ?_
  ·refine L0 rfl rfl (zJ (I y8) rfl kk) ?_
   refine L0 rfl rfl (zG4 (k:=.i64) (a:=y8) (b:=0) rfl kk kk) ?_
   refine L0 rfl rfl (zJ (Bo (ltI y8 0)) rfl kk) ?_
   refine zBG (ltI y8 0) (fun hc9=>?_) (fun hc9=>?_)
   ·refine qM _ rfl rfl kk hc9 rfl ?_
    refine qM _ rfl rfl kk hc9 rfl ?_
    refine qE rfl rfl kk rfl ?_
    refine qE rfl rfl kk rfl ?_
    refine qM _ rfl rfl kk hc9 rfl ?_
    refine zR rfl (zB rfl (zA3 (b:=ltI y8 0) (p:=true) (q:=bif b4 then (eqI y8 0) else false) rfl kk hc9 kk)) ?_
    refine L0 rfl rfl (zJ (Bo (bif (ltI y8 0) then true else (bif b4 then (eqI y8 0) else false))) rfl kk) ?_
    refine zBG (bif (ltI y8 0) then true else (bif b4 then (eqI y8 0) else false)) (fun hc11=>?_) (fun hc11=>?_)
    ·refine qM _ rfl rfl kk hc11 rfl ?_
     refine qM _ rfl rfl kk hc11 rfl ?_
     refine zR rfl (zB rfl (zA3 (b:=bif (ltI y8 0) then true else (bif b4 then (eqI y8 0) else false)) (p:=true) (q:=ltI 1000000 y8) rfl kk hc11 kk)) ?_
     refine zH ?_
     subst ht12
     kernel_rfl
    ·refine zC _ rfl rfl kk hc11 (zB rfl (zJ (I y8) rfl kk)) ?_
     refine zC _ rfl rfl kk hc11 (zB rfl (zOV (k:=.i64) (a:=y8) (b:=1000000) rfl kk kk)) ?_
     refine zR rfl (zB rfl (zBF (b:=bif (ltI y8 0) then true else (bif b4 then (eqI y8 0) else false)) (p:=true) (q:=ltI 1000000 y8) rfl kk hc11 kk)) ?_
     refine zH ?_
     subst ht12
     kernel_rfl
   ·refine zC _ rfl rfl kk hc9 (zB rfl (zJ (Bo b4) rfl kk)) ?_
    refine zC _ rfl rfl kk hc9 (zB rfl (zJ (Bo b4) rfl kk)) ?_
    refine zBG b4 (fun hc10=>?_) (fun hc10=>?_)
    ·refine zC _ rfl rfl kk hc10 (zB rfl (zJ (I y8) rfl kk)) ?_
     refine zC _ rfl rfl kk hc10 (zB rfl (zIB (k:=.i64) (a:=y8) (b:=0) rfl kk kk)) ?_
     refine zC _ rfl rfl kk hc9 (zB rfl (zA3 (b:=b4) (p:=eqI y8 0) (q:=false) rfl kk hc10 kk)) ?_
     refine zR rfl (zB rfl (zBF (b:=ltI y8 0) (p:=true) (q:=bif b4 then (eqI y8 0) else false) rfl kk hc9 kk)) ?_
     refine L0 rfl rfl (zJ (Bo (bif (ltI y8 0) then true else (bif b4 then (eqI y8 0) else false))) rfl kk) ?_
     refine zBG (bif (ltI y8 0) then true else (bif b4 then (eqI y8 0) else false)) (fun hc11=>?_) (fun hc11=>?_)
     ·refine qM _ rfl rfl kk hc11 rfl ?_
      refine qM _ rfl rfl kk hc11 rfl ?_
      refine zR rfl (zB rfl (zA3 (b:=bif (ltI y8 0) then true else (bif b4 then (eqI y8 0) else false)) (p:=true) (q:=ltI 1000000 y8) rfl kk hc11 kk)) ?_
      refine zH ?_
      subst ht12
      kernel_rfl
     ·refine zC _ rfl rfl kk hc11 (zB rfl (zJ (I y8) rfl kk)) ?_
      refine zC _ rfl rfl kk hc11 (zB rfl (zOV (k:=.i64) (a:=y8) (b:=1000000) rfl kk kk)) ?_
      refine zR rfl (zB rfl (zBF (b:=bif (ltI y8 0) then true else (bif b4 then (eqI y8 0) else false)) (p:=true) (q:=ltI 1000000 y8) rfl kk hc11 kk)) ?_
      refine zH ?_
      subst ht12
      kernel_rfl
    ·refine zU _ rfl rfl kk hc10 rfl ?_
     refine zU _ rfl rfl kk hc10 rfl ?_
     refine zC _ rfl rfl kk hc9 (zB rfl (zBF (b:=b4) (p:=eqI y8 0) (q:=false) rfl kk hc10 kk)) ?_
     refine zR rfl (zB rfl (zBF (b:=ltI y8 0) (p:=true) (q:=bif b4 then (eqI y8 0) else false) rfl kk hc9 kk)) ?_
     refine L0 rfl rfl (zJ (Bo (bif (ltI y8 0) then true else (bif b4 then (eqI y8 0) else false))) rfl kk) ?_
     refine zBG (bif (ltI y8 0) then true else (bif b4 then (eqI y8 0) else false)) (fun hc11=>?_) (fun hc11=>?_)
     ·refine qM _ rfl rfl kk hc11 rfl ?_
      refine qM _ rfl rfl kk hc11 rfl ?_
      refine zR rfl (zB rfl (zA3 (b:=bif (ltI y8 0) then true else (bif b4 then (eqI y8 0) else false)) (p:=true) (q:=ltI 1000000 y8) rfl kk hc11 kk)) ?_
      refine zH ?_
      subst ht12
      kernel_rfl
     ·refine zC _ rfl rfl kk hc11 (zB rfl (zJ (I y8) rfl kk)) ?_
      refine zC _ rfl rfl kk hc11 (zB rfl (zOV (k:=.i64) (a:=y8) (b:=1000000) rfl kk kk)) ?_
      refine zR rfl (zB rfl (zBF (b:=bif (ltI y8 0) then true else (bif b4 then (eqI y8 0) else false)) (p:=true) (q:=ltI 1000000 y8) rfl kk hc11 kk)) ?_
      refine zH ?_
      subst ht12
      kernel_rfl
  refine zCh rfl (fun hc13=>?_) (fun hc13=>?_)
  ·have h:=zBq h hc13;refine jB (mb 36 12) [] (s1:=⟨.bot::.bot::I 0::Bo false::bt 32 [],[]⟩) ?_ ?_
   ·refine L0 rfl rfl (zF (I 0) rfl kk) ?_
    refine L0 rfl rfl (zF (Bo false) rfl kk) ?_
    refine zH ?_
    kernel_rfl
   refine zDx ?_
   obtain rfl:=zV h;show Post _ _ _ _ _;exact⟨.inr rfl,rfl,rfl,rfl⟩
  ·have h:=zBC h hc13;refine zEA ?_
   show V _ _ _ _;refine zCk ?_
   refine jB (mb 36 4294967328) [] (s1:=⟨bt 5 (I y8::bt 26 (Bo b4::bt 3 [])),[]⟩) ?_ ?_
   ·refine L0 rfl rfl (zJ (Bo b4) rfl kk) ?_
    refine zH ?_
    kernel_rfl
   refine zCh rfl (fun hc14=>?_) (fun hc14=>?_)
   ·have h:=zBq h hc14;obtain⟨t15,ht15,h⟩:=zOa h;refine jB (mb 36 12) [] (s1:=⟨.bot::.bot::I t15::Bo true::bt 32 [],[]⟩) ?_ ?_
    ·refine L0 rfl rfl (zJ (I y8) rfl kk) ?_
     refine L0 rfl rfl (zS1 (a:=y8) rfl kk) ?_
     refine L0 rfl rfl (zF (I (w64 (0 - y8))) rfl kk) ?_
     refine L0 rfl rfl (zF (Bo true) rfl kk) ?_
     refine zH ?_
     subst ht15
     kernel_rfl
    refine zDx ?_
    obtain rfl:=zV h;show Post _ _ _ _ _;exact⟨.inr rfl,rfl,rfl,rfl⟩
   ·have h:=zBC h hc14;refine zEA ?_
    show V _ _ _ _;refine jB (mb 36 12) [] (s1:=⟨.bot::.bot::I y8::Bo true::bt 32 [],[]⟩) ?_ ?_
    ·refine L0 rfl rfl (zJ (I y8) rfl kk) ?_
     refine L0 rfl rfl (zF (I y8) rfl kk) ?_
     refine L0 rfl rfl (zF (Bo true) rfl kk) ?_
     refine zH ?_
     kernel_rfl
    refine zDx ?_
    obtain rfl:=zV h;show Post _ _ _ _ _;exact⟨.inr rfl,rfl,rfl,rfl⟩
def zMq (vs1:ByteArray):=fC zTu (zBM vs1) fun _=>zVc
theorem zSK:CfW Tryz.prog 137:=cfW Tryz.func137
noncomputable def zTI (vs1:ByteArray) (b2:Int) (count3:Int):T Tryz.prog (List Int):=
 .n1 (nilN 3 1 (by decide))<|
 .op1 (zG9 vs1 b2) fun y4=>
 .n0 (lenM ct9 y4)<|
 .cond (!eqI ((y4.length:Int)) count3) (.n1 (nilN 3 1 (by decide))<|
 .ret (([]:List Int)))<|.n1 (nilN 3 1 (by decide))<|
 .n0 (lenM ct9 y4)<|
 .loopS (fun n X_1=>zA0 y4 n X_1.1 X_1.2) ((0,([]:List Int))) (mb 39 7340288) [64,120] (fun s X_1 γ=>s.pc (mb 39 7340288) [64,120] [(22,I X_1.1)] [(64,.arr 3 1 (X_1.2.map c3))]) (fun X_1=>
 .cond (ltI X_1.1 ((y4.length:Int))) (.op0 (zBD ct9 y4 X_1.1) fun e11=>.op0 (ldo ct9 y4 X_1.1) fun e12=>
 .op1 (zMq e12) fun y13=>
 .cond (!y13.2) (.n1 (nilN 3 1 (by decide))<|
 .ret (.early (([]:List Int))))<|.n1 bsl<|.opx (app ct3 X_1.2 ([y13.1])) fun u15=>
 .frc (w64 (X_1.1+1)) fun t16=>.ret (.again ((t16,X_1.2++([y13.1])))))<|.ret (.done X_1.2)) (mb 39 256) [64] (fun s o9 γ=>s.pc (mb 39 256) [64] [] [(64,.arr 3 1 (o9.map c3))]) (fun r=>r) fun o9=>
 .ret o9
theorem zT5 {vs1:ByteArray} {b2:Int} {count3:Int} {r:List Int} (h:zBb vs1 b2 count3=some r):zD Tryz.prog 137 [.c (.v (.string vs1)),.c (.v (.int .u8 b2)),I count3] (.ow 0) [(0,.arr 3 1 (r.map c3))]:=CtT (zTI vs1 b2 count3) (fun r=>(.ow 0,[(0,.arr 3 1 (r.map c3))])) (rs:=[.t 6]) (vs:=[.tmp 6]) Tryz.func137 rfl rfl (.cons rfl FitsL.nil) h
def zUJ (vs1:ByteArray) (b2:Int) (count3:Int):=fC zSK (zBb vs1 b2 count3) fun _=>zT5
theorem zSJ:CfW Tryz.prog 91:=cfW Tryz.func91
noncomputable def zTH (vs1:ByteArray):T Tryz.prog ((τF×Bool)):=
 .op1 (zPw vs1 40 41) fun y2=>
 .op1 (zUJ y2.1 44 3) fun y3=>
 .dn<|.joinC (.selB (!y2.2) false [.z (lenM ct3 y3)] fun w_4=>.ret w_4) (mb 32 1048644) [104,16] (fun s q_5 γ=>s.pc (mb 32 1048644) [104,16] [(20,Bo (bif q_5 then true else (!eqI ((y3.length:Int)) 3)))] []) fun q_5=>
 .cond (bif q_5 then true else (!eqI ((y3.length:Int)) 3)) (.n0 (bld pl42 bt42)<|
 .ret (((0,0,0),false)))<|.draw 10 []<|.op0 (zBD ct3 y3 0) fun e6=>.op0 (ldo ct3 y3 0) fun e7=>.op0 (zBD ct3 y3 1) fun e8=>.op0 (ldo ct3 y3 1) fun e9=>.op0 (zBD ct3 y3 2) fun e10=>.op0 (ldo ct3 y3 2) fun e11=>.n0 (bld pl42 bt42)<|
 .ret (((e7,e9,e11),true))
theorem zT4 {vs1:ByteArray} {r:(τF×Bool)} (h:zBa vs1=some r):zD Tryz.prog 91 [.c (.v (.string vs1))] (.tc (.ag [Ti r.1.1,Ti r.1.2.1,Ti r.1.2.2]) (.tc (Bo r.2) .tn)) []:=CtT (zTH vs1) (fun r=>(.tc (.ag [Ti r.1.1,Ti r.1.2.1,Ti r.1.2.2]) (.tc (Bo r.2) .tn),[])) (rs:=[.w 2 3,.t 3]) (vs:=[.cell 2 42,.tmp 3]) Tryz.func91 rfl rfl (.cons ⟨rfl,wd42⟩ (.cons rfl FitsL.nil)) h
def zUI (vs1:ByteArray):=fC zSJ (zBa vs1) fun _=>zT4
theorem zRx:CfW Tryz.prog 65:=cfW Tryz.func65
noncomputable def zSv (t1:ByteArray):T Tryz.prog ((ByteArray×((List ByteArray)×τF×Int)×Bool)):=
 .op1 (zG9 t1 32) fun y2=>
 .op0 (zBD ct9 y2 0) fun e3=>.op0 (ldo ct9 y2 0) fun e4=>.op1 (zSc e4) fun y5=>
 .dn<|.joinC (.selB (!y5.2) false [.z (lenM ct9 y2)] fun w_52=>.ret w_52) (mb 89 536871400) [48,96,24] (fun s q_105 γ=>s.pc (mb 89 536871400) [48,96,24] [(29,Bo (bif q_105 then true else (!eqI ((y2.length:Int)) (w64 (((y5.1.size:Int))+1)))))] []) fun q_105=>
 .lt (bif q_105 then true else (!eqI ((y2.length:Int)) (w64 (((y5.1.size:Int))+1)))) fun t7=>.cond t7 (.draw 2 []<|
 .late (zVx 24 0)<|.ret (((⟨#[]⟩:ByteArray),(([]:List ByteArray),(0,0,0),0),false)))<|
 .hint (nilH 90000 9 1)<|.loop (fun n X_104=>qZ y2 y5 n X_104.1 X_104.2.1 X_104.2.2.1 X_104.2.2.2.1 X_104.2.2.2.2.1 X_104.2.2.2.2.2.1 X_104.2.2.2.2.2.2) ((y5.2,0,([]:List ByteArray),0,0,0,0)) (mb 89 1000) [90000,48,96,24] (fun s X_104 γ=>s.pc (mb 89 1000) [90000,48,96,24] [(8,Bo X_104.1),(9,I X_104.2.1)] [(90000,.qarr (γ 90000) 9 1 (X_104.2.2.1.map c9)),(48,.box [.v (zE (γ 90000)),Ti X_104.2.2.2.1,Ti X_104.2.2.2.2.1,Ti X_104.2.2.2.2.2.1,Ti X_104.2.2.2.2.2.2])]) (fun X_104=>
 .cond (ltI X_104.2.1 ((y5.1.size:Int))) (.op0 (zBD ct9 y2 (w64 (X_104.2.1+1))) fun e19=>.op0 (ldo ct9 y2 (w64 (X_104.2.1+1))) fun e20=>.op1 (zPq e20) fun y21=>
 .op0 (idxs y5.1 X_104.2.1) fun e22=>
 .cond (eqI e22 108) (.draw 8 []<|.op0 (zBD ct9 y2 (w64 (X_104.2.1+1))) fun e24=>.op0 (ldo ct9 y2 (w64 (X_104.2.1+1))) fun e25=>.n1 bsl<|.late (zNG 59 90000)<|.opx (app ct9 X_104.2.2.1 ([e25])) fun u26=>.late (pinH 66 90000)<|
 .joinC (.selB X_104.1 true [] fun w_98=>.ret w_98) (mb 89 1000) [90000,48,96,24] (fun s q_99 γ=>s.pc (mb 89 1000) [90000,48,96,24] [(8,Bo (bif q_99 then y21 else false))] [(90000,.qarr (γ 90000) 9 1 ((X_104.2.2.1++([e25])).map c9)),(48,.box [.v (zE (γ 90000)),Ti X_104.2.2.2.1,Ti X_104.2.2.2.2.1,Ti X_104.2.2.2.2.2.1,Ti X_104.2.2.2.2.2.2])]) fun q_99=>
 .frc (w64 (X_104.2.1+1)) fun i28=>.ret (.inl ((bif q_99 then y21 else false,i28,X_104.2.2.1++([e25]),X_104.2.2.2.1,X_104.2.2.2.2.1,X_104.2.2.2.2.2.1,X_104.2.2.2.2.2.2))))<|
 .cond (eqI e22 102) (.op0 (zBD ct9 y2 (w64 (X_104.2.1+1))) fun e30=>.op0 (ldo ct9 y2 (w64 (X_104.2.1+1))) fun e31=>.op1 (zUI e31) fun y32=>
 .joinC (.selB X_104.1 true [] fun w_100=>.ret w_100) (mb 89 1000) [90000,48,96,24] (fun s q_101 γ=>s.pc (mb 89 1000) [90000,48,96,24] [(8,Bo (bif q_101 then y32.2 else false))] [(90000,.qarr (γ 90000) 9 1 (X_104.2.2.1.map c9)),(48,.box [.v (zE (γ 90000)),Ti y32.1.1,Ti y32.1.2.1,Ti y32.1.2.2,Ti X_104.2.2.2.2.2.2])]) fun q_101=>
 .frc (w64 (X_104.2.1+1)) fun i34=>.ret (.inl ((bif q_101 then y32.2 else false,i34,X_104.2.2.1,y32.1.1,y32.1.2.1,y32.1.2.2,X_104.2.2.2.2.2.2))))<|.op0 (zBD ct9 y2 (w64 (X_104.2.1+1))) fun e35=>.op0 (ldo ct9 y2 (w64 (X_104.2.1+1))) fun e36=>.op1 (zMq e36) fun y37=>
 .joinC (.selB X_104.1 true [] fun w_102=>.ret w_102) (mb 89 1000) [90000,48,96,24] (fun s q_103 γ=>s.pc (mb 89 1000) [90000,48,96,24] [(8,Bo (bif q_103 then y37.2 else false))] [(90000,.qarr (γ 90000) 9 1 (X_104.2.2.1.map c9)),(48,.box [.v (zE (γ 90000)),Ti X_104.2.2.2.1,Ti X_104.2.2.2.2.1,Ti X_104.2.2.2.2.2.1,Ti y37.1])]) fun q_103=>
 .frc (w64 (X_104.2.1+1)) fun i39=>.ret (.inl ((bif q_103 then y37.2 else false,i39,X_104.2.2.1,X_104.2.2.2.1,X_104.2.2.2.2.1,X_104.2.2.2.2.2.1,y37.1))))<|.ret (.inr ((X_104.1,X_104.2.2.1,X_104.2.2.2.1,X_104.2.2.2.2.1,X_104.2.2.2.2.2.1,X_104.2.2.2.2.2.2)))) (mb 89 360) [90000,48,96,24] (fun s o17 γ=>s.pc (mb 89 360) [90000,48,96,24] [(8,Bo o17.1)] [(90000,.qarr (γ 90000) 9 1 (o17.2.1.map c9)),(48,.box [.v (zE (γ 90000)),Ti o17.2.2.1,Ti o17.2.2.2.1,Ti o17.2.2.2.2.1,Ti o17.2.2.2.2.2])]) fun o17=>
 .hint (z0U 90000 48 0)<|.draw 7 [(6,24)]<|.op0 (zBD ct9 y2 0) fun e40=>.op0 (ldo ct9 y2 0) fun e41=>
 .ret ((e41,(o17.2.1,(o17.2.2.1,o17.2.2.2.1,o17.2.2.2.2.1),o17.2.2.2.2.2),o17.1))
theorem zTS {t1:ByteArray} {r:(ByteArray×((List ByteArray)×τF×Int)×Bool)} (h:qF t1=some r):zD Tryz.prog 65 [.c (.v (.string t1))] (.tc (.c (.v (.string r.1))) (.tc (.ag [.sl (r.2.1.1.map c9),Ti r.2.1.2.1.1,Ti r.2.1.2.1.2.1,Ti r.2.1.2.1.2.2,Ti r.2.1.2.2]) (.tc (Bo r.2.2) .tn))) []:=CtT (zSv t1) (fun r=>(.tc (.c (.v (.string r.1))) (.tc (.ag [.sl (r.2.1.1.map c9),Ti r.2.1.2.1.1,Ti r.2.1.2.1.2.1,Ti r.2.1.2.1.2.2,Ti r.2.1.2.2]) (.tc (Bo r.2.2) .tn)),[])) (rs:=[.t 2,.w 3 5,.t 4]) (vs:=[.tmp 2,.cell 3 98,.tmp 4]) Tryz.func65 rfl rfl (.cons rfl (.cons ⟨rfl,wd98⟩ (.cons rfl FitsL.nil))) h
def zUC (t1:ByteArray):=fC zRx (qF t1) fun _=>zTS
theorem zTo:CfW Tryz.prog 94:=cfW Tryz.func94
noncomputable def zVH (a1:Int) (vm2:Int):T Tryz.prog Int:=
 .op0 (remF .i64 a1 vm2) fun z3=>
 .frc (Int.tmod a1 vm2) fun vr4=>
 .cond (ltI vr4 0) (
 .frc (w64 (vr4+vm2)) fun vr6=>
 .ret vr6)<|
 .ret vr4
theorem zV5 {a1:Int} {vm2:Int} {r:Int} (h:jI a1 vm2=some r):zD Tryz.prog 94 [I a1,I vm2] (I r) []:=CtU (zVH a1 vm2) 4 (fun r=>I r) Tryz.func94 rfl rfl h
def zAq (a1:Int) (vm2:Int):=fC zTo (jI a1 vm2) fun _=>zV5
theorem zSA:CfW Tryz.prog 66:=cfW Tryz.func66
noncomputable def zSy (d1:Int):T Tryz.prog Bool:=
 .pl<|.joinC (.op1 (zE6 d1 (-2000) (-3)) fun y2=>.seqT (.cond y2 (.op1 (zAq d1 4) fun y4=>.ret (ltI y4 2)) (.ret false)) fun b5=>.ret (y2,b5)) (mb 10 4) [] (fun s q_1 γ=>s.pc (mb 10 4) [] [(2,Bo q_1.2)] []) fun q_1=>
 .ret q_1.2
theorem zTV {d1:Int} {r:Bool} (h:zCE d1=some r):zD Tryz.prog 66 [I d1] (Bo r) []:=CtU (zSy d1) 2 (fun r=>Bo r) Tryz.func66 rfl rfl h
def zKV (d1:Int):=fC zSA (zCE d1) fun _=>zTV
theorem zLD:CfW Tryz.prog 67:=cfW Tryz.func67
noncomputable def zL9 (x1:(τS×(List τS))) (vs2:τS):T Tryz.prog ((ByteArray×(τS×(List τS)))):=
 .pl<|.joinC (.drawM false 11 [1,2,3,6,7,14,15,30,31,32,33,34,35,38,39,46,47,62,63,96,97,98,99,102,103,110,111,126,127,224,225,226,227,230,231,238,239,254,255,480,481,482,483,486,487,494,495,510,511,992,993,994,995,998,999,1006,1007,1022,1023,2046,2047] [1,1,0,1,1,1,0,1,1,0,0,0,1,2]<|.n0 au<|.n0 au<|.n1 bsl<|.late (zNG 9 90003)<|.opx (app ct53 x1.2 ([x1.1])) fun u3=>.n0 au<|.late (pinH 15 90003)<|.ret u3) (mb 22 9) [24,80000,90003] (fun s q_1 γ=>s.pc (mb 22 9) [24,80000,90003] [] [(80000,s.pbx 80000 [Ti x1.1.1,.v (.string x1.1.2.1),.sl (x1.1.2.2.map c42),.v (zE (γ 90003))]),(90003,.qarr (γ 90003) 53 3 ((x1.2++([x1.1])).map c53))]) fun q_1=>
 .n0 au<|
 .ret (((⟨#[111,107]⟩:ByteArray),(vs2,x1.2++([x1.1]))))
theorem zLv {x1:(τS×(List τS))} {vs2:τS} {r:(ByteArray×(τS×(List τS)))} (h:jG x1 vs2=some r):zJP Tryz.prog 67 [.pt 80000 0,.ag [Ti vs2.1,.v (.string vs2.2.1),.sl (vs2.2.2.map c42)]] 90003 53 3 (fun l=>[(80000,.box [Ti x1.1.1,.v (.string x1.1.2.1),.sl (x1.1.2.2.map c42),.v (zE (l))])]) (x1.2.map c53) (.v (.string r.1)) (fun l=>[(80000,.box [Ti r.2.1.1,.v (.string r.2.1.2.1),.sl (r.2.1.2.2.map c42),.v (zE (l))])]) (r.2.2.map c53):=CqT (zL9 x1 vs2) 90003 53 3 (fun r=>.v (.string r.1)) (fun r l=>[(80000,.box [Ti r.2.1.1,.v (.string r.2.1.2.1),.sl (r.2.1.2.2.map c42),.v (zE (l))])]) (fun r=>r.2.2.map c53) (rs:=.t 4) (vs:=.tmp 4) Tryz.func67 rfl rfl (.cons rfl FitsL.nil) h
def zDX (x1:(τS×(List τS))) (vs2:τS):=fQ zLD (jG x1 vs2) 80000 4 90003 53 3 (fun _ _ h=>zLv h)
theorem zSE:CfW Tryz.prog 133:=cfW Tryz.func133
noncomputable def zTC (vn1:Int):T Tryz.prog Bool:=
 .op1 (zE6 vn1 (-1000000) 1000000) fun y2=>
 .ret y2
theorem zTZ {vn1:Int} {r:Bool} (h:zAe vn1=some r):zD Tryz.prog 133 [I vn1] (Bo r) []:=CtU (zTC vn1) 2 (fun r=>Bo r) Tryz.func133 rfl rfl h
def zCi (vn1:Int):=fC zSE (zAe vn1) fun _=>zTZ
theorem zSL:CfW Tryz.prog 85:=cfW Tryz.func85
noncomputable def zTJ (f1:τF):T Tryz.prog Bool:=
 .pl<|.joinC (.op1 (zCi f1.1) fun y2=>.seqT (.cond y2 (.op1 (zCi f1.2.1) fun y4=>.ret y4) (.ret false)) fun b5=>.seqT (.cond b5 (.op1 (zCi f1.2.2) fun y7=>.ret y7) (.ret false)) fun b8=>.ret (y2,b5,b8)) (mb 16 4) [] (fun s q_1 γ=>s.pc (mb 16 4) [] [(2,Bo q_1.2.2)] []) fun q_1=>
 .ret q_1.2.2
theorem zT6 {f1:τF} {r:Bool} (h:zEG f1=some r):zD Tryz.prog 85 [.ag [Ti f1.1,Ti f1.2.1,Ti f1.2.2]] (Bo r) []:=CtU (zTJ f1) 2 (fun r=>Bo r) Tryz.func85 rfl rfl h
def zUK (f1:τF):=fC zSL (zEG f1) fun _=>zT6
theorem zSM:CfW Tryz.prog 69:=cfW Tryz.func69
noncomputable def zTK (f1:τF):T Tryz.prog Int:=
 .frc (w64 ((w64 (f1.2.1*f1.2.1)) - (w64 ((w64 (4*f1.1))*f1.2.2)))) fun t2=>.ret t2
theorem zT7 {f1:τF} {r:Int} (h:qO f1=some r):zD Tryz.prog 69 [.ag [Ti f1.1,Ti f1.2.1,Ti f1.2.2]] (I r) []:=CtU (zTK f1) 2 (fun r=>I r) Tryz.func69 rfl rfl h
def zAm (f1:τF):=fC zSM (qO f1) fun _=>zT7
theorem zLG:CfW Tryz.prog 139:=cfW Tryz.func139
noncomputable def zLc (f1:τF):T Tryz.prog Bool:=
 .pl<|.joinC (.op1 (zUK f1) fun y2=>.seqT (.cond y2 (.op1 (zAm f1) fun y4=>.ret (ltI y4 0)) (.ret false)) fun b5=>.selB b5 true [] fun w_2=>.ret (y2,b5,w_2)) (mb 15 4) [] (fun s q_3 γ=>s.pc (mb 15 4) [] [(2,Bo (bif q_3.2.2 then (ltI 0 f1.1) else false))] []) fun q_3=>
 .ret (bif q_3.2.2 then (ltI 0 f1.1) else false)
theorem zLy {f1:τF} {r:Bool} (h:zAG f1=some r):zD Tryz.prog 139 [.ag [Ti f1.1,Ti f1.2.1,Ti f1.2.2]] (Bo r) []:=CtU (zLc f1) 2 (fun r=>Bo r) Tryz.func139 rfl rfl h
def zCb (f1:τF):=fC zLG (zAG f1) fun _=>zLy
theorem zRw:CfW Tryz.prog 95:=cfW Tryz.func95
noncomputable def zSu (f1:τF):T Tryz.prog Bool:=
 .pl<|.joinC (.op1 (zCb f1) fun y2=>.seqT (.cond y2 (.op1 (zAm f1) fun y4=>.ret (leI (-2000) y4)) (.ret false)) fun b5=>.ret (y2,b5)) (mb 10 4) [] (fun s q_1 γ=>s.pc (mb 10 4) [] [(2,Bo q_1.2)] []) fun q_1=>
 .ret q_1.2
theorem zTR {f1:τF} {r:Bool} (h:zCd f1=some r):zD Tryz.prog 95 [.ag [Ti f1.1,Ti f1.2.1,Ti f1.2.2]] (Bo r) []:=CtU (zSu f1) 2 (fun r=>Bo r) Tryz.func95 rfl rfl h
def zKU (f1:τF):=fC zRw (zCd f1) fun _=>zTR
theorem zSG:CfW Tryz.prog 215:=cfW Tryz.func215
noncomputable def zTE (a1:Int) (b2:Int):T Tryz.prog Int:=
 .cond (ltI b2 a1) (
 .ret a1)<|
 .ret b2
theorem zT1 {a1:Int} {b2:Int} {r:Int} (h:zCe a1 b2=some r):zD Tryz.prog 215 [I a1,I b2] (I r) []:=CtU (zTE a1 b2) 4 (fun r=>I r) Tryz.func215 rfl rfl h
def zKW (a1:Int) (b2:Int):=fC zSG (zCe a1 b2) fun _=>zT1
theorem zTs:CfW Tryz.prog 178:=cfW Tryz.func178
noncomputable def zVL (vn1:Int):T Tryz.prog Int:=
 .op1 (zKW vn1 (w64 (0 - vn1))) fun y2=>
 .ret y2
theorem zVa {vn1:Int} {r:Int} (h:zCw vn1=some r):zD Tryz.prog 178 [I vn1] (I r) []:=CtU (zVL vn1) 2 (fun r=>I r) Tryz.func178 rfl rfl h
def zIC (vn1:Int):=fC zTs (zCw vn1) fun _=>zVa
theorem zTp:CfW Tryz.prog 140:=cfW Tryz.func140
noncomputable def zVI (a1:Int) (b2:Int):T Tryz.prog Int:=
 .op1 (zIC a1) fun y3=>.op1 (zIC b2) fun y4=>
 .loop (fun n X_1=>zAn n X_1.1 X_1.2) ((y3,y4)) (mb 16 3) [] (fun s X_1 γ=>s.pc (mb 16 3) [] [(0,I X_1.1),(1,I X_1.2)] []) (fun X_1=>
 .cond (!eqI X_1.2 0) (.draw 6 []<|.op0 (remF .i64 X_1.1 X_1.2) fun z10=>
 .frc (Int.tmod X_1.1 X_1.2) fun b11=>.ret (.inl ((X_1.2,b11))))<|.ret (.inr X_1.1)) (mb 16 1) [] (fun s o8 γ=>s.pc (mb 16 1) [] [(0,I o8)] []) fun o8=>
 .ret o8
theorem zV6 {a1:Int} {b2:Int} {r:Int} (h:zAZ a1 b2=some r):zD Tryz.prog 140 [I a1,I b2] (I r) []:=CtU (zVI a1 b2) 4 (fun r=>I r) Tryz.func140 rfl rfl h
def zDG (a1:Int) (b2:Int):=fC zTp (zAZ a1 b2) fun _=>zV6
theorem zM7:CfW Tryz.prog 96:=cfW Tryz.func96
noncomputable def zNL (f1:τF):T Tryz.prog Int:=
 .draw 9 []<|.op1 (zDG f1.1 f1.2.1) fun y2=>.op1 (zDG y2 f1.2.2) fun y3=>
 .ret y3
theorem zN3 {f1:τF} {r:Int} (h:jO f1=some r):zD Tryz.prog 96 [.ag [Ti f1.1,Ti f1.2.1,Ti f1.2.2]] (I r) []:=CtU (zNL f1) 2 (fun r=>I r) Tryz.func96 rfl rfl h
def zFP (f1:τF):=fC zM7 (jO f1) fun _=>zN3
theorem zSN:CfW Tryz.prog 68:=cfW Tryz.func68
noncomputable def zTL (f1:τF):T Tryz.prog Bool:=
 .pl<|.joinC (.op1 (zKU f1) fun y2=>.seqT (.cond y2 (.op1 (zFP f1) fun y4=>.ret (eqI y4 1)) (.ret false)) fun b5=>.ret (y2,b5)) (mb 10 4) [] (fun s q_1 γ=>s.pc (mb 10 4) [] [(2,Bo q_1.2)] []) fun q_1=>
 .ret q_1.2
theorem zT8 {f1:τF} {r:Bool} (h:zDP f1=some r):zD Tryz.prog 68 [.ag [Ti f1.1,Ti f1.2.1,Ti f1.2.2]] (Bo r) []:=CtU (zTL f1) 2 (fun r=>Bo r) Tryz.func68 rfl rfl h
def zUL (f1:τF):=fC zSN (zDP f1) fun _=>zT8
theorem zW7:∀args w,(callFunc 141 args).run Tryz.prog w=.ok (.enter 141 args) w:=qN Tryz.func141 kk kk
set_option maxRecDepth 100000 in
set_option maxHeartbeats 400000 in
theorem zX3 {f1:τF} {r:Bool} (h:zC4 f1=some r):zD Tryz.prog 141 [.ag [Ti f1.1,Ti f1.2.1,Ti f1.2.2]] (Bo r) []:=by
  refine zAW (rs:=[.t 2]) (vs:=[.tmp 2]) Tryz.func141 rfl rfl (.cons rfl FitsL.nil) (by decide) 35 rfl ?_
  unfold zC4 at h;show V _ _ ⟨.ag [Ti f1.1,Ti f1.2.1,Ti f1.2.2]::bt 34 [],[]⟩ _;refine jB (mb 35 2) [8] (s1:=⟨.bot::.pt 8 0::bt 33 [],[(8,.box [Ti f1.1,Ti f1.2.1,Ti f1.2.2])]⟩) ?_ ?_
  ·refine L1 rfl rfl (zSZ (cs:=[Ti f1.1,Ti f1.2.1,Ti f1.2.2]) rfl kk) ?_
   refine L0 rfl rfl (zF (Bo false) rfl kk) ?_
   refine zH ?_
   kernel_rfl
  obtain⟨t6,ht6,h⟩:=zP h;have ht6:=zV ht6;refine jB (mb 35 4) [] (s1:=⟨.bot::.bot::Bo t6::bt 32 [],[]⟩) ?_ ?_
  ·refine L0 rfl rfl (zAL (.pt 8 0) Tryz.underlying42 rfl sz3 rfl kk (by intro hh;cases hh)) ?_
   refine L0 rfl rfl (jR (c:=Ti f1.1) (cs:=[Ti f1.2.1,Ti f1.2.2]) sc3 rfl kk) ?_
   refine L0 rfl rfl (zS1 (a:=f1.1) rfl kk) ?_
   refine L0 rfl rfl (zAL (.pt 8 1) Tryz.underlying42 rfl sz3 rfl kk (by intro hh;cases hh)) ?_
   refine L0 rfl rfl (jR (c:=Ti f1.2.1) (cs:=[Ti f1.2.2]) sc3 rfl kk) ?_
   refine L0 rfl rfl (zG4 (k:=.i64) (a:=w64 (0 - f1.1)) (b:=f1.2.1) rfl kk kk) ?_
   refine L0 rfl rfl (zJ (Bo (ltI (w64 (0 - f1.1)) f1.2.1)) rfl kk) ?_
   refine zBG (ltI (w64 (0 - f1.1)) f1.2.1) (fun hc2=>?_) (fun hc2=>?_)
   ·refine zC _ rfl rfl kk hc2 (zB rfl (zAL (.pt 8 1) Tryz.underlying42 rfl sz3 rfl kk (by intro hh;cases hh))) ?_
    refine zC _ rfl rfl kk hc2 (zB rfl (jR (c:=Ti f1.2.1) (cs:=[Ti f1.2.2]) sc3 rfl kk)) ?_
    refine zC _ rfl rfl kk hc2 (zB rfl (zAL (.pt 8 0) Tryz.underlying42 rfl sz3 rfl kk (by intro hh;cases hh))) ?_
    refine zC _ rfl rfl kk hc2 (zB rfl (jR (c:=Ti f1.1) (cs:=[Ti f1.2.1,Ti f1.2.2]) sc3 rfl kk)) ?_
    refine zC _ rfl rfl kk hc2 (zB rfl (zZ5 (k:=.i64) (a:=f1.2.1) (b:=f1.1) rfl kk kk)) ?_
    refine zR rfl (zB rfl (zA3 (b:=ltI (w64 (0 - f1.1)) f1.2.1) (p:=leI f1.2.1 f1.1) (q:=false) rfl kk hc2 kk)) ?_
    refine L0 rfl rfl (zJ (Bo (bif (ltI (w64 (0 - f1.1)) f1.2.1) then (leI f1.2.1 f1.1) else false)) rfl kk) ?_
    refine zBG (bif (ltI (w64 (0 - f1.1)) f1.2.1) then (leI f1.2.1 f1.1) else false) (fun hc3=>?_) (fun hc3=>?_)
    ·refine zC _ rfl rfl kk hc3 (zB rfl (zAL (.pt 8 0) Tryz.underlying42 rfl sz3 rfl kk (by intro hh;cases hh))) ?_
     refine zC _ rfl rfl kk hc3 (zB rfl (jR (c:=Ti f1.1) (cs:=[Ti f1.2.1,Ti f1.2.2]) sc3 rfl kk)) ?_
     refine zC _ rfl rfl kk hc3 (zB rfl (zAL (.pt 8 2) Tryz.underlying42 rfl sz3 rfl kk (by intro hh;cases hh))) ?_
     refine zC _ rfl rfl kk hc3 (zB rfl (jR (c:=Ti f1.2.2) (cs:=[]) sc3 rfl kk)) ?_
     refine zC _ rfl rfl kk hc3 (zB rfl (zG4 (k:=.i64) (a:=f1.1) (b:=f1.2.2) rfl kk kk)) ?_
     refine zC _ rfl rfl kk hc3 (zB rfl (zJ (Bo (ltI f1.1 f1.2.2)) rfl kk)) ?_
     refine zBG (ltI f1.1 f1.2.2) (fun hc4=>?_) (fun hc4=>?_)
     ·refine qM _ rfl rfl kk hc4 rfl ?_
      refine qM _ rfl rfl kk hc4 rfl ?_
      refine qM _ rfl rfl kk hc4 rfl ?_
      refine qM _ rfl rfl kk hc4 rfl ?_
      refine qM _ rfl rfl kk hc4 rfl ?_
      refine qM _ rfl rfl kk hc4 rfl ?_
      refine qE rfl rfl kk rfl ?_
      refine qE rfl rfl kk rfl ?_
      refine qE rfl rfl kk rfl ?_
      refine qM _ rfl rfl kk hc4 rfl ?_
      refine zC _ rfl rfl kk hc3 (zB rfl (zA3 (b:=ltI f1.1 f1.2.2) (p:=true) (q:=bif (eqI f1.1 f1.2.2) then (leI 0 f1.2.1) else false) rfl kk hc4 kk)) ?_
      refine zR rfl (zB rfl (zA3 (b:=bif (ltI (w64 (0 - f1.1)) f1.2.1) then (leI f1.2.1 f1.1) else false) (p:=bif (ltI f1.1 f1.2.2) then true else (bif (eqI f1.1 f1.2.2) then (leI 0 f1.2.1) else false)) (q:=false) rfl kk hc3 kk)) ?_
      refine L0 rfl rfl (zF (Bo (bif (bif (ltI (w64 (0 - f1.1)) f1.2.1) then (leI f1.2.1 f1.1) else false) then (bif (ltI f1.1 f1.2.2) then true else (bif (eqI f1.1 f1.2.2) then (leI 0 f1.2.1) else false)) else false)) rfl kk) ?_
      refine zH ?_
      subst ht6
      kernel_rfl
     ·refine zC _ rfl rfl kk hc4 (zB rfl (zAL (.pt 8 0) Tryz.underlying42 rfl sz3 rfl kk (by intro hh;cases hh))) ?_
      refine zC _ rfl rfl kk hc4 (zB rfl (jR (c:=Ti f1.1) (cs:=[Ti f1.2.1,Ti f1.2.2]) sc3 rfl kk)) ?_
      refine zC _ rfl rfl kk hc4 (zB rfl (zAL (.pt 8 2) Tryz.underlying42 rfl sz3 rfl kk (by intro hh;cases hh))) ?_
      refine zC _ rfl rfl kk hc4 (zB rfl (jR (c:=Ti f1.2.2) (cs:=[]) sc3 rfl kk)) ?_
      refine zC _ rfl rfl kk hc4 (zB rfl (zIB (k:=.i64) (a:=f1.1) (b:=f1.2.2) rfl kk kk)) ?_
      refine zC _ rfl rfl kk hc4 (zB rfl (zJ (Bo (eqI f1.1 f1.2.2)) rfl kk)) ?_
      refine zBG (eqI f1.1 f1.2.2) (fun hc5=>?_) (fun hc5=>?_)
      ·refine zC _ rfl rfl kk hc5 (zB rfl (zAL (.pt 8 1) Tryz.underlying42 rfl sz3 rfl kk (by intro hh;cases hh))) ?_
       refine zC _ rfl rfl kk hc5 (zB rfl (jR (c:=Ti f1.2.1) (cs:=[Ti f1.2.2]) sc3 rfl kk)) ?_
       refine zC _ rfl rfl kk hc5 (zB rfl (zS3 (k:=.i64) (a:=f1.2.1) (b:=0) rfl kk kk)) ?_
       refine zC _ rfl rfl kk hc4 (zB rfl (zA3 (b:=eqI f1.1 f1.2.2) (p:=leI 0 f1.2.1) (q:=false) rfl kk hc5 kk)) ?_
       refine zC _ rfl rfl kk hc3 (zB rfl (zBF (b:=ltI f1.1 f1.2.2) (p:=true) (q:=bif (eqI f1.1 f1.2.2) then (leI 0 f1.2.1) else false) rfl kk hc4 kk)) ?_
       refine zR rfl (zB rfl (zA3 (b:=bif (ltI (w64 (0 - f1.1)) f1.2.1) then (leI f1.2.1 f1.1) else false) (p:=bif (ltI f1.1 f1.2.2) then true else (bif (eqI f1.1 f1.2.2) then (leI 0 f1.2.1) else false)) (q:=false) rfl kk hc3 kk)) ?_
       refine L0 rfl rfl (zF (Bo (bif (bif (ltI (w64 (0 - f1.1)) f1.2.1) then (leI f1.2.1 f1.1) else false) then (bif (ltI f1.1 f1.2.2) then true else (bif (eqI f1.1 f1.2.2) then (leI 0 f1.2.1) else false)) else false)) rfl kk) ?_
       refine zH ?_
       subst ht6
       kernel_rfl
      ·refine zU _ rfl rfl kk hc5 rfl ?_
       refine zU _ rfl rfl kk hc5 rfl ?_
       refine zU _ rfl rfl kk hc5 rfl ?_
       refine zC _ rfl rfl kk hc4 (zB rfl (zBF (b:=eqI f1.1 f1.2.2) (p:=leI 0 f1.2.1) (q:=false) rfl kk hc5 kk)) ?_
       refine zC _ rfl rfl kk hc3 (zB rfl (zBF (b:=ltI f1.1 f1.2.2) (p:=true) (q:=bif (eqI f1.1 f1.2.2) then (leI 0 f1.2.1) else false) rfl kk hc4 kk)) ?_
       refine zR rfl (zB rfl (zA3 (b:=bif (ltI (w64 (0 - f1.1)) f1.2.1) then (leI f1.2.1 f1.1) else false) (p:=bif (ltI f1.1 f1.2.2) then true else (bif (eqI f1.1 f1.2.2) then (leI 0 f1.2.1) else false)) (q:=false) rfl kk hc3 kk)) ?_
       refine L0 rfl rfl (zF (Bo (bif (bif (ltI (w64 (0 - f1.1)) f1.2.1) then (leI f1.2.1 f1.1) else false) then (bif (ltI f1.1 f1.2.2) then true else (bif (eqI f1.1 f1.2.2) then (leI 0 f1.2.1) else false)) else false)) rfl kk) ?_
       refine zH ?_
       subst ht6
       kernel_rfl
    ·refine zU _ rfl rfl kk hc3 rfl ?_
     refine zU _ rfl rfl kk hc3 rfl ?_
     refine zU _ rfl rfl kk hc3 rfl ?_
     refine zU _ rfl rfl kk hc3 rfl ?_
     refine zU _ rfl rfl kk hc3 rfl ?_
     refine zU _ rfl rfl kk hc3 rfl ?_
     refine qE rfl rfl kk rfl ?_
     refine qE rfl rfl kk rfl ?_
     refine qE rfl rfl kk rfl ?_
     refine qE rfl rfl kk rfl ?_
     refine qE rfl rfl kk rfl ?_
     refine qE rfl rfl kk rfl ?_
     refine qE rfl rfl kk rfl ?_
     refine qE rfl rfl kk rfl ?_
     refine qE rfl rfl kk rfl ?_
     refine qE rfl rfl kk rfl ?_
     refine zU _ rfl rfl kk hc3 rfl ?_
     refine zR rfl (zB rfl (zBF (b:=bif (ltI (w64 (0 - f1.1)) f1.2.1) then (leI f1.2.1 f1.1) else false) (p:=bif (ltI f1.1 f1.2.2) then true else (bif (eqI f1.1 f1.2.2) then (leI 0 f1.2.1) else false)) (q:=false) rfl kk hc3 kk)) ?_
     refine L0 rfl rfl (zF (Bo (bif (bif (ltI (w64 (0 - f1.1)) f1.2.1) then (leI f1.2.1 f1.1) else false) then (bif (ltI f1.1 f1.2.2) then true else (bif (eqI f1.1 f1.2.2) then (leI 0 f1.2.1) else false)) else false)) rfl kk) ?_
     refine zH ?_
     subst ht6
     kernel_rfl
   ·refine zU _ rfl rfl kk hc2 rfl ?_
    refine zU _ rfl rfl kk hc2 rfl ?_
    refine zU _ rfl rfl kk hc2 rfl ?_
    refine zU _ rfl rfl kk hc2 rfl ?_
    refine zU _ rfl rfl kk hc2 rfl ?_
    refine zR rfl (zB rfl (zBF (b:=ltI (w64 (0 - f1.1)) f1.2.1) (p:=leI f1.2.1 f1.1) (q:=false) rfl kk hc2 kk)) ?_
    refine L0 rfl rfl (zJ (Bo (bif (ltI (w64 (0 - f1.1)) f1.2.1) then (leI f1.2.1 f1.1) else false)) rfl kk) ?_
    refine zBG (bif (ltI (w64 (0 - f1.1)) f1.2.1) then (leI f1.2.1 f1.1) else false) (fun hc3=>?_) (fun hc3=>?_)
    ·refine zC _ rfl rfl kk hc3 (zB rfl (zAL (.pt 8 0) Tryz.underlying42 rfl sz3 rfl kk (by intro hh;cases hh))) ?_
     refine zC _ rfl rfl kk hc3 (zB rfl (jR (c:=Ti f1.1) (cs:=[Ti f1.2.1,Ti f1.2.2]) sc3 rfl kk)) ?_
     refine zC _ rfl rfl kk hc3 (zB rfl (zAL (.pt 8 2) Tryz.underlying42 rfl sz3 rfl kk (by intro hh;cases hh))) ?_
     refine zC _ rfl rfl kk hc3 (zB rfl (jR (c:=Ti f1.2.2) (cs:=[]) sc3 rfl kk)) ?_
     refine zC _ rfl rfl kk hc3 (zB rfl (zG4 (k:=.i64) (a:=f1.1) (b:=f1.2.2) rfl kk kk)) ?_
     refine zC _ rfl rfl kk hc3 (zB rfl (zJ (Bo (ltI f1.1 f1.2.2)) rfl kk)) ?_
     refine zBG (ltI f1.1 f1.2.2) (fun hc4=>?_) (fun hc4=>?_)
     ·refine qM _ rfl rfl kk hc4 rfl ?_
      refine qM _ rfl rfl kk hc4 rfl ?_
      refine qM _ rfl rfl kk hc4 rfl ?_
      refine qM _ rfl rfl kk hc4 rfl ?_
      refine qM _ rfl rfl kk hc4 rfl ?_
      refine qM _ rfl rfl kk hc4 rfl ?_
      refine qE rfl rfl kk rfl ?_
      refine qE rfl rfl kk rfl ?_
      refine qE rfl rfl kk rfl ?_
      refine qM _ rfl rfl kk hc4 rfl ?_
      refine zC _ rfl rfl kk hc3 (zB rfl (zA3 (b:=ltI f1.1 f1.2.2) (p:=true) (q:=bif (eqI f1.1 f1.2.2) then (leI 0 f1.2.1) else false) rfl kk hc4 kk)) ?_
      refine zR rfl (zB rfl (zA3 (b:=bif (ltI (w64 (0 - f1.1)) f1.2.1) then (leI f1.2.1 f1.1) else false) (p:=bif (ltI f1.1 f1.2.2) then true else (bif (eqI f1.1 f1.2.2) then (leI 0 f1.2.1) else false)) (q:=false) rfl kk hc3 kk)) ?_
      refine L0 rfl rfl (zF (Bo (bif (bif (ltI (w64 (0 - f1.1)) f1.2.1) then (leI f1.2.1 f1.1) else false) then (bif (ltI f1.1 f1.2.2) then true else (bif (eqI f1.1 f1.2.2) then (leI 0 f1.2.1) else false)) else false)) rfl kk) ?_
      refine zH ?_
      subst ht6
      kernel_rfl
     ·refine zC _ rfl rfl kk hc4 (zB rfl (zAL (.pt 8 0) Tryz.underlying42 rfl sz3 rfl kk (by intro hh;cases hh))) ?_
      refine zC _ rfl rfl kk hc4 (zB rfl (jR (c:=Ti f1.1) (cs:=[Ti f1.2.1,Ti f1.2.2]) sc3 rfl kk)) ?_
      refine zC _ rfl rfl kk hc4 (zB rfl (zAL (.pt 8 2) Tryz.underlying42 rfl sz3 rfl kk (by intro hh;cases hh))) ?_
      refine zC _ rfl rfl kk hc4 (zB rfl (jR (c:=Ti f1.2.2) (cs:=[]) sc3 rfl kk)) ?_
      refine zC _ rfl rfl kk hc4 (zB rfl (zIB (k:=.i64) (a:=f1.1) (b:=f1.2.2) rfl kk kk)) ?_
      refine zC _ rfl rfl kk hc4 (zB rfl (zJ (Bo (eqI f1.1 f1.2.2)) rfl kk)) ?_
      refine zBG (eqI f1.1 f1.2.2) (fun hc5=>?_) (fun hc5=>?_)
      ·refine zC _ rfl rfl kk hc5 (zB rfl (zAL (.pt 8 1) Tryz.underlying42 rfl sz3 rfl kk (by intro hh;cases hh))) ?_
       refine zC _ rfl rfl kk hc5 (zB rfl (jR (c:=Ti f1.2.1) (cs:=[Ti f1.2.2]) sc3 rfl kk)) ?_
       refine zC _ rfl rfl kk hc5 (zB rfl (zS3 (k:=.i64) (a:=f1.2.1) (b:=0) rfl kk kk)) ?_
       refine zC _ rfl rfl kk hc4 (zB rfl (zA3 (b:=eqI f1.1 f1.2.2) (p:=leI 0 f1.2.1) (q:=false) rfl kk hc5 kk)) ?_
       refine zC _ rfl rfl kk hc3 (zB rfl (zBF (b:=ltI f1.1 f1.2.2) (p:=true) (q:=bif (eqI f1.1 f1.2.2) then (leI 0 f1.2.1) else false) rfl kk hc4 kk)) ?_
       refine zR rfl (zB rfl (zA3 (b:=bif (ltI (w64 (0 - f1.1)) f1.2.1) then (leI f1.2.1 f1.1) else false) (p:=bif (ltI f1.1 f1.2.2) then true else (bif (eqI f1.1 f1.2.2) then (leI 0 f1.2.1) else false)) (q:=false) rfl kk hc3 kk)) ?_
       refine L0 rfl rfl (zF (Bo (bif (bif (ltI (w64 (0 - f1.1)) f1.2.1) then (leI f1.2.1 f1.1) else false) then (bif (ltI f1.1 f1.2.2) then true else (bif (eqI f1.1 f1.2.2) then (leI 0 f1.2.1) else false)) else false)) rfl kk) ?_
       refine zH ?_
       subst ht6
       kernel_rfl
      ·refine zU _ rfl rfl kk hc5 rfl ?_
       refine zU _ rfl rfl kk hc5 rfl ?_
       refine zU _ rfl rfl kk hc5 rfl ?_
       refine zC _ rfl rfl kk hc4 (zB rfl (zBF (b:=eqI f1.1 f1.2.2) (p:=leI 0 f1.2.1) (q:=false) rfl kk hc5 kk)) ?_
       refine zC _ rfl rfl kk hc3 (zB rfl (zBF (b:=ltI f1.1 f1.2.2) (p:=true) (q:=bif (eqI f1.1 f1.2.2) then (leI 0 f1.2.1) else false) rfl kk hc4 kk)) ?_
       refine zR rfl (zB rfl (zA3 (b:=bif (ltI (w64 (0 - f1.1)) f1.2.1) then (leI f1.2.1 f1.1) else false) (p:=bif (ltI f1.1 f1.2.2) then true else (bif (eqI f1.1 f1.2.2) then (leI 0 f1.2.1) else false)) (q:=false) rfl kk hc3 kk)) ?_
       refine L0 rfl rfl (zF (Bo (bif (bif (ltI (w64 (0 - f1.1)) f1.2.1) then (leI f1.2.1 f1.1) else false) then (bif (ltI f1.1 f1.2.2) then true else (bif (eqI f1.1 f1.2.2) then (leI 0 f1.2.1) else false)) else false)) rfl kk) ?_
       refine zH ?_
       subst ht6
       kernel_rfl
    ·refine zU _ rfl rfl kk hc3 rfl ?_
     refine zU _ rfl rfl kk hc3 rfl ?_
     refine zU _ rfl rfl kk hc3 rfl ?_
     refine zU _ rfl rfl kk hc3 rfl ?_
     refine zU _ rfl rfl kk hc3 rfl ?_
     refine zU _ rfl rfl kk hc3 rfl ?_
     refine qE rfl rfl kk rfl ?_
     refine qE rfl rfl kk rfl ?_
     refine qE rfl rfl kk rfl ?_
     refine qE rfl rfl kk rfl ?_
     refine qE rfl rfl kk rfl ?_
     refine qE rfl rfl kk rfl ?_
     refine qE rfl rfl kk rfl ?_
     refine qE rfl rfl kk rfl ?_
     refine qE rfl rfl kk rfl ?_
     refine qE rfl rfl kk rfl ?_
     refine zU _ rfl rfl kk hc3 rfl ?_
     refine zR rfl (zB rfl (zBF (b:=bif (ltI (w64 (0 - f1.1)) f1.2.1) then (leI f1.2.1 f1.1) else false) (p:=bif (ltI f1.1 f1.2.2) then true else (bif (eqI f1.1 f1.2.2) then (leI 0 f1.2.1) else false)) (q:=false) rfl kk hc3 kk)) ?_
     refine L0 rfl rfl (zF (Bo (bif (bif (ltI (w64 (0 - f1.1)) f1.2.1) then (leI f1.2.1 f1.1) else false) then (bif (ltI f1.1 f1.2.2) then true else (bif (eqI f1.1 f1.2.2) then (leI 0 f1.2.1) else false)) else false)) rfl kk) ?_
     refine zH ?_
     subst ht6
     kernel_rfl
  refine zDx ?_
  obtain rfl:=zV h;show Post _ _ _ _ _;exact⟨.inr rfl,rfl,rfl,rfl⟩
def zJR (f1:τF):=fC zW7 (zC4 f1) fun _=>zX3
theorem zNy:CfW Tryz.prog 179:=cfW Tryz.func179
noncomputable def zOq (f1:τF):T Tryz.prog Int:=
 .draw 20 []<|.op1 (zAq (w64 (f1.1 - f1.2.1)) (w64 (2*f1.1))) fun y2=>.op0 (quoF .i64 (w64 ((w64 (f1.1 - f1.2.1)) - y2)) (w64 (2*f1.1))) fun z3=>
 .frc (w64 (Int.tdiv (w64 ((w64 (f1.1 - f1.2.1)) - y2)) (w64 (2*f1.1)))) fun t4=>.ret t4
theorem zPH {f1:τF} {r:Int} (h:zEL f1=some r):zD Tryz.prog 179 [.ag [Ti f1.1,Ti f1.2.1,Ti f1.2.2]] (I r) []:=CtU (zOq f1) 2 (fun r=>I r) Tryz.func179 rfl rfl h
def zPr (f1:τF):=fC zNy (zEL f1) fun _=>zPH
theorem zRy:CfW Tryz.prog 142:=cfW Tryz.func142
noncomputable def zSw (f1:τF):T Tryz.prog (τM):=
 .op1 (zPr f1) fun y2=>
 .cond (!eqI y2 0) (.n0 (bld zDW zDe)<|
 .ret ((1,y2,0,1)))<|.op1 (zJR f1) fun y4=>
 .cond y4 (.n0 (bld zDW zDe)<|
 .ret ((1,0,0,1)))<|.n0 (bld zDW zDe)<|
 .ret ((0,-1,1,0))
theorem zTT {f1:τF} {r:τM} (h:zDN f1=some r):zD Tryz.prog 142 [.ag [Ti f1.1,Ti f1.2.1,Ti f1.2.2]] (.ag [Ti r.1,Ti r.2.1,Ti r.2.2.1,Ti r.2.2.2]) []:=CtT (zSw f1) (fun r=>(.ag [Ti r.1,Ti r.2.1,Ti r.2.2.1,Ti r.2.2.2],[])) (rs:=[.w 2 4]) (vs:=[.cell 2 120]) Tryz.func142 rfl rfl (.cons ⟨rfl,zFF⟩ FitsL.nil) h
def zUD (f1:τF):=fC zRy (zDN f1) fun _=>zTT
theorem zP6:CfW Tryz.prog 130:=cfW Tryz.func130
noncomputable def zQ8 (f1:τF) (x2:Int) (y3:Int):T Tryz.prog Int:=
 .frc (w64 ((w64 ((w64 ((w64 (f1.1*x2))*x2))+(w64 ((w64 (f1.2.1*x2))*y3))))+(w64 ((w64 (f1.2.2*y3))*y3)))) fun t4=>.ret t4
theorem zRF {f1:τF} {x2:Int} {y3:Int} {r:Int} (h:zBL f1 x2 y3=some r):zD Tryz.prog 130 [.ag [Ti f1.1,Ti f1.2.1,Ti f1.2.2],I x2,I y3] (I r) []:=CtU (zQ8 f1 x2 y3) 6 (fun r=>I r) Tryz.func130 rfl rfl h
def zDh (f1:τF) (x2:Int) (y3:Int):=fC zP6 (zBL f1 x2 y3) fun _=>zRF
theorem zP7:CfW Tryz.prog 131:=cfW Tryz.func131
noncomputable def zQ9 (f1:τF) (x2:Int) (y3:Int) (u4:Int) (v5:Int):T Tryz.prog Int:=
 .frc (w64 ((w64 ((w64 ((w64 ((w64 (2*f1.1))*x2))*u4))+(w64 (f1.2.1*(w64 ((w64 (x2*v5))+(w64 (y3*u4))))))))+(w64 ((w64 ((w64 (2*f1.2.2))*y3))*v5)))) fun t6=>.ret t6
theorem zRG {f1:τF} {x2:Int} {y3:Int} {u4:Int} {v5:Int} {r:Int} (h:zD4 f1 x2 y3 u4 v5=some r):zD Tryz.prog 131 [.ag [Ti f1.1,Ti f1.2.1,Ti f1.2.2],I x2,I y3,I u4,I v5] (I r) []:=CtU (zQ9 f1 x2 y3 u4 v5) 10 (fun r=>I r) Tryz.func131 rfl rfl h
def zJS (f1:τF) (x2:Int) (y3:Int) (u4:Int) (v5:Int):=fC zP7 (zD4 f1 x2 y3 u4 v5) fun _=>zRG
theorem zTw:CfW Tryz.prog 83:=cfW Tryz.func83
noncomputable def zVO (f1:τF) (vm2:τM):T Tryz.prog (τF):=
 .draw 23 []<|.op1 (zDh f1 vm2.1 vm2.2.2.1) fun y3=>.op1 (zJS f1 vm2.1 vm2.2.2.1 vm2.2.1 vm2.2.2.2) fun y4=>.op1 (zDh f1 vm2.2.1 vm2.2.2.2) fun y5=>.n0 (bld pl42 bt42)<|
 .ret ((y3,y4,y5))
theorem zVe {f1:τF} {vm2:τM} {r:τF} (h:zGA f1 vm2=some r):zD Tryz.prog 83 [.ag [Ti f1.1,Ti f1.2.1,Ti f1.2.2],.ag [Ti vm2.1,Ti vm2.2.1,Ti vm2.2.2.1,Ti vm2.2.2.2]] (.ag [Ti r.1,Ti r.2.1,Ti r.2.2]) []:=CtT (zVO f1 vm2) (fun r=>(.ag [Ti r.1,Ti r.2.1,Ti r.2.2],[])) (rs:=[.w 4 3]) (vs:=[.cell 4 42]) Tryz.func83 rfl rfl (.cons ⟨rfl,wd42⟩ FitsL.nil) h
def zWx (f1:τF) (vm2:τM):=fC zTw (zGA f1 vm2) fun _=>zVe
theorem zTt:CfW Tryz.prog 132:=cfW Tryz.func132
noncomputable def zVM (vm1:τM) (vn2:τM):T Tryz.prog (τM):=
 .n0 (bld zDW zDe)<|
 .frc (w64 ((w64 (vm1.1*vn2.1))+(w64 (vm1.2.1*vn2.2.2.1)))) fun f3=>.frc (w64 ((w64 (vm1.1*vn2.2.1))+(w64 (vm1.2.1*vn2.2.2.2)))) fun f4=>.frc (w64 ((w64 (vm1.2.2.1*vn2.1))+(w64 (vm1.2.2.2*vn2.2.2.1)))) fun f5=>.frc (w64 ((w64 (vm1.2.2.1*vn2.2.1))+(w64 (vm1.2.2.2*vn2.2.2.2)))) fun f6=>.ret ((f3,f4,f5,f6))
theorem zVb {vm1:τM} {vn2:τM} {r:τM} (h:qQ vm1 vn2=some r):zD Tryz.prog 132 [.ag [Ti vm1.1,Ti vm1.2.1,Ti vm1.2.2.1,Ti vm1.2.2.2],.ag [Ti vn2.1,Ti vn2.2.1,Ti vn2.2.2.1,Ti vn2.2.2.2]] (.ag [Ti r.1,Ti r.2.1,Ti r.2.2.1,Ti r.2.2.2]) []:=CtT (zVM vm1 vn2) (fun r=>(.ag [Ti r.1,Ti r.2.1,Ti r.2.2.1,Ti r.2.2.2],[])) (rs:=[.w 4 4]) (vs:=[.cell 4 120]) Tryz.func132 rfl rfl (.cons ⟨rfl,zFF⟩ FitsL.nil) h
def zFB (vm1:τM) (vn2:τM):=fC zTt (qQ vm1 vn2) fun _=>zVb
theorem zNx:CfW Tryz.prog 98:=cfW Tryz.func98
noncomputable def zOp (f1:τF):T Tryz.prog ((τF×τM)):=
 .n0 (bld zDW zDe)<|
 .loop (fun n X_1=>zCO n X_1.1 X_1.2.1 X_1.2.2.1 X_1.2.2.2.1 X_1.2.2.2.2.1 X_1.2.2.2.2.2.1 X_1.2.2.2.2.2.2) ((1,0,0,1,f1.1,f1.2.1,f1.2.2)) (mb 20 30) [32,24,16,8] (fun s X_1 γ=>s.pc (mb 20 30) [32,24,16,8] [] [(32,.box [Ti X_1.1,Ti X_1.2.1,Ti X_1.2.2.1,Ti X_1.2.2.2.1]),(8,.box [Ti X_1.2.2.2.2.1,Ti X_1.2.2.2.2.2.1,Ti X_1.2.2.2.2.2.2])]) (fun X_1=>
 .op1 (zJR ((X_1.2.2.2.2.1,X_1.2.2.2.2.2.1,X_1.2.2.2.2.2.2))) fun y11=>
 .cond (!y11) (.op1 (zUD ((X_1.2.2.2.2.1,X_1.2.2.2.2.2.1,X_1.2.2.2.2.2.2))) fun y13=>
 .draw 6 []<|.op1 (zWx ((X_1.2.2.2.2.1,X_1.2.2.2.2.2.1,X_1.2.2.2.2.2.2)) y13) fun y14=>.op1 (zFB ((X_1.1,X_1.2.1,X_1.2.2.1,X_1.2.2.2.1)) y13) fun y15=>
 .ret (.inl ((y15.1,y15.2.1,y15.2.2.1,y15.2.2.2,y14.1,y14.2.1,y14.2.2))))<|.ret (.inr ((X_1.1,X_1.2.1,X_1.2.2.1,X_1.2.2.2.1,X_1.2.2.2.2.1,X_1.2.2.2.2.2.1,X_1.2.2.2.2.2.2)))) (mb 20 30) [32,24,16,8] (fun s o10 γ=>s.pc (mb 20 30) [32,24,16,8] [] [(32,.box [Ti o10.1,Ti o10.2.1,Ti o10.2.2.1,Ti o10.2.2.2.1]),(8,.box [Ti o10.2.2.2.2.1,Ti o10.2.2.2.2.2.1,Ti o10.2.2.2.2.2.2])]) fun o10=>
 .draw 3 [(2,16)]<|
 .ret ((o10.2.2.2.2,(o10.1,o10.2.1,o10.2.2.1,o10.2.2.2.1)))
theorem zPG {f1:τF} {r:(τF×τM)} (h:qD f1=some r):zD Tryz.prog 98 [.ag [Ti f1.1,Ti f1.2.1,Ti f1.2.2]] (.tc (.ag [Ti r.1.1,Ti r.1.2.1,Ti r.1.2.2]) (.tc (.ag [Ti r.2.1,Ti r.2.2.1,Ti r.2.2.2.1,Ti r.2.2.2.2]) .tn)) []:=CtT (zOp f1) (fun r=>(.tc (.ag [Ti r.1.1,Ti r.1.2.1,Ti r.1.2.2]) (.tc (.ag [Ti r.2.1,Ti r.2.2.1,Ti r.2.2.2.1,Ti r.2.2.2.2]) .tn),[])) (rs:=[.w 2 3,.w 3 4]) (vs:=[.cell 2 42,.cell 3 120]) Tryz.func98 rfl rfl (.cons ⟨rfl,wd42⟩ (.cons ⟨rfl,zFF⟩ FitsL.nil)) h
def zBx (f1:τF):=fC zNx (qD f1) fun _=>zPG
theorem zP0:CfW Tryz.prog 71:=cfW Tryz.func71
noncomputable def zQ2 (f1:τF):T Tryz.prog (τF):=
 .op1 (zBx f1) fun y2=>
 .ret y2.1
theorem zQz {f1:τF} {r:τF} (h:jH f1=some r):zD Tryz.prog 71 [.ag [Ti f1.1,Ti f1.2.1,Ti f1.2.2]] (.ag [Ti r.1,Ti r.2.1,Ti r.2.2]) []:=CtT (zQ2 f1) (fun r=>(.ag [Ti r.1,Ti r.2.1,Ti r.2.2],[])) (rs:=[.w 2 3]) (vs:=[.cell 2 42]) Tryz.func71 rfl rfl (.cons ⟨rfl,wd42⟩ FitsL.nil) h
def zCV (f1:τF):=fC zP0 (jH f1) fun _=>zQz
theorem zJE:CfW Tryz.prog 97:=cfW Tryz.func97
noncomputable def zJi (vs1:τS) (name2:ByteArray):T Tryz.prog Int:=
 .loopS (fun n X_1=>jV name2 vs1 n X_1) 0 (mb 21 38) [16] (fun s X_1 γ=>s.pc (mb 21 38) [16] [(5,I X_1)] []) (fun X_1=>
 .cond (ltI X_1 ((vs1.2.1.size:Int))) (.draw 7 []<|.op0 (idxs vs1.2.1 X_1) fun e7=>.op0 (idxs name2 0) fun e8=>
 .cond (eqI e7 e8) (
 .ret (.early X_1))<|
 .frc (w64 (X_1+1)) fun i10=>.ret (.again i10))<|.ret (.done (()))) (mb 21 0) [] (fun s o5 γ=>s.pc (mb 21 0) [] [] []) (fun r=>r) fun o5=>
 .ret (-1)
theorem zJq {vs1:τS} {name2:ByteArray} {r:Int} (h:zA4 vs1 name2=some r):zD Tryz.prog 97 [.ag [Ti vs1.1,.v (.string vs1.2.1),.sl (vs1.2.2.map c42)],.c (.v (.string name2))] (I r) []:=CtU (zJi vs1 name2) 4 (fun r=>I r) Tryz.func97 rfl rfl h
def zEB (vs1:τS) (name2:ByteArray):=fC zJE (zA4 vs1 name2) fun _=>zJq
theorem zJz:CfW Tryz.prog 70:=cfW Tryz.func70
noncomputable def zK1 (x1:(τS×(List τS))) (vn2:ByteArray) (f3:τF):T Tryz.prog ((ByteArray×(τS×(List τS)))):=
 .n0 au<|
 .n1 bsl0<|.opx (app ct42 (([]:List τF)) x1.1.2.2) fun u4=>
 .op1 (zEB x1.1 vn2) fun y5=>
 .cond (leI 0 y5) (.op0 (zBD ct42 ((([]:List τF))++x1.1.2.2) y5) fun e7=>.opx (sto ct42 ((([]:List τF))++x1.1.2.2) y5 fun e8=>f3) fun e8=>
 .lt (((([]:List τF))++x1.1.2.2).set (Int.toNat (y5)) f3) fun l9=>.hint (frzH 120)<|.n0 (bld pl53 bt53)<|.opx (zDX x1 ((x1.1.1,x1.1.2.1,l9))) fun y10=>
 .ret ((y10.1,y10.2)))<|.n0 (lenM ct42 ((([]:List τF))++x1.1.2.2))<|
 .lt (leI 8 ((((([]:List τF))++x1.1.2.2).length:Int))) fun t11=>.cond t11 (
 .ret (((⟨#[110,111]⟩:ByteArray),x1)))<|
 .loop (fun n X_3=>zAX f3 vn2 x1 n X_3) 0 (mb 83 1443) [120,56,40,80000,90003] (fun s X_3 γ=>s.pc (mb 83 1443) [120,56,40,80000,90003] [(10,I X_3)] [(80000,s.pbx 80000 [Ti x1.1.1,.v (.string x1.1.2.1),.sl (x1.1.2.2.map c42),.v (zE (γ 90003))]),(90003,.qarr (γ 90003) 53 3 (x1.2.map c53))]) (fun X_3=>
 .dn<|.joinC (.draw 14 []<|.seqT (.cond (ltI X_3 ((x1.1.2.1.size:Int))) (.op0 (idxs x1.1.2.1 X_3) fun e17=>.op0 (idxs vn2 0) fun e18=>.ret (ltI e17 e18)) (.ret false)) fun b19=>.ret b19) (mb 83 4503599627371939) [120,56,40,80000,90003] (fun s q_1 γ=>s.pc (mb 83 4503599627371939) [120,56,40,80000,90003] [(52,Bo q_1)] [(80000,s.pbx 80000 [Ti x1.1.1,.v (.string x1.1.2.1),.sl (x1.1.2.2.map c42),.v (zE (γ 90003))]),(90003,.qarr (γ 90003) 53 3 (x1.2.map c53))]) fun q_1=>
 .cond q_1 (
 .frc (w64 (X_3+1)) fun k21=>.ret (.inl k21))<|.ret (.inr X_3)) (mb 83 1443) [120,56,40,80000,90003] (fun s o15 γ=>s.pc (mb 83 1443) [120,56,40,80000,90003] [(10,I o15)] [(80000,s.pbx 80000 [Ti x1.1.1,.v (.string x1.1.2.1),.sl (x1.1.2.2.map c42),.v (zE (γ 90003))]),(90003,.qarr (γ 90003) 53 3 (x1.2.map c53))]) fun o15=>
 .joinC (.drawM false 10 [1,2,3,7,8,9,10,11,15,24,25,26,27,31,32,33,34,35,39,40,41,42,43,47,56,57,58,59,63,96,97,98,99,103,104,105,106,107,111,120,121,122,123,127,128,129,130,131,135,136,137,138,139,143,152,153,154,155,159,160,161,162,163,167,168,169,170,171,175,184,185,186,187,191,224,225,226,227,231,232,233,234,235,239,248,249,250,251,255,480,481,482,483,487,488,489,490,491,495,504,505,506,507,511,1016,1017,1018,1019,1023] [1,1,0,1,0,1,1,1,0,0,0,1]<|.opx (shr ct42 ((([]:List τF))++x1.1.2.2) o15) fun u22=>.n1 bsl<|.op0 (slice ct42 x1.1.2.2 o15 ((x1.1.2.2.length:Int))) fun u23=>.opx (app ct42 ([f3]) (subl x1.1.2.2 o15 ((x1.1.2.2.length:Int)))) fun u24=>.opx (app ct42 (subl ((([]:List τF))++x1.1.2.2) 0 o15) (([f3])++(subl x1.1.2.2 o15 ((x1.1.2.2.length:Int))))) fun u25=>.ret (u22,u23,u24,u25)) (mb 83 1411) [120,56,80000,90003] (fun s q_2 γ=>s.pc (mb 83 1411) [120,56,80000,90003] [] [(120,.arr 42 3 (((subl ((([]:List τF))++x1.1.2.2) 0 o15)++(([f3])++(subl x1.1.2.2 o15 ((x1.1.2.2.length:Int))))).map c42)),(80000,s.pbx 80000 [Ti x1.1.1,.v (.string x1.1.2.1),.sl (x1.1.2.2.map c42),.v (zE (γ 90003))]),(90003,.qarr (γ 90003) 53 3 (x1.2.map c53))]) fun q_2=>
 .lt ((subl ((([]:List τF))++x1.1.2.2) 0 o15)++(([f3])++(subl x1.1.2.2 o15 ((x1.1.2.2.length:Int))))) fun l26=>.hint (frzH 120)<|.draw 16 []<|.op0 (zHe x1.1.2.1 0 o15) fun u27=>.op0 (cat (x1.1.2.1.extract (Int.toNat 0) (Int.toNat o15)) vn2) fun u28=>.op0 (zHe x1.1.2.1 o15 ((x1.1.2.1.size:Int))) fun u29=>.op0 (cat ((x1.1.2.1.extract (Int.toNat 0) (Int.toNat o15))++vn2) (x1.1.2.1.extract (Int.toNat o15) (Int.toNat ((x1.1.2.1.size:Int))))) fun u30=>.n0 (bld pl53 bt53)<|.opx (zDX x1 ((x1.1.1,((x1.1.2.1.extract (Int.toNat 0) (Int.toNat o15))++vn2)++(x1.1.2.1.extract (Int.toNat o15) (Int.toNat ((x1.1.2.1.size:Int)))),l26))) fun y31=>
 .ret ((y31.1,y31.2))
theorem zKi {x1:(τS×(List τS))} {vn2:ByteArray} {f3:τF} {r:(ByteArray×(τS×(List τS)))} (h:jK x1 vn2 f3=some r):zJP Tryz.prog 70 [.pt 80000 0,.c (.v (.string vn2)),.ag [Ti f3.1,Ti f3.2.1,Ti f3.2.2]] 90003 53 3 (fun l=>[(80000,.box [Ti x1.1.1,.v (.string x1.1.2.1),.sl (x1.1.2.2.map c42),.v (zE (l))])]) (x1.2.map c53) (.v (.string r.1)) (fun l=>[(80000,.box [Ti r.2.1.1,.v (.string r.2.1.2.1),.sl (r.2.1.2.2.map c42),.v (zE (l))])]) (r.2.2.map c53):=CqT (zK1 x1 vn2 f3) 90003 53 3 (fun r=>.v (.string r.1)) (fun r l=>[(80000,.box [Ti r.2.1.1,.v (.string r.2.1.2.1),.sl (r.2.1.2.2.map c42),.v (zE (l))])]) (fun r=>r.2.2.map c53) (rs:=.t 6) (vs:=.tmp 6) Tryz.func70 rfl rfl (.cons rfl FitsL.nil) h
def zDF (x1:(τS×(List τS))) (vn2:ByteArray) (f3:τF):=fQ zJz (jK x1 vn2 f3) 80000 4 90003 53 3 (fun _ _ h=>zKi h)
theorem zP2:CfW Tryz.prog 143:=cfW Tryz.func143
noncomputable def zQ4 (vn1:Int):T Tryz.prog Bool:=
 .cond (ltI vn1 2) (
 .ret false)<|
 .loopS (fun n X_1=>zC5 vn1 n X_1) 2 (mb 17 9) [] (fun s X_1 γ=>s.pc (mb 17 9) [] [(3,I X_1)] []) (fun X_1=>
 .cond (leI (w64 (X_1*X_1)) vn1) (.op0 (remF .i64 vn1 X_1) fun z7=>
 .cond (eqI (Int.tmod vn1 X_1) 0) (
 .ret (.early false))<|
 .frc (w64 (X_1+1)) fun d9=>.ret (.again d9))<|.ret (.done (()))) (mb 17 0) [] (fun s o5 γ=>s.pc (mb 17 0) [] [] []) (fun r=>r) fun o5=>
 .ret true
theorem zRB {vn1:Int} {r:Bool} (h:zD1 vn1=some r):zD Tryz.prog 143 [I vn1] (Bo r) []:=CtU (zQ4 vn1) 2 (fun r=>Bo r) Tryz.func143 rfl rfl h
def zSe (vn1:Int):=fC zP2 (zD1 vn1) fun _=>zRB
theorem zP4:CfW Tryz.prog 99:=cfW Tryz.func99
noncomputable def zQ6 (p1:Int):T Tryz.prog Bool:=
 .pl<|.joinC (.op1 (zE6 p1 2 10000) fun y2=>.seqT (.cond y2 (.op1 (zSe p1) fun y4=>.ret y4) (.ret false)) fun b5=>.ret (y2,b5)) (mb 9 4) [] (fun s q_1 γ=>s.pc (mb 9 4) [] [(2,Bo q_1.2)] []) fun q_1=>
 .ret q_1.2
theorem zRD {p1:Int} {r:Bool} (h:zEi p1=some r):zD Tryz.prog 99 [I p1] (Bo r) []:=CtU (zQ6 p1) 2 (fun r=>Bo r) Tryz.func99 rfl rfl h
def zSf (p1:Int):=fC zP4 (zEi p1) fun _=>zRD
theorem zSH:CfW Tryz.prog 100:=cfW Tryz.func100
noncomputable def zTF (d1:Int) (p2:Int):T Tryz.prog ((τF×Bool)):=
 .loopS (fun n X_1=>zCp d1 p2 n X_1) 0 (mb 38 83) [32] (fun s X_1 γ=>s.pc (mb 38 83) [32] [(6,I X_1)] []) (fun X_1=>
 .cond (leI X_1 p2) (.op0 (remF .i64 (w64 ((w64 (X_1*X_1)) - d1)) (w64 (4*p2))) fun z7=>
 .cond (eqI (Int.tmod (w64 ((w64 (X_1*X_1)) - d1)) (w64 (4*p2))) 0) (.op0 (quoF .i64 (w64 ((w64 (X_1*X_1)) - d1)) (w64 (4*p2))) fun z9=>.n0 (bld pl42 bt42)<|
 .frc (w64 (Int.tdiv (w64 ((w64 (X_1*X_1)) - d1)) (w64 (4*p2)))) fun f10=>.draw 5 [(4,32)]<|.op1 (zFP ((p2,X_1,f10))) fun y11=>
 .ret (.early (((p2,X_1,f10),eqI y11 1))))<|
 .frc (w64 (X_1+1)) fun b12=>.ret (.again b12))<|.ret (.done (()))) (mb 38 16) [32] (fun s o5 γ=>s.pc (mb 38 16) [32] [] []) (fun r=>r) fun o5=>
 .n0 (bld pl42 bt42)<|
 .ret (((0,0,0),false))
theorem zT2 {d1:Int} {p2:Int} {r:(τF×Bool)} (h:zFR d1 p2=some r):zD Tryz.prog 100 [I d1,I p2] (.tc (.ag [Ti r.1.1,Ti r.1.2.1,Ti r.1.2.2]) (.tc (Bo r.2) .tn)) []:=CtT (zTF d1 p2) (fun r=>(.tc (.ag [Ti r.1.1,Ti r.1.2.1,Ti r.1.2.2]) (.tc (Bo r.2) .tn),[])) (rs:=[.w 4 3,.t 5]) (vs:=[.cell 4 42,.tmp 5]) Tryz.func100 rfl rfl (.cons ⟨rfl,wd42⟩ (.cons rfl FitsL.nil)) h
def zUH (d1:Int) (p2:Int):=fC zSH (zFR d1 p2) fun _=>zT2
theorem zLI:CfW Tryz.prog 72:=cfW Tryz.func72
noncomputable def zLe (d1:Int) (p2:Int):T Tryz.prog ((τF×Bool)):=
 .pl<|.dn<|.joinC (.op1 (zKV d1) fun y3=>.seqT (.cond (!y3) (.ret true) (.op1 (zSf p2) fun y5=>.ret (!y5))) fun b6=>.ret (y3,b6)) (mb 28 32787) [32] (fun s q_1 γ=>s.pc (mb 28 32787) [32] [(15,Bo q_1.2)] []) fun q_1=>
 .cond q_1.2 (.n0 (bld pl42 bt42)<|
 .ret (((0,0,0),false)))<|.op1 (zUH d1 p2) fun y8=>
 .cond (!y8.2) (.n0 (bld pl42 bt42)<|
 .ret (((0,0,0),false)))<|.op1 (zCV y8.1) fun y10=>
 .ret ((y10,true))
theorem zMA {d1:Int} {p2:Int} {r:(τF×Bool)} (h:zC8 d1 p2=some r):zD Tryz.prog 72 [I d1,I p2] (.tc (.ag [Ti r.1.1,Ti r.1.2.1,Ti r.1.2.2]) (.tc (Bo r.2) .tn)) []:=CtT (zLe d1 p2) (fun r=>(.tc (.ag [Ti r.1.1,Ti r.1.2.1,Ti r.1.2.2]) (.tc (Bo r.2) .tn),[])) (rs:=[.w 4 3,.t 5]) (vs:=[.cell 4 42,.tmp 5]) Tryz.func72 rfl rfl (.cons ⟨rfl,wd42⟩ (.cons rfl FitsL.nil)) h
def zMt (d1:Int) (p2:Int):=fC zLI (zC8 d1 p2) fun _=>zMA
theorem zKB:CfW Tryz.prog 73:=cfW Tryz.func73
noncomputable def zK3 (x1:(τS×(List τS))) (vn2:ByteArray):T Tryz.prog ((ByteArray×(τS×(List τS)))):=
 .n0 au<|
 .op1 (zEB x1.1 vn2) fun y3=>
 .cond (ltI y3 0) (
 .ret (((⟨#[110,111]⟩:ByteArray),x1)))<|.pl<|.joinC (.drawM false 11 [1,2,3,6,7,8,9,10,11,14,15,30,31,63,64,65,66,67,70,71,72,73,74,75,78,79,94,95,127,192,193,194,195,198,199,200,201,202,203,206,207,222,223,255,256,257,258,259,262,263,264,265,266,267,270,271,286,287,319,320,321,322,323,326,327,328,329,330,331,334,335,350,351,383,448,449,450,451,454,455,456,457,458,459,462,463,478,479,511,768,769,770,771,774,775,776,777,778,779,782,783,798,799,831,832,833,834,835,838,839,840,841,842,843,846,847,862,863,895,960,961,962,963,966,967,968,969,970,971,974,975,990,991,1023,1984,1985,1986,1987,1990,1991,1992,1993,1994,1995,1998,1999,2014,2015,2047] [0,1,1,1,0,0,1,1,1,1,0,0,1]<|.n1 bsl0<|.op0 (slice ct42 x1.1.2.2 0 y3) fun u5=>.opx (app ct42 (([]:List τF)) (subl x1.1.2.2 0 y3)) fun u6=>.op0 (slice ct42 x1.1.2.2 (w64 (y3+1)) ((x1.1.2.2.length:Int))) fun u7=>.opx (app ct42 ((([]:List τF))++(subl x1.1.2.2 0 y3)) (subl x1.1.2.2 (w64 (y3+1)) ((x1.1.2.2.length:Int)))) fun u8=>.ret (u5,u6,u7,u8)) (mb 45 225) [136,40,80000,90003] (fun s q_1 γ=>s.pc (mb 45 225) [136,40,80000,90003] [(7,.ow 136)] [(136,.arr 42 3 ((((([]:List τF))++(subl x1.1.2.2 0 y3))++(subl x1.1.2.2 (w64 (y3+1)) ((x1.1.2.2.length:Int)))).map c42)),(80000,s.pbx 80000 [Ti x1.1.1,.v (.string x1.1.2.1),.sl (x1.1.2.2.map c42),.v (zE (γ 90003))]),(90003,.qarr (γ 90003) 53 3 (x1.2.map c53))]) fun q_1=>
 .lt (((([]:List τF))++(subl x1.1.2.2 0 y3))++(subl x1.1.2.2 (w64 (y3+1)) ((x1.1.2.2.length:Int)))) fun l9=>.hint (frzH 136)<|.draw 15 []<|.op0 (zHe x1.1.2.1 0 y3) fun u10=>.op0 (zHe x1.1.2.1 (w64 (y3+1)) ((x1.1.2.1.size:Int))) fun u11=>.op0 (cat (x1.1.2.1.extract (Int.toNat 0) (Int.toNat y3)) (x1.1.2.1.extract (Int.toNat (w64 (y3+1))) (Int.toNat ((x1.1.2.1.size:Int))))) fun u12=>.n0 (bld pl53 bt53)<|.opx (zDX x1 ((x1.1.1,(x1.1.2.1.extract (Int.toNat 0) (Int.toNat y3))++(x1.1.2.1.extract (Int.toNat (w64 (y3+1))) (Int.toNat ((x1.1.2.1.size:Int)))),l9))) fun y13=>
 .ret ((y13.1,y13.2))
theorem zKk {x1:(τS×(List τS))} {vn2:ByteArray} {r:(ByteArray×(τS×(List τS)))} (h:zAr x1 vn2=some r):zJP Tryz.prog 73 [.pt 80000 0,.c (.v (.string vn2))] 90003 53 3 (fun l=>[(80000,.box [Ti x1.1.1,.v (.string x1.1.2.1),.sl (x1.1.2.2.map c42),.v (zE (l))])]) (x1.2.map c53) (.v (.string r.1)) (fun l=>[(80000,.box [Ti r.2.1.1,.v (.string r.2.1.2.1),.sl (r.2.1.2.2.map c42),.v (zE (l))])]) (r.2.2.map c53):=CqT (zK3 x1 vn2) 90003 53 3 (fun r=>.v (.string r.1)) (fun r l=>[(80000,.box [Ti r.2.1.1,.v (.string r.2.1.2.1),.sl (r.2.1.2.2.map c42),.v (zE (l))])]) (fun r=>r.2.2.map c53) (rs:=.t 4) (vs:=.tmp 4) Tryz.func73 rfl rfl (.cons rfl FitsL.nil) h
def zLZ (x1:(τS×(List τS))) (vn2:ByteArray):=fQ zKB (zAr x1 vn2) 80000 4 90003 53 3 (fun _ _ h=>zKk h)
theorem zJy:CfW Tryz.prog 74:=cfW Tryz.func74
noncomputable def zK0 (x1:(τS×(List τS))):T Tryz.prog ((ByteArray×(τS×(List τS)))):=
 .n0 au<|.late (seeH 7 90003)<|.n0 (lenM ct53 x1.2)<|
 .cond (eqI ((x1.2.length:Int)) 0) (
 .ret (((⟨#[110,111]⟩:ByteArray),x1)))<|.n0 au<|.late (seeH 15 90003)<|.op0 (zBD ct53 x1.2 (w64 (((x1.2.length:Int)) - 1))) fun e3=>.op0 (ldo ct53 x1.2 (w64 (((x1.2.length:Int)) - 1))) fun e4=>.n0 au<|
 .n0 au<|.late (zNG 26 90003)<|.opx (shr ct53 x1.2 (w64 (((x1.2.length:Int)) - 1))) fun u5=>.n0 au<|.late (pinH 29 90003)<|
 .ret (((⟨#[111,107]⟩:ByteArray),(e4,subl x1.2 0 (w64 (((x1.2.length:Int)) - 1)))))
theorem zKh {x1:(τS×(List τS))} {r:(ByteArray×(τS×(List τS)))} (h:zB1 x1=some r):zJP Tryz.prog 74 [.pt 80000 0] 90003 53 3 (fun l=>[(80000,.box [Ti x1.1.1,.v (.string x1.1.2.1),.sl (x1.1.2.2.map c42),.v (zE (l))])]) (x1.2.map c53) (.v (.string r.1)) (fun l=>[(80000,.box [Ti r.2.1.1,.v (.string r.2.1.2.1),.sl (r.2.1.2.2.map c42),.v (zE (l))])]) (r.2.2.map c53):=CqT (zK0 x1) 90003 53 3 (fun r=>.v (.string r.1)) (fun r l=>[(80000,.box [Ti r.2.1.1,.v (.string r.2.1.2.1),.sl (r.2.1.2.2.map c42),.v (zE (l))])]) (fun r=>r.2.2.map c53) (rs:=.t 2) (vs:=.tmp 2) Tryz.func74 rfl rfl (.cons rfl FitsL.nil) h
def zLX (x1:(τS×(List τS))):=fQ zJy (zB1 x1) 80000 4 90003 53 3 (fun _ _ h=>zKh h)
theorem zPb:CfW Tryz.prog 180:=cfW Tryz.func180
noncomputable def zQd (g1:τF) (a2:Int):T Tryz.prog ((Int×Int)):=
 .loopS (fun n X_4=>zC7 a2 g1 n X_4) 1 (mb 45 70) [16] (fun s X_4 γ=>s.pc (mb 45 70) [16] [(6,I X_4)] []) (fun X_4=>
 .cond (leI X_4 100) (
 .loopS (fun n X_3=>zC6 a2 g1 X_4 n X_3) 0 (mb 45 198) [16] (fun s X_3 γ=>s.pc (mb 45 198) [16] [(7,I X_3)] []) (fun X_3=>
 .cond (leI X_3 X_4) (
 .loopS (fun n X_2=>zCQ a2 g1 X_4 X_3 n X_2) 0 (mb 45 454) [16] (fun s X_2 γ=>s.pc (mb 45 454) [16] [(8,I X_2)] []) (fun X_2=>
 .cond (leI X_2 X_4) (.pl<|.dn<|.joinC (.op1 (zKW X_3 X_2) fun y15=>.seqT (.cond (eqI y15 X_4) (.op1 (zDG X_3 X_2) fun y17=>.ret (eqI y17 1)) (.ret false)) fun b18=>.seqT (.cond b18 (.op1 (zDh g1 X_3 X_2) fun y20=>.op1 (zDG y20 a2) fun y21=>.ret (eqI y21 1)) (.ret false)) fun b22=>.ret (y15,b18,b22)) (mb 45 4398046511558) [16] (fun s q_1 γ=>s.pc (mb 45 4398046511558) [16] [(42,Bo q_1.2.2)] []) fun q_1=>
 .cond q_1.2.2 (
 .ret (.early ((X_3,X_2))))<|
 .frc (w64 (X_2+1)) fun y24=>.ret (.again y24))<|.ret (.done (()))) (mb 45 198) [16] (fun s o13 γ=>s.pc (mb 45 198) [16] [] []) (.early) fun o13=>
 .frc (w64 (X_3+1)) fun x25=>.ret (.again x25))<|.ret (.done (()))) (mb 45 70) [16] (fun s o9 γ=>s.pc (mb 45 70) [16] [] []) (.early) fun o9=>
 .frc (w64 (X_4+1)) fun k26=>.ret (.again k26))<|.ret (.done (()))) (mb 45 0) [] (fun s o5 γ=>s.pc (mb 45 0) [] [] []) (fun r=>r) fun o5=>
 .ret ((1,0))
theorem zRK {g1:τF} {a2:Int} {r:(Int×Int)} (h:zCR g1 a2=some r):zD Tryz.prog 180 [.ag [Ti g1.1,Ti g1.2.1,Ti g1.2.2],I a2] (.tc (I r.1) (.tc (I r.2) .tn)) []:=CtT (zQd g1 a2) (fun r=>(.tc (I r.1) (.tc (I r.2) .tn),[])) (rs:=[.t 4,.t 5]) (vs:=[.tmp 4,.tmp 5]) Tryz.func180 rfl rfl (.cons rfl (.cons rfl FitsL.nil)) h
def zSi (g1:τF) (a2:Int):=fC zPb (zCR g1 a2) fun _=>zRK
theorem zSF:CfW Tryz.prog 251:=cfW Tryz.func251
noncomputable def zTD (vn1:Int):T Tryz.prog Int:=
 .cond (ltI 0 vn1) (
 .ret 1)<|
 .cond (ltI vn1 0) (
 .ret (-1))<|
 .ret 0
theorem zT0 {vn1:Int} {r:Int} (h:zHE vn1=some r):zD Tryz.prog 251 [I vn1] (I r) []:=CtU (zTD vn1) 2 (fun r=>I r) Tryz.func251 rfl rfl h
def zUG (vn1:Int):=fC zSF (zHE vn1) fun _=>zT0
theorem zM4:CfW Tryz.prog 217:=cfW Tryz.func217
noncomputable def zNI (a1:Int) (vm2:Int):T Tryz.prog Int:=
 .op1 (zAq a1 vm2) fun y3=>
 .loop (fun n X_1=>zBy vm2 n X_1.1 X_1.2.1 X_1.2.2.1 X_1.2.2.2) ((vm2,y3,0,1)) (mb 36 482) [] (fun s X_1 γ=>s.pc (mb 36 482) [] [(5,I X_1.1),(6,I X_1.2.1),(7,I X_1.2.2.1),(8,I X_1.2.2.2)] []) (fun X_1=>
 .cond (!eqI X_1.2.1 0) (.op0 (quoF .i64 X_1.1 X_1.2.1) fun z11=>
 .frc (w64 (Int.tdiv X_1.1 X_1.2.1)) fun q12=>
 .frc (w64 (X_1.1 - (w64 (q12*X_1.2.1)))) fun next13=>
 .frc (w64 (X_1.2.2.1 - (w64 (q12*X_1.2.2.2)))) fun y14=>.ret (.inl ((X_1.2.1,next13,X_1.2.2.2,y14))))<|.ret (.inr ((X_1.1,X_1.2.2.1)))) (mb 36 162) [] (fun s o9 γ=>s.pc (mb 36 162) [] [(5,I o9.1),(7,I o9.2)] []) fun o9=>
 .cond (!eqI o9.1 1) (
 .ret (-1))<|.op1 (zAq o9.2 vm2) fun y16=>
 .ret y16
theorem zNZ {a1:Int} {vm2:Int} {r:Int} (h:zCH a1 vm2=some r):zD Tryz.prog 217 [I a1,I vm2] (I r) []:=CtU (zNI a1 vm2) 4 (fun r=>I r) Tryz.func217 rfl rfl h
def zH4 (a1:Int) (vm2:Int):=fC zM4 (zCH a1 vm2) fun _=>zNZ
theorem zOB:CfW Tryz.prog 216:=cfW Tryz.func216
noncomputable def zOt (a1:Int) (b2:Int):T Tryz.prog (τF):=
 .op1 (zDG a1 b2) fun y3=>
 .cond (eqI b2 0) (.op1 (zUG a1) fun y5=>
 .ret ((y3,y5,0)))<|.draw 9 []<|.op0 (quoF .i64 a1 y3) fun z6=>.op1 (zIC b2) fun y7=>.op0 (quoF .i64 y7 y3) fun z8=>.op1 (zH4 (w64 (Int.tdiv a1 y3)) (w64 (Int.tdiv y7 y3))) fun y9=>
 .draw 12 []<|.op0 (quoF .i64 (w64 (y3 - (w64 (a1*y9)))) b2) fun z10=>
 .frc (w64 (Int.tdiv (w64 (y3 - (w64 (a1*y9)))) b2)) fun t11=>.ret ((y3,y9,t11))
theorem zPK {a1:Int} {b2:Int} {r:τF} (h:zDJ a1 b2=some r):zD Tryz.prog 216 [I a1,I b2] (.tc (I r.1) (.tc (I r.2.1) (.tc (I r.2.2) .tn))) []:=CtT (zOt a1 b2) (fun r=>(.tc (I r.1) (.tc (I r.2.1) (.tc (I r.2.2) .tn)),[])) (rs:=[.t 4,.t 5,.t 6]) (vs:=[.tmp 4,.tmp 5,.tmp 6]) Tryz.func216 rfl rfl (.cons rfl (.cons rfl (.cons rfl FitsL.nil))) h
def zPu (a1:Int) (b2:Int):=fC zOB (zDJ a1 b2) fun _=>zPK
theorem zLC:CfW Tryz.prog 181:=cfW Tryz.func181
noncomputable def zL8 (f1:τF) (x2:Int) (y3:Int):T Tryz.prog ((τF×τM)):=
 .op1 (zPu x2 y3) fun y4=>
 .op1 (zDh f1 x2 y3) fun y5=>
 .frc (w64 (0 - y4.2.2)) fun q6=>.op1 (zJS f1 x2 y3 q6 y4.2.1) fun y7=>
 .op1 (zAq y7 (w64 (2*y5))) fun y8=>.op0 (quoF .i64 (w64 (y8 - y7)) (w64 (2*y5))) fun z9=>
 .frc (w64 (Int.tdiv (w64 (y8 - y7)) (w64 (2*y5)))) fun t10=>.n0 (bld zDW zDe)<|
 .frc (w64 (q6+(w64 (x2*t10)))) fun f11=>.frc (w64 (y4.2.1+(w64 (y3*t10)))) fun f12=>
 .frc (w64 (y7+(w64 ((w64 (2*y5))*t10)))) fun b13=>.draw 14 [(13,48)]<|.op1 (zAm f1) fun y14=>.op0 (quoF .i64 (w64 ((w64 (b13*b13)) - y14)) (w64 (4*y5))) fun z15=>.n0 (bld pl42 bt42)<|
 .frc (w64 (Int.tdiv (w64 ((w64 (b13*b13)) - y14)) (w64 (4*y5)))) fun f16=>.ret (((y5,b13,f16),(x2,f11,y3,f12)))
theorem zLu {f1:τF} {x2:Int} {y3:Int} {r:(τF×τM)} (h:zA6 f1 x2 y3=some r):zD Tryz.prog 181 [.ag [Ti f1.1,Ti f1.2.1,Ti f1.2.2],I x2,I y3] (.tc (.ag [Ti r.1.1,Ti r.1.2.1,Ti r.1.2.2]) (.tc (.ag [Ti r.2.1,Ti r.2.2.1,Ti r.2.2.2.1,Ti r.2.2.2.2]) .tn)) []:=CtT (zL8 f1 x2 y3) (fun r=>(.tc (.ag [Ti r.1.1,Ti r.1.2.1,Ti r.1.2.2]) (.tc (.ag [Ti r.2.1,Ti r.2.2.1,Ti r.2.2.2.1,Ti r.2.2.2.2]) .tn),[])) (rs:=[.w 6 3,.w 7 4]) (vs:=[.cell 6 42,.cell 7 120]) Tryz.func181 rfl rfl (.cons ⟨rfl,wd42⟩ (.cons ⟨rfl,zFF⟩ FitsL.nil)) h
def zMn (f1:τF) (x2:Int) (y3:Int):=fC zLC (zA6 f1 x2 y3) fun _=>zLu
theorem zOA:CfW Tryz.prog 182:=cfW Tryz.func182
noncomputable def zOs (a1:Int) (vm2:Int) (b3:Int) (vn4:Int):T Tryz.prog ((Int×Int×Bool)):=
 .op1 (zDG vm2 vn4) fun y5=>
 .op0 (remF .i64 (w64 (b3 - a1)) y5) fun z6=>
 .cond (!eqI (Int.tmod (w64 (b3 - a1)) y5) 0) (
 .ret ((0,0,false)))<|.draw 18 []<|.op0 (quoF .i64 (w64 (b3 - a1)) y5) fun z8=>.op0 (quoF .i64 vm2 y5) fun z9=>.op0 (quoF .i64 vn4 y5) fun z10=>.op1 (zH4 (w64 (Int.tdiv vm2 y5)) (w64 (Int.tdiv vn4 y5))) fun y11=>.op0 (quoF .i64 vn4 y5) fun z12=>.op1 (zAq (w64 ((w64 (Int.tdiv (w64 (b3 - a1)) y5))*y11)) (w64 (Int.tdiv vn4 y5))) fun y13=>
 .op0 (quoF .i64 vm2 y5) fun z14=>
 .frc (w64 ((w64 (Int.tdiv vm2 y5))*vn4)) fun all15=>.op1 (zAq (w64 (a1+(w64 (vm2*y13)))) all15) fun y16=>
 .ret ((y16,all15,true))
theorem zPJ {a1:Int} {vm2:Int} {b3:Int} {vn4:Int} {r:(Int×Int×Bool)} (h:zCZ a1 vm2 b3 vn4=some r):zD Tryz.prog 182 [I a1,I vm2,I b3,I vn4] (.tc (I r.1) (.tc (I r.2.1) (.tc (Bo r.2.2) .tn))) []:=CtT (zOs a1 vm2 b3 vn4) (fun r=>(.tc (I r.1) (.tc (I r.2.1) (.tc (Bo r.2.2) .tn)),[])) (rs:=[.t 8,.t 9,.t 10]) (vs:=[.tmp 8,.tmp 9,.tmp 10]) Tryz.func182 rfl rfl (.cons rfl (.cons rfl (.cons rfl FitsL.nil))) h
def zPt (a1:Int) (vm2:Int) (b3:Int) (vn4:Int):=fC zOA (zCZ a1 vm2 b3 vn4) fun _=>zPJ
theorem zP9:CfW Tryz.prog 183:=cfW Tryz.func183
noncomputable def zQb (t1:Int):T Tryz.prog (τM):=
 .n0 (bld zDW zDe)<|
 .ret ((1,t1,0,1))
theorem zRI {t1:Int} {r:τM} (h:zD5 t1=some r):zD Tryz.prog 183 [I t1] (.ag [Ti r.1,Ti r.2.1,Ti r.2.2.1,Ti r.2.2.2]) []:=CtT (zQb t1) (fun r=>(.ag [Ti r.1,Ti r.2.1,Ti r.2.2.1,Ti r.2.2.2],[])) (rs:=[.w 2 4]) (vs:=[.cell 2 120]) Tryz.func183 rfl rfl (.cons ⟨rfl,zFF⟩ FitsL.nil) h
def zJT (t1:Int):=fC zP9 (zD5 t1) fun _=>zRI
theorem zP8:CfW Tryz.prog 144:=cfW Tryz.func144
noncomputable def zQa (f1:τF) (g2:τF):T Tryz.prog ((τF×τF×τM×τM)):=
 .op1 (zBx f1) fun y3=>
 .op1 (zBx g2) fun y4=>
 .op1 (zSi y4.1 y3.1.1) fun y5=>
 .op1 (zMn y4.1 y5.1 y5.2) fun y6=>
 .op1 (zFB y4.2 y6.2) fun y7=>
 .draw 22 []<|.op1 (zAq y3.1.2.1 (w64 (2*y3.1.1))) fun y8=>.op1 (zPt y8 (w64 (2*y3.1.1)) y6.1.2.1 (w64 (2*y6.1.1))) fun y9=>
 .draw 11 []<|.op0 (quoF .i64 (w64 (y9.1 - y3.1.2.1)) (w64 (2*y3.1.1))) fun z10=>.op1 (zJT (w64 (Int.tdiv (w64 (y9.1 - y3.1.2.1)) (w64 (2*y3.1.1))))) fun y11=>.op1 (zFB y3.2 y11) fun y12=>
 .draw 11 []<|.op0 (quoF .i64 (w64 (y9.1 - y6.1.2.1)) (w64 (2*y6.1.1))) fun z13=>.op1 (zJT (w64 (Int.tdiv (w64 (y9.1 - y6.1.2.1)) (w64 (2*y6.1.1))))) fun y14=>.op1 (zFB y7 y14) fun y15=>
 .draw 14 []<|.op1 (zAm y3.1) fun y16=>.op0 (quoF .i64 (w64 ((w64 (y9.1*y9.1)) - y16)) (w64 ((w64 (4*y3.1.1))*y6.1.1))) fun z17=>
 .frc (w64 (Int.tdiv (w64 ((w64 (y9.1*y9.1)) - y16)) (w64 ((w64 (4*y3.1.1))*y6.1.1)))) fun cc18=>.draw 21 [(18,32),(19,40),(20,48)]<|.n0 (bld pl42 bt42)<|.n0 (bld pl42 bt42)<|
 .frc (w64 (y3.1.1*cc18)) fun f19=>.frc (w64 (y6.1.1*cc18)) fun f20=>.ret (((y3.1.1,y9.1,f20),(y6.1.1,y9.1,f19),y12,y15))
theorem zRH {f1:τF} {g2:τF} {r:(τF×τF×τM×τM)} (h:zCP f1 g2=some r):zD Tryz.prog 144 [.ag [Ti f1.1,Ti f1.2.1,Ti f1.2.2],.ag [Ti g2.1,Ti g2.2.1,Ti g2.2.2]] (.tc (.ag [Ti r.1.1,Ti r.1.2.1,Ti r.1.2.2]) (.tc (.ag [Ti r.2.1.1,Ti r.2.1.2.1,Ti r.2.1.2.2]) (.tc (.ag [Ti r.2.2.1.1,Ti r.2.2.1.2.1,Ti r.2.2.1.2.2.1,Ti r.2.2.1.2.2.2]) (.tc (.ag [Ti r.2.2.2.1,Ti r.2.2.2.2.1,Ti r.2.2.2.2.2.1,Ti r.2.2.2.2.2.2]) .tn)))) []:=CtT (zQa f1 g2) (fun r=>(.tc (.ag [Ti r.1.1,Ti r.1.2.1,Ti r.1.2.2]) (.tc (.ag [Ti r.2.1.1,Ti r.2.1.2.1,Ti r.2.1.2.2]) (.tc (.ag [Ti r.2.2.1.1,Ti r.2.2.1.2.1,Ti r.2.2.1.2.2.1,Ti r.2.2.1.2.2.2]) (.tc (.ag [Ti r.2.2.2.1,Ti r.2.2.2.2.1,Ti r.2.2.2.2.2.1,Ti r.2.2.2.2.2.2]) .tn))),[])) (rs:=[.w 4 3,.w 5 3,.w 6 4,.w 7 4]) (vs:=[.cell 4 42,.cell 5 42,.cell 6 120,.cell 7 120]) Tryz.func144 rfl rfl (.cons ⟨rfl,wd42⟩ (.cons ⟨rfl,wd42⟩ (.cons ⟨rfl,zFF⟩ (.cons ⟨rfl,zFF⟩ FitsL.nil)))) h
def zSg (f1:τF) (g2:τF):=fC zP8 (zCP f1 g2) fun _=>zRH
theorem zOE:CfW Tryz.prog 145:=cfW Tryz.func145
noncomputable def zOw (a1:τF) (e2:τF):T Tryz.prog (τF):=
 .draw 13 []<|.op0 (quoF .i64 a1.2.2 e2.1) fun z3=>.n0 (bld pl42 bt42)<|
 .frc (w64 (a1.1*e2.1)) fun f4=>.frc (w64 (Int.tdiv a1.2.2 e2.1)) fun f5=>.ret ((f4,a1.2.1,f5))
theorem zPN {a1:τF} {e2:τF} {r:τF} (h:zEM a1 e2=some r):zD Tryz.prog 145 [.ag [Ti a1.1,Ti a1.2.1,Ti a1.2.2],.ag [Ti e2.1,Ti e2.2.1,Ti e2.2.2]] (.ag [Ti r.1,Ti r.2.1,Ti r.2.2]) []:=CtT (zOw a1 e2) (fun r=>(.ag [Ti r.1,Ti r.2.1,Ti r.2.2],[])) (rs:=[.w 4 3]) (vs:=[.cell 4 42]) Tryz.func145 rfl rfl (.cons ⟨rfl,wd42⟩ FitsL.nil) h
def zPx (a1:τF) (e2:τF):=fC zOE (zEM a1 e2) fun _=>zPN
theorem zTy:CfW Tryz.prog 101:=cfW Tryz.func101
noncomputable def zVQ (f1:τF) (g2:τF):T Tryz.prog (τF):=
 .op1 (zSg f1 g2) fun y3=>
 .op1 (zPx y3.1 y3.2.1) fun y4=>.op1 (zCV y4) fun y5=>
 .ret y5
theorem zVg {f1:τF} {g2:τF} {r:τF} (h:zAH f1 g2=some r):zD Tryz.prog 101 [.ag [Ti f1.1,Ti f1.2.1,Ti f1.2.2],.ag [Ti g2.1,Ti g2.2.1,Ti g2.2.2]] (.ag [Ti r.1,Ti r.2.1,Ti r.2.2]) []:=CtT (zVQ f1 g2) (fun r=>(.ag [Ti r.1,Ti r.2.1,Ti r.2.2],[])) (rs:=[.w 4 3]) (vs:=[.cell 4 42]) Tryz.func101 rfl rfl (.cons ⟨rfl,wd42⟩ FitsL.nil) h
def zGE (f1:τF) (g2:τF):=fC zTy (zAH f1 g2) fun _=>zVg
theorem zLF:CfW Tryz.prog 184:=cfW Tryz.func184
noncomputable def zLb (f1:τF):T Tryz.prog (τF):=
 .n0 (bld pl42 bt42)<|
 .frc (w64 (0 - f1.2.1)) fun f2=>.ret ((f1.1,f2,f1.2.2))
theorem zLx {f1:τF} {r:τF} (h:zDT f1=some r):zD Tryz.prog 184 [.ag [Ti f1.1,Ti f1.2.1,Ti f1.2.2]] (.ag [Ti r.1,Ti r.2.1,Ti r.2.2]) []:=CtT (zLb f1) (fun r=>(.ag [Ti r.1,Ti r.2.1,Ti r.2.2],[])) (rs:=[.w 2 3]) (vs:=[.cell 2 42]) Tryz.func184 rfl rfl (.cons ⟨rfl,wd42⟩ FitsL.nil) h
def zMp (f1:τF):=fC zLF (zDT f1) fun _=>zLx
theorem zM8:CfW Tryz.prog 146:=cfW Tryz.func146
noncomputable def zNM (f1:τF):T Tryz.prog (τF):=
 .op1 (zMp f1) fun y2=>.op1 (zCV y2) fun y3=>
 .ret y3
theorem zN4 {f1:τF} {r:τF} (h:zCr f1=some r):zD Tryz.prog 146 [.ag [Ti f1.1,Ti f1.2.1,Ti f1.2.2]] (.ag [Ti r.1,Ti r.2.1,Ti r.2.2]) []:=CtT (zNM f1) (fun r=>(.ag [Ti r.1,Ti r.2.1,Ti r.2.2],[])) (rs:=[.w 2 3]) (vs:=[.cell 2 42]) Tryz.func146 rfl rfl (.cons ⟨rfl,wd42⟩ FitsL.nil) h
def zO0 (f1:τF):=fC zM8 (zCr f1) fun _=>zN4
theorem zTx:CfW Tryz.prog 147:=cfW Tryz.func147
noncomputable def zVP (d1:Int):T Tryz.prog (τF):=
 .op1 (zAq d1 2) fun y2=>
 .n0 dvN<|.n0 (bld pl42 bt42)<|
 .frc (w64 (Int.tdiv (w64 (y2 - d1)) 4)) fun f3=>.ret ((1,y2,f3))
theorem zVf {d1:Int} {r:τF} (h:zDk d1=some r):zD Tryz.prog 147 [I d1] (.ag [Ti r.1,Ti r.2.1,Ti r.2.2]) []:=CtT (zVP d1) (fun r=>(.ag [Ti r.1,Ti r.2.1,Ti r.2.2],[])) (rs:=[.w 2 3]) (vs:=[.cell 2 42]) Tryz.func147 rfl rfl (.cons ⟨rfl,wd42⟩ FitsL.nil) h
def zMr (d1:Int):=fC zTx (zDk d1) fun _=>zVf
theorem zPa:CfW Tryz.prog 102:=cfW Tryz.func102
noncomputable def zQc (f1:τF) (k2:Int):T Tryz.prog (τF):=
 .op1 (zCV f1) fun y3=>
 .join (
 .cond (ltI k2 0) (.op1 (zO0 y3) fun y6=>
 .frc (w64 (0 - k2)) fun k7=>.ret (k7,y6.1,y6.2.1,y6.2.2))<|.ret (k2,y3.1,y3.2.1,y3.2.2)) (mb 31 22) [32,16] (fun s j4 γ=>s.pc (mb 31 22) [32,16] [(1,I j4.1)] [(16,.box [Ti j4.2.1,Ti j4.2.2.1,Ti j4.2.2.2])]) fun j4=>
 .op1 (zAm j4.2) fun y8=>.op1 (zMr y8) fun y9=>
 .loop (fun n X_1=>zB3 n X_1.1 X_1.2.1 X_1.2.2.1 X_1.2.2.2.1 X_1.2.2.2.2.1 X_1.2.2.2.2.2.1 X_1.2.2.2.2.2.2) ((j4.1,y9.1,y9.2.1,y9.2.2,j4.2.1,j4.2.2.1,j4.2.2.2)) (mb 31 54) [40,32,16] (fun s X_1 γ=>s.pc (mb 31 54) [40,32,16] [(1,I X_1.1)] [(40,.box [Ti X_1.2.1,Ti X_1.2.2.1,Ti X_1.2.2.2.1]),(16,.box [Ti X_1.2.2.2.2.1,Ti X_1.2.2.2.2.2.1,Ti X_1.2.2.2.2.2.2])]) (fun X_1=>
 .cond (ltI 0 X_1.1) (.pl<|.dn<|.join (.n0 dvN<|
 .cond (eqI (Int.tmod X_1.1 2) 1) (.op1 (zGE ((X_1.2.1,X_1.2.2.1,X_1.2.2.2.1)) ((X_1.2.2.2.2.1,X_1.2.2.2.2.2.1,X_1.2.2.2.2.2.2))) fun y22=>
 .ret (y22.1,y22.2.1,y22.2.2))<|.ret (X_1.2.1,X_1.2.2.1,X_1.2.2.2.1)) (mb 31 54) [40,32,16] (fun s j20 γ=>s.pc (mb 31 54) [40,32,16] [] [(40,.box [Ti j20.1,Ti j20.2.1,Ti j20.2.2])]) fun j20=>
 .op1 (zGE ((X_1.2.2.2.2.1,X_1.2.2.2.2.2.1,X_1.2.2.2.2.2.2)) ((X_1.2.2.2.2.1,X_1.2.2.2.2.2.1,X_1.2.2.2.2.2.2))) fun y23=>
 .n0 dvN<|
 .frc (w64 (Int.tdiv X_1.1 2)) fun k24=>.ret (.inl ((k24,j20.1,j20.2.1,j20.2.2,y23.1,y23.2.1,y23.2.2))))<|.ret (.inr ((X_1.2.1,X_1.2.2.1,X_1.2.2.2.1)))) (mb 31 48) [40,32] (fun s o18 γ=>s.pc (mb 31 48) [40,32] [] [(40,.box [Ti o18.1,Ti o18.2.1,Ti o18.2.2])]) fun o18=>
 .ret o18
theorem zRJ {f1:τF} {k2:Int} {r:τF} (h:zCq f1 k2=some r):zD Tryz.prog 102 [.ag [Ti f1.1,Ti f1.2.1,Ti f1.2.2],I k2] (.ag [Ti r.1,Ti r.2.1,Ti r.2.2]) []:=CtT (zQc f1 k2) (fun r=>(.ag [Ti r.1,Ti r.2.1,Ti r.2.2],[])) (rs:=[.w 4 3]) (vs:=[.cell 4 42]) Tryz.func102 rfl rfl (.cons ⟨rfl,wd42⟩ FitsL.nil) h
def zSh (f1:τF) (k2:Int):=fC zPa (zCq f1 k2) fun _=>zRJ
theorem zKQ:∀args w,(callFunc 51 args).run Tryz.prog w=.ok (.enter 51 args) w:=qN Tryz.func51 kk kk
set_option maxRecDepth 100000 in
set_option maxHeartbeats 400000 in
theorem zN1:∀(n:Nat) {vn1:Int} {r:ByteArray},zAF n vn1=some r→zD Tryz.prog 51 [I vn1] (.c (.v (.string r))) []:=by
  intro n
  induction n with
  |zero=>intro vn1 r h;cases h
  |succ n ih=>
   intro vn1 r h;refine zAW (rs:=[.t 2]) (vs:=[.tmp 2]) Tryz.func51 rfl rfl (.cons rfl FitsL.nil) (by decide) 20 rfl ?_
   rw[zAF]at h;show V _ _ ⟨I vn1::bt 19 [],[]⟩ _;refine jB (mb 20 1) [] (s1:=⟨I vn1::bt 19 [],[]⟩) ?_ ?_
   ·refine L0 rfl rfl (zF (.c (.v (.string ((⟨#[]⟩:ByteArray))))) rfl kk) ?_
    refine zH ?_
    kernel_rfl
   refine zCk ?_
   refine jB (mb 20 17) [] (s1:=⟨I vn1::bt 3 (Bo (ltI vn1 10)::bt 15 []),[]⟩) ?_ ?_
   ·refine L0 rfl rfl (zJ (I vn1) rfl kk) ?_
    refine L0 rfl rfl (zG4 (k:=.i64) (a:=vn1) (b:=10) rfl kk kk) ?_
    refine zH ?_
    kernel_rfl
   refine zCh rfl (fun hc2=>?_) (fun hc2=>?_)
   ·have h:=zBq h hc2;refine jB (mb 20 4) [] (s1:=⟨.bot::.bot::.c (.v (.string (zDD ([IntKind.u8.wrap (w64 (48+vn1))]))))::bt 17 [],[]⟩) ?_ ?_
    ·refine L0 rfl rfl (zJ (I vn1) rfl kk) ?_
     refine L0 rfl rfl (zEx (a:=48) (b:=vn1) rfl kk kk) ?_
     refine L0 rfl rfl (zWk (k2:=.i64) (a:=w64 (48+vn1)) Tryz.underlying3 Tryz.underlying5 rfl kk) ?_
     refine L1 rfl rfl (zGN (z:=zv5) (els:=[IntKind.u8.wrap (w64 (48+vn1))].map c5) Tryz.underlying28 iz5 rfl (by decide) rfl kk rfl (by simp[c5]) (by decide) (by decide)) ?_
     refine L0 rfl rfl (z4J (c:=c5) (fun _=>rfl) ([IntKind.u8.wrap (w64 (48+vn1))]) Tryz.underlying28 Tryz.underlying5 Tryz.underlying9 rfl kk) ?_
     refine L0 rfl rfl (zF (.c (.v (.string (zDD ([IntKind.u8.wrap (w64 (48+vn1))]))))) rfl kk) ?_
     refine zH ?_
     kernel_rfl
    refine zDx ?_
    obtain rfl:=zV h;show Post _ _ _ _ _;exact⟨.inr rfl,rfl,rfl,rfl⟩
   ·have h:=zBC h hc2;refine zEA ?_
    show V _ _ _ _;obtain⟨y3,hy3,h⟩:=zP h;obtain⟨u4,hu4,h⟩:=zP h;refine z0k [0,1,3,0,8,24,56,120,248,511,1023] 11 [[.z,.z,.z,.b,.b,.b,.b,.b,.b,.z,.z],[.a,.z,.z,.b,.b,.b,.b,.b,.b,.z,.z],[.a,.a,.z,.b,.b,.b,.b,.b,.b,.z,.z],[.b,.b,.b,.z,.z,.z,.z,.z,.z,.z,.z],[.b,.b,.b,.a,.z,.z,.z,.z,.z,.z,.z],[.b,.b,.b,.a,.a,.z,.z,.z,.z,.z,.z],[.b,.b,.b,.a,.a,.a,.z,.z,.z,.z,.z],[.b,.b,.b,.a,.a,.a,.a,.z,.z,.z,.z],[.b,.b,.b,.a,.a,.a,.a,.a,.z,.z,.z],[.a,.a,.a,.a,.a,.a,.a,.a,.a,.z,.z],[.a,.a,.a,.a,.a,.a,.a,.a,.a,.a,.z]] (mb 20 4) [] (s1:=⟨.bot::.bot::.c (.v (.string (y3++(zDD ([IntKind.u8.wrap (w64 (48+(Int.tmod vn1 10)))])))))::bt 17 [],[]⟩) kk kk ?_ ?_
    ·refine DE_0 0 (I vn1) kk rfl rfl rfl (jD rfl) kk (zJ (I vn1) rfl kk) 10 rfl ?_
     refine DE_0 1 (I (w64 (Int.tdiv vn1 10))) kk rfl rfl rfl (jD rfl) kk (zS0 (a:=vn1) (b:=10) rfl kk kk (by decide)) 11 rfl ?_
     refine DE_1 2 kk rfl rfl rfl (jD rfl) (zBt (ih hy3) zKQ rfl kk) rfl rfl rfl 12 rfl ?_
     refine DE_0 3 (I vn1) kk rfl rfl rfl (jD rfl) kk (zJ (I vn1) rfl kk) 13 rfl ?_
     refine DE_0 4 (I (Int.tmod vn1 10)) kk rfl rfl rfl (jD rfl) kk (zZ2 (k:=.i64) (a:=vn1) (b:=10) rfl kk kk (by decide)) 14 rfl ?_
     refine DE_0 5 (I (w64 (48+(Int.tmod vn1 10)))) kk rfl rfl rfl (jD rfl) kk (zEx (a:=48) (b:=Int.tmod vn1 10) rfl kk kk) 15 rfl ?_
     refine DE_0 6 (.c (.v (.int .u8 (IntKind.u8.wrap (w64 (48+(Int.tmod vn1 10))))))) kk rfl rfl rfl (jD rfl) kk (zWk (k2:=.i64) (a:=w64 (48+(Int.tmod vn1 10))) Tryz.underlying3 Tryz.underlying5 rfl kk) 16 rfl ?_
     refine DE_1 7 kk rfl rfl rfl (jD rfl) (zGN (z:=zv5) (els:=[IntKind.u8.wrap (w64 (48+(Int.tmod vn1 10)))].map c5) Tryz.underlying28 iz5 rfl (by decide) rfl kk rfl (by simp[c5]) (by decide) (by decide)) rfl rfl rfl 17 rfl ?_
     refine DE_0 8 (.c (.v (.string (zDD ([IntKind.u8.wrap (w64 (48+(Int.tmod vn1 10)))]))))) kk rfl rfl rfl (jD rfl) kk (z4J (c:=c5) (fun _=>rfl) ([IntKind.u8.wrap (w64 (48+(Int.tmod vn1 10)))]) Tryz.underlying28 Tryz.underlying5 Tryz.underlying9 rfl kk) 18 rfl ?_
     refine DE_0 9 (.c (.v (.string (y3++(zDD ([IntKind.u8.wrap (w64 (48+(Int.tmod vn1 10)))])))))) kk rfl rfl rfl (jD rfl) kk (zZ7 (a:=y3) (b:=zDD ([IntKind.u8.wrap (w64 (48+(Int.tmod vn1 10)))])) rfl kk kk (zOP hu4)) 19 rfl ?_
     refine DE_0 10 (.c (.v (.string (y3++(zDD ([IntKind.u8.wrap (w64 (48+(Int.tmod vn1 10)))])))))) kk rfl rfl rfl (jD rfl) kk (zF (.c (.v (.string (y3++(zDD ([IntKind.u8.wrap (w64 (48+(Int.tmod vn1 10)))])))))) rfl kk) 2 rfl ?_
     refine zWo kk ?_
     refine zH ?_
     kernel_rfl
    refine zDx ?_
    obtain rfl:=zV h;show Post _ _ _ _ _;exact⟨.inr rfl,rfl,rfl,rfl⟩
theorem zV8 {vn1:Int} {r:ByteArray} (h:zAF FU vn1=some r):zD Tryz.prog 51 [I vn1] (.c (.v (.string r))) []:=zN1 FU h
def zFA (vn1:Int):=fC zKQ (zAF FU vn1) fun _=>zV8
theorem zTr:CfW Tryz.prog 36:=cfW Tryz.func36
noncomputable def zVK (vn1:Int):T Tryz.prog ByteArray:=
 .cond (ltI vn1 0) (.op1 (zFA (w64 (0 - vn1))) fun y3=>.op0 (cat ((⟨#[45]⟩:ByteArray)) y3) fun u4=>
 .ret (((⟨#[45]⟩:ByteArray))++y3))<|.op1 (zFA vn1) fun y5=>
 .ret y5
theorem zV9 {vn1:Int} {r:ByteArray} (h:zAo vn1=some r):zD Tryz.prog 36 [I vn1] (.c (.v (.string r))) []:=CtU (zVK vn1) 2 (fun r=>.c (.v (.string r))) Tryz.func36 rfl rfl h
def zDH (vn1:Int):=fC zTr (zAo vn1) fun _=>zV9
theorem zSI:CfW Tryz.prog 54:=cfW Tryz.func54
noncomputable def zTG (f1:τF):T Tryz.prog ByteArray:=
 .draw 16 []<|.op1 (zDH f1.1) fun y2=>.op0 (cat ((⟨#[40]⟩:ByteArray)) y2) fun u3=>.op0 (cat (((⟨#[40]⟩:ByteArray))++y2) ((⟨#[44]⟩:ByteArray))) fun u4=>.op1 (zDH f1.2.1) fun y5=>.op0 (cat ((((⟨#[40]⟩:ByteArray))++y2)++((⟨#[44]⟩:ByteArray))) y5) fun u6=>.op0 (cat (((((⟨#[40]⟩:ByteArray))++y2)++((⟨#[44]⟩:ByteArray)))++y5) ((⟨#[44]⟩:ByteArray))) fun u7=>.op1 (zDH f1.2.2) fun y8=>.op0 (cat ((((((⟨#[40]⟩:ByteArray))++y2)++((⟨#[44]⟩:ByteArray)))++y5)++((⟨#[44]⟩:ByteArray))) y8) fun u9=>.op0 (cat (((((((⟨#[40]⟩:ByteArray))++y2)++((⟨#[44]⟩:ByteArray)))++y5)++((⟨#[44]⟩:ByteArray)))++y8) ((⟨#[41]⟩:ByteArray))) fun u10=>
 .ret ((((((((⟨#[40]⟩:ByteArray))++y2)++((⟨#[44]⟩:ByteArray)))++y5)++((⟨#[44]⟩:ByteArray)))++y8)++((⟨#[41]⟩:ByteArray)))
theorem zT3 {f1:τF} {r:ByteArray} (h:zAg f1=some r):zD Tryz.prog 54 [.ag [Ti f1.1,Ti f1.2.1,Ti f1.2.2]] (.c (.v (.string r))) []:=CtU (zTG f1) 2 (fun r=>.c (.v (.string r))) Tryz.func54 rfl rfl h
def zCj (f1:τF):=fC zSI (zAg f1) fun _=>zT3
theorem zTn:CfW Tryz.prog 134:=cfW Tryz.func134
noncomputable def zVG (d1:Int):T Tryz.prog (List τF):=
 .n1 (nilN 42 3 (by decide))<|
 .n1 (nilN 42 3 (by decide))<|
 .loop (fun n X_3=>zBu d1 n X_3.1 X_3.2) ((1,([]:List τF))) (mb 47 25) [24] (fun s X_3 γ=>s.pc (mb 47 25) [24] [(4,I X_3.1)] [(24,.arr 42 3 (X_3.2.map c42))]) (fun X_3=>
 .cond (leI (w64 ((w64 (3*X_3.1))*X_3.1)) (w64 (0 - d1))) (
 .frc (w64 (1 - X_3.1)) fun b7=>.loop (fun n X_2=>zB2 X_3.1 d1 n X_2.1 X_2.2) ((b7,X_3.2)) (mb 47 57) [24] (fun s X_2 γ=>s.pc (mb 47 57) [24] [(5,I X_2.1)] [(24,.arr 42 3 (X_2.2.map c42))]) (fun X_2=>
 .cond (leI X_2.1 X_3.1) (.op0 (quoF .i64 (w64 ((w64 (X_2.1*X_2.1)) - d1)) (w64 (4*X_3.1))) fun z13=>.n0 (bld pl42 bt42)<|
 .frc (w64 (Int.tdiv (w64 ((w64 (X_2.1*X_2.1)) - d1)) (w64 (4*X_3.1)))) fun f14=>.joinC (.op1 (zAm ((X_3.1,X_2.1,f14))) fun y15=>.seqT (.cond (eqI y15 d1) (.op1 (zJR ((X_3.1,X_2.1,f14))) fun y17=>.ret y17) (.ret false)) fun b18=>.ret (y15,b18)) (mb 47 2199023255673) [48,24] (fun s q_1 γ=>s.pc (mb 47 2199023255673) [48,24] [(41,Bo q_1.2)] []) fun q_1=>
 .cond q_1.2 (.n1 bsl<|.opx (app ct42 X_2.2 ([(X_3.1,X_2.1,f14)])) fun u20=>
 .frc (w64 (X_2.1+1)) fun b21=>.ret (.inl ((b21,X_2.2++([(X_3.1,X_2.1,f14)])))))<|
 .frc (w64 (X_2.1+1)) fun b22=>.ret (.inl ((b22,X_2.2))))<|.ret (.inr X_2.2)) (mb 47 25) [24] (fun s o11 γ=>s.pc (mb 47 25) [24] [] [(24,.arr 42 3 (o11.map c42))]) fun o11=>
 .frc (w64 (X_3.1+1)) fun a23=>.ret (.inl ((a23,o11))))<|.ret (.inr X_3.2)) (mb 47 8) [24] (fun s o5 γ=>s.pc (mb 47 8) [24] [] [(24,.arr 42 3 (o5.map c42))]) fun o5=>
 .ret o5
theorem zV4 {d1:Int} {r:List τF} (h:zEh d1=some r):zD Tryz.prog 134 [I d1] (.ow 0) [(0,.arr 42 3 (r.map c42))]:=CtT (zVG d1) (fun r=>(.ow 0,[(0,.arr 42 3 (r.map c42))])) (rs:=[.t 2]) (vs:=[.tmp 2]) Tryz.func134 rfl rfl (.cons rfl FitsL.nil) h
def zWu (d1:Int):=fC zTn (zEh d1) fun _=>zV4
theorem zRz:CfW Tryz.prog 86:=cfW Tryz.func86
noncomputable def zSx (d1:Int):T Tryz.prog (List τF):=
 .n1 (nilN 42 3 (by decide))<|
 .n1 (nilN 42 3 (by decide))<|
 .op1 (zWu d1) fun y2=>.n0 (lenM ct42 y2)<|
 .loop (fun n X_1=>zAY y2 n X_1.1 X_1.2) ((0,([]:List τF))) (mb 22 904) [56,24] (fun s X_1 γ=>s.pc (mb 22 904) [56,24] [(9,I X_1.1)] [(24,.arr 42 3 (X_1.2.map c42))]) (fun X_1=>
 .cond (ltI X_1.1 ((y2.length:Int))) (.op0 (zBD ct42 y2 X_1.1) fun e8=>.op0 (ldo ct42 y2 X_1.1) fun e9=>
 .op1 (zFP e9) fun y10=>
 .cond (eqI y10 1) (.n1 bsl<|.opx (app ct42 X_1.2 ([e9])) fun u12=>
 .frc (w64 (X_1.1+1)) fun t13=>.ret (.inl ((t13,X_1.2++([e9])))))<|
 .frc (w64 (X_1.1+1)) fun t14=>.ret (.inl ((t14,X_1.2))))<|.ret (.inr X_1.2)) (mb 22 8) [24] (fun s o6 γ=>s.pc (mb 22 8) [24] [] [(24,.arr 42 3 (o6.map c42))]) fun o6=>
 .ret o6
theorem zTU {d1:Int} {r:List τF} (h:zCD d1=some r):zD Tryz.prog 86 [I d1] (.ow 0) [(0,.arr 42 3 (r.map c42))]:=CtT (zSx d1) (fun r=>(.ow 0,[(0,.arr 42 3 (r.map c42))])) (rs:=[.t 2]) (vs:=[.tmp 2]) Tryz.func86 rfl rfl (.cons rfl FitsL.nil) h
def zUE (d1:Int):=fC zRz (zCD d1) fun _=>zTU
theorem zP5:CfW Tryz.prog 103:=cfW Tryz.func103
noncomputable def zQ7 (l1:List τF) (f2:τF):T Tryz.prog Int:=
 .n0 (lenM ct42 l1)<|
 .loopS (fun n X_1=>zBi f2 l1 n X_1) 0 (mb 19 904) [24] (fun s X_1 γ=>s.pc (mb 19 904) [24] [(9,I X_1)] []) (fun X_1=>
 .cond (ltI X_1 ((l1.length:Int))) (.op0 (idxM ct42 l1 X_1) fun e7=>
 .n0 (eqg3 zUc)<|
 .lt (((e7.1==f2.1)&&((e7.2.1==f2.2.1)&&(e7.2.2==f2.2.2)))) fun t8=>.cond t8 (
 .ret (.early X_1))<|
 .frc (w64 (X_1+1)) fun t10=>.ret (.again t10))<|.ret (.done (()))) (mb 19 0) [] (fun s o5 γ=>s.pc (mb 19 0) [] [] []) (fun r=>r) fun o5=>
 .ret (-1)
theorem zRE {l1:List τF} {f2:τF} {r:Int} (h:zD3 l1 f2=some r):zD Tryz.prog 103 [.c (.sl (l1.map c42)),.ag [Ti f2.1,Ti f2.2.1,Ti f2.2.2]] (I r) []:=CtU (zQ7 l1 f2) 4 (fun r=>I r) Tryz.func103 rfl rfl h
def zS7 (l1:List τF) (f2:τF):=fCs zP5 (zD3 l1 f2) (fun _=>zRE) fun _=>rfl
theorem zPc:CfW Tryz.prog 104:=cfW Tryz.func104
noncomputable def zQe (f1:τF):T Tryz.prog Int:=
 .op1 (zCV f1) fun y2=>
 .loop (fun n X_1=>zBj y2 n X_1.1 X_1.2.1 X_1.2.2.1 X_1.2.2.2) ((1,y2.1,y2.2.1,y2.2.2)) (mb 20 26) [32,8] (fun s X_1 γ=>s.pc (mb 20 26) [32,8] [(3,I X_1.1)] [(32,.box [Ti X_1.2.1,Ti X_1.2.2.1,Ti X_1.2.2.2])]) (fun X_1=>
 .draw 5 []<|.op1 (zAm y2) fun y9=>.op1 (zMr y9) fun y10=>.n0 (neg3 z0K)<|
 .cond (!((X_1.2.1==y10.1)&&((X_1.2.2.1==y10.2.1)&&(X_1.2.2.2==y10.2.2)))) (.op1 (zGE ((X_1.2.1,X_1.2.2.1,X_1.2.2.2)) y2) fun y12=>
 .frc (w64 (X_1.1+1)) fun k13=>.ret (.inl ((k13,y12.1,y12.2.1,y12.2.2))))<|.ret (.inr X_1.1)) (mb 20 8) [] (fun s o8 γ=>s.pc (mb 20 8) [] [(3,I o8)] []) fun o8=>
 .ret o8
theorem zRL {f1:τF} {r:Int} (h:zD6 f1=some r):zD Tryz.prog 104 [.ag [Ti f1.1,Ti f1.2.1,Ti f1.2.2]] (I r) []:=CtU (zQe f1) 2 (fun r=>I r) Tryz.func104 rfl rfl h
def zSj (f1:τF):=fC zPc (zD6 f1) fun _=>zRL
theorem zPd:CfW Tryz.prog 149:=cfW Tryz.func149
noncomputable def zQf (f1:τF):T Tryz.prog Int:=
 .op1 (zAm f1) fun y2=>
 .loopS (fun n X_1028=>zEk f1 y2 n X_1028) 1 (mb 42 26) [8] (fun s X_1028 γ=>s.pc (mb 42 26) [8] [(4,I X_1028)] []) (fun X_1028=>
 .loopS (fun n X_1027=>zEj f1 X_1028 y2 n X_1027) 0 (mb 42 58) [8] (fun s X_1027 γ=>s.pc (mb 42 58) [8] [(5,I X_1027)] []) (fun X_1027=>
 .cond (leI X_1027 X_1028) (
 .loopS (fun n X_1026=>zER f1 X_1028 X_1027 y2 n X_1026) 0 (mb 42 122) [8] (fun s X_1026 γ=>s.pc (mb 42 122) [8] [(6,I X_1026)] []) (fun X_1026=>
 .cond (leI X_1026 X_1028) (.op1 (zDh f1 X_1027 X_1026) fun y14=>
 .joinC (.selB (eqI X_1027 X_1028) false [] fun w_1024=>.seqT (.cond (bif w_1024 then true else (eqI X_1026 X_1028)) (.op1 (zDG y14 (w64 (2*y2))) fun y17=>.ret (eqI y17 1)) (.ret false)) fun b18=>.ret (w_1024,b18)) (mb 42 1099511628026) [8] (fun s q_1025 γ=>s.pc (mb 42 1099511628026) [8] [(40,Bo q_1025.2)] []) fun q_1025=>
 .cond q_1025.2 (
 .ret (.early y14))<|
 .frc (w64 (X_1026+1)) fun y20=>.ret (.again y20))<|.ret (.done (()))) (mb 42 58) [8] (fun s o12 γ=>s.pc (mb 42 58) [8] [] []) (.early) fun o12=>
 .frc (w64 (X_1027+1)) fun x21=>.ret (.again x21))<|.ret (.done (()))) (mb 42 26) [8] (fun s o8 γ=>s.pc (mb 42 26) [8] [] []) (.early) fun o8=>
 .frc (w64 (X_1028+1)) fun vr22=>.ret (.again vr22)) [] [] (fun _ _ _=>⟨[],[]⟩) (fun r=>r) fun _=>.fail
theorem zRM {f1:τF} {r:Int} (h:zGR f1=some r):zD Tryz.prog 149 [.ag [Ti f1.1,Ti f1.2.1,Ti f1.2.2]] (I r) []:=CtU (zQf f1) 2 (fun r=>I r) Tryz.func149 rfl rfl h
def zSk (f1:τF):=fC zPd (zGR f1) fun _=>zRM
theorem zM5:CfW Tryz.prog 252:=cfW Tryz.func252
noncomputable def zNJ (vn1:Int):T Tryz.prog (List Int):=
 .n1 (nilN 3 1 (by decide))<|
 .n1 (nilN 3 1 (by decide))<|
 .loop (fun n X_2=>zDz n X_2.1 X_2.2.1 X_2.2.2) ((vn1,2,([]:List Int))) (mb 30 25) [24] (fun s X_2 γ=>s.pc (mb 30 25) [24] [(0,I X_2.1),(4,I X_2.2.1)] [(24,.arr 3 1 (X_2.2.2.map c3))]) (fun X_2=>
 .cond (leI (w64 (X_2.2.1*X_2.2.1)) X_2.1) (.loop (fun n X_1=>zD2 X_2.2.1 n X_1.1 X_1.2) ((X_2.1,X_2.2.2)) (mb 30 25) [24] (fun s X_1 γ=>s.pc (mb 30 25) [24] [(0,I X_1.1)] [(24,.arr 3 1 (X_1.2.map c3))]) (fun X_1=>
 .op0 (remF .i64 X_1.1 X_2.2.1) fun z12=>
 .cond (eqI (Int.tmod X_1.1 X_2.2.1) 0) (.n1 bsl<|.opx (app ct3 X_1.2 ([X_2.2.1])) fun u14=>
 .op0 (quoF .i64 X_1.1 X_2.2.1) fun z15=>
 .frc (w64 (Int.tdiv X_1.1 X_2.2.1)) fun vn16=>.ret (.inl ((vn16,X_1.2++([X_2.2.1])))))<|.ret (.inr ((X_1.1,X_1.2)))) (mb 30 25) [24] (fun s o11 γ=>s.pc (mb 30 25) [24] [(0,I o11.1)] [(24,.arr 3 1 (o11.2.map c3))]) fun o11=>
 .frc (w64 (X_2.2.1+1)) fun d17=>.ret (.inl ((o11.1,d17,o11.2))))<|.ret (.inr ((X_2.1,X_2.2.2)))) (mb 30 9) [24] (fun s o6 γ=>s.pc (mb 30 9) [24] [(0,I o6.1)] [(24,.arr 3 1 (o6.2.map c3))]) fun o6=>
 .cond (ltI 1 o6.1) (.n1 bsl<|.opx (app ct3 o6.2 ([o6.1])) fun u19=>
 .ret (o6.2++([o6.1])))<|
 .ret o6.2
theorem zN0 {vn1:Int} {r:List Int} (h:zFK vn1=some r):zD Tryz.prog 252 [I vn1] (.ow 0) [(0,.arr 3 1 (r.map c3))]:=CtT (zNJ vn1) (fun r=>(.ow 0,[(0,.arr 3 1 (r.map c3))])) (rs:=[.t 2]) (vs:=[.tmp 2]) Tryz.func252 rfl rfl (.cons rfl FitsL.nil) h
def zOY (vn1:Int):=fC zM5 (zFK vn1) fun _=>zN0
theorem zTq:CfW Tryz.prog 253:=cfW Tryz.func253
noncomputable def zVJ (l1:List Int) (vn2:Int):T Tryz.prog (List Int):=
 .n1 (nilN 3 1 (by decide))<|
 .loop (fun n X_3=>zFi l1 vn2 n X_3) 0 (mb 48 35) [] (fun s X_3 γ=>s.pc (mb 48 35) [] [(5,I X_3)] []) (fun X_3=>
 .dn<|.joinC (.n0 (lenM ct3 l1)<|.seqT (.cond (ltI X_3 ((l1.length:Int))) (.op0 (idxM ct3 l1 X_3) fun e7=>.ret (ltI e7 vn2)) (.ret false)) fun b8=>.ret b8) (mb 48 262179) [] (fun s q_1 γ=>s.pc (mb 48 262179) [] [(18,Bo q_1)] []) fun q_1=>
 .cond q_1 (
 .frc (w64 (X_3+1)) fun k10=>.ret (.inl k10))<|.ret (.inr X_3)) (mb 48 35) [] (fun s o5 γ=>s.pc (mb 48 35) [] [(5,I o5)] []) fun o5=>
 .dn<|.joinC (.n0 (lenM ct3 l1)<|.seqT (.cond (ltI o5 ((l1.length:Int))) (.op0 (idxM ct3 l1 o5) fun e12=>.ret (eqI e12 vn2)) (.ret false)) fun b13=>.ret b13) (mb 48 4294967331) [] (fun s q_2 γ=>s.pc (mb 48 4294967331) [] [(32,Bo q_2)] []) fun q_2=>
 .cond q_2 (
 .ret l1)<|.n1 bsl0<|.op0 (slice ct3 l1 0 o5) fun u15=>.opx (app ct3 (([]:List Int)) (subl l1 0 o5)) fun u16=>
 .n1 bsl<|.opx (app ct3 ((([]:List Int))++(subl l1 0 o5)) ([vn2])) fun u17=>
 .op0 (slice ct3 l1 o5 ((l1.length:Int))) fun u18=>.opx (app ct3 (((([]:List Int))++(subl l1 0 o5))++([vn2])) (subl l1 o5 ((l1.length:Int)))) fun u19=>
 .lt ((((([]:List Int))++(subl l1 0 o5))++([vn2]))++(subl l1 o5 ((l1.length:Int)))) fun l20=>.late (frzH 272)<|.ret l20
theorem zV7 {l1:List Int} {vn2:Int} {r:List Int} (h:zHn l1 vn2=some r):zD Tryz.prog 253 [.c (.sl (l1.map c3)),I vn2] (.c (.sl (r.map c3))) []:=CtU (zVJ l1 vn2) 4 (fun r=>.c (.sl (r.map c3))) Tryz.func253 rfl rfl h
def zWv (l1:List Int) (vn2:Int):=fC zTq (zHn l1 vn2) fun _=>zV7
theorem zNz:CfW Tryz.prog 218:=cfW Tryz.func218
noncomputable def zOr (vn1:Int):T Tryz.prog (List Int):=
 .n1 (nilN 3 1 (by decide))<|
 .n1 (nilN 3 1 (by decide))<|
 .op1 (zOY vn1) fun y2=>.n0 (lenM ct3 y2)<|
 .hint (frzH 24)<|.loop (fun n X_1=>zEQ y2 n X_1.1 X_1.2) ((([]:List Int),0)) (mb 18 904) [56] (fun s X_1 γ=>s.pc (mb 18 904) [56] [(3,.c (.sl (X_1.1.map c3))),(9,I X_1.2)] []) (fun X_1=>
 .cond (ltI X_1.2 ((y2.length:Int))) (.op0 (zBD ct3 y2 X_1.2) fun e8=>.op0 (ldo ct3 y2 X_1.2) fun e9=>
 .op1 (zWv X_1.1 e9) fun y10=>
 .frc (w64 (X_1.2+1)) fun t11=>.ret (.inl ((y10,t11))))<|.ret (.inr X_1.1)) (mb 18 8) [] (fun s o6 γ=>s.pc (mb 18 8) [] [(3,.c (.sl (o6.map c3)))] []) fun o6=>
 .ret o6
theorem zPI {vn1:Int} {r:List Int} (h:zFh vn1=some r):zD Tryz.prog 218 [I vn1] (.c (.sl (r.map c3))) []:=CtU (zOr vn1) 2 (fun r=>.c (.sl (r.map c3))) Tryz.func218 rfl rfl h
def zPs (vn1:Int):=fC zNz (zFh vn1) fun _=>zPI
theorem zTz:CfW Tryz.prog 185:=cfW Tryz.func185
noncomputable def zVR (d1:Int):T Tryz.prog (List (Int×Int)):=
 .n1 (nilN 181 2 (by decide))<|
 .n1 (nilN 181 2 (by decide))<|
 .op1 (zPs (w64 (0 - d1))) fun y2=>.n0 (lenM ct3 y2)<|
 .loop (fun n X_6=>zEN d1 y2 n X_6.1 X_6.2) ((0,([]:List (Int×Int)))) (mb 69 3593) [24] (fun s X_6 γ=>s.pc (mb 69 3593) [24] [(11,I X_6.1)] [(24,.arr 181 2 (X_6.2.map c181))]) (fun X_6=>
 .cond (ltI X_6.1 ((y2.length:Int))) (.op0 (idxM ct3 y2 X_6.1) fun e8=>
 .cond (ltI 2 e8) (.n0 (bld zIr zKR)<|.n1 bsl<|.opx (app zFs X_6.2 ([(1,e8)])) fun u10=>
 .frc (w64 (X_6.1+1)) fun t11=>.ret (.inl ((t11,X_6.2++([(1,e8)])))))<|
 .frc (w64 (X_6.1+1)) fun t12=>.ret (.inl ((t12,X_6.2))))<|.ret (.inr X_6.2)) (mb 69 9) [24] (fun s o6 γ=>s.pc (mb 69 9) [24] [] [(24,.arr 181 2 (o6.map c181))]) fun o6=>
 .n0 dvN<|
 .cond (!eqI (Int.tmod d1 2) 0) (
 .ret o6)<|.n0 dvN<|
 .frc (w64 (Int.tdiv (w64 (0 - d1)) 4)) fun vn14=>.n0 dvN<|
 .cond (eqI (Int.tmod vn14 4) 3) (
 .ret o6)<|.joinC (.n0 dvN<|.selB (eqI (Int.tmod vn14 4) 1) false [.z dvN] fun w_4=>.ret w_4) (mb 69 34359738440) [24] (fun s q_5 γ=>s.pc (mb 69 34359738440) [24] [(35,Bo (bif q_5 then true else (eqI (Int.tmod vn14 8) 4)))] []) fun q_5=>
 .lt (bif q_5 then true else (eqI (Int.tmod vn14 8) 4)) fun t17=>.cond t17 (.n0 (bld zIr zKR)<|.n1 bsl<|.opx (app zFs o6 ([(2,0)])) fun u19=>
 .ret (o6++([(2,0)])))<|.n0 dvN<|
 .cond (eqI (Int.tmod vn14 8) 2) (.n0 (bld zIr zKR)<|.n1 bsl<|.opx (app zFs o6 ([(4,0)])) fun u21=>
 .ret (o6++([(4,0)])))<|.n0 dvN<|
 .cond (eqI (Int.tmod vn14 8) 6) (.n0 (bld zIr zKR)<|.n1 bsl<|.opx (app zFs o6 ([(3,0)])) fun u23=>
 .ret (o6++([(3,0)])))<|.n0 (bld zIr zKR)<|.n0 (bld zIr zKR)<|.n1 bsl<|.opx (app zFs o6 ([(2,0),(3,0)])) fun u24=>
 .ret (o6++([(2,0),(3,0)]))
theorem zVh {d1:Int} {r:List (Int×Int)} (h:zHp d1=some r):zD Tryz.prog 185 [I d1] (.ow 0) [(0,.arr 181 2 (r.map c181))]:=CtT (zVR d1) (fun r=>(.ow 0,[(0,.arr 181 2 (r.map c181))])) (rs:=[.t 2]) (vs:=[.tmp 2]) Tryz.func185 rfl rfl (.cons rfl FitsL.nil) h
def zWy (d1:Int):=fC zTz (zHp d1) fun _=>zVh
theorem zTk:CfW Tryz.prog 254:=cfW Tryz.func254
noncomputable def zVD (vs1:τF):T Tryz.prog Bool:=
 .pl<|.joinC (.selB (eqI vs1.1 0) false [] fun w_2=>.ret w_2) (mb 11 4) [] (fun s q_3 γ=>s.pc (mb 11 4) [] [(2,Bo (bif q_3 then true else (eqI vs1.1 1)))] []) fun q_3=>
 .ret (bif q_3 then true else (eqI vs1.1 1))
theorem zV1 {vs1:τF} {r:Bool} (h:zHm vs1=some r):zD Tryz.prog 254 [.ag [Ti vs1.1,Ti vs1.2.1,Ti vs1.2.2]] (Bo r) []:=CtU (zVD vs1) 2 (fun r=>Bo r) Tryz.func254 rfl rfl h
def zWr (vs1:τF):=fC zTk (zHm vs1) fun _=>zV1
theorem zTj:CfW Tryz.prog 220:=cfW Tryz.func220
noncomputable def zVC (a1:Int):T Tryz.prog Int:=
 .op1 (zAq a1 8) fun y2=>
 .cond (eqI y2 1) (.cond (eqI y2 1) (
 .ret 1)<|
 .cond (eqI y2 3) (.cond (eqI y2 3) (
 .ret (-1))<|
 .ret 0)<|
 .cond (eqI y2 5) (
 .ret (-1))<|
 .ret 0)<|
 .cond (eqI y2 7) (
 .ret 1)<|
 .cond (eqI y2 3) (.cond (eqI y2 3) (
 .ret (-1))<|
 .ret 0)<|
 .cond (eqI y2 5) (
 .ret (-1))<|
 .ret 0
theorem zV0 {a1:Int} {r:Int} (h:zFz a1=some r):zD Tryz.prog 220 [I a1] (I r) []:=CtU (zVC a1) 2 (fun r=>I r) Tryz.func220 rfl rfl h
def zMo (a1:Int):=fC zTj (zFz a1) fun _=>zV0
theorem zJx:CfW Tryz.prog 255:=cfW Tryz.func255
noncomputable def zKZ (vs1:τF):T Tryz.prog (τF):=
 .op1 (zE6 vs1.1 0 (w64 (vs1.2.1 - 1))) fun y2=>
 .cond (!y2) (.op1 (zAq vs1.1 vs1.2.1) fun y4=>
 .ret ((y4,vs1.2.1,vs1.2.2)))<|.n0 dvN<|
 .cond (eqI (Int.tmod vs1.1 2) 0) (.n0 dvN<|
 .frc (w64 (Int.tdiv vs1.1 2)) fun f6=>.draw 7 []<|.op1 (zMo vs1.2.1) fun y7=>
 .frc (w64 (vs1.2.2*y7)) fun f8=>
 .ret ((f6,vs1.2.1,f8)))<|.join (.joinC (.n0 dvN<|.selB (eqI (Int.tmod vs1.1 4) 3) true [.z dvN] fun w_8=>.ret w_8) (mb 56 8198) [16,8] (fun s q_9 γ=>s.pc (mb 56 8198) [16,8] [(13,Bo (bif q_9 then (eqI (Int.tmod vs1.2.1 4) 3) else false))] []) fun q_9=>
 .lt (bif q_9 then (eqI (Int.tmod vs1.2.1 4) 3) else false) fun t11=>.cond t11 (
 .frc (w64 (0 - vs1.2.2)) fun f13=>.ret f13)<|.ret vs1.2.2) (mb 56 6) [16,8] (fun s j9 γ=>s.pc (mb 56 6) [16,8] [] [(8,.box [Ti vs1.1,Ti vs1.2.1,Ti j9])]) fun j9=>
 .ret ((vs1.2.1,vs1.1,j9))
theorem zKg {vs1:τF} {r:τF} (h:zEO vs1=some r):zD Tryz.prog 255 [.ag [Ti vs1.1,Ti vs1.2.1,Ti vs1.2.2]] (.ag [Ti r.1,Ti r.2.1,Ti r.2.2]) []:=CtT (zKZ vs1) (fun r=>(.ag [Ti r.1,Ti r.2.1,Ti r.2.2],[])) (rs:=[.w 2 3]) (vs:=[.cell 2 223]) Tryz.func255 rfl rfl (.cons ⟨rfl,wd223⟩ FitsL.nil) h
def zL1 (vs1:τF):=fC zJx (zEO vs1) fun _=>zKg
theorem zNv:CfW Tryz.prog 219:=cfW Tryz.func219
noncomputable def zOn (a1:Int) (vn2:Int):T Tryz.prog Int:=
 .n0 (bld z5z bt223)<|
 .loop (fun n X_6=>zEP n X_6.1 X_6.2.1 X_6.2.2) ((a1,vn2,1)) (mb 24 32) [40] (fun s X_6 γ=>s.pc (mb 24 32) [40] [] [(40,.box [Ti X_6.1,Ti X_6.2.1,Ti X_6.2.2])]) (fun X_6=>
 .op1 (zWr ((X_6.1,X_6.2.1,X_6.2.2))) fun y8=>
 .cond (!y8) (.op1 (zL1 ((X_6.1,X_6.2.1,X_6.2.2))) fun y10=>
 .ret (.inl ((y10.1,y10.2.1,y10.2.2))))<|.ret (.inr ((X_6.1,X_6.2.1,X_6.2.2)))) (mb 24 32) [40] (fun s o7 γ=>s.pc (mb 24 32) [40] [] [(40,.box [Ti o7.1,Ti o7.2.1,Ti o7.2.2])]) fun o7=>
 .dn<|.joinC (.selB (eqI o7.1 0) true [] fun w_4=>.ret w_4) (mb 24 2097184) [40] (fun s q_5 γ=>s.pc (mb 24 2097184) [40] [(21,Bo (bif q_5 then (ltI 1 o7.2.1) else false))] []) fun q_5=>
 .cond (bif q_5 then (ltI 1 o7.2.1) else false) (
 .ret 0)<|
 .ret o7.2.2
theorem zPE {a1:Int} {vn2:Int} {r:Int} (h:zFg a1 vn2=some r):zD Tryz.prog 219 [I a1,I vn2] (I r) []:=CtU (zOn a1 vn2) 4 (fun r=>I r) Tryz.func219 rfl rfl h
def zPp (a1:Int) (vn2:Int):=fC zNv (zFg a1 vn2) fun _=>zPE
theorem zWa:CfW Tryz.prog 186:=cfW Tryz.func186
noncomputable def zXR (x1:(Int×Int)) (vn2:Int):T Tryz.prog Int:=
 .cond (eqI x1.1 1) (.op1 (zPp vn2 x1.2) fun y4=>
 .ret y4)<|.n0 dvN<|
 .cond (eqI (Int.tmod vn2 2) 0) (
 .ret 0)<|.op1 (zAq vn2 4) fun y6=>.op1 (zMo vn2) fun y7=>
 .frc (w64 (2 - y6)) fun delta8=>
 .cond (eqI x1.1 2) (
 .ret delta8)<|
 .cond (eqI x1.1 3) (
 .ret y7)<|
 .frc (w64 (delta8*y7)) fun t11=>.ret t11
theorem zX6 {x1:(Int×Int)} {vn2:Int} {r:Int} (h:zIp x1 vn2=some r):zD Tryz.prog 186 [.ag [Ti x1.1,Ti x1.2],I vn2] (I r) []:=CtU (zXR x1 vn2) 4 (fun r=>I r) Tryz.func186 rfl rfl h
def zY4 (x1:(Int×Int)) (vn2:Int):=fC zWa (zIp x1 vn2) fun _=>zX6
theorem zSO:CfW Tryz.prog 148:=cfW Tryz.func148
noncomputable def zTM (d1:Int) (vn2:Int):T Tryz.prog (List Int):=
 .n1 (nilN 3 1 (by decide))<|
 .n1 (nilN 3 1 (by decide))<|
 .op1 (zWy d1) fun y3=>.n0 (lenM zFs y3)<|
 .loop (fun n X_1=>zFL vn2 y3 n X_1.1 X_1.2) ((0,([]:List Int))) (mb 23 3618) [72,40] (fun s X_1 γ=>s.pc (mb 23 3618) [72,40] [(11,I X_1.1)] [(40,.arr 3 1 (X_1.2.map c3))]) (fun X_1=>
 .cond (ltI X_1.1 ((y3.length:Int))) (.op0 (zBD zFs y3 X_1.1) fun e9=>.op0 (ldo zFs y3 X_1.1) fun e10=>
 .op1 (zY4 e10 vn2) fun y11=>.n1 bsl<|.opx (app ct3 X_1.2 ([y11])) fun u12=>
 .frc (w64 (X_1.1+1)) fun t13=>.ret (.inl ((t13,X_1.2++([y11])))))<|.ret (.inr X_1.2)) (mb 23 32) [40] (fun s o7 γ=>s.pc (mb 23 32) [40] [] [(40,.arr 3 1 (o7.map c3))]) fun o7=>
 .ret o7
theorem zT9 {d1:Int} {vn2:Int} {r:List Int} (h:zHF d1 vn2=some r):zD Tryz.prog 148 [I d1,I vn2] (.ow 0) [(0,.arr 3 1 (r.map c3))]:=CtT (zTM d1 vn2) (fun r=>(.ow 0,[(0,.arr 3 1 (r.map c3))])) (rs:=[.t 4]) (vs:=[.tmp 4]) Tryz.func148 rfl rfl (.cons rfl FitsL.nil) h
def zUM (d1:Int) (vn2:Int):=fC zSO (zHF d1 vn2) fun _=>zT9
theorem zW9:CfW Tryz.prog 105:=cfW Tryz.func105
noncomputable def zXQ (f1:τF):T Tryz.prog (List Int):=
 .n1 (nilN 3 1 (by decide))<|
 .draw 7 []<|.op1 (zAm f1) fun y2=>.op1 (zCV f1) fun y3=>.op1 (zSk y3) fun y4=>.op1 (zUM y2 y4) fun y5=>
 .ret y5
theorem zX5 {f1:τF} {r:List Int} (h:zE3 f1=some r):zD Tryz.prog 105 [.ag [Ti f1.1,Ti f1.2.1,Ti f1.2.2]] (.ow 0) [(0,.arr 3 1 (r.map c3))]:=CtT (zXQ f1) (fun r=>(.ow 0,[(0,.arr 3 1 (r.map c3))])) (rs:=[.t 2]) (vs:=[.tmp 2]) Tryz.func105 rfl rfl (.cons rfl FitsL.nil) h
def zY3 (f1:τF):=fC zW9 (zE3 f1) fun _=>zX5
theorem zPY:CfW Tryz.prog 150:=cfW Tryz.func150
noncomputable def zQ0 (vn1:Int):T Tryz.prog Bool:=
 .op1 (zE6 vn1 1 10000) fun y2=>
 .ret y2
theorem zQx {vn1:Int} {r:Bool} (h:zEf vn1=some r):zD Tryz.prog 150 [I vn1] (Bo r) []:=CtU (zQ0 vn1) 2 (fun r=>Bo r) Tryz.func150 rfl rfl h
def zSb (vn1:Int):=fC zPY (zEf vn1) fun _=>zQx
theorem zSC:CfW Tryz.prog 187:=cfW Tryz.func187
noncomputable def zTA (vn1:Int):T Tryz.prog Int:=
 .loop (fun n X_1=>zCG vn1 n X_1.1 X_1.2) ((0,1000000000)) (mb 23 25) [] (fun s X_1 γ=>s.pc (mb 23 25) [] [(3,I X_1.1),(4,I X_1.2)] []) (fun X_1=>
 .cond (ltI X_1.1 X_1.2) (.n0 dvN<|
 .frc (w64 (Int.tdiv (w64 ((w64 (X_1.1+X_1.2))+1)) 2)) fun mid7=>
 .cond (leI (w64 (mid7*mid7)) vn1) (
 .ret (.inl ((mid7,X_1.2))))<|
 .frc (w64 (mid7 - 1)) fun hi9=>.ret (.inl ((X_1.1,hi9))))<|.ret (.inr X_1.1)) (mb 23 8) [] (fun s o5 γ=>s.pc (mb 23 8) [] [(3,I o5)] []) fun o5=>
 .ret o5
theorem zTX {vn1:Int} {r:Int} (h:zEF vn1=some r):zD Tryz.prog 187 [I vn1] (I r) []:=CtU (zTA vn1) 2 (fun r=>I r) Tryz.func187 rfl rfl h
def zUF (vn1:Int):=fC zSC (zEF vn1) fun _=>zTX
theorem zTi:CfW Tryz.prog 188:=cfW Tryz.func188
noncomputable def zVB (l1:List (Int×Int)) (p2:(Int×Int)):T Tryz.prog Bool:=
 .n0 (lenM zG0 l1)<|
 .loopS (fun n X_1=>zCY l1 p2 n X_1) 0 (mb 17 904) [24] (fun s X_1 γ=>s.pc (mb 17 904) [24] [(9,I X_1)] []) (fun X_1=>
 .cond (ltI X_1 ((l1.length:Int))) (.op0 (idxM zG0 l1 X_1) fun e7=>
 .n0 (eqg2 z7W)<|
 .cond (((e7.1==p2.1)&&(e7.2==p2.2))) (
 .ret (.early true))<|
 .frc (w64 (X_1+1)) fun t9=>.ret (.again t9))<|.ret (.done (()))) (mb 17 0) [] (fun s o5 γ=>s.pc (mb 17 0) [] [] []) (fun r=>r) fun o5=>
 .ret false
theorem zVZ {l1:List (Int×Int)} {p2:(Int×Int)} {r:Bool} (h:zCu l1 p2=some r):zD Tryz.prog 188 [.c (.sl (l1.map c184)),.ag [Ti p2.1,Ti p2.2]] (Bo r) []:=CtU (zVB l1 p2) 4 (fun r=>Bo r) Tryz.func188 rfl rfl h
def zWq (l1:List (Int×Int)) (p2:(Int×Int)):=fC zTi (zCu l1 p2) fun _=>zVZ
theorem zTh:CfW Tryz.prog 189:=cfW Tryz.func189
noncomputable def zVA (l1:List (Int×Int)) (p2:(Int×Int)):T Tryz.prog (List (Int×Int)):=
 .n1 (nilN 184 2 (by decide))<|
 .loop (fun n X_2=>zCX l1 p2 n X_2) 0 (mb 57 41) [24] (fun s X_2 γ=>s.pc (mb 57 41) [24] [(5,I X_2)] []) (fun X_2=>
 .dn<|.joinC (.draw 34 []<|.n0 (lenM zG0 l1)<|.seqT (.cond (ltI X_2 ((l1.length:Int))) (.op0 (idxM zG0 l1 X_2) fun e7=>.seqT (.cond (ltI e7.1 p2.1) (.ret true) (.op0 (idxM zG0 l1 X_2) fun e9=>.seqT (.cond (eqI e9.1 p2.1) (.op0 (idxM zG0 l1 X_2) fun e11=>.ret (ltI e11.2 p2.2)) (.ret false)) fun b12=>.ret b12)) fun b13=>.ret b13) (.ret false)) fun b14=>.ret b14) (mb 57 1099511627817) [24] (fun s q_1 γ=>s.pc (mb 57 1099511627817) [24] [(40,Bo q_1)] []) fun q_1=>
 .cond q_1 (
 .frc (w64 (X_2+1)) fun k16=>.ret (.inl k16))<|.ret (.inr X_2)) (mb 57 41) [24] (fun s o5 γ=>s.pc (mb 57 41) [24] [(5,I o5)] []) fun o5=>
 .n1 bsl0<|.op0 (slice zG0 l1 0 o5) fun u17=>.opx (app zG0 (([]:List (Int×Int))) (subl l1 0 o5)) fun u18=>
 .n1 bsl<|.opx (app zG0 ((([]:List (Int×Int)))++(subl l1 0 o5)) ([p2])) fun u19=>
 .op0 (slice zG0 l1 o5 ((l1.length:Int))) fun u20=>.opx (app zG0 (((([]:List (Int×Int)))++(subl l1 0 o5))++([p2])) (subl l1 o5 ((l1.length:Int)))) fun u21=>
 .lt ((((([]:List (Int×Int)))++(subl l1 0 o5))++([p2]))++(subl l1 o5 ((l1.length:Int)))) fun l22=>.ret l22
theorem zVY {l1:List (Int×Int)} {p2:(Int×Int)} {r:List (Int×Int)} (h:zDi l1 p2=some r):zD Tryz.prog 189 [.c (.sl (l1.map c184)),.ag [Ti p2.1,Ti p2.2]] (.ow 0) [(0,.arr 184 2 (r.map c184))]:=CtT (zVA l1 p2) (fun r=>(.ow 0,[(0,.arr 184 2 (r.map c184))])) (rs:=[.t 4]) (vs:=[.tmp 4]) Tryz.func189 rfl rfl (.cons rfl FitsL.nil) h
def zWp (l1:List (Int×Int)) (p2:(Int×Int)):=fC zTh (zDi l1 p2) fun _=>zVY
theorem zW6:CfW Tryz.prog 151:=cfW Tryz.func151
noncomputable def zXO (f1:τF) (vn2:Int):T Tryz.prog (List (Int×Int)):=
 .n1 (nilN 184 2 (by decide))<|
 .op1 (zAm f1) fun y3=>
 .n1 (nilN 184 2 (by decide))<|
 .hint (frzH 48)<|.loop (fun n X_3=>zCn f1 vn2 y3 n X_3.1 X_3.2) ((0,([]:List (Int×Int)))) (mb 108 230) [16] (fun s X_3 γ=>s.pc (mb 108 230) [16] [(6,.c (.sl (X_3.2.map c184))),(7,I X_3.1)] []) (fun X_3=>
 .lt (leI (w64 ((w64 ((w64 (0 - y3))*X_3.1))*X_3.1)) (w64 ((w64 (4*f1.1))*vn2))) fun t8=>.cond t8 (.op1 (zUF (w64 ((w64 ((w64 (y3*X_3.1))*X_3.1))+(w64 ((w64 (4*f1.1))*vn2))))) fun y10=>
 .lt (!eqI (w64 (y10*y10)) (w64 ((w64 ((w64 (y3*X_3.1))*X_3.1))+(w64 ((w64 (4*f1.1))*vn2))))) fun t11=>.cond t11 (
 .frc (w64 (X_3.1+1)) fun y13=>.ret (.inl ((y13,X_3.2))))<|.n1 bsl<|.n0 (lenM ct3 ([X_3.1,w64 (0 - X_3.1)]))<|
 .frc ((([X_3.1,w64 (0 - X_3.1)]).length:Int)) fun t14=>.loop (fun n X_2=>zBU f1 t14 vn2 y10 y3 X_3.1 n X_2.1 X_2.2) ((X_3.2,0)) (mb 108 8070450532247929318) [480,16] (fun s X_2 γ=>s.pc (mb 108 8070450532247929318) [480,16] [(6,.c (.sl (X_2.1.map c184))),(62,I X_2.2)] []) (fun X_2=>
 .cond (ltI X_2.2 t14) (.op0 (zBD ct3 ([X_3.1,w64 (0 - X_3.1)]) X_2.2) fun e20=>.op0 (ldo ct3 ([X_3.1,w64 (0 - X_3.1)]) X_2.2) fun e21=>
 .n1 bsl<|.n0 (lenM ct3 ([y10,w64 (0 - y10)]))<|
 .frc ((([y10,w64 (0 - y10)]).length:Int)) fun t22=>.loop (fun n X_1=>jX e21 f1 t14 X_2.2 t22 vn2 y10 y3 X_3.1 n X_1.1 X_1.2) ((X_2.1,0)) (mb 108 4140141123043187492326) [552,480,16] (fun s X_1 γ=>s.pc (mb 108 4140141123043187492326) [552,480,16] [(6,.c (.sl (X_1.1.map c184))),(71,I X_1.2)] []) (fun X_1=>
 .cond (ltI X_1.2 t22) (.op0 (zBD ct3 ([y10,w64 (0 - y10)]) X_1.2) fun e28=>.op0 (ldo ct3 ([y10,w64 (0 - y10)]) X_1.2) fun e29=>
 .op0 (remF .i64 (w64 (e29 - (w64 (f1.2.1*e21)))) (w64 (2*f1.1))) fun z30=>
 .lt (eqI (Int.tmod (w64 (e29 - (w64 (f1.2.1*e21)))) (w64 (2*f1.1))) 0) fun t31=>.cond t31 (.op0 (quoF .i64 (w64 (e29 - (w64 (f1.2.1*e21)))) (w64 (2*f1.1))) fun z33=>.n0 (bld z0H z3m)<|
 .frc (w64 (Int.tdiv (w64 (e29 - (w64 (f1.2.1*e21)))) (w64 (2*f1.1)))) fun f34=>.op1 (zWq X_1.1 ((f34,e21))) fun y35=>
 .cond (!y35) (.op1 (zWp X_1.1 ((f34,e21))) fun y37=>
 .hint (frzH 832)<|
 .frc (w64 (X_1.2+1)) fun t38=>.ret (.inl ((y37,t38))))<|
 .frc (w64 (X_1.2+1)) fun t39=>.ret (.inl ((X_1.1,t39))))<|
 .frc (w64 (X_1.2+1)) fun t40=>.ret (.inl ((X_1.1,t40))))<|.ret (.inr X_1.1)) (mb 108 8070450532247929318) [480,16] (fun s o26 γ=>s.pc (mb 108 8070450532247929318) [480,16] [(6,.c (.sl (o26.map c184)))] []) fun o26=>
 .frc (w64 (X_2.2+1)) fun t41=>.ret (.inl ((o26,t41))))<|.ret (.inr X_2.1)) (mb 108 230) [16] (fun s o18 γ=>s.pc (mb 108 230) [16] [(6,.c (.sl (o18.map c184)))] []) fun o18=>
 .frc (w64 (X_3.1+1)) fun y42=>.ret (.inl ((y42,o18))))<|.ret (.inr X_3.2)) (mb 108 64) [] (fun s o7 γ=>s.pc (mb 108 64) [] [(6,.c (.sl (o7.map c184)))] []) fun o7=>
 .ret o7
theorem zX2 {f1:τF} {vn2:Int} {r:List (Int×Int)} (h:zE2 f1 vn2=some r):zD Tryz.prog 151 [.ag [Ti f1.1,Ti f1.2.1,Ti f1.2.2],I vn2] (.c (.sl (r.map c184))) []:=CtU (zXO f1 vn2) 4 (fun r=>.c (.sl (r.map c184))) Tryz.func151 rfl rfl h
def zY2 (f1:τF) (vn2:Int):=fC zW6 (zE2 f1 vn2) fun _=>zX2
theorem zFo:CfW Tryz.prog 106:=cfW Tryz.func106
noncomputable def zFv (f1:τF) (vn2:Int):T Tryz.prog ((Int×Bool)):=
 .pl<|.dn<|.joinC (.op1 (zKU f1) fun y3=>.seqT (.cond (!y3) (.ret true) (.op1 (zSb vn2) fun y5=>.ret (!y5))) fun b6=>.ret (y3,b6)) (mb 18 8198) [16] (fun s q_1 γ=>s.pc (mb 18 8198) [16] [(13,Bo q_1.2)] []) fun q_1=>
 .cond q_1.2 (
 .ret ((0,false)))<|.op1 (zY2 f1 vn2) fun y8=>.n0 (lenM zG0 y8)<|
 .ret (((y8.length:Int),true))
theorem zFx {f1:τF} {vn2:Int} {r:(Int×Bool)} (h:zAI f1 vn2=some r):zD Tryz.prog 106 [.ag [Ti f1.1,Ti f1.2.1,Ti f1.2.2],I vn2] (.tc (I r.1) (.tc (Bo r.2) .tn)) []:=CtT (zFv f1 vn2) (fun r=>(.tc (I r.1) (.tc (Bo r.2) .tn),[])) (rs:=[.t 4,.t 5]) (vs:=[.tmp 4,.tmp 5]) Tryz.func106 rfl rfl (.cons rfl (.cons rfl FitsL.nil)) h
def zGF (f1:τF) (vn2:Int):=fC zFo (zAI f1 vn2) fun _=>zFx
theorem zTv:CfW Tryz.prog 221:=cfW Tryz.func221
noncomputable def zVN (vm1:τM):T Tryz.prog Int:=
 .frc (w64 ((w64 (vm1.1*vm1.2.2.2)) - (w64 (vm1.2.1*vm1.2.2.1)))) fun t2=>.ret t2
theorem zVd {vm1:τM} {r:Int} (h:zHo vm1=some r):zD Tryz.prog 221 [.ag [Ti vm1.1,Ti vm1.2.1,Ti vm1.2.2.1,Ti vm1.2.2.2]] (I r) []:=CtU (zVN vm1) 2 (fun r=>I r) Tryz.func221 rfl rfl h
def zWw (vm1:τM):=fC zTv (zHo vm1) fun _=>zVd
theorem zM6:CfW Tryz.prog 190:=cfW Tryz.func190
noncomputable def zNK (vm1:τM):T Tryz.prog (τM):=
 .op1 (zWw vm1) fun y2=>
 .n0 (bld zDW zDe)<|
 .frc (w64 (y2*vm1.2.2.2)) fun f3=>.frc (w64 ((w64 (0 - y2))*vm1.2.1)) fun f4=>.frc (w64 ((w64 (0 - y2))*vm1.2.2.1)) fun f5=>.frc (w64 (y2*vm1.1)) fun f6=>.ret ((f3,f4,f5,f6))
theorem zN2 {vm1:τM} {r:τM} (h:zDj vm1=some r):zD Tryz.prog 190 [.ag [Ti vm1.1,Ti vm1.2.1,Ti vm1.2.2.1,Ti vm1.2.2.2]] (.ag [Ti r.1,Ti r.2.1,Ti r.2.2.1,Ti r.2.2.2]) []:=CtT (zNK vm1) (fun r=>(.ag [Ti r.1,Ti r.2.1,Ti r.2.2.1,Ti r.2.2.2],[])) (rs:=[.w 2 4]) (vs:=[.cell 2 120]) Tryz.func190 rfl rfl (.cons ⟨rfl,zFF⟩ FitsL.nil) h
def zOZ (vm1:τM):=fC zM6 (zDj vm1) fun _=>zN2
theorem zOC:CfW Tryz.prog 191:=cfW Tryz.func191
noncomputable def zOu (vm1:τM):T Tryz.prog Bool:=
 .pl<|.joinC (.op1 (zCi vm1.1) fun y2=>.seqT (.cond y2 (.op1 (zCi vm1.2.1) fun y4=>.ret y4) (.ret false)) fun b5=>.seqT (.cond b5 (.op1 (zCi vm1.2.2.1) fun y7=>.ret y7) (.ret false)) fun b8=>.seqT (.cond b8 (.op1 (zCi vm1.2.2.2) fun y10=>.ret y10) (.ret false)) fun b11=>.ret (y2,b5,b8,b11)) (mb 21 4) [] (fun s q_1 γ=>s.pc (mb 21 4) [] [(2,Bo q_1.2.2.2)] []) fun q_1=>
 .ret q_1.2.2.2
theorem zPL {vm1:τM} {r:Bool} (h:zDK vm1=some r):zD Tryz.prog 191 [.ag [Ti vm1.1,Ti vm1.2.1,Ti vm1.2.2.1,Ti vm1.2.2.2]] (Bo r) []:=CtU (zOu vm1) 2 (fun r=>Bo r) Tryz.func191 rfl rfl h
def zPv (vm1:τM):=fC zOC (zDK vm1) fun _=>zPL
theorem zGb:CfW Tryz.prog 152:=cfW Tryz.func152
noncomputable def zGw (f1:τF) (g2:τF):T Tryz.prog ((τM×Bool)):=
 .pl<|.dn<|.joinC (.op1 (zCb f1) fun y3=>.seqT (.cond (!y3) (.ret true) (.op1 (zCb g2) fun y5=>.ret (!y5))) fun b6=>.ret (y3,b6)) (mb 44 262172) [32,24,16] (fun s q_2 γ=>s.pc (mb 44 262172) [32,24,16] [(18,Bo q_2.2)] []) fun q_2=>
 .cond q_2.2 (.n0 (bld zDW zDe)<|
 .ret (((0,0,0,0),false)))<|.op1 (zBx f1) fun y8=>
 .op1 (zBx g2) fun y9=>
 .draw 5 []<|.op1 (zOZ y9.2) fun y10=>.op1 (zFB y8.2 y10) fun y11=>
 .dn<|.joinC (.n0 (neg3 z0K)<|.seqT (.cond (!((y8.1.1==y9.1.1)&&((y8.1.2.1==y9.1.2.1)&&(y8.1.2.2==y9.1.2.2)))) (.ret true) (.op1 (zPv y11) fun y13=>.ret (!y13))) fun b14=>.ret b14) (mb 44 2199023256592) [80,32] (fun s q_1 γ=>s.pc (mb 44 2199023256592) [80,32] [(41,Bo q_1)] []) fun q_1=>
 .cond q_1 (.n0 (bld zDW zDe)<|
 .ret (((0,0,0,0),false)))<|
 .ret ((y11,true))
theorem zHB {f1:τF} {g2:τF} {r:(τM×Bool)} (h:zAh f1 g2=some r):zD Tryz.prog 152 [.ag [Ti f1.1,Ti f1.2.1,Ti f1.2.2],.ag [Ti g2.1,Ti g2.2.1,Ti g2.2.2]] (.tc (.ag [Ti r.1.1,Ti r.1.2.1,Ti r.1.2.2.1,Ti r.1.2.2.2]) (.tc (Bo r.2) .tn)) []:=CtT (zGw f1 g2) (fun r=>(.tc (.ag [Ti r.1.1,Ti r.1.2.1,Ti r.1.2.2.1,Ti r.1.2.2.2]) (.tc (Bo r.2) .tn),[])) (rs:=[.w 4 4,.t 5]) (vs:=[.cell 4 120,.tmp 5]) Tryz.func152 rfl rfl (.cons ⟨rfl,zFF⟩ (.cons rfl FitsL.nil)) h
def zHJ (f1:τF) (g2:τF):=fC zGb (zAh f1 g2) fun _=>zHB
theorem zJF:CfW Tryz.prog 154:=cfW Tryz.func154
noncomputable def zJj (vm1:τM):T Tryz.prog ByteArray:=
 .draw 21 []<|.op1 (zDH vm1.1) fun y2=>.op0 (cat ((⟨#[91]⟩:ByteArray)) y2) fun u3=>.op0 (cat (((⟨#[91]⟩:ByteArray))++y2) ((⟨#[44]⟩:ByteArray))) fun u4=>.op1 (zDH vm1.2.1) fun y5=>.op0 (cat ((((⟨#[91]⟩:ByteArray))++y2)++((⟨#[44]⟩:ByteArray))) y5) fun u6=>.op0 (cat (((((⟨#[91]⟩:ByteArray))++y2)++((⟨#[44]⟩:ByteArray)))++y5) ((⟨#[59]⟩:ByteArray))) fun u7=>.op1 (zDH vm1.2.2.1) fun y8=>.op0 (cat ((((((⟨#[91]⟩:ByteArray))++y2)++((⟨#[44]⟩:ByteArray)))++y5)++((⟨#[59]⟩:ByteArray))) y8) fun u9=>.op0 (cat (((((((⟨#[91]⟩:ByteArray))++y2)++((⟨#[44]⟩:ByteArray)))++y5)++((⟨#[59]⟩:ByteArray)))++y8) ((⟨#[44]⟩:ByteArray))) fun u10=>.op1 (zDH vm1.2.2.2) fun y11=>.op0 (cat ((((((((⟨#[91]⟩:ByteArray))++y2)++((⟨#[44]⟩:ByteArray)))++y5)++((⟨#[59]⟩:ByteArray)))++y8)++((⟨#[44]⟩:ByteArray))) y11) fun u12=>.op0 (cat (((((((((⟨#[91]⟩:ByteArray))++y2)++((⟨#[44]⟩:ByteArray)))++y5)++((⟨#[59]⟩:ByteArray)))++y8)++((⟨#[44]⟩:ByteArray)))++y11) ((⟨#[93]⟩:ByteArray))) fun u13=>
 .ret ((((((((((⟨#[91]⟩:ByteArray))++y2)++((⟨#[44]⟩:ByteArray)))++y5)++((⟨#[59]⟩:ByteArray)))++y8)++((⟨#[44]⟩:ByteArray)))++y11)++((⟨#[93]⟩:ByteArray)))
theorem zJr {vm1:τM} {r:ByteArray} (h:zA5 vm1=some r):zD Tryz.prog 154 [.ag [Ti vm1.1,Ti vm1.2.1,Ti vm1.2.2.1,Ti vm1.2.2.2]] (.c (.v (.string r))) []:=CtU (zJj vm1) 2 (fun r=>.c (.v (.string r))) Tryz.func154 rfl rfl h
def zEC (vm1:τM):=fC zJF (zA5 vm1) fun _=>zJr
theorem zSB:CfW Tryz.prog 153:=cfW Tryz.func153
noncomputable def zSz (l1:List ByteArray):T Tryz.prog ByteArray:=
 .n0 (lenM ct9 l1)<|
 .loop (fun n X_1=>zAu l1 n X_1.1 X_1.2) (((⟨#[]⟩:ByteArray),0)) (mb 22 456) [] (fun s X_1 γ=>s.pc (mb 22 456) [] [(3,.c (.v (.string X_1.1))),(8,I X_1.2)] []) (fun X_1=>
 .cond (ltI X_1.2 ((l1.length:Int))) (.op0 (idxM ct9 l1 X_1.2) fun e7=>
 .cond (ltI 0 X_1.2) (.op0 (cat X_1.1 ((⟨#[32]⟩:ByteArray))) fun u9=>
 .op0 (cat (X_1.1++((⟨#[32]⟩:ByteArray))) e7) fun u10=>
 .frc (w64 (X_1.2+1)) fun t11=>.ret (.inl (((X_1.1++((⟨#[32]⟩:ByteArray)))++e7,t11))))<|.op0 (cat X_1.1 e7) fun u12=>
 .frc (w64 (X_1.2+1)) fun t13=>.ret (.inl ((X_1.1++e7,t13))))<|.ret (.inr X_1.1)) (mb 22 8) [] (fun s o5 γ=>s.pc (mb 22 8) [] [(3,.c (.v (.string o5)))] []) fun o5=>
 .ret o5
theorem zTW {l1:List ByteArray} {r:ByteArray} (h:zDO l1=some r):zD Tryz.prog 153 [.c (.sl (l1.map c9))] (.c (.v (.string r))) []:=CtU (zSz l1) 2 (fun r=>.c (.v (.string r))) Tryz.func153 rfl rfl h
def zKS (l1:List ByteArray):=fCs zSB (zDO l1) (fun _=>zTW) fun _=>rfl
theorem zFN:CfW Tryz.prog 107:=cfW Tryz.func107
noncomputable def zFV (f1:τF) (g2:τF):T Tryz.prog ((ByteArray×Bool)):=
 .op1 (zHJ f1 g2) fun y3=>
 .cond (!y3.2) (
 .ret (((⟨#[]⟩:ByteArray),false)))<|.draw 10 []<|.op1 (zCj f1) fun y5=>.op1 (zCj g2) fun y6=>.op1 (zEC y3.1) fun y7=>.n1 bsl<|.op1 (zKS ([(⟨#[101,113,117,105,118,97,108,101,110,116]⟩:ByteArray),y5,y6,y7])) fun y8=>
 .ret ((y8,true))
theorem zFY {f1:τF} {g2:τF} {r:(ByteArray×Bool)} (h:jS f1 g2=some r):zD Tryz.prog 107 [.ag [Ti f1.1,Ti f1.2.1,Ti f1.2.2],.ag [Ti g2.1,Ti g2.2.1,Ti g2.2.2]] (.tc (.c (.v (.string r.1))) (.tc (Bo r.2) .tn)) []:=CtT (zFV f1 g2) (fun r=>(.tc (.c (.v (.string r.1))) (.tc (Bo r.2) .tn),[])) (rs:=[.t 4,.t 5]) (vs:=[.tmp 4,.tmp 5]) Tryz.func107 rfl rfl (.cons rfl (.cons rfl FitsL.nil)) h
def zF9 (f1:τF) (g2:τF):=fC zFN (jS f1 g2) fun _=>zFY
theorem zF7:CfW Tryz.prog 108:=cfW Tryz.func108
noncomputable def zFc (f1:τF) (g2:τF):T Tryz.prog ((ByteArray×Bool)):=
 .pl<|.dn<|.joinC (.op1 (zCb f1) fun y3=>.seqT (.cond (!y3) (.ret true) (.op1 (zCb g2) fun y5=>.ret (!y5))) fun b6=>.ret (y3,b6)) (mb 45 131084) [24,16] (fun s q_1 γ=>s.pc (mb 45 131084) [24,16] [(17,Bo q_1.2)] []) fun q_1=>
 .cond q_1.2 (
 .ret (((⟨#[]⟩:ByteArray),false)))<|.op1 (zBx f1) fun y8=>
 .op1 (zBx g2) fun y9=>
 .n0 (eqg3 zUc)<|
 .lt (((y8.1.1==y9.1.1)&&((y8.1.2.1==y9.1.2.1)&&(y8.1.2.2==y9.1.2.2)))) fun t10=>.cond t10 (
 .ret (((⟨#[]⟩:ByteArray),false)))<|.draw 16 []<|.op1 (zCj f1) fun y12=>.op1 (zEC y8.2) fun y13=>.op1 (zCj y8.1) fun y14=>.op1 (zCj g2) fun y15=>.op1 (zEC y9.2) fun y16=>.op1 (zCj y9.1) fun y17=>.n1 bsl<|.op1 (zKS ([(⟨#[100,105,102,102,101,114,101,110,116]⟩:ByteArray),y12,y13,y14,y15,y16,y17])) fun y18=>
 .ret ((y18,true))
theorem zFe {f1:τF} {g2:τF} {r:(ByteArray×Bool)} (h:jZ f1 g2=some r):zD Tryz.prog 108 [.ag [Ti f1.1,Ti f1.2.1,Ti f1.2.2],.ag [Ti g2.1,Ti g2.2.1,Ti g2.2.2]] (.tc (.c (.v (.string r.1))) (.tc (Bo r.2) .tn)) []:=CtT (zFc f1 g2) (fun r=>(.tc (.c (.v (.string r.1))) (.tc (Bo r.2) .tn),[])) (rs:=[.t 4,.t 5]) (vs:=[.tmp 4,.tmp 5]) Tryz.func108 rfl rfl (.cons rfl (.cons rfl FitsL.nil)) h
def zFq (f1:τF) (g2:τF):=fC zF7 (jZ f1 g2) fun _=>zFe
theorem zLE:CfW Tryz.prog 75:=cfW Tryz.func75
noncomputable def zLa (x1:(τS×(List τS))) (word2:ByteArray) (w3:((List ByteArray)×τF×Int)):T Tryz.prog ((ByteArray×(τS×(List τS)))):=
 .n0 au<|
 .n1 (nilN 42 3 (by decide))<|
 .pl<|.join (.joinC (.selB (word2.toList==((⟨#[109,117,108]⟩:ByteArray)).toList) false [] fun w_4=>.ret w_4) (mb 167 2147484579) [64,56,40,80000,90003] (fun s q_5 γ=>s.pc (mb 167 2147484579) [64,56,40,80000,90003] [(31,Bo (bif q_5 then true else (word2.toList==((⟨#[112,111,119]⟩:ByteArray)).toList)))] [(80000,s.pbx 80000 [Ti x1.1.1,.v (.string x1.1.2.1),.sl (x1.1.2.2.map c42),.v (zE (γ 90003))]),(90003,.qarr (γ 90003) 53 3 (x1.2.map c53))]) fun q_5=>
 .lt (bif q_5 then true else (word2.toList==((⟨#[112,111,119]⟩:ByteArray)).toList)) fun t6=>.cond t6 (.op0 (slice ct9 w3.1 1 ((w3.1.length:Int))) fun u8=>
 .ret (subl w3.1 1 ((w3.1.length:Int))))<|.ret w3.1) (mb 167 931) [64,56,40,80000,90003] (fun s j4 γ=>s.pc (mb 167 931) [64,56,40,80000,90003] [(9,.c (.sl (j4.map c9)))] [(80000,s.pbx 80000 [Ti x1.1.1,.v (.string x1.1.2.1),.sl (x1.1.2.2.map c42),.v (zE (γ 90003))]),(90003,.qarr (γ 90003) 53 3 (x1.2.map c53))]) fun j4=>
 .n0 (lenM ct9 j4)<|
 .loopS (fun n X_7=>jC j4 w3 word2 x1 n X_7.1 X_7.2) ((0,([]:List τF))) (mb 167 240518168995) [64,56,40,80000,90003] (fun s X_7 γ=>s.pc (mb 167 240518168995) [64,56,40,80000,90003] [(37,I X_7.1)] [(64,.arr 42 3 (X_7.2.map c42)),(80000,s.pbx 80000 [Ti x1.1.1,.v (.string x1.1.2.1),.sl (x1.1.2.2.map c42),.v (zE (γ 90003))]),(90003,.qarr (γ 90003) 53 3 (x1.2.map c53))]) (fun X_7=>
 .cond (ltI X_7.1 ((j4.length:Int))) (.op0 (idxM ct9 j4 X_7.1) fun e14=>
 .op1 (zEB x1.1 e14) fun y15=>
 .cond (ltI y15 0) (
 .ret (.early (((⟨#[110,111]⟩:ByteArray),x1))))<|.op0 (idxM ct42 x1.1.2.2 y15) fun e17=>.n1 bsl<|.opx (app ct42 X_7.2 ([e17])) fun u18=>
 .frc (w64 (X_7.1+1)) fun t19=>.ret (.again ((t19,X_7.2++([e17])))))<|.ret (.done X_7.2)) (mb 167 419) [64,56,40,80000,90003] (fun s o12 γ=>s.pc (mb 167 419) [64,56,40,80000,90003] [] [(64,.arr 42 3 (o12.map c42)),(80000,s.pbx 80000 [Ti x1.1.1,.v (.string x1.1.2.1),.sl (x1.1.2.2.map c42),.v (zE (γ 90003))]),(90003,.qarr (γ 90003) 53 3 (x1.2.map c53))]) (fun r=>r) fun o12=>
 .cond (word2.toList==((⟨#[109,117,108]⟩:ByteArray)).toList) (.draw 12 []<|.op0 (idxM ct9 w3.1 0) fun e21=>.op0 (zBD ct42 o12 0) fun e22=>.op0 (ldo ct42 o12 0) fun e23=>.op0 (zBD ct42 o12 1) fun e24=>.op0 (ldo ct42 o12 1) fun e25=>.op1 (zGE e23 e25) fun y26=>.opx (zDF x1 e21 y26) fun y27=>
 .ret ((y27.1,y27.2)))<|
 .cond (word2.toList==((⟨#[112,111,119]⟩:ByteArray)).toList) (.draw 11 []<|.op0 (idxM ct9 w3.1 0) fun e29=>.op0 (zBD ct42 o12 0) fun e30=>.op0 (ldo ct42 o12 0) fun e31=>.op1 (zSh e31 w3.2.2) fun y32=>.opx (zDF x1 e29 y32) fun y33=>
 .ret ((y33.1,y33.2)))<|
 .lt (word2.toList==((⟨#[115,104,111,119]⟩:ByteArray)).toList) fun t34=>.cond t34 (.op0 (zBD ct42 o12 0) fun e36=>.op0 (ldo ct42 o12 0) fun e37=>.op1 (zCj e37) fun y38=>
 .ret ((y38,x1)))<|
 .lt (word2.toList==((⟨#[105,110,100,101,120]⟩:ByteArray)).toList) fun t39=>.cond t39 (.draw 9 []<|.op1 (zUE x1.1.1) fun y41=>.op0 (zBD ct42 o12 0) fun e42=>.op0 (ldo ct42 o12 0) fun e43=>.op1 (zS7 y41 e43) fun y44=>.op1 (zFA y44) fun y45=>
 .ret ((y45,x1)))<|
 .lt (word2.toList==((⟨#[111,114,100,101,114]⟩:ByteArray)).toList) fun t46=>.cond t46 (.op0 (zBD ct42 o12 0) fun e48=>.op0 (ldo ct42 o12 0) fun e49=>.op1 (zSj e49) fun y50=>.op1 (zFA y50) fun y51=>
 .ret ((y51,x1)))<|
 .lt (word2.toList==((⟨#[103,101,110,117,115]⟩:ByteArray)).toList) fun t52=>.cond t52 (
 .op0 (zBD ct42 o12 0) fun e54=>.op0 (ldo ct42 o12 0) fun e55=>.op1 (zY3 e55) fun y56=>.n0 (lenM ct3 y56)<|
 .loop (fun n X_6=>zAD x1 y56 n X_6.1 X_6.2) (((⟨#[]⟩:ByteArray),0)) (mb 167 72692156019487586799426948609089536) [904,80000,90003] (fun s X_6 γ=>s.pc (mb 167 72692156019487586799426948609089536) [904,80000,90003] [(13,.c (.v (.string X_6.1))),(115,I X_6.2)] [(80000,s.pbx 80000 [Ti x1.1.1,.v (.string x1.1.2.1),.sl (x1.1.2.2.map c42),.v (zE (γ 90003))]),(90003,.qarr (γ 90003) 53 3 (x1.2.map c53))]) (fun X_6=>
 .cond (ltI X_6.2 ((y56.length:Int))) (.op0 (zBD ct3 y56 X_6.2) fun e62=>.op0 (ldo ct3 y56 X_6.2) fun e63=>
 .cond (ltI 0 e63) (.op0 (cat X_6.1 ((⟨#[43]⟩:ByteArray))) fun u65=>
 .frc (w64 (X_6.2+1)) fun t66=>.ret (.inl ((X_6.1++((⟨#[43]⟩:ByteArray)),t66))))<|.op0 (cat X_6.1 ((⟨#[45]⟩:ByteArray))) fun u67=>
 .frc (w64 (X_6.2+1)) fun t68=>.ret (.inl ((X_6.1++((⟨#[45]⟩:ByteArray)),t68))))<|.ret (.inr X_6.1)) (mb 167 8192) [80000,90003] (fun s o60 γ=>s.pc (mb 167 8192) [80000,90003] [(13,.c (.v (.string o60)))] [(80000,s.pbx 80000 [Ti x1.1.1,.v (.string x1.1.2.1),.sl (x1.1.2.2.map c42),.v (zE (γ 90003))]),(90003,.qarr (γ 90003) 53 3 (x1.2.map c53))]) fun o60=>
 .ret ((o60,x1)))<|
 .lt (word2.toList==((⟨#[118,97,108,117,101]⟩:ByteArray)).toList) fun t69=>.cond t69 (.draw 11 []<|.op0 (zBD ct42 o12 0) fun e71=>.op0 (ldo ct42 o12 0) fun e72=>.op1 (zGF e72 w3.2.2) fun y73=>
 .cond (!y73.2) (
 .ret (((⟨#[110,111]⟩:ByteArray),x1)))<|.op1 (zFA y73.1) fun y75=>
 .ret ((y75,x1)))<|.draw 12 []<|.op0 (zBD ct42 o12 0) fun e76=>.op0 (ldo ct42 o12 0) fun e77=>.op0 (zBD ct42 o12 1) fun e78=>.op0 (ldo ct42 o12 1) fun e79=>.op1 (zF9 e77 e79) fun y80=>
 .cond (!y80.2) (.draw 12 []<|.op0 (zBD ct42 o12 0) fun e82=>.op0 (ldo ct42 o12 0) fun e83=>.op0 (zBD ct42 o12 1) fun e84=>.op0 (ldo ct42 o12 1) fun e85=>.op1 (zFq e83 e85) fun y86=>
 .cond (!y86.2) (
 .ret (((⟨#[110,111]⟩:ByteArray),x1)))<|
 .ret ((y86.1,x1)))<|
 .cond (!y80.2) (
 .ret (((⟨#[110,111]⟩:ByteArray),x1)))<|
 .ret ((y80.1,x1))
theorem zLw {x1:(τS×(List τS))} {word2:ByteArray} {w3:((List ByteArray)×τF×Int)} {r:(ByteArray×(τS×(List τS)))} (h:qA x1 word2 w3=some r):zJP Tryz.prog 75 [.pt 80000 0,.c (.v (.string word2)),.ag [.sl (w3.1.map c9),Ti w3.2.1.1,Ti w3.2.1.2.1,Ti w3.2.1.2.2,Ti w3.2.2]] 90003 53 3 (fun l=>[(80000,.box [Ti x1.1.1,.v (.string x1.1.2.1),.sl (x1.1.2.2.map c42),.v (zE (l))])]) (x1.2.map c53) (.v (.string r.1)) (fun l=>[(80000,.box [Ti r.2.1.1,.v (.string r.2.1.2.1),.sl (r.2.1.2.2.map c42),.v (zE (l))])]) (r.2.2.map c53):=CqT (zLa x1 word2 w3) 90003 53 3 (fun r=>.v (.string r.1)) (fun r l=>[(80000,.box [Ti r.2.1.1,.v (.string r.2.1.2.1),.sl (r.2.1.2.2.map c42),.v (zE (l))])]) (fun r=>r.2.2.map c53) (rs:=.t 6) (vs:=.tmp 6) Tryz.func75 rfl rfl (.cons rfl FitsL.nil) h
def zMl (x1:(τS×(List τS))) (word2:ByteArray) (w3:((List ByteArray)×τF×Int)):=fQ zLE (qA x1 word2 w3) 80000 4 90003 53 3 (fun _ _ h=>zLw h)
theorem zKA:CfW Tryz.prog 48:=cfW Tryz.func48
noncomputable def zK2 (x1:(τS×(List τS))) (t2:ByteArray):T Tryz.prog ((ByteArray×(τS×(List τS)))):=
 .op1 (zUC t2) fun y3=>
 .cond (!y3.2.2) (
 .ret (((⟨#[119,104,97,116]⟩:ByteArray),x1)))<|.n0 au<|
 .cond (y3.1.toList==((⟨#[100,105,115,99]⟩:ByteArray)).toList) (.op1 (zKV y3.2.1.2.2) fun y6=>
 .cond (!y6) (
 .ret (((⟨#[110,111]⟩:ByteArray),x1)))<|.n0 (bld pl53 bt53)<|.late (z6Z 33)<|.opx (zDX x1 ((y3.2.1.2.2,ByteArray.empty,([]:List τF)))) fun y8=>
 .ret ((y8.1,y8.2)))<|
 .cond (y3.1.toList==((⟨#[115,101,116]⟩:ByteArray)).toList) (.dn<|.joinC (.draw 12 []<|.op1 (zUL y3.2.1.2.1) fun y10=>.seqT (.cond (!y10) (.ret true) (.op1 (zAm y3.2.1.2.1) fun y12=>.ret (!eqI y12 x1.1.1))) fun b13=>.ret (y10,b13)) (mb 100 281474976710721) [48,80000,90003] (fun s q_1 γ=>s.pc (mb 100 281474976710721) [48,80000,90003] [(48,Bo q_1.2)] [(80000,s.pbx 80000 [Ti x1.1.1,.v (.string x1.1.2.1),.sl (x1.1.2.2.map c42),.v (zE (γ 90003))]),(90003,.qarr (γ 90003) 53 3 (x1.2.map c53))]) fun q_1=>
 .cond q_1.2 (
 .ret (((⟨#[110,111]⟩:ByteArray),x1)))<|.draw 8 []<|.op0 (idxM ct9 y3.2.1.1 0) fun e15=>.op1 (zCV y3.2.1.2.1) fun y16=>.opx (zDF x1 e15 y16) fun y17=>
 .ret ((y17.1,y17.2)))<|
 .lt (y3.1.toList==((⟨#[112,114,105,109,101]⟩:ByteArray)).toList) fun t18=>.cond t18 (.op1 (zMt x1.1.1 y3.2.1.2.2) fun y20=>
 .cond (!y20.2) (
 .ret (((⟨#[110,111]⟩:ByteArray),x1)))<|.draw 6 []<|.op0 (idxM ct9 y3.2.1.1 0) fun e22=>.opx (zDF x1 e22 y20.1) fun y23=>
 .ret ((y23.1,y23.2)))<|
 .lt (y3.1.toList==((⟨#[102,114,101,101]⟩:ByteArray)).toList) fun t24=>.cond t24 (.op0 (idxM ct9 y3.2.1.1 0) fun e26=>.opx (zLZ x1 e26) fun y27=>
 .ret ((y27.1,y27.2)))<|
 .lt (y3.1.toList==((⟨#[110,97,109,101,115]⟩:ByteArray)).toList) fun t28=>.cond t28 (
 .cond (x1.1.2.1.toList==((⟨#[]⟩:ByteArray)).toList) (
 .ret (((⟨#[110,111,110,101]⟩:ByteArray),x1)))<|
 .ret ((x1.1.2.1,x1)))<|
 .lt (y3.1.toList==((⟨#[117,110,100,111]⟩:ByteArray)).toList) fun t31=>.cond t31 (.opx (zLX x1) fun y33=>
 .ret ((y33.1,y33.2)))<|.opx (zMl x1 y3.1 y3.2.1) fun y34=>
 .ret ((y34.1,y34.2))
theorem zKj {x1:(τS×(List τS))} {t2:ByteArray} {r:(ByteArray×(τS×(List τS)))} (h:zK x1 t2=some r):zJP Tryz.prog 48 [.pt 80000 0,.c (.v (.string t2))] 90003 53 3 (fun l=>[(80000,.box [Ti x1.1.1,.v (.string x1.1.2.1),.sl (x1.1.2.2.map c42),.v (zE (l))])]) (x1.2.map c53) (.v (.string r.1)) (fun l=>[(80000,.box [Ti r.2.1.1,.v (.string r.2.1.2.1),.sl (r.2.1.2.2.map c42),.v (zE (l))])]) (r.2.2.map c53):=CqT (zK2 x1 t2) 90003 53 3 (fun r=>.v (.string r.1)) (fun r l=>[(80000,.box [Ti r.2.1.1,.v (.string r.2.1.2.1),.sl (r.2.1.2.2.map c42),.v (zE (l))])]) (fun r=>r.2.2.map c53) (rs:=.t 4) (vs:=.tmp 4) Tryz.func48 rfl rfl (.cons rfl FitsL.nil) h
def zLY (x1:(τS×(List τS))) (t2:ByteArray):=fQ zKA (zK x1 t2) 80000 4 90003 53 3 (fun _ _ h=>zKj h)
theorem zTl:CfW Tryz.prog 32:=cfW Tryz.func32
noncomputable def zVE (script1:ByteArray):T Tryz.prog (((τS×(List τS))×(List ByteArray)×Bool)):=
 .n1 (nilN 9 1 (by decide))<|
 .op1 (zSd script1 2000 60) fun y2=>
 .op1 (zWt) fun y3=>
 .cond (!y2.2) (.n1 (nilN 9 1 (by decide))<|
 .late (zVx 128 2)<|.late (zVx 128 3)<|.late (z3H 128)<|.ret ((((y3.1.1,y3.1.2.1,([]:List τF)),([]:List τS)),([]:List ByteArray),false)))<|.n1 (nilN 9 1 (by decide))<|
 .n0 (lenM ct9 y2.1)<|
 .hint (zVx 128 2)<|.hint (nilH 90003 53 3)<|.loop (fun n X_1=>zCF y2 n X_1.1 X_1.2.1 X_1.2.2.1 X_1.2.2.2.1 X_1.2.2.2.2.1 X_1.2.2.2.2.2) ((0,([]:List τS),([]:List ByteArray),y3.1.1,y3.1.2.1,([]:List τF))) (mb 35 7340416) [90003,64,128] (fun s X_1 γ=>s.pc (mb 35 7340416) [90003,64,128] [(22,I X_1.1)] [(90003,.qarr (γ 90003) 53 3 (X_1.2.1.map c53)),(64,.arr 9 1 (X_1.2.2.1.map c9)),(128,.box [Ti X_1.2.2.2.1,.v (.string X_1.2.2.2.2.1),.sl (X_1.2.2.2.2.2.map c42),.v (zE (γ 90003))])]) (fun X_1=>
 .cond (ltI X_1.1 ((y2.1.length:Int))) (.op0 (idxM ct9 y2.1 X_1.1) fun e14=>
 .opx (zLY (((X_1.2.2.2.1,X_1.2.2.2.2.1,X_1.2.2.2.2.2),X_1.2.1)) e14) fun y15=>.n1 bsl<|.opx (app ct9 X_1.2.2.1 ([y15.1])) fun u16=>
 .frc (w64 (X_1.1+1)) fun t17=>.ret (.inl ((t17,y15.2.2,X_1.2.2.1++([y15.1]),y15.2.1.1,y15.2.1.2.1,y15.2.1.2.2))))<|.ret (.inr ((X_1.2.1,X_1.2.2.1,X_1.2.2.2.1,X_1.2.2.2.2.1,X_1.2.2.2.2.2)))) (mb 35 384) [90003,64,128] (fun s o12 γ=>s.pc (mb 35 384) [90003,64,128] [] [(90003,.qarr (γ 90003) 53 3 (o12.1.map c53)),(64,.arr 9 1 (o12.2.1.map c9)),(128,.box [Ti o12.2.2.1,.v (.string o12.2.2.2.1),.sl (o12.2.2.2.2.map c42),.v (zE (γ 90003))])]) fun o12=>
 .late (z0U 90003 128 3)<|.late (z3H 128)<|.ret (((o12.2.2,o12.1),o12.2.1,true))
theorem zV2 {script1:ByteArray} {r:((τS×(List τS))×(List ByteArray)×Bool)} (h:zCv script1=some r):zD Tryz.prog 32 [.c (.v (.string script1))] (.tc (.pe [Ti r.1.1.1,.v (.string r.1.1.2.1),.sl (r.1.1.2.2.map c42),.sl (r.1.2.map c53)]) (.tc (.ow 1) (.tc (Bo r.2.2) .tn))) [(1,.arr 9 1 (r.2.1.map c9))]:=CtT (zVE script1) (fun r=>(.tc (.pe [Ti r.1.1.1,.v (.string r.1.1.2.1),.sl (r.1.1.2.2.map c42),.sl (r.1.2.map c53)]) (.tc (.ow 1) (.tc (Bo r.2.2) .tn)),[(1,.arr 9 1 (r.2.1.map c9))])) (rs:=[.t 2,.t 3,.t 4]) (vs:=[.tmp 2,.tmp 3,.tmp 4]) Tryz.func32 rfl rfl (.cons rfl (.cons rfl (.cons rfl FitsL.nil))) h
def zWs (script1:ByteArray):=fC zTl (zCv script1) fun _=>zV2
theorem zE9:CfW Tryz.prog 111:=cfW Tryz.func111
noncomputable def zEb (vs1:ByteArray) (suffix2:ByteArray):T Tryz.prog Bool:=
 .pl<|.joinC (.seqT (.cond (leI ((suffix2.size:Int)) ((vs1.size:Int))) (.op0 (zHe vs1 (w64 (((vs1.size:Int)) - ((suffix2.size:Int)))) ((vs1.size:Int))) fun u4=>.ret ((vs1.extract (Int.toNat (w64 (((vs1.size:Int)) - ((suffix2.size:Int))))) (Int.toNat ((vs1.size:Int)))).toList==suffix2.toList)) (.ret false)) fun b5=>.ret b5) (mb 21 16) [] (fun s q_1 γ=>s.pc (mb 21 16) [] [(4,Bo q_1)] []) fun q_1=>
 .ret q_1
theorem zEd {vs1:ByteArray} {suffix2:ByteArray} {r:Bool} (h:qR vs1 suffix2=some r):zD Tryz.prog 111 [.c (.v (.string vs1)),.c (.v (.string suffix2))] (Bo r) []:=CtU (zEb vs1 suffix2) 4 (fun r=>Bo r) Tryz.func111 rfl rfl h
def zCc (vs1:ByteArray) (suffix2:ByteArray):=fC zE9 (qR vs1 suffix2) fun _=>zEd
theorem zEX:CfW Tryz.prog 110:=cfW Tryz.func110
noncomputable def zE7 (vs1:ByteArray) (suffix2:ByteArray):T Tryz.prog ByteArray:=
 .op1 (zCc vs1 suffix2) fun y3=>
 .cond y3 (.op0 (zHe vs1 0 (w64 (((vs1.size:Int)) - ((suffix2.size:Int))))) fun u5=>
 .ret (vs1.extract (Int.toNat 0) (Int.toNat (w64 (((vs1.size:Int)) - ((suffix2.size:Int)))))))<|
 .ret vs1
theorem zE8 {vs1:ByteArray} {suffix2:ByteArray} {r:ByteArray} (h:zAA vs1 suffix2=some r):zD Tryz.prog 110 [.c (.v (.string vs1)),.c (.v (.string suffix2))] (.c (.v (.string r))) []:=CtU (zE7 vs1 suffix2) 4 (fun r=>.c (.v (.string r))) Tryz.func110 rfl rfl h
def zEa (vs1:ByteArray) (suffix2:ByteArray):=fC zEX (zAA vs1 suffix2) fun _=>zE8
theorem zIS:CfW Tryz.prog 77:=cfW Tryz.func77
noncomputable def zI0 (vs1:ByteArray) (suffix2:ByteArray):T Tryz.prog ByteArray:=
 .op1 (zEa vs1 suffix2) fun y3=>
 .ret y3
theorem zId {vs1:ByteArray} {suffix2:ByteArray} {r:ByteArray} (h:zC3 vs1 suffix2=some r):zD Tryz.prog 77 [.c (.v (.string vs1)),.c (.v (.string suffix2))] (.c (.v (.string r))) []:=CtU (zI0 vs1 suffix2) 4 (fun r=>.c (.v (.string r))) Tryz.func77 rfl rfl h
def zJQ (vs1:ByteArray) (suffix2:ByteArray):=fC zIS (zC3 vs1 suffix2) fun _=>zId
theorem zJD:CfW Tryz.prog 78:=cfW Tryz.func78
noncomputable def zJh (vs1:ByteArray) (suffix2:ByteArray):T Tryz.prog Bool:=
 .op1 (zCc vs1 suffix2) fun y3=>
 .ret y3
theorem zJp {vs1:ByteArray} {suffix2:ByteArray} {r:Bool} (h:zCl vs1 suffix2=some r):zD Tryz.prog 78 [.c (.v (.string vs1)),.c (.v (.string suffix2))] (Bo r) []:=CtU (zJh vs1 suffix2) 4 (fun r=>Bo r) Tryz.func78 rfl rfl h
def zKK (vs1:ByteArray) (suffix2:ByteArray):=fC zJD (zCl vs1 suffix2) fun _=>zJp
theorem zPf:CfW Tryz.prog 49:=cfW Tryz.func49
noncomputable def zQi (vs1:ByteArray):T Tryz.prog (((List ByteArray)×Bool)):=
 .n1 (nilN 9 1 (by decide))<|
 .cond (vs1.toList==((⟨#[]⟩:ByteArray)).toList) (.n1 bsl0<|
 .ret ((([]:List ByteArray),true)))<|.op1 (zJQ vs1 ((⟨#[10]⟩:ByteArray))) fun y3=>.op1 (zPo y3 ((⟨#[10]⟩:ByteArray))) fun y4=>.op1 (zKK vs1 ((⟨#[10]⟩:ByteArray))) fun y5=>
 .ret ((y4,y5))
theorem zRO {vs1:ByteArray} {r:((List ByteArray)×Bool)} (h:zD8 vs1=some r):zD Tryz.prog 49 [.c (.v (.string vs1))] (.tc (.ow 0) (.tc (Bo r.2) .tn)) [(0,.arr 9 1 (r.1.map c9))]:=CtT (zQi vs1) (fun r=>(.tc (.ow 0) (.tc (Bo r.2) .tn),[(0,.arr 9 1 (r.1.map c9))])) (rs:=[.t 2,.t 3]) (vs:=[.tmp 2,.tmp 3]) Tryz.func49 rfl rfl (.cons rfl (.cons rfl FitsL.nil)) h
def zSn (vs1:ByteArray):=fC zPf (zD8 vs1) fun _=>zRO
theorem zMd:∀args w,(callFunc 112 args).run Tryz.prog w=.ok (.enter 112 args) w:=qN Tryz.func112 kk kk
set_option maxRecDepth 100000 in
set_option maxHeartbeats 400000 in
theorem zNa {word1:ByteArray} {r:(ByteArray×Bool)} (h:zCI word1=some r):zD Tryz.prog 112 [.c (.v (.string word1))] (.tc (.c (.v (.string r.1))) (.tc (Bo r.2) .tn)) []:=by
  refine zAW (rs:=[.t 2,.t 3]) (vs:=[.tmp 2,.tmp 3]) Tryz.func112 rfl rfl (.cons rfl (.cons rfl FitsL.nil)) (by decide) 17 rfl ?_
  unfold zCI at h;show V _ _ ⟨.c (.v (.string word1))::bt 16 [],[]⟩ _;refine jB (mb 17 1) [] (s1:=⟨.c (.v (.string word1))::bt 16 [],[]⟩) ?_ ?_
  ·refine L0 rfl rfl (zF (.c (.v (.string ((⟨#[]⟩:ByteArray))))) rfl kk) ?_
   refine L0 rfl rfl (zF (Bo false) rfl kk) ?_
   refine zH ?_
   kernel_rfl
  obtain⟨l2,hl2,h⟩:=zP h;have hl2:=zV hl2;refine z0j (fun mb7=>⟨.c (.v (.string word1))::bt 3 (.c (.v (.map (some mb7)))::bt 12 []),[(56,.mp mb7 (l2.map kv156))]⟩) (mb 17 17) [56] ?_ ?_
  ·refine zYV rfl rfl rfl fun mb7=>?_
   refine zR rfl (zEY (κ:=ByteArray) (ν:=ByteArray) (ek:=zEJ) (ev:=zF6) (z:=ByteArray.empty) (m:=([]:List (ByteArray×ByteArray))) (a:=(⟨#[100,105,115,99]⟩:ByteArray)) (u:=(⟨#[110]⟩:ByteArray)) (id:=56) (b:=mb7) zGV (.inr rfl) rfl kk kk kk kk) ?_
   refine zR rfl (zEY (κ:=ByteArray) (ν:=ByteArray) (ek:=zEJ) (ev:=zF6) (z:=ByteArray.empty) (m:=mPut ((⟨#[100,105,115,99]⟩:ByteArray)) ((⟨#[110]⟩:ByteArray)) (([]:List (ByteArray×ByteArray)))) (a:=(⟨#[115,101,116]⟩:ByteArray)) (u:=(⟨#[65,102]⟩:ByteArray)) (id:=56) (b:=mb7) zGV (.inr rfl) rfl kk kk kk kk) ?_
   refine zR rfl (zEY (κ:=ByteArray) (ν:=ByteArray) (ek:=zEJ) (ev:=zF6) (z:=ByteArray.empty) (m:=mPut ((⟨#[115,101,116]⟩:ByteArray)) ((⟨#[65,102]⟩:ByteArray)) (mPut ((⟨#[100,105,115,99]⟩:ByteArray)) ((⟨#[110]⟩:ByteArray)) (([]:List (ByteArray×ByteArray))))) (a:=(⟨#[112,114,105,109,101]⟩:ByteArray)) (u:=(⟨#[65,110]⟩:ByteArray)) (id:=56) (b:=mb7) zGV (.inr rfl) rfl kk kk kk kk) ?_
   refine zR rfl (zEY (κ:=ByteArray) (ν:=ByteArray) (ek:=zEJ) (ev:=zF6) (z:=ByteArray.empty) (m:=mPut ((⟨#[112,114,105,109,101]⟩:ByteArray)) ((⟨#[65,110]⟩:ByteArray)) (mPut ((⟨#[115,101,116]⟩:ByteArray)) ((⟨#[65,102]⟩:ByteArray)) (mPut ((⟨#[100,105,115,99]⟩:ByteArray)) ((⟨#[110]⟩:ByteArray)) (([]:List (ByteArray×ByteArray)))))) (a:=(⟨#[109,117,108]⟩:ByteArray)) (u:=(⟨#[65,65,65]⟩:ByteArray)) (id:=56) (b:=mb7) zGV (.inr rfl) rfl kk kk kk kk) ?_
   refine zR rfl (zEY (κ:=ByteArray) (ν:=ByteArray) (ek:=zEJ) (ev:=zF6) (z:=ByteArray.empty) (m:=mPut ((⟨#[109,117,108]⟩:ByteArray)) ((⟨#[65,65,65]⟩:ByteArray)) (mPut ((⟨#[112,114,105,109,101]⟩:ByteArray)) ((⟨#[65,110]⟩:ByteArray)) (mPut ((⟨#[115,101,116]⟩:ByteArray)) ((⟨#[65,102]⟩:ByteArray)) (mPut ((⟨#[100,105,115,99]⟩:ByteArray)) ((⟨#[110]⟩:ByteArray)) (([]:List (ByteArray×ByteArray))))))) (a:=(⟨#[112,111,119]⟩:ByteArray)) (u:=(⟨#[65,65,110]⟩:ByteArray)) (id:=56) (b:=mb7) zGV (.inr rfl) rfl kk kk kk kk) ?_
   refine zR rfl (zEY (κ:=ByteArray) (ν:=ByteArray) (ek:=zEJ) (ev:=zF6) (z:=ByteArray.empty) (m:=mPut ((⟨#[112,111,119]⟩:ByteArray)) ((⟨#[65,65,110]⟩:ByteArray)) (mPut ((⟨#[109,117,108]⟩:ByteArray)) ((⟨#[65,65,65]⟩:ByteArray)) (mPut ((⟨#[112,114,105,109,101]⟩:ByteArray)) ((⟨#[65,110]⟩:ByteArray)) (mPut ((⟨#[115,101,116]⟩:ByteArray)) ((⟨#[65,102]⟩:ByteArray)) (mPut ((⟨#[100,105,115,99]⟩:ByteArray)) ((⟨#[110]⟩:ByteArray)) (([]:List (ByteArray×ByteArray)))))))) (a:=(⟨#[102,114,101,101]⟩:ByteArray)) (u:=(⟨#[65]⟩:ByteArray)) (id:=56) (b:=mb7) zGV (.inr rfl) rfl kk kk kk kk) ?_
   refine zR rfl (zEY (κ:=ByteArray) (ν:=ByteArray) (ek:=zEJ) (ev:=zF6) (z:=ByteArray.empty) (m:=mPut ((⟨#[102,114,101,101]⟩:ByteArray)) ((⟨#[65]⟩:ByteArray)) (mPut ((⟨#[112,111,119]⟩:ByteArray)) ((⟨#[65,65,110]⟩:ByteArray)) (mPut ((⟨#[109,117,108]⟩:ByteArray)) ((⟨#[65,65,65]⟩:ByteArray)) (mPut ((⟨#[112,114,105,109,101]⟩:ByteArray)) ((⟨#[65,110]⟩:ByteArray)) (mPut ((⟨#[115,101,116]⟩:ByteArray)) ((⟨#[65,102]⟩:ByteArray)) (mPut ((⟨#[100,105,115,99]⟩:ByteArray)) ((⟨#[110]⟩:ByteArray)) (([]:List (ByteArray×ByteArray))))))))) (a:=(⟨#[115,104,111,119]⟩:ByteArray)) (u:=(⟨#[65]⟩:ByteArray)) (id:=56) (b:=mb7) zGV (.inr rfl) rfl kk kk kk kk) ?_
   refine zR rfl (zEY (κ:=ByteArray) (ν:=ByteArray) (ek:=zEJ) (ev:=zF6) (z:=ByteArray.empty) (m:=mPut ((⟨#[115,104,111,119]⟩:ByteArray)) ((⟨#[65]⟩:ByteArray)) (mPut ((⟨#[102,114,101,101]⟩:ByteArray)) ((⟨#[65]⟩:ByteArray)) (mPut ((⟨#[112,111,119]⟩:ByteArray)) ((⟨#[65,65,110]⟩:ByteArray)) (mPut ((⟨#[109,117,108]⟩:ByteArray)) ((⟨#[65,65,65]⟩:ByteArray)) (mPut ((⟨#[112,114,105,109,101]⟩:ByteArray)) ((⟨#[65,110]⟩:ByteArray)) (mPut ((⟨#[115,101,116]⟩:ByteArray)) ((⟨#[65,102]⟩:ByteArray)) (mPut ((⟨#[100,105,115,99]⟩:ByteArray)) ((⟨#[110]⟩:ByteArray)) (([]:List (ByteArray×ByteArray)))))))))) (a:=(⟨#[105,110,100,101,120]⟩:ByteArray)) (u:=(⟨#[65]⟩:ByteArray)) (id:=56) (b:=mb7) zGV (.inr rfl) rfl kk kk kk kk) ?_
   refine zR rfl (zEY (κ:=ByteArray) (ν:=ByteArray) (ek:=zEJ) (ev:=zF6) (z:=ByteArray.empty) (m:=mPut ((⟨#[105,110,100,101,120]⟩:ByteArray)) ((⟨#[65]⟩:ByteArray)) (mPut ((⟨#[115,104,111,119]⟩:ByteArray)) ((⟨#[65]⟩:ByteArray)) (mPut ((⟨#[102,114,101,101]⟩:ByteArray)) ((⟨#[65]⟩:ByteArray)) (mPut ((⟨#[112,111,119]⟩:ByteArray)) ((⟨#[65,65,110]⟩:ByteArray)) (mPut ((⟨#[109,117,108]⟩:ByteArray)) ((⟨#[65,65,65]⟩:ByteArray)) (mPut ((⟨#[112,114,105,109,101]⟩:ByteArray)) ((⟨#[65,110]⟩:ByteArray)) (mPut ((⟨#[115,101,116]⟩:ByteArray)) ((⟨#[65,102]⟩:ByteArray)) (mPut ((⟨#[100,105,115,99]⟩:ByteArray)) ((⟨#[110]⟩:ByteArray)) (([]:List (ByteArray×ByteArray))))))))))) (a:=(⟨#[111,114,100,101,114]⟩:ByteArray)) (u:=(⟨#[65]⟩:ByteArray)) (id:=56) (b:=mb7) zGV (.inr rfl) rfl kk kk kk kk) ?_
   refine zR rfl (zEY (κ:=ByteArray) (ν:=ByteArray) (ek:=zEJ) (ev:=zF6) (z:=ByteArray.empty) (m:=mPut ((⟨#[111,114,100,101,114]⟩:ByteArray)) ((⟨#[65]⟩:ByteArray)) (mPut ((⟨#[105,110,100,101,120]⟩:ByteArray)) ((⟨#[65]⟩:ByteArray)) (mPut ((⟨#[115,104,111,119]⟩:ByteArray)) ((⟨#[65]⟩:ByteArray)) (mPut ((⟨#[102,114,101,101]⟩:ByteArray)) ((⟨#[65]⟩:ByteArray)) (mPut ((⟨#[112,111,119]⟩:ByteArray)) ((⟨#[65,65,110]⟩:ByteArray)) (mPut ((⟨#[109,117,108]⟩:ByteArray)) ((⟨#[65,65,65]⟩:ByteArray)) (mPut ((⟨#[112,114,105,109,101]⟩:ByteArray)) ((⟨#[65,110]⟩:ByteArray)) (mPut ((⟨#[115,101,116]⟩:ByteArray)) ((⟨#[65,102]⟩:ByteArray)) (mPut ((⟨#[100,105,115,99]⟩:ByteArray)) ((⟨#[110]⟩:ByteArray)) (([]:List (ByteArray×ByteArray)))))))))))) (a:=(⟨#[103,101,110,117,115]⟩:ByteArray)) (u:=(⟨#[65]⟩:ByteArray)) (id:=56) (b:=mb7) zGV (.inr rfl) rfl kk kk kk kk) ?_
   refine zR rfl (zEY (κ:=ByteArray) (ν:=ByteArray) (ek:=zEJ) (ev:=zF6) (z:=ByteArray.empty) (m:=mPut ((⟨#[103,101,110,117,115]⟩:ByteArray)) ((⟨#[65]⟩:ByteArray)) (mPut ((⟨#[111,114,100,101,114]⟩:ByteArray)) ((⟨#[65]⟩:ByteArray)) (mPut ((⟨#[105,110,100,101,120]⟩:ByteArray)) ((⟨#[65]⟩:ByteArray)) (mPut ((⟨#[115,104,111,119]⟩:ByteArray)) ((⟨#[65]⟩:ByteArray)) (mPut ((⟨#[102,114,101,101]⟩:ByteArray)) ((⟨#[65]⟩:ByteArray)) (mPut ((⟨#[112,111,119]⟩:ByteArray)) ((⟨#[65,65,110]⟩:ByteArray)) (mPut ((⟨#[109,117,108]⟩:ByteArray)) ((⟨#[65,65,65]⟩:ByteArray)) (mPut ((⟨#[112,114,105,109,101]⟩:ByteArray)) ((⟨#[65,110]⟩:ByteArray)) (mPut ((⟨#[115,101,116]⟩:ByteArray)) ((⟨#[65,102]⟩:ByteArray)) (mPut ((⟨#[100,105,115,99]⟩:ByteArray)) ((⟨#[110]⟩:ByteArray)) (([]:List (ByteArray×ByteArray))))))))))))) (a:=(⟨#[118,97,108,117,101]⟩:ByteArray)) (u:=(⟨#[65,110]⟩:ByteArray)) (id:=56) (b:=mb7) zGV (.inr rfl) rfl kk kk kk kk) ?_
   refine zR rfl (zEY (κ:=ByteArray) (ν:=ByteArray) (ek:=zEJ) (ev:=zF6) (z:=ByteArray.empty) (m:=mPut ((⟨#[118,97,108,117,101]⟩:ByteArray)) ((⟨#[65,110]⟩:ByteArray)) (mPut ((⟨#[103,101,110,117,115]⟩:ByteArray)) ((⟨#[65]⟩:ByteArray)) (mPut ((⟨#[111,114,100,101,114]⟩:ByteArray)) ((⟨#[65]⟩:ByteArray)) (mPut ((⟨#[105,110,100,101,120]⟩:ByteArray)) ((⟨#[65]⟩:ByteArray)) (mPut ((⟨#[115,104,111,119]⟩:ByteArray)) ((⟨#[65]⟩:ByteArray)) (mPut ((⟨#[102,114,101,101]⟩:ByteArray)) ((⟨#[65]⟩:ByteArray)) (mPut ((⟨#[112,111,119]⟩:ByteArray)) ((⟨#[65,65,110]⟩:ByteArray)) (mPut ((⟨#[109,117,108]⟩:ByteArray)) ((⟨#[65,65,65]⟩:ByteArray)) (mPut ((⟨#[112,114,105,109,101]⟩:ByteArray)) ((⟨#[65,110]⟩:ByteArray)) (mPut ((⟨#[115,101,116]⟩:ByteArray)) ((⟨#[65,102]⟩:ByteArray)) (mPut ((⟨#[100,105,115,99]⟩:ByteArray)) ((⟨#[110]⟩:ByteArray)) (([]:List (ByteArray×ByteArray)))))))))))))) (a:=(⟨#[115,97,109,101]⟩:ByteArray)) (u:=(⟨#[65,65]⟩:ByteArray)) (id:=56) (b:=mb7) zGV (.inr rfl) rfl kk kk kk kk) ?_
   refine zR rfl (zEY (κ:=ByteArray) (ν:=ByteArray) (ek:=zEJ) (ev:=zF6) (z:=ByteArray.empty) (m:=mPut ((⟨#[115,97,109,101]⟩:ByteArray)) ((⟨#[65,65]⟩:ByteArray)) (mPut ((⟨#[118,97,108,117,101]⟩:ByteArray)) ((⟨#[65,110]⟩:ByteArray)) (mPut ((⟨#[103,101,110,117,115]⟩:ByteArray)) ((⟨#[65]⟩:ByteArray)) (mPut ((⟨#[111,114,100,101,114]⟩:ByteArray)) ((⟨#[65]⟩:ByteArray)) (mPut ((⟨#[105,110,100,101,120]⟩:ByteArray)) ((⟨#[65]⟩:ByteArray)) (mPut ((⟨#[115,104,111,119]⟩:ByteArray)) ((⟨#[65]⟩:ByteArray)) (mPut ((⟨#[102,114,101,101]⟩:ByteArray)) ((⟨#[65]⟩:ByteArray)) (mPut ((⟨#[112,111,119]⟩:ByteArray)) ((⟨#[65,65,110]⟩:ByteArray)) (mPut ((⟨#[109,117,108]⟩:ByteArray)) ((⟨#[65,65,65]⟩:ByteArray)) (mPut ((⟨#[112,114,105,109,101]⟩:ByteArray)) ((⟨#[65,110]⟩:ByteArray)) (mPut ((⟨#[115,101,116]⟩:ByteArray)) ((⟨#[65,102]⟩:ByteArray)) (mPut ((⟨#[100,105,115,99]⟩:ByteArray)) ((⟨#[110]⟩:ByteArray)) (([]:List (ByteArray×ByteArray))))))))))))))) (a:=(⟨#[110,97,109,101,115]⟩:ByteArray)) (u:=(⟨#[]⟩:ByteArray)) (id:=56) (b:=mb7) zGV (.inr rfl) rfl kk kk kk kk) ?_
   refine zR rfl (zEY (κ:=ByteArray) (ν:=ByteArray) (ek:=zEJ) (ev:=zF6) (z:=ByteArray.empty) (m:=mPut ((⟨#[110,97,109,101,115]⟩:ByteArray)) ((⟨#[]⟩:ByteArray)) (mPut ((⟨#[115,97,109,101]⟩:ByteArray)) ((⟨#[65,65]⟩:ByteArray)) (mPut ((⟨#[118,97,108,117,101]⟩:ByteArray)) ((⟨#[65,110]⟩:ByteArray)) (mPut ((⟨#[103,101,110,117,115]⟩:ByteArray)) ((⟨#[65]⟩:ByteArray)) (mPut ((⟨#[111,114,100,101,114]⟩:ByteArray)) ((⟨#[65]⟩:ByteArray)) (mPut ((⟨#[105,110,100,101,120]⟩:ByteArray)) ((⟨#[65]⟩:ByteArray)) (mPut ((⟨#[115,104,111,119]⟩:ByteArray)) ((⟨#[65]⟩:ByteArray)) (mPut ((⟨#[102,114,101,101]⟩:ByteArray)) ((⟨#[65]⟩:ByteArray)) (mPut ((⟨#[112,111,119]⟩:ByteArray)) ((⟨#[65,65,110]⟩:ByteArray)) (mPut ((⟨#[109,117,108]⟩:ByteArray)) ((⟨#[65,65,65]⟩:ByteArray)) (mPut ((⟨#[112,114,105,109,101]⟩:ByteArray)) ((⟨#[65,110]⟩:ByteArray)) (mPut ((⟨#[115,101,116]⟩:ByteArray)) ((⟨#[65,102]⟩:ByteArray)) (mPut ((⟨#[100,105,115,99]⟩:ByteArray)) ((⟨#[110]⟩:ByteArray)) (([]:List (ByteArray×ByteArray)))))))))))))))) (a:=(⟨#[117,110,100,111]⟩:ByteArray)) (u:=(⟨#[]⟩:ByteArray)) (id:=56) (b:=mb7) zGV (.inr rfl) rfl kk kk kk kk) ?_
   refine L0 rfl rfl (zJ (.c (.v (.map (some mb7)))) rfl kk) ?_
   refine L0 rfl rfl (zF (.c (.v (.map (some mb7)))) rfl kk) ?_
   refine zH ?_
   subst hl2;exact⟨mb7,by kernel_rfl⟩
  intro mb7;refine jB (mb 17 96) [] (s1:=⟨bt 5 (.c (.v (.string (mAt word1 l2 ByteArray.empty)))::Bo (mHas word1 l2)::bt 10 []),[]⟩) ?_ ?_
  ·refine L0 rfl rfl (zJ (.c (.v (.map (some mb7)))) rfl kk) ?_
   refine L0 rfl rfl (zJ (.c (.v (.string word1))) rfl kk) ?_
   refine L0 rfl rfl (z1X (κ:=ByteArray) (ν:=ByteArray) (ek:=zEJ) (ev:=zF6) (z:=ByteArray.empty) (m:=l2) (a:=word1) (id:=56) (b:=mb7) zGV rfl kk kk kk) ?_
   refine L0 rfl rfl (zJ (.tc (.c (.v (.string (mAt word1 l2 ByteArray.empty)))) (.tc (Bo (mHas word1 l2)) .tn)) rfl kk) ?_
   refine L0 rfl rfl (zG8 (n:=0) (.c (.v (.string (mAt word1 l2 ByteArray.empty)))) (.tc (Bo (mHas word1 l2)) .tn) (.c (.v (.string (mAt word1 l2 ByteArray.empty)))) rfl kk kk (by intro hh;cases hh)) ?_
   refine L0 rfl rfl (zG8 (n:=1) (.c (.v (.string (mAt word1 l2 ByteArray.empty)))) (.tc (Bo (mHas word1 l2)) .tn) (Bo (mHas word1 l2)) rfl kk kk (by intro hh;cases hh)) ?_
   refine L0 rfl rfl (zF (.c (.v (.string (mAt word1 l2 ByteArray.empty)))) rfl kk) ?_
   refine L0 rfl rfl (zF (Bo (mHas word1 l2)) rfl kk) ?_
   refine zH ?_
   kernel_rfl
  refine jB (mb 17 12) [] (s1:=⟨.bot::.bot::.c (.v (.string (mAt word1 l2 ByteArray.empty)))::Bo (mHas word1 l2)::bt 13 [],[]⟩) ?_ ?_
  ·refine L0 rfl rfl (zJ (.c (.v (.string (mAt word1 l2 ByteArray.empty)))) rfl kk) ?_
   refine L0 rfl rfl (zJ (Bo (mHas word1 l2)) rfl kk) ?_
   refine L0 rfl rfl (zF (.c (.v (.string (mAt word1 l2 ByteArray.empty)))) rfl kk) ?_
   refine L0 rfl rfl (zF (Bo (mHas word1 l2)) rfl kk) ?_
   refine zH ?_
   kernel_rfl
  refine zDx ?_
  obtain rfl:=zV h;show Post _ _ _ _ _;exact⟨.inr rfl,rfl,rfl,rfl⟩
theorem zSQ:CfW Tryz.prog 113:=cfW Tryz.func113
noncomputable def zTO (w1:ByteArray):T Tryz.prog ((Int×Bool)):=
 .pl<|.dn<|.joinC (.seqT (.cond (!eqI ((w1.size:Int)) 1) (.ret true) (.op0 (idxs w1 0) fun e3=>.ret (ltI e3 97))) fun b4=>.seqT (.cond b4 (.ret true) (.op0 (idxs w1 0) fun e6=>.ret (ltI 122 e6))) fun b7=>.ret (b4,b7)) (mb 21 65537) [] (fun s q_1 γ=>s.pc (mb 21 65537) [] [(16,Bo q_1.2)] []) fun q_1=>
 .cond q_1.2 (
 .ret ((0,false)))<|.op0 (idxs w1 0) fun e9=>.n0 au<|.n0 au<|
 .frc (IntKind.i64.wrap (IntKind.u8.wrap (e9 - 97))) fun t10=>.ret ((t10,true))
theorem zTb {w1:ByteArray} {r:(Int×Bool)} (h:zCg w1=some r):zD Tryz.prog 113 [.c (.v (.string w1))] (.tc (I r.1) (.tc (Bo r.2) .tn)) []:=CtT (zTO w1) (fun r=>(.tc (I r.1) (.tc (Bo r.2) .tn),[])) (rs:=[.t 2,.t 3]) (vs:=[.tmp 2,.tmp 3]) Tryz.func113 rfl rfl (.cons rfl (.cons rfl FitsL.nil)) h
theorem zLM:∀args w,(callFunc 158 args).run Tryz.prog w=.ok (.enter 158 args) w:=qN Tryz.func158 kk kk
set_option maxRecDepth 100000 in
set_option maxHeartbeats 400000 in
theorem zME {vs1:ByteArray} {r:List Int} (h:zA8 vs1=some r):zD Tryz.prog 158 [.c (.v (.string vs1))] (.ow 0) [(0,.arr 3 1 (r.map c3))]:=by
  refine zAW (rs:=[.t 2]) (vs:=[.tmp 2]) Tryz.func158 rfl rfl (.cons rfl FitsL.nil) (by decide) 30 rfl ?_
  unfold zA8 at h;show V _ _ ⟨.c (.v (.string vs1))::bt 29 [],[]⟩ _;refine jB (mb 30 1) [] (s1:=⟨.c (.v (.string vs1))::bt 29 [],[]⟩) ?_ ?_
  ·refine L1 rfl rfl (zZ1 (e:=3) 1 (by decide) (.inl rfl)) ?_
   refine zH ?_
   kernel_rfl
  refine jB (mb 30 9) [64] (s1:=⟨.c (.v (.string vs1))::.bot::.bot::.ow 64::bt 26 [],[(64,.arr 3 1 ((([]:List Int)).map c3))]⟩) ?_ ?_
  ·refine L1 rfl rfl (zLV Tryz.underlying37 sz3 (by decide) rfl rfl) ?_
   refine L0 rfl rfl (zF (.ow 64) rfl kk) ?_
   refine zH ?_
   kernel_rfl
  refine zCk ?_
  obtain⟨y2,hy2,h⟩:=zP h;refine jB (mb 30 7176) [80,64] (s1:=⟨bt 3 (.ow 64::bt 6 (.ow 80::I ((y2.length:Int))::I 0::bt 17 [])),[(80,.arr 9 1 (y2.map c9)),(64,.arr 3 1 ((([]:List Int)).map c3))]⟩) ?_ ?_
  ·refine L0 rfl rfl (zJ (.c (.v (.string vs1))) rfl kk) ?_
   refine L1 rfl rfl (zBt (zHA hy2) zIT rfl kk) ?_
   refine L0 rfl rfl (zJg (c:=c9) (xs:=y2) Tryz.underlying49 rfl kk) ?_
   refine L0 rfl rfl (zJ (I 0) rfl kk) ?_
   refine zH ?_
   kernel_rfl
  obtain⟨qo6,hLo6,hko6⟩:=zP h;refine V_toS (q:=qo6) (S:=fun o6=>⟨bt 3 (.ow 64::bt 26 []),[(64,.arr 3 1 (o6.map c3))]⟩) (mb 30 8) [64] ?_ ?_
  ·refine zDt (zS4 (fun n s=>∃(t3:Int) (l4:List Int),s.keep (mb 30 7176) [80,64]=(⟨bt 3 (.ow 64::bt 6 (.ow 80::I ((y2.length:Int))::I t3::bt 17 [])),[(80,.arr 9 1 (y2.map c9)),(64,.arr 3 1 (l4.map c3))]⟩:St)∧qI y2 n t3 l4=some qo6) FU ⟨_,_,by rfl,hLo6⟩ ?_);clear hLo6;rintro n s ⟨t3,l4,hs,h⟩;refine zWm _ _ hs ?_
   clear hs;cases n with
   |zero=>cases h
   |succ n=>
    rw[qI]at h;refine jB (mb 30 15368) [80,64] (s1:=⟨bt 3 (.ow 64::bt 6 (.ow 80::I ((y2.length:Int))::I t3::Bo (ltI t3 ((y2.length:Int)))::bt 16 [])),[(80,.arr 9 1 (y2.map c9)),(64,.arr 3 1 (l4.map c3))]⟩) ?_ ?_
    ·refine L0 rfl rfl (zG4 (k:=.i64) (a:=t3) (b:=(y2.length:Int)) rfl kk kk) ?_
     refine zH ?_
     kernel_rfl
    refine zCk ?_
    refine zCh rfl (fun hc7=>?_) (fun hc7=>?_)
    ·have h:=zBq h hc7;refine zEA ?_
     show V _ _ _ _;refine zCk ?_
     refine zDt ?_
     obtain⟨e8,he8,h⟩:=zP h;obtain⟨e9,he9,h⟩:=zP h;refine jB (mb 30 7208) [80,64] (s1:=⟨bt 3 (.ow 64::.bot::.c (.v (.string e9))::bt 4 (.ow 80::I ((y2.length:Int))::I t3::bt 17 [])),[(80,.arr 9 1 (y2.map c9)),(64,.arr 3 1 (l4.map c3))]⟩) ?_ ?_
     ·refine L0 rfl rfl (zS2 (c:=c9) (xs:=y2) (v:=e8) (id:=80) (T:=9) (sz:=1) (n:=t3) Tryz.underlying49 sz9 rfl kk kk kk he8) ?_
      refine L0 rfl rfl (zOU (c:=c9) (xs:=y2) (v:=e9) (id:=80) (sz:=1) (T:=9) (off:=0) (n:=t3) (d:=.v (.string e9)) (ds:=[]) sc9 rfl kk kk he9 kk) ?_
      refine L0 rfl rfl (zF (.c (.v (.string e9))) rfl kk) ?_
      refine zH ?_
      kernel_rfl
     obtain⟨y10,hy10,h⟩:=zP h;refine jB (mb 30 7368) [80,64] (s1:=⟨bt 3 (.ow 64::.bot::.bot::I y10.1::.er y10.2::.bot::.bot::.ow 80::I ((y2.length:Int))::I t3::bt 17 []),[(80,.arr 9 1 (y2.map c9)),(64,.arr 3 1 (l4.map c3))]⟩) ?_ ?_
     ·refine L0 rfl rfl (zJ (.c (.v (.string e9))) rfl kk) ?_
      refine L1 rfl rfl (zBt (zIe hy10) zIH rfl kk) ?_
      refine L0 rfl rfl (zJ (.tc (I y10.1) (.tc (.er y10.2) .tn)) rfl kk) ?_
      refine L0 rfl rfl (zG8 (n:=0) (I y10.1) (.tc (.er y10.2) .tn) (I y10.1) rfl kk kk (by intro hh;cases hh)) ?_
      refine L0 rfl rfl (zG8 (n:=1) (I y10.1) (.tc (.er y10.2) .tn) (.er y10.2) rfl kk kk (by intro hh;cases hh)) ?_
      refine L0 rfl rfl (zF (I y10.1) rfl kk) ?_
      refine L0 rfl rfl (zF (.er y10.2) rfl kk) ?_
      refine zH ?_
      kernel_rfl
     refine zCk ?_
     refine jB (mb 30 4201544) [80,64] (s1:=⟨bt 3 (.ow 64::.bot::.bot::I y10.1::bt 3 (.ow 80::I ((y2.length:Int))::I t3::bt 9 (Bo (!y10.2)::bt 7 []))),[(80,.arr 9 1 (y2.map c9)),(64,.arr 3 1 (l4.map c3))]⟩) ?_ ?_
     ·refine L0 rfl rfl (zJ (.er y10.2) rfl kk) ?_
      refine L0 rfl rfl (z52 (b:=y10.2) Tryz.underlying78 rfl kk) ?_
      refine zH ?_
      kernel_rfl
     refine zCh rfl (fun hc11=>?_) (fun hc11=>?_)
     ·have h:=zBq h hc11;refine jB (mb 30 4) [184] (s1:=⟨.bot::.bot::.ow 184::bt 27 [],[(184,.arr 3 1 ((([]:List Int)).map c3))]⟩) ?_ ?_
      ·refine L1 rfl rfl (zLV Tryz.underlying37 sz3 (by decide) rfl rfl) ?_
       refine L0 rfl rfl (zF (.ow 184) rfl kk) ?_
       refine zH ?_
       kernel_rfl
      refine zDx ?_
      obtain rfl:=zV h;have h:=hko6;obtain rfl:=zV h;show Post _ _ _ _ _;exact⟨.inr rfl,rfl,rfl,rfl⟩
     ·have h:=zBC h hc11;refine zEA ?_
      show V _ _ _ _;obtain⟨u12,hu12,h⟩:=zP h;refine zYX (mb 30 7176) [80,64] (s1:=⟨bt 3 (.ow 64::bt 6 (.ow 80::I ((y2.length:Int))::I t3::bt 17 [])),[(80,.arr 9 1 (y2.map c9)),(64,.arr 3 1 ((l4++([y10.1])).map c3))]⟩) ?_ ?_
      ·refine L0 rfl rfl (zJ (.ow 64) rfl kk) ?_
       refine L0 rfl rfl (zJ (I y10.1) rfl kk) ?_
       refine L1 rfl rfl (zGN (z:=zv3) (els:=[y10.1].map c3) Tryz.underlying37 iz3 rfl (by decide) rfl kk rfl (by simp[c3]) (by decide) (by decide)) ?_
       refine zR rfl (zOW (c:=c3) (xs:=l4) (ys:=[y10.1]) (id:=64) (z:=zv3) rfl rfl Tryz.underlying37 izb3 rfl kk kk kk (fun _=>rfl) (by simp) (zJY hu12) (by decide)) ?_
       refine L0 rfl rfl (zF (.ow 64) rfl kk) ?_
       refine zH ?_
       kernel_rfl
      show V _ _ _ _;obtain⟨t13,ht13,h⟩:=zOa h;refine zYX (mb 30 7176) [80,64] (s1:=⟨bt 3 (.ow 64::bt 6 (.ow 80::I ((y2.length:Int))::I t13::bt 17 [])),[(80,.arr 9 1 (y2.map c9)),(64,.arr 3 1 ((l4++([y10.1])).map c3))]⟩) ?_ ?_
      ·refine L0 rfl rfl (zEx (a:=t3) (b:=1) rfl kk kk) ?_
       refine L0 rfl rfl (zJ (I (w64 (t3+1))) rfl kk) ?_
       refine zH ?_
       subst ht13
       kernel_rfl
      exact⟨n,Nat.lt_succ_self n,_,_,by rfl,h⟩
    ·have h:=zBC h hc7;refine zS5 ?_
     obtain rfl:=zV h;exact⟨_,rfl,by rfl⟩
  rintro o6 rfl;have h:=hko6;clear hko6;show V _ _ _ _;refine jB (mb 30 4) [64] (s1:=⟨.bot::.bot::.ow 64::bt 27 [],[(64,.arr 3 1 (o6.map c3))]⟩) ?_ ?_
  ·refine L0 rfl rfl (zJ (.ow 64) rfl kk) ?_
   refine L0 rfl rfl (zF (.ow 64) rfl kk) ?_
   refine zH ?_
   kernel_rfl
  refine zDx ?_
  obtain rfl:=zV h;show Post _ _ _ _ _;exact⟨.inr rfl,rfl,rfl,rfl⟩
def zMv (vs1:ByteArray):=fC zLM (zA8 vs1) fun _=>zME
theorem zG1:CfW Tryz.prog 60:=cfW Tryz.func60
noncomputable def zLj (list1:List Int):T Tryz.prog Bool:=
 .n0 (lenM ct3 list1)<|
 .loopS (fun n X_34=>zBg list1 n X_34) 0 (mb 18 224) [] (fun s X_34 γ=>s.pc (mb 18 224) [] [(7,I X_34)] []) (fun X_34=>
 .cond (ltI X_34 ((list1.length:Int))) (.op0 (idxM ct3 list1 X_34) fun e6=>
 .joinC (.selB (ltI e6 (-1000000)) false [] fun w_32=>.ret w_32) (mb 18 65760) [] (fun s q_33 γ=>s.pc (mb 18 65760) [] [(16,Bo (bif q_33 then true else (ltI 1000000 e6)))] []) fun q_33=>
 .cond (bif q_33 then true else (ltI 1000000 e6)) (
 .ret (.early false))<|
 .frc (w64 (X_34+1)) fun t9=>.ret (.again t9))<|.ret (.done (()))) (mb 18 0) [] (fun s o4 γ=>s.pc (mb 18 0) [] [] []) (fun r=>r) fun o4=>
 .ret true
theorem zGd {list1:List Int} {r:Bool} (h:zA9 list1=some r):zD Tryz.prog 60 [.c (.sl (list1.map c3))] (Bo r) []:=CtU (zLj list1) 2 (fun r=>Bo r) Tryz.func60 rfl rfl h
def zGq (list1:List Int):=fCs zG1 (zA9 list1) (fun _=>zGd) fun _=>rfl
theorem zSS:CfW Tryz.prog 41:=cfW Tryz.func41
noncomputable def zTQ (f1:τF):T Tryz.prog Bool:=
 .n1 bsl<|.op1 (zGq ([f1.1,f1.2.1,f1.2.2])) fun y2=>
 .ret y2
theorem zTd {f1:τF} {r:Bool} (h:zDQ f1=some r):zD Tryz.prog 41 [.ag [Ti f1.1,Ti f1.2.1,Ti f1.2.2]] (Bo r) []:=CtU (zTQ f1) 2 (fun r=>Bo r) Tryz.func41 rfl rfl h
def zKX (f1:τF):=fC zSS (zDQ f1) fun _=>zTd
theorem zOK:CfW Tryz.prog 121:=cfW Tryz.func121
noncomputable def zPA (f1:τF):T Tryz.prog ByteArray:=
 .draw 16 []<|.op1 (zAl f1.1) fun y2=>.op0 (cat ((⟨#[40]⟩:ByteArray)) y2) fun u3=>.op0 (cat (((⟨#[40]⟩:ByteArray))++y2) ((⟨#[44]⟩:ByteArray))) fun u4=>.op1 (zAl f1.2.1) fun y5=>.op0 (cat ((((⟨#[40]⟩:ByteArray))++y2)++((⟨#[44]⟩:ByteArray))) y5) fun u6=>.op0 (cat (((((⟨#[40]⟩:ByteArray))++y2)++((⟨#[44]⟩:ByteArray)))++y5) ((⟨#[44]⟩:ByteArray))) fun u7=>.op1 (zAl f1.2.2) fun y8=>.op0 (cat ((((((⟨#[40]⟩:ByteArray))++y2)++((⟨#[44]⟩:ByteArray)))++y5)++((⟨#[44]⟩:ByteArray))) y8) fun u9=>.op0 (cat (((((((⟨#[40]⟩:ByteArray))++y2)++((⟨#[44]⟩:ByteArray)))++y5)++((⟨#[44]⟩:ByteArray)))++y8) ((⟨#[41]⟩:ByteArray))) fun u10=>
 .ret ((((((((⟨#[40]⟩:ByteArray))++y2)++((⟨#[44]⟩:ByteArray)))++y5)++((⟨#[44]⟩:ByteArray)))++y8)++((⟨#[41]⟩:ByteArray)))
theorem zPT {f1:τF} {r:ByteArray} (h:jN f1=some r):zD Tryz.prog 121 [.ag [Ti f1.1,Ti f1.2.1,Ti f1.2.2]] (.c (.v (.string r))) []:=CtU (zPA f1) 2 (fun r=>.c (.v (.string r))) Tryz.func121 rfl rfl h
def zBW (f1:τF):=fC zOK (jN f1) fun _=>zPT
theorem zMf:CfW Tryz.prog 114:=cfW Tryz.func114
noncomputable def zNT (vs1:ByteArray):T Tryz.prog ((τF×Bool)):=
 .op1 (zMv vs1) fun y2=>
 .n0 (lenM ct3 y2)<|
 .cond (!eqI ((y2.length:Int)) 3) (.n0 (bld pl42 bt42)<|
 .ret (((0,0,0),false)))<|.draw 11 []<|.op0 (zBD ct3 y2 0) fun e4=>.op0 (ldo ct3 y2 0) fun e5=>.op0 (zBD ct3 y2 1) fun e6=>.op0 (ldo ct3 y2 1) fun e7=>.op0 (zBD ct3 y2 2) fun e8=>.op0 (ldo ct3 y2 2) fun e9=>.n0 (bld pl42 bt42)<|
 .dn<|.joinC (.op1 (zKX ((e5,e7,e9))) fun y10=>.seqT (.cond (!y10) (.ret true) (.op1 (zBW ((e5,e7,e9))) fun y12=>.ret (!(y12.toList==vs1.toList)))) fun b13=>.ret (y10,b13)) (mb 33 1073741860) [40,16] (fun s q_1 γ=>s.pc (mb 33 1073741860) [40,16] [(30,Bo q_1.2)] []) fun q_1=>
 .cond q_1.2 (.n0 (bld pl42 bt42)<|
 .ret (((0,0,0),false)))<|
 .ret (((e5,e7,e9),true))
theorem zNc {vs1:ByteArray} {r:(τF×Bool)} (h:zB8 vs1=some r):zD Tryz.prog 114 [.c (.v (.string vs1))] (.tc (.ag [Ti r.1.1,Ti r.1.2.1,Ti r.1.2.2]) (.tc (Bo r.2) .tn)) []:=CtT (zNT vs1) (fun r=>(.tc (.ag [Ti r.1.1,Ti r.1.2.1,Ti r.1.2.2]) (.tc (Bo r.2) .tn),[])) (rs:=[.w 2 3,.t 3]) (vs:=[.cell 2 42,.tmp 3]) Tryz.func114 rfl rfl (.cons ⟨rfl,wd42⟩ (.cons rfl FitsL.nil)) h
theorem zOI:∀args w,(callFunc 115 args).run Tryz.prog w=.ok (.enter 115 args) w:=qN Tryz.func115 kk kk
set_option maxRecDepth 100000 in
set_option maxHeartbeats 400000 in
theorem zPR {w1:ByteArray} {r:(Int×Bool)} (h:zC0 w1=some r):zD Tryz.prog 115 [.c (.v (.string w1))] (.tc (I r.1) (.tc (Bo r.2) .tn)) []:=by
  refine zAW (rs:=[.t 2,.t 3]) (vs:=[.tmp 2,.tmp 3]) Tryz.func115 rfl rfl (.cons rfl (.cons rfl FitsL.nil)) (by decide) 25 rfl ?_
  unfold zC0 at h;show V _ _ ⟨.c (.v (.string w1))::bt 24 [],[]⟩ _;refine jB (mb 25 1) [] (s1:=⟨.c (.v (.string w1))::bt 24 [],[]⟩) ?_ ?_
  ·refine L0 rfl rfl (zF (I 0) rfl kk) ?_
   refine L0 rfl rfl (zF (Bo false) rfl kk) ?_
   refine zH ?_
   kernel_rfl
  obtain⟨y2,hy2,h⟩:=zP h;refine jB (mb 25 49) [] (s1:=⟨.c (.v (.string w1))::bt 3 (I y2.1::.er y2.2::bt 19 []),[]⟩) ?_ ?_
  ·refine L0 rfl rfl (zJ (.c (.v (.string w1))) rfl kk) ?_
   refine L1 rfl rfl (zBt (zIe hy2) zIH rfl kk) ?_
   refine L0 rfl rfl (zJ (.tc (I y2.1) (.tc (.er y2.2) .tn)) rfl kk) ?_
   refine L0 rfl rfl (zG8 (n:=0) (I y2.1) (.tc (.er y2.2) .tn) (I y2.1) rfl kk kk (by intro hh;cases hh)) ?_
   refine L0 rfl rfl (zG8 (n:=1) (I y2.1) (.tc (.er y2.2) .tn) (.er y2.2) rfl kk kk (by intro hh;cases hh)) ?_
   refine L0 rfl rfl (zF (I y2.1) rfl kk) ?_
   refine L0 rfl rfl (zF (.er y2.2) rfl kk) ?_
   refine zH ?_
   kernel_rfl
  obtain⟨b5,hb5,h⟩:=zP h;obtain⟨b8,hb8,h⟩:=zP h;refine jB (mb 25 12) [] (s1:=⟨.bot::.bot::I y2.1::Bo b8::bt 21 [],[]⟩) ?_ ?_
  ·refine L0 rfl rfl (zJ (I y2.1) rfl kk) ?_
   refine L0 rfl rfl (zJ (.er y2.2) rfl kk) ?_
   refine L0 rfl rfl (z54 (b:=y2.2) Tryz.underlying78 rfl kk) ?_
   refine L0 rfl rfl (zJ (Bo y2.2) rfl kk) ?_
   refine zBG y2.2 (fun hc3=>?_) (fun hc3=>?_)
   ·have hb5:=zBq hb5 hc3;obtain⟨y4,hy4,hb5⟩:=zP hb5;have hb5:=zV hb5;refine zC _ rfl rfl kk hc3 (zB rfl (zJ (I y2.1) rfl kk)) ?_
    refine zC _ rfl rfl kk hc3 (zDq rfl (zGN (z:=zv3) (els:=[y2.1].map c3) Tryz.underlying37 iz3 rfl (by decide) rfl kk rfl (by simp[c3]) (by decide) (by decide))) ?_
    refine zC _ rfl rfl kk hc3 (zDq rfl (zYR (zGd hy4) zG1 rfl kk rfl rfl)) ?_
    refine zR rfl (zB rfl (zJe (b:=y2.2) (p:=y4) rfl kk hc3 kk hb5)) ?_
    refine L0 rfl rfl (zJ (Bo b5) rfl kk) ?_
    refine zBG b5 (fun hc6=>?_) (fun hc6=>?_)
    ·have hb8:=zBq hb8 hc6;obtain⟨y7,hy7,hb8⟩:=zP hb8;have hb8:=zV hb8;refine zC _ rfl rfl kk hc6 (zB rfl (zJ (I y2.1) rfl kk)) ?_
     refine zC _ rfl rfl kk hc6 (zDq rfl (zBt (zGP hy7) zFn rfl kk)) ?_
     refine zC _ rfl rfl kk hc6 (zB rfl (zJ (.c (.v (.string w1))) rfl kk)) ?_
     refine zC _ rfl rfl kk hc6 (zB rfl (zZ6 (a:=y7) (b:=w1) rfl kk kk)) ?_
     refine zR rfl (zB rfl (zJe (b:=b5) (p:=y7.toList==w1.toList) rfl kk hc6 kk hb8)) ?_
     refine L0 rfl rfl (zF (I y2.1) rfl kk) ?_
     refine L0 rfl rfl (zF (Bo b8) rfl kk) ?_
     refine zH ?_
     kernel_rfl
    ·have hb8:=zV (zBC hb8 hc6);refine zU _ rfl rfl kk hc6 rfl ?_
     refine zU _ rfl rfl kk hc6 rfl ?_
     refine zU _ rfl rfl kk hc6 rfl ?_
     refine zU _ rfl rfl kk hc6 rfl ?_
     refine zR rfl (zB rfl (zJf (b:=b5) (p:=false) rfl kk hc6 kk hb8)) ?_
     refine L0 rfl rfl (zF (I y2.1) rfl kk) ?_
     refine L0 rfl rfl (zF (Bo b8) rfl kk) ?_
     refine zH ?_
     kernel_rfl
   ·have hb5:=zV (zBC hb5 hc3);refine zU _ rfl rfl kk hc3 rfl ?_
    refine zU _ rfl rfl kk hc3 rfl ?_
    refine zU _ rfl rfl kk hc3 rfl ?_
    refine zR rfl (zB rfl (zJf (b:=y2.2) (p:=false) rfl kk hc3 kk hb5)) ?_
    refine L0 rfl rfl (zJ (Bo b5) rfl kk) ?_
    refine zBG b5 (fun hc6=>?_) (fun hc6=>?_)
    ·have hb8:=zBq hb8 hc6;obtain⟨y7,hy7,hb8⟩:=zP hb8;have hb8:=zV hb8;refine zC _ rfl rfl kk hc6 (zB rfl (zJ (I y2.1) rfl kk)) ?_
     refine zC _ rfl rfl kk hc6 (zDq rfl (zBt (zGP hy7) zFn rfl kk)) ?_
     refine zC _ rfl rfl kk hc6 (zB rfl (zJ (.c (.v (.string w1))) rfl kk)) ?_
     refine zC _ rfl rfl kk hc6 (zB rfl (zZ6 (a:=y7) (b:=w1) rfl kk kk)) ?_
     refine zR rfl (zB rfl (zJe (b:=b5) (p:=y7.toList==w1.toList) rfl kk hc6 kk hb8)) ?_
     refine L0 rfl rfl (zF (I y2.1) rfl kk) ?_
     refine L0 rfl rfl (zF (Bo b8) rfl kk) ?_
     refine zH ?_
     kernel_rfl
    ·have hb8:=zV (zBC hb8 hc6);refine zU _ rfl rfl kk hc6 rfl ?_
     refine zU _ rfl rfl kk hc6 rfl ?_
     refine zU _ rfl rfl kk hc6 rfl ?_
     refine zU _ rfl rfl kk hc6 rfl ?_
     refine zR rfl (zB rfl (zJf (b:=b5) (p:=false) rfl kk hc6 kk hb8)) ?_
     refine L0 rfl rfl (zF (I y2.1) rfl kk) ?_
     refine L0 rfl rfl (zF (Bo b8) rfl kk) ?_
     refine zH ?_
     kernel_rfl
  refine zDx ?_
  obtain rfl:=zV h;show Post _ _ _ _ _;exact⟨.inr rfl,rfl,rfl,rfl⟩
theorem zOG:∀args w,(callFunc 79 args).run Tryz.prog w=.ok (.enter 79 args) w:=qN Tryz.func79 kk kk
set_option maxRecDepth 100000 in
set_option maxHeartbeats 400000 in
theorem zPP {vs1:ByteArray} {r:((ByteArray×(List Int)×τF×Int)×Bool)} (h:zM vs1=some r):zD Tryz.prog 79 [.c (.v (.string vs1))] (.tc (.ag [.v (.string r.1.1),.sl (r.1.2.1.map c3),Ti r.1.2.2.1.1,Ti r.1.2.2.1.2.1,Ti r.1.2.2.1.2.2,Ti r.1.2.2.2]) (.tc (Bo r.2) .tn)) []:=by
  refine zAW (rs:=[.w 2 6,.t 3]) (vs:=[.cell 2 111,.tmp 3]) Tryz.func79 rfl rfl (.cons ⟨rfl,z5p⟩ (.cons rfl FitsL.nil)) (by decide) 77 rfl ?_
  unfold zM at h;show V _ _ ⟨.c (.v (.string vs1))::bt 76 [],[]⟩ _;refine jB (mb 77 5) [16] (s1:=⟨.c (.v (.string vs1))::.bot::.pt 16 0::bt 74 [],[(16,.box [.v (.string ByteArray.empty),.v (.slice none 0 0),Ti 0,Ti 0,Ti 0,Ti 0])]⟩) ?_ ?_
  ·refine L1 rfl rfl (zMj (z:=z1i) rfl z5k rfl) ?_
   refine L0 rfl rfl (zF (Bo false) rfl kk) ?_
   refine zH ?_
   kernel_rfl
  obtain⟨y2,hy2,h⟩:=zP h;refine jB (mb 77 20) [96,16] (s1:=⟨.bot::.bot::.pt 16 0::.bot::.ow 96::bt 72 [],[(96,.arr 9 1 (y2.map c9)),(16,.box [.v (.string ByteArray.empty),.v (.slice none 0 0),Ti 0,Ti 0,Ti 0,Ti 0])]⟩) ?_ ?_
  ·refine L0 rfl rfl (zJ (.c (.v (.string vs1))) rfl kk) ?_
   refine L1 rfl rfl (zBt (zIG hy2) zHY rfl kk) ?_
   refine L0 rfl rfl (zF (.ow 96) rfl kk) ?_
   refine zH ?_
   kernel_rfl
  obtain⟨e3,he3,h⟩:=zP h;obtain⟨e4,he4,h⟩:=zP h;refine jB (mb 77 52) [40,96,16] (s1:=⟨.bot::.bot::.pt 16 0::.bot::.ow 96::.pt 40 0::bt 71 [],[(40,.box [.v (.string e4),.v (.slice none 0 0),Ti 0,Ti 0,Ti 0,Ti 0]),(96,.arr 9 1 (y2.map c9)),(16,.box [.v (.string ByteArray.empty),.v (.slice none 0 0),Ti 0,Ti 0,Ti 0,Ti 0])]⟩) ?_ ?_
  ·refine L0 rfl rfl (zJ (.ow 96) rfl kk) ?_
   refine L0 rfl rfl (zS2 (c:=c9) (xs:=y2) (v:=e3) (id:=96) (T:=9) (sz:=1) (n:=0) Tryz.underlying49 sz9 rfl kk kk kk he3) ?_
   refine L0 rfl rfl (zOU (c:=c9) (xs:=y2) (v:=e4) (id:=96) (sz:=1) (T:=9) (off:=0) (n:=0) (d:=.v (.string e4)) (ds:=[]) sc9 rfl kk kk he4 kk) ?_
   refine L0 rfl rfl (zG5 (cs:=[.v (.string e4),.v (.slice none 0 0),Ti 0,Ti 0,Ti 0,Ti 0]) zUX zYO rfl rfl kk) ?_
   refine L1 rfl rfl (zMj (z:=z1i) rfl z5k rfl) ?_
   refine zR rfl (zEz (id:=40) (off:=0) (cs:=[.v (.string ByteArray.empty),.v (.slice none 0 0),Ti 0,Ti 0,Ti 0,Ti 0]) (vc:=[.v (.string e4),.v (.slice none 0 0),Ti 0,Ti 0,Ti 0,Ti 0]) [.v (.string e4),.v (.slice none 0 0),Ti 0,Ti 0,Ti 0,Ti 0] rfl rfl kk kk kk zUT (Nat.le_of_ble_eq_true rfl) kk) ?_
   refine zH ?_
   kernel_rfl
  obtain⟨y5,hy5,h⟩:=zP h;refine jB (mb 77 244) [40,96,16] (s1:=⟨.bot::.bot::.pt 16 0::.bot::.ow 96::.pt 40 0::.c (.v (.string y5.1))::Bo y5.2::bt 69 [],[(40,.box [.v (.string e4),.v (.slice none 0 0),Ti 0,Ti 0,Ti 0,Ti 0]),(96,.arr 9 1 (y2.map c9)),(16,.box [.v (.string ByteArray.empty),.v (.slice none 0 0),Ti 0,Ti 0,Ti 0,Ti 0])]⟩) ?_ ?_
  ·refine L0 rfl rfl (zAL (.pt 40 0) Tryz.underlying111 rfl sz9 rfl kk (by intro hh;cases hh)) ?_
   refine L0 rfl rfl (jR (c:=.v (.string e4)) (cs:=[.v (.slice none 0 0),Ti 0,Ti 0,Ti 0,Ti 0]) sc9 rfl kk) ?_
   refine L1 rfl rfl (zBt (zNa hy5) zMd rfl kk) ?_
   refine L0 rfl rfl (zJ (.tc (.c (.v (.string y5.1))) (.tc (Bo y5.2) .tn)) rfl kk) ?_
   refine L0 rfl rfl (zG8 (n:=0) (.c (.v (.string y5.1))) (.tc (Bo y5.2) .tn) (.c (.v (.string y5.1))) rfl kk kk (by intro hh;cases hh)) ?_
   refine L0 rfl rfl (zG8 (n:=1) (.c (.v (.string y5.1))) (.tc (Bo y5.2) .tn) (Bo y5.2) rfl kk kk (by intro hh;cases hh)) ?_
   refine L0 rfl rfl (zF (.c (.v (.string y5.1))) rfl kk) ?_
   refine L0 rfl rfl (zF (Bo y5.2) rfl kk) ?_
   refine zH ?_
   kernel_rfl
  refine zCk ?_
  obtain⟨t7,ht7,h⟩:=zP h;have ht7:=zV ht7;refine jB (mb 77 4294967412) [40,96,16] (s1:=⟨.bot::.bot::.pt 16 0::.bot::.ow 96::.pt 40 0::.c (.v (.string y5.1))::bt 25 (Bo t7::bt 44 []),[(40,.box [.v (.string e4),.v (.slice none 0 0),Ti 0,Ti 0,Ti 0,Ti 0]),(96,.arr 9 1 (y2.map c9)),(16,.box [.v (.string ByteArray.empty),.v (.slice none 0 0),Ti 0,Ti 0,Ti 0,Ti 0])]⟩) ?_ ?_
  ·refine L0 rfl rfl (zJ (Bo y5.2) rfl kk) ?_
   refine L0 rfl rfl (zOT (b:=y5.2) rfl kk) ?_
   refine L0 rfl rfl (zJ (Bo (!y5.2)) rfl kk) ?_
   refine zBG (!y5.2) (fun hc6=>?_) (fun hc6=>?_)
   ·refine qM _ rfl rfl kk hc6 rfl ?_
    refine qM _ rfl rfl kk hc6 rfl ?_
    refine qM _ rfl rfl kk hc6 rfl ?_
    refine qM _ rfl rfl kk hc6 rfl ?_
    refine qM _ rfl rfl kk hc6 rfl ?_
    refine qM _ rfl rfl kk hc6 rfl ?_
    refine zR rfl (zB rfl (zA3 (b:=!y5.2) (p:=true) (q:=!eqI ((y2.length:Int)) (w64 (((y5.1.size:Int))+1))) rfl kk hc6 kk)) ?_
    refine zH ?_
    subst ht7
    kernel_rfl
   ·refine zC _ rfl rfl kk hc6 (zB rfl (zJ (.ow 96) rfl kk)) ?_
    refine zC _ rfl rfl kk hc6 (zB rfl (zJg (c:=c9) (xs:=y2) Tryz.underlying49 rfl kk)) ?_
    refine zC _ rfl rfl kk hc6 (zB rfl (zJ (.c (.v (.string y5.1))) rfl kk)) ?_
    refine zC _ rfl rfl kk hc6 (zB rfl (zWi (b:=y5.1) Tryz.underlying9 rfl kk)) ?_
    refine zC _ rfl rfl kk hc6 (zB rfl (zEx (a:=(y5.1.size:Int)) (b:=1) rfl kk kk)) ?_
    refine zC _ rfl rfl kk hc6 (zB rfl (zZ4 (k:=.i64) (a:=(y2.length:Int)) (b:=w64 (((y5.1.size:Int))+1)) rfl kk kk)) ?_
    refine zR rfl (zB rfl (zBF (b:=!y5.2) (p:=true) (q:=!eqI ((y2.length:Int)) (w64 (((y5.1.size:Int))+1))) rfl kk hc6 kk)) ?_
    refine zH ?_
    subst ht7
    kernel_rfl
  refine zCh rfl (fun hc8=>?_) (fun hc8=>?_)
  ·have h:=zBq h hc8;refine jB (mb 77 12) [16] (s1:=⟨.bot::.bot::.pt 16 0::Bo false::bt 73 [],[(16,.box [.v (.string ByteArray.empty),.v (.slice none 0 0),Ti 0,Ti 0,Ti 0,Ti 0])]⟩) ?_ ?_
   ·refine L0 rfl rfl (zG5 (cs:=[.v (.string ByteArray.empty),.v (.slice none 0 0),Ti 0,Ti 0,Ti 0,Ti 0]) zUX zYO rfl rfl kk) ?_
    refine zR rfl (zEz (id:=16) (off:=0) (cs:=[.v (.string ByteArray.empty),.v (.slice none 0 0),Ti 0,Ti 0,Ti 0,Ti 0]) (vc:=[.v (.string ByteArray.empty),.v (.slice none 0 0),Ti 0,Ti 0,Ti 0,Ti 0]) [.v (.string ByteArray.empty),.v (.slice none 0 0),Ti 0,Ti 0,Ti 0,Ti 0] rfl rfl kk kk kk zUT (Nat.le_of_ble_eq_true rfl) kk) ?_
    refine L0 rfl rfl (zF (Bo false) rfl kk) ?_
    refine zH ?_
    kernel_rfl
   refine zQV 16 1 (cs:=[.v (.string ByteArray.empty),.v (.slice none 0 0),Ti 0,Ti 0,Ti 0,Ti 0]) (s1:=⟨.bot::.bot::.pt 16 0::Bo false::bt 73 [],[(16,.box [.v (.string ByteArray.empty),.sl ((([]:List Int)).map c3),Ti 0,Ti 0,Ti 0,Ti 0])]⟩) kk kk kk ?_
   refine zDx ?_
   obtain rfl:=zV h;show Post _ _ _ _ _;exact⟨.inr rfl,rfl,rfl,rfl⟩
  ·have h:=zBC h hc8;refine zEA ?_
   show V _ _ _ _;refine zCk ?_
   obtain⟨u9,hu9,h⟩:=zP h;obtain⟨t10,ht10,h⟩:=zOa h;refine jB (mb 77 240518168676) [40,16] (s1:=⟨.bot::.bot::.pt 16 0::.bot::.bot::.pt 40 0::.c (.v (.string y5.1))::bt 28 (.c (.sl ((subl y2 1 ((y2.length:Int))).map c9))::I t10::I 0::bt 39 []),[(40,.box [.v (.string e4),.v (.slice none 0 0),Ti 0,Ti 0,Ti 0,Ti 0]),(16,.box [.v (.string ByteArray.empty),.v (.slice none 0 0),Ti 0,Ti 0,Ti 0,Ti 0])]⟩) ?_ ?_
   ·refine L0 rfl rfl (zJ (.ow 96) rfl kk) ?_
    refine zUt 96 (T:=9) (sz:=1) (els:=y2.map c9) (s1:=⟨.bot::.bot::.pt 16 0::.bot::.c (.sl (y2.map c9))::.pt 40 0::.c (.v (.string y5.1))::bt 25 (Bo t7::.bot::.c (.sl (y2.map c9))::bt 42 []),[(40,.box [.v (.string e4),.v (.slice none 0 0),Ti 0,Ti 0,Ti 0,Ti 0]),(16,.box [.v (.string ByteArray.empty),.v (.slice none 0 0),Ti 0,Ti 0,Ti 0,Ti 0])]⟩) kk kk ?_
    refine L0 rfl rfl (zYS (c:=c9) (xs:=y2) (l:=1) (h:=(y2.length:Int)) Tryz.underlying49 sz9 (fun _=>rfl) rfl kk (fun y hy=>by cases hy;exact⟨.i64,kk⟩) (fun hh=>by cases hh) (fun y hy=>by cases hy) (fun _=>rfl) (zIa hu9)) ?_
    refine L0 rfl rfl (zJg (c:=c9) (xs:=subl y2 1 ((y2.length:Int))) Tryz.underlying49 rfl kk) ?_
    refine L0 rfl rfl (zJ (I 0) rfl kk) ?_
    refine zH ?_
    subst ht10
    kernel_rfl
   refine z4T 42 3 1 kk (by decide) ?_
   refine V_gen (fun γ:Nat→Loc=>⟨.bot::.bot::.pt 16 0::.bot::.bot::.pt 40 0::.c (.v (.string y5.1))::bt 28 (.c (.sl ((subl y2 1 ((y2.length:Int))).map c9))::I t10::I 0::bt 39 []),[(42,.qarr (γ 42) 3 1 ((([]:List Int)).map c3)),(40,.box [.v (.string e4),.v (zE (γ 42)),Ti 0,Ti 0,Ti 0,Ti 0]),(16,.box [.v (.string ByteArray.empty),.v (.slice none 0 0),Ti 0,Ti 0,Ti 0,Ti 0])]⟩) (fun _=>loc0) kk fun γ=>?_
   obtain⟨qo18,hLo18,hko18⟩:=zP h;refine z7y (q:=qo18) (S:=fun o18 (γ:Nat→Loc)=>⟨.bot::.bot::.pt 16 0::.bot::.bot::.pt 40 0::bt 71 [],[(42,.qarr (γ 42) 3 1 (o18.1.map c3)),(40,.box [.v (.string e4),.v (zE (γ 42)),Ti o18.2.1,Ti o18.2.2.1,Ti o18.2.2.2.1,Ti o18.2.2.2.2]),(16,.box [.v (.string ByteArray.empty),.v (.slice none 0 0),Ti 0,Ti 0,Ti 0,Ti 0])]⟩) (mb 77 36) [42,40,16] ?_ ?_
   ·refine zDt (zS4 (fun n s=>∃(t11:Int) (l12:List Int) (f13:Int) (f14:Int) (f15:Int) (f16:Int),∃γ:Nat→Loc,s.keep (mb 77 240518168676) [42,40,16]=(⟨.bot::.bot::.pt 16 0::.bot::.bot::.pt 40 0::.c (.v (.string y5.1))::bt 28 (.c (.sl ((subl y2 1 ((y2.length:Int))).map c9))::I t10::I t11::bt 39 []),[(42,.qarr (γ 42) 3 1 (l12.map c3)),(40,.box [.v (.string e4),.v (zE (γ 42)),Ti f13,Ti f14,Ti f15,Ti f16]),(16,.box [.v (.string ByteArray.empty),.v (.slice none 0 0),Ti 0,Ti 0,Ti 0,Ti 0])]⟩:St)∧qW e4 t10 y2 y5 n t11 l12 f13 f14 f15 f16=some qo18) FU ⟨_,_,_,_,_,_,γ,by rfl,hLo18⟩ ?_);clear hLo18;rintro n s ⟨t11,l12,f13,f14,f15,f16,γ,hs,h⟩;refine zWm _ _ hs ?_
    clear hs;cases n with
    |zero=>cases h
    |succ n=>
     rw[qW]at h;refine zDs (fun γ:Nat→Loc=>⟨.bot::.bot::.pt 16 0::.bot::.bot::.pt 40 0::.c (.v (.string y5.1))::bt 28 (.c (.sl ((subl y2 1 ((y2.length:Int))).map c9))::I t10::I t11::Bo (ltI t11 t10)::bt 38 []),[(42,.qarr (γ 42) 3 1 (l12.map c3)),(40,.box [.v (.string e4),.v (zE (γ 42)),Ti f13,Ti f14,Ti f15,Ti f16]),(16,.box [.v (.string ByteArray.empty),.v (.slice none 0 0),Ti 0,Ti 0,Ti 0,Ti 0])]⟩) (mb 77 515396075620) [42,40,16] ?_ ?_
     ·refine L0 rfl rfl (zG4 (k:=.i64) (a:=t11) (b:=t10) rfl kk kk) ?_
      refine zH ?_
      exact⟨γ,by kernel_rfl⟩
     intro γ;refine zCk ?_
     refine zCh rfl (fun hc19=>?_) (fun hc19=>?_)
     ·have h:=zBq h hc19;refine zEA ?_
      show V _ _ _ _;refine zCk ?_
      refine zDt ?_
      obtain⟨e20,he20,h⟩:=zP h;refine zDs (fun γ:Nat→Loc=>⟨.bot::.bot::.pt 16 0::.bot::.bot::.pt 40 0::.c (.v (.string y5.1))::.bot::I t11::.c (.v (.string e20))::bt 25 (.c (.sl ((subl y2 1 ((y2.length:Int))).map c9))::I t10::I t11::bt 39 []),[(42,.qarr (γ 42) 3 1 (l12.map c3)),(40,.box [.v (.string e4),.v (zE (γ 42)),Ti f13,Ti f14,Ti f15,Ti f16]),(16,.box [.v (.string ByteArray.empty),.v (.slice none 0 0),Ti 0,Ti 0,Ti 0,Ti 0])]⟩) (mb 77 240518169444) [42,40,16] ?_ ?_
      ·refine L0 rfl rfl (zJ (I t11) rfl kk) ?_
       refine L0 rfl rfl (zQU (c:=c9) (xs:=subl y2 1 ((y2.length:Int))) (v:=e20) (n:=t11) Tryz.underlying49 sz9 rfl kk kk he20) ?_
       refine L0 rfl rfl (jR (c:=.v (.string e20)) (cs:=[]) sc9 rfl kk) ?_
       refine L0 rfl rfl (zF (I t11) rfl kk) ?_
       refine L0 rfl rfl (zF (.c (.v (.string e20))) rfl kk) ?_
       refine zH ?_
       exact⟨γ,by kernel_rfl⟩
      intro γ;refine zCk ?_
      obtain⟨e21,he21,h⟩:=zP h;refine zDs (fun γ:Nat→Loc=>⟨.bot::.bot::.pt 16 0::.bot::.bot::.pt 40 0::.c (.v (.string y5.1))::.bot::.bot::.c (.v (.string e20))::bt 25 (.c (.sl ((subl y2 1 ((y2.length:Int))).map c9))::I t10::I t11::bt 6 (.c (.v (.int .u8 e21))::bt 32 [])),[(42,.qarr (γ 42) 3 1 (l12.map c3)),(40,.box [.v (.string e4),.v (zE (γ 42)),Ti f13,Ti f14,Ti f15,Ti f16]),(16,.box [.v (.string ByteArray.empty),.v (.slice none 0 0),Ti 0,Ti 0,Ti 0,Ti 0])]⟩) (mb 77 17832704213604) [42,40,16] ?_ ?_
      ·refine L0 rfl rfl (zJ (.c (.v (.string y5.1))) rfl kk) ?_
       refine L0 rfl rfl (zJ (I t11) rfl kk) ?_
       refine L0 rfl rfl (zWj (b:=y5.1) (k:=.i64) (n:=t11) (v:=e21) Tryz.underlying9 rfl kk kk he21) ?_
       refine zH ?_
       exact⟨γ,by kernel_rfl⟩
      intro γ;refine zDt ?_
      refine zDs (fun γ:Nat→Loc=>⟨.bot::.bot::.pt 16 0::.bot::.bot::.pt 40 0::.c (.v (.string y5.1))::.bot::.bot::.c (.v (.string e20))::bt 25 (.c (.sl ((subl y2 1 ((y2.length:Int))).map c9))::I t10::I t11::bt 6 (.c (.v (.int .u8 e21))::bt 6 (Bo (eqI e21 65)::bt 25 []))),[(42,.qarr (γ 42) 3 1 (l12.map c3)),(40,.box [.v (.string e4),.v (zE (γ 42)),Ti f13,Ti f14,Ti f15,Ti f16]),(16,.box [.v (.string ByteArray.empty),.v (.slice none 0 0),Ti 0,Ti 0,Ti 0,Ti 0])]⟩) (mb 77 2269632517898852) [42,40,16] ?_ ?_
      ·refine L0 rfl rfl (zIB (k:=.u8) (a:=e21) (b:=65) rfl kk kk) ?_
       refine L0 rfl rfl (zF (Bo (eqI e21 65)) rfl kk) ?_
       refine zH ?_
       exact⟨γ,by kernel_rfl⟩
      intro γ;refine zCh rfl (fun hc22=>?_) (fun hc22=>?_)
      ·have h:=zBq h hc22;refine zDs (fun γ:Nat→Loc=>⟨.bot::.bot::.pt 16 0::.bot::.bot::.pt 40 0::.c (.v (.string y5.1))::.bot::.bot::.c (.v (.string e20))::bt 25 (.c (.sl ((subl y2 1 ((y2.length:Int))).map c9))::I t10::I t11::bt 39 []),[(42,.qarr (γ 42) 3 1 (l12.map c3)),(40,.box [.v (.string e4),.v (zE (γ 42)),Ti f13,Ti f14,Ti f15,Ti f16]),(16,.box [.v (.string ByteArray.empty),.v (.slice none 0 0),Ti 0,Ti 0,Ti 0,Ti 0])]⟩) (mb 77 240518169188) [42,40,16] ?_ ?_
       ·refine L0 rfl rfl (zF (I 0) rfl kk) ?_
        refine zH ?_
        exact⟨γ,by kernel_rfl⟩
       intro γ;obtain⟨y23,hy23,h⟩:=zP h;refine zDs (fun γ:Nat→Loc=>⟨.bot::.bot::.pt 16 0::.bot::.bot::.pt 40 0::.c (.v (.string y5.1))::Bo y23.2::.bot::.bot::I y23.1::bt 24 (.c (.sl ((subl y2 1 ((y2.length:Int))).map c9))::I t10::I t11::bt 39 []),[(42,.qarr (γ 42) 3 1 (l12.map c3)),(40,.box [.v (.string e4),.v (zE (γ 42)),Ti f13,Ti f14,Ti f15,Ti f16]),(16,.box [.v (.string ByteArray.empty),.v (.slice none 0 0),Ti 0,Ti 0,Ti 0,Ti 0])]⟩) (mb 77 240518169828) [42,40,16] ?_ ?_
       ·refine L0 rfl rfl (zJ (.c (.v (.string e20))) rfl kk) ?_
        refine L1 rfl rfl (zBt (zTb hy23) zSQ rfl kk) ?_
        refine L0 rfl rfl (zJ (.tc (I y23.1) (.tc (Bo y23.2) .tn)) rfl kk) ?_
        refine L0 rfl rfl (zG8 (n:=0) (I y23.1) (.tc (Bo y23.2) .tn) (I y23.1) rfl kk kk (by intro hh;cases hh)) ?_
        refine L0 rfl rfl (zG8 (n:=1) (I y23.1) (.tc (Bo y23.2) .tn) (Bo y23.2) rfl kk kk (by intro hh;cases hh)) ?_
        refine L0 rfl rfl (zF (I y23.1) rfl kk) ?_
        refine L0 rfl rfl (zF (Bo y23.2) rfl kk) ?_
        refine zH ?_
        exact⟨γ,by kernel_rfl⟩
       intro γ;obtain⟨u24,hu24,h⟩:=zP h;refine zLW (fun γ:Nat→Loc=>⟨.bot::.bot::.pt 16 0::.bot::.bot::.pt 40 0::.c (.v (.string y5.1))::Bo y23.2::bt 27 (.c (.sl ((subl y2 1 ((y2.length:Int))).map c9))::I t10::I t11::bt 39 []),[(42,.qarr (γ 42) 3 1 ((l12++([y23.1])).map c3)),(40,.box [.v (.string e4),.v (zE (γ 42)),Ti f13,Ti f14,Ti f15,Ti f16]),(16,.box [.v (.string ByteArray.empty),.v (.slice none 0 0),Ti 0,Ti 0,Ti 0,Ti 0])]⟩) (mb 77 240518168804) [42,40,16] ?_ ?_
       ·refine L0 rfl rfl (zAL (.pt 40 1) Tryz.underlying111 rfl sz37 rfl kk (by intro hh;cases hh)) ?_
        refine L0 rfl rfl (jR (c:=.v (zE (γ 42))) (cs:=[Ti f13,Ti f14,Ti f15,Ti f16]) sc37 rfl kk) ?_
        refine L0 rfl rfl (zJ (I y23.1) rfl kk) ?_
        refine L1 rfl rfl (zGN (z:=zv3) (els:=[y23.1].map c3) Tryz.underlying37 iz3 rfl (by decide) rfl kk rfl (by simp[c3]) (by decide) (by decide)) ?_
        refine z1c 59 42 (l:=γ 42) (T:=3) (sz:=1) (els:=l12.map c3) kk kk ?_
        refine zR rfl (zOW (c:=c3) (xs:=l12) (ys:=[y23.1]) (id:=42) (z:=zv3) rfl rfl Tryz.underlying37 izb3 rfl kk kk kk (fun _=>rfl) (by simp) (zJY hu24) (by decide)) ?_
        refine L0 rfl rfl (zAL (.pt 40 1) Tryz.underlying111 rfl sz37 rfl kk (by intro hh;cases hh)) ?_
        refine z5a 62 42 (T:=3) (sz:=1) (els:=(l12++([y23.1])).map c3) kk kk fun lq1=>?_
        refine zR rfl (zEz (id:=40) (off:=1) (cs:=[.v (.string e4),.v (zE (γ 42)),Ti f13,Ti f14,Ti f15,Ti f16]) (vc:=[.v (zE (lq1))]) [.v (.string e4),.v (zE (lq1)),Ti f13,Ti f14,Ti f15,Ti f16] rfl rfl kk kk kk sz37 (Nat.le_of_ble_eq_true rfl) kk) ?_
        refine zH ?_
        exact⟨(fun i=>if i=42 then lq1 else γ i),by kernel_rfl⟩
       intro γ;show V _ _ _ _;refine zDs (fun γ:Nat→Loc=>⟨.bot::.bot::.pt 16 0::.bot::.bot::.pt 40 0::.c (.v (.string y5.1))::bt 28 (.c (.sl ((subl y2 1 ((y2.length:Int))).map c9))::I t10::I t11::bt 35 (Bo (!y23.2)::bt 3 [])),[(42,.qarr (γ 42) 3 1 ((l12++([y23.1])).map c3)),(40,.box [.v (.string e4),.v (zE (γ 42)),Ti f13,Ti f14,Ti f15,Ti f16]),(16,.box [.v (.string ByteArray.empty),.v (.slice none 0 0),Ti 0,Ti 0,Ti 0,Ti 0])]⟩) (mb 77 9444732965979808596068) [42,40,16] ?_ ?_
       ·refine L0 rfl rfl (zJ (Bo y23.2) rfl kk) ?_
        refine L0 rfl rfl (zOT (b:=y23.2) rfl kk) ?_
        refine zH ?_
        exact⟨γ,by kernel_rfl⟩
       intro γ;refine zCh rfl (fun hc25=>?_) (fun hc25=>?_)
       ·have h:=zBq h hc25;refine zDs (fun γ:Nat→Loc=>⟨.bot::.bot::.pt 16 0::Bo false::bt 73 [],[(42,.qarr (γ 42) 3 1 ((l12++([y23.1])).map c3)),(16,.box [.v (.string ByteArray.empty),.v (.slice none 0 0),Ti 0,Ti 0,Ti 0,Ti 0])]⟩) (mb 77 12) [42,16] ?_ ?_
        ·refine L0 rfl rfl (zG5 (cs:=[.v (.string ByteArray.empty),.v (.slice none 0 0),Ti 0,Ti 0,Ti 0,Ti 0]) zUX zYO rfl rfl kk) ?_
         refine zR rfl (zEz (id:=16) (off:=0) (cs:=[.v (.string ByteArray.empty),.v (.slice none 0 0),Ti 0,Ti 0,Ti 0,Ti 0]) (vc:=[.v (.string ByteArray.empty),.v (.slice none 0 0),Ti 0,Ti 0,Ti 0,Ti 0]) [.v (.string ByteArray.empty),.v (.slice none 0 0),Ti 0,Ti 0,Ti 0,Ti 0] rfl rfl kk kk kk zUT (Nat.le_of_ble_eq_true rfl) kk) ?_
         refine L0 rfl rfl (zF (Bo false) rfl kk) ?_
         refine zH ?_
         exact⟨γ,by kernel_rfl⟩
        intro γ;refine zQV 16 1 (cs:=[.v (.string ByteArray.empty),.v (.slice none 0 0),Ti 0,Ti 0,Ti 0,Ti 0]) (s1:=⟨.bot::.bot::.pt 16 0::Bo false::bt 73 [],[(42,.qarr (γ 42) 3 1 ((l12++([y23.1])).map c3)),(16,.box [.v (.string ByteArray.empty),.sl ((([]:List Int)).map c3),Ti 0,Ti 0,Ti 0,Ti 0])]⟩) kk kk kk ?_
        refine zDx ?_
        obtain rfl:=zV h;have h:=hko18;obtain rfl:=zV h;show Post _ _ _ _ _;exact⟨.inr rfl,rfl,rfl,rfl⟩
       ·have h:=zBC h hc25;refine zEA ?_
        show V _ _ _ _;obtain⟨t26,ht26,h⟩:=zOa h;refine zLW (fun γ:Nat→Loc=>⟨.bot::.bot::.pt 16 0::.bot::.bot::.pt 40 0::.c (.v (.string y5.1))::bt 28 (.c (.sl ((subl y2 1 ((y2.length:Int))).map c9))::I t10::I t26::bt 39 []),[(42,.qarr (γ 42) 3 1 ((l12++([y23.1])).map c3)),(40,.box [.v (.string e4),.v (zE (γ 42)),Ti f13,Ti f14,Ti f15,Ti f16]),(16,.box [.v (.string ByteArray.empty),.v (.slice none 0 0),Ti 0,Ti 0,Ti 0,Ti 0])]⟩) (mb 77 240518168676) [42,40,16] ?_ ?_
        ·refine L0 rfl rfl (zEx (a:=t11) (b:=1) rfl kk kk) ?_
         refine L0 rfl rfl (zJ (I (w64 (t11+1))) rfl kk) ?_
         refine zH ?_
         subst ht26;exact⟨γ,by kernel_rfl⟩
        intro γ;exact⟨n,Nat.lt_succ_self n,_,_,_,_,_,_,γ,by rfl,h⟩
      ·have h:=zBC h hc22;refine zDs (fun γ:Nat→Loc=>⟨.bot::.bot::.pt 16 0::.bot::.bot::.pt 40 0::.c (.v (.string y5.1))::.bot::.bot::.c (.v (.string e20))::bt 25 (.c (.sl ((subl y2 1 ((y2.length:Int))).map c9))::I t10::I t11::bt 26 (Bo (eqI e21 102)::bt 12 [])),[(42,.qarr (γ 42) 3 1 (l12.map c3)),(40,.box [.v (.string e4),.v (zE (γ 42)),Ti f13,Ti f14,Ti f15,Ti f16]),(16,.box [.v (.string ByteArray.empty),.v (.slice none 0 0),Ti 0,Ti 0,Ti 0,Ti 0])]⟩) (mb 77 18446744314227720804) [42,40,16] ?_ ?_
       ·refine L0 rfl rfl (zIB (k:=.u8) (a:=e21) (b:=102) rfl kk kk) ?_
        refine L0 rfl rfl (zF (Bo (eqI e21 102)) rfl kk) ?_
        refine zH ?_
        exact⟨γ,by kernel_rfl⟩
       intro γ;refine zCh rfl (fun hc27=>?_) (fun hc27=>?_)
       ·have h:=zBq h hc27;obtain⟨y28,hy28,h⟩:=zP h;refine zLW (fun γ:Nat→Loc=>⟨.bot::.bot::.pt 16 0::.bot::.bot::.pt 40 0::.c (.v (.string y5.1))::Bo y28.2::bt 27 (.c (.sl ((subl y2 1 ((y2.length:Int))).map c9))::I t10::I t11::bt 39 []),[(42,.qarr (γ 42) 3 1 (l12.map c3)),(40,.box [.v (.string e4),.v (zE (γ 42)),Ti y28.1.1,Ti y28.1.2.1,Ti y28.1.2.2,Ti f16]),(16,.box [.v (.string ByteArray.empty),.v (.slice none 0 0),Ti 0,Ti 0,Ti 0,Ti 0])]⟩) (mb 77 240518168804) [42,40,16] ?_ ?_
        ·refine L0 rfl rfl (zJ (.c (.v (.string e20))) rfl kk) ?_
         refine L1 rfl rfl (zBt (zNc hy28) zMf rfl kk) ?_
         refine L0 rfl rfl (zJ (.tc (.ag [Ti y28.1.1,Ti y28.1.2.1,Ti y28.1.2.2]) (.tc (Bo y28.2) .tn)) rfl kk) ?_
         refine L0 rfl rfl (zG8 (n:=0) (.ag [Ti y28.1.1,Ti y28.1.2.1,Ti y28.1.2.2]) (.tc (Bo y28.2) .tn) (.ag [Ti y28.1.1,Ti y28.1.2.1,Ti y28.1.2.2]) rfl kk kk (by intro hh;cases hh)) ?_
         refine L0 rfl rfl (zG8 (n:=1) (.ag [Ti y28.1.1,Ti y28.1.2.1,Ti y28.1.2.2]) (.tc (Bo y28.2) .tn) (Bo y28.2) rfl kk kk (by intro hh;cases hh)) ?_
         refine L0 rfl rfl (zAL (.pt 40 2) Tryz.underlying111 rfl sz42 rfl kk (by intro hh;cases hh)) ?_
         refine zR rfl (zEz (id:=40) (off:=2) (cs:=[.v (.string e4),.v (zE (γ 42)),Ti f13,Ti f14,Ti f15,Ti f16]) (vc:=[Ti y28.1.1,Ti y28.1.2.1,Ti y28.1.2.2]) [.v (.string e4),.v (zE (γ 42)),Ti y28.1.1,Ti y28.1.2.1,Ti y28.1.2.2,Ti f16] rfl rfl kk kk kk sz42 (Nat.le_of_ble_eq_true rfl) kk) ?_
         refine L0 rfl rfl (zF (Bo y28.2) rfl kk) ?_
         refine zH ?_
         exact⟨γ,by kernel_rfl⟩
        intro γ;show V _ _ _ _;refine zDs (fun γ:Nat→Loc=>⟨.bot::.bot::.pt 16 0::.bot::.bot::.pt 40 0::.c (.v (.string y5.1))::bt 28 (.c (.sl ((subl y2 1 ((y2.length:Int))).map c9))::I t10::I t11::bt 35 (Bo (!y28.2)::bt 3 [])),[(42,.qarr (γ 42) 3 1 (l12.map c3)),(40,.box [.v (.string e4),.v (zE (γ 42)),Ti y28.1.1,Ti y28.1.2.1,Ti y28.1.2.2,Ti f16]),(16,.box [.v (.string ByteArray.empty),.v (.slice none 0 0),Ti 0,Ti 0,Ti 0,Ti 0])]⟩) (mb 77 9444732965979808596068) [42,40,16] ?_ ?_
        ·refine L0 rfl rfl (zJ (Bo y28.2) rfl kk) ?_
         refine L0 rfl rfl (zOT (b:=y28.2) rfl kk) ?_
         refine zH ?_
         exact⟨γ,by kernel_rfl⟩
        intro γ;refine zCh rfl (fun hc29=>?_) (fun hc29=>?_)
        ·have h:=zBq h hc29;refine zDs (fun γ:Nat→Loc=>⟨.bot::.bot::.pt 16 0::Bo false::bt 73 [],[(42,.qarr (γ 42) 3 1 (l12.map c3)),(16,.box [.v (.string ByteArray.empty),.v (.slice none 0 0),Ti 0,Ti 0,Ti 0,Ti 0])]⟩) (mb 77 12) [42,16] ?_ ?_
         ·refine L0 rfl rfl (zG5 (cs:=[.v (.string ByteArray.empty),.v (.slice none 0 0),Ti 0,Ti 0,Ti 0,Ti 0]) zUX zYO rfl rfl kk) ?_
          refine zR rfl (zEz (id:=16) (off:=0) (cs:=[.v (.string ByteArray.empty),.v (.slice none 0 0),Ti 0,Ti 0,Ti 0,Ti 0]) (vc:=[.v (.string ByteArray.empty),.v (.slice none 0 0),Ti 0,Ti 0,Ti 0,Ti 0]) [.v (.string ByteArray.empty),.v (.slice none 0 0),Ti 0,Ti 0,Ti 0,Ti 0] rfl rfl kk kk kk zUT (Nat.le_of_ble_eq_true rfl) kk) ?_
          refine L0 rfl rfl (zF (Bo false) rfl kk) ?_
          refine zH ?_
          exact⟨γ,by kernel_rfl⟩
         intro γ;refine zQV 16 1 (cs:=[.v (.string ByteArray.empty),.v (.slice none 0 0),Ti 0,Ti 0,Ti 0,Ti 0]) (s1:=⟨.bot::.bot::.pt 16 0::Bo false::bt 73 [],[(42,.qarr (γ 42) 3 1 (l12.map c3)),(16,.box [.v (.string ByteArray.empty),.sl ((([]:List Int)).map c3),Ti 0,Ti 0,Ti 0,Ti 0])]⟩) kk kk kk ?_
         refine zDx ?_
         obtain rfl:=zV h;have h:=hko18;obtain rfl:=zV h;show Post _ _ _ _ _;exact⟨.inr rfl,rfl,rfl,rfl⟩
        ·have h:=zBC h hc29;refine zEA ?_
         show V _ _ _ _;obtain⟨t30,ht30,h⟩:=zOa h;refine zLW (fun γ:Nat→Loc=>⟨.bot::.bot::.pt 16 0::.bot::.bot::.pt 40 0::.c (.v (.string y5.1))::bt 28 (.c (.sl ((subl y2 1 ((y2.length:Int))).map c9))::I t10::I t30::bt 39 []),[(42,.qarr (γ 42) 3 1 (l12.map c3)),(40,.box [.v (.string e4),.v (zE (γ 42)),Ti y28.1.1,Ti y28.1.2.1,Ti y28.1.2.2,Ti f16]),(16,.box [.v (.string ByteArray.empty),.v (.slice none 0 0),Ti 0,Ti 0,Ti 0,Ti 0])]⟩) (mb 77 240518168676) [42,40,16] ?_ ?_
         ·refine L0 rfl rfl (zEx (a:=t11) (b:=1) rfl kk kk) ?_
          refine L0 rfl rfl (zJ (I (w64 (t11+1))) rfl kk) ?_
          refine zH ?_
          subst ht30;exact⟨γ,by kernel_rfl⟩
         intro γ;exact⟨n,Nat.lt_succ_self n,_,_,_,_,_,_,γ,by rfl,h⟩
       ·have h:=zBC h hc27;obtain⟨y31,hy31,h⟩:=zP h;refine zLW (fun γ:Nat→Loc=>⟨.bot::.bot::.pt 16 0::.bot::.bot::.pt 40 0::.c (.v (.string y5.1))::Bo y31.2::bt 27 (.c (.sl ((subl y2 1 ((y2.length:Int))).map c9))::I t10::I t11::bt 39 []),[(42,.qarr (γ 42) 3 1 (l12.map c3)),(40,.box [.v (.string e4),.v (zE (γ 42)),Ti f13,Ti f14,Ti f15,Ti y31.1]),(16,.box [.v (.string ByteArray.empty),.v (.slice none 0 0),Ti 0,Ti 0,Ti 0,Ti 0])]⟩) (mb 77 240518168804) [42,40,16] ?_ ?_
        ·refine L0 rfl rfl (zJ (.c (.v (.string e20))) rfl kk) ?_
         refine L1 rfl rfl (zBt (zPR hy31) zOI rfl kk) ?_
         refine L0 rfl rfl (zJ (.tc (I y31.1) (.tc (Bo y31.2) .tn)) rfl kk) ?_
         refine L0 rfl rfl (zG8 (n:=0) (I y31.1) (.tc (Bo y31.2) .tn) (I y31.1) rfl kk kk (by intro hh;cases hh)) ?_
         refine L0 rfl rfl (zG8 (n:=1) (I y31.1) (.tc (Bo y31.2) .tn) (Bo y31.2) rfl kk kk (by intro hh;cases hh)) ?_
         refine L0 rfl rfl (zAL (.pt 40 5) Tryz.underlying111 rfl sz3 rfl kk (by intro hh;cases hh)) ?_
         refine zR rfl (zEz (id:=40) (off:=5) (cs:=[.v (.string e4),.v (zE (γ 42)),Ti f13,Ti f14,Ti f15,Ti f16]) (vc:=[Ti y31.1]) [.v (.string e4),.v (zE (γ 42)),Ti f13,Ti f14,Ti f15,Ti y31.1] rfl rfl kk kk kk sz3 (Nat.le_of_ble_eq_true rfl) kk) ?_
         refine L0 rfl rfl (zF (Bo y31.2) rfl kk) ?_
         refine zH ?_
         exact⟨γ,by kernel_rfl⟩
        intro γ;show V _ _ _ _;refine zDs (fun γ:Nat→Loc=>⟨.bot::.bot::.pt 16 0::.bot::.bot::.pt 40 0::.c (.v (.string y5.1))::bt 28 (.c (.sl ((subl y2 1 ((y2.length:Int))).map c9))::I t10::I t11::bt 35 (Bo (!y31.2)::bt 3 [])),[(42,.qarr (γ 42) 3 1 (l12.map c3)),(40,.box [.v (.string e4),.v (zE (γ 42)),Ti f13,Ti f14,Ti f15,Ti y31.1]),(16,.box [.v (.string ByteArray.empty),.v (.slice none 0 0),Ti 0,Ti 0,Ti 0,Ti 0])]⟩) (mb 77 9444732965979808596068) [42,40,16] ?_ ?_
        ·refine L0 rfl rfl (zJ (Bo y31.2) rfl kk) ?_
         refine L0 rfl rfl (zOT (b:=y31.2) rfl kk) ?_
         refine zH ?_
         exact⟨γ,by kernel_rfl⟩
        intro γ;refine zCh rfl (fun hc32=>?_) (fun hc32=>?_)
        ·have h:=zBq h hc32;refine zDs (fun γ:Nat→Loc=>⟨.bot::.bot::.pt 16 0::Bo false::bt 73 [],[(42,.qarr (γ 42) 3 1 (l12.map c3)),(16,.box [.v (.string ByteArray.empty),.v (.slice none 0 0),Ti 0,Ti 0,Ti 0,Ti 0])]⟩) (mb 77 12) [42,16] ?_ ?_
         ·refine L0 rfl rfl (zG5 (cs:=[.v (.string ByteArray.empty),.v (.slice none 0 0),Ti 0,Ti 0,Ti 0,Ti 0]) zUX zYO rfl rfl kk) ?_
          refine zR rfl (zEz (id:=16) (off:=0) (cs:=[.v (.string ByteArray.empty),.v (.slice none 0 0),Ti 0,Ti 0,Ti 0,Ti 0]) (vc:=[.v (.string ByteArray.empty),.v (.slice none 0 0),Ti 0,Ti 0,Ti 0,Ti 0]) [.v (.string ByteArray.empty),.v (.slice none 0 0),Ti 0,Ti 0,Ti 0,Ti 0] rfl rfl kk kk kk zUT (Nat.le_of_ble_eq_true rfl) kk) ?_
          refine L0 rfl rfl (zF (Bo false) rfl kk) ?_
          refine zH ?_
          exact⟨γ,by kernel_rfl⟩
         intro γ;refine zQV 16 1 (cs:=[.v (.string ByteArray.empty),.v (.slice none 0 0),Ti 0,Ti 0,Ti 0,Ti 0]) (s1:=⟨.bot::.bot::.pt 16 0::Bo false::bt 73 [],[(42,.qarr (γ 42) 3 1 (l12.map c3)),(16,.box [.v (.string ByteArray.empty),.sl ((([]:List Int)).map c3),Ti 0,Ti 0,Ti 0,Ti 0])]⟩) kk kk kk ?_
         refine zDx ?_
         obtain rfl:=zV h;have h:=hko18;obtain rfl:=zV h;show Post _ _ _ _ _;exact⟨.inr rfl,rfl,rfl,rfl⟩
        ·have h:=zBC h hc32;refine zEA ?_
         show V _ _ _ _;obtain⟨t33,ht33,h⟩:=zOa h;refine zLW (fun γ:Nat→Loc=>⟨.bot::.bot::.pt 16 0::.bot::.bot::.pt 40 0::.c (.v (.string y5.1))::bt 28 (.c (.sl ((subl y2 1 ((y2.length:Int))).map c9))::I t10::I t33::bt 39 []),[(42,.qarr (γ 42) 3 1 (l12.map c3)),(40,.box [.v (.string e4),.v (zE (γ 42)),Ti f13,Ti f14,Ti f15,Ti y31.1]),(16,.box [.v (.string ByteArray.empty),.v (.slice none 0 0),Ti 0,Ti 0,Ti 0,Ti 0])]⟩) (mb 77 240518168676) [42,40,16] ?_ ?_
         ·refine L0 rfl rfl (zEx (a:=t11) (b:=1) rfl kk kk) ?_
          refine L0 rfl rfl (zJ (I (w64 (t11+1))) rfl kk) ?_
          refine zH ?_
          subst ht33;exact⟨γ,by kernel_rfl⟩
         intro γ;exact⟨n,Nat.lt_succ_self n,_,_,_,_,_,_,γ,by rfl,h⟩
     ·have h:=zBC h hc19;refine zS5 ?_
      obtain rfl:=zV h;exact⟨_,rfl,γ,by rfl⟩
   rintro o18 rfl γ;have h:=hko18;clear hko18;show V _ _ _ _;refine z8A 42 40 1 (l:=γ 42) (T:=3) (sz:=1) (els:=o18.1.map c3) (cs:=[.v (.string e4),.v (zE (γ 42)),Ti o18.2.1,Ti o18.2.2.1,Ti o18.2.2.2.1,Ti o18.2.2.2.2]) (s1:=⟨.bot::.bot::.pt 16 0::.bot::.bot::.pt 40 0::bt 71 [],[(40,.box [.v (.string e4),.sl (o18.1.map c3),Ti o18.2.1,Ti o18.2.2.1,Ti o18.2.2.2.1,Ti o18.2.2.2.2]),(16,.box [.v (.string ByteArray.empty),.v (.slice none 0 0),Ti 0,Ti 0,Ti 0,Ti 0])]⟩) kk kk kk kk ?_
   refine jB (mb 77 12) [16] (s1:=⟨.bot::.bot::.pt 16 0::Bo true::bt 73 [],[(16,.box [.v (.string e4),.sl (o18.1.map c3),Ti o18.2.1,Ti o18.2.2.1,Ti o18.2.2.2.1,Ti o18.2.2.2.2])]⟩) ?_ ?_
   ·refine L0 rfl rfl (zGr (cs:=[.v (.string e4),.sl (o18.1.map c3),Ti o18.2.1,Ti o18.2.2.1,Ti o18.2.2.2.1,Ti o18.2.2.2.2]) [.v (.string e4),.sl (o18.1.map c3),Ti o18.2.1,Ti o18.2.2.1,Ti o18.2.2.2.1,Ti o18.2.2.2.2] z5p rfl kk (Nat.le_of_ble_eq_true rfl) kk) ?_
    refine zR rfl (zEz (id:=16) (off:=0) (cs:=[.v (.string ByteArray.empty),.v (.slice none 0 0),Ti 0,Ti 0,Ti 0,Ti 0]) (vc:=[.v (.string e4),.sl (o18.1.map c3),Ti o18.2.1,Ti o18.2.2.1,Ti o18.2.2.2.1,Ti o18.2.2.2.2]) [.v (.string e4),.sl (o18.1.map c3),Ti o18.2.1,Ti o18.2.2.1,Ti o18.2.2.2.1,Ti o18.2.2.2.2] rfl rfl kk kk kk zUT (Nat.le_of_ble_eq_true rfl) kk) ?_
    refine L0 rfl rfl (zF (Bo true) rfl kk) ?_
    refine zH ?_
    kernel_rfl
   refine zDx ?_
   obtain rfl:=zV h;show Post _ _ _ _ _;exact⟨.inr rfl,rfl,rfl,rfl⟩
def zPz (vs1:ByteArray):=fC zOG (zM vs1) fun _=>zPP
end Go.Proofs.YtahdjphocippeaaGreatDoor
