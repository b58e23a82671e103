/-
  Rules of walks, plain functions and their laws, part 4.
  Conditions: none.
-/
import Derived.Shelf.Strings.Builder1
import Derived.Shelf.Strings.OnBuilder
import Derived.Shelf.LaysM
import Derived.Shelf.Strconv.Itoa3
import Derived.Shelf.LaysC
import Derived.Shelf.Strconv.AtoiAll
import Derived.Shelf.Strings.Prefix
import Derived.Shelf.Strings.Split
import Derived.Shelf.Strings.FieldsFuncAny
import Derived.Test.YtahdjphocippeaaGreatDoorProg
import Derived.Test.YtahdjphocippeaaGreatDoorRows
import Derived.MapKept
import Derived.Test.YtahdjphocippeaaGreatDoorCt3
set_option linter.unusedSimpArgs false
set_option linter.unusedVariables false
namespace Go.Proofs.YtahdjphocippeaaGreatDoor
theorem z49 {d:Int} {F:Nat→F3} {L:List StI} {x:StS×List StS} (hr:CR ((d,F),L) x) (hx:x.2.length≤1000000) {s:ByteArray} {f:F3} {v:Int} (h1:zM s=some ((wddisc,[],f,v),true)) (h2:qF s=some (wddisc,([],f,v),true)):zDg ((d,F),L) x s:=by
 have q:=zZc;obtain⟨q1,q2,q3,q4,q5,q6,q7,q8,q9,q10,q11,q12,q13,q14⟩:=zZc;unfold wE at q;have hsr:SR (d,F) x.1:=hr.1;have d1:-2000≤d:=hsr.d1;have d2:d≤-3:=hsr.d2;have hd:x.1.1=d:=hsr.d;have hL:L.length=x.2.length:=hr.2.1;have hw:setW wddisc=false:=by decide+kernel
 have hf:zO (d,F) (wddisc,[],f,v)=some ([],true):=zWI wddisc f v d F (l:=[]) (by simp) (by simp) hw;obtain⟨b,k1,k2,k3⟩:=z4t v;have hc:zH (d,F) (wddisc,[],f,v) []=some (b,true,(v,fun _=>(0,0,0))):=by
  unfold zH;simp -implicitDefEqProofs only[k1,za,zb,q,Nat.reduceBEq]
 refine⟨_,if b then (okT,((v,ByteArray.empty,[]),x.2++[x.1])) else (noT,x),zKw (c:=((d,F),L)) h1 q14 hf hc (by simp only;omega),?_,?_⟩
 ·unfold zK;simp -implicitDefEqProofs only[h2,k2,za,zg,zb,zc,q,Nat.reduceBEq,jF];rw[zBG (by simp;omega)];cases b<;>rfl
 ·cases b with
  |true=>
   obtain⟨e1,e2,e3⟩:=k3 rfl;exact⟨rfl,⟨z1o e1 e2 e3,zWB hr.2 hsr⟩,by simp,zVu⟩
  |false=>exact⟨rfl,hr,by simp,zGU⟩
theorem zQI {d:Int} {F:Nat→F3} {L:List StI} {x:StS×List StS} (hr:CR ((d,F),L) x) (hx:x.2.length≤1000000) {s w:ByteArray} {li:List Int} {f:F3} {v:Int} {fs:List F3} (h1:zM s=some ((w,li,f,v),true)) (hu:(w.toList==wdundo.toList)=false) (hf:zO (d,F) (w,li,f,v)=some (fs,true)) {i:Nat} (hi:i<26) {f0 g:F3} (hg:PrRc d g) (hrd:zZ f0=some g)
  (hc:zH (d,F) (w,li,f,v) fs=(zAZ (d,F) (i:Int) f0).bind fun y=>some (y.1,true,y.2)) (hs:zK x s=jL x (lt1 i) g):zDg ((d,F),L) x s:=by
 have hsr:SR (d,F) x.1:=hr.1;have hL:L.length=x.2.length:=hr.2.1;have hle:(dnS F 0).length≤8:=hsr.le;rw[z2C d F hi hrd (by omega)]at hc;have hn:=z0o hsr hx hi hg;by_cases hq:nzb (F i)=false∧(dnS F 0).length=8
 ·rw[if_pos hq]at hc hn;rw[hn]at hs;exact⟨_,_,zKw (c:=((d,F),L)) h1 hu hf hc (by simp only;omega),hs,rfl,hr,by simp,zGU⟩
 ·rw[if_neg hq]at hc hn;obtain⟨y,hy,hsy⟩:=hn;rw[hy]at hs;exact⟨_,_,zKw (c:=((d,F),L)) h1 hu hf hc (by simp only;omega),hs,rfl,⟨hsy,zWB hr.2 hsr⟩,by simp,zVu⟩
theorem z6C {d:Int} {F:Nat→F3} {L:List StI} {x:StS×List StS} (hr:CR ((d,F),L) x) (hx:x.2.length≤1000000) {s:ByteArray} {i:Nat} (hi:i<26) {f:F3} {v:Int} (h1:zM s=some ((wdset,[(i:Int)],f,v),true)) (h2:qF s=some (wdset,([lt1 i],f,v),true)):zDg ((d,F),L) x s:=by
 have q:=z1Y;obtain⟨q1,q2,q3,q4,q5,q6,q7,q8,q9,q10,q11,q12,q13,q14⟩:=z1Y;unfold wE at q;have hsr:SR (d,F) x.1:=hr.1;have d1:-2000≤d:=hsr.d1;have d2:d≤-3:=hsr.d2;have hd:x.1.1=d:=hsr.d;have hL:L.length=x.2.length:=hr.2.1;have hw:setW wdset=true:=by decide+kernel
 have hf:zO (d,F) (wdset,[(i:Int)],f,v)=some ([F i],true):=zWJ wdset f v d F (l:=[]) (by simp) hi (by simp) hw;have g0:getI [(i:Int)] 0=some (i:Int):=rfl;have g1:getI [lt1 i] 0=some (lt1 i):=rfl;obtain⟨b,k1,k2,k3⟩:=z6z f;cases b with
 |false=>
  have hc:zH (d,F) (wdset,[(i:Int)],f,v) [F i]=some (false,true,(d,F)):=by
   unfold zH;simp -implicitDefEqProofs only[k1,za,zb,zc,q,Nat.reduceBEq]
  refine⟨_,(noT,x),zKw (c:=((d,F),L)) h1 q14 hf hc (by simp only;omega),?_,rfl,hr,by simp,zGU⟩;unfold zK;simp -implicitDefEqProofs only[h2,k2,za,zg,zh,zb,zc,q,Nat.reduceBEq];rfl
 |true=>
  obtain⟨D,e1,e2,e3,e4,g,e5,e6,e7⟩:=k3 rfl;by_cases hD:D=d
  ·subst hD;refine zQI hr hx h1 q14 hf hi e7 e5 ?_ ?_
   ·unfold zH;simp -implicitDefEqProofs only[k1,e1,g0,jD,beq_self_eq_true,za,Option.bind_assoc,zb,zc,q,Nat.reduceBEq]
   ·unfold zK;simp -implicitDefEqProofs only[h2,k2,e2,e6,g1,hd,jD,beq_self_eq_true,za,zg,zh,zb,zc,q,Nat.reduceBEq,zG2]
  ·have hb:(D==d)=false:=beq_eq_false_iff_ne.2 hD;have hc:zH (d,F) (wdset,[(i:Int)],f,v) [F i]=some (false,true,(d,F)):=by
    unfold zH;simp -implicitDefEqProofs only[k1,e1,jD,hb,za,zb,zc,q,Nat.reduceBEq]
   refine⟨_,(noT,x),zKw (c:=((d,F),L)) h1 q14 hf hc (by simp only;omega),?_,rfl,hr,by simp,zGU⟩;unfold zK;simp -implicitDefEqProofs only[h2,k2,e2,hd,jD,hb,za,zg,zh,zb,zc,q,Nat.reduceBEq];rfl
theorem z2T {d:Int} {F:Nat→F3} {L:List StI} {x:StS×List StS} (hr:CR ((d,F),L) x) (hx:x.2.length≤1000000) {s:ByteArray} {i:Nat} (hi:i<26) {f:F3} {v:Int} (h1:zM s=some ((wdprime,[(i:Int)],f,v),true)) (h2:qF s=some (wdprime,([lt1 i],f,v),true)):zDg ((d,F),L) x s:=by
 have q:=zXD;obtain⟨q1,q2,q3,q4,q5,q6,q7,q8,q9,q10,q11,q12,q13,q14⟩:=zXD;unfold wE at q;have hsr:SR (d,F) x.1:=hr.1;have d1:-2000≤d:=hsr.d1;have d2:d≤-3:=hsr.d2;have hd:x.1.1=d:=hsr.d;have hL:L.length=x.2.length:=hr.2.1;have hw:setW wdprime=true:=by decide+kernel
 have hf:zO (d,F) (wdprime,[(i:Int)],f,v)=some ([F i],true):=zWJ wdprime f v d F (l:=[]) (by simp) hi (by simp) hw;have g0:getI [(i:Int)] 0=some (i:Int):=rfl;have g1:getI [lt1 i] 0=some (lt1 i):=rfl;obtain⟨g,b,k1,k2,k3⟩:=z3Q d1 d2 hsr.d4 v;cases b with
 |false=>
  have hc:zH (d,F) (wdprime,[(i:Int)],f,v) [F i]=some (false,true,(d,F)):=by
   unfold zH;simp -implicitDefEqProofs only[k1,za,zb,zc,q,Nat.reduceBEq]
  refine⟨_,(noT,x),zKw (c:=((d,F),L)) h1 q14 hf hc (by simp only;omega),?_,rfl,hr,by simp,zGU⟩;unfold zK;simp -implicitDefEqProofs only[h2,hd,k2,za,zg,zh,zb,zc,q,Nat.reduceBEq];rfl
 |true=>
  refine zQI hr hx h1 q14 hf hi (k3 rfl) (zF1 d1 (by omega) (k3 rfl)).1 ?_ ?_
  ·unfold zH;simp -implicitDefEqProofs only[k1,g0,za,Option.bind_assoc,zb,zc,q,Nat.reduceBEq]
  ·unfold zK;simp -implicitDefEqProofs only[h2,hd,k2,g1,za,zg,zh,zb,zc,q,Nat.reduceBEq,zG2]
theorem z6E {d:Int} {F:Nat→F3} {L:List StI} {x:StS×List StS} (hr:CR ((d,F),L) x) (hx:x.2.length≤1000000) {s:ByteArray} {i:Nat} (hi:i<26) {j:Nat} (hj:j<26) {k:Nat} (hk:k<26) {f:F3} {v:Int} (h1:zM s=some ((wdmul,[(i:Int),(j:Int),(k:Int)],f,v),true)) (h2:qF s=some (wdmul,([lt1 i,lt1 j,lt1 k],f,v),true)):zDg ((d,F),L) x s:=by
 have q:=z19;obtain⟨q1,q2,q3,q4,q5,q6,q7,q8,q9,q10,q11,q12,q13,q14⟩:=z19;unfold wE at q;have hsr:SR (d,F) x.1:=hr.1;have d1:-2000≤d:=hsr.d1;have d2:d≤-3:=hsr.d2;have hd:x.1.1=d:=hsr.d;have hL:L.length=x.2.length:=hr.2.1;have hw:setW wdmul=true:=by decide+kernel
 have h26:∀a∈[j,k],a<26:=by simp[hj,hk]
 have hf:zO (d,F) (wdmul,[(i:Int),(j:Int),(k:Int)],f,v)=_:=zWJ wdmul f v d F (l:=[j,k]) (by simp) hi h26 hw;have ha:jB [lt1 j,lt1 k] ([lt1 i,lt1 j,lt1 k],f,v) wdmul x FU 0 []=_:=zZW wdmul ([lt1 i,lt1 j,lt1 k],f,v) hsr (l:=[j,k]) (by simp) h26;have g0:getI [(i:Int),(j:Int),(k:Int)] 0=some (i:Int):=rfl;have g1:getI [lt1 i,lt1 j,lt1 k] 0=some (lt1 i):=rfl;have g2:slc ([lt1 i,lt1 j,lt1 k]:List ByteArray).length 1 ((([lt1 i,lt1 j,lt1 k]:List ByteArray).length:Nat):Int)=some ():=rfl;have g3:subl [lt1 i,lt1 j,lt1 k] 1 ((([lt1 i,lt1 j,lt1 k]:List ByteArray).length:Nat):Int)=[lt1 j,lt1 k]:=rfl;have hsl:zK x s=qA x wdmul ([lt1 i,lt1 j,lt1 k],f,v):=zYl h2 q1 q2 q3 q8 q13 q14;cases hall:([j,k]).all (fun i=>nzb (F i)) with
 |false=>
  rw[hall]at hf ha;refine⟨_,(noT,x),zZm (c:=((d,F),L)) h1 q14 hf,hsl.trans ?_,rfl,hr,by simp,zGU⟩;unfold qA;simp -implicitDefEqProofs only[g2,g3,ha,za,zb,zc,q,Nat.reduceBEq];rfl
 |true=>
  rw[hall,if_pos rfl]at hf ha;rw[List.all_eq_true]at hall;have pj:PrRc d (F j):=hsr.pr j hj (hall j (by simp));have pk:PrRc d (F k):=hsr.pr k hk (hall k (by simp));simp only[List.map_cons,zq]at hf ha;obtain⟨g,k1,k2,k3⟩:=z7C d1 (by omega) pj pk;have a1:getI [F i,F j,F k] 1=some (F j):=rfl;have a2:getI [F i,F j,F k] 2=some (F k):=rfl;have c1:getI [F j,F k] 0=some (F j):=rfl;have c2:getI [F j,F k] 1=some (F k):=rfl;refine zQI hr hx h1 q14 hf hi k3 (zF1 d1 (by omega) k3).1 ?_ (hsl.trans ?_)
  ·unfold zH;simp -implicitDefEqProofs only[g0,k1,a1,a2,za,Option.bind_assoc,zb,zc,q,Nat.reduceBEq]
  ·unfold qA;simp -implicitDefEqProofs only[g2,g3,ha,g1,k2,c1,c2,za,zb,zc,q,Nat.reduceBEq,zG2]
theorem z6D {d:Int} {F:Nat→F3} {L:List StI} {x:StS×List StS} (hr:CR ((d,F),L) x) (hx:x.2.length≤1000000) {s:ByteArray} {i:Nat} (hi:i<26) {j:Nat} (hj:j<26) {f:F3} {v:Int} (hv:NB v) (h1:zM s=some ((wdpow,[(i:Int),(j:Int)],f,v),true)) (h2:qF s=some (wdpow,([lt1 i,lt1 j],f,v),true)):zDg ((d,F),L) x s:=by
 have q:=z1Z;obtain⟨q1,q2,q3,q4,q5,q6,q7,q8,q9,q10,q11,q12,q13,q14⟩:=z1Z;unfold wE at q;have hsr:SR (d,F) x.1:=hr.1;have d1:-2000≤d:=hsr.d1;have d2:d≤-3:=hsr.d2;have hd:x.1.1=d:=hsr.d;have hL:L.length=x.2.length:=hr.2.1;have hw:setW wdpow=true:=by decide+kernel
 have h26:∀a∈[j],a<26:=by simp[hj]
 have hf:zO (d,F) (wdpow,[(i:Int),(j:Int)],f,v)=_:=zWJ wdpow f v d F (l:=[j]) (by simp) hi h26 hw;have ha:jB [lt1 j] ([lt1 i,lt1 j],f,v) wdpow x FU 0 []=_:=zZW wdpow ([lt1 i,lt1 j],f,v) hsr (l:=[j]) (by simp) h26;have g0:getI [(i:Int),(j:Int)] 0=some (i:Int):=rfl;have g1:getI [lt1 i,lt1 j] 0=some (lt1 i):=rfl;have g2:slc ([lt1 i,lt1 j]:List ByteArray).length 1 ((([lt1 i,lt1 j]:List ByteArray).length:Nat):Int)=some ():=rfl;have g3:subl [lt1 i,lt1 j] 1 ((([lt1 i,lt1 j]:List ByteArray).length:Nat):Int)=[lt1 j]:=rfl;have hsl:zK x s=qA x wdpow ([lt1 i,lt1 j],f,v):=zYl h2 q1 q2 q3 q8 q13 q14;cases hall:([j]).all (fun i=>nzb (F i)) with
 |false=>
  rw[hall]at hf ha;refine⟨_,(noT,x),zZm (c:=((d,F),L)) h1 q14 hf,hsl.trans ?_,rfl,hr,by simp,zGU⟩;unfold qA;simp -implicitDefEqProofs only[g2,g3,ha,za,zb,zc,q,Nat.reduceBEq];rfl
 |true=>
  rw[hall,if_pos rfl]at hf ha;rw[List.all_eq_true]at hall;have pj:PrRc d (F j):=hsr.pr j hj (hall j (by simp));simp only[List.map_cons,zq]at hf ha;obtain⟨g,k1,k2,k3⟩:=z7A d1 (by omega) pj hv;have a1:getI [F i,F j] 1=some (F j):=rfl;have c1:getI [F j] 0=some (F j):=rfl;refine zQI hr hx h1 q14 hf hi k3 (zF1 d1 (by omega) k3).1 ?_ (hsl.trans ?_)
  ·unfold zH;simp -implicitDefEqProofs only[g0,k1,a1,za,Option.bind_assoc,zb,zc,q,Nat.reduceBEq]
  ·unfold qA;simp -implicitDefEqProofs only[g2,g3,ha,g1,k2,c1,za,zb,zc,q,Nat.reduceBEq,zG2]
theorem z48 {d:Int} {F:Nat→F3} {L:List StI} {x:StS×List StS} (hr:CR ((d,F),L) x) (hx:x.2.length≤1000000) {s:ByteArray} {i:Nat} (hi:i<26) {f:F3} {v:Int} (h1:zM s=some ((wdfree,[(i:Int)],f,v),true)) (h2:qF s=some (wdfree,([lt1 i],f,v),true)):zDg ((d,F),L) x s:=by
 have q:=zZb;obtain⟨q1,q2,q3,q4,q5,q6,q7,q8,q9,q10,q11,q12,q13,q14⟩:=zZb;unfold wE at q;have hsr:SR (d,F) x.1:=hr.1;have d1:-2000≤d:=hsr.d1;have d2:d≤-3:=hsr.d2;have hd:x.1.1=d:=hsr.d;have hL:L.length=x.2.length:=hr.2.1;have hw:setW wdfree=false:=by decide+kernel
 have hf:zO (d,F) (wdfree,[(i:Int)],f,v)=_:=zWI wdfree f v d F (l:=[i]) (by simp) (by simp[hi]) hw;have g0:getI [(i:Int)] 0=some (i:Int):=rfl;have g1:getI [lt1 i] 0=some (lt1 i):=rfl;have hfr:=z0w hsr hx hi;have hsl:zK x s=zAq x (lt1 i):=by
  unfold zK;simp -implicitDefEqProofs only[h2,g1,za,zg,zh,zb,zc,q,Nat.reduceBEq,zG2]
 have e:[i].all (fun i=>nzb (F i))=nzb (F i):=by simp
 rw[e]at hf;cases hz:nzb (F i) with
 |false=>
  rw[hz]at hf;rw[if_pos hz]at hfr;exact⟨_,(noT,x),zZm (c:=((d,F),L)) h1 q14 hf,hsl.trans hfr,rfl,hr,by simp,zGU⟩
 |true=>
  rw[hz,if_pos rfl]at hf;rw[if_neg (by rw[hz];simp)]at hfr;obtain⟨y,hy,hsy⟩:=hfr;have hc:zH (d,F) (wdfree,[(i:Int)],f,v) ([i].map F)=some (true,true,(d,upA F i (0,0,0))):=by
   unfold zH;simp -implicitDefEqProofs only[g0,zMW hi,Option.map_some,zi,za,zb,zc,q,Nat.reduceBEq]
  exact⟨_,_,zKw (c:=((d,F),L)) h1 q14 hf hc (by simp only;omega),hsl.trans hy,rfl,⟨hsy,zWB hr.2 hsr⟩,by simp,zVu⟩
theorem z2V {d:Int} {F:Nat→F3} {L:List StI} {x:StS×List StS} (hr:CR ((d,F),L) x) (hx:x.2.length≤1000000) {s:ByteArray} {f:F3} {v:Int} (h1:zM s=some ((wdnames,[],f,v),true)) (h2:qF s=some (wdnames,([],f,v),true)):zDg ((d,F),L) x s:=by
 have q:=zXF;obtain⟨q1,q2,q3,q4,q5,q6,q7,q8,q9,q10,q11,q12,q13,q14⟩:=zXF;unfold wE at q;have hsr:SR (d,F) x.1:=hr.1;have d1:-2000≤d:=hsr.d1;have d2:d≤-3:=hsr.d2;have hd:x.1.1=d:=hsr.d;have hL:L.length=x.2.length:=hr.2.1;have hw:setW wdnames=false:=by decide+kernel
 have hf:zO (d,F) (wdnames,[],f,v)=some ([],true):=zWI wdnames f v d F (l:=[]) (by simp) (by simp) hw;have hnm:x.1.2.1=bl ((dnS F 0).map lb):=hsr.nm;have ha:qY (d,F) (wdnames,[],f,v) []=some (bif ((bl ((dnS F 0).map lb)).toList==(⟨#[]⟩:ByteArray).toList) then ⟨#[110,111,110,101]⟩ else bl ((dnS F 0).map lb),true):=by
  unfold qY;simp -implicitDefEqProofs only[zU2,za,zb,zc,q,Nat.reduceBEq];cases ((bl ((dnS F 0).map lb)).toList==(⟨#[]⟩:ByteArray).toList)<;>rfl
 refine⟨_,(bif ((bl ((dnS F 0).map lb)).toList==(⟨#[]⟩:ByteArray).toList) then ⟨#[110,111,110,101]⟩ else bl ((dnS F 0).map lb),x),z1y (c:=((d,F),L)) h1 q14 hf (z5j q1 q2 q3 q5 q6 q8) ha,?_,rfl,hr,by simp,?_⟩
 ·unfold zK;simp -implicitDefEqProofs only[h2,hnm,za,zg,zh,zb,zc,q,Nat.reduceBEq];cases ((bl ((dnS F 0).map lb)).toList==(⟨#[]⟩:ByteArray).toList)<;>rfl
 ·have hle:(dnS F 0).length≤8:=hsr.le;have hz:(bl ((dnS F 0).map lb)).size≤20000:=by rw[jK,List.length_map];omega
  show ByteArray.size (bif _ then _ else _)≤20000;cases ((bl ((dnS F 0).map lb)).toList==(⟨#[]⟩:ByteArray).toList)
  ·exact hz
  ·exact (show ByteArray.size ⟨#[110,111,110,101]⟩≤20000 by decide)
theorem z44 {d:Int} {F:Nat→F3} {L:List StI} {x:StS×List StS} (hr:CR ((d,F),L) x) (hx:x.2.length≤1000000) {s:ByteArray} {f:F3} {v:Int} (h1:zM s=some ((wdundo,[],f,v),true)) (h2:qF s=some (wdundo,([],f,v),true)):zDg ((d,F),L) x s:=by
 have q:=zZ8;obtain⟨q1,q2,q3,q4,q5,q6,q7,q8,q9,q10,q11,q12,q13,q14⟩:=zZ8;unfold wE at q;have hsr:SR (d,F) x.1:=hr.1;have d1:-2000≤d:=hsr.d1;have d2:d≤-3:=hsr.d2;have hd:x.1.1=d:=hsr.d;have hL:L.length=x.2.length:=hr.2.1;have hw:setW wdundo=false:=by decide+kernel
 have hsl:zK x s=zBZ x:=by
  unfold zK;simp -implicitDefEqProofs only[h2,za,zg,zh,zb,zc,q,Nat.reduceBEq,zG2]
 by_cases h0:x.2.length=0
 ·refine⟨(noT,((d,F),L)),(noT,x),?_,hsl.trans ?_,rfl,hr,by simp,zGU⟩
  ·unfold qC;simp -implicitDefEqProofs only[h1,za,zg,zh,zb,zc,q,Nat.reduceBEq,hL,h0];rfl
  ·unfold zBZ;simp -implicitDefEqProofs only[h0];rfl
 ·have hw1:w64 ((x.2.length:Int) - 1)=((x.2.length - 1:Nat):Int):=by
   rw[zA (by omega)];omega
  have e0:eqI (x.2.length:Int) 0=false:=by rw[jD];exact beq_eq_false_iff_ne.2 (by omega)
  have ga:getI L ((x.2.length - 1:Nat):Int)=some (L[x.2.length - 1]'(by omega)):=zBt (by omega);have gb:getI x.2 ((x.2.length - 1:Nat):Int)=some (x.2[x.2.length - 1]'(by omega)):=zBt (by omega);have s1:slc x.2.length 0 ((x.2.length - 1:Nat):Int)=some ():=zHJ (l:=0) (by omega) (by omega);refine⟨(okT,(L[x.2.length - 1]'(by omega),subl L 0 ((x.2.length - 1:Nat):Int))),(okT,(x.2[x.2.length - 1]'(by omega),subl x.2 0 ((x.2.length - 1:Nat):Int))),?_,hsl.trans ?_,rfl,⟨hr.2.2 _ _ _,?_⟩,?_,zVu⟩
  ·unfold qC;simp -implicitDefEqProofs only[h1,za,zg,zh,zb,zc,q,Nat.reduceBEq,hL,e0,hw1,ga,s1];rfl
  ·unfold zBZ;simp -implicitDefEqProofs only[e0,hw1,gb,s1,za,zc];rfl
  ·have:=z43 hr.2 (x.2.length - 1);unfold subl;simpa using this
  ·unfold subl;simp only[List.length_take];omega
theorem len0 {α:Type} {l:List α} (h:l.length=0):l=[]:=List.length_eq_zero_iff.1 h
theorem len1 {α:Type} {l:List α} (h:l.length=1):∃i,l=[i]:=List.length_eq_one_iff.1 h
theorem len2 {α:Type} {l:List α} (h:l.length=2):∃i j,l=[i,j]:=by match l,h with|[i,j],_=>exact⟨i,j,rfl⟩
theorem len3 {α:Type} {l:List α} (h:l.length=3):∃i j k,l=[i,j,k]:=by match l,h with|[i,j,k],_=>exact⟨i,j,k,rfl⟩
theorem z0q {c:StI×List StI} {x:StS×List StS} (hr:CR c x) (hx:x.2.length≤1000000) {s:ByteArray} (hs:s.size≤2000):zDg c x s:=by
 obtain⟨⟨d,F⟩,L⟩:=c;rcases z0l s hs with⟨a,h1,b,cc,h2⟩|⟨w,l,f,v,si,sp,ht,h1,h2,hc,h26,hv⟩
 ·refine⟨(⟨#[119,104,97,116]⟩,((d,F),L)),(⟨#[119,104,97,116]⟩,x),?_,?_,rfl,hr,by simp,(show ByteArray.size ⟨#[119,104,97,116]⟩≤20000 by decide)⟩
  ·unfold qC;simp -implicitDefEqProofs only[h1,za,zh,zb]
  ·unfold zK;simp -implicitDefEqProofs only[h2,za,zh,zb]
 ·simp only[shT,zk,zp,or_false,Prod.mk.injEq]at ht;rcases ht with h|h|h|h|h|h|h|h|h|h|h|h|h|h<;>obtain⟨rfl,rfl,h⟩:=h<;>have h:=zHx (b:=_) h<;>subst h
  ·obtain rfl:l=[]:=len0 hc;exact z49 hr hx h1 h2
  ·obtain⟨i,rfl⟩:∃i,l=[i]:=len1 hc;exact z6C hr hx (h26 i (by simp)) h1 h2
  ·obtain⟨i,rfl⟩:∃i,l=[i]:=len1 hc;exact z2T hr hx (h26 i (by simp)) h1 h2
  ·obtain⟨i,rfl⟩:∃i,l=[i]:=len1 hc;exact z2S hr (h26 i (by simp)) h1 h2
  ·obtain⟨i,j,k,rfl⟩:∃i j k,l=[i,j,k]:=len3 hc;exact z6E hr hx (h26 i (by simp)) (h26 j (by simp)) (h26 k (by simp)) h1 h2
  ·obtain⟨i,j,rfl⟩:∃i j,l=[i,j]:=len2 hc;exact z6D hr hx (h26 i (by simp)) (h26 j (by simp)) hv h1 h2
  ·obtain⟨i,j,rfl⟩:∃i j,l=[i,j]:=len2 hc;exact z47 hr (h26 i (by simp)) (h26 j (by simp)) h1 h2
  ·obtain⟨i,rfl⟩:∃i,l=[i]:=len1 hc;exact z48 hr hx (h26 i (by simp)) h1 h2
  ·obtain⟨i,rfl⟩:∃i,l=[i]:=len1 hc;exact z45 hr (h26 i (by simp)) h1 h2
  ·obtain⟨i,rfl⟩:∃i,l=[i]:=len1 hc;exact z2W hr (h26 i (by simp)) h1 h2
  ·obtain⟨i,rfl⟩:∃i,l=[i]:=len1 hc;exact z2U hr (h26 i (by simp)) h1 h2
  ·obtain⟨i,rfl⟩:∃i,l=[i]:=len1 hc;exact z2X hr (h26 i (by simp)) h1 h2
  ·obtain rfl:l=[]:=len0 hc;exact z2V hr hx h1 h2
  ·obtain rfl:l=[]:=len0 hc;exact z44 hr hx h1 h2
theorem zX8 {Ls:List ByteArray} (hl:Ls.length≤60) (hz:∀w∈Ls,w.size≤2000) (oki ok:Bool):∀(n k:Nat) (reps:List ByteArray) (c:StI×List StI) (x:StS×List StS),k≤Ls.length→Ls.length - k<n→CR c x→x.2.length≤k→reps.length=k→(∀r∈reps,r.size≤20000)→
  ∃reps' c' x',zAN (Ls,oki) n (k:Int) reps c.2 c.1.1 c.1.2=some (reps',c'.2,c'.1.1,c'.1.2)∧zCG (Ls,ok) n (k:Int) x.2 reps x.1.1 x.1.2.1 x.1.2.2=some (x'.2,reps',x'.1.1,x'.1.2.1,x'.1.2.2)∧CR c' x'∧reps'.length=Ls.length∧∀r∈reps',r.size≤20000
 |0,k,reps,c,x,h1,h2,h3,h4,h5,h6=>by omega
 |n+1,k,reps,c,x,h1,h2,h3,h4,h5,h6=>by
  unfold zAN zCG;by_cases hk:k<Ls.length
  ·obtain⟨p,q,k1,k2,k3,k4,k5,k6⟩:=z0q h3 (by omega) (hz _ (zu hk));have k1':qC ((c.1.1,c.1.2),c.2) (Ls[k]'hk)=some p:=k1;have k2':zK ((x.1.1,x.1.2.1,x.1.2.2),x.2) (Ls[k]'hk)=some q:=k2;simp -implicitDefEqProofs only[zG,zd (show (k:Int)<(Ls.length:Int) by omega),zb,zBt hk,k1',k2',za,zN,zB9 (show k<1000000000 by omega)];have hr1:∀a:ByteArray,room (reps.length+[a].length)=some ():=fun a=>zBG (by simp;omega);simp -implicitDefEqProofs only[hr1,za,←k3];exact zX8 hl hz oki ok n (k+1) (reps++[p.1]) p.2 q.2 (by omega) (by omega) k4 (by omega) (by simp[h5]) (by
    intro r hr;rcases List.mem_append.1 hr with hr|hr
    ·exact h6 r hr
    ·rw[List.mem_singleton.1 hr,k3];exact k6)
  ·refine⟨reps,c,x,?_,?_,h3,by omega,h6⟩
   ·simp -implicitDefEqProofs only[zG,ze (show ¬(k:Int)<(Ls.length:Int) by omega),zc]
   ·simp -implicitDefEqProofs only[zG,ze (show ¬(k:Int)<(Ls.length:Int) by omega),zc]
structure RunOk (s:ByteArray) (reps:List ByteArray) (c:StI×List StI) (x:StS×List StS):Prop where
  i:zB3 s=some (some (c.1,c.2,reps))
  sp:zCt s=some (x,reps,true)
  cr:CR c x
  le:reps.length≤60
  sz:∀r∈reps,r.size≤20000
  ln:reps.length=(LN s).length
  lp:zAN (LN s,true) FU 0 [] [] (-23) (fun _=>(0,0,0))=some (reps,c.2,c.1.1,c.1.2)
  sh:s=⟨#[]⟩∨∃p,s.data.toList=p++[10]
theorem z1w {s:ByteArray} (hs:s.size≤1048576):(zB3 s=some none∧∃d,zCt s=some (((d,ByteArray.empty,[]),[]),[],false))∨∃reps c x,RunOk s reps c x:=by
 obtain⟨Li,oki,Ls,ok,h1,h2,h3,h4⟩:=z3R s hs;cases ok with
 |false=>
  refine .inl ⟨?_,-23,?_⟩
  ·unfold zB3;simp -implicitDefEqProofs only[h1,za,h3];rfl
  ·unfold zCt zEf;simp -implicitDefEqProofs only[h2,za];rfl
 |true=>
  obtain⟨e,h5,h6,h8,h10,h9⟩:=h4 rfl;subst e;have hc:CR ((-23,fun _=>(0,0,0)),[]) ((-23,ByteArray.empty,[]),[]):=⟨z1o (by omega) (by omega) (by omega),rfl,fun k h=>by cases h⟩
  obtain⟨reps,c,x,k1,k2,k3,k4,k7⟩:=zX8 h5 h6 oki true FU 0 [] _ _ (by omega) (by unfold FU;omega) hc (by simp) rfl (fun r hr=>by cases hr);have k1:zAN (Li,oki) FU 0 [] [] (-23) (fun _=>(0,0,0))=some (reps,c.2,c.1.1,c.1.2):=k1;have k2:zCG (Li,true) FU 0 [] [] (-23) ByteArray.empty []=some (x.2,reps,x.1.1,x.1.2.1,x.1.2.2):=k2;refine .inr ⟨reps,c,x,?_,?_,k3,by omega,k7,by rw[k4,h8],by rw[←h8,←h10];exact k1,h9⟩
  ·unfold zB3;simp -implicitDefEqProofs only[h1,za,h3];simp -implicitDefEqProofs only[zg,zc,k1,za]
  ·unfold zCt zEf;simp -implicitDefEqProofs only[h2,za];simp -implicitDefEqProofs only[zg,zc,k2,za]
theorem z3E {α ρ:Type} (a:ρ) (f:α→ρ):elO none a f=a:=rfl
theorem z3D {α ρ:Type} (x:α) (a:ρ) (f:α→ρ):elO (some x) a f=f x:=rfl
def isNo (w:ByteArray):Bool:=w.toList==(⟨#[110,111]⟩:ByteArray).toList
def isWh (w:ByteArray):Bool:=w.toList==(⟨#[119,104,97,116]⟩:ByteArray).toList
def cNo (l:List ByteArray):Nat:=l.countP fun w=>isNo w
def cWh (l:List ByteArray):Nat:=l.countP fun w=>!isNo w&&isWh w
def cRe (l:List ByteArray):Nat:=l.countP fun w=>!isNo w&&!isWh w
theorem c_all (l:List ByteArray):cNo l+cWh l+cRe l=l.length:=by
 induction l with
 |nil=>rfl
 |cons a l ih=>
  unfold cNo cWh cRe at ih ⊢;simp only[List.countP_cons,zf];cases isNo a<;>cases isWh a<;>simp<;>omega
theorem zW3 (c:(Int×(Nat→F3))×List (Int×(Nat→F3))×List ByteArray) (hl:c.2.2.length≤60):∀(n k a b:Nat),k≤c.2.2.length→c.2.2.length - k<n→a≤k→b≤k→jJ c n (a:Int) (k:Int) (b:Int)=some (((a+cNo (c.2.2.drop k):Nat):Int),((b+cWh (c.2.2.drop k):Nat):Int))
 |0,k,a,b,h1,h2,h3,h4=>by omega
 |n+1,k,a,b,h1,h2,h3,h4=>by
  unfold jJ;by_cases hk:k<c.2.2.length
  ·have hdr:c.2.2.drop k=c.2.2[k]'hk::c.2.2.drop (k+1):=List.drop_eq_getElem_cons hk;simp -implicitDefEqProofs only[zG,zd (show (k:Int)<(c.2.2.length:Int) by omega),zb,zBt hk,za,zN,zB9 (show k<1000000000 by omega),zB9 (show a<1000000000 by omega),zB9 (show b<1000000000 by omega),hdr];generalize c.2.2[k]'hk=w;change (bif isNo w then _ else bif isWh w then _ else _)=_;cases hn:isNo w with
   |true=>
    rw[zb,zW3 c hl n (k+1) (a+1) b (by omega) (by omega) (by omega) (by omega)];simp[cNo,cWh,List.countP_cons,hn];omega
   |false=>
    rw[zc];cases hw:isWh w with
    |true=>
     rw[zb,zW3 c hl n (k+1) a (b+1) (by omega) (by omega) (by omega) (by omega)];simp[cNo,cWh,List.countP_cons,hn,hw];omega
    |false=>
     rw[zc,zW3 c hl n (k+1) a b (by omega) (by omega) (by omega) (by omega)];simp[cNo,cWh,List.countP_cons,hn,hw]
  ·simp -implicitDefEqProofs only[zG,ze (show ¬(k:Int)<(c.2.2.length:Int) by omega),zc];rw[zn (by omega)];rfl
theorem zRt (y:((Int×ByteArray×List F3)×List (Int×ByteArray×List F3))×List ByteArray×Bool) (hl:y.2.1.length≤60):∀(n k a b e:Nat),k≤y.2.1.length→y.2.1.length - k<n→a≤k→b≤k→e≤k→qW y n (a:Int) (k:Int) (b:Int) (e:Int)=some (((a+cNo (y.2.1.drop k):Nat):Int),((b+cWh (y.2.1.drop k):Nat):Int),((e+cRe (y.2.1.drop k):Nat):Int))
 |0,k,a,b,e,h1,h2,h3,h4,h5=>by omega
 |n+1,k,a,b,e,h1,h2,h3,h4,h5=>by
  unfold qW;by_cases hk:k<y.2.1.length
  ·have hdr:y.2.1.drop k=y.2.1[k]'hk::y.2.1.drop (k+1):=List.drop_eq_getElem_cons hk;simp -implicitDefEqProofs only[zG,zd (show (k:Int)<(y.2.1.length:Int) by omega),zb,zBt hk,za,zN,zB9 (show k<1000000000 by omega),zB9 (show a<1000000000 by omega),zB9 (show b<1000000000 by omega),zB9 (show e<1000000000 by omega),hdr];generalize y.2.1[k]'hk=w;change (bif isNo w then _ else bif isWh w then _ else _)=_;cases hn:isNo w with
   |true=>
    rw[zb,zRt y hl n (k+1) (a+1) b e (by omega) (by omega) (by omega) (by omega) (by omega)];simp[cNo,cWh,cRe,List.countP_cons,hn];omega
   |false=>
    rw[zc];cases hw:isWh w with
    |true=>
     rw[zb,zRt y hl n (k+1) a (b+1) e (by omega) (by omega) (by omega) (by omega) (by omega)];simp[cNo,cWh,cRe,List.countP_cons,hn,hw];omega
    |false=>
     rw[zc,zRt y hl n (k+1) a b (e+1) (by omega) (by omega) (by omega) (by omega) (by omega)];simp[cNo,cWh,cRe,List.countP_cons,hn,hw];omega
  ·simp -implicitDefEqProofs only[zG,ze (show ¬(k:Int)<(y.2.1.length:Int) by omega),zc];rw[zn (by omega)];rfl
theorem zTe {s:ByteArray} (hs:s.size≤1048576):∃a b e f,zBz s=some (a,b,e,f)∧zBw s=some (a,b,e,f):=by
 unfold zBz zBw;rcases z1w hs with⟨h1,d,h2⟩|⟨reps,c,x,h1,h2,h3,h4,_⟩
 ·have k:=zRt (((d,ByteArray.empty,[]),[]),[],false) (by simp) FU 0 0 0 0 (by simp) (by unfold FU;simp) (by simp) (by simp) (by simp);have k:qW (((d,ByteArray.empty,[]),[]),[],false) FU 0 0 0 0=some (0,0,0):=k;refine⟨0,0,0,false,?_,?_⟩
  ·simp -implicitDefEqProofs only[h1,za,z3E]
  ·simp -implicitDefEqProofs only[h2,k,za]
 ·have k1:=zW3 (c.1,c.2,reps) h4 FU 0 0 0 (by simp) (by unfold FU;simp only;omega) (by simp) (by simp);have k2:=zRt (x,reps,true) h4 FU 0 0 0 0 (by simp) (by unfold FU;simp only;omega) (by simp) (by simp) (by simp);simp only[List.drop_zero,Nat.zero_add]at k1 k2;have k1:jJ (c.1,c.2,reps) FU 0 0 0=_:=k1;have k2:qW (x,reps,true) FU 0 0 0 0=_:=k2;have hc:=c_all reps;have e:w64 (w64 ((reps.length:Int) - (cNo reps:Int)) - (cWh reps:Int))=(cRe reps:Int):=by
   rw[zA (n:=(reps.length:Int) - (cNo reps:Int)) (by omega),zA (by omega)];omega
  refine⟨(cNo reps:Int),(cWh reps:Int),(cRe reps:Int),true,?_,?_⟩
  ·simp -implicitDefEqProofs only[h1,za,z3D,k1,zN,e]
  ·simp -implicitDefEqProofs only[h2,k2,za]
end Go.Proofs.YtahdjphocippeaaGreatDoor
namespace Go.Proofs
def Tryz.lays156_ren:Go.Shelf.Ren:=⟨fun|156=>213|165=>250|166=>39|169=>40|240=>59|241=>268|276=>87|277=>273|n=>n,fun|31=>49|9=>9|3=>3|4=>4|0=>0|20=>20|72=>76|76=>79|70=>74|37=>28|75=>78|127=>94|164=>123|5=>5|80=>81|n=>n,fun|n=>n⟩
theorem Tryz.lays156:Go.Proofs.Lays.n156 Tryz.prog Tryz.lays156_ren:={
 mixed:=by kernel_rfl
 f156:=Tryz.func213.trans (congrArg some (by kernel_rfl))
 f165:=Tryz.func250.trans (congrArg some (by kernel_rfl))
 f166:=Tryz.func39.trans (congrArg some (by kernel_rfl))
 f169:=Tryz.func40.trans (congrArg some (by kernel_rfl))
 f240:=Tryz.func59.trans (congrArg some (by kernel_rfl))
 f241:=Tryz.func268.trans (congrArg some (by kernel_rfl))
 f276:=Tryz.func87.trans (congrArg some (by kernel_rfl))
 f277:=Tryz.func273.trans (congrArg some (by kernel_rfl))
 t0:=Tryz.underlying0
 a0:=Tryz.isAgg0
 z0:=Tryz.sizeOf0
 v0:=Tryz.zeroValue0
 t3:=Tryz.underlying3
 a3:=Tryz.isAgg3
 z3:=Tryz.sizeOf3
 v3:=Tryz.zeroValue3
 t4:=Tryz.underlying4
 a4:=Tryz.isAgg4
 z4:=Tryz.sizeOf4
 v4:=Tryz.zeroValue4
 t9:=Tryz.underlying9
 a9:=Tryz.isAgg9
 z9:=Tryz.sizeOf9
 v9:=Tryz.zeroValue9
 t20:=Tryz.underlying20
 a20:=Tryz.isAgg20
 z20:=Tryz.sizeOf20
 v20:=Tryz.zeroValue20
 t31:=Tryz.underlying49
 a31:=Tryz.isAgg49
 z31:=Tryz.sizeOf49
 v31:=Tryz.zeroValue49
 t37:=Tryz.underlying28
 a37:=Tryz.isAgg28
 z37:=Tryz.sizeOf28
 v37:=Tryz.zeroValue28
 t70:=Tryz.underlying74
 a70:=Tryz.isAgg74
 z70:=Tryz.sizeOf74
 v70:=Tryz.zeroValue74
 t72:=Tryz.underlying76
 a72:=Tryz.isAgg76
 z72:=Tryz.sizeOf76
 v72:=Tryz.zeroValue76
 t75:=Tryz.underlying78
 a75:=Tryz.isAgg78
 z75:=Tryz.sizeOf78
 v75:=Tryz.zeroValue78
 t76:=Tryz.underlying79
 a76:=Tryz.isAgg79
 z76:=Tryz.sizeOf79
 v76:=Tryz.zeroValue79
 t127:=Tryz.underlying94
 a127:=Tryz.isAgg94
 z127:=Tryz.sizeOf94
 v127:=Tryz.zeroValue94
 t164:=Tryz.underlying123
 a164:=Tryz.isAgg123
 z164:=Tryz.sizeOf123
 v164:=Tryz.zeroValue123}
theorem Tryz.Builder_Extra_156:Builder.Extra Tryz.prog Tryz.lays156_ren:={
 sizeBuilder:=by kernel_rfl
 liesBuilder:=by kernel_rfl
 t5:=Tryz.underlying5
 a5:=Tryz.isAgg5
 z5:=Tryz.sizeOf5
 v5:=Tryz.zeroValue5
 infoByte:=by kernel_rfl
 cellsByte:=by kernel_rfl
 sizeByte:=by kernel_rfl
 neB5:=by decide}
open Go.RowKit in
theorem Tryz.strings_Join_none (a:Option Addr) (c:Nat) (sep:ByteArray) (w:World):
  Calls Tryz.prog 213 #[.slice a 0 c,.string sep] w fun e w'=>e=.returned (.string ⟨#[]⟩)∧w'=w:=Any.strings_Join_none Tryz.lays156 Tryz.Builder_Extra_156 a c sep w
open Go.RowKit in
theorem Tryz.strings_Join (bk o c:Nat) (xs:List ByteArray) (sep:ByteArray) (w:World) (hcells:∀(j:Nat) x,xs[j]?=some x→w.cell? ⟨bk,o+j,none⟩=some (.string x)) (hbk:bk<w.heap.size) (hN:xs.length≤140737488355328) (hcap:xs.length≤c) (hlen:(Lib.join (xs.map (·.data.toList)) sep.data.toList).length≤140737488355328):
  Calls Tryz.prog 213 #[.slice (some ⟨bk,o,none⟩) xs.length c,.string sep] w fun e w'=>e=.returned (.string ⟨(Lib.join (xs.map (·.data.toList)) sep.data.toList).toArray⟩)∧Below w.heap.size w w':=Any.strings_Join Tryz.lays156 Tryz.Builder_Extra_156 bk o c xs sep w hcells hbk hN hcap hlen
def Tryz.laysM171_ren:Go.Shelf.Ren:=⟨fun|171=>123|243=>168|246=>206|283=>240|284=>241|285=>242|286=>243|129=>263|317=>262|318=>264|319=>265|320=>266|337=>271|338=>272|n=>n,fun|3=>3|9=>9|2=>2|4=>4|171=>215|0=>0|53=>68|37=>28|5=>5|173=>218|212=>240|51=>230|20=>20|213=>241|46=>117|232=>249|233=>250|n=>n,fun|17=>5|18=>6|19=>7|n=>n⟩
theorem Tryz.laysM171:Go.Proofs.LaysM.n171 Tryz.prog Tryz.laysM171_ren:={
 mixed:=by kernel_rfl
 f129:=Tryz.func263.trans (congrArg some (by kernel_rfl))
 f171:=Tryz.func123.trans (congrArg some (by kernel_rfl))
 f243:=Tryz.func168.trans (congrArg some (by kernel_rfl))
 f246:=Tryz.func206.trans (congrArg some (by kernel_rfl))
 f283:=Tryz.func240.trans (congrArg some (by kernel_rfl))
 f284:=Tryz.func241.trans (congrArg some (by kernel_rfl))
 f285:=Tryz.func242.trans (congrArg some (by kernel_rfl))
 f286:=Tryz.func243.trans (congrArg some (by kernel_rfl))
 f317:=Tryz.func262.trans (congrArg some (by kernel_rfl))
 f318:=Tryz.func264.trans (congrArg some (by kernel_rfl))
 f319:=Tryz.func265.trans (congrArg some (by kernel_rfl))
 f320:=Tryz.func266.trans (congrArg some (by kernel_rfl))
 f337:=Tryz.func271.trans (congrArg some (by kernel_rfl))
 f338:=Tryz.func272.trans (congrArg some (by kernel_rfl))
 t0:=Tryz.underlying0
 a0:=Tryz.isAgg0
 z0:=Tryz.sizeOf0
 v0:=Tryz.zeroValue0
 t2:=Tryz.underlying2
 a2:=Tryz.isAgg2
 z2:=Tryz.sizeOf2
 v2:=Tryz.zeroValue2
 t3:=Tryz.underlying3
 a3:=Tryz.isAgg3
 z3:=Tryz.sizeOf3
 v3:=Tryz.zeroValue3
 t4:=Tryz.underlying4
 a4:=Tryz.isAgg4
 z4:=Tryz.sizeOf4
 v4:=Tryz.zeroValue4
 t5:=Tryz.underlying5
 a5:=Tryz.isAgg5
 z5:=Tryz.sizeOf5
 v5:=Tryz.zeroValue5
 t9:=Tryz.underlying9
 a9:=Tryz.isAgg9
 z9:=Tryz.sizeOf9
 v9:=Tryz.zeroValue9
 t20:=Tryz.underlying20
 a20:=Tryz.isAgg20
 z20:=Tryz.sizeOf20
 v20:=Tryz.zeroValue20
 t37:=Tryz.underlying28
 a37:=Tryz.isAgg28
 z37:=Tryz.sizeOf28
 v37:=Tryz.zeroValue28
 t46:=Tryz.underlying117
 a46:=Tryz.isAgg117
 z46:=Tryz.sizeOf117
 v46:=Tryz.zeroValue117
 t51:=Tryz.underlying230
 a51:=Tryz.isAgg230
 z51:=Tryz.sizeOf230
 v51:=Tryz.zeroValue230
 t53:=Tryz.underlying68
 a53:=Tryz.isAgg68
 z53:=Tryz.sizeOf68
 v53:=Tryz.zeroValue68
 t171:=Tryz.underlying215
 a171:=Tryz.isAgg215
 z171:=Tryz.sizeOf215
 v171:=Tryz.zeroValue215
 t173:=Tryz.underlying218
 a173:=Tryz.isAgg218
 z173:=Tryz.sizeOf218
 v173:=Tryz.zeroValue218
 t212:=Tryz.underlying240
 a212:=Tryz.isAgg240
 z212:=Tryz.sizeOf240
 v212:=Tryz.zeroValue240
 t213:=Tryz.underlying241
 a213:=Tryz.isAgg241
 z213:=Tryz.sizeOf241
 t232:=Tryz.underlying249
 a232:=Tryz.isAgg249
 z232:=Tryz.sizeOf249
 v232:=Tryz.zeroValue249
 t233:=Tryz.underlying250
 a233:=Tryz.isAgg250
 z233:=Tryz.sizeOf250
 v233:=Tryz.zeroValue250
 g17:=by kernel_rfl
 g18:=by kernel_rfl
 g19:=by kernel_rfl
 i0:=by kernel_rfl
 i2:=by kernel_rfl
 i3:=by kernel_rfl
 i4:=by kernel_rfl
 i5:=by kernel_rfl
 i9:=by kernel_rfl
 i20:=by kernel_rfl
 i37:=by kernel_rfl
 i46:=by kernel_rfl
 i51:=by kernel_rfl
 i53:=by kernel_rfl
 i171:=by kernel_rfl
 i173:=by kernel_rfl
 i212:=by kernel_rfl
 i232:=by kernel_rfl
 i233:=by kernel_rfl
 m17:=by kernel_rfl
 m18:=by kernel_rfl
 m19:=by kernel_rfl}
open Go.RowKit Go.Sort Go.Lib in
theorem Tryz.strconv_Itoa (n:Int) (h0:-9223372036854775808≤n) (h1:n≤9223372036854775807) (w:World) (htab:Lib.TabIs Tryz.prog w "internal/strconv.uint64pow10" .u64 Lib.pow10Tab):
    Calls Tryz.prog 123 #[.int .i64 n] w fun e w'=>e=.returned (.string ⟨(Lib.itoa n).toArray⟩)∧∃k os,w'=grow (w.drewN k) os:=Any.strconv_Itoa Tryz.laysM171 n h0 h1 w htab
def Tryz.laysC172_ren:Go.Shelf.Ren:=⟨fun|172=>159|244=>198|245=>199|247=>227|279=>228|280=>229|281=>230|282=>231|287=>258|316=>259|171=>123|205=>260|321=>269|322=>270|243=>168|246=>206|283=>240|284=>241|285=>242|286=>243|129=>263|317=>262|318=>264|319=>265|320=>266|337=>271|338=>272|n=>n,fun|9=>9|3=>3|75=>78|76=>79|4=>4|5=>5|167=>207|37=>28|0=>0|85=>208|2=>2|168=>210|53=>68|175=>233|46=>117|210=>236|127=>94|145=>246|143=>244|21=>21|171=>215|173=>218|212=>240|51=>230|20=>20|213=>241|232=>249|233=>250|80=>81|n=>n,fun|15=>3|16=>4|17=>5|18=>6|19=>7|n=>n⟩
theorem Tryz.laysC172:Go.Proofs.LaysC.n172 Tryz.prog Tryz.laysC172_ren:={
 mixed:=by kernel_rfl
 f129:=Tryz.func263.trans (congrArg some (by kernel_rfl))
 f171:=Tryz.func123.trans (congrArg some (by kernel_rfl))
 f172:=Tryz.func159.trans (congrArg some (by kernel_rfl))
 f205:=Tryz.func260.trans (congrArg some (by kernel_rfl))
 f243:=Tryz.func168.trans (congrArg some (by kernel_rfl))
 f244:=Tryz.func198.trans (congrArg some (by kernel_rfl))
 f245:=Tryz.func199.trans (congrArg some (by kernel_rfl))
 f246:=Tryz.func206.trans (congrArg some (by kernel_rfl))
 f247:=Tryz.func227.trans (congrArg some (by kernel_rfl))
 f279:=Tryz.func228.trans (congrArg some (by kernel_rfl))
 f280:=Tryz.func229.trans (congrArg some (by kernel_rfl))
 f281:=Tryz.func230.trans (congrArg some (by kernel_rfl))
 f282:=Tryz.func231.trans (congrArg some (by kernel_rfl))
 f283:=Tryz.func240.trans (congrArg some (by kernel_rfl))
 f284:=Tryz.func241.trans (congrArg some (by kernel_rfl))
 f285:=Tryz.func242.trans (congrArg some (by kernel_rfl))
 f286:=Tryz.func243.trans (congrArg some (by kernel_rfl))
 f287:=Tryz.func258.trans (congrArg some (by kernel_rfl))
 f316:=Tryz.func259.trans (congrArg some (by kernel_rfl))
 f317:=Tryz.func262.trans (congrArg some (by kernel_rfl))
 f318:=Tryz.func264.trans (congrArg some (by kernel_rfl))
 f319:=Tryz.func265.trans (congrArg some (by kernel_rfl))
 f320:=Tryz.func266.trans (congrArg some (by kernel_rfl))
 f321:=Tryz.func269.trans (congrArg some (by kernel_rfl))
 f322:=Tryz.func270.trans (congrArg some (by kernel_rfl))
 f337:=Tryz.func271.trans (congrArg some (by kernel_rfl))
 f338:=Tryz.func272.trans (congrArg some (by kernel_rfl))
 t0:=Tryz.underlying0
 a0:=Tryz.isAgg0
 z0:=Tryz.sizeOf0
 v0:=Tryz.zeroValue0
 t2:=Tryz.underlying2
 a2:=Tryz.isAgg2
 z2:=Tryz.sizeOf2
 v2:=Tryz.zeroValue2
 t3:=Tryz.underlying3
 a3:=Tryz.isAgg3
 z3:=Tryz.sizeOf3
 v3:=Tryz.zeroValue3
 t4:=Tryz.underlying4
 a4:=Tryz.isAgg4
 z4:=Tryz.sizeOf4
 v4:=Tryz.zeroValue4
 t5:=Tryz.underlying5
 a5:=Tryz.isAgg5
 z5:=Tryz.sizeOf5
 v5:=Tryz.zeroValue5
 t9:=Tryz.underlying9
 a9:=Tryz.isAgg9
 z9:=Tryz.sizeOf9
 v9:=Tryz.zeroValue9
 t20:=Tryz.underlying20
 a20:=Tryz.isAgg20
 z20:=Tryz.sizeOf20
 v20:=Tryz.zeroValue20
 t21:=Tryz.underlying21
 a21:=Tryz.isAgg21
 z21:=Tryz.sizeOf21
 v21:=Tryz.zeroValue21
 t37:=Tryz.underlying28
 a37:=Tryz.isAgg28
 z37:=Tryz.sizeOf28
 v37:=Tryz.zeroValue28
 t46:=Tryz.underlying117
 a46:=Tryz.isAgg117
 z46:=Tryz.sizeOf117
 v46:=Tryz.zeroValue117
 t51:=Tryz.underlying230
 a51:=Tryz.isAgg230
 z51:=Tryz.sizeOf230
 v51:=Tryz.zeroValue230
 t53:=Tryz.underlying68
 a53:=Tryz.isAgg68
 z53:=Tryz.sizeOf68
 v53:=Tryz.zeroValue68
 t75:=Tryz.underlying78
 a75:=Tryz.isAgg78
 z75:=Tryz.sizeOf78
 v75:=Tryz.zeroValue78
 t76:=Tryz.underlying79
 a76:=Tryz.isAgg79
 z76:=Tryz.sizeOf79
 v76:=Tryz.zeroValue79
 t85:=Tryz.underlying208
 a85:=Tryz.isAgg208
 z85:=Tryz.sizeOf208
 v85:=Tryz.zeroValue208
 t127:=Tryz.underlying94
 a127:=Tryz.isAgg94
 z127:=Tryz.sizeOf94
 v127:=Tryz.zeroValue94
 t143:=Tryz.underlying244
 a143:=Tryz.isAgg244
 z143:=Tryz.sizeOf244
 v143:=Tryz.zeroValue244
 t145:=Tryz.underlying246
 a145:=Tryz.isAgg246
 z145:=Tryz.sizeOf246
 v145:=Tryz.zeroValue246
 t167:=Tryz.underlying207
 a167:=Tryz.isAgg207
 z167:=Tryz.sizeOf207
 v167:=Tryz.zeroValue207
 t168:=Tryz.underlying210
 a168:=Tryz.isAgg210
 z168:=Tryz.sizeOf210
 v168:=Tryz.zeroValue210
 t171:=Tryz.underlying215
 a171:=Tryz.isAgg215
 z171:=Tryz.sizeOf215
 v171:=Tryz.zeroValue215
 t173:=Tryz.underlying218
 a173:=Tryz.isAgg218
 z173:=Tryz.sizeOf218
 v173:=Tryz.zeroValue218
 t175:=Tryz.underlying233
 a175:=Tryz.isAgg233
 z175:=Tryz.sizeOf233
 v175:=Tryz.zeroValue233
 t210:=Tryz.underlying236
 a210:=Tryz.isAgg236
 z210:=Tryz.sizeOf236
 v210:=Tryz.zeroValue236
 t212:=Tryz.underlying240
 a212:=Tryz.isAgg240
 z212:=Tryz.sizeOf240
 v212:=Tryz.zeroValue240
 t213:=Tryz.underlying241
 a213:=Tryz.isAgg241
 z213:=Tryz.sizeOf241
 t232:=Tryz.underlying249
 a232:=Tryz.isAgg249
 z232:=Tryz.sizeOf249
 v232:=Tryz.zeroValue249
 t233:=Tryz.underlying250
 a233:=Tryz.isAgg250
 z233:=Tryz.sizeOf250
 v233:=Tryz.zeroValue250
 g15:=by kernel_rfl
 g16:=by kernel_rfl
 g17:=by kernel_rfl
 g18:=by kernel_rfl
 g19:=by kernel_rfl
 t80:=Tryz.underlying81
 a80:=Tryz.isAgg81
 z80:=Tryz.sizeOf81
 v80:=Tryz.zeroValue81
 i0:=by kernel_rfl
 i2:=by kernel_rfl
 i3:=by kernel_rfl
 i4:=by kernel_rfl
 i5:=by kernel_rfl
 i9:=by kernel_rfl
 i20:=by kernel_rfl
 i21:=by kernel_rfl
 i37:=by kernel_rfl
 i46:=by kernel_rfl
 i51:=by kernel_rfl
 i53:=by kernel_rfl
 i75:=by kernel_rfl
 i76:=by kernel_rfl
 i80:=by kernel_rfl
 i85:=by kernel_rfl
 i127:=by kernel_rfl
 i143:=by kernel_rfl
 i145:=by kernel_rfl
 i167:=by kernel_rfl
 i168:=by kernel_rfl
 i171:=by kernel_rfl
 i173:=by kernel_rfl
 i175:=by kernel_rfl
 i210:=by kernel_rfl
 i212:=by kernel_rfl
 i232:=by kernel_rfl
 i233:=by kernel_rfl
 m15:=by kernel_rfl
 m16:=by kernel_rfl
 m17:=by kernel_rfl
 m18:=by kernel_rfl
 m19:=by kernel_rfl
 c0:=by kernel_rfl
 c2:=by kernel_rfl
 c3:=by kernel_rfl
 c4:=by kernel_rfl
 c5:=by kernel_rfl
 c9:=by kernel_rfl
 c20:=by kernel_rfl
 c21:=by kernel_rfl
 c37:=by kernel_rfl
 c46:=by kernel_rfl
 c51:=by kernel_rfl
 c53:=by kernel_rfl
 c75:=by kernel_rfl
 c76:=by kernel_rfl
 c80:=by kernel_rfl
 c85:=by kernel_rfl
 c127:=by kernel_rfl
 c143:=by kernel_rfl
 c145:=by kernel_rfl
 c167:=by kernel_rfl
 c168:=by kernel_rfl
 c171:=by kernel_rfl
 c173:=by kernel_rfl
 c175:=by kernel_rfl
 c210:=by kernel_rfl
 c212:=by kernel_rfl
 c213:=by kernel_rfl
 c232:=by kernel_rfl
 c233:=by kernel_rfl}
open Go.RowKit in
theorem Tryz.strconv_Atoi_ok (s:ByteArray) (hmax:s.size≤9223372036854775806) (v:Int) (h:Lib.atoiAll s.data.toList=.ok v) (w:World):
  Calls Tryz.prog 159 #[.string s] w fun e w'=>e=.returned (.tuple #[.int .i64 v,.nilIface])∧(w'=w∨∃t,w'=Lib.bytesWorld w 5 t):=Any.strconv_Atoi_ok Tryz.laysC172 s hmax v h w
open Go.RowKit in
theorem Tryz.strconv_Atoi_syntax (s:ByteArray) (hlim:s.size≤281474976710656) (h:Lib.atoiAll s.data.toList=.«syntax») (ev:Value) (w:World) (hv:w.cell? ⟨3,0,none⟩=some ev) (hev:ev=.nilIface∨∃te pe,ev=.iface te pe):
  Calls Tryz.prog 159 #[.string s] w fun e w'=>∃N,e=.returned (.tuple #[.int .i64 (0),.iface 210 (.pointer (some ⟨N,0,none⟩))])∧w.heap.size≤N∧w'.heap[N]?=some (.cells #[.string ⟨#[65,116,111,105]⟩,.string s,ev] 236 (0,0))∧Below w.heap.size w w':=Any.strconv_Atoi_syntax Tryz.laysC172 s hlim h ev w hv hev
open Go.RowKit in
theorem Tryz.strconv_Atoi_range (s:ByteArray) (hlim:s.size≤281474976710656) (h:Lib.atoiAll s.data.toList=.range) (ev:Value) (w:World) (hv:w.cell? ⟨4,0,none⟩=some ev) (hev:ev=.nilIface∨∃te pe,ev=.iface te pe):
  Calls Tryz.prog 159 #[.string s] w fun e w'=>∃N,e=.returned (.tuple #[.int .i64 (Lib.atoiSat s.data.toList),.iface 210 (.pointer (some ⟨N,0,none⟩))])∧w.heap.size≤N∧w'.heap[N]?=some (.cells #[.string ⟨#[65,116,111,105]⟩,.string s,ev] 236 (0,0))∧Below w.heap.size w w':=Any.strconv_Atoi_range Tryz.laysC172 s hlim h ev w hv hev
def Tryz.lays146_ren:Go.Shelf.Ren:=⟨fun|146=>76|221=>109|268=>155|138=>156|143=>157|195=>192|197=>193|218=>194|219=>195|260=>222|217=>223|225=>224|224=>225|267=>226|266=>256|314=>257|n=>n,fun|9=>9|31=>49|3=>3|4=>4|0=>0|105=>189|21=>21|5=>5|46=>117|119=>226|139=>229|138=>228|146=>231|51=>230|n=>n,fun|1=>0|3=>1|4=>2|n=>n⟩
theorem Tryz.lays146:Go.Proofs.Lays.n146 Tryz.prog Tryz.lays146_ren:={
 mixed:=by kernel_rfl
 f138:=Tryz.func156.trans (congrArg some (by kernel_rfl))
 f143:=Tryz.func157.trans (congrArg some (by kernel_rfl))
 f146:=Tryz.func76.trans (congrArg some (by kernel_rfl))
 f195:=Tryz.func192.trans (congrArg some (by kernel_rfl))
 f197:=Tryz.func193.trans (congrArg some (by kernel_rfl))
 f217:=Tryz.func223.trans (congrArg some (by kernel_rfl))
 f218:=Tryz.func194.trans (congrArg some (by kernel_rfl))
 f219:=Tryz.func195.trans (congrArg some (by kernel_rfl))
 f221:=Tryz.func109.trans (congrArg some (by kernel_rfl))
 f224:=Tryz.func225.trans (congrArg some (by kernel_rfl))
 f225:=Tryz.func224.trans (congrArg some (by kernel_rfl))
 f260:=Tryz.func222.trans (congrArg some (by kernel_rfl))
 f266:=Tryz.func256.trans (congrArg some (by kernel_rfl))
 f267:=Tryz.func226.trans (congrArg some (by kernel_rfl))
 f268:=Tryz.func155.trans (congrArg some (by kernel_rfl))
 f314:=Tryz.func257.trans (congrArg some (by kernel_rfl))
 t0:=Tryz.underlying0
 a0:=Tryz.isAgg0
 z0:=Tryz.sizeOf0
 v0:=Tryz.zeroValue0
 t3:=Tryz.underlying3
 a3:=Tryz.isAgg3
 z3:=Tryz.sizeOf3
 v3:=Tryz.zeroValue3
 t4:=Tryz.underlying4
 a4:=Tryz.isAgg4
 z4:=Tryz.sizeOf4
 v4:=Tryz.zeroValue4
 t5:=Tryz.underlying5
 a5:=Tryz.isAgg5
 z5:=Tryz.sizeOf5
 v5:=Tryz.zeroValue5
 t9:=Tryz.underlying9
 a9:=Tryz.isAgg9
 z9:=Tryz.sizeOf9
 v9:=Tryz.zeroValue9
 t21:=Tryz.underlying21
 a21:=Tryz.isAgg21
 z21:=Tryz.sizeOf21
 v21:=Tryz.zeroValue21
 t31:=Tryz.underlying49
 a31:=Tryz.isAgg49
 z31:=Tryz.sizeOf49
 v31:=Tryz.zeroValue49
 t46:=Tryz.underlying117
 a46:=Tryz.isAgg117
 z46:=Tryz.sizeOf117
 v46:=Tryz.zeroValue117
 t51:=Tryz.underlying230
 a51:=Tryz.isAgg230
 z51:=Tryz.sizeOf230
 v51:=Tryz.zeroValue230
 t105:=Tryz.underlying189
 a105:=Tryz.isAgg189
 z105:=Tryz.sizeOf189
 v105:=Tryz.zeroValue189
 t119:=Tryz.underlying226
 a119:=Tryz.isAgg226
 z119:=Tryz.sizeOf226
 t138:=Tryz.underlying228
 a138:=Tryz.isAgg228
 z138:=Tryz.sizeOf228
 v138:=Tryz.zeroValue228
 t139:=Tryz.underlying229
 a139:=Tryz.isAgg229
 z139:=Tryz.sizeOf229
 v139:=Tryz.zeroValue229
 t146:=Tryz.underlying231
 a146:=Tryz.isAgg231
 z146:=Tryz.sizeOf231
 v146:=Tryz.zeroValue231
 g1:=by kernel_rfl
 g3:=by kernel_rfl
 g4:=by kernel_rfl}
open Go.RowKit Go.Lib in
theorem Tryz.strings_Split (s sep:ByteArray) (m:Int) (w:World) (hs:s.size<4294967281) (hm:w.cell? ⟨0,0,none⟩=some (.int .i64 m)) (h1:1≤sep.size):
  Calls Tryz.prog 76 #[.string s,.string sep] w fun e w'=>
   e=.returned (.slice (some ⟨w.heap.size,0,none⟩) (Lib.countB s sep+1) (Lib.countB s sep+1))∧w'=w.alloc (.cells ((Lib.splitB sep 0 (Lib.countB s sep) s).map Value.string).toArray 9):=Any.strings_Split Tryz.lays146 (by kernel_rfl) s sep m w hs hm h1
def Tryz.lays229_ren:Go.Shelf.Ren:=⟨fun|229=>196|n=>n,fun|9=>9|40=>193|31=>49|152=>204|3=>3|0=>0|4=>4|21=>21|154=>206|n=>n,fun|n=>n⟩
theorem Tryz.lays229:Go.Proofs.Lays.n229 Tryz.prog Tryz.lays229_ren:={
 mixed:=by kernel_rfl
 f229:=Tryz.func196.trans (congrArg some (by kernel_rfl))
 t0:=Tryz.underlying0
 a0:=Tryz.isAgg0
 z0:=Tryz.sizeOf0
 v0:=Tryz.zeroValue0
 t3:=Tryz.underlying3
 a3:=Tryz.isAgg3
 z3:=Tryz.sizeOf3
 v3:=Tryz.zeroValue3
 t4:=Tryz.underlying4
 a4:=Tryz.isAgg4
 z4:=Tryz.sizeOf4
 v4:=Tryz.zeroValue4
 t9:=Tryz.underlying9
 a9:=Tryz.isAgg9
 z9:=Tryz.sizeOf9
 v9:=Tryz.zeroValue9
 t21:=Tryz.underlying21
 a21:=Tryz.isAgg21
 z21:=Tryz.sizeOf21
 v21:=Tryz.zeroValue21
 t31:=Tryz.underlying49
 a31:=Tryz.isAgg49
 z31:=Tryz.sizeOf49
 v31:=Tryz.zeroValue49
 t40:=Tryz.underlying193
 a40:=Tryz.isAgg193
 z40:=Tryz.sizeOf193
 v40:=Tryz.zeroValue193
 t152:=Tryz.underlying204
 a152:=Tryz.isAgg204
 z152:=Tryz.sizeOf204
 v152:=Tryz.zeroValue204
 t154:=Tryz.underlying206
 a154:=Tryz.isAgg206
 z154:=Tryz.sizeOf206
 v154:=Tryz.zeroValue206}
open Go.RowKit Go.Lib in
theorem Tryz.strings_FieldsFunc (g:Nat) (lb:Array Value) (eg:∀args w,(callFunc g args).run Tryz.prog w=.ok (.enter g args) w) (p:Nat→Bool) (s:ByteArray) (w:World) (hs:s.size≤4294967296) (hp:PredAt Tryz.prog g lb encR p w):
  Calls Tryz.prog 196 #[.string s,.func (.func g) #[] lb] w fun e w'=>∃A,e=.returned (.slice (some ⟨A,0,none⟩) (Lib.goFieldsP p s).length (Lib.goFieldsP p s).length)∧w.heap.size≤A∧
   w'.ownsRow w.heap.size 9 1 (.slice (some ⟨A,0,none⟩) (Lib.goFieldsP p s).length (Lib.goFieldsP p s).length) (Lib.goFieldsP p s).length ((Lib.goFieldsP p s).map Value.string)∧Below w.heap.size w w':=Any.strings_FieldsFunc Tryz.lays229 g lb eg p s w hs hp (by kernel_rfl) (by kernel_rfl)
end Go.Proofs
namespace Go.Proofs.YtahdjphocippeaaGreatDoor
open Go.RowKit
def cStr (x:ByteArray):List Tr:=[.v (.string x)]
theorem z0g {ok:Nat→Prop} {w:World} (h:Lb ok w):Go.Lib.TabIs Tryz.prog w "internal/strconv.uint64pow10" .u64 Go.Lib.pow10Tab:=by
  have hg:Tryz.prog.globalNamed "internal/strconv.uint64pow10"=some 5:=by kernel_rfl
  obtain⟨_,cs,T,fz,h2,h3⟩:=h (5,fun cs=>cs=(Go.Lib.pow10Tab.map fun z=>Value.int .u64 z).toArray) (by simp[TB]);have h3:cs=(Go.Lib.pow10Tab.map fun z=>Value.int .u64 z).toArray:=h3;subst h3;unfold Go.Lib.TabIs World.var?;rw[hg];simp only[za,h2]
theorem zHp {w:World} {g:Nat} {o:Obj} (h:w.heap[g]?=some o):g<w.heap.size:=by
 by_cases hlt:g<w.heap.size
 ·exact hlt
 ·rw[Array.getElem?_eq_none (by omega)]at h;cases h
theorem zWd {w:World} (h:Go.Lib.TabIs Tryz.prog w "internal/strconv.uint64pow10" .u64 Go.Lib.pow10Tab):∃cs T fz,w.heap[5]?=some (.cells cs T fz)∧cs=(Go.Lib.pow10Tab.map fun z=>Value.int .u64 z).toArray:=by
  have hg:Tryz.prog.globalNamed "internal/strconv.uint64pow10"=some 5:=by kernel_rfl
  unfold Go.Lib.TabIs World.var? at h;rw[hg]at h;simp only[za]at h;have key:∀(o:Option Obj) (cs:Array Value),(match o with|some (.cells cs _ _)=>some cs|_=>none)=some cs→∃T fz,o=some (.cells cs T fz):=by
    intro o cs ho;split at ho
    · rename_i cs2 T fz
      injection ho with ho;subst ho;exact⟨T,fz,rfl⟩
    · cases ho
  obtain⟨T,fz,he⟩:=key _ _ h;exact⟨_,T,fz,he,rfl⟩
theorem zOO {w:World} {g:Nat} {v:Value} (h:w.cell? ⟨g,0,none⟩=some v):∃cs T fz,w.heap[g]?=some (.cells cs T fz)∧cs[0]?=some v:=by
 unfold World.cell? at h;split at h
 ·rename_i c T fz hc;exact⟨c,T,fz,hc,by simpa using h⟩
 ·cases h
theorem zNr {w:World} {g:Nat} {v:Value} {cs:Array Value} {T:TypeId} {fz:Nat×Nat} (h:w.heap[g]?=some (.cells cs T fz)) (hv:cs[0]?=some v):w.cell? ⟨g,0,none⟩=some v:=by
 simp[World.cell?,h,hv]
theorem z0r {ok:Nat→Prop} {w:World} (hok:∀g,g<w.heap.size→ok g) (h:Go.Lib.TabIs Tryz.prog w "internal/strconv.uint64pow10" .u64 Go.Lib.pow10Tab) (hm:∃m,w.cell? ⟨0,0,none⟩=some (.int .i64 m)) (he3:∃te pe,w.cell? ⟨3,0,none⟩=some (.iface te pe)) (he4:∃te pe,w.cell? ⟨4,0,none⟩=some (.iface te pe)):Lb ok w:=by
  intro p hp;simp only[TB,zk,zp,or_false]at hp;rcases hp with rfl|rfl|rfl|rfl
  · obtain⟨cs,T,fz,h1,h2⟩:=zWd h
    exact⟨hok _ (zHp h1),cs,T,fz,h1,h2⟩
  · obtain⟨m,hm⟩:=hm
    obtain⟨cs,T,fz,h1,h2⟩:=zOO hm;exact⟨hok _ (zHp h1),cs,T,fz,h1,m,h2⟩
  · obtain⟨te,pe,he⟩:=he3
    obtain⟨cs,T,fz,h1,h2⟩:=zOO he;exact⟨hok _ (zHp h1),cs,T,fz,h1,te,pe,h2⟩
  · obtain⟨te,pe,he⟩:=he4
    obtain⟨cs,T,fz,h1,h2⟩:=zOO he;exact⟨hok _ (zHp h1),cs,T,fz,h1,te,pe,h2⟩
theorem zFm:∀args w,(callFunc 123 args).run Tryz.prog w=.ok (.enter 123 args) w:=jE Tryz.func123 (by kernel_rfl) (by kernel_rfl)
theorem zGO {n:Int} {r:ByteArray} (h:qJ n=some r):zD Tryz.prog 123 [I n] (.c (.v (.string r))) []:=
 zZ6 (fun ok w n hl h0 h1=>(Go.Proofs.Tryz.strconv_Itoa n h0 h1 w (z0g hl)).mono (by
  rintro e w' ⟨he,k,os,hw⟩;subst hw;refine⟨he,rfl,rfl,rfl,?_,fun q hq=>?_⟩
  ·show w.heap.size≤(w.heap++os).size;simp
  ·show (w.heap++os)[q]?=w.heap[q]?
   exact Array.getElem?_append_left hq)) h
theorem zPZ:∀args w,(callFunc 213 args).run Tryz.prog w=.ok (.enter 213 args) w:=jE Tryz.func213 (by kernel_rfl) (by kernel_rfl)
theorem zQv {xs:List ByteArray} {sep r:ByteArray} (h:zCN xs sep=some r):zD Tryz.prog 213 [.c (.sl (xs.map cStr)),.c (.v (.string sep))] (.c (.v (.string r))) []:=
 zZ5 (fun _=>rfl) (fun a c sep w=>Go.Proofs.Tryz.strings_Join_none a c sep w) (fun bk o c xs sep w h1 h2 h3 h4 h5=>Go.Proofs.Tryz.strings_Join bk o c xs sep w h1 h2 h3 h4 h5) h
theorem z0p {ok:Nat→Prop} {w:World} (h:Lb ok w):∃m,w.cell? ⟨0,0,none⟩=some (.int .i64 m):=by
 obtain⟨_,cs,T,fz,h2,m,h3⟩:=h (0,fun cs=>∃m,cs[0]?=some (.int .i64 m)) (by simp[TB]);exact⟨m,zNr h2 h3⟩
theorem zZM {ok:Nat→Prop} {w:World} (h:Lb ok w):∃te pe,w.cell? ⟨3,0,none⟩=some (.iface te pe):=by
 obtain⟨_,cs,T,fz,h2,te,pe,h3⟩:=h (3,fun cs=>∃te pe,cs[0]?=some (.iface te pe)) (by simp[TB]);exact⟨te,pe,zNr h2 h3⟩
theorem zZL {ok:Nat→Prop} {w:World} (h:Lb ok w):∃te pe,w.cell? ⟨4,0,none⟩=some (.iface te pe):=by
 obtain⟨_,cs,T,fz,h2,te,pe,h3⟩:=h (4,fun cs=>∃te pe,cs[0]?=some (.iface te pe)) (by simp[TB]);exact⟨te,pe,zNr h2 h3⟩
theorem zHV:∀args w,(callFunc 76 args).run Tryz.prog w=.ok (.enter 76 args) w:=jE Tryz.func76 (by kernel_rfl) (by kernel_rfl)
theorem zIE {s sep:ByteArray} {r:List ByteArray} (h:jY s sep=some r):zD Tryz.prog 76 [.c (.v (.string s)),.c (.v (.string sep))] (.ow 0) [(0,.arr 9 1 (r.map cStr))]:=
 zYX (fun _=>rfl) (fun ok w s sep hl h1 h2=>by obtain⟨m,hm⟩:=z0p hl;exact Go.Proofs.Tryz.strings_Split s sep m w h1 hm h2) h
theorem zIF:∀args w,(callFunc 159 args).run Tryz.prog w=.ok (.enter 159 args) w:=jE Tryz.func159 (by kernel_rfl) (by kernel_rfl)
theorem zIb {s:ByteArray} {r:Int×Bool} (h:zAM s=some r):zD Tryz.prog 159 [.c (.v (.string s))] (.tc (I r.1) (.tc (.er r.2) .tn)) []:=
 zZ7 (fun ok w s hl hs r hr=>by
  obtain⟨te1,pe1,h1⟩:=zZM hl;obtain⟨te2,pe2,h2⟩:=zZL hl;unfold zAM at hr;rw[if_pos hs]at hr;cases ha:Go.Lib.atoiAll s.data.toList with
  |ok v=>
   rw[ha]at hr;injection hr with hr;subst hr;refine (Go.Proofs.Tryz.strconv_Atoi_ok s (by omega) v ha w).mono ?_
   rintro e w' ⟨he,hw⟩;refine⟨⟨_,he,.inl ⟨rfl,rfl⟩⟩,?_⟩;rcases hw with rfl|⟨t,rfl⟩
   ·exact Below.refl _ _
   ·exact Go.Lib.bytesWorld_below _ _ _
  |«syntax»=>
   rw[ha]at hr;injection hr with hr;subst hr;refine (Go.Proofs.Tryz.strconv_Atoi_syntax s hs ha _ w h1 (.inr ⟨te1,pe1,rfl⟩)).mono ?_
   rintro e w' ⟨N,he,_,_,hb⟩;exact⟨⟨_,he,.inr ⟨rfl,_,_,rfl⟩⟩,hb⟩
  |range=>
   rw[ha]at hr;injection hr with hr;subst hr;refine (Go.Proofs.Tryz.strconv_Atoi_range s hs ha _ w h2 (.inr ⟨te2,pe2,rfl⟩)).mono ?_
   rintro e w' ⟨N,he,_,_,hb⟩;exact⟨⟨_,he,.inr ⟨rfl,_,_,rfl⟩⟩,hb⟩) h
theorem zIQ:∀args w,(callFunc 196 args).run Tryz.prog w=.ok (.enter 196 args) w:=jE Tryz.func196 (by kernel_rfl) (by kernel_rfl)
theorem zVi {s:ByteArray} {r:List ByteArray} {p:Nat→Bool} {g:Nat} (eg:∀args w,(callFunc g args).run Tryz.prog w=.ok (.enter g args) w) (hp:∀w,Go.Proofs.PredAt Tryz.prog g #[] (fun x:Nat=>Value.int .i32 (x:Int)) p w) (h:zAs p s=some r):zD Tryz.prog 196 [.c (.v (.string s)),.c (.v (.func (.func g) #[] #[]))] (.ow 0) [(0,.arr 9 1 (r.map cStr))]:=by
 unfold zAs at h;split at h
 ·rename_i hn;injection h with h;subst h;refine zUv (fun _=>rfl) fun ok σ w vs hok hlib hargs=>?_
  cases hargs with
  |cons h1 h2=>
   cases h2 with
   |cons h3 h4=>
    cases h4;have:=zF0 h1;subst this;have h5:Rd ok w (.v (.func (.func g) #[] #[])) _:=h3;cases h5;refine (Go.Proofs.Tryz.strings_FieldsFunc g #[] eg p s w hn (hp w)).mono ?_
    rintro e w' ⟨B,he,h6,h7,h8⟩;exact⟨B,_,he,h6,h7,h8⟩
 ·cases h
theorem z39 (a b:ByteArray):(a==b)=decide (a=b):=by
 have h:(a==b)=(a.data==b.data):=rfl;rw[h,Bool.eq_iff_iff,beq_iff_eq,decide_eq_true_iff];constructor
 ·intro h;cases a;cases b;exact congrArg _ h
 ·intro h;rw[h]
section
variable {κ ν:Type} [DecidableEq κ]
theorem zRe {a:κ}:∀{m:List (κ×ν)},ixM a (m.map Prod.fst)=none→mGet a m=none∧∀v,mPut a v m=m++[(a,v)]
 |[],_=>⟨rfl,fun _=>rfl⟩
 |p::ps,h=>by
  simp only[List.map_cons,ixM]at h;by_cases e:a=p.1
  ·rw[if_pos e]at h;cases h
  ·rw[if_neg e]at h;have h2:ixM a (ps.map Prod.fst)=none:=by simpa using h
   obtain⟨k1,k2⟩:=zRe h2;exact⟨by unfold mGet;rw[if_neg e,k1],fun v=>by unfold mPut;rw[if_neg e,k2];rfl⟩
theorem zRd {a:κ}:∀{m:List (κ×ν)} {j:Nat},ixM a (m.map Prod.fst)=some j→∃v0,m[j]?=some (a,v0)∧mGet a m=some v0∧∀v,mPut a v m=m.set j (a,v)
 |[],j,h=>by cases h
 |p::ps,j,h=>by
  simp only[List.map_cons,ixM]at h;by_cases e:a=p.1
  ·rw[if_pos e]at h;injection h with h;subst h;refine⟨p.2,by rw[e];rfl,by unfold mGet;rw[if_pos e],fun v=>by unfold mPut;rw[if_pos e];rfl⟩
  ·rw[if_neg e]at h;cases h2:ixM a (ps.map Prod.fst) with
   |none=>rw[h2]at h;cases h
   |some i=>
    rw[h2]at h;injection h with h;subst h;obtain⟨v0,k1,k2,k3⟩:=zRd h2;exact⟨v0,by simpa using k1,by unfold mGet;rw[if_neg e,k2],fun v=>by unfold mPut;rw[if_neg e,k3];rfl⟩
end
section
variable {P:Program}
structure KeyT (P:Program) {κ:Type} [DecidableEq κ] (kt:TypeId) (ek:κ→Value):Prop where
  chk:∀b a w,(Instr.checkKey b 10000 kt (ek a)).run P w=.ok () w
  find:∀a (es:List MapEntry) (ks:List κ) w,es.map (·.key)=ks.map ek→(Instr.findKey kt (ek a) es).run P w=.ok ((ixM a ks).bind fun j=>(es[j]?).map fun e=>(j,e.val)) w
  bits:∀a,Instr.sameBits 10000 (ek a) (ek a)=true
theorem zIu {κ:Type} [DecidableEq κ] {kt:TypeId} {ek:κ→Value} (heq:∀a b w,(Op.equal kt (ek a) (ek b)).run P w=.ok (decide (a=b)) w) (a:κ) (w:World):∀(es:List MapEntry) (ks:List κ) (i:Nat),es.map (·.key)=ks.map ek→
  (Instr.findAsking kt (ek a) es i).run P w=.ok ((ixM a ks).bind fun j=>(es[j]?).map fun e=>(i+j,e.val)) w
 |[],[],i,_=>rfl
 |[],k::ks,i,h=>by simp at h
 |e::es,[],i,h=>by simp at h
 |e::es,k::ks,i,h=>by
  simp only[List.map_cons,List.cons.injEq]at h;have ih:=zIu heq a w es ks (i+1) h.2;unfold Instr.findAsking;rw[h.1];simp only[Sem.run_bind,heq,Result.andThen_ok];by_cases e1:a=k
  ·simp[e1,ixM]
  ·simp only[ze e1,zy,if_false,ih,ixM,if_neg e1];cases ixM a ks with
   |none=>rfl
   |some j=>
    simp only[za,Option.map_some,List.getElem?_cons_succ];rw[show i+1+j=i+(j+1) by omega]
theorem z26 {κ:Type} [DecidableEq κ] {kt:TypeId} {ek:κ→Value} (d:TypeDesc) (hd:P.underlying kt=some d) (chk:∀b a w,(Instr.checkKey b 10000 kt (ek a)).run P w=.ok () w) (heq:∀a b w,(Op.equal kt (ek a) (ek b)).run P w=.ok (decide (a=b)) w)
  (hnow:∀a b,Instr.sameNow d (ek a) (ek b)=none) (bits:∀a,Instr.sameBits 10000 (ek a) (ek a)=true):KeyT P kt ek:=by
 refine⟨chk,fun a es ks w h=>?_,bits⟩;unfold Instr.findKey;simp only[Sem.run_bind,run_underlying hd,Result.andThen_ok];cases es with
 |nil=>
  cases ks with
  |nil=>rfl
  |cons k ks=>simp at h
 |cons e es=>
  cases ks with
  |nil=>simp at h
  |cons k ks=>
   have h1:=h;simp only[List.map_cons,List.cons.injEq]at h1;have h2:Instr.findNow d (ek a) (e::es) 0=none:=by
    unfold Instr.findNow;rw[h1.1,hnow]
   rw[h2];have:=zIu heq a w (e::es) (k::ks) 0 h;simp only[Nat.zero_add]at this;exact this
theorem zOi {κ:Type} [DecidableEq κ] {d:TypeDesc} {ek:κ→Value} (hs:∀a b,Instr.sameNow d (ek a) (ek b)=some (decide (a=b))) (a:κ):∀(es:List MapEntry) (ks:List κ) (i:Nat),es.map (·.key)=ks.map ek→
  Instr.findNow d (ek a) es i=some ((ixM a ks).bind fun j=>(es[j]?).map fun e=>(i+j,e.val))
 |[],[],i,_=>rfl
 |[],k::ks,i,h=>by simp at h
 |e::es,[],i,h=>by simp at h
 |e::es,k::ks,i,h=>by
  simp only[List.map_cons,List.cons.injEq]at h;have ih:=zOi hs a es ks (i+1) h.2;unfold Instr.findNow;rw[h.1,hs];by_cases e1:a=k
  ·simp[e1,ixM]
  ·simp only[ze e1,ih,ixM,if_neg e1];cases ixM a ks with
   |none=>rfl
   |some j=>
    simp only[za,Option.map_some,List.getElem?_cons_succ];rw[show i+1+j=i+(j+1) by omega]
theorem z23 {κ:Type} [DecidableEq κ] {kt:TypeId} {ek:κ→Value} (d:TypeDesc) (hd:P.underlying kt=some d) (chk:∀b a w,(Instr.checkKey b 10000 kt (ek a)).run P w=.ok () w) (hs:∀a b,Instr.sameNow d (ek a) (ek b)=some (decide (a=b)))
  (bits:∀a,Instr.sameBits 10000 (ek a) (ek a)=true):KeyT P kt ek:=by
 refine⟨chk,fun a es ks w h=>?_,bits⟩;unfold Instr.findKey;simp only[Sem.run_bind,run_underlying hd,Result.andThen_ok];have:=zOi hs a es ks 0 h;simp only[Nat.zero_add]at this;rw[this];rfl
theorem z1L (n:Nat) (l:List Int):Instr.sameBits (n+1) (.agg (l.map (Value.int .i64)).toArray) (.agg (l.map (Value.int .i64)).toArray)=true:=by
 unfold Instr.sameBits;simp only[beq_self_eq_true,Bool.true_and,List.all_eq_true];intro p hp;have:∀(l:List Int) (p:Value×Value),p∈(l.map (Value.int .i64)).zip (l.map (Value.int .i64))→∃a,p=(.int .i64 a,.int .i64 a):=by
  intro l
  induction l with
  |nil=>intro p hp;simp at hp
  |cons x xs ih=>
   intro p hp;simp only[List.map_cons,List.zip_cons_cons,zk]at hp;rcases hp with h|h
   ·exact⟨x,h⟩
   ·exact ih p h
 obtain⟨a,rfl⟩:=this l p hp;simp[Instr.sameBits]
theorem z1v {t:TypeId} {z:Value} (h:(P.info? t).bind (·.zero)=some z) (w:World):(zeroValue t).run P w=.ok z w:=by
 cases hi:P.info? t with
 |none=>rw[hi]at h;cases h
 |some i=>
  rw[hi]at h;have h2:i.zero=some z:=h;simp[zeroValue,typeInfo,hi,h2]
theorem zO7 {κ ν:Type} [DecidableEq κ] {ek:κ→Value} {ev:ν→Value} {t kt vt:TypeId} {z:ν} (ht:P.underlying t=some (.map kt vt)) (hk:KeyT P kt ek) (hz:(P.info? vt).bind (·.zero)=some (ev z)) {w:World} {b:Nat} {es:Array MapEntry} {clock:Nat} (hb:w.heap[b]?=some (.map es clock))
  {m:List (κ×ν)} (hm:es.toList.map kvOf=m.map fun p=>(ek p.1,ev p.2)) (a:κ) (co:Bool):
  (Instr.lookup t (.map (some b)) (ek a) co).run P w=.ok (if co then .tuple #[ev (mAt a m z),.bool (mHas a m)] else ev (mAt a m z)) w:=by
 have hkeys:es.toList.map (·.key)=(m.map Prod.fst).map ek:=by
  have:=congrArg (List.map Prod.fst) hm;simpa [kvOf,Function.comp_def] using this
 have hf:=hk.find a es.toList (m.map Prod.fst) w hkeys;unfold Instr.lookup;simp only[Sem.run_bind,run_underlying ht,Result.andThen_ok,MapKept.run_getObj_map hb,Sem.run_pure,hk.chk,hf];cases hi:ixM a (m.map Prod.fst) with
 |none=>
  obtain⟨k1,_⟩:=zRe hi;simp only[Option.bind_none,Sem.run_bind,z1v hz,Result.andThen_ok,Sem.run_pure,mAt,mHas,k1,Option.getD_none,Option.isSome_none]
 |some j=>
  obtain⟨v0,k1,k2,_⟩:=zRd hi;have he:∃e,es.toList[j]?=some e∧e.val=ev v0:=by
   have h1:=congrArg (fun l=>l[j]?) hm;simp only[List.getElem?_map,k1,Option.map_some]at h1;cases h2:es.toList[j]? with
   |none=>rw[h2]at h1;cases h1
   |some e=>
    rw[h2]at h1;simp only[Option.map_some,Option.some.injEq,kvOf,Prod.mk.injEq]at h1;exact⟨e,rfl,h1.2⟩
  obtain⟨e,e1,e2⟩:=he;simp only[za,e1,Option.map_some,Sem.run_bind,Sem.run_pure,Result.andThen_ok,mAt,mHas,k2,Option.getD_some,Option.isSome_some,e2]
theorem zRW {κ ν:Type} [DecidableEq κ] {ek:κ→Value} {ev:ν→Value} {t kt vt:TypeId} (ht:P.underlying t=some (.map kt vt)) (hk:KeyT P kt ek) {w:World} {b:Nat} {es:Array MapEntry} {clock:Nat} (hb:w.heap[b]?=some (.map es clock))
  {m:List (κ×ν)} (hm:es.toList.map kvOf=m.map fun p=>(ek p.1,ev p.2)) (a:κ) (v:ν):
  ∃es' clock',(Instr.mapUpdate t (.map (some b)) (ek a) (ev v)).run P w=.ok () {w with heap:=w.heap.setIfInBounds b (.map es' clock')}∧es'.toList.map kvOf=(mPut a v m).map fun p=>(ek p.1,ev p.2):=by
 have hkeys:es.toList.map (·.key)=(m.map Prod.fst).map ek:=by
  have:=congrArg (List.map Prod.fst) hm;simpa [kvOf,Function.comp_def] using this
 have hf:=hk.find a es.toList (m.map Prod.fst) w hkeys;cases hi:ixM a (m.map Prod.fst) with
 |none=>
  obtain⟨_,k2⟩:=zRe hi;refine⟨es.push {key:=ek a,val:=ev v,born:=clock},clock+1,?_,?_⟩
  ·unfold Instr.mapUpdate;rw[hi]at hf;simp only[Sem.run_bind,run_underlying ht,Result.andThen_ok,MapKept.run_getObj_map hb,Sem.run_pure,hk.chk,hf,Option.bind_none,MapKept.run_setObj_map _ hb]
  ·rw[k2];simp[hm,kvOf]
 |some j=>
  obtain⟨v0,k1,_,k3⟩:=zRd hi;have he:∃e,es.toList[j]?=some e∧e.key=ek a:=by
   have h1:=congrArg (fun l=>l[j]?) hm;simp only[List.getElem?_map,k1,Option.map_some]at h1;cases h2:es.toList[j]? with
   |none=>rw[h2]at h1;cases h1
   |some e=>
    rw[h2]at h1;simp only[Option.map_some,Option.some.injEq,kvOf,Prod.mk.injEq]at h1;exact⟨e,rfl,h1.1⟩
  obtain⟨e,e1,e2⟩:=he;have e3:es[j]?=some e:=by simpa using e1
  refine⟨es.modify j fun e=>{e with key:=ek a,val:=ev v},clock,?_,?_⟩
  ·unfold Instr.mapUpdate;rw[hi]at hf;simp only[Sem.run_bind,run_underlying ht,Result.andThen_ok,MapKept.run_getObj_map hb,Sem.run_pure,hk.chk,hf,za,e1,Option.map_some,e3,Option.getD_some,e2,Instr.keyThatStays,hk.bits,if_true,MapKept.run_setObj_map _ hb]
  ·rw[k3,Array.toList_modify];apply List.ext_getElem?;intro i;have h1:=congrArg (fun l=>l[i]?) hm;simp only[List.getElem?_map]at h1 ⊢;rw[List.getElem?_modify,List.getElem?_set];by_cases hij:j=i
   ·subst hij;have hlt:j<m.length:=(List.getElem?_eq_some_iff.1 k1).1;simp[e1,hlt,kvOf]
   ·simp only[hij,if_false,Option.map_map];rw[←h1];cases es.toList[i]?<;>rfl
theorem R.writeG {B:Fr} {w0:World} {ok0 ok:Nat→Prop} {σ:Nat→Loc} {s:St} {a:Act} {w w':World} (h:R B w0 ok0 ok σ s a w) {id:Nat} {e e':Ent} {g:Nat} (he:s.ent id=some e) (hg:(σ id).blk=some g) (hsize:w'.heap.size=w.heap.size)
  (hw:∀q,q≠g→w'.heap[q]?=w.heap[q]?) (hos:w'.os=w.os) (htp:w'.tape=w.tape) (hou:w'.output=w.output) (E':List (Nat×Ent)) (hE:∀j,(E'.lookup j)=if j=id then some e' else s.ent j) (hok:zAT ok w' (σ id) e') (hpin:e'.pin=e.pin):
  R B w0 ok0 ok σ ⟨s.T,E'⟩ a w':=by
 obtain⟨hb1,hb2⟩:=h.core.blk id e g he hg;have hB:=h.own id e g he hg;have hwok:∀q,ok q→w'.heap[q]?=w.heap[q]?:=fun q hq=>hw q fun e=>hb1 (e▸hq)
 have look:∀j f,(St.mk s.T E').ent j=some f→(j=id∧f=e')∨(j≠id∧s.ent j=some f):=by
  intro j f hj;have h1:E'.lookup j=some f:=hj;rw[hE]at h1;split at h1
  ·rename_i hji;exact .inl ⟨hji,by simpa using h1.symm⟩
  ·rename_i hji;exact .inr ⟨hji,h1⟩
 refine⟨⟨h.core.len,fun q hq=>by rw[hsize];exact h.core.okL q hq,h.core.lib.mono (fun _ h=>h) hwok,fun t=>?_,fun j f hj=>?_,fun j f q hj hq=>?_,fun i j f1 f2 q hi hj h1 h2=>?_⟩,h.defers,h.below.trans ?_,by rw[hsize];exact h.base,h.old,h.fresh,fun j f q hj hq=>?_⟩
 ·have h1:=h.core.tmp t;exact h1.mono0 (fun _ h=>h) hwok
 ·rcases look j f hj with⟨rfl,rfl⟩|⟨h1,h2⟩
  ·exact hok
  ·refine (h.core.ent j f h2).mono (fun _ h=>h) hwok fun q hq=>hw q fun e1=>?_
   subst e1;exact h1 (h.core.inj _ _ _ _ _ h2 he hq hg)
 ·rw[hsize];rcases look j f hj with⟨rfl,rfl⟩|⟨h1,h2⟩
  ·exact h.core.blk _ _ _ he hq
  ·exact h.core.blk _ _ _ h2 hq
 ·rcases look i f1 hi with⟨a1,a2⟩|⟨a1,a2⟩<;>rcases look j f2 hj with⟨b1,b2⟩|⟨b1,b2⟩
  ·omega
  ·subst a1;exact h.core.inj _ _ _ _ _ he b2 h1 h2
  ·subst b1;exact h.core.inj _ _ _ _ _ a2 he h1 h2
  ·exact h.core.inj _ _ _ _ _ a2 b2 h1 h2
 ·refine⟨hos,htp,hou,by rw[hsize];exact Nat.le_refl _,fun q hq hx=>hw q fun e1=>?_⟩;subst e1;split at hB
  ·exact hx hB
  ·exact hq hB
 ·rcases look j f hj with⟨rfl,rfl⟩|⟨h1,h2⟩
  ·rw[hpin];exact h.own _ _ _ he hq
  ·exact h.own _ _ _ h2 hq
def trV:Tr→Option Value
 | .v x=>some x
 |_=>none
def keyV:AV→Option Value
 | .c (.v x)=>some x
 | .ag cs=>(cs.mapM trV).map fun xs=>.agg xs.toArray
 |_=>none
theorem z2Q {ok:Nat→Prop} {w:World}:∀(cs:List Tr) (vs xs:List Value),RdL ok w cs vs→(cs.mapM trV)=some xs→vs=xs
 |[],_,xs,.nil,h=>by simpa using h
 |c::cs,_,xs,.cons h1 h2,h=>by
  rw[List.mapM_cons]at h;cases c with
  |v x=>
   simp only[trV,Option.pure_def,Option.bind_eq_bind,za]at h;cases h3:(cs.mapM trV) with
   |none=>rw[h3]at h;cases h
   |some ys=>
    rw[h3]at h;simp only[za,Option.some.injEq]at h;subst h;have:=z2Q cs _ ys h2 h3;subst this;cases h1;rfl
  |sl e=>simp[trV]at h
  |mp e=>simp[trV]at h
theorem zNn {ok:Nat→Prop} {σ:Nat→Loc} {s:St} {a:Act} {w:World} (h:Core ok σ s a w) {x:Operand} {v:Value} (hx:keyV (s.ev x)=some v):a.eval x=v:=by
 have h1:=h.ev x;cases hs:s.ev x with
 |c t=>
  rw[hs]at hx;cases t with
  |v y=>
   injection hx with hx;subst hx;exact h.exact hs
  |sl e=>cases hx
  |mp e=>cases hx
 |ag cs=>
  rw[hs]at hx h1;obtain⟨vs,hv,hr⟩:=(h1:Rel1 ok σ w (.ag cs) (a.eval x))
  simp only[keyV,Option.map_eq_some_iff]at hx;obtain⟨xs,h2,h3⟩:=hx;have:=z2Q cs vs.toList xs hr h2;rw[hv,←h3,←this]
 |bot=>rw[hs]at hx;cases hx
 |ow _=>rw[hs]at hx;cases hx
 |pt _ _=>rw[hs]at hx;cases hx
 |po _ _ _ _=>rw[hs]at hx;cases hx
 |pe _=>rw[hs]at hx;cases hx
 |fn _ _=>rw[hs]at hx;cases hx
 |er _=>rw[hs]at hx;cases hx
 |vw _ _ _=>rw[hs]at hx;cases hx
 |sf _ _ _=>rw[hs]at hx;cases hx
 |tn=>rw[hs]at hx;cases hx
 |tc _ _=>rw[hs]at hx;cases hx
def MpOk (P:Program) (t:TypeId) {κ ν:Type} [DecidableEq κ] (ek:κ→Value) (ev:ν→Value) (z:ν):Prop:=∃kt vt,P.underlying t=some (.map kt vt)∧KeyT P kt ek∧(P.info? vt).bind (·.zero)=some (ev z)∧∀v,(ev v).oneCell'=true
theorem zRa {ok:Nat→Prop} {σ:Nat→Loc} {s:St} {a:Act} {w:World} (h:Core ok σ s a w) {x:Operand} {id b:Nat} {kvs:List (Value×Value)} (hx:s.ev x=.c (.v (.map (some b)))) (he:s.ent id=some (.mp b kvs)):a.eval x=.map (some b)∧∃es clock,w.heap[b]?=some (.map es clock)∧es.toList.map kvOf=kvs:=by
 obtain⟨h1,es,clock,h2,h3⟩:=h.ent id _ he;exact⟨h.exact hx,es,clock,h2,h3⟩
theorem zYx {ok:Nat→Prop} {σ:Nat→Loc} {s:St} {a:Act} {w:World} (h:Core ok σ s a w) {x:Operand} {kvs:List (Value×Value)} (hx:s.ev x=.c (.mp kvs)):∃b,a.eval x=.map (some b)∧∃es clock,w.heap[b]?=some (.map es clock)∧es.toList.map kvOf=kvs:=by
 have h1:=h.ev x;rw[hx]at h1;have h2:Rd ok w (.mp kvs) (a.eval x):=h1;generalize a.eval x=y at h2;cases h2 with
 |mp b es clock hok hb=>exact⟨b,rfl,es,clock,hb,rfl⟩
theorem z1N {o:Oper} {s:St} {x k:Operand} {t:TypeId} {κ ν:Type} [DecidableEq κ] {ek:κ→Value} {ev:ν→Value} {z:ν} {id b:Nat} {m:List (κ×ν)} {a:κ} (hm:MpOk P t ek ev z) (ho:o.op=.lookup t x k true) (hx:s.ev x=.c (.v (.map (some b)))) (he:s.ent id=some (.mp b (m.map fun p=>(ek p.1,ev p.2)))) (hk:keyV (s.ev k)=some (ek a)):
  Y0 P o s (.tc (.c (.v (ev (mAt a m z)))) (.tc (.c (.v (.bool (mHas a m)))) .tn)):=
 qH fun ok σ ac w hC=>by
  obtain⟨kt,vt,h1,h2,h3,h4⟩:=hm;obtain⟨e1,es,clock,e2,e3⟩:=zRa hC hx he;have:=zO7 h1 h2 h3 e2 e3 a true;refine⟨_,?_,⟨#[ev (mAt a m z),.bool (mHas a m)],rfl,Rd.v _ (h4 _),Rd.v _ rfl,trivial⟩⟩;unfold execOp;rw[ho];simp only[e1,zNn hC hk,Sem.run_bind,this,Result.andThen_ok,Sem.run_pure];rfl
theorem z3m {o:Oper} {s:St} {x k:Operand} {t:TypeId} {κ ν:Type} [DecidableEq κ] {ek:κ→Value} {ev:ν→Value} {z:ν} {m:List (κ×ν)} {a:κ} (hm:MpOk P t ek ev z) (ho:o.op=.lookup t x k false) (hx:s.ev x=.c (.mp (m.map fun p=>(ek p.1,ev p.2)))) (hk:keyV (s.ev k)=some (ek a)):
  Y0 P o s (.c (.v (ev (mAt a m z)))):=
 qH fun ok σ ac w hC=>by
  obtain⟨kt,vt,h1,h2,h3,h4⟩:=hm;obtain⟨b,e1,es,clock,e2,e3⟩:=zYx hC hx;have:=zO7 h1 h2 h3 e2 e3 a false;refine⟨_,?_,Rd.v _ (h4 _)⟩;unfold execOp;rw[ho];simp only[e1,zNn hC hk,Sem.run_bind,this,Result.andThen_ok,Sem.run_pure];rfl
theorem zEW {o:Oper} {s:St} {x k v:Operand} {t:TypeId} {κ ν:Type} [DecidableEq κ] {ek:κ→Value} {ev:ν→Value} {z:ν} {id b:Nat} {m:List (κ×ν)} {a:κ} {u:ν} (hm:MpOk P t ek ev z) (ho:o.op=.mapUpdate t x k v∨o.op=.insert t x k v) (hd:o.dst=none) (hx:s.ev x=.c (.v (.map (some b)))) (he:s.ent id=some (.mp b (m.map fun p=>(ek p.1,ev p.2)))) (hk:keyV (s.ev k)=some (ek a)) (hv:s.ev v=.c (.v (ev u))):
  X P o s ⟨s.T,setE id (.mp b ((mPut a u m).map fun p=>(ek p.1,ev p.2))) s.E⟩:=by
 intro B w0 ok0 ok σ ac w hR K Q hK;obtain⟨kt,vt,h1,h2,h3,h4⟩:=hm;obtain⟨e1,es,clock,e2,e3⟩:=zRa hR.core hx he;obtain⟨es',clock',r1,r2⟩:=zRW h1 h2 e2 e3 a u;have ek1:=zNn hR.core hk;have ev1:=hR.core.exact hv;have hblk:=(hR.core.ent id _ he).1;have hset:=MapKept.heap_set (o':=.map es' clock') e2;have hR':=hR.writeG (w':={w with heap:=w.heap.setIfInBounds b (.map es' clock')}) he hblk (by simp) (fun q hq=>hset.2 q hq) rfl rfl rfl _ (zBY id (.mp b ((mPut a u m).map fun p=>(ek p.1,ev p.2))) s.E _ he) ⟨hblk,es',clock',hset.1,r2⟩ rfl;have hrun:(execOp ac.eval o).run P w=.ok .skip {w with heap:=w.heap.setIfInBounds b (.map es' clock')}:=by
  unfold execOp;rcases ho with ho|ho<;>rw[ho]<;>simp only[e1,ek1,ev1,Sem.run_bind,r1,Result.andThen_ok,Sem.run_pure]
 unfold Oper.wp;rw[hrun];show K (ac.put o.dst undef) _;rw[hd];exact hK _ _ _ _ hR'
theorem zYT {ops:Array Oper} {o:Oper} {rest:List Oper} {s:St} {J:St→Prop} {t:TypeId} {d:Nat} (hg:o.guard=none) (ho:o.op=.makeMap t none) (hd:o.dst=some d) (hk:∀b:Nat,XL P ops rest ⟨(zKT d s.T).set d (.c (.v (.map (some b)))),(d*8,.mp b [])::zMS d s.E⟩ J):XL P ops (o::rest) s J:=by
 intro B w0 ok0 ok σ a w hR Q hQ;refine wpList_plain hg fun K hK=>?_
 have hnew:New w (w.alloc (.map #[] 0)) ok ok (fun _=>⟨some w.heap.size,0,0⟩) (.c (.v (.map (some w.heap.size)))) [(0,.mp w.heap.size [])] (.map (some w.heap.size)):=by
  have ha:=MapKept.heap_alloc w (.map #[] 0);have hsz:(w.alloc (.map #[] 0)).heap.size=w.heap.size+1:=by
   show (w.heap.push _).size=_;simp
  refine⟨⟨rfl,rfl,rfl,by omega,fun k hk=>ha.2 k hk⟩,fun _ h=>h,fun _ h=>.inl h,fun g hg=>by have:=hR.core.okL g hg;omega,Rd.v _ rfl,fun id e he=>?_,fun e he=>rfl,fun id e he=>?_,fun id e g he hg=>?_,fun i j e f g hi hj _ _=>?_,fun id e he=>?_⟩
  ·obtain⟨h1,_⟩:=jW _ _ _ _ he;omega
  ·obtain⟨h1,h2⟩:=jW _ _ _ _ he;subst h2;exact⟨rfl,#[],0,ha.1,rfl⟩
  ·have e1:w.heap.size=g:=by simpa using hg
   subst e1;exact⟨Nat.le_refl _,fun h=>Nat.lt_irrefl _ (hR.core.okL _ h),by omega⟩
  ·obtain⟨h1,_⟩:=jW _ _ _ _ hi;obtain⟨h2,_⟩:=jW _ _ _ _ hj;omega
  ·obtain⟨_,h2⟩:=jW _ _ _ _ he;subst h2;rfl
 have hrun:(execOp a.eval o).run P w=.ok (.value (.map (some w.heap.size))) (w.alloc (.map #[] 0)):=by
  unfold execOp;rw[ho];simp[Instr.makeMap]
 have hR':=hR.upd (d:=d) hnew;unfold Oper.wp;rw[hrun];show K (a.put o.dst _) _;rw[hd];exact hK _ _ (hk w.heap.size B w0 ok0 ok (fun id=>if id / 8=d then ⟨some w.heap.size,0,0⟩ else σ id) _ _ hR' Q hQ)
theorem z78 {id:Nat} {ops:Array Oper} {s:St} {J:Exit→St→Prop} (S:Nat→St) (m:List Bool) (ids:List Nat) (h:XL P ops ops.toList s (fun s'=>∃b,s'.keep m ids=S b)) (hj:∀b,J .normal (S b)):V P (.region id ops false) s J:=by
 refine zMl fun B w0 ok0 ok σ a w hR Q hQ=>?_
 refine h _ _ _ _ _ _ _ hR Q fun s' a' w' ok' σ' hs hR'=>?_
 obtain⟨b,hs⟩:=hs;exact hQ _ a' w' ok' σ' (hj b) (by rw[←hs];exact hR'.le (zHq m ids s'))
theorem z0a {id:Nat} {ops:Array Oper} {y:Code} {s:St} {J:Exit→St→Prop} (S:Nat→St) (m:List Bool) (ids:List Nat) (h:XL P ops ops.toList s (fun s'=>∃b,s'.keep m ids=S b)) (hv:∀b,V P y (S b) J):V P (.seq (.region id ops false) y) s J:=zDK (z78 S m ids h hv)
theorem z7b {B:Fr} {w0:World} {ok0 ok:Nat→Prop} {σ:Nat→Loc} {s:St} {a:Act} {w:World} (hR:R B w0 ok0 ok σ s a w) (id id2 j:Nat) {b:Nat} {kvs:List (Value×Value)} {cs:List Tr} (he:s.ent id=some (.mp b kvs)) (h2:s.ent id2=some (.box cs)) (hj:cs[j]?=some (.v (.map (some b)))):
  R B w0 ok0 (fun g=>ok g∨g=b) σ ⟨s.T,setE id2 (.box (cs.set j (.mp kvs))) (rmE id s.E)⟩ a w:=by
 have hup:∀g,ok g→ok g∨g=b:=fun g hg=>.inl hg;obtain⟨hb1,es,clock,hb2,hb3⟩:=hR.core.ent id _ he;have hbb:=hR.core.blk id _ b he hb1;have hne:id2≠id:=fun e=>by rw[e,he]at h2;cases h2
 have hrm:(rmE id s.E).lookup id2=some (.box cs):=by rw[zC3,if_neg hne];exact h2
 have look:∀j e,(St.mk s.T (setE id2 (.box (cs.set j (.mp kvs))) (rmE id s.E))).ent j=some e→True:=fun _ _ _=>trivial;have lk:∀i e,(setE id2 (.box (cs.set j (.mp kvs))) (rmE id s.E)).lookup i=some e→(i=id2∧e=.box (cs.set j (.mp kvs)))∨(i≠id2∧i≠id∧s.ent i=some e):=by
  intro i e hi;rw[zBY id2 _ _ _ hrm]at hi;by_cases h:i=id2
  ·rw[if_pos h]at hi;exact .inl ⟨h,by simpa using hi.symm⟩
  ·rw[if_neg h,zC3]at hi;split at hi
   ·cases hi
   ·rename_i hn;exact .inr ⟨h,hn,hi⟩
 refine⟨⟨hR.core.len,fun g hg=>?_,hR.core.lib.mono hup (fun _ _=>rfl),fun t=>(hR.core.tmp t).mono0 hup fun _ _=>rfl,fun i e hi=>?_,fun i e g hi hg=>?_,fun i k e f g hi hk h1 h3=>?_⟩,hR.defers,hR.below,hR.base,fun g hg=>.inl (hR.old g hg),fun g hg=>?_,fun i e g hi hg=>?_⟩
 ·rcases hg with hg|hg
  ·exact hR.core.okL g hg
  ·rw[hg];exact hbb.2
 ·rcases lk i e hi with⟨rfl,rfl⟩|⟨_,_,h5⟩
  ·obtain⟨g,arr,T,g1,g2,g3⟩:=hR.core.ent _ _ h2;refine⟨g,arr,T,g1,g2,?_⟩;have hr:=g3.mono hup (fun _ _=>rfl:∀g,ok g→w.heap[g]?=w.heap[g]?);obtain⟨u,hu1,hu2⟩:=g3.get j _ hj;have huv:u=.map (some b):=by cases hu2;rfl
   subst huv;have hnew:Rd (fun g=>ok g∨g=b) w (.mp kvs) (.map (some b)):=by
    rw[←hb3];exact .mp b es clock (.inr rfl) hb2
   have hset:=hr.set j hnew;have:arr.toList.set j (.map (some b))=arr.toList:=by
    apply List.ext_getElem?;intro q;rw[List.getElem?_set];split
    ·rename_i hq;subst hq;split
     ·exact hu1.symm
     ·rename_i hlt;rw[List.getElem?_eq_none (by omega)]
    ·rfl
   rwa [this]at hset
  ·exact (hR.core.ent i e h5).mono hup (fun _ _=>rfl) fun _ _=>rfl
 ·have key:∃e0,s.ent i=some e0∧i≠id:=by
   rcases lk i e hi with⟨rfl,rfl⟩|⟨_,h4,h5⟩
   ·exact⟨_,h2,hne⟩
   ·exact⟨e,h5,h4⟩
  obtain⟨e0,k1,k2⟩:=key;obtain⟨h3,h4⟩:=hR.core.blk i e0 g k1 hg;refine⟨fun h5=>?_,h4⟩;rcases h5 with h5|h5
  ·exact h3 h5
  ·exact k2 (hR.core.inj _ _ _ _ _ k1 he (by rw[hg,h5]) hb1)
 ·have key:∀i e,(setE id2 (.box (cs.set j (.mp kvs))) (rmE id s.E)).lookup i=some e→∃e0,s.ent i=some e0:=by
   intro i e hi;rcases lk i e hi with⟨rfl,rfl⟩|⟨_,h4,h5⟩
   ·exact⟨_,h2⟩
   ·exact⟨e,h5⟩
  obtain⟨e0,k1⟩:=key i e hi;obtain⟨f0,k2⟩:=key k f hk;exact hR.core.inj i k e0 f0 g k1 k2 h1 h3
 ·rcases hg with hg|hg
  ·exact hR.fresh g hg
  ·have:=hR.own id _ b he hb1;rw[if_neg (fun hc=>by cases hc)]at this;exact .inr (by rw[hg];exact this)
 ·rcases lk i e hi with⟨rfl,rfl⟩|⟨_,_,h5⟩
  ·have h6:B.n g:=hR.own _ _ g h2 hg;exact h6
  ·exact hR.own i e g h5 hg
theorem z1U {c:Code} {s s1:St} {J:Exit→St→Prop} (id id2 j:Nat) {b:Nat} {kvs:List (Value×Value)} {cs:List Tr} (he:s.ent id=some (.mp b kvs)) (h2:s.ent id2=some (.box cs)) (hj:cs[j]?=some (.v (.map (some b)))) (hs:(⟨s.T,setE id2 (.box (cs.set j (.mp kvs))) (rmE id s.E)⟩:St)=s1) (h:V P c s1 J):V P c s J:=by
 subst hs;exact fun _ _ _ _ _ _ _ hR=>h _ _ _ _ _ _ _ (z7b hR id id2 j he h2 hj)
end
section
variable {P:Program}
theorem z4F {B:Fr} {w0:World} {ok0 ok:Nat→Prop} {σ:Nat→Loc} {s:St} {a:Act} {w:World} (hR:R B w0 ok0 ok σ s a w) {id e sz n:Nat} {els:List (List Tr)} (he:s.ent id=some (.arr e sz els)) (hn:n≤els.length):
  R B w0 ok0 ok (fun j=>if j=id then ⟨(σ id).blk,n,(σ id).cap⟩ else σ j) ⟨zBW id s.T,setE id (.arr e sz (els.take n)) s.E⟩ a w:=by
 obtain⟨h0,hln,hs,vs,hown,hrd⟩:=hR.core.ent id _ he;have look:=zBY id (.arr e sz (els.take n)) s.E _ he;have lk:∀j f,(St.mk (zBW id s.T) (setE id (.arr e sz (els.take n)) s.E)).ent j=some f→(j=id∧f=.arr e sz (els.take n))∨(j≠id∧s.ent j=some f):=by
  intro j f hj;have h7:(setE id (.arr e sz (els.take n)) s.E).lookup j=some f:=hj;rw[look]at h7;by_cases hji:j=id
  ·rw[if_pos hji]at h7;exact .inl ⟨hji,by simpa using h7.symm⟩
  ·rw[if_neg hji]at h7;exact .inr ⟨hji,h7⟩
 refine⟨⟨by simpa [zE2] using hR.core.len,hR.core.okL,hR.core.lib,fun t=>?_,fun i f hi=>?_,fun i f g hi hg=>?_,fun i i2 f f2 g hi hi2 h1 h2=>?_⟩,hR.defers,hR.below,hR.base,hR.old,hR.fresh,fun i f g hi hg=>?_⟩
 ·have e0:(St.mk (zBW id s.T) (setE id (.arr e sz (els.take n)) s.E)).get t=(bif (s.get t).mid id then AV.bot else s.get t):=by
   unfold St.get;exact zGK id s.T t
  rw[e0];cases hmm:(s.get t).mid id with
  |true=>trivial
  |false=>exact (hR.core.tmp t).mid id (fun _ h=>h) (fun _ _=>rfl) hmm (fun j hj=>by simp[hj])
 ·rcases lk i f hi with⟨rfl,rfl⟩|⟨h1,h2⟩
  ·simp only[if_true];refine⟨h0,by simp;omega,fun el hel=>hs el (List.mem_of_mem_take hel),vs.take (n*sz),⟨?_,?_⟩,?_⟩
   ·have hl:=hown.1;rw[List.length_take,List.length_take,hl,Nat.min_eq_left hn,Nat.min_eq_left (Nat.mul_le_mul_right _ hn)]
   ·rcases hown.2 with⟨h5,h6⟩|⟨g,cap,cur,h5,h6,h7,h8,h9,h10,h11⟩
    ·left;unfold zE at h5 ⊢;injection h5 with q1 q2 q3;refine⟨?_,by rw[List.length_take];omega⟩;simp only[q1,q3];rw[show n=0 by omega]
    ·right;unfold zE at h5 ⊢;injection h5 with q1 q2 q3;refine⟨g,cap,cur,?_,h6,h7,by rw[List.length_take];omega,h9,h10,?_⟩
     ·simp only[q1,q3,List.length_take,Nat.min_eq_left hn]
     ·rw[List.length_take,Nat.min_eq_left hn,←h11,List.take_take,Nat.min_eq_left (Nat.mul_le_mul_right _ hn)]
   ·have e1:(els.take n).flatten=els.flatten.take (n*sz):=by
     have:=zF4 (els.take n) sz (fun el hel=>hs el (List.mem_of_mem_take hel));rw[List.length_take,Nat.min_eq_left hn]at this;have e2:els.flatten=(els.take n).flatten++(els.drop n).flatten:=by rw[←List.flatten_append,List.take_append_drop]
     rw[e2,List.take_left' this]
    rw[e1];exact hrd.take _
  ·simp only[if_neg h1];exact hR.core.ent i f h2
 ·rcases lk i f hi with⟨rfl,rfl⟩|⟨h1,h2⟩
  ·simp only[if_true]at hg;exact hR.core.blk _ _ _ he hg
  ·simp only[if_neg h1]at hg;exact hR.core.blk _ _ _ h2 hg
 ·rcases lk i f hi with⟨a1,_⟩|⟨a1,a2⟩<;>rcases lk i2 f2 hi2 with⟨b1,_⟩|⟨b1,b2⟩
  ·rw[a1,b1]
  ·simp only[a1,if_true]at h1;simp only[if_neg b1]at h2;rw[a1];exact hR.core.inj _ _ _ _ _ he b2 h1 h2
  ·simp only[b1,if_true]at h2;simp only[if_neg a1]at h1;rw[b1];exact hR.core.inj _ _ _ _ _ a2 he h1 h2
  ·simp only[if_neg a1]at h1;simp only[if_neg b1]at h2;exact hR.core.inj _ _ _ _ _ a2 b2 h1 h2
 ·rcases lk i f hi with⟨rfl,rfl⟩|⟨h1,h2⟩
  ·simp only[if_true]at hg;have h7:=hR.own _ _ _ he hg;rw[if_neg (fun hc=>by cases hc)]at h7 ⊢;exact h7
  ·simp only[if_neg h1]at hg;exact hR.own _ _ _ h2 hg
theorem z3u {o:Oper} {s:St} {x y:Operand} {t e d id sz:Nat} {n:Int} {els:List (List Tr)} (ht:P.underlying t=some (.slice e)) (hsz:(P.info? e).map (·.size)=some sz) (ho:o.op=.slice t x none (some y) none) (hd:o.dst=some d)
  (hx:s.ev x=.ow id) (he:s.ent id=some (.arr e sz els)) (hy:s.ev y=I n) (hn:0≤n∧n≤(els.length:Int)):X P o s ⟨(zBW id s.T).set d (.ow id),setE id (.arr e sz (els.take n.toNat)) s.E⟩:=by
 intro B w0 ok0 ok σ a w hR K Q hK;have h3:=hR.core.ev x;rw[hx]at h3;have h4:a.eval x=zE (σ id):=h3;have h5:a.eval y=.int .i64 n:=hR.core.exact hy;obtain⟨h0,hln,hs,vs,hown,hrd⟩:=hR.core.ent id _ he;have hle:(σ id).n≤(σ id).cap:=by
  rcases hown.2 with⟨hv,hv0⟩|⟨g,cap,cur,hv,_,_,hnc,_⟩
  ·omega
  ·unfold zE at hv;injection hv with _ q1 q2;omega
 have hbounds:∀w,(Instr.sliceBounds true (σ id).n (σ id).cap none (some (.int .i64 n)) none).run P w=.ok (0,n.toNat,(σ id).cap) w:=by
  intro w;unfold Instr.sliceBounds;simp only[Sem.run_bind,Sem.run_pure,Result.andThen_ok,zHM (P:=P) (k:=.i64) (n:=n) (y:=(σ id).cap) (by omega) (by omega)]
 cases hii:P.info? e with
 |none=>rw[hii]at hsz;cases hsz
 |some i=>
  have hi2:i.size=sz:=by rw[hii]at hsz;simpa using hsz
  have hR2:=z4F hR he (n:=n.toNat) (by omega);have hrun:(execOp a.eval o).run P w=.ok (.value (zE ⟨(σ id).blk,n.toNat,(σ id).cap⟩)) w:=by
   unfold execOp;rw[ho];unfold zE at h4 ⊢;cases hb:(σ id).blk<;>rw[hb]at h4<;>simp[h4,h5,Instr.sliceAt,Instr.slice,run_underlying ht,hbounds,sizeOf,typeInfo,hii,hi2,Addr.add]
  unfold Oper.wp;rw[hrun];have h6:=hR2.put (d:=d) (av:=.ow id) (v:=zE ⟨(σ id).blk,n.toNat,(σ id).cap⟩) (by show _=zE _;simp);simp only[Oper.upon,hd];exact hK _ _ _ _ h6
theorem z1Q {α:Type} {c:α→List Tr} {xs:List α} {o:Oper} {s:St} {x y:Operand} {t e d id sz:Nat} {n:Int} (ht:P.underlying t=some (.slice e)) (hsz:(P.info? e).map (·.size)=some sz) (ho:o.op=.slice t x none (some y) none) (hd:o.dst=some d)
  (hx:s.ev x=.ow id) (he:s.ent id=some (.arr e sz (xs.map c))) (hy:s.ev y=I n) (hn:slc xs.length 0 n=some ()):X P o s ⟨(zBW id s.T).set d (.ow id),setE id (.arr e sz ((subl xs 0 n).map c)) s.E⟩:=by
 have h:=zI7 hn;have e1:(subl xs 0 n).map c=(xs.map c).take n.toNat:=by
  unfold subl;rw[show Int.toNat 0=0 from rfl,List.drop_zero,Nat.sub_zero,List.map_take]
 rw[e1];exact z3u ht hsz ho hd hx he hy (by rw[List.length_map];omega)
end
section
variable {P:Program}
theorem V_gen {α:Type} {c:Code} {s:St} {J:Exit→St→Prop} (S:α→St) (g:α) (h0:s=S g) (h:∀g,V P c (S g) J):V P c s J:=by
 rw[h0];exact h g
theorem zYW {B:Fr} {w0:World} {ok0 ok:Nat→Prop} {σ:Nat→Loc} {s:St} {a:Act} {w:World} (hR:R B w0 ok0 ok σ s a w) (k T sz:Nat) (hk:s.ent k=none) (hz:0<sz):
  R B w0 ok0 ok (fun i=>if i=k then loc0 else σ i) ⟨zBW k s.T,(k,.qarr loc0 T sz [])::s.E⟩ a w:=by
 have lk:∀i e,(St.mk (zBW k s.T) ((k,.qarr loc0 T sz [])::s.E)).ent i=some e→(i=k∧e=.qarr loc0 T sz [])∨(i≠k∧s.ent i=some e):=by
  intro i e hi;unfold St.ent at hi;simp only[List.lookup]at hi;cases hik:(i==k) with
  |true=>rw[hik]at hi;exact .inl ⟨by simpa using hik,by simpa using hi.symm⟩
  |false=>rw[hik]at hi;exact .inr ⟨by simpa using hik,hi⟩
 refine⟨⟨by simpa [zE2] using hR.core.len,hR.core.okL,hR.core.lib,fun t=>?_,fun i e hi=>?_,fun i e g hi hg=>?_,fun i i2 e f2 g hi hi2 h1 h2=>?_⟩,hR.defers,hR.below,hR.base,hR.old,hR.fresh,fun i e g hi hg=>?_⟩
 ·have e0:(St.mk (zBW k s.T) ((k,.qarr loc0 T sz [])::s.E)).get t=(bif (s.get t).mid k then AV.bot else s.get t):=by
   unfold St.get;exact zGK k s.T t
  rw[e0];cases hm:(s.get t).mid k with
  |true=>trivial
  |false=>exact (hR.core.tmp t).mid k (fun _ h=>h) (fun _ _=>rfl) hm (fun i hi=>by simp[hi])
 ·rcases lk i e hi with⟨rfl,rfl⟩|⟨h1,h2⟩
  ·simp only[if_true];exact⟨rfl,hz,rfl,(by intro el h;cases h),[],World.ownsRow_nil w 0 _ sz,RdL.nil⟩
  ·simp only[if_neg h1];exact hR.core.ent i e h2
 ·rcases lk i e hi with⟨rfl,rfl⟩|⟨h1,h2⟩
  ·simp only[if_true]at hg;cases hg
  ·simp only[if_neg h1]at hg;exact hR.core.blk i e g h2 hg
 ·rcases lk i e hi with⟨a1,_⟩|⟨a1,a2⟩<;>rcases lk i2 f2 hi2 with⟨b1,_⟩|⟨b1,b2⟩
  ·rw[a1,b1]
  ·simp only[a1,if_true]at h1;cases h1
  ·simp only[b1,if_true]at h2;cases h2
  ·simp only[if_neg a1]at h1;simp only[if_neg b1]at h2;exact hR.core.inj _ _ _ _ _ a2 b2 h1 h2
 ·rcases lk i e hi with⟨rfl,rfl⟩|⟨h1,h2⟩
  ·simp only[if_true]at hg;cases hg
  ·simp only[if_neg h1]at hg;exact hR.own i e g h2 hg
theorem z4A {c:Code} {s:St} {J:Exit→St→Prop} (k T sz:Nat) (hk:s.ent k=none) (hz:0<sz) (h:V P c ⟨zBW k s.T,(k,.qarr loc0 T sz [])::s.E⟩ J):V P c s J:=fun _ _ _ _ _ _ _ hR=>h _ _ _ _ _ _ _ (zYW hR k T sz hk hz)
theorem zGm {B:Fr} {w0:World} {ok0 ok:Nat→Prop} {σ:Nat→Loc} {s:St} {a:Act} {w:World} (hR:R B w0 ok0 ok σ s a w) {k t:Nat} {e e':Ent} {av:AV} (he:s.ent k=some e) (hok:zAT ok w (σ k) e→zAT ok w (σ k) e') (hp:e'.pin=e.pin) (hav:Rel ok σ w av (a.tmps.getD t undef)):
  R B w0 ok0 ok σ ⟨s.T.set t av,setE k e' s.E⟩ a w:=by
 have look:=zBY k e' s.E e he;have lk:∀i f,(setE k e' s.E).lookup i=some f→(i=k∧f=e')∨(i≠k∧s.ent i=some f):=by
  intro i f hi;rw[look]at hi;by_cases h:i=k
  ·rw[if_pos h]at hi;exact .inl ⟨h,by simpa using hi.symm⟩
  ·rw[if_neg h]at hi;exact .inr ⟨h,hi⟩
 refine⟨⟨by simpa using hR.core.len,hR.core.okL,hR.core.lib,fun u=>?_,fun i f hi=>?_,fun i f g hi hg=>?_,fun i i2 f f2 g hi hi2 h1 h2=>?_⟩,hR.defers,hR.below,hR.base,hR.old,hR.fresh,fun i f g hi hg=>?_⟩
 ·have e0:=zCC s t u av;unfold St.put at e0;have e1:(St.mk (s.T.set t av) (setE k e' s.E)).get u=if t=u∧t<s.T.length then av else s.get u:=e0;rw[e1];split
  ·rename_i h;rw[←h.1];exact hav
  ·exact hR.core.tmp u
 ·rcases lk i f hi with⟨rfl,rfl⟩|⟨h1,h2⟩
  ·exact hok (hR.core.ent _ _ he)
  ·exact hR.core.ent i f h2
 ·rcases lk i f hi with⟨rfl,rfl⟩|⟨h1,h2⟩
  ·exact hR.core.blk _ _ g he hg
  ·exact hR.core.blk i f g h2 hg
 ·have key:∀i f,(setE k e' s.E).lookup i=some f→∃f0,s.ent i=some f0:=by
   intro i f hi;rcases lk i f hi with⟨rfl,_⟩|⟨_,h⟩
   ·exact⟨_,he⟩
   ·exact⟨_,h⟩
  obtain⟨f0,k1⟩:=key i f hi;obtain⟨f3,k2⟩:=key i2 f2 hi2;exact hR.core.inj _ _ _ _ g k1 k2 h1 h2
 ·rcases lk i f hi with⟨rfl,rfl⟩|⟨h1,h2⟩
  ·rw[hp];exact hR.own _ _ g he hg
  ·exact hR.own i f g h2 hg
theorem z1T {ops:Array Oper} {rest:List Oper} {s:St} {J:St→Prop} (t k:Nat) {l:Loc} {T sz:Nat} {els:List (List Tr)} (ht:s.get t=.c (.v (zE l))) (hk:s.ent k=some (.qarr l T sz els)) (h:XL P ops rest ⟨s.T.set t (.ow k),setE k (.arr T sz els) s.E⟩ J):XL P ops rest s J:=by
 intro B w0 ok0 ok σ a w hR Q hQ;refine h _ _ _ _ _ _ _ (zGm hR hk (fun h=>h.2) rfl ?_) Q hQ;have h1:=hR.core.tmp t;rw[ht]at h1;have h2:Rd ok w (.v (zE l)) (a.tmps.getD t undef):=h1;have h3:=(hR.core.ent k _ hk).1;show _=zE (σ k);rw[h3];generalize a.tmps.getD t undef=y at h2;cases h2;rfl
theorem z5M {ops:Array Oper} {rest:List Oper} {s:St} {J:St→Prop} (t k:Nat) {T sz:Nat} {els:List (List Tr)} (ht:s.get t=.ow k) (hk:s.ent k=some (.arr T sz els)) (h:∀l:Loc,XL P ops rest ⟨s.T.set t (.c (.v (zE l))),setE k (.qarr l T sz els) s.E⟩ J):XL P ops rest s J:=by
 intro B w0 ok0 ok σ a w hR Q hQ;have h1:=hR.core.tmp t;rw[ht]at h1;have h2:a.tmps.getD t undef=zE (σ k):=h1;refine h (σ k) _ _ _ _ _ _ _ (zGm hR hk (fun h=>⟨rfl,h⟩) rfl ?_) Q hQ;rw[h2];exact Rd.v _ rfl
theorem zLY {α:Type} {id:Nat} {ops:Array Oper} {s:St} {J:Exit→St→Prop} (S:α→St) (m:List Bool) (ids:List Nat) (h:XL P ops ops.toList s (fun s'=>∃b,s'.keep m ids=S b)) (hj:∀b,J .normal (S b)):V P (.region id ops false) s J:=by
 refine zMl fun B w0 ok0 ok σ a w hR Q hQ=>?_
 refine h _ _ _ _ _ _ _ hR Q fun s' a' w' ok' σ' hs hR'=>?_
 obtain⟨b,hs⟩:=hs;exact hQ _ a' w' ok' σ' (hj b) (by rw[←hs];exact hR'.le (zHq m ids s'))
theorem zDr {α:Type} {id:Nat} {ops:Array Oper} {y:Code} {s:St} {J:Exit→St→Prop} (S:α→St) (m:List Bool) (ids:List Nat) (h:XL P ops ops.toList s (fun s'=>∃b,s'.keep m ids=S b)) (hv:∀b,V P y (S b) J):V P (.seq (.region id ops false) y) s J:=zDK (zLY S m ids h hv)
theorem z77 {α β γ:Type} {q:α ⊕ β} {c:Code} {s:St} {S:α→γ→St} {J:Exit→St→Prop} (m:List Bool) (ids:List Nat) (h1:V P c s (zO6 (fun s'=>∃o,q=.inl o∧∃g,s'.keep m ids=S o g) J)) (h2:∀o,q=.inl o→∀g,J .normal (S o g)):V P c s J:=by
 intro B w0 ok0 ok σ a w hR;refine wp_mono (h1 _ _ _ _ _ _ _ hR) ?_
 rintro e a' w' ⟨s',ok',σ',hJ,hR'⟩;cases e with
 |normal=>
  obtain⟨o,ho,g,hk⟩:∃o,q=.inl o∧∃g,s'.keep m ids=S o g:=hJ;have h3:=h2 o ho g;rw[←hk]at h3;exact⟨_,ok',σ',h3,hR'.le (zHq m ids s')⟩
 |exit id=>exact⟨s',ok',σ',hJ,hR'⟩
 |goto l=>exact⟨s',ok',σ',hJ,hR'⟩
 |ret=>exact⟨s',ok',σ',hJ,hR'⟩
 |panic ch=>exact⟨s',ok',σ',hJ,hR'⟩
 |outgrown=>exact⟨s',ok',σ',hJ,hR'⟩
theorem z4G {B:Fr} {w0:World} {ok0 ok:Nat→Prop} {σ:Nat→Loc} {s:St} {a:Act} {w:World} (hR:R B w0 ok0 ok σ s a w) (k id2 j:Nat) {l:Loc} {T sz:Nat} {els:List (List Tr)} {cs:List Tr} (he:s.ent k=some (.qarr l T sz els)) (h2:s.ent id2=some (.box cs)) (hj:cs[j]?=some (.v (zE l))):
  R B w0 ok0 (fun g=>ok g∨(σ k).blk=some g) σ ⟨s.T,setE id2 (.box (cs.set j (.sl els))) (rmE k s.E)⟩ a w:=by
 have hup:∀g,ok g→ok g∨(σ k).blk=some g:=fun g hg=>.inl hg;have hl:σ k=l:=(hR.core.ent k _ he).1;have hne:id2≠k:=fun e=>by rw[e,he]at h2;cases h2
 have hrm:(rmE k s.E).lookup id2=some (.box cs):=by rw[zC3,if_neg hne];exact h2
 have lk:∀i e,(setE id2 (.box (cs.set j (.sl els))) (rmE k s.E)).lookup i=some e→(i=id2∧e=.box (cs.set j (.sl els)))∨(i≠id2∧i≠k∧s.ent i=some e):=by
  intro i e hi;rw[zBY id2 _ _ _ hrm]at hi;by_cases h:i=id2
  ·rw[if_pos h]at hi;exact .inl ⟨h,by simpa using hi.symm⟩
  ·rw[if_neg h,zC3]at hi;split at hi
   ·cases hi
   ·rename_i hn;exact .inr ⟨h,hn,hi⟩
 -- the row,read
 have hread:Rd (fun g=>ok g∨(σ k).blk=some g) w (.sl els) (zE l):=by
  have hR1:=zGm (t:=s.T.length) (av:=.bot) hR he (fun h=>h.2) (e':=.arr T sz els) rfl trivial;have hk1:(St.mk (s.T.set s.T.length .bot) (setE k (.arr T sz els) s.E)).ent k=some (.arr T sz els):=by
   have:=zBY k (.arr T sz els) s.E _ he k;rw[if_pos rfl]at this;exact this
  have hle:Le ⟨[],[(k,.arr T sz els)]⟩ ⟨s.T.set s.T.length .bot,setE k (.arr T sz els) s.E⟩:=⟨Nat.zero_le _,fun t=>.inl (by simp[St.get]),fun i e hi=>by
   unfold St.ent at hi;simp only[List.lookup]at hi;split at hi
   ·rename_i hik;have:i=k:=by simpa using hik
    subst this;injection hi with hi;subst hi;exact hk1
   ·cases hi⟩
  have h1:Rel ok σ w (.ow k) (zE (σ k)):=rfl;have h3:=zLr (hR1.le hle).core h1;have e2:zI6 ⟨[],[(k,.arr T sz els)]⟩ (.ow k)=.c (.sl els):=by
   simp[zI6,St.entc,St.ent,List.lookup,Ent.core]
  rw[e2,hl]at h3;have h4:Rel (fun g=>ok g∨(σ k).blk=some g) σ w (.c (.sl els)) (zE l):=by
   refine h3.mono0 (fun g hg=>?_) fun _ _=>rfl;rcases hg with hg|⟨i,e,hi,hg⟩
   ·exact .inl hg
   ·refine .inr ?_
    unfold St.ent at hi;simp only[List.lookup]at hi;split at hi
    ·rename_i hik;have:i=k:=by simpa using hik
     subst this;exact hg
    ·cases hi
  exact h4
 refine⟨⟨hR.core.len,fun g hg=>?_,hR.core.lib.mono hup (fun _ _=>rfl),fun t=>(hR.core.tmp t).mono0 hup fun _ _=>rfl,fun i e hi=>?_,fun i e g hi hg=>?_,fun i i2 e f g hi hk h1 h3=>?_⟩,hR.defers,hR.below,hR.base,fun g hg=>.inl (hR.old g hg),fun g hg=>?_,fun i e g hi hg=>?_⟩
 ·rcases hg with hg|hg
  ·exact hR.core.okL g hg
  ·exact (hR.core.blk k _ g he hg).2
 ·rcases lk i e hi with⟨rfl,rfl⟩|⟨_,_,h5⟩
  ·obtain⟨g,arr,T',g1,g2,g3⟩:=hR.core.ent _ _ h2;refine⟨g,arr,T',g1,g2,?_⟩;have hr:=g3.mono hup (fun _ _=>rfl:∀g,ok g→w.heap[g]?=w.heap[g]?);obtain⟨u,hu1,hu2⟩:=g3.get j _ hj;have huv:u=zE l:=by
    generalize zE l=v at hu2;cases hu2;rfl
   subst huv;have hset:=hr.set j hread;have:arr.toList.set j (zE l)=arr.toList:=by
    apply List.ext_getElem?;intro q;rw[List.getElem?_set];split
    ·rename_i hq;subst hq;split
     ·exact hu1.symm
     ·rename_i hlt;rw[List.getElem?_eq_none (by omega)]
    ·rfl
   rwa [this]at hset
  ·exact (hR.core.ent i e h5).mono hup (fun _ _=>rfl) fun _ _=>rfl
 ·have key:∃e0,s.ent i=some e0∧i≠k:=by
   rcases lk i e hi with⟨rfl,rfl⟩|⟨_,h4,h5⟩
   ·exact⟨_,h2,hne⟩
   ·exact⟨e,h5,h4⟩
  obtain⟨e0,k1,k2⟩:=key;obtain⟨h3,h4⟩:=hR.core.blk i e0 g k1 hg;refine⟨fun h5=>?_,h4⟩;rcases h5 with h5|h5
  ·exact h3 h5
  ·exact k2 (hR.core.inj _ _ _ _ _ k1 he hg h5)
 ·have key:∀i e,(setE id2 (.box (cs.set j (.sl els))) (rmE k s.E)).lookup i=some e→∃e0,s.ent i=some e0:=by
   intro i e hi;rcases lk i e hi with⟨rfl,rfl⟩|⟨_,h4,h5⟩
   ·exact⟨_,h2⟩
   ·exact⟨e,h5⟩
  obtain⟨e0,k1⟩:=key i e hi;obtain⟨f0,k2⟩:=key i2 f hk;exact hR.core.inj i i2 e0 f0 g k1 k2 h1 h3
 ·rcases hg with hg|hg
  ·exact hR.fresh g hg
  ·have:=hR.own k _ g he hg;rw[if_neg (fun hc=>by cases hc)]at this;exact .inr this
 ·rcases lk i e hi with⟨rfl,rfl⟩|⟨_,_,h5⟩
  ·have h6:B.n g:=hR.own _ _ g h2 hg;exact h6
  ·exact hR.own i e g h5 hg
theorem z79 {c:Code} {s s1:St} {J:Exit→St→Prop} (k id2 j:Nat) {l:Loc} {T sz:Nat} {els:List (List Tr)} {cs:List Tr} (he:s.ent k=some (.qarr l T sz els)) (h2:s.ent id2=some (.box cs)) (hj:cs[j]?=some (.v (zE l))) (hs:(⟨s.T,setE id2 (.box (cs.set j (.sl els))) (rmE k s.E)⟩:St)=s1) (h:V P c s1 J):V P c s J:=by
 subst hs;exact fun _ _ _ _ _ _ _ hR=>h _ _ _ _ _ _ _ (z4G hR k id2 j he h2 hj)
theorem zQV {c:Code} {s s1:St} {J:Exit→St→Prop} (id j:Nat) {cs:List Tr} (he:s.ent id=some (.box cs)) (hj:cs[j]?=some (.v (.slice none 0 0))) (hs:(⟨s.T,setE id (.box (cs.set j (.sl []))) s.E⟩:St)=s1) (h:V P c s1 J):V P c s J:=by
 subst hs;intro B w0 ok0 ok σ a w hR;have e0:s.T.set s.T.length .bot=s.T:=List.set_eq_of_length_le (Nat.le_refl _);have hR1:=zGm (t:=s.T.length) (av:=.bot) hR he (e':=.box (cs.set j (.sl []))) (fun h=>by
  obtain⟨g,arr,T',g1,g2,g3⟩:=h;refine⟨g,arr,T',g1,g2,?_⟩;obtain⟨u,hu1,hu2⟩:=g3.get j _ hj;have huv:u=.slice none 0 0:=by cases hu2;rfl
  subst huv;have hset:=g3.set j (Rd.nl (ok:=ok) (w:=w) none 0);have:arr.toList.set j (.slice none 0 0)=arr.toList:=by
   apply List.ext_getElem?;intro q;rw[List.getElem?_set];split
   ·rename_i hq;subst hq;split
    ·exact hu1.symm
    ·rename_i hlt;rw[List.getElem?_eq_none (by omega)]
   ·rfl
  rwa [this]at hset) rfl trivial
 rw[e0]at hR1;exact h _ _ _ _ _ _ _ hR1
end
def pFF (x:Nat):Bool:=(x != 45)&&(decide (x<48)||decide (57<x))
theorem z5w:pOf zBR=pFF:=by
 funext x
 unfold pOf pFF zBR;simp only[za,Option.getD_some,jD,zG];have e:((x:Int)==45)=(x==45):=by rw[Bool.eq_iff_iff,beq_iff_eq,beq_iff_eq];omega
 have e1:decide ((x:Int)<48)=decide (x<48):=by rw[decide_eq_decide];omega
 have e2:decide ((57:Int)<(x:Int))=decide (57<x):=by rw[decide_eq_decide];omega
 rw[e,e1,e2];cases h1:(x==45)<;>cases h2:decide (x<48)<;>cases h3:decide (57<x)<;>simp_all [bne]
theorem zVr (x:Nat):pFF x=(((x:Int) != 45)&&(decide ((x:Int)<48)||decide (57<(x:Int)))):=by
 unfold pFF;have e:((x:Int) != 45)=(x != 45):=by rw[Bool.eq_iff_iff,bne_iff_ne,bne_iff_ne];omega
 have e1:decide ((x:Int)<48)=decide (x<48):=by rw[decide_eq_decide];omega
 have e2:decide ((57:Int)<(x:Int))=decide (57<x):=by rw[decide_eq_decide];omega
 rw[e,e1,e2]
theorem z3K (W:World):∃q,W=W.drewN q:=⟨0,rfl⟩
theorem z2u (w:World):Go.Proofs.PredAt Tryz.prog 197 #[] (fun x:Nat=>Value.int .i32 (x:Int)) pFF w:=by
 intro W x hb;unfold Go.Proofs.FnGives
 go_enter Tryz.func197,Tryz.ntmps197
 go_wp2
 ·rename_i h
  go_ret
  refine⟨?_,z3K W⟩;rw[zVr,h];rfl
 ·go_ret
  refine⟨?_,z3K W⟩;rw[zVr];rfl
 ·rename_i h1 h2
  go_ret
  refine⟨?_,z3K W⟩;rw[zVr,zd h2,Bool.true_or,Bool.and_true];rfl
theorem zGw {s:ByteArray} {r:List ByteArray} (h:zAs (pOf zBR) s=some r):zD Tryz.prog 196 [.c (.v (.string s)),.c (.v (.func (.func 197) #[] #[]))] (.ow 0) [(0,.arr 9 1 (r.map cStr))]:=by
 rw[z5w]at h;exact zVi (jE Tryz.func197 (by kernel_rfl) (by kernel_rfl)) z2u h
end Go.Proofs.YtahdjphocippeaaGreatDoor
namespace Go.Proofs.YtahdjphocippeaaGreatDoor
open Go.RowKit Go.Proofs Go.Lib Go.Shelf
set_option maxHeartbeats 2000000
set_option maxRecDepth 100000
structure Bd (B b:Nat) (v:Value) (bs:List Value) (w:World):Prop where
  base:B≤b
  cell:∃p,(p=.pointer none∨p=.pointer (some ⟨b,0,none⟩))∧w.heap[b]?=some (.cells #[p,v] 76 (0,0))
  own:w.ownsRow B 5 1 v bs.length bs
  ne:v.ownBlock≠some b
structure BdW (b:Nat) (v v':Value) (w w':World):Prop where
  os:w'.os=w.os
  tape:w'.tape=w.tape
  output:w'.output=w.output
  size:w.heap.size≤w'.heap.size
  block:∀k,k<w.heap.size→k≠b→v.ownBlock≠some k→w'.heap[k]?=w.heap[k]?
  own:∀g,v'.ownBlock=some g→v.ownBlock=some g∨w.heap.size≤g
theorem Bd.lt {B b:Nat} {v:Value} {bs:List Value} {w:World} (h:Bd B b v bs w):b<w.heap.size:=by
 obtain⟨p,_,h2⟩:=h.cell;rcases Nat.lt_or_ge b w.heap.size with h'|h'
 ·exact h'
 ·simp[Array.getElem?_eq_none h']at h2
end Go.Proofs.YtahdjphocippeaaGreatDoor
namespace Go.Proofs.YtahdjphocippeaaGreatDoor
open Go.RowKit
section
variable (P:Program)
def ybin (op:BinOp):AV→AV→Option AV
 | .c (.v (.int k a)),.c (.v (.int k2 b))=>match decEq k k2 with
  |isTrue _=>(match op with
   | .lss=>some (Bo (ltI a b))
   | .leq=>some (Bo (leI a b))
   | .gtr=>some (Bo (ltI b a))
   | .geq=>some (Bo (leI b a))
   | .eql=>some (Bo (eqI a b))
   | .neq=>some (Bo (!eqI a b))
   |_=>none)
  |isFalse _=>none
 | .c (.v (.string a)),.c (.v (.string b))=>match op with
  | .eql=>some (Bo (a.toList==b.toList))
  | .neq=>some (Bo (!(a.toList==b.toList)))
  |_=>none
 |_,_=>none
def yv (s:St):Op→Option AV
 | .binOp op t x y _=>match ybin op (s.ev x) (s.ev y) with
  |some av=>some av
  |none=>(match s.ev x,s.ev y with
   | .c (.v (.bool a)),.c (.v (.bool b))=>(match P.underlying t with
    |some .bool=>(match op with
     | .eql=>some (Bo (a==b))
     | .neq=>some (Bo (a != b))
     |_=>none)
    |_=>none)
   |_,_=>none)
 | .pick c x y=>match s.ev c with
  | .c (.v (.bool b))=>nbA (bif b then s.ev x else s.ev y)
  |_=>none
 | .call c=>match c with
  |⟨.builtin .len,⟨[x]⟩,⟨[t]⟩⟩=>match P.underlying t,s.ev x with
   |some .string,.c (.v (.string b))=>some (I (b.size:Int))
   |_,_=>none
  |_=>none
 |_=>none
def yo (o:Oper) (s:St):Option St:=match xo P o s with
 |some s'=>some s'
 |none=>match o.dst with
  |some d=>(match yv P s o.op with
   |some av=>some (s.put d av)
   |none=>none)
  |none=>none
def gdt (ops:Array Oper) (j:Nat):Option Nat:=(ops[j]?).bind (·.dst)
def yg (ops:Array Oper) (o:Oper) (s:St):Option Bool:=match o.guard with
 |none=>some true
 |some (j,b)=>match gdt ops j with
  |some t=>match s.get t with
   | .c (.v (.bool c))=>some (bif c then b else !b)
   | .tn=>some false
   |_=>none
  |none=>none
end
section
variable {P:Program}
theorem z4O {o:Oper} {s:St} {op:BinOp} {t t2:TypeId} {x y:Operand} {av:AV} (ho:o.op=.binOp op t x y t2) (h:ybin op (s.ev x) (s.ev y)=some av):Y0 P o s av:=by
 generalize hx:s.ev x=a at h;generalize hy:s.ev y=b at h;unfold ybin at h;split at h
 ·split at h
  ·rename_i hk _;subst hk;cases op<;>simp only[Option.some.injEq,reduceCtorEq]at h<;>subst h<;>
    first|exact zHz ho hx hy|exact zZ0 ho hx hy|exact zG4 ho hx hy|exact zZ1 ho hx hy|exact zOU ho hx hy|exact zS2 ho hx hy
  ·cases h
 ·cases op<;>simp only[Option.some.injEq,reduceCtorEq]at h<;>subst h<;>
   first|exact zZ2 ho hx hy|exact z7O ho hx hy
 ·cases h
theorem z5T {o:Oper} {s:St} {av:AV} (h:yv P s o.op=some av):Y0 P o s av:=by
 unfold yv at h;split at h
 ·rename_i ho;split at h
  ·rename_i hb;cases h;exact z4O ho hb
  ·split at h
   ·rename_i hx hy;split at h
    ·rename_i hu;split at h
     ·cases h;exact z71 hu ho hx hy
     ·cases h;exact z7P hu ho hx hy
     ·cases h
    ·cases h
   ·cases h
 ·rename_i ho;split at h
  ·rename_i b hc;obtain⟨h1,h2⟩:=zVx h;rw[←h1];exact zMj ho hc
  ·cases h
 ·rename_i ho;split at h
  ·rename_i x t;split at h
   ·rename_i b hu hx;cases h;exact zWi hu ho hx
   ·cases h
  ·cases h
 ·cases h
theorem yo_ok {o:Oper} {s s':St} (h:yo P o s=some s'):X P o s s':=by
 unfold yo at h;split at h
 ·rename_i h1;cases h;exact xo_ok h1
 ·split at h
  ·rename_i d hd;split at h
   ·rename_i hv;cases h;exact zB hd (z5T hv)
   ·cases h
  ·cases h
theorem zH3 {ops:Array Oper} {o:Oper} {rest:List Oper} {s s':St} {J:St→Prop} (hg:yg ops o s=some true) (h:X P o s s') (hk:XL P ops rest s' J):XL P ops (o::rest) s J:=by
 unfold yg at hg;split at hg
 ·rename_i h1;exact zQ h1 h hk
 ·rename_i j b h1;split at hg
  ·rename_i t ht;split at hg
   ·rename_i c hc;have e:c=b:=by cases c<;>cases b<;>simp_all
    subst e;exact z06 h1 ht hc h hk
   ·cases hg
   ·cases hg
  ·cases hg
theorem z4N {ops:Array Oper} {o:Oper} {rest:List Oper} {s:St} {d:Nat} {J:St→Prop} (hg:yg ops o s=some false) (hd:o.dst=some d) (hk:XL P ops rest (s.put d .tn) J):XL P ops (o::rest) s J:=by
 unfold yg at hg;split at hg
 ·cases hg
 ·rename_i j b h1;split at hg
  ·rename_i t ht;split at hg
   ·rename_i c hc;exact zWm h1 ht hc (by cases c<;>cases b<;>simp_all) hd hk
   ·rename_i hc;exact qE h1 ht hc hd hk
   ·cases hg
  ·cases hg
theorem zZr (s:St) (t:Nat):s.put t (s.get t)=s:=by
 cases s with
 |mk T E=>
  simp only[St.put,St.get];congr 1;apply List.ext_getElem?;intro i;rw[List.getElem?_set];by_cases h:t=i
  ·subst h;by_cases h2:t<T.length
   ·simp[h2]
   ·simp[h2]
  ·simp[h]
abbrev CfW (P:Program) (f:FuncId):Prop:=∀args w,(callFunc f args).run P w=.ok (.enter f args) w
theorem cfW {f:FuncId} {fn:Func} (hf:P.funcs[f]?=some fn) (hn:(fn.name== "runtime.NumGoroutine")=false:=by kernel_rfl) (hb:fn.body.isNone=false:=by kernel_rfl):CfW P f:=jE hf hn hb
def zv (P:Program) (s:St) (op:Op):Option AV:=match xv P s op with
 |some av=>some av
 |none=>yv P s op
theorem zv_ok {o:Oper} {s:St} {av:AV} (h:zv P s o.op=some av):Y0 P o s av:=by
 unfold zv at h;split at h
 ·rename_i hx;cases h;exact z5U hx
 ·exact z5T h
theorem zMT {l:List Oper} {o:Oper} {S:St} (h:yg l.toArray o S=some true):gsat l.toArray o S:=by
 unfold yg at h;split at h
 ·rename_i h1;exact jC h1
 ·rename_i j b h1;split at h
  ·rename_i t ht;split at h
   ·rename_i c hc;have e:c=b:=by cases c<;>cases b<;>simp_all
    subst e;exact z0u h1 ht hc
   ·cases h
   ·cases h
  ·cases h
theorem z6G {l:List Oper} {o:Oper} {S:St} (h:yg l.toArray o S=some false):gun l.toArray o S:=by
 unfold yg at h;split at h
 ·cases h
 ·rename_i j b h1;split at h
  ·rename_i t ht;split at h
   ·rename_i c hc;exact z2i h1 ht hc (by cases c<;>cases b<;>simp_all)
   ·rename_i hc;exact z6H h1 ht hc
   ·cases h
  ·cases h
section
variable (P)
def er1 (l:List Oper) (ms:List Nat) (n1:Nat) (css:List (List Cd)) (s0:St) (rs:List Res):Option (List Res):=match l[rs.length]?,css[rs.length]? with
 |some o,some c=>bif Nat.blt rs.length n1 then (match yg l.toArray o (appC c (l.take n1) rs s0),o.dst with
  |some true,some _=>(match zv P (appC c (l.take n1) rs s0) o.op with
   |some av=>bif zGW ms rs.length av 0 (l.take n1) then some (rs++[.r0 av]) else none
   |none=>match xn P (appC c (l.take n1) rs s0) o.op with
    |some r=>bif zHR r.2&&(makes o&&r.1.small) then some (rs++[.r1 r.1 r.2]) else none
    |none=>none)
  |some false,some _=>some (rs++[.r0 .tn])
  |some true,none=>dr2 P l ms n1 css rs (appC c (l.take n1) rs s0) o.op
  |_,_=>none) else none
 |_,_=>none
end
theorem z6u {l:List Oper} {ms:List Nat} {n1:Nat} {css:List (List Cd)} {s0:St} {rs rs':List Res} {K:St→Prop} (h:er1 P l ms n1 css s0 rs=some rs') (hk:DL P l ms n1 css s0 rs' K):DL P l ms n1 css s0 rs K:=by
 unfold er1 at h;split at h
 ·rename_i o c ho hc;cases hb:Nat.blt rs.length n1 with
  |false=>rw[hb,zc]at h;cases h
  |true=>
   rw[hb,zb]at h;split at h
   ·rename_i d hg hd;split at h
    ·rename_i av hv;cases hm:zGW ms rs.length av 0 (l.take n1) with
     |false=>rw[hm,zc]at h;cases h
     |true=>
      rw[hm,zb]at h;cases h;exact DE_0 rs.length av rfl hb ho hc (zMT hg) hm (zv_ok hv) d hd hk
    ·split at h
     ·rename_i r hr;cases hm:zHR r.2&&(makes o&&r.1.small) with
      |false=>rw[hm,zc]at h;cases h
      |true=>
       rw[hm,zb]at h;cases h;rw[zj,zj]at hm;exact DE_1 rs.length rfl hb ho hc (zMT hg) (z5V hr) hm.1 hm.2.1 hm.2.2 d hd hk
     ·cases h
   ·rename_i d hg hd;cases h;exact DL_t (Nat.le_of_ble_eq_true hb) ho hc (z6G hg) ⟨d,hd⟩ hk
   ·rename_i hg hd;unfold dr2 at h;split at h
    ·rename_i t x y hop;split at h
     ·rename_i id off vc hx hy;split at h
      ·rename_i cs he;cases hm:(zDu P t==some vc.length)&&Nat.ble (off+vc.length) cs.length&&(zOm rs.length id css&&(mkOk ms rs.length id 0 (l.take n1)&&zHs id rs)) with
       |false=>rw[hm,zc]at h;cases h
       |true=>
        rw[hm,zb]at h;cases h;rw[zj,zj,zj,zj,beq_iff_eq]at hm;exact DE_2 rs.length id _ rfl hb ho hc (zMT hg) hop hd hx he hy hm.1.1 (Nat.le_of_ble_eq_true hm.1.2) rfl hm.2.1 hm.2.2.1 hm.2.2.2 hk
      ·cases h
     ·cases h
    ·cases h
   ·cases h
 ·cases h
theorem E0 (j:Nat) {l:List Oper} {ms:List Nat} {n1:Nat} {css:List (List Cd)} {s0:St} {rs:List Res} {K:St→Prop} {o:Oper} {c:List Cd} {av:AV} (ho:l[j]?=some o) (hc:css[j]?=some c) (hY:Y0 P o (appC c (l.take n1) rs s0) av) (h:DL P l ms n1 css s0 (rs++[.r0 av]) K)
  (hj:rs.length=j:=by kernel_rfl) (hlt:Nat.blt j n1=true:=by kernel_rfl) (hg:yg l.toArray o (appC c (l.take n1) rs s0)=some true:=by kernel_rfl) (hm:zGW ms j av 0 (l.take n1)=true:=by kernel_rfl) (hd:o.dst.isSome=true:=by kernel_rfl):DL P l ms n1 css s0 rs K:=by
 obtain⟨d,hd⟩:=Option.isSome_iff_exists.mp hd;exact DE_0 j av hj hlt ho hc (zMT hg) hm hY d hd h
theorem E1 (j:Nat) {l:List Oper} {ms:List Nat} {n1:Nat} {css:List (List Cd)} {s0:St} {rs:List Res} {K:St→Prop} {o:Oper} {c:List Cd} {av:AV} {ne:List (Nat×Ent)} (ho:l[j]?=some o) (hc:css[j]?=some c) (hY:Y1 P o (appC c (l.take n1) rs s0) av ne) (h:DL P l ms n1 css s0 (rs++[.r1 av ne]) K)
  (hj:rs.length=j:=by kernel_rfl) (hlt:Nat.blt j n1=true:=by kernel_rfl) (hg:yg l.toArray o (appC c (l.take n1) rs s0)=some true:=by kernel_rfl) (h1:zHR ne=true:=by kernel_rfl) (h2:makes o=true:=by kernel_rfl) (h3:av.small=true:=by kernel_rfl) (hd:o.dst.isSome=true:=by kernel_rfl):DL P l ms n1 css s0 rs K:=by
 obtain⟨d,hd⟩:=Option.isSome_iff_exists.mp hd;exact DE_1 j hj hlt ho hc (zMT hg) hY h1 h2 h3 d hd h
def idT (t:Nat):List Oper→Nat→Nat
 |[],_=>0
 |o::os,k=>match o.dst with
  |some d=>bif Nat.beq d t then k else idT t os (k+1)
  |none=>idT t os (k+1)
def gtD (l:List Oper) (rs:List Res):Nat:=match l[rs.length]? with
 |some o=>(match o.guard with
  |some (j,_)=>j
  |none=>match o.op with
   | .pick (.tmp t) _ _=>idT t l 0
   |_=>0)
 |none=>0
theorem EQ {c v:Bool} (hc:c=v) {l:List Oper} {ms:List Nat} {n1:Nat} {css:List (List Cd)} {s0:St} {rs:List Res} {K:St→Prop} (hk:DL P l ms n1 css s0 (rs.set (gtD l rs) (.r0 (Bo v))) K) (h:rs[gtD l rs]?=some (.r0 (Bo c)):=by kernel_rfl):DL P l ms n1 css s0 rs K:=by
 subst hc;have e:rs.set (gtD l rs) (.r0 (Bo c))=rs:=by
  apply List.ext_getElem?;intro i;rw[List.getElem?_set];by_cases hi:gtD l rs=i
  ·subst hi;have hlt:gtD l rs<rs.length:=by
    by_cases h2:gtD l rs<rs.length
    ·exact h2
    ·rw[List.getElem?_eq_none (by omega)]at h;cases h
   rw[if_pos rfl,if_pos hlt,h]
  ·rw[if_neg hi]
 rwa [e]at hk
end
end Go.Proofs.YtahdjphocippeaaGreatDoor
namespace Go.Proofs.YtahdjphocippeaaGreatDoor
open Go.RowKit Go.Proofs Go.Lib Go.Shelf
set_option maxRecDepth 100000
def bp (b:Nat):AV:=.c (.v (.pointer (some ⟨b,0,none⟩)))
structure RB (B:Fr) (w0:World) (ok0 ok:Nat→Prop) (σ:Nat→Loc) (b:Nat) (l:List UInt8) (s:St) (a:Act) (w:World):Prop where
  ex:∃w1 ok1 v,R ⟨fun g=>w1.heap.size≤g,fun _=>False⟩ w1 ok1 ok σ s a w∧Bd b b v (byteCells l) w1∧BelowX B w0 w1∧(∀g,b≤g→B.n g)∧(∀g,ok0 g→ok1 g)∧(∀g,ok1 g→ok0 g∨B.n g)∧¬ok1 b∧(∀g,v.ownBlock=some g→¬ok1 g)∧(∀g,ok0 g→g<b)∧(∀p,p∈TB→p.1<b)
theorem Bd.ownlt {B b:Nat} {v:Value} {bs:List Value} {w:World} (h:Bd B b v bs w) {g:Nat} (hg:v.ownBlock=some g):B≤g∧g<w.heap.size:=by
 rcases h.own.2 with⟨e,_⟩|⟨g2,cap,cur,e,h1,h2,_⟩
 ·rw[e]at hg;cases hg
 ·rw[e]at hg;injection hg with hg;have hg:g2=g:=hg;subst hg;refine⟨h1,?_⟩;rcases Nat.lt_or_ge g2 w.heap.size with h'|h'
  ·exact h'
  ·simp[Array.getElem?_eq_none h']at h2
theorem Bd.keep {B b:Nat} {v:Value} {bs:List Value} {w w':World} (h:Bd B b v bs w) (hw:∀k,k<w.heap.size→w'.heap[k]?=w.heap[k]?):Bd B b v bs w':=by
 obtain⟨p,p1,p2⟩:=h.cell;refine⟨h.base,⟨p,p1,by rw[hw b h.lt];exact p2⟩,⟨h.own.1,?_⟩,h.ne⟩;rcases h.own.2 with e|⟨g,cap,cur,e,h1,h2,h3⟩
 ·exact .inl e
 ·refine .inr ⟨g,cap,cur,e,h1,?_,h3⟩;rw[hw g (h.ownlt (by rw[e];rfl)).2];exact h2
variable {P:Program}
theorem RB.to {B:Fr} {w0:World} {ok0 ok:Nat→Prop} {σ:Nat→Loc} {b:Nat} {l:List UInt8} {s:St} {a:Act} {w:World} (h:RB B w0 ok0 ok σ b l s a w):R B w0 ok0 ok σ s a w:=by
 obtain⟨w1,ok1,v,hR,hb,h1,h2,h3,h4,h5,h6,h7,h8⟩:=h.ex;have hlt:=hb.lt;have hbe:w1.heap.size≤w.heap.size:=hR.base _ (Nat.le_refl _);refine⟨hR.core,hR.defers,h1.trans ⟨hR.below.os,hR.below.tape,hR.below.output,hR.below.size,fun k hk _=>hR.below.block k (fun hle=>hk (h2 k (by have hle:w1.heap.size≤k:=hle;omega))) (fun x=>x)⟩,fun g hg=>h2 g (by omega),fun g hg=>hR.old g (h3 g hg),fun g hg=>?_,fun id e g he hg=>?_⟩
 ·rcases hR.fresh g hg with h9|h9
  ·exact h4 g h9
  ·have h9:w1.heap.size≤g:=h9;exact .inr (h2 g (by omega))
 ·have:=hR.own id e g he hg;split at this
  ·exact this.elim
  ·rename_i hp;rw[if_neg hp];have this:w1.heap.size≤g:=this;exact h2 g (by omega)
theorem RB.le {B:Fr} {w0:World} {ok0 ok:Nat→Prop} {σ:Nat→Loc} {b:Nat} {l:List UInt8} {s s':St} {a:Act} {w:World} (h:RB B w0 ok0 ok σ b l s a w) (hl:Le s' s):RB B w0 ok0 ok σ b l s' a w:=by
 obtain⟨w1,ok1,v,hR,h1⟩:=h.ex;exact⟨⟨w1,ok1,v,hR.le hl,h1⟩⟩
end Go.Proofs.YtahdjphocippeaaGreatDoor
namespace Go.Proofs.YtahdjphocippeaaGreatDoor
open Go.RowKit
def amk:List Oper→List Nat→List Nat
 |[],acc=>acc
 |o::os,acc=>amk os (acc++[zOe acc o.after.toList])
def acr (ms:List Nat) (tg:List (Nat×Nat)) (i n:Nat):Nat→List Cd
 |0=>[]
 |k+1=>(bif (ms.getD i 0).testBit (n - (k+1)) then Cd.a else bif Nat.beq (n - (k+1)) i||(ms.getD (n - (k+1)) 0).testBit i then Cd.z else match tg.lookup (n - (k+1)) with
  |some id=>Cd.r id
  |none=>Cd.b)::acr ms tg i n k
def acs (ms:List Nat) (tg:List (Nat×Nat)) (n:Nat):Nat→List (List Cd)
 |0=>[]
 |k+1=>acr ms tg (n - (k+1)) n n::acs ms tg n k
section
variable {P:Program}
end
inductive OT:Type 1
  |ok
  |bad
  |eq {α:Type} (a b:α) (k:OT)
  |and (a b:OT)
  |all {α:Type} (f:α→OT)
def OT.holds:OT→Prop
 | .ok=>True
 | .bad=>False
 | .eq a b k=>a=b∧k.holds
 | .and a b=>a.holds∧b.holds
 | .all f=>∀x,(f x).holds
def OT.rf:OT→OT
 | .ok=>.ok
 | .bad=>.ok
 | .eq a _ k=>.eq a a k.rf
 | .and a b=>.and a.rf b.rf
 | .all f=>.all fun x=>(f x).rf
theorem OT.of_rf:∀t:OT,t=t.rf→t.holds
 | .ok,_=>trivial
 | .bad,h=>by cases h
 | .eq a b k,h=>by
  simp only[OT.rf]at h;injection h with _ _ h2 h3;exact⟨(eq_of_heq (heq_of_eq h2)).symm,OT.of_rf k h3⟩
 | .and a b,h=>by
  simp only[OT.rf]at h;injection h with h1 h2;exact⟨OT.of_rf a h1,OT.of_rf b h2⟩
 | .all f,h=>fun x=>by
  simp only[OT.rf]at h;injection h with _ h1;exact OT.of_rf (f x) (congrFun h1 x)
section
variable (P:Program)
structure N0 where
  chk:Oper→St→OT
  av:Oper→St→AV
  ok:∀o s,(chk o s).holds→Y0 P o s (av o s)
structure N1 where
  chk:Oper→St→OT
  av:Oper→St→AV
  ne:Oper→St→List (Nat×Ent)
  ok:∀o s,(chk o s).holds→Y1 P o s (av o s) (ne o s)
inductive NN
  |z (F:N0 P)
  |o (F:N1 P)
structure F0 (α:Type) where
  m:Option α
  chk:Oper→St→OT
  av:Oper→St→α→AV
  ok:∀o s y,m=some y→(chk o s).holds→Y0 P o s (av o s y)
structure F1 (α:Type) where
  m:Option α
  chk:Oper→St→OT
  av:Oper→St→α→AV
  ne:Oper→St→α→List (Nat×Ent)
  ok:∀o s y,m=some y→(chk o s).holds→Y1 P o s (av o s y) (ne o s y)
def XS (o:Oper) (s:St) (J:St→Prop):Prop:=
 ∀B w0 ok0 ok σ a w,R B w0 ok0 ok σ s a w→∀K Q,(∀s' a' w' ok' σ',J s'→R B w0 ok0 ok' σ' s' a' w'→K a' w')→o.wp P a w K Q
structure FX (α:Type) where
  m:Option α
  run:Oper→St→α→(St→OT)→OT
  post:(Nat→Loc)→Oper→St→α→Option St:=fun _ _ _ _=>none
  ok:∀o s K y,m=some y→(run o s y K).holds→XS P o s (fun s'=>(K s').holds)
structure HT where
  run:St→(St→OT)→OT
  post:St→Option St:=fun _=>none
  ok:∀s K,(run s K).holds→∀B w0 ok0 ok σ a w,R B w0 ok0 ok σ s a w→∃s' ok' σ',(K s').holds∧R B w0 ok0 ok' σ' s' a w
inductive Lf (ι o β:Type)
  |again (x:ι)
  |done (y:o)
  |early (r:β)
def kpE (E:List (Nat×Ent)):List Nat→List (Nat×Ent)
 |[]=>[]
 |i::is=>match E.lookup i with
  |some e=>(i,e)::kpE E is
  |none=>kpE E is
def St.kp (s:St) (m:List Bool) (ids:List Nat):St:=⟨zGg m s.T,kpE s.E ids⟩
def setL (T:List AV):List (Nat×AV)→List AV
 |[]=>T
 |p::ps=>setL (T.set p.1 p.2) ps
def St.pc (s:St) (m:List Bool) (ids:List Nat) (ts:List (Nat×AV)) (es:List (Nat×Ent)):St:=⟨setL (zGg m s.T) ts,kpE (es++s.E) ids⟩
def St.pbx (s:St) (id:Nat) (cs:List Tr):Ent:=match s.ent id with
 |some (.pbox l _)=>.pbox l cs
 |_=>.box cs
def St.locs (s:St) (id:Nat):Loc:=match s.ent id with
 |some (.qarr l _ _ _)=>l
 |_=>loc0
inductive T:Type→Type 1
  |ret {β:Type} (y:β):T β
  |fail {β:Type}:T β
  |n0 {β:Type} (F:N0 P) (t:T β):T β
  |n1 {β:Type} (F:N1 P) (t:T β):T β
  |op0 {α β:Type} (F:F0 P α) (k:α→T β):T β
  |op1 {α β:Type} (F:F1 P α) (k:α→T β):T β
  |opx {α β:Type} (F:FX P α) (k:α→T β):T β
  |op1o {α β:Type} (F:F1 P (Option α)) (a:T β) (k:α→T β):T β
  |cond {β:Type} (c:Bool) (a b:T β):T β
  |selB {β:Type} (c w:Bool) (ns:List (NN P)) (k:Bool→T β):T β
  |lit {β:Type} (t:T β):T β
  |pl {β:Type} (t:T β):T β
  |dn {β:Type} (t:T β):T β
  |frc {β:Type} (v:Int) (k:Int→T β):T β
  |lt {α β:Type} (v:α) (k:α→T β):T β
  |bnd {α β:Type} (m:Option α) (k:α→T β):T β
  |hint {β:Type} (H:HT) (t:T β):T β
  |late {β:Type} (H:HT) (t:T β):T β
  |seqT {α β:Type} (t:T α) (k:α→T β):T β
  |join {α β:Type} (t:T α) (m:List Bool) (ids:List Nat) (S:St→α→(Nat→Loc)→St) (k:α→T β):T β
  |joinC {α β:Type} (t:T α) (m:List Bool) (ids:List Nat) (S:St→α→(Nat→Loc)→St) (k:α→T β):T β
  |joinS {α γ β:Type} (t:T (α ⊕ γ)) (m:List Bool) (ids:List Nat) (S:St→α→(Nat→Loc)→St) (er:γ→β) (k:α→T β):T β
  |loop {ι o β:Type} (L:Nat→ι→Option o) (x:ι) (m:List Bool) (ids:List Nat) (S:St→ι→(Nat→Loc)→St) (body:ι→T (ι ⊕ o)) (mo:List Bool) (ido:List Nat) (So:St→o→(Nat→Loc)→St) (k:o→T β):T β
  |loopS {ι o γ β:Type} (L:Nat→ι→Option (o ⊕ γ)) (x:ι) (m:List Bool) (ids:List Nat) (S:St→ι→(Nat→Loc)→St) (body:ι→T (Lf ι o γ)) (mo:List Bool) (ido:List Nat) (So:St→o→(Nat→Loc)→St) (er:γ→β) (k:o→T β):T β
  |unroll {β:Type} (n:Nat) (t:T β):T β
  |draw {β:Type} (n1:Nat) (tg:List (Nat×Nat)) (t:T β):T β
  |drawL {β:Type} (au:List Nat) (t:T β):T β
  |drawM {β:Type} (gh:Bool) (n1:Nat) (masks:List Nat) (au:List Nat) (t:T β):T β
def lk {ι o:Type} (L:Nat→ι→Option o) (n:Nat):ι ⊕ o→Option o
 | .inl x=>L n x
 | .inr y=>some y
def lkS {ι o γ:Type} (L:Nat→ι→Option (o ⊕ γ)) (n:Nat):Lf ι o γ→Option (o ⊕ γ)
 | .again x=>L n x
 | .done y=>some (.inl y)
 | .early r=>some (.inr r)
end
def elS {α γ ρ:Type} (q:α ⊕ γ) (f:α→ρ) (g:γ→ρ):ρ:=match q with
 | .inl y=>f y
 | .inr r=>g r
section
variable {P:Program}
theorem zDq {o:Oper} {s s':St} {J:St→Prop} (h:X P o s s') (hJ:J s'):XS P o s J:=fun _ _ _ _ _ _ _ hR K Q hK=>h _ _ _ _ _ _ _ hR K Q fun a' w' ok' σ' hR'=>hK s' a' w' ok' σ' hJ hR'
theorem z5L {ops:Array Oper} {o:Oper} {rest:List Oper} {s:St} {I J:St→Prop} (hg:o.guard=none) (h:XS P o s I) (hk:∀s',I s'→XL P ops rest s' J):XL P ops (o::rest) s J:=by
 intro B w0 ok0 ok σ a w hR Q hQ;refine wpList_plain hg fun K hK=>?_
 exact h _ _ _ _ _ _ _ hR K Q fun s' a' w' ok' σ' hI hR'=>hK _ _ (hk s' hI _ _ _ _ _ _ _ hR' Q hQ)
theorem z5K {ops:Array Oper} {o:Oper} {rest:List Oper} {s:St} {I J:St→Prop} {j t:Nat} {b:Bool} (hg:o.guard=some (j,b)) (ht:(ops[j]?).bind (·.dst)=some t) (hb:s.get t=.c (.v (.bool b)))
  (h:XS P o s I) (hk:∀s',I s'→XL P ops rest s' J):XL P ops (o::rest) s J:=by
 intro B w0 ok0 ok σ a w hR Q hQ;refine wpList_step fun K hK=>?_
 have h1:=hR.core.tmp t;rw[hb]at h1;have h2:a.tmps.getD t undef=.bool b:=by
  have h3:Rd ok w (.v (.bool b)) (a.tmps.getD t undef):=h1;generalize a.tmps.getD t undef=y at*;cases h3;rfl
 have hw:Region.wanted o (yielded ops a.tmps)=true:=by
  have h4:a.tmps[t]?=some (.bool b):=by
   rw[Array.getD_eq_getD_getElem?]at h2;cases h5:a.tmps[t]? with
   |none=>rw[h5]at h2;simp[undef]at h2
   |some y=>rw[h5]at h2;simpa using h2
  simp only[Region.wanted,hg,yielded,ht,za,h4];simp
 rw[if_pos hw];exact h _ _ _ _ _ _ _ hR K Q fun s' a' w' ok' σ' hI hR'=>hK _ _ (hk s' hI _ _ _ _ _ _ _ hR' Q hQ)
theorem z1X {ops:Array Oper} {o:Oper} {rest:List Oper} {s:St} {I J:St→Prop} (hg:yg ops o s=some true) (h:XS P o s I) (hk:∀s',I s'→XL P ops rest s' J):XL P ops (o::rest) s J:=by
 unfold yg at hg;split at hg
 ·rename_i h1;exact z5L h1 h hk
 ·rename_i j b h1;split at hg
  ·rename_i t ht;split at hg
   ·rename_i c hc;have e:c=b:=by cases c<;>cases b<;>simp_all
    subst e;exact z5K h1 ht hc h hk
   ·cases hg
   ·cases hg
  ·cases hg
def T.den:{β:Type}→T P β→{ρ:Type}→(β→Option ρ)→Option ρ
 |_,.ret y,_,k=>k y
 |_,.fail,_,_=>none
 |_,.n0 _ t,_,k=>t.den k
 |_,.n1 _ t,_,k=>t.den k
 |_,.op0 F f,_,k=>F.m.bind fun y=>(f y).den k
 |_,.op1 F f,_,k=>F.m.bind fun y=>(f y).den k
 |_,.opx F f,_,k=>F.m.bind fun y=>(f y).den k
 |_,.op1o F a f,_,k=>F.m.bind fun y=>elO y (a.den k) fun x=>(f x).den k
 |_,.cond c a b,_,k=>bif c then a.den k else b.den k
 |_,.selB c _ _ f,_,k=>(f c).den k
 |_,.lit t,_,k=>t.den k
 |_,.pl t,_,k=>t.den k
 |_,.dn t,_,k=>t.den k
 |_,.frc v f,_,k=>sI v fun y=>(f y).den k
 |_,.lt v f,_,k=>(some v).bind fun y=>(f y).den k
 |_,.bnd m f,_,k=>m.bind fun y=>(f y).den k
 |_,.hint _ t,_,k=>t.den k
 |_,.late _ t,_,k=>t.den k
 |_,.seqT t f,_,k=>(t.den some).bind fun y=>(f y).den k
 |_,.join t _ _ _ f,_,k=>(t.den some).bind fun y=>(f y).den k
 |_,.joinC t _ _ _ f,_,k=>t.den fun y=>(f y).den k
 |_,.joinS t _ _ _ er f,_,k=>(t.den some).bind fun q=>elS q (fun y=>(f y).den k) fun r=>k (er r)
 |_,.loop L x _ _ _ _ _ _ _ f,_,k=>(L FU x).bind fun y=>(f y).den k
 |_,.loopS L x _ _ _ _ _ _ _ er f,_,k=>(L FU x).bind fun q=>elS q (fun y=>(f y).den k) fun r=>k (er r)
 |_,.unroll _ t,_,k=>t.den k
 |_,.draw _ _ t,_,k=>t.den k
 |_,.drawL _ t,_,k=>t.den k
 |_,.drawM _ _ _ _ t,_,k=>t.den k
def sqT {α β:Type} (t:T P α) (k:α→T P β):T P β:=match t with
 | .ret a=>k a
 | .fail=>.fail
 | .n0 F t=>.n0 F (.seqT t k)
 | .n1 F t=>.n1 F (.seqT t k)
 | .op0 F f=>.op0 F fun y=>.seqT (f y) k
 | .op1 F f=>.op1 F fun y=>.seqT (f y) k
 | .opx F f=>.opx F fun y=>.seqT (f y) k
 | .cond c a b=>.cond c (.seqT a k) (.seqT b k)
 | .selB c w ns f=>.selB c w ns fun b=>.seqT (f b) k
 | .lit t=>.lit (.seqT t k)
 | .pl t=>.pl (.seqT t k)
 | .dn t=>.dn (.seqT t k)
 | .frc v f=>.frc v fun y=>.seqT (f y) k
 | .lt v f=>.lt v fun y=>.seqT (f y) k
 | .bnd m f=>.bnd m fun y=>.seqT (f y) k
 | .hint H t=>.hint H (.seqT t k)
 | .late H t=>.late H (.seqT t k)
 | .seqT t f=>.seqT t fun a=>.seqT (f a) k
 |t=>.seqT t k
theorem z5A {α ρ:Type} (v:Int) (f:Int→Option α) (g:α→Option ρ):(sI v f).bind g=sI v fun y=>(f y).bind g:=by rw[zN,zN]
theorem zVU {α β ρ:Type} (t:T P α) (k:α→T P β) (κ:β→Option ρ):(sqT t k).den κ=(t.den some).bind fun a=>(k a).den κ:=by
 cases t with
 |cond c a b=>cases c<;>rfl
 |op0 F f=>exact (Option.bind_assoc F.m _ _).symm
 |op1 F f=>exact (Option.bind_assoc F.m _ _).symm
 |opx F f=>exact (Option.bind_assoc F.m _ _).symm
 |bnd m f=>exact (Option.bind_assoc m _ _).symm
 |frc v f=>exact (z5A v _ _).symm
 |seqT t f=>exact (Option.bind_assoc (t.den some) _ _).symm
 |_=>rfl
end
section
variable (P:Program)
def wv (s:St) (o:Oper):Bool:=match o.op with
 | .indexAddr _ x (.tmp _)=>(match s.ev x with
  | .pt _ _=>false
  |_=>true)
 | .load _ x=>(match s.ev x with
  | .po _ _ _ _=>false
  |_=>true)
 | .assign (.const (.slice none 0 0))=>false
 |_=>true
def wo (o:Oper) (s:St):Option St:=bif wv s o then yo P o s else none
def dsl (ops:Array Oper) (o:Oper):Option Nat:=match o.guard with
 |some (j,_)=>gdt ops j
 |none=>match o.op with
  | .pick (.tmp t) _ _=>some t
  |_=>none
def ersO (kn:List Nat):Option Nat→List Nat
 |some d=>kn.erase d
 |none=>kn
def zXf {β:Type}:List (NN P)→T P β→T P β
 |[],t=>t
 | .z F::ns,t=>.n0 F (zXf ns t)
 | .o F::ns,t=>.n1 F (zXf ns t)
def opn {β:Type} (t:T P β) (kn:List Nat):Option Nat→Option (Nat×Bool×T P β×T P β)
 |some d=>bif kn.elem d then none else (match t with
  | .cond c a b=>some (d,c,a,b)
  | .selB c w ns f=>some (d,c,zXf P (bif w then ns else []) (f true),zXf P (bif w then [] else ns) (f false))
  |_=>none)
 |none=>none
def zO5 {β:Type} (t:T P β) (kn:List Nat):Option Nat→T P β×List Nat
 |some d=>bif kn.elem d then (t,kn) else (match t with
  | .lit t'=>(t',d::kn)
  |_=>(t,kn))
 |none=>(t,kn)
def dtn (s:St):Option Nat→Option Nat
 |some d=>(match s.get d with
  | .tn=>none
  |_=>some d)
 |none=>none
def goX:Nat→{β:Type}→T P β→List Nat→Array Oper→List Oper→St→(T P β→List Nat→St→OT)→OT
 |0,_,_,_,_,_,_,_=>.bad
 |n+1,β,t,kn,ops,rest,s,K=>match t with
  | .fail=>.ok
  | .hint H t'=>H.run s fun s'=>goX n t' kn ops rest s' K
  | .frc v k=>goX n (k v) kn ops rest s K
  | .lt v k=>goX n (k v) kn ops rest s K
  | .bnd _ k=>.all fun y=>goX n (k y) kn ops rest s K
  | .seqT t1 k=>goX n (sqT t1 k) kn ops rest s K
  |t=>match rest with
   |[]=>K t kn s
   |o::os=>match opn P t kn (dtn s (dsl ops o)) with
    |some (d,c,a,b)=>.eq (s.get d) (Bo c) (.and (goX n a (d::kn) ops rest (s.put d (Bo true)) K) (goX n b (d::kn) ops rest (s.put d (Bo false)) K))
    |none=>match zO5 P t kn (dtn s (dsl ops o)) with
     |(t,kn)=>match yg ops o s with
      |some true=>(match wo P o s with
       |some s'=>goX n t (ersO kn o.dst) ops os s' K
       |none=>match t with
        | .n0 F t'=>(match o.dst with
         |some d=>.and (F.chk o s) (goX n t' (kn.erase d) ops os (s.put d (F.av o s)) K)
         |none=>.bad)
        | .n1 F t'=>(match o.dst with
         |some d=>.and (F.chk o s) (goX n t' (kn.erase d) ops os (s.upd d (F.av o s) (F.ne o s)) K)
         |none=>.bad)
        | .op0 F k=>(match o.dst with
         |some d=>.and (F.chk o s) (.all fun y=>goX n (k y) (kn.erase d) ops os (s.put d (F.av o s y)) K)
         |none=>.bad)
        | .op1 F k=>(match o.dst with
         |some d=>.and (F.chk o s) (.all fun y=>goX n (k y) (kn.erase d) ops os (s.upd d (F.av o s y) (F.ne o s y)) K)
         |none=>.bad)
        | .late H t'=>H.run s fun s'=>goX n t' kn ops (o::os) s' K
        | .op1o F a k=>(match o.dst with
         |some d=>.and (F.chk o s) (.and (goX n a (kn.erase d) ops os (s.upd d (F.av o s none) (F.ne o s none)) K) (.all fun y=>goX n (k y) (kn.erase d) ops os (s.upd d (F.av o s (some y)) (F.ne o s (some y))) K))
         |none=>.bad)
        | .opx F k=>.all fun y=>F.run o s y fun s'=>goX n (k y) (ersO kn o.dst) ops os s' K
        |_=>.bad)
      |some false=>(match o.dst with
       |some d=>goX n t (kn.erase d) ops os (s.put d .tn) K
       |none=>.bad)
      |none=>.bad
end
section
variable {P:Program}
theorem z5N {ops:Array Oper} {rest:List Oper} {s:St} {J:St→Prop} {d:Nat} {c:Bool} (h:s.get d=Bo c) (h1:c=true→XL P ops rest (s.put d (Bo true)) J) (h2:c=false→XL P ops rest (s.put d (Bo false)) J):XL P ops rest s J:=by
 cases c with
 |true=>
  have h1:=h1 rfl;rw[←h,zZr]at h1;exact h1
 |false=>
  have h2:=h2 rfl;rw[←h,zZr]at h2;exact h2
theorem zRc (E:List (Nat×Ent)):∀(ids:List Nat) (id:Nat) (e:Ent),(kpE E ids).lookup id=some e→E.lookup id=some e
 |[],id,e,h=>by simp[kpE]at h
 |i::is,id,e,h=>by
  unfold kpE at h;split at h
  ·rename_i f hf;simp only[List.lookup]at h;split at h
   ·rename_i hq;have:id=i:=by simpa using hq
    subst this;rw[hf];exact h
   ·exact zRc E is id e h
  ·exact zRc E is id e h
theorem zXo (m:List Bool) (ids:List Nat) (s:St):Le (s.kp m ids) s:=
 ⟨zNo m s.T,fun t=>zNp m s.T t,fun id e h=>zRc s.E ids id e h⟩
theorem zYV (m:List Bool) (ids:List Nat) {c:Code} {s s1:St} {J:Exit→St→Prop} (h:s.kp m ids=s1) (hv:V P c s1 J):V P c s J:=by
 subst h;exact V_le (zXo m ids s) hv
theorem z08 {H:HT} {s:St} {K:St→OT} (h:(H.run s K).holds) {ops:Array Oper} {rest:List Oper} {J:St→Prop} (hk:∀s',(K s').holds→XL P ops rest s' J):XL P ops rest s J:=by
 intro B w0 ok0 ok σ a w hR Q hQ;obtain⟨s',ok',σ',h1,h2⟩:=H.ok s K h _ _ _ _ _ _ _ hR;exact hk s' h1 _ _ _ _ _ _ _ h2 Q hQ
theorem z4C {H:HT} {s:St} {K:St→OT} (h:(H.run s K).holds) {c:Code} {J:Exit→St→Prop} (hk:∀s',(K s').holds→V P c s' J):V P c s J:=by
 intro B w0 ok0 ok σ a w hR;obtain⟨s',ok',σ',h1,h2⟩:=H.ok s K h _ _ _ _ _ _ _ hR;exact hk s' h1 _ _ _ _ _ _ _ h2
theorem z5W {o:Oper} {s s':St} (h:wo P o s=some s'):X P o s s':=by
 unfold wo at h;cases hb:wv s o with
 |false=>rw[hb,zc]at h;cases h
 |true=>rw[hb,zb]at h;exact yo_ok h
theorem zJZ {β ρ:Type} (k:β→Option ρ) (t:T P β):∀ns:List (NN P),(zXf P ns t).den k=t.den k
 |[]=>rfl
 | .z _::ns=>zJZ k t ns
 | .o _::ns=>zJZ k t ns
theorem zR4 {β ρ:Type} {t:T P β} {kn:List Nat} {q:Option Nat} {d:Nat} {c:Bool} {a b:T P β} (h:opn P t kn q=some (d,c,a,b)) (k:β→Option ρ):t.den k=bif c then a.den k else b.den k:=by
 unfold opn at h;split at h
 ·rename_i d0;cases hb:kn.elem d0 with
  |true=>rw[hb,zb]at h;cases h
  |false=>
   rw[hb,zc]at h;split at h
   ·injection h with h;injection h with h1 h;injection h with h2 h;injection h with h3 h4;subst h2 h3 h4;rfl
   ·injection h with h;injection h with h1 h;injection h with h2 h;injection h with h3 h4;subst h2 h3 h4;rename_i c w ns f;cases c
    ·exact (zJZ k (f false) _).symm
    ·exact (zJZ k (f true) _).symm
   ·cases h
 ·cases h
theorem zNG {β ρ:Type} (t:T P β) (kn:List Nat) (q:Option Nat) (k:β→Option ρ):(zO5 P t kn q).1.den k=t.den k:=by
 unfold zO5;split
 ·rename_i d0;cases hb:kn.elem d0 with
  |true=>rfl
  |false=>
   rw[zc];split<;>rfl
 ·rfl
theorem zRq {β ρ:Type} {c:Bool} {x y:Option ρ} {r:ρ} (h:(bif c then x else y)=some r):(c=true→x=some r)∧(c=false→y=some r):=by
 cases c with
 |true=>exact⟨fun _=>h,fun h=>by cases h⟩
 |false=>exact⟨fun h=>(by cases h),fun _=>h⟩
theorem zDA:∀(n:Nat) {β:Type} (t:T P β) (kn:List Nat) (ops:Array Oper) (rest:List Oper) (s:St) (K:T P β→List Nat→St→OT),(goX P n t kn ops rest s K).holds→
  ∀{ρ:Type} (k:β→Option ρ) (r:ρ),t.den k=some r→∀J:St→Prop,(∀t' kn' s',(K t' kn' s').holds→T.den t' k=some r→J s')→XL P ops rest s J
 |0,_,_,_,_,_,_,_,h=>h.elim
 |n+1,β,t,kn,ops,rest,s,K,h=>by
  intro k r hd J hJ;unfold goX at h;split at h
  ·cases hd
  ·rename_i H t';exact z08 h fun s' hs=>zDA n t' kn ops rest s' K hs k r hd J hJ
  ·rename_i v f;have hd:sI v (fun y=>(f y).den k)=some r:=hd;rw[zN]at hd;exact zDA n (f v) kn ops rest s K h k r hd J hJ
  ·rename_i v f;exact zDA n (f v) kn ops rest s K h k r hd J hJ
  ·rename_i m f;obtain⟨y,_,h2⟩:=zV (show m.bind (fun y=>(f y).den k)=some r from hd);exact zDA n (f y) kn ops rest s K (h y) k r h2 J hJ
  ·rename_i t1 f;exact zDA n (sqT t1 f) kn ops rest s K h k r (by rw[zVU];exact hd) J hJ
  ·split at h
   ·exact zI (hJ _ _ _ h hd)
   ·rename_i o os;split at h
    ·rename_i d c a b hq;rw[zR4 hq k]at hd;obtain⟨ha,hb⟩:=zRq (β:=β) hd;exact z5N h.1 (fun hc=>zDA n a _ ops (o::os) _ K h.2.1 k r (ha hc) J hJ) (fun hc=>zDA n b _ ops (o::os) _ K h.2.2 k r (hb hc) J hJ)
    ·rename_i hnn;have hd:(zO5 P t kn (dtn s (dsl ops o))).1.den k=some r:=by rw[zNG];exact hd
     split at h;rename_i t2 kn2 hu;rw[hu]at hd;have hd:t2.den k=some r:=hd;split at h
     ·rename_i hg;split at h
      ·rename_i s' hs;exact zH3 hg (z5W hs) (zDA n _ _ ops os s' K h k r hd J hJ)
      ·split at h
       ·rename_i F t' hd;split at h
        ·rename_i d hdst;exact zH3 hg (zB hdst (F.ok o s h.1)) (zDA n t' _ ops os _ K h.2 k r hd J hJ)
        ·exact h.elim
       ·rename_i F t' hd;split at h
        ·rename_i d hdst;exact zH3 hg (zEL hdst (F.ok o s h.1)) (zDA n t' _ ops os _ K h.2 k r hd J hJ)
        ·exact h.elim
       ·rename_i F f hd;split at h
        ·rename_i d hdst;obtain⟨y,h1,h2⟩:=zV (show F.m.bind (fun y=>(f y).den k)=some r from hd);exact zH3 hg (zB hdst (F.ok o s y h1 h.1)) (zDA n (f y) _ ops os _ K (h.2 y) k r h2 J hJ)
        ·exact h.elim
       ·rename_i F f hd;split at h
        ·rename_i d hdst;obtain⟨y,h1,h2⟩:=zV (show F.m.bind (fun y=>(f y).den k)=some r from hd);exact zH3 hg (zEL hdst (F.ok o s y h1 h.1)) (zDA n (f y) _ ops os _ K (h.2 y) k r h2 J hJ)
        ·exact h.elim
       ·rename_i H t' hd;exact z08 h fun s' hs=>zDA n t' _ ops (o::os) s' K hs k r hd J hJ
       ·rename_i F t' f hd;split at h
        ·rename_i d hdst;obtain⟨y,h1,h2⟩:=zV (show F.m.bind (fun y=>elO y (t'.den k) fun x=>(f x).den k)=some r from hd);obtain⟨h3,h4,h5⟩:=h;cases y with
         |none=>exact zH3 hg (zEL hdst (F.ok o s none h1 h3)) (zDA n t' _ ops os _ K h4 k r h2 J hJ)
         |some y=>exact zH3 hg (zEL hdst (F.ok o s (some y) h1 h3)) (zDA n (f y) _ ops os _ K (h5 y) k r h2 J hJ)
        ·exact h.elim
       ·rename_i F f hd;obtain⟨y,h1,h2⟩:=zV (show F.m.bind (fun y=>(f y).den k)=some r from hd);exact z1X hg (F.ok o s _ y h1 (h y)) fun s' hs=>zDA n (f y) _ ops os s' K hs k r h2 J hJ
       ·exact h.elim
     ·rename_i hg;split at h
      ·rename_i d hdst;exact z4N hg hdst (zDA n _ _ ops os _ K h k r hd J hJ)
      ·exact h.elim
     ·exact h.elim
end
section
variable (P:Program)
def dslD (l:List Oper) (o:Oper):Option Nat:=match o.guard with
 |some (j,_)=>some j
 |none=>match o.op with
  | .pick (.tmp t) _ _=>some (idT t l 0)
  |_=>none
def opT:Operand→Option Nat
 | .tmp d=>some d
 |_=>none
def dtnD (rs:List Res):Option Nat→Option Nat
 |some d=>(match rs[d]? with
  |some (.r0 .tn)=>none
  |_=>some d)
 |none=>none
def goD:Nat→{β:Type}→T P β→List Nat→List Oper→List Nat→Nat→List (List Cd)→St→List Res→(T P β→St→OT)→OT
 |0,_,_,_,_,_,_,_,_,_,_=>.bad
 |n+1,β,t,kn,l,ms,n1,css,s0,rs,K=>match t with
  | .fail=>.ok
  | .frc v k=>goD n (k v) kn l ms n1 css s0 rs K
  | .lt v k=>goD n (k v) kn l ms n1 css s0 rs K
  | .bnd _ k=>.all fun y=>goD n (k y) kn l ms n1 css s0 rs K
  | .seqT t1 k=>goD n (sqT t1 k) kn l ms n1 css s0 rs K
  |t=>bif Nat.beq rs.length n1 then K t (fin (l.take n1) rs s0) else match l[rs.length]?,css[rs.length]? with
   |some o,some c=>match opn P t kn (dtnD rs (dslD l o)) with
    |some (d,b,t1,t2)=>.eq (rs[d]?) (some (.r0 (Bo b))) (.and (goD n t1 (d::kn) l ms n1 css s0 (rs.set d (.r0 (Bo true))) K) (goD n t2 (d::kn) l ms n1 css s0 (rs.set d (.r0 (Bo false))) K))
    |none=>match zO5 P t kn (dtnD rs (dslD l o)) with
     |(t,kn)=>match (bif wv (appC c (l.take n1) rs s0) o then er1 P l ms n1 css s0 rs else none) with
      |some rs'=>goD n t kn l ms n1 css s0 rs' K
      |none=>.eq (yg l.toArray o (appC c (l.take n1) rs s0)) (some true) (match t with
       | .n0 F t'=>.and (F.chk o (appC c (l.take n1) rs s0)) (.eq (Nat.blt rs.length n1&&(zGW ms rs.length (F.av o (appC c (l.take n1) rs s0)) 0 (l.take n1)&&o.dst.isSome)) true (goD n t' kn l ms n1 css s0 (rs++[.r0 (F.av o (appC c (l.take n1) rs s0))]) K))
       | .n1 F t'=>.and (F.chk o (appC c (l.take n1) rs s0)) (.eq (Nat.blt rs.length n1&&(zHR (F.ne o (appC c (l.take n1) rs s0))&&(makes o&&((F.av o (appC c (l.take n1) rs s0)).small&&o.dst.isSome)))) true (goD n t' kn l ms n1 css s0 (rs++[.r1 (F.av o (appC c (l.take n1) rs s0)) (F.ne o (appC c (l.take n1) rs s0))]) K))
       | .op0 F k=>.and (F.chk o (appC c (l.take n1) rs s0)) (.all fun y=>.eq (Nat.blt rs.length n1&&(zGW ms rs.length (F.av o (appC c (l.take n1) rs s0) y) 0 (l.take n1)&&o.dst.isSome)) true (goD n (k y) kn l ms n1 css s0 (rs++[.r0 (F.av o (appC c (l.take n1) rs s0) y)]) K))
       | .op1 F k=>.and (F.chk o (appC c (l.take n1) rs s0)) (.all fun y=>.eq (Nat.blt rs.length n1&&(zHR (F.ne o (appC c (l.take n1) rs s0) y)&&(makes o&&((F.av o (appC c (l.take n1) rs s0) y).small&&o.dst.isSome)))) true (goD n (k y) kn l ms n1 css s0 (rs++[.r1 (F.av o (appC c (l.take n1) rs s0) y) (F.ne o (appC c (l.take n1) rs s0) y)]) K))
       |_=>.bad)
   |_,_=>.bad
def unpl {β:Type} (t:T P β):T P β:=match t with
 | .pl t'=>t'
 |t=>t
def undn {β:Type} (t:T P β):T P β:=match t with
 | .dn t'=>t'
 |t=>t
end
section
variable (P:Program)
inductive DN:Type 1
  |aut
  |n0 (F:N0 P)
  |n1 (F:N1 P)
  |f0 {α:Type} (F:F0 P α) (y:α)
  |f1 {α:Type} (F:F1 P α) (y:α)
  |fx {α:Type} (F:FX P α) (y:α)
  |hn (H:HT) (d:DN)
def allR {α:Type}:List α→(α→OT)→OT
 |[],_=>.ok
 |i::is,g=>.and (g i) (allR is g)
end
section
variable {P:Program}
theorem zSX {α:Type} {g:α→OT}:∀(is:List α),(allR is g).holds→∀i,i∈is→(g i).holds
 |[],_,i,hi=>by cases hi
 |j::is,h,i,hi=>by
  rcases List.mem_cons.1 hi with h1|h1
  ·subst h1;exact h.1
  ·exact zSX is h.2 i h1
def DN.good:DN P→Prop
 | .f0 F y=>F.m=some y
 | .f1 F y=>F.m=some y
 | .fx F y=>F.m=some y
 | .hn _ d=>d.good
 |_=>True
def DN.run:DN P→Oper→St→(St→OT)→OT
 | .aut,o,s,K=>(match wo P o s with
  |some s'=>K s'
  |none=>.bad)
 | .n0 F,o,s,K=>(match o.dst with
  |some d=>.and (F.chk o s) (K (s.put d (F.av o s)))
  |none=>.bad)
 | .n1 F,o,s,K=>(match o.dst with
  |some d=>.and (F.chk o s) (K (s.upd d (F.av o s) (F.ne o s)))
  |none=>.bad)
 | .f0 F y,o,s,K=>(match o.dst with
  |some d=>.and (F.chk o s) (K (s.put d (F.av o s y)))
  |none=>.bad)
 | .f1 F y,o,s,K=>(match o.dst with
  |some d=>.and (F.chk o s) (K (s.upd d (F.av o s y) (F.ne o s y)))
  |none=>.bad)
 | .fx F y,o,s,K=>F.run o s y K
 | .hn H d,o,s,K=>H.run s fun s'=>d.run o s' K
theorem DN.ok:∀(d:DN P) (o:Oper) (s:St) (K:St→OT),d.good→(d.run o s K).holds→XS P o s (fun s'=>(K s').holds)
 | .aut,o,s,K,_,h=>by
  unfold DN.run at h;split at h
  ·rename_i s' hs;exact zDq (z5W hs) h
  ·exact h.elim
 | .n0 F,o,s,K,_,h=>by
  unfold DN.run at h;split at h
  ·rename_i d hd;exact zDq (zB hd (F.ok o s h.1)) h.2
  ·exact h.elim
 | .n1 F,o,s,K,_,h=>by
  unfold DN.run at h;split at h
  ·rename_i d hd;exact zDq (zEL hd (F.ok o s h.1)) h.2
  ·exact h.elim
 | .f0 F y,o,s,K,hg,h=>by
  unfold DN.run at h;split at h
  ·rename_i d hd;exact zDq (zB hd (F.ok o s y hg h.1)) h.2
  ·exact h.elim
 | .f1 F y,o,s,K,hg,h=>by
  unfold DN.run at h;split at h
  ·rename_i d hd;exact zDq (zEL hd (F.ok o s y hg h.1)) h.2
  ·exact h.elim
 | .fx F y,o,s,K,hg,h=>F.ok o s K y hg h
 | .hn H d,o,s,K,hg,h=>by
  intro B w0 ok0 ok σ a w hR K2 Q hK;obtain⟨s',ok',σ',h1,h2⟩:=H.ok s _ h _ _ _ _ _ _ _ hR;exact DN.ok d o s' K hg h1 _ _ _ _ _ _ _ h2 K2 Q hK
def zL7:List HT→DN P→DN P
 |[],d=>d
 |H::hs,d=>.hn H (zL7 hs d)
theorem zQX:∀(hs:List HT) (d:DN P),d.good→(zL7 hs d).good
 |[],_,h=>h
 |_::hs,d,h=>zQX hs d h
def goP:Nat→{β:Type}→T P β→List Nat→List HT→List (DN P)→(T P β→List (DN P)→OT)→OT
 |0,_,_,_,_,_,_=>.bad
 |f+1,β,t,au,hs,acc,K=>match au with
  |[]=>K t acc
  |b::au'=>match Nat.beq b 1 with
   |true=>goP f t au' hs (acc++[.aut]) K
   |false=>match t with
    | .hint H t'=>goP f t' au (hs++[H]) acc K
    | .late H t'=>goP f t' au (hs++[H]) acc K
    | .fail=>.ok
    |t=>match Nat.beq b 2 with
     |true=>goP f t au' [] (acc++[zL7 hs .aut]) K
     |false=>match t with
      | .n0 F t'=>goP f t' au' [] (acc++[zL7 hs (.n0 F)]) K
      | .n1 F t'=>goP f t' au' [] (acc++[zL7 hs (.n1 F)]) K
      | .op0 F k=>.all fun y=>goP f (k y) au' [] (acc++[zL7 hs (.f0 F y)]) K
      | .op1 F k=>.all fun y=>goP f (k y) au' [] (acc++[zL7 hs (.f1 F y)]) K
      | .opx F k=>.all fun y=>goP f (k y) au' [] (acc++[zL7 hs (.fx F y)]) K
      |_=>.bad
theorem zGX:∀(f:Nat) {β:Type} (t:T P β) (au:List Nat) (hs:List HT) (acc:List (DN P)) (K:T P β→List (DN P)→OT),(goP f t au hs acc K).holds→(∀d,d∈acc→d.good)→
  ∀{ρ:Type} (k:β→Option ρ) (r:ρ),t.den k=some r→∃t' ds,(∀d,d∈ds→DN.good d)∧T.den t' k=some r∧(K t' ds).holds
 |0,_,_,_,_,_,_,h=>h.elim
 |f+1,β,t,au,hs,acc,K,h=>by
  intro ha ρ k r hd;have ha2:∀d0:DN P,d0.good→∀d,d∈acc++[zL7 hs d0]→d.good:=by
   intro d0 h0 d hdm;rcases List.mem_append.1 hdm with h1|h1
   ·exact ha d h1
   ·rw[qd]at h1;subst h1;exact zQX hs d0 h0
  have ha3:∀d,d∈acc++[(DN.aut:DN P)]→d.good:=by
   intro d hdm;rcases List.mem_append.1 hdm with h1|h1
   ·exact ha d h1
   ·rw[qd]at h1;subst h1;trivial
  unfold goP at h;split at h
  ·exact⟨t,acc,ha,hd,h⟩
  ·split at h
   ·exact zGX f _ _ _ _ _ h ha3 k r hd
   ·split at h
    ·exact zGX f _ _ _ _ _ h ha k r hd
    ·exact zGX f _ _ _ _ _ h ha k r hd
    ·cases hd
    ·split at h
     ·exact zGX f _ _ _ _ _ h (ha2 _ trivial) k r hd
     ·split at h
      ·exact zGX f _ _ _ _ _ h (ha2 _ trivial) k r hd
      ·exact zGX f _ _ _ _ _ h (ha2 _ trivial) k r hd
      ·rename_i F g _ _ _;obtain⟨y,h1,h2⟩:=zV (show F.m.bind (fun y=>(g y).den k)=some r from hd);exact zGX f _ _ _ _ _ (h y) (ha2 (.f0 F y) h1) k r h2
      ·rename_i F g _ _ _;obtain⟨y,h1,h2⟩:=zV (show F.m.bind (fun y=>(g y).den k)=some r from hd);exact zGX f _ _ _ _ _ (h y) (ha2 (.f1 F y) h1) k r h2
      ·rename_i F g _ _ _;obtain⟨y,h1,h2⟩:=zV (show F.m.bind (fun y=>(g y).den k)=some r from hd);exact zGX f _ _ _ _ _ (h y) (ha2 (.fx F y) h1) k r h2
      ·exact h.elim
def goL (l:List Oper) (ms:List Nat) (ds:List (DN P)):Nat→Nat→St→(St→OT)→OT
 |0,_,_,_=>.bad
 |f+1,mask,s,K=>bif Nat.beq mask (2 ^l.length - 1) then K s else allR (zKy ms mask l.length) fun i=>match l[i]?,ds[i]? with
  |some o,some d=>(match o.guard with
   |none=>d.run o s fun s'=>goL l ms ds f (mask|||2 ^i) s' K
   |some _=>.bad)
  |_,_=>.bad
theorem zWF {l:List Oper} {ms:List Nat} {ds:List (DN P)} {K:St→OT} {Q:Exit→Act→World→Prop} {B:Fr} {w0:World} {ok0:Nat→Prop} (hc:chk1 ms l.length 0 l=true) (hds:∀d,d∈ds→d.good)
  (hQ:∀s ok σ a w,(K s).holds→R B w0 ok0 ok σ s a w→Q .normal a w):
  ∀(fuel g:Nat) (listed:Array Bool) (mask:Nat) (s:St) (ok:Nat→Prop) (σ:Nat→Loc) (a:Act) (w:World),listed.size=l.length→(∀j,listed.getD j false=mask.testBit j)→(∀j,listed.getD j false=true→∀m,(ms.getD j 0).testBit m=true→listed.getD m false=true)→
   left l.length (fun j=>listed.getD j false)≤fuel→(goL l ms ds g mask s K).holds→R B w0 ok0 ok σ s a w→wpAny P .any l.toArray Q fuel listed a w:=by
 have full:∀(listed:Array Bool) (mask:Nat),listed.size=l.length→(∀j,listed.getD j false=mask.testBit j)→(∀j,j<l.length→listed.getD j false=true)→mask=2 ^l.length - 1:=by
  intro listed mask hs hm hall;apply Nat.eq_of_testBit_eq;intro j;rw[Nat.testBit_two_pow_sub_one,←hm];by_cases hj:j<l.length
  ·rw[hall j hj];simp[hj]
  ·have:listed.getD j false=false:=by
    rw[Array.getD_eq_getD_getElem?,Array.getElem?_eq_none (by omega)];rfl
   rw[this];simp[hj]
 have done:∀(g mask:Nat) (s:St),mask=2 ^l.length - 1→(goL l ms ds g mask s K).holds→(K s).holds:=by
  intro g mask s hmask h;cases g with
  |zero=>exact h.elim
  |succ g=>
   unfold goL at h;rw[hmask,Nat.beq_refl,zb]at h;exact h
 intro fuel
 induction fuel with
 |zero=>
  intro g listed mask s ok σ a w hs hm hcl hf hl hR;have hall:=zNl (Nat.le_zero.1 hf);have hnil:Region.ready .any l.toArray listed=[]:=by
   rw[List.eq_nil_iff_forall_not_mem];intro i hi;obtain⟨h1,o,h3,_⟩:=(zEZ hs i).1 hi;have hlt:i<l.length:=by
    rcases Nat.lt_or_ge i l.length with h4|h4
    ·exact h4
    ·rw[List.getElem?_eq_none h4]at h3;cases h3
   rw[hall i hlt]at h1;cases h1
  exact⟨hnil,hQ s ok σ a w (done g mask s (full listed mask hs hm hall) hl) hR⟩
 |succ fuel ih=>
  intro g listed mask s ok σ a w hs hm hcl hf hl hR;refine⟨fun hnil=>?_,fun i hi=>?_⟩
  ·refine hQ s ok σ a w (done g mask s (full listed mask hs hm fun j hj=>?_) hl) hR;cases h3:listed.getD j false with
   |true=>rfl
   |false=>exact absurd hnil (zHa hc hs j hj h3)
  ·have hbits:=zGe hc hs hi hcl;obtain⟨h1,o,h3,_⟩:=(zEZ hs i).1 hi;have hlt:i<l.length:=by
    rcases Nat.lt_or_ge i l.length with h4|h4
    ·exact h4
    ·rw[List.getElem?_eq_none h4]at h3;cases h3
   have hmem:=zKx ms mask _ i hlt (by rw[←hm];exact h1) fun j hj=>by rw[←hm];exact hbits j hj
   cases g with
   |zero=>exact hl.elim
   |succ g=>
    unfold goL at hl;have hnb:Nat.beq mask (2 ^l.length - 1)=false:=by
     cases hb:Nat.beq mask (2 ^l.length - 1) with
     |false=>rfl
     |true=>
      have:=Nat.eq_of_beq_eq_true hb;rw[hm,this,Nat.testBit_two_pow_sub_one]at h1;simp[hlt]at h1
    rw[hnb,zc]at hl;have hl2:=zSX _ hl i hmem;simp only[h3]at hl2;split at hl2
    ·rename_i o2 d he1 he2;injection he1 with he1;subst he1;split at hl2
     ·rename_i hguard;have hx:=DN.ok d o s _ (hds d (List.mem_of_getElem? he2)) hl2;have hset:=zFI listed i (by omega);have hleft:=zRb hs hlt h1;unfold wpOp;rw[show l.toArray[i]?=l[i]? by simp,h3];simp only;rw[if_pos (zGM hR.core (.inl hguard))];refine .inl (hx B w0 ok0 ok σ a w hR _ Q fun s' a' w' ok' σ' hI hR'=>?_);refine ih g (listed.setIfInBounds i true) (mask|||2 ^i) s' ok' σ' a' w' (by simpa using hs) (fun j=>?_) (fun j hj m hmm=>?_) (by omega) hI hR'
      ·rw[hset,Nat.testBit_or,Nat.testBit_two_pow,←hm];by_cases hj:j=i
       ·subst hj;simp
       ·rw[if_neg hj];have:decide (i=j)=false:=by simp;exact fun e=>hj e.symm
        rw[this,Bool.or_false]
      ·rw[hset]at hj ⊢;split
       ·rfl
       ·by_cases hji:j=i
        ·subst hji;exact hbits m hmm
        ·rw[if_neg hji]at hj;exact hcl j hj m hmm
     ·exact hl2.elim
    ·exact hl2.elim
theorem z5Q {id:Nat} {l:List Oper} {ms:List Nat} {ds:List (DN P)} {K:St→OT} {s:St} {J:Exit→St→Prop} {g:Nat} (hm:P.follows .mixedOrders=true) (hc:chk1 ms l.length 0 l=true) (hds:∀d,d∈ds→d.good) (h:(goL l ms ds g 0 s K).holds) (hJ:∀s',(K s').holds→J .normal s'):
  V P (.region id l.toArray true) s J:=by
 intro B w0 ok0 ok σ a w hR;refine wp_region_any hm ?_
 have hrep:∀j,(Array.replicate l.toArray.size false).getD j false=false:=by
  intro j;rw[Array.getD_eq_getD_getElem?,Array.getElem?_replicate];split<;>rfl
 refine zWF (B:=B) (w0:=w0) (ok0:=ok0) hc hds (fun s' ok' σ' a' w' hK hR'=>⟨s',ok',σ',hJ s' hK,hR'⟩) l.toArray.size g _ 0 s ok σ a _ (by simp) (fun j=>by rw[hrep j,Nat.zero_testBit]) (fun j hj=>by rw[hrep j]at hj;cases hj) ?_ h hR.drew
 unfold left;refine Nat.le_trans List.countP_le_length ?_
 simp
def DN.post (γ:Nat→Loc):DN P→Oper→St→Option St
 | .aut,o,s=>wo P o s
 | .n0 F,o,s=>(match o.dst with
  |some d=>some (s.put d (F.av o s))
  |none=>none)
 | .n1 F,o,s=>(match o.dst with
  |some d=>some (s.upd d (F.av o s) (F.ne o s))
  |none=>none)
 | .f0 F y,o,s=>(match o.dst with
  |some d=>some (s.put d (F.av o s y))
  |none=>none)
 | .f1 F y,o,s=>(match o.dst with
  |some d=>some (s.upd d (F.av o s y) (F.ne o s y))
  |none=>none)
 | .fx F y,o,s=>F.post γ o s y
 | .hn H d,o,s=>(match H.post s with
  |some s'=>d.post γ o s'
  |none=>none)
def z2h (s:St):List (Nat×Ent)→OT
 |[]=>.ok
 |p::ps=>.eq (s.ent p.1) (some p.2) (z2h s ps)
theorem zXp {s:St}:∀{E:List (Nat×Ent)},(z2h s E).holds→HasE s E
 |[],_=>trivial
 |(k,e)::ps,h=>⟨h.1,zXp h.2⟩
def bldM (gh:Bool) (l:List Oper) (ds:List (DN P)) (s0:St):List Nat→List (Nat×((Nat→Loc)→St))→(List (Nat×((Nat→Loc)→St))→OT)→OT
 |[],tab,K=>K tab
 |m::ms,tab,K=>match l[Nat.log2 m]?,ds[Nat.log2 m]?,tab.lookup (m - 2 ^Nat.log2 m) with
  |some o,some d,some S=>(match gh with
   |true=>bldM gh l ds s0 ms ((m,fun γ=>(d.post γ o (S γ)).getD s0)::tab) K
   |false=>(match d.post (fun _=>loc0) o (S fun _=>loc0) with
    |some s'=>bldM gh l ds s0 ms ((m,fun _=>s')::tab) K
    |none=>.eq m 0 .bad))
  |_,_,_=>.eq m 1 .bad
def stM (l:List Oper) (ds:List (DN P)) (f1:Nat) (tab:List (Nat×((Nat→Loc)→St))) (m:Nat) (s:St) (i:Nat):OT:=match l[i]?,ds[i]?,tab.lookup (m|||2 ^i) with
 |some o,some d,some S2=>(match o.guard with
  |none=>.eq (Nat.ble (m|||2 ^i) f1) true (d.run o s fun s'=>.eq (S2 s'.locs).T s'.T (z2h s' (S2 s'.locs).E))
  |some _=>.bad)
 |_,_,_=>.eq (m,i) (0,0) .bad
def trM (l:List Oper) (ms:List Nat) (ds:List (DN P)) (f1:Nat) (tab:List (Nat×((Nat→Loc)→St))):List (Nat×((Nat→Loc)→St))→OT
 |[]=>.ok
 |p::ps=>.and (bif Nat.beq p.1 f1 then .ok else .all fun γ=>allR (zKy ms p.1 l.length) fun i=>stM l ds f1 tab p.1 (p.2 γ) i) (trM l ms ds f1 tab ps)
theorem z02 {gh:Bool} {l:List Oper} {ds:List (DN P)} {s0:St} {K:List (Nat×((Nat→Loc)→St))→OT}:∀(ms:List Nat) (tab:List (Nat×((Nat→Loc)→St))),(bldM gh l ds s0 ms tab K).holds→∃tab',(K tab').holds∧∀S,tab.lookup 0=some S→(∀m,m∈ms→m≠0)→tab'.lookup 0=some S
 |[],tab,h=>⟨tab,h,fun s hs _=>hs⟩
 |m::ms,tab,h=>by
  have go:∀S',(bldM gh l ds s0 ms ((m,S')::tab) K).holds→∃tab',(K tab').holds∧∀S,tab.lookup 0=some S→(∀q,q∈m::ms→q≠0)→tab'.lookup 0=some S:=by
   intro S' h;obtain⟨tab',h1,h2⟩:=z02 ms _ h;refine⟨tab',h1,fun s hs hm=>h2 s ?_ fun q hq=>hm q (zm _ hq)⟩;have:(0==m)=false:=by rw[zt];exact fun e=>hm m zl e.symm
   simp only[List.lookup,this];exact hs
  unfold bldM at h;split at h
  ·split at h
   ·exact go _ h
   ·split at h
    ·exact go _ h
    ·exact h.2.elim
  ·exact h.2.elim
theorem z1j {l:List Oper} {ms:List Nat} {ds:List (DN P)} {f1:Nat} {tab:List (Nat×((Nat→Loc)→St))}:∀(ps:List (Nat×((Nat→Loc)→St))),(trM l ms ds f1 tab ps).holds→∀m S,ps.lookup m=some S→m≠f1→∀γ,(allR (zKy ms m l.length) fun i=>stM l ds f1 tab m (S γ) i).holds
 |[],_,m,s,h,_=>by simp at h
 |(q,t)::ps,h,m,s,hl,hne=>by
  simp only[List.lookup]at hl;cases hq:m==q with
  |true=>
   have:m=q:=by simpa using hq
   subst this;rw[hq]at hl;injection hl with hl;subst hl;have h1:=h.1;have:Nat.beq m f1=false:=by
    cases hb:Nat.beq m f1 with
    |false=>rfl
    |true=>exact absurd (Nat.eq_of_beq_eq_true hb) hne
   simp only[this,zc]at h1;exact h1
  |false=>
   rw[hq]at hl;exact z1j ps h.2 m s hl hne
def nz0:List Nat→Bool
 |[]=>true
 |m::ms=>!Nat.beq m 0&&nz0 ms
theorem z2M:∀{ms:List Nat},nz0 ms=true→∀m,m∈ms→m≠0
 |m::ms,h,q,hq=>by
  simp only[nz0,zj,Bool.not_eq_true']at h;rcases List.mem_cons.1 hq with h1|h1
  ·subst h1;intro e;subst e;exact absurd h.1 (by decide)
  ·exact z2M h.2 q h1
theorem z6o {l:List Oper} {ms:List Nat} {ds:List (DN P)} {K:St→OT} {Q:Exit→Act→World→Prop} {B:Fr} {w0:World} {ok0:Nat→Prop} {f1 g:Nat} {tab:List (Nat×((Nat→Loc)→St))} {s1:(Nat→Loc)→St} (hf1:f1≤2 ^l.length - 1) (hc:chk1 ms l.length 0 l=true) (hds:∀d,d∈ds→d.good)
  (ht:(trM l ms ds f1 tab tab).holds) (h1:tab.lookup f1=some s1) (hg:∀γ,(goL l ms ds g f1 (s1 γ) K).holds) (hQ:∀s ok σ a w,(K s).holds→R B w0 ok0 ok σ s a w→Q .normal a w):
  ∀(fuel:Nat) (listed:Array Bool) (mask:Nat) (s:(Nat→Loc)→St) (γ:Nat→Loc) (ok:Nat→Prop) (σ:Nat→Loc) (a:Act) (w:World),listed.size=l.length→(∀j,listed.getD j false=mask.testBit j)→(∀j,listed.getD j false=true→∀m,(ms.getD j 0).testBit m=true→listed.getD m false=true)→
   left l.length (fun j=>listed.getD j false)≤fuel→tab.lookup mask=some s→mask≤f1→R B w0 ok0 ok σ (s γ) a w→wpAny P .any l.toArray Q fuel listed a w:=by
 intro fuel
 induction fuel with
 |zero=>
  intro listed mask s γ ok σ a w hs hm hcl hf hl hfull hR;by_cases he:mask=f1
  ·subst he;rw[h1]at hl;injection hl with hl;subst hl;exact zWF hc hds hQ 0 g listed mask (s1 γ) ok σ a w hs hm hcl hf (hg γ) hR
  ·exfalso
   have hall:=zNl (Nat.le_zero.1 hf);have hmask:mask=2 ^l.length - 1:=by
    apply Nat.eq_of_testBit_eq;intro j;rw[Nat.testBit_two_pow_sub_one,←hm];by_cases hj:j<l.length
    ·rw[hall j hj];simp[hj]
    ·have:listed.getD j false=false:=by
      rw[Array.getD_eq_getD_getElem?,Array.getElem?_eq_none (by omega)];rfl
     rw[this];simp[hj]
   omega
 |succ fuel ih=>
  intro listed mask s γ ok σ a w hs hm hcl hf hl hfull hR;by_cases he:mask=f1
  ·subst he;rw[h1]at hl;injection hl with hl;subst hl;exact zWF hc hds hQ (fuel+1) g listed mask (s1 γ) ok σ a w hs hm hcl hf (hg γ) hR
  ·have hst:=z1j tab ht mask s hl he γ;refine⟨fun hnil=>?_,fun i hi=>?_⟩
   ·exfalso
    have hall:∀j,j<l.length→listed.getD j false=true:=fun j hj=>by
     cases h3:listed.getD j false with
     |true=>rfl
     |false=>exact absurd hnil (zHa hc hs j hj h3)
    have hmask:mask=2 ^l.length - 1:=by
     apply Nat.eq_of_testBit_eq;intro j;rw[Nat.testBit_two_pow_sub_one,←hm];by_cases hj:j<l.length
     ·rw[hall j hj];simp[hj]
     ·have:listed.getD j false=false:=by
       rw[Array.getD_eq_getD_getElem?,Array.getElem?_eq_none (by omega)];rfl
      rw[this];simp[hj]
    omega
   ·have hbits:=zGe hc hs hi hcl;obtain⟨h2,o,h3,_⟩:=(zEZ hs i).1 hi;have hlt:i<l.length:=by
     rcases Nat.lt_or_ge i l.length with h4|h4
     ·exact h4
     ·rw[List.getElem?_eq_none h4]at h3;cases h3
    have hmem:=zKx ms mask _ i hlt (by rw[←hm];exact h2) fun j hj=>by rw[←hm];exact hbits j hj
    have hl2:=zSX _ hst i hmem;unfold stM at hl2;simp only[h3]at hl2;split at hl2
    ·rename_i o2 d s2 he1 he2 he3;injection he1 with he1;subst he1;split at hl2
     ·rename_i hguard;obtain⟨hble,hl2⟩:=hl2;have hble:=Nat.le_of_ble_eq_true hble;have hx:=DN.ok d o (s γ) _ (hds d (List.mem_of_getElem? he2)) hl2;have hset:=zFI listed i (by omega);have hleft:=zRb hs hlt h2;unfold wpOp;rw[show l.toArray[i]?=l[i]? by simp,h3];simp only;rw[if_pos (zGM hR.core (.inl hguard))];refine .inl (hx B w0 ok0 ok σ a w hR _ Q fun s' a' w' ok' σ' hI hR'=>?_);obtain⟨hT,hE⟩:=hI;have hE:=zXp hE;have hle:Le (s2 s'.locs) s':=⟨by rw[hT];exact Nat.le_refl _,fun t=>.inr (by unfold St.get;rw[hT]),fun id e he=>zH0 s' (s2 s'.locs).E id e hE he⟩
      by_cases hff:mask|||2 ^i=f1
      ·rw[hff,h1]at he3;injection he3 with he3;subst he3;refine zWF hc hds hQ fuel g (listed.setIfInBounds i true) f1 (s1 s'.locs) ok' σ' a' w' (by simpa using hs) (fun j=>?_) (fun j hj m hmm=>?_) (by omega) (hg _) (hR'.le hle)
       ·rw[hset,←hff,Nat.testBit_or,Nat.testBit_two_pow,←hm];by_cases hj:j=i
        ·subst hj;simp
        ·rw[if_neg hj];have:decide (i=j)=false:=by simp;exact fun e=>hj e.symm
         rw[this,Bool.or_false]
       ·rw[hset]at hj ⊢;split
        ·rfl
        ·by_cases hji:j=i
         ·subst hji;exact hbits m hmm
         ·rw[if_neg hji]at hj;exact hcl j hj m hmm
      ·refine ih (listed.setIfInBounds i true) (mask|||2 ^i) s2 s'.locs ok' σ' a' w' (by simpa using hs) (fun j=>?_) (fun j hj m hmm=>?_) (by omega) he3 hble (hR'.le hle)
       ·rw[hset,Nat.testBit_or,Nat.testBit_two_pow,←hm];by_cases hj:j=i
        ·subst hj;simp
        ·rw[if_neg hj];have:decide (i=j)=false:=by simp;exact fun e=>hj e.symm
         rw[this,Bool.or_false]
       ·rw[hset]at hj ⊢;split
        ·rfl
        ·by_cases hji:j=i
         ·subst hji;exact hbits m hmm
         ·rw[if_neg hji]at hj;exact hcl j hj m hmm
     ·exact hl2.elim
    ·exact hl2.2.elim
theorem z5P {id n1:Nat} {l:List Oper} {ms:List Nat} {ds:List (DN P)} {K:St→OT} {s:St} {s1:(Nat→Loc)→St} {J:Exit→St→Prop} {g:Nat} {tab:List (Nat×((Nat→Loc)→St))} (hn:n1≤l.length) (hm:P.follows .mixedOrders=true) (hc:chk1 ms l.length 0 l=true) (hds:∀d,d∈ds→d.good)
  (ht:(trM l ms ds (2 ^n1 - 1) tab tab).holds) (h1:tab.lookup (2 ^n1 - 1)=some s1) (h:∀γ,(goL l ms ds g (2 ^n1 - 1) (s1 γ) K).holds) (h0:tab.lookup 0=some fun _=>s) (hJ:∀s',(K s').holds→J .normal s'):
  V P (.region id l.toArray true) s J:=by
 intro B w0 ok0 ok σ a w hR;refine wp_region_any hm ?_
 have hrep:∀j,(Array.replicate l.toArray.size false).getD j false=false:=by
  intro j;rw[Array.getD_eq_getD_getElem?,Array.getElem?_replicate];split<;>rfl
 have hf1:2 ^n1 - 1≤2 ^l.length - 1:=Nat.sub_le_sub_right (Nat.pow_le_pow_right (by omega) hn) 1;refine z6o (B:=B) (w0:=w0) (ok0:=ok0) hf1 hc hds ht h1 h (fun s' ok' σ' a' w' hK hR'=>⟨s',ok',σ',hJ s' hK,hR'⟩) l.toArray.size _ 0 (fun _=>s) (fun _=>loc0) ok σ a _ (by simp) (fun j=>by rw[hrep j,Nat.zero_testBit]) (fun j hj=>by rw[hrep j]at hj;cases hj) ?_ h0 (Nat.zero_le _) hR.drew
 unfold left;refine Nat.le_trans List.countP_le_length ?_
 simp
end
section
variable (P:Program)
def goR {β:Type} (g:T P β→St→(Exit→T P β→List Nat→St→OT)→OT):Nat→T P β→St→(Exit→T P β→List Nat→St→OT)→OT
 |0,_,_,_=>.bad
 |j+1,t,s,K=>g t s fun e t' kn' s'=>match e with
  | .normal=>goR g j t' s' K
  |e=>K e t' kn' s'
def mtK {α:Type} (m:List Bool) (ids:List Nat) (S:St→α→(Nat→Loc)→St) (s:St):Exit→T P α→List Nat→St→OT:=fun e t' _ s'=>match e,t' with
 | .normal,.ret a=>.eq (s'.kp m ids) (S s a s'.locs) .ok
 |_,_=>.bad
def mtKS {α γ β:Type} (m:List Bool) (ids:List Nat) (S:St→α→(Nat→Loc)→St) (s:St) (er:γ→β) (K:Exit→T P β→List Nat→St→OT):Exit→T P (α ⊕ γ)→List Nat→St→OT:=fun e t' kn' s'=>match e,t' with
 | .normal,.ret (.inl a)=>.eq (s'.kp m ids) (S s a s'.locs) .ok
 | .ret,.ret (.inr r)=>K .ret (.ret (er r)) kn' s'
 | .exit i,.ret (.inr r)=>K (.exit i) (.ret (er r)) kn' s'
 |_,_=>.bad
def lpK {ι o:Type} (id:Nat) (m:List Bool) (ids:List Nat) (S:St→ι→(Nat→Loc)→St) (mo:List Bool) (ido:List Nat) (So:St→o→(Nat→Loc)→St) (s:St):Exit→T P (ι ⊕ o)→List Nat→St→OT:=fun e t' _ s'=>match e,t' with
 | .normal,.ret (.inl x')=>.eq (s'.kp m ids) (S s x' s'.locs) .ok
 | .exit i,.ret (.inr y)=>bif Nat.beq i id then .eq (s'.kp mo ido) (So s y s'.locs) .ok else .bad
 |_,_=>.bad
def lpKS {ι o γ β:Type} (id:Nat) (m:List Bool) (ids:List Nat) (S:St→ι→(Nat→Loc)→St) (mo:List Bool) (ido:List Nat) (So:St→o→(Nat→Loc)→St) (s:St) (er:γ→β) (K:Exit→T P β→List Nat→St→OT):Exit→T P (Lf ι o γ)→List Nat→St→OT:=fun e t' kn' s'=>match e,t' with
 | .normal,.ret (.again x')=>.eq (s'.kp m ids) (S s x' s'.locs) .ok
 | .exit i,.ret (.done y)=>bif Nat.beq i id then .eq (s'.kp mo ido) (So s y s'.locs) .ok else .bad
 | .ret,.ret (.early r)=>K .ret (.ret (er r)) kn' s'
 | .exit i,.ret (.early r)=>bif Nat.beq i id then .bad else K (.exit i) (.ret (er r)) kn' s'
 |_,_=>.bad
def nxK {β:Type} (g:T P β→St→OT) (K:Exit→T P β→List Nat→St→OT):Exit→T P β→List Nat→St→OT:=fun e t' kn' s'=>match e with
 | .normal=>g t' s'
 |e=>K e t' kn' s'
def bkK {β:Type} (id:Nat) (K:Exit→T P β→List Nat→St→OT):Exit→T P β→List Nat→St→OT:=fun e t' kn' s'=>match e with
 | .exit i=>bif Nat.beq i id then K .normal t' kn' s' else K (.exit i) t' kn' s'
 |e=>K e t' kn' s'
def goV:Nat→{β:Type}→T P β→List Nat→Code→St→(Exit→T P β→List Nat→St→OT)→OT
 |0,_,_,_,_,_,_=>.bad
 |n+1,β,t,kn,code,s,K=>match t with
  | .fail=>.ok
  | .hint H t'=>H.run s fun s'=>goV n t' kn code s' K
  | .late H t'=>H.run s fun s'=>goV n t' kn code s' K
  | .frc v k=>goV n (k v) kn code s K
  | .lt v k=>goV n (k v) kn code s K
  | .bnd _ k=>.all fun y=>goV n (k y) kn code s K
  | .seqT t1 k=>goV n (sqT t1 k) kn code s K
  | .join t1 m ids S f=>(match code with
   | .block id c=>goV n (.join t1 m ids S f) kn c s (bkK P id K)
   | .seq x y=>.and (goV n t1 kn x s (mtK P m ids S s)) (.all fun a=>.all fun γ=>goV n (f a) [] y (S s a γ) K)
   |c=>.and (goV n t1 kn c s (mtK P m ids S s)) (.all fun a=>.all fun γ=>K .normal (f a) [] (S s a γ)))
  | .joinC t1 m ids S f=>(match code with
   | .block id c=>goV n (.joinC t1 m ids S f) kn c s (bkK P id K)
   | .seq x y=>.and (goV n t1 kn x s (mtK P m ids S s)) (.all fun a=>.all fun γ=>goV n (f a) [] y (S s a γ) K)
   |c=>.and (goV n t1 kn c s (mtK P m ids S s)) (.all fun a=>.all fun γ=>K .normal (f a) [] (S s a γ)))
  | .joinS t1 m ids S er f=>(match code with
   | .block id c=>goV n (.joinS t1 m ids S er f) kn c s (bkK P id K)
   | .seq x y=>.and (goV n t1 kn x s (mtKS P m ids S s er K)) (.all fun a=>.all fun γ=>goV n (f a) [] y (S s a γ) K)
   |_=>.bad)
  |t=>match code with
   | .skip=>K .normal (unpl P t) kn s
   | .exit id=>K (.exit id) t kn s
   | .ret=>K .ret t kn s
   | .label _=>K .normal t kn s
   | .cond c x y=>(match opn P t kn (opT c) with
    |some (d,b,t1,t2)=>.eq (s.ev c) (Bo b) (.and (goV n t1 kn x s K) (goV n t2 kn y s K))
    |none=>match zO5 P t kn (opT c) with
     |(t,kn)=>match s.ev c with
      | .c (.v (.bool true))=>goV n t kn x s K
      | .c (.v (.bool false))=>goV n t kn y s K
      |_=>.bad)
   | .seq x y=>goV n (undn P t) kn x s (nxK P (fun t' s'=>goV n t' [] y s' K) K)
   | .region id ops false=>goX P n (unpl P t) [] ops ops.toList s fun t' _ s'=>K .normal t' [] s'
   | .region id ops true=>(match t with
    | .draw n1 tg t'=>.eq (P.follows .mixedOrders&&zHt ops.toList (amk ops.toList []) n1 (acs (amk ops.toList []) tg n1 n1)) true
      (goD P n t' [] ops.toList (amk ops.toList []) n1 (acs (amk ops.toList []) tg n1 n1) (prep (ops.toList.take n1) s) [] fun t'' s'=>goX P n t'' [] ops (ops.toList.drop n1) s' fun t' _ s'=>K .normal t' [] s')
    | .drawM gh n1 masks au t'=>goP 100000 t' au [] [] fun t'' ds=>.eq (P.follows .mixedOrders&&(chk1 (amk ops.toList []) ops.toList.length 0 ops.toList&&(Nat.ble n1 ops.toList.length&&nz0 masks))) true (bldM gh ops.toList ds s masks [(0,fun _=>s)] fun tab=>(match tab.lookup (2 ^n1 - 1) with
      |some s1=>.and (trM ops.toList (amk ops.toList []) ds (2 ^n1 - 1) tab tab) (.all fun γ=>goL ops.toList (amk ops.toList []) ds (ops.toList.length+1) (2 ^n1 - 1) (s1 γ) fun s'=>K .normal t'' [] s')
      |none=>.bad))
    | .drawL au t'=>goP 100000 t' au [] [] fun t'' ds=>.eq (P.follows .mixedOrders&&chk1 (amk ops.toList []) ops.toList.length 0 ops.toList) true (goL ops.toList (amk ops.toList []) ds (ops.toList.length+1) 0 s fun s'=>K .normal t'' [] s')
    |_=>.bad)
   | .loop c=>(match t with
    | .unroll j t'=>goR P (fun t' s' K'=>goV n t' [] c s' K') j t' s K
    |_=>.bad)
   | .block id body=>(match body,t with
    | .loop c,.loop L x m ids S bt mo ido So f=>.eq (fun x=>L 0 x) (fun _=>none) (.eq (fun n x=>L (n+1) x) (fun n x=>(bt x).den (lk L n)) (.eq (s.kp m ids) (S s x s.locs) (.and
      (.all fun x=>.all fun γ=>goV n (bt x) [] c (S s x γ) (lpK P id m ids S mo ido So s))
      (.all fun y=>.all fun γ=>K .normal (f y) [] (So s y γ)))))
    | .loop c,.loopS L x m ids S bt mo ido So er f=>.eq (fun x=>L 0 x) (fun _=>none) (.eq (fun n x=>L (n+1) x) (fun n x=>(bt x).den (lkS L n)) (.eq (s.kp m ids) (S s x s.locs) (.and
      (.all fun x=>.all fun γ=>goV n (bt x) [] c (S s x γ) (lpKS P id m ids S mo ido So s er K))
      (.all fun y=>.all fun γ=>K .normal (f y) [] (So s y γ)))))
    |body,t=>goV n t kn body s (bkK P id K))
   |_=>.bad
end
section
variable {P:Program}
theorem z6I {l:List Oper} {rs:List Res} {o:Oper} {d:Nat} (ho:l[rs.length]?=some o) (h:dslD l o=some d):gtD l rs=d:=by
 unfold gtD;rw[ho];unfold dslD at h;split at h
 ·rename_i j b hg;simp only[hg];injection h
 ·rename_i hg;simp only[hg];split at h
  ·rename_i t x y hop;(try simp only[hop]);injection h
  ·cases h
theorem opn_q {β:Type} {t:T P β} {kn:List Nat} {q:Option Nat} {d:Nat} {c:Bool} {a b:T P β} (h:opn P t kn q=some (d,c,a,b)):q=some d:=by
 unfold opn at h;split at h
 ·rename_i d0;cases hb:kn.elem d0 with
  |true=>rw[hb,zb]at h;cases h
  |false=>
   rw[hb,zc]at h;split at h
   ·injection h with h;injection h with h1 h;rw[h1]
   ·injection h with h;injection h with h1 h;rw[h1]
   ·cases h
 ·cases h
theorem z6x {rs:List Res} {q:Option Nat} {d:Nat} (h:dtnD rs q=some d):q=some d:=by
 unfold dtnD at h;split at h
 ·split at h
  ·cases h
  ·exact h
 ·cases h
theorem zFl:∀(n:Nat) {β:Type} (t:T P β) (kn:List Nat) (l:List Oper) (ms:List Nat) (n1:Nat) (css:List (List Cd)) (s0:St) (rs:List Res) (K:T P β→St→OT),(goD P n t kn l ms n1 css s0 rs K).holds→
  ∀{ρ:Type} (k:β→Option ρ) (r:ρ),t.den k=some r→∀J:St→Prop,(∀t' s',(K t' s').holds→T.den t' k=some r→J s')→DL P l ms n1 css s0 rs J
 |0,_,_,_,_,_,_,_,_,_,_,h=>h.elim
 |n+1,β,t,kn,l,ms,n1,css,s0,rs,K,h=>by
  intro k r hd J hJ;unfold goD at h;split at h
  ·cases hd
  ·rename_i v f;have hd:sI v (fun y=>(f y).den k)=some r:=hd;rw[zN]at hd;exact zFl n (f v) kn l ms n1 css s0 rs K h k r hd J hJ
  ·rename_i v f;exact zFl n (f v) kn l ms n1 css s0 rs K h k r hd J hJ
  ·rename_i m f;obtain⟨y,_,h2⟩:=zV (show m.bind (fun y=>(f y).den k)=some r from hd);exact zFl n (f y) kn l ms n1 css s0 rs K (h y) k r h2 J hJ
  ·rename_i t1 f;exact zFl n (sqT t1 f) kn l ms n1 css s0 rs K h k r (by rw[zVU];exact hd) J hJ
  ·cases hbe:Nat.beq rs.length n1 with
   |true=>
    rw[hbe,zb]at h;exact zWp (Nat.eq_of_beq_eq_true hbe) (hJ _ _ h hd)
   |false=>
    rw[hbe,zc]at h;split at h
    ·rename_i o c ho hc;split at h
     ·rename_i d b t1 t2 hq;rw[zR4 hq k]at hd;obtain⟨ha,hb⟩:=zRq (β:=β) hd;have hg:=z6I ho (z6x (opn_q hq));cases b with
      |true=>exact EQ (v:=true) rfl (by rw[hg];exact zFl n t1 _ l ms n1 css s0 _ K h.2.1 k r (ha rfl) J hJ) (by rw[hg];exact h.1)
      |false=>exact EQ (v:=false) rfl (by rw[hg];exact zFl n t2 _ l ms n1 css s0 _ K h.2.2 k r (hb rfl) J hJ) (by rw[hg];exact h.1)
     ·have hd:(zO5 P t kn (dtnD rs (dslD l o))).1.den k=some r:=by rw[zNG];exact hd
      split at h;rename_i t2 kn2 hu;rw[hu]at hd;have hd:t2.den k=some r:=hd;split at h
      ·rename_i rs' hr;cases hw:wv (appC c (l.take n1) rs s0) o with
       |false=>rw[hw,zc]at hr;cases hr
       |true=>
        rw[hw,zb]at hr;exact z6u hr (zFl n _ _ l ms n1 css s0 rs' K h k r hd J hJ)
      ·obtain⟨hg,h⟩:=h;split at h
       ·rename_i F t' hd;obtain⟨h3,h5,h6⟩:=h;rw[zj,zj]at h5;exact E0 rs.length ho hc (F.ok o _ h3) (zFl n t' _ l ms n1 css s0 _ K h6 k r hd J hJ) rfl h5.1 hg h5.2.1 h5.2.2
       ·rename_i F t' hd;obtain⟨h3,h5,h6⟩:=h;rw[zj,zj,zj,zj]at h5;exact E1 rs.length ho hc (F.ok o _ h3) (zFl n t' _ l ms n1 css s0 _ K h6 k r hd J hJ) rfl h5.1 hg h5.2.1 h5.2.2.1 h5.2.2.2.1 h5.2.2.2.2
       ·rename_i F f hd;obtain⟨y,h1,h2⟩:=zV (show F.m.bind (fun y=>(f y).den k)=some r from hd);obtain⟨h3,h4⟩:=h;obtain⟨h5,h6⟩:=h4 y;rw[zj,zj]at h5;exact E0 rs.length ho hc (F.ok o _ y h1 h3) (zFl n (f y) _ l ms n1 css s0 _ K h6 k r h2 J hJ) rfl h5.1 hg h5.2.1 h5.2.2
       ·rename_i F f hd;obtain⟨y,h1,h2⟩:=zV (show F.m.bind (fun y=>(f y).den k)=some r from hd);obtain⟨h3,h4⟩:=h;obtain⟨h5,h6⟩:=h4 y;rw[zj,zj,zj,zj]at h5;exact E1 rs.length ho hc (F.ok o _ y h1 h3) (zFl n (f y) _ l ms n1 css s0 _ K h6 k r h2 J hJ) rfl h5.1 hg h5.2.1 h5.2.2.1 h5.2.2.2.1 h5.2.2.2.2
       ·exact h.elim
    ·exact h.elim
theorem zVy {α ρ:Type} {m:List Bool} {ids:List Nat} {S:St→α→(Nat→Loc)→St} {s:St} {e:Exit} {t':T P α} {kn:List Nat} {s':St} (h:(mtK P m ids S s e t' kn s').holds) {κ:α→Option ρ} {r:ρ} (hd:t'.den κ=some r):e=.normal∧∃a,s'.kp m ids=S s a s'.locs∧κ a=some r:=by
 unfold mtK at h;split at h
 ·rename_i a;exact⟨rfl,a,h.1,hd⟩
 ·exact h.elim
theorem z09 {c:Code} {s:St} {J' J:Exit→St→Prop} (h:V P c s J') (hJ:∀e s',J' e s'→J e s'∨∃s1,Le s1 s'∧J e s1):V P c s J:=by
 intro B w0 ok0 ok σ a w hR;refine wp_mono (h _ _ _ _ _ _ _ hR) ?_
 rintro e a' w' ⟨s',ok',σ',h1,hR'⟩;rcases hJ e s' h1 with h2|⟨s1,h2,h3⟩
 ·exact⟨s',ok',σ',h2,hR'⟩
 ·exact⟨s1,ok',σ',h3,hR'.le h2⟩
theorem zXI {β ρ:Type} (t:T P β) (k:β→Option ρ):(unpl P t).den k=t.den k:=by cases t<;>rfl
theorem z1h {β ρ:Type} (t:T P β) (k:β→Option ρ):(undn P t).den k=t.den k:=by cases t<;>rfl
theorem zZU {β ρ:Type} {id:Nat} {K:Exit→T P β→List Nat→St→OT} {k:β→Option ρ} {r:ρ} {J:Exit→St→Prop} (hJ:∀e t' kn' s',(K e t' kn' s').holds→T.den t' k=some r→J e s'):
  ∀e t' kn' s',(bkK P id K e t' kn' s').holds→T.den t' k=some r→zEr id J e s':=fun e t' kn' s' hK ht'=>by
 unfold bkK at hK;split at hK
 ·rename_i i;simp only[zEr];cases hi:Nat.beq i id with
  |true=>rw[hi,zb]at hK;exact hJ _ _ _ _ hK ht'
  |false=>rw[hi,zc]at hK;exact hJ _ _ _ _ hK ht'
 ·rename_i hne;have:=hJ _ _ _ _ hK ht';cases e<;>first|exact absurd rfl (hne _)|exact this
theorem z2m {β ρ:Type} {g:T P β→St→(Exit→T P β→List Nat→St→OT)→OT} {c:Code} {k:β→Option ρ} {r:ρ} (hg:∀t s K,(g t s K).holds→t.den k=some r→∀J:Exit→St→Prop,(∀e t' kn' s',(K e t' kn' s').holds→T.den t' k=some r→J e s')→V P c s J):
  ∀(j:Nat) (t:T P β) (s:St) (K:Exit→T P β→List Nat→St→OT),(goR P g j t s K).holds→t.den k=some r→∀J:Exit→St→Prop,(∀e t' kn' s',(K e t' kn' s').holds→T.den t' k=some r→J e s')→VR P c j s J
 |0,_,_,_,h=>h.elim
 |j+1,t,s,K,h=>fun hd J hJ=>by
  refine VR_s (hg t s _ h hd _ fun e t' kn' s' hK ht'=>?_);split at hK
  ·exact z2m hg j t' s' K hK ht' J hJ
  ·rename_i hne;have:=hJ _ _ _ _ hK ht';cases e<;>first|exact absurd rfl hne|exact this
theorem zAr:∀(n:Nat) {β:Type} (t:T P β) (kn:List Nat) (code:Code) (s:St) (K:Exit→T P β→List Nat→St→OT),(goV P n t kn code s K).holds→
  ∀{ρ:Type} (k:β→Option ρ) (r:ρ),t.den k=some r→∀J:Exit→St→Prop,(∀e t' kn' s',(K e t' kn' s').holds→T.den t' k=some r→J e s')→V P code s J
 |0,_,_,_,_,_,_,h=>h.elim
 |n+1,β,t,kn,code,s,K,h=>by
  intro k r hd J hJ;unfold goV at h;split at h
  ·cases hd
  ·rename_i H t';exact z4C h fun s' hs=>zAr n t' kn code s' K hs k r hd J hJ
  ·rename_i H t';exact z4C h fun s' hs=>zAr n t' kn code s' K hs k r hd J hJ
  ·rename_i v f;have hd:sI v (fun y=>(f y).den k)=some r:=hd;rw[zN]at hd;exact zAr n (f v) kn code s K h k r hd J hJ
  ·rename_i v f;exact zAr n (f v) kn code s K h k r hd J hJ
  ·rename_i m f;obtain⟨y,_,h2⟩:=zV (show m.bind (fun y=>(f y).den k)=some r from hd);exact zAr n (f y) kn code s K (h y) k r h2 J hJ
  ·rename_i t1 f;exact zAr n (sqT t1 f) kn code s K h k r (by rw[zVU];exact hd) J hJ
  ·-- ways that meet
   rename_i α t1 m ids S f;obtain⟨a,h1,h2⟩:=zV (show (t1.den some).bind (fun y=>(f y).den k)=some r from hd);split at h
   ·exact zDs (zAr n _ kn _ s _ h k r hd _ (zZU hJ))
   ·rename_i x y;refine zDK (zAr n t1 kn x s _ h.1 some a h1 _ fun e t' kn' s' hK ht'=>?_);obtain⟨he,a',hs,ha⟩:=zVy hK ht';subst he;injection ha with ha;subst ha;exact zYV m ids hs (zAr n (f a') [] y _ K (h.2 a' _) k r h2 J hJ)
   ·refine z09 (zAr n t1 kn _ s _ h.1 some a h1 (fun e s'=>e=.normal∧s'.kp m ids=S s a s'.locs) fun e t' kn' s' hK ht'=>?_) fun e s' hh=>?_
    ·obtain⟨he,a',hs,ha⟩:=zVy hK ht';injection ha with ha;subst ha;exact⟨he,hs⟩
    ·obtain⟨he,hs⟩:=hh;subst he;exact .inr ⟨_,zXo m ids s',by rw[hs];exact hJ _ _ _ _ (h.2 a _) h2⟩
  ·-- the same,the plain function goes on
   rename_i α t1 m ids S f;have h1:t1.den (fun y=>(f y).den k)=some r:=hd;split at h
   ·exact zDs (zAr n _ kn _ s _ h k r hd _ (zZU hJ))
   ·rename_i x y;refine zDK (zAr n t1 kn x s _ h.1 _ r h1 _ fun e t' kn' s' hK ht'=>?_);obtain⟨he,a',hs,ha⟩:=zVy hK ht';subst he;exact zYV m ids hs (zAr n (f a') [] y _ K (h.2 a' _) k r ha J hJ)
   ·refine z09 (zAr n t1 kn _ s _ h.1 _ r h1 (fun e s'=>e=.normal∧∃a,s'.kp m ids=S s a s'.locs∧(f a).den k=some r) fun e t' kn' s' hK ht'=>zVy hK ht') fun e s' hh=>?_
    obtain⟨he,a,hs,ha⟩:=hh;subst he;exact .inr ⟨_,zXo m ids s',by rw[hs];exact hJ _ _ _ _ (h.2 a _) ha⟩
  ·-- ways of which some return
   rename_i α γ t1 m ids S er f;obtain⟨q,h1,h2⟩:=zV (show (t1.den some).bind (fun q=>elS q (fun y=>(f y).den k) fun r=>k (er r))=some r from hd);split at h
   ·exact zDs (zAr n _ kn _ s _ h k r hd _ (zZU hJ))
   ·rename_i x y;refine zDK (zAr n t1 kn x s _ h.1 some q h1 _ fun e t' kn' s' hK ht'=>?_);unfold mtKS at hK;split at hK
    ·rename_i a';injection ht' with ht';subst ht';exact zYV m ids hK.1 (zAr n (f a') [] y _ K (h.2 a' _) k r h2 J hJ)
    ·rename_i r';injection ht' with ht';subst ht';exact hJ _ _ _ _ hK h2
    ·rename_i i r';injection ht' with ht';subst ht';exact hJ _ _ _ _ hK h2
    ·exact hK.elim
   ·exact h.elim
  ·split at h
   ·exact zEx (hJ _ _ _ _ h (by rw[zXI];exact hd))
   ·exact zWn (hJ _ _ _ _ h hd)
   ·exact zE4 (hJ _ _ _ _ h hd)
   ·exact z5O (hJ _ _ _ _ h hd)
   ·-- a choice
    rename_i c x y;split at h
    ·rename_i d b t1 t2 hq;rw[zR4 hq k]at hd;obtain⟨ha,hb⟩:=zRq (β:=β) hd;exact zDQ h.1 (fun e=>zAr n t1 _ x _ K h.2.1 k r (ha e) J hJ) (fun e=>zAr n t2 _ y _ K h.2.2 k r (hb e) J hJ)
    ·have hd:(zO5 P t kn (opT c)).1.den k=some r:=by rw[zNG];exact hd
     split at h;rename_i t2 kn2 hu;rw[hu]at hd;have hd:t2.den k=some r:=hd;split at h
     ·rename_i hc;exact zDQ hc (fun _=>zAr n t2 _ x s K h k r hd J hJ) (fun e=>by cases e)
     ·rename_i hc;exact zDQ hc (fun e=>by cases e) (fun _=>zAr n t2 _ y s K h k r hd J hJ)
     ·exact h.elim
   ·-- one after the other
    rename_i x y;refine zDK (zAr n _ kn x s _ h k r (by rw[z1h];exact hd) _ fun e t' kn' s' hK ht'=>?_);unfold nxK at hK;split at hK
    ·exact zAr n t' [] y s' K hK k r ht' J hJ
    ·rename_i hne;have:=hJ _ _ _ _ hK ht';cases e<;>first|exact absurd rfl hne|exact this
   ·-- operations in the text's order
    rename_i id ops;exact zMl (zDA n _ [] ops ops.toList s _ h k r (by rw[zXI];exact hd) (J .normal) fun t' kn' s' hK ht'=>hJ _ _ _ _ hK ht')
   ·-- operations whose order is open
    rename_i id ops;have eo:ops.toList.toArray=ops:=by simp
    split at h
    ·obtain⟨hc,h⟩:=h;rw[zj]at hc;rw[←eo];refine z4E _ _ _ hc.1 (by simpa using hc.2) ?_
     simp only[eo]at h ⊢;refine zFl n _ [] ops.toList _ _ _ _ [] _ h k r hd _ fun t'' s' hK ht''=>?_
     exact zDA n t'' [] ops _ s' _ hK k r ht'' (J .normal) fun t3 kn3 s3 hK3 ht3=>hJ _ _ _ _ hK3 ht3
    ·obtain⟨t'',ds,g1,g2,g3⟩:=zGX 100000 _ _ [] [] _ h (fun d hd=>by cases hd) k r hd;obtain⟨hc,h⟩:=g3;simp only[zj]at hc;obtain⟨tab,h1,h2⟩:=z02 _ _ h;split at h1
     ·rename_i s1 hs1;have:=z5P (id:=id) (J:=J) (s:=s) (Nat.le_of_ble_eq_true hc.2.2.1) hc.1 hc.2.1 g1 h1.1 hs1 h1.2 (h2 _ rfl (z2M hc.2.2.2)) fun s' hs=>hJ _ _ _ _ hs g2;rw[eo]at this;exact this
     ·exact h1.elim
    ·obtain⟨t'',ds,g1,g2,g3⟩:=zGX 100000 _ _ [] [] _ h (fun d hd=>by cases hd) k r hd;obtain⟨hc,h⟩:=g3;rw[zj]at hc;have:=z5Q (id:=id) (J:=J) hc.1 hc.2 g1 h fun s' hs=>hJ _ _ _ _ hs g2;rw[eo]at this;exact this
    ·exact h.elim
   ·-- rounds,one by one
    split at h
    ·exact z3z _ (z2m (fun t s K hg hd J hJ=>zAr n t [] _ s K hg k r hd J hJ) _ _ s K h hd J hJ)
    ·exact h.elim
   ·-- a block
    rename_i id body;split at h
    ·rename_i c ι o L x m ids S bt mo ido So f _ _ _ _ _ _ _ _ _ _;obtain⟨y0,h1,h2⟩:=zV (show (L FU x).bind (fun y=>(f y).den k)=some r from hd);obtain⟨hL0,hLs,h0,hb,hf⟩:=h;refine zDs (z09 (J':=fun e s'=>e=.exit id∧s'.kp mo ido=So s y0 s'.locs) ?_ fun e s' hh=>?_)
     ·refine zS3 (fun n s'=>∃x' γ,s'.kp m ids=S s x' γ∧L n x'=some y0) FU ⟨x,s.locs,h0,h1⟩ ?_
      rintro n' s' ⟨x',γ,hs,hl⟩;cases n' with
      |zero=>rw[show L 0 x'=none from congrFun hL0 x']at hl;cases hl
      |succ n'=>
       rw[show L (n'+1) x'=(bt x').den (lk L n') from congrFun (congrFun hLs n') x']at hl;refine zYV m ids hs (zAr n (bt x') [] c _ _ (hb x' γ) _ y0 hl _ fun e t' kn' s2 hK ht'=>?_);unfold lpK at hK;split at hK
       ·rename_i x2;exact⟨n',Nat.lt_succ_self n',x2,_,hK.1,ht'⟩
       ·rename_i i y;cases hi:Nat.beq i id with
        |true=>
         rw[hi,zb]at hK;have:i=id:=Nat.eq_of_beq_eq_true hi;subst this;injection ht' with ht';subst ht';exact⟨rfl,hK.1⟩
        |false=>rw[hi,zc]at hK;exact hK.elim
       ·exact hK.elim
     ·obtain⟨he,hs⟩:=hh;subst he;refine .inr ⟨_,zXo mo ido s',?_⟩;simp only[zEr,Nat.beq_refl,zb];rw[hs];exact hJ _ _ _ _ (hf y0 _) h2
    ·rename_i c ι o γ' L x m ids S bt mo ido So er f _ _ _ _ _ _ _ _ _ _;obtain⟨q,h1,h2⟩:=zV (show (L FU x).bind (fun q=>elS q (fun y=>(f y).den k) fun r=>k (er r))=some r from hd);obtain⟨hL0,hLs,h0,hb,hf⟩:=h;refine zDs (z09 (J':=fun e s'=>(∃y0,q=.inl y0∧e=.exit id∧s'.kp mo ido=So s y0 s'.locs)∨(∃r',q=.inr r'∧zEr id J e s')) ?_ fun e s' hh=>?_)
     ·refine zS3 (fun n s'=>∃x' γ,s'.kp m ids=S s x' γ∧L n x'=some q) FU ⟨x,s.locs,h0,h1⟩ ?_
      rintro n' s' ⟨x',γ,hs,hl⟩;cases n' with
      |zero=>rw[show L 0 x'=none from congrFun hL0 x']at hl;cases hl
      |succ n'=>
       rw[show L (n'+1) x'=(bt x').den (lkS L n') from congrFun (congrFun hLs n') x']at hl;refine zYV m ids hs (zAr n (bt x') [] c _ _ (hb x' γ) _ q hl _ fun e t' kn' s2 hK ht'=>?_);unfold lpKS at hK;split at hK
       ·rename_i x2;exact⟨n',Nat.lt_succ_self n',x2,_,hK.1,ht'⟩
       ·rename_i i y;cases hi:Nat.beq i id with
        |true=>
         rw[hi,zb]at hK;have:i=id:=Nat.eq_of_beq_eq_true hi;subst this;injection ht' with ht';subst ht';exact .inl ⟨_,rfl,rfl,hK.1⟩
        |false=>rw[hi,zc]at hK;exact hK.elim
       ·rename_i r';injection ht' with ht';subst ht';exact .inr ⟨r',rfl,hJ _ _ _ _ hK h2⟩
       ·rename_i i r';injection ht' with ht';subst ht';cases hi:Nat.beq i id with
        |true=>rw[hi,zb]at hK;exact hK.elim
        |false=>
         rw[hi,zc]at hK;refine .inr ⟨r',rfl,?_⟩;simp only[zEr,hi,zc];exact hJ _ _ _ _ hK h2
       ·exact hK.elim
     ·rcases hh with⟨y0,hq,he,hs⟩|⟨r',_,hj⟩
      ·subst he hq;refine .inr ⟨_,zXo mo ido s',?_⟩;simp only[zEr,Nat.beq_refl,zb];rw[hs];exact hJ _ _ _ _ (hf y0 _) h2
      ·exact .inl hj
    ·refine zDs (zAr n t kn _ s _ h k r hd _ fun e t' kn' s' hK ht'=>?_);unfold bkK at hK;split at hK
     ·rename_i i;simp only[zEr];cases hi:Nat.beq i id with
      |true=>rw[hi,zb]at hK;exact hJ _ _ _ _ hK ht'
      |false=>rw[hi,zc]at hK;exact hJ _ _ _ _ hK ht'
     ·rename_i hne;have:=hJ _ _ _ _ hK ht';cases e<;>first|exact absurd rfl (hne _)|exact this
   ·exact h.elim
end
section
variable {P:Program}
def KF {β:Type} (rs:List RS) (enc:β→AV×List (Nat×Ent)):Exit→T P β→List Nat→St→OT:=fun e t' _ s'=>match e,t' with
 | .normal,.ret y=>.eq (zDJ (zHN s' rs)&&okSL s' rs) true (.eq (zVt s' rs) (enc y) .ok)
 | .ret,.ret y=>.eq (zDJ (zHN s' rs)&&okSL s' rs) true (.eq (zVt s' rs) (enc y) .ok)
 |_,.fail=>.ok
 |_,_=>.bad
theorem z4I {β:Type} {rs:List RS} {enc:β→AV×List (Nat×Ent)} {e:Exit} {t':T P β} {kn:List Nat} {s':St} {r:β} (h:(KF rs enc e t' kn s').holds) (hd:t'.den some=some r):Post rs (enc r).1 (enc r).2 e s':=by
 unfold KF at h;split at h
 ·rename_i y;injection hd with hd;subst hd;obtain⟨h1,h2,_⟩:=h;rw[zj]at h1;exact⟨.inl rfl,h1.1,h1.2,h2⟩
 ·rename_i y;injection hd with hd;subst hd;obtain⟨h1,h2,_⟩:=h;rw[zj]at h1;exact⟨.inr rfl,h1.1,h1.2,h2⟩
 ·cases hd
 ·exact h.elim
def OF (P:Program) {β:Type} (t:T P β) (o:Option β) (c:Code) (s:St) (rs:List RS) (enc:β→AV×List (Nat×Ent)):OT:=.eq o (t.den some) (goV P 100000 t [] c s (KF rs enc))
theorem CtT {β:Type} (t:T P β) {f:FuncId} {fn:Func} {c:Code} {args:List AV} {o:Option β} {r:β} (enc:β→AV×List (Nat×Ent)) {rs:List RS} {vs:List ResultVar} (hf:P.funcs[f]?=some fn) (hb:fn.body=some c) (hvs:fn.results=vs.toArray) (hfit:FitsL P rs vs) (h:o=some r)
  (hO:OF P t o c ⟨args++List.replicate (fn.ntmps - args.length) .bot,[]⟩ rs enc=(OF P t o c ⟨args++List.replicate (fn.ntmps - args.length) .bot,[]⟩ rs enc).rf:=by kernel_rfl) (hl:Nat.ble rs.length 8=true:=by kernel_rfl):zD P f args (enc r).1 (enc r).2:=by
 obtain⟨h1,h2⟩:=OT.of_rf _ hO;rw[h1]at h;exact zAj hf hb hvs hfit (Nat.le_of_ble_eq_true hl) fn.ntmps rfl (zAr 100000 t [] c _ _ h2 some r h _ fun e t' kn' s' hK ht=>z4I hK ht)
def fC {α:Type} {f:FuncId} (hcf:CfW P f) (m:Option α) {args:List AV} {av:α→AV} {ne:α→List (Nat×Ent)} (hS:∀y,m=some y→zD P f args (av y) (ne y)):F1 P α where
 m:=m
 chk o s:=match o.op with
  | .call ⟨.value (.func g),xs,_⟩=>.eq (Nat.beq g f) true (.eq (evL s xs.toList) args .ok)
  |_=>.bad
 av _ _:=av
 ne _ _:=ne
 ok o s y hm h:=by
  split at h
  ·rename_i g xs ts ho;obtain⟨h1,h2,_⟩:=h;have hgf:=Nat.eq_of_beq_eq_true h1;subst hgf;exact zCD (hS y hm) hcf ho h2
  ·exact h.elim
def remF (k:IntKind) (a b:Int):F0 P Unit where
 m:=nz b
 chk o s:=match o.op with
  | .binOp .rem _ x y _=>.eq (s.ev x) (.c (.v (.int k a))) (.eq (s.ev y) (.c (.v (.int k b))) .ok)
  |_=>.bad
 av _ _ _:=.c (.v (.int k (Int.tmod a b)))
 ok o s y hm h:=by
  split at h
  ·rename_i ho;obtain⟨h1,h2,_⟩:=h;exact zZY ho h1 h2 (zQK hm)
  ·exact h.elim
end
structure CT (α:Type) where
  c:α→List Tr
  sz:Nat
  hc:∀v,(c v).length=sz
section
variable (P:Program)
def zv2 (s:St):Op→Option AV
 | .binOp op t x y _=>(match s.ev x,s.ev y with
  | .c (.v (.int k a)),.c (.v (.int k2 b))=>(match decEq k k2 with
   |isTrue _=>(match op with
    | .add=>some (.c (.v (.int k (k.wrap (a+b)))))
    | .sub=>some (.c (.v (.int k (k.wrap (a - b)))))
    | .mul=>some (.c (.v (.int k (k.wrap (a*b)))))
    | .and=>some (.c (.v (.int k (andI k a b))))
    | .or=>some (.c (.v (.int k (orI k a b))))
    | .xor=>some (.c (.v (.int k (xorI k a b))))
    |_=>none)
   |isFalse _=>none)
  | .c (.v (.string a)),.c (.v (.string b))=>(match op with
   | .lss=>some (.c (.v (.bool (Op.bytesLess a.toList b.toList))))
   | .geq=>some (.c (.v (.bool (!(Op.bytesLess a.toList b.toList)))))
   |_=>none)
  |_,_=>none)
 | .unOp .neg t x=>(match s.ev x with
  | .c (.v (.int k a))=>some (.c (.v (.int k (k.wrap (0 - a)))))
  |_=>none)
 | .convert src dst x=>(match P.underlying src,P.underlying dst,s.ev x with
  |some (.int k2),some (.int k),.c (.v (.int k3 a))=>(match decEq k3 k2 with
   |isTrue _=>some (.c (.v (.int k (k.wrap a))))
   |isFalse _=>none)
  |_,_,_=>none)
 | .call ⟨.builtin .max,⟨[x,y]⟩,_⟩=>(match s.ev x,s.ev y with
  | .c (.v (.int .i64 a)),.c (.v (.int .i64 b))=>some (I (mxI a b))
  |_,_=>none)
 | .call ⟨.builtin .min,⟨[x,y]⟩,_⟩=>(match s.ev x,s.ev y with
  | .c (.v (.int .i64 a)),.c (.v (.int .i64 b))=>some (I (mnI a b))
  |_,_=>none)
 | .nilCheck x=>(match (s.ev x).adv 0 with
  | .bot=>none
  |_=>some (s.ev x))
 |_=>none
end
section
variable {P:Program}
theorem z5o {o:Oper} {s:St} {av:AV} (h:zv2 P s o.op=some av):Y0 P o s av:=by
 unfold zv2 at h;split at h
 ·rename_i ho;split at h
  ·rename_i hx hy;split at h
   ·rename_i hk _;subst hk;split at h<;>first|(cases h;done)|skip
    ·cases h;exact z3r ho hx hy
    ·cases h;exact z3e ho hx hy
    ·cases h;exact z3l ho hx hy
    ·cases h;exact z73 ho hx hy
    ·cases h;exact Y0_or ho hx hy
    ·cases h;exact z7L ho hx hy
   ·cases h
  ·rename_i hx hy;split at h
   ·cases h;exact z7S ho hx hy
   ·cases h;exact z7Y ho hx hy
   ·cases h
  ·cases h
 ·rename_i ho;split at h
  ·rename_i hx;cases h;exact z3j ho hx
  ·cases h
 ·rename_i ho;split at h
  ·rename_i hs hd hx;split at h
   ·rename_i hk _;subst hk;cases h;exact zWl hs hd ho hx
   ·cases h
  ·cases h
 ·rename_i ho;split at h
  ·rename_i hx hy;cases h;exact z7R ho hx hy
  ·cases h
 ·rename_i ho;split at h
  ·rename_i hx hy;cases h;exact z7Q ho hx hy
  ·cases h
 ·rename_i ho;split at h
  ·cases h
  ·rename_i hb;cases h;exact z0f _ ho rfl hb
 ·cases h
def au:N0 P where
 chk o s:=.eq (zv2 P s o.op).isSome true .ok
 av o s:=(zv2 P s o.op).getD .bot
 ok o s h:=by
  obtain⟨av,hv⟩:=Option.isSome_iff_exists.mp h.1;rw[hv];exact z5o hv
theorem zZN {b:Int} (h:eqI b 0=false):b≠0:=zQK (u:=()) (by unfold nz;rw[h];rfl)
def dvN:N0 P where
 chk o s:=match o.op with
  | .binOp op _ x y _=>(match s.ev x,s.ev y with
   | .c (.v (.int k a)),.c (.v (.int k2 b))=>(match op with
    | .quo=>.eq k k2 (.eq (eqI b 0) false .ok)
    | .rem=>.eq k k2 (.eq (eqI b 0) false .ok)
    | .shr=>.eq (decide (b<0)) false .ok
    | .shl=>.eq (decide (b<0)) false .ok
    |_=>.bad)
   |_,_=>.bad)
  |_=>.bad
 av o s:=match o.op with
  | .binOp op _ x y _=>(match s.ev x,s.ev y with
   | .c (.v (.int k a)),.c (.v (.int k2 b))=>(match op with
    | .quo=>(match k with
     | .i64=>I (w64 (a.tdiv b))
     |k=>.c (.v (.int k (k.wrap (a.tdiv b)))))
    | .rem=>.c (.v (.int k (a.tmod b)))
    | .shr=>.c (.v (.int k (shrI k a b)))
    | .shl=>.c (.v (.int k (shlI k a b)))
    |_=>.bot)
   |_,_=>.bot)
  |_=>.bot
 ok o s h:=by
  split at h
  ·rename_i op t x y t2 ho
   try simp only[ho]
   split at h
   ·rename_i k a k2 b hx hy
    try simp only[hx,hy]
    split at h
    ·obtain⟨hk,h0,_⟩:=h;subst hk;split
     ·exact zSZ ho hx hy (zZN h0)
     ·exact zZZ ho hx hy (zZN h0)
    ·obtain⟨hk,h0,_⟩:=h;subst hk;exact zZY ho hx hy (zZN h0)
    ·exact z7M ho hx hy (by simpa using h.1)
    ·exact z7N ho hx hy (by simpa using h.1)
    ·exact h.elim
   ·exact h.elim
  ·exact h.elim
def quoF (k:IntKind) (a b:Int):F0 P Unit where
 m:=nz b
 chk o s:=match o.op with
  | .binOp .quo _ x y _=>.eq (s.ev x) (.c (.v (.int k a))) (.eq (s.ev y) (.c (.v (.int k b))) .ok)
  |_=>.bad
 av _ _ _:=match k with
  | .i64=>I (w64 (a.tdiv b))
  |k=>.c (.v (.int k (k.wrap (a.tdiv b))))
 ok o s y hm h:=by
  split at h
  ·rename_i ho;obtain⟨h1,h2,_⟩:=h;split
   ·exact zSZ ho h1 h2 (zQK hm)
   ·exact zZZ ho h1 h2 (zQK hm)
  ·exact h.elim
def bld {t0:TypeId} {z:Array Value} (place:Nat→Option (Nat×Nat)) (hb:∀ps,P.built t0 ps=Instr.fill place z ps):N0 P where
 chk o s:=match o.op with
  | .build t parts=>.eq (Nat.beq t t0&&(zEu z&&(zOj place (z.toList.map Tr.v) (evP s parts.toList)).isSome)) true .ok
  |_=>.bad
 av o s:=match o.op with
  | .build t parts=>.ag ((zOj place (z.toList.map Tr.v) (evP s parts.toList)).getD [])
  |_=>.bot
 ok o s h:=by
  split at h
  ·rename_i t parts ho
   try simp only[ho]
   have h:=h.1;rw[zj,zj]at h;have ht:=Nat.eq_of_beq_eq_true h.1;subst ht;obtain⟨cs,hcs⟩:=Option.isSome_iff_exists.mp h.2.2;rw[hcs];exact zG5 place hb ho h.2.1 hcs
  ·exact h.elim
def eqg2 {t0:TypeId} (h1:z4J P .eql t0):N0 P where
 chk o s:=match o.op with
  | .binOp .eql t x y _=>.eq t t0 (match s.ev x,s.ev y with
   | .ag [.v (.int .i64 a0),.v (.int .i64 a1)],.ag [.v (.int .i64 b0),.v (.int .i64 b1)]=>.ok
   |_,_=>.bad)
  |_=>.bad
 av o s:=match o.op with
  | .binOp .eql t x y _=>(match s.ev x,s.ev y with
   | .ag [.v (.int .i64 a0),.v (.int .i64 a1)],.ag [.v (.int .i64 b0),.v (.int .i64 b1)]=>Bo (((a0==b0)&&(a1==b1)))
   |_,_=>.bot)
  |_=>.bot
 ok o s h:=by
  split at h
  ·rename_i ho;obtain⟨ht,h⟩:=h;subst ht
   try simp only[ho]
   split at h
   ·rename_i hx hy;(try simp only[hx,hy]);exact z5I h1 ho hx hy
   ·exact h.elim
  ·exact h.elim
def eqg3 {t0:TypeId} (h1:zUt P .eql t0):N0 P where
 chk o s:=match o.op with
  | .binOp .eql t x y _=>.eq t t0 (match s.ev x,s.ev y with
   | .ag [.v (.int .i64 a0),.v (.int .i64 a1),.v (.int .i64 a2)],.ag [.v (.int .i64 b0),.v (.int .i64 b1),.v (.int .i64 b2)]=>.ok
   |_,_=>.bad)
  |_=>.bad
 av o s:=match o.op with
  | .binOp .eql t x y _=>(match s.ev x,s.ev y with
   | .ag [.v (.int .i64 a0),.v (.int .i64 a1),.v (.int .i64 a2)],.ag [.v (.int .i64 b0),.v (.int .i64 b1),.v (.int .i64 b2)]=>Bo (((a0==b0)&&((a1==b1)&&(a2==b2))))
   |_,_=>.bot)
  |_=>.bot
 ok o s h:=by
  split at h
  ·rename_i ho;obtain⟨ht,h⟩:=h;subst ht
   try simp only[ho]
   split at h
   ·rename_i hx hy;(try simp only[hx,hy]);exact z5H h1 ho hx hy
   ·exact h.elim
  ·exact h.elim
def neg3 {t0:TypeId} (h1:zUt P .neq t0):N0 P where
 chk o s:=match o.op with
  | .binOp .neq t x y _=>.eq t t0 (match s.ev x,s.ev y with
   | .ag [.v (.int .i64 a0),.v (.int .i64 a1),.v (.int .i64 a2)],.ag [.v (.int .i64 b0),.v (.int .i64 b1),.v (.int .i64 b2)]=>.ok
   |_,_=>.bad)
  |_=>.bad
 av o s:=match o.op with
  | .binOp .neq t x y _=>(match s.ev x,s.ev y with
   | .ag [.v (.int .i64 a0),.v (.int .i64 a1),.v (.int .i64 a2)],.ag [.v (.int .i64 b0),.v (.int .i64 b1),.v (.int .i64 b2)]=>Bo (!((a0==b0)&&((a1==b1)&&(a2==b2))))
   |_,_=>.bot)
  |_=>.bot
 ok o s h:=by
  split at h
  ·rename_i ho;obtain⟨ht,h⟩:=h;subst ht
   try simp only[ho]
   split at h
   ·rename_i hx hy;(try simp only[hx,hy]);exact z5D h1 ho hx hy
   ·exact h.elim
  ·exact h.elim
def lenM {α:Type} (d:CT α) (xs:List α):N0 P where
 chk o s:=match o.op with
  | .call ⟨.builtin .len,⟨[x]⟩,⟨[t]⟩⟩=>(match P.underlying t with
   |some (.slice _)=>.eq (zBe s (s.ev x)) (some (xs.map d.c)) .ok
   |_=>.bad)
  |_=>.bad
 av _ _:=I (xs.length:Int)
 ok o s h:=by
  split at h
  ·rename_i ho;split at h
   ·rename_i hu;exact zMk hu ho h.1
   ·exact h.elim
  ·exact h.elim
def idxM {α:Type} (d:CT α) (xs:List α) (n:Int):F0 P α where
 m:=getI xs n
 chk o s:=match o.op with
  | .indexAddr t x ix=>(match P.underlying t with
   |some (.slice e)=>.eq ((P.info? e).map (·.size)) (some d.sz) (.eq (s.ev x) (.c (.sl (xs.map d.c))) (.eq (s.ev ix) (.c (.v (.int .i64 n))) .ok))
   |_=>.bad)
  |_=>.bad
 av _ _ y:=.pe (d.c y)
 ok o s y hm h:=by
  split at h
  ·rename_i ho;split at h
   ·rename_i hu;obtain⟨h1,h2,h3,_⟩:=h;exact zWk hu (by rw[h1,d.hc]) ho h2 h3 hm
   ·exact h.elim
  ·exact h.elim
def zBA {α:Type} (d:CT α) (xs:List α) (n:Int):F0 P α where
 m:=getI xs n
 chk o s:=match o.op with
  | .indexAddr t x ix=>(match P.underlying t,s.ev x with
   |some (.slice e),.ow id=>(match s.entc id with
    |some (.arr _ sz els)=>.eq ((P.info? e).map (·.size)) (some sz) (.eq els (xs.map d.c) (.eq (s.ev ix) (.c (.v (.int .i64 n))) .ok))
    |_=>.bad)
   |_,_=>.bad)
  |_=>.bad
 av o s _:=match o.op with
  | .indexAddr t x ix=>(match s.ev x with
   | .ow id=>(match s.entc id with
    |some (.arr _ sz _)=>.po id sz n.toNat 0
    |_=>.bot)
   |_=>.bot)
  |_=>.bot
 ok o s y hm h:=by
  split at h
  ·rename_i ho
   try simp only[ho]
   split at h
   ·rename_i hu hx
    try simp only[hx]
    split at h
    ·rename_i he;obtain⟨h1,h2,h3,_⟩:=h;subst h2
     try simp only[he]
     exact zS1 hu h1 ho hx he h3 hm
    ·exact h.elim
   ·exact h.elim
  ·exact h.elim
def ldo {α:Type} (d:CT α) (xs:List α) (n:Int):F0 P α where
 m:=getI xs n
 chk o s:=match o.op with
  | .load t x=>(match P.underlying t,s.ev x with
   |some D,.po id sz i off=>(match s.entc id with
    |some (.arr _ sz2 els)=>.eq i n.toNat (.eq sz2 sz (.eq els (xs.map d.c) (bif aggD D then (match zDu P t with
     |some k=>.eq (Nat.ble (off+k) d.sz) true .ok
     |none=>.bad) else .eq (Nat.blt off d.sz) true .ok)))
    |_=>.bad)
   |_,_=>.bad)
  |_=>.bad
 av o s y:=match o.op with
  | .load t x=>(match P.underlying t,s.ev x with
   |some D,.po id sz i off=>bif aggD D then .ag (((d.c y).drop off).take ((zDu P t).getD 0)) else (match (d.c y).drop off with
    |c::_=>.c c
    |[]=>.bot)
   |_,_=>.bot)
  |_=>.bot
 ok o s y hm h:=by
  split at h
  ·rename_i ho
   try simp only[ho]
   split at h
   ·rename_i D id sz i off hu hx
    try simp only[hu,hx]
    split at h
    ·rename_i he;obtain⟨h1,h2,h3,h4⟩:=h;subst h1 h2 h3;have hlen:=d.hc y;cases hD:aggD D with
     |true=>
      rw[hD,zb]at h4;simp only[zb];split at h4
      ·rename_i k hk;rw[hk];exact z4L _ ⟨⟨D,hu,hD⟩,hk⟩ ho hx he hm (by
        rw[List.length_drop,hlen];have:=Nat.le_of_ble_eq_true h4.1;omega) rfl
      ·exact h4.elim
     |false=>
      rw[hD,zc]at h4;simp only[zc];split
      ·rename_i c cs hcs;exact zOT ⟨D,hu,hD⟩ ho hx he hm hcs
      ·rename_i hcs;have h5:Nat.blt off d.sz=true:=h4.1;have h6:=congrArg List.length hcs;rw[List.length_drop,hlen]at h6;have h7:=Nat.le_of_ble_eq_true h5;simp at h6;omega
    ·exact h.elim
   ·exact h.elim
  ·exact h.elim
def idxs (b:ByteArray) (n:Int):F0 P Int where
 m:=getB b n
 chk o s:=match o.op with
  | .index t x i=>(match P.underlying t,s.ev i with
   |some .string,.c (.v (.int k n2))=>.eq (s.ev x) (.c (.v (.string b))) (.eq n2 n .ok)
   |_,_=>.bad)
  |_=>.bad
 av _ _ y:=.c (.v (.int .u8 y))
 ok o s y hm h:=by
  split at h
  ·rename_i ho;split at h
   ·rename_i hu hi;obtain⟨h1,h2,_⟩:=h;subst h2;exact zWj hu ho h1 hi hm
   ·exact h.elim
  ·exact h.elim
def cat (a b:ByteArray):F0 P Unit where
 m:=catR a b
 chk o s:=match o.op with
  | .binOp .add _ x y _=>.eq (s.ev x) (.c (.v (.string a))) (.eq (s.ev y) (.c (.v (.string b))) .ok)
  |_=>.bad
 av _ _ _:=.c (.v (.string (a++b)))
 ok o s y hm h:=by
  split at h
  ·rename_i ho;exact z3p ho h.1 h.2.1 (zUh hm)
  ·exact h.elim
def bdO (s:St) (x:Option Operand) (l l0:Int):OT:=match x with
 |none=>.eq l l0 .ok
 |some y=>(match s.ev y with
  | .c (.v (.int _ a))=>.eq a l .ok
  |_=>.bad)
theorem zJK {s:St} {x:Option Operand} {l l0:Int} (h:(bdO s x l l0).holds):(∀y,x=some y→∃k,s.ev y=.c (.v (.int k l)))∧(x=none→l=l0):=by
 unfold bdO at h;split at h
 ·exact⟨fun y hy=>(by cases hy),fun _=>h.1⟩
 ·split at h
  ·rename_i k a ha;have h:=h.1;subst h;exact⟨fun y hy=>(by injection hy with hy;subst hy;exact⟨k,ha⟩),fun hh=>(by cases hh)⟩
  ·exact h.elim
def zHb (b:ByteArray) (l h:Int):F0 P Unit where
 m:=slc b.size l h
 chk o s:=match o.op with
  | .slice t x lo hi none=>(match P.underlying t with
   |some .string=>.eq (s.ev x) (.c (.v (.string b))) (.and (bdO s lo l 0) (bdO s hi h (b.size:Int)))
   |_=>.bad)
  |_=>.bad
 av _ _ _:=.c (.v (.string (b.extract l.toNat h.toNat)))
 ok o s y hm hh:=by
  split at hh
  ·rename_i ho;split at hh
   ·rename_i hu;obtain⟨h1,h2,h3⟩:=hh;exact zUp hu ho h1 (zJK h2).1 (zJK h2).2 (zJK h3).1 (zJK h3).2 (zI7 hm)
   ·exact hh.elim
  ·exact hh.elim
def slice {α:Type} (d:CT α) (xs:List α) (l h:Int):F0 P Unit where
 m:=slc xs.length l h
 chk o s:=match o.op with
  | .slice t x lo hi none=>(match P.underlying t with
   |some (.slice e)=>.eq ((P.info? e).map (·.size)) (some d.sz) (.eq (s.ev x) (.c (.sl (xs.map d.c))) (.and (bdO s lo l 0) (bdO s hi h (xs.length:Int))))
   |_=>.bad)
  |_=>.bad
 av _ _ _:=.c (.sl ((subl xs l h).map d.c))
 ok o s y hm hh:=by
  split at hh
  ·rename_i ho;split at hh
   ·rename_i hu;obtain⟨h0,h1,h2,h3⟩:=hh;exact zYQ hu h0 d.hc ho h1 (zJK h2).1 (zJK h2).2 (zJK h3).1 (zJK h3).2 (zI7 hm)
   ·exact hh.elim
  ·exact hh.elim
end
section
variable {P:Program}
def nilN (e sz:Nat) (hz:0<sz):N1 P where
 chk o _:=match o.op with
  | .assign (.const (.slice none 0 0))=>.ok
  | .move (.const (.slice none 0 0))=>.ok
  |_=>.bad
 av _ _:=.ow 0
 ne _ _:=[(0,.arr e sz [])]
 ok o s h:=by
  split at h
  ·rename_i ho;exact zZX sz hz (.inl ho)
  ·rename_i ho;exact zZX sz hz (.inr ho)
  ·exact h.elim
def bsl:N1 P where
 chk o s:=match o.op with
  | .buildSlice t n parts=>(match P.underlying t with
   |some (.slice e)=>(match P.info? e with
    |some i=>(match i.zero,zGT 0 (evP s parts.toList) with
     |some z,some els=>.eq (zEu z.cells&&(Nat.blt 0 i.size&&(Nat.beq els.length n&&(els.all (fun e=>Nat.beq e.length i.size)&&(Nat.ble (n*i.size) 16777216&&Nat.blt 0 n))))) true .ok
     |_,_=>.bad)
    |none=>.bad)
   |_=>.bad)
  |_=>.bad
 av _ _:=.ow 0
 ne o s:=match o.op with
  | .buildSlice t n parts=>(match P.underlying t with
   |some (.slice e)=>[(0,.arr e ((zDu P e).getD 0) ((zGT 0 (evP s parts.toList)).getD []))]
   |_=>[])
  |_=>[]
 ok o s h:=by
  split at h
  ·rename_i t n parts ho;split at h
   ·rename_i e hu;split at h
    ·rename_i i hi;split at h
     ·rename_i z els hz hp;have h:=h.1;simp only[zj]at h;obtain⟨h1,h2,h3,h4,h5,h6⟩:=h;have hn:=Nat.eq_of_beq_eq_true h3;simp only[hu,hp,zDu,hi,Option.map_some,Option.getD_some];refine zGL hu (by rw[hi];simp only[Option.map_some,hz]) h1 (Nat.le_of_ble_eq_true h2) ho hp hn (fun e he=>?_) (Nat.le_of_ble_eq_true h5) (Nat.le_of_ble_eq_true h6);exact Nat.eq_of_beq_eq_true (List.all_eq_true.mp h4 e he)
     ·exact h.elim
    ·exact h.elim
   ·exact h.elim
  ·exact h.elim
def bsl0:N1 P where
 chk o s:=match o.op with
  | .buildSlice t 0 ⟨[]⟩=>(match P.underlying t with
   |some (.slice e)=>(match P.info? e with
    |some i=>.eq (Nat.blt 0 i.size) true .ok
    |none=>.bad)
   |_=>.bad)
  |_=>.bad
 av _ _:=.ow 0
 ne o s:=match o.op with
  | .buildSlice t _ _=>(match P.underlying t with
   |some (.slice e)=>[(0,.arr e ((zDu P e).getD 0) [])]
   |_=>[])
  |_=>[]
 ok o s h:=by
  split at h
  ·rename_i t ho;split at h
   ·rename_i e hu;split at h
    ·rename_i i hi;simp only[ho,hu,zDu,hi,Option.map_some,Option.getD_some];exact zLX hu (by rw[hi];rfl) (Nat.le_of_ble_eq_true h.1) ho rfl
    ·exact h.elim
   ·exact h.elim
  ·exact h.elim
def fCs {α:Type} {f:FuncId} (hcf:CfW P f) (m:Option α) {args:List AV} {av:α→AV} {ne:α→List (Nat×Ent)} (hS:∀y,m=some y→zD P f args (av y) (ne y)) (hfl:∀y,zOh (ne y)=true):F1 P α where
 m:=m
 chk o s:=match o.op with
  | .call ⟨.value (.func g),xs,_⟩=>.eq (Nat.beq g f) true (.eq (evS s xs.toList) args (.all fun y=>.eq (av y).flat true .ok))
  |_=>.bad
 av _ _:=av
 ne _ _:=ne
 ok o s y hm h:=by
  split at h
  ·rename_i g xs ts ho;obtain⟨h1,h2,h3⟩:=h;have hgf:=Nat.eq_of_beq_eq_true h1;subst hgf;exact zYP (hS y hm) hcf ho h2 (h3 y).1 (hfl y)
  ·exact h.elim
def app {α:Type} (d:CT α) (xs ys:List α):FX P Unit where
 m:=room (xs.length+ys.length)
 run o s _ K:=match o.op,o.dst with
  | .call ⟨.builtin .append,⟨[x,y]⟩,⟨[t,t2]⟩⟩,some k=>(match P.underlying t,s.ev x with
   |some (.slice e),.ow id=>(match s.ent id,P.info? e with
    |some (.arr e2 sz els),some i=>(match i.zero with
     |some z=>.eq t2 t (.eq e2 e (.eq sz d.sz (.eq i.size d.sz (.eq els (xs.map d.c) (.eq (zBe s (s.ev y)) (some (ys.map d.c)) (.eq (Nat.beq z.cells.size d.sz&&Nat.ble i.bytes 128) true
       (K ⟨(zBW id s.T).set k (.ow id),setE id (.arr e d.sz ((xs++ys).map d.c)) s.E⟩)))))))
     |none=>.bad)
    |_,_=>.bad)
   |_,_=>.bad)
  |_,_=>.bad
 post _ o s _:=match o.op,o.dst with
  | .call ⟨_,⟨[x,_]⟩,_⟩,some k=>(match s.ev x with
   | .ow id=>(match s.ent id with
    |some (.arr e sz _)=>some ⟨(zBW id s.T).set k (.ow id),setE id (.arr e sz ((xs++ys).map d.c)) s.E⟩
    |_=>none)
   |_=>none)
  |_,_=>none
 ok o s K y hm h:=by
  split at h
  ·rename_i x y t t2 k ho hd;split at h
   ·rename_i e id hu hx;split at h
    ·rename_i e2 sz els i he hi;split at h
     ·rename_i z hz;obtain⟨h1,h2,h3,h4,h5,h6,h7,h8⟩:=h;subst h1 h2 h3 h5;rw[zj]at h7;exact zDq (z1R ho hd hu (by rw[hi];simp only[Option.map_some,hz,h4]) (Nat.eq_of_beq_eq_true h7.1) hx he h6 d.hc (zJX hm) (Nat.le_of_ble_eq_true h7.2)) h8
     ·exact h.elim
    ·exact h.elim
   ·exact h.elim
  ·exact h.elim
def sto {α:Type} (d:CT α) (xs:List α) (n:Int) (u:α→α):FX P α where
 m:=getI xs n
 run o s v K:=match o.op,o.dst with
  | .store t x y,none=>(match s.ev x,zBd (s.ev y) with
   | .po id sz i off,some vc=>(match s.ent id with
    |some (.arr T0 sz2 els)=>.eq i n.toNat (.eq sz2 sz (.eq els (xs.map d.c) (.eq ((P.info? t).map (·.size)) (some vc.length) (.eq (Nat.ble (off+vc.length) d.sz) true (.eq (splice (d.c v) off vc) (d.c (u v))
      (K ⟨s.T,setE id (.arr T0 sz ((xs.set n.toNat (u v)).map d.c)) s.E⟩))))))
    |_=>.bad)
   |_,_=>.bad)
  |_,_=>.bad
 ok o s K v hm h:=by
  split at h
  ·rename_i t x y ho hd;split at h
   ·rename_i id sz i off vc hx hy;split at h
    ·rename_i T0 sz2 els he;obtain⟨h1,h2,h3,h4,h5,h6⟩:=h;subst h1 h2 h3;obtain⟨h7,h8⟩:=h6;exact zDq (z1P ho hd hx he hm hy h4 (by rw[d.hc];exact Nat.le_of_ble_eq_true h5) h7) h8
    ·exact h.elim
   ·exact h.elim
  ·exact h.elim
def renC:List AV→List AV→List (Nat×Nat)
 | .pt a _::xs,.pt b _::ys=>(a,b)::renC xs ys
 | .ow a::xs,.ow b::ys=>(a,b)::renC xs ys
 |_::xs,_::ys=>renC xs ys
 |_,_=>[]
def mOT (m:List (Nat×Nat)) (s:St):List (Nat×Ent)→OT→OT
 |[],k=>k
 |p::ps,k=>.eq (s.entc (renI m p.1)) (some p.2) (mOT m s ps k)
theorem zYv {m:List (Nat×Nat)} {s:St}:∀{E:List (Nat×Ent)} {k:OT},(mOT m s E k).holds→zHo m s E∧k.holds
 |[],_,h=>⟨trivial,h⟩
 |(k,e)::ps,_,h=>by
  obtain⟨h1,h2⟩:=h;obtain⟨h3,h4⟩:=zYv h2;exact⟨⟨h1,h3⟩,h4⟩
def fR {α:Type} {f:FuncId} (hcf:CfW P f) (m:Option α) {args:List AV} {E0:List (Nat×Ent)} {av:α→AV} {ne E1:α→List (Nat×Ent)} (hS:∀y,m=some y→zIH P f args E0 (av y) (ne y) (E1 y)):FX P α where
 m:=m
 run o s y K:=match o.op with
  | .call ⟨.value (.func g),xs,_⟩=>.eq (Nat.beq g f) true (.eq (evL s xs.toList) (renL (renC args (evL s xs.toList)) args) (.eq (zMQ args&&(zO9 (renC args (evL s xs.toList)) E0&&zDv E0)) true (mOT (renC args (evL s xs.toList)) s E0
    (.eq (zBX (E1 y)) (zBX E0) (.eq (zDv (E1 y)) true (match o.dst with
     |some d=>K ((St.mk s.T (updE (renC args (evL s xs.toList)) s.E (E1 y))).upd d (av y) (ne y))
     |none=>K (St.mk s.T (updE (renC args (evL s xs.toList)) s.E (E1 y)))))))))
  |_=>.bad
 ok o s K y hm h:=by
  split at h
  ·rename_i g xs ts ho;obtain⟨h1,h2,h3,h4⟩:=h;have hgf:=Nat.eq_of_beq_eq_true h1;subst hgf;simp only[zj]at h3;obtain⟨h5,h6⟩:=zYv h4;obtain⟨h7,h8,h9⟩:=h6;split at h9
   ·rename_i d hd;exact zDq (z5J _ d (hS y hm) hcf ho hd h2 h3.1 h5 h7 h3.2.1 h8 h3.2.2 rfl) h9
   ·rename_i hd;exact zDq (z3v _ (hS y hm) hcf ho hd h2 h3.1 h5 h7 h3.2.1 h8 h3.2.2 rfl) h9
  ·exact h.elim
def frzH (id:Nat):HT where
 run s K:=match s.ent id with
  |some (.arr _ _ els)=>K (s.frz id els)
  |_=>.bad
 ok s K h B w0 ok0 ok σ a w hR:=by
  split at h
  ·rename_i he;exact⟨_,_,_,h,z5m hR id he⟩
  ·exact h.elim
def z2s (id:Nat):HT where
 run s K:=match s.ent id with
  |some (.box cs)=>K (s.frzB id cs)
  |_=>.bad
 ok s K h B w0 ok0 ok σ a w hR:=by
  split at h
  ·rename_i he;exact⟨_,_,_,h,z4H hR id he⟩
  ·exact h.elim
def hOT (s:St):List (Nat×Ent)→OT
 |[]=>.ok
 |p::ps=>.eq (s.ent p.1) (some p.2) (hOT s ps)
theorem zZB {s:St}:∀{E:List (Nat×Ent)},(hOT s E).holds→HasE s E
 |[],_=>trivial
 |(k,e)::ps,h=>⟨h.1,zZB h.2⟩
def KR {β:Type} (rs:List RS) (enc:β→AV×List (Nat×Ent)) (E1:β→List (Nat×Ent)) (σ:Nat→Loc):Exit→T P β→List Nat→St→OT:=fun e t' kn s'=>.and (KF rs enc e t' kn s') (match t' with
 | .ret y=>hOT s' (pinE σ (E1 y))
 |_=>.bad)
def OR (P:Program) {β:Type} (t:T P β) (o:Option β) (c:Code) (s:(Nat→Loc)→St) (rs:List RS) (enc:β→AV×List (Nat×Ent)) (E1:β→List (Nat×Ent)):OT:=.eq o (t.den some) (.and (.all fun y=>.eq (zDv (E1 y)) true .ok) (.all fun σ=>goV P 100000 t [] c (s σ) (KR rs enc E1 σ)))
theorem CrT {β:Type} (t:T P β) {f:FuncId} {fn:Func} {c:Code} {args:List AV} {E0:List (Nat×Ent)} {o:Option β} {r:β} (enc:β→AV×List (Nat×Ent)) (E1:β→List (Nat×Ent)) {rs:List RS} {vs:List ResultVar} (hf:P.funcs[f]?=some fn) (hb:fn.body=some c) (hvs:fn.results=vs.toArray) (hfit:FitsL P rs vs) (h:o=some r)
  (hO:OR P t o c (fun σ=>⟨args++List.replicate (fn.ntmps - args.length) .bot,pinE σ E0⟩) rs enc E1=(OR P t o c (fun σ=>⟨args++List.replicate (fn.ntmps - args.length) .bot,pinE σ E0⟩) rs enc E1).rf:=by kernel_rfl) (hl:Nat.ble rs.length 8=true:=by kernel_rfl):zIH P f args E0 (enc r).1 (enc r).2 (E1 r):=by
 obtain⟨h1,h2,h3⟩:=OT.of_rf _ hO;rw[h1]at h;refine zKX hf hb hvs hfit (Nat.le_of_ble_eq_true hl) fn.ntmps rfl (h2 r).1 fun σ=>zAr 100000 t [] c _ _ (h3 σ) some r h _ fun e t' kn' s' hK ht=>?_
 refine⟨z4I hK.1 ht,?_⟩;have hK:=hK.2;split at hK
 ·injection ht with ht;subst ht;exact zZB hK
 ·exact hK.elim
end
section
variable {P:Program}
theorem R.refQ {B:Fr} {w0:World} {ok0 ok ok':Nat→Prop} {σ:Nat→Loc} {s:St} {a:Act} {w w':World} (h:R B w0 ok0 ok σ s a w) {m:List (Nat×Nat)} {E0 E1:List (Nat×Ent)} {rb:Nat→Prop}
  (hm:zHo m s E0) (hk:zBX E1=zBX E0) (hr:zO9 m E0=true) (hp:zDv E1=true)
  (hrb:∀g,rb g→B.n g∧¬ok g∧∀id e,s.ent id=some e→(σ id).blk≠some g)
  (hb:BelowX ⟨fun g=>w.heap.size≤g∨rb g,exOf (fun k=>σ (renI m k)) E0⟩ w w') (okM:∀g,ok g→ok' g) (okN:∀g,ok' g→ok g∨w.heap.size≤g∨rb g) (okL:∀g,ok' g→g<w'.heap.size)
  (hE:∀id e,E1.lookup id=some e→zAT ok' w' (σ (renI m id)) e):
  R B w0 ok0 ok' (fun id=>σ id) ⟨s.T,updE m s.E E1⟩ a w'∧∀id e,(St.mk s.T (updE m s.E E1)).ent id=some e→∃old,s.ent id=some old:=by
 have hsz:=hb.size;have key0:∀k e,E1.lookup k=some e→∃f,E0.lookup k=some f:=by
  intro k e hke;have h1:=zBp E1 k e hke;rw[hk]at h1;exact zGI E0 k h1
 have hold:∀k e,E1.lookup k=some e→∃f,s.E.lookup (renI m k)=some f:=by
  intro k e hke;obtain⟨f0,hf0⟩:=key0 k e hke;obtain⟨f,hf,_⟩:=zBc (qU m s E0 k f0 hm hf0);exact⟨f,hf⟩
 have hr1:zDJ ((zBX E1).map (renI m))=true:=by rw[hk];exact hr
 have look:=zNC m s.E E1 hr1 hold;have cases_:∀j f,(St.mk s.T (updE m s.E E1)).ent j=some f→(∃k e old,E1.lookup k=some e∧renI m k=j∧s.ent j=some old∧f=reE old e)∨((∀k e,E1.lookup k=some e→renI m k≠j)∧s.ent j=some f):=by
  intro j f hj;have h1:(updE m s.E E1).lookup j=some f:=hj;rw[look]at h1;cases hfd:E1.find? (fun p=>renI m p.1==j) with
  |some p=>
   rw[hfd]at h1;obtain⟨h2,h3⟩:=zNs m E1 j p hr1 hfd;obtain⟨old,hold1⟩:=hold p.1 p.2 h2;rw[h3]at hold1;rw[hold1]at h1;injection h1 with h1;exact .inl ⟨p.1,p.2,old,h2,h3,hold1,h1.symm⟩
  |none=>
   rw[hfd]at h1;refine .inr ⟨fun k e hke hkj=>?_,h1⟩;rw[List.find?_eq_none]at hfd;have hmem:∀(L:List (Nat×Ent)),L.lookup k=some e→(k,e)∈L:=by
    intro L
    induction L with
    |nil=>intro h;simp at h
    |cons q qs ih=>
     intro h;obtain⟨q1,q2⟩:=q;simp only[List.lookup]at h;cases hq:k==q1 with
     |true=>
      rw[hq]at h;injection h with h;have:k=q1:=by simpa using hq
      subst this;subst h;exact zl
     |false=>
      rw[hq]at h;exact zm _ (ih h)
   exact hfd (k,e) (hmem E1 hke) (by simpa using hkj)
 have exE:∀g,exOf (fun k=>σ (renI m k)) E0 g→∃k f0,E0.lookup k=some f0∧(σ (renI m k)).blk=some g:=fun g ⟨k,f0,h1,h2⟩=>⟨k,f0,h1,h2⟩
 have exNot:∀g,ok g→¬exOf (fun k=>σ (renI m k)) E0 g:=by
  intro g hg hx;obtain⟨k,f0,h1,h2⟩:=exE g hx;obtain⟨f,hf,_⟩:=zBc (qU m s E0 k f0 hm h1);exact (h.core.blk _ f g hf h2).1 hg
 have hwok:∀g,ok g→w'.heap[g]?=w.heap[g]?:=fun g hg=>hb.block g (fun hx=>by
  rcases hx with hx|hx
  ·exact Nat.not_le_of_lt (h.core.okL g hg) hx
  ·exact (hrb g hx).2.1 hg) (exNot g hg)
 have entOld:∀j f,(St.mk s.T (updE m s.E E1)).ent j=some f→∃old,s.ent j=some old∧f.pin=old.pin:=by
  intro j f hj;rcases cases_ j f hj with⟨k,e,old,h1,h2,h3,rfl⟩|⟨_,h2⟩
  ·exact⟨old,h3,zZo old e (zCU E1 k e hp h1)⟩
  ·exact⟨f,h2,rfl⟩
 refine⟨?_,fun j f hj=>by obtain⟨old,h1,_⟩:=entOld j f hj;exact⟨old,h1⟩⟩;refine⟨⟨h.core.len,okL,h.core.lib.mono okM hwok,fun t=>(h.core.tmp t).mono0 okM hwok,fun j f hj=>?_,fun j f g hj hg=>?_,fun i j f1 f2 g hi hj h1 h2=>?_⟩,h.defers,?_,fun g hg=>h.base g (Nat.le_trans hsz hg),fun g hg=>okM g (h.old g hg),fun g hg=>?_,fun j f g hj hg=>?_⟩
 ·rcases cases_ j f hj with⟨k,e,old,h1,h2,h3,rfl⟩|⟨h1,h2⟩
  ·have h4:=hE k e h1;rw[h2]at h4;exact z2B (h.core.ent j old h3) h4 (zCU E1 k e hp h1)
  ·refine (h.core.ent j f h2).mono okM hwok fun g hg=>hb.block g (fun hx=>?_) fun hx=>?_
   ·rcases hx with hx|hx
    ·exact Nat.not_le_of_lt (h.core.blk j f g h2 hg).2 hx
    ·exact (hrb g hx).2.2 j f h2 hg
   ·obtain⟨k,f0,h3,h4⟩:=exE g hx;obtain⟨f2,hf2,_⟩:=zBc (qU m s E0 k f0 hm h3);have h5:=h.core.inj _ _ _ _ _ h2 hf2 hg h4;have h6:=zBp E0 k f0 h3;rw[←hk]at h6;obtain⟨e1,he1⟩:=zGI E1 k h6;exact h1 k e1 he1 h5.symm
 ·obtain⟨old,h1,h2⟩:=entOld j f hj;obtain⟨h3,h4⟩:=h.core.blk j old g h1 hg;refine⟨fun h5=>?_,Nat.lt_of_lt_of_le h4 hsz⟩;rcases okN g h5 with h6|h6|h6
  ·exact h3 h6
  ·omega
  ·exact (hrb g h6).2.2 j old h1 hg
 ·obtain⟨o1,a1,_⟩:=entOld i f1 hi;obtain⟨o2,a2,_⟩:=entOld j f2 hj;exact h.core.inj i j o1 o2 g a1 a2 h1 h2
 ·refine h.below.trans ⟨hb.os,hb.tape,hb.output,hb.size,fun k hk1 hk2=>?_⟩;refine hb.block k (fun hle=>?_) fun hx=>?_
  ·rcases hle with hle|hle
   ·exact hk1 (h.base k hle)
   ·exact hk1 (hrb k hle).1
  ·obtain⟨k2,f0,h3,h4⟩:=exE k hx;obtain⟨f2,hf2,_⟩:=zBc (qU m s E0 k2 f0 hm h3);have h5:=h.own _ f2 k hf2 h4;split at h5
   ·exact hk2 h5
   ·exact hk1 h5
 ·rcases okN g hg with h1|h1|h1
  ·exact h.fresh g h1
  ·exact .inr (h.base g h1)
  ·exact .inr (hrb g h1).1
 ·obtain⟨old,h1,h2⟩:=entOld j f hj;rw[h2];exact h.own j old g h1 hg
theorem z7c {B:Fr} {w0:World} {ok0 ok:Nat→Prop} {σ:Nat→Loc} {s:St} {a:Act} {w:World} (hR:R B w0 ok0 ok σ s a w) (k:Nat) (l:Loc) {T sz:Nat} {els:List (List Tr)} (hk:s.ent k=none) (he:zAT ok w l (.arr T sz els))
  (hl:∀g,l.blk=some g→B.n g∧¬ok g∧g<w.heap.size∧∀id e,s.ent id=some e→(σ id).blk≠some g):
  R B w0 ok0 ok (fun i=>if i=k then l else σ i) ⟨zBW k s.T,(k,.qarr l T sz els)::s.E⟩ a w:=by
 have lk:∀i e,(St.mk (zBW k s.T) ((k,.qarr l T sz els)::s.E)).ent i=some e→(i=k∧e=.qarr l T sz els)∨(i≠k∧s.ent i=some e):=by
  intro i e hi;unfold St.ent at hi;simp only[List.lookup]at hi;cases hik:(i==k) with
  |true=>rw[hik]at hi;exact .inl ⟨by simpa using hik,by simpa using hi.symm⟩
  |false=>rw[hik]at hi;exact .inr ⟨by simpa using hik,hi⟩
 refine⟨⟨by simpa [zE2] using hR.core.len,hR.core.okL,hR.core.lib,fun t=>?_,fun i e hi=>?_,fun i e g hi hg=>?_,fun i i2 e f2 g hi hi2 h1 h2=>?_⟩,hR.defers,hR.below,hR.base,hR.old,hR.fresh,fun i e g hi hg=>?_⟩
 ·have e0:(St.mk (zBW k s.T) ((k,.qarr l T sz els)::s.E)).get t=(bif (s.get t).mid k then AV.bot else s.get t):=by
   unfold St.get;exact zGK k s.T t
  rw[e0];cases hm:(s.get t).mid k with
  |true=>trivial
  |false=>exact (hR.core.tmp t).mid k (fun _ h=>h) (fun _ _=>rfl) hm (fun i hi=>by simp[hi])
 ·rcases lk i e hi with⟨rfl,rfl⟩|⟨h1,h2⟩
  ·simp only[if_true];exact⟨rfl,he⟩
  ·simp only[if_neg h1];exact hR.core.ent i e h2
 ·rcases lk i e hi with⟨rfl,rfl⟩|⟨h1,h2⟩
  ·simp only[if_true]at hg;exact⟨(hl g hg).2.1,(hl g hg).2.2.1⟩
  ·simp only[if_neg h1]at hg;exact hR.core.blk i e g h2 hg
 ·rcases lk i e hi with⟨a1,_⟩|⟨a1,a2⟩<;>rcases lk i2 f2 hi2 with⟨b1,_⟩|⟨b1,b2⟩
  ·rw[a1,b1]
  ·simp only[a1,if_true]at h1;simp only[if_neg b1]at h2;exact absurd h2 ((hl g h1).2.2.2 i2 f2 b2)
  ·simp only[b1,if_true]at h2;simp only[if_neg a1]at h1;exact absurd h1 ((hl g h2).2.2.2 i e a2)
  ·simp only[if_neg a1]at h1;simp only[if_neg b1]at h2;exact hR.core.inj _ _ _ _ _ a2 b2 h1 h2
 ·rcases lk i e hi with⟨rfl,rfl⟩|⟨h1,h2⟩
  ·simp only[if_true]at hg;exact (hl g hg).1
  ·simp only[if_neg h1]at hg;exact hR.own i e g h2 hg
def zJO (P:Program) (f:FuncId) (args:List AV) (k T sz:Nat) (E0:Loc→List (Nat×Ent)) (els0:List (List Tr)) (t:Tr) (E1:Loc→List (Nat×Ent)) (els1:List (List Tr)):Prop:=
 ∀ok σ w vs,(∀g,ok g→g<w.heap.size)→Lb ok w→RelA ok σ w args vs→Held ok σ w (E0 (σ k))→zAT ok w (σ k) (.arr T sz els0)→
  (∀g,(σ k).blk=some g→¬ok g∧g<w.heap.size∧¬exOf σ (E0 (σ k)) g)→
  Calls P f vs.toArray w (fun e w'=>∃v ok' l,e=.returned v∧BelowX ⟨fun g=>w.heap.size≤g∨(σ k).blk=some g,exOf σ (E0 (σ k))⟩ w w'∧(∀g,ok g→ok' g)∧(∀g,ok' g→ok g∨w.heap.size≤g∨(σ k).blk=some g)∧(∀g,ok' g→g<w'.heap.size)∧
   Rd ok' w' t v∧(∀id e,(E1 l).lookup id=some e→zAT ok' w' (σ id) e)∧zAT ok' w' l (.arr T sz els1)∧∀g,l.blk=some g→(w.heap.size≤g∨(σ k).blk=some g)∧¬ok' g∧g<w'.heap.size∧¬exOf σ (E0 (σ k)) g)
def PostQ (rs:List RS) (k T sz:Nat) (t:Tr) (els1:List (List Tr)) (E1:Loc→List (Nat×Ent)) (e:Exit) (s:St):Prop:=Post rs (.c t) [] e s∧∃l,s.ent k=some (.qarr l T sz els1)∧HasE s (E1 l)
theorem zUA {f:FuncId} {fn:Func} {c:Code} {args:List AV} {k T sz:Nat} {E0 E1:Loc→List (Nat×Ent)} {els0 els1:List (List Tr)} {t:Tr} {r:RS} {v0:ResultVar} (hf:P.funcs[f]?=some fn) (hb:fn.body=some c) (hvs:fn.results=[v0].toArray) (hfit:FitsL P [r] [v0]) (n:Nat) (hn:fn.ntmps=n)
  (hnk:∀l,(E0 l).lookup k=none) (hke:∀l l',zBX (E1 l')=zBX (E0 l)) (hnp:∀l,zDv (E1 l)=true) (h:∀σ,V P c ⟨args++List.replicate (n - args.length) .bot,(k,.qarr (σ k) T sz els0)::pinE σ (E0 (σ k))⟩ (PostQ [r] k T sz t els1 (fun l=>pinE σ (E1 l)))):zJO P f args k T sz E0 els0 t E1 els1:=by
 intro ok σ w zs hok hlib hargs hheld hrow hrl;refine calls_of_wp hf hb ?_
 subst hn;have look0:∀id e,((k,Ent.qarr (σ k) T sz els0)::pinE σ (E0 (σ k))).lookup id=some e→(id=k∧e=.qarr (σ k) T sz els0)∨(id≠k∧∃f,(E0 (σ k)).lookup id=some f∧e=f.pinned (σ id)):=by
  intro id e he;simp only[List.lookup]at he;cases hik:(id==k) with
  |true=>rw[hik]at he;exact .inl ⟨by simpa using hik,by simpa using he.symm⟩
  |false=>
   rw[hik]at he;have he:(pinE σ (E0 (σ k))).lookup id=some e:=he;rw[zGH]at he;cases h1:(E0 (σ k)).lookup id with
   |none=>rw[h1]at he;cases he
   |some f=>
    rw[h1]at he;injection he with he;exact .inr ⟨by simpa using hik,f,rfl,he.symm⟩
 have hR:R ⟨fun g=>w.heap.size≤g∨(σ k).blk=some g,exOf σ (E0 (σ k))⟩ w ok ok σ ⟨args++List.replicate (fn.ntmps - args.length) .bot,(k,.qarr (σ k) T sz els0)::pinE σ (E0 (σ k))⟩ {tmps:=zs.toArray++Array.replicate (fn.ntmps - zs.toArray.size) undef,defers:=[]} w:=by
  refine⟨⟨?_,hok,hlib,fun t=>hargs.initE _ fn.ntmps t,fun id e he=>?_,fun id e g he hg=>?_,fun i j e f g hi hj h1 h2=>?_⟩,rfl,BelowX.refl _ _,fun _ h=>.inl h,fun g hg=>hg,fun g hg=>.inl hg,fun id e g he hg=>?_⟩
  ·simp[hargs.len]
  ·rcases look0 id e he with⟨rfl,rfl⟩|⟨_,f,h1,rfl⟩
   ·exact⟨rfl,hrow⟩
   ·obtain⟨h2,h3⟩:=hheld.ent id f h1;exact zJ0 h2 h3
  ·rcases look0 id e he with⟨rfl,rfl⟩|⟨_,f,h1,rfl⟩
   ·exact⟨(hrl g hg).1,(hrl g hg).2.1⟩
   ·exact hheld.blk id f g h1 hg
  ·rcases look0 i e hi with⟨rfl,rfl⟩|⟨_,f1,a1,rfl⟩<;>rcases look0 j f hj with⟨rfl,rfl⟩|⟨_,f2,a2,rfl⟩
   ·rfl
   ·exact absurd ⟨j,f2,a2,h2⟩ (hrl g h1).2.2
   ·exact absurd ⟨i,f1,a1,h1⟩ (hrl g h2).2.2
   ·exact hheld.inj i j f1 f2 g a1 a2 h1 h2
  ·rcases look0 id e he with⟨rfl,rfl⟩|⟨_,f,h1,rfl⟩
   ·exact .inr hg
   ·obtain⟨h2,h3⟩:=hheld.ent id f h1;rw[if_pos (zHn h3)];exact⟨id,f,h1,hg⟩
 refine wp_mono (h _ _ _ _ _ _ _ _ hR) ?_
 rintro e a' w' ⟨s',ok',σ',⟨⟨he,hd,hoks,ho⟩,l,hsk,hE⟩,hR'⟩;have hσk:∀(j:Nat) q,[r][j]?=some q→zKR σ' s' [r] (0+j)=locS σ' s' q:=fun j q hj=>by
  unfold zKR;rw[Nat.zero_add,hj]
 obtain⟨xs,hrun,hrel⟩:=zQH (σ':=zKR σ' s' [r]) hR'.core 0 hfit hoks hσk;have hres:=zO8 hvs hrun;obtain⟨v,hv,hvr⟩:∃v,(results fn a'.tmps).run P w'=.ok v w'∧Rd ok' w' t v:=by
  have hxl:=hrun.len;have h2:outS s' 0 r=(.c t,[]):=ho;have h1:xs.length=1:=by rw[←hxl];rfl
  refine⟨_,hres,?_⟩;rw[dif_pos h1]
  match xs,h1,hrel with
  |[x],_,hrel=>
   have h3:=hrel.1;have h4:(outS s' 0 r).1=.c t:=by rw[h2]
   rw[h4]at h3;exact h3
 have hend:∀id e,(E1 l).lookup id=some e→zAT ok' w' (σ id) e:=by
  intro id e he;have h1:(pinE σ (E1 l)).lookup id=some (e.pinned (σ id)):=by rw[zGH,he];rfl
  have h2:=hR'.core.ent id _ (zH0 s' _ id _ hE h1);have h3:=zCU (E1 l) id e (hnp l) he;obtain⟨h4,h5⟩:=zNh h2 h3;rw[h4]at h5;exact h5
 have hl:σ' k=l:=(hR'.core.ent k _ hsk).1;have hrow1:zAT ok' w' l (.arr T sz els1):=by
  have h1:=(hR'.core.ent k _ hsk).2;rw[hl]at h1;exact h1
 have hfr:∀g,l.blk=some g→(w.heap.size≤g∨(σ k).blk=some g)∧¬ok' g∧g<w'.heap.size∧¬exOf σ (E0 (σ k)) g:=by
  intro g hg;have hg2:(σ' k).blk=some g:=by rw[hl];exact hg
  have h1:=hR'.own k _ g hsk hg2;have h2:=hR'.core.blk k _ g hsk hg2;refine⟨h1,h2.1,h2.2,fun hx=>?_⟩;obtain⟨id,e0,h3,h4⟩:=hx;have h5:=zBp _ id e0 h3;rw[←hke (σ k) l]at h5;obtain⟨e1,h6⟩:=zGI (E1 l) id h5;have h7:(pinE σ (E1 l)).lookup id=some (e1.pinned (σ id)):=by rw[zGH,h6];rfl
  have h8:=zH0 s' _ id _ hE h7;have h9:=(zNh (hR'.core.ent id _ h8) (zCU (E1 l) id e1 (hnp l) h6)).1;have h10:=hR'.core.inj id k _ _ g h8 hsk (by rw[h9];exact h4) hg2;subst h10;rw[hnk]at h3;cases h3
 rcases he with rfl|rfl
 ·exact⟨hR'.defers,v,hv,v,ok',l,rfl,hR'.below,hR'.old,hR'.fresh,hR'.core.okL,hvr,hend,hrow1,hfr⟩
 ·exact⟨hR'.defers,v,hv,v,ok',l,rfl,hR'.below,hR'.old,hR'.fresh,hR'.core.okL,hvr,hend,hrow1,hfr⟩
theorem z3y {o:Oper} {s:St} {f:FuncId} {xs:Array Operand} {ts:Array TypeId} {args:List AV} {k T sz kc:Nat} {E0 E1:Loc→List (Nat×Ent)} {els0 els1:List (List Tr)} {t:Tr} {l:Loc} (m:List (Nat×Nat)) (d:Nat) (hS:zJO P f args k T sz E0 els0 t E1 els1) (hc:∀args w,(callFunc f args).run P w=.ok (.enter f args) w)
  (ho:o.op=.call {callee:=.value (.func f),args:=xs,argTypes:=ts}) (hd:o.dst=some d) (ha:evL s xs.toList=renL m args) (ht:zMQ args=true) (hkc:renI m k=kc) (hrow:s.ent kc=some (.qarr l T sz els0)) (hm:zHo m ⟨s.T,rmE kc s.E⟩ (E0 l)) (hk:∀l',zBX (E1 l')=zBX (E0 l)) (hr:zO9 m (E0 l)=true)
  (hp:∀l',zDv (E1 l')=true) (hp0:zDv (E0 l)=true):
  XS P o s fun s'=>∃l':Loc,s'=(⟨zBW kc s.T,(kc,.qarr l' T sz els1)::updE m (rmE kc s.E) (E1 l')⟩:St).put d (.c t):=by
 intro B w0 ok0 ok σ a w hR K Q hK;subst hkc;have hl:σ (renI m k)=l:=(hR.core.ent _ _ hrow).1;have hrow2:zAT ok w l (.arr T sz els0):=by
  have h1:=(hR.core.ent _ _ hrow).2;rw[hl]at h1;exact h1
 have ent0:∀id e,(St.mk s.T (rmE (renI m k) s.E)).ent id=some e→id≠renI m k∧s.ent id=some e:=by
  intro id e he;have he:(rmE (renI m k) s.E).lookup id=some e:=he;rw[zC3]at he;split at he
  ·cases he
  ·rename_i h1;exact⟨h1,he⟩
 have hR0:R B w0 ok0 ok σ ⟨s.T,rmE (renI m k) s.E⟩ a w:=hR.le ⟨Nat.le_refl _,fun t=>.inr rfl,fun id e he=>(ent0 id e he).2⟩;have hrb:∀g,l.blk=some g→B.n g∧¬ok g∧g<w.heap.size∧∀id e,(St.mk s.T (rmE (renI m k) s.E)).ent id=some e→(σ id).blk≠some g:=by
  intro g hg;have hg2:(σ (renI m k)).blk=some g:=by rw[hl];exact hg
  refine⟨hR.own _ _ g hrow hg2,(hR.core.blk _ _ g hrow hg2).1,(hR.core.blk _ _ g hrow hg2).2,fun id e he h1=>?_⟩;obtain⟨h2,h3⟩:=ent0 id e he;exact h2 (hR.core.inj _ _ _ _ g h3 hrow h1 hg2)
 have hheld:Held ok (fun k=>σ (renI m k)) w (E0 l):=by
  refine⟨fun id e he=>?_,fun id e g he hg=>?_,fun i j e f g hi hj h1 h2=>?_⟩
  ·exact⟨hR0.core.entc _ _ (qU m _ (E0 l) id e hm he),zCU (E0 l) id e hp0 he⟩
  ·obtain⟨f,hf,_⟩:=zBc (qU m _ (E0 l) id e hm he);exact hR0.core.blk _ f g hf hg
  ·obtain⟨f1,hf1,_⟩:=zBc (qU m _ (E0 l) i e hm hi);obtain⟨f2,hf2,_⟩:=zBc (qU m _ (E0 l) j f hm hj);exact zJ1 (renI m) _ hr i (zBp (E0 l) i e hi) j (zBp (E0 l) j f hj) (hR0.core.inj _ _ _ _ _ hf1 hf2 h1 h2)
 have hS':=hS ok (fun k=>σ (renI m k)) w _ hR.core.okL hR.core.lib (zMO ht (ha▸zMY hR.core xs.toList));simp only[hl]at hS';refine zL8 hc ho (Calls.mono (hS' hheld hrow2 fun g hg=>⟨(hrb g hg).2.1,(hrb g hg).2.2.1,fun hx=>?_⟩) ?_)
 ·obtain⟨id,e0,h1,h2⟩:=hx;obtain⟨f,hf,_⟩:=zBc (qU m _ (E0 l) id e0 hm h1);exact (hrb g hg).2.2.2 _ f hf h2
 rintro e w' ⟨v,ok',l',he,hb,okM,okN,okL,hrd,hE,hrow',hl'⟩;obtain⟨hR2,hold⟩:=hR0.refQ (rb:=fun g=>l.blk=some g) hm (hk l') hr (hp l') (fun g hg=>⟨(hrb g hg).1,(hrb g hg).2.1,(hrb g hg).2.2.2⟩) hb okM okN okL hE;have hnone:(St.mk s.T (updE m (rmE (renI m k) s.E) (E1 l'))).ent (renI m k)=none:=by
  cases hh:(St.mk s.T (updE m (rmE (renI m k) s.E) (E1 l'))).ent (renI m k) with
  |none=>rfl
  |some f=>
   obtain⟨old,h1⟩:=hold _ f hh;exact absurd rfl (ent0 _ old h1).1
 have hR3:=z7c hR2 (renI m k) l' hnone hrow' fun g hg=>by
  obtain⟨h1,h2,h3,h4⟩:=hl' g hg;refine⟨?_,h2,h3,fun id f hf hg2=>?_⟩
  ·rcases h1 with h1|h1
   ·exact hR.base g h1
   ·exact (hrb g h1).1
  ·obtain⟨old,h5⟩:=hold id f hf;rcases h1 with h1|h1
   ·have:=(hR0.core.blk id old g h5 hg2).2;omega
   ·exact (hrb g h1).2.2.2 id old h5 hg2
 refine⟨v,he,?_⟩;rw[hd];exact hK _ _ _ _ _ ⟨l',rfl⟩ (hR3.put (av:=.c t) hrd)
def zKQ (s:St) (id n:Nat):List Tr:=match s.entc id with
 |some (.box cs)=>cs.drop n
 |_=>[]
def fRt {α:Type} {f:FuncId} (hcf:CfW P f) (m:Option α) (k n:Nat) {args:List AV} {E0:List Tr→List (Nat×Ent)} {av:α→AV} {ne:α→List (Nat×Ent)} {E1:List Tr→α→List (Nat×Ent)} (hS:∀rest y,m=some y→zIH P f args (E0 rest) (av y) (ne y) (E1 rest y)):FX P α where
 m:=m
 run o s y K:=match o.op with
  | .call ⟨.value (.func g),xs,_⟩=>(fR hcf m (hS (zKQ s (renI (renC args (evL s xs.toList)) k) n))).run o s y K
  |_=>.bad
 ok o s K y hm h:=by
  split at h
  ·exact (fR hcf m (hS _)).ok o s K y hm h
  ·exact h.elim
def fQ {α:Type} {f:FuncId} (hcf:CfW P f) (m:Option α) (k0 n k T sz:Nat) {args:List AV} {E0:List Tr→Loc→List (Nat×Ent)} {els0:List (List Tr)} {t:α→Tr} {E1:List Tr→α→Loc→List (Nat×Ent)} {els1:α→List (List Tr)} (hS:∀rest y,m=some y→zJO P f args k T sz (E0 rest) els0 (t y) (E1 rest y) (els1 y)):FX P α where
 m:=m
 run o s y K:=match o.op with
  | .call ⟨.value (.func g),xs,_⟩=>(fun (mm:List (Nat×Nat)) (rest:List Tr) (kc:Nat)=>OT.eq (Nat.beq g f) true (.eq (evL s xs.toList) (renL mm args) (match s.ent kc with
    |some (.qarr l T' sz' els)=>.eq T' T (.eq sz' sz (.eq els els0 (.eq (zMQ args&&(zO9 mm (E0 rest l)&&zDv (E0 rest l))) true (mOT mm ⟨s.T,rmE kc s.E⟩ (E0 rest l)
     (.and (.all fun l'=>.eq (zBX (E1 rest y l')) (zBX (E0 rest l)) (.eq (zDv (E1 rest y l')) true .ok)) (match o.dst with
      |some d=>.all fun l':Loc=>K ((St.mk (zBW kc s.T) ((kc,.qarr l' T sz (els1 y))::updE mm (rmE kc s.E) (E1 rest y l'))).put d (.c (t y)))
      |none=>.bad))))))
    |_=>.bad))) (renC args (evL s xs.toList)) (zKQ s (renI (renC args (evL s xs.toList)) k0) n) (renI (renC args (evL s xs.toList)) k)
  |_=>.bad
 post γ o s y:=match o.op,o.dst with
  | .call ⟨_,xs,_⟩,some d=>(fun (mm:List (Nat×Nat)) (rest:List Tr) (kc:Nat)=>some ((St.mk (zBW kc s.T) ((kc,.qarr (γ kc) T sz (els1 y))::updE mm (rmE kc s.E) (E1 rest y (γ kc)))).put d (.c (t y))))
    (renC args (evL s xs.toList)) (zKQ s (renI (renC args (evL s xs.toList)) k0) n) (renI (renC args (evL s xs.toList)) k)
  |_,_=>none
 ok o s K y hm h:=by
  split at h
  ·rename_i g xs ts ho;obtain⟨h1,h2,h3⟩:=h;have hgf:=Nat.eq_of_beq_eq_true h1;subst hgf;split at h3
   ·rename_i l T' sz' els hrow;obtain⟨rfl,rfl,rfl,h4,h5⟩:=h3;simp only[zj]at h4;obtain⟨h6,h7⟩:=zYv h5;obtain⟨h8,h9⟩:=h7;split at h9
    ·rename_i d hd;exact fun B w0 ok0 ok σ a w hR K Q hK=>z3y _ d (hS _ y hm) hcf ho hd h2 h4.1 rfl hrow h6 (fun l'=>(h8 l').1) h4.2.1 (fun l'=>(h8 l').2.1) h4.2.2 B w0 ok0 ok σ a w hR K Q fun s' a' w' ok' σ' hl hR'=>by
      obtain⟨l',rfl⟩:=hl;exact hK _ a' w' ok' σ' (h9 l') hR'
    ·exact h9.elim
   ·exact h3.elim
  ·exact h.elim
end
section
variable {P:Program}
def pinH (t k:Nat):HT where
 run s K:=match s.get t,s.ent k with
  | .ow k',some (.arr T sz els)=>.eq k' k (.all fun l:Loc=>K ⟨s.T.set t (.c (.v (zE l))),setE k (.qarr l T sz els) s.E⟩)
  |_,_=>.bad
 ok s K h B w0 ok0 ok σ a w hR:=by
  split at h
  ·rename_i k' T sz els ht hk;obtain⟨rfl,h⟩:=h;have h1:=hR.core.tmp t;rw[ht]at h1;have h2:a.tmps.getD t undef=zE (σ k'):=h1;refine⟨_,ok,σ,h (σ k'),zGm hR hk (fun h=>⟨rfl,h⟩) rfl ?_⟩;rw[h2];exact Rd.v _ rfl
  ·exact h.elim
def zNF (t k:Nat):HT where
 run s K:=match s.get t,s.ent k with
  | .c (.v x),some (.qarr l T sz els)=>.eq x (zE l) (K ⟨s.T.set t (.ow k),setE k (.arr T sz els) s.E⟩)
  |_,_=>.bad
 post s:=match s.ent k with
  |some (.qarr _ T sz els)=>some ⟨s.T.set t (.ow k),setE k (.arr T sz els) s.E⟩
  |_=>none
 ok s K h B w0 ok0 ok σ a w hR:=by
  split at h
  ·rename_i x l T sz els ht hk;obtain⟨rfl,h⟩:=h;refine⟨_,ok,σ,h,zGm hR hk (fun h=>h.2) rfl ?_⟩;have h1:=hR.core.tmp t;rw[ht]at h1;have h2:Rd ok w (.v (zE l)) (a.tmps.getD t undef):=h1;have h3:=(hR.core.ent k _ hk).1;show _=zE (σ k);rw[h3];generalize a.tmps.getD t undef=y at h2;cases h2;rfl
  ·exact h.elim
def seeH (t k:Nat):HT where
 run s K:=match s.get t,s.ent k with
  | .c (.v x),some (.qarr l T sz els)=>.eq x (zE l) (K ⟨s.T.set t (.ow k),setE k (.qarr l T sz els) s.E⟩)
  |_,_=>.bad
 post s:=match s.ent k with
  |some (.qarr l T sz els)=>some ⟨s.T.set t (.ow k),setE k (.qarr l T sz els) s.E⟩
  |_=>none
 ok s K h B w0 ok0 ok σ a w hR:=by
  split at h
  ·rename_i x l T sz els ht hk;obtain⟨rfl,h⟩:=h;refine⟨_,ok,σ,h,zGm hR hk (fun h=>h) rfl ?_⟩;have h1:=hR.core.tmp t;rw[ht]at h1;have h2:Rd ok w (.v (zE l)) (a.tmps.getD t undef):=h1;have h3:=(hR.core.ent k _ hk).1;show _=zE (σ k);rw[h3];generalize a.tmps.getD t undef=y at h2;cases h2;rfl
  ·exact h.elim
def nilH (k T sz:Nat):HT where
 run s K:=.eq (s.ent k) none (.eq (Nat.blt 0 sz) true (K ⟨zBW k s.T,(k,.qarr loc0 T sz [])::s.E⟩))
 ok s K h B w0 ok0 ok σ a w hR:=by
  obtain⟨h1,h2,h3⟩:=h;exact⟨_,ok,_,h3,zYW hR k T sz h1 (Nat.le_of_ble_eq_true h2)⟩
def z0L (k id2 j:Nat):HT where
 run s K:=match s.ent k,s.ent id2 with
  |some (.qarr l _ _ els),some (.box cs)=>(match cs[j]? with
   |some (.v x)=>.eq x (zE l) (K ⟨s.T,setE id2 (.box (cs.set j (.sl els))) (rmE k s.E)⟩)
   |_=>.bad)
  |_,_=>.bad
 ok s K h B w0 ok0 ok σ a w hR:=by
  split at h
  ·rename_i l T sz els cs hk h2;split at h
   ·rename_i x hj;obtain⟨rfl,h⟩:=h;exact⟨_,_,σ,h,z4G hR k id2 j hk h2 hj⟩
   ·exact h.elim
  ·exact h.elim
def zVw (id j:Nat):HT where
 run s K:=match s.ent id with
  |some (.box cs)=>(match cs[j]? with
   |some (.v (.slice none 0 0))=>K ⟨s.T,setE id (.box (cs.set j (.sl []))) s.E⟩
   |_=>.bad)
  |_=>.bad
 ok s K h B w0 ok0 ok σ a w hR:=by
  split at h
  ·rename_i cs he;split at h
   ·rename_i hj;have e0:s.T.set s.T.length .bot=s.T:=List.set_eq_of_length_le (Nat.le_refl _);have hR1:=zGm (t:=s.T.length) (av:=.bot) hR he (e':=.box (cs.set j (.sl []))) (fun h=>by
     obtain⟨g,arr,T',g1,g2,g3⟩:=h;refine⟨g,arr,T',g1,g2,?_⟩;obtain⟨u,hu1,hu2⟩:=g3.get j _ hj;have huv:u=.slice none 0 0:=by cases hu2;rfl
     subst huv;have hset:=g3.set j (Rd.nl (ok:=ok) (w:=w) none 0);have:arr.toList.set j (.slice none 0 0)=arr.toList:=by
      apply List.ext_getElem?;intro q;rw[List.getElem?_set];split
      ·rename_i hq;subst hq;split
       ·exact hu1.symm
       ·rename_i hlt;rw[List.getElem?_eq_none (by omega)]
      ·rfl
     rwa [this]at hset) rfl trivial
    rw[e0]at hR1;exact⟨_,ok,σ,h,hR1⟩
   ·exact h.elim
  ·exact h.elim
def nilC:Tr→Tr
 | .v (.slice none 0 0)=>.sl []
 |c=>c
theorem z41 {ok:Nat→Prop} {w:World} {c:Tr} {x:Value} (h:Rd ok w c x):Rd ok w (nilC c) x:=by
 unfold nilC;split
 ·cases h;exact Rd.nl none 0
 ·exact h
theorem z2O {ok:Nat→Prop} {w:World} {cs:List Tr} {xs:List Value} (h:RdL ok w cs xs):RdL ok w (cs.map nilC) xs:=by
 induction h with
 |nil=>exact .nil
 |cons h hs ih=>exact .cons (z41 h) ih
def z5z (t:Nat):HT where
 run s K:=match s.get t with
  | .ag cs=>K ⟨s.T.set t (.ag (cs.map nilC)),s.E⟩
  |_=>.bad
 ok s K h B w0 ok0 ok σ a w hR:=by
  split at h
  ·rename_i cs ht;refine⟨_,ok,σ,h,⟨⟨by simpa using hR.core.len,hR.core.okL,hR.core.lib,fun u=>?_,hR.core.ent,hR.core.blk,hR.core.inj⟩,hR.defers,hR.below,hR.base,hR.old,hR.fresh,hR.own⟩⟩;have e0:=zCC s t u (.ag (cs.map nilC));unfold St.put at e0;have e1:(St.mk (s.T.set t (.ag (cs.map nilC))) s.E).get u=if t=u∧t<s.T.length then .ag (cs.map nilC) else s.get u:=e0;rw[e1];split
   ·rename_i hu;have h1:=hR.core.tmp t;rw[ht]at h1;obtain⟨vs,h2,h3⟩:=(h1:Rel1 ok σ w (.ag cs) (a.tmps.getD t undef))
    rw[←hu.1];exact⟨vs,h2,z2O h3⟩
   ·exact hR.core.tmp u
  ·exact h.elim
def KQ {β:Type} (rs:List RS) (k te sz:Nat) (t:β→Tr) (els1:β→List (List Tr)) (E1:β→Loc→List (Nat×Ent)) (σ:Nat→Loc):Exit→T P β→List Nat→St→OT:=fun e t' kn s'=>.and (KF rs (fun y=>(.c (t y),[])) e t' kn s') (match t' with
 | .ret y=>(match s'.ent k with
  |some (.qarr l te' sz' els)=>.eq te' te (.eq sz' sz (.eq els (els1 y) (hOT s' (pinE σ (E1 y l)))))
  |_=>.bad)
 |_=>.bad)
def OQ (P:Program) {β:Type} (t:T P β) (o:Option β) (c:Code) (s:(Nat→Loc)→St) (rs:List RS) (k te sz:Nat) (E0:Loc→List (Nat×Ent)) (tt:β→Tr) (els1:β→List (List Tr)) (E1:β→Loc→List (Nat×Ent)):OT:=
 .eq o (t.den some) (.and (.all fun l=>.eq ((E0 l).lookup k) none .ok) (.and (.all fun y=>.all fun l=>.all fun l'=>.eq (zDv (E1 y l')) true (.eq (zBX (E1 y l')) (zBX (E0 l)) .ok)) (.all fun σ=>goV P 100000 t [] c (s σ) (KQ rs k te sz tt els1 E1 σ))))
theorem CqT {β:Type} (t:T P β) {f:FuncId} {fn:Func} {c:Code} {args:List AV} (k te sz:Nat) {E0:Loc→List (Nat×Ent)} {els0:List (List Tr)} {o:Option β} {r:β} (tt:β→Tr) (E1:β→Loc→List (Nat×Ent)) (els1:β→List (List Tr)) {rs:RS} {vs:ResultVar} (hf:P.funcs[f]?=some fn) (hb:fn.body=some c) (hvs:fn.results=[vs].toArray) (hfit:FitsL P [rs] [vs]) (h:o=some r)
  (hO:OQ P t o c (fun σ=>⟨args++List.replicate (fn.ntmps - args.length) .bot,(k,.qarr (σ k) te sz els0)::pinE σ (E0 (σ k))⟩) [rs] k te sz E0 tt els1 E1=(OQ P t o c (fun σ=>⟨args++List.replicate (fn.ntmps - args.length) .bot,(k,.qarr (σ k) te sz els0)::pinE σ (E0 (σ k))⟩) [rs] k te sz E0 tt els1 E1).rf:=by kernel_rfl):zJO P f args k te sz E0 els0 (tt r) (E1 r) (els1 r):=by
 obtain⟨h1,h2,h3,h4⟩:=OT.of_rf _ hO;rw[h1]at h;refine zUA hf hb hvs hfit fn.ntmps rfl (fun l=>(h2 l).1) (fun l l'=>(h3 r l l').2.1) (fun l=>(h3 r l l).1) fun σ=>zAr 100000 t [] c _ _ (h4 σ) some r h _ fun e t' kn' s' hK ht=>?_
 have hP:=z4I hK.1 ht;refine⟨hP,?_⟩;have hK:=hK.2;split at hK
 ·injection ht with ht;subst ht;split at hK
  ·rename_i l te' sz' els hk;obtain⟨rfl,rfl,rfl,h5⟩:=hK;exact⟨l,hk,zZB h5⟩
  ·exact hK.elim
 ·exact hK.elim
end
def tbF {α:Type} (f:Nat→α):Nat→Nat→List α
 |0,_=>[]
 |n+1,k=>f k::tbF f n (k+1)
def tab {α:Type} (n:Nat) (f:Nat→α):List α:=tbF f n 0
def flA {α:Type} (c:α→List Tr):List α→List Tr
 |[]=>[]
 |x::xs=>c x++flA c xs
theorem zJ9 {α:Type} {n:Nat} {f:Nat→α} {i:Int} {v:α} (h:getA n f i=some v):0≤i∧i<n∧v=f i.toNat:=by
 cases i with
 |ofNat k=>
  have h:(bif Nat.blt k n then some (f k) else none)=some v:=h;cases hb:Nat.blt k n with
  |false=>rw[hb]at h;cases h
  |true=>
   rw[hb]at h;have h1:k<n:=Nat.le_of_ble_eq_true hb;injection h with h;exact⟨Int.natCast_nonneg k,Int.ofNat_lt.2 h1,h.symm⟩
 |negSucc k=>cases h
theorem z0O {α:Type} {c:α→List Tr} {sz:Nat} (hc:∀v,(c v).length=sz):∀xs:List α,(flA c xs).length=xs.length*sz
 |[]=>by simp[flA]
 |x::xs=>by simp only[flA,List.length_append,hc,z0O hc xs,zf];rw[Nat.add_mul];omega
theorem zZf {α:Type} (f:Nat→α):∀n k:Nat,(tbF f n k).length=n
 |0,_=>rfl
 |n+1,k=>by simp[tbF,zZf f n (k+1)]
theorem zWN {α:Type} {c:α→List Tr} {sz:Nat} (hc:∀v,(c v).length=sz) (f:Nat→α):∀n k i:Nat,i<n→((flA c (tbF f n k)).drop (i*sz)).take sz=c (f (k+i))
 |0,_,i,h=>absurd h (Nat.not_lt_zero i)
 |n+1,k,0,_=>by simp[tbF,flA,List.take_append,hc]
 |n+1,k,i+1,h=>by
  have ih:=zWN hc f n (k+1) i (by omega);have e:(i+1)*sz=sz+i*sz:=by rw[Nat.add_mul];omega
  simp only[tbF,flA];rw[e,List.drop_append,hc,List.drop_eq_nil_of_le (by rw[hc];omega),zr,show sz+i*sz - sz=i*sz by omega,ih];congr 1;congr 1;omega
theorem zXL {α:Type} {f g:Nat→α}:∀n k:Nat,(∀j,k≤j→f j=g j)→tbF f n k=tbF g n k
 |0,_,_=>rfl
 |n+1,k,h=>by simp only[tbF];rw[h k (Nat.le_refl k),zXL n (k+1) fun j hj=>h j (by omega)]
theorem zWM {α:Type} {c:α→List Tr} {sz:Nat} (hc:∀v,(c v).length=sz) (f:Nat→α) (v:α):∀n k i:Nat,i<n→splice (flA c (tbF f n k)) (i*sz) (c v)=flA c (tbF (upA f (k+i) v) n k)
 |0,_,i,h=>absurd h (Nat.not_lt_zero i)
 |n+1,k,0,_=>by
  have e1:upA f (k+0) v k=v:=by simp[upA]
  have e2:tbF (upA f (k+0) v) n (k+1)=tbF f n (k+1):=zXL n (k+1) fun j hj=>by
   unfold upA;have:Nat.beq j (k+0)=false:=by
    cases hb:Nat.beq j (k+0) with
    |false=>rfl
    |true=>have:=Nat.eq_of_beq_eq_true hb;omega
   rw[this];rfl
  simp only[tbF,flA,e1,e2];simp[splice,hc,List.drop_append,List.drop_eq_nil_of_le]
 |n+1,k,i+1,h=>by
  have ih:=zWM hc f v n (k+1) i (by omega);have e:(i+1)*sz=sz+i*sz:=by rw[Nat.add_mul];omega
  have e1:upA f (k+(i+1)) v k=f k:=by
   unfold upA;have:Nat.beq k (k+(i+1))=false:=by
    cases hb:Nat.beq k (k+(i+1)) with
    |false=>rfl
    |true=>have:=Nat.eq_of_beq_eq_true hb;omega
   rw[this];rfl
  simp only[tbF,flA,e1];rw[show k+(i+1)=k+1+i by omega,←ih];unfold splice;rw[e,List.take_append,List.drop_append,hc,List.take_of_length_le (by rw[hc];omega),List.drop_eq_nil_of_le (by rw[hc];omega)];rw[show sz+i*sz - sz=i*sz by omega,hc,show sz+i*sz+sz - sz=i*sz+sz by omega];simp
section
variable {P:Program}
theorem z3n {o:Oper} {s:St} {t e:TypeId} {x ix:Operand} {k:IntKind} {N sz id off:Nat} {n:Int} (hu:P.underlying t=some (.array N e)) (hsz:(P.info? e).map (·.size)=some sz) (ho:o.op=.indexAddr t x ix) (hi:s.ev ix=.c (.v (.int k n)))
  (h0:0≤n) (hn:n<N) (hx:s.ev x=.pt id off):Y0 P o s (.po id sz n.toNat off):=
 qH fun ok σ a w hC=>by
  have h1:=hC.ev x;rw[hx]at h1;obtain⟨g,h2,h3⟩:=(h1:Rel1 ok σ w (.pt id off) (a.eval x))
  refine⟨.pointer (some ⟨g,n.toNat*sz+off,none⟩),?_,⟨g,h2,rfl⟩⟩;have h4:=hC.exact hi;cases hii:P.info? e with
  |none=>rw[hii]at hsz;simp at hsz
  |some i=>
   have h5:i.size=sz:=by rw[hii]at hsz;simpa using hsz
   unfold execOp;rw[ho];simp[h3,h4,Instr.indexAt,asIntOf,run_underlying hu,Instr.sureAddr,sizeOf,typeInfo,hii,h5,h0,hn,zEH,Nat.add_comm off]
theorem z7U {o:Oper} {s:St} {t:TypeId} {x:Operand} {id sz i off n:Nat} {cs ds:List Tr} (hs:wide P t n) (ho:o.op=.load t x) (hx:s.ev x=.po id sz i off) (he:s.entc id=some (.box cs)) (hd:(cs.drop (i*sz+off)).take n=ds) (hl:ds.length=n):Y0 P o s (.ag ds):=
 qH fun ok σ a w hC=>by
  have hr:=hC.ev x;rw[hx]at hr;have hr:Rel ok σ w (.pt id (i*sz+off)) (a.eval x):=hr;obtain⟨g,of2,h1,h2⟩:=zHO hC hr (cs:=cs.drop (i*sz+off)) (by simp only[zA0,he]);obtain⟨vs,h3,h4⟩:=zGj g of2 ds 0 fun j c hj=>by
   subst hd;have:=h2 j c (by
    rw[List.getElem?_take]at hj;split at hj
    ·exact hj
    ·cases hj)
   simpa using this
  have h5:=zHh (P:=P) hs (g:=g) (off:=of2) (by rw[←h3.len];exact hl) (fun j u hu=>by simpa using h4 j u hu);refine⟨.agg vs.toArray,?_,⟨_,rfl,by simpa using h3⟩⟩;unfold execOp;rw[ho];simp only[h1,Instr.loadAt,Instr.sureAddr,Sem.run_bind,Sem.run_pure,Result.andThen_ok,h5]
theorem X_stA {o:Oper} {s:St} {t:TypeId} {x y:Operand} {id sz i off:Nat} {cs vc:List Tr} (ho:o.op=.store t x y) (hd:o.dst=none) (hx:s.ev x=.po id sz i off) (he:s.ent id=some (.box cs)) (hy:zBd (s.ev y)=some vc) (hi:(P.info? t).map (·.size)=some vc.length) (hl:i*sz+off+vc.length≤cs.length):
  X P o s ⟨s.T,setE id (.box (splice cs (i*sz+off) vc)) s.E⟩:=by
 intro B w0 ok0 ok σ a w hR K Q hK;obtain⟨g,arr,T,h1,h2,h3⟩:=hR.core.ent id _ he;have h4:=hR.core.ev x;rw[hx]at h4;obtain⟨g2,h5,h6⟩:=(h4:Rel1 ok σ w (.po id sz i off) (a.eval x))
 rw[h1]at h5;injection h5 with h5;subst h5;have h7:=zDf (hR.core.ev y) hy;have h8:=h7.len;have h9:=h3.len;have hrun:=zEd (P:=P) (w:=w) (g:=g) (off:=i*sz+off) (y:=a.eval y) hi (by simpa using h8.symm) h2 (by simp at h9;omega) h7.one;unfold Oper.wp execOp;simp only[ho,h6,Instr.storeAt,Instr.sureAddr,Sem.run_bind,Sem.run_pure,Result.andThen_ok,hrun,Oper.upon,hd];refine hK _ _ ok σ (hR.write he h1 _ ⟨arr,T,h2⟩ _ (zBY id _ s.E _ he) fun hw=>?_);refine⟨g,_,T,h1,setRow_heap w g arr _ T _ h2,?_⟩;have hmono:∀q,ok q→(w.setRow g (splice arr.toList (i*sz+off) (a.eval y).cells.toList).toArray).heap[q]?=w.heap[q]?:=fun q hq=>hw q fun e=>(hR.core.blk id _ g he h1).1 (e▸hq)
 simpa using (h3.splice (i*sz+off) h7).mono (fun _ h=>h) hmono
theorem z74 {o:Oper} {s:St} {t:TypeId} {x y:Operand} {id sz i off:Nat} {l:Loc} {cs vc:List Tr} (ho:o.op=.store t x y) (hd:o.dst=none) (hx:s.ev x=.po id sz i off) (he:s.ent id=some (.pbox l cs)) (hy:zBd (s.ev y)=some vc) (hi:(P.info? t).map (·.size)=some vc.length) (hl:i*sz+off+vc.length≤cs.length):
  X P o s ⟨s.T,setE id (.pbox l (splice cs (i*sz+off) vc)) s.E⟩:=by
 intro B w0 ok0 ok σ a w hR K Q hK;obtain⟨h0,g,arr,T,h1,h2,h3⟩:=hR.core.ent id _ he;have h4:=hR.core.ev x;rw[hx]at h4;obtain⟨g2,h5,h6⟩:=(h4:Rel1 ok σ w (.po id sz i off) (a.eval x))
 rw[h1]at h5;injection h5 with h5;subst h5;have h7:=zDf (hR.core.ev y) hy;have h8:=h7.len;have h9:=h3.len;have hrun:=zEd (P:=P) (w:=w) (g:=g) (off:=i*sz+off) (y:=a.eval y) hi (by simpa using h8.symm) h2 (by simp at h9;omega) h7.one;unfold Oper.wp execOp;simp only[ho,h6,Instr.storeAt,Instr.sureAddr,Sem.run_bind,Sem.run_pure,Result.andThen_ok,hrun,Oper.upon,hd];refine hK _ _ ok σ (hR.write he h1 _ ⟨arr,T,h2⟩ _ (zBY id _ s.E _ he) fun hw=>?_);refine⟨h0,g,_,T,h1,setRow_heap w g arr _ T _ h2,?_⟩;have hmono:∀q,ok q→(w.setRow g (splice arr.toList (i*sz+off) (a.eval y).cells.toList).toArray).heap[q]?=w.heap[q]?:=fun q hq=>hw q fun e=>(hR.core.blk id _ g he h1).1 (e▸hq)
 simpa using (h3.splice (i*sz+off) h7).mono (fun _ h=>h) hmono
def ixA {α:Type} (N:Nat) (f:Nat→α) (n:Int):F0 P α where
 m:=getA N f n
 chk o s:=match o.op with
  | .indexAddr t x ix=>(match P.underlying t,s.ev x,s.ev ix with
   |some (.array N' e),.pt _ _,.c (.v (.int _ n'))=>.eq N' N (.eq n' n (.eq (zDu P e).isSome true .ok))
   |_,_,_=>.bad)
  |_=>.bad
 av o s _:=match o.op with
  | .indexAddr t x ix=>(match P.underlying t,s.ev x with
   |some (.array _ e),.pt id off=>.po id ((zDu P e).getD 0) n.toNat off
   |_,_=>.bot)
  |_=>.bot
 ok o s y hm h:=by
  obtain⟨g1,g2,_⟩:=zJ9 hm;split at h
  ·rename_i ho
   try simp only[ho]
   split at h
   ·rename_i N' e id off k n' hu hx hi;obtain⟨rfl,rfl,h3,_⟩:=h
    try simp only[hu,hx]
    obtain⟨z,hz⟩:=Option.isSome_iff_exists.mp h3;rw[hz];exact z3n hu hz ho hi g1 g2 hx
   ·exact h.elim
  ·exact h.elim
def ldA {α:Type} (d:CT α) (N:Nat) (f:Nat→α) (n:Int) (off:Nat):F0 P α where
 m:=getA N f n
 chk o s:=match o.op with
  | .load t x=>(match P.underlying t,s.ev x with
   |some D,.po id sz i of2=>(match s.entc id with
    |some (.box cs)=>.eq i n.toNat (.eq sz d.sz (.eq of2 off (.eq ((cs.drop off).take (N*d.sz)) (flA d.c (tab N f)) (.eq (aggD D) true (.eq (zDu P t) (some d.sz) .ok)))))
    |_=>.bad)
   |_,_=>.bad)
  |_=>.bad
 av _ _ y:=.ag (d.c y)
 ok o s y hm h:=by
  obtain⟨g1,g2,g3⟩:=zJ9 hm;split at h
  ·rename_i ho;split at h
   ·rename_i D id sz i of2 hu hx;split at h
    ·rename_i cs he;obtain⟨rfl,rfl,rfl,h4,h5,h6,_⟩:=h;refine z7U ⟨⟨D,hu,h5⟩,h6⟩ ho hx he ?_ (d.hc y)
     have h7:=zWN d.hc f N 0 n.toNat (by omega);rw[Nat.zero_add,←g3]at h7;rw[←h7];show _=List.take d.sz (List.drop (n.toNat*d.sz) (flA d.c (tab N f)));rw[←h4,List.drop_take,List.take_take,List.drop_drop];have e1:n.toNat*d.sz+d.sz≤N*d.sz:=by
      have:(n.toNat+1)*d.sz≤N*d.sz:=Nat.mul_le_mul_right _ (by omega);rw[Nat.add_mul]at this;omega
     rw[show min d.sz (N*d.sz - n.toNat*d.sz)=d.sz by omega,Nat.add_comm]
    ·exact h.elim
   ·exact h.elim
  ·exact h.elim
def stA {α:Type} (d:CT α) (N:Nat) (f:Nat→α) (n:Int) (off:Nat) (v:α):FX P (Nat→α) where
 m:=(getA N f n).map fun _=>upA f n.toNat v
 run o s g K:=match o.op,o.dst with
  | .store t x y,none=>(match s.ev x,zBd (s.ev y) with
   | .po id sz i of2,some vc=>(match s.ent id with
    |some (.box cs)=>.eq i n.toNat (.eq sz d.sz (.eq of2 off (.eq ((cs.drop off).take (N*d.sz)) (flA d.c (tab N f)) (.eq vc (d.c v) (.eq (zDu P t) (some d.sz) (.eq (Nat.blt 0 d.sz) true (K ⟨s.T,setE id (.box (cs.take off++(flA d.c (tab N g)++cs.drop (off+N*d.sz)))) s.E⟩)))))))
    |some (.pbox l cs)=>.eq i n.toNat (.eq sz d.sz (.eq of2 off (.eq ((cs.drop off).take (N*d.sz)) (flA d.c (tab N f)) (.eq vc (d.c v) (.eq (zDu P t) (some d.sz) (.eq (Nat.blt 0 d.sz) true (K ⟨s.T,setE id (.pbox l (cs.take off++(flA d.c (tab N g)++cs.drop (off+N*d.sz)))) s.E⟩)))))))
    |_=>.bad)
   |_,_=>.bad)
  |_,_=>.bad
 ok o s K g hm h:=by
  obtain⟨y,hy,hy2⟩:=Option.map_eq_some_iff.mp hm;obtain⟨g1,g2,g3⟩:=zJ9 hy;have e1:n.toNat*d.sz+d.sz≤N*d.sz:=by
   have:(n.toNat+1)*d.sz≤N*d.sz:=Nat.mul_le_mul_right _ (by omega);rw[Nat.add_mul]at this;omega
  have key:∀cs:List Tr,0<d.sz→(cs.drop off).take (N*d.sz)=flA d.c (tab N f)→off+N*d.sz≤cs.length∧splice cs (n.toNat*d.sz+off) (d.c v)=cs.take off++(flA d.c (tab N g)++cs.drop (off+N*d.sz)):=by
   intro cs hz h4;have h5:=z0O d.hc (tab N f);rw[←h4,List.length_take,List.length_drop,tab,zZf]at h5;have h6:0<N*d.sz:=by omega
   refine⟨by omega,?_⟩;have h7:=zWM d.hc f y N 0 n.toNat (by omega);rw[Nat.zero_add]at h7;have h8:flA d.c (tab N g)=splice ((cs.drop off).take (N*d.sz)) (n.toNat*d.sz) (d.c v):=by
    rw[h4];subst hy2;exact (zWM d.hc f v N 0 n.toNat (by omega)).symm▸(by rw[Nat.zero_add];rfl)
   rw[h8];unfold splice;rw[d.hc,List.take_take,show min (n.toNat*d.sz) (N*d.sz)=n.toNat*d.sz by omega,Nat.add_comm (n.toNat*d.sz) off,List.take_add,List.append_assoc,List.append_assoc,List.append_assoc,List.append_assoc];congr 2;congr 1;rw[←List.drop_append_of_le_length (by rw[List.length_take,List.length_drop];omega),show List.drop (off+N*d.sz) cs=List.drop (N*d.sz) (List.drop off cs) by rw[List.drop_drop],List.take_append_drop,List.drop_drop];congr 1;omega
  split at h
  ·rename_i t x y ho hd;split at h
   ·rename_i id sz i of2 vc hx hy3;split at h
    ·rename_i cs he;obtain⟨rfl,rfl,rfl,h4,rfl,h6,h7,h8⟩:=h;obtain⟨k1,k2⟩:=key cs (Nat.le_of_ble_eq_true h7) h4;refine zDq (X_stA ho hd hx he hy3 (by rw[d.hc];exact h6) (by rw[d.hc];omega)) ?_
     rw[k2];exact h8
    ·rename_i l cs he;obtain⟨rfl,rfl,rfl,h4,rfl,h6,h7,h8⟩:=h;obtain⟨k1,k2⟩:=key cs (Nat.le_of_ble_eq_true h7) h4;refine zDq (z74 ho hd hx he hy3 (by rw[d.hc];exact h6) (by rw[d.hc];omega)) ?_
     rw[k2];exact h8
    ·exact h.elim
   ·exact h.elim
  ·exact h.elim
theorem z7V {o:Oper} {s:St} {t e:TypeId} {x ix:Operand} {k:IntKind} {N sz:Nat} {n:Int} {cs ds:List Tr} (hu:P.underlying t=some (.array N e)) (hw:wide P e sz) (ho:o.op=.index t x ix) (hi:s.ev ix=.c (.v (.int k n)))
  (h0:0≤n) (hn:n<N) (hx:s.ev x=.ag cs) (hd:(cs.drop (n.toNat*sz)).take sz=ds):Y0 P o s (.ag ds):=
 qH fun ok σ a w hC=>by
  have h1:=hC.ev x;rw[hx]at h1;obtain⟨vs,h2,h3⟩:=(h1:Rel1 ok σ w (.ag cs) (a.eval x))
  have h4:=hC.exact hi;subst hd;obtain⟨⟨d,hd1,hd2⟩,hsz⟩:=hw;cases hii:P.info? e with
  |none=>rw[hii]at hsz;simp at hsz
  |some i=>
   have h8:i.size=sz:=by rw[hii]at hsz;simpa using hsz
   refine⟨.agg (vs.extract (n.toNat*sz) (n.toNat*sz+sz)),?_,⟨_,rfl,?_⟩⟩
   ·unfold execOp;rw[ho];simp[h2,h4,Instr.index,asIntOf,run_underlying hu,part,zNd hd1,hd2,sizeOf,typeInfo,hii,h8,h0,hn]
   ·have h5:=(h3.drop (n.toNat*sz)).take sz;have e:(vs.extract (n.toNat*sz) (n.toNat*sz+sz)).toList=(vs.toList.drop (n.toNat*sz)).take sz:=by
     rw[Array.toList_extract,List.extract_eq_take_drop];congr 1;omega
    rw[e];exact h5
theorem z7X {o:Oper} {s:St} {x:Operand} {src dst:TypeId} {k:IntKind} {k2:IntKind} {a:Int} (hs:P.underlying src=some (.int k2)) (hd:P.underlying dst=some .string) (ho:o.op=.convert src dst x) (hx:s.ev x=.c (.v (.int k a))):Y0 P o s (.c (.v (.string (Utf8.encode a)))):=
 qH fun ok σ ac w hC=>by
  refine⟨.string (Utf8.encode a),?_,Rd.v _ rfl⟩;unfold execOp;rw[ho];simp[hC.exact hx,convert,run_underlying hs,run_underlying hd,Conv.intToString]
def i2s:N0 P where
 chk o s:=match o.op with
  | .convert src dst x=>(match P.underlying src,P.underlying dst,s.ev x with
   |some (.int _),some .string,.c (.v (.int _ _))=>.ok
   |_,_,_=>.bad)
  |_=>.bad
 av o s:=match o.op with
  | .convert _ _ x=>(match s.ev x with
   | .c (.v (.int _ a))=>.c (.v (.string (Utf8.encode a)))
   |_=>.bot)
  |_=>.bot
 ok o s h:=by
  split at h
  ·rename_i ho
   try simp only[ho]
   split at h
   ·rename_i hs hd hx
    try simp only[hx]
    exact z7X hs hd ho hx
   ·exact h.elim
  ·exact h.elim
def igA {α:Type} (d:CT α) (N:Nat) (f:Nat→α) (n:Int):F0 P α where
 m:=getA N f n
 chk o s:=match o.op with
  | .index t x ix=>(match P.underlying t,s.ev x,s.ev ix with
   |some (.array N' e),.ag cs,.c (.v (.int _ n'))=>(match P.underlying e with
    |some D=>.eq N' N (.eq n' n (.eq cs (flA d.c (tab N f)) (.eq (aggD D) true (.eq (zDu P e) (some d.sz) .ok))))
    |none=>.bad)
   |_,_,_=>.bad)
  |_=>.bad
 av _ _ y:=.ag (d.c y)
 ok o s y hm h:=by
  obtain⟨g1,g2,g3⟩:=zJ9 hm;split at h
  ·rename_i ho;split at h
   ·rename_i N' e cs k n' hu hx hi;split at h
    ·rename_i D hD;obtain⟨rfl,rfl,rfl,h4,h5,_⟩:=h;refine z7V hu ⟨⟨D,hD,h4⟩,h5⟩ ho hi g1 g2 hx ?_
     have h7:=zWN d.hc f N' 0 n'.toNat (by omega);rw[Nat.zero_add,←g3]at h7;exact h7
    ·exact h.elim
   ·exact h.elim
  ·exact h.elim
def shr {α:Type} (d:CT α) (xs:List α) (n:Int):FX P Unit where
 m:=slc xs.length 0 n
 run o s _ K:=match o.op,o.dst with
  | .slice t x none (some y) none,some k=>(match P.underlying t,s.ev x with
   |some (.slice e),.ow id=>(match s.ent id with
    |some (.arr e2 sz els)=>.eq e2 e (.eq sz d.sz (.eq (zDu P e) (some d.sz) (.eq els (xs.map d.c) (.eq (s.ev y) (.c (.v (.int .i64 n))) (K ⟨(zBW id s.T).set k (.ow id),setE id (.arr e d.sz ((subl xs 0 n).map d.c)) s.E⟩)))))
    |_=>.bad)
   |_,_=>.bad)
  |_,_=>.bad
 post _ o s _:=match o.op,o.dst with
  | .slice _ x _ _ _,some k=>(match s.ev x with
   | .ow id=>(match s.ent id with
    |some (.arr e sz _)=>some ⟨(zBW id s.T).set k (.ow id),setE id (.arr e sz ((subl xs 0 n).map d.c)) s.E⟩
    |_=>none)
   |_=>none)
  |_,_=>none
 ok o s K y hm h:=by
  split at h
  ·rename_i t x y k ho hd;split at h
   ·rename_i e id hu hx;split at h
    ·rename_i e2 sz els he;obtain⟨rfl,rfl,h3,rfl,h5,h6⟩:=h;exact zDq (z1Q hu h3 ho hd hx he h5 hm) h6
    ·exact h.elim
   ·exact h.elim
  ·exact h.elim
def appB {α:Type} (d:CT α) (xs ys:List α):FX P Unit where
 m:=room (8*(xs.length+ys.length))
 run o s _ K:=match o.op,o.dst with
  | .call ⟨.builtin .append,⟨[x,y]⟩,⟨[t,t2]⟩⟩,some k=>(match P.underlying t,s.ev x with
   |some (.slice e),.ow id=>(match s.ent id,P.info? e with
    |some (.arr e2 sz els),some i=>(match i.zero,ys with
     |some z,_::_=>.eq t2 t (.eq e2 e (.eq sz d.sz (.eq i.size d.sz (.eq els (xs.map d.c) (.eq (zBe s (s.ev y)) (some (ys.map d.c)) (.eq (Nat.beq z.cells.size d.sz&&Nat.ble i.bytes 1024) true
       (K ⟨(zBW id s.T).set k (.ow id),setE id (.arr e d.sz ((xs++ys).map d.c)) s.E⟩)))))))
     |_,_=>.bad)
    |_,_=>.bad)
   |_,_=>.bad)
  |_,_=>.bad
 post _ o s _:=match o.op,o.dst with
  | .call ⟨_,⟨[x,_]⟩,_⟩,some k=>(match s.ev x with
   | .ow id=>(match s.ent id with
    |some (.arr e sz _)=>some ⟨(zBW id s.T).set k (.ow id),setE id (.arr e sz ((xs++ys).map d.c)) s.E⟩
    |_=>none)
   |_=>none)
  |_,_=>none
 ok o s K u hm h:=by
  split at h
  ·rename_i x y t t2 k ho hd;split at h
   ·rename_i e id hu hx;split at h
    ·rename_i e2 sz els i he hi;split at h
     ·rename_i z y0 ys0 hz;obtain⟨h1,h2,h3,h4,h5,h6,h7,h8⟩:=h;subst h1 h2 h3 h5;rw[zj]at h7;have hr:=zJX hm;have hb:=Nat.le_of_ble_eq_true h7.2;refine zDq ?_ h8
      rw[List.map_append];refine zUr (bytes:=i.bytes) ho hd hu (by rw[hi];simp only[Option.map_some,hz,h4]) (Nat.eq_of_beq_eq_true h7.1) hx he h6 (fun el hel=>?_) (by simp) (by simp only[List.length_map];omega) ?_
      ·obtain⟨v,_,rfl⟩:=List.mem_map.1 hel;exact d.hc v
      ·simp only[List.length_map];have h9:xs.length+(y0::ys0).length≤137438953472:=by omega
       have:=Nat.mul_le_mul h9 hb;omega
     ·exact h.elim
    ·exact h.elim
   ·exact h.elim
  ·exact h.elim
theorem zMn {f:FuncId} {fn:Func} {c:Code} {args:List AV} {x:Nat} {cs:List Tr} (hf:P.funcs[f]?=some fn) (hb:fn.body=some c) (hvs:fn.results=[ResultVar.tmp x].toArray) (n:Nat) (hn:fn.ntmps=n)
  (h:V P c ⟨args++List.replicate (n - args.length) .bot,[]⟩ (fun e s=>(e=.normal∨e=.ret)∧∃id,s.get x=.pt id 0∧s.ent id=some (.box cs))):zD P f args (.pt 0 0) [(0,.box cs)]:=by
 intro ok σ w vs hok hlib hargs;refine calls_of_wp hf hb ?_
 subst hn;have hR:R ⟨fun g=>w.heap.size≤g,fun _=>False⟩ w ok ok σ ⟨args++List.replicate (fn.ntmps - args.length) .bot,[]⟩ {tmps:=vs.toArray++Array.replicate (fn.ntmps - vs.toArray.size) undef,defers:=[]} w:=by
  refine⟨⟨?_,hok,hlib,fun t=>hargs.init fn.ntmps t,fun id e he=>?_,fun id e g he=>?_,fun i j e f g he=>?_⟩,rfl,BelowX.refl _ _,fun _ h=>h,fun g hg=>hg,fun g hg=>.inl hg,fun id e g he=>?_⟩
  ·simp[hargs.len]
  all_goals
   simp[St.ent]at he
 refine wp_mono (h _ _ _ _ _ _ _ hR) ?_
 rintro e a' w' ⟨s',ok',σ',⟨he,id,hx,hid⟩,hR'⟩;have h1:=hR'.core.tmp x;rw[hx]at h1;obtain⟨g,hg,hv⟩:=(h1:Rel1 ok' σ' w' (.pt id 0) (a'.tmps.getD x undef))
 have h2:=hR'.own id _ g hid hg;rw[if_neg (fun hc=>by cases hc)]at h2;have hlk:∀k e,([(0,Ent.box cs)]:List (Nat×Ent)).lookup k=some e→k=0∧e=.box cs:=fun k e hk=>by
  obtain⟨a1,a2⟩:=jW _ _ _ _ hk;exact⟨a1,a2.symm⟩
 have hres:(results fn a'.tmps).run P w'=.ok (a'.tmps.getD x undef) w':=zXa (t:=x) (by rw[hvs];rfl) a'.tmps w';have hfin:bodyPost P fn (fun e w'=>∃v ok' σ',e=.returned v∧New w w' ok ok' σ' (.pt 0 0) [(0,.box cs)] v) .ret a' w':=by
  refine⟨hR'.defers,_,hres,_,ok',fun _=>σ' id,rfl,hR'.below.to,hR'.old,hR'.fresh,hR'.core.okL,⟨g,hg,hv⟩,fun k e hk=>?_,fun e he=>?_,fun k e hk=>?_,fun k e q hk hq=>?_,fun i j e f q hi hj _ _=>?_,fun k e hk=>?_⟩
  ·rw[(hlk k e hk).1];omega
  ·show (0 / 8==e)=false;rw[zt];omega
  ·rw[(hlk k e hk).2];exact hR'.core.ent id _ hid
  ·rw[hg]at hq;injection hq with hq;subst hq;exact⟨h2,hR'.core.blk id _ g hid hg⟩
  ·rw[(hlk i e hi).1,(hlk j f hj).1]
  ·rw[(hlk k e hk).2];rfl
 rcases he with rfl|rfl
 ·exact hfin
 ·exact hfin
def KB {β:Type} (x:Nat) (cs:β→List Tr):Exit→T P β→List Nat→St→OT:=fun e t' _ s'=>match e,t' with
 | .normal,.ret y=>(match s'.get x with
  | .pt id off=>.eq off 0 (.eq (s'.ent id) (some (.box (cs y))) .ok)
  |_=>.bad)
 | .ret,.ret y=>(match s'.get x with
  | .pt id off=>.eq off 0 (.eq (s'.ent id) (some (.box (cs y))) .ok)
  |_=>.bad)
 |_,_=>.bad
def OB (P:Program) {β:Type} (t:T P β) (o:Option β) (c:Code) (s:St) (x:Nat) (cs:β→List Tr):OT:=.eq o (t.den some) (goV P 100000 t [] c s (KB x cs))
theorem CbT {β:Type} (t:T P β) {f:FuncId} {fn:Func} {c:Code} {args:List AV} {o:Option β} {r:β} (x:Nat) (cs:β→List Tr) (hf:P.funcs[f]?=some fn) (hb:fn.body=some c) (hvs:fn.results=[ResultVar.tmp x].toArray) (h:o=some r)
  (hO:OB P t o c ⟨args++List.replicate (fn.ntmps - args.length) .bot,[]⟩ x cs=(OB P t o c ⟨args++List.replicate (fn.ntmps - args.length) .bot,[]⟩ x cs).rf:=by kernel_rfl):zD P f args (.pt 0 0) [(0,.box (cs r))]:=by
 obtain⟨h1,h2⟩:=OT.of_rf _ hO;rw[h1]at h;refine zMn hf hb hvs fn.ntmps rfl (zAr 100000 t [] c _ _ h2 some r h _ fun e t' kn' s' hK ht=>?_);unfold KB at hK;split at hK
 ·injection ht with ht;subst ht;split at hK
  ·rename_i id off hx;obtain⟨rfl,h3,_⟩:=hK;exact⟨.inl rfl,id,hx,h3⟩
  ·exact hK.elim
 ·injection ht with ht;subst ht;split at hK
  ·rename_i id off hx;obtain⟨rfl,h3,_⟩:=hK;exact⟨.inr rfl,id,hx,h3⟩
  ·exact hK.elim
 ·exact hK.elim
end
end Go.Proofs.YtahdjphocippeaaGreatDoor
