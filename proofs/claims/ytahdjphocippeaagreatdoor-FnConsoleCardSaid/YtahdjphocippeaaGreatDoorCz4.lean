/-
  Rules of walks, plain functions and their laws, part 4.
  Conditions: none.
-/
import Derived.Shelf.Strings.Builder1
import Derived.Shelf.Strings.OnBuilder
import Derived.Shelf.LaysM
import Derived.Shelf.Strconv.Itoa3
import Derived.Shelf.LaysC
import Derived.Shelf.Strconv.AtoiAll
import Derived.Shelf.Strings.Prefix
import Derived.Shelf.Strings.Split
import Derived.Shelf.Strings.FieldsFuncAny
import Derived.Test.YtahdjphocippeaaGreatDoorProg
import Derived.Test.YtahdjphocippeaaGreatDoorRows
import Derived.MapKept
import Derived.Test.YtahdjphocippeaaGreatDoorCz3
set_option linter.unusedSimpArgs false
set_option linter.unusedVariables false
namespace Go.Proofs.YtahdjphocippeaaGreatDoor
def nzb(f:F3):Bool:=!((f.1==0)&&((f.2.1==0)&&(f.2.2==0)))
def lb(i:Nat):UInt8:=UInt8.ofNat (97+i)
theorem z5m:nzb (0,0,0)=false:=rfl
theorem z8I{D:Int}{f:F3}(h:PrRc D f):nzb f=true:=by have:=h.1;unfold nzb;rw[show (f.1==0)=false from beq_eq_false_iff_ne.2 (by omega)];rfl
def upS(F:Nat→F3)(i:Nat):List Nat:=(List.range' 0 i).filter fun j=>nzb (F j)
def dnS(F:Nat→F3)(i:Nat):List Nat:=(List.range' i (26 - i)).filter fun j=>nzb (F j)
theorem zSa{F:Nat→F3}{i:Nat}(hi:i<26):dnS F i=(if nzb (F i) then [i] else [])++dnS F (i+1):=by unfold dnS;rw[show 26 - i=(26 - (i+1))+1 by omega,List.range'_succ,List.filter_cons];split<;>simp[*]
theorem z6i{F:Nat→F3}:dnS F 26=[]:=rfl
theorem z7t{F:Nat→F3}{i:Nat}:upS F (i+1)=upS F i++(if nzb (F i) then [i] else []):=by unfold upS;rw[List.range'_1_concat,List.filter_append];simp only[Nat.zero_add,List.filter_cons,List.filter_nil]
theorem z9R{F:Nat→F3}:∀i,i≤26→upS F i++dnS F i=dnS F 0
 |0,h=>rfl
 |i+1,h=>by rw[z7t,zu,←zSa (by omega)];exact z9R i (by omega)
theorem zFw{F:Nat→F3}{i:Nat}(hi:i<26):dnS F 0=upS F i++((if nzb (F i) then [i] else [])++dnS F (i+1)):=by rw[←zSa hi,z9R i (by omega)]
theorem z5C{F:Nat→F3}{i j:Nat}(h:j∈upS F i):j<i∧nzb (F j)=true:=by unfold upS at h;rw[List.mem_filter,List.mem_range'_1]at h;exact⟨by omega,h.2⟩
theorem zUT{F:Nat→F3}{i j:Nat}(h:j∈dnS F i):i≤j∧j<26∧nzb (F j)=true:=by unfold dnS at h;rw[List.mem_filter,List.mem_range'_1]at h;exact⟨by omega,by omega,h.2⟩
theorem zSX{F:Nat→F3}{i:Nat}:(upS F i).length≤i:=by unfold upS;have:=List.length_filter_le (fun j=>nzb (F j)) (List.range' 0 i);rw[List.length_range']at this;exact this
theorem zSb{F:Nat→F3}{i:Nat}:(dnS F i).length≤26 - i:=by unfold dnS;have:=List.length_filter_le (fun j=>nzb (F j)) (List.range' i (26 - i));rw[List.length_range']at this;exact this
theorem zPP{F:Nat→F3}{i:Nat}{v:F3}:upA F i v i=v:=by simp[upA]
theorem zPO{F:Nat→F3}{i j:Nat}{v:F3}(h:j≠i):upA F i v j=F j:=by unfold upA;rw[show Nat.beq j i=false from by rw[Bool.eq_false_iff];exact fun e=>h (Nat.eq_of_beq_eq_true e)];rfl
theorem z5B{F:Nat→F3}{i:Nat}{v:F3}:upS (upA F i v) i=upS F i:=by unfold upS;apply List.filter_congr;intro j hj;rw[List.mem_range'_1]at hj;rw[zPO (by omega)]
theorem z6j{F:Nat→F3}{i:Nat}{v:F3}:dnS (upA F i v) (i+1)=dnS F (i+1):=by unfold dnS;apply List.filter_congr;intro j hj;rw[List.mem_range'_1]at hj;rw[zPO (by omega)]
theorem zXc{F:Nat→F3}{i:Nat}{v:F3}:(upS F i).map (upA F i v)=(upS F i).map F:=by apply List.map_congr_left;intro j hj;exact zPO (by have:=(z5C hj).1;omega)
theorem zZC{F:Nat→F3}{i:Nat}{v:F3}:(dnS F (i+1)).map (upA F i v)=(dnS F (i+1)).map F:=by apply List.map_congr_left;intro j hj;exact zPO (by have:=(zUT hj).1;omega)
structure SR (x:Int×(Nat→F3)) (y:Int×qf×List F3):Prop where
  d:y.1=x.1
  nm:y.2.1=bl ((dnS x.2 0).map lb)
  fs:y.2.2=(dnS x.2 0).map x.2
  le:(dnS x.2 0).length≤8
  d1:-2000≤x.1
  d2:x.1≤-3
  d4:x.1 % 4≤1
  pr:∀i,i<26→nzb (x.2 i)=true→PrRc x.1 (x.2 i)
theorem z5O{d:Int}(d1:-2000≤d)(d2:d≤-3)(d4:d % 4≤1):SR (d,fun _=>(0,0,0)) (d,qg,[]):=
 ⟨rfl,by rfl,by rfl,by show (dnS (fun _=>(0,0,0)) 0).length≤8;decide,d1,d2,d4,fun i _ h=>by cases h⟩
theorem zLA{F:Nat→F3}{i:Nat}(h:i<26):getA 26 F (i:Int)=some (F i):=by show (bif Nat.blt i 26 then some (F i) else none)=_;rw[show Nat.blt i 26=true from by unfold Nat.blt;exact Nat.ble_eq_true_of_le h];rfl
def z6b(t:Nat):Bool:=(Utf8.encode (IntKind.i32.wrap (w64 (97+(t:Int))))).toList==(bl [lb t]).toList
theorem z86:(List.range 26).all z6b=true:=by decide+kernel
theorem qAv{t:Nat}(h:t<26):Utf8.encode (IntKind.i32.wrap (w64 (97+(t:Int))))=bl [lb t]:=by have:=List.all_eq_true.1 z86 t (List.mem_range.2 h);unfold z6b at this;rw[eqS]at this;exact of_decide_eq_true this
theorem zTt(f:F3):((f.1==0)&&((f.2.1==0)&&(f.2.2==0)))=!nzb f:=by unfold nzb;rw[Bool.not_not]
theorem zPw(d:Int)(F:Nat→F3):∀(n k:Nat)(l:List UInt8),k≤26→26 - k<n→l.length≤k→zAZ (d,F) n (bl l) (k:Int)=some (bl (l++(dnS F k).map lb))
 |0,k,l,h1,h2,h3=>by omega
 |n+1,k,l,h1,h2,h3=>by
  unfold zAZ;by_cases hk:k<26
  ·rw[zE,zd (by omega),zb,zSa hk];simp only[zLA hk,za,zTt,Bool.not_not,qAv hk,zI,zA9 (show k<1000000000 by omega)];cases hz:nzb (F k) with
   |true=>rw[zb,zBO (by simp;omega),za,jH,zPw d F n (k+1) (l++[lb k]) (by omega) (by omega) (by simp;omega)];simp
   |false=>rw[zc,zPw d F n (k+1) l (by omega) (by omega) (by omega)];simp
  ·obtain rfl:k=26:=by omega
   rw[z6i];rw[zE,ze (by omega),zc];simp
theorem zXF(d:Int)(F:Nat→F3):zBz (d,F)=some (bl ((dnS F 0).map lb)):=by unfold zBz;have:=zPw d F FU 0 [] (by omega) (by unfold FU;omega) (by simp);have e:zAZ (d,F) FU ⟨#[]⟩ 0=_:=this;rw[e];rfl
theorem zLC(c:(Int×(Nat→F3))×List (Int×(Nat→F3))×List qf):∀(n k:Nat)(l:List F3),k≤26→26 - k<n→l.length≤k→jV c n (k:Int) l=some (l++(dnS c.1.2 k).map c.1.2)
 |0,k,l,h1,h2,h3=>by omega
 |n+1,k,l,h1,h2,h3=>by
  unfold jV;by_cases hk:k<26
  ·rw[zE,zd (by omega),zb,zSa hk];simp only[zLA hk,za,zTt,Bool.not_not,zI,zA9 (show k<1000000000 by omega)];cases hz:nzb (c.1.2 k) with
   |true=>rw[zb,zAa (by simp;omega),za,zLC c n (k+1) (l++[c.1.2 k]) (by omega) (by omega) (by simp;omega)];simp
   |false=>rw[zc,zLC c n (k+1) l (by omega) (by omega) (by omega)];simp
  ·obtain rfl:k=26:=by omega
   rw[z6i];rw[zE,ze (by omega),zc];simp
theorem z6C{i:Nat}(h:i<26):(lb i).toNat=97+i:=by unfold lb;rw[UInt8.toNat_ofNat'];omega
theorem z5u(i:Nat):lt1 i=bl [lb i]:=rfl
theorem zS6{S:List Nat}{k:Nat}(h:k<S.length)(hS:∀j∈S,j<26):getB (bl (S.map lb)) (k:Int)=some ((97+S[k]'h:Nat):Int):=by rw[zO9 (by rw[List.length_map];exact h),List.getElem_map,z6C (hS _ (zx h))]
theorem zS7{i:Nat}(h:i<26):getB (lt1 i) 0=some ((97+i:Nat):Int):=by have:getB (bl [lb i]) ((0:Nat):Int)=_:=zO9 (l:=[lb i]) (k:=0) (by simp);rw[z5u];rw[show (0:Int)=((0:Nat):Int) from rfl,this];simp[z6C h]
theorem z3C{y:Int×qf×List F3}{S:List Nat}(hy:y.2.1=bl (S.map lb))(hS:∀j∈S,j<26)(hl:S.length≤26){i:Nat}(hi:i<26){p:Nat}(hp:p<S.length)(hpi:S[p]'hp=i)(hq:∀q (h:q<S.length),q<p→S[q]'h≠i):
  ∀(n k:Nat),k≤p→p - k<n→zAO (lt1 i) y n (k:Int)=some (.inr (p:Int))
 |0,k,h1,h2=>by omega
 |n+1,k,h1,h2=>by
  unfold zAO;rw[hy,qZ,List.length_map,zE,zd (by omega),zb,zS6 (show k<S.length by omega) hS,zS7 hi];simp only[za,zI,zA9 (show k<1000000000 by omega),jN];by_cases e:k=p
  ·subst e;rw[hpi,beq_self_eq_true,zb]
  ·have:=hq k (by omega) (by omega);rw[show (((97+S[k]'(by omega):Nat):Int)==((97+i:Nat):Int))=false from beq_eq_false_iff_ne.2 (by omega),zc];exact z3C hy hS hl hi hp hpi hq n (k+1) (by omega) (by omega)
theorem z0G{y:Int×qf×List F3}{S:List Nat}(hy:y.2.1=bl (S.map lb))(hS:∀j∈S,j<26)(hl:S.length≤26){i:Nat}(hi:i<26)(hq:∀q (h:q<S.length),S[q]'h≠i):
  ∀(n k:Nat),k≤S.length→S.length - k<n→zAO (lt1 i) y n (k:Int)=some (.inl ())
 |0,k,h1,h2=>by omega
 |n+1,k,h1,h2=>by
  unfold zAO;by_cases hk:k<S.length
  ·rw[hy,qZ,List.length_map,zE,zd (by omega),zb,zS6 hk hS,zS7 hi];simp only[za,zI,zA9 (show k<1000000000 by omega),jN];have:=hq k hk;rw[show (((97+S[k]'hk:Nat):Int)==((97+i:Nat):Int))=false from beq_eq_false_iff_ne.2 (by omega),zc];exact z0G hy hS hl hi hq n (k+1) (by omega) (by omega)
  ·rw[hy,qZ,List.length_map,zE,ze (by omega),zc]
theorem zXx{F:Nat→F3}:∀j∈dnS F 0,j<26:=fun j h=>(zUT h).2.1
theorem z5A{F:Nat→F3}{i:Nat}(hi:i<26){T:List Nat}(hT:dnS F 0=upS F i++T):∀q (h:q<(dnS F 0).length),q<(upS F i).length→(dnS F 0)[q]'h<i:=by
 intro q h hq;have:(dnS F 0)[q]'h=(upS F i)[q]'hq:=by simp only[hT,List.getElem_append_left hq]
 rw[this];exact (z5C (zx hq)).1
theorem zYB{d:Int}{F:Nat→F3}{y:Int×qf×List F3}(h:SR (d,F) y){i:Nat}(hi:i<26):zAu y (lt1 i)=some (if nzb (F i) then ((upS F i).length:Int) else -1):=by
 have hsp:=zFw (F:=F) hi;have hlen:=zSb (F:=F) (i:=0);have hnm:y.2.1=bl ((dnS F 0).map lb):=h.nm;unfold zAu;cases hz:nzb (F i) with
 |true=>
  rw[hz,if_pos rfl]at hsp;have hp:(upS F i).length<(dnS F 0).length:=by rw[hsp];simp
  have hpi:(dnS F 0)[(upS F i).length]'hp=i:=by simp only[hsp];simp
  rw[show (0:Int)=((0:Nat):Int) from rfl,z3C hnm zXx (by omega) hi hp hpi (fun q hq hlt=>by have:=z5A hi hsp q hq hlt;omega) FU 0 (by omega) (by unfold FU;have:=zSX (F:=F) (i:=i);omega)];rfl
 |false=>
  have hno:∀q (hq:q<(dnS F 0).length),(dnS F 0)[q]'hq≠i:=by intro q hq e;have:=(zUT (zx hq)).2.2;rw[e,hz]at this;cases this
  rw[show (0:Int)=((0:Nat):Int) from rfl,z0G hnm zXx (by omega) hi hno FU 0 (by omega) (by unfold FU;omega)];rfl
theorem qAn{d:Int}{F:Nat→F3}{y:Int×qf×List F3}(h:SR (d,F) y){i:Nat}(hi:i<26)(hz:nzb (F i)=true):getI y.2.2 ((upS F i).length:Int)=some (F i):=by
 have hsp:=zFw (F:=F) hi;rw[hz,if_pos rfl]at hsp;rw[h.fs];have hp:(upS F i).length<((dnS F 0).map F).length:=by rw[hsp];simp
 have:=zA6 hp;rw[this];simp only[hsp];simp
theorem zZy{α:Type}(P Q:List α):subl (P++Q) 0 (P.length:Int)=P:=by unfold subl;simp
theorem zZx{α:Type}(P Q:List α):subl (P++Q) (P.length:Int) ((P++Q).length:Int)=Q:=by unfold subl;rw[zj,zj,List.drop_left,List.take_of_length_le (by simp)]
theorem z3f(P Q:List UInt8):(bl (P++Q)).extract (Int.toNat 0) (Int.toNat (P.length:Int))=bl P:=by rw[zGd];simp[bl]
theorem z3e(P Q:List UInt8):(bl (P++Q)).extract (Int.toNat (P.length:Int)) (Int.toNat ((P++Q).length:Int))=bl Q:=by rw[zGd,zj,zj];show bl (((P++Q).drop P.length).take _)=_;rw[List.drop_left,List.take_of_length_le (by simp)]
theorem z93{F:Nat→F3}{x:(Int×qf×List F3)×List (Int×qf×List F3)}{d:Int}(h:SR (d,F) x.1){i:Nat}(hi:i<26)(hz:nzb (F i)=false)(f:F3):
  ∀(n k:Nat),k≤(upS F i).length→(upS F i).length - k<n→zAm f (lt1 i) x n (k:Int)=some ((upS F i).length:Int)
 |0,k,h1,h2=>by omega
 |n+1,k,h1,h2=>by
  have hsp:=zFw (F:=F) hi;rw[hz]at hsp;simp only[zz,if_false,zt]at hsp;have hlen:=zSb (F:=F) (i:=0);have hle:(upS F i).length≤(dnS F 0).length:=by rw[hsp];simp
  unfold zAm;rw[h.nm,qZ,List.length_map];simp only;by_cases e:k=(upS F i).length
  ·subst e;by_cases hk:(upS F i).length<(dnS F 0).length
   ·rw[zE,zd (by omega),zb,zS6 hk zXx,zS7 hi];simp only[za];have hge:i+1≤(dnS F 0)[(upS F i).length]'hk:=by
     have e2:(dnS F 0)[(upS F i).length]'hk∈dnS F (i+1):=by simp only[hsp];rw[List.getElem_append_right (by omega)];exact zx _
     exact (zUT e2).1
    rw[zE,ze (by omega),zc]
   ·rw[zE,ze (by omega),zc];rfl
  ·have hk:k<(dnS F 0).length:=by omega
   have:=z5A hi hsp k hk (by omega);rw[zE,zd (by omega),zb,zS6 hk zXx,zS7 hi];simp only[za];rw[zE,zd (by omega),zb,zI,zA9 (by omega)];exact z93 h hi hz f n (k+1) (by omega) (by omega)
theorem zP7{F:Nat→F3}{i:Nat}{f:F3}(hi:i<26)(hf:nzb f=true):dnS (upA F i f) 0=upS F i++(i::dnS F (i+1)):=by rw[zFw (F:=upA F i f) hi,z5B,z6j,zPP,hf,if_pos rfl];rfl
theorem z5M{F:Nat→F3}{i:Nat}(hi:i<26):dnS (upA F i (0,0,0)) 0=upS F i++dnS F (i+1):=by rw[zFw (F:=upA F i (0,0,0)) hi,z5B,z6j,zPP,z5m];rfl
theorem z59(d:Int)(F:Nat→F3){i:Nat}(hi:i<26){f0 f:F3}(hr:qD f0=some f)(hle:(dnS F 0).length≤26):zAq (d,F) (i:Int) f0=some (if nzb (F i)=false∧(dnS F 0).length=8 then (false,(d,F)) else (true,(d,upA F i f))):=by
 unfold zAq;simp only[zLA hi,za,zTt,zXF,qZ,List.length_map,hr,Option.map_some,zj,jN];cases hz:nzb (F i) with
 |true=>simp
 |false=>
  simp only[zi,zb,za];by_cases h8:(dnS F 0).length=8
  ·rw[h8];simp
  ·rw[show (((dnS F 0).length:Int)==8)=false from beq_eq_false_iff_ne.2 (by omega)];simp[h8]
theorem z4O{d:Int}{F:Nat→F3}{x:(Int×qf×List F3)×List (Int×qf×List F3)}(h:SR (d,F) x.1)(hx:x.2.length≤1000000){i:Nat}(hi:i<26){f:F3}(hf:PrRc d f):
  if nzb (F i)=false∧(dnS F 0).length=8 then jW x (lt1 i) f=some (⟨#[110,111]⟩,x)
  else ∃y,jW x (lt1 i) f=some (⟨#[111,107]⟩,(y,x.2++[x.1]))∧SR (d,upA F i f) y:=by
 have hsp:=zFw (F:=F) hi;have hnf:=z8I hf;have hlen:(dnS F 0).length≤8:=h.le;have hput:∀v,jQ x v=some (⟨#[111,107]⟩,(v,x.2++[x.1])):=by intro v;unfold jQ;rw[zAa (by simp;omega)];rfl
 have hpr:∀j,j<26→nzb (upA F i f j)=true→PrRc d (upA F i f j):=by
  intro j hj hz;by_cases e:j=i
  ·subst e;rw[zPP];exact hf
  ·rw[zPO e]at hz ⊢;exact h.pr j hj hz
 have hdx:x.1.1=d:=h.d;have hfs:x.1.2.2=(dnS F 0).map F:=h.fs;have hnm:x.1.2.1=bl ((dnS F 0).map lb):=h.nm;unfold jW;rw[hfs,zt];rw[zAa (by simp only[List.length_nil,List.length_map];omega),zYB h hi];simp only[za];cases hz:nzb (F i) with
 |true=>
  rw[hz,if_pos rfl]at hsp;rw[if_neg (by simp),if_pos rfl,qP,zd (by omega),zb];have hp:(upS F i).length<((dnS F 0).map F).length:=by rw[hsp];simp
  rw[zA6 hp];simp only[za,hput];refine⟨_,rfl,⟨hdx,?_,?_,?_,h.d1,h.d2,h.d4,hpr⟩⟩
  ·simp only[zP7 hi hnf];rw[hnm,hsp];rfl
  ·simp only[zP7 hi hnf];rw[hsp,zj];simp only[List.map_append,List.map_cons,zr,zXc,zZC,zPP];rw[List.set_append_right _ _ (by simp)];simp
  ·simp only[zP7 hi hnf];rw[hsp]at hlen;exact hlen
 |false=>
  rw[hz]at hsp;simp only[zz,if_false,zt]at hsp;simp only[zz,if_false,true_and];rw[qP,ze (by omega),zc,List.length_map];by_cases h8:(dnS F 0).length=8
  ·rw[if_pos h8,h8];rfl
  ·rw[if_neg h8,qP,ze (by omega),zc];have hl:=z93 h hi hz f FU 0 (by omega) (by unfold FU;have:=zSX (F:=F) (i:=i);omega);have hl':zAm f (lt1 i) x FU 0=_:=hl;rw[hl'];simp only[za];have e1:(dnS F 0).map F=(upS F i).map F++(dnS F (i+1)).map F:=by rw[hsp,List.map_append]
   have e2:(dnS F 0).map lb=(upS F i).map lb++(dnS F (i+1)).map lb:=by rw[hsp,List.map_append]
   have hA:((upS F i).length:Int)=(((upS F i).map F).length:Int):=by rw[List.length_map]
   have hB:((upS F i).length:Int)=(((upS F i).map lb).length:Int):=by rw[List.length_map]
   have hle:(upS F i).length≤(dnS F 0).length:=by rw[hsp];simp
   have g1:subl ((dnS F 0).map F) 0 ((upS F i).length:Int)=(upS F i).map F:=by rw[e1,hA,zZy]
   have g2:subl ((dnS F 0).map F) ((upS F i).length:Int) (((dnS F 0).length:Nat):Int)=(dnS F (i+1)).map F:=by have t:=zZx ((upS F i).map F) ((dnS F (i+1)).map F);rw[←e1,←hA,List.length_map]at t;exact t
   have g3:(bl ((dnS F 0).map lb)).extract (Int.toNat 0) (Int.toNat ((upS F i).length:Int))=bl ((upS F i).map lb):=by rw[e2,hB,z3f]
   have g4:(bl ((dnS F 0).map lb)).extract (Int.toNat ((upS F i).length:Int)) (Int.toNat (((dnS F 0).length:Nat):Int))=bl ((dnS F (i+1)).map lb):=by have t:=z3e ((upS F i).map lb) ((dnS F (i+1)).map lb);rw[←e2,←hB,List.length_map]at t;exact t
   have s1:slc (dnS F 0).length 0 ((upS F i).length:Int)=some ():=zHL (l:=0) (by omega) hle;have s2:slc (dnS F 0).length ((upS F i).length:Int) (((dnS F 0).length:Nat):Int)=some ():=zHL hle (by omega);have hdl:((dnS F (i+1)).map F).length≤26:=by rw[List.length_map];have:=zSb (F:=F) (i:=i+1);omega
   have hul:((upS F i).map F).length≤26:=by rw[List.length_map];have:=zSX (F:=F) (i:=i);omega
   simp only[hnm,qZ,List.length_map,g1,g2,g3,g4,s1,s2,za];rw[zAa (by simp at hdl ⊢;omega),za,zAa (by simp at hdl hul ⊢;omega),za,z5u,zBO (by simp at hul ⊢;omega),za,jH,zBO (by simp at hdl hul ⊢;omega),za,jH];simp only[hput,za];refine⟨_,rfl,⟨hdx,?_,?_,?_,h.d1,h.d2,h.d4,hpr⟩⟩
   ·simp only[zP7 hi hnf];simp
   ·simp only[zP7 hi hnf];simp only[List.map_append,List.map_cons,zXc,zZC,zPP,List.cons_append,zt]
   ·simp only[zP7 hi hnf];rw[hsp]at hlen h8;simp only[zf,zg]at hlen h8 ⊢;omega
theorem z5N{α:Type}(P:List α)(a:α)(Q:List α):subl (P++a::Q) (((P.length+1:Nat)):Int) ((P++a::Q).length:Int)=Q:=by have t:=zZx (P++[a]) Q;simp only[zu,List.singleton_append,zf,zg,List.length_nil]at t ⊢;exact t
theorem z83(P:List UInt8)(a:UInt8)(Q:List UInt8):(bl (P++a::Q)).extract (Int.toNat (((P.length+1:Nat)):Int)) (Int.toNat ((P++a::Q).length:Int))=bl Q:=by have t:=z3e (P++[a]) Q;simp only[zu,List.singleton_append,zf,zg,List.length_nil]at t ⊢;exact t
theorem z4W{d:Int}{F:Nat→F3}{x:(Int×qf×List F3)×List (Int×qf×List F3)}(h:SR (d,F) x.1)(hx:x.2.length≤1000000){i:Nat}(hi:i<26):
  if nzb (F i)=false then zBV x (lt1 i)=some (⟨#[110,111]⟩,x)
  else ∃y,zBV x (lt1 i)=some (⟨#[111,107]⟩,(y,x.2++[x.1]))∧SR (d,upA F i (0,0,0)) y:=by
 have hsp:=zFw (F:=F) hi;have hlen:(dnS F 0).length≤8:=h.le;have hput:∀v,jQ x v=some (⟨#[111,107]⟩,(v,x.2++[x.1])):=by intro v;unfold jQ;rw[zAa (by simp;omega)];rfl
 have hpr:∀j,j<26→nzb (upA F i (0,0,0) j)=true→PrRc d (upA F i (0,0,0) j):=by
  intro j hj hz;by_cases e:j=i
  ·subst e;rw[zPP]at hz;cases hz
  ·rw[zPO e]at hz ⊢;exact h.pr j hj hz
 have hdx:x.1.1=d:=h.d;have hfs:x.1.2.2=(dnS F 0).map F:=h.fs;have hnm:x.1.2.1=bl ((dnS F 0).map lb):=h.nm;unfold zBV;rw[zYB h hi];simp only[za];cases hz:nzb (F i) with
 |false=>rw[if_pos rfl,if_neg (by simp)];rfl
 |true=>
  rw[hz,if_pos rfl]at hsp;rw[if_neg (by simp),if_pos rfl,zE,ze (by omega),zc];have hle:(upS F i).length+1≤(dnS F 0).length:=by rw[hsp];simp
  have e1:(dnS F 0).map F=(upS F i).map F++F i::(dnS F (i+1)).map F:=by rw[hsp];simp
  have e2:(dnS F 0).map lb=(upS F i).map lb++lb i::(dnS F (i+1)).map lb:=by rw[hsp];simp
  have hA:((upS F i).length:Int)=(((upS F i).map F).length:Int):=by rw[List.length_map]
  have hB:((upS F i).length:Int)=(((upS F i).map lb).length:Int):=by rw[List.length_map]
  have hw:w64 (((upS F i).length:Int)+1)=(((upS F i).length+1:Nat):Int):=zA9 (by omega);have g1:subl ((dnS F 0).map F) 0 ((upS F i).length:Int)=(upS F i).map F:=by rw[e1,hA,zZy]
  have g2:subl ((dnS F 0).map F) (((upS F i).length+1:Nat):Int) (((dnS F 0).length:Nat):Int)=(dnS F (i+1)).map F:=by have t:=z5N ((upS F i).map F) (F i) ((dnS F (i+1)).map F);rw[←e1,List.length_map,List.length_map]at t;exact t
  have g3:(bl ((dnS F 0).map lb)).extract (Int.toNat 0) (Int.toNat ((upS F i).length:Int))=bl ((upS F i).map lb):=by rw[e2,hB,z3f]
  have g4:(bl ((dnS F 0).map lb)).extract (Int.toNat (((upS F i).length+1:Nat):Int)) (Int.toNat (((dnS F 0).length:Nat):Int))=bl ((dnS F (i+1)).map lb):=by have t:=z83 ((upS F i).map lb) (lb i) ((dnS F (i+1)).map lb);rw[←e2,List.length_map,List.length_map]at t;exact t
  have s1:slc (dnS F 0).length 0 ((upS F i).length:Int)=some ():=zHL (l:=0) (by omega) (by omega);have s2:slc (dnS F 0).length (((upS F i).length+1:Nat):Int) (((dnS F 0).length:Nat):Int)=some ():=zHL hle (by omega);have hdl:(dnS F (i+1)).length≤26:=by have:=zSb (F:=F) (i:=i+1);omega
  have hul:(upS F i).length≤26:=by have:=zSX (F:=F) (i:=i);omega
  simp only[hnm,hfs,qZ,List.length_map,hw,g1,g2,g3,g4,s1,s2,za,zt];rw[zAa (by simp;omega),za,zAa (by omega),za,zBO (by simp;omega),za,jH];simp only[hput,za];refine⟨_,rfl,⟨hdx,?_,?_,?_,h.d1,h.d2,h.d4,hpr⟩⟩
  ·simp only[z5M hi];simp
  ·simp only[z5M hi];simp only[List.map_append,zXc,zZC]
  ·simp only[z5M hi];rw[hsp]at hlen;simp only[zf,zg,List.length_nil]at hlen ⊢;omega
def setW(w:qf):Bool:=(bif (bif (bif (w.toList==((⟨#[115,101,116]⟩:qf)).toList) then true else (w.toList==((⟨#[112,114,105,109,101]⟩:qf)).toList)) then true else (w.toList==((⟨#[109,117,108]⟩:qf)).toList)) then true else (w.toList==((⟨#[112,111,119]⟩:qf)).toList))
theorem z2J(w:qf)(f:F3)(v:Int)(d:Int)(F:Nat→F3){l:List Nat}(hl:l.length≤10)(h26:∀i∈l,i<26):∀(n k:Nat)(acc:List F3),k≤l.length→l.length - k<n→acc.length≤k→(1≤k∨setW w=false)→
  zAE (w,l.map (fun (i:Nat)=>(i:Int)),f,v) (d,F) n (k:Int) acc=some (if (l.drop k).all (fun i=>nzb (F i)) then .inl (acc++(l.drop k).map F) else .inr ([],false))
 |0,k,acc,h1,h2,h3,h4=>by omega
 |n+1,k,acc,h1,h2,h3,h4=>by
  unfold zAE;simp only[List.length_map];by_cases hk:k<l.length
  ·have hdr:l.drop k=l[k]'hk::l.drop (k+1):=List.drop_eq_getElem_cons hk;have hg:getI (l.map (fun (i:Nat)=>(i:Int))) (k:Int)=some ((l[k]'hk:Nat):Int):=by rw[zA6 (by rw[List.length_map];exact hk),List.getElem_map]
   have hi:=h26 _ (zx hk);rw[hdr,hg];generalize l[k]'hk=i at hi;simp only[za,zLA hi];rw[zE,zd (by omega),zb,zTt,zI,zA9 (by omega),jN,zAa (by simp;omega)];have hb:(bif ((k:Int)==0) then (some (setW w):Option Bool) else some false)=some false:=by
    rcases h4 with h|h
    ·rw[show ((k:Int)==0)=false from beq_eq_false_iff_ne.2 (by omega)];rfl
    ·rw[h];cases ((k:Int)==0)<;>rfl
   have hb':=hb;unfold setW at hb';rw[hb'];simp only[za,zi];cases hz:nzb (F i) with
   |true=>simp only[zh,zc];rw[z2J w f v d F hl h26 n (k+1) _ (by omega) (by omega) (by simp;omega) (.inl (by omega))];simp[List.all_cons,hz]
   |false=>simp[List.all_cons,hz]
  ·rw[zE,ze (by omega),zc,zo (by omega)];simp
theorem zUK(w:qf)(f:F3)(v:Int)(d:Int)(F:Nat→F3){l:List Nat}(hl:l.length≤10)(h26:∀i∈l,i<26)(hw:setW w=false):zP (d,F) (w,l.map (fun (i:Nat)=>(i:Int)),f,v)=some (if l.all (fun i=>nzb (F i)) then (l.map F,true) else ([],false)):=by unfold zP;have:=z2J w f v d F hl h26 FU 0 [] (by omega) (by unfold FU;omega) (by simp) (.inr hw);rw[show (0:Int)=((0:Nat):Int) from rfl,this,List.drop_zero];cases l.all (fun i=>nzb (F i))<;>simp
theorem zYo(w:qf)(f:F3)(v:Int)(d:Int)(F:Nat→F3){i:Nat}{l:List Nat}(hl:l.length≤9)(hi:i<26)(h26:∀i∈l,i<26)(hw:setW w=true):zP (d,F) (w,(i:Int)::l.map (fun (i:Nat)=>(i:Int)),f,v)=some (if l.all (fun i=>nzb (F i)) then (F i::l.map F,true) else ([],false)):=by
 unfold zP;have t:=z2J w f v d F (l:=i::l) (by simp;omega) (by
  intro j hj;rcases List.mem_cons.1 hj with rfl|hj
  ·exact hi
  ·exact h26 j hj) (FU - 1) 1 [F i] (by simp) (by unfold FU;simp;omega) (by simp) (.inl (by omega))
 obtain⟨n,hn⟩:∃n,FU=n+1:=⟨FU - 1,by unfold FU;omega⟩
 rw[show FU - 1=n by omega]at t;rw[hn];unfold zAE;have hg:getI ((i:Int)::l.map (fun (i:Nat)=>(i:Int))) 0=some (i:Int):=rfl;simp only[hg,za,zLA hi];rw[zE,zd (by simp),zb,zTt,zI,zAa (by simp)];have hw':=hw;unfold setW at hw';rw[hw',show eqI 0 0=true from rfl,show w64 (0+1)=((1:Nat):Int) from rfl];simp only[zb,za,zh];have e0:(bif (!nzb (F i)) then false else false)=false:=by cases nzb (F i)<;>rfl
 rw[e0,zc,zt];have t':zAE (w,(i:Int)::l.map (fun (i:Nat)=>(i:Int)),f,v) (d,F) n ((1:Nat):Int) [F i]=_:=t;rw[t'];simp only[List.drop_succ_cons,List.drop_zero];cases l.all (fun i=>nzb (F i))<;>simp
theorem z7M(w:qf)(m:List qf×F3×Int){d:Int}{F:Nat→F3}{x:(Int×qf×List F3)×List (Int×qf×List F3)}(h:SR (d,F) x.1){l:List Nat}(hl:l.length≤10)(h26:∀i∈l,i<26):∀(n k:Nat)(acc:List F3),k≤l.length→l.length - k<n→acc.length≤k→
  jJ (l.map lt1) m w x n (k:Int) acc=some (if (l.drop k).all (fun i=>nzb (F i)) then .inl (acc++(l.drop k).map F) else .inr (⟨#[110,111]⟩,x))
 |0,k,acc,h1,h2,h3=>by omega
 |n+1,k,acc,h1,h2,h3=>by
  unfold jJ;simp only[List.length_map];by_cases hk:k<l.length
  ·have hdr:l.drop k=l[k]'hk::l.drop (k+1):=List.drop_eq_getElem_cons hk;have hg:getI (l.map lt1) (k:Int)=some (lt1 (l[k]'hk)):=by rw[zA6 (by rw[List.length_map];exact hk),List.getElem_map]
   have hi:=h26 _ (zx hk);rw[hdr,hg];generalize l[k]'hk=i at hi;simp only[za,zYB h hi];rw[zE,zd (by omega),zb];cases hz:nzb (F i) with
   |true=>rw[if_pos rfl,zE,ze (by omega),zc,qAn h hi hz,za,zAa (by simp;omega),za,zI,zA9 (by omega)];rw[z7M w m h hl h26 n (k+1) _ (by omega) (by omega) (by simp;omega)];simp[List.all_cons,hz]
   |false=>simp[List.all_cons,hz,zE]
  ·rw[zE,ze (by omega),zc,zo (by omega)];simp
theorem z29(w:qf)(m:List qf×F3×Int){d:Int}{F:Nat→F3}{x:(Int×qf×List F3)×List (Int×qf×List F3)}(h:SR (d,F) x.1){l:List Nat}(hl:l.length≤10)(h26:∀i∈l,i<26):
  jJ (l.map lt1) m w x FU 0 []=some (if l.all (fun i=>nzb (F i)) then .inl (l.map F) else .inr (⟨#[110,111]⟩,x)):=by
 have:=z7M w m h hl h26 FU 0 [] (by omega) (by unfold FU;omega) (by simp);rw[show (0:Int)=((0:Nat):Int) from rfl,this,List.drop_zero,zt]
theorem z2H(x:Int×(Nat→F3)){g:List Int}(hg:∀e∈g,e=1∨e=-1)(hl:g.length≤20):∀(n k:Nat)(acc:List UInt8),k≤g.length→g.length - k<n→acc.length≤k→zB2 x g n (bl acc) (k:Int)=some (bl (acc++(g.drop k).map fun e=>if e=1 then 43 else 45))
 |0,k,acc,h1,h2,h3=>by omega
 |n+1,k,acc,h1,h2,h3=>by
  unfold zB2;by_cases hk:k<g.length
  ·have hdr:g.drop k=g[k]'hk::g.drop (k+1):=List.drop_eq_getElem_cons hk;have hin:=hg _ (zx hk);rw[zA6 hk,hdr];generalize g[k]'hk=e at hin;rw[zE,zd (by omega),zb];simp only[za,zI,zA9 (show k<1000000000 by omega)];rcases hin with rfl|rfl
   ·have e1:getB (⟨#[45,43]⟩:qf) (w64 (Int.tdiv (w64 (1+1)) 2))=some 43:=by decide+kernel
    have e2:Utf8.encode 43=bl [43]:=by decide+kernel
    rw[e1,za,e2,zBO (by simp;omega),za,jH,z2H x hg hl n (k+1) _ (by omega) (by omega) (by simp;omega)];simp
   ·have e1:getB (⟨#[45,43]⟩:qf) (w64 (Int.tdiv (w64 (-1+1)) 2))=some 45:=by decide+kernel
    have e2:Utf8.encode 45=bl [45]:=by decide+kernel
    rw[e1,za,e2,zBO (by simp;omega),za,jH,z2H x hg hl n (k+1) _ (by omega) (by omega) (by simp;omega)];simp
  ·rw[zE,ze (by omega),zc,zo (by omega)];simp
theorem z2G(x:(Int×qf×List F3)×List (Int×qf×List F3)){g:List Int}(hg:∀e∈g,e=1∨e=-1)(hl:g.length≤20):∀(n k:Nat)(acc:List UInt8),k≤g.length→g.length - k<n→acc.length≤k→zAY x g n (bl acc) (k:Int)=some (bl (acc++(g.drop k).map fun e=>if e=1 then 43 else 45))
 |0,k,acc,h1,h2,h3=>by omega
 |n+1,k,acc,h1,h2,h3=>by
  unfold zAY;by_cases hk:k<g.length
  ·have hdr:g.drop k=g[k]'hk::g.drop (k+1):=List.drop_eq_getElem_cons hk;have hin:=hg _ (zx hk);rw[zA6 hk,hdr];generalize g[k]'hk=e at hin;rw[zE,zd (by omega),zb];simp only[za,zI,zA9 (show k<1000000000 by omega)];rcases hin with rfl|rfl
   ·rw[show ltI 0 1=true from rfl,zb,show (⟨#[43]⟩:qf)=bl [43] from rfl,zBO (by simp;omega),za,jH,z2G x hg hl n (k+1) _ (by omega) (by omega) (by simp;omega)];simp
   ·rw[show ltI 0 (-1)=false from rfl,zc,show (⟨#[45]⟩:qf)=bl [45] from rfl,zBO (by simp;omega),za,jH,z2G x hg hl n (k+1) _ (by omega) (by omega) (by simp;omega)];simp
  ·rw[zE,ze (by omega),zc,zo (by omega)];simp
@[reducible] def wddisc:qf:=⟨#[100,105,115,99]⟩
@[reducible] def wdset:qf:=⟨#[115,101,116]⟩
@[reducible] def wdprime:qf:=⟨#[112,114,105,109,101]⟩
@[reducible] def wdvalue:qf:=⟨#[118,97,108,117,101]⟩
@[reducible] def wdmul:qf:=⟨#[109,117,108]⟩
@[reducible] def wdpow:qf:=⟨#[112,111,119]⟩
@[reducible] def wdsame:qf:=⟨#[115,97,109,101]⟩
@[reducible] def wdfree:qf:=⟨#[102,114,101,101]⟩
@[reducible] def wdshow:qf:=⟨#[115,104,111,119]⟩
@[reducible] def wdindex:qf:=⟨#[105,110,100,101,120]⟩
@[reducible] def wdorder:qf:=⟨#[111,114,100,101,114]⟩
@[reducible] def wdgenus:qf:=⟨#[103,101,110,117,115]⟩
@[reducible] def wdnames:qf:=⟨#[110,97,109,101,115]⟩
@[reducible] def wdundo:qf:=⟨#[117,110,100,111]⟩
@[reducible] def wE (w:qf) (k:Nat):Prop:=(w.toList==wddisc.toList)=(k==0)∧(w.toList==wdset.toList)=(k==1)∧(w.toList==wdprime.toList)=(k==2)∧(w.toList==wdvalue.toList)=(k==3)∧(w.toList==wdmul.toList)=(k==4)∧(w.toList==wdpow.toList)=(k==5)∧(w.toList==wdsame.toList)=(k==6)∧(w.toList==wdfree.toList)=(k==7)∧(w.toList==wdshow.toList)=(k==8)∧(w.toList==wdindex.toList)=(k==9)∧(w.toList==wdorder.toList)=(k==10)∧(w.toList==wdgenus.toList)=(k==11)∧(w.toList==wdnames.toList)=(k==12)∧(w.toList==wdundo.toList)=(k==13)
theorem zSW:wE wddisc 0:=by unfold wE;decide+kernel
theorem z4w:wE wdset 1:=by unfold wE;decide+kernel
theorem zZh:wE wdprime 2:=by unfold wE;decide+kernel
theorem zZg:wE wdvalue 3:=by unfold wE;decide+kernel
theorem z4y:wE wdmul 4:=by unfold wE;decide+kernel
theorem z4x:wE wdpow 5:=by unfold wE;decide+kernel
theorem z2r:wE wdsame 6:=by unfold wE;decide+kernel
theorem z2s:wE wdfree 7:=by unfold wE;decide+kernel
theorem z2q:wE wdshow 8:=by unfold wE;decide+kernel
theorem zZk:wE wdindex 9:=by unfold wE;decide+kernel
theorem zZi:wE wdorder 10:=by unfold wE;decide+kernel
theorem zZl:wE wdgenus 11:=by unfold wE;decide+kernel
theorem zZj:wE wdnames 12:=by unfold wE;decide+kernel
theorem zXa:wE wdundo 13:=by unfold wE;decide+kernel
abbrev StI:=Int×(Nat→F3)
abbrev StS:=Int×qf×List F3
def LR(a:List StI)(b:List StS):Prop:=a.length=b.length∧∀k (h1:k<a.length)(h2:k<b.length),SR (a[k]'h1) (b[k]'h2)
def CR(c:StI×List StI)(x:StS×List StS):Prop:=SR c.1 x.1∧LR c.2 x.2
theorem zYf{a:List StI}{b:List StS}{u:StI}{v:StS}(h:LR a b)(hs:SR u v):LR (a++[u]) (b++[v]):=by
 refine⟨by simp[h.1],fun k h1 h2=>?_⟩;have e:=h.1;rcases Nat.lt_or_ge k a.length with hk|hk
 ·rw[List.getElem_append_left hk,List.getElem_append_left (by omega)];exact h.2 k hk (by omega)
 ·have hk2:k=a.length:=by simp at h1;omega
  subst hk2;simp[e];exact hs
theorem z8L{a:List StI}{b:List StS}(h:LR a b)(n:Nat):LR (a.take n) (b.take n):=by refine⟨by simp[h.1],fun k h1 h2=>?_⟩;rw[List.getElem_take,List.getElem_take];exact h.2 k _ _
def zEY(c:StI×List StI)(x:StS×List StS)(s:qf):Prop:=∃p q,zS c s=some p∧zN x s=some q∧p.1=q.1∧CR p.2 q.2∧q.2.2.length≤x.2.length+1∧q.1.size≤20000
theorem zH0{α β:Type}(o:Option (α×β)):(o.bind fun y=>some ((y.1,y.2)))=o:=by cases o<;>rfl
def noT:qf:=⟨#[110,111]⟩
def okT:qf:=⟨#[111,107]⟩
theorem zHT:noT.size≤20000:=by decide
theorem zTs:okT.size≤20000:=by decide
theorem z3F{c:StI×List StI}{s w:qf}{li:List Int}{f:F3}{v:Int}{fs:List F3}(h1:zM s=some ((w,li,f,v),true))(hu:(w.toList==wdundo.toList)=false)(h2:zP c.1 (w,li,f,v)=some (fs,false)):zS c s=some (noT,c):=by unfold zS;simp only[h1,za,zh,zc,hu,h2,zi,zb];rfl
theorem z50{c:StI×List StI}{s w:qf}{li:List Int}{f:F3}{v:Int}{fs:List F3}{b0 b:Bool}{st:StI}{r:qf}(h1:zM s=some ((w,li,f,v),true))(hu:(w.toList==wdundo.toList)=false)(h2:zP c.1 (w,li,f,v)=some (fs,true))
  (h3:zH c.1 (w,li,f,v) fs=some (b0,false,st)) (h4:jF c.1 (w,li,f,v) fs=some (r,b)):zS c s=some (if b then (r,c) else (noT,c)):=by
 unfold zS;simp only[h1,za,zh,zc,hu,h2,h3,h4];cases b<;>rfl
theorem zJx{c:StI×List StI}{s w:qf}{li:List Int}{f:F3}{v:Int}{fs:List F3}{b:Bool}{st:StI}(h1:zM s=some ((w,li,f,v),true))(hu:(w.toList==wdundo.toList)=false)(h2:zP c.1 (w,li,f,v)=some (fs,true))
  (h3:zH c.1 (w,li,f,v) fs=some (b,true,st)) (hc:c.2.length≤1000000):zS c s=some (if b then (okT,(st,c.2++[c.1])) else (noT,c)):=by
 unfold zS;simp only[h1,za,zh,zc,hu,h2,h3,zb];rw[zAa (by simp;omega)];cases b<;>rfl
theorem z1n{x:StS×List StS}{s w:qf}{ls:List qf}{f:F3}{v:Int}(h2:qL s=some (w,(ls,f,v),true))(n1:(w.toList==wddisc.toList)=false)(n2:(w.toList==wdset.toList)=false)(n3:(w.toList==wdprime.toList)=false)(n4:(w.toList==wdfree.toList)=false)(n5:(w.toList==wdnames.toList)=false)(n6:(w.toList==wdundo.toList)=false):zN x s=qE x w (ls,f,v):=by unfold zN;simp only[h2,za,zh,zc,n1,n2,n3,n4,n5,n6,zH0]
theorem z9a{st:StI}{w:qf}{li:List Int}{f:F3}{v:Int}{fs:List F3}(n1:(w.toList==wddisc.toList)=false)(n2:(w.toList==wdset.toList)=false)(n3:(w.toList==wdprime.toList)=false)(n4:(w.toList==wdmul.toList)=false)(n5:(w.toList==wdpow.toList)=false)(n6:(w.toList==wdfree.toList)=false):zH st (w,li,f,v) fs=some (false,false,st):=by unfold zH;simp only[za,n1,n2,n3,n4,n5,n6,zc]
theorem g_no{d:Int}{F:Nat→F3}{L:List StI}{x:StS×List StS}(hr:CR ((d,F),L) x){s w:qf}{l:List Nat}{f:F3}{v:Int}(h1:zM s=some ((w,l.map (fun (i:Nat)=>(i:Int)),f,v),true))(h2:qL s=some (w,(l.map lt1,f,v),true))(hl:l.length≤9)(h26:∀i∈l,i<26)
  (n1:(w.toList==wddisc.toList)=false) (n2:(w.toList==wdset.toList)=false) (n3:(w.toList==wdprime.toList)=false) (n4:(w.toList==wdmul.toList)=false) (n5:(w.toList==wdpow.toList)=false) (n6:(w.toList==wdfree.toList)=false) (n7:(w.toList==wdnames.toList)=false) (n8:(w.toList==wdundo.toList)=false)
  (H:(∀i∈l,PrRc d (F i))→jJ (l.map lt1) (l.map lt1,f,v) w x FU 0 []=some (.inl (l.map F))→∃r b,jF (d,F) (w,l.map (fun (i:Nat)=>(i:Int)),f,v) (l.map F)=some (r,b)∧qE x w (l.map lt1,f,v)=some (if b then (r,x) else (noT,x))∧r.size≤20000):zEY ((d,F),L) x s:=by
 have hw:setW w=false:=by unfold setW;rw[n2,n3,n4,n5];rfl
 have hsr:SR (d,F) x.1:=hr.1;have hf:=zUK w f v d F (l:=l) (by omega) h26 hw;have ha:=z29 w (l.map lt1,f,v) hsr (l:=l) (by omega) h26;have hs:=z1n (x:=x) h2 n1 n2 n3 n6 n7 n8;cases hall:l.all (fun i=>nzb (F i)) with
 |true=>
  rw[hall,if_pos rfl]at hf ha;rw[List.all_eq_true]at hall;obtain⟨r,b,k1,k2,k5⟩:=H (fun i hi=>hsr.pr i (h26 i hi) (hall i hi)) ha;refine⟨_,_,z50 (c:=((d,F),L)) h1 n8 hf (z9a n1 n2 n3 n4 n5 n6) k1,hs.trans k2,?_⟩;cases b
  ·exact⟨rfl,hr,by simp,zHT⟩
  ·exact⟨rfl,hr,by simp,k5⟩
 |false=>rw[hall]at hf ha;refine⟨_,(noT,x),z3F (c:=((d,F),L)) h1 n8 hf,hs.trans ?_,rfl,hr,by simp,zHT⟩;unfold qE;simp only[n4,n5,zc,za,ha];rfl
theorem z8O{d:Int}{F:Nat→F3}{L:List StI}{x:StS×List StS}(hr:CR ((d,F),L) x){s:qf}{i:Nat}(hi:i<26){f:F3}{v:Int}(h1:zM s=some ((wdshow,[(i:Int)],f,v),true))(h2:qL s=some (wdshow,([lt1 i],f,v),true)):zEY ((d,F),L) x s:=by
 have q:=z2q;obtain⟨q1,q2,q3,q4,q5,q6,q7,q8,q9,q10,q11,q12,q13,q14⟩:=z2q;unfold wE at q;have hsr:SR (d,F) x.1:=hr.1;have d1:-2000≤d:=hsr.d1;have d2:d≤-3:=hsr.d2;have hd:x.1.1=d:=hsr.d;refine g_no hr (l:=[i]) h1 h2 (by simp) (by simpa using hi) q1 q2 q3 q5 q6 q8 q13 q14 fun hp ha=>?_
 simp -implicitDefEqProofs only[List.map_cons,zr]at ha ⊢;have hp:PrRc d (F i):=hp i (List.mem_singleton.2 rfl);have g0:getI [F i] 0=some (F i):=rfl;obtain⟨⟨r1,r2,r3,r4,r5,r6⟩,r7⟩:=zGb d1 hp;have b1:sm18 (F i).1:=by unfold sm18;omega
 have b2:sm18 (F i).2.1:=by unfold sm18;omega
 have b3:sm18 (F i).2.2:=by unfold sm18;omega
 refine⟨bl (fB (F i)),true,?_,?_,by rw[qZ];have:=zKK b1 b2 b3;omega⟩
 ·unfold jF;simp -implicitDefEqProofs only[ha,g0,hd,za,zc,zb,q,Nat.reduceBEq,zDU b1 b2 b3]
 ·unfold qE;simp -implicitDefEqProofs only[ha,g0,hd,za,zc,zb,q,Nat.reduceBEq,zFR b1 b2 b3];rfl
theorem z5z{d:Int}{F:Nat→F3}{L:List StI}{x:StS×List StS}(hr:CR ((d,F),L) x){s:qf}{i:Nat}(hi:i<26){f:F3}{v:Int}(h1:zM s=some ((wdindex,[(i:Int)],f,v),true))(h2:qL s=some (wdindex,([lt1 i],f,v),true)):zEY ((d,F),L) x s:=by
 have q:=zZk;obtain⟨q1,q2,q3,q4,q5,q6,q7,q8,q9,q10,q11,q12,q13,q14⟩:=zZk;unfold wE at q;have hsr:SR (d,F) x.1:=hr.1;have d1:-2000≤d:=hsr.d1;have d2:d≤-3:=hsr.d2;have hd:x.1.1=d:=hsr.d;refine g_no hr (l:=[i]) h1 h2 (by simp) (by simpa using hi) q1 q2 q3 q5 q6 q8 q13 q14 fun hp ha=>?_
 simp -implicitDefEqProofs only[List.map_cons,zr]at ha ⊢;have hp:PrRc d (F i):=hp i (List.mem_singleton.2 rfl);have g0:getI [F i] 0=some (F i):=rfl;obtain⟨j,M,k1,k2,k3,k4⟩:=z6r d1 d2 hp;obtain⟨t1,t2,t3⟩:=zTu (r:=j) (by omega);refine⟨bl (Go.Lib.itoa (j:Int)),true,?_,?_,by rw[qZ];omega⟩
 ·unfold jF;simp -implicitDefEqProofs only[ha,g0,hd,za,zc,zb,q,Nat.reduceBEq,k1,t2]
 ·unfold qE;simp -implicitDefEqProofs only[ha,g0,hd,za,zc,zb,q,Nat.reduceBEq,k2,k3,t1];rfl
theorem z5x{d:Int}{F:Nat→F3}{L:List StI}{x:StS×List StS}(hr:CR ((d,F),L) x){s:qf}{i:Nat}(hi:i<26){f:F3}{v:Int}(h1:zM s=some ((wdorder,[(i:Int)],f,v),true))(h2:qL s=some (wdorder,([lt1 i],f,v),true)):zEY ((d,F),L) x s:=by
 have q:=zZi;obtain⟨q1,q2,q3,q4,q5,q6,q7,q8,q9,q10,q11,q12,q13,q14⟩:=zZi;unfold wE at q;have hsr:SR (d,F) x.1:=hr.1;have d1:-2000≤d:=hsr.d1;have d2:d≤-3:=hsr.d2;have hd:x.1.1=d:=hsr.d;refine g_no hr (l:=[i]) h1 h2 (by simp) (by simpa using hi) q1 q2 q3 q5 q6 q8 q13 q14 fun hp ha=>?_
 simp -implicitDefEqProofs only[List.map_cons,zr]at ha ⊢;have hp:PrRc d (F i):=hp i (List.mem_singleton.2 rfl);have g0:getI [F i] 0=some (F i):=rfl;obtain⟨j,k1,k2,k4⟩:=qAz d1 (by omega) hp;obtain⟨t1,t2,t3⟩:=zTu (r:=j) (by omega);refine⟨bl (Go.Lib.itoa (j:Int)),true,?_,?_,by rw[qZ];omega⟩
 ·unfold jF;simp -implicitDefEqProofs only[ha,g0,hd,za,zc,zb,q,Nat.reduceBEq,k1,t2]
 ·unfold qE;simp -implicitDefEqProofs only[ha,g0,hd,za,zc,zb,q,Nat.reduceBEq,k2,t1];rfl
theorem z6A{d:Int}{F:Nat→F3}{L:List StI}{x:StS×List StS}(hr:CR ((d,F),L) x){s:qf}{i:Nat}(hi:i<26){f:F3}{v:Int}(h1:zM s=some ((wdgenus,[(i:Int)],f,v),true))(h2:qL s=some (wdgenus,([lt1 i],f,v),true)):zEY ((d,F),L) x s:=by
 have q:=zZl;obtain⟨q1,q2,q3,q4,q5,q6,q7,q8,q9,q10,q11,q12,q13,q14⟩:=zZl;unfold wE at q;have hsr:SR (d,F) x.1:=hr.1;have d1:-2000≤d:=hsr.d1;have d2:d≤-3:=hsr.d2;have hd:x.1.1=d:=hsr.d;refine g_no hr (l:=[i]) h1 h2 (by simp) (by simpa using hi) q1 q2 q3 q5 q6 q8 q13 q14 fun hp ha=>?_
 simp -implicitDefEqProofs only[List.map_cons,zr]at ha ⊢;have hp:PrRc d (F i):=hp i (List.mem_singleton.2 rfl);have g0:getI [F i] 0=some (F i):=rfl;obtain⟨g,k1,k2,k3,k4⟩:=z6s d1 d2 hp;have t1:=z2H (d,F) k4 k3 FU 0 [] (by omega) (by unfold FU;omega) (by simp);have t2:=z2G x k4 k3 FU 0 [] (by omega) (by unfold FU;omega) (by simp);have t1:zB2 (d,F) g FU ⟨#[]⟩ 0=_:=t1;have t2:zAY x g FU ⟨#[]⟩ 0=_:=t2;refine⟨bl ([]++(g.drop 0).map fun e=>if e=1 then 43 else 45),true,?_,?_,by rw[qZ];simp;omega⟩
 ·unfold jF;simp -implicitDefEqProofs only[ha,g0,hd,za,zc,zb,q,Nat.reduceBEq,k1,t1]
 ·unfold qE;simp -implicitDefEqProofs only[ha,g0,hd,za,zc,zb,q,Nat.reduceBEq,k2,t2];rfl
theorem z5v{d:Int}{F:Nat→F3}{L:List StI}{x:StS×List StS}(hr:CR ((d,F),L) x){s:qf}{i:Nat}(hi:i<26){f:F3}{v:Int}(h1:zM s=some ((wdvalue,[(i:Int)],f,v),true))(h2:qL s=some (wdvalue,([lt1 i],f,v),true)):zEY ((d,F),L) x s:=by
 have q:=zZg;obtain⟨q1,q2,q3,q4,q5,q6,q7,q8,q9,q10,q11,q12,q13,q14⟩:=zZg;unfold wE at q;have hsr:SR (d,F) x.1:=hr.1;have d1:-2000≤d:=hsr.d1;have d2:d≤-3:=hsr.d2;have hd:x.1.1=d:=hsr.d;refine g_no hr (l:=[i]) h1 h2 (by simp) (by simpa using hi) q1 q2 q3 q5 q6 q8 q13 q14 fun hp ha=>?_
 simp -implicitDefEqProofs only[List.map_cons,zr]at ha ⊢;have hp:PrRc d (F i):=hp i (List.mem_singleton.2 rfl);have g0:getI [F i] 0=some (F i):=rfl;obtain⟨m,b,k1,k2,k3,k4⟩:=z6n d1 d2 hp v;obtain⟨j,rfl⟩:∃j:Nat,m=(j:Int):=⟨m.natAbs,by omega⟩
 obtain⟨t1,t2,t3⟩:=zTu (r:=j) (by omega);refine⟨bl (Go.Lib.itoa (j:Int)),b,?_,?_,by rw[qZ];omega⟩
 ·unfold jF;simp -implicitDefEqProofs only[ha,g0,hd,za,zc,zb,q,Nat.reduceBEq,k1,t2]
 ·unfold qE;simp -implicitDefEqProofs only[ha,g0,hd,za,zc,zb,q,Nat.reduceBEq,k2,t1];cases b<;>rfl
theorem z8P{d:Int}{F:Nat→F3}{L:List StI}{x:StS×List StS}(hr:CR ((d,F),L) x){s:qf}{i j:Nat}(hi:i<26)(hj:j<26){f:F3}{v:Int}(h1:zM s=some ((wdsame,[(i:Int),(j:Int)],f,v),true))(h2:qL s=some (wdsame,([lt1 i,lt1 j],f,v),true)):zEY ((d,F),L) x s:=by
 have q:=z2r;obtain⟨q1,q2,q3,q4,q5,q6,q7,q8,q9,q10,q11,q12,q13,q14⟩:=z2r;unfold wE at q;refine g_no hr (l:=[i,j]) h1 h2 (by simp) (by simp[hi,hj]) q1 q2 q3 q5 q6 q8 q13 q14 fun hp ha=>?_
 simp -implicitDefEqProofs only[List.map_cons,zr]at ha ⊢;have g0:getI [F i,F j] 0=some (F i):=rfl;have g1:getI [F i,F j] 1=some (F j):=rfl;obtain⟨t,b,k1,k2,k5⟩:=z69 (F i) (F j);obtain⟨t',b',k3,k4,k6⟩:=z8c (F i) (F j);refine⟨if b then t else t',b||b',?_,?_,by cases b;exact k6;exact k5⟩
 ·unfold jF;simp -implicitDefEqProofs only[g0,g1,za,zc,zb,q,Nat.reduceBEq,k2,k4];cases b<;>rfl
 ·unfold qE;simp -implicitDefEqProofs only[ha,g0,g1,za,zc,zb,q,Nat.reduceBEq,k1,k3];cases b<;>cases b'<;>rfl
theorem z8R{d:Int}{F:Nat→F3}{L:List StI}{x:StS×List StS}(hr:CR ((d,F),L) x)(hx:x.2.length≤1000000){s:qf}{f:F3}{v:Int}(h1:zM s=some ((wddisc,[],f,v),true))(h2:qL s=some (wddisc,([],f,v),true)):zEY ((d,F),L) x s:=by
 have q:=zSW;obtain⟨q1,q2,q3,q4,q5,q6,q7,q8,q9,q10,q11,q12,q13,q14⟩:=zSW;unfold wE at q;have hsr:SR (d,F) x.1:=hr.1;have d1:-2000≤d:=hsr.d1;have d2:d≤-3:=hsr.d2;have hd:x.1.1=d:=hsr.d;have hL:L.length=x.2.length:=hr.2.1;have hw:setW wddisc=false:=by decide+kernel
 have hf:zP (d,F) (wddisc,[],f,v)=some ([],true):=zUK wddisc f v d F (l:=[]) (by simp) (by simp) hw;obtain⟨b,k1,k2,k3⟩:=z8d v;have hc:zH (d,F) (wddisc,[],f,v) []=some (b,true,(v,fun _=>(0,0,0))):=by unfold zH;simp -implicitDefEqProofs only[k1,za,zb,q,Nat.reduceBEq]
 refine⟨_,if b then (okT,((v,qg,[]),x.2++[x.1])) else (noT,x),zJx (c:=((d,F),L)) h1 q14 hf hc (by simp only;omega),?_,?_⟩
 ·unfold zN;simp -implicitDefEqProofs only[h2,k2,za,zh,zb,zc,q,Nat.reduceBEq,jQ];rw[zAa (by simp;omega)];cases b<;>rfl
 ·cases b with
  |true=>obtain⟨e1,e2,e3⟩:=k3 rfl;exact⟨rfl,⟨z5O e1 e2 e3,zYf hr.2 hsr⟩,by simp,zTs⟩
  |false=>exact⟨rfl,hr,by simp,zHT⟩
theorem zS0{d:Int}{F:Nat→F3}{L:List StI}{x:StS×List StS}(hr:CR ((d,F),L) x)(hx:x.2.length≤1000000){s w:qf}{li:List Int}{f:F3}{v:Int}{fs:List F3}(h1:zM s=some ((w,li,f,v),true))(hu:(w.toList==wdundo.toList)=false)(hf:zP (d,F) (w,li,f,v)=some (fs,true)){i:Nat}(hi:i<26){f0 g:F3}(hg:PrRc d g)(hrd:qD f0=some g)
  (hc:zH (d,F) (w,li,f,v) fs=(zAq (d,F) (i:Int) f0).bind fun y=>some (y.1,true,y.2)) (hs:zN x s=jW x (lt1 i) g):zEY ((d,F),L) x s:=by
 have hsr:SR (d,F) x.1:=hr.1;have hL:L.length=x.2.length:=hr.2.1;have hle:(dnS F 0).length≤8:=hsr.le;rw[z59 d F hi hrd (by omega)]at hc;have hn:=z4O hsr hx hi hg;by_cases hq:nzb (F i)=false∧(dnS F 0).length=8
 ·rw[if_pos hq]at hc hn;rw[hn]at hs;exact⟨_,_,zJx (c:=((d,F),L)) h1 hu hf hc (by simp only;omega),hs,rfl,hr,by simp,zHT⟩
 ·rw[if_neg hq]at hc hn;obtain⟨y,hy,hsy⟩:=hn;rw[hy]at hs;exact⟨_,_,zJx (c:=((d,F),L)) h1 hu hf hc (by simp only;omega),hs,rfl,⟨hsy,zYf hr.2 hsr⟩,by simp,zTs⟩
theorem z9w{d:Int}{F:Nat→F3}{L:List StI}{x:StS×List StS}(hr:CR ((d,F),L) x)(hx:x.2.length≤1000000){s:qf}{i:Nat}(hi:i<26){f:F3}{v:Int}(h1:zM s=some ((wdset,[(i:Int)],f,v),true))(h2:qL s=some (wdset,([lt1 i],f,v),true)):zEY ((d,F),L) x s:=by
 have q:=z4w;obtain⟨q1,q2,q3,q4,q5,q6,q7,q8,q9,q10,q11,q12,q13,q14⟩:=z4w;unfold wE at q;have hsr:SR (d,F) x.1:=hr.1;have d1:-2000≤d:=hsr.d1;have d2:d≤-3:=hsr.d2;have hd:x.1.1=d:=hsr.d;have hL:L.length=x.2.length:=hr.2.1;have hw:setW wdset=true:=by decide+kernel
 have hf:zP (d,F) (wdset,[(i:Int)],f,v)=some ([F i],true):=zYo wdset f v d F (l:=[]) (by simp) hi (by simp) hw;have g0:getI [(i:Int)] 0=some (i:Int):=rfl;have g1:getI [lt1 i] 0=some (lt1 i):=rfl;obtain⟨b,k1,k2,k3⟩:=qAx f;cases b with
 |false=>
  have hc:zH (d,F) (wdset,[(i:Int)],f,v) [F i]=some (false,true,(d,F)):=by unfold zH;simp -implicitDefEqProofs only[k1,za,zb,zc,q,Nat.reduceBEq]
  refine⟨_,(noT,x),zJx (c:=((d,F),L)) h1 q14 hf hc (by simp only;omega),?_,rfl,hr,by simp,zHT⟩;unfold zN;simp -implicitDefEqProofs only[h2,k2,za,zh,zi,zb,zc,q,Nat.reduceBEq];rfl
 |true=>
  obtain⟨D,e1,e2,e3,e4,g,e5,e6,e7⟩:=k3 rfl;by_cases hD:D=d
  ·subst hD;refine zS0 hr hx h1 q14 hf hi e7 e5 ?_ ?_
   ·unfold zH;simp -implicitDefEqProofs only[k1,e1,g0,jN,beq_self_eq_true,za,Option.bind_assoc,zb,zc,q,Nat.reduceBEq]
   ·unfold zN;simp -implicitDefEqProofs only[h2,k2,e2,e6,g1,hd,jN,beq_self_eq_true,za,zh,zi,zb,zc,q,Nat.reduceBEq,zH0]
  ·have hb:(D==d)=false:=beq_eq_false_iff_ne.2 hD;have hc:zH (d,F) (wdset,[(i:Int)],f,v) [F i]=some (false,true,(d,F)):=by
    unfold zH;simp -implicitDefEqProofs only[k1,e1,jN,hb,za,zb,zc,q,Nat.reduceBEq]
   refine⟨_,(noT,x),zJx (c:=((d,F),L)) h1 q14 hf hc (by simp only;omega),?_,rfl,hr,by simp,zHT⟩;unfold zN;simp -implicitDefEqProofs only[h2,k2,e2,hd,jN,hb,za,zh,zi,zb,zc,q,Nat.reduceBEq];rfl
theorem z5w{d:Int}{F:Nat→F3}{L:List StI}{x:StS×List StS}(hr:CR ((d,F),L) x)(hx:x.2.length≤1000000){s:qf}{i:Nat}(hi:i<26){f:F3}{v:Int}(h1:zM s=some ((wdprime,[(i:Int)],f,v),true))(h2:qL s=some (wdprime,([lt1 i],f,v),true)):zEY ((d,F),L) x s:=by
 have q:=zZh;obtain⟨q1,q2,q3,q4,q5,q6,q7,q8,q9,q10,q11,q12,q13,q14⟩:=zZh;unfold wE at q;have hsr:SR (d,F) x.1:=hr.1;have d1:-2000≤d:=hsr.d1;have d2:d≤-3:=hsr.d2;have hd:x.1.1=d:=hsr.d;have hL:L.length=x.2.length:=hr.2.1;have hw:setW wdprime=true:=by decide+kernel
 have hf:zP (d,F) (wdprime,[(i:Int)],f,v)=some ([F i],true):=zYo wdprime f v d F (l:=[]) (by simp) hi (by simp) hw;have g0:getI [(i:Int)] 0=some (i:Int):=rfl;have g1:getI [lt1 i] 0=some (lt1 i):=rfl;obtain⟨g,b,k1,k2,k3⟩:=z6p d1 d2 hsr.d4 v;cases b with
 |false=>
  have hc:zH (d,F) (wdprime,[(i:Int)],f,v) [F i]=some (false,true,(d,F)):=by unfold zH;simp -implicitDefEqProofs only[k1,za,zb,zc,q,Nat.reduceBEq]
  refine⟨_,(noT,x),zJx (c:=((d,F),L)) h1 q14 hf hc (by simp only;omega),?_,rfl,hr,by simp,zHT⟩;unfold zN;simp -implicitDefEqProofs only[h2,hd,k2,za,zh,zi,zb,zc,q,Nat.reduceBEq];rfl
 |true=>
  refine zS0 hr hx h1 q14 hf hi (k3 rfl) (zGR d1 (by omega) (k3 rfl)).1 ?_ ?_
  ·unfold zH;simp -implicitDefEqProofs only[k1,g0,za,Option.bind_assoc,zb,zc,q,Nat.reduceBEq]
  ·unfold zN;simp -implicitDefEqProofs only[h2,hd,k2,g1,za,zh,zi,zb,zc,q,Nat.reduceBEq,zH0]
theorem z9y{d:Int}{F:Nat→F3}{L:List StI}{x:StS×List StS}(hr:CR ((d,F),L) x)(hx:x.2.length≤1000000){s:qf}{i:Nat}(hi:i<26){j:Nat}(hj:j<26){k:Nat}(hk:k<26){f:F3}{v:Int}(h1:zM s=some ((wdmul,[(i:Int),(j:Int),(k:Int)],f,v),true))(h2:qL s=some (wdmul,([lt1 i,lt1 j,lt1 k],f,v),true)):zEY ((d,F),L) x s:=by
 have q:=z4y;obtain⟨q1,q2,q3,q4,q5,q6,q7,q8,q9,q10,q11,q12,q13,q14⟩:=z4y;unfold wE at q;have hsr:SR (d,F) x.1:=hr.1;have d1:-2000≤d:=hsr.d1;have d2:d≤-3:=hsr.d2;have hd:x.1.1=d:=hsr.d;have hL:L.length=x.2.length:=hr.2.1;have hw:setW wdmul=true:=by decide+kernel
 have h26:∀a∈[j,k],a<26:=by simp[hj,hk]
 have hf:zP (d,F) (wdmul,[(i:Int),(j:Int),(k:Int)],f,v)=_:=zYo wdmul f v d F (l:=[j,k]) (by simp) hi h26 hw;have ha:jJ [lt1 j,lt1 k] ([lt1 i,lt1 j,lt1 k],f,v) wdmul x FU 0 []=_:=z29 wdmul ([lt1 i,lt1 j,lt1 k],f,v) hsr (l:=[j,k]) (by simp) h26;have g0:getI [(i:Int),(j:Int),(k:Int)] 0=some (i:Int):=rfl;have g1:getI [lt1 i,lt1 j,lt1 k] 0=some (lt1 i):=rfl;have g2:slc ([lt1 i,lt1 j,lt1 k]:List qf).length 1 ((([lt1 i,lt1 j,lt1 k]:List qf).length:Nat):Int)=some ():=rfl;have g3:subl [lt1 i,lt1 j,lt1 k] 1 ((([lt1 i,lt1 j,lt1 k]:List qf).length:Nat):Int)=[lt1 j,lt1 k]:=rfl;have hsl:zN x s=qE x wdmul ([lt1 i,lt1 j,lt1 k],f,v):=z1n h2 q1 q2 q3 q8 q13 q14;cases hall:([j,k]).all (fun i=>nzb (F i)) with
 |false=>rw[hall]at hf ha;refine⟨_,(noT,x),z3F (c:=((d,F),L)) h1 q14 hf,hsl.trans ?_,rfl,hr,by simp,zHT⟩;unfold qE;simp -implicitDefEqProofs only[g2,g3,ha,za,zb,zc,q,Nat.reduceBEq];rfl
 |true=>
  rw[hall,if_pos rfl]at hf ha;rw[List.all_eq_true]at hall;have pj:PrRc d (F j):=hsr.pr j hj (hall j (by simp));have pk:PrRc d (F k):=hsr.pr k hk (hall k (by simp));simp only[List.map_cons,zr]at hf ha;obtain⟨g,k1,k2,k3⟩:=qBA d1 (by omega) pj pk;have a1:getI [F i,F j,F k] 1=some (F j):=rfl;have a2:getI [F i,F j,F k] 2=some (F k):=rfl;have c1:getI [F j,F k] 0=some (F j):=rfl;have c2:getI [F j,F k] 1=some (F k):=rfl;refine zS0 hr hx h1 q14 hf hi k3 (zGR d1 (by omega) k3).1 ?_ (hsl.trans ?_)
  ·unfold zH;simp -implicitDefEqProofs only[g0,k1,a1,a2,za,Option.bind_assoc,zb,zc,q,Nat.reduceBEq]
  ·unfold qE;simp -implicitDefEqProofs only[g2,g3,ha,g1,k2,c1,c2,za,zb,zc,q,Nat.reduceBEq,zH0]
theorem z9x{d:Int}{F:Nat→F3}{L:List StI}{x:StS×List StS}(hr:CR ((d,F),L) x)(hx:x.2.length≤1000000){s:qf}{i:Nat}(hi:i<26){j:Nat}(hj:j<26){f:F3}{v:Int}(hv:NB v)(h1:zM s=some ((wdpow,[(i:Int),(j:Int)],f,v),true))(h2:qL s=some (wdpow,([lt1 i,lt1 j],f,v),true)):zEY ((d,F),L) x s:=by
 have q:=z4x;obtain⟨q1,q2,q3,q4,q5,q6,q7,q8,q9,q10,q11,q12,q13,q14⟩:=z4x;unfold wE at q;have hsr:SR (d,F) x.1:=hr.1;have d1:-2000≤d:=hsr.d1;have d2:d≤-3:=hsr.d2;have hd:x.1.1=d:=hsr.d;have hL:L.length=x.2.length:=hr.2.1;have hw:setW wdpow=true:=by decide+kernel
 have h26:∀a∈[j],a<26:=by simp[hj]
 have hf:zP (d,F) (wdpow,[(i:Int),(j:Int)],f,v)=_:=zYo wdpow f v d F (l:=[j]) (by simp) hi h26 hw;have ha:jJ [lt1 j] ([lt1 i,lt1 j],f,v) wdpow x FU 0 []=_:=z29 wdpow ([lt1 i,lt1 j],f,v) hsr (l:=[j]) (by simp) h26;have g0:getI [(i:Int),(j:Int)] 0=some (i:Int):=rfl;have g1:getI [lt1 i,lt1 j] 0=some (lt1 i):=rfl;have g2:slc ([lt1 i,lt1 j]:List qf).length 1 ((([lt1 i,lt1 j]:List qf).length:Nat):Int)=some ():=rfl;have g3:subl [lt1 i,lt1 j] 1 ((([lt1 i,lt1 j]:List qf).length:Nat):Int)=[lt1 j]:=rfl;have hsl:zN x s=qE x wdpow ([lt1 i,lt1 j],f,v):=z1n h2 q1 q2 q3 q8 q13 q14;cases hall:([j]).all (fun i=>nzb (F i)) with
 |false=>rw[hall]at hf ha;refine⟨_,(noT,x),z3F (c:=((d,F),L)) h1 q14 hf,hsl.trans ?_,rfl,hr,by simp,zHT⟩;unfold qE;simp -implicitDefEqProofs only[g2,g3,ha,za,zb,zc,q,Nat.reduceBEq];rfl
 |true=>
  rw[hall,if_pos rfl]at hf ha;rw[List.all_eq_true]at hall;have pj:PrRc d (F j):=hsr.pr j hj (hall j (by simp));simp only[List.map_cons,zr]at hf ha;obtain⟨g,k1,k2,k3⟩:=qAy d1 (by omega) pj hv;have a1:getI [F i,F j] 1=some (F j):=rfl;have c1:getI [F j] 0=some (F j):=rfl;refine zS0 hr hx h1 q14 hf hi k3 (zGR d1 (by omega) k3).1 ?_ (hsl.trans ?_)
  ·unfold zH;simp -implicitDefEqProofs only[g0,k1,a1,za,Option.bind_assoc,zb,zc,q,Nat.reduceBEq]
  ·unfold qE;simp -implicitDefEqProofs only[g2,g3,ha,g1,k2,c1,za,zb,zc,q,Nat.reduceBEq,zH0]
theorem z8Q{d:Int}{F:Nat→F3}{L:List StI}{x:StS×List StS}(hr:CR ((d,F),L) x)(hx:x.2.length≤1000000){s:qf}{i:Nat}(hi:i<26){f:F3}{v:Int}(h1:zM s=some ((wdfree,[(i:Int)],f,v),true))(h2:qL s=some (wdfree,([lt1 i],f,v),true)):zEY ((d,F),L) x s:=by
 have q:=z2s;obtain⟨q1,q2,q3,q4,q5,q6,q7,q8,q9,q10,q11,q12,q13,q14⟩:=z2s;unfold wE at q;have hsr:SR (d,F) x.1:=hr.1;have d1:-2000≤d:=hsr.d1;have d2:d≤-3:=hsr.d2;have hd:x.1.1=d:=hsr.d;have hL:L.length=x.2.length:=hr.2.1;have hw:setW wdfree=false:=by decide+kernel
 have hf:zP (d,F) (wdfree,[(i:Int)],f,v)=_:=zUK wdfree f v d F (l:=[i]) (by simp) (by simp[hi]) hw;have g0:getI [(i:Int)] 0=some (i:Int):=rfl;have g1:getI [lt1 i] 0=some (lt1 i):=rfl;have hfr:=z4W hsr hx hi;have hsl:zN x s=zBV x (lt1 i):=by unfold zN;simp -implicitDefEqProofs only[h2,g1,za,zh,zi,zb,zc,q,Nat.reduceBEq,zH0]
 have e:[i].all (fun i=>nzb (F i))=nzb (F i):=by simp
 rw[e]at hf;cases hz:nzb (F i) with
 |false=>rw[hz]at hf;rw[if_pos hz]at hfr;exact⟨_,(noT,x),z3F (c:=((d,F),L)) h1 q14 hf,hsl.trans hfr,rfl,hr,by simp,zHT⟩
 |true=>
  rw[hz,if_pos rfl]at hf;rw[if_neg (by rw[hz];simp)]at hfr;obtain⟨y,hy,hsy⟩:=hfr;have hc:zH (d,F) (wdfree,[(i:Int)],f,v) ([i].map F)=some (true,true,(d,upA F i (0,0,0))):=by unfold zH;simp -implicitDefEqProofs only[g0,zLA hi,Option.map_some,zj,za,zb,zc,q,Nat.reduceBEq]
  exact⟨_,_,zJx (c:=((d,F),L)) h1 q14 hf hc (by simp only;omega),hsl.trans hy,rfl,⟨hsy,zYf hr.2 hsr⟩,by simp,zTs⟩
theorem z5y{d:Int}{F:Nat→F3}{L:List StI}{x:StS×List StS}(hr:CR ((d,F),L) x)(hx:x.2.length≤1000000){s:qf}{f:F3}{v:Int}(h1:zM s=some ((wdnames,[],f,v),true))(h2:qL s=some (wdnames,([],f,v),true)):zEY ((d,F),L) x s:=by
 have q:=zZj;obtain⟨q1,q2,q3,q4,q5,q6,q7,q8,q9,q10,q11,q12,q13,q14⟩:=zZj;unfold wE at q;have hsr:SR (d,F) x.1:=hr.1;have d1:-2000≤d:=hsr.d1;have d2:d≤-3:=hsr.d2;have hd:x.1.1=d:=hsr.d;have hL:L.length=x.2.length:=hr.2.1;have hw:setW wdnames=false:=by decide+kernel
 have hf:zP (d,F) (wdnames,[],f,v)=some ([],true):=zUK wdnames f v d F (l:=[]) (by simp) (by simp) hw;have hnm:x.1.2.1=bl ((dnS F 0).map lb):=hsr.nm;have ha:jF (d,F) (wdnames,[],f,v) []=some (bif ((bl ((dnS F 0).map lb)).toList==(⟨#[]⟩:qf).toList) then ⟨#[110,111,110,101]⟩ else bl ((dnS F 0).map lb),true):=by unfold jF;simp -implicitDefEqProofs only[zXF,za,zb,zc,q,Nat.reduceBEq];cases ((bl ((dnS F 0).map lb)).toList==(⟨#[]⟩:qf).toList)<;>rfl
 refine⟨_,(bif ((bl ((dnS F 0).map lb)).toList==(⟨#[]⟩:qf).toList) then ⟨#[110,111,110,101]⟩ else bl ((dnS F 0).map lb),x),z50 (c:=((d,F),L)) h1 q14 hf (z9a q1 q2 q3 q5 q6 q8) ha,?_,rfl,hr,by simp,?_⟩
 ·unfold zN;simp -implicitDefEqProofs only[h2,hnm,za,zh,zi,zb,zc,q,Nat.reduceBEq];cases ((bl ((dnS F 0).map lb)).toList==(⟨#[]⟩:qf).toList)<;>rfl
 ·have hle:(dnS F 0).length≤8:=hsr.le;have hz:(bl ((dnS F 0).map lb)).size≤20000:=by rw[qZ,List.length_map];omega
  show ByteArray.size (bif _ then _ else _)≤20000;cases ((bl ((dnS F 0).map lb)).toList==(⟨#[]⟩:qf).toList)
  ·exact hz
  ·exact (show ByteArray.size ⟨#[110,111,110,101]⟩≤20000 by decide)
theorem z8N{d:Int}{F:Nat→F3}{L:List StI}{x:StS×List StS}(hr:CR ((d,F),L) x)(hx:x.2.length≤1000000){s:qf}{f:F3}{v:Int}(h1:zM s=some ((wdundo,[],f,v),true))(h2:qL s=some (wdundo,([],f,v),true)):zEY ((d,F),L) x s:=by
 have q:=zXa;obtain⟨q1,q2,q3,q4,q5,q6,q7,q8,q9,q10,q11,q12,q13,q14⟩:=zXa;unfold wE at q;have hsr:SR (d,F) x.1:=hr.1;have d1:-2000≤d:=hsr.d1;have d2:d≤-3:=hsr.d2;have hd:x.1.1=d:=hsr.d;have hL:L.length=x.2.length:=hr.2.1;have hw:setW wdundo=false:=by decide+kernel
 have hsl:zN x s=zBv x:=by unfold zN;simp -implicitDefEqProofs only[h2,za,zh,zi,zb,zc,q,Nat.reduceBEq,zH0]
 by_cases h0:x.2.length=0
 ·refine⟨(noT,((d,F),L)),(noT,x),?_,hsl.trans ?_,rfl,hr,by simp,zHT⟩
  ·unfold zS;simp -implicitDefEqProofs only[h1,za,zh,zi,zb,zc,q,Nat.reduceBEq,hL,h0];rfl
  ·unfold zBv;simp -implicitDefEqProofs only[h0];rfl
 ·have hw1:w64 ((x.2.length:Int) - 1)=((x.2.length - 1:Nat):Int):=by
   rw[zA (by omega)];omega
  have e0:eqI (x.2.length:Int) 0=false:=by rw[jN];exact beq_eq_false_iff_ne.2 (by omega)
  have ga:getI L ((x.2.length - 1:Nat):Int)=some (L[x.2.length - 1]'(by omega)):=zA6 (by omega);have gb:getI x.2 ((x.2.length - 1:Nat):Int)=some (x.2[x.2.length - 1]'(by omega)):=zA6 (by omega);have s1:slc x.2.length 0 ((x.2.length - 1:Nat):Int)=some ():=zHL (l:=0) (by omega) (by omega);refine⟨(okT,(L[x.2.length - 1]'(by omega),subl L 0 ((x.2.length - 1:Nat):Int))),(okT,(x.2[x.2.length - 1]'(by omega),subl x.2 0 ((x.2.length - 1:Nat):Int))),?_,hsl.trans ?_,rfl,⟨hr.2.2 _ _ _,?_⟩,?_,zTs⟩
  ·unfold zS;simp -implicitDefEqProofs only[h1,za,zh,zi,zb,zc,q,Nat.reduceBEq,hL,e0,hw1,ga,s1];rfl
  ·unfold zBv;simp -implicitDefEqProofs only[e0,hw1,gb,s1,za,zc];rfl
  ·have:=z8L hr.2 (x.2.length - 1);unfold subl;simpa using this
  ·unfold subl;simp only[List.length_take];omega
theorem len0{α:Type}{l:List α}(h:l.length=0):l=[]:=List.length_eq_zero_iff.1 h
theorem len1{α:Type}{l:List α}(h:l.length=1):∃i,l=[i]:=List.length_eq_one_iff.1 h
theorem len2{α:Type}{l:List α}(h:l.length=2):∃i j,l=[i,j]:=by match l,h with|[i,j],_=>exact⟨i,j,rfl⟩
theorem len3{α:Type}{l:List α}(h:l.length=3):∃i j k,l=[i,j,k]:=by match l,h with|[i,j,k],_=>exact⟨i,j,k,rfl⟩
theorem z4Q{c:StI×List StI}{x:StS×List StS}(hr:CR c x)(hx:x.2.length≤1000000){s:qf}(hs:s.size≤2000):zEY c x s:=by
 obtain⟨⟨d,F⟩,L⟩:=c;rcases z4K s hs with⟨a,h1,b,cc,h2⟩|⟨w,l,f,v,si,sp,ht,h1,h2,hc,h26,hv⟩
 ·refine⟨(⟨#[119,104,97,116]⟩,((d,F),L)),(⟨#[119,104,97,116]⟩,x),?_,?_,rfl,hr,by simp,(show ByteArray.size ⟨#[119,104,97,116]⟩≤20000 by decide)⟩
  ·unfold zS;simp -implicitDefEqProofs only[h1,za,zi,zb]
  ·unfold zN;simp -implicitDefEqProofs only[h2,za,zi,zb]
 ·simp only[shT,zl,zq,or_false,Prod.mk.injEq]at ht;rcases ht with h|h|h|h|h|h|h|h|h|h|h|h|h|h<;>obtain⟨rfl,rfl,h⟩:=h<;>have h:=zJB (b:=_) h<;>subst h
  ·obtain rfl:l=[]:=len0 hc;exact z8R hr hx h1 h2
  ·obtain⟨i,rfl⟩:∃i,l=[i]:=len1 hc;exact z9w hr hx (h26 i (by simp)) h1 h2
  ·obtain⟨i,rfl⟩:∃i,l=[i]:=len1 hc;exact z5w hr hx (h26 i (by simp)) h1 h2
  ·obtain⟨i,rfl⟩:∃i,l=[i]:=len1 hc;exact z5v hr (h26 i (by simp)) h1 h2
  ·obtain⟨i,j,k,rfl⟩:∃i j k,l=[i,j,k]:=len3 hc;exact z9y hr hx (h26 i (by simp)) (h26 j (by simp)) (h26 k (by simp)) h1 h2
  ·obtain⟨i,j,rfl⟩:∃i j,l=[i,j]:=len2 hc;exact z9x hr hx (h26 i (by simp)) (h26 j (by simp)) hv h1 h2
  ·obtain⟨i,j,rfl⟩:∃i j,l=[i,j]:=len2 hc;exact z8P hr (h26 i (by simp)) (h26 j (by simp)) h1 h2
  ·obtain⟨i,rfl⟩:∃i,l=[i]:=len1 hc;exact z8Q hr hx (h26 i (by simp)) h1 h2
  ·obtain⟨i,rfl⟩:∃i,l=[i]:=len1 hc;exact z8O hr (h26 i (by simp)) h1 h2
  ·obtain⟨i,rfl⟩:∃i,l=[i]:=len1 hc;exact z5z hr (h26 i (by simp)) h1 h2
  ·obtain⟨i,rfl⟩:∃i,l=[i]:=len1 hc;exact z5x hr (h26 i (by simp)) h1 h2
  ·obtain⟨i,rfl⟩:∃i,l=[i]:=len1 hc;exact z6A hr (h26 i (by simp)) h1 h2
  ·obtain rfl:l=[]:=len0 hc;exact z5y hr hx h1 h2
  ·obtain rfl:l=[]:=len0 hc;exact z8N hr hx h1 h2
theorem z0N{Ls:List qf}(hl:Ls.length≤60)(hz:∀w∈Ls,w.size≤2000)(oki ok:Bool):∀(n k:Nat)(reps:List qf)(c:StI×List StI)(x:StS×List StS),k≤Ls.length→Ls.length - k<n→CR c x→x.2.length≤k→reps.length=k→(∀r∈reps,r.size≤20000)→
  ∃reps' c' x',zQ (Ls,oki) n (k:Int) reps c.2 c.1.1 c.1.2=some (reps',c'.2,c'.1.1,c'.1.2)∧zCk (Ls,ok) n (k:Int) x.2 reps x.1.1 x.1.2.1 x.1.2.2=some (x'.2,reps',x'.1.1,x'.1.2.1,x'.1.2.2)∧CR c' x'∧reps'.length=Ls.length∧(∀r∈reps',r.size≤20000)∧x'.2.length≤Ls.length
 |0,k,reps,c,x,h1,h2,h3,h4,h5,h6=>by omega
 |n+1,k,reps,c,x,h1,h2,h3,h4,h5,h6=>by
  unfold zQ zCk;by_cases hk:k<Ls.length
  ·obtain⟨p,q,k1,k2,k3,k4,k5,k6⟩:=z4Q h3 (by omega) (hz _ (zx hk));have k1':zS ((c.1.1,c.1.2),c.2) (Ls[k]'hk)=some p:=k1;have k2':zN ((x.1.1,x.1.2.1,x.1.2.2),x.2) (Ls[k]'hk)=some q:=k2;simp -implicitDefEqProofs only[zE,zd (show (k:Int)<(Ls.length:Int) by omega),zb,zA6 hk,k1',k2',za,zI,zA9 (show k<1000000000 by omega)];have hr1:∀a:qf,room (reps.length+[a].length)=some ():=fun a=>zAa (by simp;omega);simp -implicitDefEqProofs only[hr1,za,←k3];exact z0N hl hz oki ok n (k+1) (reps++[p.1]) p.2 q.2 (by omega) (by omega) k4 (by omega) (by simp[h5]) (by
    intro r hr;rcases List.mem_append.1 hr with hr|hr
    ·exact h6 r hr
    ·rw[List.mem_singleton.1 hr,k3];exact k6)
  ·refine⟨reps,c,x,?_,?_,h3,by omega,h6,by omega⟩
   ·simp -implicitDefEqProofs only[zE,ze (show ¬(k:Int)<(Ls.length:Int) by omega),zc]
   ·simp -implicitDefEqProofs only[zE,ze (show ¬(k:Int)<(Ls.length:Int) by omega),zc]
structure RunOk (s:qf) (reps:List qf) (c:StI×List StI) (x:StS×List StS):Prop where
  i:zU s=some (some (c.1,c.2,reps))
  sp:zCF s=some (x,reps,true)
  cr:CR c x
  le:reps.length≤60
  sz:∀r∈reps,r.size≤20000
  ln:reps.length=(LN s).length
  lp:zQ (LN s,true) FU 0 [] [] (-23) (fun _=>(0,0,0))=some (reps,c.2,c.1.1,c.1.2)
  sh:s=⟨#[]⟩∨∃p,s.data.toList=p++[10]
  bl:c.2.length≤60
theorem zJv{s:qf}(hs:s.size≤1048576):(zU s=some none∧∃d,zCF s=some (((d,qg,[]),[]),[],false))∨∃reps c x,RunOk s reps c x:=by
 obtain⟨Li,oki,Ls,ok,h1,h2,h3,h4⟩:=z6q s hs;cases ok with
 |false=>
  refine .inl ⟨?_,-23,?_⟩
  ·unfold zU;simp -implicitDefEqProofs only[h1,za,h3];rfl
  ·unfold zCF zF4;simp -implicitDefEqProofs only[h2,za];rfl
 |true=>
  obtain⟨e,h5,h6,h8,h10,h9⟩:=h4 rfl;subst e;have hc:CR ((-23,fun _=>(0,0,0)),[]) ((-23,qg,[]),[]):=⟨z5O (by omega) (by omega) (by omega),rfl,fun k h=>by cases h⟩
  obtain⟨reps,c,x,k1,k2,k3,k4,k7,k8⟩:=z0N h5 h6 oki true FU 0 [] _ _ (by omega) (by unfold FU;omega) hc (by simp) rfl (fun r hr=>by cases hr);have k1:zQ (Li,oki) FU 0 [] [] (-23) (fun _=>(0,0,0))=some (reps,c.2,c.1.1,c.1.2):=k1;have k2:zCk (Li,true) FU 0 [] [] (-23) qg []=some (x.2,reps,x.1.1,x.1.2.1,x.1.2.2):=k2;refine .inr ⟨reps,c,x,?_,?_,k3,by omega,k7,by rw[k4,h8],by rw[←h8,←h10];exact k1,h9,by have:=k3.2.1;omega⟩
  ·unfold zU;simp -implicitDefEqProofs only[h1,za,h3];simp -implicitDefEqProofs only[zh,zc,k1,za]
  ·unfold zCF zF4;simp -implicitDefEqProofs only[h2,za];simp -implicitDefEqProofs only[zh,zc,k2,za]
theorem zGV{α ρ:Type}(a:ρ)(f:α→ρ):elO none a f=a:=rfl
theorem zGU{α ρ:Type}(x:α)(a:ρ)(f:α→ρ):elO (some x) a f=f x:=rfl
theorem zWR{s:qf}(hs:s.size≤1048576):∃l b,jO s=some (l,b)∧zCb s=some (l,b)∧l.length≤8:=by
 unfold jO zCb;rcases zJv hs with⟨h1,d,h2⟩|⟨reps,c,x,h1,h2,h3,h4,_⟩
 ·refine⟨[],false,?_,?_,by simp⟩
  ·simp -implicitDefEqProofs only[h1,za,zGV]
  ·simp -implicitDefEqProofs only[h2,za];rfl
 ·have hf:x.1.2.2=(dnS c.1.2 0).map c.1.2:=h3.1.fs;have hle:(dnS c.1.2 0).length≤8:=h3.1.le;have k:=zLC (c.1,c.2,reps) FU 0 [] (by omega) (by unfold FU;omega) (by simp);have k:jV (c.1,c.2,reps) FU 0 []=some ((dnS c.1.2 0).map c.1.2):=k;refine⟨(dnS c.1.2 0).map c.1.2,true,?_,?_,by rw[List.length_map];exact hle⟩
  ·simp -implicitDefEqProofs only[h1,za,zGU,k]
  ·simp -implicitDefEqProofs only[h2,za,hf,zt];rw[zAa (by simp;omega)];rfl
theorem zZF{s:qf}(hs:s.size≤1048576):∃d b,qH s=some (d,b)∧zAd s=some (d,b):=by
 unfold qH zAd;rcases zJv hs with⟨h1,d,h2⟩|⟨reps,c,x,h1,h2,h3,h4,_⟩
 ·refine⟨0,false,?_,?_⟩
  ·simp -implicitDefEqProofs only[h1,za,zGV]
  ·simp -implicitDefEqProofs only[h2,za,zi,zb]
 ·have hd:x.1.1=c.1.1:=h3.1.d;refine⟨c.1.1,true,?_,?_⟩
  ·simp -implicitDefEqProofs only[h1,za,zGU]
  ·simp -implicitDefEqProofs only[h2,za,zh,zc,hd]
def isNo(w:qf):Bool:=w.toList==(⟨#[110,111]⟩:qf).toList
def isWh(w:qf):Bool:=w.toList==(⟨#[119,104,97,116]⟩:qf).toList
def cNo(l:List qf):Nat:=l.countP fun w=>isNo w
def cWh(l:List qf):Nat:=l.countP fun w=>!isNo w&&isWh w
def cRe(l:List qf):Nat:=l.countP fun w=>!isNo w&&!isWh w
theorem z9b(l:List qf):cNo l+cWh l+cRe l=l.length:=by
 induction l with
 |nil=>rfl
 |cons a l ih=>unfold cNo cWh cRe at ih ⊢;simp only[List.countP_cons,zg];cases isNo a<;>cases isWh a<;>simp<;>omega
theorem zZI(c:(Int×(Nat→F3))×List (Int×(Nat→F3))×List qf)(hl:c.2.2.length≤60):∀(n k a b:Nat),k≤c.2.2.length→c.2.2.length - k<n→a≤k→b≤k→jU c n (a:Int) (k:Int) (b:Int)=some (((a+cNo (c.2.2.drop k):Nat):Int),((b+cWh (c.2.2.drop k):Nat):Int))
 |0,k,a,b,h1,h2,h3,h4=>by omega
 |n+1,k,a,b,h1,h2,h3,h4=>by
  unfold jU;by_cases hk:k<c.2.2.length
  ·have hdr:c.2.2.drop k=c.2.2[k]'hk::c.2.2.drop (k+1):=List.drop_eq_getElem_cons hk;simp -implicitDefEqProofs only[zE,zd (show (k:Int)<(c.2.2.length:Int) by omega),zb,zA6 hk,za,zI,zA9 (show k<1000000000 by omega),zA9 (show a<1000000000 by omega),zA9 (show b<1000000000 by omega),hdr];generalize c.2.2[k]'hk=w;change (bif isNo w then _ else bif isWh w then _ else _)=_;cases hn:isNo w with
   |true=>rw[zb,zZI c hl n (k+1) (a+1) b (by omega) (by omega) (by omega) (by omega)];simp[cNo,cWh,List.countP_cons,hn];omega
   |false=>
    rw[zc];cases hw:isWh w with
    |true=>rw[zb,zZI c hl n (k+1) a (b+1) (by omega) (by omega) (by omega) (by omega)];simp[cNo,cWh,List.countP_cons,hn,hw];omega
    |false=>rw[zc,zZI c hl n (k+1) a b (by omega) (by omega) (by omega) (by omega)];simp[cNo,cWh,List.countP_cons,hn,hw]
  ·simp -implicitDefEqProofs only[zE,ze (show ¬(k:Int)<(c.2.2.length:Int) by omega),zc];rw[zo (by omega)];rfl
def fl(k:Nat):List qf→List Int
 |[]=>[]
 |w::l=>(if isNo w||isWh w then [((k+1:Nat):Int)] else [])++fl (k+1) l
theorem qAo(k:Nat)(l:List qf):(fl k l).length≤l.length:=by
 induction l generalizing k with
 |nil=>simp[fl]
 |cons w l ih=>have:=ih (k+1);unfold fl;split<;>simp<;>omega
theorem zYt(c:(Int×(Nat→F3))×List (Int×(Nat→F3))×List qf)(hl:c.2.2.length≤60):∀(n k:Nat)(acc:List Int),k≤c.2.2.length→c.2.2.length - k<n→acc.length≤k→zAA c n (k:Int) acc=some (acc++fl k (c.2.2.drop k))
 |0,k,acc,h1,h2,h3=>by omega
 |n+1,k,acc,h1,h2,h3=>by
  unfold zAA;by_cases hk:k<c.2.2.length
  ·have hdr:c.2.2.drop k=c.2.2[k]'hk::c.2.2.drop (k+1):=List.drop_eq_getElem_cons hk;simp -implicitDefEqProofs only[zE,zd (show (k:Int)<(c.2.2.length:Int) by omega),zb,zA6 hk,za,zI,zA9 (show k<1000000000 by omega),hdr];generalize c.2.2[k]'hk=w;have hb:(bif (w.toList==(⟨#[110,111]⟩:qf).toList) then true else (w.toList==(⟨#[119,104,97,116]⟩:qf).toList))=(isNo w||isWh w):=by
    unfold isNo isWh;cases (w.toList==(⟨#[110,111]⟩:qf).toList)<;>rfl
   rw[hb];unfold fl;cases hn:(isNo w||isWh w) with
   |true=>rw[zb,zAa (by simp;omega),za,zYt c hl n (k+1) _ (by omega) (by omega) (by simp;omega)];simp
   |false=>rw[zc,zYt c hl n (k+1) _ (by omega) (by omega) (by omega)];simp
  ·simp -implicitDefEqProofs only[zE,ze (show ¬(k:Int)<(c.2.2.length:Int) by omega),zc];rw[zo (by omega)];simp[fl]
theorem zYn(y:((Int×qf×List F3)×List (Int×qf×List F3))×List qf×Bool)(hl:y.2.1.length≤60):∀(n k:Nat)(acc:List Int),k≤y.2.1.length→y.2.1.length - k<n→acc.length≤k→jY y n (k:Int) acc=some (acc++fl k (y.2.1.drop k))
 |0,k,acc,h1,h2,h3=>by omega
 |n+1,k,acc,h1,h2,h3=>by
  unfold jY;by_cases hk:k<y.2.1.length
  ·have hdr:y.2.1.drop k=y.2.1[k]'hk::y.2.1.drop (k+1):=List.drop_eq_getElem_cons hk;simp -implicitDefEqProofs only[zE,zd (show (k:Int)<(y.2.1.length:Int) by omega),zb,zA6 hk,za,zI,zA9 (show k<1000000000 by omega),hdr];generalize y.2.1[k]'hk=w;have hb:(bif (w.toList==(⟨#[110,111]⟩:qf).toList) then true else (w.toList==(⟨#[119,104,97,116]⟩:qf).toList))=(isNo w||isWh w):=by
    unfold isNo isWh;cases (w.toList==(⟨#[110,111]⟩:qf).toList)<;>rfl
   rw[hb];unfold fl;cases hn:(isNo w||isWh w) with
   |true=>rw[zb,zAa (by simp;omega),za,zYn y hl n (k+1) _ (by omega) (by omega) (by simp;omega)];simp
   |false=>rw[zc,zYn y hl n (k+1) _ (by omega) (by omega) (by omega)];simp
  ·simp -implicitDefEqProofs only[zE,ze (show ¬(k:Int)<(y.2.1.length:Int) by omega),zc];rw[zo (by omega)];simp[fl]
theorem zU0{s:qf}(hs:s.size≤1048576):∃l b,zAP s=some (l,b)∧zCy s=some (l,b)∧l.length≤60:=by
 unfold zAP zCy;rcases zJv hs with⟨h1,d,h2⟩|⟨reps,c,x,h1,h2,h3,h4,_⟩
 ·have k:=zYn (((d,qg,[]),[]),[],false) (by simp) FU 0 [] (by simp) (by unfold FU;simp) (by simp);have k:jY (((d,qg,[]),[]),[],false) FU 0 []=some []:=k;refine⟨[],false,?_,?_,by simp⟩
  ·simp -implicitDefEqProofs only[h1,za,zGV]
  ·simp -implicitDefEqProofs only[h2,k,za]
 ·have k1:=zYt (c.1,c.2,reps) h4 FU 0 [] (by simp) (by unfold FU;simp only;omega) (by simp);have k2:=zYn (x,reps,true) h4 FU 0 [] (by simp) (by unfold FU;simp only;omega) (by simp);simp only[List.drop_zero,zt]at k1 k2;have k1:zAA (c.1,c.2,reps) FU 0 []=_:=k1;have k2:jY (x,reps,true) FU 0 []=_:=k2;refine⟨fl 0 reps,true,?_,?_,by have:=qAo 0 reps;omega⟩
  ·simp -implicitDefEqProofs only[h1,za,zGU,k1]
  ·simp -implicitDefEqProofs only[h2,k2,za]
def outL(l:List qf):List UInt8:=l.flatMap fun r=>r.data.toList++[10]
theorem zPv(r:qf)(l:List qf):outL (r::l)=(r.data.toList++[10])++outL l:=by simp[outL]
theorem zNz(r:qf):r.data.toList.length=r.size:=Array.length_toList
theorem z5i{l:List qf}(hz:∀r∈l,r.size≤20000):(outL l).length≤20001*l.length:=by
 induction l with
 |nil=>simp[outL]
 |cons r l ih=>have h1:=hz r zm;have h2:=ih fun x hx=>hz x (zn _ hx);have h3:r.data.toList.length=r.size:=zNz r;rw[zPv];simp only[zf,zg,List.length_nil];omega
theorem z7z{n:Nat}(h:n≤10000000):rm47 n=some ():=by unfold rm47;rw[Nat.ble_eq_true_of_le (by omega),zb]
theorem ap10(r:qf):r++(⟨#[10]⟩:qf)=bl (r.data.toList++[10]):=by rw[show (⟨#[10]⟩:qf)=bl [10] from rfl,←jH,←zJL]
theorem z3J(l:List qf)(hl:l.length≤70)(hz:∀r∈l,r.size≤20000):∀(n k:Nat)(acc:List UInt8),k≤l.length→l.length - k<n→acc.length≤20001*k→zAW l n (k:Int) acc=some (acc++outL (l.drop k))
 |0,k,acc,h1,h2,h3=>by omega
 |n+1,k,acc,h1,h2,h3=>by
  unfold zAW;by_cases hk:k<l.length
  ·have hdr:l.drop k=l[k]'hk::l.drop (k+1):=List.drop_eq_getElem_cons hk;have hs:=hz _ (zx hk);have hd:=zNz (l[k]'hk);have c1:catR (l[k]'hk) (⟨#[10]⟩:qf)=some ():=by
    unfold catR;rw[if_pos (by rw[show (⟨#[10]⟩:qf).size=1 from rfl];omega)]
   have c2:rm47 (acc.length+(bl ((l[k]'hk).data.toList++[10])).size)=some ():=z7z (by rw[qZ,zf,List.length_singleton];omega);simp -implicitDefEqProofs only[zE,zd (show (k:Int)<(l.length:Int) by omega),zb,zA6 hk,za,c1,ap10,c2,zA9 (show k<1000000000 by omega),zDV,hdr,zPv];rw[z3J l hl hz n (k+1) _ (by omega) (by omega) (by rw[zf,zf,List.length_singleton];omega),zu]
  ·simp -implicitDefEqProofs only[zE,ze (show ¬(k:Int)<(l.length:Int) by omega),zc];rw[zo (by omega)];simp[outL]
theorem zY5(y:((Int×qf×List F3)×List (Int×qf×List F3))×List qf×Bool)(hl:y.2.1.length≤70)(hz:∀r∈y.2.1,r.size≤20000):∀(n k:Nat)(acc:List UInt8),k≤y.2.1.length→y.2.1.length - k<n→acc.length≤20001*k→zAc y n (bl acc) (k:Int)=some (bl (acc++outL (y.2.1.drop k)))
 |0,k,acc,h1,h2,h3=>by omega
 |n+1,k,acc,h1,h2,h3=>by
  unfold zAc;by_cases hk:k<y.2.1.length
  ·have hdr:y.2.1.drop k=y.2.1[k]'hk::y.2.1.drop (k+1):=List.drop_eq_getElem_cons hk;have hs:=hz _ (zx hk);have hd:=zNz (y.2.1[k]'hk);have c1:catR (y.2.1[k]'hk) (⟨#[10]⟩:qf)=some ():=by
    unfold catR;rw[if_pos (by rw[show (⟨#[10]⟩:qf).size=1 from rfl];omega)]
   have c2:catR (bl acc) (bl ((y.2.1[k]'hk).data.toList++[10]))=some ():=by unfold catR;rw[if_pos (by rw[qZ,qZ,zf,List.length_singleton];omega)]
   simp -implicitDefEqProofs only[zE,zd (show (k:Int)<(y.2.1.length:Int) by omega),zb,zA6 hk,za,c1,ap10,c2,zI,zA9 (show k<1000000000 by omega),jH,hdr,zPv];rw[zY5 y hl hz n (k+1) _ (by omega) (by omega) (by rw[zf,zf,List.length_singleton];omega),zu]
  ·simp -implicitDefEqProofs only[zE,ze (show ¬(k:Int)<(y.2.1.length:Int) by omega),zc];rw[zo (by omega)];simp[outL]
theorem zUY{s:qf}{c:StI×List StI}{reps:List qf}(h1:zU s=some (some (c.1,c.2,reps)))(hl:reps.length≤70)(hz:∀r∈reps,r.size≤20000):zAH s=some (bl (outL reps),true):=by have k1:=z3J reps hl hz FU 0 [] (by simp) (by unfold FU;omega) (by simp);simp only[List.drop_zero,zt]at k1;have k1:zAW reps FU 0 []=_:=k1;unfold zAH;simp -implicitDefEqProofs only[h1,za,zGU,k1];rfl
theorem z0l{s:qf}(h1:zU s=some none):zAH s=some (⟨#[]⟩,false):=by unfold zAH;simp -implicitDefEqProofs only[h1,za,zGV]
theorem z0m{s:qf}(hs:s.size≤1048576):∃r b,zAH s=some (r,b)∧zCT s=some (r,b):=by
 rcases zJv hs with⟨h1,d,h2⟩|⟨reps,c,x,h⟩
 ·refine⟨_,_,z0l h1,?_⟩;have k:=zY5 (((d,qg,[]),[]),[],false) (by simp) (by simp) FU 0 [] (by simp) (by unfold FU;simp) (by simp);have k:zAc (((d,qg,[]),[]),[],false) FU ⟨#[]⟩ 0=some ⟨#[]⟩:=k;unfold zCT;simp -implicitDefEqProofs only[h2,za,k]
 ·have hl:=h.le;refine⟨_,_,zUY h.i (by omega) h.sz,?_⟩;have k:=zY5 (x,reps,true) (by simp only;omega) h.sz FU 0 [] (by simp) (by unfold FU;simp only;omega) (by simp);simp only[List.drop_zero,zt]at k;have k:zAc (x,reps,true) FU ⟨#[]⟩ 0=_:=k;unfold zCT;simp -implicitDefEqProofs only[h.sp,za,k]
theorem zAQ{a b:qf}{n m:Nat}(ha:a.size≤n)(hb:b.size≤m)(h:n+m≤1000000:=by omega):OkO (catR a b) (fun _=>(a++b).size≤n+m):=
 ⟨(),catI (by omega),by show (a++b).size≤n+m;rw[ByteArray.size_append];omega⟩
theorem zUA{k:Nat}{c:Cur3}(h:CurB k c)(hk:k≤10000000000):OkO (zAv c) (fun y=>y.1.size≤20∧CurB (k+2) y.2):=by
 unfold zAv;refine (of_O (by decide) h (by omega)).bind fun y hy=>OkO.some ⟨?_,hy.2⟩;have key:∀{l:List qf},l.all (fun s=>decide (s.size≤20))=true→∀x∈l,x.size≤20:=fun hl x hx=>by simpa using List.all_eq_true.1 hl x hx
 exact key (by decide) _ hy.1
theorem z91{k:Nat}{c:Cur3}{l:List qf}(hl:0<l.length)(hs:l.all (fun s=>decide (s.size≤20))=true)(h:CurB k c)(hk:k≤10000000000):OkO (zBm c l) (fun y=>y.1.size≤20∧CurB (k+2) y.2):=
 (of_O hl h (by omega)).mono fun y hy=>⟨by simpa using List.all_eq_true.1 hs _ hy.1,hy.2⟩
theorem z1D{k:Nat}{c:Cur3}{l:List Int}(hl:l≠[])(hs:l.all (fun x=>decide (-10000<x)&&decide (x<10000))=true)(h:CurB k c)(hk:k≤10000000000):OkO (jX c l) (fun y=>sm18 y.1∧CurB (k+2) y.2):=
 (zZW hl h (by omega)).mono fun y hy=>⟨by have:=List.all_eq_true.1 hs _ hy.1;simp only[zk,decide_eq_true_eq]at this;unfold sm18;omega,hy.2⟩
theorem z0E{x:Int}(h0:-100≤x)(h1:x≤100):sm18 x:=by unfold sm18;omega
theorem z1p{k:Nat}{c:Cur3}{d:Int}(hd:OkD d)(h:CurB k c)(hk:k≤10000000000):OkO (zB0 c d) (fun y=>Sm3 y.1∧CurB (k+2) y.2):=by
 obtain⟨f,c',e,h1,h2⟩:=z1o hd h (by omega);have hp:PrRc d f:=⟨h1.1,h1.2.1,h1.2.2.1,fun j j1 j2 j3=>by have:=Int.dvd_coe_gcd j1 (Int.dvd_coe_gcd j2 j3);rw[h1.2.2.2]at this;exact this⟩
 obtain⟨⟨r1,r2,r3,r4,r5,r6⟩,r7⟩:=zGb hd.1 hp;exact⟨_,e,⟨by show sm18 f.1;unfold sm18;omega,by show sm18 f.2.1;unfold sm18;omega,by show sm18 f.2.2;unfold sm18;omega⟩,h2⟩
theorem z5W{k:Nat}{c:Cur3}{d:Int}(hd:OkD d)(h:CurB k c)(hk:k≤100000):OkO (zC9 c d) (fun y=>y.1.size≤200∧CurB (k+60) y.2):=by
 unfold zC9;refine (zUA h (by omega)).bind fun y3 h3=>?_
 refine (zUA h3.2 (by omega)).bind fun y4 h4=>?_
 refine (zUA h4.2 (by omega)).bind fun y5 h5=>?_
 refine (zPs 16 h5.2 (by omega)).bind fun y6 h6=>?_
 obtain⟨_,_,_,h6⟩:=h6;have z3:=h3.1;have z4:=h4.1;have z5:=h5.1;have bb:∀a b c:Bool,OkO (bif a then some b else some c:Option Bool) (fun _=>True):=fun a b c=>by cases a<;>exact⟨_,rfl,trivial⟩
 refine OkO.cond (fun _=>?_) fun _=>?_
 ·refine (z1D (by decide) (by decide) h6 (by omega)).bind fun y8 h8=>?_
  refine (z05 h8.1).bind fun y9 h9=>?_
  refine (zAQ (n:=20) (by decide) h9).bind fun _ q1=>OkO.some ⟨by simp only;omega,h8.2.up (by omega)⟩
 refine (bb _ _ _).bind fun j11 _=>OkO.cond (fun _=>?_) fun _=>?_
 ·refine (zAQ (n:=20) (by decide) z3).bind fun _ q1=>?_
  refine (zAQ (m:=20) q1 (by decide)).bind fun _ q2=>?_
  refine (z1p hd h6 (by omega)).bind fun y16 h16=>?_
  refine (z5s h16.1 h16.2 (by omega)).bind fun y17 h17=>?_
  refine (foT_O h17.1).bind fun y18 h18=>?_
  refine (zAQ q2 h18).bind fun _ q3=>OkO.some ⟨by simp only;omega,h17.2.up (by omega)⟩
 refine (bb _ _ _).bind fun j20 _=>OkO.cond (fun _=>?_) fun _=>?_
 ·refine (zAQ (n:=20) (by decide) z3).bind fun _ q1=>?_
  refine (zAQ (m:=20) q1 (by decide)).bind fun _ q2=>?_
  refine (z1D (by decide) (by decide) h6 (by omega)).bind fun y25 h25=>?_
  refine (z05 h25.1).bind fun y26 h26=>?_
  refine (zAQ q2 h26).bind fun _ q3=>OkO.some ⟨by simp only;omega,h25.2.up (by omega)⟩
 refine (bb _ _ _).bind fun j28 _=>OkO.cond (fun _=>?_) fun _=>?_
 ·refine (zAQ (n:=20) (by decide) z3).bind fun _ q1=>?_
  refine (zAQ (m:=20) q1 (by decide)).bind fun _ q2=>?_
  refine (zAQ q2 z4).bind fun _ q3=>?_
  refine (zAQ (m:=20) q3 (by decide)).bind fun _ q4=>?_
  refine (zAQ q4 z5).bind fun _ q5=>OkO.some ⟨by simp only;omega,h6.up (by omega)⟩
 refine OkO.cond (fun _=>?_) fun _=>?_
 ·refine (zAQ (n:=20) (by decide) z3).bind fun _ q1=>?_
  refine (zAQ (m:=20) q1 (by decide)).bind fun _ q2=>?_
  refine (zAQ q2 z4).bind fun _ q3=>?_
  refine (zAQ (m:=20) q3 (by decide)).bind fun _ q4=>?_
  refine (zPs 15 h6 (by omega)).bind fun y41 h41=>?_
  obtain⟨i0,_,i1,h41⟩:=h41;have i1:=i1 (by omega);refine (z05 (z0E (by rw[zA (by omega)];omega) (by rw[zA (by omega)];omega))).bind fun y42 h42=>?_
  refine (zAQ q4 h42).bind fun _ q5=>OkO.some ⟨by simp only;omega,h41.up (by omega)⟩
 refine OkO.cond (fun _=>?_) fun _=>?_
 ·refine (zAQ (n:=20) (by decide) z3).bind fun _ q1=>OkO.some ⟨by simp only;omega,h6.up (by omega)⟩
 refine OkO.cond (fun _=>?_) fun _=>?_
 ·refine (z91 (by decide) (by decide) h6 (by omega)).bind fun y47 h47=>?_
  refine (zAQ h47.1 z4).bind fun _ q1=>OkO.some ⟨by simp only;omega,h47.2.up (by omega)⟩
 refine OkO.cond (fun _=>?_) fun _=>?_
 ·refine (zAQ (n:=20) (by decide) z4).bind fun _ q1=>?_
  refine (zAQ (m:=20) q1 (by decide)).bind fun _ q2=>?_
  refine (zPs 60 h6 (by omega)).bind fun y52 h52=>?_
  obtain⟨i0,_,i1,h52⟩:=h52;have i1:=i1 (by omega);refine (z05 (z0E (by omega) (by omega))).bind fun y53 h53=>?_
  refine (zAQ q2 h53).bind fun _ q3=>OkO.some ⟨by simp only;omega,h52.up (by omega)⟩
 refine OkO.cond (fun _=>?_) fun _=>?_
 ·refine (zAQ (n:=20) (by decide) z4).bind fun _ q1=>?_
  refine (zAQ (m:=20) q1 (by decide)).bind fun _ q2=>?_
  refine (zAQ q2 z5).bind fun _ q3=>OkO.some ⟨by simp only;omega,h6.up (by omega)⟩
 refine OkO.cond (fun _=>OkO.some ⟨(show ByteArray.size ⟨#[110,97,109,101,115]⟩≤200 by decide),h6.up (by omega)⟩) fun _=>?_
 refine OkO.cond (fun _=>OkO.some ⟨(show ByteArray.size ⟨#[117,110,100,111]⟩≤200 by decide),h6.up (by omega)⟩) fun _=>?_
 refine OkO.cond (fun _=>?_) fun _=>?_
 ·refine (zAQ (n:=20) (by decide) z3).bind fun _ q1=>?_
  refine (zAQ (m:=20) q1 (by decide)).bind fun _ q2=>?_
  refine (zAQ q2 z4).bind fun _ q3=>?_
  refine (zAQ (m:=20) q3 (by decide)).bind fun _ q4=>?_
  refine (zAQ q4 z5).bind fun _ q5=>?_
  refine (z5P _ _ (by decide) (Nat.le_trans q5 (by omega)) h6 (by omega)).bind fun y67 h67=>OkO.some ⟨by have:=h67.1;simp only;omega,h67.2.up (by omega)⟩
 refine (z91 (by decide) (by decide) h6 (by omega)).bind fun y68 h68=>OkO.some ⟨by have:=h68.1;simp only;omega,h68.2.up (by omega)⟩
theorem z6k(y2:Int×Cur3)(hd:OkD y2.1):∀(m f:Nat)(t:qf)(a:List Int)(b c:Int)(k:Nat),m<f→t.size+400*m≤100000→CurB k (a,b,c)→k+60*m≤100000→
  OkO (zAN y2 f t (m:Int) a b c) (fun o=>o.1.size≤t.size+400*m∧CurB (k+60*m) o.2)
 |m,0,t,a,b,c,k,hf,ht,hc,hk=>by omega
 |0,f+1,t,a,b,c,k,hf,ht,hc,hk=>by unfold zAN;rw[zE,ze (by omega),zc];exact OkO.some ⟨by simp only;omega,hc⟩
 |m+1,f+1,t,a,b,c,k,hf,ht,hc,hk=>by
  unfold zAN;rw[zE,zd (by omega),zb];refine (z5W hd hc (by omega)).bind fun y17 h17=>?_
  refine (zAQ (m:=1) h17.1 (by decide)).bind fun _ q1=>?_
  refine (zAQ (n:=t.size) (Nat.le_refl _) q1).bind fun _ q2=>?_
  rw[zI,show w64 (((m+1:Nat):Int) - 1)=(m:Int) from by rw[zA (by omega)];omega];exact (z6k y2 hd m f _ _ _ _ (k+60) (by omega) (by omega) h17.2 (by omega)).mono fun z hz=>⟨by have:=hz.1;omega,hz.2.up (by omega)⟩
theorem z5p:∀(m f:Nat)(t:qf),m<f→t.size+20*m≤200000→OkO (zAM f t (m:Int)) (fun o=>o.size≤t.size+20*m)
 |m,0,t,hf,ht=>by omega
 |0,f+1,t,hf,ht=>by unfold zAM;rw[zE,ze (by omega),zc];exact OkO.some (by omega)
 |m+1,f+1,t,hf,ht=>by
  unfold zAM;rw[zE,zd (by omega),zb];refine (zAQ (n:=t.size) (m:=20) (Nat.le_refl _) (by decide)).bind fun _ q1=>?_
  rw[zI,show w64 (((m+1:Nat):Int) - 1)=(m:Int) from by rw[zA (by omega)];omega];exact (z5p m f _ (by omega) (by omega)).mono fun z hz=>by omega
theorem z5e:∀(m f k:Nat)(t:qf),m+k=9→m<f→t.size+60*m≤200000→OkO (zAL f t (k:Int)) (fun o=>o.size≤t.size+60*m)
 |m,0,k,t,hm,hf,ht=>by omega
 |0,f+1,k,t,hm,hf,ht=>by unfold zAL;rw[zE,ze (by omega),zc];exact OkO.some (by omega)
 |m+1,f+1,k,t,hm,hf,ht=>by
  unfold zAL;have ew:w64 ((k:Int)+1)=((k+1:Nat):Int):=zA9 (by omega);have e9:(⟨#[97,98,99,100,101,102,103,104,105]⟩:qf).size=9:=rfl;have ez:((⟨#[97,98,99,100,101,102,103,104,105]⟩:qf).extract (Int.toNat (k:Int)) (Int.toNat ((k+1:Nat):Int))).size≤20:=by rw[zUN _ (by omega) (by omega) (by rw[e9];omega)];omega
  rw[zE,zd (by omega),zb,ew,slcI (by omega) (by omega) (by rw[e9];omega),za];refine (zAQ (n:=20) (by decide) ez).bind fun _ q1=>?_
  refine (zAQ (m:=20) q1 (by decide)).bind fun _ q2=>?_
  refine (zAQ (n:=t.size) (Nat.le_refl _) q2).bind fun _ q3=>?_
  rw[zI];exact (z5e m f (k+1) _ (by omega) (by omega) (by omega)).mono fun z hz=>by omega
theorem z8b{code:List Int}(h1:code.length≤1048576)(h2:∀x∈code,0≤x∧x≤255):OkO (zBq code) (fun s=>s.size≤1048576):=by
 have hF:200000000<FU:=by decide
 unfold zBq;refine (zZW (by decide) (CurB.start h1 h2) (by omega)).bind fun y2 h2=>?_
 have hm:y2.1∈[-23,-23,-84,-420,-47]:=h2.1;simp only[zl,zq,or_false]at hm;have hd:OkD y2.1:=by unfold OkD;omega
 have hs:sm18 y2.1:=by unfold sm18;omega
 have hj:OkO (bif (!eqI y2.1 (-23)) then (jD y2.1).bind fun y5=>(catR ((⟨#[100,105,115,99,32]⟩:qf)) y5).bind fun u6=>(catR (((⟨#[100,105,115,99,32]⟩:qf))++y5) ((⟨#[10]⟩:qf))).bind fun u7=>some ((((⟨#[100,105,115,99,32]⟩:qf))++y5)++((⟨#[10]⟩:qf))) else some ((⟨#[]⟩:qf))) (fun s=>s.size≤100):=by
  refine OkO.cond (fun _=>?_) fun _=>OkO.some (by decide);refine (z05 hs).bind fun y5 h5=>?_
  refine (zAQ (n:=20) (by decide) h5).bind fun _ q1=>?_
  exact (zAQ (m:=1) q1 (by decide)).bind fun _ q2=>OkO.some (by omega)
 refine hj.bind fun j3 hj3=>?_
 refine (zPs 24 h2.2 (by omega)).bind fun y8 h8=>?_
 obtain⟨i0,_,i1,h8⟩:=h8;have i1:=i1 (by omega);obtain⟨m,hm⟩:∃m:Nat,y8.1=(m:Int):=⟨y8.1.toNat,by omega⟩
 rw[hm];refine (z6k y2 hd m FU j3 _ _ _ _ (by omega) (by omega) h8 (by omega)).bind fun o15 h15=>?_
 have z15:o15.1.size≤20000:=by have:=h15.1;omega
 refine (zPs 20 h15.2 (by omega)).bind fun y21 h21=>?_
 refine OkO.cond (fun _=>?_) fun _=>?_
 ·refine OkO.cond (fun hne=>?_) fun _=>OkO.some (by omega);have hz:1≤o15.1.size:=by
   rcases Nat.eq_zero_or_pos o15.1.size with h0|h0
   ·exfalso
    have e:o15.1=⟨#[]⟩:=by have:=zNz o15.1;rw[h0]at this;rw[zJL o15.1,List.length_eq_zero_iff.1 this];rfl
    rw[e]at hne;have h0:(!((⟨#[]⟩:qf).toList==(⟨#[]⟩:qf).toList))=false:=by rw[beq_self_eq_true];rfl
    rw[h0]at hne;cases hne
   ·exact h0
  have ew:w64 ((o15.1.size:Int) - 1)=(o15.1.size:Int) - 1:=zA (by omega);rw[ew,slcI (by omega) (by omega) (by omega),za];refine OkO.some ?_
  rw[zUN _ (by omega) (by omega) (by omega)];omega
 refine OkO.cond (fun _=>?_) fun _=>?_
 ·refine (zZW (by decide) h21.2.2.2 (by omega)).bind fun y26 h26=>?_
  have hm:y26.1∈[50,59,60,61]:=h26.1;simp only[zl,zq,or_false]at hm;obtain⟨m,hm⟩:∃m:Nat,y26.1=(m:Int):=⟨y26.1.toNat,by omega⟩
  rw[hm];exact (z5p m FU _ (by omega) (by omega)).bind fun o ho=>OkO.some (by omega)
 refine OkO.cond (fun _=>?_) fun _=>OkO.some (by omega);refine (z5e 9 FU 0 _ (by omega) (by omega) (by omega)).bind fun o38 h38=>?_
 exact (zAQ (m:=100) h38 (by decide)).bind fun _ q=>OkO.some (by omega)
end Go.Proofs.YtahdjphocippeaaGreatDoor
namespace Go.Proofs.YtahdjphocippeaaGreatDoor
open Go.Lib
theorem z2z(c:UInt8)(q:List UInt8):∀p,spl c (p++c::q)=spl c p++spl c q
 |[]=>by rw[zt,zFx];rfl
 |b::p=>by
  have ih:=z2z c q p;by_cases h:b=c
  ·subst h;rw[List.cons_append,zFx,zFx,ih];rfl
  ·cases e:spl c p with
   |nil=>exact absurd e (zIA c p)
   |cons w ws=>rw[e]at ih;rw[List.cons_append,zDM h ih,zDM h e];rfl
theorem z2y(c:UInt8):∀l:List UInt8,(spl c l).length=l.count c+1
 |[]=>rfl
 |b::l=>by
  have ih:=z2y c l;by_cases h:b=c
  ·subst h;rw[zFx,zg,ih,List.count_cons_self]
  ·cases e:spl c l with
   |nil=>exact absurd e (zIA c l)
   |cons w ws=>rw[zDM h e,List.count_cons_of_ne h,←ih,e];rfl
theorem qBc(s:qf):(LN s).length=s.data.toList.count 10:=by unfold LN;rw[List.length_map,List.length_dropLast,z2y];omega
def dD:qf:=⟨#[100,105,115,99,32,45,56,52,10,117,110,100,111,10]⟩
def lD:qf:=⟨#[100,105,115,99,32,45,56,52]⟩
theorem z1B(s:qf):(s++dD).data.toList=s.data.toList++[100,105,115,99,32,45,56,52,10,117,110,100,111,10]:=by
 have e:dD=bl [100,105,115,99,32,45,56,52,10,117,110,100,111,10]:=rfl
 conv=>lhs;rw[zJL s,e,jH,zDV]
theorem qBd{s:qf}(h:s=⟨#[]⟩∨∃p,s.data.toList=p++[10]):LN (s++dD)=LN s++[lD,wdundo]:=by
 have hd:spl 10 [100,105,115,99,32,45,56,52,10,117,110,100,111,10]=[[100,105,115,99,32,45,56,52],[117,110,100,111]]++[[]]:=rfl;unfold LN;rw[z1B];rcases h with rfl|⟨p,hp⟩
 ·rw[show (⟨#[]⟩:qf).data.toList=[] from rfl,zt,hd,List.dropLast_concat];rfl
 ·rw[hp,zu,List.singleton_append,z2z,hd,←zu,List.dropLast_concat,zJf,List.dropLast_concat,List.map_append];rfl
theorem z8M{t:qf}{p:List UInt8}(hp:t.data.toList=p++[10])(hs:t.size≤1048576):zDA t=some (LN t,true):=by
 have h0:¬t=⟨#[]⟩:=by intro h;rw[h,show (⟨#[]⟩:qf).data.toList=[] from rfl]at hp;exact absurd hp (by simp)
 have hsb:t=bl (p++[10]):=by rw[zJL t,hp]
 have hsz:t.size=p.length+1:=by rw[hsb,qZ];simp
 obtain⟨hh,hw⟩:=zUH p 10 (by omega);rw[←hsb]at hh hw;have hh:qO t ⟨#[10]⟩=some true:=hh;have hx:t.extract (Int.toNat 0) (Int.toNat (w64 ((t.size:Int) - ((⟨#[10]⟩:qf).size:Int))))=bl p:=by rw[hw,zGd,hp];congr 1;simp
 have hsl:slc t.size 0 (w64 ((t.size:Int) - ((⟨#[10]⟩:qf).size:Int)))=some ():=by rw[hw];exact zHL (l:=0) (by omega) (by omega)
 have hsp:zAB (bl p) ⟨#[10]⟩=some ((spl 10 p).map bl):=by
  have:=zKm (bl p) 10 (by rw[qZ];omega)
  rwa [zDV]at this
 have hl:LN t=(spl 10 p).map bl:=by unfold LN;rw[hp,zJf,List.dropLast_concat]
 unfold zDA;simp only[eqS];rw[ze h0,zc];simp only[zi,zb,za,zCL,zC6,jP,hh];simp only[zb,hsl,hx,za,hsp,zh,zc,hl]
theorem z3D{Ls Ms:List qf}:∀(n k:Nat)(reps:List qf)(L:List StI)(d:Int)(F:Nat→F3)(out:List qf×List StI×Int×(Nat→F3)),k≤Ls.length→Ls.length≤100000→zQ (Ls,true) n (k:Int) reps L d F=some out→
  Ls.length - k<n∧zQ (Ls++Ms,true) n (k:Int) reps L d F=zQ (Ls++Ms,true) (n - (Ls.length - k)) (Ls.length:Int) out.1 out.2.1 out.2.2.1 out.2.2.2
 |0,k,reps,L,d,F,out,h1,h2,h=>by cases h
 |n+1,k,reps,L,d,F,out,h1,h2,h=>by
  by_cases hk:k<Ls.length
  ·unfold zQ at h;simp -implicitDefEqProofs only[zE,zd (show (k:Int)<(Ls.length:Int) by omega),zb,zA6 hk,za]at h;obtain⟨y,hy,h⟩:=zT h;obtain⟨u,hu,h⟩:=zT h;rw[zI,zA9 (by omega)]at h;obtain⟨i1,i2⟩:=z3D n (k+1) _ _ _ _ out (by omega) h2 h;refine⟨by omega,?_⟩;rw[show n+1 - (Ls.length - k)=n - (Ls.length - (k+1)) from by omega,←i2]
   conv=>lhs;unfold zQ
   have hl:k<(Ls++Ms).length:=by rw[zf];omega
   have hg:(Ls++Ms)[k]'hl=Ls[k]'hk:=List.getElem_append_left hk;simp -implicitDefEqProofs only[zE,zd (show (k:Int)<((Ls++Ms).length:Int) by omega),zb,zA6 hl,hg,za,hy,hu,zI,zA9 (show k<1000000000 by omega)]
  ·have e:k=Ls.length:=by omega
   subst e;unfold zQ at h;simp -implicitDefEqProofs only[zE,ze (show ¬(Ls.length:Int)<(Ls.length:Int) by omega),zc]at h;injection h with h;subst h;refine⟨by omega,?_⟩;rw[Nat.sub_self,Nat.sub_zero]
theorem z8C:zM lD=some ((wddisc,[],(0,0,0),-84),true):=by kernel_rfl
theorem z8B:zM wdundo=some ((wdundo,[],(0,0,0),0),true):=by kernel_rfl
theorem neg84:qT (-84)=some true:=by decide+kernel
theorem z54{c:StI×List StI}(hc:c.2.length≤1000000):zS c lD=some (okT,((-84,fun _=>(0,0,0)),c.2++[c.1])):=by
 have q:=zSW;obtain⟨q1,q2,q3,q4,q5,q6,q7,q8,q9,q10,q11,q12,q13,q14⟩:=zSW;unfold wE at q;have hw:setW wddisc=false:=by decide+kernel
 have hf:zP c.1 (wddisc,[],(0,0,0),-84)=some ([],true):=zUK wddisc (0,0,0) (-84) c.1.1 c.1.2 (l:=[]) (by simp) (by simp) hw;have hch:zH c.1 (wddisc,[],(0,0,0),-84) []=some (true,true,(-84,fun _=>(0,0,0))):=by unfold zH;simp -implicitDefEqProofs only[neg84,za,zb,q,Nat.reduceBEq]
 exact zJx (c:=c) z8C q14 hf hch hc
theorem z52{a b:StI}{L:List StI}(hL:L.length≤1000000):zS (b,L++[a]) wdundo=some (okT,(a,L)):=by
 have q:=zXa;unfold wE at q;have hl:(L++[a]).length=L.length+1:=by simp
 have hw1:w64 (((L++[a]).length:Int) - 1)=((L.length:Nat):Int):=by rw[hl,zA (by omega)];omega
 have e0:eqI ((L++[a]).length:Int) 0=false:=by rw[jN];exact beq_eq_false_iff_ne.2 (by omega)
 have ga:getI (L++[a]) ((L.length:Nat):Int)=some a:=by rw[zA6 (by omega)];simp
 have s1:slc (L++[a]).length 0 ((L.length:Nat):Int)=some ():=zHL (l:=0) (by omega) (by omega);have e2:subl (L++[a]) 0 ((L.length:Nat):Int)=L:=by unfold subl;simp
 unfold zS;simp -implicitDefEqProofs only[z8B,za,zh,zi,zb,zc,q,Nat.reduceBEq,e0,hw1,ga,s1,e2];rfl
theorem run_t{s:qf}{reps:List qf}{c:StI×List StI}{x:StS×List StS}(h:RunOk s reps c x)(hz:(s++dD).size≤2000)(hl:(LN s).length+2≤60):zU (s++dD)=some (some (c.1,c.2,reps++[okT,okT])):=by
 have hp:(s++dD).data.toList=(s.data.toList++[100,105,115,99,32,45,56,52,10,117,110,100,111])++[10]:=by rw[z1B];simp
 have h1:=z8M hp (by omega);rw[qBd h.sh]at h1;have hlen:(LN s++[lD,wdundo]).length=(LN s).length+2:=by simp
 have hln:=h.ln;obtain⟨hf,ha⟩:=z3D (Ms:=[lD,wdundo]) FU 0 [] [] (-23) (fun _=>(0,0,0)) _ (by omega) (by omega) h.lp;obtain⟨m,hm⟩:∃m,FU - ((LN s).length - 0)=m+1+1+1:=⟨FU - (LN s).length - 3,by unfold FU at hf ⊢;omega⟩
 have hcl:c.2.length≤1000000:=Nat.le_trans h.bl (by omega);have l1:(LN s).length<(LN s++[lD,wdundo]).length:=by omega
 have l2:(LN s).length+1<(LN s++[lD,wdundo]).length:=by omega
 have g1:(LN s++[lD,wdundo])[(LN s).length]'l1=lD:=by rw[List.getElem_append_right (by omega)];simp
 have g2:(LN s++[lD,wdundo])[(LN s).length+1]'l2=wdundo:=by rw[List.getElem_append_right (by omega)];simp
 have r1:zS ((c.1.1,c.1.2),c.2) lD=some (okT,((-84,fun _=>(0,0,0)),c.2++[c.1])):=z54 (c:=c) hcl;have r2:zS ((-84,fun _=>(0,0,0)),c.2++[c.1]) wdundo=some (okT,(c.1,c.2)):=z52 hcl;have rm:∀(l:List qf),l.length≤100→∀a:qf,room (l.length+[a].length)=some ():=fun l hl a=>zAa (by simp;omega);have hr:=h.le;have key:zQ (LN s++[lD,wdundo],true) FU 0 [] [] (-23) (fun _=>(0,0,0))=some (reps++[okT,okT],c.2,c.1.1,c.1.2):=by have ha:zQ (LN s++[lD,wdundo],true) FU 0 [] [] (-23) (fun _=>(0,0,0))=zQ (LN s++[lD,wdundo],true) (FU - ((LN s).length - 0)) ((LN s).length:Int) reps c.2 c.1.1 c.1.2:=ha;rw[ha,hm];unfold zQ;simp -implicitDefEqProofs only[zE,zd (show ((LN s).length:Int)<((LN s++[lD,wdundo]).length:Int) by omega),zb,zA6 l1,g1,za,r1,rm reps (by omega),zI,zA9 (show (LN s).length<1000000000 by omega)];unfold zQ;simp -implicitDefEqProofs only[zE,zd (show (((LN s).length+1:Nat):Int)<((LN s++[lD,wdundo]).length:Int) by omega),zb,zA6 l2,g2,za,r2,rm (reps++[okT]) (by simp;omega),zI,zA9 (show (LN s).length+1<1000000000 by omega)];unfold zQ;simp -implicitDefEqProofs only[zE,ze (show ¬(((LN s).length+1+1:Nat):Int)<((LN s++[lD,wdundo]).length:Int) by omega),zc];rw[zu];rfl
 have hc0:(bif (bif (!true) then true else (ltI 2000 ((s++dD).size:Int))) then true else (ltI 60 ((LN s++[lD,wdundo]).length:Int)))=false:=by rw[zE,zE,ze (by omega),ze (by omega)];rfl
 unfold zU;simp -implicitDefEqProofs only[h1,za,hc0,zc,key]
end Go.Proofs.YtahdjphocippeaaGreatDoor
namespace Go.Proofs.YtahdjphocippeaaGreatDoor
theorem zUZ{s:qf}{c:StI×List StI}{reps:List qf}(h1:zU s=some (some (c.1,c.2,reps)))(hle:(dnS c.1.2 0).length≤8):jO s=some ((dnS c.1.2 0).map c.1.2,true):=by have k:=zLC (c.1,c.2,reps) FU 0 [] (by omega) (by unfold FU;omega) (by simp);have k:jV (c.1,c.2,reps) FU 0 []=some ((dnS c.1.2 0).map c.1.2):=k;unfold jO;simp -implicitDefEqProofs only[h1,za,zGU,k]
theorem z2W{s:qf}(h1:zU s=some none):jO s=some ([],false):=by unfold jO;simp -implicitDefEqProofs only[h1,za,zGV]
theorem zXV{s:qf}{c:StI×List StI}{reps:List qf}(h1:zU s=some (some (c.1,c.2,reps))):qH s=some (c.1.1,true):=by unfold qH;simp -implicitDefEqProofs only[h1,za,zGU]
theorem z47{s:qf}(h1:zU s=some none):qH s=some (0,false):=by unfold qH;simp -implicitDefEqProofs only[h1,za,zGV]
theorem z2Y{s:qf}{c:StI×List StI}{reps:List qf}(h1:zU s=some (some (c.1,c.2,reps)))(h4:reps.length≤60):zAx s=some ((cNo reps:Int),(cWh reps:Int),(cRe reps:Int),true):=by
 have k1:=zZI (c.1,c.2,reps) h4 FU 0 0 0 (by simp) (by unfold FU;simp only;omega) (by simp) (by simp);simp only[List.drop_zero,Nat.zero_add]at k1;have k1:jU (c.1,c.2,reps) FU 0 0 0=_:=k1;have hc:=z9b reps;have e:w64 (w64 ((reps.length:Int) - (cNo reps:Int)) - (cWh reps:Int))=(cRe reps:Int):=by rw[zA (n:=(reps.length:Int) - (cNo reps:Int)) (by omega),zA (by omega)];omega
 unfold zAx;simp -implicitDefEqProofs only[h1,za,zGU,k1,zI,e]
theorem z2X{s:qf}(h1:zU s=some none):zAx s=some (0,0,0,false):=by unfold zAx;simp -implicitDefEqProofs only[h1,za,zGV]
theorem z0o{s:qf}{c:StI×List StI}{reps:List qf}(h1:zU s=some (some (c.1,c.2,reps)))(h4:reps.length≤60):zAP s=some (fl 0 reps,true):=by have k1:=zYt (c.1,c.2,reps) h4 FU 0 [] (by simp) (by unfold FU;simp only;omega) (by simp);simp only[List.drop_zero,zt]at k1;have k1:zAA (c.1,c.2,reps) FU 0 []=_:=k1;unfold zAP;simp -implicitDefEqProofs only[h1,za,zGU,k1]
theorem z0n{s:qf}(h1:zU s=some none):zAP s=some ([],false):=by unfold zAP;simp -implicitDefEqProofs only[h1,za,zGV]
theorem qAp(k:Nat)(l:List qf):(fl k l).length=cNo l+cWh l:=by
 induction l generalizing k with
 |nil=>rfl
 |cons a l ih=>unfold fl;rw[zf,ih];unfold cNo cWh;simp only[List.countP_cons];cases isNo a<;>cases isWh a<;>simp<;>omega
theorem z58(l:List F3)(hl:l.length≤1000):∀(n k:Nat),k≤l.length→l.length - k<n→zCn l l n (k:Int)=some (.inl ())
 |0,k,h0,h1=>by omega
 |n+1,k,h0,h1=>by
  unfold zCn;by_cases hk:k<l.length
  ·simp -implicitDefEqProofs only[zE,zd (show (k:Int)<(l.length:Int) by omega),zb,zA6 hk,za,beq_self_eq_true,Bool.and_self,zh,zc,zI,zA9 (show k<1000000000 by omega)];exact z58 l hl n (k+1) (by omega) (by omega)
  ·simp -implicitDefEqProofs only[zE,ze (show ¬(k:Int)<(l.length:Int) by omega),zc]
theorem z8F(l:List F3)(hl:l.length≤1000):zED l l=some true:=by have k:=z58 l hl FU 0 (by omega) (by unfold FU;omega);have k:zCn l l FU 0=some (.inl ()):=k;unfold zED;simp -implicitDefEqProofs only[zBj,zh,zc,k,za]
theorem z5X(l:List Int)(hl:l.length≤1000):∀(n k:Nat),k≤l.length→l.length - k<n→zBy l l n (k:Int)=some (.inl ())
 |0,k,h0,h1=>by omega
 |n+1,k,h0,h1=>by
  unfold zBy;by_cases hk:k<l.length
  ·simp -implicitDefEqProofs only[zE,zd (show (k:Int)<(l.length:Int) by omega),zb,zA6 hk,za,zBj,zh,zc,zI,zA9 (show k<1000000000 by omega)];exact z5X l hl n (k+1) (by omega) (by omega)
  ·simp -implicitDefEqProofs only[zE,ze (show ¬(k:Int)<(l.length:Int) by omega),zc]
theorem z7y(l:List Int)(hl:l.length≤1000):zDx l l=some true:=by have k:=z5X l hl FU 0 (by omega) (by unfold FU;omega);have k:zBy l l FU 0=some (.inl ()):=k;unfold zDx;simp -implicitDefEqProofs only[zBj,zh,zc,k,za]
theorem z2B(y10:Int×Bool)(y12:Int×Int×Int×Bool)(y13:List Int×Bool)(s:qf)(y6:qf×Bool)(y8:List F3×Bool)(hs:s.size≤1048576):∀(n k a:Nat),k≤s.size→s.size - k<n→a≤k→zAe y10 y12 y13 s y6 y8 n (a:Int) (k:Int)=some ((a+(s.data.toList.drop k).count 10:Nat):Int)
 |0,k,a,h0,h1,h2=>by omega
 |n+1,k,a,h0,h1,h2=>by
  have hz:=zNz s;unfold zAe;by_cases hk:k<s.size
  ·have hk2:k<s.data.toList.length:=by omega
   have hdr:s.data.toList.drop k=s.data.toList[k]'hk2::s.data.toList.drop (k+1):=List.drop_eq_getElem_cons hk2;have hg:getB s (k:Int)=some (((s.data.toList[k]'hk2).toNat:Nat):Int):=zEu hk;simp -implicitDefEqProofs only[zE,zd (show (k:Int)<(s.size:Int) by omega),zb,hg,za,zI,zA9 (show k<1000000000 by omega),zA9 (show a<1000000000 by omega),hdr,zUQ];generalize s.data.toList[k]'hk2=b;by_cases hb:b=10
   ·subst hb;rw[zd rfl,zb,z2B y10 y12 y13 s y6 y8 hs n (k+1) (a+1) (by omega) (by omega) (by omega),List.count_cons_self];congr 2;omega
   ·rw[ze hb,zc,z2B y10 y12 y13 s y6 y8 hs n (k+1) a (by omega) (by omega) (by omega),List.count_cons_of_ne hb]
  ·simp -implicitDefEqProofs only[zE,ze (show ¬(k:Int)<(s.size:Int) by omega),zc];rw[zo (by omega)];simp
theorem z61{D:Int}(hD1:-2000≤D)(hD:D<0){f:F3}(h:PrRc D f):zCe f=some (D,true)∧zCO f=some (true,true)∧zDB f=some true:=by
 obtain⟨h1,h2⟩:=zFj hD1 hD h;obtain⟨⟨r1,r2,r3,r4,r5,r6⟩,r7⟩:=zGb hD1 h;have hn:zCi f=some true:=by rw[zEv,zA7.2 ⟨by omega,by omega⟩,zA7.2 ⟨by omega,by omega⟩,zA7.2 ⟨by omega,by omega⟩];rfl
 have hd:zR f=some true:=by unfold zR;simp -implicitDefEqProofs only[hn,h2,za,zb,zE,zd hD,zd (show 0<f.1 by omega)]
 have hr:qG f=some true:=by have:=zIF (a:=f.1) (b:=f.2.1) (c:=f.2.2) (by omega) (by omega);rw[zd h.2.1]at this;exact this
 refine⟨?_,?_,?_⟩
 ·unfold zCe;simp -implicitDefEqProofs only[hn,h2,za,zh,zc]
 ·unfold zCO;simp -implicitDefEqProofs only[hd,hr,za,zh,zc]
 ·unfold zDB;simp -implicitDefEqProofs only[h1,za]
theorem z6B(o34:Int)(y10:Int×Bool)(y5:qf)(y6:qf×Bool)(y8:List F3×Bool)(hl:y8.1.length≤1000)(hD1:-2000≤y10.1)(hD:y10.1<0)(hp:∀f∈y8.1,PrRc y10.1 f):∀(n k:Nat),k≤y8.1.length→y8.1.length - k<n→zB1 o34 y10 y5 y6 y8 n (k:Int)=some (.inl ())
 |0,k,h0,h1=>by omega
 |n+1,k,h0,h1=>by
  unfold zB1;by_cases hk:k<y8.1.length
  ·obtain⟨k1,k2,k3⟩:=z61 hD1 hD (hp _ (zx hk));simp -implicitDefEqProofs only[zE,zd (show (k:Int)<(y8.1.length:Int) by omega),zb,zA6 hk,za,k1,k2,k3,zBj,zh,zc,zI,zA9 (show k<1000000000 by omega)];exact z6B o34 y10 y5 y6 y8 hl hD1 hD hp n (k+1) (by omega) (by omega)
  ·simp -implicitDefEqProofs only[zE,ze (show ¬(k:Int)<(y8.1.length:Int) by omega),zc]
theorem z5j(a b:List qf):outL (a++b)=outL a++outL b:=by simp[outL]
theorem z0V(code more:List Int)(h1:∀x∈code,0≤x∧x≤255):zGB code more=some true:=by
 unfold zGB;rcases z4f code more with hb|⟨hb,hc,hm⟩
 ·simp -implicitDefEqProofs only[hb,za,zb]
 obtain⟨s,hs,hz⟩:=z8b hc h1;simp -implicitDefEqProofs only[hb,hs,za,zc];have tl:∀l:qf,(l.toList==l.toList)=true:=fun l=>beq_self_eq_true _;obtain⟨r,br,a1,a2⟩:=z0m hz;obtain⟨l,bf,b1,b2,b3⟩:=zWR hz;obtain⟨d,bd,c1,c2⟩:=zZF hz;obtain⟨fa,bl2,d1,d2,d3⟩:=zU0 hz;have q1:=z8F l (by omega);have q2:=z7y fa (by omega);rcases zJv hz with⟨e1,_⟩|⟨reps,c,x,e⟩
 ·have a3:=a1.symm.trans (z0l e1);have b4:=b1.symm.trans (z2W e1);have c3:=c1.symm.trans (z47 e1);have d4:=d1.symm.trans (z0n e1);injection a3 with a3;injection a3 with a3 a4;injection b4 with b4;injection b4 with b4 b5;injection c3 with c3;injection c3 with c3 c4;injection d4 with d4;injection d4 with d4 d5;subst a4 b5 c4 d5;simp -implicitDefEqProofs only[a1,a2,b1,b2,c1,c2,z2X e1,d1,d2,tl,q1,q2,zBj,bne_self_eq_false,za,zh,zi,zc,zb]
 ·have hsr:SR (c.1.1,c.1.2) x.1:=e.cr.1;have hle:(dnS c.1.2 0).length≤8:=hsr.le;have hd1:-2000≤c.1.1:=hsr.d1;have hd2:c.1.1≤-3:=hsr.d2;have hre:=e.le;have hcnt:=z2Y e.i hre;have a3:=a1.symm.trans (zUY e.i (by omega) e.sz);have b4:=b1.symm.trans (zUZ e.i hle);have c3:=c1.symm.trans (zXV e.i);have d4:=d1.symm.trans (z0o e.i hre);injection a3 with a3;injection a3 with a3 a4;injection b4 with b4;injection b4 with b4 b5;injection c3 with c3;injection c3 with c3 c4;injection d4 with d4;injection d4 with d4 d5;subst a4 b5 c4 d5 a3 c3 d4;have hall:=z9b reps;have hfl:=qAp 0 reps;have hln:(LN s).length=s.data.toList.count 10:=qBc s;have hcn:=e.ln;have w1:w64 ((cNo reps:Int)+(cWh reps:Int))=((cNo reps+cWh reps:Nat):Int):=by rw[zA (by omega)];omega
  have w2:w64 (((cNo reps+cWh reps:Nat):Int)+(cRe reps:Int))=((0+(s.data.toList.drop 0).count 10:Nat):Int):=by rw[zA (by omega),List.drop_zero];omega
  have hlines:=z2B (c.1.1,true) ((cNo reps:Int),(cWh reps:Int),(cRe reps:Int),true) (fl 0 reps,true) s (bl (outL reps),true) (l,true) hz FU 0 0 (by omega) (by unfold FU;omega) (by omega);have hlines:zAe (c.1.1,true) ((cNo reps:Int),(cWh reps:Int),(cRe reps:Int),true) (fl 0 reps,true) s (bl (outL reps),true) (l,true) FU 0 0=_:=hlines;have hpr:∀f∈l,PrRc c.1.1 f:=by intro f hf;rw[b4]at hf;obtain⟨i,hi,rfl⟩:=List.mem_map.1 hf;obtain⟨_,i26,inz⟩:=zUT hi;exact hsr.pr i i26 inz
  have hforms:=z6B ((0+(s.data.toList.drop 0).count 10:Nat):Int) (c.1.1,true) s (bl (outL reps),true) (l,true) (by simp only;omega) hd1 (by simp only;omega) hpr FU 0 (by omega) (by unfold FU;simp only;omega);have hforms:zB1 ((0+(s.data.toList.drop 0).count 10:Nat):Int) (c.1.1,true) s (bl (outL reps),true) (l,true) FU 0=_:=hforms;have hcat:catR s dD=some ():=catI (by rw[show dD.size=14 from rfl];omega);have l8:(l.length:Int)≤8:=by omega
  have step:∀X:Option Bool,(leI ((s++dD).size:Int) 2000=true→leI (w64 (((0+(s.data.toList.drop 0).count 10:Nat):Int)+2)) 60=true→X=some true)→(bif (bif leI ((s++dD).size:Int) 2000 then leI (w64 (((0+(s.data.toList.drop 0).count 10:Nat):Int)+2)) 60 else false) then X else some true)=some true:=by
   intro X hX;cases h5:leI ((s++dD).size:Int) 2000 with
   |false=>rfl
   |true=>
    cases h6:leI (w64 (((0+(s.data.toList.drop 0).count 10:Nat):Int)+2)) 60 with
    |false=>rfl
    |true=>exact hX h5 h6
  have hD:(⟨#[100,105,115,99,32,45,56,52,10,117,110,100,111,10]⟩:qf)=dD:=rfl;simp -implicitDefEqProofs only[hD,a1,a2,b1,b2,c1,c2,hcnt,d1,d2,tl,q1,q2,zBj,bne_self_eq_false,za,zh,zi,zc,zb,hlines,w1,w2,hfl,hforms,hcat,zE,ze (show ¬(8:Int)<(l.length:Int) by omega)];refine step _ fun h5 h6=>?_
  rw[qP]at h5 h6;have h5:=of_decide_eq_true h5;have h6:=of_decide_eq_true h6;rw[List.drop_zero,zA (by omega)]at h6;have ht:=run_t e (by omega) (by omega);have t1:=zUZ ht hle;have t2:=zXV ht;have t3:=zUY ht (by simp;omega) (fun r hr=>by
   rcases List.mem_append.1 hr with hr|hr
   ·exact e.sz r hr
   ·simp only[zl,zq,or_false]at hr;rcases hr with rfl|rfl<;>exact zTs)
  rw[←b4]at t1;have hok:catR (bl (outL reps)) (⟨#[111,107,10,111,107,10]⟩:qf)=some ():=catI (by have:=z5i e.sz;rw[qZ,show (⟨#[111,107,10,111,107,10]⟩:qf).size=6 from rfl];omega)
  have heq:bl (outL reps)++(⟨#[111,107,10,111,107,10]⟩:qf)=bl (outL (reps++[okT,okT])):=by rw[z5j,show (⟨#[111,107,10,111,107,10]⟩:qf)=bl (outL [okT,okT]) from rfl,jH]
  simp -implicitDefEqProofs only[t1,t2,t3,q1,hok,heq,tl,zBj,za,zb]
end Go.Proofs.YtahdjphocippeaaGreatDoor
namespace Go.Proofs
def Tryz.lays156_ren:Go.Shelf.Ren:=⟨fun|156=>213|165=>250|166=>39|169=>40|240=>59|241=>268|276=>87|277=>273|n=>n,fun|31=>49|9=>9|3=>3|4=>4|0=>0|20=>20|72=>76|76=>79|70=>74|37=>28|75=>78|127=>94|164=>123|5=>5|80=>81|n=>n,fun|n=>n⟩
theorem Tryz.lays156:Go.Proofs.Lays.n156 Tryz.prog Tryz.lays156_ren:={
 mixed:=by kernel_rfl
 f156:=Tryz.func213.trans (congrArg some (by kernel_rfl))
 f165:=Tryz.func250.trans (congrArg some (by kernel_rfl))
 f166:=Tryz.func39.trans (congrArg some (by kernel_rfl))
 f169:=Tryz.func40.trans (congrArg some (by kernel_rfl))
 f240:=Tryz.func59.trans (congrArg some (by kernel_rfl))
 f241:=Tryz.func268.trans (congrArg some (by kernel_rfl))
 f276:=Tryz.func87.trans (congrArg some (by kernel_rfl))
 f277:=Tryz.func273.trans (congrArg some (by kernel_rfl))
 t0:=Tryz.underlying0
 a0:=Tryz.isAgg0
 z0:=Tryz.sizeOf0
 v0:=Tryz.zeroValue0
 t3:=Tryz.underlying3
 a3:=Tryz.isAgg3
 z3:=Tryz.sizeOf3
 v3:=Tryz.zeroValue3
 t4:=Tryz.underlying4
 a4:=Tryz.isAgg4
 z4:=Tryz.sizeOf4
 v4:=Tryz.zeroValue4
 t9:=Tryz.underlying9
 a9:=Tryz.isAgg9
 z9:=Tryz.sizeOf9
 v9:=Tryz.zeroValue9
 t20:=Tryz.underlying20
 a20:=Tryz.isAgg20
 z20:=Tryz.sizeOf20
 v20:=Tryz.zeroValue20
 t31:=Tryz.underlying49
 a31:=Tryz.isAgg49
 z31:=Tryz.sizeOf49
 v31:=Tryz.zeroValue49
 t37:=Tryz.underlying28
 a37:=Tryz.isAgg28
 z37:=Tryz.sizeOf28
 v37:=Tryz.zeroValue28
 t70:=Tryz.underlying74
 a70:=Tryz.isAgg74
 z70:=Tryz.sizeOf74
 v70:=Tryz.zeroValue74
 t72:=Tryz.underlying76
 a72:=Tryz.isAgg76
 z72:=Tryz.sizeOf76
 v72:=Tryz.zeroValue76
 t75:=Tryz.underlying78
 a75:=Tryz.isAgg78
 z75:=Tryz.sizeOf78
 v75:=Tryz.zeroValue78
 t76:=Tryz.underlying79
 a76:=Tryz.isAgg79
 z76:=Tryz.sizeOf79
 v76:=Tryz.zeroValue79
 t127:=Tryz.underlying94
 a127:=Tryz.isAgg94
 z127:=Tryz.sizeOf94
 v127:=Tryz.zeroValue94
 t164:=Tryz.underlying123
 a164:=Tryz.isAgg123
 z164:=Tryz.sizeOf123
 v164:=Tryz.zeroValue123}
theorem Tryz.Builder_Extra_156:Builder.Extra Tryz.prog Tryz.lays156_ren:={
 sizeBuilder:=by kernel_rfl
 liesBuilder:=by kernel_rfl
 t5:=Tryz.underlying5
 a5:=Tryz.isAgg5
 z5:=Tryz.sizeOf5
 v5:=Tryz.zeroValue5
 infoByte:=by kernel_rfl
 cellsByte:=by kernel_rfl
 sizeByte:=by kernel_rfl
 neB5:=by decide}
open Go.RowKit in
theorem Tryz.strings_Join_none(a:Option Addr)(c:Nat)(sep:ByteArray)(w:World):
  Calls Tryz.prog 213 #[.slice a 0 c,.string sep] w fun e w'=>e=.returned (.string ⟨#[]⟩)∧w'=w:=Any.strings_Join_none Tryz.lays156 Tryz.Builder_Extra_156 a c sep w
open Go.RowKit in
theorem Tryz.strings_Join(bk o c:Nat)(xs:List ByteArray)(sep:ByteArray)(w:World)(hcells:∀(j:Nat) x,xs[j]?=some x→w.cell? ⟨bk,o+j,none⟩=some (.string x))(hbk:bk<w.heap.size)(hN:xs.length≤140737488355328)(hcap:xs.length≤c)(hlen:(Lib.join (xs.map (·.data.toList)) sep.data.toList).length≤140737488355328):
  Calls Tryz.prog 213 #[.slice (some ⟨bk,o,none⟩) xs.length c,.string sep] w fun e w'=>e=.returned (.string ⟨(Lib.join (xs.map (·.data.toList)) sep.data.toList).toArray⟩)∧Below w.heap.size w w':=Any.strings_Join Tryz.lays156 Tryz.Builder_Extra_156 bk o c xs sep w hcells hbk hN hcap hlen
def Tryz.laysM171_ren:Go.Shelf.Ren:=⟨fun|171=>123|243=>168|246=>206|283=>240|284=>241|285=>242|286=>243|129=>263|317=>262|318=>264|319=>265|320=>266|337=>271|338=>272|n=>n,fun|3=>3|9=>9|2=>2|4=>4|171=>215|0=>0|53=>68|37=>28|5=>5|173=>218|212=>240|51=>230|20=>20|213=>241|46=>117|232=>249|233=>250|n=>n,fun|17=>5|18=>6|19=>7|n=>n⟩
theorem Tryz.laysM171:Go.Proofs.LaysM.n171 Tryz.prog Tryz.laysM171_ren:={
 mixed:=by kernel_rfl
 f129:=Tryz.func263.trans (congrArg some (by kernel_rfl))
 f171:=Tryz.func123.trans (congrArg some (by kernel_rfl))
 f243:=Tryz.func168.trans (congrArg some (by kernel_rfl))
 f246:=Tryz.func206.trans (congrArg some (by kernel_rfl))
 f283:=Tryz.func240.trans (congrArg some (by kernel_rfl))
 f284:=Tryz.func241.trans (congrArg some (by kernel_rfl))
 f285:=Tryz.func242.trans (congrArg some (by kernel_rfl))
 f286:=Tryz.func243.trans (congrArg some (by kernel_rfl))
 f317:=Tryz.func262.trans (congrArg some (by kernel_rfl))
 f318:=Tryz.func264.trans (congrArg some (by kernel_rfl))
 f319:=Tryz.func265.trans (congrArg some (by kernel_rfl))
 f320:=Tryz.func266.trans (congrArg some (by kernel_rfl))
 f337:=Tryz.func271.trans (congrArg some (by kernel_rfl))
 f338:=Tryz.func272.trans (congrArg some (by kernel_rfl))
 t0:=Tryz.underlying0
 a0:=Tryz.isAgg0
 z0:=Tryz.sizeOf0
 v0:=Tryz.zeroValue0
 t2:=Tryz.underlying2
 a2:=Tryz.isAgg2
 z2:=Tryz.sizeOf2
 v2:=Tryz.zeroValue2
 t3:=Tryz.underlying3
 a3:=Tryz.isAgg3
 z3:=Tryz.sizeOf3
 v3:=Tryz.zeroValue3
 t4:=Tryz.underlying4
 a4:=Tryz.isAgg4
 z4:=Tryz.sizeOf4
 v4:=Tryz.zeroValue4
 t5:=Tryz.underlying5
 a5:=Tryz.isAgg5
 z5:=Tryz.sizeOf5
 v5:=Tryz.zeroValue5
 t9:=Tryz.underlying9
 a9:=Tryz.isAgg9
 z9:=Tryz.sizeOf9
 v9:=Tryz.zeroValue9
 t20:=Tryz.underlying20
 a20:=Tryz.isAgg20
 z20:=Tryz.sizeOf20
 v20:=Tryz.zeroValue20
 t37:=Tryz.underlying28
 a37:=Tryz.isAgg28
 z37:=Tryz.sizeOf28
 v37:=Tryz.zeroValue28
 t46:=Tryz.underlying117
 a46:=Tryz.isAgg117
 z46:=Tryz.sizeOf117
 v46:=Tryz.zeroValue117
 t51:=Tryz.underlying230
 a51:=Tryz.isAgg230
 z51:=Tryz.sizeOf230
 v51:=Tryz.zeroValue230
 t53:=Tryz.underlying68
 a53:=Tryz.isAgg68
 z53:=Tryz.sizeOf68
 v53:=Tryz.zeroValue68
 t171:=Tryz.underlying215
 a171:=Tryz.isAgg215
 z171:=Tryz.sizeOf215
 v171:=Tryz.zeroValue215
 t173:=Tryz.underlying218
 a173:=Tryz.isAgg218
 z173:=Tryz.sizeOf218
 v173:=Tryz.zeroValue218
 t212:=Tryz.underlying240
 a212:=Tryz.isAgg240
 z212:=Tryz.sizeOf240
 v212:=Tryz.zeroValue240
 t213:=Tryz.underlying241
 a213:=Tryz.isAgg241
 z213:=Tryz.sizeOf241
 t232:=Tryz.underlying249
 a232:=Tryz.isAgg249
 z232:=Tryz.sizeOf249
 v232:=Tryz.zeroValue249
 t233:=Tryz.underlying250
 a233:=Tryz.isAgg250
 z233:=Tryz.sizeOf250
 v233:=Tryz.zeroValue250
 g17:=by kernel_rfl
 g18:=by kernel_rfl
 g19:=by kernel_rfl
 i0:=by kernel_rfl
 i2:=by kernel_rfl
 i3:=by kernel_rfl
 i4:=by kernel_rfl
 i5:=by kernel_rfl
 i9:=by kernel_rfl
 i20:=by kernel_rfl
 i37:=by kernel_rfl
 i46:=by kernel_rfl
 i51:=by kernel_rfl
 i53:=by kernel_rfl
 i171:=by kernel_rfl
 i173:=by kernel_rfl
 i212:=by kernel_rfl
 i232:=by kernel_rfl
 i233:=by kernel_rfl
 m17:=by kernel_rfl
 m18:=by kernel_rfl
 m19:=by kernel_rfl}
open Go.RowKit Go.Sort Go.Lib in
theorem Tryz.strconv_Itoa(n:Int)(h0:-9223372036854775808≤n)(h1:n≤9223372036854775807)(w:World)(htab:Lib.TabIs Tryz.prog w "internal/strconv.uint64pow10" .u64 Lib.pow10Tab):
    Calls Tryz.prog 123 #[.int .i64 n] w fun e w'=>e=.returned (.string ⟨(Lib.itoa n).toArray⟩)∧∃k os,w'=grow (w.drewN k) os:=Any.strconv_Itoa Tryz.laysM171 n h0 h1 w htab
def Tryz.laysC172_ren:Go.Shelf.Ren:=⟨fun|172=>159|244=>198|245=>199|247=>227|279=>228|280=>229|281=>230|282=>231|287=>258|316=>259|171=>123|205=>260|321=>269|322=>270|243=>168|246=>206|283=>240|284=>241|285=>242|286=>243|129=>263|317=>262|318=>264|319=>265|320=>266|337=>271|338=>272|n=>n,fun|9=>9|3=>3|75=>78|76=>79|4=>4|5=>5|167=>207|37=>28|0=>0|85=>208|2=>2|168=>210|53=>68|175=>233|46=>117|210=>236|127=>94|145=>246|143=>244|21=>21|171=>215|173=>218|212=>240|51=>230|20=>20|213=>241|232=>249|233=>250|80=>81|n=>n,fun|15=>3|16=>4|17=>5|18=>6|19=>7|n=>n⟩
theorem Tryz.laysC172:Go.Proofs.LaysC.n172 Tryz.prog Tryz.laysC172_ren:={
 mixed:=by kernel_rfl
 f129:=Tryz.func263.trans (congrArg some (by kernel_rfl))
 f171:=Tryz.func123.trans (congrArg some (by kernel_rfl))
 f172:=Tryz.func159.trans (congrArg some (by kernel_rfl))
 f205:=Tryz.func260.trans (congrArg some (by kernel_rfl))
 f243:=Tryz.func168.trans (congrArg some (by kernel_rfl))
 f244:=Tryz.func198.trans (congrArg some (by kernel_rfl))
 f245:=Tryz.func199.trans (congrArg some (by kernel_rfl))
 f246:=Tryz.func206.trans (congrArg some (by kernel_rfl))
 f247:=Tryz.func227.trans (congrArg some (by kernel_rfl))
 f279:=Tryz.func228.trans (congrArg some (by kernel_rfl))
 f280:=Tryz.func229.trans (congrArg some (by kernel_rfl))
 f281:=Tryz.func230.trans (congrArg some (by kernel_rfl))
 f282:=Tryz.func231.trans (congrArg some (by kernel_rfl))
 f283:=Tryz.func240.trans (congrArg some (by kernel_rfl))
 f284:=Tryz.func241.trans (congrArg some (by kernel_rfl))
 f285:=Tryz.func242.trans (congrArg some (by kernel_rfl))
 f286:=Tryz.func243.trans (congrArg some (by kernel_rfl))
 f287:=Tryz.func258.trans (congrArg some (by kernel_rfl))
 f316:=Tryz.func259.trans (congrArg some (by kernel_rfl))
 f317:=Tryz.func262.trans (congrArg some (by kernel_rfl))
 f318:=Tryz.func264.trans (congrArg some (by kernel_rfl))
 f319:=Tryz.func265.trans (congrArg some (by kernel_rfl))
 f320:=Tryz.func266.trans (congrArg some (by kernel_rfl))
 f321:=Tryz.func269.trans (congrArg some (by kernel_rfl))
 f322:=Tryz.func270.trans (congrArg some (by kernel_rfl))
 f337:=Tryz.func271.trans (congrArg some (by kernel_rfl))
 f338:=Tryz.func272.trans (congrArg some (by kernel_rfl))
 t0:=Tryz.underlying0
 a0:=Tryz.isAgg0
 z0:=Tryz.sizeOf0
 v0:=Tryz.zeroValue0
 t2:=Tryz.underlying2
 a2:=Tryz.isAgg2
 z2:=Tryz.sizeOf2
 v2:=Tryz.zeroValue2
 t3:=Tryz.underlying3
 a3:=Tryz.isAgg3
 z3:=Tryz.sizeOf3
 v3:=Tryz.zeroValue3
 t4:=Tryz.underlying4
 a4:=Tryz.isAgg4
 z4:=Tryz.sizeOf4
 v4:=Tryz.zeroValue4
 t5:=Tryz.underlying5
 a5:=Tryz.isAgg5
 z5:=Tryz.sizeOf5
 v5:=Tryz.zeroValue5
 t9:=Tryz.underlying9
 a9:=Tryz.isAgg9
 z9:=Tryz.sizeOf9
 v9:=Tryz.zeroValue9
 t20:=Tryz.underlying20
 a20:=Tryz.isAgg20
 z20:=Tryz.sizeOf20
 v20:=Tryz.zeroValue20
 t21:=Tryz.underlying21
 a21:=Tryz.isAgg21
 z21:=Tryz.sizeOf21
 v21:=Tryz.zeroValue21
 t37:=Tryz.underlying28
 a37:=Tryz.isAgg28
 z37:=Tryz.sizeOf28
 v37:=Tryz.zeroValue28
 t46:=Tryz.underlying117
 a46:=Tryz.isAgg117
 z46:=Tryz.sizeOf117
 v46:=Tryz.zeroValue117
 t51:=Tryz.underlying230
 a51:=Tryz.isAgg230
 z51:=Tryz.sizeOf230
 v51:=Tryz.zeroValue230
 t53:=Tryz.underlying68
 a53:=Tryz.isAgg68
 z53:=Tryz.sizeOf68
 v53:=Tryz.zeroValue68
 t75:=Tryz.underlying78
 a75:=Tryz.isAgg78
 z75:=Tryz.sizeOf78
 v75:=Tryz.zeroValue78
 t76:=Tryz.underlying79
 a76:=Tryz.isAgg79
 z76:=Tryz.sizeOf79
 v76:=Tryz.zeroValue79
 t85:=Tryz.underlying208
 a85:=Tryz.isAgg208
 z85:=Tryz.sizeOf208
 v85:=Tryz.zeroValue208
 t127:=Tryz.underlying94
 a127:=Tryz.isAgg94
 z127:=Tryz.sizeOf94
 v127:=Tryz.zeroValue94
 t143:=Tryz.underlying244
 a143:=Tryz.isAgg244
 z143:=Tryz.sizeOf244
 v143:=Tryz.zeroValue244
 t145:=Tryz.underlying246
 a145:=Tryz.isAgg246
 z145:=Tryz.sizeOf246
 v145:=Tryz.zeroValue246
 t167:=Tryz.underlying207
 a167:=Tryz.isAgg207
 z167:=Tryz.sizeOf207
 v167:=Tryz.zeroValue207
 t168:=Tryz.underlying210
 a168:=Tryz.isAgg210
 z168:=Tryz.sizeOf210
 v168:=Tryz.zeroValue210
 t171:=Tryz.underlying215
 a171:=Tryz.isAgg215
 z171:=Tryz.sizeOf215
 v171:=Tryz.zeroValue215
 t173:=Tryz.underlying218
 a173:=Tryz.isAgg218
 z173:=Tryz.sizeOf218
 v173:=Tryz.zeroValue218
 t175:=Tryz.underlying233
 a175:=Tryz.isAgg233
 z175:=Tryz.sizeOf233
 v175:=Tryz.zeroValue233
 t210:=Tryz.underlying236
 a210:=Tryz.isAgg236
 z210:=Tryz.sizeOf236
 v210:=Tryz.zeroValue236
 t212:=Tryz.underlying240
 a212:=Tryz.isAgg240
 z212:=Tryz.sizeOf240
 v212:=Tryz.zeroValue240
 t213:=Tryz.underlying241
 a213:=Tryz.isAgg241
 z213:=Tryz.sizeOf241
 t232:=Tryz.underlying249
 a232:=Tryz.isAgg249
 z232:=Tryz.sizeOf249
 v232:=Tryz.zeroValue249
 t233:=Tryz.underlying250
 a233:=Tryz.isAgg250
 z233:=Tryz.sizeOf250
 v233:=Tryz.zeroValue250
 g15:=by kernel_rfl
 g16:=by kernel_rfl
 g17:=by kernel_rfl
 g18:=by kernel_rfl
 g19:=by kernel_rfl
 t80:=Tryz.underlying81
 a80:=Tryz.isAgg81
 z80:=Tryz.sizeOf81
 v80:=Tryz.zeroValue81
 i0:=by kernel_rfl
 i2:=by kernel_rfl
 i3:=by kernel_rfl
 i4:=by kernel_rfl
 i5:=by kernel_rfl
 i9:=by kernel_rfl
 i20:=by kernel_rfl
 i21:=by kernel_rfl
 i37:=by kernel_rfl
 i46:=by kernel_rfl
 i51:=by kernel_rfl
 i53:=by kernel_rfl
 i75:=by kernel_rfl
 i76:=by kernel_rfl
 i80:=by kernel_rfl
 i85:=by kernel_rfl
 i127:=by kernel_rfl
 i143:=by kernel_rfl
 i145:=by kernel_rfl
 i167:=by kernel_rfl
 i168:=by kernel_rfl
 i171:=by kernel_rfl
 i173:=by kernel_rfl
 i175:=by kernel_rfl
 i210:=by kernel_rfl
 i212:=by kernel_rfl
 i232:=by kernel_rfl
 i233:=by kernel_rfl
 m15:=by kernel_rfl
 m16:=by kernel_rfl
 m17:=by kernel_rfl
 m18:=by kernel_rfl
 m19:=by kernel_rfl
 c0:=by kernel_rfl
 c2:=by kernel_rfl
 c3:=by kernel_rfl
 c4:=by kernel_rfl
 c5:=by kernel_rfl
 c9:=by kernel_rfl
 c20:=by kernel_rfl
 c21:=by kernel_rfl
 c37:=by kernel_rfl
 c46:=by kernel_rfl
 c51:=by kernel_rfl
 c53:=by kernel_rfl
 c75:=by kernel_rfl
 c76:=by kernel_rfl
 c80:=by kernel_rfl
 c85:=by kernel_rfl
 c127:=by kernel_rfl
 c143:=by kernel_rfl
 c145:=by kernel_rfl
 c167:=by kernel_rfl
 c168:=by kernel_rfl
 c171:=by kernel_rfl
 c173:=by kernel_rfl
 c175:=by kernel_rfl
 c210:=by kernel_rfl
 c212:=by kernel_rfl
 c213:=by kernel_rfl
 c232:=by kernel_rfl
 c233:=by kernel_rfl}
open Go.RowKit in
theorem Tryz.strconv_Atoi_ok(s:ByteArray)(hmax:s.size≤9223372036854775806)(v:Int)(h:Lib.atoiAll s.data.toList=.ok v)(w:World):
  Calls Tryz.prog 159 #[.string s] w fun e w'=>e=.returned (.tuple #[.int .i64 v,.nilIface])∧(w'=w∨∃t,w'=Lib.bytesWorld w 5 t):=Any.strconv_Atoi_ok Tryz.laysC172 s hmax v h w
open Go.RowKit in
theorem Tryz.strconv_Atoi_syntax(s:ByteArray)(hlim:s.size≤281474976710656)(h:Lib.atoiAll s.data.toList=.«syntax»)(ev:Value)(w:World)(hv:w.cell? ⟨3,0,none⟩=some ev)(hev:ev=.nilIface∨∃te pe,ev=.iface te pe):
  Calls Tryz.prog 159 #[.string s] w fun e w'=>∃N,e=.returned (.tuple #[.int .i64 (0),.iface 210 (.pointer (some ⟨N,0,none⟩))])∧w.heap.size≤N∧w'.heap[N]?=some (.cells #[.string ⟨#[65,116,111,105]⟩,.string s,ev] 236 (0,0))∧Below w.heap.size w w':=Any.strconv_Atoi_syntax Tryz.laysC172 s hlim h ev w hv hev
open Go.RowKit in
theorem Tryz.strconv_Atoi_range(s:ByteArray)(hlim:s.size≤281474976710656)(h:Lib.atoiAll s.data.toList=.range)(ev:Value)(w:World)(hv:w.cell? ⟨4,0,none⟩=some ev)(hev:ev=.nilIface∨∃te pe,ev=.iface te pe):
  Calls Tryz.prog 159 #[.string s] w fun e w'=>∃N,e=.returned (.tuple #[.int .i64 (Lib.atoiSat s.data.toList),.iface 210 (.pointer (some ⟨N,0,none⟩))])∧w.heap.size≤N∧w'.heap[N]?=some (.cells #[.string ⟨#[65,116,111,105]⟩,.string s,ev] 236 (0,0))∧Below w.heap.size w w':=Any.strconv_Atoi_range Tryz.laysC172 s hlim h ev w hv hev
def Tryz.lays146_ren:Go.Shelf.Ren:=⟨fun|146=>76|221=>109|268=>155|138=>156|143=>157|195=>192|197=>193|218=>194|219=>195|260=>222|217=>223|225=>224|224=>225|267=>226|266=>256|314=>257|n=>n,fun|9=>9|31=>49|3=>3|4=>4|0=>0|105=>189|21=>21|5=>5|46=>117|119=>226|139=>229|138=>228|146=>231|51=>230|n=>n,fun|1=>0|3=>1|4=>2|n=>n⟩
theorem Tryz.lays146:Go.Proofs.Lays.n146 Tryz.prog Tryz.lays146_ren:={
 mixed:=by kernel_rfl
 f138:=Tryz.func156.trans (congrArg some (by kernel_rfl))
 f143:=Tryz.func157.trans (congrArg some (by kernel_rfl))
 f146:=Tryz.func76.trans (congrArg some (by kernel_rfl))
 f195:=Tryz.func192.trans (congrArg some (by kernel_rfl))
 f197:=Tryz.func193.trans (congrArg some (by kernel_rfl))
 f217:=Tryz.func223.trans (congrArg some (by kernel_rfl))
 f218:=Tryz.func194.trans (congrArg some (by kernel_rfl))
 f219:=Tryz.func195.trans (congrArg some (by kernel_rfl))
 f221:=Tryz.func109.trans (congrArg some (by kernel_rfl))
 f224:=Tryz.func225.trans (congrArg some (by kernel_rfl))
 f225:=Tryz.func224.trans (congrArg some (by kernel_rfl))
 f260:=Tryz.func222.trans (congrArg some (by kernel_rfl))
 f266:=Tryz.func256.trans (congrArg some (by kernel_rfl))
 f267:=Tryz.func226.trans (congrArg some (by kernel_rfl))
 f268:=Tryz.func155.trans (congrArg some (by kernel_rfl))
 f314:=Tryz.func257.trans (congrArg some (by kernel_rfl))
 t0:=Tryz.underlying0
 a0:=Tryz.isAgg0
 z0:=Tryz.sizeOf0
 v0:=Tryz.zeroValue0
 t3:=Tryz.underlying3
 a3:=Tryz.isAgg3
 z3:=Tryz.sizeOf3
 v3:=Tryz.zeroValue3
 t4:=Tryz.underlying4
 a4:=Tryz.isAgg4
 z4:=Tryz.sizeOf4
 v4:=Tryz.zeroValue4
 t5:=Tryz.underlying5
 a5:=Tryz.isAgg5
 z5:=Tryz.sizeOf5
 v5:=Tryz.zeroValue5
 t9:=Tryz.underlying9
 a9:=Tryz.isAgg9
 z9:=Tryz.sizeOf9
 v9:=Tryz.zeroValue9
 t21:=Tryz.underlying21
 a21:=Tryz.isAgg21
 z21:=Tryz.sizeOf21
 v21:=Tryz.zeroValue21
 t31:=Tryz.underlying49
 a31:=Tryz.isAgg49
 z31:=Tryz.sizeOf49
 v31:=Tryz.zeroValue49
 t46:=Tryz.underlying117
 a46:=Tryz.isAgg117
 z46:=Tryz.sizeOf117
 v46:=Tryz.zeroValue117
 t51:=Tryz.underlying230
 a51:=Tryz.isAgg230
 z51:=Tryz.sizeOf230
 v51:=Tryz.zeroValue230
 t105:=Tryz.underlying189
 a105:=Tryz.isAgg189
 z105:=Tryz.sizeOf189
 v105:=Tryz.zeroValue189
 t119:=Tryz.underlying226
 a119:=Tryz.isAgg226
 z119:=Tryz.sizeOf226
 t138:=Tryz.underlying228
 a138:=Tryz.isAgg228
 z138:=Tryz.sizeOf228
 v138:=Tryz.zeroValue228
 t139:=Tryz.underlying229
 a139:=Tryz.isAgg229
 z139:=Tryz.sizeOf229
 v139:=Tryz.zeroValue229
 t146:=Tryz.underlying231
 a146:=Tryz.isAgg231
 z146:=Tryz.sizeOf231
 v146:=Tryz.zeroValue231
 g1:=by kernel_rfl
 g3:=by kernel_rfl
 g4:=by kernel_rfl}
open Go.RowKit Go.Lib in
theorem Tryz.strings_Split(s sep:ByteArray)(m:Int)(w:World)(hs:s.size<4294967281)(hm:w.cell? ⟨0,0,none⟩=some (.int .i64 m))(h1:1≤sep.size):
  Calls Tryz.prog 76 #[.string s,.string sep] w fun e w'=>e=.returned (.slice (some ⟨w.heap.size,0,none⟩) (Lib.countB s sep+1) (Lib.countB s sep+1))∧w'=w.alloc (.cells ((Lib.splitB sep 0 (Lib.countB s sep) s).map Value.string).toArray 9):=Any.strings_Split Tryz.lays146 (by kernel_rfl) s sep m w hs hm h1
def Tryz.lays229_ren:Go.Shelf.Ren:=⟨fun|229=>196|n=>n,fun|9=>9|40=>193|31=>49|152=>204|3=>3|0=>0|4=>4|21=>21|154=>206|n=>n,fun|n=>n⟩
theorem Tryz.lays229:Go.Proofs.Lays.n229 Tryz.prog Tryz.lays229_ren:={
 mixed:=by kernel_rfl
 f229:=Tryz.func196.trans (congrArg some (by kernel_rfl))
 t0:=Tryz.underlying0
 a0:=Tryz.isAgg0
 z0:=Tryz.sizeOf0
 v0:=Tryz.zeroValue0
 t3:=Tryz.underlying3
 a3:=Tryz.isAgg3
 z3:=Tryz.sizeOf3
 v3:=Tryz.zeroValue3
 t4:=Tryz.underlying4
 a4:=Tryz.isAgg4
 z4:=Tryz.sizeOf4
 v4:=Tryz.zeroValue4
 t9:=Tryz.underlying9
 a9:=Tryz.isAgg9
 z9:=Tryz.sizeOf9
 v9:=Tryz.zeroValue9
 t21:=Tryz.underlying21
 a21:=Tryz.isAgg21
 z21:=Tryz.sizeOf21
 v21:=Tryz.zeroValue21
 t31:=Tryz.underlying49
 a31:=Tryz.isAgg49
 z31:=Tryz.sizeOf49
 v31:=Tryz.zeroValue49
 t40:=Tryz.underlying193
 a40:=Tryz.isAgg193
 z40:=Tryz.sizeOf193
 v40:=Tryz.zeroValue193
 t152:=Tryz.underlying204
 a152:=Tryz.isAgg204
 z152:=Tryz.sizeOf204
 v152:=Tryz.zeroValue204
 t154:=Tryz.underlying206
 a154:=Tryz.isAgg206
 z154:=Tryz.sizeOf206
 v154:=Tryz.zeroValue206}
open Go.RowKit Go.Lib in
theorem Tryz.strings_FieldsFunc(g:Nat)(lb:Array Value)(eg:∀args w,(callFunc g args).run Tryz.prog w=.ok (.enter g args) w)(p:Nat→Bool)(s:ByteArray)(w:World)(hs:s.size≤4294967296)(hp:PredAt Tryz.prog g lb encR p w):
  Calls Tryz.prog 196 #[.string s,.func (.func g) #[] lb] w fun e w'=>∃A,e=.returned (.slice (some ⟨A,0,none⟩) (Lib.goFieldsP p s).length (Lib.goFieldsP p s).length)∧w.heap.size≤A∧
   w'.ownsRow w.heap.size 9 1 (.slice (some ⟨A,0,none⟩) (Lib.goFieldsP p s).length (Lib.goFieldsP p s).length) (Lib.goFieldsP p s).length ((Lib.goFieldsP p s).map Value.string)∧Below w.heap.size w w':=Any.strings_FieldsFunc Tryz.lays229 g lb eg p s w hs hp (by kernel_rfl) (by kernel_rfl)
end Go.Proofs
namespace Go.Proofs.YtahdjphocippeaaGreatDoor
open Go.RowKit
noncomputable abbrev qh:=Tryz.prog
noncomputable section
def cStr(x:qf):List Tr:=[.v (.string x)]
theorem z4F{ok:Nat→Prop}{w:World}(h:Lb ok w):Go.Lib.TabIs qh w "internal/strconv.uint64pow10" .u64 Go.Lib.pow10Tab:=by
  have hg:Tryz.prog.globalNamed "internal/strconv.uint64pow10"=some 5:=by kernel_rfl
  obtain⟨_,cs,T,fz,h2,h3⟩:=h (5,fun cs=>cs=(Go.Lib.pow10Tab.map fun z=>Value.int .u64 z).toArray) (by simp[TB]);have h3:cs=(Go.Lib.pow10Tab.map fun z=>Value.int .u64 z).toArray:=h3;subst h3;unfold Go.Lib.TabIs World.var?;rw[hg];simp only[za,h2]
theorem zIt{w:World}{g:Nat}{o:Obj}(h:w.heap[g]?=some o):g<w.heap.size:=by
 by_cases hlt:g<w.heap.size
 ·exact hlt
 ·rw[Array.getElem?_eq_none (by omega)]at h;cases h
theorem zZS{w:World}(h:Go.Lib.TabIs qh w "internal/strconv.uint64pow10" .u64 Go.Lib.pow10Tab):∃cs T fz,w.heap[5]?=some (.cells cs T fz)∧cs=(Go.Lib.pow10Tab.map fun z=>Value.int .u64 z).toArray:=by
  have hg:Tryz.prog.globalNamed "internal/strconv.uint64pow10"=some 5:=by kernel_rfl
  unfold Go.Lib.TabIs World.var? at h;rw[hg]at h;simp only[za]at h;have key:∀(o:Option Obj)(cs:Array Value),(match o with|some (.cells cs _ _)=>some cs|_=>none)=some cs→∃T fz,o=some (.cells cs T fz):=by
    intro o cs ho;split at ho
    · rename_i cs2 T fz
      injection ho with ho;subst ho;exact⟨T,fz,rfl⟩
    · cases ho
  obtain⟨T,fz,he⟩:=key _ _ h;exact⟨_,T,fz,he,rfl⟩
theorem zQ2{w:World}{g:Nat}{v:Value}(h:w.cell? ⟨g,0,none⟩=some v):∃cs T fz,w.heap[g]?=some (.cells cs T fz)∧cs[0]?=some v:=by
 unfold World.cell? at h;split at h
 ·rename_i c T fz hc;exact⟨c,T,fz,hc,by simpa using h⟩
 ·cases h
theorem zQD{w:World}{g:Nat}{v:Value}{cs:Array Value}{T:TypeId}{fz:Nat×Nat}(h:w.heap[g]?=some (.cells cs T fz))(hv:cs[0]?=some v):w.cell? ⟨g,0,none⟩=some v:=by simp[World.cell?,h,hv]
theorem z4R{ok:Nat→Prop}{w:World}(hok:∀g,g<w.heap.size→ok g)(h:Go.Lib.TabIs qh w "internal/strconv.uint64pow10" .u64 Go.Lib.pow10Tab)(hm:∃m,w.cell? ⟨0,0,none⟩=some (.int .i64 m))(he3:∃te pe,w.cell? ⟨3,0,none⟩=some (.iface te pe))(he4:∃te pe,w.cell? ⟨4,0,none⟩=some (.iface te pe)):Lb ok w:=by
  intro p hp;simp only[TB,zl,zq,or_false]at hp;rcases hp with rfl|rfl|rfl|rfl
  · obtain⟨cs,T,fz,h1,h2⟩:=zZS h
    exact⟨hok _ (zIt h1),cs,T,fz,h1,h2⟩
  · obtain⟨m,hm⟩:=hm
    obtain⟨cs,T,fz,h1,h2⟩:=zQ2 hm;exact⟨hok _ (zIt h1),cs,T,fz,h1,m,h2⟩
  · obtain⟨te,pe,he⟩:=he3
    obtain⟨cs,T,fz,h1,h2⟩:=zQ2 he;exact⟨hok _ (zIt h1),cs,T,fz,h1,te,pe,h2⟩
  · obtain⟨te,pe,he⟩:=he4
    obtain⟨cs,T,fz,h1,h2⟩:=zQ2 he;exact⟨hok _ (zIt h1),cs,T,fz,h1,te,pe,h2⟩
theorem zGe:∀args w,(callFunc 123 args).run qh w=.ok (.enter 123 args) w:=qW Tryz.func123 (by kernel_rfl) (by kernel_rfl)
theorem zHM{n:Int}{r:qf}(h:qS n=some r):zC qh 123 [I n] (.c (.v (.string r))) []:=
 z2m (fun ok w n hl h0 h1=>(Go.Proofs.Tryz.strconv_Itoa n h0 h1 w (z4F hl)).mono (by
  rintro e w' ⟨he,k,os,hw⟩;subst hw;refine⟨he,rfl,rfl,rfl,?_,fun q hq=>?_⟩
  ·show w.heap.size≤(w.heap++os).size;simp
  ·show (w.heap++os)[q]?=w.heap[q]?
   exact Array.getElem?_append_left hq)) h
theorem zRf:∀args w,(callFunc 213 args).run qh w=.ok (.enter 213 args) w:=qW Tryz.func213 (by kernel_rfl) (by kernel_rfl)
theorem zTR{xs:List qf}{sep r:qf}(h:zCs xs sep=some r):zC qh 213 [.c (.sl (xs.map cStr)),.c (.v (.string sep))] (.c (.v (.string r))) []:=
 z2l (fun _=>rfl) (fun a c sep w=>Go.Proofs.Tryz.strings_Join_none a c sep w) (fun bk o c xs sep w h1 h2 h3 h4 h5=>Go.Proofs.Tryz.strings_Join bk o c xs sep w h1 h2 h3 h4 h5) h
theorem z4P{ok:Nat→Prop}{w:World}(h:Lb ok w):∃m,w.cell? ⟨0,0,none⟩=some (.int .i64 m):=by obtain⟨_,cs,T,fz,h2,m,h3⟩:=h (0,fun cs=>∃m,cs[0]?=some (.int .i64 m)) (by simp[TB]);exact⟨m,zQD h2 h3⟩
theorem z2R{ok:Nat→Prop}{w:World}(h:Lb ok w):∃te pe,w.cell? ⟨3,0,none⟩=some (.iface te pe):=by obtain⟨_,cs,T,fz,h2,te,pe,h3⟩:=h (3,fun cs=>∃te pe,cs[0]?=some (.iface te pe)) (by simp[TB]);exact⟨te,pe,zQD h2 h3⟩
theorem z2Q{ok:Nat→Prop}{w:World}(h:Lb ok w):∃te pe,w.cell? ⟨4,0,none⟩=some (.iface te pe):=by obtain⟨_,cs,T,fz,h2,te,pe,h3⟩:=h (4,fun cs=>∃te pe,cs[0]?=some (.iface te pe)) (by simp[TB]);exact⟨te,pe,zQD h2 h3⟩
theorem zI0:∀args w,(callFunc 76 args).run qh w=.ok (.enter 76 args) w:=qW Tryz.func76 (by kernel_rfl) (by kernel_rfl)
theorem zJI{s sep:qf}{r:List qf}(h:zAB s sep=some r):zC qh 76 [.c (.v (.string s)),.c (.v (.string sep))] (.ow 0) [(0,.arr 9 1 (r.map cStr))]:=
 z1O (fun _=>rfl) (fun ok w s sep hl h1 h2=>by obtain⟨m,hm⟩:=z4P hl;exact Go.Proofs.Tryz.strings_Split s sep m w h1 hm h2) h
theorem zJJ:∀args w,(callFunc 159 args).run qh w=.ok (.enter 159 args) w:=qW Tryz.func159 (by kernel_rfl) (by kernel_rfl)
theorem zJm{s:qf}{r:Int×Bool}(h:zAb s=some r):zC qh 159 [.c (.v (.string s))] (.tc (I r.1) (.tc (.er r.2) .tn)) []:=
 z2n (fun ok w s hl hs r hr=>by
  obtain⟨te1,pe1,h1⟩:=z2R hl;obtain⟨te2,pe2,h2⟩:=z2Q hl;unfold zAb at hr;rw[if_pos hs]at hr;cases ha:Go.Lib.atoiAll s.data.toList with
  |ok v=>
   rw[ha]at hr;injection hr with hr;subst hr;refine (Go.Proofs.Tryz.strconv_Atoi_ok s (by omega) v ha w).mono ?_
   rintro e w' ⟨he,hw⟩;refine⟨⟨_,he,.inl ⟨rfl,rfl⟩⟩,?_⟩;rcases hw with rfl|⟨t,rfl⟩
   ·exact Below.refl _ _
   ·exact Go.Lib.bytesWorld_below _ _ _
  |«syntax»=>
   rw[ha]at hr;injection hr with hr;subst hr;refine (Go.Proofs.Tryz.strconv_Atoi_syntax s hs ha _ w h1 (.inr ⟨te1,pe1,rfl⟩)).mono ?_
   rintro e w' ⟨N,he,_,_,hb⟩;exact⟨⟨_,he,.inr ⟨rfl,_,_,rfl⟩⟩,hb⟩
  |range=>
   rw[ha]at hr;injection hr with hr;subst hr;refine (Go.Proofs.Tryz.strconv_Atoi_range s hs ha _ w h2 (.inr ⟨te2,pe2,rfl⟩)).mono ?_
   rintro e w' ⟨N,he,_,_,hb⟩;exact⟨⟨_,he,.inr ⟨rfl,_,_,rfl⟩⟩,hb⟩) h
theorem zJW:∀args w,(callFunc 196 args).run qh w=.ok (.enter 196 args) w:=qW Tryz.func196 (by kernel_rfl) (by kernel_rfl)
theorem zYX{s:qf}{r:List qf}{p:Nat→Bool}{g:Nat}(eg:∀args w,(callFunc g args).run qh w=.ok (.enter g args) w)(hp:∀w,Go.Proofs.PredAt qh g #[] (fun x:Nat=>Value.int .i32 (x:Int)) p w)(h:zBX p s=some r):zC qh 196 [.c (.v (.string s)),.c (.v (.func (.func g) #[] #[]))] (.ow 0) [(0,.arr 9 1 (r.map cStr))]:=by
 unfold zBX at h;split at h
 ·rename_i hn;injection h with h;subst h;refine zX9 (fun _=>rfl) fun ok σ w vs hok hlib hargs=>?_
  cases hargs with
  |cons h1 h2=>
   cases h2 with
   |cons h3 h4=>
    cases h4;have:=zGQ h1;subst this;have h5:Rd ok w (.v (.func (.func g) #[] #[])) _:=h3;cases h5;refine (Go.Proofs.Tryz.strings_FieldsFunc g #[] eg p s w hn (hp w)).mono ?_
    rintro e w' ⟨B,he,h6,h7,h8⟩;exact⟨B,_,he,h6,h7,h8⟩
 ·cases h
end
theorem z7H(a b:qf):(a==b)=decide (a=b):=by
 have h:(a==b)=(a.data==b.data):=rfl;rw[h,Bool.eq_iff_iff,beq_iff_eq,decide_eq_true_iff];constructor
 ·intro h;cases a;cases b;exact congrArg _ h
 ·intro h;rw[h]
section
variable {κ ν:Type} [DecidableEq κ]
theorem zUE{a:κ}:∀{m:List (κ×ν)},ixM a (m.map Prod.fst)=none→mGet a m=none∧∀v,mPut a v m=m++[(a,v)]
 |[],_=>⟨rfl,fun _=>rfl⟩
 |p::ps,h=>by
  simp only[List.map_cons,ixM]at h;by_cases e:a=p.1
  ·rw[if_pos e]at h;cases h
  ·rw[if_neg e]at h;have h2:ixM a (ps.map Prod.fst)=none:=by simpa using h
   obtain⟨k1,k2⟩:=zUE h2;exact⟨by unfold mGet;rw[if_neg e,k1],fun v=>by unfold mPut;rw[if_neg e,k2];rfl⟩
theorem zUD{a:κ}:∀{m:List (κ×ν)}{j:Nat},ixM a (m.map Prod.fst)=some j→∃v0,m[j]?=some (a,v0)∧mGet a m=some v0∧∀v,mPut a v m=m.set j (a,v)
 |[],j,h=>by cases h
 |p::ps,j,h=>by
  simp only[List.map_cons,ixM]at h;by_cases e:a=p.1
  ·rw[if_pos e]at h;injection h with h;subst h;refine⟨p.2,by rw[e];rfl,by unfold mGet;rw[if_pos e],fun v=>by unfold mPut;rw[if_pos e];rfl⟩
  ·rw[if_neg e]at h;cases h2:ixM a (ps.map Prod.fst) with
   |none=>rw[h2]at h;cases h
   |some i=>rw[h2]at h;injection h with h;subst h;obtain⟨v0,k1,k2,k3⟩:=zUD h2;exact⟨v0,by simpa using k1,by unfold mGet;rw[if_neg e,k2],fun v=>by unfold mPut;rw[if_neg e,k3];rfl⟩
end
section
variable {P:Program}
structure KeyT (P:Program) {κ:Type} [DecidableEq κ] (kt:TypeId) (ek:κ→Value):Prop where
  chk:∀b a w,(Instr.checkKey b 10000 kt (ek a)).run P w=.ok () w
  find:∀a (es:List MapEntry)(ks:List κ) w,es.map (·.key)=ks.map ek→(Instr.findKey kt (ek a) es).run P w=.ok ((ixM a ks).bind fun j=>(es[j]?).map fun e=>(j,e.val)) w
  bits:∀a,Instr.sameBits 10000 (ek a) (ek a)=true
theorem zKJ{κ:Type} [DecidableEq κ]{kt:TypeId}{ek:κ→Value}(heq:∀a b w,(Op.equal kt (ek a) (ek b)).run P w=.ok (decide (a=b)) w)(a:κ)(w:World):∀(es:List MapEntry)(ks:List κ)(i:Nat),es.map (·.key)=ks.map ek→
  (Instr.findAsking kt (ek a) es i).run P w=.ok ((ixM a ks).bind fun j=>(es[j]?).map fun e=>(i+j,e.val)) w
 |[],[],i,_=>rfl
 |[],k::ks,i,h=>by simp at h
 |e::es,[],i,h=>by simp at h
 |e::es,k::ks,i,h=>by
  simp only[List.map_cons,List.cons.injEq]at h;have ih:=zKJ heq a w es ks (i+1) h.2;unfold Instr.findAsking;rw[h.1];simp only[Sem.run_bind,heq,Result.andThen_ok];by_cases e1:a=k
  ·simp[e1,ixM]
  ·simp only[ze e1,zz,if_false,ih,ixM,if_neg e1];cases ixM a ks with
   |none=>rfl
   |some j=>simp only[za,Option.map_some,List.getElem?_cons_succ];rw[show i+1+j=i+(j+1) by omega]
theorem z6F{κ:Type} [DecidableEq κ]{kt:TypeId}{ek:κ→Value}(d:TypeDesc)(hd:P.underlying kt=some d)(chk:∀b a w,(Instr.checkKey b 10000 kt (ek a)).run P w=.ok () w)(heq:∀a b w,(Op.equal kt (ek a) (ek b)).run P w=.ok (decide (a=b)) w)
  (hnow:∀a b,Instr.sameNow d (ek a) (ek b)=none) (bits:∀a,Instr.sameBits 10000 (ek a) (ek a)=true):KeyT P kt ek:=by
 refine⟨chk,fun a es ks w h=>?_,bits⟩;unfold Instr.findKey;simp only[Sem.run_bind,run_underlying hd,Result.andThen_ok];cases es with
 |nil=>
  cases ks with
  |nil=>rfl
  |cons k ks=>simp at h
 |cons e es=>
  cases ks with
  |nil=>simp at h
  |cons k ks=>
   have h1:=h;simp only[List.map_cons,List.cons.injEq]at h1;have h2:Instr.findNow d (ek a) (e::es) 0=none:=by unfold Instr.findNow;rw[h1.1,hnow]
   rw[h2];have:=zKJ heq a w (e::es) (k::ks) 0 h;simp only[Nat.zero_add]at this;exact this
theorem zQv{κ:Type} [DecidableEq κ]{d:TypeDesc}{ek:κ→Value}(hs:∀a b,Instr.sameNow d (ek a) (ek b)=some (decide (a=b)))(a:κ):∀(es:List MapEntry)(ks:List κ)(i:Nat),es.map (·.key)=ks.map ek→
  Instr.findNow d (ek a) es i=some ((ixM a ks).bind fun j=>(es[j]?).map fun e=>(i+j,e.val))
 |[],[],i,_=>rfl
 |[],k::ks,i,h=>by simp at h
 |e::es,[],i,h=>by simp at h
 |e::es,k::ks,i,h=>by
  simp only[List.map_cons,List.cons.injEq]at h;have ih:=zQv hs a es ks (i+1) h.2;unfold Instr.findNow;rw[h.1,hs];by_cases e1:a=k
  ·simp[e1,ixM]
  ·simp only[ze e1,ih,ixM,if_neg e1];cases ixM a ks with
   |none=>rfl
   |some j=>simp only[za,Option.map_some,List.getElem?_cons_succ];rw[show i+1+j=i+(j+1) by omega]
theorem z6E{κ:Type} [DecidableEq κ]{kt:TypeId}{ek:κ→Value}(d:TypeDesc)(hd:P.underlying kt=some d)(chk:∀b a w,(Instr.checkKey b 10000 kt (ek a)).run P w=.ok () w)(hs:∀a b,Instr.sameNow d (ek a) (ek b)=some (decide (a=b)))
  (bits:∀a,Instr.sameBits 10000 (ek a) (ek a)=true):KeyT P kt ek:=by
 refine⟨chk,fun a es ks w h=>?_,bits⟩;unfold Instr.findKey;simp only[Sem.run_bind,run_underlying hd,Result.andThen_ok];have:=zQv hs a es ks 0 h;simp only[Nat.zero_add]at this;rw[this];rfl
theorem z4e(n:Nat)(l:List Int):Instr.sameBits (n+1) (.agg (l.map (Value.int .i64)).toArray) (.agg (l.map (Value.int .i64)).toArray)=true:=by
 unfold Instr.sameBits;simp only[beq_self_eq_true,Bool.true_and,List.all_eq_true];intro p hp;have:∀(l:List Int)(p:Value×Value),p∈(l.map (Value.int .i64)).zip (l.map (Value.int .i64))→∃a,p=(.int .i64 a,.int .i64 a):=by
  intro l
  induction l with
  |nil=>intro p hp;simp at hp
  |cons x xs ih=>
   intro p hp;simp only[List.map_cons,List.zip_cons_cons,zl]at hp;rcases hp with h|h
   ·exact⟨x,h⟩
   ·exact ih p h
 obtain⟨a,rfl⟩:=this l p hp;simp[Instr.sameBits]
theorem z5Y{t:TypeId}{z:Value}(h:(P.info? t).bind (·.zero)=some z)(w:World):(zeroValue t).run P w=.ok z w:=by
 cases hi:P.info? t with
 |none=>rw[hi]at h;cases h
 |some i=>rw[hi]at h;have h2:i.zero=some z:=h;simp[zeroValue,typeInfo,hi,h2]
theorem zQk{κ ν:Type} [DecidableEq κ]{ek:κ→Value}{ev:ν→Value}{t kt vt:TypeId}{z:ν}(ht:P.underlying t=some (.map kt vt))(hk:KeyT P kt ek)(hz:(P.info? vt).bind (·.zero)=some (ev z)){w:World}{b:Nat}{es:Array MapEntry}{clock:Nat}(hb:w.heap[b]?=some (.map es clock))
  {m:List (κ×ν)} (hm:es.toList.map kvOf=m.map fun p=>(ek p.1,ev p.2)) (a:κ) (co:Bool):
  (Instr.lookup t (.map (some b)) (ek a) co).run P w=.ok (if co then .tuple #[ev (mAt a m z),.bool (mHas a m)] else ev (mAt a m z)) w:=by
 have hkeys:es.toList.map (·.key)=(m.map Prod.fst).map ek:=by have:=congrArg (List.map Prod.fst) hm;simpa [kvOf,Function.comp_def] using this
 have hf:=hk.find a es.toList (m.map Prod.fst) w hkeys;unfold Instr.lookup;simp only[Sem.run_bind,run_underlying ht,Result.andThen_ok,MapKept.run_getObj_map hb,Sem.run_pure,hk.chk,hf];cases hi:ixM a (m.map Prod.fst) with
 |none=>obtain⟨k1,_⟩:=zUE hi;simp only[Option.bind_none,Sem.run_bind,z5Y hz,Result.andThen_ok,Sem.run_pure,mAt,mHas,k1,Option.getD_none,Option.isSome_none]
 |some j=>
  obtain⟨v0,k1,k2,_⟩:=zUD hi;have he:∃e,es.toList[j]?=some e∧e.val=ev v0:=by
   have h1:=congrArg (fun l=>l[j]?) hm;simp only[List.getElem?_map,k1,Option.map_some]at h1;cases h2:es.toList[j]? with
   |none=>rw[h2]at h1;cases h1
   |some e=>rw[h2]at h1;simp only[Option.map_some,Option.some.injEq,kvOf,Prod.mk.injEq]at h1;exact⟨e,rfl,h1.2⟩
  obtain⟨e,e1,e2⟩:=he;simp only[za,e1,Option.map_some,Sem.run_bind,Sem.run_pure,Result.andThen_ok,mAt,mHas,k2,Option.getD_some,Option.isSome_some,e2]
theorem zTi{κ ν:Type} [DecidableEq κ]{ek:κ→Value}{ev:ν→Value}{t kt vt:TypeId}(ht:P.underlying t=some (.map kt vt))(hk:KeyT P kt ek){w:World}{b:Nat}{es:Array MapEntry}{clock:Nat}(hb:w.heap[b]?=some (.map es clock))
  {m:List (κ×ν)} (hm:es.toList.map kvOf=m.map fun p=>(ek p.1,ev p.2)) (a:κ) (v:ν):
  ∃es' clock',(Instr.mapUpdate t (.map (some b)) (ek a) (ev v)).run P w=.ok () {w with heap:=w.heap.setIfInBounds b (.map es' clock')}∧es'.toList.map kvOf=(mPut a v m).map fun p=>(ek p.1,ev p.2):=by
 have hkeys:es.toList.map (·.key)=(m.map Prod.fst).map ek:=by have:=congrArg (List.map Prod.fst) hm;simpa [kvOf,Function.comp_def] using this
 have hf:=hk.find a es.toList (m.map Prod.fst) w hkeys;cases hi:ixM a (m.map Prod.fst) with
 |none=>
  obtain⟨_,k2⟩:=zUE hi;refine⟨es.push {key:=ek a,val:=ev v,born:=clock},clock+1,?_,?_⟩
  ·unfold Instr.mapUpdate;rw[hi]at hf;simp only[Sem.run_bind,run_underlying ht,Result.andThen_ok,MapKept.run_getObj_map hb,Sem.run_pure,hk.chk,hf,Option.bind_none,MapKept.run_setObj_map _ hb]
  ·rw[k2];simp[hm,kvOf]
 |some j=>
  obtain⟨v0,k1,_,k3⟩:=zUD hi;have he:∃e,es.toList[j]?=some e∧e.key=ek a:=by
   have h1:=congrArg (fun l=>l[j]?) hm;simp only[List.getElem?_map,k1,Option.map_some]at h1;cases h2:es.toList[j]? with
   |none=>rw[h2]at h1;cases h1
   |some e=>rw[h2]at h1;simp only[Option.map_some,Option.some.injEq,kvOf,Prod.mk.injEq]at h1;exact⟨e,rfl,h1.1⟩
  obtain⟨e,e1,e2⟩:=he;have e3:es[j]?=some e:=by simpa using e1
  refine⟨es.modify j fun e=>{e with key:=ek a,val:=ev v},clock,?_,?_⟩
  ·unfold Instr.mapUpdate;rw[hi]at hf;simp only[Sem.run_bind,run_underlying ht,Result.andThen_ok,MapKept.run_getObj_map hb,Sem.run_pure,hk.chk,hf,za,e1,Option.map_some,e3,Option.getD_some,e2,Instr.keyThatStays,hk.bits,if_true,MapKept.run_setObj_map _ hb]
  ·rw[k3,Array.toList_modify];apply List.ext_getElem?;intro i;have h1:=congrArg (fun l=>l[i]?) hm;simp only[List.getElem?_map]at h1 ⊢;rw[List.getElem?_modify,List.getElem?_set];by_cases hij:j=i
   ·subst hij;have hlt:j<m.length:=(List.getElem?_eq_some_iff.1 k1).1;simp[e1,hlt,kvOf]
   ·simp only[hij,if_false,Option.map_map];rw[←h1];cases es.toList[i]?<;>rfl
theorem R.writeG{B:Fr}{w0:World}{ok0 ok:Nat→Prop}{σ:Nat→Loc}{s:St}{a:Act}{w w':World}(h:R B w0 ok0 ok σ s a w){id:Nat}{e e':Ent}{g:Nat}(he:s.ent id=some e)(hg:(σ id).blk=some g)(hsize:w'.heap.size=w.heap.size)
  (hw:∀q,q≠g→w'.heap[q]?=w.heap[q]?) (hos:w'.os=w.os) (htp:w'.tape=w.tape) (hou:w'.output=w.output) (E':List (Nat×Ent)) (hE:∀j,(E'.lookup j)=if j=id then some e' else s.ent j) (hok:zAj ok w' (σ id) e') (hpin:e'.pin=e.pin):
  R B w0 ok0 ok σ ⟨s.T,E'⟩ a w':=by
 obtain⟨hb1,hb2⟩:=h.core.blk id e g he hg;have hB:=h.own id e g he hg;have hwok:∀q,ok q→w'.heap[q]?=w.heap[q]?:=fun q hq=>hw q fun e=>hb1 (e▸hq)
 have look:∀j f,(St.mk s.T E').ent j=some f→(j=id∧f=e')∨(j≠id∧s.ent j=some f):=by
  intro j f hj;have h1:E'.lookup j=some f:=hj;rw[hE]at h1;split at h1
  ·rename_i hji;exact .inl ⟨hji,by simpa using h1.symm⟩
  ·rename_i hji;exact .inr ⟨hji,h1⟩
 refine⟨⟨h.core.len,fun q hq=>by rw[hsize];exact h.core.okL q hq,h.core.lib.mono (fun _ h=>h) hwok,fun t=>?_,fun j f hj=>?_,fun j f q hj hq=>?_,fun i j f1 f2 q hi hj h1 h2=>?_⟩,h.defers,h.below.trans ?_,by rw[hsize];exact h.base,h.old,h.fresh,fun j f q hj hq=>?_⟩
 ·have h1:=h.core.tmp t;exact h1.mono0 (fun _ h=>h) hwok
 ·rcases look j f hj with⟨rfl,rfl⟩|⟨h1,h2⟩
  ·exact hok
  ·refine (h.core.ent j f h2).mono (fun _ h=>h) hwok fun q hq=>hw q fun e1=>?_
   subst e1;exact h1 (h.core.inj _ _ _ _ _ h2 he hq hg)
 ·rw[hsize];rcases look j f hj with⟨rfl,rfl⟩|⟨h1,h2⟩
  ·exact h.core.blk _ _ _ he hq
  ·exact h.core.blk _ _ _ h2 hq
 ·rcases look i f1 hi with⟨a1,a2⟩|⟨a1,a2⟩<;>rcases look j f2 hj with⟨b1,b2⟩|⟨b1,b2⟩
  ·omega
  ·subst a1;exact h.core.inj _ _ _ _ _ he b2 h1 h2
  ·subst b1;exact h.core.inj _ _ _ _ _ a2 he h1 h2
  ·exact h.core.inj _ _ _ _ _ a2 b2 h1 h2
 ·refine⟨hos,htp,hou,by rw[hsize];exact Nat.le_refl _,fun q hq hx=>hw q fun e1=>?_⟩;subst e1;split at hB
  ·exact hx hB
  ·exact hq hB
 ·rcases look j f hj with⟨rfl,rfl⟩|⟨h1,h2⟩
  ·rw[hpin];exact h.own _ _ _ he hq
  ·exact h.own _ _ _ h2 hq
def trV:Tr→Option Value
 | .v x=>some x
 |_=>none
def keyV:AV→Option Value
 | .c (.v x)=>some x
 | .ag cs=>(cs.mapM trV).map fun xs=>.agg xs.toArray
 |_=>none
theorem z5t{ok:Nat→Prop}{w:World}:∀(cs:List Tr)(vs xs:List Value),RdL ok w cs vs→(cs.mapM trV)=some xs→vs=xs
 |[],_,xs,.nil,h=>by simpa using h
 |c::cs,_,xs,.cons h1 h2,h=>by
  rw[List.mapM_cons]at h;cases c with
  |v x=>
   simp only[trV,Option.pure_def,Option.bind_eq_bind,za]at h;cases h3:(cs.mapM trV) with
   |none=>rw[h3]at h;cases h
   |some ys=>rw[h3]at h;simp only[za,Option.some.injEq]at h;subst h;have:=z5t cs _ ys h2 h3;subst this;cases h1;rfl
  |sl e=>simp[trV]at h
  |mp e=>simp[trV]at h
theorem zPz{ok:Nat→Prop}{σ:Nat→Loc}{s:St}{a:Act}{w:World}(h:Core ok σ s a w){x:Operand}{v:Value}(hx:keyV (s.ev x)=some v):a.eval x=v:=by
 have h1:=h.ev x;cases hs:s.ev x with
 |c t=>
  rw[hs]at hx;cases t with
  |v y=>injection hx with hx;subst hx;exact h.exact hs
  |sl e=>cases hx
  |mp e=>cases hx
 |ag cs=>
  rw[hs]at hx h1;obtain⟨vs,hv,hr⟩:=(h1:Rel1 ok σ w (.ag cs) (a.eval x))
  simp only[keyV,Option.map_eq_some_iff]at hx;obtain⟨xs,h2,h3⟩:=hx;have:=z5t cs vs.toList xs hr h2;rw[hv,←h3,←this]
 |bot=>rw[hs]at hx;cases hx
 |ow _=>rw[hs]at hx;cases hx
 |pt _ _=>rw[hs]at hx;cases hx
 |po _ _ _ _=>rw[hs]at hx;cases hx
 |pe _=>rw[hs]at hx;cases hx
 |fn _ _=>rw[hs]at hx;cases hx
 |er _=>rw[hs]at hx;cases hx
 |vw _ _ _=>rw[hs]at hx;cases hx
 |sf _ _ _=>rw[hs]at hx;cases hx
 |tn=>rw[hs]at hx;cases hx
 |tc _ _=>rw[hs]at hx;cases hx
def MpOk(P:Program)(t:TypeId){κ ν:Type} [DecidableEq κ](ek:κ→Value)(ev:ν→Value)(z:ν):Prop:=∃kt vt,P.underlying t=some (.map kt vt)∧KeyT P kt ek∧(P.info? vt).bind (·.zero)=some (ev z)∧∀v,(ev v).oneCell'=true
theorem zTz{ok:Nat→Prop}{σ:Nat→Loc}{s:St}{a:Act}{w:World}(h:Core ok σ s a w){x:Operand}{id b:Nat}{kvs:List (Value×Value)}(hx:s.ev x=.c (.v (.map (some b))))(he:s.ent id=some (.mp b kvs)):a.eval x=.map (some b)∧∃es clock,w.heap[b]?=some (.map es clock)∧es.toList.map kvOf=kvs:=by obtain⟨h1,es,clock,h2,h3⟩:=h.ent id _ he;exact⟨h.exact hx,es,clock,h2,h3⟩
theorem z2A{ok:Nat→Prop}{σ:Nat→Loc}{s:St}{a:Act}{w:World}(h:Core ok σ s a w){x:Operand}{kvs:List (Value×Value)}(hx:s.ev x=.c (.mp kvs)):∃b,a.eval x=.map (some b)∧∃es clock,w.heap[b]?=some (.map es clock)∧es.toList.map kvOf=kvs:=by
 have h1:=h.ev x;rw[hx]at h1;have h2:Rd ok w (.mp kvs) (a.eval x):=h1;generalize a.eval x=y at h2;cases h2 with
 |mp b es clock hok hb=>exact⟨b,rfl,es,clock,hb,rfl⟩
theorem z4h{o:Oper}{s:St}{x k:Operand}{t:TypeId}{κ ν:Type} [DecidableEq κ]{ek:κ→Value}{ev:ν→Value}{z:ν}{id b:Nat}{m:List (κ×ν)}{a:κ}(hm:MpOk P t ek ev z)(ho:o.op=.lookup t x k true)(hx:s.ev x=.c (.v (.map (some b))))(he:s.ent id=some (.mp b (m.map fun p=>(ek p.1,ev p.2))))(hk:keyV (s.ev k)=some (ek a)):
  Y0 P o s (.tc (.c (.v (ev (mAt a m z)))) (.tc (.c (.v (.bool (mHas a m)))) .tn)):=
 qN fun ok σ ac w hC=>by obtain⟨kt,vt,h1,h2,h3,h4⟩:=hm;obtain⟨e1,es,clock,e2,e3⟩:=zTz hC hx he;have:=zQk h1 h2 h3 e2 e3 a true;refine⟨_,?_,⟨#[ev (mAt a m z),.bool (mHas a m)],rfl,Rd.v _ (h4 _),Rd.v _ rfl,trivial⟩⟩;unfold execOp;rw[ho];simp only[e1,zPz hC hk,Sem.run_bind,this,Result.andThen_ok,Sem.run_pure];rfl
theorem z7W{o:Oper}{s:St}{x k:Operand}{t:TypeId}{κ ν:Type} [DecidableEq κ]{ek:κ→Value}{ev:ν→Value}{z:ν}{m:List (κ×ν)}{a:κ}(hm:MpOk P t ek ev z)(ho:o.op=.lookup t x k false)(hx:s.ev x=.c (.mp (m.map fun p=>(ek p.1,ev p.2))))(hk:keyV (s.ev k)=some (ek a)):
  Y0 P o s (.c (.v (ev (mAt a m z)))):=
 qN fun ok σ ac w hC=>by obtain⟨kt,vt,h1,h2,h3,h4⟩:=hm;obtain⟨b,e1,es,clock,e2,e3⟩:=z2A hC hx;have:=zQk h1 h2 h3 e2 e3 a false;refine⟨_,?_,Rd.v _ (h4 _)⟩;unfold execOp;rw[ho];simp only[e1,zPz hC hk,Sem.run_bind,this,Result.andThen_ok,Sem.run_pure];rfl
theorem zFK{o:Oper}{s:St}{x k v:Operand}{t:TypeId}{κ ν:Type} [DecidableEq κ]{ek:κ→Value}{ev:ν→Value}{z:ν}{id b:Nat}{m:List (κ×ν)}{a:κ}{u:ν}(hm:MpOk P t ek ev z)(ho:o.op=.mapUpdate t x k v∨o.op=.insert t x k v)(hd:o.dst=none)(hx:s.ev x=.c (.v (.map (some b))))(he:s.ent id=some (.mp b (m.map fun p=>(ek p.1,ev p.2))))(hk:keyV (s.ev k)=some (ek a))(hv:s.ev v=.c (.v (ev u))):
  X P o s ⟨s.T,setE id (.mp b ((mPut a u m).map fun p=>(ek p.1,ev p.2))) s.E⟩:=by
 intro B w0 ok0 ok σ ac w hR K Q hK;obtain⟨kt,vt,h1,h2,h3,h4⟩:=hm;obtain⟨e1,es,clock,e2,e3⟩:=zTz hR.core hx he;obtain⟨es',clock',r1,r2⟩:=zTi h1 h2 e2 e3 a u;have ek1:=zPz hR.core hk;have ev1:=hR.core.exact hv;have hblk:=(hR.core.ent id _ he).1;have hset:=MapKept.heap_set (o':=.map es' clock') e2;have hR':=hR.writeG (w':={w with heap:=w.heap.setIfInBounds b (.map es' clock')}) he hblk (by simp) (fun q hq=>hset.2 q hq) rfl rfl rfl _ (zBu id (.mp b ((mPut a u m).map fun p=>(ek p.1,ev p.2))) s.E _ he) ⟨hblk,es',clock',hset.1,r2⟩ rfl;have hrun:(execOp ac.eval o).run P w=.ok .skip {w with heap:=w.heap.setIfInBounds b (.map es' clock')}:=by unfold execOp;rcases ho with ho|ho<;>rw[ho]<;>simp only[e1,ek1,ev1,Sem.run_bind,r1,Result.andThen_ok,Sem.run_pure]
 unfold Oper.wp;rw[hrun];show K (ac.put o.dst undef) _;rw[hd];exact hK _ _ _ _ hR'
theorem z1I{ops:Array Oper}{o:Oper}{rest:List Oper}{s:St}{J:St→Prop}{t:TypeId}{d:Nat}(hg:o.guard=none)(ho:o.op=.makeMap t none)(hd:o.dst=some d)(hk:∀b:Nat,XL P ops rest ⟨(zMH d s.T).set d (.c (.v (.map (some b)))),(d*8,.mp b [])::zO6 d s.E⟩ J):XL P ops (o::rest) s J:=by
 intro B w0 ok0 ok σ a w hR Q hQ;refine wpList_plain hg fun K hK=>?_
 have hnew:New w (w.alloc (.map #[] 0)) ok ok (fun _=>⟨some w.heap.size,0,0⟩) (.c (.v (.map (some w.heap.size)))) [(0,.mp w.heap.size [])] (.map (some w.heap.size)):=by
  have ha:=MapKept.heap_alloc w (.map #[] 0);have hsz:(w.alloc (.map #[] 0)).heap.size=w.heap.size+1:=by show (w.heap.push _).size=_;simp
  refine⟨⟨rfl,rfl,rfl,by omega,fun k hk=>ha.2 k hk⟩,fun _ h=>h,fun _ h=>.inl h,fun g hg=>by have:=hR.core.okL g hg;omega,Rd.v _ rfl,fun id e he=>?_,fun e he=>rfl,fun id e he=>?_,fun id e g he hg=>?_,fun i j e f g hi hj _ _=>?_,fun id e he=>?_⟩
  ·obtain⟨h1,_⟩:=zAK _ _ _ _ he;omega
  ·obtain⟨h1,h2⟩:=zAK _ _ _ _ he;subst h2;exact⟨rfl,#[],0,ha.1,rfl⟩
  ·have e1:w.heap.size=g:=by simpa using hg
   subst e1;exact⟨Nat.le_refl _,fun h=>Nat.lt_irrefl _ (hR.core.okL _ h),by omega⟩
  ·obtain⟨h1,_⟩:=zAK _ _ _ _ hi;obtain⟨h2,_⟩:=zAK _ _ _ _ hj;omega
  ·obtain⟨_,h2⟩:=zAK _ _ _ _ he;subst h2;rfl
 have hrun:(execOp a.eval o).run P w=.ok (.value (.map (some w.heap.size))) (w.alloc (.map #[] 0)):=by unfold execOp;rw[ho];simp[Instr.makeMap]
 have hR':=hR.upd (d:=d) hnew;unfold Oper.wp;rw[hrun];show K (a.put o.dst _) _;rw[hd];exact hK _ _ (hk w.heap.size B w0 ok0 ok (fun id=>if id / 8=d then ⟨some w.heap.size,0,0⟩ else σ id) _ _ hR' Q hQ)
theorem qB4{id:Nat}{ops:Array Oper}{s:St}{J:Exit→St→Prop}(S:Nat→St)(m:List Bool)(ids:List Nat)(h:XL P ops ops.toList s (fun s'=>∃b,s'.keep m ids=S b))(hj:∀b,J .normal (S b)):V P (.region id ops false) s J:=by
 refine zFo fun B w0 ok0 ok σ a w hR Q hQ=>?_
 refine h _ _ _ _ _ _ _ hR Q fun s' a' w' ok' σ' hs hR'=>?_
 obtain⟨b,hs⟩:=hs;exact hQ _ a' w' ok' σ' (hj b) (by rw[←hs];exact hR'.le (zHi m ids s'))
theorem z3z{id:Nat}{ops:Array Oper}{y:Code}{s:St}{J:Exit→St→Prop}(S:Nat→St)(m:List Bool)(ids:List Nat)(h:XL P ops ops.toList s (fun s'=>∃b,s'.keep m ids=S b))(hv:∀b,V P y (S b) J):V P (.seq (.region id ops false) y) s J:=zD7 (qB4 S m ids h hv)
theorem qB9{B:Fr}{w0:World}{ok0 ok:Nat→Prop}{σ:Nat→Loc}{s:St}{a:Act}{w:World}(hR:R B w0 ok0 ok σ s a w)(id id2 j:Nat){b:Nat}{kvs:List (Value×Value)}{cs:List Tr}(he:s.ent id=some (.mp b kvs))(h2:s.ent id2=some (.box cs))(hj:cs[j]?=some (.v (.map (some b)))):
  R B w0 ok0 (fun g=>ok g∨g=b) σ ⟨s.T,setE id2 (.box (cs.set j (.mp kvs))) (rmE id s.E)⟩ a w:=by
 have hup:∀g,ok g→ok g∨g=b:=fun g hg=>.inl hg;obtain⟨hb1,es,clock,hb2,hb3⟩:=hR.core.ent id _ he;have hbb:=hR.core.blk id _ b he hb1;have hne:id2≠id:=fun e=>by rw[e,he]at h2;cases h2
 have hrm:(rmE id s.E).lookup id2=some (.box cs):=by rw[zDN,if_neg hne];exact h2
 have look:∀j e,(St.mk s.T (setE id2 (.box (cs.set j (.mp kvs))) (rmE id s.E))).ent j=some e→True:=fun _ _ _=>trivial;have lk:∀i e,(setE id2 (.box (cs.set j (.mp kvs))) (rmE id s.E)).lookup i=some e→(i=id2∧e=.box (cs.set j (.mp kvs)))∨(i≠id2∧i≠id∧s.ent i=some e):=by
  intro i e hi;rw[zBu id2 _ _ _ hrm]at hi;by_cases h:i=id2
  ·rw[if_pos h]at hi;exact .inl ⟨h,by simpa using hi.symm⟩
  ·rw[if_neg h,zDN]at hi;split at hi
   ·cases hi
   ·rename_i hn;exact .inr ⟨h,hn,hi⟩
 refine⟨⟨hR.core.len,fun g hg=>?_,hR.core.lib.mono hup (fun _ _=>rfl),fun t=>(hR.core.tmp t).mono0 hup fun _ _=>rfl,fun i e hi=>?_,fun i e g hi hg=>?_,fun i k e f g hi hk h1 h3=>?_⟩,hR.defers,hR.below,hR.base,fun g hg=>.inl (hR.old g hg),fun g hg=>?_,fun i e g hi hg=>?_⟩
 ·rcases hg with hg|hg
  ·exact hR.core.okL g hg
  ·rw[hg];exact hbb.2
 ·rcases lk i e hi with⟨rfl,rfl⟩|⟨_,_,h5⟩
  ·obtain⟨g,arr,T,g1,g2,g3⟩:=hR.core.ent _ _ h2;refine⟨g,arr,T,g1,g2,?_⟩;have hr:=g3.mono hup (fun _ _=>rfl:∀g,ok g→w.heap[g]?=w.heap[g]?);obtain⟨u,hu1,hu2⟩:=g3.get j _ hj;have huv:u=.map (some b):=by cases hu2;rfl
   subst huv;have hnew:Rd (fun g=>ok g∨g=b) w (.mp kvs) (.map (some b)):=by rw[←hb3];exact .mp b es clock (.inr rfl) hb2
   have hset:=hr.set j hnew;have:arr.toList.set j (.map (some b))=arr.toList:=by
    apply List.ext_getElem?;intro q;rw[List.getElem?_set];split
    ·rename_i hq;subst hq;split
     ·exact hu1.symm
     ·rename_i hlt;rw[List.getElem?_eq_none (by omega)]
    ·rfl
   rwa [this]at hset
  ·exact (hR.core.ent i e h5).mono hup (fun _ _=>rfl) fun _ _=>rfl
 ·have key:∃e0,s.ent i=some e0∧i≠id:=by
   rcases lk i e hi with⟨rfl,rfl⟩|⟨_,h4,h5⟩
   ·exact⟨_,h2,hne⟩
   ·exact⟨e,h5,h4⟩
  obtain⟨e0,k1,k2⟩:=key;obtain⟨h3,h4⟩:=hR.core.blk i e0 g k1 hg;refine⟨fun h5=>?_,h4⟩;rcases h5 with h5|h5
  ·exact h3 h5
  ·exact k2 (hR.core.inj _ _ _ _ _ k1 he (by rw[hg,h5]) hb1)
 ·have key:∀i e,(setE id2 (.box (cs.set j (.mp kvs))) (rmE id s.E)).lookup i=some e→∃e0,s.ent i=some e0:=by
   intro i e hi;rcases lk i e hi with⟨rfl,rfl⟩|⟨_,h4,h5⟩
   ·exact⟨_,h2⟩
   ·exact⟨e,h5⟩
  obtain⟨e0,k1⟩:=key i e hi;obtain⟨f0,k2⟩:=key k f hk;exact hR.core.inj i k e0 f0 g k1 k2 h1 h3
 ·rcases hg with hg|hg
  ·exact hR.fresh g hg
  ·have:=hR.own id _ b he hb1;rw[if_neg (fun hc=>by cases hc)]at this;exact .inr (by rw[hg];exact this)
 ·rcases lk i e hi with⟨rfl,rfl⟩|⟨_,_,h5⟩
  ·have h6:B.n g:=hR.own _ _ g h2 hg;exact h6
  ·exact hR.own i e g h5 hg
theorem z4p{c:Code}{s s1:St}{J:Exit→St→Prop}(id id2 j:Nat){b:Nat}{kvs:List (Value×Value)}{cs:List Tr}(he:s.ent id=some (.mp b kvs))(h2:s.ent id2=some (.box cs))(hj:cs[j]?=some (.v (.map (some b))))(hs:(⟨s.T,setE id2 (.box (cs.set j (.mp kvs))) (rmE id s.E)⟩:St)=s1)(h:V P c s1 J):V P c s J:=by subst hs;exact fun _ _ _ _ _ _ _ hR=>h _ _ _ _ _ _ _ (qB9 hR id id2 j he h2 hj)
end
section
variable {P:Program}
theorem z7h{B:Fr}{w0:World}{ok0 ok:Nat→Prop}{σ:Nat→Loc}{s:St}{a:Act}{w:World}(hR:R B w0 ok0 ok σ s a w){id e sz n:Nat}{els:List (List Tr)}(he:s.ent id=some (.arr e sz els))(hn:n≤els.length):
  R B w0 ok0 ok (fun j=>if j=id then ⟨(σ id).blk,n,(σ id).cap⟩ else σ j) ⟨zBs id s.T,setE id (.arr e sz (els.take n)) s.E⟩ a w:=by
 obtain⟨h0,hln,hs,vs,hown,hrd⟩:=hR.core.ent id _ he;have look:=zBu id (.arr e sz (els.take n)) s.E _ he;have lk:∀j f,(St.mk (zBs id s.T) (setE id (.arr e sz (els.take n)) s.E)).ent j=some f→(j=id∧f=.arr e sz (els.take n))∨(j≠id∧s.ent j=some f):=by
  intro j f hj;have h7:(setE id (.arr e sz (els.take n)) s.E).lookup j=some f:=hj;rw[look]at h7;by_cases hji:j=id
  ·rw[if_pos hji]at h7;exact .inl ⟨hji,by simpa using h7.symm⟩
  ·rw[if_neg hji]at h7;exact .inr ⟨hji,h7⟩
 refine⟨⟨by simpa [zFQ] using hR.core.len,hR.core.okL,hR.core.lib,fun t=>?_,fun i f hi=>?_,fun i f g hi hg=>?_,fun i i2 f f2 g hi hi2 h1 h2=>?_⟩,hR.defers,hR.below,hR.base,hR.old,hR.fresh,fun i f g hi hg=>?_⟩
 ·have e0:(St.mk (zBs id s.T) (setE id (.arr e sz (els.take n)) s.E)).get t=(bif (s.get t).mid id then AV.bot else s.get t):=by
   unfold St.get;exact zHG id s.T t
  rw[e0];cases hmm:(s.get t).mid id with
  |true=>trivial
  |false=>exact (hR.core.tmp t).mid id (fun _ h=>h) (fun _ _=>rfl) hmm (fun j hj=>by simp[hj])
 ·rcases lk i f hi with⟨rfl,rfl⟩|⟨h1,h2⟩
  ·simp only[if_true];refine⟨h0,by simp;omega,fun el hel=>hs el (List.mem_of_mem_take hel),vs.take (n*sz),⟨?_,?_⟩,?_⟩
   ·have hl:=hown.1;rw[List.length_take,List.length_take,hl,Nat.min_eq_left hn,Nat.min_eq_left (Nat.mul_le_mul_right _ hn)]
   ·rcases hown.2 with⟨h5,h6⟩|⟨g,cap,cur,h5,h6,h7,h8,h9,h10,h11⟩
    ·left;unfold zF at h5 ⊢;injection h5 with q1 q2 q3;refine⟨?_,by rw[List.length_take];omega⟩;simp only[q1,q3];rw[show n=0 by omega]
    ·right;unfold zF at h5 ⊢;injection h5 with q1 q2 q3;refine⟨g,cap,cur,?_,h6,h7,by rw[List.length_take];omega,h9,h10,?_⟩
     ·simp only[q1,q3,List.length_take,Nat.min_eq_left hn]
     ·rw[List.length_take,Nat.min_eq_left hn,←h11,List.take_take,Nat.min_eq_left (Nat.mul_le_mul_right _ hn)]
   ·have e1:(els.take n).flatten=els.flatten.take (n*sz):=by
     have:=zGS (els.take n) sz (fun el hel=>hs el (List.mem_of_mem_take hel));rw[List.length_take,Nat.min_eq_left hn]at this;have e2:els.flatten=(els.take n).flatten++(els.drop n).flatten:=by rw[←List.flatten_append,List.take_append_drop]
     rw[e2,List.take_left' this]
    rw[e1];exact hrd.take _
  ·simp only[if_neg h1];exact hR.core.ent i f h2
 ·rcases lk i f hi with⟨rfl,rfl⟩|⟨h1,h2⟩
  ·simp only[if_true]at hg;exact hR.core.blk _ _ _ he hg
  ·simp only[if_neg h1]at hg;exact hR.core.blk _ _ _ h2 hg
 ·rcases lk i f hi with⟨a1,_⟩|⟨a1,a2⟩<;>rcases lk i2 f2 hi2 with⟨b1,_⟩|⟨b1,b2⟩
  ·rw[a1,b1]
  ·simp only[a1,if_true]at h1;simp only[if_neg b1]at h2;rw[a1];exact hR.core.inj _ _ _ _ _ he b2 h1 h2
  ·simp only[b1,if_true]at h2;simp only[if_neg a1]at h1;rw[b1];exact hR.core.inj _ _ _ _ _ a2 he h1 h2
  ·simp only[if_neg a1]at h1;simp only[if_neg b1]at h2;exact hR.core.inj _ _ _ _ _ a2 b2 h1 h2
 ·rcases lk i f hi with⟨rfl,rfl⟩|⟨h1,h2⟩
  ·simp only[if_true]at hg;have h7:=hR.own _ _ _ he hg;rw[if_neg (fun hc=>by cases hc)]at h7 ⊢;exact h7
  ·simp only[if_neg h1]at hg;exact hR.own _ _ _ h2 hg
theorem z74{o:Oper}{s:St}{x y:Operand}{t e d id sz:Nat}{n:Int}{els:List (List Tr)}(ht:P.underlying t=some (.slice e))(hsz:(P.info? e).map (·.size)=some sz)(ho:o.op=.slice t x none (some y) none)(hd:o.dst=some d)
  (hx:s.ev x=.ow id) (he:s.ent id=some (.arr e sz els)) (hy:s.ev y=I n) (hn:0≤n∧n≤(els.length:Int)):X P o s ⟨(zBs id s.T).set d (.ow id),setE id (.arr e sz (els.take n.toNat)) s.E⟩:=by
 intro B w0 ok0 ok σ a w hR K Q hK;have h3:=hR.core.ev x;rw[hx]at h3;have h4:a.eval x=zF (σ id):=h3;have h5:a.eval y=.int .i64 n:=hR.core.exact hy;obtain⟨h0,hln,hs,vs,hown,hrd⟩:=hR.core.ent id _ he;have hle:(σ id).n≤(σ id).cap:=by
  rcases hown.2 with⟨hv,hv0⟩|⟨g,cap,cur,hv,_,_,hnc,_⟩
  ·omega
  ·unfold zF at hv;injection hv with _ q1 q2;omega
 have hbounds:∀w,(Instr.sliceBounds true (σ id).n (σ id).cap none (some (.int .i64 n)) none).run P w=.ok (0,n.toNat,(σ id).cap) w:=by intro w;unfold Instr.sliceBounds;simp only[Sem.run_bind,Sem.run_pure,Result.andThen_ok,zIT (P:=P) (k:=.i64) (n:=n) (y:=(σ id).cap) (by omega) (by omega)]
 cases hii:P.info? e with
 |none=>rw[hii]at hsz;cases hsz
 |some i=>
  have hi2:i.size=sz:=by rw[hii]at hsz;simpa using hsz
  have hR2:=z7h hR he (n:=n.toNat) (by omega);have hrun:(execOp a.eval o).run P w=.ok (.value (zF ⟨(σ id).blk,n.toNat,(σ id).cap⟩)) w:=by unfold execOp;rw[ho];unfold zF at h4 ⊢;cases hb:(σ id).blk<;>rw[hb]at h4<;>simp[h4,h5,Instr.sliceAt,Instr.slice,run_underlying ht,hbounds,sizeOf,typeInfo,hii,hi2,Addr.add]
  unfold Oper.wp;rw[hrun];have h6:=hR2.put (d:=d) (av:=.ow id) (v:=zF ⟨(σ id).blk,n.toNat,(σ id).cap⟩) (by show _=zF _;simp);simp only[Oper.upon,hd];exact hK _ _ _ _ h6
theorem z4k{α:Type}{c:α→List Tr}{xs:List α}{o:Oper}{s:St}{x y:Operand}{t e d id sz:Nat}{n:Int}(ht:P.underlying t=some (.slice e))(hsz:(P.info? e).map (·.size)=some sz)(ho:o.op=.slice t x none (some y) none)(hd:o.dst=some d)
  (hx:s.ev x=.ow id) (he:s.ent id=some (.arr e sz (xs.map c))) (hy:s.ev y=I n) (hn:slc xs.length 0 n=some ()):X P o s ⟨(zBs id s.T).set d (.ow id),setE id (.arr e sz ((subl xs 0 n).map c)) s.E⟩:=by
 have h:=zJi hn;have e1:(subl xs 0 n).map c=(xs.map c).take n.toNat:=by unfold subl;rw[show Int.toNat 0=0 from rfl,List.drop_zero,Nat.sub_zero,List.map_take]
 rw[e1];exact z74 ht hsz ho hd hx he hy (by rw[List.length_map];omega)
end
section
variable {P:Program}
theorem V_gen{α:Type}{c:Code}{s:St}{J:Exit→St→Prop}(S:α→St)(g:α)(h0:s=S g)(h:∀g,V P c (S g) J):V P c s J:=by rw[h0];exact h g
theorem z1N{B:Fr}{w0:World}{ok0 ok:Nat→Prop}{σ:Nat→Loc}{s:St}{a:Act}{w:World}(hR:R B w0 ok0 ok σ s a w)(k T sz:Nat)(hk:s.ent k=none)(hz:0<sz):
  R B w0 ok0 ok (fun i=>if i=k then loc0 else σ i) ⟨zBs k s.T,(k,.qarr loc0 T sz [])::s.E⟩ a w:=by
 have lk:∀i e,(St.mk (zBs k s.T) ((k,.qarr loc0 T sz [])::s.E)).ent i=some e→(i=k∧e=.qarr loc0 T sz [])∨(i≠k∧s.ent i=some e):=by
  intro i e hi;unfold St.ent at hi;simp only[List.lookup]at hi;cases hik:(i==k) with
  |true=>rw[hik]at hi;exact .inl ⟨by simpa using hik,by simpa using hi.symm⟩
  |false=>rw[hik]at hi;exact .inr ⟨by simpa using hik,hi⟩
 refine⟨⟨by simpa [zFQ] using hR.core.len,hR.core.okL,hR.core.lib,fun t=>?_,fun i e hi=>?_,fun i e g hi hg=>?_,fun i i2 e f2 g hi hi2 h1 h2=>?_⟩,hR.defers,hR.below,hR.base,hR.old,hR.fresh,fun i e g hi hg=>?_⟩
 ·have e0:(St.mk (zBs k s.T) ((k,.qarr loc0 T sz [])::s.E)).get t=(bif (s.get t).mid k then AV.bot else s.get t):=by
   unfold St.get;exact zHG k s.T t
  rw[e0];cases hm:(s.get t).mid k with
  |true=>trivial
  |false=>exact (hR.core.tmp t).mid k (fun _ h=>h) (fun _ _=>rfl) hm (fun i hi=>by simp[hi])
 ·rcases lk i e hi with⟨rfl,rfl⟩|⟨h1,h2⟩
  ·simp only[if_true];exact⟨rfl,hz,rfl,(by intro el h;cases h),[],World.ownsRow_nil w 0 _ sz,RdL.nil⟩
  ·simp only[if_neg h1];exact hR.core.ent i e h2
 ·rcases lk i e hi with⟨rfl,rfl⟩|⟨h1,h2⟩
  ·simp only[if_true]at hg;cases hg
  ·simp only[if_neg h1]at hg;exact hR.core.blk i e g h2 hg
 ·rcases lk i e hi with⟨a1,_⟩|⟨a1,a2⟩<;>rcases lk i2 f2 hi2 with⟨b1,_⟩|⟨b1,b2⟩
  ·rw[a1,b1]
  ·simp only[a1,if_true]at h1;cases h1
  ·simp only[b1,if_true]at h2;cases h2
  ·simp only[if_neg a1]at h1;simp only[if_neg b1]at h2;exact hR.core.inj _ _ _ _ _ a2 b2 h1 h2
 ·rcases lk i e hi with⟨rfl,rfl⟩|⟨h1,h2⟩
  ·simp only[if_true]at hg;cases hg
  ·simp only[if_neg h1]at hg;exact hR.own i e g h2 hg
theorem z7c{c:Code}{s:St}{J:Exit→St→Prop}(k T sz:Nat)(hk:s.ent k=none)(hz:0<sz)(h:V P c ⟨zBs k s.T,(k,.qarr loc0 T sz [])::s.E⟩ J):V P c s J:=fun _ _ _ _ _ _ _ hR=>h _ _ _ _ _ _ _ (z1N hR k T sz hk hz)
theorem zHq{B:Fr}{w0:World}{ok0 ok:Nat→Prop}{σ:Nat→Loc}{s:St}{a:Act}{w:World}(hR:R B w0 ok0 ok σ s a w){k t:Nat}{e e':Ent}{av:AV}(he:s.ent k=some e)(hok:zAj ok w (σ k) e→zAj ok w (σ k) e')(hp:e'.pin=e.pin)(hav:Rel ok σ w av (a.tmps.getD t undef)):
  R B w0 ok0 ok σ ⟨s.T.set t av,setE k e' s.E⟩ a w:=by
 have look:=zBu k e' s.E e he;have lk:∀i f,(setE k e' s.E).lookup i=some f→(i=k∧f=e')∨(i≠k∧s.ent i=some f):=by
  intro i f hi;rw[look]at hi;by_cases h:i=k
  ·rw[if_pos h]at hi;exact .inl ⟨h,by simpa using hi.symm⟩
  ·rw[if_neg h]at hi;exact .inr ⟨h,hi⟩
 refine⟨⟨by simpa using hR.core.len,hR.core.okL,hR.core.lib,fun u=>?_,fun i f hi=>?_,fun i f g hi hg=>?_,fun i i2 f f2 g hi hi2 h1 h2=>?_⟩,hR.defers,hR.below,hR.base,hR.old,hR.fresh,fun i f g hi hg=>?_⟩
 ·have e0:=zCg s t u av;unfold St.put at e0;have e1:(St.mk (s.T.set t av) (setE k e' s.E)).get u=if t=u∧t<s.T.length then av else s.get u:=e0;rw[e1];split
  ·rename_i h;rw[←h.1];exact hav
  ·exact hR.core.tmp u
 ·rcases lk i f hi with⟨rfl,rfl⟩|⟨h1,h2⟩
  ·exact hok (hR.core.ent _ _ he)
  ·exact hR.core.ent i f h2
 ·rcases lk i f hi with⟨rfl,rfl⟩|⟨h1,h2⟩
  ·exact hR.core.blk _ _ g he hg
  ·exact hR.core.blk i f g h2 hg
 ·have key:∀i f,(setE k e' s.E).lookup i=some f→∃f0,s.ent i=some f0:=by
   intro i f hi;rcases lk i f hi with⟨rfl,_⟩|⟨_,h⟩
   ·exact⟨_,he⟩
   ·exact⟨_,h⟩
  obtain⟨f0,k1⟩:=key i f hi;obtain⟨f3,k2⟩:=key i2 f2 hi2;exact hR.core.inj _ _ _ _ g k1 k2 h1 h2
 ·rcases lk i f hi with⟨rfl,rfl⟩|⟨h1,h2⟩
  ·rw[hp];exact hR.own _ _ g he hg
  ·exact hR.own i f g h2 hg
theorem z4n{ops:Array Oper}{rest:List Oper}{s:St}{J:St→Prop}(t k:Nat){l:Loc}{T sz:Nat}{els:List (List Tr)}(ht:s.get t=.c (.v (zF l)))(hk:s.ent k=some (.qarr l T sz els))(h:XL P ops rest ⟨s.T.set t (.ow k),setE k (.arr T sz els) s.E⟩ J):XL P ops rest s J:=by intro B w0 ok0 ok σ a w hR Q hQ;refine h _ _ _ _ _ _ _ (zHq hR hk (fun h=>h.2) rfl ?_) Q hQ;have h1:=hR.core.tmp t;rw[ht]at h1;have h2:Rd ok w (.v (zF l)) (a.tmps.getD t undef):=h1;have h3:=(hR.core.ent k _ hk).1;show _=zF (σ k);rw[h3];generalize a.tmps.getD t undef=y at h2;cases h2;rfl
theorem z8z{ops:Array Oper}{rest:List Oper}{s:St}{J:St→Prop}(t k:Nat){T sz:Nat}{els:List (List Tr)}(ht:s.get t=.ow k)(hk:s.ent k=some (.arr T sz els))(h:∀l:Loc,XL P ops rest ⟨s.T.set t (.c (.v (zF l))),setE k (.qarr l T sz els) s.E⟩ J):XL P ops rest s J:=by intro B w0 ok0 ok σ a w hR Q hQ;have h1:=hR.core.tmp t;rw[ht]at h1;have h2:a.tmps.getD t undef=zF (σ k):=h1;refine h (σ k) _ _ _ _ _ _ _ (zHq hR hk (fun h=>⟨rfl,h⟩) rfl ?_) Q hQ;rw[h2];exact Rd.v _ rfl
theorem zN1{α:Type}{id:Nat}{ops:Array Oper}{s:St}{J:Exit→St→Prop}(S:α→St)(m:List Bool)(ids:List Nat)(h:XL P ops ops.toList s (fun s'=>∃b,s'.keep m ids=S b))(hj:∀b,J .normal (S b)):V P (.region id ops false) s J:=by
 refine zFo fun B w0 ok0 ok σ a w hR Q hQ=>?_
 refine h _ _ _ _ _ _ _ hR Q fun s' a' w' ok' σ' hs hR'=>?_
 obtain⟨b,hs⟩:=hs;exact hQ _ a' w' ok' σ' (hj b) (by rw[←hs];exact hR'.le (zHi m ids s'))
theorem zEb{α:Type}{id:Nat}{ops:Array Oper}{y:Code}{s:St}{J:Exit→St→Prop}(S:α→St)(m:List Bool)(ids:List Nat)(h:XL P ops ops.toList s (fun s'=>∃b,s'.keep m ids=S b))(hv:∀b,V P y (S b) J):V P (.seq (.region id ops false) y) s J:=zD7 (zN1 S m ids h hv)
theorem qB3{α β γ:Type}{q:α ⊕ β}{c:Code}{s:St}{S:α→γ→St}{J:Exit→St→Prop}(m:List Bool)(ids:List Nat)(h1:V P c s (zNe (fun s'=>∃o,q=.inl o∧∃g,s'.keep m ids=S o g) J))(h2:∀o,q=.inl o→∀g,J .normal (S o g)):V P c s J:=by
 intro B w0 ok0 ok σ a w hR;refine wp_mono (h1 _ _ _ _ _ _ _ hR) ?_
 rintro e a' w' ⟨s',ok',σ',hJ,hR'⟩;cases e with
 |normal=>obtain⟨o,ho,g,hk⟩:∃o,q=.inl o∧∃g,s'.keep m ids=S o g:=hJ;have h3:=h2 o ho g;rw[←hk]at h3;exact⟨_,ok',σ',h3,hR'.le (zHi m ids s')⟩
 |exit id=>exact⟨s',ok',σ',hJ,hR'⟩
 |goto l=>exact⟨s',ok',σ',hJ,hR'⟩
 |ret=>exact⟨s',ok',σ',hJ,hR'⟩
 |panic ch=>exact⟨s',ok',σ',hJ,hR'⟩
 |outgrown=>exact⟨s',ok',σ',hJ,hR'⟩
theorem z7i{B:Fr}{w0:World}{ok0 ok:Nat→Prop}{σ:Nat→Loc}{s:St}{a:Act}{w:World}(hR:R B w0 ok0 ok σ s a w)(k id2 j:Nat){l:Loc}{T sz:Nat}{els:List (List Tr)}{cs:List Tr}(he:s.ent k=some (.qarr l T sz els))(h2:s.ent id2=some (.box cs))(hj:cs[j]?=some (.v (zF l))):
  R B w0 ok0 (fun g=>ok g∨(σ k).blk=some g) σ ⟨s.T,setE id2 (.box (cs.set j (.sl els))) (rmE k s.E)⟩ a w:=by
 have hup:∀g,ok g→ok g∨(σ k).blk=some g:=fun g hg=>.inl hg;have hl:σ k=l:=(hR.core.ent k _ he).1;have hne:id2≠k:=fun e=>by rw[e,he]at h2;cases h2
 have hrm:(rmE k s.E).lookup id2=some (.box cs):=by rw[zDN,if_neg hne];exact h2
 have lk:∀i e,(setE id2 (.box (cs.set j (.sl els))) (rmE k s.E)).lookup i=some e→(i=id2∧e=.box (cs.set j (.sl els)))∨(i≠id2∧i≠k∧s.ent i=some e):=by
  intro i e hi;rw[zBu id2 _ _ _ hrm]at hi;by_cases h:i=id2
  ·rw[if_pos h]at hi;exact .inl ⟨h,by simpa using hi.symm⟩
  ·rw[if_neg h,zDN]at hi;split at hi
   ·cases hi
   ·rename_i hn;exact .inr ⟨h,hn,hi⟩
 -- the row,read
 have hread:Rd (fun g=>ok g∨(σ k).blk=some g) w (.sl els) (zF l):=by
  have hR1:=zHq (t:=s.T.length) (av:=.bot) hR he (fun h=>h.2) (e':=.arr T sz els) rfl trivial;have hk1:(St.mk (s.T.set s.T.length .bot) (setE k (.arr T sz els) s.E)).ent k=some (.arr T sz els):=by have:=zBu k (.arr T sz els) s.E _ he k;rw[if_pos rfl]at this;exact this
  have hle:Le ⟨[],[(k,.arr T sz els)]⟩ ⟨s.T.set s.T.length .bot,setE k (.arr T sz els) s.E⟩:=⟨Nat.zero_le _,fun t=>.inl (by simp[St.get]),fun i e hi=>by
   unfold St.ent at hi;simp only[List.lookup]at hi;split at hi
   ·rename_i hik;have:i=k:=by simpa using hik
    subst this;injection hi with hi;subst hi;exact hk1
   ·cases hi⟩
  have h1:Rel ok σ w (.ow k) (zF (σ k)):=rfl;have h3:=zOB (hR1.le hle).core h1;have e2:zJh ⟨[],[(k,.arr T sz els)]⟩ (.ow k)=.c (.sl els):=by simp[zJh,St.entc,St.ent,List.lookup,Ent.core]
  rw[e2,hl]at h3;have h4:Rel (fun g=>ok g∨(σ k).blk=some g) σ w (.c (.sl els)) (zF l):=by
   refine h3.mono0 (fun g hg=>?_) fun _ _=>rfl;rcases hg with hg|⟨i,e,hi,hg⟩
   ·exact .inl hg
   ·refine .inr ?_
    unfold St.ent at hi;simp only[List.lookup]at hi;split at hi
    ·rename_i hik;have:i=k:=by simpa using hik
     subst this;exact hg
    ·cases hi
  exact h4
 refine⟨⟨hR.core.len,fun g hg=>?_,hR.core.lib.mono hup (fun _ _=>rfl),fun t=>(hR.core.tmp t).mono0 hup fun _ _=>rfl,fun i e hi=>?_,fun i e g hi hg=>?_,fun i i2 e f g hi hk h1 h3=>?_⟩,hR.defers,hR.below,hR.base,fun g hg=>.inl (hR.old g hg),fun g hg=>?_,fun i e g hi hg=>?_⟩
 ·rcases hg with hg|hg
  ·exact hR.core.okL g hg
  ·exact (hR.core.blk k _ g he hg).2
 ·rcases lk i e hi with⟨rfl,rfl⟩|⟨_,_,h5⟩
  ·obtain⟨g,arr,T',g1,g2,g3⟩:=hR.core.ent _ _ h2;refine⟨g,arr,T',g1,g2,?_⟩;have hr:=g3.mono hup (fun _ _=>rfl:∀g,ok g→w.heap[g]?=w.heap[g]?);obtain⟨u,hu1,hu2⟩:=g3.get j _ hj;have huv:u=zF l:=by
    generalize zF l=v at hu2;cases hu2;rfl
   subst huv;have hset:=hr.set j hread;have:arr.toList.set j (zF l)=arr.toList:=by
    apply List.ext_getElem?;intro q;rw[List.getElem?_set];split
    ·rename_i hq;subst hq;split
     ·exact hu1.symm
     ·rename_i hlt;rw[List.getElem?_eq_none (by omega)]
    ·rfl
   rwa [this]at hset
  ·exact (hR.core.ent i e h5).mono hup (fun _ _=>rfl) fun _ _=>rfl
 ·have key:∃e0,s.ent i=some e0∧i≠k:=by
   rcases lk i e hi with⟨rfl,rfl⟩|⟨_,h4,h5⟩
   ·exact⟨_,h2,hne⟩
   ·exact⟨e,h5,h4⟩
  obtain⟨e0,k1,k2⟩:=key;obtain⟨h3,h4⟩:=hR.core.blk i e0 g k1 hg;refine⟨fun h5=>?_,h4⟩;rcases h5 with h5|h5
  ·exact h3 h5
  ·exact k2 (hR.core.inj _ _ _ _ _ k1 he hg h5)
 ·have key:∀i e,(setE id2 (.box (cs.set j (.sl els))) (rmE k s.E)).lookup i=some e→∃e0,s.ent i=some e0:=by
   intro i e hi;rcases lk i e hi with⟨rfl,rfl⟩|⟨_,h4,h5⟩
   ·exact⟨_,h2⟩
   ·exact⟨e,h5⟩
  obtain⟨e0,k1⟩:=key i e hi;obtain⟨f0,k2⟩:=key i2 f hk;exact hR.core.inj i i2 e0 f0 g k1 k2 h1 h3
 ·rcases hg with hg|hg
  ·exact hR.fresh g hg
  ·have:=hR.own k _ g he hg;rw[if_neg (fun hc=>by cases hc)]at this;exact .inr this
 ·rcases lk i e hi with⟨rfl,rfl⟩|⟨_,_,h5⟩
  ·have h6:B.n g:=hR.own _ _ g h2 hg;exact h6
  ·exact hR.own i e g h5 hg
theorem qB5{c:Code}{s s1:St}{J:Exit→St→Prop}(k id2 j:Nat){l:Loc}{T sz:Nat}{els:List (List Tr)}{cs:List Tr}(he:s.ent k=some (.qarr l T sz els))(h2:s.ent id2=some (.box cs))(hj:cs[j]?=some (.v (zF l)))(hs:(⟨s.T,setE id2 (.box (cs.set j (.sl els))) (rmE k s.E)⟩:St)=s1)(h:V P c s1 J):V P c s J:=by subst hs;exact fun _ _ _ _ _ _ _ hR=>h _ _ _ _ _ _ _ (z7i hR k id2 j he h2 hj)
theorem zSg{c:Code}{s s1:St}{J:Exit→St→Prop}(id j:Nat){cs:List Tr}(he:s.ent id=some (.box cs))(hj:cs[j]?=some (.v (.slice none 0 0)))(hs:(⟨s.T,setE id (.box (cs.set j (.sl []))) s.E⟩:St)=s1)(h:V P c s1 J):V P c s J:=by
 subst hs;intro B w0 ok0 ok σ a w hR;have e0:s.T.set s.T.length .bot=s.T:=List.set_eq_of_length_le (Nat.le_refl _);have hR1:=zHq (t:=s.T.length) (av:=.bot) hR he (e':=.box (cs.set j (.sl []))) (fun h=>by
  obtain⟨g,arr,T',g1,g2,g3⟩:=h;refine⟨g,arr,T',g1,g2,?_⟩;obtain⟨u,hu1,hu2⟩:=g3.get j _ hj;have huv:u=.slice none 0 0:=by cases hu2;rfl
  subst huv;have hset:=g3.set j (Rd.nl (ok:=ok) (w:=w) none 0);have:arr.toList.set j (.slice none 0 0)=arr.toList:=by
   apply List.ext_getElem?;intro q;rw[List.getElem?_set];split
   ·rename_i hq;subst hq;split
    ·exact hu1.symm
    ·rename_i hlt;rw[List.getElem?_eq_none (by omega)]
   ·rfl
  rwa [this]at hset) rfl trivial
 rw[e0]at hR1;exact h _ _ _ _ _ _ _ hR1
end
def pFF(x:Nat):Bool:=(x != 45)&&(decide (x<48)||decide (57<x))
theorem z9p:pOf zBk=pFF:=by
 funext x
 unfold pOf pFF zBk;simp only[za,Option.getD_some,jN,zE];have e:((x:Int)==45)=(x==45):=by rw[Bool.eq_iff_iff,beq_iff_eq,beq_iff_eq];omega
 have e1:decide ((x:Int)<48)=decide (x<48):=by rw[decide_eq_decide];omega
 have e2:decide ((57:Int)<(x:Int))=decide (57<x):=by rw[decide_eq_decide];omega
 rw[e,e1,e2];cases h1:(x==45)<;>cases h2:decide (x<48)<;>cases h3:decide (57<x)<;>simp_all [bne]
theorem zY8(x:Nat):pFF x=(((x:Int) != 45)&&(decide ((x:Int)<48)||decide (57<(x:Int)))):=by
 unfold pFF;have e:((x:Int) != 45)=(x != 45):=by rw[Bool.eq_iff_iff,bne_iff_ne,bne_iff_ne];omega
 have e1:decide ((x:Int)<48)=decide (x<48):=by rw[decide_eq_decide];omega
 have e2:decide ((57:Int)<(x:Int))=decide (57<x):=by rw[decide_eq_decide];omega
 rw[e,e1,e2]
theorem z6h(W:World):∃q,W=W.drewN q:=⟨0,rfl⟩
theorem z63(w:World):Go.Proofs.PredAt Tryz.prog 197 #[] (fun x:Nat=>Value.int .i32 (x:Int)) pFF w:=by
 intro W x hb;unfold Go.Proofs.FnGives
 go_enter Tryz.func197,Tryz.ntmps197
 go_wp2
 ·rename_i h
  go_ret
  refine⟨?_,z6h W⟩;rw[zY8,h];rfl
 ·go_ret
  refine⟨?_,z6h W⟩;rw[zY8];rfl
 ·rename_i h1 h2
  go_ret
  refine⟨?_,z6h W⟩;rw[zY8,zd h2,Bool.true_or,Bool.and_true];rfl
theorem zIC{s:ByteArray}{r:List ByteArray}(h:zBX (pOf zBk) s=some r):zC Tryz.prog 196 [.c (.v (.string s)),.c (.v (.func (.func 197) #[] #[]))] (.ow 0) [(0,.arr 9 1 (r.map cStr))]:=by rw[z9p]at h;exact zYX (qW Tryz.func197 (by kernel_rfl) (by kernel_rfl)) z63 h
end Go.Proofs.YtahdjphocippeaaGreatDoor
namespace Go.Proofs.YtahdjphocippeaaGreatDoor
open Go.RowKit Go.Proofs Go.Lib Go.Shelf
set_option maxHeartbeats 2000000
set_option maxRecDepth 100000
theorem z8o(b:Nat)(w:World)(h0:w.cell? ⟨b,0,none⟩=some (.pointer (some ⟨b,0,none⟩))):
  Calls Tryz.prog 59 #[.pointer (some ⟨b,0,none⟩)] w fun e w'=>e=.returned (.tuple #[])∧w'=w:=by
 obtain⟨j,hj,_⟩:=Option.map_eq_some_iff.1 (show (Tryz.prog.info? 76).map (·.size)=some 2 by kernel_rfl);have mixed:Tryz.prog.follows .mixedOrders=true:=by kernel_rfl
 have t72:=Tryz.underlying76;have a72:=Tryz.isAgg76;have z72:=Tryz.sizeOf76;have v72:=Tryz.zeroValue76;have u72:=run_underlying Tryz.underlying76
 have t70:=Tryz.underlying74;have a70:=Tryz.isAgg74;have z70:=Tryz.sizeOf74;have v70:=Tryz.zeroValue74;have u70:=run_underlying Tryz.underlying74
 have t9:=Tryz.underlying9;have a9:=Tryz.isAgg9;have z9:=Tryz.sizeOf9;have v9:=Tryz.zeroValue9;have u9:=run_underlying Tryz.underlying9
 have t4:=Tryz.underlying4;have a4:=Tryz.isAgg4;have z4:=Tryz.sizeOf4;have v4:=Tryz.zeroValue4;have u4:=run_underlying Tryz.underlying4
 have t164:=Tryz.underlying123;have a164:=Tryz.isAgg123;have z164:=Tryz.sizeOf123;have v164:=Tryz.zeroValue123;have u164:=run_underlying Tryz.underlying123
 go_enter Tryz.func59,Tryz.ntmps59
 go_wp2
 rw[Lib.run_neq_ptr_same w _ Tryz.underlying74 hj]
 go_wp2
 go_end0
 exact⟨rfl,rfl⟩
theorem z7F(b:Nat)(w:World)(h0:w.cell? ⟨b,0,none⟩=some (.pointer none))(hsh:w.shape? b=some (76,2))(hfz:w.frozen? ⟨b,0,none⟩=false):
  Calls Tryz.prog 59 #[.pointer (some ⟨b,0,none⟩)] w fun e w'=>e=.returned (.tuple #[])∧w'=w.setCell ⟨b,0,none⟩ (.pointer (some ⟨b,0,none⟩)):=by
 obtain⟨j,hj,hjs⟩:=Option.map_eq_some_iff.1 (show (Tryz.prog.info? 76).map (·.size)=some 2 by kernel_rfl);have mixed:Tryz.prog.follows .mixedOrders=true:=by kernel_rfl
 have t72:=Tryz.underlying76;have a72:=Tryz.isAgg76;have z72:=Tryz.sizeOf76;have v72:=Tryz.zeroValue76;have u72:=run_underlying Tryz.underlying76
 have t70:=Tryz.underlying74;have a70:=Tryz.isAgg74;have z70:=Tryz.sizeOf74;have v70:=Tryz.zeroValue74;have u70:=run_underlying Tryz.underlying74
 have t9:=Tryz.underlying9;have a9:=Tryz.isAgg9;have z9:=Tryz.sizeOf9;have v9:=Tryz.zeroValue9;have u9:=run_underlying Tryz.underlying9
 have t4:=Tryz.underlying4;have a4:=Tryz.isAgg4;have z4:=Tryz.sizeOf4;have v4:=Tryz.zeroValue4;have u4:=run_underlying Tryz.underlying4
 have t164:=Tryz.underlying123;have a164:=Tryz.isAgg123;have z164:=Tryz.sizeOf123;have v164:=Tryz.zeroValue123;have u164:=run_underlying Tryz.underlying123
 go_enter Tryz.func59,Tryz.ntmps59
 go_wp2
 rw[Lib.run_to_unsafe w ⟨b,0,none⟩ Tryz.underlying74 Tryz.underlying123 hj (by rw[hjs];decide) hsh (Nat.zero_lt_succ 1)];simp only[Result.andThen];rw[Oper.upon_value]
 go_wp2
 rw[run_callFunc_extern Tryz.func87 (by kernel_rfl) (by kernel_rfl) (by kernel_rfl) (e:=Extern.AbiNoEscape.same) (by kernel_rfl)];rw[Lib.run_noEscape];simp only[Result.andThen];rw[Oper.upon_value]
 go_wp2
 rw[Lib.run_from_unsafe w ⟨b,0,none⟩ Tryz.underlying123 Tryz.underlying74 hj hsh (by kernel_rfl)];simp only[Result.andThen];rw[Oper.upon_value]
 go_wp2
 go_end0
 exact⟨rfl,rfl⟩
theorem app2{P:Program}(w:World)(base:Nat)(t u ty e:TypeId)(i:TypeInfo)(ht:P.underlying t=some (.slice e))(hu:P.underlying u=some .string)(hi:P.info? e=some i)(hz:i.zero=some (.int .u8 0))
  (hsize:i.size=1) (hby:i.bytes=1) (v:Value) (n:Nat) (xs:List Value) (hown:w.ownsRow base e 1 v n xs) (s:ByteArray) (h63:n+s.size≤maxLen) (hbytes:n+s.size≤140737488355328) (hbase:base≤w.heap.size):
  ∃v' w',(Builtin.append_ #[t,u] ty #[v,.string s]).run P w=.ok v' w'∧w'.ownsRow base e 1 v' (n+s.size) (xs++strCells s)∧w.grownBy w' v.ownBlock∧(∀g,v'.ownBlock=some g→v.ownBlock=some g∨w.heap.size≤g):=by
 obtain⟨v',w',hr,h2,h3,_⟩:=run_append_own_string (P:=P) w base t u ty e i ht hu hi hz hsize hby v n xs hown s h63 hbytes hbase;refine⟨v',w',hr,h2,h3,?_⟩;have hxl:xs.length=n:=by simpa using hown.1
 have hsmall:n+s.size≤9223372036854775807:=by simp only[maxLen]at h63;omega
 rcases hown.2 with⟨rfl,rfl⟩|⟨g,cap,cur,rfl,hbg,hg,hnc,hcm,hcs,htake⟩
 ·obtain⟨v2,w2,hr2,h5,_,_⟩:=run_append_own_string (P:=P) w w.heap.size t u ty e i ht hu hi hz hsize hby (.slice none 0 0) 0 xs ⟨hown.1,.inl ⟨rfl,rfl⟩⟩ s h63 hbytes (Nat.le_refl _);have:=hr.symm.trans hr2;injection this with e1 e2;subst e1;intro g hg;rcases h5.2 with⟨e3,_⟩|⟨g2,cap,cur,e3,hb,_⟩
  ·rw[e3]at hg;cases hg
  ·rw[e3]at hg;injection hg with hg;exact .inr (hg▸hb)
 ·by_cases hroom:n+s.size≤cap
  ·have hr2:=run_append_room_string (P:=P) w t u ty e i ht hu hi hsize g n cap cur hg s hroom (by omega);have:=hr.symm.trans hr2;injection this with e1 e2;subst e1;exact fun _ h=>.inl h
  ·have holds:∀j u,xs[j]?=some u→w.cell? ((⟨g,0,none⟩:Addr).add j)=some u:=hown.cells (g:=g) rfl
   have hr2:=run_append_grow_string (P:=P) w t u ty e i (.int .u8 0) ht hu hi hz ⟨g,0,none⟩ n cap xs (by rw[hsize];simpa using hxl) holds s (by omega) (by omega) (by rw[hby];exact growslice_fits (by omega) (by omega));have:=hr.symm.trans hr2;injection this with e1 e2;subst e1;intro g2 h;injection h with h;exact .inr (by rw[←h];exact Nat.le_refl _)
theorem z7s{P:Program}{w:World}{ops:Array Oper}{rest:List Oper}{o:Oper}{a:Act}{Q:Exit→Act→World→Prop}(hgd:o.guard=none)(sl x:Operand)(t u:TypeId)
  (ho:o.op=.call {callee:=.builtin .append,args:=#[sl,x],argTypes:=#[t,u]})
  (base:Nat) (e:TypeId) (i:TypeInfo) (ht:P.underlying t=some (.slice e)) (hu:P.underlying u=some .string) (hi:P.info? e=some i) (hz:i.zero=some (.int .u8 0))
  (hsize:i.size=1) (hby:i.bytes=1)
  (v:Value) (n:Nat) (xs:List Value) (hs:a.eval sl=v) (hown:w.ownsRow base e 1 v n xs) (s:ByteArray) (hx:a.eval x=.string s)
  (h63:n+s.size≤maxLen) (hbytes:n+s.size≤140737488355328) (hbase:base≤w.heap.size)
  (h:∀v' w',w'.ownsRow base e 1 v' (n+s.size) (xs++strCells s)→w.grownBy w' v.ownBlock→(∀g,v'.ownBlock=some g→v.ownBlock=some g∨w.heap.size≤g)→wpList P ops Q rest (a.put o.dst v') w'):wpList P ops Q (o::rest) a w:=by
 refine wpList_plain hgd fun K hK=>?_
 obtain⟨v',w',hr,h2,h3,h4⟩:=app2 (P:=P) w base t u o.type e i ht hu hi hz hsize hby v n xs hown s h63 hbytes hbase;unfold Oper.wp execOp;simp only[ho,resolve,invoke,builtin,Sem.run_bind,Sem.run_pure,Result.andThen_ok,List.map_toArray,List.map_cons,zr,hs,hx,hr];exact hK _ _ (h v' w' h2 h3 h4)
structure Bd (B b:Nat) (v:Value) (bs:List Value) (w:World):Prop where
  base:B≤b
  cell:∃p,(p=.pointer none∨p=.pointer (some ⟨b,0,none⟩))∧w.heap[b]?=some (.cells #[p,v] 76 (0,0))
  own:w.ownsRow B 5 1 v bs.length bs
  ne:v.ownBlock≠some b
structure BdW (b:Nat) (v v':Value) (w w':World):Prop where
  os:w'.os=w.os
  tape:w'.tape=w.tape
  output:w'.output=w.output
  size:w.heap.size≤w'.heap.size
  block:∀k,k<w.heap.size→k≠b→v.ownBlock≠some k→w'.heap[k]?=w.heap[k]?
  own:∀g,v'.ownBlock=some g→v.ownBlock=some g∨w.heap.size≤g
theorem Bd.lt{B b:Nat}{v:Value}{bs:List Value}{w:World}(h:Bd B b v bs w):b<w.heap.size:=by
 obtain⟨p,_,h2⟩:=h.cell;rcases Nat.lt_or_ge b w.heap.size with h'|h'
 ·exact h'
 ·simp[Array.getElem?_eq_none h']at h2
theorem z7G{B b:Nat}{v:Value}{bs:List Value}{w:World}(h:Bd B b v bs w):Calls Tryz.prog 59 #[.pointer (some ⟨b,0,none⟩)] w fun e w'=>e=.returned (.tuple #[])∧w'.heap[b]?=some (.cells #[.pointer (some ⟨b,0,none⟩),v] 76 (0,0))∧w'.ownsRow B 5 1 v bs.length bs∧w'.os=w.os∧w'.tape=w.tape∧w'.output=w.output∧w'.heap.size=w.heap.size∧(∀k,k≠b→w'.heap[k]?=w.heap[k]?):=by
 obtain⟨hB,⟨p,hp,hb⟩,hown,hne⟩:=h;have h0:w.cell? ⟨b,0,none⟩=some p:=by simp[World.cell?,hb]
 rcases hp with rfl|rfl
 ·have hA:BuilderAt 76 5 B b (.pointer none) bs w:=⟨hB,v,hb,hown,hne⟩
  refine (z7F b w h0 hA.shape hA.frozen0).mono ?_
  rintro e w' ⟨rfl,rfl⟩;have hlt:b<w.heap.size:=hA.lt;refine⟨rfl,?_,?_,rfl,rfl,rfl,by simp[World.setCell],fun k hk=>Below.heap_setCell _ _ _ _ (fun e=>hk (by simp[e]))⟩
  ·simp[World.setCell,Array.getElem?_modify,hb]
  ·refine hown.kept (row:=some b) ⟨rfl,rfl,rfl,by simp[World.setCell],fun k _ hk=>Below.heap_setCell _ _ _ _ (fun e=>hk (by simp[e]))⟩ ?_
   exact Or.inr hne
 ·refine (z8o b w h0).mono ?_
  rintro e w' ⟨rfl,rfl⟩;exact⟨rfl,hb,hown,rfl,rfl,rfl,rfl,fun _ _=>rfl⟩
theorem z7E{B b:Nat}{v:Value}{bs:List Value}{w:World}(h:Bd B b v bs w)(s:ByteArray)(hlen:bs.length+s.size≤140737488355328)(hBw:B≤w.heap.size):
  Calls Tryz.prog 39 #[.pointer (some ⟨b,0,none⟩),.string s] w fun e w'=>e=.returned (.tuple #[.int .i64 s.size,.nilIface])∧∃v',Bd B b v' (bs++strCells s) w'∧BdW b v v' w w':=by
 have hX:(Tryz.prog.info? 5).map (fun i=>(i.zero,i.size,i.bytes))=some (some (.int .u8 0),1,1):=by kernel_rfl
 obtain⟨i0,hi,hz0,hz1,hz2⟩:=info_parts hX;have mixed:Tryz.prog.follows .mixedOrders=true:=by kernel_rfl
 have t72:=Tryz.underlying76;have a72:=Tryz.isAgg76;have z72:=Tryz.sizeOf76;have v72:=Tryz.zeroValue76;have u72:=run_underlying Tryz.underlying76
 have t70:=Tryz.underlying74;have a70:=Tryz.isAgg74;have z70:=Tryz.sizeOf74;have v70:=Tryz.zeroValue74;have u70:=run_underlying Tryz.underlying74
 have t37:=Tryz.underlying28;have a37:=Tryz.isAgg28;have z37:=Tryz.sizeOf28;have v37:=Tryz.zeroValue28;have u37:=run_underlying Tryz.underlying28
 have t3:=Tryz.underlying3;have a3:=Tryz.isAgg3;have z3:=Tryz.sizeOf3;have v3:=Tryz.zeroValue3;have u3:=run_underlying Tryz.underlying3
 have t9:=Tryz.underlying9;have a9:=Tryz.isAgg9;have z9:=Tryz.sizeOf9;have v9:=Tryz.zeroValue9;have u9:=run_underlying Tryz.underlying9
 have t4:=Tryz.underlying4;have a4:=Tryz.isAgg4;have z4:=Tryz.sizeOf4;have v4:=Tryz.zeroValue4;have u4:=run_underlying Tryz.underlying4
 have t164:=Tryz.underlying123;have a164:=Tryz.isAgg123;have z164:=Tryz.sizeOf123;have v164:=Tryz.zeroValue123;have u164:=run_underlying Tryz.underlying123
 have t5:=Tryz.underlying5;have a5:=Tryz.isAgg5;have z5:=Tryz.sizeOf5;have v5:=Tryz.zeroValue5;have u5:=run_underlying Tryz.underlying5
 have e240:∀args w,(callFunc 59 args).run Tryz.prog w=.ok (.enter 59 args) w:=qW Tryz.func59 (by kernel_rfl) (by kernel_rfl)
 go_enter Tryz.func39,Tryz.ntmps39
 go_wp2_with (go_at_fn 59;refine (z7G h).mono ?_)
 rintro e w1 ⟨rfl,hbk,hown,k1,k2,k3,k4,k5⟩;have hne:=h.ne;have hlt:b<w1.heap.size:=by rw[k4];exact h.lt
 have c0:w1.cell? ⟨b,0,none⟩=some (.pointer (some ⟨b,0,none⟩)):=by rw[Lib.cell_of_heap hbk];rfl
 have c1:w1.cell? ⟨b,1,none⟩=some v:=by rw[Lib.cell_of_heap hbk];rfl
 go_wp2_with (at_builtin;refine z7s rfl _ _ 28 9 rfl B 5 i0 Tryz.underlying28 Tryz.underlying9 hi hz0 hz1 hz2 _ _ _ rfl hown s rfl ?c3 ?c4 ?c5 ?_)
 case c3=>unfold maxLen;omega
 case c4=>omega
 case c5=>omega
 intro v' w2 hown' hgrow hnew;have hb2:w2.heap[b]?=some (.cells #[.pointer (some ⟨b,0,none⟩),v] 76 (0,0)):=by rw[hgrow.block b hlt (fun e=>hne e.symm)];exact hbk
 have d0:w2.cell? ⟨b,0,none⟩=some (.pointer (some ⟨b,0,none⟩)):=by rw[Lib.cell_of_heap hb2];rfl
 have d1:w2.cell? ⟨b,1,none⟩=some v:=by rw[Lib.cell_of_heap hb2];rfl
 have f1:w2.frozen? ⟨b,1,none⟩=false:=Lib.frozen_of_heap hb2 1;obtain⟨ao,n',cap,rfl⟩:∃ao n' cap,v'=.slice ao n' cap:=by
  rcases hown'.2 with⟨hv,_⟩|⟨g,cap,cur,hv,_⟩
  ·exact⟨_,_,_,hv⟩
  ·exact⟨_,_,_,hv⟩
 go_wp2
 go_ret2
 have hown2:w2.ownsRow B 5 1 (.slice ao n' cap) (bs++strCells s).length (bs++strCells s):=by simpa [Lib.strCells_length] using hown'
 have hne2:=ownBlock_ne hown2 hb2 (by decide);refine⟨rfl,.slice ao n' cap,⟨h.base,⟨_,.inr rfl,by simp[World.setCell,Array.getElem?_modify,hb2]⟩,hown2.kept (row:=some b) ⟨rfl,rfl,rfl,by simp[World.setCell],fun k _ hk=>Below.heap_setCell _ _ _ _ (fun e=>hk (by simp[e]))⟩ (Or.inr hne2),hne2⟩,⟨hgrow.os.trans k1,hgrow.tape.trans k2,hgrow.output.trans k3,?_,fun k hk hkb hkv=>?_,fun g hg=>?_⟩⟩
 ·have:=hgrow.size;simp only[World.setCell,Array.size_modify];omega
 ·have e1:(w2.setCell ⟨b,1,none⟩ (.slice ao n' cap)).heap[k]?=w2.heap[k]?:=Below.heap_setCell _ _ _ _ (fun e=>hkb (by simp[e]))
  rw[e1,hgrow.block k (by omega) (fun e=>hkv e.symm),k5 k hkb]
 ·rcases hnew g hg with h1|h1
  ·exact .inl h1
  ·exact .inr (by omega)
end Go.Proofs.YtahdjphocippeaaGreatDoor
namespace Go.Proofs.YtahdjphocippeaaGreatDoor
open Go.RowKit
section
variable (P:Program)
def ybin(op:BinOp):AV→AV→Option AV
 | .c (.v (.int k a)),.c (.v (.int k2 b))=>match decEq k k2 with
  |isTrue _=>(match op with
   | .lss=>some (Bo (ltI a b))
   | .leq=>some (Bo (leI a b))
   | .gtr=>some (Bo (ltI b a))
   | .geq=>some (Bo (leI b a))
   | .eql=>some (Bo (eqI a b))
   | .neq=>some (Bo (!eqI a b))
   |_=>none)
  |isFalse _=>none
 | .c (.v (.string a)),.c (.v (.string b))=>match op with
  | .eql=>some (Bo (a.toList==b.toList))
  | .neq=>some (Bo (!(a.toList==b.toList)))
  |_=>none
 |_,_=>none
def yv(s:St):Op→Option AV
 | .binOp op t x y _=>match ybin op (s.ev x) (s.ev y) with
  |some av=>some av
  |none=>(match s.ev x,s.ev y with
   | .c (.v (.bool a)),.c (.v (.bool b))=>(match P.underlying t with
    |some .bool=>(match op with
     | .eql=>some (Bo (a==b))
     | .neq=>some (Bo (a != b))
     |_=>none)
    |_=>none)
   |_,_=>none)
 | .pick c x y=>match s.ev c with
  | .c (.v (.bool b))=>nbA (bif b then s.ev x else s.ev y)
  |_=>none
 | .call c=>match c with
  |⟨.builtin .len,⟨[x]⟩,⟨[t]⟩⟩=>match P.underlying t,s.ev x with
   |some .string,.c (.v (.string b))=>some (I (b.size:Int))
   |_,_=>none
  |_=>none
 |_=>none
def yo(o:Oper)(s:St):Option St:=match xo P o s with
 |some s'=>some s'
 |none=>match o.dst with
  |some d=>(match yv P s o.op with
   |some av=>some (s.put d av)
   |none=>none)
  |none=>none
def gdt(ops:Array Oper)(j:Nat):Option Nat:=(ops[j]?).bind (·.dst)
def yg(ops:Array Oper)(o:Oper)(s:St):Option Bool:=match o.guard with
 |none=>some true
 |some (j,b)=>match gdt ops j with
  |some t=>match s.get t with
   | .c (.v (.bool c))=>some (bif c then b else !b)
   | .tn=>some false
   |_=>none
  |none=>none
def yr(ops:Array Oper):List Oper→St→Option St
 |[],s=>some s
 |o::os,s=>match yg ops o s with
  |some true=>(match yo P o s with
   |some s'=>yr ops os s'
   |none=>none)
  |some false=>(match o.dst with
   |some d=>yr ops os (s.put d .tn)
   |none=>none)
  |none=>none
def yD(ops:Array Oper)(l:List Oper)(s:St):St:=(yr P ops l s).getD s
def yc(ops:Array Oper)(f:FuncId)(l:List Oper)(s:St):Option (List AV):=match l with
 |o::_=>match yg ops o s,o.dst with
  |some true,some _=>(match o.op with
   | .call ⟨.value (.func g),xs,_⟩=>bif Nat.beq g f then some (evL s xs.toList) else none
   |_=>none)
  |_,_=>none
 |[]=>none
def ycn(ops:Array Oper)(f:FuncId)(n:Nat)(l:List Oper)(s:St):Option (List AV):=match yr P ops (l.take n) s with
 |some s'=>yc ops f (l.drop n) s'
 |none=>none
end
def dstH:List Oper→Nat
 |o::_=>o.dst.getD 0
 |[]=>0
section
variable {P:Program}
theorem z7q{o:Oper}{s:St}{op:BinOp}{t t2:TypeId}{x y:Operand}{av:AV}(ho:o.op=.binOp op t x y t2)(h:ybin op (s.ev x) (s.ev y)=some av):Y0 P o s av:=by
 generalize hx:s.ev x=a at h;generalize hy:s.ev y=b at h;unfold ybin at h;split at h
 ·split at h
  ·rename_i hk _;subst hk;cases op<;>simp only[Option.some.injEq,reduceCtorEq]at h<;>subst h<;>
    first|exact zJD ho hx hy|exact z2d ho hx hy|exact zH2 ho hx hy|exact z2e ho hx hy|exact zQ9 ho hx hy|exact zVA ho hx hy
  ·cases h
 ·cases op<;>simp only[Option.some.injEq,reduceCtorEq]at h<;>subst h<;>
   first|exact z2f ho hx hy|exact qBM ho hx hy
 ·cases h
theorem z9K{o:Oper}{s:St}{av:AV}(h:yv P s o.op=some av):Y0 P o s av:=by
 unfold yv at h;split at h
 ·rename_i ho;split at h
  ·rename_i hb;cases h;exact z7q ho hb
  ·split at h
   ·rename_i hx hy;split at h
    ·rename_i hu;split at h
     ·cases h;exact qBY hu ho hx hy
     ·cases h;exact qBN hu ho hx hy
     ·cases h
    ·cases h
   ·cases h
 ·rename_i ho;split at h
  ·rename_i b hc;obtain⟨h1,h2⟩:=zYb h;rw[←h1];exact zOv ho hc
  ·cases h
 ·rename_i ho;split at h
  ·rename_i x t;split at h
   ·rename_i b hu hx;cases h;exact zZY hu ho hx
   ·cases h
  ·cases h
 ·cases h
theorem z4u{o:Oper}{s s':St}(h:yo P o s=some s'):X P o s s':=by
 unfold yo at h;split at h
 ·rename_i h1;cases h;exact xo_ok h1
 ·split at h
  ·rename_i d hd;split at h
   ·rename_i hv;cases h;exact zB hd (z9K hv)
   ·cases h
  ·cases h
theorem zGn{ops:Array Oper}{o:Oper}{rest:List Oper}{s s':St}{J:St→Prop}(hg:yg ops o s=some true)(h:X P o s s')(hk:XL P ops rest s' J):XL P ops (o::rest) s J:=by
 unfold yg at hg;split at hg
 ·rename_i h1;exact zW h1 h hk
 ·rename_i j b h1;split at hg
  ·rename_i t ht;split at hg
   ·rename_i c hc;have e:c=b:=by cases c<;>cases b<;>simp_all
    subst e;exact z3v h1 ht hc h hk
   ·cases hg
   ·cases hg
  ·cases hg
theorem z2p{ops:Array Oper}{o:Oper}{rest:List Oper}{s:St}{d:Nat}{J:St→Prop}(hg:yg ops o s=some false)(hd:o.dst=some d)(hk:XL P ops rest (s.put d .tn) J):XL P ops (o::rest) s J:=by
 unfold yg at hg;split at hg
 ·cases hg
 ·rename_i j b h1;split at hg
  ·rename_i t ht;split at hg
   ·rename_i c hc;exact zZ1 h1 ht hc (by cases c<;>cases b<;>simp_all) hd hk
   ·rename_i hc;exact qK h1 ht hc hd hk
   ·cases hg
  ·cases hg
theorem zZe{ops:Array Oper}{J:St→Prop}(rest:List Oper):∀(l:List Oper)(s s':St),yr P ops l s=some s'→XL P ops rest s' J→XL P ops (l++rest) s J
 |[],s,s',h,hk=>by cases h;exact hk
 |o::os,s,s',h,hk=>by
  unfold yr at h;split at h
  ·rename_i hg;split at h
   ·rename_i s1 h1;exact zGn hg (z4u h1) (zZe rest os s1 s' h hk)
   ·cases h
  ·rename_i hg;split at h
   ·rename_i d hd;exact z2p hg hd (zZe rest os _ s' h hk)
   ·cases h
  ·cases h
theorem YR(n:Nat){ops:Array Oper}{rest:List Oper}{s:St}{J:St→Prop}(hk:XL P ops (rest.drop n) (yD P ops (rest.take n) s) J)(h:(yr P ops (rest.take n) s).isSome=true:=by kernel_rfl):XL P ops rest s J:=by
 cases hx:yr P ops (rest.take n) s with
 |none=>rw[hx]at h;cases h
 |some s'=>
  have e:yD P ops (rest.take n) s=s':=by unfold yD;rw[hx];rfl
  rw[e]at hk;have:=zZe (ops:=ops) (J:=J) (rest.drop n) (rest.take n) s s' hx hk
  rwa [List.take_append_drop]at this
theorem YF{ops:Array Oper}{rest:List Oper}{s:St}{K:St→Prop}(hk:K (yD P ops rest s))(h:(yr P ops rest s).isSome=true:=by kernel_rfl):XL P ops rest s K:=by
 cases hx:yr P ops rest s with
 |none=>rw[hx]at h;cases h
 |some s'=>
  have e:yD P ops rest s=s':=by unfold yD;rw[hx];rfl
  rw[e]at hk;have:=zZe (ops:=ops) (J:=K) [] rest s s' hx (zJ hk)
  rwa [List.append_nil]at this
theorem YK(n:Nat){ops:Array Oper}{rest:List Oper}{s:St}{J:St→Prop}{f:FuncId}{args:List AV}{av:AV}{ne:List (Nat×Ent)}(hS:zC P f args av ne)(hc:∀args w,(callFunc f args).run P w=.ok (.enter f args) w)
  (hk:XL P ops (rest.drop (n+1)) ((yD P ops (rest.take n) s).upd (dstH (rest.drop n)) av ne) J) (h:ycn P ops f n rest s=some args:=by kernel_rfl):XL P ops rest s J:=by
 unfold ycn at h;split at h
 ·rename_i s' hx;have e:yD P ops (rest.take n) s=s':=by unfold yD;rw[hx];rfl
  rw[e]at hk;unfold yc at h;split at h
  ·rename_i o os hl;split at h
   ·rename_i d hg hd;split at h
    ·rename_i g xs ts ho;cases hb:Nat.beq g f with
     |false=>rw[hb,zc]at h;cases h
     |true=>
      rw[hb,zb]at h;have hgf:=Nat.eq_of_beq_eq_true hb;subst hgf;have e3:rest.drop (n+1)=os:=by rw[←List.drop_drop,hl];rfl
      rw[hl,e3,dstH,hd]at hk;have:=zZe (ops:=ops) (J:=J) (rest.drop n) (rest.take n) s s' hx (by rw[hl];exact zGn hg (zE9 hd (zC2 hS hc ho (by injection h))) hk)
      rwa [List.take_append_drop]at this
    ·cases h
   ·cases h
  ·cases h
 ·cases h
theorem z3L(s:St)(t:Nat):s.put t (s.get t)=s:=by
 cases s with
 |mk T E=>
  simp only[St.put,St.get];congr 1;apply List.ext_getElem?;intro i;rw[List.getElem?_set];by_cases h:t=i
  ·subst h;by_cases h2:t<T.length
   ·simp[h2]
   ·simp[h2]
  ·simp[h]
abbrev CfW(P:Program)(f:FuncId):Prop:=∀args w,(callFunc f args).run P w=.ok (.enter f args) w
theorem cfW{f:FuncId}{fn:Func}(hf:P.funcs[f]?=some fn)(hn:(fn.name== "runtime.NumGoroutine")=false:=by kernel_rfl)(hb:fn.body.isNone=false:=by kernel_rfl):CfW P f:=qW hf hn hb
theorem VS{id:Nat}{ops:Array Oper}{y:Code}{s:St}{J:Exit→St→Prop}(h:XL P ops ops.toList s (fun s'=>V P y s' J)):V P (.seq (.region id ops false) y) s J:=zD7 (zFo h)
theorem VE{id:Nat}{ops:Array Oper}{y:Code}{s:St}{J:Exit→St→Prop}(hv:V P y (yD P ops ops.toList s) J)(h:(yr P ops ops.toList s).isSome=true:=by kernel_rfl):V P (.seq (.region id ops false) y) s J:=VS (YF hv h)
theorem VC{c:Operand}{x y:Code}{s:St}{J:Exit→St→Prop}{b:Bool}{α:Type}{A B:Option α}{r:α}(h:(bif b then A else B)=some r)(ht:A=some r→V P x s J)(hf:B=some r→V P y s J)(hc:s.ev c=.c (.v (.bool b)):=by kernel_rfl):V P (.cond c x y) s J:=
 zD4 hc (fun e=>ht (zCZ h e)) (fun e=>hf (zB7 h e))
theorem VT{rs:List RS}{av:AV}{ne:List (Nat×Ent)}{s:St}(h1:zDh (zHf s rs)=true:=by kernel_rfl)(h2:okSL s rs=true:=by kernel_rfl)(h3:zS2 s rs=(av,ne):=by kernel_rfl):Post rs av ne .ret s:=⟨.inr rfl,h1,h2,h3⟩
def zv(P:Program)(s:St)(op:Op):Option AV:=match xv P s op with
 |some av=>some av
 |none=>yv P s op
theorem zv_ok{o:Oper}{s:St}{av:AV}(h:zv P s o.op=some av):Y0 P o s av:=by
 unfold zv at h;split at h
 ·rename_i hx;cases h;exact z9L hx
 ·exact z9K h
theorem zO7{l:List Oper}{o:Oper}{S:St}(h:yg l.toArray o S=some true):gsat l.toArray o S:=by
 unfold yg at h;split at h
 ·rename_i h1;exact jM h1
 ·rename_i j b h1;split at h
  ·rename_i t ht;split at h
   ·rename_i c hc;have e:c=b:=by cases c<;>cases b<;>simp_all
    subst e;exact z4U h1 ht hc
   ·cases h
   ·cases h
  ·cases h
theorem qAA{l:List Oper}{o:Oper}{S:St}(h:yg l.toArray o S=some false):gun l.toArray o S:=by
 unfold yg at h;split at h
 ·cases h
 ·rename_i j b h1;split at h
  ·rename_i t ht;split at h
   ·rename_i c hc;exact z6Q h1 ht hc (by cases c<;>cases b<;>simp_all)
   ·rename_i hc;exact qAB h1 ht hc
   ·cases h
  ·cases h
section
variable (P)
def er1(l:List Oper)(ms:List Nat)(n1:Nat)(css:List (List Cd))(s0:St)(rs:List Res):Option (List Res):=match l[rs.length]?,css[rs.length]? with
 |some o,some c=>bif Nat.blt rs.length n1 then (match yg l.toArray o (appC c (l.take n1) rs s0),o.dst with
  |some true,some _=>(match zv P (appC c (l.take n1) rs s0) o.op with
   |some av=>bif zHV ms rs.length av 0 (l.take n1) then some (rs++[.r0 av]) else none
   |none=>match xn P (appC c (l.take n1) rs s0) o.op with
    |some r=>bif zIW r.2&&(makes o&&r.1.small) then some (rs++[.r1 r.1 r.2]) else none
    |none=>none)
  |some false,some _=>some (rs++[.r0 .tn])
  |some true,none=>dr2 P l ms n1 css rs (appC c (l.take n1) rs s0) o.op
  |_,_=>none) else none
 |_,_=>none
end
theorem qAt{l:List Oper}{ms:List Nat}{n1:Nat}{css:List (List Cd)}{s0:St}{rs rs':List Res}{K:St→Prop}(h:er1 P l ms n1 css s0 rs=some rs')(hk:DL P l ms n1 css s0 rs' K):DL P l ms n1 css s0 rs K:=by
 unfold er1 at h;split at h
 ·rename_i o c ho hc;cases hb:Nat.blt rs.length n1 with
  |false=>rw[hb,zc]at h;cases h
  |true=>
   rw[hb,zb]at h;split at h
   ·rename_i d hg hd;split at h
    ·rename_i av hv;cases hm:zHV ms rs.length av 0 (l.take n1) with
     |false=>rw[hm,zc]at h;cases h
     |true=>rw[hm,zb]at h;cases h;exact DE_0 rs.length av rfl hb ho hc (zO7 hg) hm (zv_ok hv) d hd hk
    ·split at h
     ·rename_i r hr;cases hm:zIW r.2&&(makes o&&r.1.small) with
      |false=>rw[hm,zc]at h;cases h
      |true=>rw[hm,zb]at h;cases h;rw[zk,zk]at hm;exact DE_1 rs.length rfl hb ho hc (zO7 hg) (z9M hr) hm.1 hm.2.1 hm.2.2 d hd hk
     ·cases h
   ·rename_i d hg hd;cases h;exact DL_t (Nat.le_of_ble_eq_true hb) ho hc (qAA hg) ⟨d,hd⟩ hk
   ·rename_i hg hd;unfold dr2 at h;split at h
    ·rename_i t x y hop;split at h
     ·rename_i id off vc hx hy;split at h
      ·rename_i cs he;cases hm:(zEf P t==some vc.length)&&Nat.ble (off+vc.length) cs.length&&(zQz rs.length id css&&(mkOk ms rs.length id 0 (l.take n1)&&zIv id rs)) with
       |false=>rw[hm,zc]at h;cases h
       |true=>rw[hm,zb]at h;cases h;rw[zk,zk,zk,zk,beq_iff_eq]at hm;exact DE_2 rs.length id _ rfl hb ho hc (zO7 hg) hop hd hx he hy hm.1.1 (Nat.le_of_ble_eq_true hm.1.2) rfl hm.2.1 hm.2.2.1 hm.2.2.2 hk
      ·cases h
     ·cases h
    ·cases h
   ·cases h
 ·cases h
theorem E0(j:Nat){l:List Oper}{ms:List Nat}{n1:Nat}{css:List (List Cd)}{s0:St}{rs:List Res}{K:St→Prop}{o:Oper}{c:List Cd}{av:AV}(ho:l[j]?=some o)(hc:css[j]?=some c)(hY:Y0 P o (appC c (l.take n1) rs s0) av)(h:DL P l ms n1 css s0 (rs++[.r0 av]) K)
  (hj:rs.length=j:=by kernel_rfl) (hlt:Nat.blt j n1=true:=by kernel_rfl) (hg:yg l.toArray o (appC c (l.take n1) rs s0)=some true:=by kernel_rfl) (hm:zHV ms j av 0 (l.take n1)=true:=by kernel_rfl) (hd:o.dst.isSome=true:=by kernel_rfl):DL P l ms n1 css s0 rs K:=by
 obtain⟨d,hd⟩:=Option.isSome_iff_exists.mp hd;exact DE_0 j av hj hlt ho hc (zO7 hg) hm hY d hd h
theorem E1(j:Nat){l:List Oper}{ms:List Nat}{n1:Nat}{css:List (List Cd)}{s0:St}{rs:List Res}{K:St→Prop}{o:Oper}{c:List Cd}{av:AV}{ne:List (Nat×Ent)}(ho:l[j]?=some o)(hc:css[j]?=some c)(hY:Y1 P o (appC c (l.take n1) rs s0) av ne)(h:DL P l ms n1 css s0 (rs++[.r1 av ne]) K)
  (hj:rs.length=j:=by kernel_rfl) (hlt:Nat.blt j n1=true:=by kernel_rfl) (hg:yg l.toArray o (appC c (l.take n1) rs s0)=some true:=by kernel_rfl) (h1:zIW ne=true:=by kernel_rfl) (h2:makes o=true:=by kernel_rfl) (h3:av.small=true:=by kernel_rfl) (hd:o.dst.isSome=true:=by kernel_rfl):DL P l ms n1 css s0 rs K:=by
 obtain⟨d,hd⟩:=Option.isSome_iff_exists.mp hd;exact DE_1 j hj hlt ho hc (zO7 hg) hY h1 h2 h3 d hd h
def idT(t:Nat):List Oper→Nat→Nat
 |[],_=>0
 |o::os,k=>match o.dst with
  |some d=>bif Nat.beq d t then k else idT t os (k+1)
  |none=>idT t os (k+1)
def gtD(l:List Oper)(rs:List Res):Nat:=match l[rs.length]? with
 |some o=>(match o.guard with
  |some (j,_)=>j
  |none=>match o.op with
   | .pick (.tmp t) _ _=>idT t l 0
   |_=>0)
 |none=>0
theorem EQ{c v:Bool}(hc:c=v){l:List Oper}{ms:List Nat}{n1:Nat}{css:List (List Cd)}{s0:St}{rs:List Res}{K:St→Prop}(hk:DL P l ms n1 css s0 (rs.set (gtD l rs) (.r0 (Bo v))) K)(h:rs[gtD l rs]?=some (.r0 (Bo c)):=by kernel_rfl):DL P l ms n1 css s0 rs K:=by
 subst hc;have e:rs.set (gtD l rs) (.r0 (Bo c))=rs:=by
  apply List.ext_getElem?;intro i;rw[List.getElem?_set];by_cases hi:gtD l rs=i
  ·subst hi;have hlt:gtD l rs<rs.length:=by
    by_cases h2:gtD l rs<rs.length
    ·exact h2
    ·rw[List.getElem?_eq_none (by omega)]at h;cases h
   rw[if_pos rfl,if_pos hlt,h]
  ·rw[if_neg hi]
 rwa [e]at hk
end
end Go.Proofs.YtahdjphocippeaaGreatDoor
namespace Go.Proofs.YtahdjphocippeaaGreatDoor
open Go.RowKit Go.Proofs Go.Lib Go.Shelf
set_option maxRecDepth 100000
noncomputable section
def bp(b:Nat):AV:=.c (.v (.pointer (some ⟨b,0,none⟩)))
structure RB (B:Fr) (w0:World) (ok0 ok:Nat→Prop) (σ:Nat→Loc) (b:Nat) (l:List UInt8) (s:St) (a:Act) (w:World):Prop where
  ex:∃w1 ok1 v,R ⟨fun g=>w1.heap.size≤g,fun _=>False⟩ w1 ok1 ok σ s a w∧Bd b b v (byteCells l) w1∧BelowX B w0 w1∧(∀g,b≤g→B.n g)∧(∀g,ok0 g→ok1 g)∧(∀g,ok1 g→ok0 g∨B.n g)∧¬ok1 b∧(∀g,v.ownBlock=some g→¬ok1 g)∧(∀g,ok0 g→g<b)∧(∀p,p∈TB→p.1<b)
theorem Bd.ownlt{B b:Nat}{v:Value}{bs:List Value}{w:World}(h:Bd B b v bs w){g:Nat}(hg:v.ownBlock=some g):B≤g∧g<w.heap.size:=by
 rcases h.own.2 with⟨e,_⟩|⟨g2,cap,cur,e,h1,h2,_⟩
 ·rw[e]at hg;cases hg
 ·rw[e]at hg;injection hg with hg;have hg:g2=g:=hg;subst hg;refine⟨h1,?_⟩;rcases Nat.lt_or_ge g2 w.heap.size with h'|h'
  ·exact h'
  ·simp[Array.getElem?_eq_none h']at h2
theorem Bd.keep{B b:Nat}{v:Value}{bs:List Value}{w w':World}(h:Bd B b v bs w)(hw:∀k,k<w.heap.size→w'.heap[k]?=w.heap[k]?):Bd B b v bs w':=by
 obtain⟨p,p1,p2⟩:=h.cell;refine⟨h.base,⟨p,p1,by rw[hw b h.lt];exact p2⟩,⟨h.own.1,?_⟩,h.ne⟩;rcases h.own.2 with e|⟨g,cap,cur,e,h1,h2,h3⟩
 ·exact .inl e
 ·refine .inr ⟨g,cap,cur,e,h1,?_,h3⟩;rw[hw g (h.ownlt (by rw[e];rfl)).2];exact h2
variable {P:Program}
theorem RB.to{B:Fr}{w0:World}{ok0 ok:Nat→Prop}{σ:Nat→Loc}{b:Nat}{l:List UInt8}{s:St}{a:Act}{w:World}(h:RB B w0 ok0 ok σ b l s a w):R B w0 ok0 ok σ s a w:=by
 obtain⟨w1,ok1,v,hR,hb,h1,h2,h3,h4,h5,h6,h7,h8⟩:=h.ex;have hlt:=hb.lt;have hbe:w1.heap.size≤w.heap.size:=hR.base _ (Nat.le_refl _);refine⟨hR.core,hR.defers,h1.trans ⟨hR.below.os,hR.below.tape,hR.below.output,hR.below.size,fun k hk _=>hR.below.block k (fun hle=>hk (h2 k (by have hle:w1.heap.size≤k:=hle;omega))) (fun x=>x)⟩,fun g hg=>h2 g (by omega),fun g hg=>hR.old g (h3 g hg),fun g hg=>?_,fun id e g he hg=>?_⟩
 ·rcases hR.fresh g hg with h9|h9
  ·exact h4 g h9
  ·have h9:w1.heap.size≤g:=h9;exact .inr (h2 g (by omega))
 ·have:=hR.own id e g he hg;split at this
  ·exact this.elim
  ·rename_i hp;rw[if_neg hp];have this:w1.heap.size≤g:=this;exact h2 g (by omega)
def VB(P:Program)(b:Nat)(l:List UInt8)(c:Code)(s:St)(J:Exit→St→List UInt8→Prop):Prop:=
 ∀B w0 ok0 ok σ a w,RB B w0 ok0 ok σ b l s a w→c.wp P (fun e a' w'=>∃s' ok' σ' l',J e s' l'∧RB B w0 ok0 ok' σ' b l' s' a' w') a w
def z5L(K:St→List UInt8→Prop)(J:Exit→St→List UInt8→Prop):Exit→St→List UInt8→Prop
 | .normal,s,l=>K s l
 |e,s,l=>J e s l
def z06(id:Nat)(K:Exit→St→List UInt8→Prop):Exit→St→List UInt8→Prop
 | .exit id',s,l=>bif Nat.beq id' id then K .normal s l else K (.exit id') s l
 |e,s,l=>K e s l
theorem RB.lift{B:Fr}{w0:World}{ok0 ok:Nat→Prop}{σ:Nat→Loc}{b:Nat}{l:List UInt8}{s:St}{a:Act}{w:World}{c:Code}{K:Exit→St→Prop}(h:RB B w0 ok0 ok σ b l s a w)(hV:V P c s K):c.wp P (fun e a' w'=>∃s' ok' σ',K e s'∧RB B w0 ok0 ok' σ' b l s' a' w') a w:=by
 obtain⟨w1,ok1,v,hR,h1⟩:=h.ex;refine wp_mono (hV _ _ _ _ _ _ _ hR) ?_
 rintro e a' w' ⟨s',ok',σ',hJ,hR'⟩;exact⟨s',ok',σ',hJ,⟨⟨w1,ok1,v,hR',h1⟩⟩⟩
theorem VB_V{b:Nat}{l:List UInt8}{c:Code}{s:St}{J:Exit→St→List UInt8→Prop}(h:V P c s (fun e s'=>J e s' l)):VB P b l c s J:=by
 intro B w0 ok0 ok σ a w hR;refine wp_mono (hR.lift h) ?_
 rintro e a' w' ⟨s',ok',σ',hJ,hR'⟩;exact⟨s',ok',σ',l,hJ,hR'⟩
theorem z7g{b:Nat}{l:List UInt8}{x y:Code}{s:St}{J:Exit→St→List UInt8→Prop}(h:VB P b l x s (z5L (fun s' l'=>VB P b l' y s' J) J)):VB P b l (.seq x y) s J:=by
 intro B w0 ok0 ok σ a w hR;refine wp_seq (wp_mono (h _ _ _ _ _ _ _ hR) ?_);rintro e a' w' ⟨s',ok',σ',l',hJ,hR'⟩;cases e with
 |normal=>exact hJ _ _ _ _ _ _ _ hR'
 |exit id=>exact⟨s',ok',σ',l',hJ,hR'⟩
 |goto l=>exact⟨s',ok',σ',l',hJ,hR'⟩
 |ret=>exact⟨s',ok',σ',l',hJ,hR'⟩
 |panic ch=>exact⟨s',ok',σ',l',hJ,hR'⟩
 |outgrown=>exact⟨s',ok',σ',l',hJ,hR'⟩
theorem zSh{b:Nat}{l:List UInt8}{x y:Code}{s:St}{J:Exit→St→List UInt8→Prop}(h:V P x s (zNe (fun s'=>VB P b l y s' J) (fun e s'=>J e s' l))):VB P b l (.seq x y) s J:=
 z7g (VB_V (z2k h fun e s' hh=>by cases e<;>exact hh))
theorem z1M{b:Nat}{l:List UInt8}{id:Nat}{c:Code}{s:St}{J:Exit→St→List UInt8→Prop}(h:VB P b l c s (z06 id J)):VB P b l (.block id c) s J:=by
 intro B w0 ok0 ok σ a w hR;refine wp_block (wp_mono (h _ _ _ _ _ _ _ hR) ?_);rintro e a' w' ⟨s',ok',σ',l',hJ,hR'⟩;cases e with
 |exit id'=>
  simp only[z06]at hJ;simp only[Exit.inBlock];by_cases hid:id'=id
  ·rw[if_pos hid];have e:Nat.beq id' id=true:=by rw[hid];exact Nat.beq_refl id
   rw[e]at hJ;exact⟨s',ok',σ',l',hJ,hR'⟩
  ·rw[if_neg hid];have e:Nat.beq id' id=false:=by
    cases h:Nat.beq id' id with
    |false=>rfl
    |true=>exact absurd (Nat.eq_of_beq_eq_true h) hid
   rw[e]at hJ;exact⟨s',ok',σ',l',hJ,hR'⟩
 |normal=>exact⟨s',ok',σ',l',hJ,hR'⟩
 |goto l=>exact⟨s',ok',σ',l',hJ,hR'⟩
 |ret=>exact⟨s',ok',σ',l',hJ,hR'⟩
 |panic ch=>exact⟨s',ok',σ',l',hJ,hR'⟩
 |outgrown=>exact⟨s',ok',σ',l',hJ,hR'⟩
theorem z9G{b:Nat}{l:List UInt8}{c:Code}{s:St}{J:Exit→St→List UInt8→Prop}(I:Nat→St→List UInt8→Prop)(n:Nat)(h0:I n s l)(round:∀n s l,I n s l→VB P b l c s (z5L (fun s' l'=>∃m,m<n∧I m s' l') J)):VB P b l (.loop c) s J:=by
 intro B w0 ok0 ok σ a w hR;refine wp_loop_ghost (fun n a w=>∃s l ok σ,I n s l∧RB B w0 ok0 ok σ b l s a w) n ⟨s,l,ok,σ,h0,hR⟩ ?_
 rintro n a w ⟨s,l,ok,σ,hI,hR⟩;refine wp_mono (round n s l hI _ _ _ _ _ _ _ hR) ?_
 rintro e a' w' ⟨s',ok',σ',l',hJ,hR'⟩;cases e with
 |normal=>obtain⟨m,hm,hI'⟩:=hJ;exact⟨m,hm,s',l',ok',σ',hI',hR'⟩
 |exit id=>exact⟨s',ok',σ',l',hJ,hR'⟩
 |goto l=>exact⟨s',ok',σ',l',hJ,hR'⟩
 |ret=>exact⟨s',ok',σ',l',hJ,hR'⟩
 |panic ch=>exact⟨s',ok',σ',l',hJ,hR'⟩
 |outgrown=>exact⟨s',ok',σ',l',hJ,hR'⟩
theorem RB.le{B:Fr}{w0:World}{ok0 ok:Nat→Prop}{σ:Nat→Loc}{b:Nat}{l:List UInt8}{s s':St}{a:Act}{w:World}(h:RB B w0 ok0 ok σ b l s a w)(hl:Le s' s):RB B w0 ok0 ok σ b l s' a w:=by obtain⟨w1,ok1,v,hR,h1⟩:=h.ex;exact⟨⟨w1,ok1,v,hR.le hl,h1⟩⟩
theorem z9H{b:Nat}{l:List UInt8}(m:List Bool)(ids:List Nat){c:Code}{s s':St}{J:Exit→St→List UInt8→Prop}(h:s.keep m ids=s')(hv:VB P b l c s' J):VB P b l c s J:=by subst h;exact fun _ _ _ _ _ _ _ hR=>hv _ _ _ _ _ _ _ (hR.le (zHi m ids s))
theorem z7k{ok:Nat→Prop}{σ:Nat→Loc}{s:St}{a:Act}{w w':World}(hc:Core ok σ s a w)(hdf:a.defers=[])(hE:s.E=[])(hsz:w.heap.size≤w'.heap.size)(hw:∀g,ok g→w'.heap[g]?=w.heap[g]?):R ⟨fun g=>w'.heap.size≤g,fun _=>False⟩ w' ok ok σ s a w':=by
 have hn:∀id,s.ent id=none:=fun id=>by unfold St.ent;rw[hE];rfl
 refine⟨⟨hc.len,fun g hg=>Nat.lt_of_lt_of_le (hc.okL g hg) hsz,hc.lib.mono (fun _ h=>h) hw,fun t=>(hc.tmp t).mono0 (fun _ h=>h) hw,fun id e he=>?_,fun id e g he=>?_,fun x y e f g he=>?_⟩,hdf,BelowX.refl _ _,fun _ h=>h,fun _ h=>h,fun _ h=>.inl h,fun id e g he=>?_⟩
 ·rw[hn]at he;cases he
 ·rw[hn]at he;cases he
 ·rw[hn]at he;cases he
 ·rw[hn]at he;cases he
def VP(P:Program)(b:Nat)(l:List UInt8)(c:Code)(s:St)(J:Exit→St→Prop):Prop:=
 ∀B w0 ok0 ok σ a w,RB B w0 ok0 ok σ b l s a w→c.wp P (fun e a' w'=>∃s' ok' σ',J e s'∧R B w0 ok0 ok' σ' s' a' w') a w
theorem qB7{b:Nat}{l:List UInt8}{x y:Code}{s:St}{J:Exit→St→Prop}(h:VB P b l x s (z5L (fun s' l'=>VP P b l' y s' J) (fun e s' _=>J e s'))):VP P b l (.seq x y) s J:=by
 intro B w0 ok0 ok σ a w hR;refine wp_seq (wp_mono (h _ _ _ _ _ _ _ hR) ?_);rintro e a' w' ⟨s',ok',σ',l',hJ,hR'⟩;cases e with
 |normal=>exact hJ _ _ _ _ _ _ _ hR'
 |exit id=>exact⟨s',ok',σ',hJ,hR'.to⟩
 |goto l=>exact⟨s',ok',σ',hJ,hR'.to⟩
 |ret=>exact⟨s',ok',σ',hJ,hR'.to⟩
 |panic ch=>exact⟨s',ok',σ',hJ,hR'.to⟩
 |outgrown=>exact⟨s',ok',σ',hJ,hR'.to⟩
theorem qB8{id:Nat}{o:Oper}{y:Code}{s:St}{J:Exit→St→Prop}{d:Nat}(ho:o.op=.alloc 76)(hg:o.guard=none)(hd:o.dst=some d)(hz0:(P.info? 76).bind (·.zero)=some (.agg #[.pointer none,.slice none 0 0]))(hE:s.E=[])
  (h:∀b,VP P b [] y (s.put d (bp b)) J):V P (.seq (.region id #[o] false) y) s J:=by
 intro B w0 ok0 ok σ a w hR;obtain⟨i,hi,hz⟩:=Option.bind_eq_some_iff.1 hz0;generalize hzz:(Value.agg #[.pointer none,.slice none 0 0])=z at hz;have hcl:z.cells=#[.pointer none,.slice none 0 0]:=by rw[←hzz];rfl
 refine wp_seq (wp_region_list (wpList_plain hg fun K hK=>?_));have hrun:(execOp a.eval o).run P w=.ok (.value (.pointer (some ⟨w.heap.size,0,none⟩))) (w.alloc (.cells z.cells 76)):=by unfold execOp;rw[ho];simp[Instr.alloc,zeroValue,typeInfo,hi,hz,newVar,newRow]
 unfold Oper.wp;rw[hrun];refine hK _ _ ?_
 rw[hd];have hw:∀g,ok g→(w.alloc (.cells z.cells 76)).heap[g]?=w.heap[g]?:=fun g hg=>Below.heap_alloc _ _ _ (hR.core.okL g hg)
 have hbase:=hR.base;have h1:=(z7k hR.core hR.defers hE (by simp) hw).put (d:=d) (av:=bp w.heap.size) (v:=.pointer (some ⟨w.heap.size,0,none⟩)) (Rd.v _ rfl);refine h w.heap.size _ _ _ _ _ _ _ ⟨⟨_,ok,.slice none 0 0,h1,⟨Nat.le_refl _,⟨.pointer none,.inl rfl,?_⟩,⟨rfl,.inl ⟨rfl,rfl⟩⟩,(by intro h;cases h)⟩,hR.below.trans (BelowX.of ((Below.refl _ _).alloc (Nat.le_refl _) _) hR.base),hbase,hR.old,hR.fresh,fun h=>?_,fun g h=>(by cases h),fun g h=>hR.core.okL g (hR.old g h),fun p hp=>hR.core.okL _ (hR.core.lib p hp).1⟩⟩
 ·rw[hcl];exact heap_alloc_new w _
 ·have:=hR.core.okL _ h;omega
def XLB(P:Program)(b:Nat)(l:List UInt8)(ops:Array Oper)(rest:List Oper)(s:St)(J:St→List UInt8→Prop):Prop:=
 ∀B w0 ok0 ok σ a w,RB B w0 ok0 ok σ b l s a w→∀Q:Exit→Act→World→Prop,(∀s' l' a' w' ok' σ',J s' l'→RB B w0 ok0 ok' σ' b l' s' a' w'→Q .normal a' w')→wpList P ops Q rest a w
theorem z4r{b:Nat}{l:List UInt8}{id:Nat}{ops:Array Oper}{s:St}{J:Exit→St→List UInt8→Prop}(h:XLB P b l ops ops.toList s (J .normal)):VB P b l (.region id ops false) s J:=by intro B w0 ok0 ok σ a w hR;exact wp_region_list (h _ _ _ _ _ _ _ hR _ fun s' l' a' w' ok' σ' hJ hR'=>⟨s',ok',σ',l',hJ,hR'⟩)
theorem z9B{b:Nat}{l:List UInt8}{ops:Array Oper}{s:St}{J:St→List UInt8→Prop}(h:J s l):XLB P b l ops [] s J:=fun _ _ _ _ _ _ _ hR _ hQ=>hQ _ _ _ _ _ _ h hR
theorem z1J{b:Nat}{l:List UInt8}{ops:Array Oper}{o:Oper}{rest:List Oper}{s s':St}{J:St→List UInt8→Prop}(hg:o.guard=none)(h:X P o s s')(hk:XLB P b l ops rest s' J):XLB P b l ops (o::rest) s J:=by
 intro B w0 ok0 ok σ a w hR Q hQ;refine wpList_plain hg fun K hK=>?_
 obtain⟨w1,ok1,v,hR1,hx⟩:=hR.ex;exact h _ _ _ _ _ _ _ hR1 K Q fun a' w' ok' σ' hR'=>hK _ _ (hk _ _ _ _ _ _ _ ⟨⟨w1,ok1,v,hR',hx⟩⟩ Q hQ)
theorem XLB_1{b:Nat}{l:List UInt8}{ops:Array Oper}{o:Oper}{rest:List Oper}{s:St}{J:St→List UInt8→Prop}(hk:XLB P b l ops rest ((yo P o s).getD s) J)(hg:o.guard=none:=by kernel_rfl)(h:(yo P o s).isSome=true:=by kernel_rfl):XLB P b l ops (o::rest) s J:=by
 cases hx:yo P o s with
 |none=>rw[hx]at h;cases h
 |some s'=>rw[hx]at hk;exact z1J hg (z4u hx) hk
theorem z99{ok:Nat→Prop}{σ:Nat→Loc}{w:World}{b:Nat}{y:Value}(h:Rel ok σ w (bp b) y):y=.pointer (some ⟨b,0,none⟩):=by have h2:Rd ok w (.v (.pointer (some ⟨b,0,none⟩))) y:=h;cases h2;rfl
theorem qAr{ok:Nat→Prop}{σ:Nat→Loc}{w:World}{s:qf}{y:Value}(h:Rel ok σ w (.c (.v (.string s))) y):y=.string s:=by have h2:Rd ok w (.v (.string s)) y:=h;cases h2;rfl
theorem z4o{b:Nat}{l:List UInt8}{ops:Array Oper}{o:Oper}{rest:List Oper}{s:St}{J:St→List UInt8→Prop}{d:Nat}{x y:Operand}{ts:Array TypeId}{str:qf}(ho:o.op=.call {callee:=.value (.func 39),args:=#[x,y],argTypes:=ts})(hg:o.guard=none)(hd:o.dst=some d)(hlen:l.length+str.size≤140737488355328)
  (hk:XLB qh b (l++str.data.toList) ops rest (s.put d .bot) J) (hE:s.E=[]:=by kernel_rfl) (hx:s.ev x=bp b:=by kernel_rfl) (hy:s.ev y=.c (.v (.string str)):=by kernel_rfl):XLB qh b l ops (o::rest) s J:=by
 intro B w0 ok0 ok σ a w hR Q hQ;obtain⟨w1,ok1,v,hR1,hb,h1,h2,h3,h4,h5,h6,h7,h8⟩:=hR.ex;have hlt:=hb.lt;have hbase:w1.heap.size≤w.heap.size:=hR1.base _ (Nat.le_refl _);have hold:∀k,k<w1.heap.size→w.heap[k]?=w1.heap[k]?:=fun k hk=>hR1.below.block k (Nat.not_le_of_lt hk) fun x=>x
 have hbw:=hb.keep hold;have hokb:¬ok b:=fun h=>by
  rcases hR1.fresh b h with h9|h9
  ·exact h5 h9
  ·have h9:w1.heap.size≤b:=h9;omega
 have hokv:∀g,v.ownBlock=some g→¬ok g:=fun g hg h=>by
  rcases hR1.fresh g h with h9|h9
  ·exact h6 g hg h9
  ·have h9:w1.heap.size≤g:=h9;have:=(hb.ownlt hg).2;omega
 refine wpList_plain hg fun K hK=>?_
 refine zI8 (qW Tryz.func39 (by kernel_rfl) (by kernel_rfl)) ho ?_
 have e1:a.eval x=.pointer (some ⟨b,0,none⟩):=z99 (hx▸hR1.core.ev x);have e2:a.eval y=.string str:=qAr (hy▸hR1.core.ev y);have e3:((#[x,y]:Array Operand).toList.map a.eval).toArray=#[.pointer (some ⟨b,0,none⟩),.string str]:=by simp[e1,e2]
 rw[e3];refine (z7E hbw str (by rw[byteCells_length];exact hlen) (by omega)).mono ?_
 rintro e w' ⟨rfl,v',hb',hW⟩;refine⟨_,rfl,hK _ _ ?_⟩;rw[hd];have hw:∀g,ok g→w'.heap[g]?=w.heap[g]?:=fun g hg=>hW.block g (hR1.core.okL g hg) (fun e=>hokb (e▸hg)) (fun e=>hokv g e hg)
 have hR2:=(z7k hR1.core hR1.defers hE hW.size hw).put (d:=d) (av:=.bot) (v:=.tuple #[.int .i64 str.size,.nilIface]) trivial;have hbc:byteCells l++strCells str=byteCells (l++str.data.toList):=by rw[byteCells_append,strCells_eq]
 rw[hbc]at hb';have hoks:∀g,ok0 g→ok g:=fun g hg=>hR1.old g (h3 g hg);refine hk _ _ _ _ _ _ _ ⟨⟨w',ok,v',hR2,hb',(h1.trans ⟨hR1.below.os,hR1.below.tape,hR1.below.output,hR1.below.size,fun k hk _=>hold k (Nat.lt_of_not_le fun hle=>hk (h2 k (by omega)))⟩).trans ⟨hW.os,hW.tape,hW.output,hW.size,fun k hk _=>?_⟩,h2,hoks,fun g hg=>?_,hokb,fun g hg h=>?_,h7,h8⟩⟩ Q hQ
 ·have hkb:¬b≤k:=fun hle=>hk (h2 k hle);refine hW.block k (by omega) (by omega) fun e=>?_
  have:=(hb.ownlt e).1;omega
 ·rcases hR1.fresh g hg with h9|h9
  ·exact h4 g h9
  ·have h9:w1.heap.size≤g:=h9;exact .inr (h2 g (by omega))
 ·rcases hW.own g hg with h9|h9
  ·exact hokv g h9 h
  ·have:=hR1.core.okL g h;omega
def XLP(P:Program)(b:Nat)(l:List UInt8)(ops:Array Oper)(rest:List Oper)(s:St)(J:St→Prop):Prop:=
 ∀B w0 ok0 ok σ a w,RB B w0 ok0 ok σ b l s a w→∀Q:Exit→Act→World→Prop,(∀s' a' w' ok' σ',J s'→R B w0 ok0 ok' σ' s' a' w'→Q .normal a' w')→wpList P ops Q rest a w
theorem z9F{b:Nat}{l:List UInt8}{id:Nat}{ops:Array Oper}{y:Code}{s:St}{J:Exit→St→Prop}(h:XLP P b l ops ops.toList s (fun s'=>V P y s' J)):VP P b l (.seq (.region id ops false) y) s J:=by intro B w0 ok0 ok σ a w hR;exact wp_seq (wp_region_list (h _ _ _ _ _ _ _ hR _ fun s' a' w' ok' σ' hJ hR'=>hJ _ _ _ _ _ _ _ hR'))
theorem z2j{b:Nat}{l:List UInt8}{ops:Array Oper}{o:Oper}{rest:List Oper}{s:St}{J:St→Prop}{d:Nat}{x:Operand}{ts:Array TypeId}(ho:o.op=.call {callee:=.value (.func 40),args:=#[x],argTypes:=ts})(hg:o.guard=none)(hd:o.dst=some d)
  (hk:XL qh ops rest ((⟨bt s.T.length [],[]⟩:St).put d (.c (.v (.string ⟨l.toArray⟩)))) J) (hx:s.ev x=bp b:=by kernel_rfl):XLP qh b l ops (o::rest) s J:=by
 intro B w0 ok0 ok σ a w hR Q hQ;obtain⟨w1,ok1,v,hR1,hb,h1,h2,h3,h4,h5,h6,h7,h8⟩:=hR.ex;have hlt:=hb.lt;have hbase:w1.heap.size≤w.heap.size:=hR1.base _ (Nat.le_refl _);have hold:∀k,k<w1.heap.size→w.heap[k]?=w1.heap[k]?:=fun k hk=>hR1.below.block k (Nat.not_le_of_lt hk) fun x=>x
 have hbw:=hb.keep hold;refine wpList_plain hg fun K hK=>?_
 refine zI8 (qW Tryz.func40 (by kernel_rfl) (by kernel_rfl)) ho ?_
 have e1:a.eval x=.pointer (some ⟨b,0,none⟩):=z99 (hx▸hR1.core.ev x);have e3:((#[x]:Array Operand).toList.map a.eval).toArray=#[.pointer (some ⟨b,0,none⟩)]:=by simp[e1]
 rw[e3];have hib:IsBuilder 76 5 b b (byteCells l) w:=by
  obtain⟨p,p1,p2⟩:=hbw.cell;rcases p1 with rfl|rfl
  ·exact .inl ⟨hbw.base,v,p2,hbw.own,hbw.ne⟩
  ·exact .inr ⟨hbw.base,v,p2,hbw.own,hbw.ne⟩
 refine (show Calls qh 40 #[.pointer (some ⟨b,0,none⟩)] w (fun e w'=>e=.returned (.string ⟨l.toArray⟩)∧Below b w w') from Any.Builder_String_any {Tryz.lays156 with} Tryz.Builder_Extra_156 b b l w hib (by omega)).mono ?_
 rintro e w' ⟨rfl,hW⟩;refine⟨_,rfl,hK _ _ ?_⟩;rw[hd];have hRt:=hR.to;have hlb:Lb (fun g=>ok g∧g<b) w':=by intro p hp;obtain⟨k1,cs,T,fz,k2,k3⟩:=hR1.core.lib p hp;exact⟨⟨k1,h8 p hp⟩,cs,T,fz,by rw[hW.block _ (h8 p hp)];exact k2,k3⟩
 have hn:∀id,(⟨bt s.T.length [],[]⟩:St).ent id=none:=fun id=>rfl;have hlen0:∀k:Nat,(bt k []).length=k:=fun k=>by induction k with
  |zero=>rfl
  |succ k ih=>simp only[bt,zg,ih]
 have hget:∀t,(⟨bt s.T.length [],[]⟩:St).get t=.bot:=by
  intro t;have:∀(k t:Nat),((bt k [])[t]?).getD AV.bot=.bot:=by
   intro k
   induction k with
   |zero=>intro t;rfl
   |succ k ih=>
    intro t;cases t with
    |zero=>rfl
    |succ t=>exact ih t
  exact this _ t
 have hC:Core (fun g=>ok g∧g<b) σ (⟨bt s.T.length [],[]⟩:St) a w':=by
  refine⟨?_,fun g hg=>Nat.lt_of_lt_of_le (hR1.core.okL g hg.1) hW.size,hlb,fun t=>?_,fun id e he=>?_,fun id e g he=>?_,fun x y e f g he=>?_⟩
  ·show (bt s.T.length []).length≤_;rw[hlen0];exact hR1.core.len
  ·rw[hget];trivial
  ·rw[hn]at he;cases he
  ·rw[hn]at he;cases he
  ·rw[hn]at he;cases he
 have hR2:R B w0 ok0 (fun g=>ok g∧g<b) σ (⟨bt s.T.length [],[]⟩:St) a w':=by refine⟨hC,hR1.defers,hRt.below.trans ⟨hW.os,hW.tape,hW.output,hW.size,fun k hk _=>hW.block k (Nat.lt_of_not_le fun hle=>hk (h2 k hle))⟩,fun g hg=>hRt.base g (Nat.le_trans hW.size hg),fun g hg=>⟨hRt.old g hg,h7 g hg⟩,fun g hg=>hRt.fresh g hg.1,fun id e g he=>?_⟩;rw[hn]at he;cases he
 exact hk _ _ _ _ _ _ _ (hR2.put (Rd.v _ rfl)) Q hQ
end
end Go.Proofs.YtahdjphocippeaaGreatDoor
namespace Go.Proofs.YtahdjphocippeaaGreatDoor
open Go.RowKit
def amk:List Oper→List Nat→List Nat
 |[],acc=>acc
 |o::os,acc=>amk os (acc++[zQr acc o.after.toList])
def acr(ms:List Nat)(tg:List (Nat×Nat))(i n:Nat):Nat→List Cd
 |0=>[]
 |k+1=>(bif (ms.getD i 0).testBit (n - (k+1)) then Cd.a else bif Nat.beq (n - (k+1)) i||(ms.getD (n - (k+1)) 0).testBit i then Cd.z else match tg.lookup (n - (k+1)) with
  |some id=>Cd.r id
  |none=>Cd.b)::acr ms tg i n k
def acs(ms:List Nat)(tg:List (Nat×Nat))(n:Nat):Nat→List (List Cd)
 |0=>[]
 |k+1=>acr ms tg (n - (k+1)) n n::acs ms tg n k
section
variable {P:Program}
end
inductive OT:Type 1
  |ok
  |bad
  |eq {α:Type} (a b:α) (k:OT)
  |and (a b:OT)
  |all {α:Type} (f:α→OT)
def OT.holds:OT→Prop
 | .ok=>True
 | .bad=>False
 | .eq a b k=>a=b∧k.holds
 | .and a b=>a.holds∧b.holds
 | .all f=>∀x,(f x).holds
def OT.rf:OT→OT
 | .ok=>.ok
 | .bad=>.ok
 | .eq a _ k=>.eq a a k.rf
 | .and a b=>.and a.rf b.rf
 | .all f=>.all fun x=>(f x).rf
theorem OT.of_rf:∀t:OT,t=t.rf→t.holds
 | .ok,_=>trivial
 | .bad,h=>by cases h
 | .eq a b k,h=>by simp only[OT.rf]at h;injection h with _ _ h2 h3;exact⟨(eq_of_heq (heq_of_eq h2)).symm,OT.of_rf k h3⟩
 | .and a b,h=>by simp only[OT.rf]at h;injection h with h1 h2;exact⟨OT.of_rf a h1,OT.of_rf b h2⟩
 | .all f,h=>fun x=>by simp only[OT.rf]at h;injection h with _ h1;exact OT.of_rf (f x) (congrFun h1 x)
section
variable (P:Program)
structure N0 where
  chk:Oper→St→OT
  av:Oper→St→AV
  ok:∀o s,(chk o s).holds→Y0 P o s (av o s)
structure N1 where
  chk:Oper→St→OT
  av:Oper→St→AV
  ne:Oper→St→List (Nat×Ent)
  ok:∀o s,(chk o s).holds→Y1 P o s (av o s) (ne o s)
inductive NN
  |z (F:N0 P)
  |o (F:N1 P)
structure F0 (α:Type) where
  m:Option α
  chk:Oper→St→OT
  av:Oper→St→α→AV
  ok:∀o s y,m=some y→(chk o s).holds→Y0 P o s (av o s y)
structure F1 (α:Type) where
  m:Option α
  chk:Oper→St→OT
  av:Oper→St→α→AV
  ne:Oper→St→α→List (Nat×Ent)
  ok:∀o s y,m=some y→(chk o s).holds→Y1 P o s (av o s y) (ne o s y)
def XS(o:Oper)(s:St)(J:St→Prop):Prop:=
 ∀B w0 ok0 ok σ a w,R B w0 ok0 ok σ s a w→∀K Q,(∀s' a' w' ok' σ',J s'→R B w0 ok0 ok' σ' s' a' w'→K a' w')→o.wp P a w K Q
structure FX (α:Type) where
  m:Option α
  run:Oper→St→α→(St→OT)→OT
  post:(Nat→Loc)→Oper→St→α→Option St:=fun _ _ _ _=>none
  ok:∀o s K y,m=some y→(run o s y K).holds→XS P o s (fun s'=>(K s').holds)
structure HT where
  run:St→(St→OT)→OT
  post:St→Option St:=fun _=>none
  ok:∀s K,(run s K).holds→∀B w0 ok0 ok σ a w,R B w0 ok0 ok σ s a w→∃s' ok' σ',(K s').holds∧R B w0 ok0 ok' σ' s' a w
inductive Lf (ι o β:Type)
  |again (x:ι)
  |done (y:o)
  |early (r:β)
def kpE(E:List (Nat×Ent)):List Nat→List (Nat×Ent)
 |[]=>[]
 |i::is=>match E.lookup i with
  |some e=>(i,e)::kpE E is
  |none=>kpE E is
def St.kp(s:St)(m:List Bool)(ids:List Nat):St:=⟨zHj m s.T,kpE s.E ids⟩
def setL(T:List AV):List (Nat×AV)→List AV
 |[]=>T
 |p::ps=>setL (T.set p.1 p.2) ps
def St.pc(s:St)(m:List Bool)(ids:List Nat)(ts:List (Nat×AV))(es:List (Nat×Ent)):St:=⟨setL (zHj m s.T) ts,kpE (es++s.E) ids⟩
def St.pbx(s:St)(id:Nat)(cs:List Tr):Ent:=match s.ent id with
 |some (.pbox l _)=>.pbox l cs
 |_=>.box cs
def St.locs(s:St)(id:Nat):Loc:=match s.ent id with
 |some (.qarr l _ _ _)=>l
 |_=>loc0
inductive T:Type→Type 1
  |ret {β:Type} (y:β):T β
  |fail {β:Type}:T β
  |n0 {β:Type} (F:N0 P) (t:T β):T β
  |n1 {β:Type} (F:N1 P) (t:T β):T β
  |op0 {α β:Type} (F:F0 P α) (k:α→T β):T β
  |op1 {α β:Type} (F:F1 P α) (k:α→T β):T β
  |opx {α β:Type} (F:FX P α) (k:α→T β):T β
  |op1o {α β:Type} (F:F1 P (Option α)) (a:T β) (k:α→T β):T β
  |cond {β:Type} (c:Bool) (a b:T β):T β
  |selB {β:Type} (c w:Bool) (ns:List (NN P)) (k:Bool→T β):T β
  |lit {β:Type} (t:T β):T β
  |pl {β:Type} (t:T β):T β
  |dn {β:Type} (t:T β):T β
  |frc {β:Type} (v:Int) (k:Int→T β):T β
  |lt {α β:Type} (v:α) (k:α→T β):T β
  |bnd {α β:Type} (m:Option α) (k:α→T β):T β
  |hint {β:Type} (H:HT) (t:T β):T β
  |late {β:Type} (H:HT) (t:T β):T β
  |seqT {α β:Type} (t:T α) (k:α→T β):T β
  |join {α β:Type} (t:T α) (m:List Bool) (ids:List Nat) (S:St→α→(Nat→Loc)→St) (k:α→T β):T β
  |joinC {α β:Type} (t:T α) (m:List Bool) (ids:List Nat) (S:St→α→(Nat→Loc)→St) (k:α→T β):T β
  |joinS {α γ β:Type} (t:T (α ⊕ γ)) (m:List Bool) (ids:List Nat) (S:St→α→(Nat→Loc)→St) (er:γ→β) (k:α→T β):T β
  |loop {ι o β:Type} (L:Nat→ι→Option o) (x:ι) (m:List Bool) (ids:List Nat) (S:St→ι→(Nat→Loc)→St) (body:ι→T (ι ⊕ o)) (mo:List Bool) (ido:List Nat) (So:St→o→(Nat→Loc)→St) (k:o→T β):T β
  |loopS {ι o γ β:Type} (L:Nat→ι→Option (o ⊕ γ)) (x:ι) (m:List Bool) (ids:List Nat) (S:St→ι→(Nat→Loc)→St) (body:ι→T (Lf ι o γ)) (mo:List Bool) (ido:List Nat) (So:St→o→(Nat→Loc)→St) (er:γ→β) (k:o→T β):T β
  |unroll {β:Type} (n:Nat) (t:T β):T β
  |draw {β:Type} (n1:Nat) (tg:List (Nat×Nat)) (t:T β):T β
  |drawL {β:Type} (au:List Nat) (t:T β):T β
  |drawM {β:Type} (gh:Bool) (n1:Nat) (masks:List Nat) (au:List Nat) (t:T β):T β
def lk{ι o:Type}(L:Nat→ι→Option o)(n:Nat):ι ⊕ o→Option o
 | .inl x=>L n x
 | .inr y=>some y
def lkS{ι o γ:Type}(L:Nat→ι→Option (o ⊕ γ))(n:Nat):Lf ι o γ→Option (o ⊕ γ)
 | .again x=>L n x
 | .done y=>some (.inl y)
 | .early r=>some (.inr r)
end
def elS{α γ ρ:Type}(q:α ⊕ γ)(f:α→ρ)(g:γ→ρ):ρ:=match q with
 | .inl y=>f y
 | .inr r=>g r
section
variable {P:Program}
theorem zEa{o:Oper}{s s':St}{J:St→Prop}(h:X P o s s')(hJ:J s'):XS P o s J:=fun _ _ _ _ _ _ _ hR K Q hK=>h _ _ _ _ _ _ _ hR K Q fun a' w' ok' σ' hR'=>hK s' a' w' ok' σ' hJ hR'
theorem z8y{ops:Array Oper}{o:Oper}{rest:List Oper}{s:St}{I J:St→Prop}(hg:o.guard=none)(h:XS P o s I)(hk:∀s',I s'→XL P ops rest s' J):XL P ops (o::rest) s J:=by
 intro B w0 ok0 ok σ a w hR Q hQ;refine wpList_plain hg fun K hK=>?_
 exact h _ _ _ _ _ _ _ hR K Q fun s' a' w' ok' σ' hI hR'=>hK _ _ (hk s' hI _ _ _ _ _ _ _ hR' Q hQ)
theorem z8x{ops:Array Oper}{o:Oper}{rest:List Oper}{s:St}{I J:St→Prop}{j t:Nat}{b:Bool}(hg:o.guard=some (j,b))(ht:(ops[j]?).bind (·.dst)=some t)(hb:s.get t=.c (.v (.bool b)))
  (h:XS P o s I) (hk:∀s',I s'→XL P ops rest s' J):XL P ops (o::rest) s J:=by
 intro B w0 ok0 ok σ a w hR Q hQ;refine wpList_step fun K hK=>?_
 have h1:=hR.core.tmp t;rw[hb]at h1;have h2:a.tmps.getD t undef=.bool b:=by have h3:Rd ok w (.v (.bool b)) (a.tmps.getD t undef):=h1;generalize a.tmps.getD t undef=y at*;cases h3;rfl
 have hw:Region.wanted o (yielded ops a.tmps)=true:=by
  have h4:a.tmps[t]?=some (.bool b):=by
   rw[Array.getD_eq_getD_getElem?]at h2;cases h5:a.tmps[t]? with
   |none=>rw[h5]at h2;simp[undef]at h2
   |some y=>rw[h5]at h2;simpa using h2
  simp only[Region.wanted,hg,yielded,ht,za,h4];simp
 rw[if_pos hw];exact h _ _ _ _ _ _ _ hR K Q fun s' a' w' ok' σ' hI hR'=>hK _ _ (hk s' hI _ _ _ _ _ _ _ hR' Q hQ)
theorem z4v{ops:Array Oper}{o:Oper}{rest:List Oper}{s:St}{I J:St→Prop}(hg:yg ops o s=some true)(h:XS P o s I)(hk:∀s',I s'→XL P ops rest s' J):XL P ops (o::rest) s J:=by
 unfold yg at hg;split at hg
 ·rename_i h1;exact z8y h1 h hk
 ·rename_i j b h1;split at hg
  ·rename_i t ht;split at hg
   ·rename_i c hc;have e:c=b:=by cases c<;>cases b<;>simp_all
    subst e;exact z8x h1 ht hc h hk
   ·cases hg
   ·cases hg
  ·cases hg
def T.den:{β:Type}→T P β→{ρ:Type}→(β→Option ρ)→Option ρ
 |_,.ret y,_,k=>k y
 |_,.fail,_,_=>none
 |_,.n0 _ t,_,k=>t.den k
 |_,.n1 _ t,_,k=>t.den k
 |_,.op0 F f,_,k=>F.m.bind fun y=>(f y).den k
 |_,.op1 F f,_,k=>F.m.bind fun y=>(f y).den k
 |_,.opx F f,_,k=>F.m.bind fun y=>(f y).den k
 |_,.op1o F a f,_,k=>F.m.bind fun y=>elO y (a.den k) fun x=>(f x).den k
 |_,.cond c a b,_,k=>bif c then a.den k else b.den k
 |_,.selB c _ _ f,_,k=>(f c).den k
 |_,.lit t,_,k=>t.den k
 |_,.pl t,_,k=>t.den k
 |_,.dn t,_,k=>t.den k
 |_,.frc v f,_,k=>sI v fun y=>(f y).den k
 |_,.lt v f,_,k=>(some v).bind fun y=>(f y).den k
 |_,.bnd m f,_,k=>m.bind fun y=>(f y).den k
 |_,.hint _ t,_,k=>t.den k
 |_,.late _ t,_,k=>t.den k
 |_,.seqT t f,_,k=>(t.den some).bind fun y=>(f y).den k
 |_,.join t _ _ _ f,_,k=>(t.den some).bind fun y=>(f y).den k
 |_,.joinC t _ _ _ f,_,k=>t.den fun y=>(f y).den k
 |_,.joinS t _ _ _ er f,_,k=>(t.den some).bind fun q=>elS q (fun y=>(f y).den k) fun r=>k (er r)
 |_,.loop L x _ _ _ _ _ _ _ f,_,k=>(L FU x).bind fun y=>(f y).den k
 |_,.loopS L x _ _ _ _ _ _ _ er f,_,k=>(L FU x).bind fun q=>elS q (fun y=>(f y).den k) fun r=>k (er r)
 |_,.unroll _ t,_,k=>t.den k
 |_,.draw _ _ t,_,k=>t.den k
 |_,.drawL _ t,_,k=>t.den k
 |_,.drawM _ _ _ _ t,_,k=>t.den k
def sqT{α β:Type}(t:T P α)(k:α→T P β):T P β:=match t with
 | .ret a=>k a
 | .fail=>.fail
 | .n0 F t=>.n0 F (.seqT t k)
 | .n1 F t=>.n1 F (.seqT t k)
 | .op0 F f=>.op0 F fun y=>.seqT (f y) k
 | .op1 F f=>.op1 F fun y=>.seqT (f y) k
 | .opx F f=>.opx F fun y=>.seqT (f y) k
 | .cond c a b=>.cond c (.seqT a k) (.seqT b k)
 | .selB c w ns f=>.selB c w ns fun b=>.seqT (f b) k
 | .lit t=>.lit (.seqT t k)
 | .pl t=>.pl (.seqT t k)
 | .dn t=>.dn (.seqT t k)
 | .frc v f=>.frc v fun y=>.seqT (f y) k
 | .lt v f=>.lt v fun y=>.seqT (f y) k
 | .bnd m f=>.bnd m fun y=>.seqT (f y) k
 | .hint H t=>.hint H (.seqT t k)
 | .late H t=>.late H (.seqT t k)
 | .seqT t f=>.seqT t fun a=>.seqT (f a) k
 |t=>.seqT t k
theorem z8l{α ρ:Type}(v:Int)(f:Int→Option α)(g:α→Option ρ):(sI v f).bind g=sI v fun y=>(f y).bind g:=by rw[zI,zI]
theorem zXz{α β ρ:Type}(t:T P α)(k:α→T P β)(κ:β→Option ρ):(sqT t k).den κ=(t.den some).bind fun a=>(k a).den κ:=by
 cases t with
 |cond c a b=>cases c<;>rfl
 |op0 F f=>exact (Option.bind_assoc F.m _ _).symm
 |op1 F f=>exact (Option.bind_assoc F.m _ _).symm
 |opx F f=>exact (Option.bind_assoc F.m _ _).symm
 |bnd m f=>exact (Option.bind_assoc m _ _).symm
 |frc v f=>exact (z8l v _ _).symm
 |seqT t f=>exact (Option.bind_assoc (t.den some) _ _).symm
 |_=>rfl
end
section
variable (P:Program)
def wv(s:St)(o:Oper):Bool:=match o.op with
 | .indexAddr _ x (.tmp _)=>(match s.ev x with
  | .pt _ _=>false
  |_=>true)
 | .load _ x=>(match s.ev x with
  | .po _ _ _ _=>false
  |_=>true)
 | .assign (.const (.slice none 0 0))=>false
 |_=>true
def wo(o:Oper)(s:St):Option St:=bif wv s o then yo P o s else none
def dsl(ops:Array Oper)(o:Oper):Option Nat:=match o.guard with
 |some (j,_)=>gdt ops j
 |none=>match o.op with
  | .pick (.tmp t) _ _=>some t
  |_=>none
def ersO(kn:List Nat):Option Nat→List Nat
 |some d=>kn.erase d
 |none=>kn
def z0W{β:Type}:List (NN P)→T P β→T P β
 |[],t=>t
 | .z F::ns,t=>.n0 F (z0W ns t)
 | .o F::ns,t=>.n1 F (z0W ns t)
def opn{β:Type}(t:T P β)(kn:List Nat):Option Nat→Option (Nat×Bool×T P β×T P β)
 |some d=>bif kn.elem d then none else (match t with
  | .cond c a b=>some (d,c,a,b)
  | .selB c w ns f=>some (d,c,z0W P (bif w then ns else []) (f true),z0W P (bif w then [] else ns) (f false))
  |_=>none)
 |none=>none
def zQj{β:Type}(t:T P β)(kn:List Nat):Option Nat→T P β×List Nat
 |some d=>bif kn.elem d then (t,kn) else (match t with
  | .lit t'=>(t',d::kn)
  |_=>(t,kn))
 |none=>(t,kn)
def dtn(s:St):Option Nat→Option Nat
 |some d=>(match s.get d with
  | .tn=>none
  |_=>some d)
 |none=>none
def mtX{α:Type}(m:List Bool)(ids:List Nat)(S:St→α→(Nat→Loc)→St)(s:St):T P α→List Nat→St→OT:=fun t' _ s'=>match t' with
 | .ret a=>.eq (s'.kp m ids) (S s a s'.locs) .ok
 |_=>.bad
def goX:Nat→{β:Type}→T P β→List Nat→Array Oper→List Oper→St→(T P β→List Nat→St→OT)→OT
 |0,_,_,_,_,_,_,_=>.bad
 |n+1,β,t,kn,ops,rest,s,K=>match t with
  | .fail=>.ok
  | .hint H t'=>H.run s fun s'=>goX n t' kn ops rest s' K
  | .frc v k=>goX n (k v) kn ops rest s K
  | .lt v k=>goX n (k v) kn ops rest s K
  | .bnd _ k=>.all fun y=>goX n (k y) kn ops rest s K
  | .seqT t1 k=>goX n (sqT t1 k) kn ops rest s K
  | .joinC (.unroll d t1) m ids S f=>.and (goX n t1 kn ops (rest.take d) s (mtX P m ids S s)) (.all fun a=>.all fun γ=>goX n (f a) [] ops (rest.drop d) (S s a γ) K)
  |t=>match rest with
   |[]=>K t kn s
   |o::os=>match opn P t kn (dtn s (dsl ops o)) with
    |some (d,c,a,b)=>.eq (s.get d) (Bo c) (.and (goX n a (d::kn) ops rest (s.put d (Bo true)) K) (goX n b (d::kn) ops rest (s.put d (Bo false)) K))
    |none=>match zQj P t kn (dtn s (dsl ops o)) with
     |(t,kn)=>match yg ops o s with
      |some true=>(match wo P o s with
       |some s'=>goX n t (ersO kn o.dst) ops os s' K
       |none=>match t with
        | .n0 F t'=>(match o.dst with
         |some d=>.and (F.chk o s) (goX n t' (kn.erase d) ops os (s.put d (F.av o s)) K)
         |none=>.bad)
        | .n1 F t'=>(match o.dst with
         |some d=>.and (F.chk o s) (goX n t' (kn.erase d) ops os (s.upd d (F.av o s) (F.ne o s)) K)
         |none=>.bad)
        | .op0 F k=>(match o.dst with
         |some d=>.and (F.chk o s) (.all fun y=>goX n (k y) (kn.erase d) ops os (s.put d (F.av o s y)) K)
         |none=>.bad)
        | .op1 F k=>(match o.dst with
         |some d=>.and (F.chk o s) (.all fun y=>goX n (k y) (kn.erase d) ops os (s.upd d (F.av o s y) (F.ne o s y)) K)
         |none=>.bad)
        | .late H t'=>H.run s fun s'=>goX n t' kn ops (o::os) s' K
        | .op1o F a k=>(match o.dst with
         |some d=>.and (F.chk o s) (.and (goX n a (kn.erase d) ops os (s.upd d (F.av o s none) (F.ne o s none)) K) (.all fun y=>goX n (k y) (kn.erase d) ops os (s.upd d (F.av o s (some y)) (F.ne o s (some y))) K))
         |none=>.bad)
        | .opx F k=>.all fun y=>F.run o s y fun s'=>goX n (k y) (ersO kn o.dst) ops os s' K
        |_=>.bad)
      |some false=>(match o.dst with
       |some d=>goX n t (kn.erase d) ops os (s.put d .tn) K
       |none=>.bad)
      |none=>.bad
end
section
variable {P:Program}
theorem z9A{ops:Array Oper}{rest:List Oper}{s:St}{J:St→Prop}{d:Nat}{c:Bool}(h:s.get d=Bo c)(h1:c=true→XL P ops rest (s.put d (Bo true)) J)(h2:c=false→XL P ops rest (s.put d (Bo false)) J):XL P ops rest s J:=by
 cases c with
 |true=>have h1:=h1 rfl;rw[←h,z3L]at h1;exact h1
 |false=>have h2:=h2 rfl;rw[←h,z3L]at h2;exact h2
theorem zUC(E:List (Nat×Ent)):∀(ids:List Nat)(id:Nat)(e:Ent),(kpE E ids).lookup id=some e→E.lookup id=some e
 |[],id,e,h=>by simp[kpE]at h
 |i::is,id,e,h=>by
  unfold kpE at h;split at h
  ·rename_i f hf;simp only[List.lookup]at h;split at h
   ·rename_i hq;have:id=i:=by simpa using hq
    subst this;rw[hf];exact h
   ·exact zUC E is id e h
  ·exact zUC E is id e h
theorem zXI(m:List Bool)(ids:List Nat)(s:St):Le (s.kp m ids) s:=
 ⟨zQA m s.T,fun t=>zQB m s.T t,fun id e h=>zUC s.E ids id e h⟩
theorem qB1(m:List Bool)(ids:List Nat){ops:Array Oper}{rest:List Oper}{s s1:St}{J:St→Prop}(h:s.kp m ids=s1)(hT:XL P ops rest s1 J):XL P ops rest s J:=by subst h;intro B w0 ok0 ok σ a w hR Q hQ;exact hT _ _ _ _ _ _ _ (hR.le (zXI m ids s)) Q hQ
theorem z1L(m:List Bool)(ids:List Nat){c:Code}{s s1:St}{J:Exit→St→Prop}(h:s.kp m ids=s1)(hv:V P c s1 J):V P c s J:=by subst h;exact V_le (zXI m ids s) hv
theorem z3x{H:HT}{s:St}{K:St→OT}(h:(H.run s K).holds){ops:Array Oper}{rest:List Oper}{J:St→Prop}(hk:∀s',(K s').holds→XL P ops rest s' J):XL P ops rest s J:=by intro B w0 ok0 ok σ a w hR Q hQ;obtain⟨s',ok',σ',h1,h2⟩:=H.ok s K h _ _ _ _ _ _ _ hR;exact hk s' h1 _ _ _ _ _ _ _ h2 Q hQ
theorem z7d{H:HT}{s:St}{K:St→OT}(h:(H.run s K).holds){c:Code}{J:Exit→St→Prop}(hk:∀s',(K s').holds→V P c s' J):V P c s J:=by intro B w0 ok0 ok σ a w hR;obtain⟨s',ok',σ',h1,h2⟩:=H.ok s K h _ _ _ _ _ _ _ hR;exact hk s' h1 _ _ _ _ _ _ _ h2
theorem z9N{o:Oper}{s s':St}(h:wo P o s=some s'):X P o s s':=by
 unfold wo at h;cases hb:wv s o with
 |false=>rw[hb,zc]at h;cases h
 |true=>rw[hb,zb]at h;exact z4u h
theorem zKp{β ρ:Type}(k:β→Option ρ)(t:T P β):∀ns:List (NN P),(z0W P ns t).den k=t.den k
 |[]=>rfl
 | .z _::ns=>zKp k t ns
 | .o _::ns=>zKp k t ns
theorem zTr{β ρ:Type}{t:T P β}{kn:List Nat}{q:Option Nat}{d:Nat}{c:Bool}{a b:T P β}(h:opn P t kn q=some (d,c,a,b))(k:β→Option ρ):t.den k=bif c then a.den k else b.den k:=by
 unfold opn at h;split at h
 ·rename_i d0;cases hb:kn.elem d0 with
  |true=>rw[hb,zb]at h;cases h
  |false=>
   rw[hb,zc]at h;split at h
   ·injection h with h;injection h with h1 h;injection h with h2 h;injection h with h3 h4;subst h2 h3 h4;rfl
   ·injection h with h;injection h with h1 h;injection h with h2 h;injection h with h3 h4;subst h2 h3 h4;rename_i c w ns f;cases c
    ·exact (zKp k (f false) _).symm
    ·exact (zKp k (f true) _).symm
   ·cases h
 ·cases h
theorem zPR{β ρ:Type}(t:T P β)(kn:List Nat)(q:Option Nat)(k:β→Option ρ):(zQj P t kn q).1.den k=t.den k:=by
 unfold zQj;split
 ·rename_i d0;cases hb:kn.elem d0 with
  |true=>rfl
  |false=>rw[zc];split<;>rfl
 ·rfl
theorem zUV{β ρ:Type}{c:Bool}{x y:Option ρ}{r:ρ}(h:(bif c then x else y)=some r):(c=true→x=some r)∧(c=false→y=some r):=by
 cases c with
 |true=>exact⟨fun _=>h,fun h=>by cases h⟩
 |false=>exact⟨fun h=>(by cases h),fun _=>h⟩
theorem z5h{o:Oper}{a:Act}{w:World}{K:Act→World→Prop}{Q Q':Exit→Act→World→Prop}(h1:∀ch a w,Q (.panic ch) a w→Q' (.panic ch) a w)(h2:LetsOut Q→LetsOut Q')(hh:o.wp P a w K Q):o.wp P a w K Q':=by
 unfold Oper.wp at*;generalize (execOp a.eval o).run P w=r at*;cases r with
 |ok n w'=>
  cases n<;>simp only[Oper.upon]at hh ⊢<;>first|exact hh|exact Calls.mono hh (fun e w'' he=>by cases e<;>first|exact he|exact h1 _ _ _ he|exact h2 he)
 |halt x w'=>cases x<;>simp only[Oper.upon]at hh ⊢<;>first|exact hh|exact h1 _ _ _ hh
theorem qB2{ops:Array Oper}{r1 r2:List Oper}{s:St}{J1 J:St→Prop}(h1:XL P ops r1 s J1)(h2:∀s',J1 s'→XL P ops r2 s' J):XL P ops (r1++r2) s J:=by
 intro B w0 ok0 ok σ a w hR Q hQ;have key:∀(l:List Oper)(a:Act)(w:World),wpList P ops (fun e a w=>match e with| .normal=>wpList P ops Q r2 a w|e=>Q e a w) l a w→wpList P ops Q (l++r2) a w:=by
  intro l
  induction l with
  |nil=>exact fun a w h=>h
  |cons o l ih=>
   intro a w h;rw[List.cons_append];unfold wpList at h ⊢;split
   ·rename_i hw;rw[if_pos hw]at h;exact h.imp (fun h=>z5h (fun _ _ _ h=>h) (fun h=>h) (Oper.wp_mono ih h)) (fun h=>⟨h.1,h.2⟩)
   ·rename_i hw;rw[if_neg hw]at h;exact ih _ _ h
 exact key r1 a w (h1 _ _ _ _ _ _ _ hR _ fun s' a' w' ok' σ' hJ hR'=>h2 s' hJ _ _ _ _ _ _ _ hR' Q hQ)
theorem z9u{α ρ:Type}{m:List Bool}{ids:List Nat}{S:St→α→(Nat→Loc)→St}{s:St}{t':T P α}{kn:List Nat}{s':St}(h:(mtX P m ids S s t' kn s').holds){κ:α→Option ρ}{r:ρ}(hd:t'.den κ=some r):∃a,s'.kp m ids=S s a s'.locs∧κ a=some r:=by
 unfold mtX at h;split at h
 ·rename_i a;exact⟨a,h.1,hd⟩
 ·exact h.elim
theorem zD3:∀(n:Nat){β:Type}(t:T P β)(kn:List Nat)(ops:Array Oper)(rest:List Oper)(s:St)(K:T P β→List Nat→St→OT),(goX P n t kn ops rest s K).holds→
  ∀{ρ:Type}(k:β→Option ρ)(r:ρ),t.den k=some r→∀J:St→Prop,(∀t' kn' s',(K t' kn' s').holds→T.den t' k=some r→J s')→XL P ops rest s J
 |0,_,_,_,_,_,_,_,h=>h.elim
 |n+1,β,t,kn,ops,rest,s,K,h=>by
  intro k r hd J hJ;unfold goX at h;split at h
  ·cases hd
  ·rename_i H t';exact z3x h fun s' hs=>zD3 n t' kn ops rest s' K hs k r hd J hJ
  ·rename_i v f;have hd:sI v (fun y=>(f y).den k)=some r:=hd;rw[zI]at hd;exact zD3 n (f v) kn ops rest s K h k r hd J hJ
  ·rename_i v f;exact zD3 n (f v) kn ops rest s K h k r hd J hJ
  ·rename_i m f;obtain⟨y,_,h2⟩:=zT (show m.bind (fun y=>(f y).den k)=some r from hd);exact zD3 n (f y) kn ops rest s K (h y) k r h2 J hJ
  ·rename_i t1 f;exact zD3 n (sqT t1 f) kn ops rest s K h k r (by rw[zXz];exact hd) J hJ
  ·rename_i d t1 m ids S f;have h1:t1.den (fun y=>(f y).den k)=some r:=hd;rw[←List.take_append_drop d rest];refine qB2 (J1:=fun s'=>∃a,s'.kp m ids=S s a s'.locs∧(f a).den k=some r) (zD3 n t1 kn ops (rest.take d) s _ h.1 _ r h1 _ fun t' kn' s' hK ht'=>z9u hK ht') ?_
   rintro s' ⟨a,hs,ha⟩;exact qB1 m ids hs (zD3 n (f a) [] ops (rest.drop d) _ K (h.2 a _) k r ha J hJ)
  ·split at h
   ·exact zJ (hJ _ _ _ h hd)
   ·rename_i o os;split at h
    ·rename_i d c a b hq;rw[zTr hq k]at hd;obtain⟨ha,hb⟩:=zUV (β:=β) hd;exact z9A h.1 (fun hc=>zD3 n a _ ops (o::os) _ K h.2.1 k r (ha hc) J hJ) (fun hc=>zD3 n b _ ops (o::os) _ K h.2.2 k r (hb hc) J hJ)
    ·rename_i hnn;have hd:(zQj P t kn (dtn s (dsl ops o))).1.den k=some r:=by rw[zPR];exact hd
     split at h;rename_i t2 kn2 hu;rw[hu]at hd;have hd:t2.den k=some r:=hd;split at h
     ·rename_i hg;split at h
      ·rename_i s' hs;exact zGn hg (z9N hs) (zD3 n _ _ ops os s' K h k r hd J hJ)
      ·split at h
       ·rename_i F t' hd;split at h
        ·rename_i d hdst;exact zGn hg (zB hdst (F.ok o s h.1)) (zD3 n t' _ ops os _ K h.2 k r hd J hJ)
        ·exact h.elim
       ·rename_i F t' hd;split at h
        ·rename_i d hdst;exact zGn hg (zE9 hdst (F.ok o s h.1)) (zD3 n t' _ ops os _ K h.2 k r hd J hJ)
        ·exact h.elim
       ·rename_i F f hd;split at h
        ·rename_i d hdst;obtain⟨y,h1,h2⟩:=zT (show F.m.bind (fun y=>(f y).den k)=some r from hd);exact zGn hg (zB hdst (F.ok o s y h1 h.1)) (zD3 n (f y) _ ops os _ K (h.2 y) k r h2 J hJ)
        ·exact h.elim
       ·rename_i F f hd;split at h
        ·rename_i d hdst;obtain⟨y,h1,h2⟩:=zT (show F.m.bind (fun y=>(f y).den k)=some r from hd);exact zGn hg (zE9 hdst (F.ok o s y h1 h.1)) (zD3 n (f y) _ ops os _ K (h.2 y) k r h2 J hJ)
        ·exact h.elim
       ·rename_i H t' hd;exact z3x h fun s' hs=>zD3 n t' _ ops (o::os) s' K hs k r hd J hJ
       ·rename_i F t' f hd;split at h
        ·rename_i d hdst;obtain⟨y,h1,h2⟩:=zT (show F.m.bind (fun y=>elO y (t'.den k) fun x=>(f x).den k)=some r from hd);obtain⟨h3,h4,h5⟩:=h;cases y with
         |none=>exact zGn hg (zE9 hdst (F.ok o s none h1 h3)) (zD3 n t' _ ops os _ K h4 k r h2 J hJ)
         |some y=>exact zGn hg (zE9 hdst (F.ok o s (some y) h1 h3)) (zD3 n (f y) _ ops os _ K (h5 y) k r h2 J hJ)
        ·exact h.elim
       ·rename_i F f hd;obtain⟨y,h1,h2⟩:=zT (show F.m.bind (fun y=>(f y).den k)=some r from hd);exact z4v hg (F.ok o s _ y h1 (h y)) fun s' hs=>zD3 n (f y) _ ops os s' K hs k r h2 J hJ
       ·exact h.elim
     ·rename_i hg;split at h
      ·rename_i d hdst;exact z2p hg hdst (zD3 n _ _ ops os _ K h k r hd J hJ)
      ·exact h.elim
     ·exact h.elim
end
end Go.Proofs.YtahdjphocippeaaGreatDoor
