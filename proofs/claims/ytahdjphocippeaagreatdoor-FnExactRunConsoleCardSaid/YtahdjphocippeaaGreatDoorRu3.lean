/-
  Rules of walks, plain functions and their laws, part 3.
  Conditions: none.
-/
import Derived.Great.BuildSlice
import Derived.Laws.BytesString
import Derived.Laws.Strings2
import Derived.Laws.Slices
import Derived.Laws.Externs
import Derived.Lib.AtoiTie
import Derived.Test.YtahdjphocippeaaGreatDoorRu2
set_option linter.unusedSimpArgs false
set_option linter.unusedVariables false
namespace Go.Proofs.YtahdjphocippeaaGreatDoor
def upz:Nat→Int→List Int
 |0,_=>[]
 |f+1,y=>y::upz f (y+1)
theorem zWB:∀(f:Nat) (y z:Int),z∈upz f y↔y≤z∧z<y+f
 |0,y,z=>by simp[upz]
 |f+1,y,z=>by
  rw[upz,zl,zWB f (y+1) z];push_cast;omega
theorem z1o:∀(f:Nat) (y:Int),(upz f y).Pairwise (·<·)
 |0,y=>List.Pairwise.nil
 |f+1,y=>by
  rw[upz,List.pairwise_cons];refine⟨fun z hz=>?_,z1o f (y+1)⟩;have:=(zWB f (y+1) z).1 hz;omega
theorem zUx:∀(f:Nat) (y:Int),(upz f y).length=f
 |0,y=>rfl
 |f+1,y=>by rw[upz,zg,zUx f (y+1)]
theorem z4e {a b c:Int} (ha:1≤a) (haM:a≤1000000):zC4 (a,b,c)=some (decide (zBh a b c)):=by rw[zZV];exact zHl ha haM
def cfR (d a b:Int):Int×Int×Int:=(a,b,Int.tdiv (b*b - d) (4*a))
def okR (d:Int) (f:Int×Int×Int):Bool:=eqI (f.2.1*f.2.1 - 4*f.1*f.2.2) d&&decide (zBh f.1 f.2.1 f.2.2)
def rowR (d a:Int) (n:Nat) (b:Int):List (Int×Int×Int):=((upz n b).map (cfR d a)).filter (okR d)
theorem zRY {d a b:Int} {n:Nat} {f:Int×Int×Int} (h:f∈rowR d a n b):f.1=a:=by
 unfold rowR at h;obtain⟨b',_,hb⟩:=List.mem_map.1 (List.mem_filter.1 h).1;rw[←hb];rfl
theorem zZl {x m:Int} (hm:1≤m):(Int.tdiv x m).natAbs≤x.natAbs:=by
 rw[Int.natAbs_tdiv];exact Nat.div_le_self _ _
theorem zIl {d a:Int} (ha1:1≤a) (ha:a≤1000) (hd1:-2000≤d) (hd2:d≤-3):∀(m fu:Nat) (b:Int) (acc:List (Int×Int×Int)),b+m=a+1→-1000≤b→m<fu→acc.length+m≤100000000→
  zB2 a d fu b acc=some (acc++rowR d a m b)
 |m,0,b,acc,_,_,h,_=>by omega
 |0,fu+1,b,acc,hb,hb0,hf,hl=>by
  rw[zB2,qU,ze (by omega),zc];simp[rowR,upz]
 |m+1,fu+1,b,acc,hb,hb0,hf,hl=>by
  rw[zB2,qU,zd (by omega),zb];have b1:=zW (x:=b) (y:=b) (A:=1000) (B:=1000) (by omega) (by omega);have e4:w64 (4*a)=4*a:=zA (by omega);have e5:w64 (w64 (b*b) - d)=b*b - d:=by rw[zX (n:=b*b) (by omega),zX (by omega)]
  have q1:=zZl (x:=b*b - d) (m:=4*a) (by omega);generalize hc:Int.tdiv (b*b - d) (4*a)=c at q1;have b2:=zW (x:=4*a) (y:=c) (A:=4000) (B:=1002000) (by omega) (by omega);have ed:qO (a,b,c)=some (b*b - 4*a*c):=by
   simp only[qO,zO];rw[zX (n:=b*b) (by omega),e4,zX (n:=4*a*c) (by omega),zX (by omega)]
  have ew:w64 (b+1)=b+1:=zA (by omega);have hcf:cfR d a b=(a,b,c):=by unfold cfR;rw[hc]
  rw[e4,nzOk (by omega),e5,hc,zX (n:=c) (by omega)];simp only[za,zO,ed,z4e ha1 (show a≤1000000 by omega),ew];have hrow:rowR d a (m+1) b=(if okR d (a,b,c) then [(a,b,c)] else [])++rowR d a m (b+1):=by
   unfold rowR;rw[upz,List.map_cons,List.filter_cons,hcf];cases okR d (a,b,c)<;>simp
  rw[hrow];unfold okR;dsimp only;cases h1:eqI (b*b - 4*a*c) d with
  |true=>
   rw[zb];simp only[za,Bool.true_and];cases h2:decide (zBh a b c) with
   |true=>
    rw[zb,zBJ (by simp;omega)];simp only[za];rw[zIl ha1 ha hd1 hd2 m fu (b+1) _ (by omega) (by omega) (by omega) (by simp;omega)];simp
   |false=>
    rw[zc];rw[zIl ha1 ha hd1 hd2 m fu (b+1) _ (by omega) (by omega) (by omega) (by omega)];simp
  |false=>
   rw[zc];simp only[za,Bool.false_and,zc];rw[zIl ha1 ha hd1 hd2 m fu (b+1) _ (by omega) (by omega) (by omega) (by omega)];simp
theorem zHa {a b:Int} (h0:0≤a) (h:a≤b):a*a≤b*b:=Int.mul_le_mul h h h0 (by omega)
theorem zSX {d:Int} (hd1:-2000≤d) (hd2:d≤-3):∀(m fu:Nat) (a:Int) (acc:List (Int×Int×Int)),1≤a→a+m=27→m<fu→(acc.length:Int)≤1000*a→
  ∃L,zBu d fu a acc=some (acc++L)∧(L.length:Int)+1000*a≤28000∧(∀f,f∈L↔a≤f.1∧3*f.1*f.1≤-d∧f∈rowR d f.1 (2*f.1).toNat (1 - f.1))∧∃asq:List Int,asq.Pairwise (·<·)∧(∀x∈asq,a≤x∧x≤26)∧L=asq.flatMap fun a=>rowR d a (2*a).toNat (1 - a)
 |m,0,a,acc,_,_,h,_=>by omega
 |m,fu+1,a,acc,ha,hm,hf,hl=>by
  have b1:=zW (x:=3*a) (y:=a) (A:=81) (B:=27) (by omega) (by omega);have e1:w64 (w64 (3*a)*a)=3*a*a:=by rw[zA (n:=3*a) (by omega),zX (by omega)]
  have e2:w64 (0 - d)=-d:=by rw[zA (by omega)];omega
  rw[zBu,e1,e2,qU];by_cases h:3*a*a≤-d
  ·have ha2:a≤26:=by
    rcases Int.lt_or_le 26 a with h2|h2
    ·have h3:=zHa (a:=27) (b:=a) (by omega) (by omega);have e:3*a*a=3*(a*a):=by grind
     omega
    ·exact h2
   obtain⟨m',rfl⟩:∃m',m=m'+1:=⟨m - 1,by omega⟩
   have hF:=FUge;rw[zd h,zb,zA (n:=1 - a) (by omega),zA (n:=a+1) (by omega)];simp only[zO];rw[zIl ha (by omega) hd1 hd2 (2*a).toNat FU (1 - a) acc (by omega) (by omega) (by omega) (by omega)];simp only[za];have hrl:(rowR d a (2*a).toNat (1 - a)).length≤(2*a).toNat:=by
    unfold rowR;refine Nat.le_trans (List.length_filter_le _ _) ?_
    rw[List.length_map,zUx];exact Nat.le_refl _
   obtain⟨L,k1,k2,k3,asq,k4,k5,k6⟩:=zSX hd1 hd2 m' fu (a+1) (acc++rowR d a (2*a).toNat (1 - a)) (by omega) (by omega) (by omega) (by rw[zf];omega);refine⟨rowR d a (2*a).toNat (1 - a)++L,by rw[k1,zu],by rw[zf];omega,fun f=>?_,a::asq,?_,?_,?_⟩
   ·rw[List.mem_append,k3];constructor
    ·rintro (h1|⟨h1,h2,h3⟩)
     ·rw[zRY h1];exact⟨Int.le_refl _,h,h1⟩
     ·exact⟨by omega,h2,h3⟩
    ·rintro⟨h1,h2,h3⟩;by_cases hfa:f.1=a
     ·rw[hfa]at h3;exact .inl h3
     ·exact .inr ⟨by omega,h2,h3⟩
   ·rw[List.pairwise_cons];exact⟨fun x hx=>by have:=k5 x hx;omega,k4⟩
   ·intro x hx;rcases List.mem_cons.1 hx with e|e
    ·omega
    ·have:=k5 x e;omega
   ·rw[List.flatMap_cons,k6]
  ·rw[ze h,zc];refine⟨[],by simp,by simp;omega,fun f=>?_,[],List.Pairwise.nil,fun x hx=>(by cases hx),rfl⟩;refine⟨fun hf=>(by cases hf),fun hf=>?_⟩;obtain⟨h1,h2,h3⟩:=hf
   exfalso
   have h4:=zHa (a:=a) (b:=f.1) (by omega) h1;have e3:3*a*a=3*(a*a):=by grind
   have e4:3*f.1*f.1=3*(f.1*f.1):=by grind
   omega
theorem zXK:∀(k n:Nat) (a b:Int),0≤a→0≤b→b.natAbs<2 ^k→2*k+1≤n→∃r,zAn n a b=some r∧r.natAbs=Int.gcd a b∧0≤r
 |k,0,a,b,_,_,_,hn=>by omega
 |0,n+1,a,b,ha,hb0,hb,hn=>by
  have:b=0:=by simp at hb;omega
  subst this;unfold zAn;rw[zDM];exact⟨a,rfl,by simp,ha⟩
 |k+1,n+1,a,b,ha,hb0,hb,hn=>by
  unfold zAn;by_cases h0:b=0
  ·subst h0;rw[zDM];exact⟨a,rfl,by simp,ha⟩
  ·rw[zDp h0,zF3 h0];simp only[zi,zb,za,zO];rw[←zJ8 a b]
   match n,hn with
   |n+1,hn=>
    unfold zAn;by_cases h1:a.tmod b=0
    ·rw[h1,zDM];exact⟨b,rfl,by simp,hb0⟩
    ·rw[zDp h1,zF3 h1];simp only[zi,zb,za,zO];rw[←zJ8 b (a.tmod b)];refine zXK k n _ _ (Int.tmod_nonneg _ ha) (Int.tmod_nonneg _ hb0) ?_ (by omega)
     rw[Int.natAbs_tmod];have h2:(a.tmod b).natAbs<b.natAbs:=by rw[Int.natAbs_tmod];exact Nat.mod_lt _ (by omega)
     exact z0S k (by omega) h2 hb
theorem zXJ {a b:Int} (ha:a.natAbs≤9223372036854775806) (hb:b.natAbs≤9223372036854775806):zAZ a b=some (Int.gcd a b:Int):=by
 obtain⟨r,h1,h2,h3⟩:=zXK 64 FU (a.natAbs:Int) (b.natAbs:Int) (by omega) (by omega) (by omega) (zWn 129 (by decide));rw[zKO]at h2;simp only[zAZ,zLt ha,zLt hb,za,h1];congr 1;omega
theorem zL7 {a b c:Int} (ha:inN a=true) (hb:inN b=true) (hc:inN c=true):jO (a,b,c)=some (Int.gcd a (Int.gcd b c):Int):=by
 rw[zBI]at ha hb hc;have h:=zWI (a:=a) (b:=b) (M:=1000000) (by omega) (by omega);simp only[jO,zXJ (a:=a) (b:=b) (by omega) (by omega),za];rw[zXJ (by omega) (by omega),za];congr 2;unfold Int.gcd;simp[Nat.gcd_assoc]
theorem zIn {l:List (Int×Int×Int)} (hl:l.length≤1000000) (hb:∀f∈l,inN f.1=true∧inN f.2.1=true∧inN f.2.2=true):∀(fu k:Nat) (acc:List (Int×Int×Int)),k≤l.length→l.length - k<fu→acc.length≤k→
  zAY l fu (k:Int) acc=some (acc++(l.drop k).filter fun f=>eqI (Int.gcd f.1 (Int.gcd f.2.1 f.2.2):Int) 1)
 |0,k,acc,h0,h1,h2=>by omega
 |fu+1,k,acc,h0,h1,h2=>by
  rw[zAY];rw[zG];by_cases hk:k<l.length
  ·obtain⟨c1,c2,c3⟩:=hb (l[k]) (zx hk);have hcon:jO l[k]=some (Int.gcd l[k].1 (Int.gcd l[k].2.1 l[k].2.2):Int):=zL7 c1 c2 c3;rw[zd (by omega),zb,zBw hk,List.drop_eq_getElem_cons hk,List.filter_cons];simp only[za,hcon,zO,zCK (show k<1000000000 by omega)];cases eqI (Int.gcd l[k].1 (Int.gcd l[k].2.1 l[k].2.2):Int) 1 with
   |true=>
    rw[zb,zBJ (by simp;omega),if_pos rfl];simp only[za];rw[zIn hl hb fu (k+1) _ (by omega) (by omega) (by simp;omega)];simp
   |false=>
    rw[zc,if_neg (by simp)];exact zIn hl hb fu (k+1) acc (by omega) (by omega) (by omega)
  ·rw[ze (by omega),zc,List.drop_eq_nil_of_le (by omega)];simp
def PrR (d:Int) (f:Int×Int×Int):Prop:=1≤f.1∧zBh f.1 f.2.1 f.2.2∧f.2.1*f.2.1 - 4*f.1*f.2.2=d∧Int.gcd f.1 (Int.gcd f.2.1 f.2.2)=1
theorem zVn {a b c d:Int} (ha:1≤a) (h:zBh a b c) (hd:b*b - 4*a*c=d):3*a*a≤-d:=by
 have h1:b*b≤a*a:=by
  obtain⟨⟨h2,h3⟩,_⟩:=h;rcases Int.le_total 0 b with h4|h4
  ·exact zHa h4 h3
  ·have:=zHa (a:=-b) (b:=a) (by omega) (by omega);have e:(-b)*(-b)=b*b:=by grind
   omega
 have h5:a≤c:=by
  obtain⟨_,h6⟩:=h;omega
 have h7:4*a*a≤4*a*c:=zp h5 (by omega);have e:4*a*a=4*(a*a):=by grind
 have e2:3*a*a=3*(a*a):=by grind
 omega
theorem zVl {d:Int} {f:Int×Int×Int} (hd1:-2000≤d) (hd2:d≤-3):(1≤f.1∧3*f.1*f.1≤-d∧f∈rowR d f.1 (2*f.1).toNat (1 - f.1))↔(1≤f.1∧zBh f.1 f.2.1 f.2.2∧f.2.1*f.2.1 - 4*f.1*f.2.2=d):=by
 obtain⟨a,b,c⟩:=f;unfold rowR;rw[List.mem_filter,List.mem_map];constructor
 ·rintro⟨h1,h2,⟨b',h3,h4⟩,h5⟩;unfold okR at h5;rw[zk,decide_eq_true_eq,jE,beq_iff_eq]at h5;exact⟨h1,h5.2,h5.1⟩
 ·rintro⟨h1,h2,h3⟩;have h1':1≤a:=h1;have h2':zBh a b c:=h2;have h3':b*b - 4*a*c=d:=h3;refine⟨h1,zVn h1' h2' h3',⟨b,(zWB _ _ _).2 ⟨?_,?_⟩,?_⟩,?_⟩
  ·obtain⟨⟨h4,h5⟩,_⟩:=h2';show 1 - a≤b;omega
  ·obtain⟨⟨h4,h5⟩,_⟩:=h2';show b<1 - a+((2*a).toNat:Int);omega
  ·unfold cfR;have e:b*b - d=4*a*c:=by omega
   show (a,b,Int.tdiv (b*b - d) (4*a))=(a,b,c)
   rw[e,Int.mul_tdiv_cancel_left _ (by omega)]
  ·unfold okR;rw[zk,decide_eq_true_eq,jE,beq_iff_eq];exact⟨h3,h2⟩
theorem zYq {d:Int} (hd1:-2000≤d) (hd2:d≤-3):∃L,zCD d=some L∧L.length≤27000∧(∀f,f∈L↔PrR d f)∧L.Nodup:=by
 have hF:=FUge;obtain⟨L,k1,k2,k3,asq,k4,k5,k6⟩:=zSX hd1 hd2 26 FU 1 [] (by omega) (by omega) (by omega) (by simp);rw[zt]at k1;have hLl:L.length≤27000:=by omega
 have hmem:∀f∈L,1≤f.1∧zBh f.1 f.2.1 f.2.2∧f.2.1*f.2.1 - 4*f.1*f.2.2=d:=fun f hf=>(zVl hd1 hd2).1 ((k3 f).1 hf);have hbd:∀f∈L,inN f.1=true∧inN f.2.1=true∧inN f.2.2=true:=by
  intro f hf;obtain⟨h1,h2,h3⟩:=hmem f hf;have h4:=zVn h1 h2 h3;obtain⟨⟨h5,h6⟩,h7⟩:=h2;have ha:f.1≤26:=by
   rcases Int.lt_or_le 26 f.1 with h8|h8
   ·have:=zHa (a:=27) (b:=f.1) (by omega) (by omega);have e:3*f.1*f.1=3*(f.1*f.1):=by grind
    omega
   ·exact h8
  have hb:=zW (x:=f.2.1) (y:=f.2.1) (A:=26) (B:=26) (by omega) (by omega);have hc:f.2.2≤1000:=by
   have h9:4*1*f.2.2≤4*f.1*f.2.2:=by
    have:4*1*f.2.2≤(4*f.1)*f.2.2:=Int.mul_le_mul_of_nonneg_right (by omega) (by omega);exact this
   omega
  rw[zBI,zBI,zBI];omega
 have h2:=zIn (l:=L) (by omega) hbd FU 0 [] (by omega) (by omega) (by simp);rw[zt,List.drop_zero]at h2;refine⟨_,by simp only[zCD,zEh,k1,za];exact congrArg (fun z=>z.bind fun o=>some o) h2,Nat.le_trans (List.length_filter_le _ _) hLl,fun f=>?_,?_⟩
 ·rw[List.mem_filter,k3,zVl hd1 hd2,jE,beq_iff_eq];unfold PrR;constructor
  ·rintro⟨⟨a1,a2,a3⟩,a4⟩;exact⟨a1,a2,a3,by omega⟩
  ·rintro⟨a1,a2,a3,a4⟩;exact⟨⟨a1,a2,a3⟩,by omega⟩
 ·refine List.Pairwise.filter _ ?_
  rw[k6];have hrow:∀a:Int,(rowR d a (2*a).toNat (1 - a)).Nodup:=by
   intro a;unfold rowR;refine List.Pairwise.filter _ ?_
   rw[List.pairwise_map];refine (z1o (2*a).toNat (1 - a)).imp ?_
   intro x y hxy e;have:=congrArg (fun f:Int×Int×Int=>f.2.1) e;simp only[cfR]at this;omega
  rw[List.pairwise_flatMap];refine⟨fun a _=>hrow a,k4.imp ?_⟩;intro x y hxy f hf g hg e;have fx:=zRY hf;have gy:=zRY hg;rw[e]at fx;omega
theorem zJ6 {d a:Int} (ha1:1≤a) (ha:a≤1000) (hd1:-2000≤d) (hd2:d≤-3):∀(m fu:Nat) (b:Int) (acc:List (Int×Int×Int)),b+m=a+1→-1000≤b→m<fu→acc.length+m≤100000000→
  jL a d fu b acc=some (acc++rowR d a m b)
 |m,0,b,acc,_,_,h,_=>by omega
 |0,fu+1,b,acc,hb,hb0,hf,hl=>by
  rw[jL,qU,ze (by omega),zc];simp[rowR,upz]
 |m+1,fu+1,b,acc,hb,hb0,hf,hl=>by
  rw[jL,qU,zd (by omega),zb];have b1:=zW (x:=b) (y:=b) (A:=1000) (B:=1000) (by omega) (by omega);have e4:w64 (4*a)=4*a:=zA (by omega);have e5:w64 (w64 (b*b) - d)=b*b - d:=by rw[zX (n:=b*b) (by omega),zX (by omega)]
  have q1:=zZl (x:=b*b - d) (m:=4*a) (by omega);have q2:=Int.tmod_add_mul_tdiv (b*b - d) (4*a);generalize hc:Int.tdiv (b*b - d) (4*a)=c at q1 q2;generalize hr:Int.tmod (b*b - d) (4*a)=r at q2;have ew:w64 (b+1)=b+1:=zA (by omega);have hcf:cfR d a b=(a,b,c):=by unfold cfR;rw[hc]
  have hrow:rowR d a (m+1) b=(if okR d (a,b,c) then [(a,b,c)] else [])++rowR d a m (b+1):=by
   unfold rowR;rw[upz,List.map_cons,List.filter_cons,hcf];cases okR d (a,b,c)<;>simp
  have hdis:eqI (b*b - 4*a*c) d=eqI r 0:=by
   rw[jE,jE,Bool.eq_iff_iff,beq_iff_eq,beq_iff_eq];omega
  rw[e4,nzOk (by omega),e5,hr,hc,zX (n:=c) (by omega),hrow];simp only[za,zO,zHl ha1 (show a≤1000000 by omega),ew];unfold okR;dsimp only;rw[hdis];cases h1:eqI r 0 with
  |true=>
   simp only[zh,zc,Bool.true_and];cases h2:decide (zBh a b c) with
   |true=>
    rw[zb,zBJ (by simp;omega)];simp only[za];rw[zJ6 ha1 ha hd1 hd2 m fu (b+1) _ (by omega) (by omega) (by omega) (by simp;omega)];simp
   |false=>
    rw[zc];rw[zJ6 ha1 ha hd1 hd2 m fu (b+1) _ (by omega) (by omega) (by omega) (by omega)];simp
  |false=>
   simp only[zi,zb,Bool.false_and];rw[zJ6 ha1 ha hd1 hd2 m fu (b+1) _ (by omega) (by omega) (by omega) (by omega)];simp
theorem z0O {d:Int} (hd1:-2000≤d) (hd2:d≤-3):∀(m fu:Nat) (a:Int) (acc:List (Int×Int×Int)),1≤a→a+m=27→(acc.length:Int)≤1000*a→zAz d fu a acc=zBu d fu a acc
 |m,0,a,acc,_,_,_=>rfl
 |m,fu+1,a,acc,ha,hm,hl=>by
  have b1:=zW (x:=3*a) (y:=a) (A:=81) (B:=27) (by omega) (by omega);have e1:w64 (w64 (3*a)*a)=3*a*a:=by rw[zA (n:=3*a) (by omega),zX (by omega)]
  have e2:w64 (0 - d)=-d:=by rw[zA (by omega)];omega
  rw[zBu,zAz,e1,e2,qU];by_cases h:3*a*a≤-d
  ·have ha2:a≤26:=by
    rcases Int.lt_or_le 26 a with h2|h2
    ·have h3:=zHa (a:=27) (b:=a) (by omega) (by omega);have e:3*a*a=3*(a*a):=by grind
     omega
    ·exact h2
   obtain⟨m',rfl⟩:∃m',m=m'+1:=⟨m - 1,by omega⟩
   have hF:=FUge;rw[zd h,zb,zb,zA (n:=1 - a) (by omega),zA (n:=a+1) (by omega)];simp only[zO];rw[zIl ha (by omega) hd1 hd2 (2*a).toNat FU (1 - a) acc (by omega) (by omega) (by omega) (by omega),zJ6 ha (by omega) hd1 hd2 (2*a).toNat FU (1 - a) acc (by omega) (by omega) (by omega) (by omega)];simp only[za];have hrl:(rowR d a (2*a).toNat (1 - a)).length≤(2*a).toNat:=by
    unfold rowR;refine Nat.le_trans (List.length_filter_le _ _) ?_
    rw[List.length_map,zUx];exact Nat.le_refl _
   exact z0O hd1 hd2 m' fu (a+1) _ (by omega) (by omega) (by rw[zf];omega)
  ·rw[ze h,zc,zc]
theorem zRi {l:List (Int×Int×Int)} (hb:∀f∈l,inN f.1=true∧inN f.2.1=true∧inN f.2.2=true):∀(fu k:Nat) (acc:List (Int×Int×Int)),k≤1000000→l.length≤1000000→zAc l fu (k:Int) acc=zAY l fu (k:Int) acc
 |0,k,acc,_,_=>rfl
 |fu+1,k,acc,hk,hl=>by
  rw[zAc,zAY];by_cases h:k<l.length
  ·obtain⟨c1,c2,c3⟩:=hb (l[k]) (zx h);have e1:zAC l[k]=some (Int.gcd l[k].1 (Int.gcd l[k].2.1 l[k].2.2):Int):=zE5 c1 c2 c3;have e2:jO l[k]=some (Int.gcd l[k].1 (Int.gcd l[k].2.1 l[k].2.2):Int):=zL7 c1 c2 c3;rw[zBw h];simp only[za,e1,e2,zO,zCK (show k<1000000000 by omega)];rw[zRi hb fu (k+1) _ (by omega) hl,zRi hb fu (k+1) _ (by omega) hl]
  ·rw[zG,ze (by omega),zc,zc]
theorem z1D {d:Int} (hd1:-2000≤d) (hd2:d≤-3):zBz d=zCD d:=by
 have hF:=FUge;obtain⟨L,k1,k2,k3,asq,k4,k5,k6⟩:=zSX hd1 hd2 26 FU 1 [] (by omega) (by omega) (by omega) (by simp);rw[zt]at k1;have h1:zAz d FU 1 []=some L:=by rw[z0O hd1 hd2 26 FU 1 [] (by omega) (by omega) (by simp),k1]
 have hmem:∀f∈L,1≤f.1∧zBh f.1 f.2.1 f.2.2∧f.2.1*f.2.1 - 4*f.1*f.2.2=d:=fun f hf=>(zVl hd1 hd2).1 ((k3 f).1 hf);have hbd:∀f∈L,inN f.1=true∧inN f.2.1=true∧inN f.2.2=true:=by
  intro f hf;obtain⟨h1,h2,h3⟩:=hmem f hf;have h4:=zVn h1 h2 h3;obtain⟨⟨h5,h6⟩,h7⟩:=h2;have ha:f.1≤26:=by
   rcases Int.lt_or_le 26 f.1 with h8|h8
   ·have:=zHa (a:=27) (b:=f.1) (by omega) (by omega);have e:3*f.1*f.1=3*(f.1*f.1):=by grind
    omega
   ·exact h8
  have hb:=zW (x:=f.2.1) (y:=f.2.1) (A:=26) (B:=26) (by omega) (by omega);have hc:f.2.2≤1000:=by
   have h9:4*1*f.2.2≤4*f.1*f.2.2:=by
    have:4*1*f.2.2≤(4*f.1)*f.2.2:=Int.mul_le_mul_of_nonneg_right (by omega) (by omega);exact this
   omega
  rw[zBI,zBI,zBI];omega
 have e0:(((0:Nat):Int))=0:=rfl;have h2:=zRi hbd FU 0 [] (by omega) (by omega);rw[e0]at h2;simp only[zBz,zDU,zCy,zCD,zEh,h1,k1,za,h2];cases zAY L FU 0 []<;>rfl
theorem zU6 {κ ν:Type} [DecidableEq κ] (a:κ) (v:ν):∀m:List (κ×ν),mGet a (mPut a v m)=some v
 |[]=>by simp[mPut,mGet]
 |p::ps=>by
  unfold mPut;by_cases h:a=p.1
  ·rw[if_pos h];simp[mGet]
  ·rw[if_neg h];unfold mGet;rw[if_neg h];exact zU6 a v ps
theorem zRb {κ ν:Type} [DecidableEq κ] {a b:κ} (v:ν) (h:b≠a):∀m:List (κ×ν),mGet b (mPut a v m)=mGet b m
 |[]=>by simp[mPut,mGet,h]
 |p::ps=>by
  unfold mPut;by_cases hp:a=p.1
  ·rw[if_pos hp];unfold mGet;rw[if_neg h,if_neg (by rw[←hp];exact h)]
  ·rw[if_neg hp];unfold mGet;rw[zRb v h ps]
theorem z2a {α:Type} {L:List α} (hn:L.Nodup) {i j:Nat} (hi:i<L.length) (hj:j<L.length) (h:L[i]=L[j]):i=j:=by
 rcases Nat.lt_trichotomy i j with hl|hl|hl
 ·exact absurd h (List.pairwise_iff_getElem.1 hn i j hi hj hl)
 ·exact hl
 ·exact absurd h.symm (List.pairwise_iff_getElem.1 hn j i hj hi hl)
theorem z0Q {L:List F3} (hl:L.length≤1000000) (hn:L.Nodup):∀(n k:Nat) (m:List (F3×Int)),k≤L.length→L.length - k<n→(∀j (hj:j<k) (hl:j<L.length),mGet L[j] m=some (j:Int))→
  ∃m',zBS L n (k:Int) m=some m'∧∀j (hl:j<L.length),mGet L[j] m'=some (j:Int)
 |0,k,m,h1,h2,h3=>by omega
 |n+1,k,m,h1,h2,h3=>by
  unfold zBS;rw[zG];by_cases hk:k<L.length
  ·rw[zd (show (k:Int)<(L.length:Int) by omega),zb,zBw hk];simp only[za,zO,zCK (show k<1000000000 by omega)];refine z0Q hl hn n (k+1) _ (by omega) (by omega) fun j hj hjl=>?_
   by_cases e:j=k
   ·subst e;exact zU6 _ _ _
   ·rw[zRb _ (fun h=>e (z2a hn _ _ h))];exact h3 j (by omega) hjl
  ·rw[ze (show ¬(k:Int)<(L.length:Int) by omega),zc];exact⟨m,rfl,fun j hj=>h3 j (by omega) hj⟩
theorem z0R {L:List F3} (hl:L.length≤1000000) (hn:L.Nodup) {f:F3} {i:Nat} (hi:i<L.length) (hf:L[i]=f):∀(n k:Nat),k≤i→i - k<n→zBi f L n (k:Int)=some (.inr (i:Int))
 |0,k,h1,h2=>by omega
 |n+1,k,h1,h2=>by
  unfold zBi;rw[zG,zd (show (k:Int)<(L.length:Int) by omega),zb,zBw (show k<L.length by omega)];simp only[za,zO,zCK (show k<1000000000 by omega)];by_cases e:k=i
  ·subst e;have:((L[k].1==f.1)&&((L[k].2.1==f.2.1)&&(L[k].2.2==f.2.2)))=true:=by rw[hf];simp
   rw[this];rfl
  ·have:((L[k].1==f.1)&&((L[k].2.1==f.2.1)&&(L[k].2.2==f.2.2)))=false:=by
    rw[Bool.eq_false_iff];intro hh;rw[zk,zk,beq_iff_eq,beq_iff_eq,beq_iff_eq]at hh;have he:L[k]=L[i]:=by rw[hf];exact Prod.ext hh.1 (Prod.ext hh.2.1 hh.2.2)
    exact e (z2a hn _ _ he)
   rw[this,zc];exact z0R hl hn hi hf n (k+1) (by omega) (by omega)
theorem z3b {D:Int} (hD1:-2000≤D) (hD2:D≤-3) {f:F3} (h:PrRc D f):∃(i:Nat) (L:List F3),zBp f=some ((i:Int),true)∧zCD D=some L∧zD3 L f=some (i:Int)∧i≤27000:=by
 have hF:=FUge;obtain⟨L,l1,l2,l3,l4⟩:=zYq hD1 hD2;have hD:D<0:=by omega
 have hm:f∈L:=by
  rw[l3];refine⟨h.1,h.2.1,h.2.2.1,?_⟩;have h5:((Int.gcd f.1 (Int.gcd f.2.1 f.2.2):Nat):Int)∣1:=h.2.2.2 _ (Int.gcd_dvd_left _ _) (zy (Int.gcd_dvd_right _ _) (Int.gcd_dvd_left _ _)) (zy (Int.gcd_dvd_right _ _) (Int.gcd_dvd_right _ _));have h6:=Int.eq_one_of_dvd_one (by omega) h5;omega
 obtain⟨i,hi,hf⟩:=List.getElem_of_mem hm;obtain⟨m,m1,m2⟩:=z0Q (L:=L) (by omega) l4 FU 0 [] (by omega) (by omega) (fun j hj=>by omega);have m1:zBS L FU 0 []=some m:=m1;have g1:=z0R (L:=L) (by omega) l4 hi hf FU 0 (by omega) (by omega);have g1:zBi f L FU 0=some (.inr (i:Int)):=g1;have l1':zBz D=some L:=by rw[z1D hD1 hD2];exact l1
 obtain⟨c1,c2⟩:=zGD hD1 hD h;obtain⟨r1,_⟩:=zF2 hD1 hD h;refine⟨i,L,?_,l1,?_,by omega⟩
 ·have hg:mGet f m=some (i:Int):=by rw[←hf];exact m2 i hi
  simp only[zBp,c1,c2,r1,zEo,l1',m1,za,zh,zc,zO,mAt,hg,Option.getD_some]
 ·simp only[zD3,g1,za]
theorem sqn (x:Int):0≤x*x:=by
 rcases Int.le_total 0 x with h|h
 ·exact Int.mul_nonneg h h
 ·exact Int.mul_nonneg_of_nonpos_of_nonpos h h
theorem zMO {q:Int}:∀(k n:Nat) (lo hi:Int),0≤lo→lo≤hi→hi≤3000000000→lo*lo≤q→q<(hi+1)*(hi+1)→hi - lo<2 ^k→k<n→∃r,zBN q n lo hi=some r∧0≤r∧r≤3000000000∧r*r≤q∧q<(r+1)*(r+1)
 |0,0,_,_,_,_,_,_,_,_,h=>by omega
 |0,n+1,lo,hi,h1,h2,h3,h4,h5,h6,h7=>by
  have e:lo=hi:=by simp at h6;omega
  subst e;unfold zBN;rw[zG,ze (by omega),zc];exact⟨lo,rfl,h1,h3,h4,h5⟩
 |k+1,0,_,_,_,_,_,_,_,_,h=>by omega
 |k+1,n+1,lo,hi,h1,h2,h3,h4,h5,h6,h7=>by
  unfold zBN;rw[zG];by_cases hlt:lo<hi
  ·have em:w64 (Int.tdiv (w64 (w64 (lo+hi)+1)) 2)=(lo+hi+1) / 2:=by
    rw[zA (n:=lo+hi) (by omega),zA (n:=lo+hi+1) (by omega),Int.tdiv_eq_ediv_of_nonneg (by omega),zA (by omega)]
   rw[zd hlt,zb,zO,em];generalize hm:(lo+hi+1) / 2=m;have m1:lo<m:=by omega
   have m2:m≤hi:=by omega
   have hp:(2:Int) ^(k+1)=2*2 ^k:=by rw[Int.pow_succ];omega
   have hmm:=zW (x:=m) (y:=m) (A:=3000000000) (B:=3000000000) (by omega) (by omega);rw[zA (n:=m*m) (by omega),qU];by_cases hq:m*m≤q
   ·rw[zd hq,zb];exact zMO k n m hi (by omega) m2 h3 hq h5 (by omega) (by omega)
   ·rw[ze hq,zc,zO,zA (by omega)];exact zMO k n lo (m - 1) h1 (by omega) (by omega) h4 (by rw[show m - 1+1=m by omega];omega) (by omega) (by omega)
  ·have e:lo=hi:=by omega
   subst e;rw[ze hlt,zc];exact⟨lo,rfl,h1,h3,h4,h5⟩
theorem zZt (q:Int):∀(n:Nat) (lo hi:Int),zCG q n lo hi=zBN q n lo hi
 |0,lo,hi=>rfl
 |n+1,lo,hi=>by
  unfold zCG zBN;simp only[zO,zZt q n]
theorem zX9 {q:Int} (h0:0≤q) (h1:q≤1000000000000000000):∃r,zCs q=some r∧0≤r∧r≤1000000000∧r*r≤q∧q<(r+1)*(r+1):=by
 have hF:=FUge;obtain⟨r,g1,g2,g3,g4,g5⟩:=zMO (q:=q) 32 FU 0 3000000000 (by omega) (by omega) (by omega) (by omega) (by omega) (by decide) (by omega);refine⟨r,by simp only[zCs,g1,za],g2,?_,g4,g5⟩;rcases Int.lt_or_le 1000000000 r with h|h
 ·have:1000000001*1000000001≤r*r:=Int.mul_le_mul (by omega) (by omega) (by omega) (by omega);omega
 ·exact h
theorem z0q {q:Int} (h0:0≤q) (h1:q≤1000000000000000000):∃r,zEF q=some r∧0≤r∧r≤1000000000∧r*r≤q∧q<(r+1)*(r+1):=by
 have hF:=FUge;obtain⟨r,g1,g2,g3,g4,g5⟩:=zMO (q:=q) 32 FU 0 1000000000 (by omega) (by omega) (by omega) (by omega) (by omega) (by decide) (by omega);refine⟨r,by simp only[zEF,zZt,g1,za],g2,?_,g4,g5⟩;rcases Int.lt_or_le 1000000000 r with h|h
 ·have:1000000001*1000000001≤r*r:=Int.mul_le_mul (by omega) (by omega) (by omega) (by omega);omega
 ·exact h
theorem zMN {q r t:Int} (hr:0≤r) (h1:r*r≤q) (h2:q<(r+1)*(r+1)) (ht:t*t=q):t=r∨t=-r:=by
 have key:∀s:Int,0≤s→s*s=q→s=r:=by
  intro s hs he;rcases Int.lt_trichotomy s r with h|h|h
  ·have:(s+1)*(s+1)≤r*r:=Int.mul_le_mul (by omega) (by omega) (by omega) (by omega);have e:(s+1)*(s+1)=s*s+2*s+1:=by grind
   omega
  ·exact h
  ·have:(r+1)*(r+1)≤s*s:=Int.mul_le_mul (by omega) (by omega) (by omega) (by omega);omega
 rcases Int.le_total 0 t with h|h
 ·exact .inl (key t h ht)
 ·have:=key (-t) (by omega) (by rw[←ht];grind);right;omega
theorem zJX {a m:Int} (hm:m≠0):eqI (a.tmod m) 0=true→m*a.tdiv m=a:=by
 intro h;rw[jE]at h;have h:=eq_of_beq h;have:=Int.tmod_add_mul_tdiv a m;omega
theorem zHL {a m y:Int} (hm:m≠0) (h:m*y=a):eqI (a.tmod m) 0=true∧a.tdiv m=y:=by
 subst h;rw[Int.mul_tmod_right,Int.mul_tdiv_cancel_left _ hm];exact⟨rfl,rfl⟩
def lexL (p q:Int×Int):Prop:=p.1<q.1∨(p.1=q.1∧p.2<q.2)
def Srt (l:List (Int×Int)):Prop:=l.Pairwise lexL
theorem zZo:∀{l1 l2:List (Int×Int)},Srt l1→Srt l2→(∀p,p∈l1↔p∈l2)→l1=l2
 |[],[],_,_,_=>rfl
 |[],q::_,_,_,h=>by have:=(h q).2 zm;cases this
 |p::_,[],_,_,h=>by have:=(h p).1 zm;cases this
 |p::l1,q::l2,h1,h2,h=>by
  have s1:=List.pairwise_cons.1 h1;have s2:=List.pairwise_cons.1 h2;have irr:∀{x y:Int×Int},lexL x y→lexL y x→False:=by
   intro x y a b;rcases a with a|⟨a,a'⟩<;>rcases b with b|⟨b,b'⟩<;>omega
  have e:p=q:=by
   rcases List.mem_cons.1 ((h p).1 zm) with e|e
   ·exact e
   ·rcases List.mem_cons.1 ((h q).2 zm) with f|f
    ·exact f.symm
    ·exact absurd (irr (s1.1 q f) (s2.1 p e)) id
  subst e;have:l1=l2:=zZo s1.2 s2.2 fun x=>by
   have hx:=h x;constructor
   ·intro hm;rcases List.mem_cons.1 (hx.1 (zn _ hm)) with e|e
    ·subst e;exact absurd (irr (s1.1 x hm) (s1.1 x hm)) id
    ·exact e
   ·intro hm;rcases List.mem_cons.1 (hx.2 (zn _ hm)) with e|e
    ·subst e;exact absurd (irr (s2.1 x hm) (s2.1 x hm)) id
    ·exact e
  rw[this]
def Sol (A B C n:Int) (p:Int×Int):Prop:=A*p.1*p.1+B*p.1*p.2+C*p.2*p.2=n
theorem z5w {A B C d n x y:Int} (hC:1≤C) (hd:B*B - 4*A*C=d):Sol A B C n (x,y)↔(2*C*y+B*x)*(2*C*y+B*x)=d*x*x+4*C*n:=by
 unfold Sol;have key:(2*C*y+B*x)*(2*C*y+B*x) - (d*x*x+4*C*n)=4*C*(A*x*x+B*x*y+C*y*y - n):=by subst hd;grind
 constructor
 ·intro h;have h:A*x*x+B*x*y+C*y*y=n:=h;rw[h,Int.sub_self,Int.mul_zero]at key;omega
 ·intro h;show A*x*x+B*x*y+C*y*y=n;rw[h,Int.sub_self]at key;rcases Int.mul_eq_zero.1 key.symm with h1|h1<;>omega
theorem z5x {A B C d n x y:Int} (hA:1≤A) (hd:B*B - 4*A*C=d):Sol A B C n (x,y)↔(2*A*x+B*y)*(2*A*x+B*y)=d*y*y+4*A*n:=by
 unfold Sol;have key:(2*A*x+B*y)*(2*A*x+B*y) - (d*y*y+4*A*n)=4*A*(A*x*x+B*x*y+C*y*y - n):=by subst hd;grind
 constructor
 ·intro h;have h:A*x*x+B*x*y+C*y*y=n:=h;rw[h,Int.sub_self,Int.mul_zero]at key;omega
 ·intro h;show A*x*x+B*x*y+C*y*y=n;rw[h,Int.sub_self]at key;rcases Int.mul_eq_zero.1 key.symm with h1|h1<;>omega
theorem zVU {l:List (Int×Int)} {p:Int×Int} (h:Srt l) (hp:∀q∈l,lexL q p):Srt (l++[p]):=by
 unfold Srt;rw[List.pairwise_append];refine⟨h,List.pairwise_singleton _ _,fun a ha b hb=>?_⟩;rw[qf]at hb;subst hb;exact hp a ha
theorem z0B {A B C d n bd:Int} (hC1:1≤C) (hC:C≤1000000) (hB1:-1000000≤B) (hB:B≤1000000) (hd:B*B - 4*A*C=d) (hd1:-2000≤d) (hd2:d≤-3) (hn1:1≤n) (hn:n≤10000) (hb0:0≤bd) (hb:bd≤200000):
  ∀(fu:Nat) (x:Int) (acc:List (Int×Int)),-200000≤x→x≤bd+1→bd+1 - x<fu→Srt acc→(∀p,p∈acc↔Sol A B C n p∧p.1<x∧-bd≤p.1)→-bd≤x→(acc.length:Int)≤2*(x+200000)→
  ∃l,jM (A,B,C) n d bd fu x acc=some l∧Srt l∧l.length≤1000000∧∀p,p∈l↔Sol A B C n p∧p.1≤bd∧-bd≤p.1
 |0,x,acc,h1,h2,h3,_,_,_,_=>by omega
 |fu+1,x,acc,h1,h2,h3,hs,hm,hbx,hl=>by
  unfold jM;rw[qU];by_cases hx:x≤bd
  ·have b1:=zW (x:=d) (y:=x) (A:=2000) (B:=200000) (by omega) (by omega);have b2:=zW (x:=d*x) (y:=x) (A:=2000*200000) (B:=200000) b1 (by omega);have b3:=zW (x:=4*C) (y:=n) (A:=4000000) (B:=10000) (by omega) (by omega);have b4:=zW (x:=B) (y:=x) (A:=1000000) (B:=200000) (by omega) (by omega);have eB:(0 - B)*x=-(B*x):=by grind
   have hsq:w64 (w64 (w64 (d*x)*x)+w64 (w64 (4*C)*n))=d*x*x+4*C*n:=by
    rw[zX (n:=d*x) (by omega),zX (n:=d*x*x) (by omega),zX (n:=4*C) (by omega),zX (n:=4*C*n) (by omega),zX (by omega)]
   have hw1:w64 (x+1)=x+1:=zA (by omega);rw[zd hx,zb,zO,hsq];generalize hq:d*x*x+4*C*n=q;have hqb:q≤1000000000000000000:=by omega
   have step:∀(l:List (Int×Int)),Srt l→(∀p,p∈l↔(p∈acc∨(p.1=x∧Sol A B C n p)))→l.length≤acc.length+2→
     ∃l2,jM (A,B,C) n d bd fu (x+1) l=some l2∧Srt l2∧l2.length≤1000000∧∀p,p∈l2↔Sol A B C n p∧p.1≤bd∧-bd≤p.1:=by
    intro l k1 k2 k3;refine z0B hC1 hC hB1 hB hd hd1 hd2 hn1 hn hb0 hb fu (x+1) l (by omega) (by omega) (by omega) k1 (fun p=>?_) (by omega) (by omega);rw[k2,hm];constructor
    ·rintro (⟨a,b,c⟩|⟨a,b⟩)
     ·exact⟨a,by omega,c⟩
     ·exact⟨b,by omega,by omega⟩
    ·rintro⟨a,b,c⟩;by_cases hp:p.1=x
     ·exact .inr ⟨hp,a⟩
     ·exact .inl ⟨a,by omega,c⟩
   have hy:∀y,Sol A B C n (x,y)↔(2*C*y+B*x)*(2*C*y+B*x)=q:=fun y=>by rw[z5w hC1 hd,hq]
   by_cases hq0:0≤q
   ·obtain⟨r,g1,g2,g3,g4,g5⟩:=zX9 hq0 hqb;have hrr:=zW (x:=r) (y:=r) (A:=1000000000) (B:=1000000000) (by omega) (by omega);have hisq:zBv q=some (eqI (r*r) q):=by
     simp only[zBv,qU,zd hq0,zb,g1,za];rw[zX (n:=r*r) (by omega)]
    rw[hisq];simp only[za];by_cases hrq:r*r=q
    ·have e1:eqI (r*r) q=true:=by rw[hrq];exact zRn q
     have hz:nz (2*C)=some ():=nzOk (by omega);have hC2:w64 (2*C)=2*C:=zA (by omega);have ea:w64 (w64 (w64 (0 - B)*x) - r)=-(B*x) - r:=by
      rw[zA (n:=0 - B) (by omega),eB,zX (n:=-(B*x)) (by omega),zX (by omega)]
     have eb:w64 (w64 (w64 (0 - B)*x)+r)=-(B*x)+r:=by
      rw[zA (n:=0 - B) (by omega),eB,zX (n:=-(B*x)) (by omega),zX (by omega)]
     have hcne:(2*C:Int)≠0:=by omega
     rw[e1];simp only[zh,zc,g1,za,hC2,hz,ea,eb];have hy2:∀y,Sol A B C n (x,y)↔(2*C*y=-(B*x) - r∨2*C*y=-(B*x)+r):=by
      intro y;rw[hy];constructor
      ·intro h;rcases zMN g2 g4 g5 h with e|e<;>omega
      ·rintro (h|h)
       ·have e:2*C*y+B*x=-r:=by omega
        rw[e,←hrq];grind
       ·have e:2*C*y+B*x=r:=by omega
        rw[e,←hrq]
     -- a quotient's size
     have tsz:∀a y:Int,2*C*y=a→a.natAbs≤2000000000000→y.natAbs≤2000000000000:=by
      intro a y h h2;have:(2*C*y).natAbs=(2*C).natAbs*y.natAbs:=Int.natAbs_mul _ _;rw[h]at this;have h3:1*y.natAbs≤(2*C).natAbs*y.natAbs:=Nat.mul_le_mul_right _ (by omega);omega
     have hr1:∀q2,q2∈acc→∀y,lexL q2 (x,y):=fun q2 h y=>.inl ((hm q2).1 h).2.1;cases h1:eqI (Int.tmod (-(B*x) - r) (2*C)) 0 with
     |true=>
      have m1:=zJX hcne h1;generalize hy1:Int.tdiv (-(B*x) - r) (2*C)=y1;rw[hy1]at m1;have s1:=tsz _ _ m1 (by omega);rw[zb,zX (n:=y1) (by omega),zBJ (by simp;omega)];simp only[za];have k1:Srt (acc++[(x,y1)]):=zVU hs fun q2 h=>hr1 q2 h y1;rw[zG];by_cases hr0:0<r
      ·rw[zd hr0,zb];cases h2:eqI (Int.tmod (-(B*x)+r) (2*C)) 0 with
       |true=>
        have m2:=zJX hcne h2;generalize hy2e:Int.tdiv (-(B*x)+r) (2*C)=y2;rw[hy2e]at m2;have s2:=tsz _ _ m2 (by omega);have hlt:y1<y2:=by
         rcases Int.lt_or_le y1 y2 with h|h
         ·exact h
         ·have:2*C*y2≤2*C*y1:=zp h (by omega);omega
        simp only[za,zb];rw[zX (n:=y2) (by omega),zBJ (by simp;omega)];simp only[za,zO,hw1];refine step _ (zVU k1 fun q2 h=>?_) (fun p=>?_) (by simp)
        ·rw[List.mem_append,qf]at h;rcases h with h|h
         ·exact hr1 q2 h y2
         ·subst h;exact .inr ⟨rfl,hlt⟩
        ·rw[List.mem_append,List.mem_append,qf,qf];constructor
         ·rintro ((h|h)|h)
          ·exact .inl h
          ·subst h;exact .inr ⟨rfl,(hy2 y1).2 (.inl m1)⟩
          ·subst h;exact .inr ⟨rfl,(hy2 y2).2 (.inr m2)⟩
         ·rintro (h|⟨h,h'⟩)
          ·exact .inl (.inl h)
          ·obtain⟨p1,p2⟩:=p;have h:p1=x:=h;subst h;rcases (hy2 p2).1 h' with e|e
           ·left;right;have:p2=y1:=Int.eq_of_mul_eq_mul_left hcne (by omega);rw[this]
           ·right;have:p2=y2:=Int.eq_of_mul_eq_mul_left hcne (by omega);rw[this]
       |false=>
        simp only[za,zc,zO,hw1];refine step _ k1 (fun p=>?_) (by simp);rw[List.mem_append,qf];constructor
        ·rintro (h|h)
         ·exact .inl h
         ·subst h;exact .inr ⟨rfl,(hy2 y1).2 (.inl m1)⟩
        ·rintro (h|⟨h,h'⟩)
         ·exact .inl h
         ·obtain⟨p1,p2⟩:=p;have h:p1=x:=h;subst h;rcases (hy2 p2).1 h' with e|e
          ·right;have:p2=y1:=Int.eq_of_mul_eq_mul_left hcne (by omega);rw[this]
          ·rw[(zHL hcne e).1]at h2;cases h2
      ·have r0:r=0:=by omega
       rw[ze hr0];simp only[za,zc,zO,hw1];refine step _ k1 (fun p=>?_) (by simp);rw[List.mem_append,qf];constructor
       ·rintro (h|h)
        ·exact .inl h
        ·subst h;exact .inr ⟨rfl,(hy2 y1).2 (.inl m1)⟩
       ·rintro (h|⟨h,h'⟩)
        ·exact .inl h
        ·obtain⟨p1,p2⟩:=p;have h:p1=x:=h;subst h;right;have:p2=y1:=Int.eq_of_mul_eq_mul_left hcne (by rcases (hy2 p2).1 h' with e|e<;>omega);rw[this]
     |false=>
      rw[zc];simp only[za];rw[zG];by_cases hr0:0<r
      ·rw[zd hr0,zb];cases h2:eqI (Int.tmod (-(B*x)+r) (2*C)) 0 with
       |true=>
        have m2:=zJX hcne h2;generalize hy2e:Int.tdiv (-(B*x)+r) (2*C)=y2;rw[hy2e]at m2;have s2:=tsz _ _ m2 (by omega);simp only[za,zb];rw[zX (n:=y2) (by omega),zBJ (by simp;omega)];simp only[za,zO,hw1];refine step _ (zVU hs fun q2 h=>hr1 q2 h y2) (fun p=>?_) (by simp);rw[List.mem_append,qf];constructor
        ·rintro (h|h)
         ·exact .inl h
         ·subst h;exact .inr ⟨rfl,(hy2 y2).2 (.inr m2)⟩
        ·rintro (h|⟨h,h'⟩)
         ·exact .inl h
         ·obtain⟨p1,p2⟩:=p;have h:p1=x:=h;subst h;rcases (hy2 p2).1 h' with e|e
          ·rw[(zHL hcne e).1]at h1;cases h1
          ·right;have:p2=y2:=Int.eq_of_mul_eq_mul_left hcne (by omega);rw[this]
       |false=>
        simp only[za,zc,zO,hw1];refine step _ hs (fun p=>?_) (by omega);constructor
        ·exact fun h=>.inl h
        ·rintro (h|⟨h,h'⟩)
         ·exact h
         ·obtain⟨p1,p2⟩:=p;have h:p1=x:=h;subst h;rcases (hy2 p2).1 h' with e|e
          ·rw[(zHL hcne e).1]at h1;cases h1
          ·rw[(zHL hcne e).1]at h2;cases h2
      ·have r0:r=0:=by omega
       rw[ze hr0];simp only[za,zc,zO,hw1];refine step _ hs (fun p=>?_) (by omega);constructor
       ·exact fun h=>.inl h
       ·rintro (h|⟨h,h'⟩)
        ·exact h
        ·obtain⟨p1,p2⟩:=p;have h:p1=x:=h;subst h;rw[(zHL hcne (show 2*C*p2=-(B*p1) - r by rcases (hy2 p2).1 h' with e|e<;>omega)).1]at h1;cases h1
    ·rw[eqNe hrq];simp only[zi,zb,zO,hw1];refine step _ hs (fun p=>?_) (by omega);constructor
     ·exact fun h=>.inl h
     ·rintro (h|⟨h,h'⟩)
      ·exact h
      ·obtain⟨p1,p2⟩:=p;have h:p1=x:=h;subst h
       exfalso
       have h2:=(hy p2).1 h';rcases zMN g2 g4 g5 h2 with e|e
       ·exact hrq (by rw[←e];exact h2)
       ·exact hrq (by rw[e]at h2;rw[←h2];grind)
   ·have hisq:zBv q=some false:=by
     simp only[zBv,qU,ze hq0,zc,za]
    rw[hisq];simp only[za,zi,zb,zO,hw1];refine step _ hs (fun p=>?_) (by omega);constructor
    ·exact fun h=>.inl h
    ·rintro (h|⟨h,h'⟩)
     ·exact h
     ·obtain⟨p1,p2⟩:=p;have h:p1=x:=h;subst h
      exfalso
      have h2:=(hy p2).1 h';have:=sqn (2*C*p2+B*p1);omega
  ·rw[ze hx,zc];refine⟨acc,rfl,hs,by omega,fun p=>?_⟩;rw[hm];constructor
   ·rintro⟨a,b,c⟩;exact⟨a,by omega,c⟩
   ·rintro⟨a,b,c⟩;exact⟨a,by omega,c⟩
theorem zYu {A B C n:Int} (hA:1≤A) (hC1:1≤C) (hC:C≤1000000) (hB1:-1000000≤B) (hB:B≤1000000) (hdw:zL (A,B,C)=some (B*B - 4*A*C)) (hd1:-2000≤B*B - 4*A*C) (hd2:B*B - 4*A*C≤-3) (hn1:1≤n) (hn:n≤10000):
  ∃l,zB9 (A,B,C) n=some l∧Srt l∧l.length≤1000000∧∀p,p∈l↔Sol A B C n p:=by
 have hF:=FUge;have hFe:((FU:Nat):Int)=1000000000:=rfl;generalize hd:B*B - 4*A*C=d at*;have b3:=zW (x:=4*C) (y:=n) (A:=4000000) (B:=10000) (by omega) (by omega);have hCn:0≤4*C*n:=Int.mul_nonneg (by omega) (by omega);have ew:w64 (0 - d)=-d:=by rw[zA (by omega)];omega
 have e4:w64 (w64 (4*C)*n)=4*C*n:=by rw[zA (n:=4*C) (by omega),zX (by omega)]
 have hquo:Int.tdiv (4*C*n) (-d)=4*C*n / (-d):=Int.tdiv_eq_ediv_of_nonneg hCn;have hq1:0≤4*C*n / (-d):=Int.ediv_nonneg hCn (by omega);have hq2:(-d)*(4*C*n / (-d))≤4*C*n:=Int.mul_ediv_self_le (by omega);have hq3:4*C*n<(-d)*(4*C*n / (-d))+(-d):=Int.lt_mul_ediv_self_add (by omega);generalize hQ:4*C*n / (-d)=Q at*;have hQb:Q≤40000000000:=by
  have:1*Q≤(-d)*Q:=Int.mul_le_mul_of_nonneg_right (by omega) hq1;omega
 obtain⟨bd,g1,g2,g3,g4,g5⟩:=zX9 (q:=Q) hq1 (by omega);have hbd:bd≤200000:=by
  rcases Int.lt_or_le 200000 bd with h|h
  ·have:200001*200001≤bd*bd:=Int.mul_le_mul (by omega) (by omega) (by omega) (by omega);omega
  ·exact h
 -- every solution lies within the bound
 have hin:∀p,Sol A B C n p→p.1≤bd∧-bd≤p.1:=by
  rintro⟨x,y⟩ hp;have h1:=(z5w hC1 hd).1 hp;have h2:=sqn (2*C*y+B*x);have h3:(-d)*(x*x)≤4*C*n:=by
   have e:(-d)*(x*x)=-(d*x*x):=by grind
   omega
  have hxx:x*x≤Q:=by
   rcases Int.lt_or_le Q (x*x) with h|h
   ·have:(-d)*(Q+1)≤(-d)*(x*x):=zp (by omega) (by omega);have e:(-d)*(Q+1)=(-d)*Q+(-d):=by grind
    omega
   ·exact h
  have hab:x.natAbs≤bd.natAbs:=by
   rcases Nat.lt_or_ge bd.natAbs x.natAbs with h|h
   ·have h4:(bd.natAbs+1)*(bd.natAbs+1)≤x.natAbs*x.natAbs:=Nat.mul_le_mul h h;have h5:x*x=((x.natAbs*x.natAbs:Nat):Int):=Int.natAbs_mul_self.symm;have h6:(bd+1)*(bd+1)=(((bd.natAbs+1)*(bd.natAbs+1):Nat):Int):=by
     have:bd=(bd.natAbs:Int):=by omega
     rw[this];simp
    omega
   ·exact h
  show x≤bd∧-bd≤x;omega
 obtain⟨l,k1,k2,k3,k4⟩:=z0B (bd:=bd) hC1 hC hB1 hB hd hd1 hd2 hn1 hn g2 hbd FU (-bd) [] (by omega) (by omega) (by omega) List.Pairwise.nil (fun p=>by
  constructor
  ·intro h;cases h
  ·rintro⟨a,b,c⟩;omega) (by omega) (by simp;omega)
 refine⟨l,?_,k2,k3,fun p=>?_⟩
 ·have ez:nz (-d)=some ():=nzOk (by omega);have eb:w64 (0 - bd)=-bd:=by rw[zA (by omega)];omega
  simp only[zB9,hdw,za,ew,ez,e4,hquo,hQ];rw[zA (n:=Q) (by omega),g1];simp only[za,zO,eb,k1]
 ·rw[k4];exact⟨fun h=>h.1,fun h=>⟨h,(hin p h).1,(hin p h).2⟩⟩
theorem z0P (l:List (Int×Int)) (p:Int×Int) (hl:l.length≤10000000):∀(n k:Nat),k≤l.length→l.length - k<n→zCY l p n (k:Int)=some (if p∈l.drop k then .inr true else .inl ())
 |0,k,h0,h1=>by omega
 |n+1,k,h0,h1=>by
  unfold zCY;rw[zG];by_cases hk:k<l.length
  ·have e3:l.drop k=l[k]::l.drop (k+1):=List.drop_eq_getElem_cons hk;rw[zd (by omega),zb,zBw hk];simp only[za,zO,zCK (show k<1000000000 by omega)];by_cases he:l[k]=p
   ·have e1:((l[k]).1==p.1&&(l[k]).2==p.2)=true:=by rw[he];simp
    rw[e1,zb,e3,if_pos (by rw[he];exact zm)]
   ·have e1:((l[k]).1==p.1&&(l[k]).2==p.2)=false:=by
     cases hb:((l[k]).1==p.1&&(l[k]).2==p.2) with
     |false=>rfl
     |true=>
      rw[zk]at hb;exact absurd (Prod.ext (eq_of_beq hb.1) (eq_of_beq hb.2)) he
    rw[e1,zc,z0P l p hl n (k+1) (by omega) (by omega),e3];by_cases hm:p∈l.drop (k+1)
    ·rw[if_pos hm,if_pos (zn _ hm)]
    ·rw[if_neg hm,if_neg (by
      intro h;rcases List.mem_cons.1 h with h|h
      ·exact he h.symm
      ·exact hm h)]
  ·rw[ze (by omega),zc,List.drop_eq_nil_of_le (by omega),if_neg (by simp)]
theorem z5B (l:List (Int×Int)) (p:Int×Int) (hl:l.length≤10000000):zCu l p=some (decide (p∈l)):=by
 have hFe:FU=1000000000:=rfl;have:=z0P l p hl FU 0 (by omega) (by omega);have this:zCY l p FU 0=some (if p∈l then .inr true else .inl ()):=this;unfold zCu;rw[this];by_cases h:p∈l
 ·rw[if_pos h,zd h];rfl
 ·rw[if_neg h,ze h];rfl
def lexB (p q:Int×Int):Bool:=ltI p.1 q.1||(eqI p.1 q.1&&ltI p.2 q.2)
theorem zXk {p q:Int×Int}:lexB p q=true↔lexL p q:=by
 unfold lexB lexL;rw[zG,zG,jE];simp
theorem zZz (l:List (Int×Int)) (p:Int×Int) (hl:l.length≤10000000):∀(n k:Nat),k≤l.length→l.length - k<n→(∀j,j<k→∀q,l[j]?=some q→lexL q p)→∃m,zCX l p n (k:Int)=some ((m:Nat):Int)∧m≤l.length∧(∀j,j<m→∀q,l[j]?=some q→lexL q p)∧(∀q,l[m]?=some q→¬lexL q p)
 |0,k,h0,h1,h2=>by omega
 |n+1,k,h0,h1,h2=>by
  unfold zCX;rw[zG];by_cases hk:k<l.length
  ·have ec:((getI l (k:Int)).bind fun e7=>(bif (ltI e7.1 p.1) then some true else ((getI l (k:Int)).bind fun e9=>(bif (eqI e9.1 p.1) then ((getI l (k:Int)).bind fun e11=>some (ltI e11.2 p.2)) else some false).bind fun b12=>some b12)).bind fun b13=>some b13)=some (lexB l[k] p):=by
    rw[zBw hk];simp only[za];unfold lexB;cases ltI l[k].1 p.1<;>cases eqI l[k].1 p.1<;>rfl
   rw[zd (by omega),zb,ec];simp only[za,zO,zCK (show k<1000000000 by omega)];cases hb:lexB l[k] p with
   |true=>
    rw[zb];refine zZz l p hl n (k+1) (by omega) (by omega) fun j hj q hq=>?_
    by_cases hjk:j=k
    ·subst hjk;rw[zz hk]at hq;injection hq with hq;subst hq;exact zXk.1 hb
    ·exact h2 j (by omega) q hq
   |false=>
    rw[zc];refine⟨k,rfl,by omega,h2,fun q hq=>?_⟩;rw[zz hk]at hq;injection hq with hq;subst hq;intro h;rw[zXk.2 h]at hb;cases hb
  ·rw[ze (by omega)];simp only[zc,za];refine⟨k,rfl,h0,h2,fun q hq=>?_⟩;rw[List.getElem?_eq_none (by omega)]at hq;cases hq
theorem z2J {n:Nat} {l h:Int} (h1:0≤l) (h2:l≤h) (h3:h≤n):slc n l h=some ():=by
 unfold slc;rw[qU,qU,qU,zd h1,zd h2,zd h3];rfl
theorem z4v {p q:Int×Int} (h:¬lexL q p) (hne:q≠p):lexL p q:=by
 unfold lexL at*;have:¬(q.1=p.1∧q.2=p.2):=fun e=>hne (Prod.ext e.1 e.2);omega
theorem z65 {p q r:Int×Int} (h:lexL p q) (h2:lexL q r):lexL p r:=by
 unfold lexL at*;omega
theorem z4l (l:List (Int×Int)) (p:Int×Int) (hl:l.length≤10000000) (hs:Srt l) (hp:p∉l):∃l2,zDi l p=some l2∧Srt l2∧l2.length=l.length+1∧∀q,q∈l2↔q∈l∨q=p:=by
 have hFe:FU=1000000000:=rfl;obtain⟨m,g1,g2,g3,g4⟩:=zZz l p hl FU 0 (by omega) (by omega) (fun j hj=>by omega);have g1:zCX l p FU 0=some ((m:Nat):Int):=g1;have e1:subl l 0 ((m:Nat):Int)=l.take m:=by simp[subl]
 have e2:subl l ((m:Nat):Int) (l.length:Int)=l.drop m:=by
  simp only[subl,zj];rw[List.take_of_length_le (by simp)]
 refine⟨(([]++l.take m)++[p])++l.drop m,?_,?_,?_,?_⟩
 ·simp only[zDi,g1,za,z2J (show (0:Int)≤0 by omega) (show (0:Int)≤(m:Int) by omega) (show (m:Int)≤(l.length:Int) by omega),z2J (show (0:Int)≤(m:Int) by omega) (show (m:Int)≤(l.length:Int) by omega) (show (l.length:Int)≤(l.length:Int) by omega),e1,e2];rw[zBJ (by simp;omega)];simp only[za];rw[zBJ (by simp;omega)];simp only[za];rw[zBJ (by simp;omega)];rfl
 ·have hs2:Srt (l.take m++l.drop m):=by rw[List.take_append_drop];exact hs
  unfold Srt at hs2 ⊢;rw[List.pairwise_append]at hs2;obtain⟨s1,s2,s3⟩:=hs2;have hlow:∀a∈l.take m,lexL a p:=by
   intro a ha;obtain⟨j,hj⟩:=List.getElem?_of_mem ha;have hjm:j<m:=by
    rcases Nat.lt_or_ge j m with h|h
    ·exact h
    ·rw[List.getElem?_eq_none (by simp;omega)]at hj;cases hj
   rw[List.getElem?_take_of_lt hjm]at hj;exact g3 j hjm a hj
  have hhigh:∀b∈l.drop m,lexL p b:=by
   intro b hb;have hbl:b∈l:=List.mem_of_mem_drop hb;have hbp:b≠p:=fun e=>hp (e▸hbl);by_cases hm:m<l.length
   ·have e3:l.drop m=l[m]::l.drop (m+1):=List.drop_eq_getElem_cons hm;have hmp:l[m]≠p:=fun e=>hp (e▸zx hm);have h5:=z4v (g4 _ (zz hm)) hmp;rw[e3]at hb s2;rcases List.mem_cons.1 hb with h|h
    ·rw[h];exact h5
    ·exact z65 h5 ((List.pairwise_cons.1 s2).1 b h)
   ·rw[List.drop_eq_nil_of_le (by omega)]at hb;cases hb
  rw[zt,List.pairwise_append,List.pairwise_append];refine⟨⟨s1,List.pairwise_singleton _ _,fun a ha b hb=>?_⟩,s2,fun a ha b hb=>?_⟩
  ·rw[qf]at hb;subst hb;exact hlow a ha
  ·rw[List.mem_append,qf]at ha;rcases ha with ha|ha
   ·exact s3 a ha b hb
   ·subst ha;exact hhigh b hb
 ·simp;omega
 ·intro q;rw[List.mem_append,List.mem_append,zt,qf]
  conv=>rhs;rw[←List.take_append_drop m l,List.mem_append]
  constructor
  ·rintro ((h|h)|h)
   ·exact .inl (.inl h)
   ·exact .inr h
   ·exact .inl (.inr h)
  ·rintro ((h|h)|h)
   ·exact .inl (.inl h)
   ·exact .inr h
   ·exact .inl (.inr h)
def tryR (A B v r:Int) (out:List (Int×Int)):Option (List (Int×Int)):=
 (nz (w64 (2*A))).bind fun _=>
 bif eqI (Int.tmod (w64 (r - w64 (B*v))) (w64 (2*A))) 0 then
  (nz (w64 (2*A))).bind fun _=>(zCu out (w64 (Int.tdiv (w64 (r - w64 (B*v))) (w64 (2*A))),v)).bind fun y=>bif !y then zDi out (w64 (Int.tdiv (w64 (r - w64 (B*v))) (w64 (2*A))),v) else some out
 else some out
theorem zZk {A B v r:Int} {out:List (Int×Int)} (hA1:1≤A) (hA:A≤1000000) (hB1:-1000000≤B) (hB:B≤1000000) (hv:v.natAbs≤200000) (hr:r.natAbs≤1000000000) (hl:out.length≤9000000) (hs:Srt out):
  ∃o,tryR A B v r out=some o∧Srt o∧o.length≤out.length+1∧∀q,q∈o↔q∈out∨(q.2=v∧2*A*q.1=r - B*v):=by
 have b1:=zW (x:=B) (y:=v) (A:=1000000) (B:=200000) (by omega) hv;have e1:w64 (r - w64 (B*v))=r - B*v:=by rw[zX (n:=B*v) (by omega),zX (by omega)]
 have e2:w64 (2*A)=2*A:=zA (by omega);have hne:(2*A:Int)≠0:=by omega
 have hz:nz (2*A)=some ():=nzOk hne;unfold tryR;rw[e1,e2,hz];simp only[za];cases h1:eqI (Int.tmod (r - B*v) (2*A)) 0 with
 |true=>
  have m1:=zJX hne h1;generalize hx:Int.tdiv (r - B*v) (2*A)=x;rw[hx]at m1;have hxs:x.natAbs≤2000000000000:=by
   have h3:(2*A*x).natAbs=(2*A).natAbs*x.natAbs:=Int.natAbs_mul _ _;rw[m1]at h3;have h4:1*x.natAbs≤(2*A).natAbs*x.natAbs:=Nat.mul_le_mul_right _ (by omega);omega
  rw[zb,zX (n:=x) (by omega),z5B _ _ (by omega)];simp only[za];have huni:∀q:Int×Int,(q.2=v∧2*A*q.1=r - B*v)↔q=(x,v):=by
   rintro⟨q1,q2⟩;constructor
   ·rintro⟨h,h'⟩;have h:q2=v:=h;have h':2*A*q1=r - B*v:=h';have:q1=x:=Int.eq_of_mul_eq_mul_left hne (by omega);rw[h,this]
   ·intro h;obtain⟨rfl,rfl⟩:=Prod.mk.inj h;exact⟨rfl,m1⟩
  by_cases hm:(x,v)∈out
  ·rw[zd hm];refine⟨out,rfl,hs,by omega,fun q=>?_⟩;rw[huni];constructor
   ·exact fun h=>.inl h
   ·rintro (h|h)
    ·exact h
    ·rw[h];exact hm
  ·rw[ze hm];obtain⟨l2,k1,k2,k3,k4⟩:=z4l out (x,v) (by omega) hs hm;refine⟨l2,by simp only[zi,zb,k1],k2,by omega,fun q=>?_⟩;rw[huni,k4]
 |false=>
  refine⟨out,rfl,hs,by omega,fun q=>?_⟩;constructor
  ·exact fun h=>.inl h
  ·rintro (h|⟨_,h⟩)
   ·exact h
   ·rw[(zHL hne h).1]at h1;cases h1
theorem zXl {A B C v s t14 t16 t22 n y3 y4 r:Int} {out:List (Int×Int)} {fu:Nat} {t:Int} (ht:ltI t t22=true) (hg:getI [s,w64 (0 - s)] t=some r):
  jX v (A,B,C) t14 t16 t22 n s y3 y4 (fu+1) out t=(tryR A B v r out).bind fun o=>jX v (A,B,C) t14 t16 t22 n s y3 y4 fu o (w64 (t+1)):=by
 rw[jX,ht,zb,hg];simp only[za,zO];unfold tryR;cases nz (w64 (2*A)) with
 |none=>rfl
 |some u=>
  simp only[za];cases eqI (Int.tmod (w64 (r - w64 (B*v))) (w64 (2*A))) 0 with
  |false=>rfl
  |true=>
   simp only[zb];cases zCu out (w64 (Int.tdiv (w64 (r - w64 (B*v))) (w64 (2*A))),v) with
   |none=>rfl
   |some b=>cases b<;>rfl
theorem z0M {A B C v s t14 t16 n y3 y4:Int} {out:List (Int×Int)} (hA1:1≤A) (hA:A≤1000000) (hB1:-1000000≤B) (hB:B≤1000000) (hv:v.natAbs≤200000) (hs0:0≤s) (hs1:s≤1000000000) (hl:out.length≤8000000) (hs:Srt out):
  ∃o,jX v (A,B,C) t14 t16 2 n s y3 y4 FU out 0=some o∧Srt o∧o.length≤out.length+2∧∀q,q∈o↔q∈out∨(q.2=v∧(2*A*q.1+B*v)*(2*A*q.1+B*v)=s*s):=by
 obtain⟨m,hm⟩:∃m,FU=m+1+1+1:=⟨FU - 3,rfl⟩
 have en:w64 (0 - s)=-s:=by rw[zA (by omega)];omega
 obtain⟨o1,k1,k2,k3,k4⟩:=zZk (out:=out) (r:=s) hA1 hA hB1 hB hv (by omega) (by omega) hs;obtain⟨o2,j1,j2,j3,j4⟩:=zZk (out:=o1) (r:=-s) hA1 hA hB1 hB hv (by omega) (by omega) k2;have g0:getI [s,w64 (0 - s)] 0=some s:=rfl;have g1:getI [s,w64 (0 - s)] 1=some (w64 (0 - s)):=rfl;refine⟨o2,?_,j2,by omega,fun q=>?_⟩
 ·rw[hm,zXl rfl g0,k1,za,show w64 (0+1)=1 from rfl,zXl rfl g1,en,j1,za,show w64 (1+1)=2 from rfl,jX];rfl
 ·rw[j4,k4];constructor
  ·rintro ((h|⟨a,b⟩)|⟨a,b⟩)
   ·exact .inl h
   ·refine .inr ⟨a,?_⟩;rw[show 2*A*q.1+B*v=s by omega]
   ·refine .inr ⟨a,?_⟩;rw[show 2*A*q.1+B*v=-s by omega];grind
  ·rintro (h|⟨a,b⟩)
   ·exact .inl (.inl h)
   ·have:s*s<(s+1)*(s+1):=by
     have:(s+1)*(s+1)=s*s+2*s+1:=by grind
     omega
    rcases zMN hs0 (Int.le_refl (s*s)) this b with e|e
    ·exact .inl (.inr ⟨a,by omega⟩)
    ·exact .inr ⟨a,by omega⟩
theorem zXn {A B C s t14 n y3 y v:Int} {out:List (Int×Int)} {fu:Nat} {t:Int} (ht:ltI t t14=true) (hg:getI [y,w64 (0 - y)] t=some v):
  zBU (A,B,C) t14 n s y3 y (fu+1) out t=(jX v (A,B,C) t14 t 2 n s y3 y FU out 0).bind fun o=>zBU (A,B,C) t14 n s y3 y fu o (w64 (t+1)):=by
 rw[zBU,ht,zb,hg];simp only[za,zO];rfl
theorem z4x {A B C s n y3 y:Int} {out:List (Int×Int)} (hA1:1≤A) (hA:A≤1000000) (hB1:-1000000≤B) (hB:B≤1000000) (hy0:0≤y) (hy:y≤200000) (hs0:0≤s) (hs1:s≤1000000000) (hl:out.length≤7000000) (hs:Srt out):
  ∃o,zBU (A,B,C) 2 n s y3 y FU out 0=some o∧Srt o∧o.length≤out.length+4∧∀q,q∈o↔q∈out∨((q.2=y∨q.2=-y)∧(2*A*q.1+B*q.2)*(2*A*q.1+B*q.2)=s*s):=by
 obtain⟨m,hm⟩:∃m,FU=m+1+1+1:=⟨FU - 3,rfl⟩
 have en:w64 (0 - y)=-y:=by rw[zA (by omega)];omega
 obtain⟨o1,k1,k2,k3,k4⟩:=z0M (C:=C) (out:=out) (v:=y) (s:=s) (t14:=2) (t16:=0) (n:=n) (y3:=y3) (y4:=y) hA1 hA hB1 hB (by omega) hs0 hs1 (by omega) hs;obtain⟨o2,j1,j2,j3,j4⟩:=z0M (C:=C) (out:=o1) (v:=-y) (s:=s) (t14:=2) (t16:=1) (n:=n) (y3:=y3) (y4:=y) hA1 hA hB1 hB (by omega) hs0 hs1 (by omega) k2;have g0:getI [y,w64 (0 - y)] 0=some y:=rfl;have g1:getI [y,w64 (0 - y)] 1=some (w64 (0 - y)):=rfl;refine⟨o2,?_,j2,by omega,fun q=>?_⟩
 ·rw[hm,zXn rfl g0,k1,za,show w64 (0+1)=1 from rfl,zXn rfl g1,en,j1,za,show w64 (1+1)=2 from rfl,zBU];rfl
 ·rw[j4,k4];constructor
  ·rintro ((h|⟨a,b⟩)|⟨a,b⟩)
   ·exact .inl h
   ·exact .inr ⟨.inl a,by rw[a];exact b⟩
   ·exact .inr ⟨.inr a,by rw[a];exact b⟩
  ·rintro (h|⟨a|a,b⟩)
   ·exact .inl (.inl h)
   ·exact .inl (.inr ⟨a,by rw[a]at b;exact b⟩)
   ·exact .inr ⟨a,by rw[a]at b;exact b⟩
theorem zZZ {A B C d n:Int} (hA1:1≤A) (hA:A≤1000000) (hB1:-1000000≤B) (hB:B≤1000000) (hd:B*B - 4*A*C=d) (hd1:-2000≤d) (hd2:d≤-3) (hn1:1≤n) (hn:n≤10000):
  ∀(fu:Nat) (y:Int) (acc:List (Int×Int)),0≤y→y≤200001→200002 - y<fu→Srt acc→(∀p,p∈acc↔Sol A B C n p∧-y<p.2∧p.2<y)→(acc.length:Int)≤4*y→
  ∃l,zCn (A,B,C) n d fu y acc=some l∧Srt l∧l.length≤1000000∧∀p,p∈l↔Sol A B C n p
 |0,y,acc,h1,h2,h3,_,_,_=>by omega
 |fu+1,y,acc,h1,h2,h3,hs,hm,hl=>by
  rw[zCn];have b1:=zW (x:=d) (y:=y) (A:=2000) (B:=200001) (by omega) (by omega);have b2:=zW (x:=d*y) (y:=y) (A:=2000*200001) (B:=200001) b1 (by omega);have b3:=zW (x:=4*A) (y:=n) (A:=4000000) (B:=10000) (by omega) (by omega);have e0:w64 (0 - d)=-d:=by rw[zA (by omega)];omega
  have eN:-d*y*y=-(d*y*y):=by grind
  have eM:-d*y=-(d*y):=by grind
  have ec1:w64 (w64 (w64 (0 - d)*y)*y)=-(d*y*y):=by rw[e0,zX (n:=-d*y) (by rw[eM];omega),zX (by rw[eN];omega),eN]
  have ec2:w64 (w64 (4*A)*n)=4*A*n:=by rw[zX (n:=4*A) (by omega),zX (by omega)]
  have ec3:w64 (w64 (w64 (d*y)*y)+4*A*n)=d*y*y+4*A*n:=by rw[zX (n:=d*y) (by omega),zX (n:=d*y*y) (by omega),zX (by omega)]
  have hw1:w64 (y+1)=y+1:=zA (by omega);simp only[ec1,ec2,ec3,qU,za];by_cases hy:-(d*y*y)≤4*A*n
  ·have hyb:y≤200000:=by
    rcases Int.lt_or_le 200000 y with h|h
    ·exfalso
     have e5:y=200001:=by omega
     subst e5;have:d*200001*200001≤-3*200001*200001:=by omega
     omega
    ·exact h
   rw[zd hy,zb];generalize hq:d*y*y+4*A*n=q;have hq0:0≤q:=by omega
   obtain⟨s,g1,g2,g3,g4,g5⟩:=z0q hq0 (by omega);have hss:=zW (x:=s) (y:=s) (A:=1000000000) (B:=1000000000) (by omega) (by omega);rw[g1];simp only[za];rw[zX (n:=s*s) (by omega)];have hsol:∀p:Int×Int,(p.2=y∨p.2=-y)→(Sol A B C n p↔(2*A*p.1+B*p.2)*(2*A*p.1+B*p.2)=q):=by
    rintro⟨p1,p2⟩ hp;rw[z5x hA1 hd];have:d*p2*p2=d*y*y:=by
     rcases hp with h|h
     ·have h:p2=y:=h;rw[h]
     ·have h:p2=-y:=h;rw[h];grind
    rw[this,hq]
   by_cases hsq:s*s=q
   ·rw[hsq,zRn];have l2:(([y,w64 (0 - y)].length:Nat):Int)=2:=rfl;obtain⟨o,k1,k2,k3,k4⟩:=z4x (C:=C) (n:=n) (y3:=d) (out:=acc) hA1 hA hB1 hB h1 hyb g2 g3 (by omega) hs;simp only[zh,za,zc,zO,l2,k1,hw1];refine zZZ hA1 hA hB1 hB hd hd1 hd2 hn1 hn fu (y+1) o (by omega) (by omega) (by omega) k2 (fun p=>?_) (by omega);rw[k4,hm,hsq];constructor
    ·rintro (⟨a,b,c⟩|⟨a,b⟩)
     ·exact⟨a,by omega,by omega⟩
     ·exact⟨(hsol p a).2 b,by omega,by omega⟩
    ·rintro⟨a,b,c⟩;by_cases hp:p.2=y∨p.2=-y
     ·exact .inr ⟨hp,(hsol p hp).1 a⟩
     ·exact .inl ⟨a,by omega,by omega⟩
   ·rw[eqNe hsq];simp only[zi,za,zb,zO,hw1];refine zZZ hA1 hA hB1 hB hd hd1 hd2 hn1 hn fu (y+1) acc (by omega) (by omega) (by omega) hs (fun p=>?_) (by omega);rw[hm];constructor
    ·rintro⟨a,b,c⟩;exact⟨a,by omega,by omega⟩
    ·rintro⟨a,b,c⟩;by_cases hp:p.2=y∨p.2=-y
     ·exfalso
      have h5:=(hsol p hp).1 a;rcases zMN g2 g4 g5 h5 with e|e
      ·exact hsq (by rw[←e];exact h5)
      ·exact hsq (by rw[e]at h5;rw[←h5];grind)
     ·exact⟨a,by omega,by omega⟩
  ·rw[ze hy,zc];refine⟨acc,rfl,hs,by omega,fun p=>?_⟩;rw[hm];constructor
   ·exact fun h=>h.1
   ·intro h;obtain⟨p1,p2⟩:=p;have h5:=(z5x hA1 hd).1 h;have h6:=sqn (2*A*p1+B*p2);have hpy:p2.natAbs<y.natAbs:=by
     rcases Nat.lt_or_ge p2.natAbs y.natAbs with h7|h7
     ·exact h7
     ·exfalso
      have h8:y.natAbs*y.natAbs≤p2.natAbs*p2.natAbs:=Nat.mul_le_mul h7 h7;have h9:y*y=((y.natAbs*y.natAbs:Nat):Int):=Int.natAbs_mul_self.symm;have h10:p2*p2=((p2.natAbs*p2.natAbs:Nat):Int):=Int.natAbs_mul_self.symm;have h11:(-d)*(y*y)≤(-d)*(p2*p2):=zp (by omega) (by omega);have e1:(-d)*(y*y)=-(d*y*y):=by grind
      have e2:(-d)*(p2*p2)=-(d*p2*p2):=by grind
      omega
    exact⟨h,by show -y<p2;omega,by show p2<y;omega⟩
theorem z7f {A B C n:Int} (hA1:1≤A) (hA:A≤1000000) (hB1:-1000000≤B) (hB:B≤1000000) (hdw:zL (A,B,C)=some (B*B - 4*A*C)) (hd1:-2000≤B*B - 4*A*C) (hd2:B*B - 4*A*C≤-3) (hn1:1≤n) (hn:n≤10000):
  ∃l,zE2 (A,B,C) n=some l∧Srt l∧l.length≤1000000∧∀p,p∈l↔Sol A B C n p:=by
 have hFe:((FU:Nat):Int)=1000000000:=rfl;obtain⟨l,k1,k2,k3,k4⟩:=zZZ (A:=A) (B:=B) (C:=C) hA1 hA hB1 hB rfl hd1 hd2 hn1 hn FU 0 [] (by omega) (by omega) (by omega) List.Pairwise.nil (fun p=>by
  constructor
  ·intro h;cases h
  ·rintro⟨a,b,c⟩;omega) (by simp)
 refine⟨l,?_,k2,k3,k4⟩;simp only[zE2,zGC,hdw,za,k1]
theorem zQv {f:F3} (h:zQ f=some true):qT f=some true:=by
 obtain⟨b,hb⟩:=zHg f;cases b with
 |true=>exact hb
 |false=>
  simp only[zQ,hb,za,zc]at h;cases h
theorem z36 {D:Int} (hD1:-2000≤D) (hD2:D≤-3) {f:F3} (h:PrRc D f) (n:Int):∃m b,zAK f n=some (m,b)∧zAI f n=some (m,b)∧0≤m∧m≤1000000:=by
 obtain⟨c1,c2⟩:=zGD hD1 (by omega) h;have hs:=zQv c1;have hs2:zCd f=some true:=by rw[zUU];exact hs
 obtain⟨⟨r1,r2,r3,r4,r5,r6⟩,_⟩:=zHH hD1 h;have hd:=h.2.2.1;unfold zAK zCB zAI zEf zAv;rw[hs,hs2];simp only[za,zh,zc,zEm,qU];by_cases h1:1≤n
 ·by_cases h2:n≤10000
  ·obtain⟨l,l1,l2,l3,l4⟩:=zYu (A:=f.1) (B:=f.2.1) (C:=f.2.2) (n:=n) r1 r5 (by omega) (by omega) (by omega) (by rw[hd];exact c2) (by rw[hd];exact hD1) (by rw[hd];exact hD2) h1 h2;obtain⟨k,k1,k2,k3,k4⟩:=z7f (A:=f.1) (B:=f.2.1) (C:=f.2.2) (n:=n) r1 (by omega) (by omega) (by omega) (by rw[hd];exact c2) (by rw[hd];exact hD1) (by rw[hd];exact hD2) h1 h2;have e:l=k:=zZo l2 k2 fun p=>(l4 p).trans (k4 p).symm;subst e;have l1':zB9 f n=some l:=l1;have k1':zE2 f n=some l:=k1;rw[zd h1,zd h2];simp only[zb,zh,zc,l1',k1',za];exact⟨_,_,rfl,rfl,by omega,by omega⟩
  ·rw[zd h1,ze h2];exact⟨0,false,rfl,rfl,by omega,by omega⟩
 ·rw[ze h1];exact⟨0,false,rfl,rfl,by omega,by omega⟩
def pmL:List Int→List Int→Bool
 |[],[]=>true
 |x::xs,y::ys=>bif eqI x y&&(eqI x 1||eqI x (-1)) then pmL xs ys else false
 |_,_=>false
def gOne (f:F3):Bool:=match zB6 f,zE3 f with
 |some a,some b=>pmL a b&&Nat.ble a.length 20
 |_,_=>false
def gqO (n a b:Nat):Bool:=bif Nat.beq ((b*b+n) % (4*a)) 0 then fN ((b*b+n) / (4*a)) fun c=>(bif Nat.ble a c&&Nat.beq (Nat.gcd a (Nat.gcd b c)) 1 then (bif gOne ((a:Int),(b:Int),(c:Int)) then gOne ((a:Int),-(b:Int),(c:Int)) else false) else true) else true
def gqB (n a:Nat):Nat→Bool
 |0=>gqO n a 0
 |b+1=>bif gqO n a (b+1) then gqB n a b else false
def gqA (n:Nat):Nat→Bool
 |0=>true
 |a+1=>bif Nat.ble (3*(a+1)*(a+1)) n then (bif gqB n (a+1) (a+1) then gqA n a else false) else gqA n a
def gqN:Nat→Nat→Bool
 |0,_=>true
 |k+1,n=>bif gqA n 25 then gqN k (n+1) else false
theorem jQ:∀(k n:Nat),gqN k n=true→∀m,n≤m→m<n+k→gqA m 25=true
 |0,n,_,m,h1,h2=>by omega
 |k+1,n,h,m,h1,h2=>by
  unfold gqN at h;cases hh:gqA n 25 with
  |false=>rw[hh]at h;cases h
  |true=>
   rw[hh,zb]at h;by_cases e:m=n
   ·subst e;exact hh
   ·exact jQ k (n+1) h m (by omega) (by omega)
theorem z7N:gqN 50 3=true:=by decide+kernel
theorem z7M:gqN 50 53=true:=by decide+kernel
theorem z7L:gqN 50 103=true:=by decide+kernel
theorem z7K:gqN 50 153=true:=by decide+kernel
theorem z7J:gqN 50 203=true:=by decide+kernel
theorem z7I:gqN 50 253=true:=by decide+kernel
theorem z7H:gqN 50 303=true:=by decide+kernel
theorem z7G:gqN 50 353=true:=by decide+kernel
theorem z7F:gqN 50 403=true:=by decide+kernel
theorem z7E:gqN 50 453=true:=by decide+kernel
theorem z7D:gqN 50 503=true:=by decide+kernel
theorem z7C:gqN 50 553=true:=by decide+kernel
theorem z7B:gqN 50 603=true:=by decide+kernel
theorem z7A:gqN 50 653=true:=by decide+kernel
theorem z6z:gqN 50 703=true:=by decide+kernel
theorem z6y:gqN 50 753=true:=by decide+kernel
theorem z6x:gqN 50 803=true:=by decide+kernel
theorem z6w:gqN 50 853=true:=by decide+kernel
theorem z6v:gqN 50 903=true:=by decide+kernel
theorem z6u:gqN 50 953=true:=by decide+kernel
theorem z6t:gqN 50 1003=true:=by decide+kernel
theorem z6s:gqN 50 1053=true:=by decide+kernel
theorem z6r:gqN 50 1103=true:=by decide+kernel
theorem z6q:gqN 50 1153=true:=by decide+kernel
theorem z6p:gqN 50 1203=true:=by decide+kernel
theorem z6o:gqN 50 1253=true:=by decide+kernel
theorem z6n:gqN 50 1303=true:=by decide+kernel
theorem z6m:gqN 50 1353=true:=by decide+kernel
theorem z6l:gqN 50 1403=true:=by decide+kernel
theorem z6k:gqN 50 1453=true:=by decide+kernel
theorem z6j:gqN 50 1503=true:=by decide+kernel
theorem z6i:gqN 50 1553=true:=by decide+kernel
theorem z6h:gqN 50 1603=true:=by decide+kernel
theorem z6g:gqN 50 1653=true:=by decide+kernel
theorem z6f:gqN 50 1703=true:=by decide+kernel
theorem z6e:gqN 50 1753=true:=by decide+kernel
theorem z6d:gqN 50 1803=true:=by decide+kernel
theorem z6c:gqN 50 1853=true:=by decide+kernel
theorem z6b:gqN 50 1903=true:=by decide+kernel
theorem z6a:gqN 50 1953=true:=by decide+kernel
theorem z69 {n:Nat} (h1:3≤n) (h2:n≤2000):gqA n 25=true:=by
 rcases Nat.lt_or_ge n 1003 with h|h
 ·skip
  rcases Nat.lt_or_ge n 503 with h|h
  ·skip
   rcases Nat.lt_or_ge n 253 with h|h
   ·skip
    rcases Nat.lt_or_ge n 103 with h|h
    ·skip
     rcases Nat.lt_or_ge n 53 with h|h
     ·skip
      exact jQ 50 3 z7N n (by omega) (by omega)
     ·skip
      exact jQ 50 53 z7M n (by omega) (by omega)
    ·skip
     rcases Nat.lt_or_ge n 153 with h|h
     ·skip
      exact jQ 50 103 z7L n (by omega) (by omega)
     ·skip
      rcases Nat.lt_or_ge n 203 with h|h
      ·skip
       exact jQ 50 153 z7K n (by omega) (by omega)
      ·skip
       exact jQ 50 203 z7J n (by omega) (by omega)
   ·skip
    rcases Nat.lt_or_ge n 353 with h|h
    ·skip
     rcases Nat.lt_or_ge n 303 with h|h
     ·skip
      exact jQ 50 253 z7I n (by omega) (by omega)
     ·skip
      exact jQ 50 303 z7H n (by omega) (by omega)
    ·skip
     rcases Nat.lt_or_ge n 403 with h|h
     ·skip
      exact jQ 50 353 z7G n (by omega) (by omega)
     ·skip
      rcases Nat.lt_or_ge n 453 with h|h
      ·skip
       exact jQ 50 403 z7F n (by omega) (by omega)
      ·skip
       exact jQ 50 453 z7E n (by omega) (by omega)
  ·skip
   rcases Nat.lt_or_ge n 753 with h|h
   ·skip
    rcases Nat.lt_or_ge n 603 with h|h
    ·skip
     rcases Nat.lt_or_ge n 553 with h|h
     ·skip
      exact jQ 50 503 z7D n (by omega) (by omega)
     ·skip
      exact jQ 50 553 z7C n (by omega) (by omega)
    ·skip
     rcases Nat.lt_or_ge n 653 with h|h
     ·skip
      exact jQ 50 603 z7B n (by omega) (by omega)
     ·skip
      rcases Nat.lt_or_ge n 703 with h|h
      ·skip
       exact jQ 50 653 z7A n (by omega) (by omega)
      ·skip
       exact jQ 50 703 z6z n (by omega) (by omega)
   ·skip
    rcases Nat.lt_or_ge n 853 with h|h
    ·skip
     rcases Nat.lt_or_ge n 803 with h|h
     ·skip
      exact jQ 50 753 z6y n (by omega) (by omega)
     ·skip
      exact jQ 50 803 z6x n (by omega) (by omega)
    ·skip
     rcases Nat.lt_or_ge n 903 with h|h
     ·skip
      exact jQ 50 853 z6w n (by omega) (by omega)
     ·skip
      rcases Nat.lt_or_ge n 953 with h|h
      ·skip
       exact jQ 50 903 z6v n (by omega) (by omega)
      ·skip
       exact jQ 50 953 z6u n (by omega) (by omega)
 ·skip
  rcases Nat.lt_or_ge n 1503 with h|h
  ·skip
   rcases Nat.lt_or_ge n 1253 with h|h
   ·skip
    rcases Nat.lt_or_ge n 1103 with h|h
    ·skip
     rcases Nat.lt_or_ge n 1053 with h|h
     ·skip
      exact jQ 50 1003 z6t n (by omega) (by omega)
     ·skip
      exact jQ 50 1053 z6s n (by omega) (by omega)
    ·skip
     rcases Nat.lt_or_ge n 1153 with h|h
     ·skip
      exact jQ 50 1103 z6r n (by omega) (by omega)
     ·skip
      rcases Nat.lt_or_ge n 1203 with h|h
      ·skip
       exact jQ 50 1153 z6q n (by omega) (by omega)
      ·skip
       exact jQ 50 1203 z6p n (by omega) (by omega)
   ·skip
    rcases Nat.lt_or_ge n 1353 with h|h
    ·skip
     rcases Nat.lt_or_ge n 1303 with h|h
     ·skip
      exact jQ 50 1253 z6o n (by omega) (by omega)
     ·skip
      exact jQ 50 1303 z6n n (by omega) (by omega)
    ·skip
     rcases Nat.lt_or_ge n 1403 with h|h
     ·skip
      exact jQ 50 1353 z6m n (by omega) (by omega)
     ·skip
      rcases Nat.lt_or_ge n 1453 with h|h
      ·skip
       exact jQ 50 1403 z6l n (by omega) (by omega)
      ·skip
       exact jQ 50 1453 z6k n (by omega) (by omega)
  ·skip
   rcases Nat.lt_or_ge n 1753 with h|h
   ·skip
    rcases Nat.lt_or_ge n 1603 with h|h
    ·skip
     rcases Nat.lt_or_ge n 1553 with h|h
     ·skip
      exact jQ 50 1503 z6j n (by omega) (by omega)
     ·skip
      exact jQ 50 1553 z6i n (by omega) (by omega)
    ·skip
     rcases Nat.lt_or_ge n 1653 with h|h
     ·skip
      exact jQ 50 1603 z6h n (by omega) (by omega)
     ·skip
      rcases Nat.lt_or_ge n 1703 with h|h
      ·skip
       exact jQ 50 1653 z6g n (by omega) (by omega)
      ·skip
       exact jQ 50 1703 z6f n (by omega) (by omega)
   ·skip
    rcases Nat.lt_or_ge n 1853 with h|h
    ·skip
     rcases Nat.lt_or_ge n 1803 with h|h
     ·skip
      exact jQ 50 1753 z6e n (by omega) (by omega)
     ·skip
      exact jQ 50 1803 z6d n (by omega) (by omega)
    ·skip
     rcases Nat.lt_or_ge n 1903 with h|h
     ·skip
      exact jQ 50 1853 z6c n (by omega) (by omega)
     ·skip
      rcases Nat.lt_or_ge n 1953 with h|h
      ·skip
       exact jQ 50 1903 z6b n (by omega) (by omega)
      ·skip
       exact jQ 50 1953 z6a n (by omega) (by omega)
theorem z2V:∀{a b:List Int},pmL a b=true→a=b∧∀x∈a,x=1∨x=-1
 |[],[],_=>⟨rfl,by intro x hx;cases hx⟩
 |[],_::_,h=>by cases h
 |_::_,[],h=>by cases h
 |x::xs,y::ys,h=>by
  unfold pmL at h;cases hh:(eqI x y&&(eqI x 1||eqI x (-1))) with
  |false=>rw[hh]at h;cases h
  |true=>
   rw[hh,zb]at h;obtain⟨h1,h2⟩:=z2V h;rw[zk,Bool.or_eq_true,jE,jE,jE,beq_iff_eq,beq_iff_eq,beq_iff_eq]at hh;refine⟨by rw[hh.1,h1],fun z hz=>?_⟩;rcases List.mem_cons.1 hz with e|e
   ·subst e;exact hh.2
   ·exact h2 z e
theorem z0T {f:F3} (h:gOne f=true):∃l,zB6 f=some l∧zE3 f=some l∧l.length≤20∧∀x∈l,x=1∨x=-1:=by
 unfold gOne at h;split at h
 ·rename_i a b ha hb;rw[zk]at h;obtain⟨h1,h2⟩:=z2V h.1;exact⟨a,ha,by rw[hb,h1],Nat.le_of_ble_eq_true h.2,h2⟩
 ·cases h
theorem z2y:∀(k:Nat) {n a:Nat},gqB n a k=true→∀b,b≤k→gqO n a b=true
 |0,n,a,h,b,hb=>by
  have:b=0:=by omega
  subst this;exact h
 |k+1,n,a,h,b,hb=>by
  unfold gqB at h;cases hh:gqO n a (k+1) with
  |false=>rw[hh]at h;cases h
  |true=>
   rw[hh,zb]at h;by_cases e:b=k+1
   ·subst e;exact hh
   ·exact z2y k h b (by omega)
theorem z2z:∀(k:Nat) {n:Nat},gqA n k=true→∀a,1≤a→a≤k→3*a*a≤n→gqB n a a=true
 |0,n,h,a,h1,h2,h3=>by omega
 |k+1,n,h,a,h1,h2,h3=>by
  unfold gqA at h;by_cases e:a=k+1
  ·subst e;have:Nat.ble (3*(k+1)*(k+1)) n=true:=Nat.ble_eq_true_of_le h3;rw[this,zb]at h;cases hh:gqB n (k+1) (k+1) with
   |true=>rfl
   |false=>rw[hh]at h;cases h
  ·have hk:gqA n k=true:=by
    cases h4:Nat.ble (3*(k+1)*(k+1)) n with
    |false=>rw[h4,zc]at h;exact h
    |true=>
     rw[h4,zb]at h;cases hh:gqB n (k+1) (k+1) with
     |true=>rw[hh,zb]at h;exact h
     |false=>rw[hh]at h;cases h
   exact z2z k hk a h1 (by omega) h3
theorem z3c {D:Int} (hD1:-2000≤D) (hD2:D≤-3) {f:F3} (h:PrRc D f):∃l,zB6 f=some l∧zE3 f=some l∧l.length≤20∧∀x∈l,x=1∨x=-1:=by
 obtain⟨A,B,C⟩:=f;obtain⟨⟨r1,r2,r3,r4,r5,r6⟩,r7⟩:=zHH hD1 h;obtain⟨k1,⟨⟨k2,k3⟩,k4⟩,k5,k6⟩:=h;dsimp only at r1 r2 r3 r4 r5 r6 r7 k1 k2 k3 k4 k5 k6;have hs:=zVn (a:=A) (b:=B) (c:=C) (d:=D) k1 ⟨⟨k2,k3⟩,k4⟩ k5;obtain⟨n,hn⟩:∃n:Nat,D=-(n:Int):=⟨D.natAbs,by omega⟩
 obtain⟨a,ha⟩:∃a:Nat,A=(a:Int):=⟨A.natAbs,by omega⟩
 obtain⟨c,hc⟩:∃c:Nat,C=(c:Int):=⟨C.natAbs,by omega⟩
 obtain⟨b,hb⟩:∃b:Nat,B=(b:Int)∨B=-(b:Int):=⟨B.natAbs,by omega⟩
 have hbb:B*B=((b*b:Nat):Int):=by rcases hb with e|e<;>rw[e]<;>push_cast<;>grind
 have hnat:b*b+n=4*a*c:=by
  have:((b*b+n:Nat):Int)=((4*a*c:Nat):Int):=by
   push_cast;rw[hbb,ha,hc,hn]at k5;push_cast at k5;omega
  exact_mod_cast this
 have hsn:3*a*a≤n:=by
  have:((3*a*a:Nat):Int)≤(n:Int):=by
   push_cast;rw[ha,hn]at hs;omega
  exact_mod_cast this
 have t1:=z2z 25 (z69 (n:=n) (by omega) (by omega)) a (by omega) (by omega) hsn;have t2:=z2y a t1 b (by omega);unfold gqO at t2;have e1:(b*b+n) % (4*a)=0:=by rw[hnat];exact Nat.mul_mod_right _ _
 have e2:(b*b+n) / (4*a)=c:=by rw[hnat];exact Nat.mul_div_cancel_left c (by omega)
 rw[e1,e2,z3K]at t2;have e3:(Nat.ble a c&&Nat.beq (Nat.gcd a (Nat.gcd b c)) 1)=true:=by
  rw[zk];refine⟨Nat.ble_eq_true_of_le (by omega),?_⟩;have hg:Nat.gcd a (Nat.gcd b c)=1:=by
   have d1:((Nat.gcd a (Nat.gcd b c):Nat):Int)∣A:=by rw[ha];exact Int.natCast_dvd_natCast.2 (Nat.gcd_dvd_left _ _)
   have d2:((Nat.gcd a (Nat.gcd b c):Nat):Int)∣B:=by
    have:Nat.gcd a (Nat.gcd b c)∣b:=Nat.dvd_trans (Nat.gcd_dvd_right _ _) (Nat.gcd_dvd_left _ _);rcases hb with e|e<;>rw[e]
    ·exact Int.natCast_dvd_natCast.2 this
    ·exact Int.dvd_neg.2 (Int.natCast_dvd_natCast.2 this)
   have d3:((Nat.gcd a (Nat.gcd b c):Nat):Int)∣C:=by rw[hc];exact Int.natCast_dvd_natCast.2 (Nat.dvd_trans (Nat.gcd_dvd_right _ _) (Nat.gcd_dvd_right _ _))
   have:=Int.eq_one_of_dvd_one (by omega) (k6 _ d1 d2 d3);omega
  rw[hg];rfl
 have t3:(bif gOne ((a:Int),(b:Int),(c:Int)) then gOne ((a:Int),-(b:Int),(c:Int)) else false)=true:=by
  rw[e3]at t2;exact t2
 cases g1:gOne ((a:Int),(b:Int),(c:Int)) with
 |false=>rw[g1]at t3;cases t3
 |true=>
  rw[g1,zb]at t3;rw[ha,hc];rcases hb with e|e<;>rw[e]
  ·exact z0T g1
  ·exact z0T t3
end Go.Proofs.YtahdjphocippeaaGreatDoor
namespace Go.Proofs.YtahdjphocippeaaGreatDoor
open Go.RowKit
section
variable {P:Program}
theorem zBG {ops:Array Oper} {rest:List Oper} {s:St} {J:St→Prop} (c:Bool) (h1:c=true→XL P ops rest s J) (h2:c=false→XL P ops rest s J):XL P ops rest s J:=by
 cases c with
 |true=>exact h1 rfl
 |false=>exact h2 rfl
theorem z0g {ops:Array Oper} {rest:List Oper} {s s1:St} {J:St→Prop} (m:List Bool) (ids:List Nat) (h:XL P ops rest s (fun s'=>s'.keep m ids=s1)) (hj:J s1):XL P ops rest s J:=by
 intro B w0 ok0 ok σ a w hR Q hQ;refine h _ _ _ _ _ _ _ hR Q fun s' a' w' ok' σ' hs hR'=>?_
 subst hs;exact hQ _ a' w' ok' σ' hj (hR'.le (zGh m ids s'))
theorem zYX {id:Nat} {ops:Array Oper} {s s1:St} {J:Exit→St→Prop} (m:List Bool) (ids:List Nat) (h:XL P ops ops.toList s (fun s'=>s'.keep m ids=s1)) (hj:J .normal s1):V P (.region id ops false) s J:=zEy (z0g m ids h hj)
theorem jB {id:Nat} {ops:Array Oper} {y:Code} {s s1:St} {J:Exit→St→Prop} (m:List Bool) (ids:List Nat) (h:XL P ops ops.toList s (fun s'=>s'.keep m ids=s1)) (hv:V P y s1 J):V P (.seq (.region id ops false) y) s J:=zCk (zYX m ids h hv)
def frz1 (id:Nat) (t:AV):AV→AV
 | .ow k=>bif k==id then t else .ow k
 | .pt k o=>bif k==id then .bot else .pt k o
 | .po k z i o=>bif k==id then .bot else .po k z i o
 | .tc _ _=>.bot
 |av=>av
def St.frz (s:St) (id:Nat) (els:List (List Tr)):St:=⟨s.T.map (frz1 id (.c (.sl els))),rmE id s.E⟩
theorem z5E (s:St) (id:Nat) (els:List (List Tr)) (t:Nat):(s.frz id els).get t=frz1 id (.c (.sl els)) (s.get t):=by
 unfold St.frz St.get;simp only[List.getElem?_map];cases s.T[t]?<;>rfl
theorem zMY (s:St) (id:Nat) (els:List (List Tr)) (j:Nat) (e:Ent) (h:(s.frz id els).ent j=some e):j≠id∧s.ent j=some e:=by
 have h2:(rmE id s.E).lookup j=some e:=h;rw[zC2]at h2;split at h2
 ·cases h2
 ·rename_i hne;exact⟨hne,h2⟩
theorem z6N {B:Fr} {w0:World} {ok0 ok:Nat→Prop} {σ:Nat→Loc} {s:St} {a:Act} {w:World} (hR:R B w0 ok0 ok σ s a w) (id:Nat) {T sz:Nat} {els:List (List Tr)} (he:s.ent id=some (.arr T sz els)):R B w0 ok0 (fun g=>ok g∨(σ id).blk=some g) σ (s.frz id els) a w:=by
 have hup:∀g,ok g→ok g∨(σ id).blk=some g:=fun g hg=>.inl hg;refine⟨⟨by simpa [St.frz] using hR.core.len,fun g hg=>?_,hR.core.lib.mono hup (fun _ _=>rfl),fun t=>?_,fun j e hj=>?_,fun j e g hj hg=>?_,fun i j e f g hi hj h1 h2=>?_⟩,hR.defers,hR.below,hR.base,fun g hg=>.inl (hR.old g hg),fun g hg=>?_,fun j e g hj hg=>hR.own j e g (zMY s id els j e hj).2 hg⟩
 ·rcases hg with hg|hg
  ·exact hR.core.okL g hg
  ·exact (hR.core.blk id _ g he hg).2
 ·rw[z5E];have h1:=hR.core.tmp t;generalize s.get t=av at h1;have same:Rel (fun g=>ok g∨(σ id).blk=some g) σ w av (a.tmps.getD t undef):=h1.mono0 hup fun _ _=>rfl;cases av with
  |ow k=>
   simp only[frz1];cases hk:k==id with
   |false=>exact same
   |true=>
    have e1:k=id:=by simpa using hk
    subst e1;have hle:Le ⟨s.T,[(k,.arr T sz els)]⟩ s:=⟨Nat.le_refl _,fun t=>.inr rfl,fun j e hj=>by
     unfold St.ent at hj;simp only[List.lookup]at hj;split at hj
     ·rename_i hjk;have:j=k:=by simpa using hjk
      subst this;injection hj with hj;subst hj;exact he
     ·cases hj⟩
    have h2:=zLq (hR.le hle).core h1;have e2:zI9 ⟨s.T,[(k,.arr T sz els)]⟩ (.ow k)=.c (.sl els):=by
     simp[zI9,St.entc,St.ent,List.lookup,Ent.core]
    rw[e2]at h2;refine h2.mono0 (fun g hg=>?_) fun _ _=>rfl;rcases hg with hg|⟨j,e,hj,hg⟩
    ·exact .inl hg
    ·refine .inr ?_
     unfold St.ent at hj;simp only[List.lookup]at hj;split at hj
     ·rename_i hjk;have:j=k:=by simpa using hjk
      subst this;exact hg
     ·cases hj
  |pt k o=>
   simp only[frz1];cases k==id with
   |false=>exact same
   |true=>exact trivial
  |po k z i o=>
   simp only[frz1];cases k==id with
   |false=>exact same
   |true=>exact trivial
  |tc x r=>exact trivial
  |tn=>exact same
  |bot=>exact same
  |c t=>exact same
  |ag cs=>exact same
  |pe cs=>exact same
  |fn f caps=>exact same
  |er b=>exact same
  |vw id els m=>exact same
  |sf id z i=>exact same
 ·obtain⟨_,h2⟩:=zMY s id els j e hj;exact (hR.core.ent j e h2).mono hup (fun _ _=>rfl) fun _ _=>rfl
 ·obtain⟨h1,h2⟩:=zMY s id els j e hj;obtain⟨h3,h4⟩:=hR.core.blk j e g h2 hg;refine⟨fun h5=>?_,h4⟩;rcases h5 with h5|h5
  ·exact h3 h5
  ·exact h1 (hR.core.inj _ _ _ _ _ h2 he hg h5)
 ·exact hR.core.inj i j e f g (zMY s id els i e hi).2 (zMY s id els j f hj).2 h1 h2
 ·rcases hg with hg|hg
  ·exact hR.fresh g hg
  ·exact .inr (hR.own id _ g he hg)
theorem zUt {ops:Array Oper} {rest:List Oper} {s s1:St} {J:St→Prop} (id:Nat) {T sz:Nat} {els:List (List Tr)} (he:s.ent id=some (.arr T sz els)) (hs:s.frz id els=s1) (h:XL P ops rest s1 J):XL P ops rest s J:=by
 subst hs;exact fun _ _ _ _ _ _ _ hR Q hQ=>h _ _ _ _ _ _ _ (z6N hR id he) Q hQ
theorem z5j {l:List Oper} {ms:List Nat} {n1:Nat} {css:List (List Cd)} {s0:St} {rs:List Res} {K K':St→Prop} (h:DL P l ms n1 css s0 rs K) (hK:∀s,K s→K' s):DL P l ms n1 css s0 rs K':=by
 intro hchk;obtain⟨more,h1,h2,h3⟩:=h hchk;exact⟨more,h1,h2,hK _ h3⟩
theorem z4V {id:Nat} {l:List Oper} {s s1:St} {J:Exit→St→Prop} (ms:List Nat) (n1:Nat) (css:List (List Cd)) (m:List Bool) (ids:List Nat) (hm:P.follows .mixedOrders=true) (hchk:zHv l ms n1 css=true)
  (h:DL P l ms n1 css (prep (l.take n1) s) [] (fun s'=>XL P l.toArray (l.drop n1) s' (fun s''=>s''.keep m ids=s1))) (hj:J .normal s1):V P (.region id l.toArray true) s J:=
 z4W ms n1 css hm hchk (z5j h fun s' hs=>z0g m ids hs hj)
theorem z0k {id:Nat} {l:List Oper} {y:Code} {s s1:St} {J:Exit→St→Prop} (ms:List Nat) (n1:Nat) (css:List (List Cd)) (m:List Bool) (ids:List Nat) (hm:P.follows .mixedOrders=true) (hchk:zHv l ms n1 css=true)
  (h:DL P l ms n1 css (prep (l.take n1) s) [] (fun s'=>XL P l.toArray (l.drop n1) s' (fun s''=>s''.keep m ids=s1))) (hv:V P y s1 J):V P (.seq (.region id l.toArray true) y) s J:=zCk (z4V ms n1 css m ids hm hchk h hv)
theorem zA3 {o:Oper} {s:St} {c x y:Operand} {b p q:Bool} (ho:o.op=.pick c x y) (hc:s.ev c=.c (.v (.bool b))) (hb:b=true) (hx:s.ev x=.c (.v (.bool p))):Y0 P o s (Bo (bif b then p else q)):=by
 subst hb;have h:=zMk (P:=P) ho hc;rw[zb,hx]at h;exact h
theorem zBF {o:Oper} {s:St} {c x y:Operand} {b p q:Bool} (ho:o.op=.pick c x y) (hc:s.ev c=.c (.v (.bool b))) (hb:b=false) (hy:s.ev y=.c (.v (.bool q))):Y0 P o s (Bo (bif b then p else q)):=by
 subst hb;have h:=zMk (P:=P) ho hc;rw[zc,hy]at h;exact h
theorem z4B {o:Oper} {s:St} {c x y:Operand} {b:Bool} (ho:o.op=.pick c x y) (hc:s.ev c=.c (.v (.bool b))) (hb:b=true):Y0 P o s (s.ev x):=by
 subst hb;exact z3z ho hc
theorem z4C {o:Oper} {s:St} {c x y:Operand} {b:Bool} (ho:o.op=.pick c x y) (hc:s.ev c=.c (.v (.bool b))) (hb:b=false):Y0 P o s (s.ev y):=by
 subst hb;exact z4A ho hc
theorem zTe {z:Array Value} (hz:zEv z=true) (n:Nat):(madeCells z n).toList.all Value.oneCell'=true:=by
 unfold madeCells;rw[List.all_eq_true];intro x hx;simp only[Array.toList_map,List.mem_map]at hx;obtain⟨k,_,rfl⟩:=hx;rcases Nat.lt_or_ge (k % z.size) z.size with h|h
 ·rw[getElem!_pos z _ h];exact (List.all_eq_true.1 hz) _ (by simp)
 ·rw[getElem!_neg z _ (by omega)];rfl
def zGT:Nat→List (Nat×AV)→Option (List (List Tr))
 |_,[]=>some []
 |k,(i,av)::r=>bif Nat.beq i k then (match zBd av,zGT (k+1) r with
  |some cs,some es=>some (cs::es)
  |_,_=>none) else none
theorem zRm (sz:Nat):∀(ps:List (Nat×AV)) (k:Nat) (els:List (List Tr)) (pre post:List Tr),zGT k ps=some els→(∀e,e∈els→e.length=sz)→pre.length=k*sz→post.length=els.length*sz→zOi (fun i=>some (i*sz,sz)) (pre++post) ps=some (pre++els.flatten)
 |[],k,els,pre,post,h,hs,h1,h2=>by
  simp only[zGT]at h;injection h with h;subst h;have:post=[]:=List.eq_nil_of_length_eq_zero (by simpa using h2);subst this;rfl
 |(i,av)::r,k,els,pre,post,h,hs,h1,h2=>by
  simp only[zGT]at h;cases hb:Nat.beq i k with
  |false=>rw[hb]at h;cases h
  |true=>
   have hik:i=k:=Nat.eq_of_beq_eq_true hb;subst hik;rw[hb]at h;simp only[zb]at h;split at h
   ·rename_i cs es hc he;injection h with h;subst h;have hl:cs.length=sz:=hs cs (by simp);simp only[zg,Nat.add_mul,Nat.one_mul]at h2;simp only[zOi,hc];rw[if_neg (by simp only[zf];omega)];have e:splice (pre++post) (i*sz) cs=(pre++cs)++post.drop sz:=by
     unfold splice;rw[←h1,List.take_left,hl,List.drop_append,List.drop_eq_nil_of_le (by omega)];rw[show pre.length+sz - pre.length=sz by omega];simp
    rw[e,zRm sz r (i+1) es (pre++cs) (post.drop sz) he (fun x hx=>hs x (by simp[hx])) (by simp[hl,h1,Nat.add_mul]) (by simp;omega)];simp
   ·cases h
theorem zGN {o:Oper} {s:St} {t e sz n:Nat} {z:Value} {parts:Array (Nat×Operand)} {els:List (List Tr)} (ht:P.underlying t=some (.slice e)) (hi:(P.info? e).map (fun i=>(i.zero,i.size))=some (some z,sz)) (hz:zEv z.cells=true) (hsz:0<sz) (ho:o.op=.buildSlice t n parts)
  (hp:zGT 0 (evP s parts.toList)=some els) (hn:els.length=n) (hs:∀e,e∈els→e.length=sz) (hmax:n*sz≤16777216) (hpos:0<n):Y1 P o s (.ow 0) [(0,.arr e sz els)]:=
 zH2 fun ok σ a w hC=>by
  cases hii:P.info? e with
  |none=>rw[hii]at hi;simp at hi
  |some i=>
   have hi2:i.zero=some z∧i.size=sz:=by rw[hii]at hi;simpa using hi
   have hzall:=zTe hz (n*sz);have hzl:(madeCells z.cells (n*sz)).toList.length=n*sz:=by
    rw[Array.length_toList];exact size_madeCells _ _
   have hf:=zRm sz (evP s parts.toList) 0 els [] ((madeCells z.cells (n*sz)).toList.map Tr.v) hp hs (by simp) (by simp only[List.length_map,hzl,hn]);obtain⟨arr,h1,h2⟩:=zUb (fun i=>some (i*sz,sz)) (zWP hC parts.toList) _ (madeCells z.cells (n*sz)) _ (z0l ok w _ hzall) (by simpa using hf);have h3:arr.size=els.length*sz:=by
    have:=h2.len;rw[zF5 els sz hs]at this;simpa using this.symm
   have hml:els.length≤maxLen:=by
    have:n≤n*sz:=Nat.le_mul_of_pos_right n hsz;unfold maxLen;omega
   have hpos2:¬n*sz=0:=by
    have:=Nat.mul_pos hpos hsz;omega
   have hrun:=run_buildSlice (P:=P) w t e n (parts.map fun (i,x)=>(i,a.eval x)) arr i z ht hii hi2.1 (by rw[hi2.2];omega) (by rw[hi2.2];exact hpos2) (by
    rw[hi2.2,Array.toList_map];exact h1)
   have hnew:=z0n (ok:=ok) (w:=w) hC.okL e sz hsz hs hml h2 h3;rw[hn]at hnew;refine⟨_,_,_,?_,hnew⟩;unfold execOp;rw[ho];simp only[Sem.run_bind,hrun,Result.andThen_ok,Sem.run_pure]
theorem zLV {o:Oper} {s:St} {t e sz:Nat} {parts:Array (Nat×Operand)} (ht:P.underlying t=some (.slice e)) (hi:(P.info? e).map (·.size)=some sz) (hsz:0<sz) (ho:o.op=.buildSlice t 0 parts) (hp:parts=#[]):Y1 P o s (.ow 0) [(0,.arr e sz [])]:=
 zH2 fun ok σ a w hC=>by
  subst hp;cases hii:P.info? e with
  |none=>rw[hii]at hi;simp at hi
  |some i=>
   have hi2:i.size=sz:=by rw[hii]at hi;simpa using hi
   refine⟨_,_,_,?_,z0n (ok:=ok) (w:=w) (els:=[]) (arr:=#[]) hC.okL e sz hsz (by intro el h;cases h) (Nat.zero_le _) RdL.nil (by simp)⟩;unfold execOp;rw[ho];simp[Instr.buildSlice,run_underlying ht,sizeOf,typeInfo,hii,Instr.fill,newRow];congr 2;exact Array.eq_empty_of_size_eq_zero (by simp)
end
section
variable {P:Program}
theorem zC {ops:Array Oper} {o:Oper} {rest:List Oper} {s s':St} {J:St→Prop} {j t:Nat} {b:Bool} (c:Bool) (hg:o.guard=some (j,b)) (ht:(ops[j]?).bind (·.dst)=some t) (hb:s.get t=.c (.v (.bool c))) (hc:c=b)
  (h:X P o s s') (hk:XL P ops rest s' J):XL P ops (o::rest) s J:=by
 subst hc;exact z0f hg ht hb h hk
theorem zU {ops:Array Oper} {o:Oper} {rest:List Oper} {s:St} {J:St→Prop} {j t d:Nat} (c:Bool) (hg:o.guard=some (j,true)) (ht:(ops[j]?).bind (·.dst)=some t) (hb:s.get t=.c (.v (.bool c))) (hc:c=false)
  (hd:o.dst=some d) (hk:XL P ops rest (s.put d .tn) J):XL P ops (o::rest) s J:=by
 subst hc;exact zWl hg ht hb (by decide) hd hk
theorem qM {ops:Array Oper} {o:Oper} {rest:List Oper} {s:St} {J:St→Prop} {j t d:Nat} (c:Bool) (hg:o.guard=some (j,false)) (ht:(ops[j]?).bind (·.dst)=some t) (hb:s.get t=.c (.v (.bool c))) (hc:c=true)
  (hd:o.dst=some d) (hk:XL P ops rest (s.put d .tn) J):XL P ops (o::rest) s J:=by
 subst hc;exact zWl hg ht hb (by decide) hd hk
theorem zJ {o:Oper} {s:St} {x:Operand} (av:AV) (ho:o.op=.move x) (hx:s.ev x=av):Y0 P o s av:=hx▸z0d ho
theorem zF {o:Oper} {s:St} {x:Operand} (av:AV) (ho:o.op=.assign x) (hx:s.ev x=av):Y0 P o s av:=hx▸zUr ho
theorem zG8 {o:Oper} {s:St} {x:Operand} {n:Nat} (y r av:AV) (ho:o.op=.extract x n) (hx:s.ev x=.tc y r) (hav:(AV.tc y r).nth n=av) (hb:av≠.bot):Y0 P o s av:=by
 subst hav;exact z7u ho hx hb
theorem z0o {o:Oper} {s:St} {x:Operand} (av:AV) (ho:o.op=.nilCheck x) (hx:s.ev x=av) (hb:av.adv 0≠.bot):Y0 P o s av:=by
 subst hx;exact zYT ho hb
theorem zAL {o:Oper} {s:St} {t:TypeId} {x:Operand} {f:Nat} {fields:Array Field} {fd:Field} {n:Nat} (av:AV) (hu:P.underlying t=some (.struct fields)) (hfd:fields[f]?=some fd) (hsz:((P.info? fd.type).map (·.size))=some (n+1)) (ho:o.op=.fieldAddr t x f)
  (hav:(s.ev x).adv fd.offset=av) (hb:av≠.bot):Y0 P o s av:=by
 subst hav;exact z4I hu hfd hsz ho hb
theorem zGr {o:Oper} {s:St} {t:TypeId} {x:Operand} {n:Nat} {cs:List Tr} (ds:List Tr) (hs:wide P t n) (ho:o.op=.load t x) (hm:zA2 s (s.ev x)=some cs) (hn:n≤cs.length) (hd:cs.take n=ds):Y0 P o s (.ag ds):=by
 subst hd;exact zYU hs ho hm hn
theorem z47 {α:Type} {c:α→List Tr} {xs:List α} {v:α} {o:Oper} {s:St} {t:TypeId} {x:Operand} {id sz T off m:Nat} {n:Int} (ds:List Tr) (hs:wide P t m) (ho:o.op=.load t x) (hx:s.ev x=.po id sz n.toNat off) (he:s.entc id=some (.arr T sz (xs.map c))) (hv:getI xs n=some v)
  (hm:m≤((c v).drop off).length) (hd:((c v).drop off).take m=ds):Y0 P o s (.ag ds):=by
 subst hd;exact z1Y hs ho hx he hv rfl hm
theorem zEz {o:Oper} {s:St} {t:TypeId} {x y:Operand} {id off:Nat} {cs vc:List Tr} (ds:List Tr) (ho:o.op=.store t x y) (hd:o.dst=none) (hx:s.ev x=.pt id off) (he:s.ent id=some (.box cs)) (hy:zBd (s.ev y)=some vc) (hi:(P.info? t).map (·.size)=some vc.length) (hl:off+vc.length≤cs.length) (hs:splice cs off vc=ds):
  X P o s ⟨s.T,setE id (.box ds) s.E⟩:=by
 subst hs;exact z0e ho hd hx he hy hi hl
theorem z45 {l:Loc} {o:Oper} {s:St} {t:TypeId} {x y:Operand} {id off:Nat} {cs vc:List Tr} (ds:List Tr) (ho:o.op=.store t x y) (hd:o.dst=none) (hx:s.ev x=.pt id off) (he:s.ent id=some (.pbox l cs)) (hy:zBd (s.ev y)=some vc) (hi:(P.info? t).map (·.size)=some vc.length) (hl:off+vc.length≤cs.length) (hs:splice cs off vc=ds):
  X P o s ⟨s.T,setE id (.pbox l ds) s.E⟩:=by
 subst hs;exact z4L ho hd hx he hy hi hl
theorem z7h {o:Oper} {s:St} {x y:Operand} {t t2:TypeId} {k k2:IntKind} {a b:Int} (ho:o.op=.binOp .shr t x y t2) (hx:s.ev x=.c (.v (.int k a))) (hy:s.ev y=.c (.v (.int k2 b))) (h0:¬b<0):Y0 P o s (.c (.v (.int k (shrI k a b)))):=
 zCU ho hx hy (fun w=>by unfold eqGuard;rfl) (fun w=>by simp[binOp,Op.shift,h0,shrI]) rfl
theorem z7i {o:Oper} {s:St} {x y:Operand} {t t2:TypeId} {k k2:IntKind} {a b:Int} (ho:o.op=.binOp .shl t x y t2) (hx:s.ev x=.c (.v (.int k a))) (hy:s.ev y=.c (.v (.int k2 b))) (h0:¬b<0):Y0 P o s (.c (.v (.int k (shlI k a b)))):=
 zCU ho hx hy (fun w=>by unfold eqGuard;rfl) (fun w=>by simp[binOp,Op.shift,h0,shlI]) rfl
theorem z7w {o:Oper} {s:St} {x y:Operand} {t t2:TypeId} {k:IntKind} {a b:Int} (ho:o.op=.binOp .and t x y t2) (hx:s.ev x=.c (.v (.int k a))) (hy:s.ev y=.c (.v (.int k b))):Y0 P o s (.c (.v (.int k (andI k a b)))):=
 zCU ho hx hy (zBs _ _ _ _ _ _ _) (fun w=>by simp[binOp,Op.intBits,andI]) rfl
theorem Y0_or {o:Oper} {s:St} {x y:Operand} {t t2:TypeId} {k:IntKind} {a b:Int} (ho:o.op=.binOp .or t x y t2) (hx:s.ev x=.c (.v (.int k a))) (hy:s.ev y=.c (.v (.int k b))):Y0 P o s (.c (.v (.int k (orI k a b)))):=
 zCU ho hx hy (zBs _ _ _ _ _ _ _) (fun w=>by simp[binOp,Op.intBits,orI]) rfl
theorem z7g {o:Oper} {s:St} {x y:Operand} {t t2:TypeId} {k:IntKind} {a b:Int} (ho:o.op=.binOp .xor t x y t2) (hx:s.ev x=.c (.v (.int k a))) (hy:s.ev y=.c (.v (.int k b))):Y0 P o s (.c (.v (.int k (xorI k a b)))):=
 zCU ho hx hy (zBs _ _ _ _ _ _ _) (fun w=>by simp[binOp,Op.intBits,xorI]) rfl
theorem zJe {o:Oper} {s:St} {c x y:Operand} {b p q:Bool} (ho:o.op=.pick c x y) (hc:s.ev c=.c (.v (.bool b))) (hb:b=true) (hx:s.ev x=.c (.v (.bool p))) (he:p=q):Y0 P o s (Bo q):=by
 subst he;have h:=z4B (P:=P) ho hc hb;rw[hx]at h;exact h
theorem zJf {o:Oper} {s:St} {c x y:Operand} {b p q:Bool} (ho:o.op=.pick c x y) (hc:s.ev c=.c (.v (.bool b))) (hb:b=false) (hy:s.ev y=.c (.v (.bool p))) (he:p=q):Y0 P o s (Bo q):=by
 subst he;have h:=z4C (P:=P) ho hc hb;rw[hy]at h;exact h
theorem z6L {c:Code} {s s1:St} {J:Exit→St→Prop} (m:List Bool) (ids:List Nat) (h1:V P c s (zL6 (fun s'=>s'.keep m ids=s1) J)) (h2:J .normal s1):V P c s J:=by
 intro B w0 ok0 ok σ a w hR;refine wp_mono (h1 _ _ _ _ _ _ _ hR) ?_
 rintro e a' w' ⟨s',ok',σ',hJ,hR'⟩;cases e with
 |normal=>
  have hk:s'.keep m ids=s1:=hJ;subst hk;exact⟨_,ok',σ',h2,hR'.le (zGh m ids s')⟩
 |exit id=>exact⟨s',ok',σ',hJ,hR'⟩
 |goto l=>exact⟨s',ok',σ',hJ,hR'⟩
 |ret=>exact⟨s',ok',σ',hJ,hR'⟩
 |panic ch=>exact⟨s',ok',σ',hJ,hR'⟩
 |outgrown=>exact⟨s',ok',σ',hJ,hR'⟩
theorem V_toS {α β:Type} {q:α ⊕ β} {c:Code} {s:St} {S:α→St} {J:Exit→St→Prop} (m:List Bool) (ids:List Nat) (h1:V P c s (zL6 (fun s'=>∃o,q=.inl o∧s'.keep m ids=S o) J)) (h2:∀o,q=.inl o→J .normal (S o)):V P c s J:=by
 intro B w0 ok0 ok σ a w hR;refine wp_mono (h1 _ _ _ _ _ _ _ hR) ?_
 rintro e a' w' ⟨s',ok',σ',hJ,hR'⟩;cases e with
 |normal=>
  obtain⟨o,ho,hk⟩:∃o,q=.inl o∧s'.keep m ids=S o:=hJ;have h3:=h2 o ho;rw[←hk]at h3;exact⟨_,ok',σ',h3,hR'.le (zGh m ids s')⟩
 |exit id=>exact⟨s',ok',σ',hJ,hR'⟩
 |goto l=>exact⟨s',ok',σ',hJ,hR'⟩
 |ret=>exact⟨s',ok',σ',hJ,hR'⟩
 |panic ch=>exact⟨s',ok',σ',hJ,hR'⟩
 |outgrown=>exact⟨s',ok',σ',hJ,hR'⟩
theorem z8B {x y:Code} {s s1:St} {J:Exit→St→Prop} (m:List Bool) (ids:List Nat) (h1:V P x s (zL6 (fun s'=>s'.keep m ids=s1) J)) (h2:V P y s1 J):V P (.seq x y) s J:=by
 refine zCk (z6L (s1:=s1) m ids (zZa h1 fun e s' h=>?_) h2);cases e<;>exact h
def z44 (P:Program) (op:BinOp) (t:TypeId):Prop:=∀(a0 a1 b0 b1:Int) (x y:Operand) (w:World),(eqGuard op t x y (.agg #[.int .i64 a0,.int .i64 a1]) (.agg #[.int .i64 b0,.int .i64 b1])).run P w=.ok () w∧(binOp op t (.agg #[.int .i64 a0,.int .i64 a1]) (.agg #[.int .i64 b0,.int .i64 b1])).run P w=.ok (.bool (match op with| .neq=>!((a0==b0)&&(a1==b1))|_=>((a0==b0)&&(a1==b1)))) w
theorem ag2 {ok:Nat→Prop} {σ:Nat→Loc} {w:World} {y:Value} {a0 a1:Int} (h:Rel ok σ w (.ag [Ti a0,Ti a1]) y):y=(.agg #[.int .i64 a0,.int .i64 a1]):=by
 obtain⟨vs,rfl,hr⟩:=h;obtain⟨l⟩:=vs;cases hr with
 |cons p1 q1=>
 cases p1;cases q1 with
 |cons p2 q2=>
 cases p2;cases q2;rfl
theorem z56 {o:Oper} {s:St} {x y:Operand} {t t2:TypeId} {a0 a1 b0 b1:Int} (h:z44 P .eql t) (ho:o.op=.binOp .eql t x y t2) (hx:s.ev x=.ag [Ti a0,Ti a1]) (hy:s.ev y=.ag [Ti b0,Ti b1]):Y0 P o s (Bo (((a0==b0)&&(a1==b1)))):=
 qH fun ok σ a w hC=>by
  have h1:=hC.ev x;rw[hx]at h1;have h2:=hC.ev y;rw[hy]at h2;obtain⟨h3,h4⟩:=h a0 a1 b0 b1 x y w;refine⟨_,?_,zJZ _ _ _⟩;unfold execOp;rw[ho];simp only[ag2 h1,ag2 h2,Sem.run_bind,h3,h4,Result.andThen_ok,Sem.run_pure]
def zUu (P:Program) (op:BinOp) (t:TypeId):Prop:=∀(a0 a1 a2 b0 b1 b2:Int) (x y:Operand) (w:World),(eqGuard op t x y (.agg #[.int .i64 a0,.int .i64 a1,.int .i64 a2]) (.agg #[.int .i64 b0,.int .i64 b1,.int .i64 b2])).run P w=.ok () w∧(binOp op t (.agg #[.int .i64 a0,.int .i64 a1,.int .i64 a2]) (.agg #[.int .i64 b0,.int .i64 b1,.int .i64 b2])).run P w=.ok (.bool (match op with| .neq=>!((a0==b0)&&((a1==b1)&&(a2==b2)))|_=>((a0==b0)&&((a1==b1)&&(a2==b2))))) w
theorem ag3 {ok:Nat→Prop} {σ:Nat→Loc} {w:World} {y:Value} {a0 a1 a2:Int} (h:Rel ok σ w (.ag [Ti a0,Ti a1,Ti a2]) y):y=(.agg #[.int .i64 a0,.int .i64 a1,.int .i64 a2]):=by
 obtain⟨vs,rfl,hr⟩:=h;obtain⟨l⟩:=vs;cases hr with
 |cons p1 q1=>
 cases p1;cases q1 with
 |cons p2 q2=>
 cases p2;cases q2 with
 |cons p3 q3=>
 cases p3;cases q3;rfl
theorem z55 {o:Oper} {s:St} {x y:Operand} {t t2:TypeId} {a0 a1 a2 b0 b1 b2:Int} (h:zUu P .eql t) (ho:o.op=.binOp .eql t x y t2) (hx:s.ev x=.ag [Ti a0,Ti a1,Ti a2]) (hy:s.ev y=.ag [Ti b0,Ti b1,Ti b2]):Y0 P o s (Bo (((a0==b0)&&((a1==b1)&&(a2==b2))))):=
 qH fun ok σ a w hC=>by
  have h1:=hC.ev x;rw[hx]at h1;have h2:=hC.ev y;rw[hy]at h2;obtain⟨h3,h4⟩:=h a0 a1 a2 b0 b1 b2 x y w;refine⟨_,?_,zJZ _ _ _⟩;unfold execOp;rw[ho];simp only[ag3 h1,ag3 h2,Sem.run_bind,h3,h4,Result.andThen_ok,Sem.run_pure]
theorem z5Z {o:Oper} {s:St} {x y:Operand} {t t2:TypeId} {a0 a1 a2 b0 b1 b2:Int} (h:zUu P .neq t) (ho:o.op=.binOp .neq t x y t2) (hx:s.ev x=.ag [Ti a0,Ti a1,Ti a2]) (hy:s.ev y=.ag [Ti b0,Ti b1,Ti b2]):Y0 P o s (Bo (!((a0==b0)&&((a1==b1)&&(a2==b2))))):=
 qH fun ok σ a w hC=>by
  have h1:=hC.ev x;rw[hx]at h1;have h2:=hC.ev y;rw[hy]at h2;obtain⟨h3,h4⟩:=h a0 a1 a2 b0 b1 b2 x y w;refine⟨_,?_,zJZ _ _ _⟩;unfold execOp;rw[ho];simp only[ag3 h1,ag3 h2,Sem.run_bind,h3,h4,Result.andThen_ok,Sem.run_pure]
theorem DE_0 {l:List Oper} {ms:List Nat} {n1:Nat} {css:List (List Cd)} {s0:St} {rs:List Res} {K:St→Prop} {o:Oper} {c:List Cd} (j:Nat) (av:AV) (hj:rs.length=j) (hlt:Nat.blt j n1=true) (ho:l[j]?=some o) (hc:css[j]?=some c) (hg:gsat l.toArray o (appC c (l.take n1) rs s0))
  (hm:zGW ms j av 0 (l.take n1)=true) (hY:Y0 P o (appC c (l.take n1) rs s0) av) (d:Nat) (hd:o.dst=some d) (h:DL P l ms n1 css s0 (rs++[.r0 av]) K):DL P l ms n1 css s0 rs K:=by
 subst hj;exact DL_0 (Nat.le_of_ble_eq_true hlt) ho hc hg hm hY ⟨d,hd⟩ h
theorem DE_1 {l:List Oper} {ms:List Nat} {n1:Nat} {css:List (List Cd)} {s0:St} {rs:List Res} {K:St→Prop} {o:Oper} {c:List Cd} {av:AV} {ne:List (Nat×Ent)} (j:Nat) (hj:rs.length=j) (hlt:Nat.blt j n1=true) (ho:l[j]?=some o) (hc:css[j]?=some c) (hg:gsat l.toArray o (appC c (l.take n1) rs s0))
  (hY:Y1 P o (appC c (l.take n1) rs s0) av ne) (h1:zHU ne=true) (h2:makes o=true) (h3:av.small=true) (d:Nat) (hd:o.dst=some d) (h:DL P l ms n1 css s0 (rs++[.r1 av ne]) K):DL P l ms n1 css s0 rs K:=by
 subst hj;exact DL_1 (Nat.le_of_ble_eq_true hlt) ho hc hg ⟨h1,h2,h3⟩ hY ⟨d,hd⟩ h
theorem z6I {S A:St} (h:Le S A) (x:Operand):S.ev x=.bot∨S.ev x=A.ev x:=by
 cases x with
 |tmp t=>exact h.get t
 |const v=>exact .inr rfl
 |global g=>exact .inr rfl
 |func f=>exact .inr rfl
theorem zZ8 {o:Oper} {S:St} {t:TypeId} {x y:Operand} {id off:Nat} {cs vc cs2:List Tr} (ho:o.op=.store t x y) (hd:o.dst=none) (hx:S.ev x=.pt id off) (he:S.ent id=some (.box cs)) (hy:zBd (S.ev y)=some vc) (hi:(P.info? t).map (·.size)=some vc.length) (hl:off+vc.length≤cs.length) (hs:splice cs off vc=cs2):
  ∀A,Le S A→X P o A ⟨A.T,setE id (.box cs2) A.E⟩:=by
 intro A hA;subst hs;refine z0e ho hd ?_ (hA.ent _ _ he) ?_ hi hl
 ·rcases z6I hA x with h|h
  ·rw[hx]at h;cases h
  ·rw[←h];exact hx
 ·rcases z6I hA y with h|h
  ·rw[h]at hy;simp[zBd]at hy
  ·rw[←h];exact hy
theorem DE_2 {l:List Oper} {ms:List Nat} {n1:Nat} {css:List (List Cd)} {s0:St} {rs:List Res} {K:St→Prop} {o:Oper} {c:List Cd} {t:TypeId} {x y:Operand} {off:Nat} {cs vc:List Tr} (j id:Nat) (cs2:List Tr) (hj:rs.length=j) (hlt:Nat.blt j n1=true) (ho:l[j]?=some o) (hc:css[j]?=some c) (hg:gsat l.toArray o (appC c (l.take n1) rs s0))
  (hop:o.op=.store t x y) (hd:o.dst=none) (hx:(appC c (l.take n1) rs s0).ev x=.pt id off) (he:(appC c (l.take n1) rs s0).ent id=some (.box cs)) (hy:zBd ((appC c (l.take n1) rs s0).ev y)=some vc) (hi:(P.info? t).map (·.size)=some vc.length) (hl:off+vc.length≤cs.length) (hs:splice cs off vc=cs2)
  (h1:zOl j id css=true) (h2:mkOk ms j id 0 (l.take n1)=true) (h3:zHu id rs=true) (h:DL P l ms n1 css s0 (rs++[.r2 id (.box cs2)]) K):DL P l ms n1 css s0 rs K:=by
 subst hj;exact DL_2 (Nat.le_of_ble_eq_true hlt) ho hc hg (zZ8 hop hd hx he hy hi hl hs) hd h1 h2 h3 h
theorem z7m {o:Oper} {s:St} {x y:Operand} {t:Array TypeId} {a b:Int} (ho:o.op=.call {callee:=.builtin .max,args:=#[x,y],argTypes:=t}) (hx:s.ev x=.c (.v (.int .i64 a))) (hy:s.ev y=.c (.v (.int .i64 b))):Y0 P o s (I (mxI a b)):=
 qH fun ok σ ac w hC=>by
  refine⟨_,?_,zIo _ _ _ _⟩;unfold execOp;rw[ho];have h1:=hC.exact hx;have h2:=hC.exact hy;have h3:=run_max_int2 (P:=P) w t o.type .i64 .i64 a b;have e:mxI a b=(if b>a then b else a):=by
   rw[mxI,zG];by_cases h:a<b<;>simp[h]
  rw[e];simp[resolve,invoke,builtin,h1,h2,h3]
theorem z7l {o:Oper} {s:St} {x y:Operand} {t:Array TypeId} {a b:Int} (ho:o.op=.call {callee:=.builtin .min,args:=#[x,y],argTypes:=t}) (hx:s.ev x=.c (.v (.int .i64 a))) (hy:s.ev y=.c (.v (.int .i64 b))):Y0 P o s (I (mnI a b)):=
 qH fun ok σ ac w hC=>by
  refine⟨_,?_,zIo _ _ _ _⟩;unfold execOp;rw[ho];have h1:=hC.exact hx;have h2:=hC.exact hy;have h3:=run_min_int2 (P:=P) w t o.type .i64 .i64 a b;have e:mnI a b=(if b<a then b else a):=by
   rw[mnI,zG];by_cases h:b<a<;>simp[h]
  rw[e];simp[resolve,invoke,builtin,h1,h2,h3]
theorem z6G {α:Type} {c:α→List Tr} (hc:∀x,(c x).all Tr.flat=true):∀(xs:List α),(xs.map c).flatten.all Tr.flat=true
 |[]=>rfl
 |x::xs=>by
  rw[List.map_cons,List.flatten_cons,List.all_append,hc x,z6G hc xs];rfl
theorem zZM {α:Type} {c:α→List Tr} {xs:List α} {k T sz:Nat} {ne:List (Nat×Ent)} (hc:∀x,(c x).all Tr.flat=true) (h:zOg ne=true):zOg ((k,.arr T sz (xs.map c))::ne)=true:=by
 simp only[zOg,z6G hc,h,Bool.and_self]
theorem z1U {f:FuncId} {args:List AV} {vs:List Value} {w:World} (hS:zD P f args (Bo true) []) (hv:RelA (fun g=>g<w.heap.size) (fun _=>loc0) w args vs) (hl:Lb (fun g=>g<w.heap.size) w:=by intro p hp;simp[TB]at hp):Calls P f vs.toArray w fun e w'=>e=.returned (.bool true)∧Below w.heap.size w w':=by
 refine (hS (fun g=>g<w.heap.size) (fun _=>loc0) w vs (fun _ h=>h) hl hv).mono ?_
 rintro e w' ⟨v,ok',σ',rfl,hn⟩;have h:=hn.rel;have h2:Rd ok' w' (.v (.bool true)) v:=h;cases h2;exact⟨rfl,hn.below⟩
end
def renI (m:List (Nat×Nat)) (k:Nat):Nat:=(m.lookup k).getD k
def AV.ren (m:List (Nat×Nat)):AV→AV
 | .ow k=>.ow (renI m k)
 | .pt k o=>.pt (renI m k) o
 | .po k z i o=>.po (renI m k) z i o
 | .vw k els v=>.vw (renI m k) els v
 | .sf k z i=>.sf (renI m k) z i
 | .tc _ _=>.bot
 | .tn=>.bot
 |av=>av
def renL (m:List (Nat×Nat)):List AV→List AV
 |[]=>[]
 |a::asq=>a.ren m::renL m asq
def reE (old e:Ent):Ent:=bif old.pin then (match old with
 | .pbox l _=>e.pinned l
 | .parr l _ _ _=>e.pinned l
 |_=>e) else e
def Ent.row:Ent→Bool
 | .box _=>false
 | .arr _ _ _=>true
 | .pbox _ _=>false
 | .parr _ _ _ _=>true
 | .mp _ _=>false
 | .qarr _ _ _ _=>true
def updE (m:List (Nat×Nat)):List (Nat×Ent)→List (Nat×Ent)→List (Nat×Ent)
 |E,[]=>E
 |E,(k,e)::ps=>setE (renI m k) (reE ((E.lookup (renI m k)).getD e) e) (updE m E ps)
def zHr (m:List (Nat×Nat)) (s:St):List (Nat×Ent)→Prop
 |[]=>True
 |(k,e)::ps=>s.entc (renI m k)=some e∧zHr m s ps
def zBZ:List (Nat×Ent)→List Nat
 |[]=>[]
 |(k,_)::ps=>k::zBZ ps
def zO8 (m:List (Nat×Nat)) (E0:List (Nat×Ent)):Bool:=zCt ((zBZ E0).map (renI m))
theorem qV (m:List (Nat×Nat)) (s:St):∀(E0:List (Nat×Ent)) (id:Nat) (e:Ent),zHr m s E0→E0.lookup id=some e→s.entc (renI m id)=some e
 |[],id,e,_,h=>by simp at h
 |(k,f)::ps,id,e,hs,h=>by
  simp only[List.lookup]at h;cases hk:id==k with
  |true=>
   have:id=k:=by simpa using hk
   subst this;rw[hk]at h;injection h with h;subst h;exact hs.1
  |false=>
   rw[hk]at h;exact qV m s ps id e hs.2 h
theorem zBr:∀(E0:List (Nat×Ent)) (id:Nat) (e:Ent),E0.lookup id=some e→id∈zBZ E0
 |[],id,e,h=>by simp at h
 |(k,f)::ps,id,e,h=>by
  simp only[List.lookup]at h;cases hk:id==k with
  |true=>
   have:id=k:=by simpa using hk
   subst this;exact zm
  |false=>
   rw[hk]at h;exact zn _ (zBr ps id e h)
theorem zGK:∀(E0:List (Nat×Ent)) (id:Nat),id∈zBZ E0→∃e,E0.lookup id=some e
 |[],id,h=>by cases h
 |(q1,q2)::ps,id,h=>by
  by_cases hq:id=q1
  ·subst hq;exact⟨q2,by simp[List.lookup]⟩
  ·have:(id==q1)=false:=by rw[zw];exact hq
   rcases List.mem_cons.1 h with h2|h2
   ·exact absurd h2 hq
   ·obtain⟨f,hf⟩:=zGK ps id h2;exact⟨f,by simp only[List.lookup,this];exact hf⟩
theorem zJ2 (f:Nat→Nat):∀(l:List Nat),zCt (l.map f)=true→∀i,i∈l→∀j,j∈l→f i=f j→i=j
 |[],_,i,hi,_,_,_=>by cases hi
 |x::xs,h,i,hi,j,hj,hf=>by
  simp only[List.map_cons,zCt,zk,Bool.not_eq_true',List.contains_eq_mem,decide_eq_false_iff_not]at h;obtain⟨h1,h2⟩:=h;rcases List.mem_cons.1 hi with a1|a1<;>rcases List.mem_cons.1 hj with b1|b1
  ·rw[a1,b1]
  ·subst a1;exact absurd (List.mem_map.2 ⟨j,b1,hf.symm⟩) h1
  ·subst b1;exact absurd (List.mem_map.2 ⟨i,a1,hf⟩) h1
  ·exact zJ2 f xs h2 i a1 j b1 hf
section
variable {P:Program}
theorem z4i {ok:Nat→Prop} {σ:Nat→Loc} {w:World} {m:List (Nat×Nat)} {av:AV} {y:Value} (h:Rel ok σ w (av.ren m) y) (hb:∀x r,av≠.tc x r) (hb2:av≠.tn):Rel ok (fun k=>σ (renI m k)) w av y:=by
 cases av with
 |bot=>trivial
 |c t=>exact h
 |ag cs=>exact h
 |ow id=>exact h
 |pt id off=>exact h
 |po id sz i off=>exact h
 |pe cs=>exact h
 |fn f caps=>exact h
 |er b=>exact h
 |vw id els v=>exact h
 |sf id z i=>exact h
 |tn=>exact absurd rfl hb2
 |tc x r=>exact absurd rfl (hb x r)
def zMR:List AV→Bool
 |[]=>true
 | .tc _ _::_=>false
 | .tn::_=>false
 |_::asq=>zMR asq
theorem zMP {ok:Nat→Prop} {σ:Nat→Loc} {w:World} {m:List (Nat×Nat)}:∀{args:List AV} {vs:List Value},zMR args=true→RelA ok σ w (renL m args) vs→RelA ok (fun k=>σ (renI m k)) w args vs
 |[],_,_,.nil=>.nil
 |a::asq,_,ht,.cons h hs=>by
  have h1:(∀x r,a≠.tc x r)∧a≠.tn∧zMR asq=true:=by
   cases a with
   |tc x r=>cases ht
   |tn=>cases ht
   |_=>exact⟨(fun _ _ h=>by cases h),(fun h=>by cases h),ht⟩
  exact .cons (z4i h h1.1 h1.2.1) (zMP h1.2.2 hs)
theorem zZw (old e:Ent) (he:e.plain=true):(reE old e).pin=old.pin:=by
 cases old with
 |box cs=>exact Ent.pin_of_plain he
 |arr T sz els=>exact Ent.pin_of_plain he
 |mp b kvs=>exact Ent.pin_of_plain he
 |qarr l0 T sz els=>exact Ent.pin_of_plain he
 |pbox l cs=>exact zHq he
 |parr l T sz els=>exact zHq he
theorem zND (m:List (Nat×Nat)) (E:List (Nat×Ent)):∀(E1:List (Nat×Ent)),zCt ((zBZ E1).map (renI m))=true→(∀k e,E1.lookup k=some e→∃f,E.lookup (renI m k)=some f)→∀j,(updE m E E1).lookup j=match E1.find? (fun p=>renI m p.1==j) with
      |some p=>some (reE ((E.lookup j).getD p.2) p.2)
      |none=>E.lookup j
  |[],_,_,j=>rfl
  |(k,e)::ps,hn,hx,j=>by
    have hn2:zCt ((zBZ ps).map (renI m))=true:=by
      simp only[zBZ,List.map_cons,zCt,zk]at hn;exact hn.2
    have hn1:renI m k∉(zBZ ps).map (renI m):=by
      simp only[zBZ,List.map_cons,zCt,zk,Bool.not_eq_true',List.contains_eq_mem,decide_eq_false_iff_not]at hn;exact hn.1
    have ih:=zND m E ps hn2 (fun k2 e2 h2=>by
      by_cases hk:k2=k
      · subst hk
        exact absurd (List.mem_map.2 ⟨k2,zBr ps k2 e2 h2,rfl⟩) hn1
      · refine hx k2 e2 ?_
        have:(k2==k)=false:=by rw[zw];exact hk
        simp only[List.lookup,this];exact h2)
    have hself:(updE m E ps).lookup (renI m k)=E.lookup (renI m k):=by
      rw[ih];have hf:ps.find? (fun p=>renI m p.1==renI m k)=none:=by
        rw[List.find?_eq_none];intro p hp hh;have hh:renI m p.1=renI m k:=by simpa using hh
        have:p.1∈zBZ ps:=by
          clear ih hn hx hn1 hn2
          induction ps with
          |nil=>cases hp
          |cons q qs ihq=>
            obtain⟨q1,q2⟩:=q;rcases List.mem_cons.1 hp with h1|h1
            · subst h1;exact zm
            · exact zn _ (ihq h1)
        exact hn1 (List.mem_map.2 ⟨p.1,this,hh⟩)
      rw[hf]
    obtain⟨f,hf⟩:=hx k e (by simp[List.lookup]);have look:=zB0 (renI m k) (reE ((E.lookup (renI m k)).getD e) e) (updE m E ps) f (by rw[hself,hf]);simp only[updE];rw[look j,List.find?_cons];by_cases hj:j=renI m k
    · subst hj
      simp
    · have:(renI m k==j)=false:=by rw[zw];exact fun h=>hj h.symm
      rw[if_neg hj,this,ih]
theorem zNs (m:List (Nat×Nat)):∀(E1:List (Nat×Ent)) (j:Nat) (p:Nat×Ent),zCt ((zBZ E1).map (renI m))=true→E1.find? (fun p=>renI m p.1==j)=some p→E1.lookup p.1=some p.2∧renI m p.1=j
 |[],j,p,_,h=>by simp at h
 |(k,e)::ps,j,p,hn,h=>by
  rw[List.find?_cons]at h;cases hk:renI m k==j with
  |true=>
   simp only[hk]at h;injection h with h;subst h;exact⟨by simp[List.lookup],by simpa using hk⟩
  |false=>
   simp only[hk]at h;have hn2:zCt ((zBZ ps).map (renI m))=true:=by
    simp only[zBZ,List.map_cons,zCt,zk]at hn;exact hn.2
   have hn1:renI m k∉(zBZ ps).map (renI m):=by
    simp only[zBZ,List.map_cons,zCt,zk,Bool.not_eq_true',List.contains_eq_mem,decide_eq_false_iff_not]at hn;exact hn.1
   obtain⟨h1,h2⟩:=zNs m ps j p hn2 h;have:(p.1==k)=false:=by
    rw[zw];intro e1;exact hn1 (List.mem_map.2 ⟨p.1,zBr ps _ _ h1,by rw[e1]⟩)
   exact⟨by simp only[List.lookup,this];exact h1,h2⟩
theorem z2Q {ok:Nat→Prop} {w:World} {l:Loc} {old e:Ent} {ok0:Nat→Prop} {w0:World} (ho:zAU ok0 w0 l old) (h:zAU ok w l e) (he:e.plain=true):zAU ok w l (reE old e):=by
 cases old with
 |box cs=>exact h
 |arr T sz els=>exact h
 |mp b kvs=>exact h
 |qarr l0 T sz els=>exact h
 |pbox l0 cs=>
  obtain⟨rfl,_⟩:=ho;exact zJ1 h he
 |parr l0 T sz els=>
  obtain⟨rfl,_⟩:=ho;exact zJ1 h he
theorem R.ref {B:Fr} {w0:World} {ok0 ok ok':Nat→Prop} {σ σ':Nat→Loc} {s:St} {a:Act} {w w':World} (h:R B w0 ok0 ok σ s a w) {m:List (Nat×Nat)} {E0 E1:List (Nat×Ent)} {av:AV} {ne:List (Nat×Ent)} {v:Value}
  (hm:zHr m s E0) (hk:zBZ E1=zBZ E0) (hr:zO8 m E0=true) (hp:zDw E1=true) (hn:NewX ⟨fun g=>w.heap.size≤g,exOf (fun k=>σ (renI m k)) E0⟩ w w' ok ok' σ' av ne v) (hE:∀id e,E1.lookup id=some e→zAU ok' w' (σ (renI m id)) e):
  R B w0 ok0 ok' (fun id=>σ id) ⟨s.T,updE m s.E E1⟩ a w'∧∀id e g,(St.mk s.T (updE m s.E E1)).ent id=some e→(σ id).blk=some g→g<w.heap.size:=by
 have hsz:=hn.below.size;have key0:∀k e,E1.lookup k=some e→∃f,E0.lookup k=some f:=by
  intro k e hke;have h1:=zBr E1 k e hke;rw[hk]at h1;exact zGK E0 k h1
 have hold:∀k e,E1.lookup k=some e→∃f,s.E.lookup (renI m k)=some f:=by
  intro k e hke;obtain⟨f0,hf0⟩:=key0 k e hke;obtain⟨f,hf,_⟩:=zBc (qV m s E0 k f0 hm hf0);exact⟨f,hf⟩
 have hr1:zCt ((zBZ E1).map (renI m))=true:=by rw[hk];exact hr
 have look:=zND m s.E E1 hr1 hold
 -- an entry behind the call
 have cases_:∀j f,(St.mk s.T (updE m s.E E1)).ent j=some f→(∃k e old,E1.lookup k=some e∧renI m k=j∧s.ent j=some old∧f=reE old e)∨((∀k e,E1.lookup k=some e→renI m k≠j)∧s.ent j=some f):=by
  intro j f hj;have h1:(updE m s.E E1).lookup j=some f:=hj;rw[look]at h1;cases hfd:E1.find? (fun p=>renI m p.1==j) with
  |some p=>
   rw[hfd]at h1;obtain⟨h2,h3⟩:=zNs m E1 j p hr1 hfd;obtain⟨old,hold1⟩:=hold p.1 p.2 h2;rw[h3]at hold1;rw[hold1]at h1;injection h1 with h1;exact .inl ⟨p.1,p.2,old,h2,h3,hold1,h1.symm⟩
  |none=>
   rw[hfd]at h1;refine .inr ⟨fun k e hke hkj=>?_,h1⟩;rw[List.find?_eq_none]at hfd;have hmem:∀(L:List (Nat×Ent)),L.lookup k=some e→(k,e)∈L:=by
    intro L
    induction L with
    |nil=>intro h;simp at h
    |cons q qs ih=>
     intro h;obtain⟨q1,q2⟩:=q;simp only[List.lookup]at h;cases hq:k==q1 with
     |true=>
      rw[hq]at h;injection h with h;have:k=q1:=by simpa using hq
      subst this;subst h;exact zm
     |false=>
      rw[hq]at h;exact zn _ (ih h)
   exact hfd (k,e) (hmem E1 hke) (by simpa using hkj)
 have exE:∀g,exOf (fun k=>σ (renI m k)) E0 g→∃k f0,E0.lookup k=some f0∧(σ (renI m k)).blk=some g:=fun g ⟨k,f0,h1,h2⟩=>⟨k,f0,h1,h2⟩
 have exNot:∀g,ok g→¬exOf (fun k=>σ (renI m k)) E0 g:=by
  intro g hg hx;obtain⟨k,f0,h1,h2⟩:=exE g hx;obtain⟨f,hf,_⟩:=zBc (qV m s E0 k f0 hm h1);exact (h.core.blk _ f g hf h2).1 hg
 have hwok:∀g,ok g→w'.heap[g]?=w.heap[g]?:=fun g hg=>hn.below.block g (Nat.not_le_of_lt (h.core.okL g hg)) (exNot g hg)
 have entOld:∀j f,(St.mk s.T (updE m s.E E1)).ent j=some f→∃old,s.ent j=some old∧f.pin=old.pin:=by
  intro j f hj;rcases cases_ j f hj with⟨k,e,old,h1,h2,h3,rfl⟩|⟨_,h2⟩
  ·exact⟨old,h3,zZw old e (zCT E1 k e hp h1)⟩
  ·exact⟨f,h2,rfl⟩
 refine⟨?_,fun j f g hj hg=>by obtain⟨old,h1,_⟩:=entOld j f hj;exact (h.core.blk j old g h1 hg).2⟩;refine⟨⟨h.core.len,hn.okL,h.core.lib.mono hn.okM hwok,fun t=>(h.core.tmp t).mono0 hn.okM hwok,fun j f hj=>?_,fun j f g hj hg=>?_,fun i j f1 f2 g hi hj h1 h2=>?_⟩,h.defers,?_,fun g hg=>h.base g (Nat.le_trans hsz hg),fun g hg=>hn.okM g (h.old g hg),fun g hg=>?_,fun j f g hj hg=>?_⟩
 ·rcases cases_ j f hj with⟨k,e,old,h1,h2,h3,rfl⟩|⟨h1,h2⟩
  ·have h4:=hE k e h1;rw[h2]at h4;exact z2Q (h.core.ent j old h3) h4 (zCT E1 k e hp h1)
  ·refine (h.core.ent j f h2).mono hn.okM hwok fun g hg=>hn.below.block g (Nat.not_le_of_lt (h.core.blk j f g h2 hg).2) fun hx=>?_
   obtain⟨k,f0,h3,h4⟩:=exE g hx;obtain⟨f2,hf2,_⟩:=zBc (qV m s E0 k f0 hm h3);have h5:=h.core.inj _ _ _ _ _ h2 hf2 hg h4
   -- k is a key of E1 too
   have h6:=zBr E0 k f0 h3;rw[←hk]at h6;have h7:=zGK E1 k h6;obtain⟨e1,he1⟩:=h7;exact h1 k e1 he1 h5.symm
 ·obtain⟨old,h1,h2⟩:=entOld j f hj;obtain⟨h3,h4⟩:=h.core.blk j old g h1 hg;refine⟨fun h5=>?_,Nat.lt_of_lt_of_le h4 hsz⟩;rcases hn.okN g h5 with h6|h6
  ·exact h3 h6
  ·omega
 ·obtain⟨o1,a1,_⟩:=entOld i f1 hi;obtain⟨o2,a2,_⟩:=entOld j f2 hj;exact h.core.inj i j o1 o2 g a1 a2 h1 h2
 ·refine h.below.trans ⟨hn.below.os,hn.below.tape,hn.below.output,hn.below.size,fun k hk1 hk2=>?_⟩;refine hn.below.block k (fun hle=>hk1 (h.base k hle)) fun hx=>?_
  obtain⟨k2,f0,h3,h4⟩:=exE k hx;obtain⟨f2,hf2,_⟩:=zBc (qV m s E0 k2 f0 hm h3);have h5:=h.own _ f2 k hf2 h4;split at h5
  ·exact hk2 h5
  ·exact hk1 h5
 ·rcases hn.okN g hg with h1|h1
  ·exact h.fresh g h1
  ·exact .inr (h.base g h1)
 ·obtain⟨old,h1,h2⟩:=entOld j f hj;rw[h2];exact h.own j old g h1 hg
theorem R.updN {B:Fr} {w0:World} {ok0 ok:Nat→Prop} {σ σ':Nat→Loc} {s:St} {a:Act} {w:World} (h:R B w0 ok0 ok σ s a w) {d N:Nat} {av:AV} {ne:List (Nat×Ent)} {v:Value}
  (hsm:∀id e g,s.ent id=some e→(σ id).blk=some g→g<N) (hBN:∀g,N≤g→B.n g) (hrel:Rel ok σ' w av v) (hkeys:∀id e,ne.lookup id=some e→id<8) (hids:∀e,e≠0→av.ment e=false) (hent:∀id e,ne.lookup id=some e→zAU ok w (σ' id) e)
  (hblk:∀id e g,ne.lookup id=some e→(σ' id).blk=some g→N≤g∧¬ok g∧g<w.heap.size) (hinj:∀i j e f g,ne.lookup i=some e→ne.lookup j=some f→(σ' i).blk=some g→(σ' j).blk=some g→i=j) (hnp:∀id e,ne.lookup id=some e→e.pin=false):
  R B w0 ok0 ok (fun id=>if id / 8=d then σ' (id % 8) else σ id) (s.upd d av ne) (a.put (some d) v) w:=by
 have hσ:∀id,id / 8≠d→(fun id=>if id / 8=d then σ' (id % 8) else σ id) id=σ id:=fun id hid=>by simp[hid]
 have look:∀id e,(s.upd d av ne).ent id=some e→(id / 8=d∧ne.lookup (id % 8)=some e)∨(id / 8≠d∧s.ent id=some e):=by
  intro id e he;unfold St.ent St.upd at he;rw[zEH]at he;cases hs:(zDy d ne).lookup id with
  |some e2=>
   rw[hs]at he;injection he with he;subst he;obtain⟨h1,h2⟩:=zEc d ne id _ hs;have h3:=hkeys _ _ h2;have h4:id - d*8=id % 8:=by omega
   rw[h4]at h2;exact .inl ⟨by omega,h2⟩
  |none=>
   rw[hs]at he;simp only[zEW]at he;by_cases hd:id / 8=d
   ·simp[hd]at he
   ·rw[if_neg hd]at he;exact .inr ⟨hd,he⟩
 refine⟨⟨?_,h.core.okL,h.core.lib,fun t=>?_,fun id e he=>?_,fun id e g he hg=>?_,fun i j e f g hi hj h1 h2=>?_⟩,h.defers,h.below,h.base,h.old,h.fresh,fun id e g he hg=>?_⟩
 ·rw[zLr];simpa [St.upd,zDo] using h.core.len
 ·have hk:(s.upd d av ne).get t=if d=t∧d<s.T.length then av.shift d else (bif (s.get t).ment d then AV.bot else s.get t):=by
   have e:=zCC (s.kill d) d t (av.shift d);unfold St.put St.kill St.get at e;simp only[zDo,zGL]at e;unfold St.upd St.get;exact e
  rw[hk,zMV];by_cases hd:d=t∧d<s.T.length
  ·rw[if_pos hd,if_pos ⟨hd.1,Nat.lt_of_lt_of_le hd.2 h.core.len⟩];refine hrel.shift d fun k hk2=>?_
   have hk0:k / 8=0:=by
    rcases Nat.eq_zero_or_pos (k / 8) with h0|h0
    ·exact h0
    ·rw[hids (k / 8) (by omega)]at hk2;cases hk2
   have e1:(d*8+k) / 8=d:=by omega
   have e2:(d*8+k) % 8=k:=by omega
   simp[e1,e2]
  ·rw[if_neg hd];by_cases hd2:d=t∧d<a.tmps.size
   ·rw[if_pos hd2];have hb:s.get t=.bot:=by
     unfold St.get;rw[List.getElem?_eq_none (by omega)];rfl
    rw[hb];trivial
   ·rw[if_neg hd2];cases hm:(s.get t).ment d with
    |true=>trivial
    |false=>exact (h.core.tmp t).mono d (fun _ h=>h) (fun _ _=>rfl) hm hσ
 ·rcases look id e he with⟨h1,h2⟩|⟨h1,h2⟩
  ·simpa [h1] using hent _ _ h2
  ·simp only[h1,if_false];exact h.core.ent id e h2
 ·rcases look id e he with⟨h1,h2⟩|⟨h1,h2⟩
  ·simp only[h1,if_true]at hg;exact (hblk _ _ _ h2 hg).2
  ·simp only[h1,if_false]at hg;exact h.core.blk id e g h2 hg
 ·rcases look i e hi with⟨a1,a2⟩|⟨a1,a2⟩<;>rcases look j f hj with⟨b1,b2⟩|⟨b1,b2⟩
  ·simp only[a1,b1,if_true]at h1 h2;have:=hinj _ _ _ _ _ a2 b2 h1 h2;omega
  ·simp only[a1,b1,if_true,if_false]at h1 h2;have x1:=(hblk _ _ _ a2 h1).1;have x2:=hsm _ _ _ b2 h2;omega
  ·simp only[a1,b1,if_true,if_false]at h1 h2;have x1:=(hblk _ _ _ b2 h2).1;have x2:=hsm _ _ _ a2 h1;omega
  ·simp only[a1,b1,if_false]at h1 h2;exact h.core.inj _ _ _ _ _ a2 b2 h1 h2
 ·rcases look id e he with⟨h1,h2⟩|⟨h1,h2⟩
  ·simp only[h1,if_true]at hg;rw[hnp _ _ h2,if_neg (by decide)];exact hBN _ (hblk _ _ _ h2 hg).1
  ·simp only[h1,if_false]at hg;exact h.own id e g h2 hg
theorem z4P {o:Oper} {s:St} {f:FuncId} {xs:Array Operand} {ts:Array TypeId} {args:List AV} {E0 E1:List (Nat×Ent)} {av:AV} {ne E':List (Nat×Ent)} (m:List (Nat×Nat)) (d:Nat) (hS:∀ok σ (a:Act) w,Core ok σ s a w→z48 P f (fun k=>σ (renI m k)) args E0 av ne E1) (hc:∀args w,(callFunc f args).run P w=.ok (.enter f args) w)
  (ho:o.op=.call {callee:=.value (.func f),args:=xs,argTypes:=ts}) (hd:o.dst=some d) (ha:evL s xs.toList=renL m args) (ht:zMR args=true) (hm:zHr m s E0) (hk:zBZ E1=zBZ E0) (hr:zO8 m E0=true) (hp:zDw E1=true) (hp0:zDw E0=true) (he:updE m s.E E1=E'):
  X P o s ((St.mk s.T E').upd d av ne):=by
 intro B w0 ok0 ok σ a w hR K Q hK;subst he;have hheld:Held ok (fun k=>σ (renI m k)) w E0:=by
  refine⟨fun id e he=>?_,fun id e g he hg=>?_,fun i j e f g hi hj h1 h2=>?_⟩
  ·exact⟨hR.core.entc _ _ (qV m s E0 id e hm he),zCT E0 id e hp0 he⟩
  ·obtain⟨f,hf,_⟩:=zBc (qV m s E0 id e hm he);exact hR.core.blk _ f g hf hg
  ·obtain⟨f1,hf1,_⟩:=zBc (qV m s E0 i e hm hi);obtain⟨f2,hf2,_⟩:=zBc (qV m s E0 j f hm hj);exact zJ2 (renI m) _ hr i (zBr E0 i e hi) j (zBr E0 j f hj) (hR.core.inj _ _ _ _ _ hf1 hf2 h1 h2)
 refine zH6 hc ho (Calls.mono (hS ok σ a w hR.core ok w _ hR.core.okL hR.core.lib (zMP ht (ha▸zMZ hR.core xs.toList)) hheld) ?_);rintro e w' ⟨v,ok',σ',he,hn,hE⟩;obtain⟨hR2,hsm⟩:=hR.ref hm hk hr hp hn hE;refine⟨v,he,?_⟩;rw[hd];exact hK _ _ _ _ (hR2.updN hsm hR.base hn.rel hn.keys hn.ids hn.ent hn.blk hn.inj hn.np)
theorem z57 {o:Oper} {s:St} {f:FuncId} {xs:Array Operand} {ts:Array TypeId} {args:List AV} {E0 E1:List (Nat×Ent)} {av:AV} {ne E':List (Nat×Ent)} (m:List (Nat×Nat)) (d:Nat) (hS:zIJ P f args E0 av ne E1) (hc:∀args w,(callFunc f args).run P w=.ok (.enter f args) w)
  (ho:o.op=.call {callee:=.value (.func f),args:=xs,argTypes:=ts}) (hd:o.dst=some d) (ha:evL s xs.toList=renL m args) (ht:zMR args=true) (hm:zHr m s E0) (hk:zBZ E1=zBZ E0) (hr:zO8 m E0=true) (hp:zDw E1=true) (hp0:zDw E0=true) (he:updE m s.E E1=E'):
  X P o s ((St.mk s.T E').upd d av ne):=
 z4P m d (fun _ σ _ _ _=>fun ok w vs h1 h2 h3 h4=>hS ok _ w vs h1 h2 h3 h4) hc ho hd ha ht hm hk hr hp hp0 he
end
def zKu (ms:List Nat) (mask:Nat):Nat→List Nat
 |0=>[]
 |k+1=>bif (!mask.testBit k)&&((ms.getD k 0&&& mask)==ms.getD k 0) then k::zKu ms mask k else zKu ms mask k
theorem zKt (ms:List Nat) (mask:Nat):∀(n i:Nat),i<n→mask.testBit i=false→(∀j,(ms.getD i 0).testBit j=true→mask.testBit j=true)→i∈zKu ms mask n
 |0,i,h,_,_=>by omega
 |k+1,i,h,h1,h2=>by
  simp only[zKu];by_cases hk:i=k
  ·subst hk;have e:(ms.getD i 0&&& mask)=ms.getD i 0:=by
    apply Nat.eq_of_testBit_eq;intro j;rw[Nat.testBit_and];cases hj:(ms.getD i 0).testBit j with
    |false=>rfl
    |true=>rw[h2 j hj];rfl
   rw[h1,e];simp
  ·have ih:=zKt ms mask k i (by omega) h1 h2;cases (!mask.testBit k)&&((ms.getD k 0&&& mask)==ms.getD k 0) with
   |true=>exact zn _ ih
   |false=>exact ih
section
variable (P:Program)
variable {P}
theorem z4O {o:Oper} {s:St} {f:FuncId} {xs:Array Operand} {ts:Array TypeId} {args:List AV} {E0 E1:List (Nat×Ent)} {av:AV} {ne E':List (Nat×Ent)} (m:List (Nat×Nat)) (hS:zIJ P f args E0 av ne E1) (hc:∀args w,(callFunc f args).run P w=.ok (.enter f args) w)
  (ho:o.op=.call {callee:=.value (.func f),args:=xs,argTypes:=ts}) (hd:o.dst=none) (ha:evL s xs.toList=renL m args) (ht:zMR args=true) (hm:zHr m s E0) (hk:zBZ E1=zBZ E0) (hr:zO8 m E0=true) (hp:zDw E1=true) (hp0:zDw E0=true) (he:updE m s.E E1=E'):
  X P o s (St.mk s.T E'):=by
 intro B w0 ok0 ok σ a w hR K Q hK;subst he;have hheld:Held ok (fun k=>σ (renI m k)) w E0:=by
  refine⟨fun id e he=>?_,fun id e g he hg=>?_,fun i j e f g hi hj h1 h2=>?_⟩
  ·exact⟨hR.core.entc _ _ (qV m s E0 id e hm he),zCT E0 id e hp0 he⟩
  ·obtain⟨f,hf,_⟩:=zBc (qV m s E0 id e hm he);exact hR.core.blk _ f g hf hg
  ·obtain⟨f1,hf1,_⟩:=zBc (qV m s E0 i e hm hi);obtain⟨f2,hf2,_⟩:=zBc (qV m s E0 j f hm hj);exact zJ2 (renI m) _ hr i (zBr E0 i e hi) j (zBr E0 j f hj) (hR.core.inj _ _ _ _ _ hf1 hf2 h1 h2)
 refine zH6 hc ho (Calls.mono (hS ok (fun k=>σ (renI m k)) w _ hR.core.okL hR.core.lib (zMP ht (ha▸zMZ hR.core xs.toList)) hheld) ?_);rintro e w' ⟨v,ok',σ',he,hn,hE⟩;obtain⟨hR2,_⟩:=hR.ref hm hk hr hp hn hE;refine⟨v,he,?_⟩;rw[hd];exact hK _ _ _ _ hR2
end
section
variable {P:Program}
theorem zIa {n:Nat} {l h:Int} {u:Unit} (hh:slc n l h=some u):0≤l∧l≤h∧h≤n:=by
 unfold slc at hh;cases hb:(leI 0 l&&(leI l h&&leI h n)) with
 |false=>rw[hb]at hh;cases hh
 |true=>simpa [qU] using hb
theorem zHR {k:IntKind} {n:Int} {y:Nat} {code:BoundsCode} (h0:0≤n) (h1:n≤y) (w:World):(Instr.sliceBound (.int k n) y code).run P w=.ok n.toNat w:=by
 unfold Instr.sliceBound;simp[asIntOf,h0,h1]
theorem z4j {ok:Nat→Prop} {w:World} {els:List (List Tr)} {A:Option Addr} {n cap sz:Nat} (h:Rd ok w (.sl els) (.slice A n cap)) (hs:∀el,el∈els→el.length=sz) {l h':Nat} (h1:l≤h') (h2:h'≤els.length):
  Rd ok w (.sl ((els.drop l).take (h' - l))) (.slice (if cap=l then A else A.map (·.add (l*sz))) (h' - l) (cap - l)):=by
 cases h with
 |nl A cap=>
  have e1:l=0:=by simp at h2;omega
  have e2:h'=0:=by simp at h2;omega
  subst e1 e2;simpa using Rd.nl _ _
 |sl g off n cap sz2 els f hn hcap hok hsz hc hr=>
  rcases Nat.eq_zero_or_pos (h' - l) with h0|h0
  ·rw[h0];simpa using Rd.nl _ _
  ·have hlen:els≠[]:=by intro e;subst e;simp at h2;omega
   have hcl:¬cap=l:=by omega
   rw[if_neg hcl];have hz:sz2=sz:=by
    obtain⟨e,he⟩:=List.exists_mem_of_ne_nil els hlen;rw[←hsz e he,hs e he]
   subst hz;have hat:∀i j c,at2 ((els.drop l).take (h' - l)) i j=some c→at2 els (l+i) j=some c:=by
    intro i j c hh;unfold at2 at hh ⊢;rw[List.getElem?_take]at hh;split at hh
    ·rw[List.getElem?_drop]at hh;exact hh
    ·cases hh
   have ha:(Option.map (fun x:Addr=>x.add (l*sz2)) (some ⟨g,off,none⟩))=some ⟨g,off+l*sz2,none⟩:=by
    rw[Option.map_some,zEK]
   rw[ha];refine .sl g (off+l*sz2) (h' - l) (cap - l) sz2 _ (fun i j=>f (l+i) j) ?_ (by omega) hok (fun el hel=>hsz el (List.mem_of_mem_drop (List.mem_of_mem_take hel))) (fun i j c hh=>?_) (fun i j c hh=>hr _ _ _ (hat i j c hh))
   ·simp;omega
   ·have h3:=hc _ _ _ (hat i j c hh);have e:off+l*sz2+(i*sz2+j)=off+((l+i)*sz2+j):=by rw[Nat.add_mul];omega
    rw[e];exact h3
theorem zYS {α:Type} {c:α→List Tr} {xs:List α} {o:Oper} {s:St} {t e sz:Nat} {x:Operand} {lo hi:Option Operand} {l h:Int} (hu:P.underlying t=some (.slice e)) (hsz:(P.info? e).map (·.size)=some sz) (hc:∀v,(c v).length=sz) (ho:o.op=.slice t x lo hi none)
  (hx:s.ev x=.c (.sl (xs.map c))) (hlo:∀y,lo=some y→∃k,s.ev y=.c (.v (.int k l))) (hlo0:lo=none→l=0) (hhi:∀y,hi=some y→∃k,s.ev y=.c (.v (.int k h))) (hhi0:hi=none→h=(xs.length:Int)) (hb:0≤l∧l≤h∧h≤xs.length):Y0 P o s (.c (.sl ((subl xs l h).map c))):=
 qH fun ok σ a w hC=>by
  obtain⟨b1,b2,b3⟩:=hb;have h1:=hC.ev x;rw[hx]at h1;have h2:Rd ok w (.sl (xs.map c)) (a.eval x):=h1;generalize hv:a.eval x=v at h2;obtain⟨A,n,cap,rfl,hn,hcap⟩:∃A n cap,v=.slice A n cap∧n=xs.length∧n≤cap:=by
   generalize hT:Tr.sl (xs.map c)=T at h2;cases h2 with
   |v y hy=>cases hT
   |mp b es clock hb hm=>cases hT
   |nl A cap=>
    injection hT with hT;have:xs=[]:=by simpa using hT
    subst this;exact⟨A,0,cap,rfl,rfl,Nat.zero_le _⟩
   |sl g off n cap sz els f hn hcap hok hsz hc hr=>
    injection hT with hT;subst hT;exact⟨_,n,cap,rfl,by rw[hn];simp,hcap⟩
  have h3:=z4j (sz:=sz) h2 (fun el hel=>by obtain⟨y,_,rfl⟩:=List.mem_map.1 hel;exact hc y) (l:=l.toNat) (h':=h.toNat) (by omega) (by simp;omega);have e1:((xs.map c).drop l.toNat).take (h.toNat - l.toNat)=(subl xs l h).map c:=by
   unfold subl;rw[←List.map_drop,←List.map_take]
  rw[e1]at h3;refine⟨_,?_,h3⟩;have eL:(lo.map a.eval)=none∧l=0∨∃k,lo.map a.eval=some (.int k l):=by
   cases lo with
   |none=>exact .inl ⟨rfl,hlo0 rfl⟩
   |some y=>obtain⟨k,hk⟩:=hlo y rfl;exact .inr ⟨k,by simp[hC.exact hk]⟩
  have eH:(hi.map a.eval)=none∧h=(n:Int)∨∃k,hi.map a.eval=some (.int k h):=by
   cases hi with
   |none=>exact .inl ⟨rfl,by rw[hhi0 rfl,hn]⟩
   |some y=>obtain⟨k,hk⟩:=hhi y rfl;exact .inr ⟨k,by simp[hC.exact hk]⟩
  have hbounds:∀w,(Instr.sliceBounds true n cap (lo.map a.eval) (hi.map a.eval) none).run P w=.ok (l.toNat,h.toNat,cap) w:=by
   intro w;unfold Instr.sliceBounds;rcases eL with⟨e2,e3⟩|⟨k,e2⟩<;>rcases eH with⟨e4,e5⟩|⟨k2,e4⟩
   ·subst e3 e5;simp[e2,e4]
   ·subst e3;simp only[e2,e4,Sem.run_bind,Sem.run_pure,Result.andThen_ok,zHR (P:=P) (k:=k2) (n:=h) (y:=cap) (by omega) (by omega)];rfl
   ·subst e5;simp only[e2,e4,Sem.run_bind,Sem.run_pure,Result.andThen_ok,zHR (P:=P) (k:=k) (n:=l) (y:=n) b1 (by omega)];simp
   ·simp only[e2,e4,Sem.run_bind,Sem.run_pure,Result.andThen_ok,zHR (P:=P) (k:=k2) (n:=h) (y:=cap) (by omega) (by omega),zHR (P:=P) (k:=k) (n:=l) (y:=h.toNat) b1 (by omega)]
  cases hii:P.info? e with
  |none=>rw[hii]at hsz;cases hsz
  |some i=>
   have hi2:i.size=sz:=by rw[hii]at hsz;simpa using hsz
   unfold execOp;rw[ho];simp[hv,Instr.sliceAt,Instr.slice,run_underlying hu,hbounds,sizeOf,typeInfo,hii,hi2]
theorem z1b {o:Oper} {s:St} {x y:Operand} {t e d id sz bytes:Nat} {z:Value} {els:List (List Tr)} (ho:o.op=.call {callee:=.builtin .append,args:=#[x,y],argTypes:=#[t,t]}) (hd:o.dst=some d) (ht:P.underlying t=some (.slice e))
  (hi:(P.info? e).map (fun i=>(i.zero,i.size,i.bytes))=some (some z,sz,bytes)) (hx:s.ev x=.ow id) (he:s.ent id=some (.arr e sz els)) (hy:zBe s (s.ev y)=some []):X P o s ⟨(zBY id s.T).set d (.ow id),setE id (.arr e sz (els++[])) s.E⟩:=by
 intro B w0 ok0 ok σ a w hR K Q hK;have h3:=hR.core.ev x;rw[hx]at h3;have h4:a.eval x=zE (σ id):=h3;obtain⟨A,cap2,h5,_,_⟩:=zHf hR.core (hR.core.ev y) hy;obtain⟨h0,hn,hs,vs,hown,hrd⟩:=hR.core.ent id _ he;have hle:(σ id).n≤(σ id).cap:=by
  rcases hown.2 with⟨hv,hv0⟩|⟨g,cap,cur,hv,_,_,hnc,_⟩
  ·omega
  ·unfold zE at hv;injection hv with _ q1 q2;omega
 cases hii:P.info? e with
 |none=>rw[hii]at hi;simp at hi
 |some i=>
  have hi2:i.size=sz:=by rw[hii]at hi;simp at hi;exact hi.2.1
  have hrun:(Builtin.append_ #[t,t] o.type #[zE (σ id),.slice A 0 cap2]).run P w=.ok (zE (σ id)) w:=by
   unfold Builtin.append_ zE;cases A<;>cases (σ id).blk<;>simp[run_underlying ht,sizeOf,typeInfo,hii,hi2,Builtin.lenOf,Builtin.firstCells,hle,loadCells,loadCellsFrom,storeCells]
  unfold Oper.wp execOp;simp only[ho,resolve,invoke,builtin,Sem.run_bind,Sem.run_pure,Result.andThen_ok,List.map_toArray,List.map_cons,zr,h4,h5,List.length_nil,hrun,Oper.upon,hd];refine hK _ _ ok σ ((hR.put (d:=d) (av:=.ow id) (v:=zE (σ id)) rfl).le ⟨by simp[St.put,zE4],fun u=>?_,fun j f hj=>?_⟩)
  ·have e0:=zCC ⟨zBY id s.T,s.E⟩ d u (.ow id);have e1:=zCC s d u (.ow id);unfold St.put St.get at e0 e1;unfold St.get St.put;simp only[zE4,zGM]at e0;rw[e0,e1];split
   ·exact .inr rfl
   ·cases ((s.T[u]?).getD .bot).mid id with
    |true=>exact .inl rfl
    |false=>exact .inr rfl
  ·have h7:(setE id (.arr e sz (els++[])) s.E).lookup j=some f:=hj;rw[zB0 id _ s.E _ he,List.append_nil]at h7;show s.ent j=some f;split at h7
   ·rename_i hji;subst hji;rw[he];exact h7
   ·exact h7
theorem z1a {α:Type} {c:α→List Tr} {xs ys:List α} {o:Oper} {s:St} {x y:Operand} {t e d id sz bytes:Nat} {z:Value} (ho:o.op=.call {callee:=.builtin .append,args:=#[x,y],argTypes:=#[t,t]}) (hd:o.dst=some d) (ht:P.underlying t=some (.slice e))
  (hi:(P.info? e).map (fun i=>(i.zero,i.size,i.bytes))=some (some z,sz,bytes)) (hzs:z.cells.size=sz) (hx:s.ev x=.ow id) (he:s.ent id=some (.arr e sz (xs.map c))) (hy:zBe s (s.ev y)=some (ys.map c)) (hc:∀v,(c v).length=sz)
  (hr:xs.length+ys.length≤1099511627776) (hby:bytes≤128):X P o s ⟨(zBY id s.T).set d (.ow id),setE id (.arr e sz ((xs++ys).map c)) s.E⟩:=by
 cases ys with
 |nil=>
  have:=z1b ho hd ht hi hx he (by simpa using hy);simpa using this
 |cons v vs=>exact zOW ho hd ht hi hzs hx he hy hc (by simp) hr hby
end
section
variable {P:Program}
def zXu (id:Nat) (cs:List Tr):AV→AV
 | .ow k=>bif k==id then .bot else .ow k
 | .pt k o=>bif k==id then .pe (cs.drop o) else .pt k o
 | .po k z i o=>bif k==id then .bot else .po k z i o
 | .tc _ _=>.bot
 |av=>av
def St.frzB (s:St) (id:Nat) (cs:List Tr):St:=⟨s.T.map (zXu id cs),rmE id s.E⟩
theorem z3G (s:St) (id:Nat) (cs:List Tr) (t:Nat):(s.frzB id cs).get t=zXu id cs (s.get t):=by
 unfold St.frzB St.get;simp only[List.getElem?_map];cases s.T[t]?<;>rfl
theorem zIv (s:St) (id:Nat) (cs:List Tr) (j:Nat) (e:Ent) (h:(s.frzB id cs).ent j=some e):j≠id∧s.ent j=some e:=by
 have h2:(rmE id s.E).lookup j=some e:=h;rw[zC2]at h2;split at h2
 ·cases h2
 ·rename_i hne;exact⟨hne,h2⟩
theorem z41 {B:Fr} {w0:World} {ok0 ok:Nat→Prop} {σ:Nat→Loc} {s:St} {a:Act} {w:World} (hR:R B w0 ok0 ok σ s a w) (id:Nat) {cs:List Tr} (he:s.ent id=some (.box cs)):R B w0 ok0 (fun g=>ok g∨(σ id).blk=some g) σ (s.frzB id cs) a w:=by
 have hup:∀g,ok g→ok g∨(σ id).blk=some g:=fun g hg=>.inl hg;refine⟨⟨by simpa [St.frzB] using hR.core.len,fun g hg=>?_,hR.core.lib.mono hup (fun _ _=>rfl),fun t=>?_,fun j e hj=>?_,fun j e g hj hg=>?_,fun i j e f g hi hj h1 h2=>?_⟩,hR.defers,hR.below,hR.base,fun g hg=>.inl (hR.old g hg),fun g hg=>?_,fun j e g hj hg=>hR.own j e g (zIv s id cs j e hj).2 hg⟩
 ·rcases hg with hg|hg
  ·exact hR.core.okL g hg
  ·exact (hR.core.blk id _ g he hg).2
 ·rw[z3G];have h1:=hR.core.tmp t;generalize s.get t=av at h1;have same:Rel (fun g=>ok g∨(σ id).blk=some g) σ w av (a.tmps.getD t undef):=h1.mono0 hup fun _ _=>rfl;cases av with
  |ow k=>
   simp only[zXu];cases k==id with
   |false=>exact same
   |true=>exact trivial
  |pt k o=>
   simp only[zXu];cases hk:k==id with
   |false=>exact same
   |true=>
    have e1:k=id:=by simpa using hk
    subst e1;have hle:Le ⟨s.T,[(k,.box cs)]⟩ s:=⟨Nat.le_refl _,fun t=>.inr rfl,fun j e hj=>by
     unfold St.ent at hj;simp only[List.lookup]at hj;split at hj
     ·rename_i hjk;have:j=k:=by simpa using hjk
      subst this;injection hj with hj;subst hj;exact he
     ·cases hj⟩
    have h2:=zLq (hR.le hle).core h1;have e2:zI9 ⟨s.T,[(k,.box cs)]⟩ (.pt k o)=.pe (cs.drop o):=by
     simp[zI9,St.entc,St.ent,List.lookup,Ent.core]
    rw[e2]at h2;refine h2.mono0 (fun g hg=>?_) fun _ _=>rfl;rcases hg with hg|⟨j,e,hj,hg⟩
    ·exact .inl hg
    ·refine .inr ?_
     unfold St.ent at hj;simp only[List.lookup]at hj;split at hj
     ·rename_i hjk;have:j=k:=by simpa using hjk
      subst this;exact hg
     ·cases hj
  |po k z i o=>
   simp only[zXu];cases k==id with
   |false=>exact same
   |true=>exact trivial
  |tc x r=>exact trivial
  |tn=>exact same
  |bot=>exact same
  |c t=>exact same
  |ag cs=>exact same
  |pe cs=>exact same
  |fn f caps=>exact same
  |er b=>exact same
  |vw id els m=>exact same
  |sf id z i=>exact same
 ·obtain⟨_,h2⟩:=zIv s id cs j e hj;exact (hR.core.ent j e h2).mono hup (fun _ _=>rfl) fun _ _=>rfl
 ·obtain⟨h1,h2⟩:=zIv s id cs j e hj;obtain⟨h3,h4⟩:=hR.core.blk j e g h2 hg;refine⟨fun h5=>?_,h4⟩;rcases h5 with h5|h5
  ·exact h3 h5
  ·exact h1 (hR.core.inj _ _ _ _ _ h2 he hg h5)
 ·exact hR.core.inj i j e f g (zIv s id cs i e hi).2 (zIv s id cs j f hj).2 h1 h2
 ·rcases hg with hg|hg
  ·exact hR.fresh g hg
  ·exact .inr (hR.own id _ g he hg)
theorem z1f {c:Code} {s s1:St} {J:Exit→St→Prop} (id:Nat) {cs:List Tr} (he:s.ent id=some (.box cs)) (hs:s.frzB id cs=s1) (h:V P c s1 J):V P c s J:=by
 subst hs;exact fun _ _ _ _ _ _ _ hR=>h _ _ _ _ _ _ _ (z41 hR id he)
theorem RelA.app {ok:Nat→Prop} {σ:Nat→Loc} {w:World} {ts us:List AV} {xs ys:List Value} (h:RelA ok σ w ts xs) (h2:RelA ok σ w us ys):RelA ok σ w (ts++us) (xs++ys):=by
 induction h with
 |nil=>exact h2
 |cons h hs ih=>exact .cons h ih
end
section
variable {P:Program}
theorem zOP {a b:ByteArray} {u:Unit} (h:catR a b=some u):a.size+b.size≤9223372036854775807:=by
 unfold catR at h;split at h
 ·assumption
 ·cases h
theorem z1F {b:ByteArray} {i v:Int} (h:getB b i=some v):∃h:0≤i∧i<b.size,v=(b[i.toNat]'(by omega)).toNat:=by
 unfold getB at h;split at h
 ·rename_i hi;injection h with h;refine⟨hi,?_⟩;rw[←h];have h2:i.toNat<b.data.toList.length:=by
   have:b.data.toList.length=b.size:=by simp
   omega
  rw[zz h2];rfl
 ·cases h
theorem zWj {o:Oper} {s:St} {x i:Operand} {t:TypeId} {b:ByteArray} {k:IntKind} {n v:Int} (hu:P.underlying t=some .string) (ho:o.op=.index t x i) (hx:s.ev x=.c (.v (.string b))) (hi:s.ev i=.c (.v (.int k n))) (hg:getB b n=some v):Y0 P o s (.c (.v (.int .u8 v))):=
 qH fun ok σ a w hC=>by
  obtain⟨h1,h2⟩:=z1F hg;refine⟨.int .u8 v,?_,zIo _ _ _ _⟩;unfold execOp;rw[ho];simp only[hC.exact hx,hC.exact hi,Sem.run_bind,run_index_string w t b k n hu,dif_pos h1,Result.andThen_ok,Sem.run_pure];rw[h2]
theorem zYs (ok:Nat→Prop) (σ:Nat→Loc) (w:World) (b:ByteArray):Rel ok σ w (.c (.v (.string b))) (.string b):=Rd.v _ rfl
theorem zUq {o:Oper} {s:St} {t:TypeId} {x:Operand} {lo hi:Option Operand} {b:ByteArray} {l h:Int} (hu:P.underlying t=some .string) (ho:o.op=.slice t x lo hi none)
  (hx:s.ev x=.c (.v (.string b))) (hlo:∀y,lo=some y→∃k,s.ev y=.c (.v (.int k l))) (hlo0:lo=none→l=0) (hhi:∀y,hi=some y→∃k,s.ev y=.c (.v (.int k h))) (hhi0:hi=none→h=(b.size:Int)) (hb:0≤l∧l≤h∧h≤b.size):Y0 P o s (.c (.v (.string (b.extract l.toNat h.toNat)))):=
 qH fun ok σ a w hC=>by
  obtain⟨b1,b2,b3⟩:=hb;refine⟨.string (b.extract l.toNat h.toNat),?_,zYs _ _ _ _⟩;unfold execOp;rw[ho];have hrun:(Instr.sliceAt t (.string b) (lo.map a.eval) (hi.map a.eval) none).run P w=.ok (.string (b.extract l.toNat h.toNat)) w:=by
   rw[run_sliceAt_string w t (.string b) (lo.map a.eval) (hi.map a.eval) none hu];cases lo with
   |none=>
    have hl:=hlo0 rfl;subst hl;cases hi with
    |none=>
     have hh:=hhi0 rfl;subst hh;simpa using run_slice_string_all w t b hu
    |some y=>
     obtain⟨k,hk⟩:=hhi y rfl;simp only[Option.map_none,Option.map_some,hC.exact hk];simpa using run_slice_string_h w t b hu k h b2 b3
   |some z=>
    obtain⟨k1,hk1⟩:=hlo z rfl;cases hi with
    |none=>
     have hh:=hhi0 rfl;subst hh;simp only[Option.map_none,Option.map_some,hC.exact hk1];simpa using run_slice_string_l w t b hu k1 l b1 b2
    |some y=>
     obtain⟨k,hk⟩:=hhi y rfl;simp only[Option.map_some,hC.exact hk,hC.exact hk1];exact run_slice_string w t b k1 k l h hu b1 b2 b3
  simp only[hC.exact hx,Option.map_none,Sem.run_bind,hrun,Result.andThen_ok,Sem.run_pure]
theorem z4J {o:Oper} {s:St} {src dst e:TypeId} {x:Operand} {c:Int→List Tr} (hc:∀v,c v=[.v (.int .u8 v)]) (xs:List Int) (hs:P.underlying src=some (.slice e)) (he:P.underlying e=some (.int .u8)) (hd:P.underlying dst=some .string) (ho:o.op=.convert src dst x)
  (hx:zBe s (s.ev x)=some (xs.map c)):Y0 P o s (.c (.v (.string (zDD xs)))):=
 qH fun ok σ a w hC=>by
  obtain⟨A,cap,h1,h2,h3⟩:=zHf hC (hC.ev x) hx;refine⟨.string (zDD xs),?_,zYs _ _ _ _⟩;unfold execOp;rw[ho];have hrun:(convert src dst (a.eval x)).run P w=.ok (.string (zDD xs)) w:=by
   rw[h1,run_convert_bytes_string w src dst e A _ cap hs he hd];by_cases hn:xs=[]
   ·subst hn;cases A with
    |none=>simp[Conv.bytesToString,zDD]
    |some A=>
     have:=run_bytesToString (P:=P) w A 0 cap [] (by simpa using run_loadCells_list (P:=P) w A [] (fun j v hj=>by simp at hj));simpa [zDD] using this
   ·obtain⟨g,off,sz,vs,rfl,hs1,hr,hcell⟩:=h3 (by simpa using hn);have hflat:(xs.map c).flatten=xs.map fun v=>Tr.v (.int .u8 v):=by
     clear h1 h2 h3 hs1 hr hcell hn hx
     induction xs with
     |nil=>rfl
     |cons v xs ih=>rw[List.map_cons,List.flatten_cons,ih,hc];rfl
    rw[hflat]at hr;have hvs:vs=xs.map fun v=>Value.int .u8 v:=by
     clear h1 h2 h3 hs1 hcell hn hx hflat
     induction xs generalizing vs with
     |nil=>cases hr;rfl
     |cons v xs ih=>
      cases hr with
      |cons h hs=>
       cases h;rw[ih _ hs];rfl
    have:=run_bytesToString (P:=P) w ⟨g,off,none⟩ xs.length cap xs (by
     have hl:=run_loadCells_list (P:=P) w ⟨g,off,none⟩ (xs.map (Value.int .u8)) (fun j v hj=>by
      rw[zEK];exact hcell j v (by rw[hvs];exact hj))
     simpa using hl)
    simpa [zDD] using this
  simp only[Sem.run_bind,hrun,Result.andThen_ok,Sem.run_pure]
theorem zUv {f:FuncId} {args:List AV} {b:ByteArray} (h:∀ok σ w vs,(∀g,ok g→g<w.heap.size)→Lb ok w→RelA ok σ w args vs→Calls P f vs.toArray w fun e w'=>e=.returned (.string b)∧Below w.heap.size w w'):zD P f args (.c (.v (.string b))) []:=by
 intro ok σ w vs hok hlib hargs;refine (h ok σ w vs hok hlib hargs).mono ?_
 rintro e w' ⟨rfl,hb⟩;refine⟨_,ok,σ,rfl,⟨hb,fun _ h=>h,fun _ h=>.inl h,fun g hg=>Nat.lt_of_lt_of_le (hok g hg) hb.size,zYs _ _ _ _,fun id e h=>by simp at h,fun e he=>rfl,fun id e h=>by simp at h,fun id e g h=>by simp at h,fun i j e f g h=>by simp at h,fun id e h=>by simp at h⟩⟩
theorem zXb {ok:Nat→Prop} {σ:Nat→Loc} {w:World} {k:IntKind} {n:Int} {v:Value} (h:Rel ok σ w (.c (.v (.int k n))) v):v=.int k n:=by
 have h2:Rd ok w (.v (.int k n)) v:=h;cases h2;rfl
theorem zF1 {ok:Nat→Prop} {σ:Nat→Loc} {w:World} {b:ByteArray} {v:Value} (h:Rel ok σ w (.c (.v (.string b))) v):v=.string b:=by
 have h2:Rd ok w (.v (.string b)) v:=h;cases h2;rfl
theorem zZc {f:FuncId} (hc:∀ok w n,Lb ok w→-9223372036854775808≤n→n≤9223372036854775807→Calls P f #[.int .i64 n] w fun e w'=>e=.returned (.string ⟨(Go.Lib.itoa n).toArray⟩)∧Below w.heap.size w w') {n:Int} {r:ByteArray} (h:qJ n=some r):zD P f [I n] (.c (.v (.string r))) []:=by
 unfold qJ at h;split at h
 ·rename_i hn;injection h with h;subst h;refine zUv fun ok σ w vs hok hlib hargs=>?_
  cases hargs with
  |cons h1 h2=>
   cases h2;have:=zXb h1;subst this;exact hc ok w n hlib hn.1 hn.2
 ·cases h
theorem zZb {f:FuncId} {c:ByteArray→List Tr} (hcc:∀v,c v=[.v (.string v)])
  (hc0:∀(A:Option Addr) (c:Nat) (sep:ByteArray) (w:World),Calls P f #[.slice A 0 c,.string sep] w fun e w'=>e=.returned (.string ⟨#[]⟩)∧w'=w)
  (hc:∀(bk o c:Nat) (xs:List ByteArray) (sep:ByteArray) (w:World),(∀(j:Nat) x,xs[j]?=some x→w.cell? ⟨bk,o+j,none⟩=some (.string x))→bk<w.heap.size→xs.length≤140737488355328→xs.length≤c→(Go.Lib.join (xs.map (·.data.toList)) sep.data.toList).length≤140737488355328→
   Calls P f #[.slice (some ⟨bk,o,none⟩) xs.length c,.string sep] w fun e w'=>e=.returned (.string ⟨(Go.Lib.join (xs.map (·.data.toList)) sep.data.toList).toArray⟩)∧Below w.heap.size w w')
  {xs:List ByteArray} {sep r:ByteArray} (h:zCN xs sep=some r):zD P f [.c (.sl (xs.map c)),.c (.v (.string sep))] (.c (.v (.string r))) []:=by
 unfold zCN at h;split at h
 ·rename_i hn;injection h with h;subst h;refine zUv fun ok σ w vs hok hlib hargs=>?_
  cases hargs with
  |cons h1 h2=>
   cases h2 with
   |cons h3 h4=>
    cases h4;have:=zF1 h3;subst this;rename_i v;have h1:Rd ok w (.sl (xs.map c)) v:=h1;generalize hT:Tr.sl (xs.map c)=T at h1;cases h1 with
    |v y hy=>cases hT
    |mp b es clock hb hm=>cases hT
    |nl A cap=>
     injection hT with hT;have e1:xs=[]:=by simpa using hT
     subst e1;refine (hc0 A cap sep w).mono ?_
     rintro e w' ⟨rfl,rfl⟩;exact⟨rfl,Below.refl _ _⟩
    |sl g off n cap sz els f hn1 hcap hok1 hs hcell hrr=>
     injection hT with hT;subst hT;subst hn1;rw[List.length_map];refine hc g off cap xs sep w (fun j x hj=>?_) (hok g hok1) hn.1 (by simpa using hcap) hn.2;have hce:c x=[.v (.string x)]:=hcc x;have hxl:j<xs.length:=by
      have:=List.getElem?_eq_some_iff.1 hj;exact this.1
     have hs1:sz=1:=by
      have:=hs (c x) (List.mem_map.2 ⟨x,List.mem_of_getElem? hj,rfl⟩);rw[hce]at this;simpa using this.symm
     have hat:at2 (xs.map c) j 0=some (.v (.string x)):=by
      unfold at2;rw[List.getElem?_map,hj];simp[hce]
     have h5:=hcell j 0 _ hat;have h6:=hrr j 0 _ hat;rw[hs1]at h5;rw[Nat.mul_one,Nat.add_zero]at h5;rw[h5];generalize f j 0=u at h6;cases h6;rfl
 ·cases h
end
section
variable {P:Program}
end
section
variable {P:Program}
def bt:Nat→List AV→List AV
 |0,l=>l
 |n+1,l=>.bot::bt n l
def mb:Nat→Nat→List Bool
 |0,_=>[]
 |n+1,x=>Nat.beq (Nat.mod x 2) 1::mb n (Nat.div x 2)
theorem L0 {ops:Array Oper} {o:Oper} {rest:List Oper} {s:St} {av:AV} {d:Nat} {J:St→Prop} (hg:o.guard=none) (hd:o.dst=some d) (h:Y0 P o s av) (hk:XL P ops rest (s.put d av) J):XL P ops (o::rest) s J:=zR hg (zB hd h) hk
theorem L1 {ops:Array Oper} {o:Oper} {rest:List Oper} {s:St} {av:AV} {ne:List (Nat×Ent)} {d:Nat} {J:St→Prop} (hg:o.guard=none) (hd:o.dst=some d) (h:Y1 P o s av ne) (hk:XL P ops rest (s.upd d av ne) J):XL P ops (o::rest) s J:=zR hg (zDq hd h) hk
def VR (P:Program) (c:Code):Nat→St→(Exit→St→Prop)→Prop
 |0,_,_=>False
 |n+1,s,J=>V P c s (zL6 (fun s'=>VR P c n s' J) J)
theorem VR_s {c:Code} {n:Nat} {s:St} {J:Exit→St→Prop} (h:V P c s (zL6 (fun s'=>VR P c n s' J) J)):VR P c (n+1) s J:=h
theorem z4S {c:Code} {s:St} {J:Exit→St→Prop} (n:Nat) (h:VR P c n s J):V P (.loop c) s J:=by
 intro B w0 ok0 ok σ a w hR;refine wp_loop_rounds n ?_
 revert h
 induction n generalizing s ok σ a w with
 |zero=>intro h;exact h.elim
 |succ n ih=>
  intro h;refine wp_mono (h _ _ _ _ _ _ _ hR) ?_
  rintro e a' w' ⟨s',ok',σ',hJ,hR'⟩;cases e with
  |normal=>exact ih _ _ _ _ hR' hJ
  |exit id=>exact⟨s',ok',σ',hJ,hR'⟩
  |goto l=>exact⟨s',ok',σ',hJ,hR'⟩
  |ret=>exact⟨s',ok',σ',hJ,hR'⟩
  |panic ch=>exact⟨s',ok',σ',hJ,hR'⟩
  |outgrown=>exact⟨s',ok',σ',hJ,hR'⟩
theorem z8H {o:Oper} {s:St} {t e:TypeId} {x ix:Operand} {k:IntKind} {N sz:Nat} {n:Int} (av:AV) (hu:P.underlying t=some (.array N e)) (hsz:(P.info? e).map (·.size)=some sz) (ho:o.op=.indexAddr t x ix) (hi:s.ev ix=.c (.v (.int k n)))
  (hn:(decide (0≤n)&&decide (n<N))=true) (hx:(s.ev x).adv (n.toNat*sz)=av) (hb:av≠.bot):Y0 P o s av:=
 qH fun ok σ a w hC=>by
  subst hx;obtain⟨g,off,h1,h2⟩:=zWh (n.toNat*sz) (hC.ev x) hb;refine⟨_,?_,h2⟩;simp only[zk,decide_eq_true_eq]at hn;have h3:=hC.exact hi;cases hii:P.info? e with
  |none=>rw[hii]at hsz;simp at hsz
  |some i=>
   have h5:i.size=sz:=by rw[hii]at hsz;simpa using hsz
   unfold execOp;rw[ho];simp[h1,h3,Instr.indexAt,asIntOf,run_underlying hu,Instr.sureAddr,sizeOf,typeInfo,hii,h5,hn.1,hn.2,zEK]
end
theorem kk {p:Prop} (h:p:=by kernel_rfl):p:=h
section
variable (P:Program)
def nbA:AV→Option AV
 | .bot=>none
 |av=>some av
def xbin (op:BinOp):AV→AV→Option AV
 | .c (.v (.int .i64 a)),.c (.v (.int .i64 b))=>match op with
  | .add=>some (I (w64 (a+b)))
  | .sub=>some (I (w64 (a - b)))
  | .mul=>some (I (w64 (a*b)))
  | .lss=>some (Bo (ltI a b))
  | .leq=>some (Bo (leI a b))
  | .gtr=>some (Bo (ltI b a))
  | .geq=>some (Bo (leI b a))
  | .eql=>some (Bo (eqI a b))
  | .neq=>some (Bo (!eqI a b))
  |_=>none
 |_,_=>none
def xun (op:UnOp):AV→Option AV
 | .c (.v (.int .i64 a))=>match op with
  | .neg=>some (I (w64 (0 - a)))
  |_=>none
 | .c (.v (.bool b))=>match op with
  | .not=>some (.c (.v (.bool (!b))))
  |_=>none
 |_=>none
def zDv (t:TypeId):Option Nat:=(P.info? t).map (·.size)
def xv (s:St):Op→Option AV
 | .move x=>some (s.ev x)
 | .assign x=>some (s.ev x)
 | .extract x n=>match s.ev x with
  | .tc y r=>nbA ((AV.tc y r).nth n)
  |_=>none
 | .fieldAddr t x f=>match P.underlying t with
  |some (.struct fields)=>match fields[f]? with
   |some fd=>match zDv P fd.type with
    |some (_+1)=>nbA ((s.ev x).adv fd.offset)
    |_=>none
   |none=>none
  |_=>none
 | .load t x=>match P.underlying t with
  |some d=>bif aggD d then (match zDv P t,zA2 s (s.ev x) with
    |some n,some cs=>bif Nat.ble n cs.length then some (.ag (cs.take n)) else none
    |_,_=>none)
   else (match zA2 s (s.ev x) with
    |some (c::_)=>some (.c c)
    |_=>none)
  |none=>none
 | .indexAddr t x ix=>match P.underlying t with
  |some (.array N e)=>match zDv P e,s.ev ix with
   |some sz,.c (.v (.int _ n))=>bif (decide (0≤n)&&decide (n<N)) then nbA ((s.ev x).adv (n.toNat*sz)) else none
   |_,_=>none
  |_=>none
 | .binOp op _ x y _=>xbin op (s.ev x) (s.ev y)
 | .unOp op _ x=>xun op (s.ev x)
 |_=>none
def xn (s:St):Op→Option (AV×List (Nat×Ent))
 | .alloc e=>match (P.info? e).bind (·.zero) with
  |some z=>bif zEv z.cells then some (.pt 0 0,[(0,.box (z.cells.toList.map Tr.v))]) else none
  |none=>none
 | .box _ x=>match zBd (s.ev x) with
  |some cs=>some (.pt 0 0,[(0,.box cs)])
  |none=>none
 |_=>none
def xs (s:St):Op→Option St
 | .store t x y=>match s.ev x,zBd (s.ev y) with
  | .pt id off,some vc=>match s.ent id with
   |some (.box cs)=>bif (zDv P t==some vc.length)&&Nat.ble (off+vc.length) cs.length then some ⟨s.T,setE id (.box (splice cs off vc)) s.E⟩ else none
   |some (.pbox l cs)=>bif (zDv P t==some vc.length)&&Nat.ble (off+vc.length) cs.length then some ⟨s.T,setE id (.pbox l (splice cs off vc)) s.E⟩ else none
   |_=>none
  |_,_=>none
 |_=>none
def xo (o:Oper) (s:St):Option St:=match o.dst with
 |some d=>match xv P s o.op with
  |some av=>some (s.put d av)
  |none=>match xn P s o.op with
   |some r=>some (s.upd d r.1 r.2)
   |none=>none
 |none=>xs P s o.op
end
section
variable {P:Program}
theorem zVy {a b:AV} (h:nbA a=some b):a=b∧b≠.bot:=by
 cases a<;>simp only[nbA]at h<;>first|(cases h;done)|(cases h;exact⟨rfl,fun h=>by cases h⟩)
theorem z4a {o:Oper} {s:St} {op:BinOp} {t t2:TypeId} {x y:Operand} {av:AV} (ho:o.op=.binOp op t x y t2) (h:xbin op (s.ev x) (s.ev y)=some av):Y0 P o s av:=by
 generalize hx:s.ev x=a at h;generalize hy:s.ev y=b at h;unfold xbin at h;split at h
 ·cases op<;>simp only[Option.some.injEq,reduceCtorEq]at h<;>subst h
  ·exact zEx ho hx hy
  ·exact z3x ho hx hy
  ·exact z4E ho hx hy
  all_goals first|exact zIB ho hx hy|exact zZ4 ho hx hy|exact zG4 ho hx hy|exact zZ5 ho hx hy|exact zOV ho hx hy|exact zS3 ho hx hy
 ·cases h
theorem z6P {o:Oper} {s:St} {op:UnOp} {t:TypeId} {x:Operand} {av:AV} (ho:o.op=.unOp op t x) (h:xun op (s.ev x)=some av):Y0 P o s av:=by
 generalize hx:s.ev x=a at h;unfold xun at h;split at h
 ·cases op<;>simp only[Option.some.injEq,reduceCtorEq]at h;subst h;exact zS1 ho hx
 ·cases op<;>simp only[Option.some.injEq,reduceCtorEq]at h;subst h;exact zOT ho hx
 ·cases h
theorem z5m {o:Oper} {s:St} {av:AV} (h:xv P s o.op=some av):Y0 P o s av:=by
 unfold xv at h;split at h
 ·cases h;rename_i ho;exact z0d ho
 ·cases h;rename_i ho;exact zUr ho
 ·rename_i ho;split at h
  ·rename_i hx;obtain⟨h1,h2⟩:=zVy h;exact zG8 _ _ _ ho hx h1 h2
  ·cases h
 ·rename_i ho;split at h
  ·rename_i hu;split at h
   ·rename_i hf;split at h
    ·rename_i hs;obtain⟨h1,h2⟩:=zVy h;exact zAL _ hu hf hs ho h1 h2
    ·cases h
   ·cases h
  ·cases h
 ·rename_i ho;split at h
  ·rename_i d hu;cases ha:aggD d with
   |true=>
    rw[ha,zb]at h;split at h
    ·rename_i n cs hn hm;cases hb:Nat.ble n cs.length with
     |true=>
      rw[hb,zb]at h;cases h;exact zGr _ ⟨⟨d,hu,ha⟩,hn⟩ ho hm (Nat.le_of_ble_eq_true hb) rfl
     |false=>rw[hb,zc]at h;cases h
    ·cases h
   |false=>
    rw[ha,zc]at h;split at h
    ·rename_i c cs hm;cases h;exact jR ⟨d,hu,ha⟩ ho hm
    ·cases h
  ·cases h
 ·rename_i ho;split at h
  ·rename_i N e hu;split at h
   ·rename_i sz k n hs hi;cases hb:(decide (0≤n)&&decide (n<(N:Int))) with
    |true=>
     rw[hb,zb]at h;obtain⟨h1,h2⟩:=zVy h;exact z8H _ hu hs ho hi hb h1 h2
    |false=>rw[hb,zc]at h;cases h
   ·cases h
  ·cases h
 ·rename_i ho;exact z4a ho h
 ·rename_i ho;exact z6P ho h
 ·cases h
theorem z5n {o:Oper} {s:St} {r:AV×List (Nat×Ent)} (h:xn P s o.op=some r):Y1 P o s r.1 r.2:=by
 unfold xn at h;split at h
 ·rename_i e ho;split at h
  ·rename_i z hz;cases hc:zEv z.cells with
   |true=>rw[hc,zb]at h;cases h;exact zMj ho hz hc
   |false=>rw[hc,zc]at h;cases h
  ·cases h
 ·rename_i e x ho;split at h
  ·rename_i cs hx;cases h;exact zSZ ho hx
  ·cases h
 ·cases h
theorem xs_ok {o:Oper} {s s':St} (hd:o.dst=none) (h:xs P s o.op=some s'):X P o s s':=by
 unfold xs at h;split at h
 ·rename_i t x y ho;split at h
  ·rename_i id off vc hx hy;split at h
   ·rename_i cs he;cases hb:(zDv P t==some vc.length)&&Nat.ble (off+vc.length) cs.length with
    |true=>
     rw[hb,zb]at h;cases h;rw[zk,beq_iff_eq]at hb;exact zEz _ ho hd hx he hy hb.1 (Nat.le_of_ble_eq_true hb.2) rfl
    |false=>rw[hb,zc]at h;cases h
   ·rename_i l cs he;cases hb:(zDv P t==some vc.length)&&Nat.ble (off+vc.length) cs.length with
    |true=>
     rw[hb,zb]at h;cases h;rw[zk,beq_iff_eq]at hb;exact z45 _ ho hd hx he hy hb.1 (Nat.le_of_ble_eq_true hb.2) rfl
    |false=>rw[hb,zc]at h;cases h
   ·cases h
  ·cases h
 ·cases h
theorem xo_ok {o:Oper} {s s':St} (h:xo P o s=some s'):X P o s s':=by
 unfold xo at h;split at h
 ·rename_i d hd;split at h
  ·rename_i av hv;cases h;exact zB hd (z5m hv)
  ·split at h
   ·rename_i r hn;cases h;exact zDq hd (z5n hn)
   ·cases h
 ·rename_i hd;exact xs_ok hd h
section
variable (P)
def dr2 (l:List Oper) (ms:List Nat) (n1:Nat) (css:List (List Cd)) (rs:List Res) (S:St):Op→Option (List Res)
 | .store t x y=>match S.ev x,zBd (S.ev y) with
  | .pt id off,some vc=>match S.ent id with
   |some (.box cs)=>bif (zDv P t==some vc.length)&&Nat.ble (off+vc.length) cs.length&&(zOl rs.length id css&&(mkOk ms rs.length id 0 (l.take n1)&&zHu id rs)) then some (rs++[.r2 id (.box (splice cs off vc))]) else none
   |_=>none
  |_,_=>none
 |_=>none
end
end
section
variable {P:Program}
theorem z52 {o:Oper} {s:St} {x:Operand} {t t2:TypeId} {ms:Array (String×TypeId)} {b:Bool} (hu:P.underlying t=some (.interface ms)) (ho:o.op=.binOp .neq t x (.const .nilIface) t2) (hx:s.ev x=.er b):Y0 P o s (Bo (!b)):=
 qH fun ok σ a w hC=>by
  have h1:=hC.ev x;rw[hx]at h1;have h2:(b=true∧a.eval x=.nilIface)∨(b=false∧∃t v,a.eval x=.iface t v):=h1;refine⟨.bool (!b),?_,zJZ _ _ _⟩;unfold execOp;rw[ho];have e1:∀w,(eqGuard .neq t x (.const .nilIface) (a.eval x) .nilIface).run P w=.ok () w:=fun w=>by
   rcases h2 with⟨_,h3⟩|⟨_,tx,v,h3⟩<;>rw[h3]<;>simp[eqGuard]
  have e2:∀d:Nat,(Op.equalIn (d+1) t (a.eval x) .nilIface).run P w=.ok b w:=fun d=>by
   rcases h2 with⟨h4,h3⟩|⟨h4,tx,v,h3⟩<;>rw[h3,h4]<;>simp[Op.equalIn,run_underlying hu]
  have e3:(binOp .neq t (a.eval x) .nilIface).run P w=.ok (.bool (!b)) w:=by
   have e4:=e2 9999;rcases h2 with⟨h4,h3⟩|⟨h4,tx,v,h3⟩<;>rw[h3]at e4 ⊢<;>simp only[binOp]<;>simp[Op.equal,Op.maxDepth,e4]
  have e5:a.eval (.const .nilIface)=.nilIface:=rfl;simp only[e5,Sem.run_bind,e1,e3,Result.andThen_ok,Sem.run_pure]
theorem z54 {o:Oper} {s:St} {x:Operand} {t t2:TypeId} {ms:Array (String×TypeId)} {b:Bool} (hu:P.underlying t=some (.interface ms)) (ho:o.op=.binOp .eql t x (.const .nilIface) t2) (hx:s.ev x=.er b):Y0 P o s (Bo b):=
 qH fun ok σ a w hC=>by
  have h1:=hC.ev x;rw[hx]at h1;have h2:(b=true∧a.eval x=.nilIface)∨(b=false∧∃t v,a.eval x=.iface t v):=h1;refine⟨.bool b,?_,zJZ _ _ _⟩;unfold execOp;rw[ho];have e1:∀w,(eqGuard .eql t x (.const .nilIface) (a.eval x) .nilIface).run P w=.ok () w:=fun w=>by
   rcases h2 with⟨_,h3⟩|⟨_,tx,v,h3⟩<;>rw[h3]<;>simp[eqGuard]
  have e2:∀d:Nat,(Op.equalIn (d+1) t (a.eval x) .nilIface).run P w=.ok b w:=fun d=>by
   rcases h2 with⟨h4,h3⟩|⟨h4,tx,v,h3⟩<;>rw[h3,h4]<;>simp[Op.equalIn,run_underlying hu]
  have e3:(binOp .eql t (a.eval x) .nilIface).run P w=.ok (.bool b) w:=by
   have e4:=e2 9999;rcases h2 with⟨h4,h3⟩|⟨h4,tx,v,h3⟩<;>rw[h3]at e4 ⊢<;>simp only[binOp]<;>simp[Op.equal,Op.maxDepth,e4]
  have e5:a.eval (.const .nilIface)=.nilIface:=rfl;simp only[e5,Sem.run_bind,e1,e3,Result.andThen_ok,Sem.run_pure]
theorem zXy {c:ByteArray→List Tr} (hcc:∀v,c v=[.v (.string v)]):∀(xs:List ByteArray),(xs.map c).flatten=xs.map fun x=>Tr.v (.string x)
 |[]=>rfl
 |x::xs=>by simp[hcc,zXy hcc xs]
theorem zZx {ok:Nat→Prop} {w:World}:∀(xs:List ByteArray),RdL ok w (xs.map fun x=>Tr.v (.string x)) (xs.map Value.string)
 |[]=>.nil
 |x::xs=>.cons (Rd.v _ rfl) (zZx xs)
theorem zUw {f:FuncId} {args:List AV} {T:TypeId} {c:ByteArray→List Tr} (hcc:∀v,c v=[.v (.string v)]) {xs:List ByteArray}
  (h:∀ok σ w vs,(∀g,ok g→g<w.heap.size)→Lb ok w→RelA ok σ w args vs→Calls P f vs.toArray w fun e w'=>∃A cap,e=.returned (.slice (some ⟨A,0,none⟩) xs.length cap)∧w.heap.size≤A∧
   w'.ownsRow w.heap.size T 1 (.slice (some ⟨A,0,none⟩) xs.length cap) xs.length (xs.map Value.string)∧Below w.heap.size w w'):zD P f args (.ow 0) [(0,.arr T 1 (xs.map c))]:=by
 intro ok σ w vs hok hlib hargs;refine (h ok σ w vs hok hlib hargs).mono ?_
 rintro e w' ⟨A,cap,rfl,hA,hown,hb⟩;refine⟨_,ok,fun _=>⟨some A,xs.length,cap⟩,rfl,⟨hb,fun _ h=>h,fun _ h=>.inl h,fun g hg=>Nat.lt_of_lt_of_le (hok g hg) hb.size,rfl,?_,?_,?_,?_,?_,?_⟩⟩
 ·intro id e he;obtain⟨rfl,_⟩:=jU _ _ _ _ he;decide
 ·intro e he;simp only[AV.ment];cases h:(0 / 8==e) with
  |false=>rfl
  |true=>exact absurd (by simpa using h:0=e).symm he
 ·intro id e he;obtain⟨rfl,rfl⟩:=jU _ _ _ _ he;refine⟨by decide,(List.length_map ..).symm,fun el hel=>?_,xs.map Value.string,?_,?_⟩
  ·obtain⟨x,_,rfl⟩:=List.mem_map.1 hel;rw[hcc];rfl
  ·refine⟨by simp,?_⟩;rcases hown.2 with⟨h1,_⟩|⟨g,cap2,cur,h1,h2,h3,h4,h5,h6,h7⟩
   ·cases h1
   ·refine .inr ⟨g,cap2,cur,?_,Nat.zero_le _,h3,by simpa using h4,h5,h6,by simpa using h7⟩;rw[List.length_map];exact h1
  ·rw[zXy hcc];exact zZx xs
 ·intro id e g he hg;obtain⟨rfl,rfl⟩:=jU _ _ _ _ he;have hg2:some A=some g:=hg;injection hg2 with hg2;subst hg2;refine⟨hA,fun h=>?_,?_⟩
  ·have:=hok _ h;omega
  ·rcases hown.2 with⟨h1,_⟩|⟨g,cap2,cur,h1,h2,h3,h4,h5,h6,h7⟩
   ·cases h1
   ·injection h1 with h1;injection h1 with h1;injection h1 with h1;subst h1;by_cases hlt:A<w'.heap.size
    ·exact hlt
    ·have:=Array.getElem?_eq_none (xs:=w'.heap) (i:=A) (by omega);rw[this]at h3;cases h3
 ·intro i j e f g hi hj h1 h2;obtain⟨rfl,_⟩:=jU _ _ _ _ hi;obtain⟨rfl,_⟩:=jU _ _ _ _ hj;rfl
 ·intro id e he;obtain⟨rfl,rfl⟩:=jU _ _ _ _ he;rfl
theorem zY1 {f:FuncId} {T:TypeId} {c:ByteArray→List Tr} (hcc:∀v,c v=[.v (.string v)])
  (hc:∀ok w (s sep:ByteArray),Lb ok w→s.size<4294967281→1≤sep.size→Calls P f #[.string s,.string sep] w fun e w'=>e=.returned (.slice (some ⟨w.heap.size,0,none⟩) (Go.Lib.countB s sep+1) (Go.Lib.countB s sep+1))∧w'=w.alloc (.cells ((Go.Lib.splitB sep 0 (Go.Lib.countB s sep) s).map Value.string).toArray T))
  {s sep:ByteArray} {r:List ByteArray} (h:jW s sep=some r):zD P f [.c (.v (.string s)),.c (.v (.string sep))] (.ow 0) [(0,.arr T 1 (r.map c))]:=by
 unfold jW at h;split at h
 ·rename_i hn;injection h with h;subst h;have hlen:=Go.Lib.splitB_all sep hn.2 0 _ s rfl;refine zUw hcc fun ok σ w vs hok hlib hargs=>?_
  cases hargs with
  |cons h1 h2=>
   cases h2 with
   |cons h3 h4=>
    cases h4;have:=zF1 h1;subst this;have:=zF1 h3;subst this;refine (hc ok w s sep hlib hn.1 hn.2).mono ?_
    rintro e w' ⟨rfl,rfl⟩;have hle:=Go.Lib.countB_le sep hn.2 s.size s (Nat.le_refl _);refine⟨w.heap.size,Go.Lib.countB s sep+1,by rw[hlen],Nat.le_refl _,⟨by simp,.inr ⟨w.heap.size,Go.Lib.countB s sep+1,((Go.Lib.splitB sep 0 (Go.Lib.countB s sep) s).map Value.string).toArray,rfl,Nat.le_refl _,?_,by omega,?_,?_,?_⟩⟩,(Below.refl _ _).alloc (Nat.le_refl _) _⟩
    ·exact (MapKept.heap_alloc w _).1
    ·unfold maxLen;omega
    ·simp[hlen]
    ·rw[List.take_of_length_le (by simp)]
 ·cases h
theorem zZd {f:FuncId} (hc:∀ok w (s:ByteArray),Lb ok w→s.size≤281474976710656→∀r,zAM s=some r→Calls P f #[.string s] w fun e w'=>(∃v,e=.returned (.tuple #[.int .i64 r.1,v])∧((r.2=true∧v=.nilIface)∨(r.2=false∧∃t u,v=.iface t u)))∧Below w.heap.size w w')
  {s:ByteArray} {r:Int×Bool} (h:zAM s=some r):zD P f [.c (.v (.string s))] (.tc (I r.1) (.tc (.er r.2) .tn)) []:=by
 have hn:s.size≤281474976710656:=by
  unfold zAM at h;split at h
  ·assumption
  ·cases h
 intro ok σ w vs hok hlib hargs;cases hargs with
 |cons h1 h2=>
  cases h2;have:=zF1 h1;subst this;refine (hc ok w s hlib hn r h).mono ?_
  rintro e w' ⟨⟨v,rfl,hv⟩,hb⟩;exact⟨_,ok,σ,rfl,⟨hb,fun _ h=>h,fun _ h=>.inl h,fun g hg=>Nat.lt_of_lt_of_le (hok g hg) hb.size,⟨_,rfl,zIo _ _ _ _,hv,trivial⟩,fun id e h=>by simp at h,fun e he=>rfl,fun id e h=>by simp at h,fun id e g h=>by simp at h,fun i j e f g h=>by simp at h,fun id e h=>by simp at h⟩⟩
end
end Go.Proofs.YtahdjphocippeaaGreatDoor
namespace Go.Proofs.YtahdjphocippeaaGreatDoor
def spl (c:UInt8):List UInt8→List (List UInt8)
 |[]=>[[]]
 |b::l=>if b=c then []::spl c l else match spl c l with
  |w::ws=>(b::w)::ws
  |[]=>[[b]]
theorem zI7 (c:UInt8):∀l,spl c l≠[]
 |[]=>by simp[spl]
 |b::l=>by
  unfold spl;split
  ·simp
  ·split<;>simp
theorem zHb (c:UInt8) (l:List UInt8):spl c (c::l)=[]::spl c l:=by simp[spl]
theorem zDZ {b c:UInt8} (h:b≠c) {l w:List UInt8} {ws:List (List UInt8)} (e:spl c l=w::ws):spl c (b::l)=(b::w)::ws:=by simp[spl,h,e]
theorem z2u (c:UInt8) (l:List UInt8):Go.Lib.index (c::l) [c]=0:=by simp[Go.Lib.index]
theorem z2t {b c:UInt8} (h:b≠c) (l:List UInt8):Go.Lib.index (b::l) [c]=if Go.Lib.index l [c]==-1 then -1 else Go.Lib.index l [c]+1:=by
 have:([c]:List UInt8).isPrefixOf (b::l)=false:=by
  simp[List.isPrefixOf,Ne.symm h]
 rw[show Go.Lib.index (b::l) [c]=if ([c]:List UInt8).isPrefixOf (b::l)=true then 0 else if Go.Lib.index l [c]==-1 then -1 else Go.Lib.index l [c]+1 from rfl,this];rfl
theorem zQr (c:UInt8):∀(l:List UInt8),Go.Lib.splitK [c] 0 (l.count c) l=spl c l
 |[]=>rfl
 |b::l=>by
  have ih:=zQr c l;by_cases h:b=c
  ·subst h;rw[List.count_cons_self,zHb,←ih,Go.Lib.splitK,z2u];rfl
  ·rw[List.count_cons_of_ne (by exact fun e=>h e)];cases hk:l.count c with
   |zero=>
    rw[hk]at ih;have ih:[l]=spl c l:=ih;rw[zDZ h ih.symm];rfl
   |succ k=>
    rw[hk]at ih;rw[Go.Lib.splitK]at ih ⊢;rw[z2t h];cases hi:(Go.Lib.index l [c]==-1) with
    |true=>
     rw[hi,if_pos rfl]at ih;rw[if_pos (by rfl),zDZ h ih.symm]
    |false=>
     rw[hi,if_neg (by decide)]at ih;have hge:=Go.Lib.index_ge l [c];have hne:Go.Lib.index l [c]≠-1:=by rw[zw]at hi;exact hi
     have e1:(if false=true then (-1:Int) else Go.Lib.index l [c]+1)=Go.Lib.index l [c]+1:=rfl;have e2:(Go.Lib.index l [c]+1==-1)=false:=by rw[zw];omega
     have e3:(Go.Lib.index l [c]+1).toNat=(Go.Lib.index l [c]).toNat+1:=by omega
     rw[e1,e2,if_neg (by decide),zDZ h ih.symm,e3];rfl
theorem zNX (s:ByteArray) (c:UInt8) (h:s.size<4294967281):jW s ⟨#[c]⟩=some ((spl c s.data.toList).map bl):=by
 have h1:1≤(⟨#[c]⟩:ByteArray).size:=Nat.le_refl 1;unfold jW;rw[if_pos ⟨h,h1⟩];have e1:=Go.Lib.splitB_data ⟨#[c]⟩ 0 (Go.Lib.countB s ⟨#[c]⟩) s;have e2:Go.Lib.countB s ⟨#[c]⟩=s.data.toList.count c:=Go.Lib.count_one c _;have e3:(⟨#[c]⟩:ByteArray).data.toList=[c]:=rfl;rw[e2]at e1 ⊢;rw[e3,zQr]at e1;rw[←e1,List.map_map];have:(bl∘fun x:ByteArray=>x.data.toList)=id:=by
  funext x
  rfl
 rw[this,List.map_id]
def fld (p:UInt8→Bool):List UInt8→List UInt8→List (List UInt8)
 |cur,[]=>if cur=[] then [] else [cur]
 |cur,b::l=>if p b=true then (if cur=[] then fld p [] l else cur::fld p [] l) else fld p (cur++[b]) l
theorem z5F {p:UInt8→Bool} {cur:List UInt8} (h:cur≠[]):fld p cur []=[cur]:=by
 unfold fld;rw[if_neg h]
theorem z0V {p:UInt8→Bool} {cur l:List UInt8} {b:UInt8} (hb:p b=true) (h:cur≠[]):fld p cur (b::l)=cur::fld p [] l:=by
 rw[fld,if_pos hb,if_neg h]
theorem zXx {p:UInt8→Bool} {l:List UInt8} {b:UInt8} (hb:p b=true):fld p [] (b::l)=fld p [] l:=by
 rw[fld,if_pos hb,if_pos rfl]
theorem zZL {p:UInt8→Bool} {cur l:List UInt8} {b:UInt8} (hb:p b=false):fld p cur (b::l)=fld p (cur++[b]) l:=by
 rw[fld,if_neg (by rw[hb];decide)]
theorem z1O {s:ByteArray} {i:Nat} (hi:i<s.size) (h:(s.data.toList[i]'hi).toNat<128):Utf8.decode s i=((s.data.toList[i]'hi).toNat,1):=by
 have e:(s.get! (i+0)).toNat=(s.data.toList[i]'hi).toNat:=by
  have:s.get! (i+0)=s.data.toList[i]'hi:=by
   show s.data[i+0]! =_;have hi2:i<s.data.size:=hi;rw[Nat.add_zero,getElem!_pos s.data i hi2];rfl
  rw[this]
 unfold Utf8.decode;simp only[e];rw[if_pos h]
def curO (s:ByteArray) (pos:Nat):Option Nat→List UInt8
 |some a=>(s.data.toList.drop a).take (pos - a)
 |none=>[]
theorem zUR {α:Type} {l:List α} {a i:Nat} {x:α} (ha:a≤i) (h:l[i]?=some x):(l.drop a).take (i+1 - a)=(l.drop a).take (i - a)++[x]:=by
 rw[show i+1 - a=(i - a)+1 by omega,List.take_add_one,List.getElem?_drop,show a+(i - a)=i by omega,h];rfl
theorem z4d {α:Type} {l:List α} {a i:Nat} (h:a<i) (hi:i≤l.length):(l.drop a).take (i - a)≠[]:=by
 intro e;have:=congrArg List.length e;simp at this;omega
theorem zGY (s:ByteArray) (a b:Nat):s.extract a b=bl ((s.data.toList.drop a).take (b - a)):=by
 have h:=Go.Lib.extract_data s a b;have e:∀x:ByteArray,x=bl x.data.toList:=fun x=>rfl;rw[e (s.extract a b),h]
theorem z0W (p:Nat→Bool) (s:ByteArray) (st:Option Nat) (acc:List (Nat×Nat)) (hst:∀a,st=some a→a<s.size):
  (Go.Lib.closeSpans s (acc,st)).map (fun x=>s.extract x.1 x.2)=acc.map (fun x=>s.extract x.1 x.2)++(fld (fun b=>p b.toNat) (curO s s.size st) []).map bl:=by
 cases st with
 |none=>simp[Go.Lib.closeSpans,fld,curO]
 |some a=>
  have ha:=hst a rfl;have hne:(s.data.toList.drop a).take (s.size - a)≠[]:=by
   intro h;have:=congrArg List.length h;simp at this;have e:s.data.size=s.size:=rfl;omega
  simp only[Go.Lib.closeSpans,curO,List.map_append,List.map_cons,zr,zGY];rw[z5F hne];rfl
theorem z1I (p:Nat→Bool) (s:ByteArray) (ha:∀b∈s.data.toList,b.toNat<128):∀(f pos:Nat) (st:Option Nat) (acc:List (Nat×Nat)),s.size≤pos+f→pos≤s.size→(∀a,st=some a→a<pos)→
  (Go.Lib.closeSpans s (Go.Lib.spansFromP p s f pos st acc)).map (fun x=>s.extract x.1 x.2)=acc.map (fun x=>s.extract x.1 x.2)++(fld (fun b=>p b.toNat) (curO s pos st) (s.data.toList.drop pos)).map bl:=by
 intro f;have hsz:s.data.toList.length=s.size:=rfl
 induction f with
 |zero=>
  intro pos st acc hf hp hst;have e:pos=s.size:=by omega
  subst e;rw[zo (by omega)];rw[show Go.Lib.spansFromP p s 0 s.size st acc=(acc,st) from rfl];exact z0W p s st acc hst
 |succ f ih=>
  intro pos st acc hf hp hst;by_cases hlt:pos<s.size
  ·have hd:=z1O hlt (ha _ (zx ..));have hdr:s.data.toList.drop pos=s.data.toList[pos]'hlt::s.data.toList.drop (pos+1):=List.drop_eq_getElem_cons hlt;generalize hb:s.data.toList[pos]'hlt=b at hd hdr;have hget:s.data.toList[pos]?=some b:=by rw[←hb];exact zz hlt
   unfold Go.Lib.spansFromP;rw[if_pos hlt,hd,hdr];cases hpb:p b.toNat with
   |true=>
    rw[if_pos rfl];cases st with
    |some a=>
     have hap:=hst a rfl;have hne:(s.data.toList.drop a).take (pos - a)≠[]:=z4d hap (by omega);rw[ih (pos+1) none _ (by omega) (by omega) (fun a h=>by cases h)];simp only[curO,List.map_append,List.map_cons,zr,zGY,zu,List.singleton_append];rw[z0V (p:=fun b=>p b.toNat) hpb hne];rfl
    |none=>
     rw[ih (pos+1) none _ (by omega) (by omega) (fun a h=>by cases h)];simp only[curO];rw[zXx (p:=fun b=>p b.toNat) hpb]
   |false=>
    rw[if_neg (by decide)];cases st with
    |some a=>
     have hap:=hst a rfl;rw[ih (pos+1) (some a) _ (by omega) (by omega) (fun a' h=>by injection h with h;omega)];simp only[curO,zUR (Nat.le_of_lt hap) hget];rw[zZL (p:=fun b=>p b.toNat) hpb]
    |none=>
     rw[ih (pos+1) (some pos) _ (by omega) (by omega) (fun a' h=>by injection h with h;omega)];have e:(s.data.toList.drop pos).take (pos+1 - pos)=[b]:=by
      rw[hdr,Nat.add_sub_cancel_left];rfl
     simp only[curO,e];rw[zZL (p:=fun b=>p b.toNat) hpb];rfl
  ·have e:pos=s.size:=by omega
   rw[Go.Lib.spansFromP_end _ _ _ _ _ _ hlt];subst e;rw[zo (by omega)];exact z0W p s st acc hst
theorem zZN (p:Nat→Bool) (s:ByteArray) (ha:∀b∈s.data.toList,b.toNat<128):Go.Lib.goFieldsP p s=(fld (fun b=>p b.toNat) [] s.data.toList).map bl:=by
 have h:=z1I p s ha s.size 0 none [] (by omega) (by omega) (fun a h=>by cases h);exact h
end Go.Proofs.YtahdjphocippeaaGreatDoor
namespace Go.Proofs.YtahdjphocippeaaGreatDoor
open Go.Lib
def isD (b:UInt8):Bool:=decide (48≤b.toNat)&&decide (b.toNat≤57)
theorem zJA {d:Nat} (h:d<10):(UInt8.ofNat (48+d)).toNat=48+d:=by
 rw[UInt8.toNat_ofNat'];omega
theorem zJc {u:Nat} (h:u<10):decDigits u=[UInt8.ofNat (48+u)]:=by rw[decDigits,dif_pos h]
theorem zHX {u:Nat} (h:¬u<10):decDigits u=decDigits (u / 10)++[UInt8.ofNat (48+u % 10)]:=by rw[decDigits,dif_neg h]
theorem zQR (Q:Nat→Prop) (h1:∀u,u<10→Q u) (h2:∀u,¬u<10→Q (u / 10)→Q u):∀u,Q u:=by
 intro u
 induction u using Nat.strongRecOn with
 |ind u ih=>
  by_cases h:u<10
  ·exact h1 u h
  ·exact h2 u h (ih _ (by omega))
theorem zM2:∀u,∀b∈decDigits u,isD b=true:=by
 refine zQR _ (fun u h b hb=>?_) fun u h ih b hb=>?_
 ·rw[zJc h,qf]at hb;subst hb;simp only[isD,zJA h,zk,decide_eq_true_eq];omega
 ·rw[zHX h,List.mem_append,qf]at hb;rcases hb with hb|rfl
  ·exact ih b hb
  ·simp only[isD,zJA (show u % 10<10 by omega),zk,decide_eq_true_eq];omega
theorem zNt (u:Nat):decDigits u≠[]:=by
 by_cases h:u<10
 ·rw[zJc h];simp
 ·rw[zHX h];simp
theorem zOj:∀(l:List UInt8) (acc n:Nat) (b:UInt8) (d:Nat),decFrom acc l=some n→digitVal b=some d→decFrom acc (l++[b])=some (n*10+d)
 |[],acc,n,b,d,h,hb=>by
  simp only[decFrom,Option.some.injEq]at h;subst h;simp[decFrom,hb]
 |c::r,acc,n,b,d,h,hb=>by
  simp only[List.cons_append,decFrom]at h ⊢;cases hc:digitVal c with
  |none=>rw[hc]at h;cases h
  |some e=>
   rw[hc]at h;exact zOj r _ n b d h hb
theorem z34 {d:Nat} (h:d<10):digitVal (UInt8.ofNat (48+d))=some d:=by
 unfold digitVal;rw[zJA h];rw[if_pos (by omega)];congr 1;omega
theorem zYC:∀u,decFrom 0 (decDigits u)=some u:=by
 refine zQR _ (fun u h=>?_) fun u h ih=>?_
 ·rw[zJc h];show (match digitVal (UInt8.ofNat (48+u)) with|some d=>decFrom (0*10+d) []|none=>none)=_;rw[z34 h];simp[decFrom]
 ·rw[zHX h,zOj _ _ _ _ _ ih (z34 (show u % 10<10 by omega))];congr 1;omega
theorem zRu (u:Nat):decNat (decDigits u)=some u:=by
 unfold decNat;have:(decDigits u).isEmpty=false:=by
  cases h:decDigits u with
  |nil=>exact absurd h (zNt u)
  |cons a l=>rfl
 rw[this];exact zYC u
theorem zGj {n:Int} (h:0≤n):Go.Lib.itoa n=decDigits n.toNat:=by unfold Go.Lib.itoa;rw[if_neg (by omega)]
theorem zHt {n:Int} (h:n<0):Go.Lib.itoa n=45::decDigits n.natAbs:=by unfold Go.Lib.itoa;rw[if_pos h]
theorem z35 (u:Nat):∃b r,decDigits u=b::r∧isD b=true:=by
 cases h:decDigits u with
 |nil=>exact absurd h (zNt u)
 |cons b r=>exact⟨b,r,rfl,zM2 u b (by rw[h];exact zm ..)⟩
theorem z2o {b:UInt8} (h:isD b=true) (c:UInt8) (hc:isD c=false):b≠c:=by
 intro e;rw[e,hc]at h;cases h
theorem zOR (n:Int):atoi (Go.Lib.itoa n)=some n:=by
 by_cases h:n<0
 ·rw[zHt h];show (if (45:UInt8)==45 then (decNat (decDigits n.natAbs)).map fun (m:Nat)=>-(m:Int) else if (45:UInt8)==43 then (decNat (decDigits n.natAbs)).map fun (m:Nat)=>(m:Int) else (decNat (45::decDigits n.natAbs)).map fun (m:Nat)=>(m:Int))=_;rw[if_pos (by rfl),zRu];simp only[Option.map_some];congr 1;omega
 ·rw[zGj (by omega)];obtain⟨b,r,e,hb⟩:=z35 n.toNat;rw[e];show (if b==45 then (decNat r).map fun (m:Nat)=>-(m:Int) else if b==43 then (decNat r).map fun (m:Nat)=>(m:Int) else (decNat (b::r)).map fun (m:Nat)=>(m:Int))=_;have h1:(b==45)=false:=by rw[zw];exact z2o hb 45 (by decide)
  have h2:(b==43)=false:=by rw[zw];exact z2o hb 43 (by decide)
  rw[h1,h2,if_neg (by decide),if_neg (by decide),←e,zRu];simp only[Option.map_some];congr 1;omega
theorem zRh {n:Int} (h1:-1000000≤n) (h2:n≤1000000):(Go.Lib.itoa n).length≤8:=by
 by_cases h:n<0
 ·rw[zHt h,zg,decDigits_length];have:=zMS 7 n.natAbs (by omega) (by decide);omega
 ·rw[zGj (by omega),decDigits_length];have:=zMS 7 n.toNat (by omega) (by decide);omega
theorem zYP {n:Int} (h1:-1000000≤n) (h2:n≤1000000):zAM (bl (Go.Lib.itoa n))=some (n,true):=by
 have hl:=zRh h1 h2;unfold zAM;rw[if_pos (by rw[jA];omega),zDE,atoiAll_short _ (by omega),zOR];rfl
theorem zUm (s:ByteArray) (h:s.size≤281474976710656):∃r,zAM s=some r:=by
 unfold zAM;rw[if_pos h];cases atoiAll s.data.toList<;>exact⟨_,rfl⟩
def isN (b:UInt8):Bool:=(b.toNat==45)||isD b
theorem zIu (n:Int):∀b∈Go.Lib.itoa n,isN b=true:=by
 intro b hb;by_cases h:n<0
 ·rw[zHt h]at hb;cases hb with
  |head=>rfl
  |tail _ hb=>simp only[isN,zM2 _ b hb,Bool.or_true]
 ·rw[zGj (by omega)]at hb;simp only[isN,zM2 _ b hb,Bool.or_true]
theorem z4z (n:Int):Go.Lib.itoa n≠[]:=by
 by_cases h:n<0
 ·rw[zHt h];simp
 ·rw[zGj (by omega)];exact zNt _
theorem zNq {b:UInt8} (h:isN b=true):b.toNat<128:=by
 simp only[isN,isD,Bool.or_eq_true,zk,decide_eq_true_eq,beq_iff_eq]at h;omega
theorem zXw {p:UInt8→Bool}:∀(w cur l:List UInt8),(∀b∈w,p b=false)→fld p cur (w++l)=fld p (cur++w) l
 |[],cur,l,h=>by rw[zt,List.append_nil]
 |b::w,cur,l,h=>by
  rw[List.cons_append,zZL (h b (zm ..)),zXw w _ l (fun x hx=>h x (zn _ hx)),zu];rfl
theorem zWL {p:UInt8→Bool} (hp:∀b,isN b=true→p b=false) {c:UInt8} (hc:p c=true) (n:Int) (l:List UInt8):fld p [] (Go.Lib.itoa n++c::l)=Go.Lib.itoa n::fld p [] l:=by
 rw[zXw _ _ _ (fun b hb=>hp b (zIu n b hb)),zt,z0V hc (z4z n)]
theorem zZp {c:UInt8}:∀(w:List UInt8),(∀b∈w,b≠c)→spl c w=[w]
 |[],_=>rfl
 |b::w,h=>zDZ (h b (zm ..)) (zZp w fun x hx=>h x (zn _ hx))
theorem zXX {c:UInt8}:∀(w l:List UInt8),(∀b∈w,b≠c)→spl c (w++c::l)=w::spl c l
 |[],l,_=>zHb c l
 |b::w,l,h=>zDZ (h b (zm ..)) (zXX w l fun x hx=>h x (zn _ hx))
theorem z4y (n:Int) (c:UInt8) (hc:isN c=false):∀b∈Go.Lib.itoa n,b≠c:=fun b hb e=>by
 have:=zIu n b hb;rw[e,hc]at this;cases this
theorem z6H (f:Int×Int×Int):fB f=40::(Go.Lib.itoa f.1++44::(Go.Lib.itoa f.2.1++44::(Go.Lib.itoa f.2.2++[41]))):=by
 simp[fB]
def pN (x:Nat):Bool:=(x != 45)&&(decide (x<48)||decide (57<x))
theorem z6X (b:UInt8):pN b.toNat=!isN b:=by
 unfold pN isN isD;rw[Bool.eq_iff_iff];simp only[zk,Bool.or_eq_true,bne_iff_ne,decide_eq_true_eq,Bool.not_eq_true',Bool.or_eq_false_iff,zw,Bool.and_eq_false_iff,decide_eq_false_iff_not];omega
theorem z1J (f:Int×Int×Int):fld (fun b=>pN b.toNat) [] (fB f)=[Go.Lib.itoa f.1,Go.Lib.itoa f.2.1,Go.Lib.itoa f.2.2]:=by
 have hp:∀b,isN b=true→(fun b:UInt8=>pN b.toNat) b=false:=fun b h=>by simp only[z6X,h,zh]
 rw[z6H,zXx (by decide),zWL hp (by decide),zWL hp (by decide),zWL hp (by decide)];rfl
theorem z3M (f:Int×Int×Int):∀b∈fB f,b.toNat<128:=by
 intro b hb;rw[z6H]at hb;simp only[zl,List.mem_append,zq,or_false]at hb;rcases hb with rfl|hb|rfl|hb|rfl|hb|rfl
 ·decide
 ·exact zNq (zIu _ b hb)
 ·decide
 ·exact zNq (zIu _ b hb)
 ·decide
 ·exact zNq (zIu _ b hb)
 ·decide
theorem zIy (f:Int×Int×Int):goFieldsP pN (bl (fB f))=[bl (Go.Lib.itoa f.1),bl (Go.Lib.itoa f.2.1),bl (Go.Lib.itoa f.2.2)]:=by
 rw[zZN pN (bl (fB f)) (by rw[zDE];exact z3M f),zDE,z1J];rfl
theorem zMh (x:ByteArray):x=bl x.data.toList:=rfl
theorem zHz {a b:List UInt8} (h:bl a=bl b):a=b:=by
 have:=congrArg (fun x:ByteArray=>x.data.toList) h;simpa [bl] using this
theorem eqS (a b:ByteArray):(a.toList==b.toList)=decide (a=b):=by
 rw[ByteArray.toList_eq,ByteArray.toList_eq,Bool.eq_iff_iff,beq_iff_eq,decide_eq_true_iff];constructor
 ·intro h;rw[zMh a,zMh b,h]
 ·intro h;rw[h]
theorem zEt {s:ByteArray} {i:Nat} (h:i<s.size):getB s (i:Int)=some (((s.data.toList[i]'h).toNat:Nat):Int):=by
 have h2:i<s.data.toList.length:=h;unfold getB;rw[if_pos (by omega)];simp only[zj,zz h2,Option.getD_some]
theorem zHO {n l h:Nat} (h1:l≤h) (h2:h≤n):slc n (l:Int) (h:Int)=some ():=by
 unfold slc;rw[qU,qU,qU,zd (by omega),zd (by omega),zd (by omega)];rfl
def splP (c:UInt8) (cur l:List UInt8):List (List UInt8):=match spl c l with
 |w::ws=>(cur++w)::ws
 |[]=>[cur]
theorem zXY (c:UInt8) (l:List UInt8):splP c [] l=spl c l:=by
 unfold splP;cases h:spl c l with
 |nil=>exact absurd h (zI7 c l)
 |cons w ws=>rfl
theorem z4g (c:UInt8) (cur l:List UInt8):splP c cur (c::l)=cur::spl c l:=by
 unfold splP;rw[zHb];simp
theorem z4f {b c:UInt8} (h:b≠c) (cur l:List UInt8):splP c cur (b::l)=splP c (cur++[b]) l:=by
 unfold splP;cases e:spl c l with
 |nil=>exact absurd e (zI7 c l)
 |cons w ws=>
  rw[zDZ h e];simp
theorem zQE (c:UInt8):∀l,(spl c l).length≤l.length+1
 |[]=>by simp[spl]
 |b::l=>by
  have ih:=zQE c l;by_cases h:b=c
  ·subst h;rw[zHb];simp;omega
  ·cases e:spl c l with
   |nil=>exact absurd e (zI7 c l)
   |cons w ws=>rw[zDZ h e];rw[e]at ih;simp at ih ⊢;omega
theorem z0a (b c:UInt8):((b.toNat:Int)==(c.toNat:Int))=decide (b=c):=by
 rw[Bool.eq_iff_iff,beq_iff_eq,decide_eq_true_iff];constructor
 ·intro h;exact UInt8.toNat_inj.1 (by omega)
 ·intro h;rw[h]
theorem zXm (s:ByteArray) (c:UInt8) (hs:s.size≤100000000):∀(k n f i:Nat) (l:List ByteArray),s.size - i=k→k<n→f≤i→i≤s.size→l.length≤i→
  ∃f' l',zA7 ((c.toNat:Nat):Int) s n (f:Int) (i:Int) l=some (((f':Nat):Int),l')∧f'≤s.size∧l'.length≤s.size∧l'++[bl (s.data.toList.drop f')]=l++(splP c ((s.data.toList.drop f).take (i - f)) (s.data.toList.drop i)).map bl:=by
 have hsz:s.data.toList.length=s.size:=rfl;intro k
 induction k with
 |zero=>
  intro n f i l hk hn hfi his hl;obtain⟨n,rfl⟩:∃m,n=m+1:=⟨n - 1,by omega⟩
  refine⟨f,l,?_,by omega,by omega,?_⟩
  ·unfold zA7;rw[zG,ze (by omega),zc]
  ·have e:i=s.size:=by omega
   subst e;rw[zo (show s.data.toList.length≤s.size by omega),splP];simp only[spl,List.append_nil,List.map_cons,zr];rw[List.take_of_length_le (by simp)]
 |succ k ih=>
  intro n f i l hk hn hfi his hl;obtain⟨n,rfl⟩:∃m,n=m+1:=⟨n - 1,by omega⟩
  have hlt:i<s.size:=by omega
  have hdr:s.data.toList.drop i=s.data.toList[i]'hlt::s.data.toList.drop (i+1):=List.drop_eq_getElem_cons hlt;have hg:=zEt hlt;have hget:s.data.toList[i]?=some (s.data.toList[i]'hlt):=zz hlt
  generalize s.data.toList[i]'hlt=b at hdr hg hget;unfold zA7;rw[zG,zd (by omega),zb,hg,za,jE,z0a,hdr];by_cases hb:b=c
  ·subst hb;rw[zd rfl,zb,zHO hfi (by omega),za,zBJ (by simp;omega),za,zO,zO,zCK (by omega)];obtain⟨f',l',h1,h2,h3,h4⟩:=ih n (i+1) (i+1) (l++[s.extract f i]) (by omega) (by omega) (Nat.le_refl _) (by omega) (by simp;omega);refine⟨f',l',h1,h2,h3,?_⟩;rw[h4,z4g,Nat.sub_self,List.take_zero,zXY,zGY];simp
  ·rw[ze hb,zc,zO,zCK (by omega)];obtain⟨f',l',h1,h2,h3,h4⟩:=ih n f (i+1) l (by omega) (by omega) (by omega) (by omega) (by omega);refine⟨f',l',h1,h2,h3,?_⟩;rw[h4,z4f hb,zUR hfi hget]
theorem zGg (s:ByteArray) (c:UInt8) (hs:s.size≤100000000):zAf s ((c.toNat:Nat):Int)=some ((spl c s.data.toList).map bl):=by
 have hF:100000001<FU:=by decide
 obtain⟨f',l',h1,h2,h3,h4⟩:=zXm s c hs s.size FU 0 0 [] rfl (by omega) (Nat.le_refl _) (Nat.zero_le _) (Nat.zero_le _);have h1:zA7 ((c.toNat:Nat):Int) s FU 0 0 []=some (((f':Nat):Int),l'):=h1;unfold zAf;rw[h1];simp only[za];rw[zHO h2 (Nat.le_refl _),za,zBJ (by simp;omega),za];have e:s.extract ((f':Nat):Int).toNat ((s.size:Nat):Int).toNat=bl (s.data.toList.drop f'):=by
  rw[zj,zj,zGY,List.take_of_length_le (by simp)]
 rw[e,h4];simp[zXY]
def dvF (n:Nat) (l:List UInt8):Nat:=l.foldl (fun n b=>10*n+(b.toNat - 48)) n
def dv (l:List UInt8):Nat:=dvF 0 l
theorem zIz (n:Nat) (b:UInt8) (l:List UInt8):dvF n (b::l)=dvF (10*n+(b.toNat - 48)) l:=by
 unfold dvF;rw[List.foldl_cons]
theorem z3W (l:List UInt8) (b:UInt8):dv (l++[b])=10*dv l+(b.toNat - 48):=by simp[dv,dvF]
theorem z3X:∀(l:List UInt8) (n:Nat),n≤dvF n l
 |[],n=>Nat.le_refl _
 |b::l,n=>by
  have:=z3X l (10*n+(b.toNat - 48));rw[zIz];omega
theorem zGk {b:UInt8}:isD b=true↔48≤b.toNat∧b.toNat≤57:=by
 unfold isD;rw[zk,decide_eq_true_iff,decide_eq_true_iff]
theorem zUl {b:UInt8} (h:isD b=true):UInt8.ofNat (48+(b.toNat - 48))=b:=by
 have h:=zGk.1 h;apply UInt8.toNat_inj.1;rw[UInt8.toNat_ofNat'];omega
def canD (l:List UInt8):Bool:=!l.isEmpty&&l.all isD&&(l.length==1||l.head? != some 48)
theorem zUh:∀(k:Nat) (l:List UInt8),l.length=k→l≠[]→(∀b∈l,isD b=true)→(l.head?=some 48→l.length=1)→decDigits (dv l)=l
 |0,l,hk,h,_,_=>absurd (List.length_eq_zero_iff.1 hk) h
 |k+1,l,hk,h,hd,h0=>by
  obtain⟨m,b,rfl⟩:∃m b,l=m++[b]:=⟨l.dropLast,l.getLast h,(List.dropLast_concat_getLast h).symm⟩
  have hb:isD b=true:=hd b (by simp);have hb2:=zGk.1 hb;rw[z3W];cases m with
  |nil=>
   rw[show dv []=0 from rfl,zJc (by omega),show 10*0+(b.toNat - 48)=b.toNat - 48 by omega,zUl hb];rfl
  |cons c m=>
   have hc:isD c=true:=hd c (by simp);have hc2:=zGk.1 hc;have hc3:c≠48:=by
    intro e;have:=h0 (by simp[e]);simp at this
   have hc4:c.toNat≠48:=fun e=>hc3 (UInt8.toNat_inj.1 (by rw[e];rfl));have hpos:1≤dv (c::m):=by
    have:=z3X m (10*0+(c.toNat - 48));show 1≤dvF 0 (c::m);rw[zIz];omega
   rw[zHX (by omega),show (10*dv (c::m)+(b.toNat - 48)) / 10=dv (c::m) by omega,show (10*dv (c::m)+(b.toNat - 48)) % 10=b.toNat - 48 by omega,zUl hb];rw[zUh k (c::m) (by simp at hk;simp;omega) (by simp) (fun x hx=>hd x (List.mem_append_left _ hx)) (fun e=>by
    injection e with e;exact absurd e hc3)]
theorem zWV (u:Nat):dv (decDigits u)=u:=by
 revert u;refine zQR _ (fun u h=>?_) fun u h ih=>?_
 ·rw[zJc h];unfold dv;rw[zIz,zJA h];unfold dvF;rw[List.foldl_nil];omega
 ·rw[zHX h,z3W,ih,zJA (by omega)];omega
theorem zYN (u:Nat):canD (decDigits u)=true:=by
 have h1:=zNt u;have h2:=zM2 u;have h3:∀u,(decDigits u).head?=some 48→(decDigits u).length=1:=by
  refine zQR _ (fun u h=>?_) fun u h ih=>?_
  ·rw[zJc h];intro _;rfl
  ·rw[zHX h];intro e
   exfalso
   have h4:=zNt (u / 10);cases hm:decDigits (u / 10) with
   |nil=>exact h4 hm
   |cons c m=>
    rw[hm]at e;have h5:=ih (by rw[hm];exact e);rw[hm]at h5;have h6:m=[]:=by
     cases m with
     |nil=>rfl
     |cons _ _=>simp at h5
    subst h6;have h7:=zWV (u / 10);rw[hm]at h7;injection e with e;subst e;unfold dv at h7;rw[zIz]at h7;have h8:dvF (10*0+((48:UInt8).toNat - 48)) []=0:=rfl;omega
 unfold canD;have h3:=h3 u;cases hl:decDigits u with
 |nil=>exact absurd hl h1
 |cons c m=>
  rw[hl]at h2 h3;have ha:(c::m).all isD=true:=by rw[List.all_eq_true];exact h2
  rw[ha];by_cases hc:c=48
  ·have:=h3 (by rw[hc];rfl);rw[this];rfl
  ·have:((c::m).head? != some 48)=true:=by
    rw[bne_iff_ne];intro e;injection e with e;exact hc e
   rw[this,Bool.or_true];rfl
theorem zUj {l:List UInt8} (h:canD l=true):decDigits (dv l)=l:=by
 unfold canD at h;simp only[zk,Bool.not_eq_true',Bool.or_eq_true,beq_iff_eq,bne_iff_ne,List.all_eq_true]at h;refine zUh l.length l rfl (fun e=>by rw[e]at h;cases h.1.1) h.1.2 fun e=>?_
 rcases h.2 with h2|h2
 ·exact h2
 ·exact absurd e h2
theorem i8w {x:Int} (h0:0≤x) (h1:x<256):IntKind.i64.wrap (IntKind.u8.wrap x)=x:=by
 rw[IntKind.wrap_u8];have e:x % 256=x:=by omega
 rw[e];exact zNC (by omega)
theorem dstep {v:Nat} {b:UInt8} (hv:v<1000000000000000) (hb:isD b=true):w64 ((w64 (10*(v:Int)))+(IntKind.i64.wrap (IntKind.u8.wrap ((b.toNat:Int) - 48))))=((10*v+(b.toNat - 48):Nat):Int):=by
 have hb:=zGk.1 hb;have e1:w64 (10*(v:Int))=10*(v:Int):=zA (by omega);rw[i8w (by omega) (by omega),e1,zA (by omega)];omega
theorem zYx (s:ByteArray) (hs:s.size≤10):∀(k n i v:Nat),s.size - i=k→k<n→i≤s.size→v<10 ^i→
  zBK s n (v:Int) (i:Int)=some (if (s.data.toList.drop i).all isD then .inl ((dvF v (s.data.toList.drop i):Nat):Int) else .inr (-1)):=by
 have hsz:s.data.toList.length=s.size:=rfl;intro k
 induction k with
 |zero=>
  intro n i v hk hn hi hv;obtain⟨n,rfl⟩:∃m,n=m+1:=⟨n - 1,by omega⟩
  unfold zBK;rw[zG,ze (by omega),zc,zo (by omega)];rfl
 |succ k ih=>
  intro n i v hk hn hi hv;obtain⟨n,rfl⟩:∃m,n=m+1:=⟨n - 1,by omega⟩
  have hlt:i<s.size:=by omega
  have hdr:s.data.toList.drop i=s.data.toList[i]'hlt::s.data.toList.drop (i+1):=List.drop_eq_getElem_cons hlt;have hg:=zEt hlt;generalize s.data.toList[i]'hlt=b at hdr hg;have hp:(10:Nat) ^i≤10 ^10:=Nat.pow_le_pow_right (by omega) (by omega);have hp2:(10:Nat) ^10=10000000000:=by decide
  unfold zBK;rw[zG,zd (by omega),zb];simp only[hg,za,zG,zO];rw[hdr,List.all_cons];by_cases h1:b.toNat<48
  ·have e:isD b=false:=by
    rw[Bool.eq_false_iff];intro e;have:=zGk.1 e;omega
   rw[zd (show (b.toNat:Int)<48 by omega),e];rfl
  ·rw[ze (show ¬(b.toNat:Int)<48 by omega)];by_cases h2:57<b.toNat
   ·have e:isD b=false:=by
     rw[Bool.eq_false_iff];intro e;have:=zGk.1 e;omega
    rw[zd (show (57:Int)<(b.toNat:Int) by omega),e];rfl
   ·have e:isD b=true:=zGk.2 (by omega);rw[ze (show ¬(57:Int)<(b.toNat:Int) by omega),e,Bool.true_and,zIz,dstep (by omega) e,zCK (by omega)];have hb:=zGk.1 e;exact ih n (i+1) _ (by omega) (by omega) (by omega) (by rw[Nat.pow_succ];omega)
theorem zR8 (s:ByteArray):zFQ s=some (if canD s.data.toList=true∧s.size≤10 then ((dv s.data.toList:Nat):Int) else -1):=by
 have hF:1000000<FU:=by decide
 have hsz:s.data.toList.length=s.size:=rfl;unfold zFQ zAv;rw[qU,qU];by_cases h0:s.size=0
 ·have hl:s.data.toList=[]:=List.length_eq_zero_iff.1 (by omega);rw[ze (by omega),if_neg (fun h=>by rw[hl]at h;exact absurd h.1 (by decide))];rfl
 ·rw[zd (by omega)];by_cases h10:s.size≤10
  ·rw[zd (show ((s.size:Nat):Int)≤10 by omega)];have hlt:0<s.size:=by omega
   have hg:=zEt hlt;have hg:getB s 0=_:=hg;obtain⟨b,r,hl⟩:∃b r,s.data.toList=b::r:=by
    cases h:s.data.toList with
    |nil=>rw[h]at hsz;simp at hsz;omega
    |cons b r=>exact⟨b,r,rfl⟩
   have hg:getB s 0=some ((b.toNat:Nat):Int):=by
    rw[hg];congr 3;simp only[hl];rfl
   have hr:r.length+1=s.size:=by rw[←hsz,hl];simp
   simp only[Bool.cond_true_left,zb,za,zh,zc,hg,jE,zG];by_cases hz:b=48∧1<s.size
   ·have e1:(((b.toNat:Nat):Int)==48)=true:=by rw[hz.1];rfl
    rw[e1,zb,zd (by omega),zb,if_neg];intro h;have h:=h.1;rw[hl]at h;unfold canD at h;simp only[zk,Bool.or_eq_true,beq_iff_eq,bne_iff_ne,zg,List.head?_cons]at h;rcases h.2 with h2|h2
    ·omega
    ·exact h2 (by rw[hz.1])
   ·have e1:(bif (((b.toNat:Nat):Int)==48) then decide ((1:Int)<((s.size:Nat):Int)) else false)=false:=by
     cases hb:(((b.toNat:Nat):Int)==48) with
     |false=>rfl
     |true=>
      rw[beq_iff_eq]at hb;have:b=48:=UInt8.toNat_inj.1 (by show b.toNat=48;omega);rw[zb,ze];intro h;exact hz ⟨this,by omega⟩
    rw[e1,zc];have h:=zYx s h10 s.size FU 0 0 rfl (by omega) (by omega) (by decide);have h:zBK s FU 0 0=_:=h;rw[h,List.drop_zero];by_cases hd:s.data.toList.all isD=true
    ·have hc:canD s.data.toList=true:=by
      rw[hl]at hd ⊢;unfold canD;rw[hd];simp only[List.isEmpty_cons,zi,Bool.true_and,Bool.or_eq_true,beq_iff_eq,bne_iff_ne,zg,List.head?_cons];by_cases hb:b=48
      ·exact .inl (by
        have:¬1<s.size:=fun h=>hz ⟨hb,h⟩;omega)
      ·exact .inr (fun e=>by injection e with e;exact hb e)
     rw[if_pos hd,if_pos ⟨hc,h10⟩];rfl
    ·rw[if_neg hd,if_neg]
     ·rfl
     ·intro h;have h:=h.1;unfold canD at h;simp only[zk]at h;exact hd h.1.2
  ·rw[ze (show ¬((s.size:Nat):Int)≤10 by omega),if_neg (fun h=>h10 h.2)];rfl
def NB (n:Int):Prop:=-1000000≤n∧n≤1000000
theorem zYB {u:Nat} (h:u≤1000000):(decDigits u).length≤8:=by
 have:=zRh (n:=(u:Int)) (by omega) (by omega);rw[zGj (by omega)]at this;exact this
theorem zKy (s:ByteArray):(∃n,NB n∧s=bl (itoa n)∧zBM s=some (n,true))∨((∀n,NB n→s≠bl (itoa n))∧zBM s=some (0,false)):=by
 have hsz:s.data.toList.length=s.size:=rfl;have fin:∀(m:Bool) (t:ByteArray),(if canD t.data.toList=true∧t.size≤10 then ((dv t.data.toList:Nat):Int) else -1)=-1∨(canD t.data.toList=true∧t.size≤10∧(if canD t.data.toList=true∧t.size≤10 then ((dv t.data.toList:Nat):Int) else -1)=((dv t.data.toList:Nat):Int)):=by
  intro m t;by_cases h:canD t.data.toList=true∧t.size≤10
  ·rw[if_pos h];exact .inr ⟨h.1,h.2,rfl⟩
  ·rw[if_neg h];exact .inl rfl
 by_cases hm:∃r,s.data.toList=45::r∧r≠[]
 ·obtain⟨r,hl,hr⟩:=hm;have hlen:1<s.size:=by
   rw[←hsz,hl];have:=List.length_pos_iff.2 hr;simp;omega
  have hg:getB s 0=some 45:=by
   have hg:=zEt (show 0<s.size by omega);have hg:getB s 0=_:=hg;rw[hg];simp only[hl];rfl
  have hj:s.extract 1 s.size=bl r:=by
   rw[zGY,hl,List.drop_succ_cons,List.drop_zero,List.take_of_length_le];have:r.length+1=s.size:=by rw[←hsz,hl];simp
   omega
  unfold zBM;rw[zG,zd (by omega),zb,hg];have hsl:slc s.size 1 (s.size:Int)=some ():=zHO (l:=1) (by omega) (Nat.le_refl _);simp only[za,jE,show ((45:Int)==45)=true from rfl,zb,hsl,show Int.toNat 1=1 from rfl,zj,hj,zR8];by_cases hc:canD r=true∧r.length≤10∧dv r≠0∧dv r≤1000000
  ·left;refine⟨-((dv r:Nat):Int),⟨by omega,by omega⟩,?_,?_⟩
   ·rw[zHt (by omega),Int.natAbs_neg,Int.natAbs_natCast,zUj hc.1,zMh s,hl]
   ·rw[if_pos ⟨by rw[zDE];exact hc.1,by rw[jA];exact hc.2.1⟩,zDE,zG,zG,ze (by omega),zc,ze (by omega)];have e:(((dv r:Nat):Int)==0)=false:=by rw[zw];omega
    rw[e,zO];simp only[zc];rw[zA (by omega)];congr 2;omega
  ·right;constructor
   ·intro n hn e;apply hc;have e2:45::r=itoa n:=by
     rw[←hl];exact zHz (by rw[←zMh s];exact e)
    have hneg:n<0:=by
     by_cases h:n<0
     ·exact h
     ·exfalso
      rw[zGj (by omega)]at e2;have:=zM2 n.toNat 45 (by rw[←e2];exact zm ..);exact absurd this (by decide)
    rw[zHt hneg]at e2;injection e2 with _ e2;subst e2;have hb:=hn.1;refine⟨zYN _,?_,?_,?_⟩
    ·have:=zYB (u:=n.natAbs) (by omega);omega
    ·rw[zWV];omega
    ·rw[zWV];omega
   ·rcases fin true (bl r) with h|⟨h1,h2,h⟩
    ·rw[h];rfl
    ·rw[h];rw[zDE]at h1;rw[jA]at h2;rw[zDE,zG,zG,ze (by omega),zc];by_cases h3:dv r=0
     ·rw[h3];rfl
     ·have e:(((dv r:Nat):Int)==0)=false:=by rw[zw];omega
      rw[e,zc,zd]
      ·rfl
      ·have:¬dv r≤1000000:=fun h4=>hc ⟨h1,h2,h3,h4⟩;omega
 ·have hb4:(bif ltI 1 (s.size:Int) then (getB s 0).bind fun e3=>some (eqI e3 45) else some false)=some false:=by
   rw[zG];by_cases h1:1<s.size
   ·rw[zd (by omega),zb];obtain⟨b,r,hl⟩:∃b r,s.data.toList=b::r:=by
     cases h:s.data.toList with
     |nil=>rw[h]at hsz;simp at hsz;omega
     |cons b r=>exact⟨b,r,rfl⟩
    have hg:getB s 0=some ((b.toNat:Nat):Int):=by
     have hg:=zEt (show 0<s.size by omega);have hg:getB s 0=_:=hg;rw[hg];simp only[hl];rfl
    rw[hg,za,jE,beq_eq_false_iff_ne.2];intro e;have hb:b=45:=UInt8.toNat_inj.1 (by show b.toNat=45;omega);refine hm ⟨r,by rw[hl,hb],?_⟩;intro hr;rw[hl,hr]at hsz;simp at hsz;omega
   ·rw[ze (by omega),zc]
  unfold zBM;rw[hb4];simp only[za,zc,zR8];by_cases hc:canD s.data.toList=true∧s.size≤10∧dv s.data.toList≤1000000
  ·left;refine⟨((dv s.data.toList:Nat):Int),⟨by omega,by omega⟩,?_,?_⟩
   ·rw[zGj (by omega),zj,zUj hc.1];rfl
   ·rw[if_pos ⟨hc.1,hc.2.1⟩,zG,zG,ze (by omega),ze (by omega)];rfl
  ·right;constructor
   ·intro n hn e;have e2:s.data.toList=itoa n:=zHz (by rw[←zMh s];exact e);have hb:=hn.1;have hb2:=hn.2;by_cases hneg:n<0
    ·rw[zHt hneg]at e2;exact hm ⟨_,e2,zNt _⟩
    ·rw[zGj (by omega)]at e2;apply hc;rw[←hsz,e2];refine⟨zYN _,?_,?_⟩
     ·have:=zYB (u:=n.toNat) (by omega);omega
     ·rw[zWV];omega
   ·rcases fin false s with h|⟨h1,h2,h⟩
    ·rw[h];rfl
    ·rw[h,zG,zG,ze (by omega),zc,zd]
     ·rfl
     ·have:¬dv s.data.toList≤1000000:=fun h4=>hc ⟨h1,h2,h4⟩;omega
def jn (c:UInt8):List (List UInt8)→List UInt8
 |[]=>[]
 |[w]=>w
 |w::v::ws=>w++c::jn c (v::ws)
theorem zWE (c:UInt8) (w:List UInt8) {ws:List (List UInt8)} (h:ws≠[]):jn c (w::ws)=w++c::jn c ws:=by
 cases ws with
 |nil=>exact absurd rfl h
 |cons v ws=>rfl
theorem z2n (c:UInt8):∀l,jn c (spl c l)=l
 |[]=>rfl
 |b::l=>by
  have ih:=z2n c l;by_cases h:b=c
  ·subst h;rw[zHb,zWE _ _ (zI7 b l),ih];rfl
  ·cases e:spl c l with
   |nil=>exact absurd e (zI7 c l)
   |cons w ws=>
    rw[zDZ h e];rw[e]at ih;cases ws with
    |nil=>
     show b::w=b::l;have ih:w=l:=ih;rw[ih]
    |cons v ws=>
     rw[zWE _ _ (by simp)]at ih ⊢;rw[List.cons_append,ih]
theorem z2E (c:UInt8):∀ws:List (List UInt8),ws≠[]→(∀w∈ws,∀b∈w,b≠c)→spl c (jn c ws)=ws
 |[],h,_=>absurd rfl h
 |[w],_,h=>zZp w (h w (List.mem_singleton.2 rfl))
 |w::v::ws,_,h=>by
  rw[zWE _ _ (by simp),zXX w _ (h w (zm ..)),z2E c (v::ws) (by simp) fun x hx=>h x (zn _ hx)]
theorem zZK (ws:List (List UInt8)) (hw:ws.length≤100000001):∀(m n k:Nat) (acc:List Int),ws.length - k=m→m<n→k≤ws.length→acc.length≤k→
  (∃ns:List Int,(∀x∈ns,NB x)∧ws.drop k=ns.map itoa∧zA0 (ws.map bl) n (k:Int) acc=some (.inl (acc++ns)))∨
  ((∀ns:List Int,(∀x∈ns,NB x)→ws.drop k≠ns.map itoa)∧zA0 (ws.map bl) n (k:Int) acc=some (.inr [])):=by
 intro m
 induction m with
 |zero=>
  intro n k acc hk hn hkl ha;obtain⟨n,rfl⟩:∃m,n=m+1:=⟨n - 1,by omega⟩
  left;refine⟨[],(fun x h=>by cases h),by rw[zo (by omega)];rfl,?_⟩;unfold zA0;rw[zG,List.length_map,ze (by omega),zc,List.append_nil]
 |succ m ih=>
  intro n k acc hk hn hkl ha;obtain⟨n,rfl⟩:∃m,n=m+1:=⟨n - 1,by omega⟩
  have hlt:k<ws.length:=by omega
  have hdr:ws.drop k=ws[k]'hlt::ws.drop (k+1):=List.drop_eq_getElem_cons hlt;have hg:getI (ws.map bl) (k:Int)=some (bl (ws[k]'hlt)):=by
   rw[zBw (by rw[List.length_map];exact hlt),List.getElem_map]
  generalize ws[k]'hlt=w at hdr hg;unfold zA0;rw[zG,List.length_map,zd (by omega),zb];simp only[hg,za,hdr];rcases zKy (bl w) with⟨x,hx,hw1,hw2⟩|⟨hw1,hw2⟩
  ·have hw1:=zHz hw1;subst hw1;simp only[hw2,za,zh,zc,zO];rw[zBJ (by simp;omega),za,zCK (by omega)];rcases ih n (k+1) (acc++[x]) (by omega) (by omega) (by omega) (by simp;omega) with⟨ns,h1,h2,h3⟩|⟨h1,h3⟩
   ·left;refine⟨x::ns,fun y hy=>?_,by rw[h2];rfl,?_⟩
    ·rcases List.mem_cons.1 hy with rfl|hy
     ·exact hx
     ·exact h1 y hy
    ·rw[h3,zu];rfl
   ·right;refine⟨fun ns hns e=>?_,h3⟩;cases ns with
    |nil=>cases e
    |cons y ns=>
     injection e with _ e;exact h1 ns (fun z hz=>hns z (zn _ hz)) e
  ·right;simp only[hw2,za,zi,zb];refine⟨fun ns hns e=>?_,trivial⟩;cases ns with
   |nil=>cases e
   |cons y ns=>
    injection e with e _;exact hw1 y (hns y (zm ..)) (by rw[e])
theorem zOf {c:UInt8} (hc:isN c=false) (s:ByteArray) (hs:s.size≤100000000) {cnt:Nat} (h1:1≤cnt):
  (∃ns:List Int,(∀x∈ns,NB x)∧ns.length=cnt∧s=bl (jn c (ns.map itoa))∧zBb s ((c.toNat:Nat):Int) (cnt:Int)=some ns)∨
  ((∀ns:List Int,(∀x∈ns,NB x)→ns.length=cnt→s≠bl (jn c (ns.map itoa)))∧zBb s ((c.toNat:Nat):Int) (cnt:Int)=some []):=by
 have hF:200000000<FU:=by decide
 have back:∀ns:List Int,ns.length=cnt→s=bl (jn c (ns.map itoa))→spl c s.data.toList=ns.map itoa:=by
  intro ns hl e;rw[e,zDE];refine z2E c _ (fun h=>?_) fun w hw=>?_
  ·have:=congrArg List.length h;simp at this;rw[this]at hl;simp at hl;omega
  ·obtain⟨n,_,rfl⟩:=List.mem_map.1 hw;exact z4y n c hc
 have hlen:=zQE c s.data.toList;have hsz:s.data.toList.length=s.size:=rfl;unfold zBb;rw[zGg s c hs,za,List.length_map];by_cases hcnt:(spl c s.data.toList).length=cnt
 ·rw[hcnt,zRn,zh,zc];have hr:=zZK (spl c s.data.toList) (by omega) _ FU 0 [] rfl (by omega) (by omega) (by simp);simp only[List.drop_zero,zt]at hr;rcases hr with⟨ns,a1,a2,a3⟩|⟨a1,a3⟩
  ·have a3:zA0 ((spl c s.data.toList).map bl) FU 0 []=_:=a3;refine .inl ⟨ns,a1,by rw[←hcnt,a2,List.length_map],?_,?_⟩
   ·rw[←a2,z2n];rfl
   ·rw[a3];rfl
  ·have a3:zA0 ((spl c s.data.toList).map bl) FU 0 []=_:=a3;refine .inr ⟨fun ns b1 b2 b3=>a1 ns b1 (back ns b2 b3),?_⟩;rw[a3];rfl
 ·refine .inr ⟨fun ns b1 b2 b3=>hcnt ?_,?_⟩
  ·rw[back ns b2 b3,List.length_map,b2]
  ·rw[eqNe (by omega),zi,zb]
theorem zTf (s:ByteArray) (hs:s.size≤100000000) (a z:UInt8):(∃m,s=bl (a::(m++[z]))∧zBV s ((a.toNat:Nat):Int) ((z.toNat:Nat):Int)=some (bl m,true))∨
  ((∀m,s≠bl (a::(m++[z])))∧zBV s ((a.toNat:Nat):Int) ((z.toNat:Nat):Int)=some (bl [],false)):=by
 have hsz:s.data.toList.length=s.size:=rfl;unfold zBV;rw[zG];by_cases h2:s.size<2
 ·refine .inr ⟨fun m e=>?_,?_⟩
  ·rw[e,jA]at h2;simp at h2;omega
  ·rw[zd (by omega)];rfl
 ·have hg0:=zEt (show 0<s.size by omega);have hg0:getB s 0=_:=hg0;have hg1:=zEt (show s.size - 1<s.size by omega);have e1:w64 (((s.size:Nat):Int) - 1)=((s.size - 1:Nat):Int):=by rw[zA (by omega)];omega
  have hl0:s.data.toList=s.data.toList[0]::s.data.toList.drop 1:=by
   have:=List.drop_eq_getElem_cons (l:=s.data.toList) (i:=0) (by omega);simpa using this
  have hl1:s.data.toList.drop 1=(s.data.toList.drop 1).take (s.size - 1 - 1)++[s.data.toList[s.size - 1]'(by omega)]:=by
   have h3:(s.data.toList.drop 1).drop (s.size - 1 - 1)=[s.data.toList[s.size - 1]'(by omega)]:=by
    rw[List.drop_drop,show 1+(s.size - 1 - 1)=s.size - 1 by omega,List.drop_eq_getElem_cons (by omega),zo (by omega)]
   rw[←h3,List.take_append_drop]
  generalize s.data.toList[0]'(by omega)=b0 at hg0 hl0;generalize s.data.toList[s.size - 1]'(by omega)=b1 at hg1 hl1;rw[ze (by omega),zc,hg0,e1,hg1];simp only[za,jE,z0a];by_cases hb0:b0=a
  ·subst hb0;simp only[decide_true,zh,zc,za];by_cases hb1:b1=z
   ·subst hb1;simp only[decide_true,zh,zc];refine .inl ⟨(s.data.toList.drop 1).take (s.size - 1 - 1),?_,?_⟩
    ·rw[←hl1,←hl0];rfl
    ·have hsl:slc s.size 1 ((s.size - 1:Nat):Int)=some ():=zHO (l:=1) (by omega) (by omega);rw[hsl];simp only[za,show Int.toNat 1=1 from rfl,zj,zGY]
   ·refine .inr ⟨fun m e=>hb1 ?_,?_⟩
    ·have h4:s.data.toList=b0::(m++[z]):=by rw[e,zDE]
     have h5:b0::((s.data.toList.drop 1).take (s.size - 1 - 1)++[b1])=b0::(m++[z]):=by rw[←hl1,←hl0];exact h4
     injection h5 with _ h5;have:=congrArg List.getLast? h5;simpa using this
    ·simp only[ze hb1,zi,zb];rfl
  ·refine .inr ⟨fun m e=>hb0 ?_,?_⟩
   ·have h4:s.data.toList=a::(m++[z]):=by rw[e,zDE]
    rw[hl0]at h4;injection h4
   ·simp only[ze hb0,zi,zb,za];rfl
def FB (f:Int×Int×Int):Prop:=NB f.1∧NB f.2.1∧NB f.2.2
theorem z3L (f:Int×Int×Int):fB f=40::(jn 44 ([f.1,f.2.1,f.2.2].map itoa)++[41]):=by
 simp[fB,jn]
theorem z7S {f g:Int×Int×Int} (h:fB f=fB g):f=g:=by
 have h1:=zIy f;rw[h,zIy g]at h1;obtain⟨a,b,c⟩:=f;obtain⟨a',b',c'⟩:=g;simp only[List.cons.injEq,and_true]at h1;have inj:∀{x y:Int},bl (itoa x)=bl (itoa y)→x=y:=fun {x y} e=>by
  have e:=zHz e;have h2:=zOR x;rw[e,zOR y]at h2;exact (Option.some.inj h2).symm
 rw[inj h1.1,inj h1.2.1,inj h1.2.2]
theorem zXv (s:ByteArray) (hs:s.size≤100000000):(∃f,FB f∧s=bl (fB f)∧zBa s=some (f,true))∨((∀f,FB f→s≠bl (fB f))∧zBa s=some ((0,0,0),false)):=by
 unfold zBa;rcases zTf s hs 40 41 with⟨m,h1,h2⟩|⟨h1,h2⟩
 ·have h2:zBV s 40 41=_:=h2;rw[h2,za];have hm:(bl m).size≤100000000:=by
   rw[h1,jA]at hs;rw[jA];simp at hs;omega
  rcases zOf (c:=44) (by decide) (bl m) hm (cnt:=3) (by omega) with⟨ns,a1,a2,a3,a4⟩|⟨a1,a4⟩
  ·have a4:zBb (bl m) 44 3=_:=a4
   match ns,a2 with
   |[a,b,c],_=>
    refine .inl ⟨(a,b,c),⟨a1 a (by simp),a1 b (by simp),a1 c (by simp)⟩,?_,?_⟩
    ·rw[h1,z3L,zHz a3]
    ·rw[a4];rfl
  ·have a4:zBb (bl m) 44 3=_:=a4;refine .inr ⟨fun f hf e=>?_,?_⟩
   ·rw[h1,z3L]at e;have e:=zHz e;injection e with _ e;have e:=List.append_cancel_right e;refine a1 [f.1,f.2.1,f.2.2] (fun x hx=>?_) rfl (by rw[e]);simp only[zl,zq,or_false]at hx;rcases hx with rfl|rfl|rfl
    ·exact hf.1
    ·exact hf.2.1
    ·exact hf.2.2
   ·rw[a4];rfl
 ·have h2:zBV s 40 41=_:=h2;rw[h2,za];have h3:∃l,zBb (bl []) 44 3=some l:=by
   rcases zOf (c:=44) (by decide) (bl []) (by decide) (cnt:=3) (by omega) with⟨ns,_,_,_,a4⟩|⟨_,a4⟩
   ·exact⟨_,a4⟩
   ·exact⟨_,a4⟩
  obtain⟨l,h3⟩:=h3;refine .inr ⟨fun f hf e=>h1 _ (by rw[e,z3L]),?_⟩;rw[h3];rfl
theorem z2X:pOf zBT=pN:=by
 funext x
 unfold pOf pN zBT;simp only[za,Option.getD_some,jE,zG];have e:((x:Int)==45)=(x==45):=by rw[Bool.eq_iff_iff,beq_iff_eq,beq_iff_eq];omega
 have e1:decide ((x:Int)<48)=decide (x<48):=by rw[decide_eq_decide];omega
 have e2:decide ((57:Int)<(x:Int))=decide (57<x):=by rw[decide_eq_decide];omega
 rw[e,e1,e2];cases h1:(x==45)<;>cases h2:decide (x<48)<;>cases h3:decide (57<x)<;>simp_all [bne]
theorem zHN (p:Nat→Bool) (s:ByteArray):∀(f pos:Nat) (st:Option Nat) (acc:List (Nat×Nat)),(Go.Lib.spansFromP p s f pos st acc).1.length≤acc.length+f
 |0,pos,st,acc=>by simp[Go.Lib.spansFromP]
 |f+1,pos,st,acc=>by
  unfold Go.Lib.spansFromP;split
  ·split
   ·split
    ·have:=zHN p s f (pos+(Utf8.decode s pos).2) none (acc++[(‹Nat›,pos)]);simp at this ⊢;omega
    ·have:=zHN p s f (pos+(Utf8.decode s pos).2) none acc;omega
   ·split
    ·have:=zHN p s f (pos+(Utf8.decode s pos).2) (some ‹Nat›) acc;omega
    ·have:=zHN p s f (pos+(Utf8.decode s pos).2) (some pos) acc;omega
  ·simp
theorem zZO (p:Nat→Bool) (s:ByteArray):(goFieldsP p s).length≤s.size+1:=by
 have h:=zHN p s s.size 0 none [];unfold goFieldsP Go.Lib.spansOfP;rw[List.length_map];generalize Go.Lib.spansFromP p s s.size 0 none []=x at h;obtain⟨acc,st⟩:=x;cases st with
 |none=>simp[Go.Lib.closeSpans]at h ⊢;omega
 |some a=>simp[Go.Lib.closeSpans]at h ⊢;omega
theorem zXz (p:Nat→Bool) (s:ByteArray):∀w∈goFieldsP p s,w.size≤s.size:=by
 intro w hw;unfold goFieldsP at hw;obtain⟨x,_,rfl⟩:=List.mem_map.1 hw;rw[zGY,jA];have:s.data.toList.length=s.size:=rfl;simp;omega
theorem z2r (ws:List ByteArray) (hw:ws.length≤100000001) (hz:∀w∈ws,w.size≤100000000):∀(m n k:Nat) (acc:List Int),ws.length - k=m→m<n→k≤ws.length→acc.length≤k→∃r,qI ws n (k:Int) acc=some r:=by
 intro m
 induction m with
 |zero=>
  intro n k acc hk hn hkl ha;obtain⟨n,rfl⟩:∃m,n=m+1:=⟨n - 1,by omega⟩
  unfold qI;rw[zG,ze (by omega),zc];exact⟨_,rfl⟩
 |succ m ih=>
  intro n k acc hk hn hkl ha;obtain⟨n,rfl⟩:∃m,n=m+1:=⟨n - 1,by omega⟩
  have hlt:k<ws.length:=by omega
  have hg:getI ws (k:Int)=some (ws[k]'hlt):=zBw hlt;have hs:=hz _ (zx hlt);generalize ws[k]'hlt=w at hg hs;unfold qI;rw[zG,zd (by omega),zb];obtain⟨r,hr⟩:=zUm w (by omega);simp only[hg,za,hr];cases r.2 with
  |false=>exact⟨_,rfl⟩
  |true=>
   simp only[zh,zc,zO];rw[zBJ (by simp;omega),za,zCK (by omega)];exact ih n (k+1) _ (by omega) (by omega) (by omega) (by simp;omega)
theorem zZD (s:ByteArray) (hs:s.size≤100000000):∃l,zA8 s=some l:=by
 have hF:200000000<FU:=by decide
 have hl:=zZO pN s;obtain⟨r,hr⟩:=z2r (goFieldsP pN s) (by omega) (fun w hw=>by have:=zXz pN s w hw;omega) _ FU 0 [] rfl (by omega) (by omega) (by simp);have hr:qI (goFieldsP pN s) FU 0 []=_:=hr;unfold zA8 zAt;rw[z2X,if_pos (by omega),za,hr];cases r with
 |inl x=>exact⟨_,rfl⟩
 |inr x=>exact⟨_,rfl⟩
theorem z2s (ns:List Int) (hw:ns.length≤1000) (hz:∀x∈ns,NB x):∀(m n k:Nat) (acc:List Int),ns.length - k=m→m<n→k≤ns.length→acc.length≤k→qI (ns.map fun x=>bl (itoa x)) n (k:Int) acc=some (.inl (acc++ns.drop k)):=by
 intro m
 induction m with
 |zero=>
  intro n k acc hk hn hkl ha;obtain⟨n,rfl⟩:∃m,n=m+1:=⟨n - 1,by omega⟩
  unfold qI;rw[zG,List.length_map,ze (by omega),zc,zo (by omega),List.append_nil]
 |succ m ih=>
  intro n k acc hk hn hkl ha;obtain⟨n,rfl⟩:∃m,n=m+1:=⟨n - 1,by omega⟩
  have hlt:k<ns.length:=by omega
  have hg:getI (ns.map fun x=>bl (itoa x)) (k:Int)=some (bl (itoa (ns[k]'hlt))):=by
   rw[zBw (by rw[List.length_map];exact hlt),List.getElem_map]
  have hdr:ns.drop k=ns[k]'hlt::ns.drop (k+1):=List.drop_eq_getElem_cons hlt;have hs:=hz _ (zx hlt);generalize ns[k]'hlt=w at hg hs hdr;unfold qI;rw[zG,List.length_map,zd (by omega),zb];simp only[hg,za,zYP hs.1 hs.2,zh,zc,zO];rw[zBJ (by simp;omega),za,zCK (by omega),ih n (k+1) _ (by omega) (by omega) (by omega) (by simp;omega),hdr,zu];rfl
theorem z1C {s:ByteArray} (hs:s.size≤100000000) {ns:List Int} (hw:ns.length≤1000) (hz:∀x∈ns,NB x) (h:goFieldsP pN s=ns.map fun x=>bl (itoa x)):zA8 s=some ns:=by
 have hF:200000000<FU:=by decide
 have hr:=z2s ns hw hz _ FU 0 [] rfl (by omega) (by omega) (by simp);have hr:qI (ns.map fun x=>bl (itoa x)) FU 0 []=_:=hr;unfold zA8 zAt;rw[z2X,if_pos (by omega),za,h,hr];rfl
theorem zOc {n:Int} (h:NB n):sm18 n:=by
 have h1:=h.1;have h2:=h.2;exact⟨by omega,by omega⟩
theorem zIt {n:Int}:NB n↔inN n=true:=by
 unfold NB inN;rw[zk,qU,qU,decide_eq_true_iff,decide_eq_true_iff]
theorem zR2 (s:ByteArray) (hs:s.size≤100000000):(∃f,FB f∧s=bl (fB f)∧zB8 s=some (f,true))∨((∀f,FB f→s≠bl (fB f))∧zB8 s=some ((0,0,0),false)):=by
 by_cases hf:∃f,FB f∧s=bl (fB f)
 ·obtain⟨f,hf,rfl⟩:=hf;refine .inl ⟨f,hf,rfl,?_⟩;obtain⟨a,b,c⟩:=f;have hi:=z1C (ns:=[a,b,c]) hs (by simp) (fun x hx=>by
   simp only[zl,zq,or_false]at hx;rcases hx with rfl|rfl|rfl
   ·exact hf.1
   ·exact hf.2.1
   ·exact hf.2.2) (zIy (a,b,c))
  unfold zB8;rw[hi];have g0:getI [a,b,c] 0=some a:=rfl;have g1:getI [a,b,c] 1=some b:=rfl;have g2:getI [a,b,c] 2=some c:=rfl;simp only[za,g0,g1,g2,zEu,zIt.1 hf.1,zIt.1 hf.2.1,zIt.1 hf.2.2,Bool.and_self,zh,zc,zCa (zOc hf.1) (zOc hf.2.1) (zOc hf.2.2),eqS,decide_true];rfl
 ·refine .inr ⟨fun f h e=>hf ⟨f,h,e⟩,?_⟩;obtain⟨l,hl⟩:=zZD s hs;unfold zB8;rw[hl,za];by_cases h3:l.length=3
  ·match l,h3 with
   |[a,b,c],_=>
    have g0:getI [a,b,c] 0=some a:=rfl;have g1:getI [a,b,c] 1=some b:=rfl;have g2:getI [a,b,c] 2=some c:=rfl;simp only[show eqI (([a,b,c].length:Nat):Int) 3=true from rfl,zh,zc,za,g0,g1,g2,zEu];cases hb:(inN a&&(inN b&&inN c)) with
    |false=>rfl
    |true=>
     simp only[zk]at hb;have f1:=zIt.2 hb.1;have f2:=zIt.2 hb.2.1;have f3:=zIt.2 hb.2.2;simp only[zh,zc,zCa (f:=(a,b,c)) (zOc f1) (zOc f2) (zOc f3),za,eqS];rw[ze (fun e=>hf ⟨(a,b,c),⟨f1,f2,f3⟩,e.symm⟩)];rfl
  ·rw[eqNe (by omega)];rfl
theorem zIs (s:ByteArray) (hs:s.size≤100000000):∃r,zB8 s=some r∧zBa s=some r∧((∃f,FB f∧s=bl (fB f)∧r=(f,true))∨((∀f,FB f→s≠bl (fB f))∧r=((0,0,0),false))):=by
 rcases zR2 s hs with⟨f,h1,h2,h3⟩|⟨h1,h3⟩<;>rcases zXv s hs with⟨g,g1,g2,g3⟩|⟨g1,g3⟩
 ·have e:f=g:=z7S (zHz (h2.symm.trans g2));subst e;exact⟨_,h3,g3,.inl ⟨f,h1,h2,rfl⟩⟩
 ·exact absurd h2 (g1 f h1)
 ·exact absurd g2 (h1 g g1)
 ·exact⟨_,h3,g3,.inr ⟨h1,rfl⟩⟩
theorem zXj (w:ByteArray) (hw:w.size≤100000000):∃a b ok,zC0 w=some (a,ok)∧zBM w=some (b,ok)∧(ok=true→a=b):=by
 unfold zC0;rcases zKy w with⟨n,hn,rfl,h⟩|⟨hn,h⟩
 ·refine⟨n,n,true,?_,h,fun _=>rfl⟩;have hnum:zA9 [n]=some true:=by
   rw[zQK _ (by simp)];simp[zIt.1 hn]
  rw[zYP hn.1 hn.2];simp only[za,zb,hnum,zFS (zOc hn),eqS,decide_true]
 ·obtain⟨r,hr⟩:=zUm w (by omega);refine⟨r.1,0,false,?_,h,fun e=>by cases e⟩;rw[hr];simp only[za];cases hr2:r.2 with
  |false=>rfl
  |true=>
   rw[zQK _ (by simp)];cases hin:inN r.1 with
   |false=>
    simp only[List.all_cons,List.all_nil,hin,Bool.and_true,zb,za,zc]
   |true=>
    have hb:=zIt.2 hin;have hne:bl (itoa r.1)≠w:=fun e=>hn r.1 hb e.symm;simp only[List.all_cons,List.all_nil,hin,Bool.and_true,zb,za,zFS (zOc hb),eqS,ze hne]
theorem byte_eq' (b c:UInt8):(((b.toNat:Nat):Int)=((c.toNat:Nat):Int))↔b=c:=by
 constructor
 ·intro h;have:b.toNat=c.toNat:=by omega
  exact UInt8.toNat_inj.1 this
 ·rintro rfl;rfl
theorem zJ5 (b c:UInt8):eqI ((b.toNat:Nat):Int) ((c.toNat:Nat):Int)=decide (b=c):=by
 rw[jE,Bool.eq_iff_iff,beq_iff_eq,decide_eq_true_iff];exact byte_eq' b c
theorem zQs (c:UInt8):∀l,spl c (l++[c])=spl c l++[[]]
 |[]=>by
  rw[zt,zHb];rfl
 |b::l=>by
  have ih:=zQs c l;by_cases h:b=c
  ·subst h;rw[List.cons_append,zHb,zHb,ih];rfl
  ·cases e:spl c l with
   |nil=>exact absurd e (zI7 c l)
   |cons w ws=>
    rw[e]at ih;rw[List.cons_append,zDZ h ih,zDZ h e];rfl
theorem zZS (b:UInt8):eqI ((b.toNat:Nat):Int) 10=decide (b=10):=zJ5 b 10
theorem zZE (p:List UInt8) (b:UInt8) (h:p.length≤2000000):qR (bl (p++[b])) ⟨#[10]⟩=some (decide (b=10))∧w64 (((bl (p++[b])).size:Int) - ((⟨#[10]⟩:ByteArray).size:Int))=(p.length:Int):=by
 have e1:((⟨#[10]⟩:ByteArray).size:Int)=1:=rfl;have e2:((bl (p++[b])).size:Int)=(p.length:Int)+1:=by rw[jA];simp
 have e3:w64 (((bl (p++[b])).size:Int) - ((⟨#[10]⟩:ByteArray).size:Int))=(p.length:Int):=by rw[e1,e2,zA (by omega)];omega
 refine⟨?_,e3⟩;unfold qR;rw[e3,e1,e2,qU,zd (by omega),zb];have hs:slc (bl (p++[b])).size (p.length:Int) ((p.length:Int)+1)=some ():=by
  have:((p.length:Int)+1)=((p.length+1:Nat):Int):=by omega
  rw[this];exact zHO (by omega) (by rw[jA];simp)
 have hx:(bl (p++[b])).extract (Int.toNat (p.length:Int)) (Int.toNat ((p.length:Int)+1))=bl [b]:=by
  rw[zGY,zDE];have:Int.toNat ((p.length:Int)+1)=p.length+1:=by omega
  rw[this,zj];congr 1;simp
 rw[hs,hx];simp only[za,eqS];congr 1;rw[decide_eq_decide];constructor
 ·intro h;have:[b]=[10]:=zHz h;injection this
 ·rintro rfl;rfl
theorem zLp (c:UInt8):∀l:List UInt8,∀w∈spl c l,w.length≤l.length
 |[],w,hw=>by
  have:w=[]:=by simpa [spl] using hw
  subst this;simp
 |b::l,w,hw=>by
  by_cases h:b=c
  ·subst h;rw[zHb]at hw;rcases List.mem_cons.1 hw with e|e
   ·subst e;simp
   ·have:=zLp b l w e;simp;omega
  ·cases e:spl c l with
   |nil=>exact absurd e (zI7 c l)
   |cons v vs=>
    rw[zDZ h e]at hw;have ih:=zLp c l;rw[e]at ih;rcases List.mem_cons.1 hw with e2|e2
    ·subst e2;have:=ih v zm;simp;omega
    ·have:=ih w (zn _ e2);simp;omega
def LN (s:ByteArray):List ByteArray:=(spl 10 s.data.toList).dropLast.map bl
theorem z3a (s:ByteArray) (hs:s.size≤1048576):∃Li oki Ls ok,zD8 s=some (Li,oki)∧zD0 s 2000 60=some (Ls,ok)∧(bif (bif (!oki) then true else (ltI 2000 ((s.size:Int)))) then true else (ltI 60 ((Li.length:Int))))=(!ok)∧
  (ok=true→Li=Ls∧Li.length≤60∧(∀w∈Li,w.size≤2000)∧Li=LN s∧oki=true∧(s=⟨#[]⟩∨∃p,s.data.toList=p++[10])):=by
 unfold zD0 zD8;simp only[eqS];by_cases h0:s=⟨#[]⟩
 ·subst h0;have e:zAf ⟨#[]⟩ 10=some ((spl 10 (⟨#[]⟩:ByteArray).data.toList).map bl):=zGg ⟨#[]⟩ 10 (by decide);refine⟨[],true,[],true,?_,?_,rfl,fun _=>⟨rfl,by simp,by simp,by rfl,rfl,.inl rfl⟩⟩
  ·rw[zd rfl,zb]
  ·have e1:ltI 2000 (((⟨#[]⟩:ByteArray).size:Nat):Int)=false:=rfl;rw[e1,zc,zd rfl,zh,zc];simp only[za,zc,e];have e3:slc ((spl 10 (⟨#[]⟩:ByteArray).data.toList).map bl).length 0 (w64 ((((spl 10 (⟨#[]⟩:ByteArray).data.toList).map bl).length:Int) - 1))=some ():=rfl;have e4:subl ((spl 10 (⟨#[]⟩:ByteArray).data.toList).map bl) 0 (w64 ((((spl 10 (⟨#[]⟩:ByteArray).data.toList).map bl).length:Int) - 1))=[]:=rfl;rw[e3,e4];rfl
 ·have hne:s.data.toList≠[]:=by
   intro h;apply h0;rw[zMh s,h];rfl
  obtain⟨p,b,hp⟩:∃p b,s.data.toList=p++[b]:=⟨_,_,(List.dropLast_concat_getLast hne).symm⟩
  have hsb:s=bl (p++[b]):=by rw[zMh s,hp]
  have hsz:s.size=p.length+1:=by rw[hsb,jA];simp
  obtain⟨hh,hw⟩:=zZE p b (by omega);rw[←hsb]at hh hw;have hgb:getB s (w64 ((s.size:Int) - 1))=some ((b.toNat:Nat):Int):=by
   have e1:w64 ((s.size:Int) - 1)=(p.length:Int):=hw;rw[e1,zEt (show p.length<s.size by omega)];congr 2;simp[hp]
  rw[ze h0,zc];simp only[zi,zb,hgb,za,zZS,zC3,zCl,zAA,hh];by_cases hb:b=10
  ·subst hb;have hx:s.extract (Int.toNat 0) (Int.toNat (w64 ((s.size:Int) - ((⟨#[10]⟩:ByteArray).size:Int))))=bl p:=by
    rw[hw,zGY,hp];congr 1;simp
   have hsl:slc s.size 0 (w64 ((s.size:Int) - ((⟨#[10]⟩:ByteArray).size:Int)))=some ():=by
    rw[hw];exact zHO (l:=0) (by omega) (by omega)
   have hsp:jW (bl p) ⟨#[10]⟩=some ((spl 10 p).map bl):=by
    have:=zNX (bl p) 10 (by rw[jA];omega)
    rwa [zDE]at this
   have hsl2:zAf s 10=some ((spl 10 p++[[]]).map bl):=by
    have:=zGg s 10 (by omega);rw[hp,zQs]at this;exact this
   have hlen:=zQE 10 p;have hlm:((spl 10 p++[[]]).map bl).length=(spl 10 p).length+1:=by simp
   have hw2:w64 ((((spl 10 p++[[]]).map bl).length:Int) - 1)=(((spl 10 p).length:Nat):Int):=by
    rw[hlm,zA (by omega)];omega
   have hsub:subl ((spl 10 p++[[]]).map bl) 0 (((spl 10 p).length:Nat):Int)=(spl 10 p).map bl:=by
    unfold subl;rw[zj,List.map_append];simp
   have hs3:slc ((spl 10 p++[[]]).map bl).length 0 (((spl 10 p).length:Nat):Int)=some ():=zHO (l:=0) (by omega) (by omega);rw[zd rfl];simp only[zb,hsl,hx,za,hsp,zh,zc,zG];by_cases h4:(2000:Int)<(s.size:Int)
   ·rw[zd h4];exact⟨_,_,[],false,rfl,rfl,by simp,fun h=>by cases h⟩
   ·rw[ze h4];simp only[zc,hsl2,za,hw2,hs3,hsub,qU];refine⟨_,_,_,_,rfl,rfl,?_,fun h=>⟨rfl,?_,fun w hw=>?_,?_,rfl,.inr ⟨p,hp⟩⟩⟩
    ·simp only[zh,zc,ze h4];by_cases h5:(((spl 10 p).map bl).length:Int)≤60
     ·rw[zd h5,ze (by omega)];rfl
     ·rw[ze h5,zd (by omega)];rfl
    ·have:=of_decide_eq_true h;omega
    ·obtain⟨v,hv,rfl⟩:=List.mem_map.1 hw;have:=zLp 10 p v hv;rw[jA];omega
    ·unfold LN;rw[hp,zQs,List.dropLast_concat]
  ·have hbf:decide (b=10)=false:=ze hb;rw[hbf];have hx2:∃l,jW s ⟨#[10]⟩=some l:=⟨_,zNX s 10 (by omega)⟩
   obtain⟨l,hl⟩:=hx2;simp only[zc,za,hl,zi,zb];refine⟨l,false,[],false,rfl,?_,rfl,fun h=>by cases h⟩;cases ltI 2000 (s.size:Int)<;>rfl
def shT:List (ByteArray×ByteArray×ByteArray):=[(⟨#[100,105,115,99]⟩,⟨#[110]⟩,⟨#[110]⟩),(⟨#[115,101,116]⟩,⟨#[65,102]⟩,⟨#[108,102]⟩),(⟨#[112,114,105,109,101]⟩,⟨#[65,110]⟩,⟨#[108,110]⟩),(⟨#[118,97,108,117,101]⟩,⟨#[65,110]⟩,⟨#[108,110]⟩),(⟨#[109,117,108]⟩,⟨#[65,65,65]⟩,⟨#[108,108,108]⟩),(⟨#[112,111,119]⟩,⟨#[65,65,110]⟩,⟨#[108,108,110]⟩),(⟨#[115,97,109,101]⟩,⟨#[65,65]⟩,⟨#[108,108]⟩),(⟨#[102,114,101,101]⟩,⟨#[65]⟩,⟨#[108]⟩),(⟨#[115,104,111,119]⟩,⟨#[65]⟩,⟨#[108]⟩),(⟨#[105,110,100,101,120]⟩,⟨#[65]⟩,⟨#[108]⟩),(⟨#[111,114,100,101,114]⟩,⟨#[65]⟩,⟨#[108]⟩),(⟨#[103,101,110,117,115]⟩,⟨#[65]⟩,⟨#[108]⟩),(⟨#[110,97,109,101,115]⟩,⟨#[]⟩,⟨#[]⟩),(⟨#[117,110,100,111]⟩,⟨#[]⟩,⟨#[]⟩)]
def shW:List ByteArray:=[⟨#[100,105,115,99]⟩,⟨#[115,101,116]⟩,⟨#[112,114,105,109,101]⟩,⟨#[118,97,108,117,101]⟩,⟨#[109,117,108]⟩,⟨#[112,111,119]⟩,⟨#[115,97,109,101]⟩,⟨#[102,114,101,101]⟩,⟨#[115,104,111,119]⟩,⟨#[105,110,100,101,120]⟩,⟨#[111,114,100,101,114]⟩,⟨#[103,101,110,117,115]⟩,⟨#[110,97,109,101,115]⟩,⟨#[117,110,100,111]⟩]
theorem zYk (w:ByteArray):(∃si ss,(w,si,ss)∈shT∧zCI w=some (si,true)∧zCo w=some (ss,true))∨(w∉shW∧(∃si,zCI w=some (si,false))∧∃ss,zCo w=some (ss,false)):=by
 by_cases hw:w∈shW
 ·simp only[shW,zl,zq,or_false]at hw;rcases hw with h|h|h|h|h|h|h|h|h|h|h|h|h|h
  ·subst h;exact .inl ⟨⟨#[110]⟩,⟨#[110]⟩,by simp[shT],by decide+kernel,by decide+kernel⟩
  ·subst h;exact .inl ⟨⟨#[65,102]⟩,⟨#[108,102]⟩,by simp[shT],by decide+kernel,by decide+kernel⟩
  ·subst h;exact .inl ⟨⟨#[65,110]⟩,⟨#[108,110]⟩,by simp[shT],by decide+kernel,by decide+kernel⟩
  ·subst h;exact .inl ⟨⟨#[65,110]⟩,⟨#[108,110]⟩,by simp[shT],by decide+kernel,by decide+kernel⟩
  ·subst h;exact .inl ⟨⟨#[65,65,65]⟩,⟨#[108,108,108]⟩,by simp[shT],by decide+kernel,by decide+kernel⟩
  ·subst h;exact .inl ⟨⟨#[65,65,110]⟩,⟨#[108,108,110]⟩,by simp[shT],by decide+kernel,by decide+kernel⟩
  ·subst h;exact .inl ⟨⟨#[65,65]⟩,⟨#[108,108]⟩,by simp[shT],by decide+kernel,by decide+kernel⟩
  ·subst h;exact .inl ⟨⟨#[65]⟩,⟨#[108]⟩,by simp[shT],by decide+kernel,by decide+kernel⟩
  ·subst h;exact .inl ⟨⟨#[65]⟩,⟨#[108]⟩,by simp[shT],by decide+kernel,by decide+kernel⟩
  ·subst h;exact .inl ⟨⟨#[65]⟩,⟨#[108]⟩,by simp[shT],by decide+kernel,by decide+kernel⟩
  ·subst h;exact .inl ⟨⟨#[65]⟩,⟨#[108]⟩,by simp[shT],by decide+kernel,by decide+kernel⟩
  ·subst h;exact .inl ⟨⟨#[65]⟩,⟨#[108]⟩,by simp[shT],by decide+kernel,by decide+kernel⟩
  ·subst h;exact .inl ⟨⟨#[]⟩,⟨#[]⟩,by simp[shT],by decide+kernel,by decide+kernel⟩
  ·subst h;exact .inl ⟨⟨#[]⟩,⟨#[]⟩,by simp[shT],by decide+kernel,by decide+kernel⟩
 ·have hn:=hw;simp only[shW,zl,zq,or_false,not_or]at hn;obtain⟨h1,h2,h3,h4,h5,h6,h7,h8,h9,h10,h11,h12,h13,h14⟩:=hn;refine .inr ⟨hw,?_,?_⟩
  ·have em:∀m:List (ByteArray×ByteArray),mGet w m=none→∀a v,w≠a→mGet w (mPut a v m)=none:=by
    intro m hm a v hne
    induction m with
    |nil=>simp[mPut,mGet,hne]
    |cons p ps ih=>
     unfold mGet at hm;split at hm
     ·cases hm
     ·rename_i hp;unfold mPut;split
      ·unfold mGet;rw[if_neg hne];exact hm
      ·unfold mGet;rw[if_neg hp];exact ih hm
   unfold zCI;simp only[za,mHas];rw[em _ (em _ (em _ (em _ (em _ (em _ (em _ (em _ (em _ (em _ (em _ (em _ (em _ (em _ rfl _ _ h1) _ _ h2) _ _ h3) _ _ h5) _ _ h6) _ _ h8) _ _ h9) _ _ h10) _ _ h11) _ _ h12) _ _ h4) _ _ h7) _ _ h13) _ _ h14];exact⟨_,rfl⟩
  ·unfold zCo;simp only[eqS,ze h1,ze h2,ze h3,ze h4,ze h5,ze h6,ze h7,ze h8,ze h9,ze h10,ze h11,ze h12,ze h13,ze h14,za,zc];exact⟨_,rfl⟩
def z6C (n:Nat):Bool:=bif Nat.ble 97 n&&Nat.ble n 122 then decide (zCg (bl [UInt8.ofNat n])=some (((n - 97:Nat):Int),true))&&decide (jY (bl [UInt8.ofNat n])=some true)
 else decide (zCg (bl [UInt8.ofNat n])=some (0,false))&&decide (jY (bl [UInt8.ofNat n])=some false)
theorem z6Y:(List.range 256).all z6C=true:=by decide+kernel
def lt1 (i:Nat):ByteArray:=bl [UInt8.ofNat (97+i)]
theorem zJ3 (w:ByteArray) (hw:w.size≤100000):(∃i:Nat,i<26∧w=lt1 i∧zCg w=some ((i:Int),true)∧jY w=some true)∨(zCg w=some (0,false)∧jY w=some false):=by
 have hbw:=zMh w;by_cases h1:w.size=1
 ·obtain⟨b,hb⟩:∃b,w.data.toList=[b]:=by
   have:w.data.toList.length=1:=by simpa using h1
   match hl:w.data.toList,this with
   |[b],_=>exact⟨b,rfl⟩
  have hlt:b.toNat<256:=b.toNat_lt;have hn:=List.all_eq_true.1 z6Y b.toNat (List.mem_range.2 hlt);have hbn:UInt8.ofNat b.toNat=b:=UInt8.ofNat_toNat;rw[hb]at hbw;unfold z6C at hn;rw[hbn,←hbw]at hn;cases hc:(Nat.ble 97 b.toNat&&Nat.ble b.toNat 122) with
  |true=>
   rw[hc,zb,zk,decide_eq_true_eq,decide_eq_true_eq]at hn;rw[zk]at hc;have c1:=Nat.le_of_ble_eq_true hc.1;have c2:=Nat.le_of_ble_eq_true hc.2;refine .inl ⟨b.toNat - 97,by omega,?_,hn.1,hn.2⟩;rw[hbw,lt1,show 97+(b.toNat - 97)=b.toNat by omega,hbn]
  |false=>
   rw[hc,zc,zk,decide_eq_true_eq,decide_eq_true_eq]at hn;exact .inr hn
 ·have e:eqI (w.size:Int) 1=false:=by rw[jE];exact beq_eq_false_iff_ne.2 (by omega)
  refine .inr ⟨?_,?_⟩
  ·unfold zCg;rw[e];rfl
  ·unfold jY;rw[e];rfl
def im8 (b:UInt8):UInt8:=if b=108 then 65 else b
theorem z6R:∀t∈shT,∃sp:List UInt8,t.2.2=bl sp∧t.2.1=bl (sp.map im8)∧sp.length≤3∧∀b∈sp,b=108∨b=102∨b=110:=by
 intro t ht;simp only[shT,zl,zq,or_false]at ht;rcases ht with h|h|h|h|h|h|h|h|h|h|h|h|h|h<;>subst h
 ·exact⟨[110],rfl,rfl,by decide,by decide⟩
 ·exact⟨[108,102],rfl,rfl,by decide,by decide⟩
 ·exact⟨[108,110],rfl,rfl,by decide,by decide⟩
 ·exact⟨[108,110],rfl,rfl,by decide,by decide⟩
 ·exact⟨[108,108,108],rfl,rfl,by decide,by decide⟩
 ·exact⟨[108,108,110],rfl,rfl,by decide,by decide⟩
 ·exact⟨[108,108],rfl,rfl,by decide,by decide⟩
 ·exact⟨[108],rfl,rfl,by decide,by decide⟩
 ·exact⟨[108],rfl,rfl,by decide,by decide⟩
 ·exact⟨[108],rfl,rfl,by decide,by decide⟩
 ·exact⟨[108],rfl,rfl,by decide,by decide⟩
 ·exact⟨[108],rfl,rfl,by decide,by decide⟩
 ·exact⟨[],rfl,rfl,by decide,by decide⟩
 ·exact⟨[],rfl,rfl,by decide,by decide⟩
theorem zMW {l:List UInt8} {k:Nat} (h:k<l.length):getB (bl l) (k:Int)=some (((l[k]'h).toNat:Nat):Int):=by
 rw[zEt (by rw[jA];exact h)];simp[bl]
theorem zU2 (w:ByteArray) (hw:w.size≤100000000):∃a b ok,zC0 w=some (a,ok)∧zBM w=some (b,ok)∧(ok=true→a=b∧NB a):=by
 obtain⟨a,b,ok,h1,h2,h3⟩:=zXj w hw;refine⟨a,b,ok,h1,h2,fun e=>⟨h3 e,?_⟩⟩;rcases zKy w with⟨n,hn,_,h⟩|⟨_,h⟩
 ·rw[h2]at h;cases h;rw[h3 e];exact hn
 ·rw[h2]at h;cases h;cases e
theorem zNf {ws:List ByteArray} (hz:∀w∈ws,w.size≤100000) {sp:List UInt8} (hl:ws.length=sp.length+1) (h3:sp.length≤3):∀(n k:Nat) (acc:List ByteArray) (a b c v:Int),k≤sp.length→sp.length - k<n→acc.length≤k→
  ∃r,qZ ws (bl sp,true) n false (k:Int) acc a b c v=some (false,r)
 |0,k,acc,a,b,c,v,h1,h2,h4=>by omega
 |n+1,k,acc,a,b,c,v,h1,h2,h4=>by
  unfold qZ;by_cases hk:k<sp.length
  ·have hg:getI ws ((k+1:Nat):Int)=some (ws[k+1]'(by omega)):=zBw (by omega);have hwz:(ws[k+1]'(by omega)).size≤100000:=hz _ (zx _);rw[zG,jA,zd (by omega),zb,zCK (by omega),hg,zMW hk];simp only[za,zO];generalize ws[k+1]'(by omega)=w at hwz;obtain⟨b1,hb1⟩:∃b1,jY w=some b1:=by
    rcases zJ3 w hwz with⟨_,_,_,_,h⟩|⟨_,h⟩<;>exact⟨_,h⟩
   obtain⟨_,_,_,_,hi,_⟩:=zU2 w (by omega);obtain⟨r1,_,hf,_⟩:∃r,zBa w=some r∧zBa w=some r∧True:=by
    obtain⟨r,_,h,_⟩:=zIs w (by omega);exact⟨r,h,h,trivial⟩
   rw[hb1,hf,hi];simp only[za,zc];rw[zBJ (by simp;omega)];simp only[za];cases eqI ((sp[k].toNat:Nat):Int) 108 with
   |true=>
    rw[zb];exact zNf hz hl h3 n (k+1) _ _ _ _ _ (by omega) (by omega) (by simp;omega)
   |false=>
    rw[zc];cases eqI ((sp[k].toNat:Nat):Int) 102 with
    |true=>exact zNf hz hl h3 n (k+1) _ _ _ _ _ (by omega) (by omega) (by omega)
    |false=>exact zNf hz hl h3 n (k+1) _ _ _ _ _ (by omega) (by omega) (by omega)
  ·rw[zG,jA,ze (by omega),zc];exact⟨_,rfl⟩
def what0:(ByteArray×(List Int)×(Int×Int×Int)×Int)×Bool:=((ByteArray.empty,([]:List Int),(0,0,0),0),false)
theorem zVq {ws:List ByteArray} (e4:ByteArray) (hz:∀w∈ws,w.size≤100000) {sp:List UInt8} (hl:ws.length=sp.length+1) (h3:sp.length≤3) (hsp:∀b∈sp,b=108∨b=102∨b=110):
  ∀(n k:Nat) (l:List Nat) (a b c v:Int),k≤sp.length→sp.length - k<n→l.length≤k→(∀i∈l,i<26)→NB v→
  (∃(l':List Nat) (f':Int×Int×Int) (v':Int),qW e4 (sp.length:Int) ws (bl (sp.map im8),true) n (k:Int) (l.map fun (i:Nat)=>(i:Int)) a b c v=some (.inl (l'.map fun (i:Nat)=>(i:Int),f'.1,f'.2.1,f'.2.2,v'))∧
   qZ ws (bl sp,true) n true (k:Int) (l.map lt1) a b c v=some (true,l'.map lt1,f'.1,f'.2.1,f'.2.2,v')∧l'.length=l.length+(sp.drop k).count 108∧(∀i∈l',i<26)∧NB v')∨
  (qW e4 (sp.length:Int) ws (bl (sp.map im8),true) n (k:Int) (l.map fun (i:Nat)=>(i:Int)) a b c v=some (.inr what0)∧
   ∃r,qZ ws (bl sp,true) n true (k:Int) (l.map lt1) a b c v=some (false,r))
 |0,k,l,a,b,c,v,h1,h2,h4,h5,h6=>by omega
 |n+1,k,l,a,b,c,v,h1,h2,h4,h5,h6=>by
  unfold qZ qW;by_cases hk:k<sp.length
  ·have hg:getI ws ((k+1:Nat):Int)=some (ws[k+1]'(by omega)):=zBw (by omega);have hg2:getI (subl ws 1 (ws.length:Int)) (k:Int)=some (ws[k+1]'(by omega)):=by
    have e:subl ws 1 (ws.length:Int)=ws.drop 1:=by
     unfold subl;rw[List.take_of_length_le (by simp)];rfl
    rw[e,zBw (by rw[List.length_drop];omega),List.getElem_drop];simp only[Nat.add_comm 1 k]
   have hwz:(ws[k+1]'(by omega)).size≤100000:=hz _ (zx _);have hgb:getB (bl (sp.map im8)) (k:Int)=some (((im8 (sp[k]'hk)).toNat:Nat):Int):=by
    rw[zMW (by rw[List.length_map];exact hk),List.getElem_map]
   have hdr:sp.drop k=sp[k]'hk::sp.drop (k+1):=List.drop_eq_getElem_cons hk;have hin:=hsp _ (zx hk);simp only[zG,jA,zd (show (k:Int)<(sp.length:Int) by omega),zb,zCK (show k<1000000000 by omega),hg,hg2,zMW hk,hgb,hdr,za,zO];generalize ws[k+1]'(by omega)=w at hwz;generalize sp[k]'hk=q at hin;have e1:∀x:UInt8,eqI ((x.toNat:Nat):Int) 108=decide (x=108):=fun x=>zJ5 x 108;have e2:∀x:UInt8,eqI ((x.toNat:Nat):Int) 102=decide (x=102):=fun x=>zJ5 x 102;have e3:∀x:UInt8,eqI ((x.toNat:Nat):Int) 65=decide (x=65):=fun x=>zJ5 x 65;simp only[e1,e2,e3];rw[zBJ (by simp;omega)];have hroom:∀x:Int,room ((l.map fun (i:Nat)=>(i:Int)).length+[x].length)=some ():=fun x=>zBJ (by simp;omega);simp only[hroom,za];rcases hin with rfl|rfl|rfl
   ·rcases zJ3 w hwz with⟨i,hi,hwi,n1,n2⟩|⟨n1,n2⟩
    ·simp only[n1,n2,za,im8,if_true,decide_true,zb,zh,zc];have:=zVq e4 hz hl h3 hsp n (k+1) (l++[i]) a b c v (by omega) (by omega) (by simp;omega) (by
      intro j hj;rcases List.mem_append.1 hj with h|h
      ·exact h5 j h
      ·rw[qf]at h;omega) h6
     simp only[List.map_append,List.map_cons,zr,←hwi,zf,zg,List.length_nil]at this;rcases this with⟨l',f',v',t1,t2,t3,t4⟩|t
     ·refine .inl ⟨l',f',v',t1,t2,?_,t4⟩;rw[t3,List.count_cons_self];omega
     ·exact .inr t
    ·simp only[n1,n2,za,im8,if_true,decide_true,zb,zi];exact .inr ⟨rfl,zNf hz hl h3 n (k+1) _ _ _ _ _ (by omega) (by omega) (by simp;omega)⟩
   ·obtain⟨r,p1,p2,_⟩:=zIs w (by omega);obtain⟨bb,hbb⟩:∃b1,jY w=some b1:=by
     rcases zJ3 w hwz with⟨_,_,_,_,h⟩|⟨_,h⟩<;>exact⟨_,h⟩
    have d1:decide ((102:UInt8)=108)=false:=by decide
    have d2:im8 102=102:=by decide
    have d3:decide ((102:UInt8)=65)=false:=by decide
    simp only[p1,p2,hbb,za,d1,d2,d3,decide_true,zb,zc];cases hr:r.2 with
    |true=>
     simp only[zh,zc];have:=zVq e4 hz hl h3 hsp n (k+1) l r.1.1 r.1.2.1 r.1.2.2 v (by omega) (by omega) (by omega) h5 h6;rw[List.count_cons_of_ne (by decide)];exact this
    |false=>
     simp only[zi,zb];exact .inr ⟨rfl,zNf hz hl h3 n (k+1) _ _ _ _ _ (by omega) (by omega) (by simp;omega)⟩
   ·obtain⟨x,y,ok,p1,p2,p3⟩:=zU2 w (by omega);obtain⟨bb,hbb⟩:∃b1,jY w=some b1:=by
     rcases zJ3 w hwz with⟨_,_,_,_,h⟩|⟨_,h⟩<;>exact⟨_,h⟩
    have d1:decide ((110:UInt8)=108)=false:=by decide
    have d2:im8 110=110:=by decide
    have d3:decide ((110:UInt8)=65)=false:=by decide
    have d4:decide ((110:UInt8)=102)=false:=by decide
    simp only[p1,p2,hbb,za,d1,d2,d3,d4,zb,zc];cases ok with
    |true=>
     obtain⟨p4,p5⟩:=p3 rfl;subst p4;simp only[zh,zc];have:=zVq e4 hz hl h3 hsp n (k+1) l a b c x (by omega) (by omega) (by omega) h5 p5;rw[List.count_cons_of_ne (by decide)];exact this
    |false=>
     simp only[zi,zb];exact .inr ⟨rfl,zNf hz hl h3 n (k+1) _ _ _ _ _ (by omega) (by omega) (by simp;omega)⟩
  ·simp only[zG,jA,ze (show ¬(k:Int)<(sp.length:Int) by omega),zc];refine .inl ⟨l,(a,b,c),v,rfl,rfl,?_,h5,h6⟩;rw[zo (by omega)];rfl
theorem z0v (s:ByteArray) (hs:s.size≤2000):(∃a,zM s=some (a,false)∧∃b c,qF s=some (b,c,false))∨
  ∃(w:ByteArray) (l:List Nat) (f:Int×Int×Int) (v:Int) (si:ByteArray) (sp:List UInt8),(w,si,bl sp)∈shT∧zM s=some ((w,l.map (fun (i:Nat)=>(i:Int)),f,v),true)∧
   qF s=some (w,(l.map lt1,f,v),true)∧l.length=sp.count 108∧(∀i∈l,i<26)∧NB v:=by
 have h1:jW s ⟨#[32]⟩=some ((spl 32 s.data.toList).map bl):=zNX s 32 (by omega);have h2:zAf s 32=some ((spl 32 s.data.toList).map bl):=zGg s 32 (by omega);have hz:∀w∈(spl 32 s.data.toList).map bl,w.size≤100000:=by
  intro w hw;obtain⟨x,hx,rfl⟩:=List.mem_map.1 hw;rw[jA];have:=zLp 32 s.data.toList x hx;have e:s.data.toList.length=s.size:=Array.length_toList;omega
 have hlen:((spl 32 s.data.toList).map bl).length≤2001:=by
  rw[List.length_map];have:=zQE 32 s.data.toList;have e:s.data.toList.length=s.size:=Array.length_toList;omega
 have hne:0<((spl 32 s.data.toList).map bl).length:=by
  rw[List.length_map];exact List.length_pos_iff.2 (zI7 32 _)
 unfold zM qF;rw[h1,h2];generalize (spl 32 s.data.toList).map bl=ws at hz hlen hne;have g0:getI ws 0=some (ws[0]'hne):=zBw (k:=0) hne;simp only[g0,za];generalize ws[0]'hne=w;rcases zYk w with⟨si,ss,ht,e1,e2⟩|⟨_,⟨si,e1⟩,ss,e2⟩
 ·obtain⟨sp,q1,q2,q3,q4⟩:=z6R _ ht;simp only at q1 q2;subst q1 q2;simp only[e1,e2,za,zh,zc,jA,List.length_map];have hw:w64 ((sp.length:Int)+1)=((sp.length+1:Nat):Int):=zCK (by omega);rw[hw,jE];by_cases hl:ws.length=sp.length+1
  ·rw[hl,beq_self_eq_true];simp only[zh,zc];rw[show slc (sp.length+1) 1 ((sp.length+1:Nat):Int)=some () from zHO (l:=1) (by omega) (by omega)];simp only[za,zO];have e3:((subl ws 1 ((sp.length+1:Nat):Int)).length:Int)=(sp.length:Int):=by
    unfold subl;rw[List.length_take,List.length_drop];simp;omega
   rw[e3];rcases zVq w hz hl q3 q4 FU 0 [] 0 0 0 0 (by omega) (by unfold FU;omega) (by simp) (by simp) (by unfold NB;omega) with⟨l',f',v',t1,t2,t3,t4,t5⟩|⟨t1,r,t2⟩
   ·right;refine⟨w,l',f',v',_,sp,ht,?_,?_,by simpa using t3,t4,t5⟩
    ·simp only[zr]at t1;have t1:qW w (sp.length:Int) ws (bl (List.map im8 sp),true) FU 0 [] 0 0 0 0=_:=t1;rw[t1];rfl
    ·simp only[zr]at t2;have t2:qZ ws (bl sp,true) FU true 0 [] 0 0 0 0=_:=t2;rw[t2];rfl
   ·left;simp only[zr]at t1 t2;have t1:qW w (sp.length:Int) ws (bl (List.map im8 sp),true) FU 0 [] 0 0 0 0=_:=t1;have t2:qZ ws (bl sp,true) FU true 0 [] 0 0 0 0=_:=t2;rw[t1,t2];exact⟨_,rfl,_,_,rfl⟩
  ·have e3:((ws.length:Int)==((sp.length+1:Nat):Int))=false:=beq_eq_false_iff_ne.2 (by omega);rw[e3];exact .inl ⟨_,rfl,_,_,rfl⟩
 ·left;simp only[e1,e2,za,zi,zb];exact⟨_,rfl,_,_,rfl⟩
end Go.Proofs.YtahdjphocippeaaGreatDoor
namespace Go.Proofs.YtahdjphocippeaaGreatDoor
theorem zS {n:Int} (h:inN n=true):sm18 n:=by
 rw[zBI]at h;unfold sm18;omega
theorem zU8 (m:Int×Int×Int×Int):zC1 m=some (inN m.1&&(inN m.2.1&&(inN m.2.2.1&&inN m.2.2.2))):=by
 simp only[zC1,zQK _ (show [m.1,m.2.1,m.2.2.1,m.2.2.2].length<1000000 by simp),List.all_cons,List.all_nil,Bool.and_true,za]
theorem z1H (m:Int×Int×Int×Int):zDK m=some (inN m.1&&(inN m.2.1&&(inN m.2.2.1&&inN m.2.2.2))):=by
 simp only[zDK,zXr,za];cases inN m.1<;>cases inN m.2.1<;>cases inN m.2.2.1<;>rfl
theorem zJ7 {f:Int×Int×Int} (h:zT f=some true):inN f.1=true∧inN f.2.1=true∧inN f.2.2=true:=by
 simp only[zT,zEu,za]at h;cases ha:inN f.1 with
 |false=>rw[ha]at h;simp at h
 |true=>
  cases hb:inN f.2.1 with
  |false=>rw[ha,hb]at h;simp at h
  |true=>
   cases hc:inN f.2.2 with
   |false=>rw[ha,hb,hc]at h;simp at h
   |true=>exact⟨rfl,rfl,rfl⟩
theorem zQu {n:Int} (h:-10000000≤n∧n≤10000000):sm18 n:=by
 unfold sm18;omega
theorem zUO {x:List UInt8} {ws:List (List UInt8)} (hx:x.length≤1000) (h:∀y∈ws,y.length≤100):∀y∈x::ws,y.length≤1000:=by
 intro y hy;rcases List.mem_cons.1 hy with rfl|hy
 ·exact hx
 ·have:=h y hy;omega
theorem z1w {x:List UInt8} {r:List (List UInt8)} (hN:r.length≤9) (hL:∀y∈x::r,y.length≤1000):(bl (x++Go.Lib.joinTail [32] r)).size≤20000:=by
 have h1:=hL x zm;have h2:=zXM r fun y hy=>hL y (zn _ hy);rw[jA,zf];omega
theorem z5N (f g:Int×Int×Int):∃t b,jZ f g=some (t,b)∧j0 f g=some (t,b)∧t.size≤20000:=by
 obtain⟨bf,hf⟩:=zJB f;obtain⟨bg,hg⟩:=zJB g;have no:∀{h:Int×Int×Int},zT h=some false→zAa h=some ((0,0,0),(0,0,0,0),false):=by
  intro h hh;simp only[zAa,hh,za,zi,zb]
 have yes:∀{h:Int×Int×Int},zT h=some true→∃m f2,zAa h=some (f2,m,true)∧qD h=some (f2,m)∧sm18 m.1∧sm18 m.2.1∧sm18 m.2.2.1∧sm18 m.2.2.2∧sm18 f2.1∧sm18 f2.2.1∧sm18 f2.2.2:=by
  intro h hh;obtain⟨m,f2,k1,k2,i1,i2,i3,i4,j1,j2,j3,_⟩:=zRt hh;refine⟨m,f2,?_,k2,zS i1,zS i2,zS i3,zS i4,zQu j1,zQu j2,zQu j3⟩;simp only[zAa,hh,za,zh,zc,k1,zU8,i1,i2,i3,i4,Bool.and_self]
 simp only[jZ,j0,zW1,hf,hg,za];cases bf with
 |false=>
  rw[no hf];cases bg with
  |false=>
   rw[no hg];exact⟨_,_,rfl,rfl,by decide⟩
  |true=>
   obtain⟨m,f2,k1,_⟩:=yes hg;rw[k1];exact⟨_,_,rfl,rfl,by decide⟩
 |true=>
  obtain⟨m,f2,k1,k2,i1,i2,i3,i4,j1,j2,j3⟩:=yes hf;rw[k1];cases bg with
  |false=>
   rw[no hg];exact⟨_,_,rfl,rfl,by decide⟩
  |true=>
   obtain⟨n,g2,l1,l2,p1,p2,p3,p4,q1,q2,q3⟩:=yes hg;rw[l1];simp only[zh,zc,za,k2,l2];cases hc:(f2.1==g2.1&&(f2.2.1==g2.2.1&&f2.2.2==g2.2.2)) with
   |true=>exact⟨_,_,rfl,rfl,by decide⟩
   |false=>
    obtain⟨a1,a2,a3⟩:=zJ7 hf;obtain⟨b1,b2,b3⟩:=zJ7 hg;have e1:(⟨#[100,105,102,102,101,114,101,110,116]⟩:ByteArray)=bl [100,105,102,102,101,114,101,110,116]:=rfl;have hL:=zUO (x:=[100,105,102,102,101,114,101,110,116]) (ws:=[fB f,mB m,fB f2,fB g,mB n,fB g2]) (by simp) (by
     intro y hy;simp only[zl,zq,or_false]at hy;rcases hy with rfl|rfl|rfl|rfl|rfl|rfl
     ·exact zLA (zS a1) (zS a2) (zS a3)
     ·exact zZA i1 i2 i3 i4
     ·exact zLA j1 j2 j3
     ·exact zLA (zS b1) (zS b2) (zS b3)
     ·exact zZA p1 p2 p3 p4
     ·exact zLA q1 q2 q3)
    have t1:=zUW [100,105,102,102,101,114,101,110,116] [fB f,mB m,fB f2,fB g,mB n,fB g2] (by simp) hL;have t2:=z09 [100,105,102,102,101,114,101,110,116] [fB f,mB m,fB f2,fB g,mB n,fB g2] (by simp) (by simp) hL;simp only[List.map_cons,zr]at t1 t2;simp only[zc,zFM (zS a1) (zS a2) (zS a3),zFM (zS b1) (zS b2) (zS b3),zFM j1 j2 j3,zFM q1 q2 q3,zKx i1 i2 i3 i4,zKx p1 p2 p3 p4,
     zCa (zS a1) (zS a2) (zS a3),zCa (zS b1) (zS b2) (zS b3),zCa j1 j2 j3,zCa q1 q2 q3,zKv i1 i2 i3 i4,zKv p1 p2 p3 p4,za,e1,t1,t2]
    exact⟨_,_,rfl,rfl,z1w (by simp) hL⟩
theorem z2q (m:Int×Int×Int×Int):∃y,zAd m=some y:=by
 simp only[zAd,zDV,zO,za];exact⟨_,rfl⟩
theorem z3N (f g:Int×Int×Int):∃m b,zAh f g=some (m,b)∧zAj f g=some (m,b)∧(b=true→(inN f.1=true∧inN f.2.1=true∧inN f.2.2=true)∧(inN g.1=true∧inN g.2.1=true∧inN g.2.2=true)∧inN m.1=true∧inN m.2.1=true∧inN m.2.2.1=true∧inN m.2.2.2=true):=by
 obtain⟨bf,hf⟩:=zJB f;obtain⟨bg,hg⟩:=zJB g;simp only[zAh,zAj,zW1,hf,hg,za];cases bf with
 |false=>exact⟨_,false,rfl,rfl,fun h=>by cases h⟩
 |true=>
  cases bg with
  |false=>exact⟨_,false,rfl,rfl,fun h=>by cases h⟩
  |true=>
   obtain⟨m,f2,k1,k2,_⟩:=zRt hf;obtain⟨n,g2,l1,l2,_⟩:=zRt hg;obtain⟨y,hy⟩:=z2q n;obtain⟨z,hz⟩:=zQZ m y;simp only[zh,zc,za,k1,k2,l1,l2,z5L,zWW,hy,hz];cases hc:(f2.1==g2.1&&(f2.2.1==g2.2.1&&f2.2.2==g2.2.2)) with
   |false=>exact⟨_,false,rfl,rfl,fun h=>by cases h⟩
   |true=>
    simp only[zh,zc,za,zEq,zU8,z1H];cases hb:(inN z.1&&(inN z.2.1&&(inN z.2.2.1&&inN z.2.2.2))) with
    |false=>exact⟨_,false,rfl,rfl,fun h=>by cases h⟩
    |true=>
     refine⟨z,true,rfl,rfl,fun _=>⟨zJ7 hf,zJ7 hg,?_⟩⟩;simpa only[zk] using hb
theorem z3P (f g:Int×Int×Int):∃t b,jS f g=some (t,b)∧jT f g=some (t,b)∧t.size≤20000:=by
 obtain⟨m,b,h1,h2,h3⟩:=z3N f g;simp only[jS,jT,h1,h2,za];cases b with
 |false=>exact⟨_,_,rfl,rfl,by decide⟩
 |true=>
  obtain⟨⟨a1,a2,a3⟩,⟨b1,b2,b3⟩,i1,i2,i3,i4⟩:=h3 rfl;have e1:(⟨#[101,113,117,105,118,97,108,101,110,116]⟩:ByteArray)=bl [101,113,117,105,118,97,108,101,110,116]:=rfl;have hL:=zUO (x:=[101,113,117,105,118,97,108,101,110,116]) (ws:=[fB f,fB g,mB m]) (by simp) (by
   intro y hy;simp only[zl,zq,or_false]at hy;rcases hy with rfl|rfl|rfl
   ·exact zLA (zS a1) (zS a2) (zS a3)
   ·exact zLA (zS b1) (zS b2) (zS b3)
   ·exact zZA (zS i1) (zS i2) (zS i3) (zS i4))
  have t1:=zUW [101,113,117,105,118,97,108,101,110,116] [fB f,fB g,mB m] (by simp) hL;have t2:=z09 [101,113,117,105,118,97,108,101,110,116] [fB f,fB g,mB m] (by simp) (by simp) hL;simp only[List.map_cons,zr]at t1 t2;simp only[zh,zc,zFM (zS a1) (zS a2) (zS a3),zFM (zS b1) (zS b2) (zS b3),zKx (zS i1) (zS i2) (zS i3) (zS i4),
   zCa (zS a1) (zS a2) (zS a3),zCa (zS b1) (zS b2) (zS b3),zKv (zS i1) (zS i2) (zS i3) (zS i4),za,e1,t1,t2]
  exact⟨_,_,rfl,rfl,z1w (by simp) hL⟩
def nzb (f:F3):Bool:=!((f.1==0)&&((f.2.1==0)&&(f.2.2==0)))
def lb (i:Nat):UInt8:=UInt8.ofNat (97+i)
theorem z23:nzb (0,0,0)=false:=rfl
theorem z4m {D:Int} {f:F3} (h:PrRc D f):nzb f=true:=by
 have:=h.1;unfold nzb;rw[show (f.1==0)=false from beq_eq_false_iff_ne.2 (by omega)];rfl
def upS (F:Nat→F3) (i:Nat):List Nat:=(List.range' 0 i).filter fun j=>nzb (F j)
def dnS (F:Nat→F3) (i:Nat):List Nat:=(List.range' i (26 - i)).filter fun j=>nzb (F j)
theorem zWX {F:Nat→F3} {i:Nat} (hi:i<26):dnS F i=(if nzb (F i) then [i] else [])++dnS F (i+1):=by
 unfold dnS;rw[show 26 - i=(26 - (i+1))+1 by omega,List.range'_succ,List.filter_cons];split<;>simp[*]
theorem z7Z {F:Nat→F3}:dnS F 26=[]:=rfl
theorem z4c {F:Nat→F3} {i:Nat}:upS F (i+1)=upS F i++(if nzb (F i) then [i] else []):=by
 unfold upS;rw[List.range'_1_concat,List.filter_append];simp only[Nat.zero_add,List.filter_cons,List.filter_nil]
theorem z5s {F:Nat→F3}:∀i,i≤26→upS F i++dnS F i=dnS F 0
 |0,h=>rfl
 |i+1,h=>by
  rw[z4c,zu,←zWX (by omega)];exact z5s i (by omega)
theorem zFI {F:Nat→F3} {i:Nat} (hi:i<26):dnS F 0=upS F i++((if nzb (F i) then [i] else [])++dnS F (i+1)):=by
 rw[←zWX hi,z5s i (by omega)]
theorem z1r {F:Nat→F3} {i j:Nat} (h:j∈upS F i):j<i∧nzb (F j)=true:=by
 unfold upS at h;rw[List.mem_filter,List.mem_range'_1]at h;exact⟨by omega,h.2⟩
theorem zWZ {F:Nat→F3} {i j:Nat} (h:j∈dnS F i):i≤j∧j<26∧nzb (F j)=true:=by
 unfold dnS at h;rw[List.mem_filter,List.mem_range'_1]at h;exact⟨by omega,by omega,h.2⟩
theorem zQD {F:Nat→F3} {i:Nat}:(upS F i).length≤i:=by
 unfold upS;have:=List.length_filter_le (fun j=>nzb (F j)) (List.range' 0 i);rw[List.length_range']at this;exact this
theorem zQQ {F:Nat→F3} {i:Nat}:(dnS F i).length≤26 - i:=by
 unfold dnS;have:=List.length_filter_le (fun j=>nzb (F j)) (List.range' i (26 - i));rw[List.length_range']at this;exact this
theorem zNF {F:Nat→F3} {i:Nat} {v:F3}:upA F i v i=v:=by simp[upA]
theorem zNE {F:Nat→F3} {i j:Nat} {v:F3} (h:j≠i):upA F i v j=F j:=by
 unfold upA;rw[show Nat.beq j i=false from by rw[Bool.eq_false_iff];exact fun e=>h (Nat.eq_of_beq_eq_true e)];rfl
theorem z1q {F:Nat→F3} {i:Nat} {v:F3}:upS (upA F i v) i=upS F i:=by
 unfold upS;apply List.filter_congr;intro j hj;rw[List.mem_range'_1]at hj;rw[zNE (by omega)]
theorem z32 {F:Nat→F3} {i:Nat} {v:F3}:dnS (upA F i v) (i+1)=dnS F (i+1):=by
 unfold dnS;apply List.filter_congr;intro j hj;rw[List.mem_range'_1]at hj;rw[zNE (by omega)]
theorem zUy {F:Nat→F3} {i:Nat} {v:F3}:(upS F i).map (upA F i v)=(upS F i).map F:=by
 apply List.map_congr_left;intro j hj;exact zNE (by have:=(z1r hj).1;omega)
theorem zWY {F:Nat→F3} {i:Nat} {v:F3}:(dnS F (i+1)).map (upA F i v)=(dnS F (i+1)).map F:=by
 apply List.map_congr_left;intro j hj;exact zNE (by have:=(zWZ hj).1;omega)
structure SR (x:Int×(Nat→F3)) (y:Int×ByteArray×List F3):Prop where
  d:y.1=x.1
  nm:y.2.1=bl ((dnS x.2 0).map lb)
  fs:y.2.2=(dnS x.2 0).map x.2
  le:(dnS x.2 0).length≤8
  d1:-2000≤x.1
  d2:x.1≤-3
  d4:x.1 % 4≤1
  pr:∀i,i<26→nzb (x.2 i)=true→PrRc x.1 (x.2 i)
theorem z2D {d:Int} (d1:-2000≤d) (d2:d≤-3) (d4:d % 4≤1):SR (d,fun _=>(0,0,0)) (d,ByteArray.empty,[]):=
 ⟨rfl,by rfl,by rfl,by show (dnS (fun _=>(0,0,0)) 0).length≤8;decide,d1,d2,d4,fun i _ h=>by cases h⟩
theorem zMX {F:Nat→F3} {i:Nat} (h:i<26):getA 26 F (i:Int)=some (F i):=by
 show (bif Nat.blt i 26 then some (F i) else none)=_;rw[show Nat.blt i 26=true from by unfold Nat.blt;exact Nat.ble_eq_true_of_le h];rfl
def z3R (t:Nat):Bool:=(Utf8.encode (IntKind.i32.wrap (w64 (97+(t:Int))))).toList==(bl [lb t]).toList
theorem z5I:(List.range 26).all z3R=true:=by decide+kernel
theorem z7X {t:Nat} (h:t<26):Utf8.encode (IntKind.i32.wrap (w64 (97+(t:Int))))=bl [lb t]:=by
 have:=List.all_eq_true.1 z5I t (List.mem_range.2 h);unfold z3R at this;rw[eqS]at this;exact of_decide_eq_true this
theorem zVw (f:F3):((f.1==0)&&((f.2.1==0)&&(f.2.2==0)))=!nzb f:=by unfold nzb;rw[Bool.not_not]
theorem zNk (d:Int) (F:Nat→F3):∀(n k:Nat) (l:List UInt8),k≤26→26 - k<n→l.length≤k→zAE (d,F) n (bl l) (k:Int)=some (bl (l++(dnS F k).map lb))
 |0,k,l,h1,h2,h3=>by omega
 |n+1,k,l,h1,h2,h3=>by
  unfold zAE;by_cases hk:k<26
  ·rw[zG,zd (by omega),zb,zWX hk];simp only[zMX hk,za,zVw,Bool.not_not,z7X hk,zO,zCK (show k<1000000000 by omega)];cases hz:nzb (F k) with
   |true=>
    rw[zb,zAk (by simp;omega),za,jF,zNk d F n (k+1) (l++[lb k]) (by omega) (by omega) (by simp;omega)];simp
   |false=>
    rw[zc,zNk d F n (k+1) l (by omega) (by omega) (by omega)];simp
  ·obtain rfl:k=26:=by omega
   rw[z7Z];rw[zG,ze (by omega),zc];simp
theorem zU4 (d:Int) (F:Nat→F3):zB4 (d,F)=some (bl ((dnS F 0).map lb)):=by
 unfold zB4;have:=zNk d F FU 0 [] (by omega) (by unfold FU;omega) (by simp);have e:zAE (d,F) FU ⟨#[]⟩ 0=_:=this;rw[e];rfl
theorem z2j {i:Nat} (h:i<26):(lb i).toNat=97+i:=by
 unfold lb;rw[UInt8.toNat_ofNat'];omega
theorem z2c (i:Nat):lt1 i=bl [lb i]:=rfl
theorem zQM {S:List Nat} {k:Nat} (h:k<S.length) (hS:∀j∈S,j<26):getB (bl (S.map lb)) (k:Int)=some ((97+S[k]'h:Nat):Int):=by
 rw[zMW (by rw[List.length_map];exact h),List.getElem_map,z2j (hS _ (zx h))]
theorem zQN {i:Nat} (h:i<26):getB (lt1 i) 0=some ((97+i:Nat):Int):=by
 have:getB (bl [lb i]) ((0:Nat):Int)=_:=zMW (l:=[lb i]) (k:=0) (by simp);rw[z2c];rw[show (0:Int)=((0:Nat):Int) from rfl,this];simp[z2j h]
theorem zZs {y:Int×ByteArray×List F3} {S:List Nat} (hy:y.2.1=bl (S.map lb)) (hS:∀j∈S,j<26) (hl:S.length≤26) {i:Nat} (hi:i<26) {p:Nat} (hp:p<S.length) (hpi:S[p]'hp=i) (hq:∀q (h:q<S.length),q<p→S[q]'h≠i):
  ∀(n k:Nat),k≤p→p - k<n→jV (lt1 i) y n (k:Int)=some (.inr (p:Int))
 |0,k,h1,h2=>by omega
 |n+1,k,h1,h2=>by
  unfold jV;rw[hy,jA,List.length_map,zG,zd (by omega),zb,zQM (show k<S.length by omega) hS,zQN hi];simp only[za,zO,zCK (show k<1000000000 by omega),jE];by_cases e:k=p
  ·subst e;rw[hpi,beq_self_eq_true,zb]
  ·have:=hq k (by omega) (by omega);rw[show (((97+S[k]'(by omega):Nat):Int)==((97+i:Nat):Int))=false from beq_eq_false_iff_ne.2 (by omega),zc];exact zZs hy hS hl hi hp hpi hq n (k+1) (by omega) (by omega)
theorem zX1 {y:Int×ByteArray×List F3} {S:List Nat} (hy:y.2.1=bl (S.map lb)) (hS:∀j∈S,j<26) (hl:S.length≤26) {i:Nat} (hi:i<26) (hq:∀q (h:q<S.length),S[q]'h≠i):
  ∀(n k:Nat),k≤S.length→S.length - k<n→jV (lt1 i) y n (k:Int)=some (.inl ())
 |0,k,h1,h2=>by omega
 |n+1,k,h1,h2=>by
  unfold jV;by_cases hk:k<S.length
  ·rw[hy,jA,List.length_map,zG,zd (by omega),zb,zQM hk hS,zQN hi];simp only[za,zO,zCK (show k<1000000000 by omega),jE];have:=hq k hk;rw[show (((97+S[k]'hk:Nat):Int)==((97+i:Nat):Int))=false from beq_eq_false_iff_ne.2 (by omega),zc];exact zX1 hy hS hl hi hq n (k+1) (by omega) (by omega)
  ·rw[hy,jA,List.length_map,zG,ze (by omega),zc]
theorem zVT {F:Nat→F3}:∀j∈dnS F 0,j<26:=fun j h=>(zWZ h).2.1
theorem z1p {F:Nat→F3} {i:Nat} (hi:i<26) {T:List Nat} (hT:dnS F 0=upS F i++T):∀q (h:q<(dnS F 0).length),q<(upS F i).length→(dnS F 0)[q]'h<i:=by
 intro q h hq;have:(dnS F 0)[q]'h=(upS F i)[q]'hq:=by
  simp only[hT,List.getElem_append_left hq]
 rw[this];exact (z1r (zx hq)).1
theorem zVX {d:Int} {F:Nat→F3} {y:Int×ByteArray×List F3} (h:SR (d,F) y) {i:Nat} (hi:i<26):zA4 y (lt1 i)=some (if nzb (F i) then ((upS F i).length:Int) else -1):=by
 have hsp:=zFI (F:=F) hi;have hlen:=zQQ (F:=F) (i:=0);have hnm:y.2.1=bl ((dnS F 0).map lb):=h.nm;unfold zA4;cases hz:nzb (F i) with
 |true=>
  rw[hz,if_pos rfl]at hsp;have hp:(upS F i).length<(dnS F 0).length:=by rw[hsp];simp
  have hpi:(dnS F 0)[(upS F i).length]'hp=i:=by simp only[hsp];simp
  rw[show (0:Int)=((0:Nat):Int) from rfl,zZs hnm zVT (by omega) hi hp hpi (fun q hq hlt=>by have:=z1p hi hsp q hq hlt;omega) FU 0 (by omega) (by unfold FU;have:=zQD (F:=F) (i:=i);omega)];rfl
 |false=>
  have hno:∀q (hq:q<(dnS F 0).length),(dnS F 0)[q]'hq≠i:=by
   intro q hq e;have:=(zWZ (zx hq)).2.2;rw[e,hz]at this;cases this
  rw[show (0:Int)=((0:Nat):Int) from rfl,zX1 hnm zVT (by omega) hi hno FU 0 (by omega) (by unfold FU;omega)];rfl
theorem z7R {d:Int} {F:Nat→F3} {y:Int×ByteArray×List F3} (h:SR (d,F) y) {i:Nat} (hi:i<26) (hz:nzb (F i)=true):getI y.2.2 ((upS F i).length:Int)=some (F i):=by
 have hsp:=zFI (F:=F) hi;rw[hz,if_pos rfl]at hsp;rw[h.fs];have hp:(upS F i).length<((dnS F 0).map F).length:=by rw[hsp];simp
 have:=zBw hp;rw[this];simp only[hsp];simp
theorem zXU {α:Type} (P Q:List α):subl (P++Q) 0 (P.length:Int)=P:=by unfold subl;simp
theorem zXT {α:Type} (P Q:List α):subl (P++Q) (P.length:Int) ((P++Q).length:Int)=Q:=by
 unfold subl;rw[zj,zj,List.drop_left,List.take_of_length_le (by simp)]
theorem z0Z (P Q:List UInt8):(bl (P++Q)).extract (Int.toNat 0) (Int.toNat (P.length:Int))=bl P:=by rw[zGY];simp[bl]
theorem z0Y (P Q:List UInt8):(bl (P++Q)).extract (Int.toNat (P.length:Int)) (Int.toNat ((P++Q).length:Int))=bl Q:=by
 rw[zGY,zj,zj];show bl (((P++Q).drop P.length).take _)=_;rw[List.drop_left,List.take_of_length_le (by simp)]
theorem z6D {F:Nat→F3} {x:(Int×ByteArray×List F3)×List (Int×ByteArray×List F3)} {d:Int} (h:SR (d,F) x.1) {i:Nat} (hi:i<26) (hz:nzb (F i)=false) (f:F3):
  ∀(n k:Nat),k≤(upS F i).length→(upS F i).length - k<n→zAX f (lt1 i) x n (k:Int)=some ((upS F i).length:Int)
 |0,k,h1,h2=>by omega
 |n+1,k,h1,h2=>by
  have hsp:=zFI (F:=F) hi;rw[hz]at hsp;simp only[qa,if_false,zt]at hsp;have hlen:=zQQ (F:=F) (i:=0);have hle:(upS F i).length≤(dnS F 0).length:=by rw[hsp];simp
  unfold zAX;rw[h.nm,jA,List.length_map];simp only;by_cases e:k=(upS F i).length
  ·subst e;by_cases hk:(upS F i).length<(dnS F 0).length
   ·rw[zG,zd (by omega),zb,zQM hk zVT,zQN hi];simp only[za];have hge:i+1≤(dnS F 0)[(upS F i).length]'hk:=by
     have e2:(dnS F 0)[(upS F i).length]'hk∈dnS F (i+1):=by
      simp only[hsp];rw[List.getElem_append_right (by omega)];exact zx _
     exact (zWZ e2).1
    rw[zG,ze (by omega),zc]
   ·rw[zG,ze (by omega),zc];rfl
  ·have hk:k<(dnS F 0).length:=by omega
   have:=z1p hi hsp k hk (by omega);rw[zG,zd (by omega),zb,zQM hk zVT,zQN hi];simp only[za];rw[zG,zd (by omega),zb,zO,zCK (by omega)];exact z6D h hi hz f n (k+1) (by omega) (by omega)
theorem zNW {F:Nat→F3} {i:Nat} {f:F3} (hi:i<26) (hf:nzb f=true):dnS (upA F i f) 0=upS F i++(i::dnS F (i+1)):=by
 rw[zFI (F:=upA F i f) hi,z1q,z32,zNF,hf,if_pos rfl];rfl
theorem z2B {F:Nat→F3} {i:Nat} (hi:i<26):dnS (upA F i (0,0,0)) 0=upS F i++dnS F (i+1):=by
 rw[zFI (F:=upA F i (0,0,0)) hi,z1q,z32,zNF,z23];rfl
theorem z2R (d:Int) (F:Nat→F3) {i:Nat} (hi:i<26) {f0 f:F3} (hr:zZ f0=some f) (hle:(dnS F 0).length≤26):zA1 (d,F) (i:Int) f0=some (if nzb (F i)=false∧(dnS F 0).length=8 then (false,(d,F)) else (true,(d,upA F i f))):=by
 unfold zA1;simp only[zMX hi,za,zVw,zU4,jA,List.length_map,hr,Option.map_some,zj,jE];cases hz:nzb (F i) with
 |true=>simp
 |false=>
  simp only[zi,zb,za];by_cases h8:(dnS F 0).length=8
  ·rw[h8];simp
  ·rw[show (((dnS F 0).length:Int)==8)=false from beq_eq_false_iff_ne.2 (by omega)];simp[h8]
theorem z0y {d:Int} {F:Nat→F3} {x:(Int×ByteArray×List F3)×List (Int×ByteArray×List F3)} (h:SR (d,F) x.1) (hx:x.2.length≤1000000) {i:Nat} (hi:i<26) {f:F3} (hf:PrRc d f):
  if nzb (F i)=false∧(dnS F 0).length=8 then jK x (lt1 i) f=some (⟨#[110,111]⟩,x)
  else ∃y,jK x (lt1 i) f=some (⟨#[111,107]⟩,(y,x.2++[x.1]))∧SR (d,upA F i f) y:=by
 have hsp:=zFI (F:=F) hi;have hnf:=z4m hf;have hlen:(dnS F 0).length≤8:=h.le;have hput:∀v,jG x v=some (⟨#[111,107]⟩,(v,x.2++[x.1])):=by
  intro v;unfold jG;rw[zBJ (by simp;omega)];rfl
 have hpr:∀j,j<26→nzb (upA F i f j)=true→PrRc d (upA F i f j):=by
  intro j hj hz;by_cases e:j=i
  ·subst e;rw[zNF];exact hf
  ·rw[zNE e]at hz ⊢;exact h.pr j hj hz
 have hdx:x.1.1=d:=h.d;have hfs:x.1.2.2=(dnS F 0).map F:=h.fs;have hnm:x.1.2.1=bl ((dnS F 0).map lb):=h.nm;unfold jK;rw[hfs,zt];rw[zBJ (by simp only[List.length_nil,List.length_map];omega),zVX h hi];simp only[za];cases hz:nzb (F i) with
 |true=>
  rw[hz,if_pos rfl]at hsp;rw[if_neg (by simp),if_pos rfl,qU,zd (by omega),zb];have hp:(upS F i).length<((dnS F 0).map F).length:=by rw[hsp];simp
  rw[zBw hp];simp only[za,hput];refine⟨_,rfl,⟨hdx,?_,?_,?_,h.d1,h.d2,h.d4,hpr⟩⟩
  ·simp only[zNW hi hnf];rw[hnm,hsp];rfl
  ·simp only[zNW hi hnf];rw[hsp,zj];simp only[List.map_append,List.map_cons,zr,zUy,zWY,zNF];rw[List.set_append_right _ _ (by simp)];simp
  ·simp only[zNW hi hnf];rw[hsp]at hlen;exact hlen
 |false=>
  rw[hz]at hsp;simp only[qa,if_false,zt]at hsp;simp only[qa,if_false,true_and];rw[qU,ze (by omega),zc,List.length_map];by_cases h8:(dnS F 0).length=8
  ·rw[if_pos h8,h8];rfl
  ·rw[if_neg h8,qU,ze (by omega),zc];have hl:=z6D h hi hz f FU 0 (by omega) (by unfold FU;have:=zQD (F:=F) (i:=i);omega);have hl':zAX f (lt1 i) x FU 0=_:=hl;rw[hl'];simp only[za];have e1:(dnS F 0).map F=(upS F i).map F++(dnS F (i+1)).map F:=by rw[hsp,List.map_append]
   have e2:(dnS F 0).map lb=(upS F i).map lb++(dnS F (i+1)).map lb:=by rw[hsp,List.map_append]
   have hA:((upS F i).length:Int)=(((upS F i).map F).length:Int):=by rw[List.length_map]
   have hB:((upS F i).length:Int)=(((upS F i).map lb).length:Int):=by rw[List.length_map]
   have hle:(upS F i).length≤(dnS F 0).length:=by rw[hsp];simp
   have g1:subl ((dnS F 0).map F) 0 ((upS F i).length:Int)=(upS F i).map F:=by rw[e1,hA,zXU]
   have g2:subl ((dnS F 0).map F) ((upS F i).length:Int) (((dnS F 0).length:Nat):Int)=(dnS F (i+1)).map F:=by
    have t:=zXT ((upS F i).map F) ((dnS F (i+1)).map F);rw[←e1,←hA,List.length_map]at t;exact t
   have g3:(bl ((dnS F 0).map lb)).extract (Int.toNat 0) (Int.toNat ((upS F i).length:Int))=bl ((upS F i).map lb):=by rw[e2,hB,z0Z]
   have g4:(bl ((dnS F 0).map lb)).extract (Int.toNat ((upS F i).length:Int)) (Int.toNat (((dnS F 0).length:Nat):Int))=bl ((dnS F (i+1)).map lb):=by
    have t:=z0Y ((upS F i).map lb) ((dnS F (i+1)).map lb);rw[←e2,←hB,List.length_map]at t;exact t
   have s1:slc (dnS F 0).length 0 ((upS F i).length:Int)=some ():=zHO (l:=0) (by omega) hle;have s2:slc (dnS F 0).length ((upS F i).length:Int) (((dnS F 0).length:Nat):Int)=some ():=zHO hle (by omega);have hdl:((dnS F (i+1)).map F).length≤26:=by rw[List.length_map];have:=zQQ (F:=F) (i:=i+1);omega
   have hul:((upS F i).map F).length≤26:=by rw[List.length_map];have:=zQD (F:=F) (i:=i);omega
   simp only[hnm,jA,List.length_map,g1,g2,g3,g4,s1,s2,za];rw[zBJ (by simp at hdl ⊢;omega),za,zBJ (by simp at hdl hul ⊢;omega),za,z2c,zAk (by simp at hul ⊢;omega),za,jF,zAk (by simp at hdl hul ⊢;omega),za,jF];simp only[hput,za];refine⟨_,rfl,⟨hdx,?_,?_,?_,h.d1,h.d2,h.d4,hpr⟩⟩
   ·simp only[zNW hi hnf];simp
   ·simp only[zNW hi hnf];simp only[List.map_append,List.map_cons,zUy,zWY,zNF,List.cons_append,zt]
   ·simp only[zNW hi hnf];rw[hsp]at hlen h8;simp only[zf,zg]at hlen h8 ⊢;omega
theorem z2C {α:Type} (P:List α) (a:α) (Q:List α):subl (P++a::Q) (((P.length+1:Nat)):Int) ((P++a::Q).length:Int)=Q:=by
 have t:=zXT (P++[a]) Q;simp only[zu,List.singleton_append,zf,zg,List.length_nil]at t ⊢;exact t
theorem z5G (P:List UInt8) (a:UInt8) (Q:List UInt8):(bl (P++a::Q)).extract (Int.toNat (((P.length+1:Nat)):Int)) (Int.toNat ((P++a::Q).length:Int))=bl Q:=by
 have t:=z0Y (P++[a]) Q;simp only[zu,List.singleton_append,zf,zg,List.length_nil]at t ⊢;exact t
theorem z1G {d:Int} {F:Nat→F3} {x:(Int×ByteArray×List F3)×List (Int×ByteArray×List F3)} (h:SR (d,F) x.1) (hx:x.2.length≤1000000) {i:Nat} (hi:i<26):
  if nzb (F i)=false then zAr x (lt1 i)=some (⟨#[110,111]⟩,x)
  else ∃y,zAr x (lt1 i)=some (⟨#[111,107]⟩,(y,x.2++[x.1]))∧SR (d,upA F i (0,0,0)) y:=by
 have hsp:=zFI (F:=F) hi;have hlen:(dnS F 0).length≤8:=h.le;have hput:∀v,jG x v=some (⟨#[111,107]⟩,(v,x.2++[x.1])):=by
  intro v;unfold jG;rw[zBJ (by simp;omega)];rfl
 have hpr:∀j,j<26→nzb (upA F i (0,0,0) j)=true→PrRc d (upA F i (0,0,0) j):=by
  intro j hj hz;by_cases e:j=i
  ·subst e;rw[zNF]at hz;cases hz
  ·rw[zNE e]at hz ⊢;exact h.pr j hj hz
 have hdx:x.1.1=d:=h.d;have hfs:x.1.2.2=(dnS F 0).map F:=h.fs;have hnm:x.1.2.1=bl ((dnS F 0).map lb):=h.nm;unfold zAr;rw[zVX h hi];simp only[za];cases hz:nzb (F i) with
 |false=>
  rw[if_pos rfl,if_neg (by simp)];rfl
 |true=>
  rw[hz,if_pos rfl]at hsp;rw[if_neg (by simp),if_pos rfl,zG,ze (by omega),zc];have hle:(upS F i).length+1≤(dnS F 0).length:=by rw[hsp];simp
  have e1:(dnS F 0).map F=(upS F i).map F++F i::(dnS F (i+1)).map F:=by rw[hsp];simp
  have e2:(dnS F 0).map lb=(upS F i).map lb++lb i::(dnS F (i+1)).map lb:=by rw[hsp];simp
  have hA:((upS F i).length:Int)=(((upS F i).map F).length:Int):=by rw[List.length_map]
  have hB:((upS F i).length:Int)=(((upS F i).map lb).length:Int):=by rw[List.length_map]
  have hw:w64 (((upS F i).length:Int)+1)=(((upS F i).length+1:Nat):Int):=zCK (by omega);have g1:subl ((dnS F 0).map F) 0 ((upS F i).length:Int)=(upS F i).map F:=by rw[e1,hA,zXU]
  have g2:subl ((dnS F 0).map F) (((upS F i).length+1:Nat):Int) (((dnS F 0).length:Nat):Int)=(dnS F (i+1)).map F:=by
   have t:=z2C ((upS F i).map F) (F i) ((dnS F (i+1)).map F);rw[←e1,List.length_map,List.length_map]at t;exact t
  have g3:(bl ((dnS F 0).map lb)).extract (Int.toNat 0) (Int.toNat ((upS F i).length:Int))=bl ((upS F i).map lb):=by rw[e2,hB,z0Z]
  have g4:(bl ((dnS F 0).map lb)).extract (Int.toNat (((upS F i).length+1:Nat):Int)) (Int.toNat (((dnS F 0).length:Nat):Int))=bl ((dnS F (i+1)).map lb):=by
   have t:=z5G ((upS F i).map lb) (lb i) ((dnS F (i+1)).map lb);rw[←e2,List.length_map,List.length_map]at t;exact t
  have s1:slc (dnS F 0).length 0 ((upS F i).length:Int)=some ():=zHO (l:=0) (by omega) (by omega);have s2:slc (dnS F 0).length (((upS F i).length+1:Nat):Int) (((dnS F 0).length:Nat):Int)=some ():=zHO hle (by omega);have hdl:(dnS F (i+1)).length≤26:=by have:=zQQ (F:=F) (i:=i+1);omega
  have hul:(upS F i).length≤26:=by have:=zQD (F:=F) (i:=i);omega
  simp only[hnm,hfs,jA,List.length_map,hw,g1,g2,g3,g4,s1,s2,za,zt];rw[zBJ (by simp;omega),za,zBJ (by omega),za,zAk (by simp;omega),za,jF];simp only[hput,za];refine⟨_,rfl,⟨hdx,?_,?_,?_,h.d1,h.d2,h.d4,hpr⟩⟩
  ·simp only[z2B hi];simp
  ·simp only[z2B hi];simp only[List.map_append,zUy,zWY]
  ·simp only[z2B hi];rw[hsp]at hlen;simp only[zf,zg,List.length_nil]at hlen ⊢;omega
def setW (w:ByteArray):Bool:=(bif (bif (bif (w.toList==((⟨#[115,101,116]⟩:ByteArray)).toList) then true else (w.toList==((⟨#[112,114,105,109,101]⟩:ByteArray)).toList)) then true else (w.toList==((⟨#[109,117,108]⟩:ByteArray)).toList)) then true else (w.toList==((⟨#[112,111,119]⟩:ByteArray)).toList))
theorem zZJ (w:ByteArray) (f:F3) (v:Int) (d:Int) (F:Nat→F3) {l:List Nat} (hl:l.length≤10) (h26:∀i∈l,i<26):∀(n k:Nat) (acc:List F3),k≤l.length→l.length - k<n→acc.length≤k→(1≤k∨setW w=false)→
  jP (w,l.map (fun (i:Nat)=>(i:Int)),f,v) (d,F) n (k:Int) acc=some (if (l.drop k).all (fun i=>nzb (F i)) then .inl (acc++(l.drop k).map F) else .inr ([],false))
 |0,k,acc,h1,h2,h3,h4=>by omega
 |n+1,k,acc,h1,h2,h3,h4=>by
  unfold jP;simp only[List.length_map];by_cases hk:k<l.length
  ·have hdr:l.drop k=l[k]'hk::l.drop (k+1):=List.drop_eq_getElem_cons hk;have hg:getI (l.map (fun (i:Nat)=>(i:Int))) (k:Int)=some ((l[k]'hk:Nat):Int):=by rw[zBw (by rw[List.length_map];exact hk),List.getElem_map]
   have hi:=h26 _ (zx hk);rw[hdr,hg];generalize l[k]'hk=i at hi;simp only[za,zMX hi];rw[zG,zd (by omega),zb,zVw,zO,zCK (by omega),jE,zBJ (by simp;omega)];have hb:(bif ((k:Int)==0) then (some (setW w):Option Bool) else some false)=some false:=by
    rcases h4 with h|h
    ·rw[show ((k:Int)==0)=false from beq_eq_false_iff_ne.2 (by omega)];rfl
    ·rw[h];cases ((k:Int)==0)<;>rfl
   have hb':=hb;unfold setW at hb';rw[hb'];simp only[za,zi];cases hz:nzb (F i) with
   |true=>
    simp only[zh,zc];rw[zZJ w f v d F hl h26 n (k+1) _ (by omega) (by omega) (by simp;omega) (.inl (by omega))];simp[List.all_cons,hz]
   |false=>
    simp[List.all_cons,hz]
  ·rw[zG,ze (by omega),zc,zo (by omega)];simp
theorem zWJ (w:ByteArray) (f:F3) (v:Int) (d:Int) (F:Nat→F3) {l:List Nat} (hl:l.length≤10) (h26:∀i∈l,i<26) (hw:setW w=false):zN (d,F) (w,l.map (fun (i:Nat)=>(i:Int)),f,v)=some (if l.all (fun i=>nzb (F i)) then (l.map F,true) else ([],false)):=by
 unfold zN;have:=zZJ w f v d F hl h26 FU 0 [] (by omega) (by unfold FU;omega) (by simp) (.inr hw);rw[show (0:Int)=((0:Nat):Int) from rfl,this,List.drop_zero];cases l.all (fun i=>nzb (F i))<;>simp
theorem zWK (w:ByteArray) (f:F3) (v:Int) (d:Int) (F:Nat→F3) {i:Nat} {l:List Nat} (hl:l.length≤9) (hi:i<26) (h26:∀i∈l,i<26) (hw:setW w=true):zN (d,F) (w,(i:Int)::l.map (fun (i:Nat)=>(i:Int)),f,v)=some (if l.all (fun i=>nzb (F i)) then (F i::l.map F,true) else ([],false)):=by
 unfold zN;have t:=zZJ w f v d F (l:=i::l) (by simp;omega) (by
  intro j hj;rcases List.mem_cons.1 hj with rfl|hj
  ·exact hi
  ·exact h26 j hj) (FU - 1) 1 [F i] (by simp) (by unfold FU;simp;omega) (by simp) (.inl (by omega))
 obtain⟨n,hn⟩:∃n,FU=n+1:=⟨FU - 1,by unfold FU;omega⟩
 rw[show FU - 1=n by omega]at t;rw[hn];unfold jP;have hg:getI ((i:Int)::l.map (fun (i:Nat)=>(i:Int))) 0=some (i:Int):=rfl;simp only[hg,za,zMX hi];rw[zG,zd (by simp),zb,zVw,zO,zBJ (by simp)];have hw':=hw;unfold setW at hw';rw[hw',show eqI 0 0=true from rfl,show w64 (0+1)=((1:Nat):Int) from rfl];simp only[zb,za,zh];have e0:(bif (!nzb (F i)) then false else false)=false:=by cases nzb (F i)<;>rfl
 rw[e0,zc,zt];have t':jP (w,(i:Int)::l.map (fun (i:Nat)=>(i:Int)),f,v) (d,F) n ((1:Nat):Int) [F i]=_:=t;rw[t'];simp only[List.drop_succ_cons,List.drop_zero];cases l.all (fun i=>nzb (F i))<;>simp
theorem z3w (w:ByteArray) (m:List ByteArray×F3×Int) {d:Int} {F:Nat→F3} {x:(Int×ByteArray×List F3)×List (Int×ByteArray×List F3)} (h:SR (d,F) x.1) {l:List Nat} (hl:l.length≤10) (h26:∀i∈l,i<26):∀(n k:Nat) (acc:List F3),k≤l.length→l.length - k<n→acc.length≤k→
  jC (l.map lt1) m w x n (k:Int) acc=some (if (l.drop k).all (fun i=>nzb (F i)) then .inl (acc++(l.drop k).map F) else .inr (⟨#[110,111]⟩,x))
 |0,k,acc,h1,h2,h3=>by omega
 |n+1,k,acc,h1,h2,h3=>by
  unfold jC;simp only[List.length_map];by_cases hk:k<l.length
  ·have hdr:l.drop k=l[k]'hk::l.drop (k+1):=List.drop_eq_getElem_cons hk;have hg:getI (l.map lt1) (k:Int)=some (lt1 (l[k]'hk)):=by rw[zBw (by rw[List.length_map];exact hk),List.getElem_map]
   have hi:=h26 _ (zx hk);rw[hdr,hg];generalize l[k]'hk=i at hi;simp only[za,zVX h hi];rw[zG,zd (by omega),zb];cases hz:nzb (F i) with
   |true=>
    rw[if_pos rfl,zG,ze (by omega),zc,z7R h hi hz,za,zBJ (by simp;omega),za,zO,zCK (by omega)];rw[z3w w m h hl h26 n (k+1) _ (by omega) (by omega) (by simp;omega)];simp[List.all_cons,hz]
   |false=>
    simp[List.all_cons,hz,zG]
  ·rw[zG,ze (by omega),zc,zo (by omega)];simp
theorem zZ0 (w:ByteArray) (m:List ByteArray×F3×Int) {d:Int} {F:Nat→F3} {x:(Int×ByteArray×List F3)×List (Int×ByteArray×List F3)} (h:SR (d,F) x.1) {l:List Nat} (hl:l.length≤10) (h26:∀i∈l,i<26):
  jC (l.map lt1) m w x FU 0 []=some (if l.all (fun i=>nzb (F i)) then .inl (l.map F) else .inr (⟨#[110,111]⟩,x)):=by
 have:=z3w w m h hl h26 FU 0 [] (by omega) (by unfold FU;omega) (by simp);rw[show (0:Int)=((0:Nat):Int) from rfl,this,List.drop_zero,zt]
theorem zZH (x:Int×(Nat→F3)) {g:List Int} (hg:∀e∈g,e=1∨e=-1) (hl:g.length≤20):∀(n k:Nat) (acc:List UInt8),k≤g.length→g.length - k<n→acc.length≤k→zAw x g n (bl acc) (k:Int)=some (bl (acc++(g.drop k).map fun e=>if e=1 then 43 else 45))
 |0,k,acc,h1,h2,h3=>by omega
 |n+1,k,acc,h1,h2,h3=>by
  unfold zAw;by_cases hk:k<g.length
  ·have hdr:g.drop k=g[k]'hk::g.drop (k+1):=List.drop_eq_getElem_cons hk;have hin:=hg _ (zx hk);rw[zBw hk,hdr];generalize g[k]'hk=e at hin;rw[zG,zd (by omega),zb];simp only[za,zO,zCK (show k<1000000000 by omega)];rcases hin with rfl|rfl
   ·have e1:getB (⟨#[45,43]⟩:ByteArray) (w64 (Int.tdiv (w64 (1+1)) 2))=some 43:=by decide+kernel
    have e2:Utf8.encode 43=bl [43]:=by decide+kernel
    rw[e1,za,e2,zAk (by simp;omega),za,jF,zZH x hg hl n (k+1) _ (by omega) (by omega) (by simp;omega)];simp
   ·have e1:getB (⟨#[45,43]⟩:ByteArray) (w64 (Int.tdiv (w64 (-1+1)) 2))=some 45:=by decide+kernel
    have e2:Utf8.encode 45=bl [45]:=by decide+kernel
    rw[e1,za,e2,zAk (by simp;omega),za,jF,zZH x hg hl n (k+1) _ (by omega) (by omega) (by simp;omega)];simp
  ·rw[zG,ze (by omega),zc,zo (by omega)];simp
theorem zZG (x:(Int×ByteArray×List F3)×List (Int×ByteArray×List F3)) {g:List Int} (hg:∀e∈g,e=1∨e=-1) (hl:g.length≤20):∀(n k:Nat) (acc:List UInt8),k≤g.length→g.length - k<n→acc.length≤k→zAD x g n (bl acc) (k:Int)=some (bl (acc++(g.drop k).map fun e=>if e=1 then 43 else 45))
 |0,k,acc,h1,h2,h3=>by omega
 |n+1,k,acc,h1,h2,h3=>by
  unfold zAD;by_cases hk:k<g.length
  ·have hdr:g.drop k=g[k]'hk::g.drop (k+1):=List.drop_eq_getElem_cons hk;have hin:=hg _ (zx hk);rw[zBw hk,hdr];generalize g[k]'hk=e at hin;rw[zG,zd (by omega),zb];simp only[za,zO,zCK (show k<1000000000 by omega)];rcases hin with rfl|rfl
   ·rw[show ltI 0 1=true from rfl,zb,show (⟨#[43]⟩:ByteArray)=bl [43] from rfl,zAk (by simp;omega),za,jF,zZG x hg hl n (k+1) _ (by omega) (by omega) (by simp;omega)];simp
   ·rw[show ltI 0 (-1)=false from rfl,zc,show (⟨#[45]⟩:ByteArray)=bl [45] from rfl,zAk (by simp;omega),za,jF,zZG x hg hl n (k+1) _ (by omega) (by omega) (by simp;omega)];simp
  ·rw[zG,ze (by omega),zc,zo (by omega)];simp
@[reducible] def wddisc:ByteArray:=⟨#[100,105,115,99]⟩
@[reducible] def wdset:ByteArray:=⟨#[115,101,116]⟩
@[reducible] def wdprime:ByteArray:=⟨#[112,114,105,109,101]⟩
@[reducible] def wdvalue:ByteArray:=⟨#[118,97,108,117,101]⟩
@[reducible] def wdmul:ByteArray:=⟨#[109,117,108]⟩
@[reducible] def wdpow:ByteArray:=⟨#[112,111,119]⟩
@[reducible] def wdsame:ByteArray:=⟨#[115,97,109,101]⟩
@[reducible] def wdfree:ByteArray:=⟨#[102,114,101,101]⟩
@[reducible] def wdshow:ByteArray:=⟨#[115,104,111,119]⟩
@[reducible] def wdindex:ByteArray:=⟨#[105,110,100,101,120]⟩
@[reducible] def wdorder:ByteArray:=⟨#[111,114,100,101,114]⟩
@[reducible] def wdgenus:ByteArray:=⟨#[103,101,110,117,115]⟩
@[reducible] def wdnames:ByteArray:=⟨#[110,97,109,101,115]⟩
@[reducible] def wdundo:ByteArray:=⟨#[117,110,100,111]⟩
@[reducible] def wE (w:ByteArray) (k:Nat):Prop:=(w.toList==wddisc.toList)=(k==0)∧(w.toList==wdset.toList)=(k==1)∧(w.toList==wdprime.toList)=(k==2)∧(w.toList==wdvalue.toList)=(k==3)∧(w.toList==wdmul.toList)=(k==4)∧(w.toList==wdpow.toList)=(k==5)∧(w.toList==wdsame.toList)=(k==6)∧(w.toList==wdfree.toList)=(k==7)∧(w.toList==wdshow.toList)=(k==8)∧(w.toList==wdindex.toList)=(k==9)∧(w.toList==wdorder.toList)=(k==10)∧(w.toList==wdgenus.toList)=(k==11)∧(w.toList==wdnames.toList)=(k==12)∧(w.toList==wdundo.toList)=(k==13)
theorem zZj:wE wddisc 0:=by unfold wE;decide+kernel
theorem z1l:wE wdset 1:=by unfold wE;decide+kernel
theorem zXD:wE wdprime 2:=by unfold wE;decide+kernel
theorem zXC:wE wdvalue 3:=by unfold wE;decide+kernel
theorem z1n:wE wdmul 4:=by unfold wE;decide+kernel
theorem z1m:wE wdpow 5:=by unfold wE;decide+kernel
theorem zZh:wE wdsame 6:=by unfold wE;decide+kernel
theorem zZi:wE wdfree 7:=by unfold wE;decide+kernel
theorem zZg:wE wdshow 8:=by unfold wE;decide+kernel
theorem zXG:wE wdindex 9:=by unfold wE;decide+kernel
theorem zXE:wE wdorder 10:=by unfold wE;decide+kernel
theorem zXH:wE wdgenus 11:=by unfold wE;decide+kernel
theorem zXF:wE wdnames 12:=by unfold wE;decide+kernel
theorem zZf:wE wdundo 13:=by unfold wE;decide+kernel
abbrev StI:=Int×(Nat→F3)
abbrev StS:=Int×ByteArray×List F3
def LR (a:List StI) (b:List StS):Prop:=a.length=b.length∧∀k (h1:k<a.length) (h2:k<b.length),SR (a[k]'h1) (b[k]'h2)
def CR (c:StI×List StI) (x:StS×List StS):Prop:=SR c.1 x.1∧LR c.2 x.2
theorem zWC {a:List StI} {b:List StS} {u:StI} {v:StS} (h:LR a b) (hs:SR u v):LR (a++[u]) (b++[v]):=by
 refine⟨by simp[h.1],fun k h1 h2=>?_⟩;have e:=h.1;rcases Nat.lt_or_ge k a.length with hk|hk
 ·rw[List.getElem_append_left hk,List.getElem_append_left (by omega)];exact h.2 k hk (by omega)
 ·have hk2:k=a.length:=by simp at h1;omega
  subst hk2;simp[e];exact hs
theorem z4p {a:List StI} {b:List StS} (h:LR a b) (n:Nat):LR (a.take n) (b.take n):=by
 refine⟨by simp[h.1],fun k h1 h2=>?_⟩;rw[List.getElem_take,List.getElem_take];exact h.2 k _ _
def zDg (c:StI×List StI) (x:StS×List StS) (s:ByteArray):Prop:=∃p q,qC c s=some p∧zK x s=some q∧p.1=q.1∧CR p.2 q.2∧q.2.2.length≤x.2.length+1∧q.1.size≤20000
theorem zG2 {α β:Type} (o:Option (α×β)):(o.bind fun y=>some ((y.1,y.2)))=o:=by cases o<;>rfl
def noT:ByteArray:=⟨#[110,111]⟩
def okT:ByteArray:=⟨#[111,107]⟩
theorem zGU:noT.size≤20000:=by decide
theorem zVv:okT.size≤20000:=by decide
theorem zZu {c:StI×List StI} {s w:ByteArray} {li:List Int} {f:F3} {v:Int} {fs:List F3} (h1:zM s=some ((w,li,f,v),true)) (hu:(w.toList==wdundo.toList)=false) (h2:zN c.1 (w,li,f,v)=some (fs,false)):qC c s=some (noT,c):=by
 unfold qC;simp only[h1,za,zh,zc,hu,h2,zi,zb];rfl
theorem z2N {c:StI×List StI} {s w:ByteArray} {li:List Int} {f:F3} {v:Int} {fs:List F3} {b0 b:Bool} {st:StI} {r:ByteArray} (h1:zM s=some ((w,li,f,v),true)) (hu:(w.toList==wdundo.toList)=false) (h2:zN c.1 (w,li,f,v)=some (fs,true))
  (h3:zI c.1 (w,li,f,v) fs=some (b0,false,st)) (h4:qY c.1 (w,li,f,v) fs=some (r,b)):qC c s=some (if b then (r,c) else (noT,c)):=by
 unfold qC;simp only[h1,za,zh,zc,hu,h2,h3,h4];cases b<;>rfl
theorem zKs {c:StI×List StI} {s w:ByteArray} {li:List Int} {f:F3} {v:Int} {fs:List F3} {b:Bool} {st:StI} (h1:zM s=some ((w,li,f,v),true)) (hu:(w.toList==wdundo.toList)=false) (h2:zN c.1 (w,li,f,v)=some (fs,true))
  (h3:zI c.1 (w,li,f,v) fs=some (b,true,st)) (hc:c.2.length≤1000000):qC c s=some (if b then (okT,(st,c.2++[c.1])) else (noT,c)):=by
 unfold qC;simp only[h1,za,zh,zc,hu,h2,h3,zb];rw[zBJ (by simp;omega)];cases b<;>rfl
theorem zYp {x:StS×List StS} {s w:ByteArray} {ls:List ByteArray} {f:F3} {v:Int} (h2:qF s=some (w,(ls,f,v),true)) (n1:(w.toList==wddisc.toList)=false) (n2:(w.toList==wdset.toList)=false) (n3:(w.toList==wdprime.toList)=false) (n4:(w.toList==wdfree.toList)=false) (n5:(w.toList==wdnames.toList)=false) (n6:(w.toList==wdundo.toList)=false):zK x s=qA x w (ls,f,v):=by
 unfold zK;simp only[h2,za,zh,zc,n1,n2,n3,n4,n5,n6,zG2]
theorem z6K {st:StI} {w:ByteArray} {li:List Int} {f:F3} {v:Int} {fs:List F3} (n1:(w.toList==wddisc.toList)=false) (n2:(w.toList==wdset.toList)=false) (n3:(w.toList==wdprime.toList)=false) (n4:(w.toList==wdmul.toList)=false) (n5:(w.toList==wdpow.toList)=false) (n6:(w.toList==wdfree.toList)=false):zI st (w,li,f,v) fs=some (false,false,st):=by
 unfold zI;simp only[za,n1,n2,n3,n4,n5,n6,zc]
theorem g_no {d:Int} {F:Nat→F3} {L:List StI} {x:StS×List StS} (hr:CR ((d,F),L) x) {s w:ByteArray} {l:List Nat} {f:F3} {v:Int} (h1:zM s=some ((w,l.map (fun (i:Nat)=>(i:Int)),f,v),true)) (h2:qF s=some (w,(l.map lt1,f,v),true)) (hl:l.length≤9) (h26:∀i∈l,i<26)
  (n1:(w.toList==wddisc.toList)=false) (n2:(w.toList==wdset.toList)=false) (n3:(w.toList==wdprime.toList)=false) (n4:(w.toList==wdmul.toList)=false) (n5:(w.toList==wdpow.toList)=false) (n6:(w.toList==wdfree.toList)=false) (n7:(w.toList==wdnames.toList)=false) (n8:(w.toList==wdundo.toList)=false)
  (H:(∀i∈l,PrRc d (F i))→jC (l.map lt1) (l.map lt1,f,v) w x FU 0 []=some (.inl (l.map F))→∃r b,qY (d,F) (w,l.map (fun (i:Nat)=>(i:Int)),f,v) (l.map F)=some (r,b)∧qA x w (l.map lt1,f,v)=some (if b then (r,x) else (noT,x))∧r.size≤20000):zDg ((d,F),L) x s:=by
 have hw:setW w=false:=by unfold setW;rw[n2,n3,n4,n5];rfl
 have hsr:SR (d,F) x.1:=hr.1;have hf:=zWJ w f v d F (l:=l) (by omega) h26 hw;have ha:=zZ0 w (l.map lt1,f,v) hsr (l:=l) (by omega) h26;have hs:=zYp (x:=x) h2 n1 n2 n3 n6 n7 n8;cases hall:l.all (fun i=>nzb (F i)) with
 |true=>
  rw[hall,if_pos rfl]at hf ha;rw[List.all_eq_true]at hall;obtain⟨r,b,k1,k2,k5⟩:=H (fun i hi=>hsr.pr i (h26 i hi) (hall i hi)) ha;refine⟨_,_,z2N (c:=((d,F),L)) h1 n8 hf (z6K n1 n2 n3 n4 n5 n6) k1,hs.trans k2,?_⟩;cases b
  ·exact⟨rfl,hr,by simp,zGU⟩
  ·exact⟨rfl,hr,by simp,k5⟩
 |false=>
  rw[hall]at hf ha;refine⟨_,(noT,x),zZu (c:=((d,F),L)) h1 n8 hf,hs.trans ?_,rfl,hr,by simp,zGU⟩;unfold qA;simp only[n4,n5,zc,za,ha];rfl
theorem z4r {d:Int} {F:Nat→F3} {L:List StI} {x:StS×List StS} (hr:CR ((d,F),L) x) {s:ByteArray} {i:Nat} (hi:i<26) {f:F3} {v:Int} (h1:zM s=some ((wdshow,[(i:Int)],f,v),true)) (h2:qF s=some (wdshow,([lt1 i],f,v),true)):zDg ((d,F),L) x s:=by
 have q:=zZg;obtain⟨q1,q2,q3,q4,q5,q6,q7,q8,q9,q10,q11,q12,q13,q14⟩:=zZg;unfold wE at q;have hsr:SR (d,F) x.1:=hr.1;have d1:-2000≤d:=hsr.d1;have d2:d≤-3:=hsr.d2;have hd:x.1.1=d:=hsr.d;refine g_no hr (l:=[i]) h1 h2 (by simp) (by simpa using hi) q1 q2 q3 q5 q6 q8 q13 q14 fun hp ha=>?_
 simp -implicitDefEqProofs only[List.map_cons,zr]at ha ⊢;have hp:PrRc d (F i):=hp i (List.mem_singleton.2 rfl);have g0:getI [F i] 0=some (F i):=rfl;obtain⟨⟨r1,r2,r3,r4,r5,r6⟩,r7⟩:=zHH d1 hp;have b1:sm18 (F i).1:=by unfold sm18;omega
 have b2:sm18 (F i).2.1:=by unfold sm18;omega
 have b3:sm18 (F i).2.2:=by unfold sm18;omega
 refine⟨bl (fB (F i)),true,?_,?_,by rw[jA];have:=zLA b1 b2 b3;omega⟩
 ·unfold qY;simp -implicitDefEqProofs only[ha,g0,hd,za,zc,zb,q,Nat.reduceBEq,zCa b1 b2 b3]
 ·unfold qA;simp -implicitDefEqProofs only[ha,g0,hd,za,zc,zb,q,Nat.reduceBEq,zFM b1 b2 b3];rfl
theorem z2h {d:Int} {F:Nat→F3} {L:List StI} {x:StS×List StS} (hr:CR ((d,F),L) x) {s:ByteArray} {i:Nat} (hi:i<26) {f:F3} {v:Int} (h1:zM s=some ((wdindex,[(i:Int)],f,v),true)) (h2:qF s=some (wdindex,([lt1 i],f,v),true)):zDg ((d,F),L) x s:=by
 have q:=zXG;obtain⟨q1,q2,q3,q4,q5,q6,q7,q8,q9,q10,q11,q12,q13,q14⟩:=zXG;unfold wE at q;have hsr:SR (d,F) x.1:=hr.1;have d1:-2000≤d:=hsr.d1;have d2:d≤-3:=hsr.d2;have hd:x.1.1=d:=hsr.d;refine g_no hr (l:=[i]) h1 h2 (by simp) (by simpa using hi) q1 q2 q3 q5 q6 q8 q13 q14 fun hp ha=>?_
 simp -implicitDefEqProofs only[List.map_cons,zr]at ha ⊢;have hp:PrRc d (F i):=hp i (List.mem_singleton.2 rfl);have g0:getI [F i] 0=some (F i):=rfl;obtain⟨j,M,k1,k2,k3,k4⟩:=z3b d1 d2 hp;obtain⟨t1,t2,t3⟩:=zR7 (r:=j) (by omega);refine⟨bl (Go.Lib.itoa (j:Int)),true,?_,?_,by rw[jA];omega⟩
 ·unfold qY;simp -implicitDefEqProofs only[ha,g0,hd,za,zc,zb,q,Nat.reduceBEq,k1,t2]
 ·unfold qA;simp -implicitDefEqProofs only[ha,g0,hd,za,zc,zb,q,Nat.reduceBEq,k2,k3,t1];rfl
theorem z2f {d:Int} {F:Nat→F3} {L:List StI} {x:StS×List StS} (hr:CR ((d,F),L) x) {s:ByteArray} {i:Nat} (hi:i<26) {f:F3} {v:Int} (h1:zM s=some ((wdorder,[(i:Int)],f,v),true)) (h2:qF s=some (wdorder,([lt1 i],f,v),true)):zDg ((d,F),L) x s:=by
 have q:=zXE;obtain⟨q1,q2,q3,q4,q5,q6,q7,q8,q9,q10,q11,q12,q13,q14⟩:=zXE;unfold wE at q;have hsr:SR (d,F) x.1:=hr.1;have d1:-2000≤d:=hsr.d1;have d2:d≤-3:=hsr.d2;have hd:x.1.1=d:=hsr.d;refine g_no hr (l:=[i]) h1 h2 (by simp) (by simpa using hi) q1 q2 q3 q5 q6 q8 q13 q14 fun hp ha=>?_
 simp -implicitDefEqProofs only[List.map_cons,zr]at ha ⊢;have hp:PrRc d (F i):=hp i (List.mem_singleton.2 rfl);have g0:getI [F i] 0=some (F i):=rfl;obtain⟨j,k1,k2,k4⟩:=z74 d1 (by omega) hp;obtain⟨t1,t2,t3⟩:=zR7 (r:=j) (by omega);refine⟨bl (Go.Lib.itoa (j:Int)),true,?_,?_,by rw[jA];omega⟩
 ·unfold qY;simp -implicitDefEqProofs only[ha,g0,hd,za,zc,zb,q,Nat.reduceBEq,k1,t2]
 ·unfold qA;simp -implicitDefEqProofs only[ha,g0,hd,za,zc,zb,q,Nat.reduceBEq,k2,t1];rfl
theorem z2i {d:Int} {F:Nat→F3} {L:List StI} {x:StS×List StS} (hr:CR ((d,F),L) x) {s:ByteArray} {i:Nat} (hi:i<26) {f:F3} {v:Int} (h1:zM s=some ((wdgenus,[(i:Int)],f,v),true)) (h2:qF s=some (wdgenus,([lt1 i],f,v),true)):zDg ((d,F),L) x s:=by
 have q:=zXH;obtain⟨q1,q2,q3,q4,q5,q6,q7,q8,q9,q10,q11,q12,q13,q14⟩:=zXH;unfold wE at q;have hsr:SR (d,F) x.1:=hr.1;have d1:-2000≤d:=hsr.d1;have d2:d≤-3:=hsr.d2;have hd:x.1.1=d:=hsr.d;refine g_no hr (l:=[i]) h1 h2 (by simp) (by simpa using hi) q1 q2 q3 q5 q6 q8 q13 q14 fun hp ha=>?_
 simp -implicitDefEqProofs only[List.map_cons,zr]at ha ⊢;have hp:PrRc d (F i):=hp i (List.mem_singleton.2 rfl);have g0:getI [F i] 0=some (F i):=rfl;obtain⟨g,k1,k2,k3,k4⟩:=z3c d1 d2 hp;have t1:=zZH (d,F) k4 k3 FU 0 [] (by omega) (by unfold FU;omega) (by simp);have t2:=zZG x k4 k3 FU 0 [] (by omega) (by unfold FU;omega) (by simp);have t1:zAw (d,F) g FU ⟨#[]⟩ 0=_:=t1;have t2:zAD x g FU ⟨#[]⟩ 0=_:=t2;refine⟨bl ([]++(g.drop 0).map fun e=>if e=1 then 43 else 45),true,?_,?_,by rw[jA];simp;omega⟩
 ·unfold qY;simp -implicitDefEqProofs only[ha,g0,hd,za,zc,zb,q,Nat.reduceBEq,k1,t1]
 ·unfold qA;simp -implicitDefEqProofs only[ha,g0,hd,za,zc,zb,q,Nat.reduceBEq,k2,t2];rfl
theorem z2d {d:Int} {F:Nat→F3} {L:List StI} {x:StS×List StS} (hr:CR ((d,F),L) x) {s:ByteArray} {i:Nat} (hi:i<26) {f:F3} {v:Int} (h1:zM s=some ((wdvalue,[(i:Int)],f,v),true)) (h2:qF s=some (wdvalue,([lt1 i],f,v),true)):zDg ((d,F),L) x s:=by
 have q:=zXC;obtain⟨q1,q2,q3,q4,q5,q6,q7,q8,q9,q10,q11,q12,q13,q14⟩:=zXC;unfold wE at q;have hsr:SR (d,F) x.1:=hr.1;have d1:-2000≤d:=hsr.d1;have d2:d≤-3:=hsr.d2;have hd:x.1.1=d:=hsr.d;refine g_no hr (l:=[i]) h1 h2 (by simp) (by simpa using hi) q1 q2 q3 q5 q6 q8 q13 q14 fun hp ha=>?_
 simp -implicitDefEqProofs only[List.map_cons,zr]at ha ⊢;have hp:PrRc d (F i):=hp i (List.mem_singleton.2 rfl);have g0:getI [F i] 0=some (F i):=rfl;obtain⟨m,b,k1,k2,k3,k4⟩:=z36 d1 d2 hp v;obtain⟨j,rfl⟩:∃j:Nat,m=(j:Int):=⟨m.natAbs,by omega⟩
 obtain⟨t1,t2,t3⟩:=zR7 (r:=j) (by omega);refine⟨bl (Go.Lib.itoa (j:Int)),b,?_,?_,by rw[jA];omega⟩
 ·unfold qY;simp -implicitDefEqProofs only[ha,g0,hd,za,zc,zb,q,Nat.reduceBEq,k1,t2]
 ·unfold qA;simp -implicitDefEqProofs only[ha,g0,hd,za,zc,zb,q,Nat.reduceBEq,k2,t1];cases b<;>rfl
theorem z4s {d:Int} {F:Nat→F3} {L:List StI} {x:StS×List StS} (hr:CR ((d,F),L) x) {s:ByteArray} {i j:Nat} (hi:i<26) (hj:j<26) {f:F3} {v:Int} (h1:zM s=some ((wdsame,[(i:Int),(j:Int)],f,v),true)) (h2:qF s=some (wdsame,([lt1 i,lt1 j],f,v),true)):zDg ((d,F),L) x s:=by
 have q:=zZh;obtain⟨q1,q2,q3,q4,q5,q6,q7,q8,q9,q10,q11,q12,q13,q14⟩:=zZh;unfold wE at q;refine g_no hr (l:=[i,j]) h1 h2 (by simp) (by simp[hi,hj]) q1 q2 q3 q5 q6 q8 q13 q14 fun hp ha=>?_
 simp -implicitDefEqProofs only[List.map_cons,zr]at ha ⊢;have g0:getI [F i,F j] 0=some (F i):=rfl;have g1:getI [F i,F j] 1=some (F j):=rfl;obtain⟨t,b,k1,k2,k5⟩:=z3P (F i) (F j);obtain⟨t',b',k3,k4,k6⟩:=z5N (F i) (F j);refine⟨if b then t else t',b||b',?_,?_,by cases b;exact k6;exact k5⟩
 ·unfold qY;simp -implicitDefEqProofs only[g0,g1,za,zc,zb,q,Nat.reduceBEq,k2,k4];cases b<;>rfl
 ·unfold qA;simp -implicitDefEqProofs only[ha,g0,g1,za,zc,zb,q,Nat.reduceBEq,k1,k3];cases b<;>cases b'<;>rfl
end Go.Proofs.YtahdjphocippeaaGreatDoor
