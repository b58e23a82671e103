/-
  Rules of walks, plain functions and their laws, part 4.
  Conditions: none.
-/
import Derived.Test.YtdedjieegpkabaaGreatGt3
set_option linter.unusedSimpArgs false
set_option linter.unusedVariables false
set_option linter.unusedSectionVars false
namespace Go.Proofs.YtdedjieegpkabaaGreat
structure RedInv (a b c d g:Int):Prop where
  a1:1≤a
  aM:a≤1000000
  b1:-1900000≤b
  b2:b≤1900000
  c1:1≤c
  cM:c≤1250000
  dis:b*b - 4*a*c=d
  neg:d<0
  nrm:(-a<b∧b≤a)∨c≤1000000
  con:∀k:Int,(k∣a∧k∣b∧k∣c)↔k∣g
def zAu(a b c:Int):Prop:=(-a<b∧b≤a)∧(a<c∨(a=c∧0≤b))
instance (a b c:Int):Decidable (zAu a b c):=inferInstanceAs (Decidable ((-a<b∧b≤a)∧(a<c∨(a=c∧0≤b))))
theorem zGN{a b c:Int}(ha:1≤a)(haM:a≤1000000):zY (a,b,c)=some (decide (zAu a b c)):=by
 have hn:zT (a,b,c)=some (decide (-a<b∧b≤a)):=by
  simp only[zT,Option.bind_some,zV,jL];rw[zA (by omega)];by_cases h1:-a<b<;>by_cases h2:b≤a<;>simp[h1,h2]
  all_goals omega
 simp only[zY,hn,Option.bind_some,zV,jL,zBF];unfold zAu;by_cases h1:-a<b<;>by_cases h2:b≤a<;>by_cases h3:a<c<;>by_cases h4:a=c<;>by_cases h5:0≤b<;>simp[h1,h2,h3,h4,h5]
theorem zRK{a b c d g:Int}(h:RedInv a b c d g)(hr:¬zAu a b c):∃m a2 b2 c2,z5 (a,b,c)=some m∧zN (a,b,c) m=some (a2,b2,c2)∧RedInv a2 b2 c2 d g∧
  ((¬(-a<b∧b≤a)∧a2=a∧(-a2<b2∧b2≤a2))∨((-a<b∧b≤a)∧a2<a)∨((-a<b∧b≤a)∧zAu a2 b2 c2∧a2≤a)):=by
 obtain⟨a1,aM,b1,b2,c1,cM,dis,neg,nrm,con⟩:=h;have hn:zT (a,b,c)=some (decide (-a<b∧b≤a)):=by
  simp only[zT,Option.bind_some,zV,jL];rw[zA (by omega)];by_cases h1:-a<b<;>by_cases h2:b≤a<;>simp[h1,h2]
  all_goals omega
 by_cases hN:-a<b∧b≤a
 ·have hst:z5 (a,b,c)=some (0,-1,1,0):=by
   simp only[z5,zGN a1 aM,hn,Option.bind_some,decide_eq_false hr,za hN];rfl
  refine⟨_,c,-b,a,hst,zJL (by omega) (by omega) (by omega),?_,?_⟩
  ·have hca:c≤a:=by
    unfold zAu at hr;have:¬(a<c∨(a=c∧0≤b)):=fun x=>hr ⟨hN,x⟩;omega
   exact⟨c1,by omega,by omega,by omega,a1,by omega,by grind,neg,.inr aM,fun k=>by rw[←con k,Int.dvd_neg];exact⟨fun h=>⟨h.2.2,h.2.1,h.1⟩,fun h=>⟨h.2.2,h.2.1,h.1⟩⟩⟩
  ·have h2:¬(a<c∨(a=c∧0≤b)):=fun x=>hr ⟨hN,x⟩;by_cases hac:a=c
   ·refine .inr (.inr ⟨hN,⟨?_,.inr ?_⟩,?_⟩)<;>omega
   ·exact .inr (.inl ⟨hN,by omega⟩)
 ·have hf:=zEP (a:=a - b) (m:=2*a) (by omega) (by omega) (by omega) (by omega);have e1:=zn (a - b) (b:=2*a) (by omega);have e2:=zo (a - b) (b:=2*a) (by omega);have e3:=Int.emod_add_mul_ediv (a - b) (2*a);generalize hs:(a - b) / (2*a)=s at*;generalize hq:(a - b) % (2*a)=q at*;have hs1:s≤1000000:=by
   rcases Int.lt_or_le 1000000 s with h|h
   ·have:2*a*1000001≤2*a*s:=zg (by omega) (by omega);omega
   ·exact h
  have hs2:-1000001≤s:=by
   rcases Int.lt_or_le s (-1000001) with h|h
   ·have:2*a*s≤2*a*(-1000002):=zg (by omega) (by omega);omega
   ·exact h
  have hst:z5 (a,b,c)=some (1,s,0,1):=by simp only[z5,zGN a1 aM,hn,Option.bind_some,decide_eq_false hr,decide_eq_false hN,cond_false,zc,cond_true];rw[zA (n:=a - b) (by omega),zA (n:=2*a) (by omega),hf];rfl
  have hb:-a<2*a*s+b∧2*a*s+b≤a:=by omega
  have hid:4*a*(a*s*s+b*s+c)=(2*a*s+b)*(2*a*s+b) - d:=by grind
  have hsq:0≤(2*a*s+b)*(2*a*s+b):=by
   rcases Int.le_total 0 (2*a*s+b) with h|h
   ·exact Int.mul_nonneg h h
   ·exact Int.mul_nonneg_of_nonpos_of_nonpos h h
  have hsq2:(2*a*s+b)*(2*a*s+b)≤a*a:=by
   have:=zX (x:=2*a*s+b) (y:=2*a*s+b) (A:=a.natAbs) (B:=a.natAbs) (by omega) (by omega);have h2:((2*a*s+b)*(2*a*s+b)).natAbs≤(a*a).natAbs:=by rw[Int.natAbs_mul a a];exact this
   have h3:0≤a*a:=Int.mul_nonneg (by omega) (by omega);omega
  have hbb:0≤b*b:=by
   rcases Int.le_total 0 b with h|h
   ·exact Int.mul_nonneg h h
   ·exact Int.mul_nonneg_of_nonpos_of_nonpos h h
  have hc:1≤a*s*s+b*s+c:=by
   rcases Int.lt_or_le 0 (a*s*s+b*s+c) with h|h
   ·exact h
   ·have:4*a*(a*s*s+b*s+c)≤4*a*0:=zg h (by omega);omega
  have hcc:c≤1000000:=nrm.resolve_left hN;have hcM:a*s*s+b*s+c≤1250000:=by
   have h4:4*a*(a*s*s+b*s+c)≤a*a+4*a*c:=by omega
   have h5:a*a+4*a*c≤a*5000000:=by
    have:a*(a+4*c)≤a*5000000:=zg (by omega) (by omega);have e:a*(a+4*c)=a*a+4*a*c:=by grind
    omega
   rcases Int.lt_or_le 1250000 (a*s*s+b*s+c) with h|h
   ·have:4*a*1250001≤4*a*(a*s*s+b*s+c):=zg (by omega) (by omega);omega
   ·exact h
  have hcon:∀k:Int,(k∣a∧k∣2*a*s+b∧k∣a*s*s+b*s+c)↔k∣g:=by
   intro k;rw[←con k];constructor
   ·rintro⟨u1,u2,u3⟩;have v1:k∣b:=by
     have w1:k∣2*a*s:=Int.dvd_mul_of_dvd_left (Int.dvd_mul_of_dvd_right u1);exact (Int.dvd_add_right w1).1 u2
    have w2:k∣a*s*s+b*s:=Int.dvd_add (Int.dvd_mul_of_dvd_left (Int.dvd_mul_of_dvd_left u1)) (Int.dvd_mul_of_dvd_left v1);exact⟨u1,v1,(Int.dvd_add_right w2).1 u3⟩
   ·rintro⟨u1,u2,u3⟩;have w1:k∣2*a*s:=Int.dvd_mul_of_dvd_left (Int.dvd_mul_of_dvd_right u1);have w2:k∣a*s*s+b*s:=Int.dvd_add (Int.dvd_mul_of_dvd_left (Int.dvd_mul_of_dvd_left u1)) (Int.dvd_mul_of_dvd_left u2);exact⟨u1,Int.dvd_add w1 u2,Int.dvd_add w2 u3⟩
  refine⟨_,a,2*a*s+b,a*s*s+b*s+c,hst,zJM (by omega) (by omega) (by omega) (by omega),⟨a1,aM,by omega,by omega,hc,hcM,by grind,neg,.inl hb,hcon⟩,.inl ⟨hN,rfl,hb⟩⟩
theorem zRq(m n:Int×Int×Int×Int):∃y,zQ m n=some y:=by simp only[zQ,zP];exact⟨_,rfl⟩
theorem zSp:∀(n:Nat)(a b c d g p q r s:Int),RedInv a b c d g→4*a+(if -a<b∧b≤a then 0 else 2)+(if zAu a b c then 0 else 1)≤(n:Int)→
  ∃m1 m2 m3 m4 a2 b2 c2,zAa n p q r s a b c=some (m1,m2,m3,m4,a2,b2,c2)∧zB3 n p q r s a b c=some (m1,m2,m3,m4,a2,b2,c2)∧RedInv a2 b2 c2 d g∧zAu a2 b2 c2
 |0,a,b,c,d,g,p,q,r,s,h,hm=>by have:=h.a1;split at hm<;>split at hm<;>omega
 |n+1,a,b,c,d,g,p,q,r,s,h,hm=>by
  unfold zAa zB3;rw[zS1,zGN h.a1 h.aM];by_cases hr:zAu a b c
  ·refine⟨p,q,r,s,a,b,c,?_,?_,h,hr⟩<;>simp[hr]
  ·obtain⟨m,a2,b2,c2,h1,h2,h3,h4⟩:=zRK h hr;obtain⟨y,hy⟩:=zRq (p,q,r,s) m;obtain⟨y1,y2,y3,y4⟩:=y;have hstep:zC7 (a,b,c)=z5 (a,b,c):=zVS h.a1 (by have:=h.aM;omega) (by have:=h.b1;omega) (by have:=h.b2;omega) (by rw[zGN h.a1 h.aM,decide_eq_false hr]);have e1:(!decide (zAu a b c))=true:=by simp[hr]
   simp only[Option.bind_some,hstep,h1,zWa,zTW,h2,hy,e1,cond_true];refine zSp n a2 b2 c2 d g y1 y2 y3 y4 h3 ?_
   rcases h4 with⟨g1,g2,g3⟩|⟨g1,g2⟩|⟨g1,g2,g3⟩
   ·rw[if_neg g1,if_neg hr]at hm;rw[if_pos g3];split<;>omega
   ·rw[if_pos g1,if_neg hr]at hm;split<;>split<;>omega
   ·rw[if_pos g1,if_neg hr]at hm;rw[if_pos g2.1,if_pos g2];omega
theorem zU0{a b c d g:Int}(h:RedInv a b c d g):∃m a2 b2 c2,zAL (a,b,c)=some ((a2,b2,c2),m)∧qL (a,b,c)=some ((a2,b2,c2),m)∧RedInv a2 b2 c2 d g∧zAu a2 b2 c2:=by
 obtain⟨m1,m2,m3,m4,a2,b2,c2,h1,h2,h3,h4⟩:=zSp FU a b c d g 1 0 0 1 h (by have e:((FU:Nat):Int)=1000000000:=rfl;rw[e];have:=h.aM;split<;>split<;>omega)
 refine⟨(m1,m2,m3,m4),a2,b2,c2,?_,?_,h3,h4⟩
 ·simp only[zAL,zEI,Option.bind_some,h1]
 ·simp only[qL,h2,Option.bind_some]
theorem zFg(x:Int):0≤x*x:=by
 rcases Int.le_total 0 x with h|h
 ·exact Int.mul_nonneg h h
 ·exact Int.mul_nonneg_of_nonpos_of_nonpos h h
theorem zPL{x:Int}{M N:Nat}(h:x*x≤(N:Int))(hM:N<(M+1)*(M+1)):x.natAbs≤M:=by
 rcases Nat.lt_or_ge M x.natAbs with h1|h1
 ·have h2:(M+1)*(M+1)≤x.natAbs*x.natAbs:=Nat.mul_le_mul h1 h1;have h3:x*x=((x.natAbs*x.natAbs:Nat):Int):=Int.natAbs_mul_self.symm;omega
 ·exact h1
theorem zWM{A B C d x y v:Int}(hd:B*B - 4*A*C=d)(hv:A*x*x+B*x*y+C*y*y=v):(-d)*(x*x)+(2*C*y+B*x)*(2*C*y+B*x)=4*C*v:=by subst hd hv;grind
theorem zVO{A B C d x y v:Int}(hd:B*B - 4*A*C=d)(hv:A*x*x+B*x*y+C*y*y=v):(-d)*(x*x)≤4*C*v:=by have h1:=zWM hd hv;have h2:=zFg (2*C*y+B*x);omega
theorem zQJ{A B C d x y v:Int}(hd:B*B - 4*A*C=d)(hneg:d<0)(hC1:1≤C)(hC:C≤1000000)(hv:A*x*x+B*x*y+C*y*y=v)(hv2:v≤1250000):x.natAbs≤2300000:=by have h1:=zVO hd hv;have h2:1*(x*x)≤(-d)*(x*x):=Int.mul_le_mul_of_nonneg_right (by omega) (zFg x);have h3:4*C*v≤4*C*1250000:=zg hv2 (by omega);exact zPL (N:=5000000000000) (by omega) (by decide)
structure MatInv (A B C p q r s a b c:Int):Prop where
  e1:A*p*p+B*p*r+C*r*r=a
  e2:2*A*p*q+B*(p*s+q*r)+2*C*r*s=b
  e3:A*q*q+B*q*s+C*s*s=c
  dt:p*s - q*r=1
theorem MatInv.swap{A B C p q r s a b c:Int}(h:MatInv A B C p q r s a b c):MatInv A B C q (-p) s (-r) c (-b) a:=by obtain⟨e1,e2,e3,dt⟩:=h;exact⟨e3,by grind,by grind,by grind⟩
theorem MatInv.norm{A B C p q r s a b c:Int}(t:Int)(h:MatInv A B C p q r s a b c):MatInv A B C p (p*t+q) r (r*t+s) a (2*a*t+b) (a*t*t+b*t+c):=by obtain⟨e1,e2,e3,dt⟩:=h;exact⟨e1,by grind,by grind,by grind⟩
theorem zRy{a b c d g:Int}(h:RedInv a b c d g)(hr:¬zAu a b c):z5 (a,b,c)=some (0,-1,1,0)∨∃t,-1000001≤t∧t≤1000000∧z5 (a,b,c)=some (1,t,0,1):=by
 obtain⟨a1,aM,b1,b2,c1,cM,dis,neg,nrm,con⟩:=h;have hn:zT (a,b,c)=some (decide (-a<b∧b≤a)):=by
  simp only[zT,Option.bind_some,zV,jL];rw[zA (by omega)];by_cases h1:-a<b<;>by_cases h2:b≤a<;>simp[h1,h2]
  all_goals omega
 by_cases hN:-a<b∧b≤a
 ·left;simp only[z5,zGN a1 aM,hn,Option.bind_some,decide_eq_false hr,za hN];rfl
 ·right;have hf:=zEP (a:=a - b) (m:=2*a) (by omega) (by omega) (by omega) (by omega);have e1:=zn (a - b) (b:=2*a) (by omega);have e2:=zo (a - b) (b:=2*a) (by omega);have e3:=Int.emod_add_mul_ediv (a - b) (2*a);generalize hs:(a - b) / (2*a)=s at*;generalize hq:(a - b) % (2*a)=q at*;have hs1:s≤1000000:=by
   rcases Int.lt_or_le 1000000 s with h|h
   ·have:2*a*1000001≤2*a*s:=zg (by omega) (by omega);omega
   ·exact h
  have hs2:-1000001≤s:=by
   rcases Int.lt_or_le s (-1000001) with h|h
   ·have:2*a*s≤2*a*(-1000002):=zg (by omega) (by omega);omega
   ·exact h
  refine⟨s,hs2,hs1,?_⟩;simp only[z5,zGN a1 aM,hn,Option.bind_some,decide_eq_false hr,decide_eq_false hN,cond_false,zc,cond_true];rw[zA (n:=a - b) (by omega),zA (n:=2*a) (by omega),hf];rfl
theorem zRp{p q r s:Int}(hp:p.natAbs≤2300000)(hq:q.natAbs≤2300000)(hr:r.natAbs≤2300000)(hs:s.natAbs≤2300000):zQ (p,q,r,s) (0,-1,1,0)=some (q,-p,s,-r):=by
 simp only[zQ,zP,Int.mul_zero,Int.mul_one];have e:∀x:Int,x*-1=-x:=fun x=>by omega
 rw[e p,e r,zA (n:=0) (by omega),zA (n:=q) (by omega),zA (n:=-p) (by omega),zA (n:=s) (by omega),zA (n:=-r) (by omega),zA (n:=0+q) (by omega),zA (n:=-p+0) (by omega),zA (n:=0+s) (by omega),zA (n:=-r+0) (by omega)];simp
theorem zRr{p q r s t:Int}(hp:p.natAbs≤2300000)(hq:q.natAbs≤2300000)(hr:r.natAbs≤2300000)(hs:s.natAbs≤2300000)(ht:t.natAbs≤1000001):zQ (p,q,r,s) (1,t,0,1)=some (p,p*t+q,r,r*t+s):=by have m1:=zX hp ht;have m2:=zX hr ht;simp only[zQ,zP,Int.mul_zero,Int.mul_one];rw[zA (n:=0) (by omega),zA (n:=q) (by omega),zA (n:=p) (by omega),zA (n:=s) (by omega),zA (n:=r) (by omega),zA (n:=p*t) (by omega),zA (n:=r*t) (by omega),zA (n:=p+0) (by omega),zA (n:=p*t+q) (by omega),zA (n:=r+0) (by omega),zA (n:=r*t+s) (by omega)];simp
theorem zPz{A B C:Int}(hA1:1≤A)(hA:A≤1000000)(hC1:1≤C)(hC:C≤1000000):∀(n:Nat)(a b c d g p q r s:Int),B*B - 4*A*C=d→RedInv a b c d g→MatInv A B C p q r s a b c→4*a+(if -a<b∧b≤a then 0 else 2)+(if zAu a b c then 0 else 1)≤(n:Int)→
  ∃m1 m2 m3 m4 a2 b2 c2,zAa n p q r s a b c=some (m1,m2,m3,m4,a2,b2,c2)∧RedInv a2 b2 c2 d g∧zAu a2 b2 c2∧MatInv A B C m1 m2 m3 m4 a2 b2 c2
 |0,a,b,c,d,g,p,q,r,s,hd,h,hv,hm=>by have:=h.a1;split at hm<;>split at hm<;>omega
 |n+1,a,b,c,d,g,p,q,r,s,hd,h,hv,hm=>by
  unfold zAa;rw[zGN h.a1 h.aM];by_cases hr:zAu a b c
  ·refine⟨p,q,r,s,a,b,c,?_,h,hr,hv⟩;simp[hr]
  ·obtain⟨m,a2,b2,c2,h1,h2,h3,h4⟩:=zRK h hr;have hdS:B*B - 4*C*A=d:=by rw[←hd];grind
   have bp:=zQJ hd h.neg hC1 hC hv.e1 (by have:=h.aM;omega);have bq:=zQJ hd h.neg hC1 hC hv.e3 h.cM;have br:=zQJ (A:=C) (C:=A) (x:=r) (y:=p) hdS h.neg hA1 hA (v:=a) (by have:=hv.e1;grind) (by have:=h.aM;omega);have bs:=zQJ (A:=C) (C:=A) (x:=s) (y:=q) hdS h.neg hA1 hA (v:=c) (by have:=hv.e3;grind) h.cM;have e1:(!decide (zAu a b c))=true:=by simp[hr]
   have hmeas:4*a2+(if -a2<b2∧b2≤a2 then 0 else 2)+(if zAu a2 b2 c2 then 0 else 1)≤(n:Int):=by
    rcases h4 with⟨g1,g2,g3⟩|⟨g1,g2⟩|⟨g1,g2,g3⟩
    ·rw[if_neg g1,if_neg hr]at hm;rw[if_pos g3];split<;>omega
    ·rw[if_pos g1,if_neg hr]at hm;split<;>split<;>omega
    ·rw[if_pos g1,if_neg hr]at hm;rw[if_pos g2.1,if_pos g2];omega
   have ha:=h.a1;have hb1:=h.b1;have hb2:=h.b2;have haM:=h.aM;have hc1:=h.c1;have hcM:=h.cM;rcases zRy h hr with hs|⟨t,t1,t2,hs⟩
   ·rw[hs]at h1;have hm0:=qB h1;subst hm0;have hsub:=zJL (a:=a) (b:=b) (c:=c) (by omega) (by omega) (by omega);rw[hsub]at h2;obtain⟨ea,hbc⟩:=Prod.mk.inj (qB h2);obtain⟨eb,ec⟩:=Prod.mk.inj hbc;rw[←ea,←eb,←ec]at h3 hmeas;simp only[Option.bind_some,hs,hsub,zRp bp bq br bs,e1,cond_true];exact zPz hA1 hA hC1 hC n _ _ _ d g _ _ _ _ hd h3 hv.swap hmeas
   ·rw[hs]at h1;have hm0:=qB h1;subst hm0;have hsub:=zJM (a:=a) (b:=b) (c:=c) (s:=t) (by omega) (by omega) (by omega) (by omega);rw[hsub]at h2;obtain⟨ea,hbc⟩:=Prod.mk.inj (qB h2);obtain⟨eb,ec⟩:=Prod.mk.inj hbc;rw[←ea,←eb,←ec]at h3 hmeas;simp only[Option.bind_some,hs,hsub,zRr bp bq br bs (t:=t) (by omega),e1,cond_true];exact zPz hA1 hA hC1 hC n _ _ _ d g _ _ _ _ hd h3 (hv.norm t) hmeas
theorem zH6{A B C d x y v a b c:Int}(hd:B*B - 4*A*C=d)(hC1:1≤C)(hC:C≤1000000)(hdis:b*b - 4*a*c=d)(hred:zAu a b c)(ha:1≤a)(hv:A*x*x+B*x*y+C*y*y=v)(hv2:v=a∨v=c):x.natAbs≤2000:=by
 have h1:=zVO hd hv;obtain⟨⟨b1,b2⟩,hr⟩:=hred;have hac:a≤c:=by omega
 have hbb:b*b≤a*a:=by
  have:=zX (x:=b) (y:=b) (A:=a.natAbs) (B:=a.natAbs) (by omega) (by omega);have h2:(b*b).natAbs≤(a*a).natAbs:=by rw[Int.natAbs_mul a a];exact this
  have h3:=zFg a;have h4:=zFg b;omega
 have haa:a*a≤a*c:=zg hac (by omega);have hD:3*(a*c)≤-d:=by
  have:4*a*c=4*(a*c):=by rw[zm]
  omega
 have hxx:=zFg x;have h5:3*(a*c)*(x*x)≤(-d)*(x*x):=Int.mul_le_mul_of_nonneg_right hD hxx;have h6:4*C*v≤4000000*v:=Int.mul_le_mul_of_nonneg_right (by omega) (by omega);have h7:3*(a*c)*(x*x)≤4000000*v:=by omega
 -- divide by v
 have h8:3*(x*x)≤4000000:=by
  rcases Int.lt_or_le 4000000 (3*(x*x)) with h|h
  ·exfalso
   rcases hv2 with rfl|rfl
   ·have h9:v*(3*(x*x))≤v*(3*(c*(x*x))):=zg (by
     have:1*(x*x)≤c*(x*x):=Int.mul_le_mul_of_nonneg_right (by omega) hxx;omega) (by omega)
    have h10:v*(3*(c*(x*x)))=3*(v*c)*(x*x):=by grind
    have h11:v*4000001≤v*(3*(x*x)):=zg (by omega) (by omega);omega
   ·have h9:v*(3*(x*x))≤v*(3*(a*(x*x))):=zg (by
     have:1*(x*x)≤a*(x*x):=Int.mul_le_mul_of_nonneg_right (by omega) hxx;omega) (by omega)
    have h10:v*(3*(a*(x*x)))=3*(a*v)*(x*x):=by grind
    have h11:v*4000001≤v*(3*(x*x)):=zg (by omega) (by omega);omega
  ·exact h
 exact zPL (N:=1333334) (by omega) (by decide)
theorem zUZ{a b c g:Int}(hi:RedInv a b c (b*b - 4*a*c) g)(hcM:c≤1000000):∃m1 m2 m3 m4 a2 b2 c2,zAL (a,b,c)=some ((a2,b2,c2),(m1,m2,m3,m4))∧qL (a,b,c)=some ((a2,b2,c2),(m1,m2,m3,m4))∧RedInv a2 b2 c2 (b*b - 4*a*c) g∧zAu a2 b2 c2∧MatInv a b c m1 m2 m3 m4 a2 b2 c2∧m1.natAbs≤2000∧m2.natAbs≤2000∧m3.natAbs≤2000∧m4.natAbs≤2000:=by
 obtain⟨m,a2,b2,c2,k1,k2,k3,k4⟩:=zU0 hi;obtain⟨m1,m2,m3,m4,a3,b3,c3,q1,q2,q3,q4⟩:=zPz (B:=b) hi.a1 hi.aM hi.c1 hcM FU a b c _ g 1 0 0 1 rfl hi ⟨by grind,by grind,by grind,by decide⟩ (by have e:((FU:Nat):Int)=1000000000:=rfl;rw[e];have:=hi.aM;split<;>split<;>omega)
 have k1':zAL (a,b,c)=some ((a3,b3,c3),(m1,m2,m3,m4)):=by simp only[zAL,zEI,Option.bind_some,q1]
 rw[k1]at k1';have e:=qB k1';obtain⟨e1,rfl⟩:=Prod.mk.inj e;obtain⟨rfl,e2⟩:=Prod.mk.inj e1;obtain⟨rfl,rfl⟩:=Prod.mk.inj e2;have hdS:b*b - 4*c*a=b*b - 4*a*c:=by grind
 have s1:=zH6 (A:=a) (B:=b) (C:=c) (x:=m1) (y:=m3) rfl hi.c1 hcM q2.dis q3 q2.a1 q4.e1 (.inl rfl);have s2:=zH6 (A:=a) (B:=b) (C:=c) (x:=m2) (y:=m4) rfl hi.c1 hcM q2.dis q3 q2.a1 q4.e3 (.inr rfl);have s3:=zH6 (A:=c) (B:=b) (C:=a) (x:=m3) (y:=m1) (v:=a2) hdS hi.a1 hi.aM q2.dis q3 q2.a1 (by have:=q4.e1;grind) (.inl rfl);have s4:=zH6 (A:=c) (B:=b) (C:=a) (x:=m4) (y:=m2) (v:=c2) hdS hi.a1 hi.aM q2.dis q3 q2.a1 (by have:=q4.e3;grind) (.inr rfl);exact⟨m1,m2,m3,m4,a2,b2,c2,k1,k2,q2,q3,q4,s1,s2,s3,s4⟩
def bv(x:Int):BitVec 64:=BitVec.ofInt 64 x
theorem zRk(x:Int):w64 x=(bv x).toInt:=by rw[zID,bv,BitVec.toInt_ofInt,IntKind.wrap_i64,Int.bmod_def];omega
theorem zK7(x:Int):bv (w64 x)=bv x:=by rw[zRk];unfold bv;rw[BitVec.ofInt_toInt]
theorem zEb{x y:Int}(h:bv x=bv y):w64 x=w64 y:=by rw[zRk,zRk,h]
theorem zNd(x y:Int):bv (x+y)=bv x+bv y:=BitVec.ofInt_add x y
theorem zQY(x y:Int):bv (x*y)=bv x*bv y:=BitVec.ofInt_mul x y
theorem zQX(x y:Int):bv (x - y)=bv x - bv y:=by rw[Int.sub_eq_add_neg,zNd];unfold bv;rw[BitVec.ofInt_neg,BitVec.sub_eq_add_neg]
theorem wml(x y:Int):w64 (w64 x*y)=w64 (x*y):=zEb (by rw[zQY,zQY,zK7])
theorem wmr(x y:Int):w64 (x*w64 y)=w64 (x*y):=zEb (by rw[zQY,zQY,zK7])
theorem wal(x y:Int):w64 (w64 x+y)=w64 (x+y):=zEb (by rw[zNd,zNd,zK7])
theorem war(x y:Int):w64 (x+w64 y)=w64 (x+y):=zEb (by rw[zNd,zNd,zK7])
theorem wsl(x y:Int):w64 (w64 x - y)=w64 (x - y):=zEb (by rw[zQX,zQX,zK7])
theorem wsr(x y:Int):w64 (x - w64 y)=w64 (x - y):=zEb (by rw[zQX,zQX,zK7])
theorem at_w(a b c x y:Int):jU (a,b,c) x y=some (w64 (a*x*x+b*x*y+c*y*y)):=by simp only[jU,zP,wml,wmr,wal,war,wsl,wsr]
theorem zSx(a b c x y u v:Int):zAD (a,b,c) x y u v=some (w64 (2*a*x*u+b*(x*v+y*u)+2*c*y*v)):=by simp only[zAD,zP,wml,wmr,wal,war,wsl,wsr]
theorem sub_w(a b c p q r s:Int):zN (a,b,c) (p,q,r,s)=some (w64 (a*p*p+b*p*r+c*r*r),w64 (2*a*p*q+b*(p*s+r*q)+2*c*r*s),w64 (a*q*q+b*q*s+c*s*s)):=by simp only[zN,at_w,zSx,Option.bind_some]
theorem zPT(p q r s p' q' r' s':Int):zQ (p,q,r,s) (p',q',r',s')=some (w64 (p*p'+q*r'),w64 (p*q'+q*s'),w64 (r*p'+s*r'),w64 (r*q'+s*s')):=by simp only[zQ,zP,wml,wmr,wal,war,wsl,wsr]
theorem zS2(a b c:Int):zAr (a,b,c)=some (w64 (b*b - 4*a*c)):=by simp only[zAr,zP,wml,wmr,wal,war,wsl,wsr]
end Go.Proofs.YtdedjieegpkabaaGreat
namespace Go.Proofs.YtdedjieegpkabaaGreat
def ptG(a A B C x y:Nat):Bool:=Nat.beq (Nat.gcd (Nat.add (Nat.add (Nat.mul A (Nat.mul x x)) (Nat.mul B (Nat.mul x y))) (Nat.mul C (Nat.mul y y))) a) 1
def ptA(a A B C:Nat):Bool:=bif ptG a A B C 0 1 then true else bif ptG a A B C 1 0 then true else bif ptG a A B C 1 1 then true else bif ptG a A B C 1 2 then true else bif ptG a A B C 2 1 then true else bif ptG a A B C 1 3 then true else bif ptG a A B C 2 3 then true else bif ptG a A B C 3 1 then true else ptG a A B C 3 2
def ptC(a A B:Nat):Nat→Bool
 |0=>true
 |k+1=>bif (bif Nat.beq (Nat.gcd (Nat.gcd A B) (Nat.gcd k a)) 1 then ptA a A B k else true) then ptC a A B k else false
def ptB(a A:Nat):Nat→Bool
 |0=>true
 |k+1=>bif ptC a A k a then ptB a A k else false
def ptD(a:Nat):Nat→Bool
 |0=>true
 |k+1=>bif ptB a k a then ptD a k else false
def ptE:Nat→Bool
 |0=>true
 |k+1=>bif ptD (Nat.succ k) (Nat.succ k) then ptE k else false
theorem zXb:ptE 25=true:=by decide+kernel
theorem zMF{a b:Bool}(h:(bif a then b else false)=true):a=true∧b=true:=by cases a<;>simp_all
theorem zSv{a A B:Nat}:∀k,ptC a A B k=true→∀C,C<k→Nat.gcd (Nat.gcd A B) (Nat.gcd C a)=1→ptA a A B C=true
 |0,_,C,hC,_=>by omega
 |k+1,h,C,hC,hg=>by
  obtain⟨h1,h2⟩:=zMF h;by_cases e:C=k
  ·subst e;have:Nat.beq (Nat.gcd (Nat.gcd A B) (Nat.gcd C a)) 1=true:=by rw[Nat.beq_eq];exact hg
   rw[this,cond_true]at h1;exact h1
  ·exact zSv k h2 C (by omega) hg
theorem zSw{a A:Nat}:∀k,ptB a A k=true→∀B,B<k→ptC a A B a=true
 |0,_,C,hC=>by omega
 |k+1,h,C,hC=>by
  obtain⟨h1,h2⟩:=zMF h;by_cases e:C=k
  ·subst e;exact h1
  ·exact zSw k h2 C (by omega)
theorem zSu{a:Nat}:∀k,ptD a k=true→∀A,A<k→ptB a A a=true
 |0,_,C,hC=>by omega
 |k+1,h,C,hC=>by
  obtain⟨h1,h2⟩:=zMF h;by_cases e:C=k
  ·subst e;exact h1
  ·exact zSu k h2 C (by omega)
theorem zSt:∀k,ptE k=true→∀a,a<k→ptD (a+1) (a+1)=true
 |0,_,C,hC=>by omega
 |k+1,h,C,hC=>by
  obtain⟨h1,h2⟩:=zMF h;by_cases e:C=k
  ·subst e;exact h1
  ·exact zSt k h2 C (by omega)
theorem zX9{a A B C:Nat}(h1:1≤a)(h2:a≤25)(hA:A<a)(hB:B<a)(hC:C<a)(hg:Nat.gcd (Nat.gcd A B) (Nat.gcd C a)=1):ptA a A B C=true:=by have e:=zSt 25 zXb (a - 1) (by omega);rw[show a - 1+1=a by omega]at e;exact zSv a (zSw a (zSu a e A hA) B hB) C hC hg
def ptL:List (Int×Int):=[(0,1),(1,0),(1,1),(1,2),(2,1),(1,3),(2,3),(3,1),(3,2)]
theorem gcd_of'{g x y:Int}(h:∀c:Int,c∣g→(c∣x↔c∣y)):Int.gcd g x=Int.gcd g y:=by
 refine Nat.dvd_antisymm ?_ ?_<;>apply Int.natCast_dvd_natCast.1
 ·exact Int.dvd_coe_gcd (Int.gcd_dvd_left _ _) ((h _ (Int.gcd_dvd_left _ _)).1 (Int.gcd_dvd_right _ _))
 ·exact Int.dvd_coe_gcd (Int.gcd_dvd_left _ _) ((h _ (Int.gcd_dvd_left _ _)).2 (Int.gcd_dvd_right _ _))
theorem zW0{v a:Int}{n:Nat}(ha:1≤a)(hn:a∣v - (n:Int)):Int.gcd v a=Nat.gcd n a.toNat:=by
 obtain⟨k,hk⟩:=hn;have e:v=(n:Int)+a*k:=by omega
 rw[e,Int.gcd_comm,gcd_of' (y:=(n:Int)) (fun c hc=>by
  obtain⟨j,hj⟩:=hc;constructor
  ·rintro⟨i,hi⟩;exact⟨i - j*k,by rw[Int.mul_sub,←zm,←hj];omega⟩
  ·rintro⟨i,hi⟩;exact⟨i+j*k,by rw[Int.mul_add,←zm,←hj];omega⟩),Int.gcd_comm]
 unfold Int.gcd;rw[Int.natAbs_natCast];congr 1;omega
theorem zNU{x a:Int}(ha:1≤a):a∣x - ((x % a).toNat:Int)∧(x % a).toNat<a.toNat:=by have h1:=zn x (b:=a) (by omega);have h2:=zo x (b:=a) (by omega);have h3:=Int.emod_add_mul_ediv x a;exact⟨⟨x / a,by omega⟩,by omega⟩
theorem pt_ex{a A B C:Int}(h1:1≤a)(h2:a≤25)(hp:∀k:Int,k∣A→k∣B→k∣C→k∣1):∃p,p∈ptL∧Int.gcd (A*p.1*p.1+B*p.1*p.2+C*p.2*p.2) a=1:=by
 obtain⟨a1,a2⟩:=zNU (x:=A) h1;obtain⟨b1,b2⟩:=zNU (x:=B) h1;obtain⟨c1,c2⟩:=zNU (x:=C) h1;generalize (A % a).toNat=A' at*;generalize (B % a).toNat=B' at*;generalize (C % a).toNat=C' at*;have hg:Nat.gcd (Nat.gcd A' B') (Nat.gcd C' a.toNat)=1:=by
  generalize hG:Nat.gcd (Nat.gcd A' B') (Nat.gcd C' a.toNat)=G;have g1:G∣A':=hG▸Nat.dvd_trans (Nat.gcd_dvd_left _ _) (Nat.gcd_dvd_left _ _);have g2:G∣B':=hG▸Nat.dvd_trans (Nat.gcd_dvd_left _ _) (Nat.gcd_dvd_right _ _);have g3:G∣C':=hG▸Nat.dvd_trans (Nat.gcd_dvd_right _ _) (Nat.gcd_dvd_left _ _);have g4:G∣a.toNat:=hG▸Nat.dvd_trans (Nat.gcd_dvd_right _ _) (Nat.gcd_dvd_right _ _);have g5:(G:Int)∣a:=by
   have:((a.toNat:Nat):Int)=a:=by omega
   rw[←this];exact Int.natCast_dvd_natCast.2 g4
  have up:∀{X:Int}{X':Nat},a∣X - (X':Int)→G∣X'→(G:Int)∣X:=by intro X X' u1 u2;obtain⟨i,hi⟩:=Int.dvd_trans g5 u1;obtain⟨j,hj⟩:=Int.natCast_dvd_natCast.2 u2;exact⟨i+j,by rw[Int.mul_add];omega⟩
  have h:=hp G (up a1 g1) (up b1 g2) (up c1 g3);have:=Int.natCast_dvd_natCast.1 (show (G:Int)∣((1:Nat):Int) from h);exact Nat.dvd_one.1 this
 have k:=zX9 (by omega) (by omega) a2 b2 c2 hg;have fin:∀x y:Nat,((x:Int),(y:Int))∈ptL→ptG a.toNat A' B' C' x y=true→∃p,p∈ptL∧Int.gcd (A*p.1*p.1+B*p.1*p.2+C*p.2*p.2) a=1:=by
  intro x y hm hG;refine⟨_,hm,?_⟩;have e:=Nat.eq_of_beq_eq_true hG;rw[←e];refine zW0 h1 ?_
  obtain⟨i,hi⟩:=a1;obtain⟨j,hj⟩:=b1;obtain⟨l,hl⟩:=c1;refine⟨i*(x*x)+j*(x*y)+l*(y*y),?_⟩;have eA:A=a*i+A':=by omega
  have eB:B=a*j+B':=by omega
  have eC:C=a*l+C':=by omega
  have e3:((((A'.mul (x.mul x)).add (B'.mul (x.mul y))).add (C'.mul (y.mul y)):Nat):Int)=A'*(x*x)+B'*(x*y)+C'*(y*y):=by simp only[Nat.add_eq,Nat.mul_eq,Int.natCast_add,Int.natCast_mul]
  rw[e3,eA,eB,eC];simp only[];grind
 unfold ptA at k;by_cases e1:ptG a.toNat A' B' C' 0 1=true;· exact fin 0 1 (by decide) e1
 by_cases e2:ptG a.toNat A' B' C' 1 0=true;· exact fin 1 0 (by decide) e2
 by_cases e3:ptG a.toNat A' B' C' 1 1=true;· exact fin 1 1 (by decide) e3
 by_cases e4:ptG a.toNat A' B' C' 1 2=true;· exact fin 1 2 (by decide) e4
 by_cases e5:ptG a.toNat A' B' C' 2 1=true;· exact fin 2 1 (by decide) e5
 by_cases e6:ptG a.toNat A' B' C' 1 3=true;· exact fin 1 3 (by decide) e6
 by_cases e7:ptG a.toNat A' B' C' 2 3=true;· exact fin 2 3 (by decide) e7
 by_cases e8:ptG a.toNat A' B' C' 3 1=true;· exact fin 3 1 (by decide) e8
 rw[Bool.not_eq_true]at e1 e2 e3 e4 e5 e6 e7 e8;rw[e1,e2,e3,e4,e5,e6,e7,e8]at k;simp only[cond_false]at k;exact fin 3 2 (by decide) k
end Go.Proofs.YtdedjieegpkabaaGreat
namespace Go.Proofs.YtdedjieegpkabaaGreat
structure Rb (A B C:Int):Prop where
  a1:1≤A
  a2:A≤26
  b1:-26≤B
  b2:B≤26
  c1:1≤C
  c2:C≤1000
def Vl(A B C x y:Int):Int:=A*x*x+B*x*y+C*y*y
def Gd(a A B C s x y:Int):Prop:=mxI x y=s∧Int.gcd x y=1∧Int.gcd (Vl A B C x y) a=1
theorem zXk(x y:Int):mxI x y=max x y:=by
 unfold mxI;rw[zV];by_cases h:x<y
 ·rw[za h,cond_true];omega
 ·rw[decide_eq_false h,cond_false];omega
theorem zWU(x y:Int):zAv x y=some (mxI x y):=by
 unfold zAv mxI;rw[zV,zV];by_cases h:x<y
 ·rw[za h,decide_eq_false (show ¬y<x by omega)];rfl
 ·rw[decide_eq_false h];by_cases h2:y<x
  ·rw[za h2];rfl
  ·rw[decide_eq_false h2,show x=y by omega];rfl
theorem zXJ{A B C x y:Int}(h:Rb A B C)(hx:0≤x)(hx2:x≤3)(hy:0≤y)(hy2:y≤3):(Vl A B C x y).natAbs≤10000:=by obtain⟨a1,a2,b1,b2,c1,c2⟩:=h;have m1:(A*x*x).natAbs≤26*3*3:=zX (zX (by omega) (by omega)) (by omega);have m2:(B*x*y).natAbs≤26*3*3:=zX (zX (by omega) (by omega)) (by omega);have m3:(C*y*y).natAbs≤1000*3*3:=zX (zX (by omega) (by omega)) (by omega);unfold Vl;omega
theorem fp11{a A B C s x:Int}(h:Rb A B C)(ha:1≤a)(ha2:a≤100)(hx:0≤x)(hxs:x≤s)(hs:s≤3):∀(n:Nat)(y:Int),0≤y→y≤s+1→(s+1 - y).toNat<n→
  ∃r,zAm a (A,B,C) s x n y=some r∧zB9 a (A,B,C) s x n y=some r∧(r=.inl ()→∀y',y≤y'→y'≤s→¬Gd a A B C s x y')∧(∀p,r=.inr p→p.1=x∧0≤p.2∧p.2≤s∧Gd a A B C s x p.2)
 |0,y,h0,h1,hn=>by omega
 |n+1,y,h0,h1,hn=>by
  rw[zAm,zB9,jL];by_cases hy:y≤s
  ·rw[za hy,cond_true,cond_true];have hb:=zXJ (x:=x) (y:=y) h hx (by omega) h0 (by omega);have hv:w64 (A*x*x+B*x*y+C*y*y)=Vl A B C x y:=jQ (by unfold Vl at hb;omega);have e1:zA7 (A,B,C) x y=some (Vl A B C x y):=by rw[zPE,at_w,hv]
   rw[at_w,hv,e1,zWU];simp only[Option.bind_some];rw[zLz (a:=x) (b:=y) (by omega) (by omega),zM8 (a:=x) (b:=y) (by omega) (by omega),zLz (b:=a) (by omega) (by omega),zM8 (b:=a) (by omega) (by omega)];simp only[Option.bind_some];by_cases hG:Gd a A B C s x y
   ·obtain⟨g1,g2,g3⟩:=hG;rw[g1,g2,g3,zC6];simp only[cond_true,Int.natCast_one,zC6,Option.bind_some];refine⟨_,rfl,rfl,fun e=>(by cases e),fun p e=>?_⟩;cases e;exact⟨rfl,h0,hy,g1,g2,g3⟩
   ·have hc:∀{α:Type}(u v:Option α),((bif eqI (mxI x y) s then some (eqI ((Int.gcd x y:Nat):Int) 1) else some false).bind fun b16=>(bif b16 then some (eqI ((Int.gcd (Vl A B C x y) a:Nat):Int) 1) else some false).bind fun b20=>bif b20 then u else v)=v:=by
     intro α u v;by_cases g1:mxI x y=s
     ·rw[g1,zC6,cond_true,Option.bind_some];by_cases g2:Int.gcd x y=1
      ·rw[g2,show ((1:Nat):Int)=1 from rfl,zC6,cond_true,Option.bind_some];have g3:¬Int.gcd (Vl A B C x y) a=1:=fun g3=>hG ⟨g1,g2,g3⟩;rw[zAj (show ((Int.gcd (Vl A B C x y) a:Nat):Int)≠1 by omega),cond_false]
      ·rw[zAj (show ((Int.gcd x y:Nat):Int)≠1 by omega),cond_false,Option.bind_some,cond_false]
     ·rw[zAj g1,cond_false,Option.bind_some,cond_false,Option.bind_some,cond_false]
    rw[hc,hc];simp only[zP];rw[zA (n:=y+1) (by omega)];obtain⟨r,k1,k2,k3,k4⟩:=fp11 h ha ha2 hx hxs hs n (y+1) (by omega) (by omega) (by omega);refine⟨r,k1,k2,fun e y' u1 u2=>?_,k4⟩;by_cases e2:y'=y
    ·rw[e2];exact hG
    ·exact k3 e y' (by omega) u2
  ·rw[decide_eq_false hy,cond_false,cond_false];refine⟨_,rfl,rfl,fun _ y' u1 u2=>by omega,fun p e=>by cases e⟩
theorem fp7{a A B C s:Int}(h:Rb A B C)(ha:1≤a)(ha2:a≤100)(hs0:0≤s)(hs:s≤3):∀(n:Nat)(x:Int),0≤x→x≤s+1→(s+1 - x).toNat<n→
  ∃r,zBD a (A,B,C) s n x=some r∧zBt a (A,B,C) s n x=some r∧(r=.inl ()→∀x' y',x≤x'→x'≤s→0≤y'→y'≤s→¬Gd a A B C s x' y')∧(∀p,r=.inr p→0≤p.1∧p.1≤s∧0≤p.2∧p.2≤s∧Gd a A B C s p.1 p.2)
 |0,x,h0,h1,hn=>by omega
 |n+1,x,h0,h1,hn=>by
  have hF:=FUge;rw[zBD,zBt,jL];by_cases hx:x≤s
  ·rw[za hx,cond_true,cond_true];obtain⟨r,k1,k2,k3,k4⟩:=fp11 h ha ha2 h0 hx hs FU 0 (by omega) (by omega) (by omega);rw[k1,k2];simp only[Option.bind_some];cases r with
   |inr p=>obtain⟨q1,q2,q3,q4⟩:=k4 p rfl;refine⟨_,rfl,rfl,fun e=>(by cases e),fun p' e=>?_⟩;cases e;rw[q1];exact⟨h0,hx,q2,q3,q4⟩
   |inl u=>
    simp only[zP];rw[zA (n:=x+1) (by omega)];obtain⟨r,j1,j2,j3,j4⟩:=fp7 h ha ha2 hs0 hs n (x+1) (by omega) (by omega) (by omega);refine⟨r,j1,j2,fun e x' y' u1 u2 u3 u4=>?_,j4⟩;by_cases e2:x'=x
    ·rw[e2];exact k3 rfl y' u3 u4
    ·exact j3 e x' y' (by omega) u2 u3 u4
  ·rw[decide_eq_false hx,cond_false,cond_false];refine⟨_,rfl,rfl,fun _ x' y' u1 u2=>by omega,fun p e=>by cases e⟩
theorem fp4{a A B C:Int}(h:Rb A B C)(ha:1≤a)(ha2:a≤100){t x0 y0:Int}(ht:t≤3)(hG:Gd a A B C t x0 y0)(hx0:0≤x0)(hx1:x0≤t)(hy0:0≤y0)(hy1:y0≤t):∀(m n n':Nat)(s:Int),0≤s→s≤t→(t - s).toNat≤m→m<n→m<n'→
  ∃p,jT a (A,B,C) n s=some (.inr p)∧zBu a (A,B,C) n' s=some (.inr p)∧∃s',s'≤3∧0≤p.1∧p.1≤s'∧0≤p.2∧p.2≤s'∧Gd a A B C s' p.1 p.2
 |m,0,n',s,h0,h1,hm,hn,hn'=>by omega
 |m,n+1,0,s,h0,h1,hm,hn,hn'=>by omega
 |m,n+1,n'+1,s,h0,h1,hm,hn,hn'=>by
  have hF:=FUge;rw[jT,zBu,jL,za (show s≤100 by omega),cond_true];obtain⟨r,k1,k2,k3,k4⟩:=fp7 h ha ha2 h0 (by omega) FU 0 (by omega) (by omega) (by omega);rw[k1,k2];simp only[Option.bind_some];cases r with
  |inr p=>obtain⟨q1,q2,q3,q4,q5⟩:=k4 p rfl;exact⟨p,rfl,rfl,s,by omega,q1,q2,q3,q4,q5⟩
  |inl u=>
   have hne:s≠t:=by intro e;rw[e]at k3;exact k3 rfl x0 y0 hx0 hx1 hy0 hy1 hG
   obtain⟨m',rfl⟩:∃m',m=m'+1:=⟨m - 1,by omega⟩
   simp only[zP];rw[zA (n:=s+1) (by omega)];exact fp4 h ha ha2 ht hG hx0 hx1 hy0 hy1 m' n n' (s+1) (by omega) (by omega) (by omega) (by omega) (by omega)
theorem zXa{x y s:Int}(hs:s≤3)(h1:0≤x)(h2:x≤s)(h3:0≤y)(h4:y≤s)(hg:Int.gcd x y=1):(x,y)∈ptL:=by
 have e1:x=0∨x=1∨x=2∨x=3:=by omega
 have e2:y=0∨y=1∨y=2∨y=3:=by omega
 rcases e1 with rfl|rfl|rfl|rfl<;>rcases e2 with rfl|rfl|rfl|rfl<;>first|decide|(exfalso;revert hg;decide)
theorem zSK{a A B C:Int}(h:Rb A B C)(ha:1≤a)(ha2:a≤25)(hp:∀k:Int,k∣A→k∣B→k∣C→k∣1):∃p,zBL (A,B,C) a=some p∧zBa (A,B,C) a=some p∧p∈ptL∧Int.gcd (Vl A B C p.1 p.2) a=1:=by
 have hF:=FUge;obtain⟨⟨x,y⟩,hm,hg⟩:=pt_ex ha ha2 hp;have hr:0≤x∧x≤3∧0≤y∧y≤3∧Int.gcd x y=1∧1≤max x y:=by simp only[ptL,List.mem_cons,Prod.mk.injEq,zh,or_false]at hm;rcases hm with⟨rfl,rfl⟩|⟨rfl,rfl⟩|⟨rfl,rfl⟩|⟨rfl,rfl⟩|⟨rfl,rfl⟩|⟨rfl,rfl⟩|⟨rfl,rfl⟩|⟨rfl,rfl⟩|⟨rfl,rfl⟩<;>decide
 obtain⟨r1,r2,r3,r4,r5,r6⟩:=hr;have hG:Gd a A B C (max x y) x y:=⟨zXk x y,r5,hg⟩
 obtain⟨p,k1,k2,s',u1,u2,u3,u4,u5,u6⟩:=fp4 h ha (by omega) (show max x y≤3 by omega) hG r1 (by omega) r3 (by omega) 3 (FU - 1) FU 1 (by omega) (by omega) (by omega) (by omega) (by omega);have z:jT a (A,B,C) FU 0=some (.inr p):=by
  obtain⟨r,j1,j2,j3,j4⟩:=fp7 h ha (by omega) (s:=0) (by omega) (by omega) FU 0 (by omega) (by omega) (by omega);rw[show FU=(FU - 1)+1 from rfl,jT,j1,Option.bind_some];cases r with
  |inr q=>
   obtain⟨w1,w2,w3,w4,w5,w6,w7⟩:=j4 q rfl;have e1:q.1=0:=by omega
   have e2:q.2=0:=by omega
   rw[e1,e2]at w6;exact absurd w6 (by decide)
  |inl u=>simp only[zP];rw[show w64 (0+1)=1 from rfl];exact k1
 refine⟨p,?_,?_,zXa u1 u2 u3 u4 u5 u6.2.1,u6.2.2⟩
 ·simp only[zBL,z,Option.bind_some]
 ·simp only[zBa,k2,Option.bind_some]
end Go.Proofs.YtdedjieegpkabaaGreat
namespace Go.Proofs.YtdedjieegpkabaaGreat
theorem zYc{b x d y k:Int}(hk:0≤k)(hy:1≤y)(M:Int)(h:(x.natAbs:Int)*d+(b.natAbs:Int)*y≤M):((b - k*x).natAbs:Int)*y+(x.natAbs:Int)*(d - k*y)≤M∧((x.natAbs:Int)*(d - k*y)≥0→((b - k*x).natAbs:Int)≤M):=by
 have h1:((b - k*x).natAbs:Int)≤(b.natAbs:Int)+k*(x.natAbs:Int):=by
  have h2:(b - k*x).natAbs≤b.natAbs+(k*x).natAbs:=Int.natAbs_sub_le b (k*x);have h3:(((k*x).natAbs:Nat):Int)=k*(x.natAbs:Int):=by rw[Int.natAbs_mul,Int.natCast_mul,Int.natAbs_of_nonneg hk]
  omega
 have h4:((b - k*x).natAbs:Int)*y≤((b.natAbs:Int)+k*(x.natAbs:Int))*y:=Int.mul_le_mul_of_nonneg_right h1 (by omega);have e:((b.natAbs:Int)+k*(x.natAbs:Int))*y+(x.natAbs:Int)*(d - k*y)=(x.natAbs:Int)*d+(b.natAbs:Int)*y:=by grind
 have h5:((b - k*x).natAbs:Int)*1≤((b - k*x).natAbs:Int)*y:=zg hy (by omega);constructor
 ·omega
 ·intro h6;omega
theorem zX3{d y:Int}(hd:0≤d)(hy:1≤y):0≤Int.tdiv d y∧Int.tdiv d y≤d∧0≤d - Int.tdiv d y*y∧d - Int.tdiv d y*y<y:=by
 have h1:=Int.tmod_add_mul_tdiv d y;have h2:0≤d.tmod y∧d.tmod y<y:=⟨Int.tmod_nonneg _ hd,Int.tmod_lt_of_pos _ (by omega)⟩
 have h3:=Int.tdiv_nonneg hd (show 0≤y by omega);have e:Int.tdiv d y*y=y*Int.tdiv d y:=Int.mul_comm _ _;have h4:Int.tdiv d y*1≤Int.tdiv d y*y:=zg hy h3;refine⟨h3,by omega,by omega,by omega⟩
theorem bigk{k x:Int}{K M:Nat}(h1:k.natAbs≤K)(h2:x.natAbs≤M)(hKM:K*M≤9000000000000):w64 (k*x)=k*x∧(k*x).natAbs≤K*M:=by have:=zX h1 h2;exact⟨jQ (by omega),this⟩
theorem tz{z g:Int}(hg:g≠0):eqI (Int.tmod z g) 0=decide (g∣z):=by rw[zBF,Bool.eq_iff_iff,beq_iff_eq,zp];exact⟨Int.dvd_of_tmod_eq_zero,Int.tmod_eq_zero_of_dvd⟩
theorem tdv{a b c:Int}(hb:b≠0)(h:b*c=a):Int.tdiv a b=c:=by rw[←h,Int.mul_tdiv_cancel_left _ hb]
theorem zTJ{n m:Int}:∀(k fu:Nat)(r nx x y:Int),0≤nx→nx≤k→k<fu→1≤r→r≤100000→nx≤100000→(y.natAbs:Int)*r+(x.natAbs:Int)*nx≤100000→x.natAbs≤100000→y.natAbs≤100000→n∣r - x*m→n∣nx - y*m→(∀c:Int,c∣r→c∣nx→c∣1)→
  ∃z,zBU n fu r nx x y=some (1,z)∧n∣1 - z*m∧z.natAbs≤100000
 |k,0,r,nx,x,y,_,_,hf,_,_,_,_,_,_,_,_,_=>by omega
 |k,fu+1,r,nx,x,y,h0,hk,hf,hr,hr2,hn2,hS,hx,hy,d1,d2,hc=>by
  rw[zBU];by_cases hz:nx=0
  ·subst hz;have h1:r=1:=Int.eq_one_of_dvd_one (by omega) (hc r ⟨1,by omega⟩ ⟨0,by omega⟩);subst h1;rw[zDm,Bool.not_true,cond_false];exact⟨x,rfl,d1,hx⟩
  ·have hn1:1≤nx:=by omega
   obtain⟨k',rfl⟩:∃k',k=k'+1:=⟨k - 1,by omega⟩
   obtain⟨q0,q1,q2,q3⟩:=zX3 (d:=r) (y:=nx) (by omega) hn1;obtain⟨s1,s2⟩:=zYc (b:=x) (x:=y) (d:=r) (y:=nx) (k:=Int.tdiv r nx) q0 hn1 100000 hS;have s4:=s2 (Int.mul_nonneg (by omega) q2);generalize hq:Int.tdiv r nx=q at*;obtain⟨w1,w2⟩:=bigk (k:=q) (x:=nx) (K:=100000) (M:=100000) (by omega) (by omega) (by decide);obtain⟨w3,w4⟩:=bigk (k:=q) (x:=y) (K:=100000) (M:=100000) (by omega) hy (by decide);have hne:(!eqI nx 0)=true:=by rw[eqNe hz];rfl
   rw[hne,cond_true];simp only[nzOk hz,Option.bind_some,zP,hq];rw[zA (n:=q) (by omega),w1,w3,zA (n:=r - q*nx) (by omega),zA (n:=x - q*y) (by omega)];refine zTJ k' fu nx (r - q*nx) y (x - q*y) q2 (by omega) (by omega) hn1 hn2 (by omega) (by omega) hy (by omega) d2 ?_ fun c c1 c2=>hc c ?_ c1
   ·obtain⟨u,hu⟩:=d1;obtain⟨v,hv⟩:=d2;exact⟨u - q*v,by grind⟩
   ·obtain⟨u,hu⟩:=c1;obtain⟨v,hv⟩:=c2;exact⟨v+q*u,by grind⟩
theorem zWX{n m:Int}(hn:1≤n)(hn2:n≤100000)(hm:m.natAbs≤100000)(hc:∀c:Int,c∣n→c∣m→c∣1):∃v,zBX m n=some v∧n∣1 - v*m∧0≤v∧v<n:=by
 have hF:=FUge;have m1:=zn m (b:=n) (by omega);have m2:=zo m (b:=n) (by omega);have em:=Int.emod_add_mul_ediv m n;obtain⟨z,e1,e2,e3⟩:=zTJ (n:=n) (m:=m) 100000 FU n (m % n) 0 1 m1 (by omega) (by omega) hn hn2 (by omega) (by simp;omega) (by decide) (by decide) ⟨1,by omega⟩ ⟨-(m / n),by grind⟩ fun c c1 c2=>hc c c1 (by obtain⟨u,hu⟩:=c1;obtain⟨v,hv⟩:=c2;exact⟨v+u*(m / n),by grind⟩)
 have z1:=zn z (b:=n) (by omega);have z2:=zo z (b:=n) (by omega);have ez:=Int.emod_add_mul_ediv z n;refine⟨z % n,?_,?_,z1,z2⟩
 ·simp only[zBX,zFP,zAk hn (show n≤9223372036854775807 by omega),Option.bind_some,e1,zDm,Bool.not_true,cond_false]
 ·obtain⟨u,hu⟩:=e2;exact⟨u+(z / n)*m,by grind⟩
end Go.Proofs.YtdedjieegpkabaaGreat
namespace Go.Proofs.YtdedjieegpkabaaGreat
theorem inv9{x y:Int}(h:(x,y)∈ptL):∃q s:Int,(bif eqI y 0 then some (0,x) else (zCo y).bind fun y6=>(zCm x y6).bind fun y7=>(nz y).bind fun z8=>sI (w64 (Int.tdiv (w64 ((w64 (x*y7)) - 1)) y)) fun f9=>some (f9,y7))=some (q,s)∧zC1 x y=some (1,s,-q)∧x*s - q*y=1∧q.natAbs≤3∧s.natAbs≤3∧0≤x∧x≤3∧0≤y∧y≤3:=by
 simp only[ptL,List.mem_cons,Prod.mk.injEq,zh,or_false]at h;rcases h with⟨rfl,rfl⟩|⟨rfl,rfl⟩|⟨rfl,rfl⟩|⟨rfl,rfl⟩|⟨rfl,rfl⟩|⟨rfl,rfl⟩|⟨rfl,rfl⟩|⟨rfl,rfl⟩|⟨rfl,rfl⟩
 ·exact⟨-1,0,by decide+kernel,by decide+kernel,by decide⟩
 ·exact⟨0,1,by decide+kernel,by decide+kernel,by decide⟩
 ·exact⟨-1,0,by decide+kernel,by decide+kernel,by decide⟩
 ·exact⟨0,1,by decide+kernel,by decide+kernel,by decide⟩
 ·exact⟨-1,0,by decide+kernel,by decide+kernel,by decide⟩
 ·exact⟨0,1,by decide+kernel,by decide+kernel,by decide⟩
 ·exact⟨1,2,by decide+kernel,by decide+kernel,by decide⟩
 ·exact⟨-1,0,by decide+kernel,by decide+kernel,by decide⟩
 ·exact⟨1,1,by decide+kernel,by decide+kernel,by decide⟩
structure Cmp (A B C D x y v q0 s0 B0 Q Bh C1:Int):Prop where
  hv:A*x*x+B*x*y+C*y*y=v
  v1:1≤v
  v2:v≤10000
  hB0:2*A*x*q0+B*(x*s0+y*q0)+2*C*y*s0=B0
  b0:B0.natAbs≤20000
  hQ:B0 / (2*v)=Q
  q:Q.natAbs≤20001
  m6:(-Q*x).natAbs≤60003
  m7:(-Q*y).natAbs≤60003
  hBh:B0 % (2*v)=Bh
  e1:B0+2*v*-Q=Bh
  t1:0≤Bh
  t2:Bh<2*v
  e2:2*A*x*(q0+-Q*x)+B*(x*(s0+-Q*y)+y*(q0+-Q*x))+2*C*y*(s0+-Q*y)=Bh
  hC1:A*(q0+-Q*x)*(q0+-Q*x)+B*(q0+-Q*x)*(s0+-Q*y)+C*(s0+-Q*y)*(s0+-Q*y)=C1
  em:MatInv A B C x (q0+-Q*x) y (s0+-Q*y) v Bh C1
  dis:Bh*Bh - 4*v*C1=D
  bb:Bh*Bh≤400000000
  c1:C1.natAbs≤20000
theorem zYh(A B C x y q0 s0 Q:Int):2*A*x*(q0+-Q*x)+B*(x*(s0+-Q*y)+y*(q0+-Q*x))+2*C*y*(s0+-Q*y)=(2*A*x*q0+B*(x*s0+y*q0)+2*C*y*s0)+2*(A*x*x+B*x*y+C*y*y)*-Q:=by grind
theorem zYi(x s0 Q y q0:Int):x*(s0+-Q*y) - (q0+-Q*x)*y=x*s0 - q0*y:=by grind
theorem zYg(v:Int):4*v*(v+2001)=2*v*(2*v)+8004*v:=by grind
theorem zME{A B C p q r s a b c:Int}(h:MatInv A B C p q r s a b c):b*b - 4*a*c=B*B - 4*A*C:=by
 obtain⟨f1,f2,f3,f4⟩:=h;have:b*b - 4*a*c=(B*B - 4*A*C)*((p*s - q*r)*(p*s - q*r)):=by rw[←f1,←f2,←f3];grind
 rw[this,f4];omega
theorem cmp_b{A B C x y q0 s0:Int}(h:Rb A B C)(i4:q0.natAbs≤3)(i5:s0.natAbs≤3)(i6:0≤x)(i7:x≤3)(i8:0≤y)(i9:y≤3):(2*A*x*q0+B*(x*s0+y*q0)+2*C*y*s0).natAbs≤20000:=by obtain⟨a1,a2,b1,b2,c1,c2⟩:=h;have m1:(2*A*x*q0).natAbs≤2*26*3*3:=zX (zX (zX (by omega) (by omega)) (by omega)) (by omega);have m2:(x*s0).natAbs≤3*3:=zX (by omega) (by omega);have m3:(y*q0).natAbs≤3*3:=zX (by omega) (by omega);have m4:(B*(x*s0+y*q0)).natAbs≤26*18:=zX (by omega) (by omega);have m5:(2*C*y*s0).natAbs≤2*1000*3*3:=zX (zX (zX (by omega) (by omega)) (by omega)) (by omega);omega
theorem cmp_q{v B0:Int}(v1:1≤v)(hB:B0.natAbs≤20000):(B0 / (2*v)).natAbs≤20001∧B0+2*v*-(B0 / (2*v))=B0 % (2*v)∧0≤B0 % (2*v)∧B0 % (2*v)<2*v:=by
 have t1:=zn B0 (b:=2*v) (by omega);have t2:=zo B0 (b:=2*v) (by omega);have t3:=Int.emod_add_mul_ediv B0 (2*v);generalize hQ:B0 / (2*v)=Q at*;refine⟨?_,by rw[Int.mul_neg];omega,t1,t2⟩;rcases Int.lt_or_le 20001 Q with h|h
 ·have:2*v*20002≤2*v*Q:=zg (by omega) (by omega);omega
 ·rcases Int.lt_or_le Q (-20001) with h'|h'
  ·have:2*v*Q≤2*v*(-20002):=zg (by omega) (by omega);omega
  ·omega
theorem cmp_c{v Bh C1 D:Int}(v1:1≤v)(v2:v≤10000)(hD1:-2000≤D)(hD2:D≤0)(t1:0≤Bh)(t2:Bh<2*v)(hdis:Bh*Bh - 4*v*C1=D):Bh*Bh≤400000000∧C1.natAbs≤20000:=by
 have hBB:Bh*Bh≤2*v*(2*v):=Int.mul_le_mul (by omega) (by omega) t1 (by omega);have hBB0:0≤Bh*Bh:=Int.mul_nonneg t1 t1;have hBB4:2*v*(2*v)≤20000*20000:=Int.mul_le_mul (by omega) (by omega) (by omega) (by omega);have hCu:C1≤v+2000:=by
  rcases Int.lt_or_le (v+2000) C1 with h|h
  ·have k1:4*v*(v+2001)≤4*v*C1:=zg (by omega) (by omega);have k2:=zYg v;omega
  ·exact h
 have hCl:-2000≤C1:=by
  rcases Int.lt_or_le C1 (-2000) with h|h
  ·have k1:4*v*C1≤4*v*(-2001):=zg (by omega) (by omega);omega
  ·exact h
 omega
theorem zWd{A B C x y v q0 s0 Q Bh:Int}(hv:A*x*x+B*x*y+C*y*y=v)(i3:x*s0 - q0*y=1)(e2:2*A*x*(q0+-Q*x)+B*(x*(s0+-Q*y)+y*(q0+-Q*x))+2*C*y*(s0+-Q*y)=Bh):MatInv A B C x (q0+-Q*x) y (s0+-Q*y) v Bh (A*(q0+-Q*x)*(q0+-Q*x)+B*(q0+-Q*x)*(s0+-Q*y)+C*(s0+-Q*y)*(s0+-Q*y)):=by
 refine⟨hv,?_,rfl,?_⟩
 ·rw[←e2,Int.mul_comm (q0+-Q*x) y]
 ·rw[zYi x s0 Q y q0,i3]
theorem zYf{A B C D x y v q0 s0:Int}(h:Rb A B C)(hD:B*B - 4*A*C=D)(hD1:-2000≤D)(hD2:D≤0)(hv:Vl A B C x y=v)(hv1:1≤v)(i3:x*s0 - q0*y=1)(i4:q0.natAbs≤3)(i5:s0.natAbs≤3)(i6:0≤x)(i7:x≤3)(i8:0≤y)(i9:y≤3):∃B0 Q Bh C1,Cmp A B C D x y v q0 s0 B0 Q Bh C1:=by have hvb:=zXJ h i6 i7 i8 i9;rw[hv]at hvb;unfold Vl at hv;have hB0b:=cmp_b h i4 i5 i6 i7 i8 i9;have ee:=zYh A B C x y q0 s0;rw[hv]at ee;obtain⟨hQb,e1,t1,t2⟩:=cmp_q (v:=v) hv1 hB0b;have e2:=(ee ((2*A*x*q0+B*(x*s0+y*q0)+2*C*y*s0) / (2*v))).trans e1;have em:=zWd hv i3 e2;have hdis:=(zME em).trans hD;obtain⟨hBB,hC⟩:=cmp_c hv1 (by omega) hD1 hD2 t1 t2 hdis;exact⟨_,_,_,_,hv,hv1,by omega,rfl,hB0b,rfl,hQb,zX (A:=20001) (B:=3) (by omega) (by omega),zX (A:=20001) (B:=3) (by omega) (by omega),rfl,e1,t1,t2,e2,rfl,em,hdis,hBB,hC⟩
theorem zVZ{A B C D x y v q0 s0 B0 Q Bh C1:Int}(h:Cmp A B C D x y v q0 s0 B0 Q Bh C1)(i4:q0.natAbs≤3)(i5:s0.natAbs≤3)(i1:(bif eqI y 0 then some (0,x) else (zCo y).bind fun y6=>(zCm x y6).bind fun y7=>(nz y).bind fun z8=>sI (w64 (Int.tdiv (w64 ((w64 (x*y7)) - 1)) y)) fun f9=>some (f9,y7))=some (q0,s0)):zA0 (A,B,C) x y=some ((v,Bh,C1),(x,q0+-Q*x,y,s0+-Q*y)):=by obtain⟨hv,v1,v2,hB0,b0,hQ,q,m6,m7,hBh,e1,t1,t2,e2,hC1,em,dis,bb,c1⟩:=h;unfold zA0;rw[i1];simp only[Option.bind_some,sub_w];rw[hv,hB0,zA (n:=B0) (by omega),zA (n:=v) (by omega),zA (n:=2*v) (by omega),zEP (by omega) (by omega) (by omega) (by omega),hQ];simp only[Option.bind_some,zP];rw[zA (n:=0 - Q) (by omega),show (0 - Q)=-Q by omega,zA (n:=-Q*x) (by omega),zA (n:=-Q*y) (by omega),zA (n:=q0+-Q*x) (by omega),zA (n:=s0+-Q*y) (by omega)];rw[e2,hC1,zA (n:=C1) (by omega),zA (n:=Bh) (by omega)]
theorem zVY{A B C D x y v q0 s0 B0 Q Bh C1:Int}(h:Cmp A B C D x y v q0 s0 B0 Q Bh C1)(hD:B*B - 4*A*C=D)(hD1:-2000≤D)(hD2:D≤0)(i4:q0.natAbs≤3)(i5:s0.natAbs≤3)(i2:zC1 x y=some (1,s0,-q0)):zAC (A,B,C) x y=some ((v,Bh,C1),(x,q0+-Q*x,y,s0+-Q*y)):=by obtain⟨hv,v1,v2,hB0,b0,hQ,q,m6,m7,hBh,e1,t1,t2,e2,hC1,em,dis,bb,c1⟩:=h;unfold zAC;rw[i2];simp only[Option.bind_some];rw[zPE,at_w,hv,zA (n:=v) (by omega)];simp only[Option.bind_some,zP];rw[show w64 (0 - -q0)=q0 by rw[zA (by omega)];omega,zTp,zSx,hB0,zA (n:=B0) (by omega)];simp only[Option.bind_some];rw[zFP,zA (n:=2*v) (by omega),zAk (by omega) (by omega),hBh];simp only[Option.bind_some];rw[zC5 (show 2*v≠0 by omega),zA (n:=Bh - B0) (by omega),tdv (c:=-Q) (by omega) (by omega)];simp only[Option.bind_some];have x1:x*-Q=-Q*x:=Int.mul_comm _ _;have y1:y*-Q=-Q*y:=Int.mul_comm _ _;rw[zA (n:=-Q) (by omega),x1,y1,zA (n:=-Q*x) (by omega),zA (n:=-Q*y) (by omega),zA (n:=q0+-Q*x) (by omega),zA (n:=s0+-Q*y) (by omega),zA (n:=2*v*-Q) (by omega),e1,zA (n:=Bh) (by omega),zTY,zS2,hD,zA (n:=D) (by omega)];simp only[Option.bind_some];rw[zA (n:=4*v) (by omega),zC5 (show 4*v≠0 by omega)];have hBB0:0≤Bh*Bh:=Int.mul_nonneg t1 t1;simp only[Option.bind_some];rw[zA (n:=Bh*Bh) (by omega),zA (n:=Bh*Bh - D) (by omega),tdv (b:=4*v) (c:=C1) (by omega) (by omega),zA (n:=C1) (by omega)]
theorem zO1{A B C D x y v:Int}(h:Rb A B C)(hD:B*B - 4*A*C=D)(hD1:-2000≤D)(hD2:D≤0)(hm:(x,y)∈ptL)(hv:Vl A B C x y=v)(hv1:1≤v):
  ∃q s Bh Ch,zA0 (A,B,C) x y=some ((v,Bh,Ch),(x,q,y,s))∧zAC (A,B,C) x y=some ((v,Bh,Ch),(x,q,y,s))∧MatInv A B C x q y s v Bh Ch∧0≤Bh∧Bh<2*v∧v≤10000∧q.natAbs≤100000∧s.natAbs≤100000∧0≤x∧x≤3∧0≤y∧y≤3:=by
 obtain⟨q0,s0,i1,i2,i3,i4,i5,i6,i7,i8,i9⟩:=inv9 hm;obtain⟨B0,Q,Bh,C1,k⟩:=zYf h hD hD1 hD2 hv hv1 i3 i4 i5 i6 i7 i8 i9;have k1:=zVZ k i4 i5 i1;have k2:=zVY k hD hD1 hD2 i4 i5 i2;obtain⟨hv,v1,v2,hB0,b0,hQ,q,m6,m7,hBh,e1,t1,t2,e2,hC1,em,dis,bb,c1⟩:=k;exact⟨_,_,Bh,C1,k1,k2,em,t1,t2,v2,by omega,by omega,i6,i7,i8,i9⟩
abbrev El:=Int×Int
def eM(D:Int)(x y:El):El:=(x.1*y.1+D*x.2*y.2,x.1*y.2+x.2*y.1)
def eA(x y:El):El:=(x.1+y.1,x.2+y.2)
def eS(x y:El):El:=(x.1 - y.1,x.2 - y.2)
def eK(k:Int)(x:El):El:=(k*x.1,k*x.2)
def eN(D:Int)(x:El):Int:=x.1*x.1 - D*x.2*x.2
def eT(D:Int)(x y:El):Int:=x.1*y.1 - D*x.2*y.2
def eW(x y:El):Int:=x.1*y.2 - x.2*y.1
def Sp(L:List El)(x:El):Prop:=∀P:El→Prop,P (0,0)→(∀a b,P a→P b→P (eS a b))→(∀l,l∈L→P l)→P x
theorem zGI(L:List El):Sp L (0,0):=fun P h _ _=>h
theorem zGy{L:List El}{x y:El}(h1:Sp L x)(h2:Sp L y):Sp L (eS x y):=fun P a b c=>b _ _ (h1 P a b c) (h2 P a b c)
theorem zBZ{L:List El}{x:El}(h:x∈L):Sp L x:=fun P a b c=>c _ h
theorem qD{x y:El}(h1:x.1=y.1)(h2:x.2=y.2):x=y:=Prod.ext h1 h2
theorem zUR{L:List El}{x:El}(h:Sp L x):Sp L (eK (-1) x):=by
 have:=zGy (zGI L) h;have e:eS (0,0) x=eK (-1) x:=qD (by simp[eS,eK]) (by simp[eS,eK])
 rwa [e]at this
theorem zIK{L:List El}{x y:El}(h1:Sp L x)(h2:Sp L y):Sp L (eA x y):=by
 have:=zGy h1 (zUR h2);have e:eS x (eK (-1) y)=eA x y:=qD (by simp[eS,eK,eA]) (by simp[eS,eK,eA])
 rwa [e]at this
theorem zUS{L:List El}{x:El}(h:Sp L x)(n:Nat):Sp L (eK n x):=by
 induction n with
 |zero=>(have e:eK ((0:Nat):Int) x=(0,0):=qD (by simp[eK]) (by simp[eK]));rw[e];exact zGI L
 |succ n ih=>have e:eK ((n+1:Nat):Int) x=eA (eK n x) x:=qD (by simp[eK,eA,Int.add_mul]) (by simp[eK,eA,Int.add_mul]);rw[e];exact zIK ih h
theorem zFW{L:List El}{x:El}(h:Sp L x)(k:Int):Sp L (eK k x):=by
 rcases Int.le_total 0 k with hk|hk
 ·have e:k=(k.toNat:Int):=by omega
  rw[e];exact zUS h _
 ·have e:eK k x=eK (-1) (eK ((-k).toNat:Nat) x):=by
   have e1:(((-k).toNat:Nat):Int)=-k:=by omega
   rw[e1];exact qD (by simp only[eK];grind) (by simp only[eK];grind)
  rw[e];exact zUR (zUS h _)
theorem zXM{L M:List El}(h:∀l,l∈L→Sp M l){x:El}(hx:Sp L x):Sp M x:=hx (Sp M) (zGI M) (fun _ _=>zGy) h
theorem zUQ{u v x:El}(h:Sp [u,v] x):∃p q:Int,x=eA (eK p u) (eK q v):=by
 refine h (fun x=>∃p q:Int,x=eA (eK p u) (eK q v)) ⟨0,0,qD (by simp[eA,eK]) (by simp[eA,eK])⟩ ?_ ?_
 ·rintro a b ⟨p,q,e1⟩ ⟨p',q',e2⟩;refine⟨p - p',q - q',?_⟩;subst e1 e2;exact qD (by simp only[eS,eA,eK];grind) (by simp only[eS,eA,eK];grind)
 ·intro l hl;simp only[List.mem_cons,zh,or_false]at hl;rcases hl with e|e
  ·exact⟨1,0,by subst e;exact qD (by simp[eA,eK]) (by simp[eA,eK])⟩
  ·exact⟨0,1,by subst e;exact qD (by simp[eA,eK]) (by simp[eA,eK])⟩
theorem zP7{u v:El}(p q:Int):Sp [u,v] (eA (eK p u) (eK q v)):=zIK (zFW (zBZ (by simp)) p) (zFW (zBZ (by simp)) q)
def eL(D:Int)(a:El)(L:List El):List El:=L.map (eM D a)
def eP(D:Int)(L M:List El):List El:=L.flatMap fun l=>M.map (eM D l)
theorem zQN(D:Int)(x y:El):eM D x y=eM D y x:=qD (by simp only[eM];grind) (by simp only[eM];grind)
theorem zFt(D:Int)(x y z:El):eM D (eM D x y) z=eM D x (eM D y z):=qD (by simp only[eM];grind) (by simp only[eM];grind)
theorem zSZ(D:Int)(x y z:El):eM D x (eS y z)=eS (eM D x y) (eM D x z):=qD (by simp only[eM,eS];grind) (by simp only[eM,eS];grind)
theorem zW8(D:Int)(x y z:El):eM D (eS x y) z=eS (eM D x z) (eM D y z):=qD (by simp only[eM,eS];grind) (by simp only[eM,eS];grind)
theorem zQM(D:Int)(x:El):eM D x (0,0)=(0,0):=qD (by simp[eM]) (by simp[eM])
theorem zVQ(D:Int)(x:El):eM D (0,0) x=(0,0):=qD (by simp[eM]) (by simp[eM])
theorem zNV(D:Int)(x y:El):eN D (eM D x y)=eN D x*eN D y:=by simp only[eN,eM];grind
theorem zQL{D:Int}(hD:D<0){x:El}(hx:x≠(0,0)):0<eN D x:=by
 simp only[eN];have h1:0≤x.1*x.1:=by rcases Int.le_total 0 x.1 with h|h;exact Int.mul_nonneg h h;exact Int.mul_nonneg_of_nonpos_of_nonpos h h
 have h2:0≤x.2*x.2:=by rcases Int.le_total 0 x.2 with h|h;exact Int.mul_nonneg h h;exact Int.mul_nonneg_of_nonpos_of_nonpos h h
 have h3:0≤(-D)*(x.2*x.2):=Int.mul_nonneg (by omega) h2;have e:D*x.2*x.2=-((-D)*(x.2*x.2)):=by grind
 rw[e];rcases Decidable.em (x.1=0) with h|h
 ·have h4:x.2≠0:=fun h5=>hx (qD h h5);have h5:x.2*x.2≠0:=fun h6=>by rcases Int.mul_eq_zero.1 h6 with h7|h7<;>exact h4 h7
  have h6:0<(-D)*(x.2*x.2):=Int.mul_pos (by omega) (by omega);omega
 ·have h5:x.1*x.1≠0:=fun h6=>by rcases Int.mul_eq_zero.1 h6 with h7|h7<;>exact h h7
  omega
theorem zTU{D:Int}(hD:D<0){x y:El}(hx:x≠(0,0))(hy:y≠(0,0)):eM D x y≠(0,0):=by intro h;have h1:=Int.mul_pos (zQL hD hx) (zQL hD hy);rw[←zNV,h]at h1;simp[eN]at h1
theorem zER{D:Int}{a:El}{L:List El}{x:El}:Sp (eL D a L) x↔∃y,Sp L y∧x=eM D a y:=by
 constructor
 ·intro h;refine h (fun x=>∃y,Sp L y∧x=eM D a y) ⟨(0,0),zGI L,(zQM D a).symm⟩ ?_ ?_
  ·rintro x y ⟨x',h1,e1⟩ ⟨y',h2,e2⟩;exact⟨eS x' y',zGy h1 h2,by rw[e1,e2,zSZ]⟩
  ·intro l hl;obtain⟨m,hm,e⟩:=List.mem_map.1 hl;exact⟨m,zBZ hm,e.symm⟩
 ·rintro⟨y,hy,e⟩;subst e;refine hy (fun y=>Sp (eL D a L) (eM D a y)) (by rw[zQM];exact zGI _) ?_ ?_
  ·intro x y h1 h2;rw[zSZ];exact zGy h1 h2
  ·exact fun l hl=>zBZ (List.mem_map.2 ⟨l,hl,rfl⟩)
theorem zD0{D:Int}{L M:List El}{x:El}:x∈eP D L M↔∃l,l∈L∧∃m,m∈M∧x=eM D l m:=by
 simp only[eP,List.mem_flatMap,List.mem_map];constructor
 ·rintro⟨l,hl,m,hm,e⟩;exact⟨l,hl,m,hm,e.symm⟩
 ·rintro⟨l,hl,m,hm,e⟩;exact⟨l,hl,m,hm,e.symm⟩
theorem zQt{D:Int}{L M:List El}{x y:El}(hx:Sp L x)(hy:Sp M y):Sp (eP D L M) (eM D x y):=by
 refine hx (fun x=>Sp (eP D L M) (eM D x y)) (by rw[zVQ];exact zGI _) ?_ ?_
 ·intro a b h1 h2;rw[zW8];exact zGy h1 h2
 ·intro l hl;refine hy (fun y=>Sp (eP D L M) (eM D l y)) (by rw[zQM];exact zGI _) ?_ ?_
  ·intro a b h1 h2;rw[zSZ];exact zGy h1 h2
  ·exact fun m hm=>zBZ (zD0.2 ⟨l,hl,m,hm,rfl⟩)
def Cl(D:Int)(L M:List El):Prop:=∃a b:El,a≠(0,0)∧b≠(0,0)∧∀x,Sp (eL D a L) x↔Sp (eL D b M) x
theorem zWe(D:Int)(L:List El):Cl D L L:=⟨(1,0),(1,0),by simp,by simp,fun _=>Iff.rfl⟩
theorem zQP{D:Int}{L M:List El}(h:Cl D L M):Cl D M L:=by obtain⟨a,b,h1,h2,h3⟩:=h;exact⟨b,a,h2,h1,fun x=>(h3 x).symm⟩
theorem zTV{D:Int}{c a b:El}{L M:List El}(h:∀x,Sp (eL D a L) x↔Sp (eL D b M) x)(x:El):Sp (eL D (eM D c a) L) x↔Sp (eL D (eM D c b) M) x:=by
 simp only[zER]at h ⊢;constructor
 ·rintro⟨y,hy,e⟩;obtain⟨z,hz,e2⟩:=(h (eM D a y)).1 ⟨y,hy,rfl⟩;exact⟨z,hz,by rw[e,zFt,e2,zFt]⟩
 ·rintro⟨y,hy,e⟩;obtain⟨z,hz,e2⟩:=(h (eM D b y)).2 ⟨y,hy,rfl⟩;exact⟨z,hz,by rw[e,zFt,e2,zFt]⟩
theorem zHN{D:Int}(hD:D<0){L M N:List El}(h1:Cl D L M)(h2:Cl D M N):Cl D L N:=by obtain⟨a,b,ha,hb,h⟩:=h1;obtain⟨c,d,hc,hd,k⟩:=h2;refine⟨eM D c a,eM D b d,zTU hD hc ha,zTU hD hb hd,fun x=>?_⟩;rw[zTV h x,zQN D c b,zTV k x]
theorem zR1{D:Int}{L M:List El}(h:∀x,Sp L x↔Sp M x):Cl D L M:=by
 refine⟨(1,0),(1,0),by simp,by simp,fun x=>?_⟩;rw[zER,zER];constructor
 ·rintro⟨y,hy,e⟩;exact⟨y,(h y).1 hy,e⟩
 ·rintro⟨y,hy,e⟩;exact⟨y,(h y).2 hy,e⟩
theorem zSA{L M:List El}(h1:∀l,l∈L→Sp M l)(h2:∀l,l∈M→Sp L l)(x:El):Sp L x↔Sp M x:=⟨zXM h1,zXM h2⟩
theorem zR2{D:Int}{a b:El}{L M:List El}(ha:a≠(0,0))(hb:b≠(0,0))(h1:∀l,l∈L→Sp (eL D b M) (eM D a l))(h2:∀m,m∈M→Sp (eL D a L) (eM D b m)):Cl D L M:=by
 refine⟨a,b,ha,hb,zSA ?_ ?_⟩
 ·intro l hl;obtain⟨m,hm,e⟩:=List.mem_map.1 hl;rw[←e];exact h1 m hm
 ·intro l hl;obtain⟨m,hm,e⟩:=List.mem_map.1 hl;rw[←e];exact h2 m hm
theorem zJO{D:Int}{a b c d:El}{L L' M M':List El}(h:∀x,Sp (eL D a L) x↔Sp (eL D b L') x)(k:∀x,Sp (eL D c M) x↔Sp (eL D d M') x):∀l,l∈eP D L M→Sp (eL D (eM D b d) (eP D L' M')) (eM D (eM D a c) l):=by
 intro l hl;obtain⟨l1,h1,m1,h2,e⟩:=zD0.1 hl;obtain⟨y,hy,e1⟩:=zER.1 ((h (eM D a l1)).1 (zER.2 ⟨l1,zBZ h1,rfl⟩));obtain⟨z,hz,e2⟩:=zER.1 ((k (eM D c m1)).1 (zER.2 ⟨m1,zBZ h2,rfl⟩));refine zER.2 ⟨eM D y z,zQt hy hz,?_⟩;have e3:eM D (eM D a c) l=eM D (eM D a l1) (eM D c m1):=by rw[e];exact qD (by simp only[eM];grind) (by simp only[eM];grind)
 rw[e3,e1,e2];exact qD (by simp only[eM];grind) (by simp only[eM];grind)
theorem zT0{D:Int}(hD:D<0){L L' M M':List El}(h1:Cl D L L')(h2:Cl D M M'):Cl D (eP D L M) (eP D L' M'):=by obtain⟨a,b,ha,hb,h⟩:=h1;obtain⟨c,d,hc,hd,k⟩:=h2;exact zR2 (zTU hD ha hc) (zTU hD hb hd) (zJO h k) (zJO (fun x=>(h x).symm) (fun x=>(k x).symm))
theorem zWf(D:Int)(L M:List El):Cl D (eP D L M) (eP D M L):=by
 refine zR1 (zSA ?_ ?_)
 ·intro l hl;obtain⟨x,hx,y,hy,e⟩:=zD0.1 hl;rw[e,zQN];exact zBZ (zD0.2 ⟨y,hy,x,hx,rfl⟩)
 ·intro l hl;obtain⟨x,hx,y,hy,e⟩:=zD0.1 hl;rw[e,zQN];exact zBZ (zD0.2 ⟨y,hy,x,hx,rfl⟩)
theorem zV2(D:Int)(L M N:List El):Cl D (eP D (eP D L M) N) (eP D L (eP D M N)):=by
 refine zR1 (zSA ?_ ?_)
 ·intro l hl;obtain⟨x,hx,y,hy,e⟩:=zD0.1 hl;obtain⟨z,hz,w,hw,e2⟩:=zD0.1 hx;rw[e,e2,zFt];exact zBZ (zD0.2 ⟨z,hz,_,zD0.2 ⟨w,hw,y,hy,rfl⟩,rfl⟩)
 ·intro l hl;obtain⟨x,hx,y,hy,e⟩:=zD0.1 hl;obtain⟨z,hz,w,hw,e2⟩:=zD0.1 hy;rw[e,e2,←zFt];exact zBZ (zD0.2 ⟨_,zD0.2 ⟨x,hx,z,hz,rfl⟩,w,hw,rfl⟩)
def fL(f:Int×Int×Int):List El:=[(2*f.1,0),(f.2.1,1)]
def fD(f:Int×Int×Int):Int:=f.2.1*f.2.1 - 4*f.1*f.2.2
def Eqf(f g:Int×Int×Int):Prop:=∃p q r s:Int,p*s - q*r=1∧f.1=g.1*p*p+g.2.1*p*r+g.2.2*r*r∧f.2.1=2*g.1*p*q+g.2.1*(p*s+q*r)+2*g.2.2*r*s∧f.2.2=g.1*q*q+g.2.1*q*s+g.2.2*s*s
theorem zVM{f g:Int×Int×Int}(h:Eqf f g):fD f=fD g:=by
 obtain⟨p,q,r,s,hdet,e1,e2,e3⟩:=h;simp only[fD];have:p*s=1+q*r:=by omega
 rw[e1,e2,e3];grind
theorem zTt{f g:Int×Int×Int}(hf:0<f.1)(hg:0<g.1)(h:Eqf f g):Cl (fD g) (fL f) (fL g):=by
 have hd:=zVM h;obtain⟨p,q,r,s,hdet,e1,e2,e3⟩:=h;obtain⟨a,b,c⟩:=f;obtain⟨a',b',c'⟩:=g;simp only[fD]at hd hf hg e1 e2 e3 ⊢;have hps:p*s=1+q*r:=by omega
 have hne:((2*a'*p+b'*r,r):El)≠(0,0):=by
  intro h0;have h1:r=0:=congrArg Prod.snd h0;have h2:2*a'*p+b'*r=0:=congrArg Prod.fst h0;subst h1;have h3:p=0:=by
   have:2*a'*p=0:=by omega
   rcases Int.mul_eq_zero.1 this with h4|h4
   ·omega
   ·exact h4
  subst h3;omega
 have hne2:((2*a,0):El)≠(0,0):=by intro h0;have h1:2*a=0:=congrArg Prod.fst h0;omega
 have k1:eM (b'*b' - 4*a'*c') (2*a'*p+b'*r,r) (2*a,0)=eM (b'*b' - 4*a'*c') (2*a,0) (eA (eK p (2*a',0)) (eK r (b',1))):=qD (by simp only[eM,eA,eK];grind) (by simp only[eM,eA,eK];grind);have k2:eM (b'*b' - 4*a'*c') (2*a'*p+b'*r,r) (b,1)=eM (b'*b' - 4*a'*c') (2*a,0) (eA (eK q (2*a',0)) (eK s (b',1))):=by
  refine qD ?_ ?_
  ·simp only[eM,eA,eK];rw[e1,e2];have:(2*a'*p+b'*r)*(2*a'*p*q+b'*(p*s+q*r)+2*c'*r*s)+(b'*b' - 4*a'*c')*r*1 - (2*(a'*p*p+b'*p*r+c'*r*r)*(q*(2*a')+s*b')+(b'*b' - 4*a'*c')*0*(q*0+s*1))=(b'*b' - 4*a'*c')*r*(1 - (p*s - q*r)):=by grind
   rw[hdet]at this;omega
  ·simp only[eM,eA,eK];rw[e1,e2];have:(2*a'*p+b'*r)*1+r*(2*a'*p*q+b'*(p*s+q*r)+2*c'*r*s) - (2*(a'*p*p+b'*p*r+c'*r*r)*(q*0+s*1)+0*(q*(2*a')+s*b'))=(2*a'*p+b'*r)*(1 - (p*s - q*r)):=by grind
   rw[hdet]at this;omega
 refine zR2 hne hne2 ?_ ?_
 ·intro l hl;simp only[fL,List.mem_cons,zh,or_false]at hl;rcases hl with e|e
  ·subst e;rw[k1];exact zER.2 ⟨_,zP7 p r,rfl⟩
  ·subst e;rw[k2];exact zER.2 ⟨_,zP7 q s,rfl⟩
 ·intro l hl;have j1:eA (eK s (eA (eK p (2*a',0)) (eK r (b',1)))) (eK (-r) (eA (eK q (2*a',0)) (eK s (b',1))))=((2*a',0):El):=by
   refine qD ?_ ?_
   ·simp only[eA,eK];have:s*(p*(2*a')+r*b')+-r*(q*(2*a')+s*b')=2*a'*(p*s - q*r):=by grind
    rw[hdet]at this;omega
   ·simp only[eA,eK];grind
  have j2:eA (eK (-q) (eA (eK p (2*a',0)) (eK r (b',1)))) (eK p (eA (eK q (2*a',0)) (eK s (b',1))))=((b',1):El):=by
   refine qD ?_ ?_
   ·simp only[eA,eK];have:-q*(p*(2*a')+r*b')+p*(q*(2*a')+s*b')=b'*(p*s - q*r):=by grind
    rw[hdet]at this;omega
   ·simp only[eA,eK];grind
  have m1:∀x y:Int,eM (b'*b' - 4*a'*c') (2*a,0) (eA (eK x (eA (eK p (2*a',0)) (eK r (b',1)))) (eK y (eA (eK q (2*a',0)) (eK s (b',1)))))=eA (eK x (eM (b'*b' - 4*a'*c') (2*a,0) (eA (eK p (2*a',0)) (eK r (b',1))))) (eK y (eM (b'*b' - 4*a'*c') (2*a,0) (eA (eK q (2*a',0)) (eK s (b',1))))):=by intro x y;exact qD (by simp only[eM,eA,eK];grind) (by simp only[eM,eA,eK];grind)
  have m2:∀x y:Int,Sp (eL (b'*b' - 4*a'*c') (2*a'*p+b'*r,r) (fL (a,b,c))) (eA (eK x (eM (b'*b' - 4*a'*c') (2*a,0) (eA (eK p (2*a',0)) (eK r (b',1))))) (eK y (eM (b'*b' - 4*a'*c') (2*a,0) (eA (eK q (2*a',0)) (eK s (b',1)))))):=by intro x y;rw[←k1,←k2];exact zIK (zFW (zER.2 ⟨_,zBZ (by simp[fL]),rfl⟩) x) (zFW (zER.2 ⟨_,zBZ (by simp[fL]),rfl⟩) y)
  simp only[fL,List.mem_cons,zh,or_false]at hl;rcases hl with e|e
  ·subst e;rw[←j1,m1];exact m2 _ _
  ·subst e;rw[←j2,m1];exact m2 _ _
theorem zTT(D:Int)(p r:Int)(u v:El):eN D (eA (eK p u) (eK r v))=p*p*eN D u+2*p*r*eT D u v+r*r*eN D v:=by simp only[eN,eA,eK,eT];grind
theorem zW7(D:Int)(p r q s:Int)(u v:El):eT D (eA (eK p u) (eK r v)) (eA (eK q u) (eK s v))=p*q*eN D u+(p*s+q*r)*eT D u v+r*s*eN D v:=by simp only[eN,eA,eK,eT];grind
theorem zTS(p r q s:Int)(u v:El):eW (eA (eK p u) (eK r v)) (eA (eK q u) (eK s v))=(p*s - q*r)*eW u v:=by simp only[eW,eA,eK];grind
theorem zVP(D:Int)(a x y:El):eT D (eM D a x) (eM D a y)=eN D a*eT D x y:=by simp only[eN,eM,eT];grind
theorem zQK(D:Int)(a x y:El):eW (eM D a x) (eM D a y)=eN D a*eW x y:=by simp only[eN,eM,eW];grind
theorem zTo{f g:Int×Int×Int}(hf:0<f.1)(hg:0<g.1)(hD:fD g<0)(hd:fD f=fD g)(h:Cl (fD g) (fL f) (fL g)):Eqf f g:=by
 obtain⟨α,β,hα,hβ,hs⟩:=h;have hNα:=zQL hD hα;have hNβ:=zQL hD hβ;have half:∀{f g:Int×Int×Int}{α β:El},(∀x,Sp (eL (fD g) α (fL f)) x↔Sp (eL (fD g) β (fL g)) x)→∃p q r s:Int,eM (fD g) α (2*f.1,0)=eM (fD g) β (eA (eK p (2*g.1,0)) (eK r (g.2.1,1)))∧eM (fD g) α (f.2.1,1)=eM (fD g) β (eA (eK q (2*g.1,0)) (eK s (g.2.1,1))):=by intro f g α β hs;obtain⟨y,hy,e1⟩:=zER.1 ((hs _).1 (zER.2 ⟨(2*f.1,0),zBZ (by simp[fL]),rfl⟩));obtain⟨z,hz,e2⟩:=zER.1 ((hs _).1 (zER.2 ⟨(f.2.1,1),zBZ (by simp[fL]),rfl⟩));obtain⟨p,r,e3⟩:=zUQ hy;obtain⟨q,s,e4⟩:=zUQ hz;exact⟨p,q,r,s,by rw[e1,e3],by rw[e2,e4]⟩
 obtain⟨p,q,r,s,e1,e2⟩:=half hs;obtain⟨p',q',r',s',e3,e4⟩:=half (f:=g) (g:=f) (by rw[hd];exact fun x=>(hs x).symm);rw[hd]at e3 e4;have w1:eN (fD g) α*(2*f.1)=eN (fD g) β*((p*s - q*r)*(2*g.1)):=by have h1:=zQK (fD g) α (2*f.1,0) (f.2.1,1);rw[e1,e2,zQK,zTS]at h1;simpa [eW] using h1.symm
 have w2:eN (fD g) β*(2*g.1)=eN (fD g) α*((p'*s' - q'*r')*(2*f.1)):=by have h1:=zQK (fD g) β (2*g.1,0) (g.2.1,1);rw[e3,e4,zQK,zTS]at h1;simpa [eW] using h1.symm
 have hX:0<eN (fD g) α*(2*f.1):=Int.mul_pos hNα (by omega);have hY:0<eN (fD g) β*(2*g.1):=Int.mul_pos hNβ (by omega);have hdet:p*s - q*r=1:=by
  have x1:eN (fD g) α*(2*f.1)=(eN (fD g) β*(2*g.1))*(p*s - q*r):=by rw[w1];grind
  have x2:eN (fD g) β*(2*g.1)=(eN (fD g) α*(2*f.1))*(p'*s' - q'*r'):=by
   have:eN (fD g) α*((p'*s' - q'*r')*(2*f.1))=(eN (fD g) α*(2*f.1))*(p'*s' - q'*r'):=by grind
   rw[←this];exact w2
  generalize hXX:eN (fD g) α*(2*f.1)=X at*;generalize hYY:eN (fD g) β*(2*g.1)=Y at*;generalize p*s - q*r=t at*;generalize p'*s' - q'*r'=t' at*;have ht:0<t:=by
   rcases Int.lt_or_le 0 t with h|h
   ·exact h
   ·have:Y*t≤0:=Int.mul_nonpos_of_nonneg_of_nonpos (by omega) h;omega
  have ht':0<t':=by
   rcases Int.lt_or_le 0 t' with h|h
   ·exact h
   ·have:X*t'≤0:=Int.mul_nonpos_of_nonneg_of_nonpos (by omega) h;omega
  have h1:X*1=X*(t'*t):=by
   have:X=X*t'*t:=by rw[←x2];exact x1
   rw[Int.mul_one,←zm];exact this
  have h2:1=t'*t:=Int.eq_of_mul_eq_mul_left (by omega) h1;have h3:1*t≤t'*t:=Int.mul_le_mul_of_nonneg_right (by omega) (by omega);omega
 have key:eN (fD g) α*f.1=eN (fD g) β*g.1:=by
  rw[hdet]at w1;have:2*(eN (fD g) α*f.1)=2*(eN (fD g) β*g.1):=by grind
  omega
 have hK:0<eN (fD g) α*f.1:=Int.mul_pos hNα hf;have n1:eN (fD g) (2*g.1,0)=4*g.1*g.1:=by simp only[eN];grind
 have n2:eN (fD g) (g.2.1,1)=4*g.1*g.2.2:=by simp only[eN,fD];grind
 have n3:eT (fD g) (2*g.1,0) (g.2.1,1)=2*g.1*g.2.1:=by simp only[eT];grind
 have m1:eN (fD g) (2*f.1,0)=4*f.1*f.1:=by simp only[eN];grind
 have m2:eN (fD g) (f.2.1,1)=4*f.1*f.2.2:=by rw[←hd];simp only[eN,fD];grind
 have m3:eT (fD g) (2*f.1,0) (f.2.1,1)=2*f.1*f.2.1:=by simp only[eT];grind
 have v1:eN (fD g) α*(4*f.1*f.1)=eN (fD g) β*(p*p*(4*g.1*g.1)+2*p*r*(2*g.1*g.2.1)+r*r*(4*g.1*g.2.2)):=by rw[←m1,←n1,←n2,←n3,←zTT,←zNV,←zNV,e1]
 have v2:eN (fD g) α*(4*f.1*f.2.2)=eN (fD g) β*(q*q*(4*g.1*g.1)+2*q*s*(2*g.1*g.2.1)+s*s*(4*g.1*g.2.2)):=by rw[←m2,←n1,←n2,←n3,←zTT,←zNV,←zNV,e2]
 have v3:eN (fD g) α*(2*f.1*f.2.1)=eN (fD g) β*(p*q*(4*g.1*g.1)+(p*s+q*r)*(2*g.1*g.2.1)+r*s*(4*g.1*g.2.2)):=by rw[←m3,←n1,←n2,←n3,←zW7,←zVP,←zVP,e1,e2]
 have canc:∀x y:Int,(eN (fD g) α*f.1)*x=(eN (fD g) β*g.1)*y→x=y:=by intro x y h;rw[←key]at h;exact Int.eq_of_mul_eq_mul_left (by omega) h
 generalize eN (fD g) α=A at*;generalize eN (fD g) β=B at*;refine⟨p,q,r,s,hdet,canc _ _ ?_,canc _ _ ?_,canc _ _ ?_⟩
 ·have e1:4*(A*f.1*f.1)=A*(4*f.1*f.1):=by grind
  have e2:4*(B*g.1*(g.1*p*p+g.2.1*p*r+g.2.2*r*r))=B*(p*p*(4*g.1*g.1)+2*p*r*(2*g.1*g.2.1)+r*r*(4*g.1*g.2.2)):=by grind
  omega
 ·have e1:2*(A*f.1*f.2.1)=A*(2*f.1*f.2.1):=by grind
  have e2:2*(B*g.1*(2*g.1*p*q+g.2.1*(p*s+q*r)+2*g.2.2*r*s))=B*(p*q*(4*g.1*g.1)+(p*s+q*r)*(2*g.1*g.2.1)+r*s*(4*g.1*g.2.2)):=by grind
  omega
 ·have e1:4*(A*f.1*f.2.2)=A*(4*f.1*f.2.2):=by grind
  have e2:4*(B*g.1*(g.1*q*q+g.2.1*q*s+g.2.2*s*s))=B*(q*q*(4*g.1*g.1)+2*q*s*(2*g.1*g.2.1)+s*s*(4*g.1*g.2.2)):=by grind
  omega
end Go.Proofs.YtdedjieegpkabaaGreat
namespace Go.Proofs.YtdedjieegpkabaaGreat
theorem zSM{D:Int}{a b a' b':Int}{x:El}{c c':Int}(h:x∈eP D (fL (a,b,c)) (fL (a',b',c'))):x=(4*a*a',0)∨x=(2*a*b',2*a)∨x=(2*a'*b,2*a')∨x=(b*b'+D,b+b'):=by
 obtain⟨l,hl,m,hm,e⟩:=zD0.1 h;simp only[fL,List.mem_cons,zh,or_false]at hl hm;rcases hl with e1|e1<;>rcases hm with e2|e2<;>subst e1 e2
 ·left;rw[e];exact qD (by simp only[eM];grind) (by simp only[eM];grind)
 ·right;left;rw[e];exact qD (by simp only[eM];grind) (by simp only[eM];grind)
 ·right;right;left;rw[e];exact qD (by simp only[eM];grind) (by simp only[eM];grind)
 ·right;right;right;rw[e];exact qD (by simp only[eM];grind) (by simp only[eM];grind)
theorem fP_1(D a b c a' b' c':Int):Sp (eP D (fL (a,b,c)) (fL (a',b',c'))) (4*a*a',0):=by have:eM D (2*a,0) (2*a',0)=(4*a*a',0):=qD (by simp only[eM];grind) (by simp only[eM];grind);rw[←this];exact zQt (zBZ (by simp[fL])) (zBZ (by simp[fL]))
theorem fP_2(D a b c a' b' c':Int):Sp (eP D (fL (a,b,c)) (fL (a',b',c'))) (2*a*b',2*a):=by have:eM D (2*a,0) (b',1)=(2*a*b',2*a):=qD (by simp only[eM];grind) (by simp only[eM];grind);rw[←this];exact zQt (zBZ (by simp[fL])) (zBZ (by simp[fL]))
theorem fP_3(D a b c a' b' c':Int):Sp (eP D (fL (a,b,c)) (fL (a',b',c'))) (2*a'*b,2*a'):=by have:eM D (b,1) (2*a',0)=(2*a'*b,2*a'):=qD (by simp only[eM];grind) (by simp only[eM];grind);rw[←this];exact zQt (zBZ (by simp[fL])) (zBZ (by simp[fL]))
theorem fP_4(D a b c a' b' c':Int):Sp (eP D (fL (a,b,c)) (fL (a',b',c'))) (b*b'+D,b+b'):=by have:eM D (b,1) (b',1)=(b*b'+D,b+b'):=qD (by simp only[eM];grind) (by simp only[eM];grind);rw[←this];exact zQt (zBZ (by simp[fL])) (zBZ (by simp[fL]))
theorem zSl{L:List El}{x y:El}(h:Sp L x)(e:x=y):Sp L y:=e▸h
theorem eM_k(D k:Int)(x:El):eM D (k,0) x=eK k x:=qD (by simp only[eM,eK];grind) (by simp only[eM,eK];grind)
theorem fS(a b c:Int)(p q x y:Int)(hx:x=2*a*p+b*q)(hy:y=q):Sp (fL (a,b,c)) (x,y):=by have:=zP7 (u:=(2*a,0)) (v:=(b,1)) p q;exact zSl this (qD (by simp only[eA,eK];rw[hx];grind) (by simp only[eA,eK];rw[hy];grind))
theorem zC9{D k:Int}{L:List El}{x y:El}(h:Sp L x)(e:eK k x=y):Sp (eL D (k,0) L) y:=zER.2 ⟨x,h,by rw[eM_k];exact e.symm⟩
theorem zTs{D a e b c s t:Int}(hD:D=b*b - 4*a*e*c)(hst:s*a+t*e=1):Cl D (eP D (fL (a,b,e*c)) (fL (e,b,a*c))) (fL (a*e,b,c)):=by
 refine zR2 (a:=(1,0)) (b:=(2,0)) (by simp) (by simp) ?_ ?_
 ·intro l hl;rw[eM_k];rcases zSM hl with h|h|h|h
  ·subst h;exact zC9 (fS _ _ _ 1 0 (2*a*e) 0 (by grind) rfl) (qD (by simp only[eK];grind) (by simp only[eK];grind))
  ·subst h;exact zC9 (fS _ _ _ 0 a (a*b) a (by grind) rfl) (qD (by simp only[eK];grind) (by simp only[eK];grind))
  ·subst h;exact zC9 (fS _ _ _ 0 e (e*b) e (by grind) rfl) (qD (by simp only[eK];grind) (by simp only[eK];grind))
  ·subst h;exact zC9 (fS _ _ _ (-c) b (b*b - 2*a*e*c) b (by grind) rfl) (qD (by simp only[eK];grind) (by simp only[eK];grind))
 ·intro l hl;rw[eM_k];simp only[fL,List.mem_cons,zh,or_false]at hl;rcases hl with h|h
  ·subst h;exact zC9 (fP_1 D a b (e*c) e b (a*c)) (qD (by simp only[eK];grind) (by simp only[eK];grind))
  ·subst h;refine zC9 (zIK (zFW (fP_2 D a b (e*c) e b (a*c)) s) (zFW (fP_3 D a b (e*c) e b (a*c)) t)) (qD ?_ ?_)
   ·simp only[eK,eA];have:1*(s*(2*a*b)+t*(2*e*b))=2*b*(s*a+t*e):=by grind
    rw[this,hst];omega
   ·simp only[eK,eA];have:1*(s*(2*a)+t*(2*e))=2*(s*a+t*e):=by grind
    rw[this,hst];try omega
theorem zYj{D a b c p c0 m:Int}(hD:D=b*b - 4*a*c)(hm:b+p=2*m):Cl D (eP D (fL (1,p,c0)) (fL (a,b,c))) (fL (a,b,c)):=by
 refine zR2 (a:=(1,0)) (b:=(2,0)) (by simp) (by simp) ?_ ?_
 ·intro l hl;rw[eM_k];rcases zSM hl with h|h|h|h
  ·subst h;exact zC9 (fS _ _ _ 1 0 (2*a) 0 (by grind) rfl) (qD (by simp only[eK];grind) (by simp only[eK];grind))
  ·subst h;exact zC9 (fS _ _ _ 0 1 b 1 (by grind) rfl) (qD (by simp only[eK];grind) (by simp only[eK];grind))
  ·subst h;exact zC9 (fS _ _ _ (p - m) a (a*p) a (by grind) rfl) (qD (by simp only[eK];grind) (by simp only[eK];grind))
  ·subst h;exact zC9 (fS _ _ _ (-c) m (b*m - 2*a*c) m (by grind) rfl) (qD (by simp only[eK];grind) (by simp only[eK];grind))
 ·intro l hl;rw[eM_k];simp only[fL,List.mem_cons,zh,or_false]at hl;rcases hl with h|h
  ·subst h;exact zC9 (fP_1 D 1 p c0 a b c) (qD (by simp only[eK];grind) (by simp only[eK];grind))
  ·subst h;exact zC9 (fP_2 D 1 p c0 a b c) (qD (by simp only[eK];grind) (by simp only[eK];grind))
theorem zYk{D a b c p c0 m x y z:Int}(ha:0<a)(hD:D=b*b - 4*a*c)(hm:b+p=2*m)(hx:x*a+y*b+z*c=1):Cl D (eP D (fL (a,b,c)) (fL (a,-b,c))) (fL (1,p,c0)):=by
 refine zR2 (a:=(1,0)) (b:=(2*a,0)) (by simp) (by intro h;have h0:2*a=0:=congrArg Prod.fst h;omega) ?_ ?_
 ·intro l hl;rw[eM_k];rcases zSM hl with h|h|h|h
  ·subst h;exact zC9 (fS _ _ _ a 0 (2*a) 0 (by grind) rfl) (qD (by simp only[eK];grind) (by simp only[eK];grind))
  ·subst h;exact zC9 (fS _ _ _ (-m) 1 (-b) 1 (by grind) rfl) (qD (by simp only[eK];grind) (by simp only[eK];grind))
  ·subst h;exact zC9 (fS _ _ _ (m - p) 1 b 1 (by grind) rfl) (qD (by simp only[eK];grind) (by simp only[eK];grind))
  ·subst h;exact zC9 (fS _ _ _ (-c) 0 (-2*c) 0 (by grind) rfl) (qD (by simp only[eK];grind) (by simp only[eK];grind))
 ·intro l hl;rw[eM_k];have k1:Sp (eP D (fL (a,b,c)) (fL (a,-b,c))) (4*a*a,0):=fP_1 D a b c a (-b) c;have k2:Sp (eP D (fL (a,b,c)) (fL (a,-b,c))) (2*a*b,2*a):=fP_3 D a b c a (-b) c;have k3:Sp (eP D (fL (a,b,c)) (fL (a,-b,c))) (-(4*a*c),0):=zSl (fP_4 D a b c a (-b) c) (qD (by simp only[];grind) (by simp only[];omega));have k4:Sp (eP D (fL (a,b,c)) (fL (a,-b,c))) (4*a*b,0):=zSl (zGy k2 (fP_2 D a b c a (-b) c)) (qD (by simp only[eS];grind) (by simp only[eS];omega));have k5:Sp (eP D (fL (a,b,c)) (fL (a,-b,c))) (4*a,0):=by
   refine zSl (zIK (zIK (zFW k1 x) (zFW k4 y)) (zFW k3 (-z))) (qD ?_ (by simp only[eA,eK];grind));simp only[eA,eK];have:x*(4*a*a)+y*(4*a*b)+-z*-(4*a*c)=4*a*(x*a+y*b+z*c):=by grind
   rw[this,hx];omega
  simp only[fL,List.mem_cons,zh,or_false]at hl;rcases hl with h|h
  ·subst h;exact zC9 k5 (qD (by simp only[eK];grind) (by simp only[eK];grind))
  ·subst h;exact zC9 (zIK k2 (zFW k5 (p - m))) (qD (by simp only[eK,eA];grind) (by simp only[eK,eA];grind))
theorem zFV{x y z:Int}(hx:0≤x)(h:y≤z):x*y≤x*z:=zg h hx
theorem uq_c{a b c x y:Int}(ha:1≤a)(hb1:-a≤b)(hb2:b≤a)(hc:a≤c)(hy:y≠0):c≤a*x*x+b*x*y+c*y*y:=by
 have key:∀x y:Int,0≤x→1≤y→∀b,-a≤b→b≤a→c≤a*x*x+b*x*y+c*y*y:=by
  intro x y hx hy b hb1 hb2;have hxy:0≤x*y:=Int.mul_nonneg hx (by omega);have h1:-(a*(x*y))≤b*(x*y):=by have:(-a)*(x*y)≤b*(x*y):=Int.mul_le_mul_of_nonneg_right hb1 hxy;have e:(-a)*(x*y)=-(a*(x*y)):=Int.neg_mul ..;omega
  have e1:a*x*x+b*x*y+c*y*y=a*(x*x)+b*(x*y)+c*(y*y):=by grind
  rw[e1];rcases Int.le_total y x with h|h
  ·have h2:a*(x*y)≤a*(x*x):=zFV (by omega) (zFV hx h);have h3:c*(1*1)≤c*(y*y):=zFV (by omega) (Int.mul_le_mul hy hy (by omega) (by omega));omega
  ·by_cases h0:x=0
   ·subst h0;have h3:c*(1*1)≤c*(y*y):=zFV (by omega) (Int.mul_le_mul hy hy (by omega) (by omega));simp only[Int.zero_mul,Int.mul_zero]at*;omega
   ·have h2:a*(x*(y - x))≤c*(x*(y - x)):=Int.mul_le_mul_of_nonneg_right hc (Int.mul_nonneg hx (by omega));have h4:x*(y - x)≤(y - 1)*y:=by
     rcases Int.lt_or_le x y with h5|h5
     ·have:x*(y - x)≤(y - 1)*(y - x):=Int.mul_le_mul_of_nonneg_right (by omega) (by omega);have:(y - 1)*(y - x)≤(y - 1)*y:=zFV (by omega) (by omega);omega
     ·have e:y - x=0:=by omega
      rw[e,Int.mul_zero];exact Int.mul_nonneg (by omega) (by omega)
    have h6:c*(x*(y - x))≤c*((y - 1)*y):=zFV (by omega) h4;have e2:a*(x*(y - x))=a*(x*y) - a*(x*x):=by grind
    have e3:c*((y - 1)*y)=c*(y*y) - c*y:=by grind
    have h7:c*1≤c*y:=zFV (by omega) hy;omega
 have e2:a*x*x+b*x*y+c*y*y=a*(-x)*(-x)+(-b)*(-x)*y+c*y*y:=by grind
 have e3:a*x*x+b*x*y+c*y*y=a*x*x+(-b)*x*(-y)+c*(-y)*(-y):=by grind
 have e4:a*x*x+b*x*y+c*y*y=a*(-x)*(-x)+b*(-x)*(-y)+c*(-y)*(-y):=by grind
 rcases Int.lt_or_le 0 y with h1|h1<;>rcases Int.le_total 0 x with h2|h2
 ·exact key x y h2 h1 b hb1 hb2
 ·rw[e2];exact key (-x) y (by omega) h1 (-b) (by omega) (by omega)
 ·rw[e3];exact key x (-y) h2 (by omega) (-b) (by omega) (by omega)
 ·rw[e4];exact key (-x) (-y) (by omega) (by omega) b hb1 hb2
theorem uq_a{a b c x y:Int}(ha:1≤a)(hb1:-a≤b)(hb2:b≤a)(hc:a≤c)(h:x≠0∨y≠0):a≤a*x*x+b*x*y+c*y*y:=by
 by_cases hy:y=0
 ·subst hy;have hx:x≠0:=by omega
  have h1:1≤x*x:=by
   have h2:0<x*x:=by
    rcases Int.lt_or_le 0 x with h3|h3
    ·exact Int.mul_pos h3 h3
    ·exact Int.mul_pos_of_neg_of_neg (by omega) (by omega)
   omega
  have h2:a*1≤a*(x*x):=zFV (by omega) h1;have e:a*x*x+b*x*0+c*0*0=a*(x*x):=by grind
  omega
 ·have:=uq_c (x:=x) ha hb1 hb2 hc hy;omega
theorem zXK{a b c a' b' c' p q r s:Int}(ha:1≤a)(h1:zAu a b c)(ha':1≤a')(h2:zAu a' b' c')(hdet:p*s - q*r=1)(e1:a'=a*p*p+b*p*r+c*r*r):a≤a'∧(r≠0→c≤a'):=by
 obtain⟨⟨i1,i2⟩,i3⟩:=h1;have hac:a≤c:=by omega
 have hpr:p≠0∨r≠0:=by
  rcases Decidable.em (p=0) with h|h
  ·right;intro hr;rw[h,hr]at hdet;simp at hdet
  ·exact .inl h
 refine⟨by rw[e1];exact uq_a ha (by omega) i2 hac hpr,fun hr=>by rw[e1];exact uq_c ha (by omega) i2 hac hr⟩
theorem zUY{a b c a' b' c' p q r s:Int}(ha:1≤a)(h1:zAu a b c)(ha':1≤a')(h2:zAu a' b' c')(hdet:p*s - q*r=1)(e1:a'=a*p*p+b*p*r+c*r*r)(e2:b'=2*a*p*q+b*(p*s+q*r)+2*c*r*s)(e3:c'=a*q*q+b*q*s+c*s*s):a=a'∧b=b'∧c=c':=by
 have f1:a=a'*s*s+b'*s*(-r)+c'*(-r)*(-r):=by rw[e1,e2,e3];grind
 have hdet2:s*p - (-q)*(-r)=1:=by grind
 obtain⟨k1,k2⟩:=zXK ha h1 ha' h2 hdet e1;obtain⟨k3,k4⟩:=zXK ha' h2 ha h1 hdet2 f1;have hd:b*b - 4*a*c=b'*b' - 4*a'*c':=by rw[e1,e2,e3];grind
 have haa:a=a':=by omega
 obtain⟨⟨i1,i2⟩,i3⟩:=h1;obtain⟨⟨j1,j2⟩,j3⟩:=h2;have fin:b=b'→a=a'∧b=b'∧c=c':=by
  intro hb;refine⟨haa,hb,?_⟩;subst haa hb;have:4*a*c=4*a*c':=by omega
  exact Int.eq_of_mul_eq_mul_left (by omega) this
 by_cases hr:r=0
 ·subst hr;have hps:p*s=1:=by omega
  have hd1:p.natAbs∣1:=⟨s.natAbs,by rw[←Int.natAbs_mul,hps];rfl⟩
  have hp:p=1∨p=-1:=by have:=Nat.dvd_one.1 hd1;omega
  have small:∀t:Int,-(2*a)<2*a*t→2*a*t<2*a→t=0:=by
   intro t h3 h4;rcases Int.lt_trichotomy t 0 with h|h|h
   ·have:2*a*t≤2*a*(-1):=zFV (by omega) (by omega);omega
   ·exact h
   ·have:2*a*1≤2*a*t:=zFV (by omega) (by omega);omega
  rcases hp with h|h
  ·subst h;have hs:s=1:=by omega
   subst hs;have e4:b'=2*a*q+b:=by rw[e2];grind
   have hq:=small q (by omega) (by omega);rw[hq]at e4;exact fin (by omega)
  ·subst h;have hs:s=-1:=by omega
   subst hs;have e4:b'=2*a*(-q)+b:=by rw[e2];grind
   have hq:=small (-q) (by omega) (by omega);rw[hq]at e4;exact fin (by omega)
 ·have m1:=k2 hr;have m2:=k4 (by omega);have hcc:c=c':=by omega
  subst haa hcc;have hb:b=b':=by
   have hsq:(b - b')*(b+b')=0:=by grind
   rcases Int.mul_eq_zero.1 hsq with h|h<;>omega
  exact fin hb
theorem zOn{a b c e hB hC:Int}{mm:Int×Int×Int×Int}{b0 k1:Int}(ha:1≤a)(ha2:a≤26)(he:1≤e)(he2:e≤10000)(hb0:0≤b0)(hb02:b0<2*a)(hB0:0≤hB)(hB2:hB<2*e)(hk1:k1<e)(hd:2*e∣b0+2*a*k1 - hB):∀(n:Nat)(k:Int),0≤k→k≤k1→(k1 - k).toNat<n→
  ∃k2,zC4 (a,b,c) ((e,hB,hC),mm) n (b0+2*a*k)=some (b0+2*a*k2)∧k≤k2∧k2≤k1∧2*e∣b0+2*a*k2 - hB
 |0,k,h0,h1,hn=>by omega
 |n+1,k,h0,h1,hn=>by
  have m1:(2*a*k).natAbs≤2*26*10000:=zX (zX (by omega) (by omega)) (by omega);rw[zC4];simp only[];rw[zA (n:=b0+2*a*k - hB) (by omega),zA (n:=2*e) (by omega),zAk (by omega) (by omega)];simp only[Option.bind_some];by_cases hz:(b0+2*a*k - hB) % (2*e)=0
  ·rw[hz,zC6];exact⟨k,rfl,Int.le_refl _,h1,Int.dvd_of_emod_eq_zero hz⟩
  ·rw[zAj hz];simp only[zc,cond_true,zP];have hne:k≠k1:=by
    intro e;rw[e]at hz;exact hz (Int.emod_eq_zero_of_dvd hd)
   have e1:b0+2*a*k+2*a=b0+2*a*(k+1):=by rw[Int.mul_add];omega
   rw[zA (n:=2*a) (by omega),zA (n:=b0+2*a*k+2*a) (by omega),e1];obtain⟨k2,j1,j2,j3,j4⟩:=zOn ha ha2 he he2 hb0 hb02 hB0 hB2 hk1 hd n (k+1) (by omega) (by omega) (by omega);exact⟨k2,j1,by omega,j3,j4⟩
theorem zT3:∀(a b:Nat),∃x y:Int,x*a+y*b=(Nat.gcd a b:Int):=by
 intro a b
 induction a,b using Nat.gcd.induction with
 |H0 n=>exact⟨0,1,by simp⟩
 |H1 m n hm ih=>
  obtain⟨x,y,h⟩:=ih;refine⟨y - x*(n / m:Nat),x,?_⟩;rw[Nat.gcd_rec,←h];have e:(n:Int)=(n % m:Nat)+m*(n / m:Nat):=by exact_mod_cast (Nat.mod_add_div n m).symm
  rw[e];grind
theorem zQ0(a b:Int):∃x y:Int,x*a+y*b=(Int.gcd a b:Int):=by
 obtain⟨x,y,h⟩:=zT3 a.natAbs b.natAbs;have sg:∀z:Int,∃t:Int,(z.natAbs:Int)=t*z:=by
  intro z;rcases Int.le_total 0 z with h|h
  ·exact⟨1,by omega⟩
  ·exact⟨-1,by omega⟩
 obtain⟨s,hs⟩:=sg a;obtain⟨t,ht⟩:=sg b;refine⟨x*s,y*t,?_⟩;rw[hs,ht]at h;rw[show Int.gcd a b=Nat.gcd a.natAbs b.natAbs from rfl,←h];grind
theorem zVW{a e v x:Int}(hi:e∣1 - v*a)(h:e∣a*x):e∣x:=by obtain⟨i,hi⟩:=hi;obtain⟨j,hj⟩:=h;exact⟨i*x+v*j,by grind⟩
theorem zTf{e x:Int}(h:e∣x)(h1:-e<x)(h2:x<e):x=0:=by
 have h3:e.natAbs∣x.natAbs:=Int.natAbs_dvd_natAbs.2 h;rcases Nat.eq_zero_or_pos x.natAbs with h4|h4
 ·omega
 ·have:=Nat.le_of_dvd h4 h3;omega
structure Uni (a b c A B C D x y q s e hB hC b1 c1 α β:Int):Prop where
  mh:MatInv A B C x q y s e hB hC
  e1:1≤e
  e2:e≤10000
  t:∃u v:Int,u*a+v*e=1
  bα:b1=b+2*a*α
  bβ:b1=hB+2*e*β
  b0:0≤b1
  b2:b1<2*a*e
  dis:b1*b1 - 4*a*e*c1=D
  qb:q.natAbs≤100000
  sb:s.natAbs≤100000
  xy:0≤x∧x≤3∧0≤y∧y≤3
theorem uni_c{a b c D e hB hC b1 α β:Int}(hd:b*b - 4*a*c=D)(hh:hB*hB - 4*e*hC=D){u v:Int}(huv:u*a+v*e=1)(bα:b1=b+2*a*α)(bβ:b1=hB+2*e*β):b1*b1 - 4*a*e*(u*(hC+hB*β+e*β*β)+v*(c+b*α+a*α*α))=D:=by
 have f1:b1*b1 - D=4*a*(c+b*α+a*α*α):=by rw[bα,←hd];grind
 have f2:b1*b1 - D=4*e*(hC+hB*β+e*β*β):=by rw[bβ,←hh];grind
 generalize hC+hB*β+e*β*β=X at*;generalize c+b*α+a*α*α=Y at*;have f3:(b1*b1 - D)*1=4*a*e*(u*X+v*Y):=by
  rw[←huv];have:(b1*b1 - D)*(u*a+v*e)=u*a*(b1*b1 - D)+v*e*(b1*b1 - D):=by grind
  rw[this];rw[show u*a*(b1*b1 - D)=u*a*(4*e*X) by rw[f2],show v*e*(b1*b1 - D)=v*e*(4*a*Y) by rw[f1]];grind
 omega
theorem zRo{a e b1 c1 D:Int}(ha:1≤a)(he:1≤e)(b0:0≤b1)(b2:b1<2*a*e)(hD1:-2000≤D)(hD2:D<0)(dis:b1*b1 - 4*a*e*c1=D):1≤c1∧c1≤a*e+500:=by
 have hae:1*1≤a*e:=Int.mul_le_mul ha he (by omega) (by omega);have e1:2*a*e=2*(a*e):=zm ..;have e2:4*a*e*c1=4*(a*e*c1):=by grind
 generalize a*e=m at*;have hbb:0≤b1*b1:=Int.mul_nonneg b0 b0;have hbb2:b1*b1≤2*m*(2*m):=Int.mul_le_mul (by omega) (by omega) b0 (by omega);have e3:2*m*(2*m)=4*(m*m):=by grind
 constructor
 ·rcases Int.lt_or_le 0 c1 with h|h
  ·exact h
  ·have:m*c1≤m*0:=zg h (by omega);omega
 ·rcases Int.lt_or_le (m+500) c1 with h|h
  ·have k1:m*(m+501)≤m*c1:=zg (by omega) (by omega);have k2:m*(m+501)=m*m+501*m:=by grind
   omega
  ·exact h
end Go.Proofs.YtdedjieegpkabaaGreat
namespace Go.Proofs.YtdedjieegpkabaaGreat
theorem zU7{b h D m n:Int}(h1:b*b - 4*m=D)(h2:h*h - 4*n=D):b % 2=h % 2:=by
 have k:∀z:Int,(z*z) % 2=z % 2:=by
  intro z;obtain⟨t,ht|ht⟩:∃t,z=2*t∨z=2*t+1:=⟨z / 2,by omega⟩
  ·rw[ht,show 2*t*(2*t)=2*(2*t*t) by grind];omega
  ·rw[ht,show (2*t+1)*(2*t+1)=2*(2*t*t+2*t)+1 by grind];omega
 have:=k b;have:=k h;omega
theorem zTr{a e b0 hB:Int}(he:1≤e)(hg:Int.gcd a e=1)(hp:b0 % 2=hB % 2):∃k1 v1,0≤k1∧k1<e∧2*e∣b0+2*a*k1 - hB∧e∣1 - v1*a:=by
 obtain⟨v1,w1,h1⟩:=zQ0 a e;rw[hg]at h1;obtain⟨H,hH⟩:∃H,hB - b0=2*H:=⟨(hB - b0) / 2,by omega⟩
 have k0:=zn (H*v1) (b:=e) (by omega);have k2:=zo (H*v1) (b:=e) (by omega);have k3:=Int.emod_add_mul_ediv (H*v1) e;refine⟨H*v1 % e,v1,k0,k2,?_,⟨w1,by have:e*w1=w1*e:=Int.mul_comm ..;omega⟩⟩;refine⟨-(H*w1) - a*(H*v1 / e),?_⟩;have e1:H*v1 % e=H*v1 - e*(H*v1 / e):=by omega
 generalize H*v1 / e=W at*;have e2:v1*a=1 - w1*e:=by omega
 have e3:∀k,b0+2*a*k - hB=2*(a*k - H):=by intro k;have:2*a*k=2*(a*k):=zm ..;omega
 rw[e3,e1];have e4:a*(H*v1 - e*W) - H=H*(v1*a) - H - a*e*W:=by grind
 rw[e4,e2];grind
theorem zNZ{a e b0 hB k k1 v1:Int}(k0:0≤k)(k2:k<e)(k3:0≤k1)(k4:k1<e)(h1:2*e∣b0+2*a*k1 - hB)(h2:2*e∣b0+2*a*k - hB)(h3:e∣1 - v1*a):k=k1:=by
 have d1:2*e∣2*(a*(k1 - k)):=by
  obtain⟨i,hi⟩:=h1;obtain⟨j,hj⟩:=h2;refine⟨i - j,?_⟩;have e1:2*(a*(k1 - k))=2*a*k1 - 2*a*k:=by grind
  have e2:2*e*(i - j)=2*e*i - 2*e*j:=Int.mul_sub ..;rw[e1,e2];omega
 have d2:e∣a*(k1 - k):=by obtain⟨i,hi⟩:=d1;exact⟨i,by have:2*e*i=2*(e*i):=zm ..;omega⟩
 have:=zTf (zVW h3 d2) (by omega) (by omega);omega
theorem zS3{a e b0 hB:Int}(ha:1≤a)(ha2:a≤26)(he:1≤e)(he2:e≤10000)(hg:Int.gcd a e=1)(hb0:0≤b0)(hb02:b0<2*a)(hB0:0≤hB)(hB2:hB<2*e)(hp:b0 % 2=hB % 2):
  ∃k1 z v1,zBi b0 (2*a) hB (2*e)=some (b0+2*a*k1,z,true)∧0≤k1∧k1<e∧2*e∣b0+2*a*k1 - hB∧e∣1 - v1*a:=by
 have hc:∀c:Int,c∣e→c∣a→c∣1:=by intro c h1 h2;have:=Int.dvd_coe_gcd h2 h1;rw[hg]at this;exact this
 obtain⟨v1,j1,j2,j3,j4⟩:=zWX (n:=e) (m:=a) he (by omega) (by omega) hc;obtain⟨H,hH⟩:∃H,hB - b0=2*H:=⟨(hB - b0) / 2,by omega⟩
 have k0:=zn (H*v1) (b:=e) (by omega);have k2:=zo (H*v1) (b:=e) (by omega);have k3:=Int.emod_add_mul_ediv (H*v1) e;have m1:(H*v1).natAbs≤10000*10000:=zX (by omega) (by omega);generalize hk:H*v1 % e=k1 at*;have m2:(2*a*k1).natAbs≤2*26*10000:=zX (zX (by omega) (by omega)) (by omega);have hdiv:2*e∣b0+2*a*k1 - hB:=by
  obtain⟨w,hw⟩:=j2;refine⟨-(H*w) - a*(H*v1 / e),?_⟩;have e1:k1=H*v1 - e*(H*v1 / e):=by omega
  generalize H*v1 / e=W at*;have e2:v1*a=1 - e*w:=by omega
  have e3:b0+2*a*k1 - hB=2*(a*k1 - H):=by have:2*a*k1=2*(a*k1):=zm ..;omega
  rw[e3,e1];have e4:a*(H*v1 - e*W) - H=H*(v1*a) - H - a*e*W:=by grind
  rw[e4,e2];grind
 have hak:2*a*k1≤2*a*(e - 1):=zg (by omega) (by omega);have hak0:0≤2*a*k1:=Int.mul_nonneg (by omega) k0;have hae:(a*(2*e)).natAbs≤26*20000:=zX (by omega) (by omega);have hae1:2*a*(e - 1)=a*(2*e) - 2*a:=by grind
 have hae2:1*2≤a*(2*e):=Int.mul_le_mul ha (by omega) (by omega) (by omega);have hgg:Int.gcd (2*a) (2*e)=2:=by rw[Int.gcd_mul_left,hg];rfl
 refine⟨k1,a*(2*e),v1,?_,k0,k2,hdiv,j2⟩;unfold zBi;rw[zM8 (by omega) (by omega),hgg];simp only[Option.bind_some];rw[show ((2:Nat):Int)=2 from rfl,zC5 (show (2:Int)≠0 by decide),zA (n:=hB - b0) (by omega),tz (by decide),za (show (2:Int)∣hB - b0 from⟨H,hH⟩)];simp only[Option.bind_some,Bool.not_true,cond_false];rw[tdv (a:=2*a) (c:=a) (by decide) rfl,tdv (a:=2*e) (c:=e) (by decide) rfl,zA (n:=a) (by omega),zA (n:=e) (by omega),j1];simp only[Option.bind_some];rw[tdv (a:=hB - b0) (c:=H) (by decide) hH.symm,zA (n:=H) (by omega),zA (n:=H*v1) (by omega),zFP,zAk he (by omega),hk];simp only[Option.bind_some,zP];rw[zA (n:=a*(2*e)) (by omega),zA (n:=2*a*k1) (by omega),zA (n:=b0+2*a*k1) (by omega),zFP,zAk (by omega) (by omega),Int.emod_eq_of_lt (by omega) (by omega)];rfl
def PrRc(D:Int)(f:Int×Int×Int):Prop:=1≤f.1∧zAu f.1 f.2.1 f.2.2∧f.2.1*f.2.1 - 4*f.1*f.2.2=D∧∀k:Int,k∣f.1→k∣f.2.1→k∣f.2.2→k∣1
theorem zIW{D:Int}{f:Int×Int×Int}(hD1:-2000≤D)(h:PrRc D f):Rb f.1 f.2.1 f.2.2∧f.1≤25:=by
 obtain⟨h1,h2,h3,h4⟩:=h;obtain⟨⟨i1,i2⟩,i3⟩:=h2;have hbb:f.2.1*f.2.1≤f.1*f.1:=by
  rcases Int.le_total 0 f.2.1 with h4|h4
  ·exact Int.mul_le_mul i2 i2 h4 (by omega)
  ·have:(-f.2.1)*(-f.2.1)≤f.1*f.1:=Int.mul_le_mul (by omega) (by omega) (by omega) (by omega);have e:(-f.2.1)*(-f.2.1)=f.2.1*f.2.1:=by grind
   omega
 have h7:4*f.1*f.1≤4*f.1*f.2.2:=zg (by omega) (by omega);have e1:4*f.1*f.1=4*(f.1*f.1):=zm ..;have ha:f.1≤25:=by
  rcases Int.lt_or_le 25 f.1 with h8|h8
  ·have:26*26≤f.1*f.1:=Int.mul_le_mul (by omega) (by omega) (by omega) (by omega);omega
  ·exact h8
 have haa:f.1*f.1≤25*25:=Int.mul_le_mul ha ha (by omega) (by omega);have h9:4*1*f.2.2≤4*f.1*f.2.2:=Int.mul_le_mul_of_nonneg_right (by omega) (by omega);exact⟨⟨h1,by omega,by omega,by omega,by omega,by omega⟩,ha⟩
theorem zRl{D a b c A B C x y q s e hB hC b0 b1 z cc α β:Int}(ha:1≤a)(ra:a≤25)(rb:b.natAbs≤26)(hv1:1≤e)(v2:e≤10000)(hD1:-2000≤D)(hD2:D<0)(f3:b*b - 4*a*c=D)(p2:zBa (A,B,C) a=some (x,y))(c2:zAC (A,B,C) x y=some ((e,hB,hC),(x,q,y,s)))(hb0:b % (2*a)=b0)(k2:zBi b0 (2*a) hB (2*e)=some (b1,z,true))(eα:2*a*α=b1 - b)(eβ:2*e*β=b1 - hB)(hB0:hB.natAbs≤30000)(hb1:b1.natAbs≤520000)(hbb:(b1*b1).natAbs≤270400000000)(e5:4*a*e*cc=b1*b1 - D)(hbα:α.natAbs≤1000000)(hbβ:β.natAbs≤1000000)(hcc:cc.natAbs≤300000)(h4:1≤4*a*e)(h42:4*a*e≤1040000){f0 g0:Int×Int×Int}{mf mg:Int×Int×Int×Int}(h1:qL f0=some ((a,b,c),mf))(h2:qL g0=some ((A,B,C),mg)):zB8 f0 g0=(qJ mg (x,q,y,s)).bind fun N1=>(qJ mf (1,α,0,1)).bind fun M=>(qJ N1 (1,β,0,1)).bind fun N=>some ((a,b1,e*cc),(e,b1,a*cc),M,N):=by
 unfold zB8;rw[h1,Option.bind_some,h2,Option.bind_some];simp only[];rw[p2,Option.bind_some];simp only[];rw[c2,Option.bind_some];simp only[];cases hN1:qJ mg (x,q,y,s) with
 |none=>rfl
 |some N1=>
  simp only[Option.bind_some];have m3:(e*cc).natAbs≤10000*300000:=zX (by omega) (by omega);have m4:(a*cc).natAbs≤26*300000:=zX (by omega) (by omega);rw[zA (n:=2*a) (by omega),zFP,zAk (by omega) (by omega),hb0,Option.bind_some,zA (n:=2*e) (by omega),k2,Option.bind_some,zC5 (show 2*a≠0 by omega),Option.bind_some];simp only[zCk,Option.bind_some];rw[zA (n:=b1 - b) (by omega),tdv (b:=2*a) (by omega) eα,zA (n:=α) (by omega)];cases hM:qJ mf (1,α,0,1) with
  |none=>rfl
  |some M=>
   simp only[Option.bind_some];rw[zC5 (show 2*e≠0 by omega),Option.bind_some,zA (n:=b1 - hB) (by omega),tdv (b:=2*e) (by omega) eβ,zA (n:=β) (by omega)];cases hN:qJ N1 (1,β,0,1) with
   |none=>rfl
   |some N=>simp only[Option.bind_some,zP];rw[zTY,zS2,f3,zA (n:=D) (by omega),Option.bind_some,zA (n:=4*a) (by omega),zA (n:=4*a*e) (by omega),zC5 (show 4*a*e≠0 by omega),Option.bind_some,zA (n:=b1*b1) (by omega),zA (n:=b1*b1 - D) (by omega),tdv (b:=4*a*e) (by omega) e5,zA (n:=cc) (by omega),zA (n:=a*cc) (by omega),zA (n:=e*cc) (by omega)]
theorem zRm{D:Int}{a b c A B C:Int}(hD1:-2000≤D)(hD2:D<0)(hf:PrRc D (a,b,c))(hg:PrRc D (A,B,C)):
  ∃x y q s e hB hC b1 c1 α β,Uni a b c A B C D x y q s e hB hC b1 c1 α β∧zCT (a,b,c) (A,B,C)=(zQ (x,q,y,s) (1,β,0,1)).bind (fun N=>some (a,e,b1,c1,(1,α,0,1),N))∧zBa (A,B,C) a=some (x,y)∧zAC (A,B,C) x y=some ((e,hB,hC),(x,q,y,s))∧(0≤hB∧hB<2*e∧hB.natAbs≤30000)∧α.natAbs≤1000000∧β.natAbs≤1000000∧Int.gcd a e=1:=by
 have hF:=FUge;obtain⟨rf,ra⟩:=zIW hD1 hf;obtain⟨rg,rA⟩:=zIW hD1 hg;obtain⟨f1,f2,f3,f4⟩:=hf;obtain⟨g1,g2,g3,g4⟩:=hg;simp only[]at rf ra rg rA f1 f2 f3 f4 g1 g2 g3 g4;obtain⟨⟨x,y⟩,p1,p2,p3,p4⟩:=zSK rg f1 ra g4;simp only[]at p3 p4;have hxy:x≠0∨y≠0:=by simp only[ptL,List.mem_cons,Prod.mk.injEq,zh,or_false]at p3;omega
 obtain⟨⟨u1,u2⟩,u3⟩:=g2;have hv1:1≤Vl A B C x y:=by have:=uq_a g1 (show -A≤B by omega) u2 (show A≤C by omega) hxy;unfold Vl;omega
 obtain⟨q,s,hB,hC,c1,c2,em,t1,t2,v2,qb,sb,x1,x2,y1,y2⟩:=zO1 rg g3 hD1 (by omega) p3 rfl hv1;generalize he:Vl A B C x y=e at*;have hh:hB*hB - 4*e*hC=D:=by rw[zME em,g3]
 have b0a:=zn b (b:=2*a) (by omega);have b0b:=zo b (b:=2*a) (by omega);have b0c:=Int.emod_add_mul_ediv b (2*a);have hpar:=zU7 (b:=b) (h:=hB) (D:=D) (m:=a*c) (n:=e*hC) (by rw[←f3];grind) (by rw[←hh];grind);generalize hb0:b % (2*a)=b0 at*;have hpar0:b0 % 2=hB % 2:=by have:2*a*(b / (2*a))=2*(a*(b / (2*a))):=zm ..;omega
 have hga:Int.gcd a e=1:=by rw[Int.gcd_comm];exact p4
 obtain⟨k1,v1,k3,k4,k5,k6⟩:=zTr (a:=a) (e:=e) hv1 hga hpar0;obtain⟨k,l1,l2,l3,l4⟩:=zOn (c:=c) (b:=b) (hC:=hC) (mm:=(x,q,y,s)) f1 (by omega) hv1 v2 b0a b0b t1 t2 k4 k5 FU 0 (by omega) k3 (by omega);have hk:k=k1:=zNZ l2 (by omega) k3 k4 k5 l4 k6;subst hk;generalize hb1:b0+2*a*k=b1 at*;obtain⟨β,hβ⟩:=k5;have hα:b1=b+2*a*(k - b / (2*a)):=by rw[Int.mul_sub];omega
 generalize k - b / (2*a)=α at*;have hβ':b1=hB+2*e*β:=by omega
 have hak:2*a*k≤2*a*(e - 1):=zg (by omega) (by omega);have hak0:0≤2*a*k:=Int.mul_nonneg (by omega) k3;have hae:(2*a*e).natAbs≤2*26*10000:=zX (zX (by omega) (by omega)) (by omega);have hae1:2*a*(e - 1)=2*a*e - 2*a:=by grind
 have b1lt:b1<2*a*e:=by omega
 have b1ge:0≤b1:=by omega
 obtain⟨w,hw⟩:=k6;have huv:v1*a+w*e=1:=by have:w*e=e*w:=Int.mul_comm ..;omega
 have dis:=uni_c (b1:=b1) f3 hh huv hα hβ';generalize hc1:v1*(hC+hB*β+e*β*β)+w*(c+b*α+a*α*α)=cc at*;obtain⟨cc1,cc2⟩:=zRo f1 hv1 b1ge b1lt hD1 hD2 dis;have hm1:a*e≤25*10000:=Int.mul_le_mul ra v2 (by omega) (by omega);have hm0:1*1≤a*e:=Int.mul_le_mul f1 hv1 (by omega) (by omega);have hbb:b1*b1≤520000*520000:=Int.mul_le_mul (by omega) (by omega) b1ge (by omega);have hbb0:0≤b1*b1:=Int.mul_nonneg b1ge b1ge;have hbα:α.natAbs≤1000000:=by
  rcases Int.lt_or_le 1000000 α with h|h
  ·have:2*a*1000001≤2*a*α:=zg (by omega) (by omega);have:=rf.b1;omega
  ·rcases Int.lt_or_le α (-1000000) with h'|h'
   ·have:2*a*α≤2*a*(-1000001):=zg (by omega) (by omega);have:=rf.b2;omega
   ·omega
 have hbβ:β.natAbs≤1000000:=by
  rcases Int.lt_or_le 1000000 β with h|h
  ·have:2*e*1000001≤2*e*β:=zg (by omega) (by omega);omega
  ·rcases Int.lt_or_le β (-1000000) with h'|h'
   ·have:2*e*β≤2*e*(-1000001):=zg (by omega) (by omega);omega
   ·omega
 have e4:4*a*e=2*(2*a*e):=by grind
 have e5:4*a*e*cc=b1*b1 - D:=by omega
 have eα:2*a*α=b1 - b:=by omega
 have eβ:2*e*β=b1 - hB:=by omega
 have rb1:=rf.b1;have rb2:=rf.b2;refine⟨x,y,q,s,e,hB,hC,b1,cc,α,β,⟨em,hv1,v2,⟨v1,w,huv⟩,hα,hβ',b1ge,b1lt,dis,qb,sb,x1,x2,y1,y2⟩,?_,p2,c2,⟨t1,t2,by omega⟩,hbα,hbβ,hga⟩
 ·unfold zCT;simp only[];rw[p1,Option.bind_some];simp only[];rw[c1,Option.bind_some];simp only[];rw[zA (n:=2*a) (by omega),zAk (by omega) (by omega),hb0,Option.bind_some];rw[show b0=b0+2*a*0 by omega,l1,Option.bind_some,zA (n:=2*a*e) (by omega),zAk (by omega) (by omega),Int.emod_eq_of_lt b1ge b1lt,Option.bind_some,zS2,f3,zA (n:=D) (by omega),Option.bind_some,zA (n:=4*a) (by omega),zA (n:=4*a*e) (by omega),zC5 (show 4*a*e≠0 by omega),Option.bind_some,zA (n:=b1*b1) (by omega),zA (n:=b1*b1 - D) (by omega),tdv (b:=4*a*e) (by omega) e5,zC5 (show 2*a≠0 by omega)];simp only[zP,Option.bind_some];rw[zA (n:=cc) (by omega),zA (n:=b1 - b) (by omega),tdv (b:=2*a) (by omega) eα,zA (n:=α) (by omega),zA (n:=2*e) (by omega),zC5 (show 2*e≠0 by omega),Option.bind_some,zA (n:=b1 - hB) (by omega),tdv (b:=2*e) (by omega) eβ,zA (n:=β) (by omega)]
theorem zRn{D:Int}{a b c A B C:Int}(hD1:-2000≤D)(hD2:D<0)(hf:PrRc D (a,b,c))(hg:PrRc D (A,B,C)):
  ∃x y q s e hB hC b1 c1 α β,Uni a b c A B C D x y q s e hB hC b1 c1 α β∧zCT (a,b,c) (A,B,C)=(zQ (x,q,y,s) (1,β,0,1)).bind (fun N=>some (a,e,b1,c1,(1,α,0,1),N))∧
   ∀f0 g0 mf mg,qL f0=some ((a,b,c),mf)→qL g0=some ((A,B,C),mg)→zB8 f0 g0=(qJ mg (x,q,y,s)).bind fun N1=>(qJ mf (1,α,0,1)).bind fun M=>(qJ N1 (1,β,0,1)).bind fun N=>some ((a,b1,e*c1),(e,b1,a*c1),M,N):=by
 obtain⟨rf,ra⟩:=zIW hD1 hf;have f1:1≤a:=hf.1;have f3:b*b - 4*a*c=D:=hf.2.2.1;have g3:B*B - 4*A*C=D:=hg.2.2.1;simp only[]at rf ra;obtain⟨x,y,q,s,e,hB,hC,b1,c1,α,β,u,k1,p2,c2,⟨hB1,hB2,n1⟩,n2,n3,hga⟩:=zRm hD1 hD2 hf hg;have ku:=u;obtain⟨mh,e1,e2,⟨m,n,hmn⟩,bα,bβ,b0,b2,dis,qb,sb,xy⟩:=u;have hh:hB*hB - 4*e*hC=D:=by rw[zME mh,g3]
 have t1:=zn b (b:=2*a) (by omega);have t2:=zo b (b:=2*a) (by omega);have t3:=Int.emod_add_mul_ediv b (2*a);have hpar:=zU7 (b:=b) (h:=hB) (D:=D) (m:=a*c) (n:=e*hC) (by rw[←f3];grind) (by rw[←hh];grind);generalize hb0:b % (2*a)=r at*;have hpar0:r % 2=hB % 2:=by have:2*a*(b / (2*a))=2*(a*(b / (2*a))):=zm ..;omega
 obtain⟨k,z,v1,j2,j3,j4,j5,j6⟩:=zS3 (a:=a) (e:=e) f1 (by omega) e1 e2 hga t1 t2 hB1 hB2 hpar0;have hb1:r+2*a*k=b1:=by
  have e5:b1=r+2*a*(α+b / (2*a)):=by rw[Int.mul_add];omega
  have hlo:0≤α+b / (2*a):=by
   rcases Int.lt_or_le (α+b / (2*a)) 0 with h|h
   ·have:2*a*(α+b / (2*a))≤2*a*(-1):=zg (by omega) (by omega);omega
   ·exact h
  have hhi:α+b / (2*a)<e:=by
   rcases Int.lt_or_le (α+b / (2*a)) e with h|h
   ·exact h
   ·have:2*a*e≤2*a*(α+b / (2*a)):=zg h (by omega);omega
  have:=zNZ (a:=a) (e:=e) (b0:=r) (hB:=hB) j3 j4 hlo hhi ⟨β,by omega⟩ j5 j6;rw[e5,this]
 rw[hb1]at j2;obtain⟨cc1,cc2⟩:=zRo f1 e1 b0 b2 hD1 hD2 dis;have hae:a*e≤25*10000:=Int.mul_le_mul ra e2 (by omega) (by omega);have hae0:1*1≤a*e:=Int.mul_le_mul f1 e1 (by omega) (by omega);have hae2:2*a*e=2*(a*e):=zm ..;have hae4:4*a*e=4*(a*e):=zm ..;have hbb:b1*b1≤520000*520000:=Int.mul_le_mul (by omega) (by omega) b0 (by omega);have hbb0:0≤b1*b1:=Int.mul_nonneg b0 b0;have rb1:=rf.b1;have rb2:=rf.b2;refine⟨x,y,q,s,e,hB,hC,b1,c1,α,β,ku,k1,fun f0 g0 mf mg h1 h2=>?_⟩;exact zRl f1 ra (by omega) e1 e2 hD1 hD2 f3 p2 c2 hb0 j2 (by omega) (by omega) n1 (by omega) (by omega) (by omega) n2 n3 (by omega) (by omega) (by omega) h1 h2
end Go.Proofs.YtdedjieegpkabaaGreat
namespace Go.Proofs.YtdedjieegpkabaaGreat
abbrev F3:=Int×Int×Int
def CF(D:Int)(f:F3):Prop:=RedInv f.1 f.2.1 f.2.2 D 1∧f.2.2≤1000000
theorem zE9{D:Int}{f:F3}(h:PrRc D f):0<f.1:=by have:=h.1;omega
theorem zRO{D:Int}{f:F3}(h:PrRc D f):fD f=D:=h.2.2.1
theorem zTZ{a b c d:Int}(h:RedInv a b c d 1)(k:Int)(h1:k∣a)(h2:k∣b)(h3:k∣c):k∣1:=(h.con k).1 ⟨h1,h2,h3⟩
theorem zPo{D:Int}{f:F3}(h:CF D f):∃g m1 m2 m3 m4,zAL f=some (g,(m1,m2,m3,m4))∧qL f=some (g,(m1,m2,m3,m4))∧PrRc D g∧Eqf g f∧MatInv f.1 f.2.1 f.2.2 m1 m2 m3 m4 g.1 g.2.1 g.2.2∧m1.natAbs≤2000∧m2.natAbs≤2000∧m3.natAbs≤2000∧m4.natAbs≤2000∧CF D g:=by
 obtain⟨a,b,c⟩:=f;obtain⟨h1,h2⟩:=h;have hd:=h1.dis;simp only[]at h1 h2 hd;have h1':RedInv a b c (b*b - 4*a*c) 1:=by rw[hd];exact h1
 obtain⟨m1,m2,m3,m4,a2,b2,c2,k1,k2,k3,k4,k5,k6,k7,k8,k9⟩:=zUZ h1' h2;rw[hd]at k3;have hp:PrRc D (a2,b2,c2):=⟨k3.a1,k4,k3.dis,zTZ k3⟩
 have e:=k5;obtain⟨e1,e2,e3,e4⟩:=e;refine⟨(a2,b2,c2),m1,m2,m3,m4,k1,k2,hp,⟨m1,m2,m3,m4,e4,?_,?_,?_⟩,k5,k6,k7,k8,k9,k3,?_⟩
 ·exact e1.symm
 ·exact e2.symm
 ·exact e3.symm
 ·show c2≤1000000;have h3:=k3.nrm;obtain⟨⟨g1,g2⟩,g3⟩:=k4;have h4:=k3.cM;rcases h3 with h3|h3
  ·have q1:=k3.aM;have q2:=k3.a1
   -- a reduced form's last coefficient
   rcases Int.lt_or_le 1000000 c2 with h5|h5
   ·exfalso
    have n1:a2*a2≤a2*c2:=zg (by omega) (by omega);have hbb:b2*b2≤a2*a2:=by
     rcases Int.le_total 0 b2 with h4|h4
     ·exact Int.mul_le_mul g2 g2 h4 (by omega)
     ·have:(-b2)*(-b2)≤a2*a2:=Int.mul_le_mul (by omega) (by omega) (by omega) (by omega);have e:(-b2)*(-b2)=b2*b2:=by grind
      omega
    have hdd:=k3.dis;have e9:4*a2*c2=4*(a2*c2):=zm ..;have hneg:=k3.neg
    -- the value at the original form's last coefficient is at least c2 or the form is not moved
    have hv:c=a2*(-m2)*(-m2)+b2*(-m2)*m1+c2*m1*m1:=by rw[←e1,←e2,←e3];grind
    have hv2:a=a2*m4*m4+b2*m4*(-m3)+c2*(-m3)*(-m3):=by rw[←e1,←e2,←e3];grind
    have ha2:=h1.aM;by_cases hm:m1=0
    ·have hm3:m3≠0:=by
      intro h0;rw[hm,h0]at e4;simp at e4
     have:=uq_c (x:=m4) q2 (by omega) g2 (show a2≤c2 by omega) (show (-m3)≠0 by omega);omega
    ·have:=uq_c (x:=-m2) q2 (by omega) g2 (show a2≤c2 by omega) hm;omega
   ·exact h5
  ·exact h3
theorem zKQ{D:Int}{f g:F3}(hf:0<f.1)(hD:fD f=D)(h:Eqf g f)(hg:0<g.1):Cl D (fL g) (fL f):=by have:=zTt hg hf h;rw[hD]at this;exact this
theorem zU3{D:Int}{f g:F3}(hD:D<0)(hf:PrRc D f)(hg:PrRc D g)(h:Cl D (fL f) (fL g)):f=g:=by
 have d1:=zRO hf;have d2:=zRO hg;have h':Cl (fD g) (fL f) (fL g):=by rw[d2];exact h
 obtain⟨p,q,r,s,hdet,e1,e2,e3⟩:=zTo (zE9 hf) (zE9 hg) (by rw[d2];exact hD) (by rw[d1,d2]) h';obtain⟨k1,k2,k3⟩:=zUY hg.1 hg.2.1 hf.1 hf.2.1 hdet e1 e2 e3;exact Prod.ext k1.symm (Prod.ext k2.symm k3.symm)
theorem bez3{a b c:Int}(h:∀k:Int,k∣a→k∣b→k∣c→k∣1):∃x y z:Int,x*a+y*b+z*c=1:=by
 obtain⟨x,y,h1⟩:=zQ0 a b;obtain⟨u,v,h2⟩:=zQ0 (Int.gcd a b) c;have h3:((Int.gcd (Int.gcd a b) c:Nat):Int)∣1:=by
  refine h _ ?_ ?_ ?_
  ·exact Int.dvd_trans (Int.gcd_dvd_left _ _) (Int.gcd_dvd_left _ _)
  ·exact Int.dvd_trans (Int.gcd_dvd_left _ _) (Int.gcd_dvd_right _ _)
  ·exact Int.gcd_dvd_right _ _
 have h4:((Int.gcd (Int.gcd a b) c:Nat):Int)=1:=Int.eq_one_of_dvd_one (by omega) h3;refine⟨u*x,u*y,v,?_⟩;rw[←h4,←h2,←h1];grind
theorem zRN{f g:F3}(h:Eqf f g)(hg:∀k:Int,k∣g.1→k∣g.2.1→k∣g.2.2→k∣1)(k:Int)(h1:k∣f.1)(h2:k∣f.2.1)(h3:k∣f.2.2):k∣1:=by
 obtain⟨p,q,r,s,hdet,e1,e2,e3⟩:=h;obtain⟨x,hx⟩:=h1;obtain⟨y,hy⟩:=h2;obtain⟨z,hz⟩:=h3;have back:∀A B C:Int,(A*p*p+B*p*r+C*r*r)*s*s - (2*A*p*q+B*(p*s+q*r)+2*C*r*s)*s*r+(A*q*q+B*q*s+C*s*s)*r*r=A*((p*s - q*r)*(p*s - q*r)):=by intro A B C;grind
 have back2:∀A B C:Int,(A*p*p+B*p*r+C*r*r)*q*q - (2*A*p*q+B*(p*s+q*r)+2*C*r*s)*p*q+(A*q*q+B*q*s+C*s*s)*p*p=C*((p*s - q*r)*(p*s - q*r)):=by intro A B C;grind
 have back3:∀A B C:Int,(2*A*p*q+B*(p*s+q*r)+2*C*r*s)*(p*s+q*r) - 2*(A*p*p+B*p*r+C*r*r)*q*s - 2*(A*q*q+B*q*s+C*s*s)*p*r=B*((p*s - q*r)*(p*s - q*r)):=by intro A B C;grind
 have b1:=back g.1 g.2.1 g.2.2;have b2:=back2 g.1 g.2.1 g.2.2;have b3:=back3 g.1 g.2.1 g.2.2;rw[←e1,←e2,←e3,hdet,hx,hy,hz]at b1 b2 b3;refine hg k ⟨x*s*s - y*s*r+z*r*r,?_⟩ ⟨y*(p*s+q*r) - 2*x*q*s - 2*z*p*r,?_⟩ ⟨x*q*q - y*p*q+z*p*p,?_⟩
 ·have:k*x*s*s - k*y*s*r+k*z*r*r=k*(x*s*s - y*s*r+z*r*r):=by grind
  omega
 ·have:k*y*(p*s+q*r) - 2*(k*x)*q*s - 2*(k*z)*p*r=k*(y*(p*s+q*r) - 2*x*q*s - 2*z*p*r):=by grind
  omega
 ·have:k*x*q*q - k*y*p*q+k*z*p*p=k*(x*q*q - y*p*q+z*p*p):=by grind
  omega
theorem zUI{a e b c:Int}(h1:∃x y z:Int,x*a+y*b+z*(e*c)=1)(h2:∃x y z:Int,x*e+y*b+z*(a*c)=1)(k:Int)(k1:k∣a*e)(k2:k∣b)(k3:k∣c):k∣1:=by
 obtain⟨x,y,z,h1⟩:=h1;obtain⟨x',y',z',h2⟩:=h2;obtain⟨i,hi⟩:=k1;obtain⟨j,hj⟩:=k2;obtain⟨l,hl⟩:=k3;have h3:(x*a+y*b+z*(e*c))*(x'*e+y'*b+z'*(a*c))=1:=by rw[h1,h2];rfl
 refine⟨x*x'*i+j*(x*a*y'+y*(x'*e+y'*b+z'*(a*c))+z*(e*c)*y')+l*(x*a*(z'*a)+z*e*(x'*e)+z*e*(z'*(a*c))),?_⟩;rw[←h3];have e1:k*(x*x'*i+j*(x*a*y'+y*(x'*e+y'*b+z'*(a*c))+z*(e*c)*y')+l*(x*a*(z'*a)+z*e*(x'*e)+z*e*(z'*(a*c))))=x*x'*(k*i)+(k*j)*(x*a*y'+y*(x'*e+y'*b+z'*(a*c))+z*(e*c)*y')+(k*l)*(x*a*(z'*a)+z*e*(x'*e)+z*e*(z'*(a*c))):=by grind
 rw[e1,←hi,←hj,←hl];grind
end Go.Proofs.YtdedjieegpkabaaGreat
namespace Go.Proofs.YtdedjieegpkabaaGreat
theorem zOz{a x y:Int}(ha:1≤a)(h:4*a*x=4*a*y):x=y:=Int.eq_of_mul_eq_mul_left (by omega) h
theorem zXL{a b c e c1 b1 α D:Int}(ha:1≤a)(hd:b*b - 4*a*c=D)(bα:b1=b+2*a*α)(dis:b1*b1 - 4*a*e*c1=D):e*c1=a*α*α+b*α+c:=by
 refine zOz ha ?_
 have e1:4*a*(a*α*α+b*α+c)=b1*b1 - (b*b - 4*a*c):=by rw[bα];grind
 have e2:4*a*(e*c1)=4*a*e*c1:=by grind
 rw[e1,hd,e2];omega
theorem zUK{a b c e c1 b1 α D:Int}(ha:1≤a)(hd:b*b - 4*a*c=D)(bα:b1=b+2*a*α)(dis:b1*b1 - 4*a*e*c1=D):Eqf (a,b1,e*c1) (a,b,c):=by
 refine⟨1,α,0,1,by omega,?_,?_,?_⟩
 ·simp only[];omega
 ·simp only[];rw[bα];grind
 ·simp only[];rw[zXL ha hd bα dis];grind
theorem zUJ{a e c1 b1 β D A B C x q y s hB hC:Int}(he:1≤e)(mh:MatInv A B C x q y s e hB hC)(hd:B*B - 4*A*C=D)(bβ:b1=hB+2*e*β)(dis:b1*b1 - 4*a*e*c1=D):Eqf (e,b1,a*c1) (A,B,C)∧MatInv A B C x (x*β+q) y (y*β+s) e b1 (a*c1):=by
 have hd2:hB*hB - 4*e*hC=D:=by rw[zME mh,hd]
 have hf:=zXL (e:=a) (c1:=c1) he hd2 bβ (by rw[←dis];grind);have m:=mh.norm β;rw[←hf,show 2*e*β+hB=b1 by omega]at m;obtain⟨e1,e2,e3,e4⟩:=m;exact⟨⟨x,x*β+q,y,y*β+s,e4,e1.symm,e2.symm,e3.symm⟩,e1,e2,e3,e4⟩
structure Cmps (D:Int) (f g h f' g':F3) (p1 p2 p3 p4 q1 q2 q3 q4 x y q s e hB hC b1 c1 α β:Int):Prop where
  rf:zAL f=some (f',(p1,p2,p3,p4))
  rg:zAL g=some (g',(q1,q2,q3,q4))
  pf:PrRc D f'
  pg:PrRc D g'
  mf:MatInv f.1 f.2.1 f.2.2 p1 p2 p3 p4 f'.1 f'.2.1 f'.2.2
  mg:MatInv g.1 g.2.1 g.2.2 q1 q2 q3 q4 g'.1 g'.2.1 g'.2.2
  uni:Uni f'.1 f'.2.1 f'.2.2 g'.1 g'.2.1 g'.2.2 D x y q s e hB hC b1 c1 α β
  imp:zCT f' g'=some (f'.1,e,b1,c1,(1,α,0,1),(w64 (x+q*0),w64 (x*β+q),w64 (y+s*0),w64 (y*β+s)))
  spc:zB8 f g=(qJ (q1,q2,q3,q4) (x,q,y,s)).bind fun N1=>(qJ (p1,p2,p3,p4) (1,α,0,1)).bind fun M=>(qJ N1 (1,β,0,1)).bind fun N=>some ((f'.1,b1,e*c1),(e,b1,f'.1*c1),M,N)
  cf:CF D (f'.1*e,b1,c1)
  ae:f'.1*e≤250000
  ec:e*c1≤3000000000∧0≤e*c1∧1≤c1
  pb:p1.natAbs≤2000∧p2.natAbs≤2000∧p3.natAbs≤2000∧p4.natAbs≤2000
  qb:q1.natAbs≤2000∧q2.natAbs≤2000∧q3.natAbs≤2000∧q4.natAbs≤2000
  cl:Cl D (eP D (fL f) (fL g)) (fL (f'.1*e,b1,c1))
theorem zWc{D:Int}(hD1:-2000≤D)(hD2:D<0){f g:F3}(hf:CF D f)(hg:CF D g):∃f' g' p1 p2 p3 p4 q1 q2 q3 q4 x y q s e hB hC b1 c1 α β,∀h,Cmps D f g h f' g' p1 p2 p3 p4 q1 q2 q3 q4 x y q s e hB hC b1 c1 α β:=by
 obtain⟨⟨a,b,c⟩,p1,p2,p3,p4,i1,i2,i3,i4,i5,i6,i7,i8,i9,i10⟩:=zPo hf;obtain⟨⟨A,B,C⟩,q1,q2,q3,q4,j1,j2,j3,j4,j5,j6,j7,j8,j9,j10⟩:=zPo hg;obtain⟨x,y,q,s,e,hB,hC,b1,c1,α,β,u,k1,k2⟩:=zRn hD1 hD2 i3 j3;have ku:=u;obtain⟨mh,e1,e2,⟨m,n,hmn⟩,bα,bβ,b0,b2,dis,qb,sb,xy⟩:=u;have ha:1≤a:=i3.1;have hd:b*b - 4*a*c=D:=i3.2.2.1;have hD:B*B - 4*A*C=D:=j3.2.2.1;obtain⟨rb1,ra⟩:=zIW hD1 i3;simp only[]at ra;have hpa:0<A:=zE9 j3;have E1:=zUK (e:=e) ha hd bα dis;obtain⟨E2,_⟩:=zUJ (a:=a) e1 mh hD bβ dis;obtain⟨z1,z2⟩:=zRo ha e1 b0 b2 hD1 hD2 dis;have hae:a*e≤25*10000:=Int.mul_le_mul ra e2 (by omega) (by omega);have hae0:1*1≤a*e:=Int.mul_le_mul ha e1 (by omega) (by omega);have hae2:2*a*e=2*(a*e):=zm ..;have hec:e*c1≤10000*300000:=Int.mul_le_mul e2 (by omega) (by omega) (by omega);have hec0:0≤e*c1:=Int.mul_nonneg (by omega) (by omega);have P1:=zRN E1 i3.2.2.2;have P2:=zRN E2 j3.2.2.2;have P:=zUI (bez3 P1) (bez3 P2);have hcf:CF D (a*e,b1,c1):=by
  refine⟨⟨by omega,by simp only[];omega,by simp only[];omega,by simp only[];omega,z1,by simp only[];omega,?_,hD2,.inr (by simp only[];omega),?_⟩,by simp only[];omega⟩
  ·simp only[];rw[←dis];grind
  ·intro k;constructor
   ·rintro⟨t1,t2,t3⟩;exact P k t1 t2 t3
   ·intro t;exact⟨Int.dvd_trans t (Int.one_dvd _),Int.dvd_trans t (Int.one_dvd _),Int.dvd_trans t (Int.one_dvd _)⟩
 have hfD:fD f=D:=hf.1.dis;have hgD:fD g=D:=hg.1.dis;have hfp:0<f.1:=by have:=hf.1.a1;omega
 have hgp:0<g.1:=by have:=hg.1.a1;omega
 have hcl:Cl D (eP D (fL f) (fL g)) (fL (a*e,b1,c1)):=by have w1:=zKQ hfp hfD i4 (zE9 i3);have w2:=zKQ hgp hgD j4 (zE9 j3);have w3:=zKQ (f:=(a,b,c)) (g:=(a,b1,e*c1)) (D:=D) (zE9 i3) hd E1 (by show 0<a;omega);have w4:=zKQ (f:=(A,B,C)) (g:=(e,b1,a*c1)) (D:=D) (zE9 j3) hD E2 (by show 0<e;omega);have w5:=zT0 hD2 (zHN hD2 w3 w1) (zHN hD2 w4 w2);exact zHN hD2 (zQP w5) (zTs dis.symm hmn)
 refine⟨(a,b,c),(A,B,C),p1,p2,p3,p4,q1,q2,q3,q4,x,y,q,s,e,hB,hC,b1,c1,α,β,fun h=>⟨i1,j1,i3,j3,i5,j5,ku,?_,k2 f g _ _ i2 j2,hcf,hae,⟨hec,hec0,z1⟩,⟨i6,i7,i8,i9⟩,⟨j6,j7,j8,j9⟩,hcl⟩⟩;rw[k1,zPT];simp only[Option.bind_some,Int.mul_one,Int.mul_zero,Int.add_zero]
theorem zQO{D:Int}(hD1:-2000≤D)(hD2:D<0){f g:F3}(hf:CF D f)(hg:CF D g):∃h,zCL f g=some h∧zBv f g=some h∧PrRc D h∧CF D h∧Cl D (eP D (fL f) (fL g)) (fL h):=by
 obtain⟨f',g',p1,p2,p3,p4,q1,q2,q3,q4,x,y,q,s,e,hB,hC,b1,c1,α,β,k⟩:=zWc hD1 hD2 hf hg;obtain⟨rf,rg,pf,pg,mf,mg,uni,imp,spc,cf,ae,ec,pb,qb,cl⟩:=k f;obtain⟨h,m1,m2,m3,m4,i1,i2,i3,i4,i5,i6,i7,i8,i9,i10⟩:=zPo cf;have ha:1≤f'.1:=pf.1;have e1:=uni.e1;have hae0:1*1≤f'.1*e:=Int.mul_le_mul ha e1 (by omega) (by omega);have hcl:Cl D (eP D (fL f) (fL g)) (fL h):=by
  refine zHN hD2 cl (zQP (zKQ ?_ ?_ i4 (zE9 i3)))
  ·show 0<f'.1*e;omega
  ·exact cf.1.dis
 refine⟨h,?_,?_,i3,i10,hcl⟩
 ·simp only[zCL,zA9,rf,rg,imp,zBJ,Option.bind_some,zP];rw[zA (n:=f'.1*e) (by omega),i1];rfl
 ·unfold zBv;rw[spc,zTW,zPT];simp only[Option.bind_some,zPT];unfold zDQ;simp only[];rw[zC5 (show e≠0 by omega)];simp only[Option.bind_some,zP];rw[zA (n:=f'.1*e) (by omega),tdv (a:=e*c1) (b:=e) (c:=c1) (by omega) rfl,zA (n:=c1) (by
   have h1:1*c1≤e*c1:=Int.mul_le_mul_of_nonneg_right e1 (by omega);omega)]
  simp only[Option.bind_some,zB4,i2]
def gS(D:Int)(hD:D<0):Setoid (List El):=⟨Cl D,zWe D,zQP,zHN hD⟩
def GG(D:Int)(hD:D<0):Type:=Quotient (gS D hD)
def gM{D:Int}{hD:D<0}(x y:GG D hD):GG D hD:=Quotient.lift₂ (s₁:=gS D hD) (s₂:=gS D hD) (fun l m=>(Quotient.mk (gS D hD) (eP D l m):GG D hD)) (fun _ _ _ _ h k=>Quotient.sound (s:=gS D hD) (zT0 hD h k)) x y
def gC(D:Int)(hD:D<0)(f:F3):GG D hD:=Quotient.mk (gS D hD) (fL f)
theorem zW3{D:Int}{hD:D<0}(x y:GG D hD):gM x y=gM y x:=by
 induction x using Quotient.inductionOn with|_ x
 induction y using Quotient.inductionOn with|_ y
 exact Quotient.sound (s:=gS D hD) (zWf D x y)
theorem zVB{D:Int}{hD:D<0}(x y z:GG D hD):gM (gM x y) z=gM x (gM y z):=by
 induction x using Quotient.inductionOn with|_ x
 induction y using Quotient.inductionOn with|_ y
 induction z using Quotient.inductionOn with|_ z
 exact Quotient.sound (s:=gS D hD) (zV2 D x y z)
theorem zXS{D:Int}{hD:D<0}{f g:F3}:gC D hD f=gC D hD g↔Cl D (fL f) (fL g):=⟨fun h=>Quotient.exact h,fun h=>Quotient.sound h⟩
theorem zVA{D:Int}{hD:D<0}{f g h:F3}(k:Cl D (eP D (fL f) (fL g)) (fL h)):gM (gC D hD f) (gC D hD g)=gC D hD h:=Quotient.sound (s:=gS D hD) k
def pF(D:Int):F3:=(1,D % 2,(D % 2 - D) / 4)
def g1(D:Int)(hD:D<0):GG D hD:=gC D hD (pF D)
theorem zNX{D a b c:Int}(h:b*b - 4*a*c=D):D % 4≤1∧D % 2=b % 2:=by
 have e:4*a*c=4*(a*c):=zm ..;obtain⟨t,ht|ht⟩:∃t,b=2*t∨b=2*t+1:=⟨b / 2,by omega⟩
 ·rw[ht,show 2*t*(2*t)=4*(t*t) by grind]at h;omega
 ·rw[ht,show (2*t+1)*(2*t+1)=4*(t*t+t)+1 by grind]at h;omega
theorem zUw{D:Int}{hD:D<0}{f:F3}(hf:fD f=D):gM (g1 D hD) (gC D hD f)=gC D hD f:=by obtain⟨a,b,c⟩:=f;have hp:=zNX (a:=a) (b:=b) (c:=c) hf;exact zVA (zYj (m:=(b+D % 2) / 2) hf.symm (by omega))
theorem zU6{D:Int}(hD1:-2000≤D)(hD2:D<0)(h4:D % 4≤1):PrRc D (pF D):=by
 have e:(D % 2)*(D % 2)=D % 2:=by rcases (by omega:D % 2=0∨D % 2=1) with h|h<;>rw[h]<;>rfl
 refine⟨Int.le_refl 1,⟨⟨?_,?_⟩,?_⟩,?_,fun k h _ _=>h⟩
 ·show -1<D % 2;omega
 ·show D % 2≤1;omega
 ·show 1<(D % 2 - D) / 4∨(1=(D % 2 - D) / 4∧0≤D % 2)
  omega
 ·show D % 2*(D % 2) - 4*1*((D % 2 - D) / 4)=D;rw[e];omega
theorem zK0{D:Int}(hD1:-2000≤D)(hD2:D<0){f:F3}(h:PrRc D f):CF D f:=by obtain⟨r,ra⟩:=zIW hD1 h;obtain⟨h1,h2,h3,h4⟩:=h;obtain⟨r1,r2,r3,r4,r5,r6⟩:=r;refine⟨⟨h1,by omega,by omega,by omega,r5,by omega,h3,hD2,.inr (by omega),fun k=>⟨fun⟨a,b,c⟩=>h4 k a b c,fun t=>?_⟩⟩,by omega⟩;exact⟨Int.dvd_trans t (Int.one_dvd _),Int.dvd_trans t (Int.one_dvd _),Int.dvd_trans t (Int.one_dvd _)⟩
theorem zV3{D:Int}{f:F3}(h:CF D f):0<f.1:=by have:=h.1.a1;omega
theorem zT1{D:Int}{f:F3}(h:CF D f):fD f=D:=h.1.dis
theorem zU4{D:Int}{hD:D<0}{f g:F3}(hf:PrRc D f)(hg:PrRc D g)(h:gC D hD f=gC D hD g):f=g:=zU3 hD hf hg (zXS.1 h)
theorem zXX{D:Int}(hD1:-2000≤D)(hD:D<0){f g:F3}(hf:CF D f)(hg:CF D g):∃h,zCL f g=some h∧zBv f g=some h∧PrRc D h∧CF D h∧gC D hD h=gM (gC D hD f) (gC D hD g):=by obtain⟨h,h1,h2,h3,h4,h5⟩:=zQO hD1 hD hf hg;exact⟨h,h1,h2,h3,h4,(zVA h5).symm⟩
theorem redG{D:Int}(hD:D<0){f:F3}(hf:CF D f):∃g,zA9 f=some g∧zB4 f=some g∧PrRc D g∧CF D g∧gC D hD g=gC D hD f:=by obtain⟨g,m1,m2,m3,m4,k1,k2,k3,k4,k5,k6,k7,k8,k9,k10⟩:=zPo hf;exact⟨g,by simp only[zA9,k1,Option.bind_some],by simp only[zB4,k2,Option.bind_some],k3,k10,zXS.2 (zKQ (zV3 hf) (zT1 hf) k4 (zE9 k3))⟩
def opF(f:F3):F3:=(f.1,-f.2.1,f.2.2)
theorem zYl{D:Int}{f:F3}(h:CF D f):CF D (opF f):=by
 obtain⟨⟨a1,aM,b1,b2,c1,cM,dis,neg,nrm,con⟩,h2⟩:=h;refine⟨⟨a1,aM,by show -1900000≤-f.2.1;omega,by show -f.2.1≤1900000;omega,c1,cM,?_,neg,.inr h2,fun k=>?_⟩,h2⟩
 ·show -f.2.1*-f.2.1 - 4*f.1*f.2.2=D;rw[←dis];grind
 ·rw[←con k];constructor
  ·rintro⟨x,y,z⟩;exact⟨x,(Int.dvd_neg).1 y,z⟩
  ·rintro⟨x,y,z⟩;exact⟨x,(Int.dvd_neg).2 y,z⟩
theorem zYb{D:Int}{hD:D<0}{f:F3}(h:CF D f):gM (gC D hD f) (gC D hD (opF f))=g1 D hD:=by obtain⟨x,y,z,hx⟩:=bez3 (zTZ h.1);have hp:=zNX (a:=f.1) (b:=f.2.1) (c:=f.2.2) h.1.dis;exact zVA (zYk (a:=f.1) (b:=f.2.1) (c:=f.2.2) (m:=(f.2.1+D % 2) / 2) (zV3 h) h.1.dis.symm (by omega) hx)
def gF{D:Int}{hD:D<0}(x:GG D hD):Prop:=gM (g1 D hD) x=x
theorem gF_of{D:Int}{hD:D<0}{f:F3}(h:CF D f):gF (gC D hD f):=zUw (zT1 h)
end Go.Proofs.YtdedjieegpkabaaGreat
namespace Go.Proofs.YtdedjieegpkabaaGreat
theorem zOt{α:Type} [DecidableEq α]:∀(l L:List α),l.Nodup→(∀x∈l,x∈L)→l.length≤L.length
 |[],L,_,_=>Nat.zero_le _
 |a::t,L,h,hs=>by have ha:a∈L:=hs a (by simp);obtain⟨h1,h2⟩:=List.nodup_cons.1 h;have:=zOt t (L.erase a) h2 fun x hx=>(List.mem_erase_of_ne (by intro e;rw[e]at hx;exact h1 hx)).2 (hs x (by simp[hx]));rw[List.length_erase_of_mem ha]at this;have hl:0<L.length:=List.length_pos_of_mem ha;simp only[List.length_cons];omega
def boxL:List (Int×Int):=(List.range 26).flatMap fun (a:Nat)=>(List.range 60).map fun (b:Nat)=>(Int.ofNat a,Int.ofNat b - 30)
theorem zV5:boxL.length=1560:=by decide+kernel
theorem zV4{a b:Int}(h1:0≤a)(h2:a≤25)(h3:-26≤b)(h4:b≤26):(a,b)∈boxL:=by
 unfold boxL;refine List.mem_flatMap.2 ⟨a.toNat,List.mem_range.2 (by omega),List.mem_map.2 ⟨(b+30).toNat,List.mem_range.2 (by omega),?_⟩⟩;refine Prod.ext ?_ ?_
 ·show ((a.toNat:Nat):Int)=a;omega
 ·show (((b+30).toNat:Nat):Int) - 30=b;omega
section
variable {α:Type} (m:α→α→α) (e:α)
def pw(x:α):Nat→α
 |0=>e
 |n+1=>m (pw x n) x
structure GrL (G:List α):Prop where
  asc:∀x y z,m (m x y) z=m x (m y z)
  co:∀x y,m x y=m y x
  on:∀x,x∈G→m e x=x
  nd:G.Nodup
  me:e∈G
  mm:∀x y,x∈G→y∈G→m x y∈G
  iv:∀x,x∈G→∃y,y∈G∧m x y=e
variable {m e} {G:List α} (hG:GrL m e G)
include hG
theorem zDZ{x:α}(hx:x∈G):∀n,pw m e x n∈G
 |0=>hG.me
 |n+1=>hG.mm _ _ (zDZ hx n) hx
theorem zF1{x:α}(hx:x∈G)(a:Nat):∀b,pw m e x (a+b)=m (pw m e x a) (pw m e x b)
 |0=>by show pw m e x a=m (pw m e x a) e;rw[hG.co,hG.on _ (zDZ hG hx a)]
 |b+1=>by show m (pw m e x (a+b)) x=m (pw m e x a) (m (pw m e x b) x);rw[zF1 hx a b,hG.asc]
theorem zU1{x:α}(hx:x∈G):pw m e x 1=x:=hG.on x hx
theorem pw_e:∀n,pw m e e n=e
 |0=>rfl
 |n+1=>by show m (pw m e e n) e=e;rw[pw_e n];exact hG.on e hG.me
theorem zGR{x:α}(hx:x∈G)(a:Nat):∀b,pw m e x (a*b)=pw m e (pw m e x a) b
 |0=>rfl
 |b+1=>by rw[Nat.mul_succ,zF1 hG hx,zGR hx a b];rfl
theorem zPp{x y:α}(hx:x∈G)(hy:y∈G):∀n,pw m e (m x y) n=m (pw m e x n) (pw m e y n)
 |0=>(hG.on e hG.me).symm
 |n+1=>by show m (pw m e (m x y) n) (m x y)=m (m (pw m e x n) x) (m (pw m e y n) y);rw[zPp hx hy n,hG.asc,hG.asc];congr 1;rw[←hG.asc,hG.co _ x,hG.asc]
theorem zQB{x y z:α}(hx:x∈G)(hy:y∈G)(hz:z∈G)(h:m x y=m x z):y=z:=by
 obtain⟨w,hw,h1⟩:=hG.iv x hx;have:m w (m x y)=m w (m x z):=by rw[h]
 rw[←hG.asc,←hG.asc,hG.co w x,h1,hG.on _ hy,hG.on _ hz]at this;exact this
structure SbL (m:α→α→α) (e:α) (G H:List α):Prop where
  nd:H.Nodup
  sub:∀x,x∈H→x∈G
  me:e∈H
  mm:∀x y,x∈H→y∈H→m x y∈H
  iv:∀x,x∈H→∃y,y∈H∧m x y=e
theorem zXN{H:List α}(hH:SbL m e G H){x:α}(hx:x∈H):∀n,pw m e x n∈H
 |0=>hH.me
 |n+1=>hH.mm _ _ (zXN hH hx n) hx
theorem zUV{H:List α}(hH:SbL m e G H){x y:α}(hx:x∈H)(hy:y∈G)(h:m x y∈H):y∈H:=by obtain⟨w,hw,h1⟩:=hH.iv x hx;have h2:=hH.mm _ _ hw h;rw[←hG.asc,hG.co w x,h1,hG.on _ hy]at h2;exact h2
def exL(m:α→α→α)(e:α)(H:List α)(x:α)(r:Nat):List α:=(List.range r).flatMap fun j=>H.map fun h=>m h (pw m e x j)
theorem zVL(H:List α)(x:α)(r:Nat):(exL m e H x r).length=r*H.length:=by unfold exL;rw[List.length_flatMap];simp only[List.length_map];rw[List.map_const',List.sum_replicate_nat,List.length_range]
theorem zKM{H:List α}{x y:α}{r:Nat}:y∈exL m e H x r↔∃j,j<r∧∃h,h∈H∧m h (pw m e x j)=y:=by unfold exL;simp[List.mem_flatMap]
theorem zSX{H:List α}(hH:SbL m e G H){x:α}(hx:x∈G){r:Nat}(h1:1≤r)(hr:pw m e x r∈H):∀(n:Nat){h:α},h∈H→m h (pw m e x n)∈exL m e H x r:=by
 intro n
 induction n using Nat.strongRecOn with
 |_ n ih=>
  intro h hh;by_cases hn:n<r
  ·exact (zKM hG).2 ⟨n,hn,h,hh,rfl⟩
  ·have e1:n=r+(n - r):=by omega
   have:=ih (n - r) (by omega) (hH.mm _ _ hh hr);rw[hG.asc,←zF1 hG hx,←e1]at this;exact this
theorem zXU{H:List α}(hH:SbL m e G H){x:α}(hx:x∈G){r:Nat}(h1:1≤r)(hr:pw m e x r∈H)(hl:∀j,1≤j→j<r→pw m e x j∉H):SbL m e G (exL m e H x r):=by
 refine⟨?_,?_,?_,?_,?_⟩
 ·unfold exL;unfold List.Nodup;rw[List.pairwise_flatMap];refine⟨fun j _=>?_,?_⟩
  ·rw[List.pairwise_map];refine List.Pairwise.imp_of_mem ?_ hH.nd
   intro a b ha hb hab heq;refine hab ?_
   rw[hG.co a,hG.co b]at heq;exact zQB hG (zDZ hG hx j) (hH.sub _ ha) (hH.sub _ hb) heq
  ·refine List.Pairwise.imp_of_mem ?_ (List.pairwise_lt_range (n:=r))
   intro i j hi hj hij;intro y h1 y' h2;rw[List.mem_map]at h1 h2;obtain⟨a,ha,rfl⟩:=h1;obtain⟨b,hb,rfl⟩:=h2;intro hab;have hab:=hab.symm;have hj:=List.mem_range.1 hj;refine hl (j - i) (by omega) (by omega) ?_
   have e1:j=(j - i)+i:=by omega
   rw[e1,zF1 hG hx,←hG.asc]at hab;have e2:m b (pw m e x (j - i))=a:=by rw[hG.co _ (pw m e x i),hG.co a]at hab;exact zQB hG (zDZ hG hx i) (hG.mm _ _ (hH.sub _ hb) (zDZ hG hx _)) (hH.sub _ ha) hab
   exact zUV hG hH hb (zDZ hG hx _) (by rw[e2];exact ha)
 ·intro y hy;obtain⟨j,_,h,hh,rfl⟩:=(zKM hG).1 hy;exact hG.mm _ _ (hH.sub _ hh) (zDZ hG hx j)
 ·have:=zSX hG hH hx h1 hr 0 hH.me;rw[show pw m e x 0=e from rfl,hG.on _ hG.me]at this;exact this
 ·intro y z hy hz;obtain⟨j,_,h,hh,rfl⟩:=(zKM hG).1 hy;obtain⟨k,_,g,hg,rfl⟩:=(zKM hG).1 hz;have:=zSX hG hH hx h1 hr (j+k) (hH.mm _ _ hh hg);rw[zF1 hG hx]at this;have e1:m (m h (pw m e x j)) (m g (pw m e x k))=m (m h g) (m (pw m e x j) (pw m e x k)):=by
   rw[hG.asc,hG.asc,←hG.asc (pw m e x j),hG.co (pw m e x j) g,hG.asc]
  rw[e1];exact this
 ·intro y hy;obtain⟨j,hj,h,hh,rfl⟩:=(zKM hG).1 hy;obtain⟨h',hh',e1⟩:=hH.iv h hh;obtain⟨w,hw,e2⟩:=hH.iv _ hr;have:=zSX hG hH hx h1 hr (r - j) (hH.mm _ _ hh' hw);refine⟨_,this,?_⟩;have e3:m (pw m e x j) (pw m e x (r - j))=pw m e x r:=by rw[←zF1 hG hx];congr 1;omega
  have e4:m (m h (pw m e x j)) (m (m h' w) (pw m e x (r - j)))=m (m h h') (m (m (pw m e x j) (pw m e x (r - j))) w):=by rw[hG.asc,hG.asc,hG.asc,hG.asc,←hG.asc (pw m e x j) h',hG.co (pw m e x j) h',hG.asc h',hG.co w]
  rw[e4,e3,e1,e2,hG.on _ hG.me]
theorem zEJ [DecidableEq α]:∀(l L:List α),l.Nodup→(∀x∈l,x∈L)→l.length≤L.length:=by
 intro l
 induction l with
 |nil=>intro L _ _;exact Nat.zero_le _
 |cons a t ih=>intro L h hs;have ha:a∈L:=hs a (by simp);obtain⟨h1,h2⟩:=List.nodup_cons.1 h;have:=ih (L.erase a) h2 fun x hx=>(List.mem_erase_of_ne (by intro e;rw[e]at hx;exact h1 hx)).2 (hs x (by simp[hx]));rw[List.length_erase_of_mem ha]at this;have hl:0<L.length:=List.length_pos_of_mem ha;simp only[List.length_cons];omega
theorem zNJ{H:List α}{x:α}:∀(n:Nat),1≤n→pw m e x n∈H→∃r,1≤r∧r≤n∧pw m e x r∈H∧∀j,1≤j→j<r→pw m e x j∉H:=by
 intro n
 induction n using Nat.strongRecOn with
 |_ n ih=>
  intro h1 h2;by_cases h:∃j,1≤j∧j<n∧pw m e x j∈H
  ·obtain⟨j,a,b,c⟩:=h;obtain⟨r,r1,r2,r3,r4⟩:=ih j b a c;exact⟨r,r1,by omega,r3,r4⟩
  ·exact⟨n,h1,Nat.le_refl _,h2,fun j a b c=>h ⟨j,a,b,c⟩⟩
theorem zOv{H:List α}(hH:SbL m e G H){x:α}(hx:x∈G){r:Nat}(h1:1≤r)(hr:pw m e x r∈H)(hl:∀j,1≤j→j<r→pw m e x j∉H):∀n,pw m e x n∈H→r∣n:=by
 intro n
 induction n using Nat.strongRecOn with
 |_ n ih=>
  intro h;by_cases hn:n<r
  ·by_cases h0:n=0
   ·rw[h0];exact Nat.dvd_zero r
   ·exact absurd h (hl n (by omega) hn)
  ·have e1:n=r+(n - r):=by omega
   have h2:pw m e x (n - r)∈H:=by rw[e1,zF1 hG hx]at h;exact zUV hG hH hr (zDZ hG hx _) h
   have:=ih (n - r) (by omega) h2;rw[e1];exact Nat.dvd_add (Nat.dvd_refl r) this
theorem zSm{H:List α}(hH:SbL m e G H){x:α}(hx:x∈G):∃n,1≤n∧pw m e x n∈H:=by
 classical
 have hcol:∃i j,i<j∧pw m e x i=pw m e x j:=by
  refine Classical.byContradiction fun hno=>?_
  have nd:((List.range (G.length+1)).map fun k=>pw m e x k).Nodup:=by
   unfold List.Nodup;rw[List.pairwise_map];refine List.Pairwise.imp ?_ (List.pairwise_lt_range (n:=G.length+1))
   intro i j hij h;exact hno ⟨i,j,hij,h⟩
  have:=zEJ hG _ G nd fun y hy=>by obtain⟨k,_,rfl⟩:=List.mem_map.1 hy;exact zDZ hG hx k
  rw[List.length_map,List.length_range]at this;omega
 obtain⟨i,j,hij,h⟩:=hcol;refine⟨j - i,by omega,?_⟩;have e1:pw m e x j=m (pw m e x i) (pw m e x (j - i)):=by rw[←zF1 hG hx];congr 1;omega
 have e2:m (pw m e x i) e=m (pw m e x i) (pw m e x (j - i)):=by rw[←e1,←h,hG.co,hG.on _ (zDZ hG hx i)]
 rw[←zQB hG (zDZ hG hx i) hG.me (zDZ hG hx _) e2];exact hH.me
theorem zN1{K:List α}(hK:SbL m e G K){n c:Nat}(hn:∀x∈K,pw m e x n=e)(hc:Nat.Coprime c n):∀(t:Nat)(H:List α),SbL m e G H→(∀x∈H,x∈K)→K.length - H.length≤t→Nat.Coprime c H.length→H.length∣K.length∧Nat.Coprime c K.length:=by
 classical
 intro t
 induction t with
 |zero=>
  intro H hH hs ht hcH;have h1:=zEJ hG H K hH.nd hs;have:H.length=K.length:=by omega
  rw[←this];exact⟨Nat.dvd_refl _,hcH⟩
 |succ t ih=>
  intro H hH hs ht hcH;by_cases hall:∀x∈K,x∈H
  ·have h1:=zEJ hG H K hH.nd hs;have h2:=zEJ hG K H hK.nd hall;have:H.length=K.length:=by omega
   rw[←this];exact⟨Nat.dvd_refl _,hcH⟩
  ·have ⟨x,hx⟩:∃x,x∈K∧x∉H:=by
    refine Classical.byContradiction fun hno=>hall fun x hx=>?_
    exact Classical.byContradiction fun h=>hno ⟨x,hx,h⟩
   obtain⟨hxK,hxH⟩:=hx;have hxG:=hK.sub x hxK;obtain⟨n',n1,n2⟩:=zSm hG hH hxG;obtain⟨r,r1,_,r3,r4⟩:=zNJ hG n' n1 n2;have hr1:r≠1:=fun h=>hxH (by rw[h,zU1 hG hxG]at r3;exact r3);have hsb:=zXU hG hH hxG r1 r3 r4;have hrn:r∣n:=zOv hG hH hxG r1 r3 r4 n (by rw[hn x hxK];exact hH.me);have hlen:=zVL hG H x r;have hpos:0<H.length:=List.length_pos_of_mem hH.me;have hsub:∀y∈exL m e H x r,y∈K:=by intro y hy;obtain⟨j,_,h,hh,rfl⟩:=(zKM hG).1 hy;exact hK.mm _ _ (hs h hh) (zXN hG hK hxK j)
   have hge:2*H.length≤(exL m e H x r).length:=by rw[hlen];exact Nat.mul_le_mul_right _ (by omega)
   obtain⟨k1,k2⟩:=ih _ hsb hsub (by omega) (by rw[hlen];exact Nat.Coprime.mul_right (Nat.Coprime.coprime_dvd_right hrn hc) hcH)
   refine⟨Nat.dvd_trans ?_ k1,k2⟩;rw[hlen];exact Nat.dvd_mul_left _ _
theorem zX4:SbL m e G G:=⟨hG.nd,fun _ h=>h,hG.me,hG.mm,hG.iv⟩
theorem zP8:SbL m e G [e]:=by
 have he:=hG.on e hG.me;refine⟨by simp,fun x hx=>?_,by simp,fun x y hx hy=>?_,fun x hx=>⟨e,by simp,?_⟩⟩
 ·rw[List.mem_singleton.1 hx];exact hG.me
 ·rw[List.mem_singleton.1 hx,List.mem_singleton.1 hy,he];simp
 ·rw[List.mem_singleton.1 hx];exact he
theorem lagr{H:List α}(hH:SbL m e G H):H.length∣G.length:=by refine (zN1 hG (zX4 hG) (n:=0) (c:=1) ?_ (Nat.coprime_one_left _) _ H hH hH.sub (Nat.le_refl _) (Nat.coprime_one_left _)).1;intro x hx;rfl
theorem zU2{x:α}(hx:x∈G):pw m e x G.length=e:=by have h0:=zP8 hG;obtain⟨n,n1,n2⟩:=zSm hG h0 hx;obtain⟨r,r1,_,r3,r4⟩:=zNJ hG n n1 n2;have hsb:=zXU hG h0 hx r1 r3 r4;have hl:=lagr hG hsb;rw[zVL hG]at hl;obtain⟨k,hk⟩:=hl;rw[hk,List.length_singleton,Nat.mul_one,zGR hG hx,List.mem_singleton.1 r3,pw_e hG]
theorem zUU [DecidableEq α](a:Nat):SbL m e G (G.filter fun x=>decide (pw m e x a=e)):=by
 refine⟨List.Pairwise.filter _ hG.nd,fun x hx=>(List.mem_filter.1 hx).1,?_,fun x y hx hy=>?_,fun x hx=>?_⟩
 ·rw[List.mem_filter,zp];exact⟨hG.me,pw_e hG a⟩
 ·rw[List.mem_filter,zp]at*;refine⟨hG.mm _ _ hx.1 hy.1,?_⟩;rw[zPp hG hx.1 hy.1,hx.2,hy.2,hG.on _ hG.me]
 ·rw[List.mem_filter,zp]at hx;obtain⟨y,y1,y2⟩:=hG.iv x hx.1;refine⟨y,?_,y2⟩;rw[List.mem_filter,zp];refine⟨y1,?_⟩;have:=zPp hG hx.1 y1 a;rw[y2,pw_e hG,hx.2,hG.on _ (zDZ hG y1 a)]at this;exact this.symm
theorem zTn [DecidableEq α]{a b:Nat}(ha:1≤a)(hb:1≤b)(hab:G.length=a*b)(hc:Nat.Coprime a b):(G.filter fun x=>decide (pw m e x a=e)).length=a:=by
 have hA:=zUU hG a;have hB:=zUU hG b;have dA:(G.filter fun x=>decide (pw m e x a=e)).length∣a:=by have h1:=lagr hG hA;have h2:=(zN1 hG hA (n:=a) (c:=b) (fun x hx=>of_decide_eq_true (List.mem_filter.1 hx).2) hc.symm _ [e] (zP8 hG) (fun x hx=>by rw[List.mem_singleton.1 hx];exact hA.me) (Nat.le_refl _) (by simp)).2;rw[hab]at h1;exact Nat.Coprime.dvd_of_dvd_mul_right h2.symm h1
 have dB:(G.filter fun x=>decide (pw m e x b=e)).length∣b:=by have h1:=lagr hG hB;have h2:=(zN1 hG hB (n:=b) (c:=a) (fun x hx=>of_decide_eq_true (List.mem_filter.1 hx).2) hc _ [e] (zP8 hG) (fun x hx=>by rw[List.mem_singleton.1 hx];exact hB.me) (Nat.le_refl _) (by simp)).2;rw[hab]at h1;exact Nat.Coprime.dvd_of_dvd_mul_left h2.symm h1
 have lA:=Nat.le_of_dvd (by omega) dA;have lB:=Nat.le_of_dvd (by omega) dB;have h1ab:1≤a*b:=Nat.mul_le_mul ha hb;obtain⟨u,v,t,huv⟩:∃u v t:Nat,b*v+a*u=a*b*t+1:=by
  obtain⟨x,y,hxy⟩:=zT3 a b;rw[hc]at hxy;have q1:=Int.emod_add_mul_ediv x b;have q2:=Int.emod_add_mul_ediv y a;have p1:0≤x % (b:Int):=zn _ (by omega);have p2:0≤y % (a:Int):=zn _ (by omega);generalize x % (b:Int)=X at*;generalize y % (a:Int)=Y at*;generalize x / (b:Int)=p at*;generalize y / (a:Int)=q at*;obtain⟨X,rfl⟩:=Int.eq_ofNat_of_zero_le p1;obtain⟨Y,rfl⟩:=Int.eq_ofNat_of_zero_le p2;have e1:(b:Int)*Y+a*(X+b)=a*b*(1 - p - q)+1:=by
   have:x*a+y*b=1:=by omega
   rw[←q1,←q2]at this;grind
  have ht:0≤1 - p - q:=by
   rcases Int.lt_or_le (1 - p - q) 0 with h|h
   ·exfalso
    have h2:(a:Int)*b*(1 - p - q)≤a*b*(-1):=zg (by omega) (by exact_mod_cast Nat.zero_le (a*b));have h3:(0:Int)≤b*Y:=by exact_mod_cast Nat.zero_le (b*Y)
    have h4:(0:Int)≤a*X:=by exact_mod_cast Nat.zero_le (a*X)
    have h5:(1:Int)≤a*b:=by exact_mod_cast h1ab
    have h6:(a:Int)*(X+b)=a*X+a*b:=Int.mul_add ..;omega
   ·exact h
  obtain⟨t,ht⟩:=Int.eq_ofNat_of_zero_le ht;rw[ht]at e1;exact⟨X+b,Y,t,by exact_mod_cast e1⟩
 have hcov:∀z∈G,z∈(G.filter fun x=>decide (pw m e x a=e)).flatMap fun x=>(G.filter fun x=>decide (pw m e x b=e)).map fun y=>m x y:=by
  intro z hz;have hall:=zU2 hG hz;rw[hab]at hall;refine List.mem_flatMap.2 ⟨pw m e z (b*v),List.mem_filter.2 ⟨zDZ hG hz _,za ?_⟩,List.mem_map.2 ⟨pw m e z (a*u),List.mem_filter.2 ⟨zDZ hG hz _,za ?_⟩,?_⟩⟩
  ·rw[←zGR hG hz,show b*v*a=a*b*v by grind,zGR hG hz,hall,pw_e hG]
  ·rw[←zGR hG hz,show a*u*b=a*b*u by grind,zGR hG hz,hall,pw_e hG]
  ·rw[←zF1 hG hz,huv,zF1 hG hz,zGR hG hz,hall,pw_e hG,zU1 hG hz,hG.on _ hz]
 have hle:=zEJ hG G _ hG.nd hcov;rw[List.length_flatMap]at hle;simp only[List.length_map]at hle;rw[List.map_const',List.sum_replicate_nat]at hle;rw[hab]at hle;have h3:a*b≤(G.filter fun x=>decide (pw m e x a=e)).length*b:=Nat.le_trans hle (Nat.mul_le_mul_left _ lB);have:=Nat.le_of_mul_le_mul_right h3 (by omega);omega
end
section
variable {α:Type} {m:α→α→α} {e:α} {G:List α} (hG:GrL m e G)
include hG
theorem zXf{x:α}(hx:x∈G):∃r,1≤r∧r≤G.length∧pw m e x r=e∧∀j,1≤j→j<r→pw m e x j≠e:=by have h1:1≤G.length:=List.length_pos_of_mem hx;obtain⟨r,r1,r2,r3,r4⟩:=zNJ hG (H:=[e]) G.length h1 (List.mem_singleton.2 (zU2 hG hx));exact⟨r,r1,r2,List.mem_singleton.1 r3,fun j a b c=>r4 j a b (List.mem_singleton.2 c)⟩
theorem zWP{x:α}(hx:x∈G){r:Nat}(h1:1≤r)(h2:pw m e x r=e)(h3:∀j,1≤j→j<r→pw m e x j≠e)(q:Nat):pw m e x q=e↔q % r=0:=by
 constructor
 ·intro h;exact Nat.mod_eq_zero_of_dvd (zOv hG (zP8 hG) hx h1 (List.mem_singleton.2 h2) (fun j a b c=>h3 j a b (List.mem_singleton.1 c)) q (List.mem_singleton.2 h))
 ·intro h;obtain⟨k,rfl⟩:=Nat.dvd_of_mod_eq_zero h;rw[zGR hG hx,h2,pw_e hG]
noncomputable def nE(m:α→α→α)(e:α)(G:List α)(q:Nat):Nat:=by
  classical exact (G.filter fun x=>decide (pw m e x q=e)).length
theorem zXh(q:Nat):1≤nE m e G q:=by
 classical
 unfold nE;exact List.length_pos_of_mem (List.mem_filter.2 ⟨hG.me,za (pw_e hG q)⟩)
theorem zWT{q q':Nat}(h:q∣q'):nE m e G q≤nE m e G q':=by
 classical
 unfold nE;refine zEJ hG _ _ (List.Pairwise.filter _ hG.nd) fun x hx=>?_
 rw[List.mem_filter,zp]at*;obtain⟨k,rfl⟩:=h;exact⟨hx.1,by rw[zGR hG hx.1,hx.2,pw_e hG]⟩
theorem zTB{a b:Nat}(ha:1≤a)(hb:1≤b)(hab:G.length=a*b)(hc:Nat.Coprime a b):nE m e G a=a:=by
 classical
 unfold nE;exact zTn hG ha hb hab hc
theorem zXj:nE m e G 1=1:=zTB hG (Nat.le_refl 1) (List.length_pos_of_mem hG.me) (by rw[Nat.one_mul]) (Nat.coprime_one_left _)
theorem zXi{o:List Nat}(ho:o.length=G.length)(hr:∀(i:Nat)(x:α)(r:Nat),G[i]?=some x→o[i]?=some r→1≤r∧pw m e x r=e∧∀j,1≤j→j<r→pw m e x j≠e)(q:Nat):o.countP (fun r=>q % r==0)=nE m e G q:=by
 classical
 unfold nE;have key:∀(G':List α)(o':List Nat),o'.length=G'.length→(∀(i:Nat)(x:α)(r:Nat),G'[i]?=some x→o'[i]?=some r→(pw m e x q=e↔q % r=0))→o'.countP (fun r=>q % r==0)=(G'.filter fun x=>decide (pw m e x q=e)).length:=by
  intro G'
  induction G' with
  |nil=>intro o' h _;rw[List.eq_nil_of_length_eq_zero h];rfl
  |cons x G' ih=>
   intro o' h h2;cases o' with
   |nil=>simp at h
   |cons r o'=>
    have h3:=h2 0 x r rfl rfl;have h4:=ih o' (by simpa using h) fun i y s h5 h6=>h2 (i+1) y s (by simpa using h5) (by simpa using h6);rw[List.countP_cons,h4,List.filter_cons];by_cases hq:q % r=0
    ·rw[if_pos (za (h3.2 hq)),hq];rfl
    ·have h5:¬pw m e x q=e:=fun hp=>hq (h3.1 hp);have h6:¬(q % r==0)=true:=fun hp=>hq (eq_of_beq hp);have h7:¬decide (pw m e x q=e)=true:=fun hp=>h5 (of_decide_eq_true hp);rw[if_neg h7,if_neg h6];rfl
 refine key G o ho fun i x r h1 h2=>?_
 obtain⟨k1,k2,k3⟩:=hr i x r h1 h2;exact zWP hG (List.mem_of_getElem? h1) k1 k2 k3 q
end
def upz:Nat→Int→List Int
 |0,_=>[]
 |f+1,y=>y::upz f (y+1)
theorem zPy:∀(f:Nat)(y z:Int),z∈upz f y↔y≤z∧z<y+f
 |0,y,z=>by simp[upz]
 |f+1,y,z=>by rw[upz,List.mem_cons,zPy f (y+1) z];push_cast;omega
theorem zUH:∀(f:Nat)(y:Int),(upz f y).Pairwise (·<·)
 |0,y=>List.Pairwise.nil
 |f+1,y=>by rw[upz,List.pairwise_cons];refine⟨fun z hz=>?_,zUH f (y+1)⟩;have:=(zPy f (y+1) z).1 hz;omega
theorem zPS:∀(f:Nat)(y:Int),(upz f y).length=f
 |0,y=>rfl
 |f+1,y=>by rw[upz,List.length_cons,zPS f (y+1)]
theorem zWH{a b c:Int}(ha:1≤a)(haM:a≤1000000):zBm (a,b,c)=some (decide (zAu a b c)):=by rw[zS1];exact zGN ha haM
def cfR(d a b:Int):Int×Int×Int:=(a,b,Int.tdiv (b*b - d) (4*a))
def okR(d:Int)(f:Int×Int×Int):Bool:=eqI (f.2.1*f.2.1 - 4*f.1*f.2.2) d&&decide (zAu f.1 f.2.1 f.2.2)
def rowR(d a:Int)(n:Nat)(b:Int):List (Int×Int×Int):=((upz n b).map (cfR d a)).filter (okR d)
theorem zEh{d a b:Int}{n:Nat}{f:Int×Int×Int}(h:f∈rowR d a n b):f.1=a:=by unfold rowR at h;obtain⟨b',_,hb⟩:=List.mem_map.1 (List.mem_filter.1 h).1;rw[←hb];rfl
theorem zSk{x m:Int}(hm:1≤m):(Int.tdiv x m).natAbs≤x.natAbs:=by rw[Int.natAbs_tdiv];exact Nat.div_le_self _ _
theorem zHF{d a:Int}(ha1:1≤a)(ha:a≤1000)(hd1:-2000≤d)(hd2:d≤-3):∀(m fu:Nat)(b:Int)(acc:List (Int×Int×Int)),b+m=a+1→-1000≤b→m<fu→acc.length+m≤100000000→
  zAn a d fu b acc=some (acc++rowR d a m b)
 |m,0,b,acc,_,_,h,_=>by omega
 |0,fu+1,b,acc,hb,hb0,hf,hl=>by rw[zAn,jL,decide_eq_false (by omega),cond_false];simp[rowR,upz]
 |m+1,fu+1,b,acc,hb,hb0,hf,hl=>by
  rw[zAn,jL,za (by omega),cond_true];have b1:=zX (x:=b) (y:=b) (A:=1000) (B:=1000) (by omega) (by omega);have e4:w64 (4*a)=4*a:=zA (by omega);have e5:w64 (w64 (b*b) - d)=b*b - d:=by rw[jQ (n:=b*b) (by omega),jQ (by omega)]
  have q1:=zSk (x:=b*b - d) (m:=4*a) (by omega);generalize hc:Int.tdiv (b*b - d) (4*a)=c at q1;have b2:=zX (x:=4*a) (y:=c) (A:=4000) (B:=1002000) (by omega) (by omega);have ed:zA4 (a,b,c)=some (b*b - 4*a*c):=by simp only[zA4,zP];rw[jQ (n:=b*b) (by omega),e4,jQ (n:=4*a*c) (by omega),jQ (by omega)]
  have ew:w64 (b+1)=b+1:=zA (by omega);have hcf:cfR d a b=(a,b,c):=by unfold cfR;rw[hc]
  rw[e4,nzOk (by omega),e5,hc,jQ (n:=c) (by omega)];simp only[Option.bind_some,zP,ed,zWH ha1 (show a≤1000000 by omega),ew];have hrow:rowR d a (m+1) b=(if okR d (a,b,c) then [(a,b,c)] else [])++rowR d a m (b+1):=by unfold rowR;rw[upz,List.map_cons,List.filter_cons,hcf];cases okR d (a,b,c)<;>simp
  rw[hrow];unfold okR;dsimp only;cases h1:eqI (b*b - 4*a*c) d with
  |true=>
   rw[cond_true];simp only[Option.bind_some,Bool.true_and];cases h2:decide (zAu a b c) with
   |true=>rw[cond_true,zCf (by simp;omega)];simp only[Option.bind_some];rw[zHF ha1 ha hd1 hd2 m fu (b+1) _ (by omega) (by omega) (by omega) (by simp;omega)];simp
   |false=>rw[cond_false];rw[zHF ha1 ha hd1 hd2 m fu (b+1) _ (by omega) (by omega) (by omega) (by omega)];simp
  |false=>rw[cond_false];simp only[Option.bind_some,Bool.false_and,cond_false];rw[zHF ha1 ha hd1 hd2 m fu (b+1) _ (by omega) (by omega) (by omega) (by omega)];simp
theorem zFI{a b:Int}(h0:0≤a)(h:a≤b):a*a≤b*b:=Int.mul_le_mul h h h0 (by omega)
theorem zJ2{d:Int}(hd1:-2000≤d)(hd2:d≤-3):∀(m fu:Nat)(a:Int)(acc:List (Int×Int×Int)),1≤a→a+m=27→m<fu→(acc.length:Int)≤1000*a→
  ∃L,zBQ d fu a acc=some (acc++L)∧(L.length:Int)+1000*a≤28000∧(∀f,f∈L↔a≤f.1∧3*f.1*f.1≤-d∧f∈rowR d f.1 (2*f.1).toNat (1 - f.1))∧∃asq:List Int,asq.Pairwise (·<·)∧(∀x∈asq,a≤x∧x≤26)∧L=asq.flatMap fun a=>rowR d a (2*a).toNat (1 - a)
 |m,0,a,acc,_,_,h,_=>by omega
 |m,fu+1,a,acc,ha,hm,hf,hl=>by
  have b1:=zX (x:=3*a) (y:=a) (A:=81) (B:=27) (by omega) (by omega);have e1:w64 (w64 (3*a)*a)=3*a*a:=by rw[zA (n:=3*a) (by omega),jQ (by omega)]
  have e2:w64 (0 - d)=-d:=by rw[zA (by omega)];omega
  rw[zBQ,e1,e2,jL];by_cases h:3*a*a≤-d
  ·have ha2:a≤26:=by
    rcases Int.lt_or_le 26 a with h2|h2
    ·have h3:=zFI (a:=27) (b:=a) (by omega) (by omega);have e:3*a*a=3*(a*a):=by grind
     omega
    ·exact h2
   obtain⟨m',rfl⟩:∃m',m=m'+1:=⟨m - 1,by omega⟩
   have hF:=FUge;rw[za h,cond_true,zA (n:=1 - a) (by omega),zA (n:=a+1) (by omega)];simp only[zP];rw[zHF ha (by omega) hd1 hd2 (2*a).toNat FU (1 - a) acc (by omega) (by omega) (by omega) (by omega)];simp only[Option.bind_some];have hrl:(rowR d a (2*a).toNat (1 - a)).length≤(2*a).toNat:=by
    unfold rowR;refine Nat.le_trans (List.length_filter_le _ _) ?_
    rw[List.length_map,zPS];exact Nat.le_refl _
   obtain⟨L,k1,k2,k3,asq,k4,k5,k6⟩:=zJ2 hd1 hd2 m' fu (a+1) (acc++rowR d a (2*a).toNat (1 - a)) (by omega) (by omega) (by omega) (by rw[zb];omega);refine⟨rowR d a (2*a).toNat (1 - a)++L,by rw[k1,List.append_assoc],by rw[zb];omega,fun f=>?_,a::asq,?_,?_,?_⟩
   ·rw[List.mem_append,k3];constructor
    ·rintro (h1|⟨h1,h2,h3⟩)
     ·rw[zEh h1];exact⟨Int.le_refl _,h,h1⟩
     ·exact⟨by omega,h2,h3⟩
    ·rintro⟨h1,h2,h3⟩;by_cases hfa:f.1=a
     ·rw[hfa]at h3;exact .inl h3
     ·exact .inr ⟨by omega,h2,h3⟩
   ·rw[List.pairwise_cons];exact⟨fun x hx=>by have:=k5 x hx;omega,k4⟩
   ·intro x hx;rcases List.mem_cons.1 hx with e|e
    ·omega
    ·have:=k5 x e;omega
   ·rw[List.flatMap_cons,k6]
  ·rw[decide_eq_false h,cond_false];refine⟨[],by simp,by simp;omega,fun f=>?_,[],List.Pairwise.nil,fun x hx=>(by cases hx),rfl⟩;refine⟨fun hf=>(by cases hf),fun hf=>?_⟩;obtain⟨h1,h2,h3⟩:=hf
   exfalso
   have h4:=zFI (a:=a) (b:=f.1) (by omega) h1;have e3:3*a*a=3*(a*a):=by grind
   have e4:3*f.1*f.1=3*(f.1*f.1):=by grind
   omega
theorem zQl:∀(k n:Nat)(a b:Int),0≤a→0≤b→b.natAbs<2 ^k→2*k+1≤n→∃r,zAP n a b=some r∧r.natAbs=Int.gcd a b∧0≤r
 |k,0,a,b,_,_,_,hn=>by omega
 |0,n+1,a,b,ha,hb0,hb,hn=>by
  have:b=0:=by simp at hb;omega
  subst this;unfold zAP;rw[zC6];exact⟨a,rfl,by simp,ha⟩
 |k+1,n+1,a,b,ha,hb0,hb,hn=>by
  unfold zAP;by_cases h0:b=0
  ·subst h0;rw[zC6];exact⟨a,rfl,by simp,ha⟩
  ·rw[zAj h0,zC5 h0];simp only[zc,cond_true,Option.bind_some,zP];rw[←zHb a b]
   match n,hn with
   |n+1,hn=>
    unfold zAP;by_cases h1:a.tmod b=0
    ·rw[h1,zC6];exact⟨b,rfl,by simp,hb0⟩
    ·rw[zAj h1,zC5 h1];simp only[zc,cond_true,Option.bind_some,zP];rw[←zHb b (a.tmod b)];refine zQl k n _ _ (Int.tmod_nonneg _ ha) (Int.tmod_nonneg _ hb0) ?_ (by omega)
     rw[Int.natAbs_tmod];have h2:(a.tmod b).natAbs<b.natAbs:=by rw[Int.natAbs_tmod];exact Nat.mod_lt _ (by omega)
     exact zTM k (by omega) h2 hb
theorem zQk{a b:Int}(ha:a.natAbs≤9223372036854775806)(hb:b.natAbs≤9223372036854775806):jZ a b=some (Int.gcd a b:Int):=by obtain⟨r,h1,h2,h3⟩:=zQl 64 FU (a.natAbs:Int) (b.natAbs:Int) (by omega) (by omega) (by omega) (zQ9 129 (by decide));rw[zHy]at h2;simp only[jZ,zIr ha,zIr hb,Option.bind_some,h1];congr 1;omega
theorem zIg{a b c:Int}(ha:inN a=true)(hb:inN b=true)(hc:inN c=true):zAo (a,b,c)=some (Int.gcd a (Int.gcd b c):Int):=by rw[zDk]at ha hb hc;have h:=zSV (a:=a) (b:=b) (M:=1000000) (by omega) (by omega);simp only[zAo,zQk (a:=a) (b:=b) (by omega) (by omega),Option.bind_some];rw[zQk (by omega) (by omega),Option.bind_some];congr 2;unfold Int.gcd;simp[Nat.gcd_assoc]
theorem zFL{l:List (Int×Int×Int)}(hl:l.length≤1000000)(hb:∀f∈l,inN f.1=true∧inN f.2.1=true∧inN f.2.2=true):∀(fu k:Nat)(acc:List (Int×Int×Int)),k≤l.length→l.length - k<fu→acc.length≤k→
  jY l fu (k:Int) acc=some (acc++(l.drop k).filter fun f=>eqI (Int.gcd f.1 (Int.gcd f.2.1 f.2.2):Int) 1)
 |0,k,acc,h0,h1,h2=>by omega
 |fu+1,k,acc,h0,h1,h2=>by
  rw[jY];rw[zV];by_cases hk:k<l.length
  ·obtain⟨c1,c2,c3⟩:=hb (l[k]) (zk hk);have hcon:zAo l[k]=some (Int.gcd l[k].1 (Int.gcd l[k].2.1 l[k].2.2):Int):=zIg c1 c2 c3;rw[za (by omega),cond_true,jO hk,List.drop_eq_getElem_cons hk,List.filter_cons];simp only[Option.bind_some,hcon,zP,zAt (show k<1000000000 by omega)];cases eqI (Int.gcd l[k].1 (Int.gcd l[k].2.1 l[k].2.2):Int) 1 with
   |true=>rw[cond_true,zCf (by simp;omega),if_pos rfl];simp only[Option.bind_some];rw[zFL hl hb fu (k+1) _ (by omega) (by omega) (by simp;omega)];simp
   |false=>rw[cond_false,if_neg (by simp)];exact zFL hl hb fu (k+1) acc (by omega) (by omega) (by omega)
  ·rw[decide_eq_false (by omega),cond_false,List.drop_eq_nil_of_le (by omega)];simp
def PrR(d:Int)(f:Int×Int×Int):Prop:=1≤f.1∧zAu f.1 f.2.1 f.2.2∧f.2.1*f.2.1 - 4*f.1*f.2.2=d∧Int.gcd f.1 (Int.gcd f.2.1 f.2.2)=1
theorem zMw{a b c d:Int}(ha:1≤a)(h:zAu a b c)(hd:b*b - 4*a*c=d):3*a*a≤-d:=by
 have h1:b*b≤a*a:=by
  obtain⟨⟨h2,h3⟩,_⟩:=h;rcases Int.le_total 0 b with h4|h4
  ·exact zFI h4 h3
  ·have:=zFI (a:=-b) (b:=a) (by omega) (by omega);have e:(-b)*(-b)=b*b:=by grind
   omega
 have h5:a≤c:=by obtain⟨_,h6⟩:=h;omega
 have h7:4*a*a≤4*a*c:=zg h5 (by omega);have e:4*a*a=4*(a*a):=by grind
 have e2:3*a*a=3*(a*a):=by grind
 omega
theorem zLu{d:Int}{f:Int×Int×Int}(hd1:-2000≤d)(hd2:d≤-3):(1≤f.1∧3*f.1*f.1≤-d∧f∈rowR d f.1 (2*f.1).toNat (1 - f.1))↔(1≤f.1∧zAu f.1 f.2.1 f.2.2∧f.2.1*f.2.1 - 4*f.1*f.2.2=d):=by
 obtain⟨a,b,c⟩:=f;unfold rowR;rw[List.mem_filter,List.mem_map];constructor
 ·rintro⟨h1,h2,⟨b',h3,h4⟩,h5⟩;unfold okR at h5;rw[ze,decide_eq_true_eq,zBF,beq_iff_eq]at h5;exact⟨h1,h5.2,h5.1⟩
 ·rintro⟨h1,h2,h3⟩;have h1':1≤a:=h1;have h2':zAu a b c:=h2;have h3':b*b - 4*a*c=d:=h3;refine⟨h1,zMw h1' h2' h3',⟨b,(zPy _ _ _).2 ⟨?_,?_⟩,?_⟩,?_⟩
  ·obtain⟨⟨h4,h5⟩,_⟩:=h2';show 1 - a≤b;omega
  ·obtain⟨⟨h4,h5⟩,_⟩:=h2';show b<1 - a+((2*a).toNat:Int);omega
  ·unfold cfR;have e:b*b - d=4*a*c:=by omega
   show (a,b,Int.tdiv (b*b - d) (4*a))=(a,b,c)
   rw[e,Int.mul_tdiv_cancel_left _ (by omega)]
  ·unfold okR;rw[ze,decide_eq_true_eq,zBF,beq_iff_eq];exact⟨h3,h2⟩
theorem zSI{d:Int}(hd1:-2000≤d)(hd2:d≤-3):∃L,qK d=some L∧L.length≤27000∧(∀f,f∈L↔PrR d f)∧L.Nodup:=by
 have hF:=FUge;obtain⟨L,k1,k2,k3,asq,k4,k5,k6⟩:=zJ2 hd1 hd2 26 FU 1 [] (by omega) (by omega) (by omega) (by simp);rw[zi]at k1;have hLl:L.length≤27000:=by omega
 have hmem:∀f∈L,1≤f.1∧zAu f.1 f.2.1 f.2.2∧f.2.1*f.2.1 - 4*f.1*f.2.2=d:=fun f hf=>(zLu hd1 hd2).1 ((k3 f).1 hf);have hbd:∀f∈L,inN f.1=true∧inN f.2.1=true∧inN f.2.2=true:=by
  intro f hf;obtain⟨h1,h2,h3⟩:=hmem f hf;have h4:=zMw h1 h2 h3;obtain⟨⟨h5,h6⟩,h7⟩:=h2;have ha:f.1≤26:=by
   rcases Int.lt_or_le 26 f.1 with h8|h8
   ·have:=zFI (a:=27) (b:=f.1) (by omega) (by omega);have e:3*f.1*f.1=3*(f.1*f.1):=by grind
    omega
   ·exact h8
  have hb:=zX (x:=f.2.1) (y:=f.2.1) (A:=26) (B:=26) (by omega) (by omega);have hc:f.2.2≤1000:=by
   have h9:4*1*f.2.2≤4*f.1*f.2.2:=by have:4*1*f.2.2≤(4*f.1)*f.2.2:=Int.mul_le_mul_of_nonneg_right (by omega) (by omega);exact this
   omega
  rw[zDk,zDk,zDk];omega
 have h2:=zFL (l:=L) (by omega) hbd FU 0 [] (by omega) (by omega) (by simp);rw[zi,List.drop_zero]at h2;refine⟨_,by simp only[qK,zCt,k1,Option.bind_some];exact congrArg (fun z=>z.bind fun o=>some o) h2,Nat.le_trans (List.length_filter_le _ _) hLl,fun f=>?_,?_⟩
 ·rw[List.mem_filter,k3,zLu hd1 hd2,zBF,beq_iff_eq];unfold PrR;constructor
  ·rintro⟨⟨a1,a2,a3⟩,a4⟩;exact⟨a1,a2,a3,by omega⟩
  ·rintro⟨a1,a2,a3,a4⟩;exact⟨⟨a1,a2,a3⟩,by omega⟩
 ·refine List.Pairwise.filter _ ?_
  rw[k6];have hrow:∀a:Int,(rowR d a (2*a).toNat (1 - a)).Nodup:=by
   intro a;unfold rowR;refine List.Pairwise.filter _ ?_
   rw[List.pairwise_map];refine (zUH (2*a).toNat (1 - a)).imp ?_
   intro x y hxy e;have:=congrArg (fun f:Int×Int×Int=>f.2.1) e;simp only[cfR]at this;omega
  rw[List.pairwise_flatMap];refine⟨fun a _=>hrow a,k4.imp ?_⟩;intro x y hxy f hf g hg e;have fx:=zEh hf;have gy:=zEh hg;rw[e]at fx;omega
theorem zHa{d a:Int}(ha1:1≤a)(ha:a≤1000)(hd1:-2000≤d)(hd2:d≤-3):∀(m fu:Nat)(b:Int)(acc:List (Int×Int×Int)),b+m=a+1→-1000≤b→m<fu→acc.length+m≤100000000→
  qT a d fu b acc=some (acc++rowR d a m b)
 |m,0,b,acc,_,_,h,_=>by omega
 |0,fu+1,b,acc,hb,hb0,hf,hl=>by rw[qT,jL,decide_eq_false (by omega),cond_false];simp[rowR,upz]
 |m+1,fu+1,b,acc,hb,hb0,hf,hl=>by
  rw[qT,jL,za (by omega),cond_true];have b1:=zX (x:=b) (y:=b) (A:=1000) (B:=1000) (by omega) (by omega);have e4:w64 (4*a)=4*a:=zA (by omega);have e5:w64 (w64 (b*b) - d)=b*b - d:=by rw[jQ (n:=b*b) (by omega),jQ (by omega)]
  have q1:=zSk (x:=b*b - d) (m:=4*a) (by omega);have q2:=Int.tmod_add_mul_tdiv (b*b - d) (4*a);generalize hc:Int.tdiv (b*b - d) (4*a)=c at q1 q2;generalize hr:Int.tmod (b*b - d) (4*a)=r at q2;have ew:w64 (b+1)=b+1:=zA (by omega);have hcf:cfR d a b=(a,b,c):=by unfold cfR;rw[hc]
  have hrow:rowR d a (m+1) b=(if okR d (a,b,c) then [(a,b,c)] else [])++rowR d a m (b+1):=by unfold rowR;rw[upz,List.map_cons,List.filter_cons,hcf];cases okR d (a,b,c)<;>simp
  have hdis:eqI (b*b - 4*a*c) d=eqI r 0:=by rw[zBF,zBF,Bool.eq_iff_iff,beq_iff_eq,beq_iff_eq];omega
  rw[e4,nzOk (by omega),e5,hr,hc,jQ (n:=c) (by omega),hrow];simp only[Option.bind_some,zP,zGN ha1 (show a≤1000000 by omega),ew];unfold okR;dsimp only;rw[hdis];cases h1:eqI r 0 with
  |true=>
   simp only[Bool.not_true,cond_false,Bool.true_and];cases h2:decide (zAu a b c) with
   |true=>rw[cond_true,zCf (by simp;omega)];simp only[Option.bind_some];rw[zHa ha1 ha hd1 hd2 m fu (b+1) _ (by omega) (by omega) (by omega) (by simp;omega)];simp
   |false=>rw[cond_false];rw[zHa ha1 ha hd1 hd2 m fu (b+1) _ (by omega) (by omega) (by omega) (by omega)];simp
  |false=>simp only[zc,cond_true,Bool.false_and];rw[zHa ha1 ha hd1 hd2 m fu (b+1) _ (by omega) (by omega) (by omega) (by omega)];simp
theorem zTK{d:Int}(hd1:-2000≤d)(hd2:d≤-3):∀(m fu:Nat)(a:Int)(acc:List (Int×Int×Int)),1≤a→a+m=27→(acc.length:Int)≤1000*a→zAZ d fu a acc=zBQ d fu a acc
 |m,0,a,acc,_,_,_=>rfl
 |m,fu+1,a,acc,ha,hm,hl=>by
  have b1:=zX (x:=3*a) (y:=a) (A:=81) (B:=27) (by omega) (by omega);have e1:w64 (w64 (3*a)*a)=3*a*a:=by rw[zA (n:=3*a) (by omega),jQ (by omega)]
  have e2:w64 (0 - d)=-d:=by rw[zA (by omega)];omega
  rw[zBQ,zAZ,e1,e2,jL];by_cases h:3*a*a≤-d
  ·have ha2:a≤26:=by
    rcases Int.lt_or_le 26 a with h2|h2
    ·have h3:=zFI (a:=27) (b:=a) (by omega) (by omega);have e:3*a*a=3*(a*a):=by grind
     omega
    ·exact h2
   obtain⟨m',rfl⟩:∃m',m=m'+1:=⟨m - 1,by omega⟩
   have hF:=FUge;rw[za h,cond_true,cond_true,zA (n:=1 - a) (by omega),zA (n:=a+1) (by omega)];simp only[zP];rw[zHF ha (by omega) hd1 hd2 (2*a).toNat FU (1 - a) acc (by omega) (by omega) (by omega) (by omega),zHa ha (by omega) hd1 hd2 (2*a).toNat FU (1 - a) acc (by omega) (by omega) (by omega) (by omega)];simp only[Option.bind_some];have hrl:(rowR d a (2*a).toNat (1 - a)).length≤(2*a).toNat:=by
    unfold rowR;refine Nat.le_trans (List.length_filter_le _ _) ?_
    rw[List.length_map,zPS];exact Nat.le_refl _
   exact zTK hd1 hd2 m' fu (a+1) _ (by omega) (by omega) (by rw[zb];omega)
  ·rw[decide_eq_false h,cond_false,cond_false]
theorem zNN{l:List (Int×Int×Int)}(hb:∀f∈l,inN f.1=true∧inN f.2.1=true∧inN f.2.2=true):∀(fu k:Nat)(acc:List (Int×Int×Int)),k≤1000000→l.length≤1000000→zAI l fu (k:Int) acc=jY l fu (k:Int) acc
 |0,k,acc,_,_=>rfl
 |fu+1,k,acc,hk,hl=>by
  rw[zAI,jY];by_cases h:k<l.length
  ·obtain⟨c1,c2,c3⟩:=hb (l[k]) (zk h);have e1:zAi l[k]=some (Int.gcd l[k].1 (Int.gcd l[k].2.1 l[k].2.2):Int):=zRZ c1 c2 c3;have e2:zAo l[k]=some (Int.gcd l[k].1 (Int.gcd l[k].2.1 l[k].2.2):Int):=zIg c1 c2 c3;rw[jO h];simp only[Option.bind_some,e1,e2,zP,zAt (show k<1000000000 by omega)];rw[zNN hb fu (k+1) _ (by omega) hl,zNN hb fu (k+1) _ (by omega) hl]
  ·rw[zV,decide_eq_false (by omega),cond_false,cond_false]
theorem zTk{d:Int}(hd1:-2000≤d)(hd2:d≤-3):zJ d=qK d:=by
 have hF:=FUge;obtain⟨L,k1,k2,k3,asq,k4,k5,k6⟩:=zJ2 hd1 hd2 26 FU 1 [] (by omega) (by omega) (by omega) (by simp);rw[zi]at k1;have h1:zAZ d FU 1 []=some L:=by rw[zTK hd1 hd2 26 FU 1 [] (by omega) (by omega) (by simp),k1]
 have hmem:∀f∈L,1≤f.1∧zAu f.1 f.2.1 f.2.2∧f.2.1*f.2.1 - 4*f.1*f.2.2=d:=fun f hf=>(zLu hd1 hd2).1 ((k3 f).1 hf);have hbd:∀f∈L,inN f.1=true∧inN f.2.1=true∧inN f.2.2=true:=by
  intro f hf;obtain⟨h1,h2,h3⟩:=hmem f hf;have h4:=zMw h1 h2 h3;obtain⟨⟨h5,h6⟩,h7⟩:=h2;have ha:f.1≤26:=by
   rcases Int.lt_or_le 26 f.1 with h8|h8
   ·have:=zFI (a:=27) (b:=f.1) (by omega) (by omega);have e:3*f.1*f.1=3*(f.1*f.1):=by grind
    omega
   ·exact h8
  have hb:=zX (x:=f.2.1) (y:=f.2.1) (A:=26) (B:=26) (by omega) (by omega);have hc:f.2.2≤1000:=by
   have h9:4*1*f.2.2≤4*f.1*f.2.2:=by have:4*1*f.2.2≤(4*f.1)*f.2.2:=Int.mul_le_mul_of_nonneg_right (by omega) (by omega);exact this
   omega
  rw[zDk,zDk,zDk];omega
 have e0:(((0:Nat):Int))=0:=rfl;have h2:=zNN hbd FU 0 [] (by omega) (by omega);rw[e0]at h2;simp only[zJ,zCc,zCU,qK,zCt,h1,k1,Option.bind_some,h2];cases jY L FU 0 []<;>rfl
theorem zSJ{d:Int}(hd1:-2000≤d)(hd2:d≤-3):∃L,qK d=some L∧L.Pairwise fun f g=>f.1≤g.1:=by
 have hF:=FUge;obtain⟨L,k1,k2,k3,asq,k4,k5,k6⟩:=zJ2 hd1 hd2 26 FU 1 [] (by omega) (by omega) (by omega) (by simp);rw[zi]at k1;have hLl:L.length≤27000:=by omega
 have hmem:∀f∈L,1≤f.1∧zAu f.1 f.2.1 f.2.2∧f.2.1*f.2.1 - 4*f.1*f.2.2=d:=fun f hf=>(zLu hd1 hd2).1 ((k3 f).1 hf);have hbd:∀f∈L,inN f.1=true∧inN f.2.1=true∧inN f.2.2=true:=by
  intro f hf;obtain⟨h1,h2,h3⟩:=hmem f hf;have h4:=zMw h1 h2 h3;obtain⟨⟨h5,h6⟩,h7⟩:=h2;have ha:f.1≤26:=by
   rcases Int.lt_or_le 26 f.1 with h8|h8
   ·have:=zFI (a:=27) (b:=f.1) (by omega) (by omega);have e:3*f.1*f.1=3*(f.1*f.1):=by grind
    omega
   ·exact h8
  have hb:=zX (x:=f.2.1) (y:=f.2.1) (A:=26) (B:=26) (by omega) (by omega);have hc:f.2.2≤1000:=by
   have h9:4*1*f.2.2≤4*f.1*f.2.2:=by have:4*1*f.2.2≤(4*f.1)*f.2.2:=Int.mul_le_mul_of_nonneg_right (by omega) (by omega);exact this
   omega
  rw[zDk,zDk,zDk];omega
 have h2:=zFL (l:=L) (by omega) hbd FU 0 [] (by omega) (by omega) (by simp);rw[zi,List.drop_zero]at h2;refine⟨_,by simp only[qK,zCt,k1,Option.bind_some];exact congrArg (fun z=>z.bind fun o=>some o) h2,List.Pairwise.filter _ ?_⟩;rw[k6,List.pairwise_flatMap];refine⟨fun a _=>?_,?_⟩
 ·refine List.Pairwise.imp_of_mem (R:=fun _ _=>True) (fun {x y} hx hy _=>?_) (List.pairwise_of_forall fun _ _=>trivial);rw[zEh hx,zEh hy];exact Int.le_refl _
 ·refine List.Pairwise.imp_of_mem (fun {a b} _ _ hab=>?_) k4;intro x hx y hy;rw[zEh hx,zEh hy];exact Int.le_of_lt hab
theorem gprc{D:Int}{f:F3}(h:PrR D f):PrRc D f:=by obtain⟨h1,h2,h3,h4⟩:=h;refine⟨h1,h2,h3,fun k k1 k2 k3=>?_⟩;have h5:k∣(Int.gcd f.1 (Int.gcd f.2.1 f.2.2):Int):=Int.dvd_coe_gcd k1 (Int.dvd_coe_gcd k2 k3);rw[h4]at h5;exact h5
theorem gprr{D:Int}{f:F3}(h:PrRc D f):PrR D f:=by obtain⟨h1,h2,h3,h4⟩:=h;refine⟨h1,h2,h3,?_⟩;have h5:((Int.gcd f.1 (Int.gcd f.2.1 f.2.2):Nat):Int)∣1:=h4 _ (Int.gcd_dvd_left _ _) (Int.dvd_trans (Int.gcd_dvd_right _ _) (Int.gcd_dvd_left _ _)) (Int.dvd_trans (Int.gcd_dvd_right _ _) (Int.gcd_dvd_right _ _));have h6:=Int.eq_one_of_dvd_one (by omega) h5;omega
structure RL (D:Int) (L:List F3):Prop where
  lo:-2000≤D
  hi:D<0
  m4:D % 4≤1
  s:qK D=some L
  i:zJ D=some L
  mem:∀f,f∈L↔PrRc D f
  nd:L.Nodup
  len:L.length≤1560
  hd:∃l,L=pF D::l
theorem rl_ex{D:Int}(h1:-2000≤D)(h2:D≤-3)(h3:D % 4≤1):∃L,RL D L:=by
 obtain⟨L,l1,l2,l3,l4⟩:=zSI h1 h2;obtain⟨L',s1,s2⟩:=zSJ h1 h2;rw[l1]at s1;have e:=qB s1;subst e;have hD:D<0:=by omega
 have hm:∀f,f∈L↔PrRc D f:=fun f=>⟨fun h=>gprc ((l3 f).1 h),fun h=>(l3 f).2 (gprr h)⟩
 have hp:=zU6 h1 hD h3;refine⟨L,h1,hD,h3,l1,by rw[zTk h1 h2,l1],hm,l4,?_,?_⟩
 ·have nd:(L.map fun f=>(f.1,f.2.1)).Nodup:=by
   unfold List.Nodup;rw[List.pairwise_map];refine List.Pairwise.imp_of_mem ?_ l4
   intro f g hf hg hne e;obtain⟨q1,q2,q3,q4⟩:=(hm f).1 hf;obtain⟨r1,r2,r3,r4⟩:=(hm g).1 hg;have e1:f.1=g.1:=(Prod.mk.inj e).1;have e2:f.2.1=g.2.1:=(Prod.mk.inj e).2;rw[e1,e2]at q3;have e3:f.2.2=g.2.2:=zOz (a:=g.1) r1 (by omega);exact hne (Prod.ext e1 (Prod.ext e2 e3))
  have:=zOt _ boxL nd fun x hx=>by obtain⟨f,hf,e⟩:=List.mem_map.1 hx;rw[←e];have hpf:=(hm f).1 hf;obtain⟨r,ra⟩:=zIW h1 hpf;exact zV4 (by have:=r.a1;omega) ra r.b1 r.b2
  rwa [zV5,List.length_map]at this
 ·cases L with
  |nil=>exact absurd ((hm _).2 hp) (by simp)
  |cons f l=>
   refine⟨l,?_⟩;congr 1;have hf:=(hm f).1 List.mem_cons_self;obtain⟨f1,⟨⟨f2,f3⟩,f4⟩,f5,f6⟩:=hf;have hle:f.1≤1:=by
    rcases List.mem_cons.1 ((hm _).2 hp) with h|h
    ·rw[←h];exact Int.le_refl _
    ·exact (List.pairwise_cons.1 s2).1 _ h
   have ha:f.1=1:=by omega
   rw[ha]at f2 f3 f4 f5;have hb:=zNX (a:=1) (b:=f.2.1) (c:=f.2.2) f5;have hbb:f.2.1=D % 2:=by omega
   obtain⟨a,b,c⟩:=f;simp only at ha hbb f5;subst ha hbb;unfold pF;have e:D % 2*(D % 2)=D % 2:=by rcases (by omega:D % 2=0∨D % 2=1) with h|h<;>rw[h]<;>rfl
   rw[e]at f5;congr 2;omega
theorem zMu{D:Int}{L:List F3}(h:RL D L):GrL (gM (D:=D) (hD:=h.hi)) (g1 D h.hi) (L.map (gC D h.hi)):=by
 have hcf:∀{f},f∈L→CF D f:=fun hf=>zK0 h.lo h.hi ((h.mem _).1 hf);refine⟨fun x y z=>zVB x y z,fun x y=>zW3 x y,fun x hx=>?_,?_,?_,fun x y hx hy=>?_,fun x hx=>?_⟩
 ·obtain⟨f,hf,rfl⟩:=List.mem_map.1 hx;exact gF_of (hcf hf)
 ·unfold List.Nodup;rw[List.pairwise_map];refine List.Pairwise.imp_of_mem ?_ h.nd
  intro f g hf hg hne e;exact hne (zU4 ((h.mem _).1 hf) ((h.mem _).1 hg) e)
 ·exact List.mem_map.2 ⟨pF D,(h.mem _).2 (zU6 h.lo h.hi h.m4),rfl⟩
 ·obtain⟨f,hf,rfl⟩:=List.mem_map.1 hx;obtain⟨g,hg,rfl⟩:=List.mem_map.1 hy;obtain⟨k,_,_,k3,_,k5⟩:=zXX h.lo h.hi (hcf hf) (hcf hg);exact List.mem_map.2 ⟨k,(h.mem _).2 k3,k5⟩
 ·obtain⟨f,hf,rfl⟩:=List.mem_map.1 hx;obtain⟨k,_,_,k3,_,k5⟩:=redG h.hi (zYl (hcf hf));exact⟨gC D h.hi k,List.mem_map.2 ⟨k,(h.mem _).2 k3,rfl⟩,by rw[k5];exact zYb (hcf hf)⟩
theorem zTR(x y:F3):((x.1==y.1)&&((x.2.1==y.2.1)&&(x.2.2==y.2.2)))=decide (x=y):=by rw[Bool.eq_iff_iff,ze,ze,beq_iff_eq,beq_iff_eq,beq_iff_eq,zp];exact⟨fun⟨a,b,c⟩=>Prod.ext a (Prod.ext b c),fun h=>by rw[h];exact⟨rfl,rfl,rfl⟩⟩
theorem zPu{α:Type}{l:List α}(h:l.Nodup){i j:Nat}(hi:i<l.length)(hj:j<l.length)(e:l[i]=l[j]):i=j:=by
 rcases Nat.lt_trichotomy i j with h1|h1|h1
 ·exact absurd e (List.pairwise_iff_getElem.1 h i j hi hj h1)
 ·exact h1
 ·exact absurd e.symm (List.pairwise_iff_getElem.1 h j i hj hi h1)
theorem gMkN{n:Nat}(h:n≤1000000):mk (n:Int) (n:Int)=some ():=by unfold mk;rw[jL,jL,jL,za (by omega),za (by omega),za (by omega)];rfl
theorem zRR{κ ν:Type} [DecidableEq κ](a e:κ)(v:ν):∀m:List (κ×ν),mGet e (mPut a v m)=if e=a then some v else mGet e m
 |[]=>by simp only[mPut,mGet]
 |p::ps=>by
  unfold mPut;by_cases h:a=p.1
  ·rw[if_pos h];simp only[mGet];by_cases h2:e=a
   ·rw[if_pos h2,if_pos h2]
   ·rw[if_neg h2,if_neg h2,if_neg (fun h3=>h2 (h3.trans h.symm))]
  ·rw[if_neg h];simp only[mGet];by_cases h2:e=p.1
   ·rw[if_pos h2,if_pos h2,if_neg (fun h3=>h (h3.symm.trans h2))]
   ·rw[if_neg h2,if_neg h2];exact zRR a e v ps
theorem zRT(L:List F3)(hnd:L.Nodup)(hlen:L.length≤100000):∀(k fu i:Nat)(m:List (F3×Int)),i+k=L.length→k<fu→(∀j (h:j<L.length),j<i→mGet L[j] m=some (j:Int))→
  ∃m',zAb L fu (i:Int) m=some m'∧∀j (h:j<L.length),mGet L[j] m'=some (j:Int)
 |k,0,i,m,_,hf,_=>by omega
 |k,fu+1,i,m,hi,hf,hm=>by
  rw[zAb,zV];by_cases h1:i<L.length
  ·rw[za (by omega),cond_true,jO h1];simp only[Option.bind_some,zP];rw[zAt (by omega)];obtain⟨k',rfl⟩:∃k',k=k'+1:=⟨k - 1,by omega⟩
   refine zRT L hnd hlen k' fu (i+1) _ (by omega) (by omega) fun j h hj=>?_
   rw[zRR];by_cases e:j=i
   ·subst e;rw[if_pos rfl]
   ·rw[if_neg (fun h2=>e (zPu hnd _ _ h2)),hm j h (by omega)]
  ·rw[decide_eq_false (by omega),cond_false];exact⟨m,rfl,fun j h=>hm j h (by omega)⟩
theorem zTL(L:List F3)(hnd:L.Nodup)(hlen:L.length≤100000)(j:Nat)(hj:j<L.length):∀(k fu i:Nat),i+k=j→k<fu→zBs L[j] L fu (i:Int)=some (.inr (j:Int))
 |k,0,i,_,hf=>by omega
 |k,fu+1,i,hi,hf=>by
  rw[zBs,zV,za (by omega),cond_true,jO (show i<L.length by omega)];simp only[Option.bind_some];rw[zTR];by_cases e:i=j
  ·subst e;rw[za rfl,cond_true]
  ·rw[decide_eq_false (fun h2=>e (zPu hnd _ _ h2)),cond_false];simp only[zP];rw[zAt (by omega)];obtain⟨k',rfl⟩:∃k',k=k'+1:=⟨k - 1,by omega⟩
   exact zTL L hnd hlen j hj k' fu (i+1) (by omega) (by omega)
def ix(L:List F3)(y:F3):Nat:=L.idxOf y
theorem zUl{L:List F3}{y:F3}(h:y∈L):∃h2:ix L y<L.length,L[ix L y]=y:=⟨List.idxOf_lt_length_of_mem h,List.getElem_idxOf _⟩
theorem zWZ{L:List F3}(hnd:L.Nodup)(hlen:L.length≤100000){y:F3}(h:y∈L):zCi L y=some (ix L y:Int):=by obtain⟨h2,h3⟩:=zUl h;have hF:=FUge;have:=zTL L hnd hlen (ix L y) h2 (ix L y) FU 0 (by omega) (by omega);have e0:(((0:Nat):Int))=0:=rfl;rw[e0,h3]at this;simp only[zCi,this,Option.bind_some]
theorem zUy{L:List F3}(hnd:L.Nodup)(hlen:L.length≤100000):∃m,zAb L FU 0 []=some m∧∀y∈L,mAt y m 0=(ix L y:Int):=by have hF:=FUge;obtain⟨m,h1,h2⟩:=zRT L hnd hlen L.length FU 0 [] (by omega) (by omega) (by intro j _ h;omega);refine⟨m,h1,fun y hy=>?_⟩;obtain⟨k1,k2⟩:=zUl hy;have:=h2 (ix L y) k1;rw[k2]at this;unfold mAt;rw[this];rfl
theorem zNS{α:Type}(F:Nat→α)(z:α){n i:Nat}(hi:i≤n):((List.range i).map F++List.replicate (n - i) z).length=n:=by rw[zb,List.length_map,List.length_range,List.length_replicate];omega
theorem zNQ{α:Type}(F:Nat→α)(z:α){n i:Nat}(hi:i<n):((List.range i).map F++List.replicate (n - i) z).set i (F i)=(List.range (i+1)).map F++List.replicate (n - (i+1)) z:=by rw[List.set_append_right _ _ (by simp),List.length_map,List.length_range,Nat.sub_self,show n - i=(n - (i+1))+1 by omega,List.replicate_succ,List.set_cons_zero,List.range_succ,List.map_append,List.append_assoc];rfl
theorem zNT{α:Type}(F:Nat→α)(z:α)(n:Nat):(List.range n).map F++List.replicate (n - n) z=(List.range n).map F:=by rw[Nat.sub_self];simp
theorem getR{α:Type}(F:Nat→α){n i:Nat}(hi:i<n):getI ((List.range n).map F) (i:Int)=some (F i):=by rw[jO (show i<((List.range n).map F).length by simpa using hi)];simp
def cm(f g:F3):F3:=(zBv f g).getD f
theorem zV0{D:Int}{L:List F3}(h:RL D L){f g:F3}(hf:f∈L)(hg:g∈L):zCL f g=some (cm f g)∧zBv f g=some (cm f g)∧cm f g∈L∧gC D h.hi (cm f g)=gM (gC D h.hi f) (gC D h.hi g):=by
 have c1:=zK0 h.lo h.hi ((h.mem f).1 hf);have c2:=zK0 h.lo h.hi ((h.mem g).1 hg);obtain⟨k,k1,k2,k3,k4,k5⟩:=zXX h.lo h.hi c1 c2;have e:cm f g=k:=by unfold cm;rw[k2];rfl
 rw[e];exact⟨k1,k2,(h.mem k).2 k3,k5⟩
def at0(L:List F3)(i:Nat):F3:=L.getD i (0,0,0)
theorem zBe{L:List F3}{i:Nat}(hi:i<L.length):at0 L i=L[i]:=by unfold at0;rw[List.getD_eq_getElem?_getD,zl hi];rfl
theorem zEQ{L:List F3}{i:Nat}(hi:i<L.length):at0 L i∈L:=by rw[zBe hi];exact zk hi
def tbE(L:List F3)(j i:Nat):Int:=(ix L (cm (at0 L j) (at0 L i)):Int)
def tbR(L:List F3)(j:Nat):List Int:=(List.range L.length).map (tbE L j)
def tbL(L:List F3):List (List Int):=(List.range L.length).map (tbR L)
theorem zRC{D:Int}{L:List F3}(h:RL D L){j:Nat}(hj:j<L.length)(l6:List (List Int))(hl6:l6.length=L.length):∀(k fu i:Nat),i+k=L.length→k<fu→zB5 (at0 L j) l6 (j:Int) L fu (i:Int) ((List.range i).map (tbE L j)++List.replicate (L.length - i) 0)=some (tbR L j)
 |k,0,i,_,hf=>by omega
 |k,fu+1,i,hi,hf=>by
  have hlen:=h.len;rw[zB5,zV];by_cases h1:i<L.length
  ·rw[za (by omega),cond_true,jO h1,jO (show j<l6.length by omega)];simp only[Option.bind_some];obtain⟨_,c2,c3,_⟩:=zV0 h (zEQ hj) (zk h1);rw[c2];simp only[Option.bind_some];rw[zWZ h.nd (by omega) c3];simp only[Option.bind_some];rw[jO (show i<((List.range i).map (tbE L j)++List.replicate (L.length - i) 0).length by rw[zNS _ _ (by omega)];exact h1)];simp only[Option.bind_some,zP];rw[zAt (by omega),zd];obtain⟨k',rfl⟩:∃k',k=k'+1:=⟨k - 1,by omega⟩
   have e:((ix L (cm (at0 L j) L[i]):Nat):Int)=tbE L j i:=by unfold tbE;rw[zBe h1]
   rw[e,zNQ _ _ h1];exact zRC h hj l6 hl6 k' fu (i+1) (by omega) (by omega)
  ·rw[decide_eq_false (by omega),cond_false];have:i=L.length:=by omega
   subst this;rw[zNT];rfl
theorem zQn{D:Int}{L:List F3}(h:RL D L):∀(k fu j:Nat),j+k=L.length→k<fu→zBq L fu (j:Int) ((List.range j).map (tbR L)++List.replicate (L.length - j) [])=some (tbL L)
 |k,0,i,_,hf=>by omega
 |k,fu+1,j,hi,hf=>by
  have hlen:=h.len;have hF:=FUge;rw[zBq,zV];by_cases h1:j<L.length
  ·have hlA:((List.range j).map (tbR L)++List.replicate (L.length - j) ([]:List Int)).length=L.length:=zNS _ _ (by omega);rw[za (by omega),cond_true,jO h1,gMkN (by omega),jO (show j<((List.range j).map (tbR L)++List.replicate (L.length - j) ([]:List Int)).length by omega)];simp only[Option.bind_some];have hr:=zRC h h1 ((List.range j).map (tbR L)++List.replicate (L.length - j) []) hlA L.length FU 0 (by omega) (by omega);have e0:(((0:Nat):Int))=0:=rfl;rw[e0,List.range_zero,List.map_nil,zi,Nat.sub_zero,zBe h1]at hr;rw[zd,hr];simp only[Option.bind_some,zP];rw[zAt (by omega),zd];obtain⟨k',rfl⟩:∃k',k=k'+1:=⟨k - 1,by omega⟩
   rw[zNQ _ _ h1];exact zQn h k' fu (j+1) (by omega) (by omega)
  ·rw[decide_eq_false (by omega),cond_false];have:j=L.length:=by omega
   subst this;rw[zNT];rfl
theorem zWG{D:Int}{L:List F3}(h:RL D L):zB6 D=some (tbL L):=by have hlen:=h.len;have hF:=FUge;have ht:=zQn h L.length FU 0 (by omega) (by omega);have e0:(((0:Nat):Int))=0:=rfl;rw[e0,List.range_zero,List.map_nil,zi,Nat.sub_zero]at ht;simp only[zB6,h.s,Option.bind_some];rw[gMkN (by omega),Option.bind_some,zd,ht];rfl
def gX{D:Int}{L:List F3}(h:RL D L)(i:Nat):GG D h.hi:=gC D h.hi (at0 L i)
theorem zYa{D:Int}{L:List F3}(h:RL D L){i j:Nat}(hi:i<L.length)(hj:j<L.length)(e:gX h i=gX h j):i=j:=by have:=zU4 ((h.mem _).1 (zEQ hi)) ((h.mem _).1 (zEQ hj)) e;rw[zBe hi,zBe hj]at this;exact zPu h.nd hi hj this
theorem zQF{D:Int}{L:List F3}(h:RL D L):0<L.length∧gX h 0=g1 D h.hi:=by
 obtain⟨l,hl⟩:=h.hd;have h0:0<L.length:=by rw[hl];simp
 refine⟨h0,?_⟩;unfold gX g1;rw[zBe h0];congr 1;subst hl;rfl
theorem zUz{D:Int}{L:List F3}(h:RL D L){i:Nat}(hi:i<L.length):gX h i∈L.map (gC D h.hi):=List.mem_map.2 ⟨_,zEQ hi,rfl⟩
structure Od {D:Int} {L:List F3} (h:RL D L) (i r:Nat):Prop where
  lo:1≤r
  hi:r≤L.length
  pw:pw gM (g1 D h.hi) (gX h i) r=g1 D h.hi
  le:∀j,1≤j→j<r→Go.Proofs.YtdedjieegpkabaaGreat.pw gM (g1 D h.hi) (gX h i) j≠g1 D h.hi
theorem zXQ{D:Int}{L:List F3}(h:RL D L){i:Nat}(hi:i<L.length):∃r,Od h i r:=by obtain⟨r,r1,r2,r3,r4⟩:=zXf (zMu h) (zUz h hi);exact⟨r,r1,by simpa using r2,r3,r4⟩
theorem zWF{D:Int}{L:List F3}(h:RL D L){i p:Nat}(hi:i<L.length)(hp:p<L.length):∃q,q<L.length∧tbE L p i=(q:Int)∧gX h q=gM (gX h p) (gX h i):=by obtain⟨_,_,c3,c4⟩:=zV0 h (zEQ hp) (zEQ hi);obtain⟨k1,k2⟩:=zUl c3;refine⟨_,k1,rfl,?_⟩;show gC D h.hi (at0 L _)=_;rw[zBe k1,k2];exact c4
theorem getT{L:List F3}{p i:Nat}(hp:p<L.length)(hi:i<L.length):getI (tbL L) (p:Int)=some (tbR L p)∧getI (tbR L p) (i:Int)=some (tbE L p i):=⟨getR _ hp,getR _ hi⟩
theorem zSz{D:Int}{L:List F3}(h:RL D L){m:List (F3×Int)}(hm:∀y∈L,mAt y m 0=(ix L y:Int)){i r:Nat}(hi:i<L.length)(hr:Od h i r):∀(k fu j p:Nat)(acc:List Int),j+k=r→k<fu→1≤j→p<L.length→gX h p=pw gM (g1 D h.hi) (gX h i) j→acc.length=j→
  (∃l,qQ (L,m) (i:Int) fu (p:Int) acc=some l∧l.length=r)∧zBr (i:Int) (tbL L) fu (j:Int) (p:Int)=some (r:Int)
 |k,0,j,p,acc,_,hf,_,_,_,_=>by omega
 |k,fu+1,j,p,acc,hjk,hf,h1,hp,hpw,ha=>by
  have hlen:=h.len;have hrl:=hr.hi;rw[qQ,zBr];obtain⟨z1,z2⟩:=zQF h;by_cases hj:j=r
  ·have hp0:p=0:=zYa h hp z1 (by rw[z2,hpw,hj,hr.pw]);have e0:eqI (p:Int) 0=true:=by rw[hp0];exact zDm _
   rw[e0];exact⟨⟨acc,rfl,by omega⟩,by rw[←hj];rfl⟩
  ·have hp0:p≠0:=fun e=>hr.le j h1 (by omega) (by rw[←hpw,e,z2]);have e0:eqI (p:Int) 0=false:=zAj (by omega);rw[e0];simp only[zc,cond_true];rw[zCf (by simp;omega),(getT hp hi).1];simp only[Option.bind_some];rw[(getT hp hi).2];simp only[Option.bind_some,zP];obtain⟨q,q1,q2,q3⟩:=zWF h hi hp;obtain⟨c1,_,c3,_⟩:=zV0 h (zEQ hp) (zEQ hi);have ht:zAY (L,m) (p:Int) (i:Int)=some (q:Int):=by
    unfold zAY;dsimp only;rw[jO hp,jO hi];simp only[Option.bind_some];rw[zBe hp,zBe hi]at c1 c3;rw[c1];simp only[Option.bind_some,zP];rw[hm _ c3,←q2];unfold tbE;rw[zBe hp,zBe hi]
   rw[ht,q2,zAt (by omega)];simp only[Option.bind_some];obtain⟨k',rfl⟩:∃k',k=k'+1:=⟨k - 1,by omega⟩
   exact zSz h hm hi hr k' fu (j+1) q (acc++[(p:Int)]) (by omega) (by omega) (by omega) q1 (by rw[q3,hpw];rfl) (by simp;omega)
theorem zWO{D:Int}{L:List F3}(h:RL D L){m:List (F3×Int)}(hm:∀y∈L,mAt y m 0=(ix L y:Int)){i r:Nat}(hi:i<L.length)(hr:Od h i r):(∃l,zAN (L,m) (i:Int)=some l∧l.length=r)∧zCh (tbL L) (i:Int)=some (r:Int):=by
 have hF:=FUge;have hlen:=h.len;have h1:=hr.lo;have h2:=hr.hi;obtain⟨⟨l,a1,a2⟩,b1⟩:=zSz h hm hi hr (r - 1) FU 1 i [0] (by omega) (by omega) (Nat.le_refl 1) hi (by show gX h i=gM (g1 D h.hi) (gX h i);exact ((zMu h).on _ (zUz h hi)).symm) rfl
 have e1:(((1:Nat):Int))=1:=rfl;rw[e1]at b1;refine⟨⟨l,?_,a2⟩,?_⟩
 ·unfold zAN;rw[a1];rfl
 ·unfold zCh;rw[b1];rfl
noncomputable def od{D:Int}{L:List F3}(h:RL D L)(i:Nat):Nat:=by
  classical exact if hi:i<L.length then Classical.choose (zXQ h hi) else 1
theorem zUb{D:Int}{L:List F3}(h:RL D L){i:Nat}(hi:i<L.length):Od h i (od h i):=by unfold od;rw[dif_pos hi];exact Classical.choose_spec (zXQ h hi)
theorem zRP{D:Int}{L:List F3}(h:RL D L){m:List (F3×Int)}(hm:∀y∈L,mAt y m 0=(ix L y:Int)):∀(k fu i:Nat),i+k=L.length→k<fu→
  qR (L,m) fu (i:Int) ((List.range i).map fun i=>(od h i:Int))=some ((List.range L.length).map fun i=>(od h i:Int))∧zB7 (tbL L) fu (i:Int) ((List.range i).map (fun i=>(od h i:Int))++List.replicate (L.length - i) 0)=some ((List.range L.length).map fun i=>(od h i:Int))
 |k,0,i,_,hf=>by omega
 |k,fu+1,i,hi,hf=>by
  have hlen:=h.len;have htl:(tbL L).length=L.length:=by unfold tbL;simp
  rw[qR,zB7,htl];dsimp only;rw[zV];by_cases h1:i<L.length
  ·obtain⟨⟨l,a1,a2⟩,b1⟩:=zWO h hm h1 (zUb h h1);rw[za (by omega),cond_true,cond_true,a1,b1];simp only[Option.bind_some,zP];rw[zCf (by simp;omega),jO (show i<((List.range i).map (fun i=>(od h i:Int))++List.replicate (L.length - i) 0).length by rw[zNS _ _ (by omega)];exact h1),a2,zAt (by omega),zd,zNQ (fun i=>(od h i:Int)) _ h1];simp only[Option.bind_some];obtain⟨k',rfl⟩:∃k',k=k'+1:=⟨k - 1,by omega⟩
   have e:(List.range i).map (fun i=>(od h i:Int))++[(od h i:Int)]=(List.range (i+1)).map fun i=>(od h i:Int):=by rw[List.range_succ,List.map_append];rfl
   rw[e];exact zRP h hm k' fu (i+1) (by omega) (by omega)
  ·rw[decide_eq_false (by omega),cond_false,cond_false];have:i=L.length:=by omega
   subst this;exact⟨rfl,by rw[zNT]⟩
noncomputable def ordL{D:Int}{L:List F3}(h:RL D L):List Int:=(List.range L.length).map fun i=>(od h i:Int)
theorem zTj{D:Int}{L:List F3}(h:RL D L):((q7 D).bind fun g=>zM g)=some (ordL h)∧((zB6 D).bind fun t=>zC2 t)=some (ordL h):=by
 have hF:=FUge;have hlen:=h.len;obtain⟨m,m1,m2⟩:=zUy h.nd (by omega);obtain⟨a,b⟩:=zRP h m2 L.length FU 0 (by omega) (by omega);have e0:(((0:Nat):Int))=0:=rfl;rw[e0,List.range_zero,List.map_nil]at a b;rw[zi,Nat.sub_zero]at b;constructor
 ·simp only[q7,h.i,m1,Option.bind_some,zM,a];rfl
 ·rw[zWG h,Option.bind_some];have htl:(tbL L).length=L.length:=by unfold tbL;simp
  unfold zC2;rw[htl,gMkN (by omega),Option.bind_some,zd,b];rfl
def cnt(o:List Nat)(q:Nat):Nat:=o.countP fun r=>q % r==0
def nI(o:List Nat):List Int:=o.map fun r:Nat=>(r:Int)
theorem zGS(o:List Nat):(nI o).length=o.length:=by unfold nI;simp
theorem zSj(a b:Nat):Int.tmod (a:Int) (b:Int)=((a % b:Nat):Int):=(Int.ofNat_tmod a b).symm
theorem zUP(a b:Nat):Int.tdiv (a:Int) (b:Int)=((a / b:Nat):Int):=(Int.ofNat_tdiv a b).symm
theorem eq0N(a:Nat):eqI (a:Int) 0=(a==0):=by
 cases a with
 |zero=>rfl
 |succ a=>exact zAj (by omega)
theorem w64N{n:Nat}(h:n≤1000000000000):w64 (n:Int)=(n:Int):=zA (by omega)
theorem zMD{o:List Nat}(ho:∀r∈o,1≤r)(hlen:o.length≤2000)(q:Nat)(b9 e9 t3 la:Int)(l y2:List Int):∀(k fu i c:Nat),i+k=o.length→k<fu→c≤i→
  jI b9 e9 l (nI o) (q:Int) t3 y2 fu (c:Int) (i:Int)=some ((c+cnt (o.drop i) q:Nat):Int)∧zAW e9 l la (nI o) (q:Int) t3 y2 fu (c:Int) (i:Int)=some ((c+cnt (o.drop i) q:Nat):Int)
 |k,0,i,c,_,hf,_=>by omega
 |k,fu+1,i,c,hi,hf,hc=>by
  rw[jI,zAW,zV,zGS];by_cases h1:i<o.length
  ·have hg:getI (nI o) (i:Int)=some ((o[i]:Nat):Int):=by
    rw[jO (show i<(nI o).length by rw[zGS];exact h1)];unfold nI;simp
   have hr:=ho _ (zk h1);rw[za (by omega),cond_true,cond_true,hg];simp only[Option.bind_some];rw[zC5 (by omega)];simp only[Option.bind_some,zP];rw[zSj,eq0N,List.drop_eq_getElem_cons h1];obtain⟨k',rfl⟩:∃k',k=k'+1:=⟨k - 1,by omega⟩
   unfold cnt;rw[List.countP_cons];cases hq:(q % o[i]==0) with
   |true=>rw[cond_true,cond_true,zAt (by omega),zAt (by omega),if_pos rfl];have:=zMD ho hlen q b9 e9 t3 la l y2 k' fu (i+1) (c+1) (by omega) (by omega) (by omega);unfold cnt at this;rw[show c+((o.drop (i+1)).countP (fun r=>q % r==0)+1)=c+1+(o.drop (i+1)).countP (fun r=>q % r==0) by omega];exact this
   |false=>rw[cond_false,cond_false,zAt (by omega),if_neg (by decide)];exact zMD ho hlen q b9 e9 t3 la l y2 k' fu (i+1) c (by omega) (by omega) (by omega)
  ·rw[decide_eq_false (by omega),cond_false,cond_false,List.drop_eq_nil_of_le (by omega)];exact⟨rfl,rfl⟩
theorem zVK{p:Nat}(hp:2≤p):∀(n fu c:Nat),1≤n→n<fu→c+n≤1000000→∃Y:Nat,Y≤n∧(n=1→Y=0)∧zBd (p:Int) fu (n:Int) (c:Int)=some ((c+Y:Nat):Int)∧zAw (p:Int) fu (n:Int) (c:Int)=some ((c+Y:Nat):Int):=by
 intro n
 induction n using Nat.strongRecOn with
 |_ n ih=>
  intro fu c h1 hf hc;obtain⟨fu,rfl⟩:∃f,fu=f+1:=⟨fu - 1,by omega⟩
  rw[zBd,zAw,zC5 (by omega)];simp only[Option.bind_some,zP];rw[zSj,eq0N,zUP];cases hq:(n % p==0) with
  |true=>
   rw[cond_true,cond_true];have hq0:n % p=0:=eq_of_beq hq;have hd:p*(n / p)=n:=by have:=Nat.div_add_mod n p;omega
   have hpos:1≤n / p:=by
    rcases Nat.eq_zero_or_pos (n / p) with h|h
    ·rw[h]at hd;omega
    ·exact h
   have hlt:n / p<n:=Nat.div_lt_self (by omega) (by omega);rw[zAt (by omega),w64N (by omega)];obtain⟨Y,y1,y2,y3,y4⟩:=ih (n / p) hlt fu (c+1) hpos (by omega) (by omega);refine⟨Y+1,by omega,fun e=>?_,?_,?_⟩
   ·subst e;rw[Nat.mod_eq_of_lt (by omega)]at hq0;omega
   ·rw[y3];congr 2;omega
   ·rw[y4];congr 2;omega
  |false=>rw[cond_false,cond_false];exact⟨0,by omega,fun _=>rfl,rfl,rfl⟩
theorem zTm{p:Nat}(hp:2≤p){n:Nat}(h1:1≤n)(h2:n≤100000):∃Y:Nat,Y≤n∧(n=1→Y=0)∧zBk (n:Int) (p:Int)=some (Y:Int)∧zBn (n:Int) (p:Int)=some (Y:Int):=by
 have hF:=FUge;obtain⟨Y,y1,y2,y3,y4⟩:=zVK hp n FU 0 h1 (by omega) (by omega);rw[Nat.zero_add]at y3 y4;have e0:(((0:Nat):Int))=0:=rfl;rw[e0]at y3 y4;refine⟨Y,y1,y2,?_,?_⟩
 ·unfold zBk;rw[y3];rfl
 ·unfold zBn;rw[y4];rfl
def bmN(p:Int):Nat→List Int→List Int
 |0,l=>l
 |k+1,[]=>w64 (1*p)::bmN p k []
 |k+1,x::xs=>w64 (x*p)::bmN p k xs
def exN:Nat→List Int→List Int
 |0,l=>l
 |k+1,[]=>1::exN k []
 |k+1,x::xs=>x::exN k xs
def muN(p:Int):Nat→List Int→List Int
 |0,l=>l
 |k+1,[]=>[]
 |k+1,x::xs=>w64 (x*p)::muN p k xs
theorem zUh(p:Int):∀(k:Nat)(l:List Int),muN p k (exN k l)=bmN p k l
 |0,l=>rfl
 |k+1,[]=>by rw[exN,muN,bmN,zUh p k]
 |k+1,x::xs=>by rw[exN,muN,bmN,zUh p k]
theorem zQZ(p:Int):∀(k:Nat)(l:List Int),(bmN p k l).length=max l.length k
 |0,l=>by rw[bmN];omega
 |k+1,[]=>by rw[bmN,List.length_cons,zQZ p k];simp
 |k+1,x::xs=>by rw[bmN,List.length_cons,zQZ p k,List.length_cons];omega
theorem zQH:∀(k:Nat)(l:List Int),(exN k l).length=max l.length k
 |0,l=>by rw[exN];omega
 |k+1,[]=>by rw[exN,List.length_cons,zQH k];simp
 |k+1,x::xs=>by rw[exN,List.length_cons,zQH k,List.length_cons];omega
theorem zS5(p:Int):∀(i:Nat)(l:List Int),l.length≤i→(bmN p i l++[1]).set i (w64 (1*p))=bmN p (i+1) l
 |0,[],_=>rfl
 |0,x::xs,h=>by simp at h
 |i+1,[],_=>by show w64 (1*p)::(bmN p i []++[1]).set i (w64 (1*p))=w64 (1*p)::bmN p (i+1) [];rw[zS5 p i [] (by simp)]
 |i+1,x::xs,h=>by show w64 (x*p)::(bmN p i xs++[1]).set i (w64 (1*p))=w64 (x*p)::bmN p (i+1) xs;rw[zS5 p i xs (by simpa using h)]
theorem zV7(p:Int):∀(i:Nat)(l:List Int),i<l.length→∃x,(bmN p i l)[i]?=some x∧(bmN p i l).set i (w64 (x*p))=bmN p (i+1) l
 |i,[],h=>by simp at h
 |0,x::xs,_=>⟨x,rfl,by rw[bmN,bmN,bmN];rfl⟩
 |i+1,x::xs,h=>by obtain⟨y,h1,h2⟩:=zV7 p i xs (by simpa using h);refine⟨y,by rw[bmN];exact h1,?_⟩;show w64 (x*p)::(bmN p i xs).set i (w64 (y*p))=w64 (x*p)::bmN p (i+1) xs;rw[h2]
theorem zUg(p:Int):∀(i:Nat)(l:List Int),i<l.length→∃x,(muN p i l)[i]?=some x∧(muN p i l).set i (w64 (x*p))=muN p (i+1) l
 |i,[],h=>by simp at h
 |0,x::xs,_=>⟨x,rfl,by rw[muN,muN,muN];rfl⟩
 |i+1,x::xs,h=>by obtain⟨y,h1,h2⟩:=zUg p i xs (by simpa using h);refine⟨y,by rw[muN];exact h1,?_⟩;show w64 (x*p)::(muN p i xs).set i (w64 (y*p))=w64 (x*p)::muN p (i+1) xs;rw[h2]
theorem zTO:∀(k:Nat)(l:List Int),l.length<k→exN k (l++[1])=exN k l
 |0,l,h=>by omega
 |k+1,[],h=>by show exN (k+1) [1]=exN (k+1) [];rw[exN,exN]
 |k+1,x::xs,h=>by show exN (k+1) (x::(xs++[1]))=_;rw[exN,exN,zTO k xs (by simpa using h)]
theorem zXV:∀(k:Nat)(l:List Int),k≤l.length→exN k l=l
 |0,l,_=>rfl
 |k+1,[],h=>by simp at h
 |k+1,x::xs,h=>by rw[exN,zXV k xs (by simpa using h)]
theorem getQ{α:Type}{l:List α}{i:Nat}{x:α}(h:l[i]?=some x):getI l (i:Int)=some x:=by obtain⟨h1,h2⟩:=List.getElem?_eq_some_iff.1 h;rw[jO h1,h2]
theorem zNe{before o20 e9 q t3:Int}{ords y2:List Int}{Y:Nat}(hb:before≠0)(hY:zBk (w64 (Int.tdiv o20 before)) e9=some (Y:Int))(hY2:Y≤100000){l:List Int}(hl:l.length≤100000):∀(k fu i:Nat),i+k=Y→k<fu→
  jH before e9 o20 ords q t3 y2 fu (i:Int) (bmN e9 i l)=some (bmN e9 Y l)
 |k,0,i,_,hf=>by omega
 |k,fu+1,i,hi,hf=>by
  rw[jH,zC5 hb];simp only[Option.bind_some,hY];rw[zV];by_cases h1:i<Y
  ·rw[za (by omega),cond_true];obtain⟨k',rfl⟩:∃k',k=k'+1:=⟨k - 1,by omega⟩
   have hL:=zQZ e9 i l;by_cases h2:l.length≤i
   ·have e:eqI (i:Int) ((bmN e9 i l).length:Int)=true:=by rw[hL,show max l.length i=i by omega];exact zDm _
    rw[e,cond_true,zCf (by simp;omega)];simp only[Option.bind_some];have hx:(bmN e9 i l++[1])[i]?=some 1:=by rw[List.getElem?_append_right (by omega),hL,show i - max l.length i=0 by omega];rfl
    rw[getQ hx];simp only[Option.bind_some,zP];rw[zAt (by omega),zd,zS5 e9 i l h2];exact zNe hb hY hY2 hl k' fu (i+1) (by omega) (by omega)
   ·have e:eqI (i:Int) ((bmN e9 i l).length:Int)=false:=zAj (by omega);obtain⟨x,x1,x2⟩:=zV7 e9 i l (by omega);rw[e,cond_false];simp only[Option.bind_some];rw[getQ x1];simp only[Option.bind_some,zP];rw[zAt (by omega),zd,x2];exact zNe hb hY hY2 hl k' fu (i+1) (by omega) (by omega)
  ·rw[decide_eq_false (by omega),cond_false];have:i=Y:=by omega
   rw[this]
theorem zTN{e8 o19 q t3:Int}{ords y2:List Int}{Y:Nat}(hY2:Y≤100000):∀(k fu:Nat)(l:List Int),Y - l.length≤k→k<fu→l.length≤100000→zAy e8 o19 ords q t3 y2 (Y:Int) fu l=some (exN Y l)
 |k,0,l,_,hf,_=>by omega
 |k,fu+1,l,hk,hf,hl=>by
  rw[zAy,zV];by_cases h1:l.length<Y
  ·rw[za (by omega),cond_true,zCf (by simp;omega)];simp only[Option.bind_some];rw[zTN hY2 (k - 1) fu (l++[1]) (by simp;omega) (by omega) (by simp;omega),zTO Y l h1]
  ·rw[decide_eq_false (by omega),cond_false,zXV Y l (by omega)]
theorem zTC{e8 o19 q t3:Int}{ords y2:List Int}{Y:Nat}(hY2:Y≤100000){l:List Int}(hl:Y≤l.length):∀(k fu i:Nat),i+k=Y→k<fu→zAV e8 o19 ords q t3 y2 (Y:Int) fu (i:Int) (muN e8 i l)=some (muN e8 Y l)
 |k,0,i,_,hf=>by omega
 |k,fu+1,i,hi,hf=>by
  rw[zAV,zV];by_cases h1:i<Y
  ·rw[za (by omega),cond_true];obtain⟨k',rfl⟩:∃k',k=k'+1:=⟨k - 1,by omega⟩
   obtain⟨x,x1,x2⟩:=zUg e8 i l (by omega);rw[getQ x1];simp only[Option.bind_some,zP];rw[zAt (by omega),zd,x2];exact zTC hY2 hl k' fu (i+1) (by omega) (by omega)
  ·rw[decide_eq_false (by omega),cond_false];have:i=Y:=by omega
   rw[this]
structure PrO (o:List Nat) (p a:Nat):Prop where
  two:2≤p
  part:zFM (o.length:Int) (p:Int)=some ((p ^a:Nat):Int)
  dv:∀k,k≤a→o.length % p ^k=0
  nd:o.length % p ^(a+1)≠0
  bd:p ^(a+1)≤4000000
  mono:∀k,cnt o (p ^k)≤cnt o (p ^(k+1))
  pos:∀k,1≤cnt o (p ^k)
  top:cnt o (p ^a)=p ^a
  le:∀k,cnt o (p ^k)≤2000
  small:a≤100
theorem PrO.up{o:List Nat}{p a:Nat}(h:PrO o p a)(k:Nat):∀j,cnt o (p ^k)≤cnt o (p ^(k+j))
 |0=>Nat.le_refl _
 |j+1=>Nat.le_trans (h.up k j) (h.mono (k+j))
theorem zU5{p:Nat}(h:2≤p){a b:Nat}(hab:a≤b):p ^a≤p ^b:=Nat.pow_le_pow_right (by omega) hab
theorem zM6{o:List Nat}(ho:∀r∈o,1≤r)(hlen:o.length≤2000){p a:Nat}(h:PrO o p a){k:Nat}(hk:k<a){l:List Int}(hl:l.length≤2000)(t3:Int)(y2:List Int)(fu:Nat):
  ∃Y:Nat,Y≤2000∧(cnt o (p ^(k+1))=cnt o (p ^k)→Y=0)∧zBk (w64 (Int.tdiv ((cnt o (p ^(k+1)):Nat):Int) ((cnt o (p ^k):Nat):Int))) (p:Int)=some (Y:Int)∧
   qN (p:Int) (nI o) t3 y2 (fu+1) ((cnt o (p ^k):Nat):Int) ((p ^(k+1):Nat):Int) l=qN (p:Int) (nI o) t3 y2 fu ((cnt o (p ^(k+1)):Nat):Int) ((p ^(k+2):Nat):Int) (bmN (p:Int) Y l):=by
 have hF:=FUge;have e0:(((0:Nat):Int))=0:=rfl;have h1:=h.pos k;have h2:=h.mono k;have h3:=h.le (k+1);have hq:1≤cnt o (p ^(k+1)) / cnt o (p ^k):=(Nat.le_div_iff_mul_le (by omega)).2 (by omega);have hq2:cnt o (p ^(k+1)) / cnt o (p ^k)≤2000:=Nat.le_trans (Nat.div_le_self _ _) h3;obtain⟨Y,y1,y2',y3,y4⟩:=zTm h.two hq (by omega);have hpb:p ^(k+2)≤4000000:=Nat.le_trans (zU5 h.two (by omega)) h.bd;have hpp:1≤p ^(k+1):=Nat.pow_pos (by have:=h.two;omega);refine⟨Y,by omega,fun e=>y2' ?_,?_,?_⟩
 ·rw[e];exact Nat.div_self (by omega)
 ·rw[zUP,w64N (by omega)];exact y3
 ·rw[qN,zC5 (by omega)];simp only[Option.bind_some];rw[zGS,zSj,h.dv (k+1) (by omega),eq0N];obtain⟨_,c2⟩:=zMD ho hlen (p ^(k+1)) 0 (p:Int) t3 ((cnt o (p ^k):Nat):Int) l y2 o.length FU 0 0 (by omega) (by omega) (Nat.le_refl 0);rw[Nat.zero_add,List.drop_zero,e0]at c2;rw[c2];simp only[Option.bind_some];rw[zC5 (by omega),zUP,w64N (by omega),y4];simp only[Option.bind_some];rw[zTN (by omega) Y FU l (by omega) (by omega) (by omega)];simp only[Option.bind_some];have hm:=zTC (e8:=(p:Int)) (o19:=((cnt o (p ^(k+1)):Nat):Int)) (q:=((p ^(k+1):Nat):Int)) (t3:=t3) (ords:=nI o) (y2:=y2) (Y:=Y) (by omega) (l:=exN Y l) (by rw[zQH];omega) Y FU 0 (by omega) (by omega);rw[e0]at hm;have hm':zAV (p:Int) ((cnt o (p ^(k+1)):Nat):Int) (nI o) ((p ^(k+1):Nat):Int) t3 y2 (Y:Int) FU 0 (exN Y l)=some (muN (p:Int) Y (exN Y l)):=hm;rw[hm',zUh];simp only[Option.bind_some,zP];have e:w64 (((p ^(k+1):Nat):Int)*(p:Int))=((p ^(k+2):Nat):Int):=by
   rw[show ((p ^(k+1):Nat):Int)*(p:Int)=((p ^(k+1)*p:Nat):Int) by push_cast;rfl,show p ^(k+1)*p=p ^(k+2) from rfl,w64N (by omega)]
  rw[e];rfl
theorem zOo{o:List Nat}(ho:∀r∈o,1≤r)(hlen:o.length≤2000){p a:Nat}(h:PrO o p a){l:List Int}(hl:l.length≤2000)(t3:Int)(y2:List Int):∀(j fu k:Nat),k+j=a→j<fu→cnt o (p ^k)=p ^a→
  qN (p:Int) (nI o) t3 y2 fu ((cnt o (p ^k):Nat):Int) ((p ^(k+1):Nat):Int) l=some l
 |j,0,k,_,hf,_=>by omega
 |0,fu+1,k,hk,hf,hc=>by
  have e:k=a:=by omega
  subst e;have hpp:1≤p ^(k+1):=Nat.pow_pos (by have:=h.two;omega);rw[qN,zC5 (by omega)];simp only[Option.bind_some];rw[zGS,zSj,eq0N,beq_false_of_ne h.nd];rfl
 |j+1,fu+1,k,hk,hf,hc=>by
  obtain⟨Y,y1,y2',y3,y4⟩:=zM6 ho hlen h (k:=k) (by omega) hl t3 y2 fu;have h1:=h.mono k;have h2:=h.up (k+1) j;rw[show k+1+j=a by omega,h.top]at h2;have hc2:cnt o (p ^(k+1))=p ^a:=by omega
  have hY:=y2' (by omega);subst hY;rw[y4,bmN];exact zOo ho hlen h hl t3 y2 j fu (k+1) (by omega) (by omega) hc2
theorem zKm{o:List Nat}(ho:∀r∈o,1≤r)(hlen:o.length≤2000){p a:Nat}(h:PrO o p a)(t3:Int)(y2:List Int):∀(j fu fv k:Nat)(l:List Int),k+j=a→j<fu→j<fv→l.length≤2000→
  ∃r,r.length≤2000∧zAK (p:Int) (nI o) t3 y2 fu ((cnt o (p ^k):Nat):Int) ((p ^(k+1):Nat):Int) l=some r∧qN (p:Int) (nI o) t3 y2 fv ((cnt o (p ^k):Nat):Int) ((p ^(k+1):Nat):Int) l=some r
 |j,0,fv,k,l,_,hf,_,_=>by omega
 |j,fu+1,0,k,l,_,_,hf,_=>by omega
 |j,fu+1,fv+1,k,l,hk,hf,hf2,hl=>by
  have hF:=FUge;have e0:(((0:Nat):Int))=0:=rfl;have hup:=h.up k j;rw[hk,h.top]at hup;rw[zAK,zGS,h.part];simp only[Option.bind_some];rw[zV];by_cases hlt:cnt o (p ^k)<p ^a
  ·rw[za (by omega),cond_true];have hj:j≠0:=fun e=>by
    subst e;rw[Nat.add_zero]at hk;rw[hk,h.top]at hlt;omega
   obtain⟨j',rfl⟩:∃j',j=j'+1:=⟨j - 1,by omega⟩
   obtain⟨Y,y1,y2',y3,y4⟩:=zM6 ho hlen h (k:=k) (by omega) hl t3 y2 fv;obtain⟨c1,_⟩:=zMD ho hlen (p ^(k+1)) ((cnt o (p ^k):Nat):Int) (p:Int) t3 0 l y2 o.length FU 0 0 (by omega) (by omega) (Nat.le_refl 0);rw[Nat.zero_add,List.drop_zero,e0]at c1;have h1:=h.pos k;have hpb:p ^(k+2)≤4000000:=Nat.le_trans (zU5 h.two (by omega)) h.bd;have hb:=zNe (before:=((cnt o (p ^k):Nat):Int)) (o20:=((cnt o (p ^(k+1)):Nat):Int)) (e9:=(p:Int)) (q:=((p ^(k+1):Nat):Int)) (t3:=t3) (ords:=nI o) (y2:=y2) (Y:=Y) (by omega) y3 (by omega) (l:=l) (by omega) Y FU 0 (by omega) (by omega);rw[e0]at hb;have hb':jH ((cnt o (p ^k):Nat):Int) (p:Int) ((cnt o (p ^(k+1)):Nat):Int) (nI o) ((p ^(k+1):Nat):Int) t3 y2 FU 0 l=some (bmN (p:Int) Y l):=hb;rw[c1];simp only[Option.bind_some];rw[hb'];simp only[Option.bind_some,zP];have e:w64 (((p ^(k+1):Nat):Int)*(p:Int))=((p ^(k+2):Nat):Int):=by rw[show ((p ^(k+1):Nat):Int)*(p:Int)=((p ^(k+1)*p:Nat):Int) by push_cast;rfl,show p ^(k+1)*p=p ^(k+2) from rfl,w64N (by omega)]
   rw[e,y4];exact zKm ho hlen h t3 y2 j' fu fv (k+1) (bmN (p:Int) Y l) (by omega) (by omega) (by omega) (by rw[zQZ];omega)
  ·rw[decide_eq_false (by omega),cond_false];exact⟨l,hl,rfl,zOo ho hlen h hl t3 y2 j (fv+1) k hk (by omega) (by omega)⟩
theorem zMx{o:List Nat}(ho:∀r∈o,1≤r)(hlen:o.length≤2000)(h1:cnt o 1=1)(ps:List Nat)(hp:∀p∈ps,∃a,PrO o p a)(hpl:ps.length≤1000):∀(k fu i:Nat)(l:List Int),i+k=ps.length→k<fu→l.length≤2000→
  ∃r,r.length≤2000∧zAX (nI o) (nI ps) fu (i:Int) l=some r∧zBV (nI o) (nI ps) fu (i:Int) l=some r
 |k,0,i,l,_,hf,_=>by omega
 |k,fu+1,i,l,hi,hf,hl=>by
  have hF:=FUge;rw[zAX,zBV,zV,zGS];by_cases hlt:i<ps.length
  ·have hg:getI (nI ps) (i:Int)=some ((ps[i]:Nat):Int):=by
    rw[jO (show i<(nI ps).length by rw[zGS];exact hlt)];unfold nI;simp
   obtain⟨a,ha⟩:=hp _ (zk hlt);have hs:=ha.small;obtain⟨r,r0,r1,r2⟩:=zKm ho hlen ha (i:Int) (nI ps) a FU FU 0 l (by omega) (by omega) (by omega) hl;rw[Nat.pow_zero,h1,show ps[i] ^(0+1)=ps[i] by simp]at r1 r2;have e1:(((1:Nat):Int))=1:=rfl;rw[e1]at r1 r2;rw[za (by omega),cond_true,cond_true,hg];simp only[Option.bind_some];rw[r1,r2];simp only[Option.bind_some,zP];rw[zAt (by omega)];obtain⟨k',rfl⟩:∃k',k=k'+1:=⟨k - 1,by omega⟩
   exact zMx ho hlen h1 ps hp hpl k' fu (i+1) r (by omega) (by omega) r0
  ·rw[decide_eq_false (by omega),cond_false,cond_false];exact⟨l,hl,rfl,rfl⟩
theorem zSo:∀(k fu i:Nat)(j:Int)(l:List Int),j - i≤k→k<fu→j<l.length→l.length≤2000→∃r,r.length≤2000∧zAJ fu (i:Int) j l=some r∧zAx fu (i:Int) j l=some r
 |k,0,i,j,l,_,hf,_,_=>by omega
 |k,fu+1,i,j,l,hk,hf,hj,hl=>by
  rw[zAJ,zAx,zV];by_cases hlt:(i:Int)<j
  ·obtain⟨jn,rfl⟩:=Int.eq_ofNat_of_zero_le (show 0≤j by omega);have a1:jn<l.length:=by omega
   have a2:i<l.length:=by omega
   rw[za hlt,cond_true,cond_true,jO a1,jO a2];simp only[Option.bind_some];rw[zd,jO (show jn<(l.set i l[jn]).length by rw[List.length_set];exact a1)];simp only[Option.bind_some,zP];rw[zAt (by omega),zd,zA (by omega)];exact zSo (k - 1) fu (i+1) ((jn:Int) - 1) _ (by omega) (by omega) (by rw[List.length_set,List.length_set];omega) (by rw[List.length_set,List.length_set];exact hl)
  ·rw[decide_eq_false hlt,cond_false,cond_false];exact⟨l,hl,rfl,rfl⟩
theorem zUm{o:List Nat}(ho:∀r∈o,1≤r)(hlen:o.length≤2000)(h1:cnt o 1=1){ps:List Nat}(hi:zBS (o.length:Int)=some (nI ps))(hs:zBR (o.length:Int)=some (nI ps))(hp:∀p∈ps,∃a,PrO o p a)(hpl:ps.length≤1000):
  ∃r,r.length≤2000∧qV (nI o)=some r∧zCJ (nI o)=some r:=by
 have hF:=FUge;have e0:(((0:Nat):Int))=0:=rfl;obtain⟨l,l0,l1,l2⟩:=zMx ho hlen h1 ps hp hpl ps.length FU 0 [] (by omega) (by omega) (by simp);rw[e0]at l1 l2;obtain⟨r,r0,r1,r2⟩:=zSo 3000 FU 0 ((l.length:Int) - 1) l (by omega) (by omega) (by omega) l0;rw[e0]at r1 r2;refine⟨r,r0,?_,?_⟩
 ·unfold qV;rw[zGS,hi];simp only[Option.bind_some];rw[l1];simp only[Option.bind_some,zP];rw[zA (by omega),r1];rfl
 ·unfold zCJ;rw[zGS,hs];simp only[Option.bind_some];rw[l2];simp only[Option.bind_some,zP];rw[zA (by omega),r2];rfl
def eqLI:List Int→List Int→Bool
 |[],[]=>true
 |x::xs,y::ys=>bif eqI x y then eqLI xs ys else false
 |_,_=>false
theorem zMB:∀{a b:List Int},eqLI a b=true→a=b
 |[],[],_=>rfl
 |[],_::_,h=>by cases h
 |_::_,[],h=>by cases h
 |x::xs,y::ys,h=>by
  unfold eqLI at h;cases he:eqI x y with
  |false=>rw[he]at h;cases h
  |true=>rw[he,cond_true]at h;rw[zBF,beq_iff_eq]at he;rw[he,zMB h]
def pkB(n p a:Nat):Bool:=Nat.ble 2 p&&(Nat.beq (n % p ^a) 0&&(Nat.beq (Nat.gcd (p ^a) (n / p ^a)) 1&&(!Nat.beq (n % p ^(a+1)) 0&&(Nat.ble (p ^(a+1)) 4000000&&(match zFM (n:Int) (p:Int) with
 |some q=>eqI q ((p ^a:Nat):Int)
 |none=>false)))))
def anB(f:Nat→Bool):Nat→Bool
 |0=>false
 |k+1=>f k||anB f k
theorem zVb{f:Nat→Bool}:∀{n:Nat},anB f n=true→∃k,k<n∧f k=true
 |0,h=>by cases h
 |n+1,h=>by
  unfold anB at h;rw[Bool.or_eq_true]at h;rcases h with h|h
  ·exact⟨n,zf n,h⟩
  ·obtain⟨k,k1,k2⟩:=zVb h;exact⟨k,by omega,k2⟩
def prB(n:Nat):Bool:=match zBS (n:Int),zBR (n:Int) with
 |some a,some b=>eqLI a b&&(Nat.ble a.length 1000&&a.all fun p=>leI 0 p&&anB (pkB n p.toNat) 12)
 |_,_=>false
def prN:Nat→Nat→Bool
 |0,_=>true
 |k+1,n=>bif prB n then prN k (n+1) else false
theorem zMy:∀(k n:Nat),prN k n=true→∀m,n≤m→m<n+k→prB m=true
 |0,n,_,m,h1,h2=>by omega
 |k+1,n,h,m,h1,h2=>by
  unfold prN at h;cases hh:prB n with
  |false=>rw[hh]at h;cases h
  |true=>
   rw[hh,cond_true]at h;by_cases e:m=n
   ·subst e;exact hh
   ·exact zMy k (n+1) h m (by omega) (by omega)
theorem pr_0:prN 400 1=true:=by decide+kernel
theorem pr_1:prN 400 401=true:=by decide+kernel
theorem pr_2:prN 400 801=true:=by decide+kernel
theorem pr_3:prN 400 1201=true:=by decide+kernel
theorem zXe{n:Nat}(h1:1≤n)(h2:n≤1600):prB n=true:=by
 rcases Nat.lt_or_ge n 401 with h|h
 ·exact zMy 400 1 pr_0 n (by omega) (by omega)
 ·rcases Nat.lt_or_ge n 801 with h|h
  ·exact zMy 400 401 pr_1 n (by omega) (by omega)
  ·rcases Nat.lt_or_ge n 1201 with h|h
   ·exact zMy 400 801 pr_2 n (by omega) (by omega)
   ·exact zMy 400 1201 pr_3 n (by omega) (by omega)
theorem zXd{n:Nat}(h1:1≤n)(h2:n≤1600):∃ps:List Nat,zBS (n:Int)=some (nI ps)∧zBR (n:Int)=some (nI ps)∧ps.length≤1000∧∀p∈ps,∃a,a<12∧pkB n p a=true:=by
 have h:=zXe h1 h2;unfold prB at h;split at h
 ·rename_i a b ha hb;rw[ze,ze]at h;obtain⟨k1,k2,k3⟩:=h;have e:=zMB k1;subst e;have hall:=List.all_eq_true.1 k3;have hnI:nI (a.map Int.toNat)=a:=by
   unfold nI;rw[List.map_map]
   conv=>rhs;rw[←List.map_id a]
   refine List.map_congr_left fun p hp=>?_
   have:=hall p hp;rw[ze,jL,zp]at this;show ((p.toNat:Nat):Int)=p;omega
  refine⟨a.map Int.toNat,by rw[hnI];exact ha,by rw[hnI];exact hb,by rw[List.length_map];exact Nat.le_of_ble_eq_true k2,fun p hp=>?_⟩;obtain⟨q,hq,rfl⟩:=List.mem_map.1 hp;have:=hall q hq;rw[ze]at this;exact zVb this.2
 ·cases h
noncomputable def odL{D:Int}{L:List F3}(h:RL D L):List Nat:=(List.range L.length).map (od h)
theorem zPt{D:Int}{L:List F3}(h:RL D L):(odL h).length=L.length:=by unfold odL;simp
theorem zXg{D:Int}{L:List F3}(h:RL D L):nI (odL h)=ordL h:=by unfold nI odL ordL;rw[List.map_map];rfl
theorem zWR{D:Int}{L:List F3}(h:RL D L):∀r∈odL h,1≤r:=by intro r hr;obtain⟨i,hi,rfl⟩:=List.mem_map.1 hr;exact (zUb h (List.mem_range.1 hi)).lo
theorem zN0{D:Int}{L:List F3}(h:RL D L)(q:Nat):cnt (odL h) q=nE gM (g1 D h.hi) (L.map (gC D h.hi)) q:=by
 refine zXi (zMu h) (by rw[zPt];simp) (fun i x r hx hr=>?_) q;have hi:i<L.length:=by
  rcases Nat.lt_or_ge i L.length with h1|h1
  ·exact h1
  ·rw[List.getElem?_eq_none (by simpa using h1)]at hx;cases hx
 have hr':od h i=r:=by unfold odL at hr;rw[List.getElem?_map,List.getElem?_range hi]at hr;exact Option.some.inj hr
 have hx':gX h i=x:=by unfold gX;rw[zBe hi];rw[List.getElem?_map,zl hi]at hx;exact Option.some.inj hx
 have:=zUb h hi;rw[hr']at this;rw[←hx'];exact⟨this.lo,this.pw,this.le⟩
theorem zXc{D:Int}{L:List F3}(h:RL D L){p a:Nat}(hk:pkB L.length p a=true)(ha:a<12):PrO (odL h) p a:=by
 unfold pkB at hk;simp only[ze]at hk;obtain⟨k1,k2,k3,k4,k5,k6⟩:=hk;have k1:=Nat.le_of_ble_eq_true k1;have k2:=Nat.eq_of_beq_eq_true k2;have k3:=Nat.eq_of_beq_eq_true k3;have k5:=Nat.le_of_ble_eq_true k5;have hlen:=h.len;have hl:=zPt h;have hG:=zMu h;have hpa:1≤p ^a:=Nat.pow_pos (by omega);have hmul:p ^a*(L.length / p ^a)=L.length:=by have:=Nat.div_add_mod L.length (p ^a);omega
 have hpos:1≤L.length:=by obtain⟨z,_⟩:=zQF h;exact z
 have hb:1≤L.length / p ^a:=by
  rcases Nat.eq_zero_or_pos (L.length / p ^a) with e|e
  ·rw[e]at hmul;omega
  ·exact e
 refine⟨k1,?_,fun k hk=>?_,?_,k5,fun k=>?_,fun k=>?_,?_,fun k=>?_,by omega⟩
 ·rw[hl];split at k6
  ·rename_i q hq;rw[hq];rw[zBF,beq_iff_eq]at k6;rw[k6]
  ·cases k6
 ·rw[hl];refine Nat.mod_eq_zero_of_dvd (Nat.dvd_trans (Nat.pow_dvd_pow p hk) (Nat.dvd_of_mod_eq_zero k2))
 ·rw[hl];intro e;rw[e]at k4;cases k4
 ·rw[zN0,zN0];exact zWT hG ⟨p,rfl⟩
 ·rw[zN0];exact zXh hG _
 ·rw[zN0];exact zTB hG hpa hb (by rw[List.length_map];omega) k3
 ·have:cnt (odL h) (p ^k)≤(odL h).length:=List.countP_le_length;omega
theorem zUt{D:Int}{L:List F3}(h:RL D L):∃r,r.length≤2000∧((q7 D).bind fun g=>(zM g).bind fun o=>qV o)=some r∧zA5 D=some r:=by
 have hlen:=h.len;have hl:=zPt h;have hpos:1≤L.length:=by obtain⟨z,_⟩:=zQF h;exact z
 obtain⟨ps,p1,p2,p3,p4⟩:=zXd hpos (by omega);obtain⟨r,r0,r1,r2⟩:=zUm (o:=odL h) (zWR h) (by omega) (by rw[zN0];exact zXj (zMu h)) (by rw[hl];exact p1) (by rw[hl];exact p2) (fun p hp=>by obtain⟨a,a1,a2⟩:=p4 p hp;exact⟨a,zXc h a2 a1⟩) p3
 rw[zXg]at r1 r2;obtain⟨o1,o2⟩:=zTj h;refine⟨r,r0,?_,?_⟩
 ·cases hg:q7 D with
  |none=>rw[hg]at o1;cases o1
  |some g=>rw[hg,Option.bind_some]at o1;rw[Option.bind_some,o1,Option.bind_some];exact r1
 ·unfold zA5;cases ht:zB6 D with
  |none=>rw[ht]at o2;cases o2
  |some t=>rw[ht,Option.bind_some]at o2;rw[Option.bind_some,o2,Option.bind_some,r2];rfl
theorem zW6(a b:Int):eqI a b=eqI b a:=by rw[zBF,zBF,Bool.eq_iff_iff,beq_iff_eq,beq_iff_eq];exact⟨fun h=>h.symm,fun h=>h.symm⟩
theorem zWI{a b:List Int}(hl:a.length=b.length){i:Nat}(h:i<a.length):eqLI (a.drop i) (b.drop i)=bif eqI a[i] (b[i]'(by omega)) then eqLI (a.drop (i+1)) (b.drop (i+1)) else false:=by rw[List.drop_eq_getElem_cons h,List.drop_eq_getElem_cons (show i<b.length by omega)];rfl
def sum1(b:Bool):Unit ⊕ Bool:=bif b then .inl () else .inr false
theorem zUT{a b:List Int}(hl:a.length=b.length)(hn:a.length≤100000):∀(k fu i:Nat),i+k=a.length→k<fu→
  zBB a b fu (i:Int)=some (sum1 (eqLI (a.drop i) (b.drop i)))∧zCH a b fu (i:Int)=some (sum1 (eqLI (a.drop i) (b.drop i)))∧zBb a b fu (i:Int)=some (sum1 (eqLI (a.drop i) (b.drop i)))
 |k,0,i,_,hf=>by omega
 |k,fu+1,i,hi,hf=>by
  rw[zBB,zCH,zBb,zV];by_cases h1:i<a.length
  ·rw[za (by omega),cond_true,cond_true,cond_true,jO h1,jO (show i<b.length by omega),zWI hl h1];simp only[Option.bind_some];rw[zW6 b[i] a[i]];cases he:eqI a[i] (b[i]'(by omega)) with
   |true=>
    simp only[Bool.not_true,cond_false,cond_true,zP];rw[zAt (by omega)];obtain⟨k',rfl⟩:∃k',k=k'+1:=⟨k - 1,by omega⟩
    exact zUT hl hn k' fu (i+1) (by omega) (by omega)
   |false=>exact⟨rfl,rfl,rfl⟩
  ·rw[decide_eq_false (by omega),cond_false,cond_false,cond_false,List.drop_eq_nil_of_le (by omega),List.drop_eq_nil_of_le (by omega)];exact⟨rfl,rfl,rfl⟩
theorem zRX:∀{a b:List Int},a.length≠b.length→eqLI a b=false
 |[],[],h=>absurd rfl h
 |[],_::_,_=>rfl
 |_::_,[],_=>rfl
 |x::xs,y::ys,h=>by unfold eqLI;rw[zRX (a:=xs) (b:=ys) (fun e=>h (by simp[e]))];cases eqI x y<;>rfl
theorem zKO:∀a:List Int,eqLI a a=true
 |[]=>rfl
 |x::xs=>by unfold eqLI;rw[zDm,cond_true,zKO xs]
theorem zM7{a:List Int}(hn:a.length≤100000)(b:List Int):zA8 a b=some (eqLI a b)∧zCB a b=some (eqLI a b)∧qZ a b=some (eqLI a b):=by
 have hF:=FUge;unfold zA8 zCB qZ;by_cases hl:a.length=b.length
 ·have e:eqI (a.length:Int) (b.length:Int)=true:=by rw[hl];exact zDm _
  obtain⟨s1,s2,s3⟩:=zUT hl hn a.length FU 0 (by omega) (by omega);have e0:(((0:Nat):Int))=0:=rfl;rw[e0,List.drop_zero,List.drop_zero]at s1 s2 s3;rw[e,s1,s2,s3];cases eqLI a b<;>exact⟨rfl,rfl,rfl⟩
 ·have e:eqI (a.length:Int) (b.length:Int)=false:=zAj (by omega);rw[e,zRX hl];exact⟨rfl,rfl,rfl⟩
theorem zPH{l:List Int}(hl:l.length≤100000):∀(k fu i:Nat)(v:Int),i+k=l.length→k<fu→1≤v→v≤1000→(0<i→∃x,l[i - 1]?=some x∧2≤x)→
  (zBK l fu v (i:Int)=some (.inr (0,false))∧zAf l fu v (i:Int)=some (.inr (0,false)))∨
  ∃r,1≤r∧r≤1000∧zBK l fu v (i:Int)=some (.inl r)∧zAf l fu v (i:Int)=some (.inl r)∧∀(more:List Int)(y6:List Int×Bool),qC more l y6 fu v (i:Int)=some r
 |k,0,i,v,_,hf,_,_,_=>by omega
 |k,fu+1,i,v,hi,hf,v1,v2,hp=>by
  rw[zBK,zAf,zV];by_cases h1:i<l.length
  ·rw[za (by omega),cond_true,cond_true,jO h1];simp only[Option.bind_some,zBo,jL,zV];by_cases ha:2≤l[i]
   ·by_cases hb:l[i]≤1000
    ·rw[decide_eq_false (show ¬l[i]<2 by omega),decide_eq_false (show ¬1000<l[i] by omega),za ha,za hb];simp only[cond_false,cond_true,Bool.not_true];have hg:∃c:Bool,(bif decide ((0:Int)<(i:Int)) then ((getI l (w64 ((i:Int) - 1))).bind fun e11=>(nz e11).bind fun z12=>some (!eqI (Int.tmod l[i] e11) 0)) else some false)=some c:=by
      by_cases h0:0<i
      ·obtain⟨x,x1,x2⟩:=hp h0;rw[za (by omega),cond_true,zA (by omega),show (i:Int) - 1=((i - 1:Nat):Int) by omega,getQ x1,Option.bind_some,zC5 (by omega)];exact⟨_,rfl⟩
      ·rw[decide_eq_false (by omega)];exact⟨_,rfl⟩
     obtain⟨c,hc⟩:=hg;rw[hc];cases c with
     |true=>exact .inl ⟨rfl,rfl⟩
     |false=>
      simp only[Option.bind_some,cond_false,zP];have hm:v*l[i]≤1000000:=by have:=Int.mul_le_mul (a:=v) (b:=l[i]) (c:=1000) (d:=1000) v2 hb (by omega) (by omega);omega
      have hm1:1≤v*l[i]:=by have:=Int.mul_le_mul (a:=1) (b:=1) (c:=v) (d:=l[i]) v1 (by omega) (by omega) (by omega);omega
      rw[zA (n:=v*l[i]) (by omega)];by_cases hq:1000<v*l[i]
      ·rw[za hq];exact .inl ⟨rfl,rfl⟩
      ·rw[decide_eq_false hq];simp only[cond_false];rw[zAt (by omega)];obtain⟨k',rfl⟩:∃k',k=k'+1:=⟨k - 1,by omega⟩
       rcases zPH hl k' fu (i+1) (v*l[i]) (by omega) (by omega) hm1 (by omega) (fun _=>⟨l[i],by simp[h1],ha⟩) with h|⟨r,r1,r2,r3,r4,r5⟩
       ·exact .inl h
       ·refine .inr ⟨r,r1,r2,r3,r4,fun more y6=>?_⟩;rw[qC,zV,za (by omega),cond_true,jO h1];simp only[Option.bind_some,zP];rw[zA (n:=v*l[i]) (by omega),zAt (by omega)];exact r5 more y6
    ·rw[decide_eq_false (show ¬l[i]<2 by omega),za (show 1000<l[i] by omega),za ha,decide_eq_false hb];exact .inl ⟨rfl,rfl⟩
   ·rw[za (show l[i]<2 by omega),decide_eq_false ha];exact .inl ⟨rfl,rfl⟩
  ·rw[decide_eq_false (by omega),cond_false,cond_false];refine .inr ⟨v,v1,v2,rfl,rfl,fun more y6=>?_⟩;rw[qC,zV,decide_eq_false (by omega),cond_false]
theorem zS4{l:List Int}(hl:l.length≤100000):(zCl l=some (0,false)∧zBW l=some (0,false))∨
  ∃r,1≤r∧r≤1000∧zCl l=some (r,true)∧zBW l=some (r,true)∧∀(more:List Int)(y6:List Int×Bool),qC more l y6 FU 1 0=some r:=by
 have hF:=FUge;have e0:(((0:Nat):Int))=0:=rfl;unfold zCl zBW;rcases zPH hl l.length FU 0 1 (by omega) (by omega) (by omega) (by omega) (fun h=>absurd h (by omega)) with⟨h1,h2⟩|⟨r,r1,r2,r3,r4,r5⟩
 ·rw[e0]at h1 h2;rw[h1,h2];exact .inl ⟨rfl,rfl⟩
 ·rw[e0]at r3 r4;rw[r3,r4];exact .inr ⟨r,r1,r2,rfl,rfl,r5⟩
def OkN(d:Int):Prop:=-2000≤d∧d≤-3∧d % 4≤1
theorem zKP{hi:Int}(hh:hi≤-3):∀(k fu:Nat)(d:Int)(l:List Int),hi+1 - d≤k→k<fu→-2000≤d→l.length+k≤10000→∃r,zBM hi fu d l=some (l++r)∧zBH hi fu d l=some (l++r)∧r.length≤k∧∀x∈r,OkN x
 |k,0,d,l,_,hf,_,_=>by omega
 |k,fu+1,d,l,hk,hf,hd,hl=>by
  rw[zBM,zBH,jL];by_cases h1:d≤hi
  ·rw[za h1,cond_true,cond_true,zNE,zET];simp only[Option.bind_some];obtain⟨k',rfl⟩:∃k',k=k'+1:=⟨k - 1,by omega⟩
   have e:w64 (d+1)=d+1:=zA (by omega);by_cases h2:-2000≤d∧d≤-3∧d % 4≤1
   ·rw[za h2,cond_true,cond_true,zCf (by simp;omega)];simp only[Option.bind_some,zP,e];obtain⟨r,r1,r2,r3,r4⟩:=zKP hh k' fu (d+1) (l++[d]) (by omega) (by omega) (by omega) (by simp;omega);refine⟨d::r,by rw[r1];simp,by rw[r2];simp,by simp;omega,fun x hx=>?_⟩;rcases List.mem_cons.1 hx with h|h
    ·rw[h];exact h2
    ·exact r4 x h
   ·rw[decide_eq_false h2,cond_false,cond_false];simp only[zP,e];obtain⟨r,r1,r2,r3,r4⟩:=zKP hh k' fu (d+1) l (by omega) (by omega) (by omega) (by omega);exact⟨r,r1,r2,by omega,r4⟩
  ·rw[decide_eq_false h1,cond_false,cond_false];exact⟨[],by simp,by simp,by simp,fun x hx=>by cases hx⟩
theorem zI1{lo hi:Int}(h1:-2000≤lo)(h2:hi≤-3):∃r,zAc lo hi=some r∧zA6 lo hi=some r∧r.length≤2000∧∀x∈r,OkN x:=by
 have hF:=FUge;obtain⟨r,r1,r2,r3,r4⟩:=zKP h2 2000 FU lo [] (by omega) (by omega) h1 (by simp);rw[zi]at r1 r2;refine⟨r,?_,?_,r3,r4⟩
 ·unfold zAc;rw[r1];rfl
 ·unfold zA6;rw[r2];rfl
def fsL(D:Int):List F3:=(qK D).getD []
theorem zHJ{D:Int}(h:OkN D):RL D (fsL D):=by
 obtain⟨L,hL⟩:=rl_ex h.1 h.2.1 h.2.2;have e:fsL D=L:=by unfold fsL;rw[hL.s];rfl
 rw[e];exact hL
def ivL(D:Int):List Int:=(zA5 D).getD []
theorem zTI{D:Int}(h:OkN D):(ivL D).length≤2000∧((q7 D).bind fun g=>(zM g).bind fun o=>qV o)=some (ivL D)∧zA5 D=some (ivL D):=by
 obtain⟨r,r0,r1,r2⟩:=zUt (zHJ h);have e:ivL D=r:=by unfold ivL;rw[r2];rfl
 rw[e];exact⟨r0,r1,r2⟩
theorem zNH{so:Int→Option Bool}{b:Int→Bool}{ys:List Int}(hl:ys.length≤2000)(hb:∀d∈ys,so d=some (b d)):∀(k fu i:Nat)(l:List Int),i+k=ys.length→k<fu→l.length≤i→zAB so ys fu (i:Int) l=some (l++(ys.drop i).filter b)
 |k,0,i,l,_,hf,_=>by omega
 |k,fu+1,i,l,hi,hf,hn=>by
  rw[zAB,zV];by_cases h1:i<ys.length
  ·rw[za (by omega),cond_true,jO h1];simp only[Option.bind_some];rw[hb _ (zk h1),List.drop_eq_getElem_cons h1,List.filter_cons];simp only[Option.bind_some,zP];obtain⟨k',rfl⟩:∃k',k=k'+1:=⟨k - 1,by omega⟩
   cases hq:b ys[i] with
   |true=>rw[cond_true,zCf (by simp;omega),if_pos rfl,zAt (by omega)];simp only[Option.bind_some];rw[zNH hl hb k' fu (i+1) (l++[ys[i]]) (by omega) (by omega) (by simp;omega),List.append_assoc];rfl
   |false=>rw[cond_false,if_neg (by decide),zAt (by omega)];exact zNH hl hb k' fu (i+1) l (by omega) (by omega) (by omega)
  ·rw[decide_eq_false (by omega),cond_false,List.drop_eq_nil_of_le (by omega)];simp
theorem zNG{so:Int→Option Bool}{b:Int→Bool}{lo hi:Int}{ys:List Int}(hy:zAc lo hi=some ys)(hl:ys.length≤2000)(hb:∀d∈ys,so d=some (b d)):zAq lo hi so=some (ys.filter b):=by have hF:=FUge;have:=zNH hl hb ys.length FU 0 [] (by omega) (by omega) (by simp);have e0:(((0:Nat):Int))=0:=rfl;rw[e0,List.drop_zero,zi]at this;unfold zAq;rw[hy,Option.bind_some,this];rfl
def facB(v:Int)(fs:List Int)(d:Int):Bool:=eqI ((fsL d).length:Int) v&&eqLI (ivL d) fs
theorem zVI{d:Int}(h:OkN d)(v:Int)(fs:List Int):q8 d v fs=some (facB v fs d):=by
 have hr:=zHJ h;obtain⟨i0,i1,i2⟩:=zTI h;unfold q8 facB;rw[hr.i];simp only[Option.bind_some];cases hq:eqI ((fsL d).length:Int) v with
 |false=>rfl
 |true=>
  rw[cond_true,Bool.true_and];obtain⟨s1,_,_⟩:=zM7 (a:=ivL d) (by omega) fs;cases hg:q7 d with
  |none=>rw[hg]at i1;cases i1
  |some g=>
   rw[hg,Option.bind_some]at i1;rw[Option.bind_some];cases ho:zM g with
   |none=>rw[ho]at i1;cases i1
   |some o=>rw[ho,Option.bind_some]at i1;rw[Option.bind_some,i1,Option.bind_some,s1];rfl
theorem zQG{v:Int}{c:Bool}{fs ys:List Int}(hl:ys.length≤2000)(hy:∀d∈ys,OkN d):∀(k fu i:Nat)(l:List Int),i+k=ys.length→k<fu→l.length≤i→zZ fs (v,c) ys fu (i:Int) l=some (l++(ys.drop i).filter (facB v fs))
 |k,0,i,l,_,hf,_=>by omega
 |k,fu+1,i,l,hi,hf,hn=>by
  rw[zZ,zV];by_cases h1:i<ys.length
  ·have hd:=hy _ (zk h1);have hr:=zHJ hd;obtain⟨i0,i1,i2⟩:=zTI hd;obtain⟨_,s2,_⟩:=zM7 (a:=ivL ys[i]) (by omega) fs;rw[za (by omega),cond_true,jO h1];simp only[Option.bind_some];rw[hr.s,List.drop_eq_getElem_cons h1,List.filter_cons];simp only[Option.bind_some,zP];have e:(bif eqI ((fsL ys[i]).length:Int) v then ((zA5 ys[i]).bind fun y14=>(zCB y14 fs).bind fun y15=>some y15) else some false)=some (facB v fs ys[i]):=by
    unfold facB;cases eqI ((fsL ys[i]).length:Int) v with
    |false=>rfl
    |true=>rw[cond_true,i2,Option.bind_some,s2];rfl
   rw[e];simp only[Option.bind_some];obtain⟨k',rfl⟩:∃k',k=k'+1:=⟨k - 1,by omega⟩
   cases hq:facB v fs ys[i] with
   |true=>rw[cond_true,zCf (by simp;omega),if_pos rfl,zAt (by omega)];simp only[Option.bind_some];rw[zQG hl hy k' fu (i+1) (l++[ys[i]]) (by omega) (by omega) (by simp;omega),List.append_assoc];rfl
   |false=>rw[cond_false,if_neg (by decide),zAt (by omega)];exact zQG hl hy k' fu (i+1) l (by omega) (by omega) (by omega)
  ·rw[decide_eq_false (by omega),cond_false,List.drop_eq_nil_of_le (by omega)];simp
def allD:List Int:=(zA6 (-2000) (-3)).getD []
theorem zQ2:zAc (-2000) (-3)=some allD∧zA6 (-2000) (-3)=some allD∧allD.length≤2000∧∀x∈allD,OkN x:=by
 obtain⟨r,r1,r2,r3,r4⟩:=zI1 (lo:=-2000) (hi:=-3) (by omega) (by omega);have e:allD=r:=by unfold allD;rw[r2];rfl
 rw[e];exact⟨r1,r2,r3,r4⟩
theorem zPI{α β:Type}{o:Option α}{x:α}(h:o=some x)(f:α→Option β):o.bind f=f x:=by rw[h];rfl
theorem zVR{fs:List Int}(hl:fs.length≤100000):(zL fs=some ([],false)∧zS fs=some ([],false))∨
  ∃v,1≤v∧v≤1000∧zL fs=some (allD.filter (facB v fs),true)∧zS fs=some (allD.filter (facB v fs),true)∧∀(more:List Int)(y6:List Int×Bool),qC more fs y6 FU 1 0=some v:=by
 have hF:=FUge;obtain⟨a1,a2,a3,a4⟩:=zQ2;rcases zS4 hl with⟨h1,h2⟩|⟨v,v1,v2,v3,v4,v5⟩
 ·exact .inl ⟨zPI h1 _,zPI h2 _⟩
 ·refine .inr ⟨v,v1,v2,?_,?_,v5⟩
  ·unfold zL;rw[v3,Option.bind_some,show (!((v,true):Int×Bool).2)=false from rfl,cond_false];exact zPI (zNG (b:=facB v fs) a1 a3 fun d hd=>zVI (a4 d hd) v fs) _
  ·have:=zQG (v:=v) (c:=true) (fs:=fs) a3 a4 allD.length FU 0 [] (by omega) (by omega) (by simp);have e0:(((0:Nat):Int))=0:=rfl;rw[e0,List.drop_zero,zi]at this;unfold zS;rw[v4,Option.bind_some,show (!((v,true):Int×Bool).2)=false from rfl,cond_false];rw[a2,Option.bind_some];exact zPI this _
theorem zW9{v:Int}(h1:1≤v)(h2:v≤1000):qA v=some (allD.filter (fun d=>eqI ((fsL d).length:Int) v),true):=by
 obtain⟨a1,a2,a3,a4⟩:=zQ2;have e:(bif ltI v 1 then true else ltI 1000 v)=false:=by rw[zV,zV,decide_eq_false (by omega),decide_eq_false (by omega)];rfl
 unfold qA;rw[e,cond_false];exact zPI (zNG (b:=fun d=>eqI ((fsL d).length:Int) v) a1 a3 fun d hd=>by unfold zAd;rw[(zHJ (a4 d hd)).i];rfl) _
theorem zSr{l:List Int}(hl:l.length≤100000){x:Int}:∀(k fu i:Nat),i+k=l.length→k<fu→x∈l.drop i→zDJ l x fu (i:Int)=some (.inr true)
 |k,0,i,_,hf,_=>by omega
 |k,fu+1,i,hi,hf,hx=>by
  have h1:i<l.length:=by
   rcases Nat.lt_or_ge i l.length with h|h
   ·exact h
   ·rw[List.drop_eq_nil_of_le h]at hx;cases hx
  rw[zDJ,zV,za (by omega),cond_true,jO h1];simp only[Option.bind_some];cases he:eqI l[i] x with
  |true=>rfl
  |false=>
   rw[cond_false];simp only[zP];rw[zAt (by omega)];obtain⟨k',rfl⟩:∃k',k=k'+1:=⟨k - 1,by omega⟩
   refine zSr hl k' fu (i+1) (by omega) (by omega) ?_
   rw[List.drop_eq_getElem_cons h1]at hx;rcases List.mem_cons.1 hx with h|h
   ·rw[h,zDm]at he;cases he
   ·exact h
theorem zWN{l:List Int}(hl:l.length≤100000){x:Int}(hx:x∈l):zEj l x=some true:=by have hF:=FUge;have:=zSr hl l.length FU 0 (by omega) (by omega) (by simpa using hx);have e0:(((0:Nat):Int))=0:=rfl;rw[e0]at this;unfold zEj;rw[this];rfl
theorem zTH{more y5:List Int}{y23 y6:List Int×Bool}(hl:y6.1.length≤100000)(hl2:y23.1.length≤100000)(hsub:∀x∈y6.1,x∈y23.1):∀(k fu i:Nat),i+k=y6.1.length→k<fu→qO more y23 y5 y6 fu (i:Int)=some (.inl ())
 |k,0,i,_,hf=>by omega
 |k,fu+1,i,hi,hf=>by
  rw[qO,zV];by_cases h1:i<y6.1.length
  ·rw[za (by omega),cond_true,jO h1];simp only[Option.bind_some];rw[zWN hl2 (hsub _ (zk h1))];simp only[Option.bind_some,Bool.not_true,cond_false,zP];rw[zAt (by omega)];obtain⟨k',rfl⟩:∃k',k=k'+1:=⟨k - 1,by omega⟩
   exact zTH hl hl2 hsub k' fu (i+1) (by omega) (by omega)
  ·rw[decide_eq_false (by omega),cond_false]
theorem zWW{d:Int}(h:OkN d):jP d=some (ivL d,true):=by
 obtain⟨i0,i1,i2⟩:=zTI h;unfold jP;rw[zET,za (show -2000≤d∧d≤-3∧d % 4≤1 from h)];simp only[Option.bind_some,Bool.not_true,cond_false];cases hg:q7 d with
 |none=>rw[hg]at i1;cases i1
 |some g=>
  rw[hg,Option.bind_some]at i1;rw[Option.bind_some];cases ho:zM g with
  |none=>rw[ho]at i1;cases i1
  |some o=>rw[ho,Option.bind_some]at i1;rw[Option.bind_some,i1,Option.bind_some]
def pmL:List Int→List Int→Bool
 |[],[]=>true
 |x::xs,y::ys=>bif eqI x y&&(eqI x 1||eqI x (-1)) then pmL xs ys else false
 |_,_=>false
def gTwo(f g:F3):Bool:=match qH f,zAz f,qH g,zAz g with
 |some a,some b,some c,some e=>pmL a b&&(pmL a c&&(pmL a e&&Nat.ble a.length 20))
 |_,_,_,_=>false
def gqO(n a b:Nat):Bool:=bif Nat.beq ((b*b+n) % (4*a)) 0 then fN ((b*b+n) / (4*a)) fun c=>(bif Nat.ble a c&&Nat.beq (Nat.gcd a (Nat.gcd b c)) 1 then gTwo ((a:Int),(b:Int),(c:Int)) ((a:Int),-(b:Int),(c:Int)) else true) else true
def gqB(n a:Nat):Nat→Bool
 |0=>gqO n a 0
 |b+1=>bif gqO n a (b+1) then gqB n a b else false
def gqA(n:Nat):Nat→Bool
 |0=>true
 |a+1=>bif Nat.ble (3*(a+1)*(a+1)) n then (bif gqB n (a+1) (a+1) then gqA n a else false) else gqA n a
def gqN:Nat→Nat→Bool
 |0,_=>true
 |k+1,n=>bif gqA n 25 then gqN k (n+1) else false
theorem qU:∀(k n:Nat),gqN k n=true→∀m,n≤m→m<n+k→gqA m 25=true
 |0,n,_,m,h1,h2=>by omega
 |k+1,n,h,m,h1,h2=>by
  unfold gqN at h;cases hh:gqA n 25 with
  |false=>rw[hh]at h;cases h
  |true=>
   rw[hh,cond_true]at h;by_cases e:m=n
   ·subst e;exact hh
   ·exact qU k (n+1) h m (by omega) (by omega)
theorem zY1:gqN 50 3=true:=by decide+kernel
theorem zY0:gqN 50 53=true:=by decide+kernel
theorem zYZ:gqN 50 103=true:=by decide+kernel
theorem zYY:gqN 50 153=true:=by decide+kernel
theorem zYX:gqN 50 203=true:=by decide+kernel
theorem zYW:gqN 50 253=true:=by decide+kernel
theorem zYV:gqN 50 303=true:=by decide+kernel
theorem zYU:gqN 50 353=true:=by decide+kernel
theorem zYT:gqN 50 403=true:=by decide+kernel
theorem zYS:gqN 50 453=true:=by decide+kernel
theorem zYR:gqN 50 503=true:=by decide+kernel
theorem zYQ:gqN 50 553=true:=by decide+kernel
theorem zYP:gqN 50 603=true:=by decide+kernel
theorem zYO:gqN 50 653=true:=by decide+kernel
theorem zYN:gqN 50 703=true:=by decide+kernel
theorem zYM:gqN 50 753=true:=by decide+kernel
theorem zYL:gqN 50 803=true:=by decide+kernel
theorem zYK:gqN 50 853=true:=by decide+kernel
theorem zYJ:gqN 50 903=true:=by decide+kernel
theorem zYI:gqN 50 953=true:=by decide+kernel
theorem zYH:gqN 50 1003=true:=by decide+kernel
theorem zYG:gqN 50 1053=true:=by decide+kernel
theorem zYF:gqN 50 1103=true:=by decide+kernel
theorem zYE:gqN 50 1153=true:=by decide+kernel
theorem zYD:gqN 50 1203=true:=by decide+kernel
theorem zYC:gqN 50 1253=true:=by decide+kernel
theorem zYB:gqN 50 1303=true:=by decide+kernel
theorem zYA:gqN 50 1353=true:=by decide+kernel
theorem zXz:gqN 50 1403=true:=by decide+kernel
theorem zXy:gqN 50 1453=true:=by decide+kernel
theorem zXx:gqN 50 1503=true:=by decide+kernel
theorem zXw:gqN 50 1553=true:=by decide+kernel
theorem zXv:gqN 50 1603=true:=by decide+kernel
theorem zXu:gqN 50 1653=true:=by decide+kernel
theorem zXt:gqN 50 1703=true:=by decide+kernel
theorem zXs:gqN 50 1753=true:=by decide+kernel
theorem zXr:gqN 50 1803=true:=by decide+kernel
theorem zXq:gqN 50 1853=true:=by decide+kernel
theorem zXp:gqN 50 1903=true:=by decide+kernel
theorem zXo:gqN 50 1953=true:=by decide+kernel
theorem zY8{n:Nat}(h1:3≤n)(h2:n≤2000):gqA n 25=true:=by
 rcases Nat.lt_or_ge n 1003 with h|h
 ·skip
  rcases Nat.lt_or_ge n 503 with h|h
  ·skip
   rcases Nat.lt_or_ge n 253 with h|h
   ·skip
    rcases Nat.lt_or_ge n 103 with h|h
    ·skip
     rcases Nat.lt_or_ge n 53 with h|h
     ·skip
      exact qU 50 3 zY1 n (by omega) (by omega)
     ·skip
      exact qU 50 53 zY0 n (by omega) (by omega)
    ·skip
     rcases Nat.lt_or_ge n 153 with h|h
     ·skip
      exact qU 50 103 zYZ n (by omega) (by omega)
     ·skip
      rcases Nat.lt_or_ge n 203 with h|h
      ·skip
       exact qU 50 153 zYY n (by omega) (by omega)
      ·skip
       exact qU 50 203 zYX n (by omega) (by omega)
   ·skip
    rcases Nat.lt_or_ge n 353 with h|h
    ·skip
     rcases Nat.lt_or_ge n 303 with h|h
     ·skip
      exact qU 50 253 zYW n (by omega) (by omega)
     ·skip
      exact qU 50 303 zYV n (by omega) (by omega)
    ·skip
     rcases Nat.lt_or_ge n 403 with h|h
     ·skip
      exact qU 50 353 zYU n (by omega) (by omega)
     ·skip
      rcases Nat.lt_or_ge n 453 with h|h
      ·skip
       exact qU 50 403 zYT n (by omega) (by omega)
      ·skip
       exact qU 50 453 zYS n (by omega) (by omega)
  ·skip
   rcases Nat.lt_or_ge n 753 with h|h
   ·skip
    rcases Nat.lt_or_ge n 603 with h|h
    ·skip
     rcases Nat.lt_or_ge n 553 with h|h
     ·skip
      exact qU 50 503 zYR n (by omega) (by omega)
     ·skip
      exact qU 50 553 zYQ n (by omega) (by omega)
    ·skip
     rcases Nat.lt_or_ge n 653 with h|h
     ·skip
      exact qU 50 603 zYP n (by omega) (by omega)
     ·skip
      rcases Nat.lt_or_ge n 703 with h|h
      ·skip
       exact qU 50 653 zYO n (by omega) (by omega)
      ·skip
       exact qU 50 703 zYN n (by omega) (by omega)
   ·skip
    rcases Nat.lt_or_ge n 853 with h|h
    ·skip
     rcases Nat.lt_or_ge n 803 with h|h
     ·skip
      exact qU 50 753 zYM n (by omega) (by omega)
     ·skip
      exact qU 50 803 zYL n (by omega) (by omega)
    ·skip
     rcases Nat.lt_or_ge n 903 with h|h
     ·skip
      exact qU 50 853 zYK n (by omega) (by omega)
     ·skip
      rcases Nat.lt_or_ge n 953 with h|h
      ·skip
       exact qU 50 903 zYJ n (by omega) (by omega)
      ·skip
       exact qU 50 953 zYI n (by omega) (by omega)
 ·skip
  rcases Nat.lt_or_ge n 1503 with h|h
  ·skip
   rcases Nat.lt_or_ge n 1253 with h|h
   ·skip
    rcases Nat.lt_or_ge n 1103 with h|h
    ·skip
     rcases Nat.lt_or_ge n 1053 with h|h
     ·skip
      exact qU 50 1003 zYH n (by omega) (by omega)
     ·skip
      exact qU 50 1053 zYG n (by omega) (by omega)
    ·skip
     rcases Nat.lt_or_ge n 1153 with h|h
     ·skip
      exact qU 50 1103 zYF n (by omega) (by omega)
     ·skip
      rcases Nat.lt_or_ge n 1203 with h|h
      ·skip
       exact qU 50 1153 zYE n (by omega) (by omega)
      ·skip
       exact qU 50 1203 zYD n (by omega) (by omega)
   ·skip
    rcases Nat.lt_or_ge n 1353 with h|h
    ·skip
     rcases Nat.lt_or_ge n 1303 with h|h
     ·skip
      exact qU 50 1253 zYC n (by omega) (by omega)
     ·skip
      exact qU 50 1303 zYB n (by omega) (by omega)
    ·skip
     rcases Nat.lt_or_ge n 1403 with h|h
     ·skip
      exact qU 50 1353 zYA n (by omega) (by omega)
     ·skip
      rcases Nat.lt_or_ge n 1453 with h|h
      ·skip
       exact qU 50 1403 zXz n (by omega) (by omega)
      ·skip
       exact qU 50 1453 zXy n (by omega) (by omega)
  ·skip
   rcases Nat.lt_or_ge n 1753 with h|h
   ·skip
    rcases Nat.lt_or_ge n 1603 with h|h
    ·skip
     rcases Nat.lt_or_ge n 1553 with h|h
     ·skip
      exact qU 50 1503 zXx n (by omega) (by omega)
     ·skip
      exact qU 50 1553 zXw n (by omega) (by omega)
    ·skip
     rcases Nat.lt_or_ge n 1653 with h|h
     ·skip
      exact qU 50 1603 zXv n (by omega) (by omega)
     ·skip
      rcases Nat.lt_or_ge n 1703 with h|h
      ·skip
       exact qU 50 1653 zXu n (by omega) (by omega)
      ·skip
       exact qU 50 1703 zXt n (by omega) (by omega)
   ·skip
    rcases Nat.lt_or_ge n 1853 with h|h
    ·skip
     rcases Nat.lt_or_ge n 1803 with h|h
     ·skip
      exact qU 50 1753 zXs n (by omega) (by omega)
     ·skip
      exact qU 50 1803 zXr n (by omega) (by omega)
    ·skip
     rcases Nat.lt_or_ge n 1903 with h|h
     ·skip
      exact qU 50 1853 zXq n (by omega) (by omega)
     ·skip
      rcases Nat.lt_or_ge n 1953 with h|h
      ·skip
       exact qU 50 1903 zXp n (by omega) (by omega)
      ·skip
       exact qU 50 1953 zXo n (by omega) (by omega)
theorem zPq:∀{a b:List Int},pmL a b=true→a=b∧∀x∈a,x=1∨x=-1
 |[],[],_=>⟨rfl,by intro x hx;cases hx⟩
 |[],_::_,h=>by cases h
 |_::_,[],h=>by cases h
 |x::xs,y::ys,h=>by
  unfold pmL at h;cases hh:(eqI x y&&(eqI x 1||eqI x (-1))) with
  |false=>rw[hh]at h;cases h
  |true=>
   rw[hh,cond_true]at h;obtain⟨h1,h2⟩:=zPq h;rw[ze,Bool.or_eq_true,zBF,zBF,zBF,beq_iff_eq,beq_iff_eq,beq_iff_eq]at hh;refine⟨by rw[hh.1,h1],fun z hz=>?_⟩;rcases List.mem_cons.1 hz with e|e
   ·subst e;exact hh.2
   ·exact h2 z e
theorem zW1{f g:F3}(h:gTwo f g=true):∃l,qH f=some l∧zAz f=some l∧qH g=some l∧zAz g=some l∧l.length≤20:=by
 unfold gTwo at h;split at h
 ·rename_i a b c e ha hb hc he;simp only[ze]at h;obtain⟨h1,h2,h3,h4⟩:=h;have e1:=(zPq h1).1;have e2:=(zPq h2).1;have e3:=(zPq h3).1;exact⟨a,ha,by rw[hb,e1],by rw[hc,e2],by rw[he,e3],Nat.le_of_ble_eq_true h4⟩
 ·cases h
theorem zUu:∀(k:Nat){n a:Nat},gqB n a k=true→∀b,b≤k→gqO n a b=true
 |0,n,a,h,b,hb=>by
  have:b=0:=by omega
  subst this;exact h
 |k+1,n,a,h,b,hb=>by
  unfold gqB at h;cases hh:gqO n a (k+1) with
  |false=>rw[hh]at h;cases h
  |true=>
   rw[hh,cond_true]at h;by_cases e:b=k+1
   ·subst e;exact hh
   ·exact zUu k h b (by omega)
theorem zUv:∀(k:Nat){n:Nat},gqA n k=true→∀a,1≤a→a≤k→3*a*a≤n→gqB n a a=true
 |0,n,h,a,h1,h2,h3=>by omega
 |k+1,n,h,a,h1,h2,h3=>by
  unfold gqA at h;by_cases e:a=k+1
  ·subst e;have:Nat.ble (3*(k+1)*(k+1)) n=true:=Nat.ble_eq_true_of_le h3;rw[this,cond_true]at h;cases hh:gqB n (k+1) (k+1) with
   |true=>rfl
   |false=>rw[hh]at h;cases h
  ·have hk:gqA n k=true:=by
    cases h4:Nat.ble (3*(k+1)*(k+1)) n with
    |false=>rw[h4,cond_false]at h;exact h
    |true=>
     rw[h4,cond_true]at h;cases hh:gqB n (k+1) (k+1) with
     |true=>rw[hh,cond_true]at h;exact h
     |false=>rw[hh]at h;cases h
   exact zUv k hk a h1 (by omega) h3
theorem zUs{D:Int}(hD1:-2000≤D)(hD2:D≤-3){f:F3}(h:PrRc D f):∃l,qH f=some l∧zAz f=some l∧l.length≤20∧qH (f.1,-f.2.1,f.2.2)=some l:=by
 obtain⟨A,B,C⟩:=f;obtain⟨⟨r1,r2,r3,r4,r5,r6⟩,r7⟩:=zIW hD1 h;obtain⟨k1,⟨⟨k2,k3⟩,k4⟩,k5,k6⟩:=h;dsimp only at r1 r2 r3 r4 r5 r6 r7 k1 k2 k3 k4 k5 k6;have hs:=zMw (a:=A) (b:=B) (c:=C) (d:=D) k1 ⟨⟨k2,k3⟩,k4⟩ k5;obtain⟨n,hn⟩:∃n:Nat,D=-(n:Int):=⟨D.natAbs,by omega⟩
 obtain⟨a,ha⟩:∃a:Nat,A=(a:Int):=⟨A.natAbs,by omega⟩
 obtain⟨c,hc⟩:∃c:Nat,C=(c:Int):=⟨C.natAbs,by omega⟩
 obtain⟨b,hb⟩:∃b:Nat,B=(b:Int)∨B=-(b:Int):=⟨B.natAbs,by omega⟩
 have hbb:B*B=((b*b:Nat):Int):=by rcases hb with e|e<;>rw[e]<;>push_cast<;>grind
 have hnat:b*b+n=4*a*c:=by
  have:((b*b+n:Nat):Int)=((4*a*c:Nat):Int):=by push_cast;rw[hbb,ha,hc,hn]at k5;push_cast at k5;omega
  exact_mod_cast this
 have hsn:3*a*a≤n:=by
  have:((3*a*a:Nat):Int)≤(n:Int):=by push_cast;rw[ha,hn]at hs;omega
  exact_mod_cast this
 have t1:=zUv 25 (zY8 (n:=n) (by omega) (by omega)) a (by omega) (by omega) hsn;have t2:=zUu a t1 b (by omega);unfold gqO at t2;have e1:(b*b+n) % (4*a)=0:=by rw[hnat];exact Nat.mul_mod_right _ _
 have e2:(b*b+n) / (4*a)=c:=by rw[hnat];exact Nat.mul_div_cancel_left c (by omega)
 rw[e1,e2,zVJ]at t2;have e3:(Nat.ble a c&&Nat.beq (Nat.gcd a (Nat.gcd b c)) 1)=true:=by
  rw[ze];refine⟨Nat.ble_eq_true_of_le (by omega),?_⟩;have hg:Nat.gcd a (Nat.gcd b c)=1:=by
   have d1:((Nat.gcd a (Nat.gcd b c):Nat):Int)∣A:=by rw[ha];exact Int.natCast_dvd_natCast.2 (Nat.gcd_dvd_left _ _)
   have d2:((Nat.gcd a (Nat.gcd b c):Nat):Int)∣B:=by
    have:Nat.gcd a (Nat.gcd b c)∣b:=Nat.dvd_trans (Nat.gcd_dvd_right _ _) (Nat.gcd_dvd_left _ _);rcases hb with e|e<;>rw[e]
    ·exact Int.natCast_dvd_natCast.2 this
    ·exact Int.dvd_neg.2 (Int.natCast_dvd_natCast.2 this)
   have d3:((Nat.gcd a (Nat.gcd b c):Nat):Int)∣C:=by rw[hc];exact Int.natCast_dvd_natCast.2 (Nat.dvd_trans (Nat.gcd_dvd_right _ _) (Nat.gcd_dvd_right _ _))
   have:=Int.eq_one_of_dvd_one (by omega) (k6 _ d1 d2 d3);omega
  rw[hg];rfl
 have t3:gTwo ((a:Int),(b:Int),(c:Int)) ((a:Int),-(b:Int),(c:Int))=true:=by rw[e3]at t2;exact t2
 obtain⟨l,g1,g2,g3,g4,g5⟩:=zW1 t3;dsimp only;rw[ha,hc];rcases hb with e|e<;>rw[e]
 ·exact⟨l,g1,g2,g5,g3⟩
 ·exact⟨l,g3,g4,g5,by rw[Int.neg_neg];exact g1⟩
theorem zRD(lo hi:Int):(zBC lo hi=some false∧zB2 lo hi=some false)∨(zBC lo hi=some true∧zB2 lo hi=some true∧-2000≤lo∧hi≤-3):=by
 simp only[zBC,zB2,zBo,Option.bind_some,jL];by_cases h1:-2000≤lo
 ·by_cases h2:lo≤hi
  ·by_cases h3:hi≤-3
   ·rw[za h1,za h2,za h3];exact .inr ⟨rfl,rfl,h1,h3⟩
   ·rw[za h1,za h2,decide_eq_false h3];exact .inl ⟨rfl,rfl⟩
  ·rw[za h1,decide_eq_false h2];exact .inl ⟨rfl,rfl⟩
 ·rw[decide_eq_false h1];exact .inl ⟨rfl,rfl⟩
def hN(d:Int):Nat:=(fsL d).length
theorem zST{ys:List Int}(hl:ys.length≤2000)(hy:∀d∈ys,OkN d):∀(k fu i m:Nat)(v:Int),i+k=ys.length→k<fu→∃(m':Nat) (v':Int),jE ys fu (m:Int) v (i:Int)=some ((m':Int),v')∧jC ys fu (m:Int) v (i:Int)=some ((m':Int),v')∧
  m≤m'∧((m'=m∧v'=v)∨(v'∈ys.drop i∧m'=hN v'))∧∀d∈ys.drop i,hN d≤m'
 |k,0,i,m,v,_,hf=>by omega
 |k,fu+1,i,m,v,hi,hf=>by
  rw[jE,jC,zV];by_cases h1:i<ys.length
  ·have hr:=zHJ (hy _ (zk h1));rw[za (by omega),cond_true,cond_true,jO h1];simp only[Option.bind_some];rw[hr.i,hr.s];simp only[Option.bind_some,jL,zP];rw[zAt (by omega)];obtain⟨k',rfl⟩:∃k',k=k'+1:=⟨k - 1,by omega⟩
   rw[List.drop_eq_getElem_cons h1];by_cases h2:(m:Int)≤((fsL ys[i]).length:Int)
   ·rw[za h2,cond_true,cond_true];obtain⟨m',v',r1,r2,r3,r4,r5⟩:=zST hl hy k' fu (i+1) (fsL ys[i]).length ys[i] (by omega) (by omega);refine⟨m',v',r1,r2,by omega,.inr ?_,fun d hd=>?_⟩
    ·rcases r4 with⟨e1,e2⟩|⟨e1,e2⟩
     ·rw[e2];exact⟨List.mem_cons_self,e1⟩
     ·exact⟨List.mem_cons_of_mem _ e1,e2⟩
    ·rcases List.mem_cons.1 hd with e|e
     ·rw[e];exact r3
     ·exact r5 d e
   ·rw[decide_eq_false h2,cond_false,cond_false];obtain⟨m',v',r1,r2,r3,r4,r5⟩:=zST hl hy k' fu (i+1) m v (by omega) (by omega);refine⟨m',v',r1,r2,r3,?_,fun d hd=>?_⟩
    ·rcases r4 with⟨e1,e2⟩|⟨e1,e2⟩
     ·exact .inl ⟨e1,e2⟩
     ·exact .inr ⟨List.mem_cons_of_mem _ e1,e2⟩
    ·rcases List.mem_cons.1 hd with e|e
     ·rw[e];have:(fsL ys[i]).length=hN ys[i]:=rfl;omega
     ·exact r5 d e
  ·rw[decide_eq_false (by omega),cond_false,cond_false,List.drop_eq_nil_of_le (by omega)];exact⟨m,v,rfl,rfl,Nat.le_refl _,.inl ⟨rfl,rfl⟩,fun d hd=>by cases hd⟩
theorem zSi{t6:Int}{y5:List Int}{ys:List F3}(hy:ys.length≤2000):∀(k fu:Nat)(l:List Int),ys.length+1 - l.length≤k→k<fu→l.length≤3000→zAO t6 ys y5 fu l=some (l++List.replicate (ys.length+1 - l.length) 0)
 |k,0,l,_,hf,_=>by omega
 |k,fu+1,l,hk,hf,hl=>by
  rw[zAO,jL];by_cases h1:l.length≤ys.length
  ·rw[za (by omega),cond_true,zCf (by simp;omega)];simp only[Option.bind_some];rw[zSi hy (k - 1) fu (l++[0]) (by simp;omega) (by omega) (by simp;omega),List.append_assoc,zb,show ys.length+1 - l.length=(ys.length+1 - (l.length+[(0:Int)].length))+1 by simp;omega,List.replicate_succ];rfl
  ·rw[decide_eq_false (by omega),cond_false,show ys.length+1 - l.length=0 by omega];simp
structure Cn (ys:List Int) (i:Nat) (l:List Int):Prop where
  bd:∀x∈l,0≤x∧x≤(i:Int)
  len:l.length≤2001
  at1:∀j d,j<i→ys[j]?=some d→∃x,l[hN d]?=some x∧1≤x
  top:l=[]∨∃j d,j<i∧ys[j]?=some d∧l.length=hN d+1
theorem zVX{ys:List Int}(hl:ys.length≤2000)(hy:∀d∈ys,OkN d):∀(k fu i:Nat)(l:List Int),i+k=ys.length→k<fu→Cn ys i l→∃r,zA1 ys fu (i:Int) l=some r∧Cn ys ys.length r
 |k,0,i,l,_,hf,_=>by omega
 |k,fu+1,i,l,hi,hf,hc=>by
  have hF:=FUge;rw[zA1,zV];by_cases h1:i<ys.length
  ·have hr:=zHJ (hy _ (zk h1));have hlen:=hr.len;have hcl:=hc.len;rw[za (by omega),cond_true,jO h1];simp only[Option.bind_some];rw[hr.i];simp only[Option.bind_some];rw[zSi (ys:=fsL ys[i]) (by omega) 3000 FU l (by omega) (by omega) (by omega)];simp only[Option.bind_some];generalize hL:l++List.replicate ((fsL ys[i]).length+1 - l.length) 0=l';have hLl:l'.length=max l.length ((fsL ys[i]).length+1):=by rw[←hL,zb,List.length_replicate];omega
   have hbd':∀x∈l',0≤x∧x≤(i:Int):=by
    intro x hx;rw[←hL]at hx;rcases List.mem_append.1 hx with h|h
    ·exact hc.bd x h
    ·rw[(List.mem_replicate.1 h).2];omega
   have hh:(fsL ys[i]).length<l'.length:=by omega
   rw[jO hh];simp only[Option.bind_some,zP];have hx:=hbd' _ (zk hh);rw[zAt (by omega),zd,zA (n:=l'[(fsL ys[i]).length]+1) (by omega)];obtain⟨k',rfl⟩:∃k',k=k'+1:=⟨k - 1,by omega⟩
   have hold:∀n,n<l.length→l'[n]?=l[n]?:=fun n hn=>by rw[←hL,List.getElem?_append_left hn]
   refine zVX hl hy k' fu (i+1) _ (by omega) (by omega) ⟨fun x hx2=>?_,by rw[List.length_set];omega,fun j d hj hd=>?_,.inr ?_⟩
   ·rcases List.mem_or_eq_of_mem_set hx2 with h|h
    ·have:=hbd' x h;omega
    ·omega
   ·by_cases hji:j=i
    ·subst hji;rw[zl h1]at hd;have hd:=Option.some.inj hd;subst hd;refine⟨l'[(fsL ys[j]).length]+1,?_,by omega⟩;show (l'.set (fsL ys[j]).length _)[(fsL ys[j]).length]?=_
     rw[List.getElem?_set,if_pos rfl,if_pos hh]
    ·obtain⟨x,x1,x2⟩:=hc.at1 j d (by omega) hd;have hn:hN d<l.length:=by
      rcases Nat.lt_or_ge (hN d) l.length with h|h
      ·exact h
      ·rw[List.getElem?_eq_none h]at x1;cases x1
     by_cases he:(fsL ys[i]).length=hN d
     ·refine⟨l'[(fsL ys[i]).length]+1,?_,by omega⟩;rw[List.getElem?_set,if_pos he,if_pos hh]
     ·refine⟨x,?_,x2⟩;rw[List.getElem?_set,if_neg he,hold _ hn];exact x1
   ·rw[List.length_set,hLl];by_cases hq:l.length≤(fsL ys[i]).length
    ·exact⟨i,ys[i],by omega,zl h1,by show max _ _=(fsL ys[i]).length+1;omega⟩
    ·rcases hc.top with e|⟨j,d,j1,j2,j3⟩
     ·rw[e]at hq;simp at hq
     ·exact⟨j,d,by omega,j2,by omega⟩
  ·rw[decide_eq_false (by omega),cond_false];have:i=ys.length:=by omega
   subst this;exact⟨l,rfl,hc⟩
theorem zWY(lo hi:Int):∃(m:Nat) (v:Int) (b:Bool),jK lo hi=some ((m:Int),v,b)∧jG lo hi=some ((m:Int),v,b)∧(b=true→OkN v∧m≤2000∧zAs v=some ((m:Int),true)∧
  ∃c:List Int,zA2 lo hi=some (c,true)∧c.length=m+1∧∃x,c[m]?=some x∧1≤x):=by
 have hF:=FUge;have e0:(((0:Nat):Int))=0:=rfl;unfold jK jG zA2;rcases zRD lo hi with⟨h1,h2⟩|⟨h1,h2,h3,h4⟩
 ·rw[h1,h2];exact⟨0,0,false,rfl,rfl,fun h=>by cases h⟩
 ·rw[h1,h2];obtain⟨ys,y1,y2,y3,y4⟩:=zI1 h3 h4;obtain⟨m,v,r1,r2,r3,r4,r5⟩:=zST y3 y4 ys.length FU 0 0 0 (by omega) (by omega);obtain⟨c,c1,c2⟩:=zVX y3 y4 ys.length FU 0 [] (by omega) (by omega) ⟨fun x hx=>(by cases hx),by simp,fun j d hj=>(by omega),.inl rfl⟩;rw[e0]at r1 r2 c1;refine⟨m,v,ltI 0 (m:Int),?_,?_,fun hb=>?_⟩
  ·rw[Option.bind_some,Bool.not_true,cond_false,y1,Option.bind_some,r1,Option.bind_some]
  ·rw[Option.bind_some,Bool.not_true,cond_false,y2,Option.bind_some,r2,Option.bind_some]
  ·rw[zV,zp]at hb;rw[List.drop_zero]at r4 r5;rcases r4 with⟨e1,_⟩|⟨e1,e2⟩
   ·omega
   ·have hv:=y4 v e1;have hr:=zHJ hv;have hlen:=hr.len;have hm:m=(fsL v).length:=e2;refine⟨hv,by omega,?_,c,?_,?_,?_⟩
    ·unfold zAs zCG;rw[zET,za (show -2000≤v∧v≤-3∧v % 4≤1 from hv),Option.bind_some,Bool.not_true,cond_false,hr.i,Option.bind_some,Option.bind_some,←hm]
    ·rw[Option.bind_some,Bool.not_true,cond_false,y1,Option.bind_some,c1,Option.bind_some]
    ·obtain⟨j,hj⟩:=List.getElem?_of_mem e1;have hjl:j<ys.length:=(List.getElem?_eq_some_iff.1 hj).1;obtain⟨x,x1,x2⟩:=c2.at1 j v hjl hj;have hlt:hN v<c.length:=(List.getElem?_eq_some_iff.1 x1).1;rcases c2.top with e|⟨j2,d2,j3,j4,j5⟩
     ·rw[e]at hlt;simp at hlt
     ·have:=r5 d2 (List.mem_of_getElem? j4);omega
    ·obtain⟨j,hj⟩:=List.getElem?_of_mem e1;have hjl:j<ys.length:=(List.getElem?_eq_some_iff.1 hj).1;obtain⟨x,x1,x2⟩:=c2.at1 j v hjl hj;exact⟨x,by rw[e2];exact x1,x2⟩
def vl(f:F3):List Int:=(zAz f).getD []
theorem zOl{D:Int}{L:List F3}(h:RL D L){f:F3}(hf:f∈L):qH f=some (vl f)∧zAz f=some (vl f)∧(vl f).length≤20∧qH (f.1,-f.2.1,f.2.2)=some (vl f):=by
 obtain⟨l,l1,l2,l3,l4⟩:=zUs h.lo (by have:=h.hi;have:=h.m4;omega) ((h.mem f).1 hf);have e:vl f=l:=by unfold vl;rw[l2];rfl
 rw[e];exact⟨l1,l2,l3,l4⟩
theorem zRY(a b:List Int):eqLI a b=decide (a=b):=by rw[Bool.eq_iff_iff,zp];exact⟨zMB,fun h=>by rw[h];exact zKO b⟩
def isF(L:List F3)(i:Nat):Bool:=(List.range i).all fun k=>!decide (vl (at0 L k)=vl (at0 L i))
theorem zFs{L:List F3}{i:Nat}:isF L i=true↔∀k,k<i→vl (at0 L k)≠vl (at0 L i):=by unfold isF;rw[List.all_eq_true];simp
def nF(L:List F3)(i:Nat):Nat:=(List.range i).countP (isF L)
theorem zLx(L:List F3)(i:Nat):nF L (i+1)=nF L i+(if isF L i=true then 1 else 0):=by unfold nF;rw[List.range_succ,List.countP_append,List.countP_cons,List.countP_nil,Nat.zero_add]
structure Rw (L:List F3) (i:Nat) (x:List (List F3)):Prop where
  len:x.length=nF L i
  hd:∀(j:Nat) e,x[j]?=some e→∃k t,k<i∧e=at0 L k::t
  all:∀k,k<i→∃(j:Nat) (k':Nat) (t:List F3),k'<i∧x[j]?=some (at0 L k'::t)∧vl (at0 L k')=vl (at0 L k)
theorem zSP{D:Int}{L:List F3}(h:RL D L){i:Nat}(hi:i<L.length){x:List (List F3)}(hx:Rw L i x)(hxl:x.length≤100000):∀(k fu j:Nat)(m:Int),j+k=x.length→k<fu→∃r,zAT x (at0 L i) fu m (j:Int)=some r∧
  ((r=m∧∀q e t,j≤q→x[q]?=some (e::t)→vl e≠vl (at0 L i))∨∃(q:Nat) (e:F3) (t:List F3),r=(q:Int)∧x[q]?=some (e::t)∧vl e=vl (at0 L i))
 |k,0,j,m,_,hf=>by omega
 |k,fu+1,j,m,hj,hf=>by
  rw[zAT,zV];by_cases h1:j<x.length
  ·have hxj:x[j]?=some x[j]:=zl h1
   obtain⟨kk,t,k1,k2⟩:=hx.hd j _ hxj;obtain⟨_,v1,v2,_⟩:=zOl h (zEQ (show kk<L.length by omega));obtain⟨_,w1,w2,_⟩:=zOl h (zEQ hi);rw[k2]at hxj;rw[za (by omega),cond_true,getQ hxj];have g0:getI (at0 L kk::t) 0=some (at0 L kk):=getQ (i:=0) rfl;simp only[Option.bind_some];rw[g0];simp only[Option.bind_some];rw[v1,w1];simp only[Option.bind_some];rw[(zM7 (a:=vl (at0 L kk)) (by omega) (vl (at0 L i))).2.1,zRY];simp only[Option.bind_some,zP];rw[zAt (by omega)];obtain⟨k',rfl⟩:∃k',k=k'+1:=⟨k - 1,by omega⟩
   by_cases hv:vl (at0 L kk)=vl (at0 L i)
   ·rw[za hv,cond_true];obtain⟨r,r1,r2⟩:=zSP h hi hx hxl k' fu (j+1) (j:Int) (by omega) (by omega);refine⟨r,r1,.inr ?_⟩;rcases r2 with⟨e,_⟩|h2
    ·exact⟨j,_,t,e,hxj,hv⟩
    ·exact h2
   ·rw[decide_eq_false hv,cond_false];obtain⟨r,r1,r2⟩:=zSP h hi hx hxl k' fu (j+1) m (by omega) (by omega);refine⟨r,r1,?_⟩;rcases r2 with⟨e,h2⟩|h2
    ·refine .inl ⟨e,fun q e2 t2 hq hxq=>?_⟩;by_cases hqj:q=j
     ·subst hqj;rw[hxj]at hxq;have:=Option.some.inj hxq;injection this with this;rw[←this];exact hv
     ·exact h2 q e2 t2 (by omega) hxq
    ·exact .inr h2
  ·rw[decide_eq_false (by omega),cond_false];exact⟨m,rfl,.inl ⟨rfl,fun q e t hq hxq=>by rw[List.getElem?_eq_none (by omega)]at hxq;cases hxq⟩⟩
theorem zXR(L:List F3)(i:Nat):nF L i≤i:=by
 have:nF L i≤(List.range i).length:=List.countP_le_length
 rwa [List.length_range]at this
theorem zSQ{D:Int}{L:List F3}(h:RL D L):∀(k fu i:Nat)(x:List (List F3)),i+k=L.length→k<fu→Rw L i x→(∀e∈x,e.length≤i)→∃r,jS L fu x (i:Int)=some r∧r.length=nF L L.length
 |k,0,i,x,_,hf,_,_=>by omega
 |k,fu+1,i,x,hi,hf,hx,hb=>by
  have hF:=FUge;have hlen:=h.len;rw[jS,zV];by_cases h1:i<L.length
  ·have hxl:x.length≤i:=by rw[hx.len];exact zXR L i
   rw[za (by omega),cond_true,jO h1];simp only[Option.bind_some];obtain⟨m,m1,m2⟩:=zSP h h1 hx (by omega) x.length FU 0 (-1) (by omega) (by omega);have e0:(((0:Nat):Int))=0:=rfl;rw[e0,zBe h1]at m1;rw[m1];simp only[Option.bind_some,zP];rw[zAt (by omega),zV];obtain⟨k',rfl⟩:∃k',k=k'+1:=⟨k - 1,by omega⟩
   rcases m2 with⟨rfl,hno⟩|⟨q,e,t,rfl,hq,hv⟩
   ·rw[za (by decide),cond_true,zCf (by omega)];simp only[Option.bind_some];have hf:isF L i=true:=zFs.2 fun kk hkk e=>by
     obtain⟨j,k',t,_,hj,hj2⟩:=hx.all kk hkk;exact hno j _ t (Nat.zero_le _) hj (hj2.trans e)
    refine zSQ h k' fu (i+1) (x++[[L[i]]]) (by omega) (by omega) ⟨?_,fun j e hj=>?_,fun kk hkk=>?_⟩ fun e he=>?_
    ·rw[zb,zLx,if_pos hf,hx.len];rfl
    ·rw[List.getElem?_append]at hj;split at hj
     ·obtain⟨k2,t,a,b⟩:=hx.hd j e hj;exact⟨k2,t,by omega,b⟩
     ·cases hq:j - x.length with
      |zero=>rw[hq]at hj;exact⟨i,[],by omega,by rw[zBe h1];exact (Option.some.inj hj).symm⟩
      |succ q=>rw[hq]at hj;cases hj
    ·by_cases hki:kk=i
     ·subst hki;refine⟨x.length,kk,[],by omega,?_,rfl⟩;rw[List.getElem?_append_right (Nat.le_refl _),Nat.sub_self,zBe h1];rfl
     ·obtain⟨j,k2,t,a,b,c⟩:=hx.all kk (by omega);refine⟨j,k2,t,by omega,?_,c⟩;rw[List.getElem?_append_left (List.getElem?_eq_some_iff.1 b).1];exact b
    ·rcases List.mem_append.1 he with h2|h2
     ·have:=hb e h2;omega
     ·rw[List.mem_singleton.1 h2];simp
   ·rw[decide_eq_false (by omega),cond_false,getQ hq];have hbe:=hb _ (List.mem_of_getElem? hq);simp only[Option.bind_some];rw[zCf (by omega),zd];simp only[Option.bind_some];obtain⟨kq,tq,q1,q2⟩:=hx.hd q _ hq;have hf:isF L i=false:=by
     cases hfi:isF L i with
     |false=>rfl
     |true=>injection q2 with q2 _;exact absurd (q2▸hv) (zFs.1 hfi kq q1)
    have hql:q<x.length:=(List.getElem?_eq_some_iff.1 hq).1;refine zSQ h k' fu (i+1) (x.set q (e::t++[L[i]])) (by omega) (by omega) ⟨?_,fun j e2 hj=>?_,fun kk hkk=>?_⟩ fun e2 he=>?_
    ·rw[List.length_set,zLx,hf,if_neg (by decide),hx.len];rfl
    ·rw[List.getElem?_set]at hj;split at hj
     ·injection q2 with q2 _;exact⟨kq,t++[L[i]],by omega,by rw[←Option.some.inj hj,←q2];rfl⟩
     ·obtain⟨k2,t2,a,b⟩:=hx.hd j e2 hj;exact⟨k2,t2,by omega,b⟩
    ·have hone:∀kk,kk<i→∃(j k':Nat) (t2:List F3),k'<i+1∧(x.set q (e::t++[L[i]]))[j]?=some (at0 L k'::t2)∧vl (at0 L k')=vl (at0 L kk):=fun kk hkk=>by
      obtain⟨j,k2,t2,a,b,c⟩:=hx.all kk hkk;by_cases hjq:q=j
      ·subst hjq;rw[hq]at b;have b:=Option.some.inj b;injection b with b1 b2;refine⟨q,k2,t2++[L[i]],by omega,?_,c⟩;rw[List.getElem?_set,if_pos rfl,if_pos hql,b1,b2];rfl
      ·refine⟨j,k2,t2,by omega,?_,c⟩;rw[List.getElem?_set,if_neg hjq];exact b
     by_cases hki:kk=i
     ·subst hki;obtain⟨j,k2,t2,a,b,c⟩:=hone kq q1;injection q2 with q2 _;exact⟨j,k2,t2,a,b,c.trans (q2▸hv)⟩
     ·exact hone kk (by omega)
    ·rcases List.mem_or_eq_of_mem_set he with h2|h2
     ·have:=hb e2 h2;omega
     ·rw[h2,zb];simp at hbe ⊢;omega
  ·rw[decide_eq_false (by omega),cond_false];have:i=L.length:=by omega
   subst this;exact⟨x,rfl,hx.len⟩
theorem zWg{D:Int}{L:List F3}(h:RL D L):∃r,zC3 D=some r∧r.length=nF L L.length:=by
 have hF:=FUge;have hlen:=h.len;obtain⟨r,r1,r2⟩:=zSQ h L.length FU 0 [] (by omega) (by omega) ⟨rfl,fun j e hj=>(by cases hj),fun k hk=>(by omega)⟩ fun e he=>(by cases he)
 have e0:(((0:Nat):Int))=0:=rfl;rw[e0]at r1;refine⟨r,?_,r2⟩;unfold zC3;rw[h.s,Option.bind_some];exact r1
theorem zSS{D:Int}{L:List F3}(h:RL D L)(v:List Int):∀(k fu i:Nat)(l:List F3),i+k=L.length→k<fu→l.length≤i→zAh v L fu (i:Int) l=some (l++(L.drop i).filter fun g=>decide (vl g=v))
 |k,0,i,l,_,hf,_=>by omega
 |k,fu+1,i,l,hi,hf,hn=>by
  have hlen:=h.len;rw[zAh,zV];by_cases h1:i<L.length
  ·obtain⟨v1,_,v2,_⟩:=zOl h (zk h1);rw[za (by omega),cond_true,jO h1];simp only[Option.bind_some];rw[v1,Option.bind_some,(zM7 (a:=vl L[i]) (by omega) v).1,zRY,List.drop_eq_getElem_cons h1,List.filter_cons];simp only[Option.bind_some,zP];rw[zAt (by omega)];obtain⟨k',rfl⟩:∃k',k=k'+1:=⟨k - 1,by omega⟩
   cases hq:decide (vl L[i]=v) with
   |true=>rw[cond_true,zCf (by simp;omega),if_pos rfl];simp only[Option.bind_some];rw[zSS h v k' fu (i+1) (l++[L[i]]) (by omega) (by omega) (by simp;omega),List.append_assoc];rfl
   |false=>rw[cond_false,if_neg (by decide)];exact zSS h v k' fu (i+1) l (by omega) (by omega) (by omega)
  ·rw[decide_eq_false (by omega),cond_false,List.drop_eq_nil_of_le (by omega)];simp
theorem zXn{D:Int}{L:List F3}(h:RL D L)(v:List Int):zCK D v=some (L.filter fun g=>decide (vl g=v)):=by have hF:=FUge;have hlen:=h.len;have:=zSS h v L.length FU 0 [] (by omega) (by omega) (by simp);have e0:(((0:Nat):Int))=0:=rfl;rw[e0,List.drop_zero,zi]at this;unfold zCK;rw[h.i,Option.bind_some,this];rfl
theorem zUq{D:Int}{L:List F3}(h:RL D L){i:Nat}(hi:i<L.length):∃e t,(L.filter fun g=>decide (vl g=vl L[i]))=e::t∧(decide (e=L[i])=isF L i):=by
 have hsplit:L=L.take i++L[i]::L.drop (i+1):=by rw[←List.drop_eq_getElem_cons hi,List.take_append_drop]
 have hfil:∀p:F3→Bool,p L[i]=true→L.filter p=(L.take i).filter p++(L[i]::(L.drop (i+1)).filter p):=by
  intro p hp;generalize L[i]=f at hp hsplit
  conv=>lhs;rw[hsplit]
  rw[List.filter_append,List.filter_cons,if_pos hp]
 rw[hfil _ (za rfl)];cases hT:(L.take i).filter (fun g=>decide (vl g=vl L[i])) with
 |nil=>
  refine⟨L[i],_,rfl,?_⟩;rw[za rfl];symm;rw[zFs];intro k hk e;have hm:at0 L k∈(L.take i).filter (fun g=>decide (vl g=vl L[i])):=by rw[List.mem_filter];refine⟨?_,za (by rw[e,zBe hi])⟩;rw[zBe (show k<L.length by omega),List.mem_take_iff_getElem];exact⟨k,by omega,rfl⟩
  rw[hT]at hm;cases hm
 |cons e t=>
  refine⟨e,_,rfl,?_⟩;have he:e∈(L.take i).filter (fun g=>decide (vl g=vl L[i])):=by rw[hT];exact List.mem_cons_self
  rw[List.mem_filter,List.mem_take_iff_getElem]at he;obtain⟨⟨k,k1,k2⟩,he2⟩:=he;have hne:e≠L[i]:=fun e2=>by rw[←k2]at e2;have:=zPu h.nd (by omega) hi e2;omega
  rw[decide_eq_false hne];symm;cases hf:isF L i with
  |false=>rfl
  |true=>
   refine absurd ?_ (zFs.1 hf k (by omega))
   rw[zBe (show k<L.length by omega),zBe hi,k2];exact of_decide_eq_true he2
theorem zSU{D:Int}{L:List F3}(h:RL D L):∀(k fu i:Nat)(l:List (List F3)),i+k=L.length→k<fu→l.length=nF L i→∃r,zBY D L fu (i:Int) l=some r∧r.length=nF L L.length
 |k,0,i,l,_,hf,_=>by omega
 |k,fu+1,i,l,hi,hf,hn=>by
  have hlen:=h.len;have hnF:=zXR L i;rw[zBY,zV];by_cases h1:i<L.length
  ·obtain⟨v1,_,v2,_⟩:=zOl h (zk h1);obtain⟨e,t,e1,e2⟩:=zUq h h1;have g0:getI (e::t) 0=some e:=getQ (i:=0) rfl;rw[za (by omega),cond_true,jO h1];simp only[Option.bind_some];rw[v1,Option.bind_some,zXn h,e1,Option.bind_some,g0];simp only[Option.bind_some];rw[zTR,e2];simp only[zP];rw[zAt (by omega)];obtain⟨k',rfl⟩:∃k',k=k'+1:=⟨k - 1,by omega⟩
   cases hq:isF L i with
   |true=>rw[cond_true,zCf (by simp;omega)];simp only[Option.bind_some];exact zSU h k' fu (i+1) _ (by omega) (by omega) (by rw[zb,zLx,if_pos hq,hn];rfl)
   |false=>rw[cond_false];exact zSU h k' fu (i+1) l (by omega) (by omega) (by rw[zLx,hq,if_neg (by decide),hn];rfl)
  ·rw[decide_eq_false (by omega),cond_false];have:i=L.length:=by omega
   subst this;exact⟨l,rfl,hn⟩
def oneB(d:Int):Bool:=eqI ((nF (fsL d) (fsL d).length:Nat):Int) ((fsL d).length:Int)
theorem zUa{d:Int}(h:OkN d):zBN d=some (oneB d):=by have hF:=FUge;have hr:=zHJ h;have hlen:=hr.len;obtain⟨r,r1,r2⟩:=zSU hr (fsL d).length FU 0 [] (by omega) (by omega) rfl;have e0:(((0:Nat):Int))=0:=rfl;rw[e0]at r1;unfold zBN zEO;rw[hr.i,Option.bind_some,r1,Option.bind_some,Option.bind_some,Option.bind_some,r2];rfl
theorem zPs{ys:List Int}(hl:ys.length≤2000)(hy:∀d∈ys,OkN d):∀(k fu i:Nat)(l:List Int),i+k=ys.length→k<fu→l.length≤i→jB ys fu (i:Int) l=some (l++(ys.drop i).filter oneB)
 |k,0,i,l,_,hf,_=>by omega
 |k,fu+1,i,l,hi,hf,hn=>by
  rw[jB,zV];by_cases h1:i<ys.length
  ·have hr:=zHJ (hy _ (zk h1));obtain⟨r,r1,r2⟩:=zWg hr;rw[za (by omega),cond_true,jO h1];simp only[Option.bind_some];rw[r1,hr.s,List.drop_eq_getElem_cons h1,List.filter_cons];simp only[Option.bind_some,zP];rw[r2,zAt (by omega)];have e:eqI ((nF (fsL ys[i]) (fsL ys[i]).length:Nat):Int) ((fsL ys[i]).length:Int)=oneB ys[i]:=rfl;rw[e];obtain⟨k',rfl⟩:∃k',k=k'+1:=⟨k - 1,by omega⟩
   cases hq:oneB ys[i] with
   |true=>rw[cond_true,zCf (by simp;omega),if_pos rfl];simp only[Option.bind_some];rw[zPs hl hy k' fu (i+1) (l++[ys[i]]) (by omega) (by omega) (by simp;omega),List.append_assoc];rfl
   |false=>rw[cond_false,if_neg (by decide)];exact zPs hl hy k' fu (i+1) l (by omega) (by omega) (by omega)
  ·rw[decide_eq_false (by omega),cond_false,List.drop_eq_nil_of_le (by omega)];simp
theorem zUc(lo hi:Int):∃(l:List Int) (b:Bool),jJ lo hi=some (l,b)∧zAH lo hi=some (l,b)∧l.length≤2000∧∀d∈l,OkN d∧oneB d=true:=by
 have hF:=FUge;have e0:(((0:Nat):Int))=0:=rfl;unfold jJ zAH;rcases zRD lo hi with⟨h1,h2⟩|⟨h1,h2,h3,h4⟩
 ·rw[h1,h2];exact⟨[],false,rfl,rfl,by simp,fun d hd=>by cases hd⟩
 ·rw[h1,h2];obtain⟨ys,y1,y2,y3,y4⟩:=zI1 h3 h4;have h5:=zPs y3 y4 ys.length FU 0 [] (by omega) (by omega) (by simp);rw[e0,List.drop_zero,zi]at h5;refine⟨ys.filter oneB,true,?_,?_,Nat.le_trans (List.length_filter_le _ _) y3,fun d hd=>?_⟩
  ·rw[Option.bind_some,Bool.not_true,cond_false];exact zPI (zNG (b:=oneB) y1 y3 fun d hd=>zUa (y4 d hd)) _
  ·rw[Option.bind_some,Bool.not_true,cond_false,y2,Option.bind_some,h5,Option.bind_some]
  ·rw[List.mem_filter]at hd;exact⟨y4 d hd.1,hd.2⟩
def amB(f:F3):Bool:=bif (bif (eqI f.2.1 0) then true else (eqI f.1 f.2.1)) then true else (eqI f.1 f.2.2)
theorem zSW{b:F3→Bool}{so:F3→Option Bool}{L:List F3}(hl:L.length≤2000)(hb:∀f∈L,so f=some (b f)):∀(k fu i:Nat)(l:List F3),i+k=L.length→k<fu→l.length≤i→zAA so L fu (i:Int) l=some (l++(L.drop i).filter b)
 |k,0,i,l,_,hf,_=>by omega
 |k,fu+1,i,l,hi,hf,hn=>by
  rw[zAA,zV];by_cases h1:i<L.length
  ·rw[za (by omega),cond_true,jO h1];simp only[Option.bind_some];rw[hb _ (zk h1),List.drop_eq_getElem_cons h1,List.filter_cons];simp only[Option.bind_some,zP];rw[zAt (by omega)];obtain⟨k',rfl⟩:∃k',k=k'+1:=⟨k - 1,by omega⟩
   cases hq:b L[i] with
   |true=>rw[cond_true,zCf (by simp;omega),if_pos rfl];simp only[Option.bind_some];rw[zSW hl hb k' fu (i+1) (l++[L[i]]) (by omega) (by omega) (by simp;omega),List.append_assoc];rfl
   |false=>rw[cond_false,if_neg (by decide)];exact zSW hl hb k' fu (i+1) l (by omega) (by omega) (by omega)
  ·rw[decide_eq_false (by omega),cond_false,List.drop_eq_nil_of_le (by omega)];simp
theorem zWQ{d:Int}(h:OkN d)(h1:oneB d=true):∀f∈fsL d,amB f=true:=by
 have hr:=zHJ h;intro f hf;have hn:nF (fsL d) (fsL d).length=(fsL d).length:=by unfold oneB at h1;rw[zBF,beq_iff_eq]at h1;omega
 have hall:∀i,i<(fsL d).length→isF (fsL d) i=true:=by
  unfold nF at hn;have:(List.range (fsL d).length).countP (isF (fsL d))=(List.range (fsL d).length).length:=by rw[List.length_range];exact hn
  intro i hi;exact List.countP_eq_length.1 this i (List.mem_range.2 hi)
 have hdist:∀f g,f∈fsL d→g∈fsL d→vl f=vl g→f=g:=by
  intro f g hf hg e;obtain⟨i,hi,rfl⟩:=List.getElem_of_mem hf;obtain⟨j,hj,rfl⟩:=List.getElem_of_mem hg;rcases Nat.lt_trichotomy i j with q|q|q
  ·refine absurd ?_ (zFs.1 (hall j hj) i q)
   rw[zBe hi,zBe hj];exact e
  ·subst q;rfl
  ·refine absurd ?_ (zFs.1 (hall i hi) j q)
   rw[zBe hi,zBe hj];exact e.symm
 unfold amB;by_cases b0:f.2.1=0
 ·rw[b0];rfl
 ·by_cases b1:f.1=f.2.1
  ·rw[zAj b0,cond_false,←b1,zDm];rfl
  ·by_cases b2:f.1=f.2.2
   ·rw[zAj b0,cond_false,zAj b1,cond_false,b2,zDm]
   ·exfalso
    obtain⟨p1,p2,p3,p4⟩:=(hr.mem f).1 hf;have hopp:(f.1,-f.2.1,f.2.2)∈fsL d:=by
     refine (hr.mem _).2 ⟨p1,?_,?_,fun k k1 k2 k3=>p4 k k1 (Int.dvd_neg.1 k2) k3⟩
     ·unfold zAu at p2 ⊢;dsimp only;omega
     ·dsimp only;rw[Int.neg_mul_neg];exact p3
    obtain⟨_,_,_,w⟩:=zOl hr hf;obtain⟨w2,_,_,_⟩:=zOl hr hopp;rw[w]at w2;have:=hdist f _ hf hopp (Option.some.inj w2);have e:f.2.1=-f.2.1:=congrArg (fun z:F3=>z.2.1) this;omega
theorem zWk{d:Int}(h:OkN d)(h1:oneB d=true):zAe d=some (true,true):=by have hF:=FUge;have hr:=zHJ h;have hlen:=hr.len;have hfl:=zSW (b:=amB) (so:=fun x0=>zCN x0) (L:=fsL d) (by omega) (fun f hf=>rfl) (fsL d).length FU 0 [] (by omega) (by omega) (by simp);have e0:(((0:Nat):Int))=0:=rfl;rw[e0,List.drop_zero,zi,List.filter_eq_self.2 (zWQ h h1)]at hfl;unfold zAe zCM zCv;rw[zET,za (show -2000≤d∧d≤-3∧d % 4≤1 from h),Option.bind_some,Bool.not_true,cond_false,hr.i,Option.bind_some,hfl,Option.bind_some,Option.bind_some,Option.bind_some,Option.bind_some,zDm]
theorem zTG{y:List Int×Bool}(hl:y.1.length≤2000)(hy:∀d∈y.1,OkN d∧oneB d=true):∀(k fu i:Nat),i+k=y.1.length→k<fu→jD y fu (i:Int)=some (.inl ())
 |k,0,i,_,hf=>by omega
 |k,fu+1,i,hi,hf=>by
  rw[jD,zV];by_cases h1:i<y.1.length
  ·obtain⟨a,b⟩:=hy _ (zk h1);rw[za (by omega),cond_true,jO h1];simp only[Option.bind_some];rw[zWk a b];simp only[Option.bind_some,Bool.not_true,cond_false,zP];rw[zAt (by omega)];obtain⟨k',rfl⟩:∃k',k=k'+1:=⟨k - 1,by omega⟩
   exact zTG hl hy k' fu (i+1) (by omega) (by omega)
  ·rw[decide_eq_false (by omega),cond_false]
structure CurB (k:Nat) (c:List Int×Int×Int):Prop where
  lo:0≤c.2.1
  hi:c.2.1≤(k:Int)
  len:c.1.length≤1048576
  by8:∀x∈c.1,0≤x∧x≤255
theorem CurB.up{k k2:Nat}{c:List Int×Int×Int}(h:CurB k c)(hk:k≤k2):CurB k2 c:=⟨h.lo,by have:=h.hi;omega,h.len,h.by8⟩
theorem CurB.start{code:List Int}(h1:code.length≤1048576)(h2:∀x∈code,0≤x∧x≤255):CurB 0 (code,0,0):=⟨Int.le_refl _,Int.le_refl _,h1,h2⟩
theorem zWj{code more:List Int}:zCC code more=some (decide (1048576<code.length∨1048576 - (code.length:Int)<more.length))∨1048576<code.length∧zCC code more=some true:=by
 by_cases h:1048576<code.length
 ·right;refine⟨h,?_⟩;simp only[zCC,Option.bind_some,zV,za (show (1048576:Int)<(code.length:Int) by omega),cond_true]
 ·left;simp only[zCC,Option.bind_some,zV,decide_eq_false (show ¬(1048576:Int)<(code.length:Int) by omega),cond_false];rw[zA (by omega)];congr 1;simp only[decide_eq_decide];omega
theorem zTx(code more:List Int):zCC code more=some true∨(zCC code more=some false∧code.length≤1048576∧more.length≤1048576):=by
 rcases zWj (code:=code) (more:=more) with h|h
 ·by_cases h1:1048576<code.length∨1048576 - (code.length:Int)<more.length
  ·exact .inl (by rw[h,za h1])
  ·refine .inr ⟨by rw[h,decide_eq_false h1],?_,?_⟩<;>omega
 ·exact .inl h.2
theorem zPR{x:Int}(h:0≤x∧x≤255):IntKind.i64.wrap x=x:=zJg (by omega)
theorem zVa(a:Int):0≤IntKind.i64.wrap (andI .u64 a 255)∧IntKind.i64.wrap (andI .u64 a 255)≤255:=by
 have h:0≤andI .u64 a 255∧andI .u64 a 255≤255:=by
  unfold andI;have h1:(BitVec.ofInt IntKind.u64.bits a&&& BitVec.ofInt IntKind.u64.bits 255).toNat≤255:=by rw[BitVec.toNat_and];exact Nat.and_le_right
  generalize (BitVec.ofInt IntKind.u64.bits a&&& BitVec.ofInt IntKind.u64.bits 255).toNat=q at h1;rw[show IntKind.u64.wrap (q:Int)=(q:Int) by show (q:Int) % 18446744073709551616=q;omega]
  omega
 rw[zPR h];exact h
theorem zTA{k:Nat}{c:List Int×Int×Int}(h:CurB k c)(hk:k≤1099511627776):∃b c',zBI c=some (b,c')∧0≤b∧b≤255∧CurB (k+1) c':=by
 obtain⟨xs,p,q⟩:=c;obtain⟨h1,h2,h3,h4⟩:=h;simp only at h1 h2 h3 h4;have e1:w64 (p+1)=p+1:=zA (by omega);have nextB:∀q',CurB (k+1) (xs,p+1,q'):=fun q'=>⟨by show 0≤p+1;omega,by show p+1≤((k+1:Nat):Int);omega,h3,h4⟩
 simp only[zBI,zP,zV,jL,e1];by_cases hp:p<(xs.length:Int)
 ·have hi:p.toNat<xs.length:=by omega
  have hg:getI xs p=some xs[p.toNat]:=by unfold getI;rw[jL,za h1,cond_true];simp[hi]
  have hb:=h4 xs[p.toNat] (zk hi);simp only[za hp,cond_true,hg,Option.bind_some,zPR hb];by_cases hl:p+1≤(xs.length:Int)
  ·simp only[za hl,cond_true];exact⟨_,_,rfl,hb.1,hb.2,nextB _⟩
  ·omega
 ·simp only[decide_eq_false hp,cond_false,Option.bind_some];simp only[decide_eq_false (show ¬p+1≤(xs.length:Int) by omega),cond_false];exact⟨_,_,rfl,(zVa _).1,(zVa _).2,nextB _⟩
theorem zGE{x n:Int}(hx:0≤x)(hn:0<n):0≤x.tmod n∧x.tmod n<n:=⟨Int.tmod_nonneg _ hx,Int.tmod_lt_of_pos _ hn⟩
theorem zCw{k:Nat}{c:List Int×Int×Int}(n:Int)(h:CurB k c)(hk:k≤1000000000000):∃x c',zR c n=some (x,c')∧0≤x∧(n≤1→x=0)∧(1<n→x<n)∧CurB (k+2) c':=by
 simp only[zR,jL,zV];by_cases h1:n≤1
 ·rw[za h1,cond_true];exact⟨0,c,rfl,Int.le_refl _,fun _=>rfl,fun h2=>by omega,h.up (by omega)⟩
 ·rw[decide_eq_false h1,cond_false];obtain⟨b,c1,e1,b1,b2,hc1⟩:=zTA h (by omega);rw[e1,Option.bind_some];by_cases h2:200<n
  ·obtain⟨d,c2,e2,d1,d2,hc2⟩:=zTA hc1 (by omega);simp only[za h2,cond_true,e2,Option.bind_some,zP,zC5 (show n≠0 by omega)];rw[zA (n:=b*256) (by omega),zA (n:=b*256+d) (by omega)];have:=zGE (x:=b*256+d) (n:=n) (by omega) (by omega);exact⟨_,_,rfl,this.1,fun h3=>absurd h3 h1,fun _=>this.2,hc2⟩
  ·simp only[decide_eq_false h2,cond_false,Option.bind_some,zP,zC5 (show n≠0 by omega)];have:=zGE (x:=b) (n:=n) b1 (by omega);exact⟨_,_,rfl,this.1,fun h3=>absurd h3 h1,fun _=>this.2,hc1.up (by omega)⟩
theorem zQD{α:Type}{l:List α}{x:Int}(h1:0≤x)(h2:x<(l.length:Int)):∃y,getI l x=some y∧y∈l:=by
 have hi:x.toNat<l.length:=by omega
 refine⟨l[x.toNat],?_,zk hi⟩;unfold getI;rw[jL,za h1,cond_true];simp[hi]
theorem zJ1{k:Nat}{c:List Int×Int×Int}{l:List Int}(hl:l≠[])(h:CurB k c)(hk:k≤1000000000000):∃x c',jR c l=some (x,c')∧x∈l∧CurB (k+2) c':=by
 obtain⟨x,c1,e1,x1,x2,x3,hc1⟩:=zCw (l.length:Int) h hk;have hp:=List.length_pos_iff.2 hl;obtain⟨y,e2,hy⟩:=zQD (l:=l) x1 (by
  rcases Nat.lt_or_ge 1 l.length with h1|h1
  ·exact x3 (by omega)
  ·have:=x2 (by omega);omega)
 simp only[jR,e1,Option.bind_some,e2];exact⟨y,c1,rfl,hy,hc1⟩
theorem zJE(b:List Int)(hb:b.length≤1048576)(h8:∀x∈b,0≤x∧x≤255):∀(n i:Nat)(v:Int),i≤b.length→b.length - i<n→0≤v→v<1000003→∃r,zAp b n v (i:Int)=some r∧0≤r∧r<1000003
 |0,i,v,_,h,_,_=>by omega
 |n+1,i,v,hi,h,hv1,hv2=>by
  unfold zAp;rw[zV];by_cases h1:(i:Int)<(b.length:Int)
  ·obtain⟨y,e1,hy⟩:=zQD (l:=b) (x:=(i:Int)) (by omega) h1;have h9:=h8 y hy;simp only[za h1,cond_true,e1,Option.bind_some,zP,zPR h9];rw[zA (n:=31*v) (by omega),zA (n:=31*v+y) (by omega),zA (n:=(i:Int)+1) (by omega),show ((i:Int)+1)=((i+1:Nat):Int) by omega];have:=zGE (x:=31*v+y) (n:=1000003) (by omega) (by omega);exact zJE b hb h8 n (i+1) _ (by omega) (by omega) this.1 this.2
  ·rw[decide_eq_false h1,cond_false];exact⟨v,rfl,hv1,hv2⟩
theorem zRQ{b:List Int}(hb:b.length≤1048576)(h8:∀x∈b,0≤x∧x≤255):∃r,zBj b=some r∧0≤r∧r<1000003:=by obtain⟨r,e,h1,h2⟩:=zJE b hb h8 FU 0 0 (Nat.zero_le _) (by (have:(1048577:Nat)≤FU:=by decide);omega) (by omega) (by omega);have e:zAp b FU 0 0=some r:=e;simp only[zBj,e,Option.bind_some];exact⟨r,rfl,h1,h2⟩
theorem zWb{k:Nat}{c:List Int×Int×Int}(h:CurB k c)(hk:k≤100000000000):∃d c',zBp c=some (d,c')∧CurB (k+4) c':=by
 obtain⟨y,c1,e1,_,_,_,h1⟩:=zCw 16 h (by omega);simp only[zBp,e1,Option.bind_some];cases eqI y 0 with
 |true=>obtain⟨x,c2,e2,_,h2⟩:=zJ1 (l:=[-3,-4,-2000,-1999,-1996,-1995,-163,-2001,-2003,-2004,0,1,5,-1,-2,-5,-9223372036854775808]) (by simp) h1 (by omega);simp only[cond_true,e2,Option.bind_some];exact⟨x,c2,rfl,h2⟩
 |false=>
  rw[cond_false];generalize hj:(bif eqI y 1 then some (eqI y 1) else some (eqI y 2))=j;have hj2:∃b,j=some b:=by subst hj;cases eqI y 1<;>exact⟨_,rfl⟩
  obtain⟨b,rfl⟩:=hj2;simp only[Option.bind_some];cases b with
  |true=>
   obtain⟨x,c2,e2,x1,_,x3,h2⟩:=zCw 1998 h1 (by omega);have x4:=x3 (by omega);simp only[cond_true,e2,Option.bind_some,zP,zFP];rw[zA (n:=-3 - x) (by omega),zAk (by omega) (by omega)];simp only[Option.bind_some];cases ltI 1 ((-3 - x) % 4) with
   |true=>
    simp only[cond_true,zAv];cases ltI (w64 (-3 - x - 2)) (-2000) with
    |true=>exact⟨_,c2,rfl,h2⟩
    |false=>exact⟨_,c2,rfl,h2⟩
   |false=>exact⟨_,c2,rfl,h2⟩
  |false=>
   rw[cond_false];generalize hj3:(bif eqI y 3 then some (eqI y 3) else bif eqI y 4 then some (eqI y 4) else some (eqI y 5))=j3;have hj4:∃b,j3=some b:=by subst hj3;cases eqI y 3<;>cases eqI y 4<;>exact⟨_,rfl⟩
   obtain⟨b,rfl⟩:=hj4;simp only[Option.bind_some];cases b with
   |true=>obtain⟨x,c2,e2,_,h2⟩:=zJ1 (l:=[-84,-420,-231,-260,-455,-520,-660,-1155,-1320,-1380,-1428,-1540,-399,-1092,-1560,-1785]) (by simp) h1 (by omega);simp only[cond_true,e2,Option.bind_some];exact⟨x,c2,rfl,h2⟩
   |false=>
    rw[cond_false];generalize hj5:(bif eqI y 6 then some (eqI y 6) else some (eqI y 7))=j5;have hj6:∃b,j5=some b:=by subst hj5;cases eqI y 6<;>exact⟨_,rfl⟩
    obtain⟨b,rfl⟩:=hj6;simp only[Option.bind_some];cases b with
    |true=>obtain⟨x,c2,e2,_,_,_,h2⟩:=zCw 60 h1 (by omega);simp only[cond_true,e2,Option.bind_some,zP];exact⟨_,c2,rfl,h2⟩
    |false=>obtain⟨x,c2,e2,_,_,_,h2⟩:=zCw 50 h1 (by omega);simp only[cond_false,e2,Option.bind_some,zP];exact⟨_,c2,rfl,h2⟩
theorem zW2{k:Nat}{c:List Int×Int×Int}(n:Int)(h:CurB k c)(hk:k≤100000000000):∃b c',zCI c n=some (b,c')∧CurB (k+2) c':=by obtain⟨x,c',e,_,_,_,h1⟩:=zCw n h (by omega);exact⟨eqI x 0,c',by simp only[zCI,e,Option.bind_some],h1⟩
theorem zVC{k:Nat}{c:List Int×Int×Int}(h:CurB k c)(hk:k≤10000000000):∃d c',zAl c=some (d,c')∧OkN d:=by
 obtain⟨d,c1,e1,h1⟩:=zWb h (by omega);simp only[zAl,e1,Option.bind_some,zNE,zET];by_cases hd:-2000≤d∧d≤-3∧d % 4≤1
 ·rw[za hd];exact⟨d,c1,rfl,hd⟩
 ·rw[decide_eq_false hd];exact⟨-23,c1,rfl,⟨by decide,by decide,by decide⟩⟩
theorem zOq{k:Nat}{c:List Int×Int×Int}(h:CurB k c)(hk:k≤10000000000):∃y,zAg c=some y:=by obtain⟨a,c1,e1,_,_,_,h1⟩:=zCw 1990 h (by omega);obtain⟨b,c2,e2,_,_,_,h2⟩:=zCw 300 h1 (by omega);obtain⟨x,c3,e3,_,h3⟩:=zJ1 (l:=[-2000,-100,-30,-8,-4,-3,-2001,w64 ((-3) - a),w64 ((-3) - b)]) (by simp) h2 (by omega);obtain⟨y,c4,e4,_,_,_,h4⟩:=zCw 60 h3 (by omega);obtain⟨z,c5,e5,_,h5⟩:=zJ1 (l:=[0,1,2,3,10,30,78,80,82,-1,y]) (by simp) h4 (by omega);simp only[zAg,e1,Option.bind_some,e2,e3,e4,e5,zP];exact⟨_,rfl⟩
theorem zVV{code:List Int}(hc:CurB 0 (code,0,0)):∃fs,zW code=some fs∧fs.length≤100000:=by
 obtain⟨x,c1,e1,_,_,_,h1⟩:=zCw 8 hc (by omega);simp only[zW,e1,Option.bind_some];cases eqI x 0 with
 |true=>exact⟨_,rfl,by simp⟩
 |false=>
  rw[cond_false];cases eqI x 1 with
  |true=>obtain⟨a,c2,e2,_,_,_,h2⟩:=zCw 4 h1 (by omega);obtain⟨b,c3,e3,_,_,_,h3⟩:=zCw 9 h2 (by omega);rw[cond_true,e2,Option.bind_some,e3];exact⟨_,rfl,by simp⟩
  |false=>
   rw[cond_false];cases eqI x 2 with
   |true=>exact⟨_,rfl,by simp⟩
   |false=>
    rw[cond_false];cases eqI x 3 with
    |true=>obtain⟨a,c2,e2,_,_,_,h2⟩:=zCw 8 h1 (by omega);rw[cond_true,e2];exact⟨_,rfl,by simp⟩
    |false=>
     rw[cond_false];cases eqI x 4 with
     |true=>exact⟨_,rfl,by simp⟩
     |false=>obtain⟨d,c2,e2,hd⟩:=zVC h1 (by omega);obtain⟨i0,_,i2⟩:=zTI hd;rw[cond_false,e2,Option.bind_some,i2];exact⟨_,rfl,by omega⟩
theorem zVU{code:List Int}(hc:CurB 0 (code,0,0)):∃y,qY code=some y:=by
 obtain⟨b,c1,e1,h1⟩:=zW2 8 hc (by omega);simp only[qY,e1,Option.bind_some];cases b with
 |true=>exact⟨_,rfl⟩
 |false=>obtain⟨y,hy⟩:=zOq h1 (by omega);rw[cond_false,hy];exact⟨_,rfl⟩
theorem zVT{code:List Int}(hc:CurB 0 (code,0,0)):∃y,qX code=some y:=by obtain⟨y,hy⟩:=zOq hc (by omega);simp only[qX,hy,Option.bind_some];exact⟨_,rfl⟩
theorem zJr{l:List Int}(hl:l.length≤100000):qZ l l=some true:=by rw[(zM7 hl l).2.2,zKO]
def gtA(code1 more2 y5:List Int)(y6:List Int×Bool):Option (Unit ⊕ Bool):=
 bif y6.2 then
  ((qC more2 y5 y6 FU 1 0).bind fun o17=>
   (qA o17).bind fun y23=>
   bif (!y23.2) then some (.inr false)
   else
    (qO more2 y23 y5 y6 FU 0).bind fun qo27=>
    match qo27 with
    | .inr r=>some (.inr r)
    | .inl o27=>
     bif (ltI 0 ((y6.1.length:Int))) then
      ((zBj more2).bind fun y35=>
       (nz ((y6.1.length:Int))).bind fun z36=>
       (getI y6.1 (Int.tmod y35 ((y6.1.length:Int)))).bind fun e37=>
       (getI y6.1 (Int.tmod y35 ((y6.1.length:Int)))).bind fun e38=>
       (jP e38).bind fun y39=>
       (bif (!y39.2) then some true else ((qZ y39.1 y5).bind fun y41=>some (!y41))).bind fun b42=>
       bif b42 then some (.inr false) else some (.inl ()))
     else some (.inl ()))
 else some (.inl ())
theorem zY7{code more fs:List Int}(hm:more.length≤1048576)(hm8:∀x∈more,0≤x∧x≤255)(hl:fs.length≤100000):∃y6,zL fs=some y6∧zS fs=some y6∧y6.1.length≤100000∧gtA code more fs y6=some (.inl ()):=by
 have hF:=FUge;have e0:(((0:Nat):Int))=0:=rfl;obtain⟨a1,a2,a3,a4⟩:=zQ2;rcases zVR hl with⟨h1,h2⟩|⟨v,v1,v2,v3,v4,v5⟩
 ·exact⟨([],false),h1,h2,by simp,rfl⟩
 ·have hdw:=zW9 v1 v2;generalize allD=A at*;have hlen:(A.filter (facB v fs)).length≤2000:=Nat.le_trans (List.length_filter_le _ _) a3;have hlen2:(A.filter fun d=>eqI ((fsL d).length:Int) v).length≤2000:=Nat.le_trans (List.length_filter_le _ _) a3;refine⟨(A.filter (facB v fs),true),v3,v4,by show (A.filter (facB v fs)).length≤100000;omega,?_⟩;have hmem:∀d∈A.filter (facB v fs),OkN d∧eqI ((fsL d).length:Int) v=true∧ivL d=fs:=by
   intro d hd;rw[List.mem_filter]at hd;obtain⟨d1,d2⟩:=hd;unfold facB at d2;rw[ze]at d2;exact⟨a4 d d1,d2.1,zMB d2.2⟩
  have h26:qO more (A.filter (fun d=>eqI ((fsL d).length:Int) v),true) fs (A.filter (facB v fs),true) FU 0=some (.inl ()):=by
   have:=zTH (more:=more) (y5:=fs) (y23:=(A.filter (fun d=>eqI ((fsL d).length:Int) v),true)) (y6:=(A.filter (facB v fs),true)) (by show (A.filter (facB v fs)).length≤100000;omega) (by show (A.filter fun d=>eqI ((fsL d).length:Int) v).length≤100000;omega)
    (fun x hx=>List.mem_filter.2 ⟨(List.mem_filter.1 hx).1,(hmem x hx).2.1⟩) (A.filter (facB v fs)).length FU 0 (by show 0+(A.filter (facB v fs)).length=(A.filter (facB v fs)).length;omega) (by omega)
   rw[e0]at this;exact this
  unfold gtA;dsimp only;rw[cond_true,v5,Option.bind_some,hdw,Option.bind_some];dsimp only;rw[Bool.not_true,cond_false,h26,Option.bind_some];dsimp only;rw[zV];generalize hys:A.filter (facB v fs)=ys at hmem hlen;by_cases hp:(0:Int)<(ys.length:Int)
  ·obtain⟨x,x1,x2,x3⟩:=zRQ hm hm8;obtain⟨t1,t2⟩:=zGE (x:=x) (n:=(ys.length:Int)) x2 hp;obtain⟨d,d1,d2⟩:=zQD t1 t2;obtain⟨d3,d4,d5⟩:=hmem d d2;rw[za hp,cond_true,x1,Option.bind_some,zC5 (by omega),Option.bind_some,d1,Option.bind_some,Option.bind_some,zWW d3,Option.bind_some];dsimp only;rw[Bool.not_true,cond_false,d5,zJr hl];rfl
  ·rw[decide_eq_false hp];rfl
def gtB(y44:Int×Int)(y45:Int×Int×Bool):Option (Unit ⊕ Bool):=
 bif y45.2.2 then
  ((zA2 y44.1 y44.2).bind fun y53=>
   (zAs y45.2.1).bind fun y54=>
   (bif (bif (!y53.2) then true else (!eqI ((y53.1.length:Int)) (w64 (y45.1+1)))) then some true else ((getI y53.1 y45.1).bind fun e57=>(getI y53.1 y45.1).bind fun e58=>some (ltI e58 1))).bind fun b59=>
   (some (bif (bif b59 then true else (!y54.2)) then true else (!eqI y54.1 y45.1))).bind fun t62=>
   bif t62 then some (.inr false) else some (.inl ()))
 else some (.inl ())
theorem zY6(lo hi:Int):∃y45,jK lo hi=some y45∧jG lo hi=some y45∧gtB (lo,hi) y45=some (.inl ()):=by
 obtain⟨m,v,b,h1,h2,h3⟩:=zWY lo hi;refine⟨_,h1,h2,?_⟩;cases b with
 |false=>rfl
 |true=>
  obtain⟨_,k2,k3,c,k4,k5,x,k6,k7⟩:=h3 rfl;unfold gtB;dsimp only;have e:eqI (c.length:Int) (w64 ((m:Int)+1))=true:=by rw[k5,zAt (by omega)];exact zDm _
  rw[cond_true,k4,Option.bind_some,k3,Option.bind_some];dsimp only;rw[e,getQ k6,zDm];simp only[Option.bind_some,Bool.not_true,cond_false,zV];rw[decide_eq_false (by omega)];rfl
def gtC(more2:List Int):Option Bool:=
 (qX more2).bind fun y64=>
 (jJ y64.1 y64.2).bind fun y65=>
 (zAH y64.1 y64.2).bind fun y66=>
 (bif (y65.2 != y66.2) then some true else ((qZ y65.1 y66.1).bind fun y68=>some (!y68))).bind fun b69=>
 bif b69 then some false
 else
  (jD y65 FU 0).bind fun qo73=>
  match qo73 with
  | .inr r=>some r
  | .inl o73=>some true
theorem zY5{more:List Int}(hc:CurB 0 (more,0,0)):gtC more=some true:=by have hF:=FUge;have e0:(((0:Nat):Int))=0:=rfl;obtain⟨y,hy⟩:=zVT hc;obtain⟨l,b,h1,h2,h3,h4⟩:=zUc y.1 y.2;have h72:=zTG (y:=(l,b)) h3 h4 l.length FU 0 (by show 0+l.length=l.length;omega) (by omega);rw[e0]at h72;unfold gtC;rw[hy,Option.bind_some,h1,Option.bind_some,h2,Option.bind_some];dsimp only;rw[bne_self_eq_false,cond_false,zJr (by omega),Option.bind_some,Option.bind_some,Bool.not_true,cond_false,h72];rfl
theorem zJB(code more:List Int)(hc8:∀x∈code,0≤x∧x≤255)(hm8:∀x∈more,0≤x∧x≤255):zBA code more=some true:=by
 rcases zTx code more with hb|⟨hb,hc,hm⟩
 ·unfold zBA;rw[hb,Option.bind_some,cond_true]
 obtain⟨fs,f1,f2⟩:=zVV (CurB.start hc hc8);obtain⟨y6,y1,y2,y3,y4⟩:=zY7 (code:=code) hm hm8 f2;obtain⟨y44,g1⟩:=zVU (CurB.start hm hm8);obtain⟨y45,k1,k2,k3⟩:=zY6 y44.1 y44.2;have k4:=zY5 (CurB.start hm hm8);have key:zBA code more=(zCC code more).bind fun y3=>bif y3 then some true else
   (zW code).bind fun y5=>
   (zL y5).bind fun y6=>
   (zS y5).bind fun y7=>
   (bif (y6.2 != y7.2) then some true else ((qZ y6.1 y7.1).bind fun y9=>some (!y9))).bind fun b10=>
   bif b10 then some false else
    (gtA code more y5 y6).bind fun qo12=>
    match qo12 with
    | .inr r=>some r
    | .inl o12=>
     (qY more).bind fun y44=>
     (jK y44.1 y44.2).bind fun y45=>
     (jG y44.1 y44.2).bind fun y46=>
     (some (bif (bif (y45.2.2 != y46.2.2) then true else (!eqI y45.1 y46.1)) then true else (!eqI y45.2.1 y46.2.1))).bind fun t49=>
     bif t49 then some false else
      (gtB y44 y45).bind fun qo51=>
      match qo51 with
      | .inr r=>some r
      | .inl o51=>gtC more:=by
  unfold zBA gtA gtB gtC;rfl
 rw[key,hb,Option.bind_some,cond_false,f1,Option.bind_some,y1,Option.bind_some,y2,Option.bind_some,bne_self_eq_false,cond_false,zJr y3,Option.bind_some,Option.bind_some,Bool.not_true,cond_false,y4,Option.bind_some];dsimp only;rw[g1,Option.bind_some,k1,Option.bind_some,k2,Option.bind_some,bne_self_eq_false,cond_false,zDm,zDm,Bool.not_true,cond_false,Option.bind_some,cond_false,k3,Option.bind_some];exact k4
end Go.Proofs.YtdedjieegpkabaaGreat
