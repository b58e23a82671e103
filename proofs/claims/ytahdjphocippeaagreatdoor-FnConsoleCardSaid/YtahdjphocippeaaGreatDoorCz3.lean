/-
  Rules of walks, plain functions and their laws, part 3.
  Conditions: none.
-/
import Derived.Great.BuildSlice
import Derived.DataReads
import Derived.OpenShut
import Derived.Laws.BytesString
import Derived.Laws.Strings2
import Derived.Laws.Slices
import Derived.Laws.Externs
import Derived.Lib.AtoiTie
import Derived.Test.YtahdjphocippeaaGreatDoorCz2
set_option linter.unusedSimpArgs false
set_option linter.unusedVariables false
namespace Go.Proofs.YtahdjphocippeaaGreatDoor
theorem zWq{a b c e hB hC:Int}{mm:Int×Int×Int×Int}{b0 k1:Int}(ha:1≤a)(ha2:a≤26)(he:1≤e)(he2:e≤10000)(hb0:0≤b0)(hb02:b0<2*a)(hB0:0≤hB)(hB2:hB<2*e)(hk1:k1<e)(hd:2*e∣b0+2*a*k1 - hB):∀(n:Nat)(k:Int),0≤k→k≤k1→(k1 - k).toNat<n→
  ∃k2,zDy (a,b,c) ((e,hB,hC),mm) n (b0+2*a*k)=some (b0+2*a*k2)∧k≤k2∧k2≤k1∧2*e∣b0+2*a*k2 - hB
 |0,k,h0,h1,hn=>by omega
 |n+1,k,h0,h1,hn=>by
  have m1:(2*a*k).natAbs≤2*26*10000:=qA (qA (by omega) (by omega)) (by omega);rw[zDy];simp only[];rw[zA (n:=b0+2*a*k - hB) (by omega),zA (n:=2*e) (by omega),zB8 (by omega) (by omega)];simp only[za];by_cases hz:(b0+2*a*k - hB) % (2*e)=0
  ·rw[hz,zBj];exact⟨k,rfl,Int.le_refl _,h1,Int.dvd_of_emod_eq_zero hz⟩
  ·rw[zE8 hz];simp only[zi,zb,zI];have hne:k≠k1:=by
    intro e;rw[e]at hz;exact hz (Int.emod_eq_zero_of_dvd hd)
   have e1:b0+2*a*k+2*a=b0+2*a*(k+1):=by rw[Int.mul_add];omega
   rw[zA (n:=2*a) (by omega),zA (n:=b0+2*a*k+2*a) (by omega),e1];obtain⟨k2,j1,j2,j3,j4⟩:=zWq ha ha2 he he2 hb0 hb02 hB0 hB2 hk1 hd n (k+1) (by omega) (by omega) (by omega);exact⟨k2,j1,by omega,j3,j4⟩
theorem z8n:∀(a b:Nat),∃x y:Int,x*a+y*b=(Nat.gcd a b:Int):=by
 intro a b
 induction a,b using Nat.gcd.induction with
 |H0 n=>exact⟨0,1,by simp⟩
 |H1 m n hm ih=>
  obtain⟨x,y,h⟩:=ih;refine⟨y - x*(n / m:Nat),x,?_⟩;rw[Nat.gcd_rec,←h];have e:(n:Int)=(n % m:Nat)+m*(n / m:Nat):=by exact_mod_cast (Nat.mod_add_div n m).symm
  rw[e];grind
theorem zZV(a b:Int):∃x y:Int,x*a+y*b=(Int.gcd a b:Int):=by
 obtain⟨x,y,h⟩:=z8n a.natAbs b.natAbs;have sg:∀z:Int,∃t:Int,(z.natAbs:Int)=t*z:=by
  intro z;rcases Int.le_total 0 z with h|h
  ·exact⟨1,by omega⟩
  ·exact⟨-1,by omega⟩
 obtain⟨s,hs⟩:=sg a;obtain⟨t,ht⟩:=sg b;refine⟨x*s,y*t,?_⟩;rw[hs,ht]at h;rw[show Int.gcd a b=Nat.gcd a.natAbs b.natAbs from rfl,←h];grind
theorem z6t{a e v x:Int}(hi:e∣1 - v*a)(h:e∣a*x):e∣x:=by obtain⟨i,hi⟩:=hi;obtain⟨j,hj⟩:=h;exact⟨i*x+v*j,by grind⟩
theorem z4I{e x:Int}(h:e∣x)(h1:-e<x)(h2:x<e):x=0:=by
 have h3:e.natAbs∣x.natAbs:=Int.natAbs_dvd_natAbs.2 h;rcases Nat.eq_zero_or_pos x.natAbs with h4|h4
 ·omega
 ·have:=Nat.le_of_dvd h4 h3;omega
structure Uni (a b c A B C D x y q s e hB hC b1 c1 α β:Int):Prop where
  mh:MatInv A B C x q y s e hB hC
  e1:1≤e
  e2:e≤10000
  t:∃u v:Int,u*a+v*e=1
  bα:b1=b+2*a*α
  bβ:b1=hB+2*e*β
  b0:0≤b1
  b2:b1<2*a*e
  dis:b1*b1 - 4*a*e*c1=D
  qb:q.natAbs≤100000
  sb:s.natAbs≤100000
  xy:0≤x∧x≤3∧0≤y∧y≤3
theorem uni_c{a b c D e hB hC b1 α β:Int}(hd:b*b - 4*a*c=D)(hh:hB*hB - 4*e*hC=D){u v:Int}(huv:u*a+v*e=1)(bα:b1=b+2*a*α)(bβ:b1=hB+2*e*β):b1*b1 - 4*a*e*(u*(hC+hB*β+e*β*β)+v*(c+b*α+a*α*α))=D:=by
 have f1:b1*b1 - D=4*a*(c+b*α+a*α*α):=by rw[bα,←hd];grind
 have f2:b1*b1 - D=4*e*(hC+hB*β+e*β*β):=by rw[bβ,←hh];grind
 generalize hC+hB*β+e*β*β=X at*;generalize c+b*α+a*α*α=Y at*;have f3:(b1*b1 - D)*1=4*a*e*(u*X+v*Y):=by
  rw[←huv];have:(b1*b1 - D)*(u*a+v*e)=u*a*(b1*b1 - D)+v*e*(b1*b1 - D):=by grind
  rw[this];rw[show u*a*(b1*b1 - D)=u*a*(4*e*X) by rw[f2],show v*e*(b1*b1 - D)=v*e*(4*a*Y) by rw[f1]];grind
 omega
theorem z1W{a e b1 c1 D:Int}(ha:1≤a)(he:1≤e)(b0:0≤b1)(b2:b1<2*a*e)(hD1:-2000≤D)(hD2:D<0)(dis:b1*b1 - 4*a*e*c1=D):1≤c1∧c1≤a*e+500:=by
 have hae:1*1≤a*e:=Int.mul_le_mul ha he (by omega) (by omega);have e1:2*a*e=2*(a*e):=qa ..;have e2:4*a*e*c1=4*(a*e*c1):=by grind
 generalize a*e=m at*;have hbb:0≤b1*b1:=Int.mul_nonneg b0 b0;have hbb2:b1*b1≤2*m*(2*m):=Int.mul_le_mul (by omega) (by omega) b0 (by omega);have e3:2*m*(2*m)=4*(m*m):=by grind
 constructor
 ·rcases Int.lt_or_le 0 c1 with h|h
  ·exact h
  ·have:m*c1≤m*0:=zp h (by omega);omega
 ·rcases Int.lt_or_le (m+500) c1 with h|h
  ·have k1:m*(m+501)≤m*c1:=zp (by omega) (by omega);have k2:m*(m+501)=m*m+501*m:=by grind
   omega
  ·exact h
end Go.Proofs.YtahdjphocippeaaGreatDoor
namespace Go.Proofs.YtahdjphocippeaaGreatDoor
theorem z5f{b h D m n:Int}(h1:b*b - 4*m=D)(h2:h*h - 4*n=D):b % 2=h % 2:=by
 have k:∀z:Int,(z*z) % 2=z % 2:=by
  intro z;obtain⟨t,ht|ht⟩:∃t,z=2*t∨z=2*t+1:=⟨z / 2,by omega⟩
  ·rw[ht,show 2*t*(2*t)=2*(2*t*t) by grind];omega
  ·rw[ht,show (2*t+1)*(2*t+1)=2*(2*t*t+2*t)+1 by grind];omega
 have:=k b;have:=k h;omega
theorem z48{a e b0 hB:Int}(he:1≤e)(hg:Int.gcd a e=1)(hp:b0 % 2=hB % 2):∃k1 v1,0≤k1∧k1<e∧2*e∣b0+2*a*k1 - hB∧e∣1 - v1*a:=by
 obtain⟨v1,w1,h1⟩:=zZV a e;rw[hg]at h1;obtain⟨H,hH⟩:∃H,hB - b0=2*H:=⟨(hB - b0) / 2,by omega⟩
 have k0:=qc (H*v1) (b:=e) (by omega);have k2:=qd (H*v1) (b:=e) (by omega);have k3:=Int.emod_add_mul_ediv (H*v1) e;refine⟨H*v1 % e,v1,k0,k2,?_,⟨w1,by have:e*w1=w1*e:=Int.mul_comm ..;omega⟩⟩;refine⟨-(H*w1) - a*(H*v1 / e),?_⟩;have e1:H*v1 % e=H*v1 - e*(H*v1 / e):=by omega
 generalize H*v1 / e=W at*;have e2:v1*a=1 - w1*e:=by omega
 have e3:∀k,b0+2*a*k - hB=2*(a*k - H):=by intro k;have:2*a*k=2*(a*k):=qa ..;omega
 rw[e3,e1];have e4:a*(H*v1 - e*W) - H=H*(v1*a) - H - a*e*W:=by grind
 rw[e4,e2];grind
theorem zU1{a e b0 hB k k1 v1:Int}(k0:0≤k)(k2:k<e)(k3:0≤k1)(k4:k1<e)(h1:2*e∣b0+2*a*k1 - hB)(h2:2*e∣b0+2*a*k - hB)(h3:e∣1 - v1*a):k=k1:=by
 have d1:2*e∣2*(a*(k1 - k)):=by
  obtain⟨i,hi⟩:=h1;obtain⟨j,hj⟩:=h2;refine⟨i - j,?_⟩;have e1:2*(a*(k1 - k))=2*a*k1 - 2*a*k:=by grind
  have e2:2*e*(i - j)=2*e*i - 2*e*j:=Int.mul_sub ..;rw[e1,e2];omega
 have d2:e∣a*(k1 - k):=by obtain⟨i,hi⟩:=d1;exact⟨i,by have:2*e*i=2*(e*i):=qa ..;omega⟩
 have:=z4I (z6t h3 d2) (by omega) (by omega);omega
theorem z2Z{a e b0 hB:Int}(ha:1≤a)(ha2:a≤26)(he:1≤e)(he2:e≤10000)(hg:Int.gcd a e=1)(hb0:0≤b0)(hb02:b0<2*a)(hB0:0≤hB)(hB2:hB<2*e)(hp:b0 % 2=hB % 2):
  ∃k1 z v1,zDJ b0 (2*a) hB (2*e)=some (b0+2*a*k1,z,true)∧0≤k1∧k1<e∧2*e∣b0+2*a*k1 - hB∧e∣1 - v1*a:=by
 have hc:∀c:Int,c∣e→c∣a→c∣1:=by intro c h1 h2;have:=Int.dvd_coe_gcd h2 h1;rw[hg]at this;exact this
 obtain⟨v1,j1,j2,j3,j4⟩:=z8W (n:=e) (m:=a) he (by omega) (by omega) hc;obtain⟨H,hH⟩:∃H,hB - b0=2*H:=⟨(hB - b0) / 2,by omega⟩
 have k0:=qc (H*v1) (b:=e) (by omega);have k2:=qd (H*v1) (b:=e) (by omega);have k3:=Int.emod_add_mul_ediv (H*v1) e;have m1:(H*v1).natAbs≤10000*10000:=qA (by omega) (by omega);generalize hk:H*v1 % e=k1 at*;have m2:(2*a*k1).natAbs≤2*26*10000:=qA (qA (by omega) (by omega)) (by omega);have hdiv:2*e∣b0+2*a*k1 - hB:=by
  obtain⟨w,hw⟩:=j2;refine⟨-(H*w) - a*(H*v1 / e),?_⟩;have e1:k1=H*v1 - e*(H*v1 / e):=by omega
  generalize H*v1 / e=W at*;have e2:v1*a=1 - e*w:=by omega
  have e3:b0+2*a*k1 - hB=2*(a*k1 - H):=by have:2*a*k1=2*(a*k1):=qa ..;omega
  rw[e3,e1];have e4:a*(H*v1 - e*W) - H=H*(v1*a) - H - a*e*W:=by grind
  rw[e4,e2];grind
 have hak:2*a*k1≤2*a*(e - 1):=zp (by omega) (by omega);have hak0:0≤2*a*k1:=Int.mul_nonneg (by omega) k0;have hae:(a*(2*e)).natAbs≤26*20000:=qA (by omega) (by omega);have hae1:2*a*(e - 1)=a*(2*e) - 2*a:=by grind
 have hae2:1*2≤a*(2*e):=Int.mul_le_mul ha (by omega) (by omega) (by omega);have hgg:Int.gcd (2*a) (2*e)=2:=by rw[Int.gcd_mul_left,hg];rfl
 refine⟨k1,a*(2*e),v1,?_,k0,k2,hdiv,j2⟩;unfold zDJ;rw[zJj (by omega) (by omega),hgg];simp only[za];rw[show ((2:Nat):Int)=2 from rfl,zFg (show (2:Int)≠0 by decide),zA (n:=hB - b0) (by omega),tz (by decide),zd (show (2:Int)∣hB - b0 from⟨H,hH⟩)];simp only[za,zh,zc];rw[tdv (a:=2*a) (c:=a) (by decide) rfl,tdv (a:=2*e) (c:=e) (by decide) rfl,zA (n:=a) (by omega),zA (n:=e) (by omega),j1];simp only[za];rw[tdv (a:=hB - b0) (c:=H) (by decide) hH.symm,zA (n:=H) (by omega),zA (n:=H*v1) (by omega),zHn,zB8 he (by omega),hk];simp only[za,zI];rw[zA (n:=a*(2*e)) (by omega),zA (n:=2*a*k1) (by omega),zA (n:=b0+2*a*k1) (by omega),zHn,zB8 (by omega) (by omega),Int.emod_eq_of_lt (by omega) (by omega)];rfl
def PrRc(D:Int)(f:Int×Int×Int):Prop:=1≤f.1∧zCP f.1 f.2.1 f.2.2∧f.2.1*f.2.1 - 4*f.1*f.2.2=D∧∀k:Int,k∣f.1→k∣f.2.1→k∣f.2.2→k∣1
theorem zGb{D:Int}{f:Int×Int×Int}(hD1:-2000≤D)(h:PrRc D f):Rb f.1 f.2.1 f.2.2∧f.1≤25:=by
 obtain⟨h1,h2,h3,h4⟩:=h;obtain⟨⟨i1,i2⟩,i3⟩:=h2;have hbb:f.2.1*f.2.1≤f.1*f.1:=by
  rcases Int.le_total 0 f.2.1 with h4|h4
  ·exact Int.mul_le_mul i2 i2 h4 (by omega)
  ·have:(-f.2.1)*(-f.2.1)≤f.1*f.1:=Int.mul_le_mul (by omega) (by omega) (by omega) (by omega);have e:(-f.2.1)*(-f.2.1)=f.2.1*f.2.1:=by grind
   omega
 have h7:4*f.1*f.1≤4*f.1*f.2.2:=zp (by omega) (by omega);have e1:4*f.1*f.1=4*(f.1*f.1):=qa ..;have ha:f.1≤25:=by
  rcases Int.lt_or_le 25 f.1 with h8|h8
  ·have:26*26≤f.1*f.1:=Int.mul_le_mul (by omega) (by omega) (by omega) (by omega);omega
  ·exact h8
 have haa:f.1*f.1≤25*25:=Int.mul_le_mul ha ha (by omega) (by omega);have h9:4*1*f.2.2≤4*f.1*f.2.2:=Int.mul_le_mul_of_nonneg_right (by omega) (by omega);exact⟨⟨h1,by omega,by omega,by omega,by omega,by omega⟩,ha⟩
theorem z1T{D a b c A B C x y q s e hB hC b0 b1 z cc α β:Int}(ha:1≤a)(ra:a≤25)(rb:b.natAbs≤26)(hv1:1≤e)(v2:e≤10000)(hD1:-2000≤D)(hD2:D<0)(f3:b*b - 4*a*c=D)(p2:zCx (A,B,C) a=some (x,y))(c2:zAz (A,B,C) x y=some ((e,hB,hC),(x,q,y,s)))(hb0:b % (2*a)=b0)(k2:zDJ b0 (2*a) hB (2*e)=some (b1,z,true))(eα:2*a*α=b1 - b)(eβ:2*e*β=b1 - hB)(hB0:hB.natAbs≤30000)(hb1:b1.natAbs≤520000)(hbb:(b1*b1).natAbs≤270400000000)(e5:4*a*e*cc=b1*b1 - D)(hbα:α.natAbs≤1000000)(hbβ:β.natAbs≤1000000)(hcc:cc.natAbs≤300000)(h4:1≤4*a*e)(h42:4*a*e≤1040000){f0 g0:Int×Int×Int}{mf mg:Int×Int×Int×Int}(h1:qI f0=some ((a,b,c),mf))(h2:qI g0=some ((A,B,C),mg)):zCv f0 g0=(qJ mg (x,q,y,s)).bind fun N1=>(qJ mf (1,α,0,1)).bind fun M=>(qJ N1 (1,β,0,1)).bind fun N=>some ((a,b1,e*cc),(e,b1,a*cc),M,N):=by
 unfold zCv;rw[h1,za,h2,za];simp only[];rw[p2,za];simp only[];rw[c2,za];simp only[];cases hN1:qJ mg (x,q,y,s) with
 |none=>rfl
 |some N1=>
  simp only[za];have m3:(e*cc).natAbs≤10000*300000:=qA (by omega) (by omega);have m4:(a*cc).natAbs≤26*300000:=qA (by omega) (by omega);rw[zA (n:=2*a) (by omega),zHn,zB8 (by omega) (by omega),hb0,za,zA (n:=2*e) (by omega),k2,za,zFg (show 2*a≠0 by omega),za];simp only[zEO,za];rw[zA (n:=b1 - b) (by omega),tdv (b:=2*a) (by omega) eα,zA (n:=α) (by omega)];cases hM:qJ mf (1,α,0,1) with
  |none=>rfl
  |some M=>
   simp only[za];rw[zFg (show 2*e≠0 by omega),za,zA (n:=b1 - hB) (by omega),tdv (b:=2*e) (by omega) eβ,zA (n:=β) (by omega)];cases hN:qJ N1 (1,β,0,1) with
   |none=>rfl
   |some N=>simp only[za,zI];rw[zGu,zZD,f3,zA (n:=D) (by omega),za,zA (n:=4*a) (by omega),zA (n:=4*a*e) (by omega),zFg (show 4*a*e≠0 by omega),za,zA (n:=b1*b1) (by omega),zA (n:=b1*b1 - D) (by omega),tdv (b:=4*a*e) (by omega) e5,zA (n:=cc) (by omega),zA (n:=a*cc) (by omega),zA (n:=e*cc) (by omega)]
theorem z1U{D:Int}{a b c A B C:Int}(hD1:-2000≤D)(hD2:D<0)(hf:PrRc D (a,b,c))(hg:PrRc D (A,B,C)):
  ∃x y q s e hB hC b1 c1 α β,Uni a b c A B C D x y q s e hB hC b1 c1 α β∧zDm (a,b,c) (A,B,C)=(qC (x,q,y,s) (1,β,0,1)).bind (fun N=>some (a,e,b1,c1,(1,α,0,1),N))∧zCx (A,B,C) a=some (x,y)∧zAz (A,B,C) x y=some ((e,hB,hC),(x,q,y,s))∧(0≤hB∧hB<2*e∧hB.natAbs≤30000)∧α.natAbs≤1000000∧β.natAbs≤1000000∧Int.gcd a e=1:=by
 have hF:=FUge;obtain⟨rf,ra⟩:=zGb hD1 hf;obtain⟨rg,rA⟩:=zGb hD1 hg;obtain⟨f1,f2,f3,f4⟩:=hf;obtain⟨g1,g2,g3,g4⟩:=hg;simp only[]at rf ra rg rA f1 f2 f3 f4 g1 g2 g3 g4;obtain⟨⟨x,y⟩,p1,p2,p3,p4⟩:=z1u rg f1 ra g4;simp only[]at p3 p4;have hxy:x≠0∨y≠0:=by simp only[ptL,zl,Prod.mk.injEq,zq,or_false]at p3;omega
 obtain⟨⟨u1,u2⟩,u3⟩:=g2;have hv1:1≤Vl A B C x y:=by have:=uq_a g1 (show -A≤B by omega) u2 (show A≤C by omega) hxy;unfold Vl;omega
 obtain⟨q,s,hB,hC,c1,c2,em,t1,t2,v2,qb,sb,x1,x2,y1,y2⟩:=zWS rg g3 hD1 (by omega) p3 rfl hv1;generalize he:Vl A B C x y=e at*;have hh:hB*hB - 4*e*hC=D:=by rw[zSd em,g3]
 have b0a:=qc b (b:=2*a) (by omega);have b0b:=qd b (b:=2*a) (by omega);have b0c:=Int.emod_add_mul_ediv b (2*a);have hpar:=z5f (b:=b) (h:=hB) (D:=D) (m:=a*c) (n:=e*hC) (by rw[←f3];grind) (by rw[←hh];grind);generalize hb0:b % (2*a)=b0 at*;have hpar0:b0 % 2=hB % 2:=by have:2*a*(b / (2*a))=2*(a*(b / (2*a))):=qa ..;omega
 have hga:Int.gcd a e=1:=by rw[Int.gcd_comm];exact p4
 obtain⟨k1,v1,k3,k4,k5,k6⟩:=z48 (a:=a) (e:=e) hv1 hga hpar0;obtain⟨k,l1,l2,l3,l4⟩:=zWq (c:=c) (b:=b) (hC:=hC) (mm:=(x,q,y,s)) f1 (by omega) hv1 v2 b0a b0b t1 t2 k4 k5 FU 0 (by omega) k3 (by omega);have hk:k=k1:=zU1 l2 (by omega) k3 k4 k5 l4 k6;subst hk;generalize hb1:b0+2*a*k=b1 at*;obtain⟨β,hβ⟩:=k5;have hα:b1=b+2*a*(k - b / (2*a)):=by rw[Int.mul_sub];omega
 generalize k - b / (2*a)=α at*;have hβ':b1=hB+2*e*β:=by omega
 have hak:2*a*k≤2*a*(e - 1):=zp (by omega) (by omega);have hak0:0≤2*a*k:=Int.mul_nonneg (by omega) k3;have hae:(2*a*e).natAbs≤2*26*10000:=qA (qA (by omega) (by omega)) (by omega);have hae1:2*a*(e - 1)=2*a*e - 2*a:=by grind
 have b1lt:b1<2*a*e:=by omega
 have b1ge:0≤b1:=by omega
 obtain⟨w,hw⟩:=k6;have huv:v1*a+w*e=1:=by have:w*e=e*w:=Int.mul_comm ..;omega
 have dis:=uni_c (b1:=b1) f3 hh huv hα hβ';generalize hc1:v1*(hC+hB*β+e*β*β)+w*(c+b*α+a*α*α)=cc at*;obtain⟨cc1,cc2⟩:=z1W f1 hv1 b1ge b1lt hD1 hD2 dis;have hm1:a*e≤25*10000:=Int.mul_le_mul ra v2 (by omega) (by omega);have hm0:1*1≤a*e:=Int.mul_le_mul f1 hv1 (by omega) (by omega);have hbb:b1*b1≤520000*520000:=Int.mul_le_mul (by omega) (by omega) b1ge (by omega);have hbb0:0≤b1*b1:=Int.mul_nonneg b1ge b1ge;have hbα:α.natAbs≤1000000:=by
  rcases Int.lt_or_le 1000000 α with h|h
  ·have:2*a*1000001≤2*a*α:=zp (by omega) (by omega);have:=rf.b1;omega
  ·rcases Int.lt_or_le α (-1000000) with h'|h'
   ·have:2*a*α≤2*a*(-1000001):=zp (by omega) (by omega);have:=rf.b2;omega
   ·omega
 have hbβ:β.natAbs≤1000000:=by
  rcases Int.lt_or_le 1000000 β with h|h
  ·have:2*e*1000001≤2*e*β:=zp (by omega) (by omega);omega
  ·rcases Int.lt_or_le β (-1000000) with h'|h'
   ·have:2*e*β≤2*e*(-1000001):=zp (by omega) (by omega);omega
   ·omega
 have e4:4*a*e=2*(2*a*e):=by grind
 have e5:4*a*e*cc=b1*b1 - D:=by omega
 have eα:2*a*α=b1 - b:=by omega
 have eβ:2*e*β=b1 - hB:=by omega
 have rb1:=rf.b1;have rb2:=rf.b2;refine⟨x,y,q,s,e,hB,hC,b1,cc,α,β,⟨em,hv1,v2,⟨v1,w,huv⟩,hα,hβ',b1ge,b1lt,dis,qb,sb,x1,x2,y1,y2⟩,?_,p2,c2,⟨t1,t2,by omega⟩,hbα,hbβ,hga⟩
 ·unfold zDm;simp only[];rw[p1,za];simp only[];rw[c1,za];simp only[];rw[zA (n:=2*a) (by omega),zB8 (by omega) (by omega),hb0,za];rw[show b0=b0+2*a*0 by omega,l1,za,zA (n:=2*a*e) (by omega),zB8 (by omega) (by omega),Int.emod_eq_of_lt b1ge b1lt,za,zZD,f3,zA (n:=D) (by omega),za,zA (n:=4*a) (by omega),zA (n:=4*a*e) (by omega),zFg (show 4*a*e≠0 by omega),za,zA (n:=b1*b1) (by omega),zA (n:=b1*b1 - D) (by omega),tdv (b:=4*a*e) (by omega) e5,zFg (show 2*a≠0 by omega)];simp only[zI,za];rw[zA (n:=cc) (by omega),zA (n:=b1 - b) (by omega),tdv (b:=2*a) (by omega) eα,zA (n:=α) (by omega),zA (n:=2*e) (by omega),zFg (show 2*e≠0 by omega),za,zA (n:=b1 - hB) (by omega),tdv (b:=2*e) (by omega) eβ,zA (n:=β) (by omega)]
theorem z1V{D:Int}{a b c A B C:Int}(hD1:-2000≤D)(hD2:D<0)(hf:PrRc D (a,b,c))(hg:PrRc D (A,B,C)):
  ∃x y q s e hB hC b1 c1 α β,Uni a b c A B C D x y q s e hB hC b1 c1 α β∧zDm (a,b,c) (A,B,C)=(qC (x,q,y,s) (1,β,0,1)).bind (fun N=>some (a,e,b1,c1,(1,α,0,1),N))∧
   ∀f0 g0 mf mg,qI f0=some ((a,b,c),mf)→qI g0=some ((A,B,C),mg)→zCv f0 g0=(qJ mg (x,q,y,s)).bind fun N1=>(qJ mf (1,α,0,1)).bind fun M=>(qJ N1 (1,β,0,1)).bind fun N=>some ((a,b1,e*c1),(e,b1,a*c1),M,N):=by
 obtain⟨rf,ra⟩:=zGb hD1 hf;have f1:1≤a:=hf.1;have f3:b*b - 4*a*c=D:=hf.2.2.1;have g3:B*B - 4*A*C=D:=hg.2.2.1;simp only[]at rf ra;obtain⟨x,y,q,s,e,hB,hC,b1,c1,α,β,u,k1,p2,c2,⟨hB1,hB2,n1⟩,n2,n3,hga⟩:=z1U hD1 hD2 hf hg;have ku:=u;obtain⟨mh,e1,e2,⟨m,n,hmn⟩,bα,bβ,b0,b2,dis,qb,sb,xy⟩:=u;have hh:hB*hB - 4*e*hC=D:=by rw[zSd mh,g3]
 have t1:=qc b (b:=2*a) (by omega);have t2:=qd b (b:=2*a) (by omega);have t3:=Int.emod_add_mul_ediv b (2*a);have hpar:=z5f (b:=b) (h:=hB) (D:=D) (m:=a*c) (n:=e*hC) (by rw[←f3];grind) (by rw[←hh];grind);generalize hb0:b % (2*a)=r at*;have hpar0:r % 2=hB % 2:=by have:2*a*(b / (2*a))=2*(a*(b / (2*a))):=qa ..;omega
 obtain⟨k,z,v1,j2,j3,j4,j5,j6⟩:=z2Z (a:=a) (e:=e) f1 (by omega) e1 e2 hga t1 t2 hB1 hB2 hpar0;have hb1:r+2*a*k=b1:=by
  have e5:b1=r+2*a*(α+b / (2*a)):=by rw[Int.mul_add];omega
  have hlo:0≤α+b / (2*a):=by
   rcases Int.lt_or_le (α+b / (2*a)) 0 with h|h
   ·have:2*a*(α+b / (2*a))≤2*a*(-1):=zp (by omega) (by omega);omega
   ·exact h
  have hhi:α+b / (2*a)<e:=by
   rcases Int.lt_or_le (α+b / (2*a)) e with h|h
   ·exact h
   ·have:2*a*e≤2*a*(α+b / (2*a)):=zp h (by omega);omega
  have:=zU1 (a:=a) (e:=e) (b0:=r) (hB:=hB) j3 j4 hlo hhi ⟨β,by omega⟩ j5 j6;rw[e5,this]
 rw[hb1]at j2;obtain⟨cc1,cc2⟩:=z1W f1 e1 b0 b2 hD1 hD2 dis;have hae:a*e≤25*10000:=Int.mul_le_mul ra e2 (by omega) (by omega);have hae0:1*1≤a*e:=Int.mul_le_mul f1 e1 (by omega) (by omega);have hae2:2*a*e=2*(a*e):=qa ..;have hae4:4*a*e=4*(a*e):=qa ..;have hbb:b1*b1≤520000*520000:=Int.mul_le_mul (by omega) (by omega) b0 (by omega);have hbb0:0≤b1*b1:=Int.mul_nonneg b0 b0;have rb1:=rf.b1;have rb2:=rf.b2;refine⟨x,y,q,s,e,hB,hC,b1,c1,α,β,ku,k1,fun f0 g0 mf mg h1 h2=>?_⟩;exact z1T f1 ra (by omega) e1 e2 hD1 hD2 f3 p2 c2 hb0 j2 (by omega) (by omega) n1 (by omega) (by omega) (by omega) n2 n3 (by omega) (by omega) (by omega) h1 h2
end Go.Proofs.YtahdjphocippeaaGreatDoor
namespace Go.Proofs.YtahdjphocippeaaGreatDoor
abbrev F3:=Int×Int×Int
def CF(D:Int)(f:F3):Prop:=RedInv f.1 f.2.1 f.2.2 D 1∧f.2.2≤1000000
theorem z0s{f:F3}(h:zV f=some true):CF (f.2.1*f.2.1 - 4*f.1*f.2.2) f:=by have h1:=zY2 (a:=f.1) (b:=f.2.1) (c:=f.2.2) h;obtain⟨_,_,hc,_⟩:=zNE (a:=f.1) (b:=f.2.1) (c:=f.2.2) h;exact⟨h1,(zA7.1 hc).2⟩
theorem zGt{D:Int}{f:F3}(h:PrRc D f):0<f.1:=by have:=h.1;omega
theorem z0Z{D:Int}{f:F3}(h:PrRc D f):fD f=D:=h.2.2.1
theorem z3n{a b c d:Int}(h:RedInv a b c d 1)(k:Int)(h1:k∣a)(h2:k∣b)(h3:k∣c):k∣1:=(h.con k).1 ⟨h1,h2,h3⟩
theorem zY3{D:Int}{f:F3}(h:CF D f):∃g m1 m2 m3 m4,jE f=some (g,(m1,m2,m3,m4))∧qI f=some (g,(m1,m2,m3,m4))∧PrRc D g∧Eqf g f∧MatInv f.1 f.2.1 f.2.2 m1 m2 m3 m4 g.1 g.2.1 g.2.2∧m1.natAbs≤2000∧m2.natAbs≤2000∧m3.natAbs≤2000∧m4.natAbs≤2000∧CF D g:=by
 obtain⟨a,b,c⟩:=f;obtain⟨h1,h2⟩:=h;have hd:=h1.dis;simp only[]at h1 h2 hd;have h1':RedInv a b c (b*b - 4*a*c) 1:=by rw[hd];exact h1
 obtain⟨m1,m2,m3,m4,a2,b2,c2,k1,k2,k3,k4,k5,k6,k7,k8,k9⟩:=z56 h1' h2;rw[hd]at k3;have hp:PrRc D (a2,b2,c2):=⟨k3.a1,k4,k3.dis,z3n k3⟩
 have e:=k5;obtain⟨e1,e2,e3,e4⟩:=e;refine⟨(a2,b2,c2),m1,m2,m3,m4,k1,k2,hp,⟨m1,m2,m3,m4,e4,?_,?_,?_⟩,k5,k6,k7,k8,k9,k3,?_⟩
 ·exact e1.symm
 ·exact e2.symm
 ·exact e3.symm
 ·show c2≤1000000;have h3:=k3.nrm;obtain⟨⟨g1,g2⟩,g3⟩:=k4;have h4:=k3.cM;rcases h3 with h3|h3
  ·have q1:=k3.aM;have q2:=k3.a1
   -- a reduced form's last coefficient
   rcases Int.lt_or_le 1000000 c2 with h5|h5
   ·exfalso
    have n1:a2*a2≤a2*c2:=zp (by omega) (by omega);have hbb:b2*b2≤a2*a2:=by
     rcases Int.le_total 0 b2 with h4|h4
     ·exact Int.mul_le_mul g2 g2 h4 (by omega)
     ·have:(-b2)*(-b2)≤a2*a2:=Int.mul_le_mul (by omega) (by omega) (by omega) (by omega);have e:(-b2)*(-b2)=b2*b2:=by grind
      omega
    have hdd:=k3.dis;have e9:4*a2*c2=4*(a2*c2):=qa ..;have hneg:=k3.neg
    -- the value at the original form's last coefficient is at least c2 or the form is not moved
    have hv:c=a2*(-m2)*(-m2)+b2*(-m2)*m1+c2*m1*m1:=by rw[←e1,←e2,←e3];grind
    have hv2:a=a2*m4*m4+b2*m4*(-m3)+c2*(-m3)*(-m3):=by rw[←e1,←e2,←e3];grind
    have ha2:=h1.aM;by_cases hm:m1=0
    ·have hm3:m3≠0:=by
      intro h0;rw[hm,h0]at e4;simp at e4
     have:=uq_c (x:=m4) q2 (by omega) g2 (show a2≤c2 by omega) (show (-m3)≠0 by omega);omega
    ·have:=uq_c (x:=-m2) q2 (by omega) g2 (show a2≤c2 by omega) hm;omega
   ·exact h5
  ·exact h3
theorem zQG{D:Int}{f g:F3}(hf:0<f.1)(hD:fD f=D)(h:Eqf g f)(hg:0<g.1):Cl D (fL g) (fL f):=by have:=z4b hg hf h;rw[hD]at this;exact this
theorem z5c{D:Int}{f g:F3}(hD:D<0)(hf:PrRc D f)(hg:PrRc D g)(h:Cl D (fL f) (fL g)):f=g:=by
 have d1:=z0Z hf;have d2:=z0Z hg;have h':Cl (fD g) (fL f) (fL g):=by rw[d2];exact h
 obtain⟨p,q,r,s,hdet,e1,e2,e3⟩:=z42 (zGt hf) (zGt hg) (by rw[d2];exact hD) (by rw[d1,d2]) h';obtain⟨k1,k2,k3⟩:=z55 hg.1 hg.2.1 hf.1 hf.2.1 hdet e1 e2 e3;exact Prod.ext k1.symm (Prod.ext k2.symm k3.symm)
theorem bez3{a b c:Int}(h:∀k:Int,k∣a→k∣b→k∣c→k∣1):∃x y z:Int,x*a+y*b+z*c=1:=by
 obtain⟨x,y,h1⟩:=zZV a b;obtain⟨u,v,h2⟩:=zZV (Int.gcd a b) c;have h3:((Int.gcd (Int.gcd a b) c:Nat):Int)∣1:=by
  refine h _ ?_ ?_ ?_
  ·exact Int.dvd_trans (Int.gcd_dvd_left _ _) (Int.gcd_dvd_left _ _)
  ·exact Int.dvd_trans (Int.gcd_dvd_left _ _) (Int.gcd_dvd_right _ _)
  ·exact Int.gcd_dvd_right _ _
 have h4:((Int.gcd (Int.gcd a b) c:Nat):Int)=1:=Int.eq_one_of_dvd_one (by omega) h3;refine⟨u*x,u*y,v,?_⟩;rw[←h4,←h2,←h1];grind
theorem z0Y{f g:F3}(h:Eqf f g)(hg:∀k:Int,k∣g.1→k∣g.2.1→k∣g.2.2→k∣1)(k:Int)(h1:k∣f.1)(h2:k∣f.2.1)(h3:k∣f.2.2):k∣1:=by
 obtain⟨p,q,r,s,hdet,e1,e2,e3⟩:=h;obtain⟨x,hx⟩:=h1;obtain⟨y,hy⟩:=h2;obtain⟨z,hz⟩:=h3;have back:∀A B C:Int,(A*p*p+B*p*r+C*r*r)*s*s - (2*A*p*q+B*(p*s+q*r)+2*C*r*s)*s*r+(A*q*q+B*q*s+C*s*s)*r*r=A*((p*s - q*r)*(p*s - q*r)):=by intro A B C;grind
 have back2:∀A B C:Int,(A*p*p+B*p*r+C*r*r)*q*q - (2*A*p*q+B*(p*s+q*r)+2*C*r*s)*p*q+(A*q*q+B*q*s+C*s*s)*p*p=C*((p*s - q*r)*(p*s - q*r)):=by intro A B C;grind
 have back3:∀A B C:Int,(2*A*p*q+B*(p*s+q*r)+2*C*r*s)*(p*s+q*r) - 2*(A*p*p+B*p*r+C*r*r)*q*s - 2*(A*q*q+B*q*s+C*s*s)*p*r=B*((p*s - q*r)*(p*s - q*r)):=by intro A B C;grind
 have b1:=back g.1 g.2.1 g.2.2;have b2:=back2 g.1 g.2.1 g.2.2;have b3:=back3 g.1 g.2.1 g.2.2;rw[←e1,←e2,←e3,hdet,hx,hy,hz]at b1 b2 b3;refine hg k ⟨x*s*s - y*s*r+z*r*r,?_⟩ ⟨y*(p*s+q*r) - 2*x*q*s - 2*z*p*r,?_⟩ ⟨x*q*q - y*p*q+z*p*p,?_⟩
 ·have:k*x*s*s - k*y*s*r+k*z*r*r=k*(x*s*s - y*s*r+z*r*r):=by grind
  omega
 ·have:k*y*(p*s+q*r) - 2*(k*x)*q*s - 2*(k*z)*p*r=k*(y*(p*s+q*r) - 2*x*q*s - 2*z*p*r):=by grind
  omega
 ·have:k*x*q*q - k*y*p*q+k*z*p*p=k*(x*q*q - y*p*q+z*p*p):=by grind
  omega
theorem z5D{a e b c:Int}(h1:∃x y z:Int,x*a+y*b+z*(e*c)=1)(h2:∃x y z:Int,x*e+y*b+z*(a*c)=1)(k:Int)(k1:k∣a*e)(k2:k∣b)(k3:k∣c):k∣1:=by
 obtain⟨x,y,z,h1⟩:=h1;obtain⟨x',y',z',h2⟩:=h2;obtain⟨i,hi⟩:=k1;obtain⟨j,hj⟩:=k2;obtain⟨l,hl⟩:=k3;have h3:(x*a+y*b+z*(e*c))*(x'*e+y'*b+z'*(a*c))=1:=by rw[h1,h2];rfl
 refine⟨x*x'*i+j*(x*a*y'+y*(x'*e+y'*b+z'*(a*c))+z*(e*c)*y')+l*(x*a*(z'*a)+z*e*(x'*e)+z*e*(z'*(a*c))),?_⟩;rw[←h3];have e1:k*(x*x'*i+j*(x*a*y'+y*(x'*e+y'*b+z'*(a*c))+z*(e*c)*y')+l*(x*a*(z'*a)+z*e*(x'*e)+z*e*(z'*(a*c))))=x*x'*(k*i)+(k*j)*(x*a*y'+y*(x'*e+y'*b+z'*(a*c))+z*(e*c)*y')+(k*l)*(x*a*(z'*a)+z*e*(x'*e)+z*e*(z'*(a*c))):=by grind
 rw[e1,←hi,←hj,←hl];grind
end Go.Proofs.YtahdjphocippeaaGreatDoor
namespace Go.Proofs.YtahdjphocippeaaGreatDoor
theorem zXM{a x y:Int}(ha:1≤a)(h:4*a*x=4*a*y):x=y:=Int.eq_of_mul_eq_mul_left (by omega) h
theorem z9S{a b c e c1 b1 α D:Int}(ha:1≤a)(hd:b*b - 4*a*c=D)(bα:b1=b+2*a*α)(dis:b1*b1 - 4*a*e*c1=D):e*c1=a*α*α+b*α+c:=by
 refine zXM ha ?_
 have e1:4*a*(a*α*α+b*α+c)=b1*b1 - (b*b - 4*a*c):=by rw[bα];grind
 have e2:4*a*(e*c1)=4*a*e*c1:=by grind
 rw[e1,hd,e2];omega
theorem z5F{a b c e c1 b1 α D:Int}(ha:1≤a)(hd:b*b - 4*a*c=D)(bα:b1=b+2*a*α)(dis:b1*b1 - 4*a*e*c1=D):Eqf (a,b1,e*c1) (a,b,c):=by
 refine⟨1,α,0,1,by omega,?_,?_,?_⟩
 ·simp only[];omega
 ·simp only[];rw[bα];grind
 ·simp only[];rw[z9S ha hd bα dis];grind
theorem z5E{a e c1 b1 β D A B C x q y s hB hC:Int}(he:1≤e)(mh:MatInv A B C x q y s e hB hC)(hd:B*B - 4*A*C=D)(bβ:b1=hB+2*e*β)(dis:b1*b1 - 4*a*e*c1=D):Eqf (e,b1,a*c1) (A,B,C)∧MatInv A B C x (x*β+q) y (y*β+s) e b1 (a*c1):=by
 have hd2:hB*hB - 4*e*hC=D:=by rw[zSd mh,hd]
 have hf:=z9S (e:=a) (c1:=c1) he hd2 bβ (by rw[←dis];grind);have m:=mh.norm β;rw[←hf,show 2*e*β+hB=b1 by omega]at m;obtain⟨e1,e2,e3,e4⟩:=m;exact⟨⟨x,x*β+q,y,y*β+s,e4,e1.symm,e2.symm,e3.symm⟩,e1,e2,e3,e4⟩
structure Cmps (D:Int) (f g h f' g':F3) (p1 p2 p3 p4 q1 q2 q3 q4 x y q s e hB hC b1 c1 α β:Int):Prop where
  rf:jE f=some (f',(p1,p2,p3,p4))
  rg:jE g=some (g',(q1,q2,q3,q4))
  pf:PrRc D f'
  pg:PrRc D g'
  mf:MatInv f.1 f.2.1 f.2.2 p1 p2 p3 p4 f'.1 f'.2.1 f'.2.2
  mg:MatInv g.1 g.2.1 g.2.2 q1 q2 q3 q4 g'.1 g'.2.1 g'.2.2
  uni:Uni f'.1 f'.2.1 f'.2.2 g'.1 g'.2.1 g'.2.2 D x y q s e hB hC b1 c1 α β
  imp:zDm f' g'=some (f'.1,e,b1,c1,(1,α,0,1),(w64 (x+q*0),w64 (x*β+q),w64 (y+s*0),w64 (y*β+s)))
  spc:zCv f g=(qJ (q1,q2,q3,q4) (x,q,y,s)).bind fun N1=>(qJ (p1,p2,p3,p4) (1,α,0,1)).bind fun M=>(qJ N1 (1,β,0,1)).bind fun N=>some ((f'.1,b1,e*c1),(e,b1,f'.1*c1),M,N)
  cf:CF D (f'.1*e,b1,c1)
  ae:f'.1*e≤250000
  ec:e*c1≤3000000000∧0≤e*c1∧1≤c1
  pb:p1.natAbs≤2000∧p2.natAbs≤2000∧p3.natAbs≤2000∧p4.natAbs≤2000
  qb:q1.natAbs≤2000∧q2.natAbs≤2000∧q3.natAbs≤2000∧q4.natAbs≤2000
  cl:Cl D (eP D (fL f) (fL g)) (fL (f'.1*e,b1,c1))
theorem z8e{D:Int}(hD1:-2000≤D)(hD2:D<0){f g:F3}(hf:CF D f)(hg:CF D g):∃f' g' p1 p2 p3 p4 q1 q2 q3 q4 x y q s e hB hC b1 c1 α β,∀h,Cmps D f g h f' g' p1 p2 p3 p4 q1 q2 q3 q4 x y q s e hB hC b1 c1 α β:=by
 obtain⟨⟨a,b,c⟩,p1,p2,p3,p4,i1,i2,i3,i4,i5,i6,i7,i8,i9,i10⟩:=zY3 hf;obtain⟨⟨A,B,C⟩,q1,q2,q3,q4,j1,j2,j3,j4,j5,j6,j7,j8,j9,j10⟩:=zY3 hg;obtain⟨x,y,q,s,e,hB,hC,b1,c1,α,β,u,k1,k2⟩:=z1V hD1 hD2 i3 j3;have ku:=u;obtain⟨mh,e1,e2,⟨m,n,hmn⟩,bα,bβ,b0,b2,dis,qb,sb,xy⟩:=u;have ha:1≤a:=i3.1;have hd:b*b - 4*a*c=D:=i3.2.2.1;have hD:B*B - 4*A*C=D:=j3.2.2.1;obtain⟨rb1,ra⟩:=zGb hD1 i3;simp only[]at ra;have hpa:0<A:=zGt j3;have E1:=z5F (e:=e) ha hd bα dis;obtain⟨E2,_⟩:=z5E (a:=a) e1 mh hD bβ dis;obtain⟨z1,z2⟩:=z1W ha e1 b0 b2 hD1 hD2 dis;have hae:a*e≤25*10000:=Int.mul_le_mul ra e2 (by omega) (by omega);have hae0:1*1≤a*e:=Int.mul_le_mul ha e1 (by omega) (by omega);have hae2:2*a*e=2*(a*e):=qa ..;have hec:e*c1≤10000*300000:=Int.mul_le_mul e2 (by omega) (by omega) (by omega);have hec0:0≤e*c1:=Int.mul_nonneg (by omega) (by omega);have P1:=z0Y E1 i3.2.2.2;have P2:=z0Y E2 j3.2.2.2;have P:=z5D (bez3 P1) (bez3 P2);have hcf:CF D (a*e,b1,c1):=by
  refine⟨⟨by omega,by simp only[];omega,by simp only[];omega,by simp only[];omega,z1,by simp only[];omega,?_,hD2,.inr (by simp only[];omega),?_⟩,by simp only[];omega⟩
  ·simp only[];rw[←dis];grind
  ·intro k;constructor
   ·rintro⟨t1,t2,t3⟩;exact P k t1 t2 t3
   ·intro t;exact⟨Int.dvd_trans t (Int.one_dvd _),Int.dvd_trans t (Int.one_dvd _),Int.dvd_trans t (Int.one_dvd _)⟩
 have hfD:fD f=D:=hf.1.dis;have hgD:fD g=D:=hg.1.dis;have hfp:0<f.1:=by have:=hf.1.a1;omega
 have hgp:0<g.1:=by have:=hg.1.a1;omega
 have hcl:Cl D (eP D (fL f) (fL g)) (fL (a*e,b1,c1)):=by have w1:=zQG hfp hfD i4 (zGt i3);have w2:=zQG hgp hgD j4 (zGt j3);have w3:=zQG (f:=(a,b,c)) (g:=(a,b1,e*c1)) (D:=D) (zGt i3) hd E1 (by show 0<a;omega);have w4:=zQG (f:=(A,B,C)) (g:=(e,b1,a*c1)) (D:=D) (zGt j3) hD E2 (by show 0<e;omega);have w5:=z3o hD2 (zKP hD2 w3 w1) (zKP hD2 w4 w2);exact zKP hD2 (zZH w5) (z4a dis.symm hmn)
 refine⟨(a,b,c),(A,B,C),p1,p2,p3,p4,q1,q2,q3,q4,x,y,q,s,e,hB,hC,b1,c1,α,β,fun h=>⟨i1,j1,i3,j3,i5,j5,ku,?_,k2 f g _ _ i2 j2,hcf,hae,⟨hec,hec0,z1⟩,⟨i6,i7,i8,i9⟩,⟨j6,j7,j8,j9⟩,hcl⟩⟩;rw[k1,zXd];simp only[za,Int.mul_one,Int.mul_zero,Int.add_zero]
theorem zZG{D:Int}(hD1:-2000≤D)(hD2:D<0){f g:F3}(hf:CF D f)(hg:CF D g):∃h,jT f g=some h∧zA2 f g=some h∧PrRc D h∧CF D h∧Cl D (eP D (fL f) (fL g)) (fL h):=by
 obtain⟨f',g',p1,p2,p3,p4,q1,q2,q3,q4,x,y,q,s,e,hB,hC,b1,c1,α,β,k⟩:=z8e hD1 hD2 hf hg;obtain⟨rf,rg,pf,pg,mf,mg,uni,imp,spc,cf,ae,ec,pb,qb,cl⟩:=k f;obtain⟨h,m1,m2,m3,m4,i1,i2,i3,i4,i5,i6,i7,i8,i9,i10⟩:=zY3 cf;have ha:1≤f'.1:=pf.1;have e1:=uni.e1;have hae0:1*1≤f'.1*e:=Int.mul_le_mul ha e1 (by omega) (by omega);have hcl:Cl D (eP D (fL f) (fL g)) (fL h):=by
  refine zKP hD2 cl (zZH (zQG ?_ ?_ i4 (zGt i3)))
  ·show 0<f'.1*e;omega
  ·exact cf.1.dis
 refine⟨h,?_,?_,i3,i10,hcl⟩
 ·simp only[jT,qD,rf,rg,imp,zCU,za,zI];rw[zA (n:=f'.1*e) (by omega),i1];rfl
 ·unfold zA2;rw[spc,zZB,zXd];simp only[za,zXd];unfold zEy;simp only[];rw[zFg (show e≠0 by omega)];simp only[za,zI];rw[zA (n:=f'.1*e) (by omega),tdv (a:=e*c1) (b:=e) (c:=c1) (by omega) rfl,zA (n:=c1) (by
   have h1:1*c1≤e*c1:=Int.mul_le_mul_of_nonneg_right e1 (by omega);omega)]
  simp only[za,jR,i2]
def gS(D:Int)(hD:D<0):Setoid (List El):=⟨Cl D,z8g D,zZH,zKP hD⟩
def GG(D:Int)(hD:D<0):Type:=Quotient (gS D hD)
def gM{D:Int}{hD:D<0}(x y:GG D hD):GG D hD:=Quotient.lift₂ (s₁:=gS D hD) (s₂:=gS D hD) (fun l m=>(Quotient.mk (gS D hD) (eP D l m):GG D hD)) (fun _ _ _ _ h k=>Quotient.sound (s:=gS D hD) (z3o hD h k)) x y
def gC(D:Int)(hD:D<0)(f:F3):GG D hD:=Quotient.mk (gS D hD) (fL f)
theorem zLB{D:Int}{hD:D<0}(x y:GG D hD):gM x y=gM y x:=by
 induction x using Quotient.inductionOn with|_ x
 induction y using Quotient.inductionOn with|_ y
 exact Quotient.sound (s:=gS D hD) (z8h D x y)
theorem zEU{D:Int}{hD:D<0}(x y z:GG D hD):gM (gM x y) z=gM x (gM y z):=by
 induction x using Quotient.inductionOn with|_ x
 induction y using Quotient.inductionOn with|_ y
 induction z using Quotient.inductionOn with|_ z
 exact Quotient.sound (s:=gS D hD) (z6x D x y z)
theorem z95{D:Int}{hD:D<0}{f g:F3}:gC D hD f=gC D hD g↔Cl D (fL f) (fL g):=⟨fun h=>Quotient.exact h,fun h=>Quotient.sound h⟩
theorem z6Y{D:Int}{hD:D<0}{f g h:F3}(k:Cl D (eP D (fL f) (fL g)) (fL h)):gM (gC D hD f) (gC D hD g)=gC D hD h:=Quotient.sound (s:=gS D hD) k
def pF(D:Int):F3:=(1,D % 2,(D % 2 - D) / 4)
def g1(D:Int)(hD:D<0):GG D hD:=gC D hD (pF D)
theorem zUU{D a b c:Int}(h:b*b - 4*a*c=D):D % 4≤1∧D % 2=b % 2:=by
 have e:4*a*c=4*(a*c):=qa ..;obtain⟨t,ht|ht⟩:∃t,b=2*t∨b=2*t+1:=⟨b / 2,by omega⟩
 ·rw[ht,show 2*t*(2*t)=4*(t*t) by grind]at h;omega
 ·rw[ht,show (2*t+1)*(2*t+1)=4*(t*t+t)+1 by grind]at h;omega
theorem z6T{D:Int}{hD:D<0}{f:F3}(hf:fD f=D):gM (g1 D hD) (gC D hD f)=gC D hD f:=by obtain⟨a,b,c⟩:=f;have hp:=zUU (a:=a) (b:=b) (c:=c) hf;exact z6Y (qBF (m:=(b+D % 2) / 2) hf.symm (by omega))
theorem zPt{D:Int}(hD1:-2000≤D)(hD2:D<0)(h4:D % 4≤1):PrRc D (pF D):=by
 have e:(D % 2)*(D % 2)=D % 2:=by rcases (by omega:D % 2=0∨D % 2=1) with h|h<;>rw[h]<;>rfl
 refine⟨Int.le_refl 1,⟨⟨?_,?_⟩,?_⟩,?_,fun k h _ _=>h⟩
 ·show -1<D % 2;omega
 ·show D % 2≤1;omega
 ·show 1<(D % 2 - D) / 4∨(1=(D % 2 - D) / 4∧0≤D % 2)
  omega
 ·show D % 2*(D % 2) - 4*1*((D % 2 - D) / 4)=D;rw[e];omega
theorem zCp{D:Int}(hD1:-2000≤D)(hD2:D<0){f:F3}(h:PrRc D f):CF D f:=by obtain⟨r,ra⟩:=zGb hD1 h;obtain⟨h1,h2,h3,h4⟩:=h;obtain⟨r1,r2,r3,r4,r5,r6⟩:=r;refine⟨⟨h1,by omega,by omega,by omega,r5,by omega,h3,hD2,.inr (by omega),fun k=>⟨fun⟨a,b,c⟩=>h4 k a b c,fun t=>?_⟩⟩,by omega⟩;exact⟨Int.dvd_trans t (Int.one_dvd _),Int.dvd_trans t (Int.one_dvd _),Int.dvd_trans t (Int.one_dvd _)⟩
theorem z6y{D:Int}{f:F3}(h:CF D f):0<f.1:=by have:=h.1.a1;omega
theorem zZR{D:Int}{f:F3}(h:CF D f):fD f=D:=h.1.dis
theorem cf_4{D:Int}{f:F3}(h:CF D f):D % 4≤1:=(zUU (zZR h)).1
theorem zY6{D:Int}{hD:D<0}{f g:F3}(hf:PrRc D f)(hg:PrRc D g)(h:gC D hD f=gC D hD g):f=g:=z5c hD hf hg (z95.1 h)
theorem zQy{D:Int}(hD1:-2000≤D)(hD:D<0){f g:F3}(hf:CF D f)(hg:CF D g):∃h,jT f g=some h∧zA2 f g=some h∧PrRc D h∧CF D h∧gC D hD h=gM (gC D hD f) (gC D hD g):=by obtain⟨h,h1,h2,h3,h4,h5⟩:=zZG hD1 hD hf hg;exact⟨h,h1,h2,h3,h4,(z6Y h5).symm⟩
theorem redG{D:Int}(hD:D<0){f:F3}(hf:CF D f):∃g,qD f=some g∧jR f=some g∧PrRc D g∧CF D g∧gC D hD g=gC D hD f:=by obtain⟨g,m1,m2,m3,m4,k1,k2,k3,k4,k5,k6,k7,k8,k9,k10⟩:=zY3 hf;exact⟨g,by simp only[qD,k1,za],by simp only[jR,k2,za],k3,k10,z95.2 (zQG (z6y hf) (zZR hf) k4 (zGt k3))⟩
theorem zGR{D:Int}(hD1:-2000≤D)(hD:D<0){f:F3}(hf:PrRc D f):qD f=some f∧jR f=some f:=by obtain⟨g,h1,h2,h3,h4,h5⟩:=redG hD (zCp hD1 hD hf);have:=zY6 h3 hf h5;rw[this]at h1 h2;exact⟨h1,h2⟩
def opF(f:F3):F3:=(f.1,-f.2.1,f.2.2)
theorem z6z{D:Int}{f:F3}(h:CF D f):CF D (opF f):=by
 obtain⟨⟨a1,aM,b1,b2,c1,cM,dis,neg,nrm,con⟩,h2⟩:=h;refine⟨⟨a1,aM,by show -1900000≤-f.2.1;omega,by show -f.2.1≤1900000;omega,c1,cM,?_,neg,.inr h2,fun k=>?_⟩,h2⟩
 ·show -f.2.1*-f.2.1 - 4*f.1*f.2.2=D;rw[←dis];grind
 ·rw[←con k];constructor
  ·rintro⟨x,y,z⟩;exact⟨x,(Int.dvd_neg).1 y,z⟩
  ·rintro⟨x,y,z⟩;exact⟨x,(Int.dvd_neg).2 y,z⟩
theorem z3T{D:Int}{f:F3}(h:CF D f):zB5 f=some (opF f):=by have:=h.1.b1;have:=h.1.b2;simp only[zB5,zI];rw[zA (n:=0 - f.2.1) (by omega)];simp[opF]
theorem qAm{D:Int}{hD:D<0}{f:F3}(h:CF D f):gM (gC D hD f) (gC D hD (opF f))=g1 D hD:=by obtain⟨x,y,z,hx⟩:=bez3 (z3n h.1);have hp:=zUU (a:=f.1) (b:=f.2.1) (c:=f.2.2) h.1.dis;exact z6Y (qBG (a:=f.1) (b:=f.2.1) (c:=f.2.2) (m:=(f.2.1+D % 2) / 2) (z6y h) h.1.dis.symm (by omega) hx)
def gP{D:Int}{hD:D<0}(x:GG D hD):Nat→GG D hD
 |0=>g1 D hD
 |n+1=>gM (gP x n) x
def gF{D:Int}{hD:D<0}(x:GG D hD):Prop:=gM (g1 D hD) x=x
theorem z0a{D:Int}{hD:D<0}{f:F3}(h:CF D f):gF (gC D hD f):=z6T (zZR h)
theorem qAl{D:Int}{hD:D<0}{x y:GG D hD}(h:gF x):gF (gM x y):=by unfold gF at h ⊢;rw[←zEU,h]
theorem zUJ{D:Int}(hD:D<0)(h4:D % 4≤1)(hD1:-2000≤D):gF (g1 D hD):=z0a (zCp hD1 hD (zPt hD1 hD h4))
theorem gP_F{D:Int}{hD:D<0}{x:GG D hD}(h1:gF (g1 D hD)):∀n,gF (gP x n)
 |0=>h1
 |n+1=>qAl (gP_F h1 n)
theorem z6X{D:Int}{hD:D<0}{x:GG D hD}(h1:gF (g1 D hD))(m:Nat):∀n,gP x (m+n)=gM (gP x m) (gP x n)
 |0=>by rw[zLB];exact (gP_F h1 m).symm
 |n+1=>by show gM (gP x (m+n)) x=gM (gP x m) (gM (gP x n) x);rw[z6X h1 m n,zEU]
theorem z6V{D:Int}{hD:D<0}{x:GG D hD}(h1:gF (g1 D hD)):∀n,gP (gM x x) n=gP x (2*n)
 |0=>rfl
 |n+1=>by show gM (gP (gM x x) n) (gM x x)=gM (gM (gP x (2*n)) x) x;rw[z6V h1 n,zEU]
theorem z6W{D:Int}{hD:D<0}{x y:GG D hD}(h1:gF (g1 D hD))(h:gM x y=g1 D hD):∀n,gM (gP x n) (gP y n)=g1 D hD
 |0=>h1
 |n+1=>by
  show gM (gM (gP x n) x) (gM (gP y n) y)=_;have e:gM (gM (gP x n) x) (gM (gP y n) y)=gM (gM (gP x n) (gP y n)) (gM x y):=by rw[zEU,zEU];congr 1;rw[←zEU,zLB x,zEU]
  rw[e,z6W h1 h n,h];exact h1
theorem z8Z{D:Int}{hD:D<0}{x y z w:GG D hD}(hy:gF y)(hz:gF z)(h:gM x w=g1 D hD)(e:gM x y=gM x z):y=z:=by
 have e2:gM w (gM x y)=gM w (gM x z):=by rw[e]
 rw[←zEU,←zEU,zLB w x,h,hy,hz]at e2;exact e2
end Go.Proofs.YtahdjphocippeaaGreatDoor
namespace Go.Proofs.YtahdjphocippeaaGreatDoor
theorem zEV{D:Int}(hD1:-2000≤D){f:F3}(h:CF D f):zL f=some D:=by obtain⟨a,b,c⟩:=f;have:=h.1.dis;have hn:=h.1.neg;simp only[]at this;rw[zZD,this,zA (by omega)]
theorem zFj{D:Int}(hD1:-2000≤D)(hD:D<0){f:F3}(h:PrRc D f):zV f=some true∧zL f=some D:=by
 obtain⟨r,ra⟩:=zGb hD1 h;have hdv:=zEV hD1 (zCp hD1 hD h);obtain⟨a,b,c⟩:=f;obtain⟨h1,h2,h3,h4⟩:=h;obtain⟨r1,r2,r3,r4,r5,r6⟩:=r;dsimp only at h1 h2 h3 h4 r1 r2 r3 r4 r5 r6;have ha:inN a=true:=zA7.2 (by omega);have hb:inN b=true:=zA7.2 (by omega);have hc:inN c=true:=zA7.2 (by omega);have hg:Int.gcd a (Int.gcd b c)=1:=by have h5:((Int.gcd a (Int.gcd b c):Nat):Int)∣1:=h4 _ (Int.gcd_dvd_left _ _) (Int.dvd_trans (Int.gcd_dvd_right _ _) (Int.gcd_dvd_left _ _)) (Int.dvd_trans (Int.gcd_dvd_right _ _) (Int.gcd_dvd_right _ _));have h6:=Int.eq_one_of_dvd_one (by omega) h5;omega
 refine⟨?_,hdv⟩;simp only[zV,jA,zR,zEv,ha,hb,hc,Bool.and_true,za,hdv,zb,zFS ha hb hc,hg,zE,qP,zd (show D<0 by omega),zd (show 0<a by omega),zd hD1];rfl
def CFc(D:Int)(f:F3):Prop:=zV f=some true∧zL f=some D∧CF D f∧-2000≤D∧D<0
theorem qBH{f:F3}(h:zV f=some true):CFc (f.2.1*f.2.1 - 4*f.1*f.2.2) f:=by have h1:=z0s h;obtain⟨_,_,_,k1,k2,_⟩:=zNE (a:=f.1) (b:=f.2.1) (c:=f.2.2) h;exact⟨h,zEV k2 h1,h1,k2,k1⟩
theorem z8i{D:Int}(hD1:-2000≤D)(hD:D<0){f:F3}(h:PrRc D f):CFc D f:=⟨(zFj hD1 hD h).1,(zFj hD1 hD h).2,zCp hD1 hD h,hD1,hD⟩
theorem z8j{D:Int}{f:F3}(h:CFc D f):zB5 f=some (opF f)∧CF D (opF f):=⟨z3T h.2.2.1,z6z h.2.2.1⟩
theorem z0X{D:Int}(hD1:-2000≤D)(hD:D<0)(h4:D % 4≤1):zAf D=some (pF D):=by simp only[zAf];rw[zB8 (by omega) (by omega)];simp only[za,zI];rw[zA (n:=D % 2 - D) (by omega),tdv (a:=D % 2 - D) (b:=4) (c:=(D % 2 - D) / 4) (by decide) (by omega),zA (by omega)];rfl
theorem zYi{D:Int}(hD:D<0){f:F3}(hD1:-2000≤D)(h:CF D f):∃b,zCW f=some b∧(b=true↔gC D hD f=g1 D hD):=by
 obtain⟨g,j1,j2,j3,j4,j5⟩:=redG hD h;have h4:=cf_4 h;have hp:=zPt hD1 hD h4;obtain⟨k1,_⟩:=zGR hD1 hD hp;refine⟨((g.1==(pF D).1)&&((g.2.1==(pF D).2.1)&&(g.2.2==(pF D).2.2))),by simp only[zCW,j1,zEV hD1 h,z0X hD1 hD h4,k1,za],?_⟩;rw[zk,zk,beq_iff_eq,beq_iff_eq,beq_iff_eq,←j5];constructor
 ·rintro⟨e1,e2,e3⟩;have:g=pF D:=Prod.ext e1 (Prod.ext e2 e3);rw[this];rfl
 ·intro e;have:=zY6 j3 hp e;rw[this];exact⟨rfl,rfl,rfl⟩
theorem z2I{D:Int}{hD:D<0}{x:GG D hD}(h:gF x):gM x (g1 D hD)=x:=by rw[zLB];exact h
theorem zPq{D:Int}(hD1:-2000≤D)(hD:D<0):∀(n k:Nat)(p f:F3),k<n→k≤1000000→CF D p→PrRc D p→CF D f→∃h,zB3 n (k:Int) p.1 p.2.1 p.2.2 f.1 f.2.1 f.2.2=some h∧PrRc D h∧gC D hD h=gM (gC D hD p) (gP (gC D hD f) k)
 |0,k,p,f,hk,_,_,_,_=>by omega
 |n+1,k,p,f,hk,hM,hp,hpp,hf=>by
  rw[zB3,zE];have h1:=zUJ hD (cf_4 hf) hD1;by_cases h0:k=0
  ·subst h0;rw[ze (by omega),zc];exact⟨p,rfl,hpp,(z2I (z0a hp)).symm⟩
  ·rw[zd (show (0:Int)<(k:Int) by omega),zb];have et:Int.tmod (k:Int) 2=((k % 2:Nat):Int):=rfl;have ed:Int.tdiv (k:Int) 2=((k / 2:Nat):Int):=rfl;obtain⟨ff,f1,f2,f3,f4,f5⟩:=zQy hD1 hD hf hf;have hsplit:=z6V (x:=gC D hD f) h1 (k / 2);by_cases ho:k % 2=1
   ·obtain⟨j,j1,j2,j3,j4,j5⟩:=zQy hD1 hD hp hf;have e1:eqI (Int.tmod (k:Int) 2) 1=true:=by rw[et,ho];rfl
    have e2:jT (p.1,p.2.1,p.2.2) (f.1,f.2.1,f.2.2)=some j:=j1;have e3:jT (f.1,f.2.1,f.2.2) (f.1,f.2.1,f.2.2)=some ff:=f1;rw[e1,zb,e2];simp only[za,e3,zI,ed];rw[zA (n:=((k / 2:Nat):Int)) (by omega)];obtain⟨h,i1,i2,i3⟩:=zPq hD1 hD n (k / 2) j ff (by omega) (by omega) j4 j3 f4;refine⟨h,i1,i2,?_⟩;rw[i3,j5,f5,hsplit,zEU,zLB (gC D hD f) (gP _ _)];have:k=2*(k / 2)+1:=by omega
    exact congrArg (fun z=>gM (gC D hD p) (gP (gC D hD f) z)) this.symm
   ·have e1:eqI (Int.tmod (k:Int) 2) 1=false:=by rw[et,show k % 2=0 by omega];rfl
    have e3:jT (f.1,f.2.1,f.2.2) (f.1,f.2.1,f.2.2)=some ff:=f1;rw[e1,zc];simp only[za,e3,zI,ed];rw[zA (n:=((k / 2:Nat):Int)) (by omega)];obtain⟨h,i1,i2,i3⟩:=zPq hD1 hD n (k / 2) p ff (by omega) (by omega) hp hpp f4;refine⟨h,i1,i2,?_⟩;rw[i3,f5,hsplit];have:k=2*(k / 2):=by omega
    exact congrArg (fun z=>gM (gC D hD p) (gP (gC D hD f) z)) this.symm
def gZ{D:Int}{hD:D<0}(x y:GG D hD)(k:Int):GG D hD:=if k<0 then gP y (-k).toNat else gP x k.toNat
theorem zXD{α:Type} [DecidableEq α]:∀(l L:List α),l.Nodup→(∀x∈l,x∈L)→l.length≤L.length
 |[],L,_,_=>Nat.zero_le _
 |a::t,L,h,hs=>by have ha:a∈L:=hs a (by simp);obtain⟨h1,h2⟩:=List.nodup_cons.1 h;have:=zXD t (L.erase a) h2 fun x hx=>(List.mem_erase_of_ne (by intro e;rw[e]at hx;exact h1 hx)).2 (hs x (by simp[hx]));rw[List.length_erase_of_mem ha]at this;have hl:0<L.length:=List.length_pos_of_mem ha;simp only[zg];omega
theorem zTm{D:Int}(hD1:-2000≤D)(hD:D<0){f:F3}(hf:CF D f):∀k:Nat,∃h,PrRc D h∧gC D hD h=gP (gC D hD f) k
 |0=>⟨pF D,zPt hD1 hD (cf_4 hf),rfl⟩
 |k+1=>by obtain⟨h,h1,h2⟩:=zTm hD1 hD hf k;obtain⟨g,_,_,j3,_,j5⟩:=zQy hD1 hD (zCp hD1 hD h1) hf;exact⟨g,j3,by rw[j5,h2];rfl⟩
def boxL:List (Int×Int):=(List.range 26).flatMap fun (a:Nat)=>(List.range 60).map fun (b:Nat)=>(Int.ofNat a,Int.ofNat b - 30)
theorem z7C:boxL.length=1560:=by decide+kernel
theorem z7B{a b:Int}(h1:0≤a)(h2:a≤25)(h3:-26≤b)(h4:b≤26):(a,b)∈boxL:=by
 unfold boxL;refine List.mem_flatMap.2 ⟨a.toNat,List.mem_range.2 (by omega),List.mem_map.2 ⟨(b+30).toNat,List.mem_range.2 (by omega),?_⟩⟩;refine Prod.ext ?_ ?_
 ·show ((a.toNat:Nat):Int)=a;omega
 ·show (((b+30).toNat:Nat):Int) - 30=b;omega
theorem z5l{D:Int}(hD1:-2000≤D)(hD:D<0){f:F3}(hf:CF D f):∃M:Nat,1≤M∧M≤1600∧gP (gC D hD f) M=g1 D hD:=by
 have h1:=zUJ hD (cf_4 hf) hD1
 let h:Nat→F3:=fun k=>(zTm hD1 hD hf k).choose
 have hh:∀k,PrRc D (h k)∧gC D hD (h k)=gP (gC D hD f) k:=fun k=>(zTm hD1 hD hf k).choose_spec;have hcol:∃i j,i<j∧j≤1600∧h i=h j:=by
  refine Classical.byContradiction fun hno=>?_
  have hinj:∀i j,i<j→j≤1600→h i≠h j:=fun i j a b e=>hno ⟨i,j,a,b,e⟩;have nd:((List.range 1601).map fun k=>((h k).1,(h k).2.1)).Nodup:=by
   unfold List.Nodup;rw[List.pairwise_map];refine List.Pairwise.imp_of_mem ?_ (List.pairwise_lt_range (n:=1601))
   intro i j hi hj hij e;have hj':j<1601:=List.mem_range.1 hj;refine hinj i j hij (by omega) ?_
   have e1:(h i).1=(h j).1:=(Prod.mk.inj e).1;have e2:(h i).2.1=(h j).2.1:=(Prod.mk.inj e).2;obtain⟨q1,q2,q3,q4⟩:=(hh i).1;obtain⟨r1,r2,r3,r4⟩:=(hh j).1;rw[e1,e2]at q3;have e3:(h i).2.2=(h j).2.2:=zXM (a:=(h j).1) r1 (by omega);exact Prod.ext e1 (Prod.ext e2 e3)
  have:=zXD _ boxL nd fun x hx=>by obtain⟨k,_,e⟩:=List.mem_map.1 hx;rw[←e];obtain⟨r,ra⟩:=zGb hD1 (hh k).1;exact z7B (by have:=r.a1;omega) ra r.b1 r.b2
  rw[z7C,List.length_map,List.length_range]at this;omega
 obtain⟨i,j,hij,hj,e⟩:=hcol;refine⟨j - i,by omega,by omega,?_⟩;have e2:gP (gC D hD f) i=gP (gC D hD f) j:=by rw[←(hh i).2,←(hh j).2,e]
 have e3:gM (gP (gC D hD f) i) (gP (gC D hD f) (j - i))=gM (gP (gC D hD f) i) (g1 D hD):=by rw[←z6X h1,show i+(j - i)=j by omega,←e2,z2I (gP_F h1 i)]
 exact z8Z (gP_F h1 _) h1 (z6W h1 (qAm hf) i) e3
theorem zXA{D:Int}(hD1:-2000≤D)(hD:D<0){f:F3}(hf:CF D f){M:Nat}(hM:M≤1600)(hMe:gP (gC D hD f) M=g1 D hD):∀(n k:Nat)(p:F3),M - k<n→1≤k→k≤M→CF D p→gC D hD p=gP (gC D hD f) k→∃r:Nat,zCV f n (k:Int) p.1 p.2.1 p.2.2=some (r:Int)∧k≤r∧r≤M∧gP (gC D hD f) r=g1 D hD∧∀j,k≤j→j<r→gP (gC D hD f) j≠g1 D hD
 |0,k,p,hn,h1,h2,hp,e=>by omega
 |n+1,k,p,hn,h1,h2,hp,e=>by
  rw[zCV];obtain⟨b,b1,b2⟩:=zYi hD hD1 hp;have b1':zCW (p.1,p.2.1,p.2.2)=some b:=b1;rw[b1',za];cases b with
  |true=>rw[zh,zc];exact⟨k,rfl,Nat.le_refl _,h2,by rw[←e];exact b2.1 rfl,fun j h3 h4=>by omega⟩
  |false=>
   have hne:gP (gC D hD f) k≠g1 D hD:=by intro h3;rw[←e]at h3;exact absurd (b2.2 h3) (by decide)
   have hkM:k≠M:=fun h3=>hne (h3▸hMe);obtain⟨g,j1,j2,j3,j4,j5⟩:=zQy hD1 hD hp hf;have j1':jT (p.1,p.2.1,p.2.2) f=some g:=j1;simp only[zi,zb,zI,j1',za];rw[zA9 (by omega)];obtain⟨r,r1,r2,r3,r4,r5⟩:=zXA hD1 hD hf hM hMe n (k+1) g (by omega) (by omega) (by omega) j4 (by rw[j5,e];rfl);refine⟨r,r1,by omega,r3,r4,fun j h3 h4=>?_⟩;by_cases hj:j=k
   ·rw[hj];exact hne
   ·exact r5 j (by omega) h4
theorem z09{D:Int}{hD:D<0}{x:GG D hD}(h:gF x):gP x 1=x:=h
theorem zP8{D:Int}(hD1:-2000≤D)(hD:D<0)(h4:D % 4≤1):zE3 D=some (pF D):=by simp only[zE3];rw[zHn,zB8 (by omega) (by omega)];simp only[za,zI];rw[zA (n:=D % 2 - D) (by omega),tdv (a:=D % 2 - D) (b:=4) (c:=(D % 2 - D) / 4) (by decide) (by omega),zA (by omega)];rfl
theorem zTM{D:Int}(hD1:-2000≤D)(hD:D<0):∀(n k:Nat)(p f:F3),k<n→k≤1000000→CF D p→PrRc D p→CF D f→∃h,zBx n (k:Int) p.1 p.2.1 p.2.2 f.1 f.2.1 f.2.2=some h∧PrRc D h∧gC D hD h=gM (gC D hD p) (gP (gC D hD f) k)
 |0,k,p,f,hk,_,_,_,_=>by omega
 |n+1,k,p,f,hk,hM,hp,hpp,hf=>by
  rw[zBx,zE];have h1:=zUJ hD (cf_4 hf) hD1;by_cases h0:k=0
  ·subst h0;rw[ze (by omega),zc];exact⟨p,rfl,hpp,(z2I (z0a hp)).symm⟩
  ·rw[zd (show (0:Int)<(k:Int) by omega),zb];have et:Int.tmod (k:Int) 2=((k % 2:Nat):Int):=rfl;have ed:Int.tdiv (k:Int) 2=((k / 2:Nat):Int):=rfl;obtain⟨ff,f1,f2,f3,f4,f5⟩:=zQy hD1 hD hf hf;have hsplit:=z6V (x:=gC D hD f) h1 (k / 2);by_cases ho:k % 2=1
   ·obtain⟨j,j1,j2,j3,j4,j5⟩:=zQy hD1 hD hp hf;have e1:eqI (Int.tmod (k:Int) 2) 1=true:=by rw[et,ho];rfl
    have e2:zA2 (p.1,p.2.1,p.2.2) (f.1,f.2.1,f.2.2)=some j:=j2;have e3:zA2 (f.1,f.2.1,f.2.2) (f.1,f.2.1,f.2.2)=some ff:=f2;rw[e1,zb,e2];simp only[za,e3,zI,ed];rw[zA (n:=((k / 2:Nat):Int)) (by omega)];obtain⟨h,i1,i2,i3⟩:=zTM hD1 hD n (k / 2) j ff (by omega) (by omega) j4 j3 f4;refine⟨h,i1,i2,?_⟩;rw[i3,j5,f5,hsplit,zEU,zLB (gC D hD f) (gP _ _)];have:k=2*(k / 2)+1:=by omega
    exact congrArg (fun z=>gM (gC D hD p) (gP (gC D hD f) z)) this.symm
   ·have e1:eqI (Int.tmod (k:Int) 2) 1=false:=by rw[et,show k % 2=0 by omega];rfl
    have e3:zA2 (f.1,f.2.1,f.2.2) (f.1,f.2.1,f.2.2)=some ff:=f2;rw[e1,zc];simp only[za,e3,zI,ed];rw[zA (n:=((k / 2:Nat):Int)) (by omega)];obtain⟨h,i1,i2,i3⟩:=zTM hD1 hD n (k / 2) p ff (by omega) (by omega) hp hpp f4;refine⟨h,i1,i2,?_⟩;rw[i3,f5,hsplit];have:k=2*(k / 2):=by omega
    exact congrArg (fun z=>gM (gC D hD p) (gP (gC D hD f) z)) this.symm
theorem zTO{D:Int}(hD1:-2000≤D)(hD:D<0){f:F3}(hf:PrRc D f){M:Nat}(hM:M≤1600)(hMe:gP (gC D hD f) M=g1 D hD):∀(n k:Nat)(p:F3),M - k<n→1≤k→k≤M→PrRc D p→gC D hD p=gP (gC D hD f) k→∃r:Nat,zCS f n (k:Int) p.1 p.2.1 p.2.2=some (r:Int)∧k≤r∧r≤M∧gP (gC D hD f) r=g1 D hD∧∀j,k≤j→j<r→gP (gC D hD f) j≠g1 D hD
 |0,k,p,hn,h1,h2,hp,e=>by omega
 |n+1,k,p,hn,h1,h2,hp,e=>by
  have hcf:=zCp hD1 hD hf;have hcp:=zCp hD1 hD hp;have h4:=cf_4 hcf;have hpp:=zPt hD1 hD h4;rw[zCS,zGu,zEV hD1 hcf,za,zP8 hD1 hD h4,za];by_cases he:p=pF D
  ·have hb:((p.1==(pF D).1)&&((p.2.1==(pF D).2.1)&&(p.2.2==(pF D).2.2)))=true:=by rw[he];simp
   rw[hb,zh,zc];exact⟨k,rfl,Nat.le_refl _,h2,by rw[←e,he];rfl,fun j h3 h4=>by omega⟩
  ·have hb:((p.1==(pF D).1)&&((p.2.1==(pF D).2.1)&&(p.2.2==(pF D).2.2)))=false:=by
    rw[Bool.eq_false_iff];intro hh;rw[zk,zk,beq_iff_eq,beq_iff_eq,beq_iff_eq]at hh;exact he (Prod.ext hh.1 (Prod.ext hh.2.1 hh.2.2))
   have hne:gP (gC D hD f) k≠g1 D hD:=fun h3=>he (zY6 hp hpp (by rw[e,h3];rfl));have hkM:k≠M:=fun h3=>hne (h3▸hMe);obtain⟨g,_,j1,j3,j4,j5⟩:=zQy hD1 hD hcp hcf;have j1':zA2 (p.1,p.2.1,p.2.2) f=some g:=j1;rw[hb];simp only[zi,zb,zI,j1',za];rw[zA9 (by omega)];obtain⟨r,r1,r2,r3,r4,r5⟩:=zTO hD1 hD hf hM hMe n (k+1) g (by omega) (by omega) (by omega) j3 (by rw[j5,e];rfl);refine⟨r,r1,by omega,r3,r4,fun j h3 h4=>?_⟩;by_cases hj:j=k
   ·rw[hj];exact hne
   ·exact r5 j (by omega) h4
theorem zTu{r:Nat}(h:r≤1000000):zA0 FU (r:Int)=some (bl (Go.Lib.itoa (r:Int)))∧qS (r:Int)=some (bl (Go.Lib.itoa (r:Int)))∧(Go.Lib.itoa (r:Int)).length≤19:=by
 have hs:sm18 (r:Int):=⟨by omega,by omega⟩
 have h1:=zFh hs;unfold jD at h1;rw[zE,ze (by omega),zc]at h1;refine⟨?_,zGH hs,zA5 hs⟩;cases hh:zA0 FU (r:Int) with
 |none=>rw[hh]at h1;cases h1
 |some y=>rw[hh]at h1;exact h1
theorem z6I{D:Int}(hD:D<0){f:F3}(h:CFc D f){k:Int}(hk:-1000000≤k∧k≤1000000):∃g,zCA f k=some g∧PrRc D g∧gC D hD g=gZ (gC D hD f) (gC D hD (opF f)) k:=by
 have hF:=FUge;have hD1:=h.2.2.2.1;have hcf:=h.2.2.1;have h4:=cf_4 hcf;have hp:=zPt hD1 hD h4;obtain⟨kp,_⟩:=zGR hD1 hD hp;have run:∀(m:Nat)(u:F3),m≤1000000→CF D u→∃g,((zL u).bind fun y7=>(zAf y7).bind fun y8=>(qD y8).bind fun y9=>(qD u).bind fun y10=>(zB3 FU (m:Int) y9.1 y9.2.1 y9.2.2 y10.1 y10.2.1 y10.2.2).bind fun o19=>some o19)=some g∧PrRc D g∧gC D hD g=gP (gC D hD u) m:=by intro m u hm hu;obtain⟨ru,j1,j2,j3,j4,j5⟩:=redG hD hu;obtain⟨g,i1,i2,i3⟩:=zPq hD1 hD FU m (pF D) ru (Nat.lt_of_le_of_lt hm (by decide)) hm (zCp hD1 hD hp) hp j4;refine⟨g,by simp only[zEV hD1 hu,z0X hD1 hD h4,kp,j1,za,i1],i2,?_⟩;rw[i3,j5];exact gP_F (zUJ hD h4 hD1) m
 have fin:∃g,zCA f k=some g∧PrRc D g∧gC D hD g=gZ (gC D hD f) (gC D hD (opF f)) k:=by
  unfold zCA gZ;rw[zE];by_cases hneg:k<0
  ·obtain⟨o1,o2⟩:=z8j h;obtain⟨g,i1,i2,i3⟩:=run (-k).toNat (opF f) (by omega) o2;rw[zd hneg,zb,o1,if_pos hneg];refine⟨g,?_,i2,i3⟩;have e:(((-k).toNat:Nat):Int)=w64 (0 - k):=by rw[zA (by omega)];omega
   rw[e]at i1;simp only[za,zI];exact i1
  ·obtain⟨g,i1,i2,i3⟩:=run k.toNat f (by omega) hcf;rw[ze hneg,zc,if_neg hneg];refine⟨g,?_,i2,i3⟩;have e:((k.toNat:Nat):Int)=k:=by omega
   rw[e]at i1;simp only[za];exact i1
 exact fin
theorem z4H{D:Int}(hD:D<0){f:F3}(h:PrRc D f)(hD1:-2000≤D){k:Int}(hk:-1000000≤k∧k≤1000000):∃g,zDd f k=some g∧PrRc D g∧gC D hD g=gZ (gC D hD f) (gC D hD (opF f)) k:=by
 have hF:=FUge;have hcf:=zCp hD1 hD h;have h4:=cf_4 hcf;have hp:=zPt hD1 hD h4;obtain⟨_,ks⟩:=zGR hD1 hD h;have run:∀(m:Nat)(u:F3),m≤1000000→CF D u→∃g,zBx FU (m:Int) (pF D).1 (pF D).2.1 (pF D).2.2 u.1 u.2.1 u.2.2=some g∧PrRc D g∧gC D hD g=gP (gC D hD u) m:=by intro m u hm hu;obtain⟨g,i1,i2,i3⟩:=zTM hD1 hD FU m (pF D) u (Nat.lt_of_le_of_lt hm (by decide)) hm (zCp hD1 hD hp) hp hu;refine⟨g,i1,i2,?_⟩;rw[i3];exact gP_F (zUJ hD h4 hD1) m
 unfold zDd gZ;rw[ks,za,zE];by_cases hneg:k<0
 ·have o2:=z6z hcf;obtain⟨ro,j1,j2,j3,j4,j5⟩:=redG hD o2;have o1:zDe f=some ro:=by
   have:zEF f=some (opF f):=z3T hcf;simp only[zDe,this,za,j2]
  obtain⟨g,i1,i2,i3⟩:=run (-k).toNat ro (by omega) j4;have e:(((-k).toNat:Nat):Int)=w64 (0 - k):=by rw[zA (by omega)];omega
  rw[e]at i1;have ed:qX (ro.1,ro.2.1,ro.2.2)=some D:=by rw[zGu];exact zEV hD1 j4
  rw[zd hneg,zb,o1,if_pos hneg];simp only[za,zI,ed,zP8 hD1 hD h4];exact⟨g,by rw[i1];rfl,i2,by rw[i3,j5]⟩
 ·obtain⟨g,i1,i2,i3⟩:=run k.toNat f (by omega) hcf;have e:((k.toNat:Nat):Int)=k:=by omega
  rw[e]at i1;have ed:qX (f.1,f.2.1,f.2.2)=some D:=by rw[zGu];exact zEV hD1 hcf
  rw[ze hneg,zc,if_neg hneg];simp only[za,zI,ed,zP8 hD1 hD h4];exact⟨g,by rw[i1];rfl,i2,i3⟩
theorem qAy{D:Int}(hD1:-2000≤D)(hD:D<0){f:F3}(h:PrRc D f){k:Int}(hk:-1000000≤k∧k≤1000000):∃g,zCA f k=some g∧zDd f k=some g∧PrRc D g:=by obtain⟨g,h1,h2,h3⟩:=z6I hD (z8i hD1 hD h) hk;obtain⟨g2,k1,k2,k3⟩:=z4H hD h hD1 hk;have e:=zY6 h2 k2 (h3.trans k3.symm);subst e;exact⟨g,h1,k1,h2⟩
theorem qBA{D:Int}(hD1:-2000≤D)(hD:D<0){f g:F3}(hf:PrRc D f)(hg:PrRc D g):∃h,jT f g=some h∧zA2 f g=some h∧PrRc D h:=by obtain⟨h,h1,h2,h3,_⟩:=zQy hD1 hD (zCp hD1 hD hf) (zCp hD1 hD hg);exact⟨h,h1,h2,h3⟩
theorem qAz{D:Int}(hD1:-2000≤D)(hD:D<0){f:F3}(h:PrRc D f):∃r:Nat,zEQ f=some (r:Int)∧zEP f=some (r:Int)∧r≤1600:=by
 have hF:=FUge;have hcf:=zCp hD1 hD h;obtain⟨ks,ks2⟩:=zGR hD1 hD h;obtain⟨M,m1,m2,m3⟩:=z5l hD1 hD hcf;obtain⟨r,r1,r2,r3,r4,r5⟩:=zXA hD1 hD hcf m2 m3 FU 1 f (by omega) (by omega) m1 hcf (by rw[z09 (z0a hcf)]);obtain⟨q,q1,q2,q3,q4,q5⟩:=zTO hD1 hD h (show r≤1600 by omega) r4 FU 1 f (by omega) (by omega) r2 h (z09 (z0a hcf)).symm;have hqr:q=r:=by
  rcases Nat.lt_trichotomy q r with h|h|h
  ·exact absurd q4 (r5 q q2 h)
  ·exact h
  ·exact absurd r4 (q5 r r2 h)
 subst hqr;have r1':zCV f FU 1 f.1 f.2.1 f.2.2=some (q:Int):=r1;have q1':zCS f FU 1 f.1 f.2.1 f.2.2=some (q:Int):=q1;exact⟨q,by simp only[zEQ,ks,za,r1'],by simp only[zEP,ks2,za,q1'],by omega⟩
theorem z8d(d:Int):∃b,qT d=some b∧zCh d=some b∧(b=true→-2000≤d∧d≤-3∧d % 4≤1):=by rw[zTw,zQp];exact⟨_,rfl,rfl,fun h=>by simpa using h⟩
theorem qAx(f:F3):∃b,zV f=some b∧zEC f=some b∧(b=true→∃D,zL f=some D∧qX f=some D∧-2000≤D∧D<0∧∃g,qD f=some g∧jR f=some g∧PrRc D g):=by obtain⟨b,hb⟩:=z23 f;refine⟨b,hb,by rw[z49,hb],fun ht=>?_⟩;subst ht;have h:=qBH hb;obtain⟨g,g1,g2,g3,_⟩:=redG h.2.2.2.2 h.2.2.1;exact⟨_,h.2.1,by rw[zGu];exact h.2.1,h.2.2.2.1,h.2.2.2.2,g,g1,g2,g3⟩
theorem z6o{d p:Int}(hd1:-2000≤d)(hd2:d≤-3)(hp1:2≤p)(hp2:p≤10000):∀(n:Nat)(b:Int),0≤b→b≤p+1→p+1 - b<n→∃q,zCd d p n b=some q∧zDb d p n b=some q∧
  ∀f,q=.inr (f,true)→∃b0 c0,f=(p,b0,c0)∧0≤b0∧b0≤p∧b0*b0 - d=4*p*c0∧1≤c0∧c0≤10000∧Int.gcd p (Int.gcd b0 c0)=1
 |0,b,h1,h2,h3=>by omega
 |n+1,b,h1,h2,h3=>by
  unfold zCd zDb;rw[qP];by_cases hb:b≤p
  ·have hbb:0≤b*b:=Int.mul_nonneg h1 h1;have hbb2:b*b≤10000*10000:=Int.mul_le_mul (by omega) (by omega) h1 (by omega);have e1:w64 (4*p)=4*p:=zA (by omega);have e2:w64 ((w64 (b*b)) - d)=b*b - d:=by rw[zA (n:=b*b) (by omega),zA (by omega)]
   have hz:nz (4*p)=some ():=zFg (by omega);rw[zd hb,zb,zb,e1,e2,hz];simp only[za,zI];by_cases hm:Int.tmod (b*b - d) (4*p)=0
   ·have hc:b*b - d=4*p*Int.tdiv (b*b - d) (4*p):=by
     have:=Int.mul_tdiv_add_tmod (b*b - d) (4*p);rw[hm]at this;omega
    generalize Int.tdiv (b*b - d) (4*p)=c at hc;have hc1:1≤c:=by
     rcases Int.lt_or_le 0 c with h|h
     ·omega
     ·have:4*p*c≤0:=Int.mul_nonpos_of_nonneg_of_nonpos (by omega) h;omega
    have hc2:c≤10000:=by
     rcases Int.lt_or_le c 10001 with h|h
     ·omega
     ·have h4:4*p*10001≤4*p*c:=zp h (by omega);have h5:b*b≤p*b:=Int.mul_le_mul_of_nonneg_right hb h1;have h6:p*b≤p*10000:=zp (by omega) (by omega);omega
    have ha:inN p=true:=zA7.2 (by omega);have hb':inN b=true:=zA7.2 (by omega);have hc':inN c=true:=zA7.2 (by omega);have em:eqI (Int.tmod (b*b - d) (4*p)) 0=true:=by rw[hm];rfl
    rw[em,zb,zb,zA (n:=c) (by omega),zFS ha hb' hc',zOD ha hb' hc'];simp only[za];refine⟨_,rfl,rfl,fun f hf=>?_⟩;injection hf with hf;injection hf with hf hg;refine⟨b,c,hf.symm,h1,hb,hc,hc1,hc2,?_⟩;rw[jN]at hg;have:=of_decide_eq_true hg;omega
   ·have em:eqI (Int.tmod (b*b - d) (4*p)) 0=false:=by rw[jN];exact ze hm
    rw[em,zc,zc,zA (n:=b+1) (by omega)];exact z6o hd1 hd2 hp1 hp2 n (b+1) (by omega) (by omega) (by omega)
  ·rw[ze hb,zc,zc];exact⟨_,rfl,rfl,fun f hf=>by cases hf⟩
theorem z6p{d:Int}(hd1:-2000≤d)(hd2:d≤-3)(hd4:d % 4≤1)(p:Int):∃f b,zDT d p=some (f,b)∧zDS d p=some (f,b)∧(b=true→PrRc d f):=by
 have hF:=FUge;have hnd:qT d=some true:=by rw[zQp,zd ⟨hd1,hd2,hd4⟩]
 have hnd2:zCh d=some true:=by rw[zTw];exact hnd
 unfold zDT zDS zE6;rw[hnd,hnd2];simp only[za,zh,zc,zD8,zF6,zBZ,z5b,qP];by_cases h2:2≤p
 ·by_cases h3:p≤10000
  ·obtain⟨b,hb⟩:=z1s p (by omega);rw[zd h2,zd h3];simp only[zb,hb,za];cases b with
   |false=>exact⟨_,_,rfl,rfl,fun h=>by cases h⟩
   |true=>
    obtain⟨q,q1,q2,q3⟩:=z6o hd1 hd2 h2 h3 FU 0 (by omega) (by omega) (by omega);simp only[zh,zc,zE4,zGG,q1,q2,za];cases q with
    |inl u=>exact⟨_,_,rfl,rfl,fun h=>by cases h⟩
    |inr y=>
     obtain⟨f,c⟩:=y;cases c with
     |false=>exact⟨_,_,rfl,rfl,fun h=>by cases h⟩
     |true=>
      obtain⟨b0,c0,rfl,k1,k2,k3,k4,k5,k6⟩:=q3 f rfl;have hcf:CF d (p,b0,c0):=by
       refine⟨⟨by show 1≤p;omega,by show p≤1000000;omega,by show -1900000≤b0;omega,by show b0≤1900000;omega,k4,by show c0≤1250000;omega,by show b0*b0 - 4*p*c0=d;omega,by omega,.inr (by show c0≤1000000;omega),fun k=>⟨fun⟨a1,a2,a3⟩=>?_,fun hk=>?_⟩⟩,by show c0≤1000000;omega⟩
       ·have:=Int.dvd_coe_gcd (a:=p) (b:=((Int.gcd b0 c0:Nat):Int)) a1 (Int.dvd_coe_gcd a2 a3);rw[k6]at this;exact this
       ·exact⟨Int.dvd_trans hk (Int.one_dvd _),Int.dvd_trans hk (Int.one_dvd _),Int.dvd_trans hk (Int.one_dvd _)⟩
      obtain⟨g,g1,g2,g3,_⟩:=redG (by omega) hcf;simp only[za,zh,zc,g1,g2];exact⟨g,true,rfl,rfl,fun _=>g3⟩
  ·rw[zd h2,ze h3];exact⟨_,_,rfl,rfl,fun h=>by cases h⟩
 ·have hf:zBh p=some false:=by
   unfold zBh;rw[zE,zd (by omega)];rfl
  rw[ze h2,zd (by omega)];simp only[zb,zc,hf,za];exact⟨_,_,rfl,rfl,fun h=>by cases h⟩
theorem zKv{d a:Int}(ha1:1≤a)(ha:a≤1000)(hd1:-2000≤d)(hd2:d≤-3):∀(m fu:Nat)(b:Int)(acc:List (Int×Int×Int)),b+m=a+1→-1000≤b→m<fu→acc.length+m≤100000000→
  jZ a d fu b acc=some (acc++rowR d a m b)
 |m,0,b,acc,_,_,h,_=>by omega
 |0,fu+1,b,acc,hb,hb0,hf,hl=>by rw[jZ,qP,ze (by omega),zc];simp[rowR,upz]
 |m+1,fu+1,b,acc,hb,hb0,hf,hl=>by
  rw[jZ,qP,zd (by omega),zb];have b1:=qA (x:=b) (y:=b) (A:=1000) (B:=1000) (by omega) (by omega);have e4:w64 (4*a)=4*a:=zA (by omega);have e5:w64 (w64 (b*b) - d)=b*b - d:=by rw[qB (n:=b*b) (by omega),qB (by omega)]
  have q1:=z2u (x:=b*b - d) (m:=4*a) (by omega);have q2:=Int.tmod_add_mul_tdiv (b*b - d) (4*a);generalize hc:Int.tdiv (b*b - d) (4*a)=c at q1 q2;generalize hr:Int.tmod (b*b - d) (4*a)=r at q2;have ew:w64 (b+1)=b+1:=zA (by omega);have hcf:cfR d a b=(a,b,c):=by unfold cfR;rw[hc]
  have hrow:rowR d a (m+1) b=(if okR d (a,b,c) then [(a,b,c)] else [])++rowR d a m (b+1):=by unfold rowR;rw[upz,List.map_cons,List.filter_cons,hcf];cases okR d (a,b,c)<;>simp
  have hdis:eqI (b*b - 4*a*c) d=eqI r 0:=by rw[jN,jN,Bool.eq_iff_iff,beq_iff_eq,beq_iff_eq];omega
  rw[e4,nzOk (by omega),e5,hr,hc,qB (n:=c) (by omega),hrow];simp only[za,zI,zIF ha1 (show a≤1000000 by omega),ew];unfold okR;dsimp only;rw[hdis];cases h1:eqI r 0 with
  |true=>
   simp only[zh,zc,Bool.true_and];cases h2:decide (zCP a b c) with
   |true=>rw[zb,zAa (by simp;omega)];simp only[za];rw[zKv ha1 ha hd1 hd2 m fu (b+1) _ (by omega) (by omega) (by omega) (by simp;omega)];simp
   |false=>rw[zc];rw[zKv ha1 ha hd1 hd2 m fu (b+1) _ (by omega) (by omega) (by omega) (by omega)];simp
  |false=>simp only[zi,zb,Bool.false_and];rw[zKv ha1 ha hd1 hd2 m fu (b+1) _ (by omega) (by omega) (by omega) (by omega)];simp
theorem z32{d:Int}(hd1:-2000≤d)(hd2:d≤-3):∀(m fu:Nat)(a:Int)(acc:List (Int×Int×Int)),1≤a→a+m=27→(acc.length:Int)≤1000*a→zB4 d fu a acc=zC3 d fu a acc
 |m,0,a,acc,_,_,_=>rfl
 |m,fu+1,a,acc,ha,hm,hl=>by
  have b1:=qA (x:=3*a) (y:=a) (A:=81) (B:=27) (by omega) (by omega);have e1:w64 (w64 (3*a)*a)=3*a*a:=by rw[zA (n:=3*a) (by omega),qB (by omega)]
  have e2:w64 (0 - d)=-d:=by rw[zA (by omega)];omega
  rw[zC3,zB4,e1,e2,qP];by_cases h:3*a*a≤-d
  ·have ha2:a≤26:=by
    rcases Int.lt_or_le 26 a with h2|h2
    ·have h3:=zIc (a:=27) (b:=a) (by omega) (by omega);have e:3*a*a=3*(a*a):=by grind
     omega
    ·exact h2
   obtain⟨m',rfl⟩:∃m',m=m'+1:=⟨m - 1,by omega⟩
   have hF:=FUge;rw[zd h,zb,zb,zA (n:=1 - a) (by omega),zA (n:=a+1) (by omega)];simp only[zI];rw[zJw ha (by omega) hd1 hd2 (2*a).toNat FU (1 - a) acc (by omega) (by omega) (by omega) (by omega),zKv ha (by omega) hd1 hd2 (2*a).toNat FU (1 - a) acc (by omega) (by omega) (by omega) (by omega)];simp only[za];have hrl:(rowR d a (2*a).toNat (1 - a)).length≤(2*a).toNat:=by
    unfold rowR;refine Nat.le_trans (List.length_filter_le _ _) ?_
    rw[List.length_map,zXb];exact Nat.le_refl _
   exact z32 hd1 hd2 m' fu (a+1) _ (by omega) (by omega) (by rw[zf];omega)
  ·rw[ze h,zc,zc]
theorem zUG{l:List (Int×Int×Int)}(hb:∀f∈l,inN f.1=true∧inN f.2.1=true∧inN f.2.2=true):∀(fu k:Nat)(acc:List (Int×Int×Int)),k≤1000000→l.length≤1000000→zBG l fu (k:Int) acc=zAn l fu (k:Int) acc
 |0,k,acc,_,_=>rfl
 |fu+1,k,acc,hk,hl=>by
  rw[zBG,zAn];by_cases h:k<l.length
  ·obtain⟨c1,c2,c3⟩:=hb (l[k]) (zx h);have e1:zAX l[k]=some (Int.gcd l[k].1 (Int.gcd l[k].2.1 l[k].2.2):Int):=zFS c1 c2 c3;have e2:zAD l[k]=some (Int.gcd l[k].1 (Int.gcd l[k].2.1 l[k].2.2):Int):=zNf c1 c2 c3;rw[zA6 h];simp only[za,e1,e2,zI,zA9 (show k<1000000000 by omega)];rw[zUG hb fu (k+1) _ (by omega) hl,zUG hb fu (k+1) _ (by omega) hl]
  ·rw[zE,ze (by omega),zc,zc]
theorem z4T{d:Int}(hd1:-2000≤d)(hd2:d≤-3):zCc d=zCG d:=by
 have hF:=FUge;obtain⟨L,k1,k2,k3,asq,k4,k5,k6⟩:=zUu hd1 hd2 26 FU 1 [] (by omega) (by omega) (by omega) (by simp);rw[zt]at k1;have h1:zB4 d FU 1 []=some L:=by rw[z32 hd1 hd2 26 FU 1 [] (by omega) (by omega) (by simp),k1]
 have hmem:∀f∈L,1≤f.1∧zCP f.1 f.2.1 f.2.2∧f.2.1*f.2.1 - 4*f.1*f.2.2=d:=fun f hf=>(zYZ hd1 hd2).1 ((k3 f).1 hf);have hbd:∀f∈L,inN f.1=true∧inN f.2.1=true∧inN f.2.2=true:=by
  intro f hf;obtain⟨h1,h2,h3⟩:=hmem f hf;have h4:=zY1 h1 h2 h3;obtain⟨⟨h5,h6⟩,h7⟩:=h2;have ha:f.1≤26:=by
   rcases Int.lt_or_le 26 f.1 with h8|h8
   ·have:=zIc (a:=27) (b:=f.1) (by omega) (by omega);have e:3*f.1*f.1=3*(f.1*f.1):=by grind
    omega
   ·exact h8
  have hb:=qA (x:=f.2.1) (y:=f.2.1) (A:=26) (B:=26) (by omega) (by omega);have hc:f.2.2≤1000:=by
   have h9:4*1*f.2.2≤4*f.1*f.2.2:=by have:4*1*f.2.2≤(4*f.1)*f.2.2:=Int.mul_le_mul_of_nonneg_right (by omega) (by omega);exact this
   omega
  rw[zA7,zA7,zA7];omega
 have e0:(((0:Nat):Int))=0:=rfl;have h2:=zUG hbd FU 0 [] (by omega) (by omega);rw[e0]at h2;simp only[zCc,zEG,zDn,zCG,zF5,h1,k1,za,h2];cases zAn L FU 0 []<;>rfl
theorem zXH{κ ν:Type} [DecidableEq κ](a:κ)(v:ν):∀m:List (κ×ν),mGet a (mPut a v m)=some v
 |[]=>by simp[mPut,mGet]
 |p::ps=>by
  unfold mPut;by_cases h:a=p.1
  ·rw[if_pos h];simp[mGet]
  ·rw[if_neg h];unfold mGet;rw[if_neg h];exact zXH a v ps
theorem zTy{κ ν:Type} [DecidableEq κ]{a b:κ}(v:ν)(h:b≠a):∀m:List (κ×ν),mGet b (mPut a v m)=mGet b m
 |[]=>by simp[mPut,mGet,h]
 |p::ps=>by
  unfold mPut;by_cases hp:a=p.1
  ·rw[if_pos hp];unfold mGet;rw[if_neg h,if_neg (by rw[←hp];exact h)]
  ·rw[if_neg hp];unfold mGet;rw[zTy v h ps]
theorem z5r{α:Type}{L:List α}(hn:L.Nodup){i j:Nat}(hi:i<L.length)(hj:j<L.length)(h:L[i]=L[j]):i=j:=by
 rcases Nat.lt_trichotomy i j with hl|hl|hl
 ·exact absurd h (List.pairwise_iff_getElem.1 hn i j hi hj hl)
 ·exact hl
 ·exact absurd h.symm (List.pairwise_iff_getElem.1 hn j i hj hi hl)
theorem z35{L:List F3}(hl:L.length≤1000000)(hn:L.Nodup):∀(n k:Nat)(m:List (F3×Int)),k≤L.length→L.length - k<n→(∀j (hj:j<k)(hl:j<L.length),mGet L[j] m=some (j:Int))→
  ∃m',zBi L n (k:Int) m=some m'∧∀j (hl:j<L.length),mGet L[j] m'=some (j:Int)
 |0,k,m,h1,h2,h3=>by omega
 |n+1,k,m,h1,h2,h3=>by
  unfold zBi;rw[zE];by_cases hk:k<L.length
  ·rw[zd (show (k:Int)<(L.length:Int) by omega),zb,zA6 hk];simp only[za,zI,zA9 (show k<1000000000 by omega)];refine z35 hl hn n (k+1) _ (by omega) (by omega) fun j hj hjl=>?_
   by_cases e:j=k
   ·subst e;exact zXH _ _ _
   ·rw[zTy _ (fun h=>e (z5r hn _ _ h))];exact h3 j (by omega) hjl
  ·rw[ze (show ¬(k:Int)<(L.length:Int) by omega),zc];exact⟨m,rfl,fun j hj=>h3 j (by omega) hj⟩
theorem z36{L:List F3}(hl:L.length≤1000000)(hn:L.Nodup){f:F3}{i:Nat}(hi:i<L.length)(hf:L[i]=f):∀(n k:Nat),k≤i→i - k<n→zCR f L n (k:Int)=some (.inr (i:Int))
 |0,k,h1,h2=>by omega
 |n+1,k,h1,h2=>by
  unfold zCR;rw[zE,zd (show (k:Int)<(L.length:Int) by omega),zb,zA6 (show k<L.length by omega)];simp only[za,zI,zA9 (show k<1000000000 by omega)];by_cases e:k=i
  ·subst e;have:((L[k].1==f.1)&&((L[k].2.1==f.2.1)&&(L[k].2.2==f.2.2)))=true:=by rw[hf];simp
   rw[this];rfl
  ·have:((L[k].1==f.1)&&((L[k].2.1==f.2.1)&&(L[k].2.2==f.2.2)))=false:=by
    rw[Bool.eq_false_iff];intro hh;rw[zk,zk,beq_iff_eq,beq_iff_eq,beq_iff_eq]at hh;have he:L[k]=L[i]:=by rw[hf];exact Prod.ext hh.1 (Prod.ext hh.2.1 hh.2.2)
    exact e (z5r hn _ _ he)
   rw[this,zc];exact z36 hl hn hi hf n (k+1) (by omega) (by omega)
theorem z6r{D:Int}(hD1:-2000≤D)(hD2:D≤-3){f:F3}(h:PrRc D f):∃(i:Nat) (L:List F3),zCY f=some ((i:Int),true)∧zCG D=some L∧zEN L f=some (i:Int)∧i≤27000:=by
 have hF:=FUge;obtain⟨L,l1,l2,l3,l4⟩:=zTk hD1 hD2;have hD:D<0:=by omega
 have hm:f∈L:=by rw[l3];refine⟨h.1,h.2.1,h.2.2.1,?_⟩;have h5:((Int.gcd f.1 (Int.gcd f.2.1 f.2.2):Nat):Int)∣1:=h.2.2.2 _ (Int.gcd_dvd_left _ _) (Int.dvd_trans (Int.gcd_dvd_right _ _) (Int.gcd_dvd_left _ _)) (Int.dvd_trans (Int.gcd_dvd_right _ _) (Int.gcd_dvd_right _ _));have h6:=Int.eq_one_of_dvd_one (by omega) h5;omega
 obtain⟨i,hi,hf⟩:=List.getElem_of_mem hm;obtain⟨m,m1,m2⟩:=z35 (L:=L) (by omega) l4 FU 0 [] (by omega) (by omega) (fun j hj=>by omega);have m1:zBi L FU 0 []=some m:=m1;have g1:=z36 (L:=L) (by omega) l4 hi hf FU 0 (by omega) (by omega);have g1:zCR f L FU 0=some (.inr (i:Int)):=g1;have l1':zCc D=some L:=by rw[z4T hD1 hD2];exact l1
 obtain⟨c1,c2⟩:=zFj hD1 hD h;obtain⟨r1,_⟩:=zGR hD1 hD h;refine⟨i,L,?_,l1,?_,by omega⟩
 ·have hg:mGet f m=some (i:Int):=by rw[←hf];exact m2 i hi
  simp only[zCY,c1,c2,r1,zFc,l1',m1,za,zh,zc,zI,mAt,hg,Option.getD_some]
 ·simp only[zEN,g1,za]
theorem sqn(x:Int):0≤x*x:=by
 rcases Int.le_total 0 x with h|h
 ·exact Int.mul_nonneg h h
 ·exact Int.mul_nonneg_of_nonpos_of_nonpos h h
theorem zO1{q:Int}:∀(k n:Nat)(lo hi:Int),0≤lo→lo≤hi→hi≤3000000000→lo*lo≤q→q<(hi+1)*(hi+1)→hi - lo<2 ^k→k<n→∃r,zBd q n lo hi=some r∧0≤r∧r≤3000000000∧r*r≤q∧q<(r+1)*(r+1)
 |0,0,_,_,_,_,_,_,_,_,h=>by omega
 |0,n+1,lo,hi,h1,h2,h3,h4,h5,h6,h7=>by
  have e:lo=hi:=by simp at h6;omega
  subst e;unfold zBd;rw[zE,ze (by omega),zc];exact⟨lo,rfl,h1,h3,h4,h5⟩
 |k+1,0,_,_,_,_,_,_,_,_,h=>by omega
 |k+1,n+1,lo,hi,h1,h2,h3,h4,h5,h6,h7=>by
  unfold zBd;rw[zE];by_cases hlt:lo<hi
  ·have em:w64 (Int.tdiv (w64 (w64 (lo+hi)+1)) 2)=(lo+hi+1) / 2:=by
    rw[zA (n:=lo+hi) (by omega),zA (n:=lo+hi+1) (by omega),Int.tdiv_eq_ediv_of_nonneg (by omega),zA (by omega)]
   rw[zd hlt,zb,zI,em];generalize hm:(lo+hi+1) / 2=m;have m1:lo<m:=by omega
   have m2:m≤hi:=by omega
   have hp:(2:Int) ^(k+1)=2*2 ^k:=by rw[Int.pow_succ];omega
   have hmm:=qA (x:=m) (y:=m) (A:=3000000000) (B:=3000000000) (by omega) (by omega);rw[zA (n:=m*m) (by omega),qP];by_cases hq:m*m≤q
   ·rw[zd hq,zb];exact zO1 k n m hi (by omega) m2 h3 hq h5 (by omega) (by omega)
   ·rw[ze hq,zc,zI,zA (by omega)];exact zO1 k n lo (m - 1) h1 (by omega) (by omega) h4 (by rw[show m - 1+1=m by omega];omega) (by omega) (by omega)
  ·have e:lo=hi:=by omega
   subst e;rw[ze hlt,zc];exact⟨lo,rfl,h1,h3,h4,h5⟩
theorem z3E(q:Int):∀(n:Nat)(lo hi:Int),zCl q n lo hi=zBd q n lo hi
 |0,lo,hi=>rfl
 |n+1,lo,hi=>by unfold zCl zBd;simp only[zI,z3E q n]
theorem z0O{q:Int}(h0:0≤q)(h1:q≤1000000000000000000):∃r,zDg q=some r∧0≤r∧r≤1000000000∧r*r≤q∧q<(r+1)*(r+1):=by
 have hF:=FUge;obtain⟨r,g1,g2,g3,g4,g5⟩:=zO1 (q:=q) 32 FU 0 3000000000 (by omega) (by omega) (by omega) (by omega) (by omega) (by decide) (by omega);refine⟨r,by simp only[zDg,g1,za],g2,?_,g4,g5⟩;rcases Int.lt_or_le 1000000000 r with h|h
 ·have:1000000001*1000000001≤r*r:=Int.mul_le_mul (by omega) (by omega) (by omega) (by omega);omega
 ·exact h
theorem z4G{q:Int}(h0:0≤q)(h1:q≤1000000000000000000):∃r,zEr q=some r∧0≤r∧r≤1000000000∧r*r≤q∧q<(r+1)*(r+1):=by
 have hF:=FUge;obtain⟨r,g1,g2,g3,g4,g5⟩:=zO1 (q:=q) 32 FU 0 1000000000 (by omega) (by omega) (by omega) (by omega) (by omega) (by decide) (by omega);refine⟨r,by simp only[zEr,z3E,g1,za],g2,?_,g4,g5⟩;rcases Int.lt_or_le 1000000000 r with h|h
 ·have:1000000001*1000000001≤r*r:=Int.mul_le_mul (by omega) (by omega) (by omega) (by omega);omega
 ·exact h
theorem zO0{q r t:Int}(hr:0≤r)(h1:r*r≤q)(h2:q<(r+1)*(r+1))(ht:t*t=q):t=r∨t=-r:=by
 have key:∀s:Int,0≤s→s*s=q→s=r:=by
  intro s hs he;rcases Int.lt_trichotomy s r with h|h|h
  ·have:(s+1)*(s+1)≤r*r:=Int.mul_le_mul (by omega) (by omega) (by omega) (by omega);have e:(s+1)*(s+1)=s*s+2*s+1:=by grind
   omega
  ·exact h
  ·have:(r+1)*(r+1)≤s*s:=Int.mul_le_mul (by omega) (by omega) (by omega) (by omega);omega
 rcases Int.le_total 0 t with h|h
 ·exact .inl (key t h ht)
 ·have:=key (-t) (by omega) (by rw[←ht];grind);right;omega
theorem zKl{a m:Int}(hm:m≠0):eqI (a.tmod m) 0=true→m*a.tdiv m=a:=by intro h;rw[jN]at h;have h:=eq_of_beq h;have:=Int.tmod_add_mul_tdiv a m;omega
theorem zIN{a m y:Int}(hm:m≠0)(h:m*y=a):eqI (a.tmod m) 0=true∧a.tdiv m=y:=by subst h;rw[Int.mul_tmod_right,Int.mul_tdiv_cancel_left _ hm];exact⟨rfl,rfl⟩
def lexL(p q:Int×Int):Prop:=p.1<q.1∨(p.1=q.1∧p.2<q.2)
def Srt(l:List (Int×Int)):Prop:=l.Pairwise lexL
theorem z2w:∀{l1 l2:List (Int×Int)},Srt l1→Srt l2→(∀p,p∈l1↔p∈l2)→l1=l2
 |[],[],_,_,_=>rfl
 |[],q::_,_,_,h=>by have:=(h q).2 zm;cases this
 |p::_,[],_,_,h=>by have:=(h p).1 zm;cases this
 |p::l1,q::l2,h1,h2,h=>by
  have s1:=List.pairwise_cons.1 h1;have s2:=List.pairwise_cons.1 h2;have irr:∀{x y:Int×Int},lexL x y→lexL y x→False:=by intro x y a b;rcases a with a|⟨a,a'⟩<;>rcases b with b|⟨b,b'⟩<;>omega
  have e:p=q:=by
   rcases List.mem_cons.1 ((h p).1 zm) with e|e
   ·exact e
   ·rcases List.mem_cons.1 ((h q).2 zm) with f|f
    ·exact f.symm
    ·exact absurd (irr (s1.1 q f) (s2.1 p e)) id
  subst e;have:l1=l2:=z2w s1.2 s2.2 fun x=>by
   have hx:=h x;constructor
   ·intro hm;rcases List.mem_cons.1 (hx.1 (zn _ hm)) with e|e
    ·subst e;exact absurd (irr (s1.1 x hm) (s1.1 x hm)) id
    ·exact e
   ·intro hm;rcases List.mem_cons.1 (hx.2 (zn _ hm)) with e|e
    ·subst e;exact absurd (irr (s2.1 x hm) (s2.1 x hm)) id
    ·exact e
  rw[this]
def Sol(A B C n:Int)(p:Int×Int):Prop:=A*p.1*p.1+B*p.1*p.2+C*p.2*p.2=n
theorem z9V{A B C d n x y:Int}(hC:1≤C)(hd:B*B - 4*A*C=d):Sol A B C n (x,y)↔(2*C*y+B*x)*(2*C*y+B*x)=d*x*x+4*C*n:=by
 unfold Sol;have key:(2*C*y+B*x)*(2*C*y+B*x) - (d*x*x+4*C*n)=4*C*(A*x*x+B*x*y+C*y*y - n):=by subst hd;grind
 constructor
 ·intro h;have h:A*x*x+B*x*y+C*y*y=n:=h;rw[h,Int.sub_self,Int.mul_zero]at key;omega
 ·intro h;show A*x*x+B*x*y+C*y*y=n;rw[h,Int.sub_self]at key;rcases Int.mul_eq_zero.1 key.symm with h1|h1<;>omega
theorem z9W{A B C d n x y:Int}(hA:1≤A)(hd:B*B - 4*A*C=d):Sol A B C n (x,y)↔(2*A*x+B*y)*(2*A*x+B*y)=d*y*y+4*A*n:=by
 unfold Sol;have key:(2*A*x+B*y)*(2*A*x+B*y) - (d*y*y+4*A*n)=4*A*(A*x*x+B*x*y+C*y*y - n):=by subst hd;grind
 constructor
 ·intro h;have h:A*x*x+B*x*y+C*y*y=n:=h;rw[h,Int.sub_self,Int.mul_zero]at key;omega
 ·intro h;show A*x*x+B*x*y+C*y*y=n;rw[h,Int.sub_self]at key;rcases Int.mul_eq_zero.1 key.symm with h1|h1<;>omega
theorem zXy{l:List (Int×Int)}{p:Int×Int}(h:Srt l)(hp:∀q∈l,lexL q p):Srt (l++[p]):=by unfold Srt;rw[List.pairwise_append];refine⟨h,List.pairwise_singleton _ _,fun a ha b hb=>?_⟩;rw[qe]at hb;subst hb;exact hp a ha
theorem z3M{A B C d n bd:Int}(hC1:1≤C)(hC:C≤1000000)(hB1:-1000000≤B)(hB:B≤1000000)(hd:B*B - 4*A*C=d)(hd1:-2000≤d)(hd2:d≤-3)(hn1:1≤n)(hn:n≤10000)(hb0:0≤bd)(hb:bd≤200000):
  ∀(fu:Nat)(x:Int)(acc:List (Int×Int)),-200000≤x→x≤bd+1→bd+1 - x<fu→Srt acc→(∀p,p∈acc↔Sol A B C n p∧p.1<x∧-bd≤p.1)→-bd≤x→(acc.length:Int)≤2*(x+200000)→
  ∃l,j0 (A,B,C) n d bd fu x acc=some l∧Srt l∧l.length≤1000000∧∀p,p∈l↔Sol A B C n p∧p.1≤bd∧-bd≤p.1
 |0,x,acc,h1,h2,h3,_,_,_,_=>by omega
 |fu+1,x,acc,h1,h2,h3,hs,hm,hbx,hl=>by
  unfold j0;rw[qP];by_cases hx:x≤bd
  ·have b1:=qA (x:=d) (y:=x) (A:=2000) (B:=200000) (by omega) (by omega);have b2:=qA (x:=d*x) (y:=x) (A:=2000*200000) (B:=200000) b1 (by omega);have b3:=qA (x:=4*C) (y:=n) (A:=4000000) (B:=10000) (by omega) (by omega);have b4:=qA (x:=B) (y:=x) (A:=1000000) (B:=200000) (by omega) (by omega);have eB:(0 - B)*x=-(B*x):=by grind
   have hsq:w64 (w64 (w64 (d*x)*x)+w64 (w64 (4*C)*n))=d*x*x+4*C*n:=by rw[qB (n:=d*x) (by omega),qB (n:=d*x*x) (by omega),qB (n:=4*C) (by omega),qB (n:=4*C*n) (by omega),qB (by omega)]
   have hw1:w64 (x+1)=x+1:=zA (by omega);rw[zd hx,zb,zI,hsq];generalize hq:d*x*x+4*C*n=q;have hqb:q≤1000000000000000000:=by omega
   have step:∀(l:List (Int×Int)),Srt l→(∀p,p∈l↔(p∈acc∨(p.1=x∧Sol A B C n p)))→l.length≤acc.length+2→
     ∃l2,j0 (A,B,C) n d bd fu (x+1) l=some l2∧Srt l2∧l2.length≤1000000∧∀p,p∈l2↔Sol A B C n p∧p.1≤bd∧-bd≤p.1:=by
    intro l k1 k2 k3;refine z3M hC1 hC hB1 hB hd hd1 hd2 hn1 hn hb0 hb fu (x+1) l (by omega) (by omega) (by omega) k1 (fun p=>?_) (by omega) (by omega);rw[k2,hm];constructor
    ·rintro (⟨a,b,c⟩|⟨a,b⟩)
     ·exact⟨a,by omega,c⟩
     ·exact⟨b,by omega,by omega⟩
    ·rintro⟨a,b,c⟩;by_cases hp:p.1=x
     ·exact .inr ⟨hp,a⟩
     ·exact .inl ⟨a,by omega,c⟩
   have hy:∀y,Sol A B C n (x,y)↔(2*C*y+B*x)*(2*C*y+B*x)=q:=fun y=>by rw[z9V hC1 hd,hq]
   by_cases hq0:0≤q
   ·obtain⟨r,g1,g2,g3,g4,g5⟩:=z0O hq0 hqb;have hrr:=qA (x:=r) (y:=r) (A:=1000000000) (B:=1000000000) (by omega) (by omega);have hisq:zC4 q=some (eqI (r*r) q):=by
     simp only[zC4,qP,zd hq0,zb,g1,za];rw[qB (n:=r*r) (by omega)]
    rw[hisq];simp only[za];by_cases hrq:r*r=q
    ·have e1:eqI (r*r) q=true:=by rw[hrq];exact zUO q
     have hz:nz (2*C)=some ():=nzOk (by omega);have hC2:w64 (2*C)=2*C:=zA (by omega);have ea:w64 (w64 (w64 (0 - B)*x) - r)=-(B*x) - r:=by rw[zA (n:=0 - B) (by omega),eB,qB (n:=-(B*x)) (by omega),qB (by omega)]
     have eb:w64 (w64 (w64 (0 - B)*x)+r)=-(B*x)+r:=by rw[zA (n:=0 - B) (by omega),eB,qB (n:=-(B*x)) (by omega),qB (by omega)]
     have hcne:(2*C:Int)≠0:=by omega
     rw[e1];simp only[zh,zc,g1,za,hC2,hz,ea,eb];have hy2:∀y,Sol A B C n (x,y)↔(2*C*y=-(B*x) - r∨2*C*y=-(B*x)+r):=by
      intro y;rw[hy];constructor
      ·intro h;rcases zO0 g2 g4 g5 h with e|e<;>omega
      ·rintro (h|h)
       ·have e:2*C*y+B*x=-r:=by omega
        rw[e,←hrq];grind
       ·have e:2*C*y+B*x=r:=by omega
        rw[e,←hrq]
     -- a quotient's size
     have tsz:∀a y:Int,2*C*y=a→a.natAbs≤2000000000000→y.natAbs≤2000000000000:=by intro a y h h2;have:(2*C*y).natAbs=(2*C).natAbs*y.natAbs:=Int.natAbs_mul _ _;rw[h]at this;have h3:1*y.natAbs≤(2*C).natAbs*y.natAbs:=Nat.mul_le_mul_right _ (by omega);omega
     have hr1:∀q2,q2∈acc→∀y,lexL q2 (x,y):=fun q2 h y=>.inl ((hm q2).1 h).2.1;cases h1:eqI (Int.tmod (-(B*x) - r) (2*C)) 0 with
     |true=>
      have m1:=zKl hcne h1;generalize hy1:Int.tdiv (-(B*x) - r) (2*C)=y1;rw[hy1]at m1;have s1:=tsz _ _ m1 (by omega);rw[zb,qB (n:=y1) (by omega),zAa (by simp;omega)];simp only[za];have k1:Srt (acc++[(x,y1)]):=zXy hs fun q2 h=>hr1 q2 h y1;rw[zE];by_cases hr0:0<r
      ·rw[zd hr0,zb];cases h2:eqI (Int.tmod (-(B*x)+r) (2*C)) 0 with
       |true=>
        have m2:=zKl hcne h2;generalize hy2e:Int.tdiv (-(B*x)+r) (2*C)=y2;rw[hy2e]at m2;have s2:=tsz _ _ m2 (by omega);have hlt:y1<y2:=by
         rcases Int.lt_or_le y1 y2 with h|h
         ·exact h
         ·have:2*C*y2≤2*C*y1:=zp h (by omega);omega
        simp only[za,zb];rw[qB (n:=y2) (by omega),zAa (by simp;omega)];simp only[za,zI,hw1];refine step _ (zXy k1 fun q2 h=>?_) (fun p=>?_) (by simp)
        ·rw[List.mem_append,qe]at h;rcases h with h|h
         ·exact hr1 q2 h y2
         ·subst h;exact .inr ⟨rfl,hlt⟩
        ·rw[List.mem_append,List.mem_append,qe,qe];constructor
         ·rintro ((h|h)|h)
          ·exact .inl h
          ·subst h;exact .inr ⟨rfl,(hy2 y1).2 (.inl m1)⟩
          ·subst h;exact .inr ⟨rfl,(hy2 y2).2 (.inr m2)⟩
         ·rintro (h|⟨h,h'⟩)
          ·exact .inl (.inl h)
          ·obtain⟨p1,p2⟩:=p;have h:p1=x:=h;subst h;rcases (hy2 p2).1 h' with e|e
           ·left;right;have:p2=y1:=Int.eq_of_mul_eq_mul_left hcne (by omega);rw[this]
           ·right;have:p2=y2:=Int.eq_of_mul_eq_mul_left hcne (by omega);rw[this]
       |false=>
        simp only[za,zc,zI,hw1];refine step _ k1 (fun p=>?_) (by simp);rw[List.mem_append,qe];constructor
        ·rintro (h|h)
         ·exact .inl h
         ·subst h;exact .inr ⟨rfl,(hy2 y1).2 (.inl m1)⟩
        ·rintro (h|⟨h,h'⟩)
         ·exact .inl h
         ·obtain⟨p1,p2⟩:=p;have h:p1=x:=h;subst h;rcases (hy2 p2).1 h' with e|e
          ·right;have:p2=y1:=Int.eq_of_mul_eq_mul_left hcne (by omega);rw[this]
          ·rw[(zIN hcne e).1]at h2;cases h2
      ·have r0:r=0:=by omega
       rw[ze hr0];simp only[za,zc,zI,hw1];refine step _ k1 (fun p=>?_) (by simp);rw[List.mem_append,qe];constructor
       ·rintro (h|h)
        ·exact .inl h
        ·subst h;exact .inr ⟨rfl,(hy2 y1).2 (.inl m1)⟩
       ·rintro (h|⟨h,h'⟩)
        ·exact .inl h
        ·obtain⟨p1,p2⟩:=p;have h:p1=x:=h;subst h;right;have:p2=y1:=Int.eq_of_mul_eq_mul_left hcne (by rcases (hy2 p2).1 h' with e|e<;>omega);rw[this]
     |false=>
      rw[zc];simp only[za];rw[zE];by_cases hr0:0<r
      ·rw[zd hr0,zb];cases h2:eqI (Int.tmod (-(B*x)+r) (2*C)) 0 with
       |true=>
        have m2:=zKl hcne h2;generalize hy2e:Int.tdiv (-(B*x)+r) (2*C)=y2;rw[hy2e]at m2;have s2:=tsz _ _ m2 (by omega);simp only[za,zb];rw[qB (n:=y2) (by omega),zAa (by simp;omega)];simp only[za,zI,hw1];refine step _ (zXy hs fun q2 h=>hr1 q2 h y2) (fun p=>?_) (by simp);rw[List.mem_append,qe];constructor
        ·rintro (h|h)
         ·exact .inl h
         ·subst h;exact .inr ⟨rfl,(hy2 y2).2 (.inr m2)⟩
        ·rintro (h|⟨h,h'⟩)
         ·exact .inl h
         ·obtain⟨p1,p2⟩:=p;have h:p1=x:=h;subst h;rcases (hy2 p2).1 h' with e|e
          ·rw[(zIN hcne e).1]at h1;cases h1
          ·right;have:p2=y2:=Int.eq_of_mul_eq_mul_left hcne (by omega);rw[this]
       |false=>
        simp only[za,zc,zI,hw1];refine step _ hs (fun p=>?_) (by omega);constructor
        ·exact fun h=>.inl h
        ·rintro (h|⟨h,h'⟩)
         ·exact h
         ·obtain⟨p1,p2⟩:=p;have h:p1=x:=h;subst h;rcases (hy2 p2).1 h' with e|e
          ·rw[(zIN hcne e).1]at h1;cases h1
          ·rw[(zIN hcne e).1]at h2;cases h2
      ·have r0:r=0:=by omega
       rw[ze hr0];simp only[za,zc,zI,hw1];refine step _ hs (fun p=>?_) (by omega);constructor
       ·exact fun h=>.inl h
       ·rintro (h|⟨h,h'⟩)
        ·exact h
        ·obtain⟨p1,p2⟩:=p;have h:p1=x:=h;subst h;rw[(zIN hcne (show 2*C*p2=-(B*p1) - r by rcases (hy2 p2).1 h' with e|e<;>omega)).1]at h1;cases h1
    ·rw[eqNe hrq];simp only[zi,zb,zI,hw1];refine step _ hs (fun p=>?_) (by omega);constructor
     ·exact fun h=>.inl h
     ·rintro (h|⟨h,h'⟩)
      ·exact h
      ·obtain⟨p1,p2⟩:=p;have h:p1=x:=h;subst h
       exfalso
       have h2:=(hy p2).1 h';rcases zO0 g2 g4 g5 h2 with e|e
       ·exact hrq (by rw[←e];exact h2)
       ·exact hrq (by rw[e]at h2;rw[←h2];grind)
   ·have hisq:zC4 q=some false:=by
     simp only[zC4,qP,ze hq0,zc,za]
    rw[hisq];simp only[za,zi,zb,zI,hw1];refine step _ hs (fun p=>?_) (by omega);constructor
    ·exact fun h=>.inl h
    ·rintro (h|⟨h,h'⟩)
     ·exact h
     ·obtain⟨p1,p2⟩:=p;have h:p1=x:=h;subst h
      exfalso
      have h2:=(hy p2).1 h';have:=sqn (2*C*p2+B*p1);omega
  ·rw[ze hx,zc];refine⟨acc,rfl,hs,by omega,fun p=>?_⟩;rw[hm];constructor
   ·rintro⟨a,b,c⟩;exact⟨a,by omega,c⟩
   ·rintro⟨a,b,c⟩;exact⟨a,by omega,c⟩
theorem z1t{A B C n:Int}(hA:1≤A)(hC1:1≤C)(hC:C≤1000000)(hB1:-1000000≤B)(hB:B≤1000000)(hdw:zL (A,B,C)=some (B*B - 4*A*C))(hd1:-2000≤B*B - 4*A*C)(hd2:B*B - 4*A*C≤-3)(hn1:1≤n)(hn:n≤10000):
  ∃l,zCE (A,B,C) n=some l∧Srt l∧l.length≤1000000∧∀p,p∈l↔Sol A B C n p:=by
 have hF:=FUge;have hFe:((FU:Nat):Int)=1000000000:=rfl;generalize hd:B*B - 4*A*C=d at*;have b3:=qA (x:=4*C) (y:=n) (A:=4000000) (B:=10000) (by omega) (by omega);have hCn:0≤4*C*n:=Int.mul_nonneg (by omega) (by omega);have ew:w64 (0 - d)=-d:=by rw[zA (by omega)];omega
 have e4:w64 (w64 (4*C)*n)=4*C*n:=by rw[zA (n:=4*C) (by omega),qB (by omega)]
 have hquo:Int.tdiv (4*C*n) (-d)=4*C*n / (-d):=Int.tdiv_eq_ediv_of_nonneg hCn;have hq1:0≤4*C*n / (-d):=Int.ediv_nonneg hCn (by omega);have hq2:(-d)*(4*C*n / (-d))≤4*C*n:=Int.mul_ediv_self_le (by omega);have hq3:4*C*n<(-d)*(4*C*n / (-d))+(-d):=Int.lt_mul_ediv_self_add (by omega);generalize hQ:4*C*n / (-d)=Q at*;have hQb:Q≤40000000000:=by have:1*Q≤(-d)*Q:=Int.mul_le_mul_of_nonneg_right (by omega) hq1;omega
 obtain⟨bd,g1,g2,g3,g4,g5⟩:=z0O (q:=Q) hq1 (by omega);have hbd:bd≤200000:=by
  rcases Int.lt_or_le 200000 bd with h|h
  ·have:200001*200001≤bd*bd:=Int.mul_le_mul (by omega) (by omega) (by omega) (by omega);omega
  ·exact h
 -- every solution lies within the bound
 have hin:∀p,Sol A B C n p→p.1≤bd∧-bd≤p.1:=by
  rintro⟨x,y⟩ hp;have h1:=(z9V hC1 hd).1 hp;have h2:=sqn (2*C*y+B*x);have h3:(-d)*(x*x)≤4*C*n:=by
   have e:(-d)*(x*x)=-(d*x*x):=by grind
   omega
  have hxx:x*x≤Q:=by
   rcases Int.lt_or_le Q (x*x) with h|h
   ·have:(-d)*(Q+1)≤(-d)*(x*x):=zp (by omega) (by omega);have e:(-d)*(Q+1)=(-d)*Q+(-d):=by grind
    omega
   ·exact h
  have hab:x.natAbs≤bd.natAbs:=by
   rcases Nat.lt_or_ge bd.natAbs x.natAbs with h|h
   ·have h4:(bd.natAbs+1)*(bd.natAbs+1)≤x.natAbs*x.natAbs:=Nat.mul_le_mul h h;have h5:x*x=((x.natAbs*x.natAbs:Nat):Int):=Int.natAbs_mul_self.symm;have h6:(bd+1)*(bd+1)=(((bd.natAbs+1)*(bd.natAbs+1):Nat):Int):=by
     have:bd=(bd.natAbs:Int):=by omega
     rw[this];simp
    omega
   ·exact h
  show x≤bd∧-bd≤x;omega
 obtain⟨l,k1,k2,k3,k4⟩:=z3M (bd:=bd) hC1 hC hB1 hB hd hd1 hd2 hn1 hn g2 hbd FU (-bd) [] (by omega) (by omega) (by omega) List.Pairwise.nil (fun p=>by
  constructor
  ·intro h;cases h
  ·rintro⟨a,b,c⟩;omega) (by omega) (by simp;omega)
 refine⟨l,?_,k2,k3,fun p=>?_⟩
 ·have ez:nz (-d)=some ():=nzOk (by omega);have eb:w64 (0 - bd)=-bd:=by rw[zA (by omega)];omega
  simp only[zCE,hdw,za,ew,ez,e4,hquo,hQ];rw[zA (n:=Q) (by omega),g1];simp only[za,zI,eb,k1]
 ·rw[k4];exact⟨fun h=>h.1,fun h=>⟨h,(hin p h).1,(hin p h).2⟩⟩
theorem z34(l:List (Int×Int))(p:Int×Int)(hl:l.length≤10000000):∀(n k:Nat),k≤l.length→l.length - k<n→zDI l p n (k:Int)=some (if p∈l.drop k then .inr true else .inl ())
 |0,k,h0,h1=>by omega
 |n+1,k,h0,h1=>by
  unfold zDI;rw[zE];by_cases hk:k<l.length
  ·have e3:l.drop k=l[k]::l.drop (k+1):=List.drop_eq_getElem_cons hk;rw[zd (by omega),zb,zA6 hk];simp only[za,zI,zA9 (show k<1000000000 by omega)];by_cases he:l[k]=p
   ·have e1:((l[k]).1==p.1&&(l[k]).2==p.2)=true:=by rw[he];simp
    rw[e1,zb,e3,if_pos (by rw[he];exact zm)]
   ·have e1:((l[k]).1==p.1&&(l[k]).2==p.2)=false:=by
     cases hb:((l[k]).1==p.1&&(l[k]).2==p.2) with
     |false=>rfl
     |true=>rw[zk]at hb;exact absurd (Prod.ext (eq_of_beq hb.1) (eq_of_beq hb.2)) he
    rw[e1,zc,z34 l p hl n (k+1) (by omega) (by omega),e3];by_cases hm:p∈l.drop (k+1)
    ·rw[if_pos hm,if_pos (zn _ hm)]
    ·rw[if_neg hm,if_neg (by
      intro h;rcases List.mem_cons.1 h with h|h
      ·exact he h.symm
      ·exact hm h)]
  ·rw[ze (by omega),zc,List.drop_eq_nil_of_le (by omega),if_neg (by simp)]
theorem z8X(l:List (Int×Int))(p:Int×Int)(hl:l.length≤10000000):zDi l p=some (decide (p∈l)):=by
 have hFe:FU=1000000000:=rfl;have:=z34 l p hl FU 0 (by omega) (by omega);have this:zDI l p FU 0=some (if p∈l then .inr true else .inl ()):=this;unfold zDi;rw[this];by_cases h:p∈l
 ·rw[if_pos h,zd h];rfl
 ·rw[if_neg h,ze h];rfl
def lexB(p q:Int×Int):Bool:=ltI p.1 q.1||(eqI p.1 q.1&&ltI p.2 q.2)
theorem z01{p q:Int×Int}:lexB p q=true↔lexL p q:=by unfold lexB lexL;rw[zE,zE,jN];simp
theorem z3K(l:List (Int×Int))(p:Int×Int)(hl:l.length≤10000000):∀(n k:Nat),k≤l.length→l.length - k<n→(∀j,j<k→∀q,l[j]?=some q→lexL q p)→∃m,zDH l p n (k:Int)=some ((m:Nat):Int)∧m≤l.length∧(∀j,j<m→∀q,l[j]?=some q→lexL q p)∧(∀q,l[m]?=some q→¬lexL q p)
 |0,k,h0,h1,h2=>by omega
 |n+1,k,h0,h1,h2=>by
  unfold zDH;rw[zE];by_cases hk:k<l.length
  ·have ec:((getI l (k:Int)).bind fun e7=>(bif (ltI e7.1 p.1) then some true else ((getI l (k:Int)).bind fun e9=>(bif (eqI e9.1 p.1) then ((getI l (k:Int)).bind fun e11=>some (ltI e11.2 p.2)) else some false).bind fun b12=>some b12)).bind fun b13=>some b13)=some (lexB l[k] p):=by
    rw[zA6 hk];simp only[za];unfold lexB;cases ltI l[k].1 p.1<;>cases eqI l[k].1 p.1<;>rfl
   rw[zd (by omega),zb,ec];simp only[za,zI,zA9 (show k<1000000000 by omega)];cases hb:lexB l[k] p with
   |true=>
    rw[zb];refine z3K l p hl n (k+1) (by omega) (by omega) fun j hj q hq=>?_
    by_cases hjk:j=k
    ·subst hjk;rw[zy hk]at hq;injection hq with hq;subst hq;exact z01.1 hb
    ·exact h2 j (by omega) q hq
   |false=>rw[zc];refine⟨k,rfl,by omega,h2,fun q hq=>?_⟩;rw[zy hk]at hq;injection hq with hq;subst hq;intro h;rw[z01.2 h]at hb;cases hb
  ·rw[ze (by omega)];simp only[zc,za];refine⟨k,rfl,h0,h2,fun q hq=>?_⟩;rw[List.getElem?_eq_none (by omega)]at hq;cases hq
theorem z5V{n:Nat}{l h:Int}(h1:0≤l)(h2:l≤h)(h3:h≤n):slc n l h=some ():=by unfold slc;rw[qP,qP,qP,zd h1,zd h2,zd h3];rfl
theorem z8S{p q:Int×Int}(h:¬lexL q p)(hne:q≠p):lexL p q:=by unfold lexL at*;have:¬(q.1=p.1∧q.2=p.2):=fun e=>hne (Prod.ext e.1 e.2);omega
theorem z9z{p q r:Int×Int}(h:lexL p q)(h2:lexL q r):lexL p r:=by unfold lexL at*;omega
theorem z8G(l:List (Int×Int))(p:Int×Int)(hl:l.length≤10000000)(hs:Srt l)(hp:p∉l):∃l2,zE1 l p=some l2∧Srt l2∧l2.length=l.length+1∧∀q,q∈l2↔q∈l∨q=p:=by
 have hFe:FU=1000000000:=rfl;obtain⟨m,g1,g2,g3,g4⟩:=z3K l p hl FU 0 (by omega) (by omega) (fun j hj=>by omega);have g1:zDH l p FU 0=some ((m:Nat):Int):=g1;have e1:subl l 0 ((m:Nat):Int)=l.take m:=by simp[subl]
 have e2:subl l ((m:Nat):Int) (l.length:Int)=l.drop m:=by simp only[subl,zj];rw[List.take_of_length_le (by simp)]
 refine⟨(([]++l.take m)++[p])++l.drop m,?_,?_,?_,?_⟩
 ·simp only[zE1,g1,za,z5V (show (0:Int)≤0 by omega) (show (0:Int)≤(m:Int) by omega) (show (m:Int)≤(l.length:Int) by omega),z5V (show (0:Int)≤(m:Int) by omega) (show (m:Int)≤(l.length:Int) by omega) (show (l.length:Int)≤(l.length:Int) by omega),e1,e2];rw[zAa (by simp;omega)];simp only[za];rw[zAa (by simp;omega)];simp only[za];rw[zAa (by simp;omega)];rfl
 ·have hs2:Srt (l.take m++l.drop m):=by rw[List.take_append_drop];exact hs
  unfold Srt at hs2 ⊢;rw[List.pairwise_append]at hs2;obtain⟨s1,s2,s3⟩:=hs2;have hlow:∀a∈l.take m,lexL a p:=by
   intro a ha;obtain⟨j,hj⟩:=List.getElem?_of_mem ha;have hjm:j<m:=by
    rcases Nat.lt_or_ge j m with h|h
    ·exact h
    ·rw[List.getElem?_eq_none (by simp;omega)]at hj;cases hj
   rw[List.getElem?_take_of_lt hjm]at hj;exact g3 j hjm a hj
  have hhigh:∀b∈l.drop m,lexL p b:=by
   intro b hb;have hbl:b∈l:=List.mem_of_mem_drop hb;have hbp:b≠p:=fun e=>hp (e▸hbl);by_cases hm:m<l.length
   ·have e3:l.drop m=l[m]::l.drop (m+1):=List.drop_eq_getElem_cons hm;have hmp:l[m]≠p:=fun e=>hp (e▸zx hm);have h5:=z8S (g4 _ (zy hm)) hmp;rw[e3]at hb s2;rcases List.mem_cons.1 hb with h|h
    ·rw[h];exact h5
    ·exact z9z h5 ((List.pairwise_cons.1 s2).1 b h)
   ·rw[List.drop_eq_nil_of_le (by omega)]at hb;cases hb
  rw[zt,List.pairwise_append,List.pairwise_append];refine⟨⟨s1,List.pairwise_singleton _ _,fun a ha b hb=>?_⟩,s2,fun a ha b hb=>?_⟩
  ·rw[qe]at hb;subst hb;exact hlow a ha
  ·rw[List.mem_append,qe]at ha;rcases ha with ha|ha
   ·exact s3 a ha b hb
   ·subst ha;exact hhigh b hb
 ·simp;omega
 ·intro q;rw[List.mem_append,List.mem_append,zt,qe]
  conv=>rhs;rw[←List.take_append_drop m l,List.mem_append]
  constructor
  ·rintro ((h|h)|h)
   ·exact .inl (.inl h)
   ·exact .inr h
   ·exact .inl (.inr h)
  ·rintro ((h|h)|h)
   ·exact .inl (.inl h)
   ·exact .inr h
   ·exact .inl (.inr h)
def tryR(A B v r:Int)(out:List (Int×Int)):Option (List (Int×Int)):=
 (nz (w64 (2*A))).bind fun _=>
 bif eqI (Int.tmod (w64 (r - w64 (B*v))) (w64 (2*A))) 0 then
  (nz (w64 (2*A))).bind fun _=>(zDi out (w64 (Int.tdiv (w64 (r - w64 (B*v))) (w64 (2*A))),v)).bind fun y=>bif !y then zE1 out (w64 (Int.tdiv (w64 (r - w64 (B*v))) (w64 (2*A))),v) else some out
 else some out
theorem z2t{A B v r:Int}{out:List (Int×Int)}(hA1:1≤A)(hA:A≤1000000)(hB1:-1000000≤B)(hB:B≤1000000)(hv:v.natAbs≤200000)(hr:r.natAbs≤1000000000)(hl:out.length≤9000000)(hs:Srt out):
  ∃o,tryR A B v r out=some o∧Srt o∧o.length≤out.length+1∧∀q,q∈o↔q∈out∨(q.2=v∧2*A*q.1=r - B*v):=by
 have b1:=qA (x:=B) (y:=v) (A:=1000000) (B:=200000) (by omega) hv;have e1:w64 (r - w64 (B*v))=r - B*v:=by rw[qB (n:=B*v) (by omega),qB (by omega)]
 have e2:w64 (2*A)=2*A:=zA (by omega);have hne:(2*A:Int)≠0:=by omega
 have hz:nz (2*A)=some ():=nzOk hne;unfold tryR;rw[e1,e2,hz];simp only[za];cases h1:eqI (Int.tmod (r - B*v) (2*A)) 0 with
 |true=>
  have m1:=zKl hne h1;generalize hx:Int.tdiv (r - B*v) (2*A)=x;rw[hx]at m1;have hxs:x.natAbs≤2000000000000:=by have h3:(2*A*x).natAbs=(2*A).natAbs*x.natAbs:=Int.natAbs_mul _ _;rw[m1]at h3;have h4:1*x.natAbs≤(2*A).natAbs*x.natAbs:=Nat.mul_le_mul_right _ (by omega);omega
  rw[zb,qB (n:=x) (by omega),z8X _ _ (by omega)];simp only[za];have huni:∀q:Int×Int,(q.2=v∧2*A*q.1=r - B*v)↔q=(x,v):=by
   rintro⟨q1,q2⟩;constructor
   ·rintro⟨h,h'⟩;have h:q2=v:=h;have h':2*A*q1=r - B*v:=h';have:q1=x:=Int.eq_of_mul_eq_mul_left hne (by omega);rw[h,this]
   ·intro h;obtain⟨rfl,rfl⟩:=Prod.mk.inj h;exact⟨rfl,m1⟩
  by_cases hm:(x,v)∈out
  ·rw[zd hm];refine⟨out,rfl,hs,by omega,fun q=>?_⟩;rw[huni];constructor
   ·exact fun h=>.inl h
   ·rintro (h|h)
    ·exact h
    ·rw[h];exact hm
  ·rw[ze hm];obtain⟨l2,k1,k2,k3,k4⟩:=z8G out (x,v) (by omega) hs hm;refine⟨l2,by simp only[zi,zb,k1],k2,by omega,fun q=>?_⟩;rw[huni,k4]
 |false=>
  refine⟨out,rfl,hs,by omega,fun q=>?_⟩;constructor
  ·exact fun h=>.inl h
  ·rintro (h|⟨_,h⟩)
   ·exact h
   ·rw[(zIN hne h).1]at h1;cases h1
theorem z02{A B C v s t14 t16 t22 n y3 y4 r:Int}{out:List (Int×Int)}{fu:Nat}{t:Int}(ht:ltI t t22=true)(hg:getI [s,w64 (0 - s)] t=some r):
  zAR v (A,B,C) t14 t16 t22 n s y3 y4 (fu+1) out t=(tryR A B v r out).bind fun o=>zAR v (A,B,C) t14 t16 t22 n s y3 y4 fu o (w64 (t+1)):=by
 rw[zAR,ht,zb,hg];simp only[za,zI];unfold tryR;cases nz (w64 (2*A)) with
 |none=>rfl
 |some u=>
  simp only[za];cases eqI (Int.tmod (w64 (r - w64 (B*v))) (w64 (2*A))) 0 with
  |false=>rfl
  |true=>
   simp only[zb];cases zDi out (w64 (Int.tdiv (w64 (r - w64 (B*v))) (w64 (2*A))),v) with
   |none=>rfl
   |some b=>cases b<;>rfl
theorem z3Y{A B C v s t14 t16 n y3 y4:Int}{out:List (Int×Int)}(hA1:1≤A)(hA:A≤1000000)(hB1:-1000000≤B)(hB:B≤1000000)(hv:v.natAbs≤200000)(hs0:0≤s)(hs1:s≤1000000000)(hl:out.length≤8000000)(hs:Srt out):
  ∃o,zAR v (A,B,C) t14 t16 2 n s y3 y4 FU out 0=some o∧Srt o∧o.length≤out.length+2∧∀q,q∈o↔q∈out∨(q.2=v∧(2*A*q.1+B*v)*(2*A*q.1+B*v)=s*s):=by
 obtain⟨m,hm⟩:∃m,FU=m+1+1+1:=⟨FU - 3,rfl⟩
 have en:w64 (0 - s)=-s:=by rw[zA (by omega)];omega
 obtain⟨o1,k1,k2,k3,k4⟩:=z2t (out:=out) (r:=s) hA1 hA hB1 hB hv (by omega) (by omega) hs;obtain⟨o2,j1,j2,j3,j4⟩:=z2t (out:=o1) (r:=-s) hA1 hA hB1 hB hv (by omega) (by omega) k2;have g0:getI [s,w64 (0 - s)] 0=some s:=rfl;have g1:getI [s,w64 (0 - s)] 1=some (w64 (0 - s)):=rfl;refine⟨o2,?_,j2,by omega,fun q=>?_⟩
 ·rw[hm,z02 rfl g0,k1,za,show w64 (0+1)=1 from rfl,z02 rfl g1,en,j1,za,show w64 (1+1)=2 from rfl,zAR];rfl
 ·rw[j4,k4];constructor
  ·rintro ((h|⟨a,b⟩)|⟨a,b⟩)
   ·exact .inl h
   ·refine .inr ⟨a,?_⟩;rw[show 2*A*q.1+B*v=s by omega]
   ·refine .inr ⟨a,?_⟩;rw[show 2*A*q.1+B*v=-s by omega];grind
  ·rintro (h|⟨a,b⟩)
   ·exact .inl (.inl h)
   ·have:s*s<(s+1)*(s+1):=by
     have:(s+1)*(s+1)=s*s+2*s+1:=by grind
     omega
    rcases zO0 hs0 (Int.le_refl (s*s)) this b with e|e
    ·exact .inl (.inr ⟨a,by omega⟩)
    ·exact .inr ⟨a,by omega⟩
theorem z04{A B C s t14 n y3 y v:Int}{out:List (Int×Int)}{fu:Nat}{t:Int}(ht:ltI t t14=true)(hg:getI [y,w64 (0 - y)] t=some v):
  zBl (A,B,C) t14 n s y3 y (fu+1) out t=(zAR v (A,B,C) t14 t 2 n s y3 y FU out 0).bind fun o=>zBl (A,B,C) t14 n s y3 y fu o (w64 (t+1)):=by
 rw[zBl,ht,zb,hg];simp only[za,zI];rfl
theorem z8T{A B C s n y3 y:Int}{out:List (Int×Int)}(hA1:1≤A)(hA:A≤1000000)(hB1:-1000000≤B)(hB:B≤1000000)(hy0:0≤y)(hy:y≤200000)(hs0:0≤s)(hs1:s≤1000000000)(hl:out.length≤7000000)(hs:Srt out):
  ∃o,zBl (A,B,C) 2 n s y3 y FU out 0=some o∧Srt o∧o.length≤out.length+4∧∀q,q∈o↔q∈out∨((q.2=y∨q.2=-y)∧(2*A*q.1+B*q.2)*(2*A*q.1+B*q.2)=s*s):=by
 obtain⟨m,hm⟩:∃m,FU=m+1+1+1:=⟨FU - 3,rfl⟩
 have en:w64 (0 - y)=-y:=by rw[zA (by omega)];omega
 obtain⟨o1,k1,k2,k3,k4⟩:=z3Y (C:=C) (out:=out) (v:=y) (s:=s) (t14:=2) (t16:=0) (n:=n) (y3:=y3) (y4:=y) hA1 hA hB1 hB (by omega) hs0 hs1 (by omega) hs;obtain⟨o2,j1,j2,j3,j4⟩:=z3Y (C:=C) (out:=o1) (v:=-y) (s:=s) (t14:=2) (t16:=1) (n:=n) (y3:=y3) (y4:=y) hA1 hA hB1 hB (by omega) hs0 hs1 (by omega) k2;have g0:getI [y,w64 (0 - y)] 0=some y:=rfl;have g1:getI [y,w64 (0 - y)] 1=some (w64 (0 - y)):=rfl;refine⟨o2,?_,j2,by omega,fun q=>?_⟩
 ·rw[hm,z04 rfl g0,k1,za,show w64 (0+1)=1 from rfl,z04 rfl g1,en,j1,za,show w64 (1+1)=2 from rfl,zBl];rfl
 ·rw[j4,k4];constructor
  ·rintro ((h|⟨a,b⟩)|⟨a,b⟩)
   ·exact .inl h
   ·exact .inr ⟨.inl a,by rw[a];exact b⟩
   ·exact .inr ⟨.inr a,by rw[a];exact b⟩
  ·rintro (h|⟨a|a,b⟩)
   ·exact .inl (.inl h)
   ·exact .inl (.inr ⟨a,by rw[a]at b;exact b⟩)
   ·exact .inr ⟨a,by rw[a]at b;exact b⟩
theorem z27{A B C d n:Int}(hA1:1≤A)(hA:A≤1000000)(hB1:-1000000≤B)(hB:B≤1000000)(hd:B*B - 4*A*C=d)(hd1:-2000≤d)(hd2:d≤-3)(hn1:1≤n)(hn:n≤10000):
  ∀(fu:Nat)(y:Int)(acc:List (Int×Int)),0≤y→y≤200001→200002 - y<fu→Srt acc→(∀p,p∈acc↔Sol A B C n p∧-y<p.2∧p.2<y)→(acc.length:Int)≤4*y→
  ∃l,zD9 (A,B,C) n d fu y acc=some l∧Srt l∧l.length≤1000000∧∀p,p∈l↔Sol A B C n p
 |0,y,acc,h1,h2,h3,_,_,_=>by omega
 |fu+1,y,acc,h1,h2,h3,hs,hm,hl=>by
  rw[zD9];have b1:=qA (x:=d) (y:=y) (A:=2000) (B:=200001) (by omega) (by omega);have b2:=qA (x:=d*y) (y:=y) (A:=2000*200001) (B:=200001) b1 (by omega);have b3:=qA (x:=4*A) (y:=n) (A:=4000000) (B:=10000) (by omega) (by omega);have e0:w64 (0 - d)=-d:=by rw[zA (by omega)];omega
  have eN:-d*y*y=-(d*y*y):=by grind
  have eM:-d*y=-(d*y):=by grind
  have ec1:w64 (w64 (w64 (0 - d)*y)*y)=-(d*y*y):=by rw[e0,qB (n:=-d*y) (by rw[eM];omega),qB (by rw[eN];omega),eN]
  have ec2:w64 (w64 (4*A)*n)=4*A*n:=by rw[qB (n:=4*A) (by omega),qB (by omega)]
  have ec3:w64 (w64 (w64 (d*y)*y)+4*A*n)=d*y*y+4*A*n:=by rw[qB (n:=d*y) (by omega),qB (n:=d*y*y) (by omega),qB (by omega)]
  have hw1:w64 (y+1)=y+1:=zA (by omega);simp only[ec1,ec2,ec3,qP,za];by_cases hy:-(d*y*y)≤4*A*n
  ·have hyb:y≤200000:=by
    rcases Int.lt_or_le 200000 y with h|h
    ·exfalso
     have e5:y=200001:=by omega
     subst e5;have:d*200001*200001≤-3*200001*200001:=by omega
     omega
    ·exact h
   rw[zd hy,zb];generalize hq:d*y*y+4*A*n=q;have hq0:0≤q:=by omega
   obtain⟨s,g1,g2,g3,g4,g5⟩:=z4G hq0 (by omega);have hss:=qA (x:=s) (y:=s) (A:=1000000000) (B:=1000000000) (by omega) (by omega);rw[g1];simp only[za];rw[qB (n:=s*s) (by omega)];have hsol:∀p:Int×Int,(p.2=y∨p.2=-y)→(Sol A B C n p↔(2*A*p.1+B*p.2)*(2*A*p.1+B*p.2)=q):=by
    rintro⟨p1,p2⟩ hp;rw[z9W hA1 hd];have:d*p2*p2=d*y*y:=by
     rcases hp with h|h
     ·have h:p2=y:=h;rw[h]
     ·have h:p2=-y:=h;rw[h];grind
    rw[this,hq]
   by_cases hsq:s*s=q
   ·rw[hsq,zUO];have l2:(([y,w64 (0 - y)].length:Nat):Int)=2:=rfl;obtain⟨o,k1,k2,k3,k4⟩:=z8T (C:=C) (n:=n) (y3:=d) (out:=acc) hA1 hA hB1 hB h1 hyb g2 g3 (by omega) hs;simp only[zh,za,zc,zI,l2,k1,hw1];refine z27 hA1 hA hB1 hB hd hd1 hd2 hn1 hn fu (y+1) o (by omega) (by omega) (by omega) k2 (fun p=>?_) (by omega);rw[k4,hm,hsq];constructor
    ·rintro (⟨a,b,c⟩|⟨a,b⟩)
     ·exact⟨a,by omega,by omega⟩
     ·exact⟨(hsol p a).2 b,by omega,by omega⟩
    ·rintro⟨a,b,c⟩;by_cases hp:p.2=y∨p.2=-y
     ·exact .inr ⟨hp,(hsol p hp).1 a⟩
     ·exact .inl ⟨a,by omega,by omega⟩
   ·rw[eqNe hsq];simp only[zi,za,zb,zI,hw1];refine z27 hA1 hA hB1 hB hd hd1 hd2 hn1 hn fu (y+1) acc (by omega) (by omega) (by omega) hs (fun p=>?_) (by omega);rw[hm];constructor
    ·rintro⟨a,b,c⟩;exact⟨a,by omega,by omega⟩
    ·rintro⟨a,b,c⟩;by_cases hp:p.2=y∨p.2=-y
     ·exfalso
      have h5:=(hsol p hp).1 a;rcases zO0 g2 g4 g5 h5 with e|e
      ·exact hsq (by rw[←e];exact h5)
      ·exact hsq (by rw[e]at h5;rw[←h5];grind)
     ·exact⟨a,by omega,by omega⟩
  ·rw[ze hy,zc];refine⟨acc,rfl,hs,by omega,fun p=>?_⟩;rw[hm];constructor
   ·exact fun h=>h.1
   ·intro h;obtain⟨p1,p2⟩:=p;have h5:=(z9W hA1 hd).1 h;have h6:=sqn (2*A*p1+B*p2);have hpy:p2.natAbs<y.natAbs:=by
     rcases Nat.lt_or_ge p2.natAbs y.natAbs with h7|h7
     ·exact h7
     ·exfalso
      have h8:y.natAbs*y.natAbs≤p2.natAbs*p2.natAbs:=Nat.mul_le_mul h7 h7;have h9:y*y=((y.natAbs*y.natAbs:Nat):Int):=Int.natAbs_mul_self.symm;have h10:p2*p2=((p2.natAbs*p2.natAbs:Nat):Int):=Int.natAbs_mul_self.symm;have h11:(-d)*(y*y)≤(-d)*(p2*p2):=zp (by omega) (by omega);have e1:(-d)*(y*y)=-(d*y*y):=by grind
      have e2:(-d)*(p2*p2)=-(d*p2*p2):=by grind
      omega
    exact⟨h,by show -y<p2;omega,by show p2<y;omega⟩
theorem qBI{A B C n:Int}(hA1:1≤A)(hA:A≤1000000)(hB1:-1000000≤B)(hB:B≤1000000)(hdw:zL (A,B,C)=some (B*B - 4*A*C))(hd1:-2000≤B*B - 4*A*C)(hd2:B*B - 4*A*C≤-3)(hn1:1≤n)(hn:n≤10000):
  ∃l,zFO (A,B,C) n=some l∧Srt l∧l.length≤1000000∧∀p,p∈l↔Sol A B C n p:=by
 have hFe:((FU:Nat):Int)=1000000000:=rfl;obtain⟨l,k1,k2,k3,k4⟩:=z27 (A:=A) (B:=B) (C:=C) hA1 hA hB1 hB rfl hd1 hd2 hn1 hn FU 0 [] (by omega) (by omega) (by omega) List.Pairwise.nil (fun p=>by
  constructor
  ·intro h;cases h
  ·rintro⟨a,b,c⟩;omega) (by simp)
 refine⟨l,?_,k2,k3,k4⟩;simp only[zFO,zGu,hdw,za,k1]
theorem zTQ{f:F3}(h:zV f=some true):jA f=some true:=by
 obtain⟨b,hb⟩:=zIh f;cases b with
 |true=>exact hb
 |false=>simp only[zV,hb,za,zc]at h;cases h
theorem z6n{D:Int}(hD1:-2000≤D)(hD2:D≤-3){f:F3}(h:PrRc D f)(n:Int):∃m b,zA4 f n=some (m,b)∧zA3 f n=some (m,b)∧0≤m∧m≤1000000:=by
 obtain⟨c1,c2⟩:=zFj hD1 (by omega) h;have hs:=zTQ c1;have hs2:zD0 f=some true:=by rw[zWu];exact hs
 obtain⟨⟨r1,r2,r3,r4,r5,r6⟩,_⟩:=zGb hD1 h;have hd:=h.2.2.1;unfold zA4 zCf zA3 zF3 zBZ;rw[hs,hs2];simp only[za,zh,zc,zFa,qP];by_cases h1:1≤n
 ·by_cases h2:n≤10000
  ·obtain⟨l,l1,l2,l3,l4⟩:=z1t (A:=f.1) (B:=f.2.1) (C:=f.2.2) (n:=n) r1 r5 (by omega) (by omega) (by omega) (by rw[hd];exact c2) (by rw[hd];exact hD1) (by rw[hd];exact hD2) h1 h2;obtain⟨k,k1,k2,k3,k4⟩:=qBI (A:=f.1) (B:=f.2.1) (C:=f.2.2) (n:=n) r1 (by omega) (by omega) (by omega) (by rw[hd];exact c2) (by rw[hd];exact hD1) (by rw[hd];exact hD2) h1 h2;have e:l=k:=z2w l2 k2 fun p=>(l4 p).trans (k4 p).symm;subst e;have l1':zCE f n=some l:=l1;have k1':zFO f n=some l:=k1;rw[zd h1,zd h2];simp only[zb,zh,zc,l1',k1',za];exact⟨_,_,rfl,rfl,by omega,by omega⟩
  ·rw[zd h1,ze h2];exact⟨0,false,rfl,rfl,by omega,by omega⟩
 ·rw[ze h1];exact⟨0,false,rfl,rfl,by omega,by omega⟩
def pmL:List Int→List Int→Bool
 |[],[]=>true
 |x::xs,y::ys=>bif eqI x y&&(eqI x 1||eqI x (-1)) then pmL xs ys else false
 |_,_=>false
def gOne(f:F3):Bool:=match zCB f,zFP f with
 |some a,some b=>pmL a b&&Nat.ble a.length 20
 |_,_=>false
def gqO(n a b:Nat):Bool:=bif Nat.beq ((b*b+n) % (4*a)) 0 then fN ((b*b+n) / (4*a)) fun c=>(bif Nat.ble a c&&Nat.beq (Nat.gcd a (Nat.gcd b c)) 1 then (bif gOne ((a:Int),(b:Int),(c:Int)) then gOne ((a:Int),-(b:Int),(c:Int)) else false) else true) else true
def gqB(n a:Nat):Nat→Bool
 |0=>gqO n a 0
 |b+1=>bif gqO n a (b+1) then gqB n a b else false
def gqA(n:Nat):Nat→Bool
 |0=>true
 |a+1=>bif Nat.ble (3*(a+1)*(a+1)) n then (bif gqB n (a+1) (a+1) then gqA n a else false) else gqA n a
def gqN:Nat→Nat→Bool
 |0,_=>true
 |k+1,n=>bif gqA n 25 then gqN k (n+1) else false
theorem zAF:∀(k n:Nat),gqN k n=true→∀m,n≤m→m<n+k→gqA m 25=true
 |0,n,_,m,h1,h2=>by omega
 |k+1,n,h,m,h1,h2=>by
  unfold gqN at h;cases hh:gqA n 25 with
  |false=>rw[hh]at h;cases h
  |true=>
   rw[hh,zb]at h;by_cases e:m=n
   ·subst e;exact hh
   ·exact zAF k (n+1) h m (by omega) (by omega)
theorem qAh:gqN 50 3=true:=by decide+kernel
theorem qAg:gqN 50 53=true:=by decide+kernel
theorem qAf:gqN 50 103=true:=by decide+kernel
theorem qAe:gqN 50 153=true:=by decide+kernel
theorem qAd:gqN 50 203=true:=by decide+kernel
theorem qAc:gqN 50 253=true:=by decide+kernel
theorem qAb:gqN 50 303=true:=by decide+kernel
theorem qAa:gqN 50 353=true:=by decide+kernel
theorem qA9:gqN 50 403=true:=by decide+kernel
theorem qA8:gqN 50 453=true:=by decide+kernel
theorem qA7:gqN 50 503=true:=by decide+kernel
theorem qA6:gqN 50 553=true:=by decide+kernel
theorem qA5:gqN 50 603=true:=by decide+kernel
theorem qA4:gqN 50 653=true:=by decide+kernel
theorem qA3:gqN 50 703=true:=by decide+kernel
theorem qA2:gqN 50 753=true:=by decide+kernel
theorem qA1:gqN 50 803=true:=by decide+kernel
theorem qA0:gqN 50 853=true:=by decide+kernel
theorem qAZ:gqN 50 903=true:=by decide+kernel
theorem qAY:gqN 50 953=true:=by decide+kernel
theorem qAX:gqN 50 1003=true:=by decide+kernel
theorem qAW:gqN 50 1053=true:=by decide+kernel
theorem qAV:gqN 50 1103=true:=by decide+kernel
theorem qAU:gqN 50 1153=true:=by decide+kernel
theorem qAT:gqN 50 1203=true:=by decide+kernel
theorem qAS:gqN 50 1253=true:=by decide+kernel
theorem qAR:gqN 50 1303=true:=by decide+kernel
theorem qAQ:gqN 50 1353=true:=by decide+kernel
theorem qAP:gqN 50 1403=true:=by decide+kernel
theorem qAO:gqN 50 1453=true:=by decide+kernel
theorem qAN:gqN 50 1503=true:=by decide+kernel
theorem qAM:gqN 50 1553=true:=by decide+kernel
theorem qAL:gqN 50 1603=true:=by decide+kernel
theorem qAK:gqN 50 1653=true:=by decide+kernel
theorem qAJ:gqN 50 1703=true:=by decide+kernel
theorem qAI:gqN 50 1753=true:=by decide+kernel
theorem qAH:gqN 50 1803=true:=by decide+kernel
theorem qAG:gqN 50 1853=true:=by decide+kernel
theorem qAF:gqN 50 1903=true:=by decide+kernel
theorem qAE:gqN 50 1953=true:=by decide+kernel
theorem qAD{n:Nat}(h1:3≤n)(h2:n≤2000):gqA n 25=true:=by
 rcases Nat.lt_or_ge n 1003 with h|h
 ·skip
  rcases Nat.lt_or_ge n 503 with h|h
  ·skip
   rcases Nat.lt_or_ge n 253 with h|h
   ·skip
    rcases Nat.lt_or_ge n 103 with h|h
    ·skip
     rcases Nat.lt_or_ge n 53 with h|h
     ·skip
      exact zAF 50 3 qAh n (by omega) (by omega)
     ·skip
      exact zAF 50 53 qAg n (by omega) (by omega)
    ·skip
     rcases Nat.lt_or_ge n 153 with h|h
     ·skip
      exact zAF 50 103 qAf n (by omega) (by omega)
     ·skip
      rcases Nat.lt_or_ge n 203 with h|h
      ·skip
       exact zAF 50 153 qAe n (by omega) (by omega)
      ·skip
       exact zAF 50 203 qAd n (by omega) (by omega)
   ·skip
    rcases Nat.lt_or_ge n 353 with h|h
    ·skip
     rcases Nat.lt_or_ge n 303 with h|h
     ·skip
      exact zAF 50 253 qAc n (by omega) (by omega)
     ·skip
      exact zAF 50 303 qAb n (by omega) (by omega)
    ·skip
     rcases Nat.lt_or_ge n 403 with h|h
     ·skip
      exact zAF 50 353 qAa n (by omega) (by omega)
     ·skip
      rcases Nat.lt_or_ge n 453 with h|h
      ·skip
       exact zAF 50 403 qA9 n (by omega) (by omega)
      ·skip
       exact zAF 50 453 qA8 n (by omega) (by omega)
  ·skip
   rcases Nat.lt_or_ge n 753 with h|h
   ·skip
    rcases Nat.lt_or_ge n 603 with h|h
    ·skip
     rcases Nat.lt_or_ge n 553 with h|h
     ·skip
      exact zAF 50 503 qA7 n (by omega) (by omega)
     ·skip
      exact zAF 50 553 qA6 n (by omega) (by omega)
    ·skip
     rcases Nat.lt_or_ge n 653 with h|h
     ·skip
      exact zAF 50 603 qA5 n (by omega) (by omega)
     ·skip
      rcases Nat.lt_or_ge n 703 with h|h
      ·skip
       exact zAF 50 653 qA4 n (by omega) (by omega)
      ·skip
       exact zAF 50 703 qA3 n (by omega) (by omega)
   ·skip
    rcases Nat.lt_or_ge n 853 with h|h
    ·skip
     rcases Nat.lt_or_ge n 803 with h|h
     ·skip
      exact zAF 50 753 qA2 n (by omega) (by omega)
     ·skip
      exact zAF 50 803 qA1 n (by omega) (by omega)
    ·skip
     rcases Nat.lt_or_ge n 903 with h|h
     ·skip
      exact zAF 50 853 qA0 n (by omega) (by omega)
     ·skip
      rcases Nat.lt_or_ge n 953 with h|h
      ·skip
       exact zAF 50 903 qAZ n (by omega) (by omega)
      ·skip
       exact zAF 50 953 qAY n (by omega) (by omega)
 ·skip
  rcases Nat.lt_or_ge n 1503 with h|h
  ·skip
   rcases Nat.lt_or_ge n 1253 with h|h
   ·skip
    rcases Nat.lt_or_ge n 1103 with h|h
    ·skip
     rcases Nat.lt_or_ge n 1053 with h|h
     ·skip
      exact zAF 50 1003 qAX n (by omega) (by omega)
     ·skip
      exact zAF 50 1053 qAW n (by omega) (by omega)
    ·skip
     rcases Nat.lt_or_ge n 1153 with h|h
     ·skip
      exact zAF 50 1103 qAV n (by omega) (by omega)
     ·skip
      rcases Nat.lt_or_ge n 1203 with h|h
      ·skip
       exact zAF 50 1153 qAU n (by omega) (by omega)
      ·skip
       exact zAF 50 1203 qAT n (by omega) (by omega)
   ·skip
    rcases Nat.lt_or_ge n 1353 with h|h
    ·skip
     rcases Nat.lt_or_ge n 1303 with h|h
     ·skip
      exact zAF 50 1253 qAS n (by omega) (by omega)
     ·skip
      exact zAF 50 1303 qAR n (by omega) (by omega)
    ·skip
     rcases Nat.lt_or_ge n 1403 with h|h
     ·skip
      exact zAF 50 1353 qAQ n (by omega) (by omega)
     ·skip
      rcases Nat.lt_or_ge n 1453 with h|h
      ·skip
       exact zAF 50 1403 qAP n (by omega) (by omega)
      ·skip
       exact zAF 50 1453 qAO n (by omega) (by omega)
  ·skip
   rcases Nat.lt_or_ge n 1753 with h|h
   ·skip
    rcases Nat.lt_or_ge n 1603 with h|h
    ·skip
     rcases Nat.lt_or_ge n 1553 with h|h
     ·skip
      exact zAF 50 1503 qAN n (by omega) (by omega)
     ·skip
      exact zAF 50 1553 qAM n (by omega) (by omega)
    ·skip
     rcases Nat.lt_or_ge n 1653 with h|h
     ·skip
      exact zAF 50 1603 qAL n (by omega) (by omega)
     ·skip
      rcases Nat.lt_or_ge n 1703 with h|h
      ·skip
       exact zAF 50 1653 qAK n (by omega) (by omega)
      ·skip
       exact zAF 50 1703 qAJ n (by omega) (by omega)
   ·skip
    rcases Nat.lt_or_ge n 1853 with h|h
    ·skip
     rcases Nat.lt_or_ge n 1803 with h|h
     ·skip
      exact zAF 50 1753 qAI n (by omega) (by omega)
     ·skip
      exact zAF 50 1803 qAH n (by omega) (by omega)
    ·skip
     rcases Nat.lt_or_ge n 1903 with h|h
     ·skip
      exact zAF 50 1853 qAG n (by omega) (by omega)
     ·skip
      rcases Nat.lt_or_ge n 1953 with h|h
      ·skip
       exact zAF 50 1903 qAF n (by omega) (by omega)
      ·skip
       exact zAF 50 1953 qAE n (by omega) (by omega)
theorem z5d:∀{a b:List Int},pmL a b=true→a=b∧∀x∈a,x=1∨x=-1
 |[],[],_=>⟨rfl,by intro x hx;cases hx⟩
 |[],_::_,h=>by cases h
 |_::_,[],h=>by cases h
 |x::xs,y::ys,h=>by
  unfold pmL at h;cases hh:(eqI x y&&(eqI x 1||eqI x (-1))) with
  |false=>rw[hh]at h;cases h
  |true=>
   rw[hh,zb]at h;obtain⟨h1,h2⟩:=z5d h;rw[zk,Bool.or_eq_true,jN,jN,jN,beq_iff_eq,beq_iff_eq,beq_iff_eq]at hh;refine⟨by rw[hh.1,h1],fun z hz=>?_⟩;rcases List.mem_cons.1 hz with e|e
   ·subst e;exact hh.2
   ·exact h2 z e
theorem z39{f:F3}(h:gOne f=true):∃l,zCB f=some l∧zFP f=some l∧l.length≤20∧∀x∈l,x=1∨x=-1:=by
 unfold gOne at h;split at h
 ·rename_i a b ha hb;rw[zk]at h;obtain⟨h1,h2⟩:=z5d h.1;exact⟨a,ha,by rw[hb,h1],Nat.le_of_ble_eq_true h.2,h2⟩
 ·cases h
theorem z6R:∀(k:Nat){n a:Nat},gqB n a k=true→∀b,b≤k→gqO n a b=true
 |0,n,a,h,b,hb=>by
  have:b=0:=by omega
  subst this;exact h
 |k+1,n,a,h,b,hb=>by
  unfold gqB at h;cases hh:gqO n a (k+1) with
  |false=>rw[hh]at h;cases h
  |true=>
   rw[hh,zb]at h;by_cases e:b=k+1
   ·subst e;exact hh
   ·exact z6R k h b (by omega)
theorem z6S:∀(k:Nat){n:Nat},gqA n k=true→∀a,1≤a→a≤k→3*a*a≤n→gqB n a a=true
 |0,n,h,a,h1,h2,h3=>by omega
 |k+1,n,h,a,h1,h2,h3=>by
  unfold gqA at h;by_cases e:a=k+1
  ·subst e;have:Nat.ble (3*(k+1)*(k+1)) n=true:=Nat.ble_eq_true_of_le h3;rw[this,zb]at h;cases hh:gqB n (k+1) (k+1) with
   |true=>rfl
   |false=>rw[hh]at h;cases h
  ·have hk:gqA n k=true:=by
    cases h4:Nat.ble (3*(k+1)*(k+1)) n with
    |false=>rw[h4,zc]at h;exact h
    |true=>
     rw[h4,zb]at h;cases hh:gqB n (k+1) (k+1) with
     |true=>rw[hh,zb]at h;exact h
     |false=>rw[hh]at h;cases h
   exact z6S k hk a h1 (by omega) h3
theorem z6s{D:Int}(hD1:-2000≤D)(hD2:D≤-3){f:F3}(h:PrRc D f):∃l,zCB f=some l∧zFP f=some l∧l.length≤20∧∀x∈l,x=1∨x=-1:=by
 obtain⟨A,B,C⟩:=f;obtain⟨⟨r1,r2,r3,r4,r5,r6⟩,r7⟩:=zGb hD1 h;obtain⟨k1,⟨⟨k2,k3⟩,k4⟩,k5,k6⟩:=h;dsimp only at r1 r2 r3 r4 r5 r6 r7 k1 k2 k3 k4 k5 k6;have hs:=zY1 (a:=A) (b:=B) (c:=C) (d:=D) k1 ⟨⟨k2,k3⟩,k4⟩ k5;obtain⟨n,hn⟩:∃n:Nat,D=-(n:Int):=⟨D.natAbs,by omega⟩
 obtain⟨a,ha⟩:∃a:Nat,A=(a:Int):=⟨A.natAbs,by omega⟩
 obtain⟨c,hc⟩:∃c:Nat,C=(c:Int):=⟨C.natAbs,by omega⟩
 obtain⟨b,hb⟩:∃b:Nat,B=(b:Int)∨B=-(b:Int):=⟨B.natAbs,by omega⟩
 have hbb:B*B=((b*b:Nat):Int):=by rcases hb with e|e<;>rw[e]<;>push_cast<;>grind
 have hnat:b*b+n=4*a*c:=by
  have:((b*b+n:Nat):Int)=((4*a*c:Nat):Int):=by push_cast;rw[hbb,ha,hc,hn]at k5;push_cast at k5;omega
  exact_mod_cast this
 have hsn:3*a*a≤n:=by
  have:((3*a*a:Nat):Int)≤(n:Int):=by push_cast;rw[ha,hn]at hs;omega
  exact_mod_cast this
 have t1:=z6S 25 (qAD (n:=n) (by omega) (by omega)) a (by omega) (by omega) hsn;have t2:=z6R a t1 b (by omega);unfold gqO at t2;have e1:(b*b+n) % (4*a)=0:=by rw[hnat];exact Nat.mul_mod_right _ _
 have e2:(b*b+n) / (4*a)=c:=by rw[hnat];exact Nat.mul_div_cancel_left c (by omega)
 rw[e1,e2,z64]at t2;have e3:(Nat.ble a c&&Nat.beq (Nat.gcd a (Nat.gcd b c)) 1)=true:=by
  rw[zk];refine⟨Nat.ble_eq_true_of_le (by omega),?_⟩;have hg:Nat.gcd a (Nat.gcd b c)=1:=by
   have d1:((Nat.gcd a (Nat.gcd b c):Nat):Int)∣A:=by rw[ha];exact Int.natCast_dvd_natCast.2 (Nat.gcd_dvd_left _ _)
   have d2:((Nat.gcd a (Nat.gcd b c):Nat):Int)∣B:=by
    have:Nat.gcd a (Nat.gcd b c)∣b:=Nat.dvd_trans (Nat.gcd_dvd_right _ _) (Nat.gcd_dvd_left _ _);rcases hb with e|e<;>rw[e]
    ·exact Int.natCast_dvd_natCast.2 this
    ·exact Int.dvd_neg.2 (Int.natCast_dvd_natCast.2 this)
   have d3:((Nat.gcd a (Nat.gcd b c):Nat):Int)∣C:=by rw[hc];exact Int.natCast_dvd_natCast.2 (Nat.dvd_trans (Nat.gcd_dvd_right _ _) (Nat.gcd_dvd_right _ _))
   have:=Int.eq_one_of_dvd_one (by omega) (k6 _ d1 d2 d3);omega
  rw[hg];rfl
 have t3:(bif gOne ((a:Int),(b:Int),(c:Int)) then gOne ((a:Int),-(b:Int),(c:Int)) else false)=true:=by rw[e3]at t2;exact t2
 cases g1:gOne ((a:Int),(b:Int),(c:Int)) with
 |false=>rw[g1]at t3;cases t3
 |true=>
  rw[g1,zb]at t3;rw[ha,hc];rcases hb with e|e<;>rw[e]
  ·exact z39 g1
  ·exact z39 t3
end Go.Proofs.YtahdjphocippeaaGreatDoor
namespace Go.Proofs.YtahdjphocippeaaGreatDoor
open Go.RowKit
section
variable {P:Program}
theorem zBa{ops:Array Oper}{rest:List Oper}{s:St}{J:St→Prop}(c:Bool)(h1:c=true→XL P ops rest s J)(h2:c=false→XL P ops rest s J):XL P ops rest s J:=by
 cases c with
 |true=>exact h1 rfl
 |false=>exact h2 rfl
theorem z3w{ops:Array Oper}{rest:List Oper}{s s1:St}{J:St→Prop}(m:List Bool)(ids:List Nat)(h:XL P ops rest s (fun s'=>s'.keep m ids=s1))(hj:J s1):XL P ops rest s J:=by
 intro B w0 ok0 ok σ a w hR Q hQ;refine h _ _ _ _ _ _ _ hR Q fun s' a' w' ok' σ' hs hR'=>?_
 subst hs;exact hQ _ a' w' ok' σ' hj (hR'.le (zHi m ids s'))
theorem z1K{id:Nat}{ops:Array Oper}{s s1:St}{J:Exit→St→Prop}(m:List Bool)(ids:List Nat)(h:XL P ops ops.toList s (fun s'=>s'.keep m ids=s1))(hj:J .normal s1):V P (.region id ops false) s J:=zFo (z3w m ids h hj)
theorem jI{id:Nat}{ops:Array Oper}{y:Code}{s s1:St}{J:Exit→St→Prop}(m:List Bool)(ids:List Nat)(h:XL P ops ops.toList s (fun s'=>s'.keep m ids=s1))(hv:V P y s1 J):V P (.seq (.region id ops false) y) s J:=zD7 (z1K m ids h hv)
def frz1(id:Nat)(t:AV):AV→AV
 | .ow k=>bif k==id then t else .ow k
 | .pt k o=>bif k==id then .bot else .pt k o
 | .po k z i o=>bif k==id then .bot else .po k z i o
 | .tc _ _=>.bot
 |av=>av
def St.frz(s:St)(id:Nat)(els:List (List Tr)):St:=⟨s.T.map (frz1 id (.c (.sl els))),rmE id s.E⟩
theorem z81(s:St)(id:Nat)(els:List (List Tr))(t:Nat):(s.frz id els).get t=frz1 id (.c (.sl els)) (s.get t):=by unfold St.frz St.get;simp only[List.getElem?_map];cases s.T[t]?<;>rfl
theorem zOa(s:St)(id:Nat)(els:List (List Tr))(j:Nat)(e:Ent)(h:(s.frz id els).ent j=some e):j≠id∧s.ent j=some e:=by
 have h2:(rmE id s.E).lookup j=some e:=h;rw[zDN]at h2;split at h2
 ·cases h2
 ·rename_i hne;exact⟨hne,h2⟩
theorem z9e{B:Fr}{w0:World}{ok0 ok:Nat→Prop}{σ:Nat→Loc}{s:St}{a:Act}{w:World}(hR:R B w0 ok0 ok σ s a w)(id:Nat){T sz:Nat}{els:List (List Tr)}(he:s.ent id=some (.arr T sz els)):R B w0 ok0 (fun g=>ok g∨(σ id).blk=some g) σ (s.frz id els) a w:=by
 have hup:∀g,ok g→ok g∨(σ id).blk=some g:=fun g hg=>.inl hg;refine⟨⟨by simpa [St.frz] using hR.core.len,fun g hg=>?_,hR.core.lib.mono hup (fun _ _=>rfl),fun t=>?_,fun j e hj=>?_,fun j e g hj hg=>?_,fun i j e f g hi hj h1 h2=>?_⟩,hR.defers,hR.below,hR.base,fun g hg=>.inl (hR.old g hg),fun g hg=>?_,fun j e g hj hg=>hR.own j e g (zOa s id els j e hj).2 hg⟩
 ·rcases hg with hg|hg
  ·exact hR.core.okL g hg
  ·exact (hR.core.blk id _ g he hg).2
 ·rw[z81];have h1:=hR.core.tmp t;generalize s.get t=av at h1;have same:Rel (fun g=>ok g∨(σ id).blk=some g) σ w av (a.tmps.getD t undef):=h1.mono0 hup fun _ _=>rfl;cases av with
  |ow k=>
   simp only[frz1];cases hk:k==id with
   |false=>exact same
   |true=>
    have e1:k=id:=by simpa using hk
    subst e1;have hle:Le ⟨s.T,[(k,.arr T sz els)]⟩ s:=⟨Nat.le_refl _,fun t=>.inr rfl,fun j e hj=>by
     unfold St.ent at hj;simp only[List.lookup]at hj;split at hj
     ·rename_i hjk;have:j=k:=by simpa using hjk
      subst this;injection hj with hj;subst hj;exact he
     ·cases hj⟩
    have h2:=zOB (hR.le hle).core h1;have e2:zJh ⟨s.T,[(k,.arr T sz els)]⟩ (.ow k)=.c (.sl els):=by simp[zJh,St.entc,St.ent,List.lookup,Ent.core]
    rw[e2]at h2;refine h2.mono0 (fun g hg=>?_) fun _ _=>rfl;rcases hg with hg|⟨j,e,hj,hg⟩
    ·exact .inl hg
    ·refine .inr ?_
     unfold St.ent at hj;simp only[List.lookup]at hj;split at hj
     ·rename_i hjk;have:j=k:=by simpa using hjk
      subst this;exact hg
     ·cases hj
  |pt k o=>
   simp only[frz1];cases k==id with
   |false=>exact same
   |true=>exact trivial
  |po k z i o=>
   simp only[frz1];cases k==id with
   |false=>exact same
   |true=>exact trivial
  |tc x r=>exact trivial
  |tn=>exact same
  |bot=>exact same
  |c t=>exact same
  |ag cs=>exact same
  |pe cs=>exact same
  |fn f caps=>exact same
  |er b=>exact same
  |vw id els m=>exact same
  |sf id z i=>exact same
 ·obtain⟨_,h2⟩:=zOa s id els j e hj;exact (hR.core.ent j e h2).mono hup (fun _ _=>rfl) fun _ _=>rfl
 ·obtain⟨h1,h2⟩:=zOa s id els j e hj;obtain⟨h3,h4⟩:=hR.core.blk j e g h2 hg;refine⟨fun h5=>?_,h4⟩;rcases h5 with h5|h5
  ·exact h3 h5
  ·exact h1 (hR.core.inj _ _ _ _ _ h2 he hg h5)
 ·exact hR.core.inj i j e f g (zOa s id els i e hi).2 (zOa s id els j f hj).2 h1 h2
 ·rcases hg with hg|hg
  ·exact hR.fresh g hg
  ·exact .inr (hR.own id _ g he hg)
theorem zX6{ops:Array Oper}{rest:List Oper}{s s1:St}{J:St→Prop}(id:Nat){T sz:Nat}{els:List (List Tr)}(he:s.ent id=some (.arr T sz els))(hs:s.frz id els=s1)(h:XL P ops rest s1 J):XL P ops rest s J:=by subst hs;exact fun _ _ _ _ _ _ _ hR Q hQ=>h _ _ _ _ _ _ _ (z9e hR id he) Q hQ
theorem z9I{l:List Oper}{ms:List Nat}{n1:Nat}{css:List (List Cd)}{s0:St}{rs:List Res}{K K':St→Prop}(h:DL P l ms n1 css s0 rs K)(hK:∀s,K s→K' s):DL P l ms n1 css s0 rs K':=by intro hchk;obtain⟨more,h1,h2,h3⟩:=h hchk;exact⟨more,h1,h2,hK _ h3⟩
theorem z7e{id:Nat}{l:List Oper}{s s1:St}{J:Exit→St→Prop}(ms:List Nat)(n1:Nat)(css:List (List Cd))(m:List Bool)(ids:List Nat)(hm:P.follows .mixedOrders=true)(hchk:zIw l ms n1 css=true)
  (h:DL P l ms n1 css (prep (l.take n1) s) [] (fun s'=>XL P l.toArray (l.drop n1) s' (fun s''=>s''.keep m ids=s1))) (hj:J .normal s1):V P (.region id l.toArray true) s J:=
 z7f ms n1 css hm hchk (z9I h fun s' hs=>z3w m ids hs hj)
theorem z4A{id:Nat}{l:List Oper}{y:Code}{s s1:St}{J:Exit→St→Prop}(ms:List Nat)(n1:Nat)(css:List (List Cd))(m:List Bool)(ids:List Nat)(hm:P.follows .mixedOrders=true)(hchk:zIw l ms n1 css=true)
  (h:DL P l ms n1 css (prep (l.take n1) s) [] (fun s'=>XL P l.toArray (l.drop n1) s' (fun s''=>s''.keep m ids=s1))) (hv:V P y s1 J):V P (.seq (.region id l.toArray true) y) s J:=zD7 (z7e ms n1 css m ids hm hchk h hv)
theorem zAt{o:Oper}{s:St}{c x y:Operand}{b p q:Bool}(ho:o.op=.pick c x y)(hc:s.ev c=.c (.v (.bool b)))(hb:b=true)(hx:s.ev x=.c (.v (.bool p))):Y0 P o s (Bo (bif b then p else q)):=by subst hb;have h:=zOv (P:=P) ho hc;rw[zb,hx]at h;exact h
theorem zB9{o:Oper}{s:St}{c x y:Operand}{b p q:Bool}(ho:o.op=.pick c x y)(hc:s.ev c=.c (.v (.bool b)))(hb:b=false)(hy:s.ev y=.c (.v (.bool q))):Y0 P o s (Bo (bif b then p else q)):=by subst hb;have h:=zOv (P:=P) ho hc;rw[zc,hy]at h;exact h
theorem z7R{o:Oper}{s:St}{c x y:Operand}{b:Bool}(ho:o.op=.pick c x y)(hc:s.ev c=.c (.v (.bool b)))(hb:b=true):Y0 P o s (s.ev x):=by subst hb;exact z7P ho hc
theorem z7S{o:Oper}{s:St}{c x y:Operand}{b:Bool}(ho:o.op=.pick c x y)(hc:s.ev c=.c (.v (.bool b)))(hb:b=false):Y0 P o s (s.ev y):=by subst hb;exact z7Q ho hc
theorem zWO{z:Array Value}(hz:zFl z=true)(n:Nat):(madeCells z n).toList.all Value.oneCell'=true:=by
 unfold madeCells;rw[List.all_eq_true];intro x hx;simp only[Array.toList_map,List.mem_map]at hx;obtain⟨k,_,rfl⟩:=hx;rcases Nat.lt_or_ge (k % z.size) z.size with h|h
 ·rw[getElem!_pos z _ h];exact (List.all_eq_true.1 hz) _ (by simp)
 ·rw[getElem!_neg z _ (by omega)];rfl
def zHS:Nat→List (Nat×AV)→Option (List (List Tr))
 |_,[]=>some []
 |k,(i,av)::r=>bif Nat.beq i k then (match zCK av,zHS (k+1) r with
  |some cs,some es=>some (cs::es)
  |_,_=>none) else none
theorem zUM(sz:Nat):∀(ps:List (Nat×AV))(k:Nat)(els:List (List Tr))(pre post:List Tr),zHS k ps=some els→(∀e,e∈els→e.length=sz)→pre.length=k*sz→post.length=els.length*sz→zQw (fun i=>some (i*sz,sz)) (pre++post) ps=some (pre++els.flatten)
 |[],k,els,pre,post,h,hs,h1,h2=>by simp only[zHS]at h;injection h with h;subst h;have:post=[]:=List.eq_nil_of_length_eq_zero (by simpa using h2);subst this;rfl
 |(i,av)::r,k,els,pre,post,h,hs,h1,h2=>by
  simp only[zHS]at h;cases hb:Nat.beq i k with
  |false=>rw[hb]at h;cases h
  |true=>
   have hik:i=k:=Nat.eq_of_beq_eq_true hb;subst hik;rw[hb]at h;simp only[zb]at h;split at h
   ·rename_i cs es hc he;injection h with h;subst h;have hl:cs.length=sz:=hs cs (by simp);simp only[zg,Nat.add_mul,Nat.one_mul]at h2;simp only[zQw,hc];rw[if_neg (by simp only[zf];omega)];have e:splice (pre++post) (i*sz) cs=(pre++cs)++post.drop sz:=by
     unfold splice;rw[←h1,List.take_left,hl,List.drop_append,List.drop_eq_nil_of_le (by omega)];rw[show pre.length+sz - pre.length=sz by omega];simp
    rw[e,zUM sz r (i+1) es (pre++cs) (post.drop sz) he (fun x hx=>hs x (by simp[hx])) (by simp[hl,h1,Nat.add_mul]) (by simp;omega)];simp
   ·cases h
theorem zHH{o:Oper}{s:St}{t e sz n:Nat}{z:Value}{parts:Array (Nat×Operand)}{els:List (List Tr)}(ht:P.underlying t=some (.slice e))(hi:(P.info? e).map (fun i=>(i.zero,i.size))=some (some z,sz))(hz:zFl z.cells=true)(hsz:0<sz)(ho:o.op=.buildSlice t n parts)
  (hp:zHS 0 (evP s parts.toList)=some els) (hn:els.length=n) (hs:∀e,e∈els→e.length=sz) (hmax:n*sz≤16777216) (hpos:0<n):Y1 P o s (.ow 0) [(0,.arr e sz els)]:=
 zI4 fun ok σ a w hC=>by
  cases hii:P.info? e with
  |none=>rw[hii]at hi;simp at hi
  |some i=>
   have hi2:i.zero=some z∧i.size=sz:=by rw[hii]at hi;simpa using hi
   have hzall:=zWO hz (n*sz);have hzl:(madeCells z.cells (n*sz)).toList.length=n*sz:=by rw[Array.length_toList];exact size_madeCells _ _
   have hf:=zUM sz (evP s parts.toList) 0 els [] ((madeCells z.cells (n*sz)).toList.map Tr.v) hp hs (by simp) (by simp only[List.length_map,hzl,hn]);obtain⟨arr,h1,h2⟩:=zXN (fun i=>some (i*sz,sz)) (zYu hC parts.toList) _ (madeCells z.cells (n*sz)) _ (z4B ok w _ hzall) (by simpa using hf);have h3:arr.size=els.length*sz:=by have:=h2.len;rw[zGS els sz hs]at this;simpa using this.symm
   have hml:els.length≤maxLen:=by have:n≤n*sz:=Nat.le_mul_of_pos_right n hsz;unfold maxLen;omega
   have hpos2:¬n*sz=0:=by have:=Nat.mul_pos hpos hsz;omega
   have hrun:=run_buildSlice (P:=P) w t e n (parts.map fun (i,x)=>(i,a.eval x)) arr i z ht hii hi2.1 (by rw[hi2.2];omega) (by rw[hi2.2];exact hpos2) (by rw[hi2.2,Array.toList_map];exact h1)
   have hnew:=z4D (ok:=ok) (w:=w) hC.okL e sz hsz hs hml h2 h3;rw[hn]at hnew;refine⟨_,_,_,?_,hnew⟩;unfold execOp;rw[ho];simp only[Sem.run_bind,hrun,Result.andThen_ok,Sem.run_pure]
theorem zN0{o:Oper}{s:St}{t e sz:Nat}{parts:Array (Nat×Operand)}(ht:P.underlying t=some (.slice e))(hi:(P.info? e).map (·.size)=some sz)(hsz:0<sz)(ho:o.op=.buildSlice t 0 parts)(hp:parts=#[]):Y1 P o s (.ow 0) [(0,.arr e sz [])]:=
 zI4 fun ok σ a w hC=>by
  subst hp;cases hii:P.info? e with
  |none=>rw[hii]at hi;simp at hi
  |some i=>
   have hi2:i.size=sz:=by rw[hii]at hi;simpa using hi
   refine⟨_,_,_,?_,z4D (ok:=ok) (w:=w) (els:=[]) (arr:=#[]) hC.okL e sz hsz (by intro el h;cases h) (Nat.zero_le _) RdL.nil (by simp)⟩;unfold execOp;rw[ho];simp[Instr.buildSlice,run_underlying ht,sizeOf,typeInfo,hii,Instr.fill,newRow];congr 2;exact Array.eq_empty_of_size_eq_zero (by simp)
end
section
variable {P:Program}
theorem zD{ops:Array Oper}{o:Oper}{rest:List Oper}{s s':St}{J:St→Prop}{j t:Nat}{b:Bool}(c:Bool)(hg:o.guard=some (j,b))(ht:(ops[j]?).bind (·.dst)=some t)(hb:s.get t=.c (.v (.bool c)))(hc:c=b)
  (h:X P o s s') (hk:XL P ops rest s' J):XL P ops (o::rest) s J:=by
 subst hc;exact z3v hg ht hb h hk
theorem zY{ops:Array Oper}{o:Oper}{rest:List Oper}{s:St}{J:St→Prop}{j t d:Nat}(c:Bool)(hg:o.guard=some (j,true))(ht:(ops[j]?).bind (·.dst)=some t)(hb:s.get t=.c (.v (.bool c)))(hc:c=false)
  (hd:o.dst=some d) (hk:XL P ops rest (s.put d .tn) J):XL P ops (o::rest) s J:=by
 subst hc;exact zZ1 hg ht hb (by decide) hd hk
theorem qV{ops:Array Oper}{o:Oper}{rest:List Oper}{s:St}{J:St→Prop}{j t d:Nat}(c:Bool)(hg:o.guard=some (j,false))(ht:(ops[j]?).bind (·.dst)=some t)(hb:s.get t=.c (.v (.bool c)))(hc:c=true)
  (hd:o.dst=some d) (hk:XL P ops rest (s.put d .tn) J):XL P ops (o::rest) s J:=by
 subst hc;exact zZ1 hg ht hb (by decide) hd hk
theorem zK{o:Oper}{s:St}{x:Operand}(av:AV)(ho:o.op=.move x)(hx:s.ev x=av):Y0 P o s av:=hx▸z3t ho
theorem zG{o:Oper}{s:St}{x:Operand}(av:AV)(ho:o.op=.assign x)(hx:s.ev x=av):Y0 P o s av:=hx▸zX4 ho
theorem zH6{o:Oper}{s:St}{x:Operand}{n:Nat}(y r av:AV)(ho:o.op=.extract x n)(hx:s.ev x=.tc y r)(hav:(AV.tc y r).nth n=av)(hb:av≠.bot):Y0 P o s av:=by subst hav;exact qBX ho hx hb
theorem z4E{o:Oper}{s:St}{x:Operand}(av:AV)(ho:o.op=.nilCheck x)(hx:s.ev x=av)(hb:av.adv 0≠.bot):Y0 P o s av:=by subst hx;exact z1G ho hb
theorem zA8{o:Oper}{s:St}{t:TypeId}{x:Operand}{f:Nat}{fields:Array Field}{fd:Field}{n:Nat}(av:AV)(hu:P.underlying t=some (.struct fields))(hfd:fields[f]?=some fd)(hsz:((P.info? fd.type).map (·.size))=some (n+1))(ho:o.op=.fieldAddr t x f)
  (hav:(s.ev x).adv fd.offset=av) (hb:av≠.bot):Y0 P o s av:=by
 subst hav;exact z7Y hu hfd hsz ho hb
theorem zHs{o:Oper}{s:St}{t:TypeId}{x:Operand}{n:Nat}{cs:List Tr}(ds:List Tr)(hs:wide P t n)(ho:o.op=.load t x)(hm:zAs s (s.ev x)=some cs)(hn:n≤cs.length)(hd:cs.take n=ds):Y0 P o s (.ag ds):=by subst hd;exact z1H hs ho hm hn
theorem z7o{α:Type}{c:α→List Tr}{xs:List α}{v:α}{o:Oper}{s:St}{t:TypeId}{x:Operand}{id sz T off m:Nat}{n:Int}(ds:List Tr)(hs:wide P t m)(ho:o.op=.load t x)(hx:s.ev x=.po id sz n.toNat off)(he:s.entc id=some (.arr T sz (xs.map c)))(hv:getI xs n=some v)
  (hm:m≤((c v).drop off).length) (hd:((c v).drop off).take m=ds):Y0 P o s (.ag ds):=by
 subst hd;exact z4i hs ho hx he hv rfl hm
theorem zFp{o:Oper}{s:St}{t:TypeId}{x y:Operand}{id off:Nat}{cs vc:List Tr}(ds:List Tr)(ho:o.op=.store t x y)(hd:o.dst=none)(hx:s.ev x=.pt id off)(he:s.ent id=some (.box cs))(hy:zCK (s.ev y)=some vc)(hi:(P.info? t).map (·.size)=some vc.length)(hl:off+vc.length≤cs.length)(hs:splice cs off vc=ds):
  X P o s ⟨s.T,setE id (.box ds) s.E⟩:=by
 subst hs;exact z3u ho hd hx he hy hi hl
theorem z7n{l:Loc}{o:Oper}{s:St}{t:TypeId}{x y:Operand}{id off:Nat}{cs vc:List Tr}(ds:List Tr)(ho:o.op=.store t x y)(hd:o.dst=none)(hx:s.ev x=.pt id off)(he:s.ent id=some (.pbox l cs))(hy:zCK (s.ev y)=some vc)(hi:(P.info? t).map (·.size)=some vc.length)(hl:off+vc.length≤cs.length)(hs:splice cs off vc=ds):
  X P o s ⟨s.T,setE id (.pbox l ds) s.E⟩:=by
 subst hs;exact z71 ho hd hx he hy hi hl
theorem qBK{o:Oper}{s:St}{x y:Operand}{t t2:TypeId}{k k2:IntKind}{a b:Int}(ho:o.op=.binOp .shr t x y t2)(hx:s.ev x=.c (.v (.int k a)))(hy:s.ev y=.c (.v (.int k2 b)))(h0:¬b<0):Y0 P o s (.c (.v (.int k (shrI k a b)))):=
 zDD ho hx hy (fun w=>by unfold eqGuard;rfl) (fun w=>by simp[binOp,Op.shift,h0,shrI]) rfl
theorem qBL{o:Oper}{s:St}{x y:Operand}{t t2:TypeId}{k k2:IntKind}{a b:Int}(ho:o.op=.binOp .shl t x y t2)(hx:s.ev x=.c (.v (.int k a)))(hy:s.ev y=.c (.v (.int k2 b)))(h0:¬b<0):Y0 P o s (.c (.v (.int k (shlI k a b)))):=
 zDD ho hx hy (fun w=>by unfold eqGuard;rfl) (fun w=>by simp[binOp,Op.shift,h0,shlI]) rfl
theorem qBZ{o:Oper}{s:St}{x y:Operand}{t t2:TypeId}{k:IntKind}{a b:Int}(ho:o.op=.binOp .and t x y t2)(hx:s.ev x=.c (.v (.int k a)))(hy:s.ev y=.c (.v (.int k b))):Y0 P o s (.c (.v (.int k (andI k a b)))):=
 zDD ho hx hy (zC1 _ _ _ _ _ _ _) (fun w=>by simp[binOp,Op.intBits,andI]) rfl
theorem Y0_or{o:Oper}{s:St}{x y:Operand}{t t2:TypeId}{k:IntKind}{a b:Int}(ho:o.op=.binOp .or t x y t2)(hx:s.ev x=.c (.v (.int k a)))(hy:s.ev y=.c (.v (.int k b))):Y0 P o s (.c (.v (.int k (orI k a b)))):=
 zDD ho hx hy (zC1 _ _ _ _ _ _ _) (fun w=>by simp[binOp,Op.intBits,orI]) rfl
theorem qBJ{o:Oper}{s:St}{x y:Operand}{t t2:TypeId}{k:IntKind}{a b:Int}(ho:o.op=.binOp .xor t x y t2)(hx:s.ev x=.c (.v (.int k a)))(hy:s.ev y=.c (.v (.int k b))):Y0 P o s (.c (.v (.int k (xorI k a b)))):=
 zDD ho hx hy (zC1 _ _ _ _ _ _ _) (fun w=>by simp[binOp,Op.intBits,xorI]) rfl
theorem zLF{o:Oper}{s:St}{c x y:Operand}{b p q:Bool}(ho:o.op=.pick c x y)(hc:s.ev c=.c (.v (.bool b)))(hb:b=true)(hx:s.ev x=.c (.v (.bool p)))(he:p=q):Y0 P o s (Bo q):=by subst he;have h:=z7R (P:=P) ho hc hb;rw[hx]at h;exact h
theorem zLG{o:Oper}{s:St}{c x y:Operand}{b p q:Bool}(ho:o.op=.pick c x y)(hc:s.ev c=.c (.v (.bool b)))(hb:b=false)(hy:s.ev y=.c (.v (.bool p)))(he:p=q):Y0 P o s (Bo q):=by subst he;have h:=z7S (P:=P) ho hc hb;rw[hy]at h;exact h
theorem z9c{c:Code}{s s1:St}{J:Exit→St→Prop}(m:List Bool)(ids:List Nat)(h1:V P c s (zNe (fun s'=>s'.keep m ids=s1) J))(h2:J .normal s1):V P c s J:=by
 intro B w0 ok0 ok σ a w hR;refine wp_mono (h1 _ _ _ _ _ _ _ hR) ?_
 rintro e a' w' ⟨s',ok',σ',hJ,hR'⟩;cases e with
 |normal=>have hk:s'.keep m ids=s1:=hJ;subst hk;exact⟨_,ok',σ',h2,hR'.le (zHi m ids s')⟩
 |exit id=>exact⟨s',ok',σ',hJ,hR'⟩
 |goto l=>exact⟨s',ok',σ',hJ,hR'⟩
 |ret=>exact⟨s',ok',σ',hJ,hR'⟩
 |panic ch=>exact⟨s',ok',σ',hJ,hR'⟩
 |outgrown=>exact⟨s',ok',σ',hJ,hR'⟩
theorem V_toS{α β:Type}{q:α ⊕ β}{c:Code}{s:St}{S:α→St}{J:Exit→St→Prop}(m:List Bool)(ids:List Nat)(h1:V P c s (zNe (fun s'=>∃o,q=.inl o∧s'.keep m ids=S o) J))(h2:∀o,q=.inl o→J .normal (S o)):V P c s J:=by
 intro B w0 ok0 ok σ a w hR;refine wp_mono (h1 _ _ _ _ _ _ _ hR) ?_
 rintro e a' w' ⟨s',ok',σ',hJ,hR'⟩;cases e with
 |normal=>obtain⟨o,ho,hk⟩:∃o,q=.inl o∧s'.keep m ids=S o:=hJ;have h3:=h2 o ho;rw[←hk]at h3;exact⟨_,ok',σ',h3,hR'.le (zHi m ids s')⟩
 |exit id=>exact⟨s',ok',σ',hJ,hR'⟩
 |goto l=>exact⟨s',ok',σ',hJ,hR'⟩
 |ret=>exact⟨s',ok',σ',hJ,hR'⟩
 |panic ch=>exact⟨s',ok',σ',hJ,hR'⟩
 |outgrown=>exact⟨s',ok',σ',hJ,hR'⟩
theorem qB6{x y:Code}{s s1:St}{J:Exit→St→Prop}(m:List Bool)(ids:List Nat)(h1:V P x s (zNe (fun s'=>s'.keep m ids=s1) J))(h2:V P y s1 J):V P (.seq x y) s J:=by refine zD7 (z9c (s1:=s1) m ids (z2k h1 fun e s' h=>?_) h2);cases e<;>exact h
def z7m(P:Program)(op:BinOp)(t:TypeId):Prop:=∀(a0 a1 b0 b1:Int)(x y:Operand)(w:World),(eqGuard op t x y (.agg #[.int .i64 a0,.int .i64 a1]) (.agg #[.int .i64 b0,.int .i64 b1])).run P w=.ok () w∧(binOp op t (.agg #[.int .i64 a0,.int .i64 a1]) (.agg #[.int .i64 b0,.int .i64 b1])).run P w=.ok (.bool (match op with| .neq=>!((a0==b0)&&(a1==b1))|_=>((a0==b0)&&(a1==b1)))) w
theorem ag2{ok:Nat→Prop}{σ:Nat→Loc}{w:World}{y:Value}{a0 a1:Int}(h:Rel ok σ w (.ag [Ti a0,Ti a1]) y):y=(.agg #[.int .i64 a0,.int .i64 a1]):=by
 obtain⟨vs,rfl,hr⟩:=h;obtain⟨l⟩:=vs;cases hr with
 |cons p1 q1=>
 cases p1;cases q1 with
 |cons p2 q2=>
 cases p2;cases q2;rfl
theorem z8v{o:Oper}{s:St}{x y:Operand}{t t2:TypeId}{a0 a1 b0 b1:Int}(h:z7m P .eql t)(ho:o.op=.binOp .eql t x y t2)(hx:s.ev x=.ag [Ti a0,Ti a1])(hy:s.ev y=.ag [Ti b0,Ti b1]):Y0 P o s (Bo (((a0==b0)&&(a1==b1)))):=
 qN fun ok σ a w hC=>by have h1:=hC.ev x;rw[hx]at h1;have h2:=hC.ev y;rw[hy]at h2;obtain⟨h3,h4⟩:=h a0 a1 b0 b1 x y w;refine⟨_,?_,zKo _ _ _⟩;unfold execOp;rw[ho];simp only[ag2 h1,ag2 h2,Sem.run_bind,h3,h4,Result.andThen_ok,Sem.run_pure]
def zX7(P:Program)(op:BinOp)(t:TypeId):Prop:=∀(a0 a1 a2 b0 b1 b2:Int)(x y:Operand)(w:World),(eqGuard op t x y (.agg #[.int .i64 a0,.int .i64 a1,.int .i64 a2]) (.agg #[.int .i64 b0,.int .i64 b1,.int .i64 b2])).run P w=.ok () w∧(binOp op t (.agg #[.int .i64 a0,.int .i64 a1,.int .i64 a2]) (.agg #[.int .i64 b0,.int .i64 b1,.int .i64 b2])).run P w=.ok (.bool (match op with| .neq=>!((a0==b0)&&((a1==b1)&&(a2==b2)))|_=>((a0==b0)&&((a1==b1)&&(a2==b2))))) w
theorem ag3{ok:Nat→Prop}{σ:Nat→Loc}{w:World}{y:Value}{a0 a1 a2:Int}(h:Rel ok σ w (.ag [Ti a0,Ti a1,Ti a2]) y):y=(.agg #[.int .i64 a0,.int .i64 a1,.int .i64 a2]):=by
 obtain⟨vs,rfl,hr⟩:=h;obtain⟨l⟩:=vs;cases hr with
 |cons p1 q1=>
 cases p1;cases q1 with
 |cons p2 q2=>
 cases p2;cases q2 with
 |cons p3 q3=>
 cases p3;cases q3;rfl
theorem z8u{o:Oper}{s:St}{x y:Operand}{t t2:TypeId}{a0 a1 a2 b0 b1 b2:Int}(h:zX7 P .eql t)(ho:o.op=.binOp .eql t x y t2)(hx:s.ev x=.ag [Ti a0,Ti a1,Ti a2])(hy:s.ev y=.ag [Ti b0,Ti b1,Ti b2]):Y0 P o s (Bo (((a0==b0)&&((a1==b1)&&(a2==b2))))):=
 qN fun ok σ a w hC=>by have h1:=hC.ev x;rw[hx]at h1;have h2:=hC.ev y;rw[hy]at h2;obtain⟨h3,h4⟩:=h a0 a1 a2 b0 b1 b2 x y w;refine⟨_,?_,zKo _ _ _⟩;unfold execOp;rw[ho];simp only[ag3 h1,ag3 h2,Sem.run_bind,h3,h4,Result.andThen_ok,Sem.run_pure]
theorem z8q{o:Oper}{s:St}{x y:Operand}{t t2:TypeId}{a0 a1 a2 b0 b1 b2:Int}(h:zX7 P .neq t)(ho:o.op=.binOp .neq t x y t2)(hx:s.ev x=.ag [Ti a0,Ti a1,Ti a2])(hy:s.ev y=.ag [Ti b0,Ti b1,Ti b2]):Y0 P o s (Bo (!((a0==b0)&&((a1==b1)&&(a2==b2))))):=
 qN fun ok σ a w hC=>by have h1:=hC.ev x;rw[hx]at h1;have h2:=hC.ev y;rw[hy]at h2;obtain⟨h3,h4⟩:=h a0 a1 a2 b0 b1 b2 x y w;refine⟨_,?_,zKo _ _ _⟩;unfold execOp;rw[ho];simp only[ag3 h1,ag3 h2,Sem.run_bind,h3,h4,Result.andThen_ok,Sem.run_pure]
theorem DE_0{l:List Oper}{ms:List Nat}{n1:Nat}{css:List (List Cd)}{s0:St}{rs:List Res}{K:St→Prop}{o:Oper}{c:List Cd}(j:Nat)(av:AV)(hj:rs.length=j)(hlt:Nat.blt j n1=true)(ho:l[j]?=some o)(hc:css[j]?=some c)(hg:gsat l.toArray o (appC c (l.take n1) rs s0))
  (hm:zHV ms j av 0 (l.take n1)=true) (hY:Y0 P o (appC c (l.take n1) rs s0) av) (d:Nat) (hd:o.dst=some d) (h:DL P l ms n1 css s0 (rs++[.r0 av]) K):DL P l ms n1 css s0 rs K:=by
 subst hj;exact DL_0 (Nat.le_of_ble_eq_true hlt) ho hc hg hm hY ⟨d,hd⟩ h
theorem DE_1{l:List Oper}{ms:List Nat}{n1:Nat}{css:List (List Cd)}{s0:St}{rs:List Res}{K:St→Prop}{o:Oper}{c:List Cd}{av:AV}{ne:List (Nat×Ent)}(j:Nat)(hj:rs.length=j)(hlt:Nat.blt j n1=true)(ho:l[j]?=some o)(hc:css[j]?=some c)(hg:gsat l.toArray o (appC c (l.take n1) rs s0))
  (hY:Y1 P o (appC c (l.take n1) rs s0) av ne) (h1:zIW ne=true) (h2:makes o=true) (h3:av.small=true) (d:Nat) (hd:o.dst=some d) (h:DL P l ms n1 css s0 (rs++[.r1 av ne]) K):DL P l ms n1 css s0 rs K:=by
 subst hj;exact DL_1 (Nat.le_of_ble_eq_true hlt) ho hc hg ⟨h1,h2,h3⟩ hY ⟨d,hd⟩ h
theorem z98{S A:St}(h:Le S A)(x:Operand):S.ev x=.bot∨S.ev x=A.ev x:=by
 cases x with
 |tmp t=>exact h.get t
 |const v=>exact .inr rfl
 |global g=>exact .inr rfl
 |func f=>exact .inr rfl
theorem z2i{o:Oper}{S:St}{t:TypeId}{x y:Operand}{id off:Nat}{cs vc cs2:List Tr}(ho:o.op=.store t x y)(hd:o.dst=none)(hx:S.ev x=.pt id off)(he:S.ent id=some (.box cs))(hy:zCK (S.ev y)=some vc)(hi:(P.info? t).map (·.size)=some vc.length)(hl:off+vc.length≤cs.length)(hs:splice cs off vc=cs2):
  ∀A,Le S A→X P o A ⟨A.T,setE id (.box cs2) A.E⟩:=by
 intro A hA;subst hs;refine z3u ho hd ?_ (hA.ent _ _ he) ?_ hi hl
 ·rcases z98 hA x with h|h
  ·rw[hx]at h;cases h
  ·rw[←h];exact hx
 ·rcases z98 hA y with h|h
  ·rw[h]at hy;simp[zCK]at hy
  ·rw[←h];exact hy
theorem DE_2{l:List Oper}{ms:List Nat}{n1:Nat}{css:List (List Cd)}{s0:St}{rs:List Res}{K:St→Prop}{o:Oper}{c:List Cd}{t:TypeId}{x y:Operand}{off:Nat}{cs vc:List Tr}(j id:Nat)(cs2:List Tr)(hj:rs.length=j)(hlt:Nat.blt j n1=true)(ho:l[j]?=some o)(hc:css[j]?=some c)(hg:gsat l.toArray o (appC c (l.take n1) rs s0))
  (hop:o.op=.store t x y) (hd:o.dst=none) (hx:(appC c (l.take n1) rs s0).ev x=.pt id off) (he:(appC c (l.take n1) rs s0).ent id=some (.box cs)) (hy:zCK ((appC c (l.take n1) rs s0).ev y)=some vc) (hi:(P.info? t).map (·.size)=some vc.length) (hl:off+vc.length≤cs.length) (hs:splice cs off vc=cs2)
  (h1:zQz j id css=true) (h2:mkOk ms j id 0 (l.take n1)=true) (h3:zIv id rs=true) (h:DL P l ms n1 css s0 (rs++[.r2 id (.box cs2)]) K):DL P l ms n1 css s0 rs K:=by
 subst hj;exact DL_2 (Nat.le_of_ble_eq_true hlt) ho hc hg (z2i hop hd hx he hy hi hl hs) hd h1 h2 h3 h
theorem qBP{o:Oper}{s:St}{x y:Operand}{t:Array TypeId}{a b:Int}(ho:o.op=.call {callee:=.builtin .max,args:=#[x,y],argTypes:=t})(hx:s.ev x=.c (.v (.int .i64 a)))(hy:s.ev y=.c (.v (.int .i64 b))):Y0 P o s (I (mxI a b)):=
 qN fun ok σ ac w hC=>by
  refine⟨_,?_,zKA _ _ _ _⟩;unfold execOp;rw[ho];have h1:=hC.exact hx;have h2:=hC.exact hy;have h3:=run_max_int2 (P:=P) w t o.type .i64 .i64 a b;have e:mxI a b=(if b>a then b else a):=by rw[mxI,zE];by_cases h:a<b<;>simp[h]
  rw[e];simp[resolve,invoke,builtin,h1,h2,h3]
theorem qBO{o:Oper}{s:St}{x y:Operand}{t:Array TypeId}{a b:Int}(ho:o.op=.call {callee:=.builtin .min,args:=#[x,y],argTypes:=t})(hx:s.ev x=.c (.v (.int .i64 a)))(hy:s.ev y=.c (.v (.int .i64 b))):Y0 P o s (I (mnI a b)):=
 qN fun ok σ ac w hC=>by
  refine⟨_,?_,zKA _ _ _ _⟩;unfold execOp;rw[ho];have h1:=hC.exact hx;have h2:=hC.exact hy;have h3:=run_min_int2 (P:=P) w t o.type .i64 .i64 a b;have e:mnI a b=(if b<a then b else a):=by rw[mnI,zE];by_cases h:b<a<;>simp[h]
  rw[e];simp[resolve,invoke,builtin,h1,h2,h3]
theorem z96{α:Type}{c:α→List Tr}(hc:∀x,(c x).all Tr.flat=true):∀(xs:List α),(xs.map c).flatten.all Tr.flat=true
 |[]=>rfl
 |x::xs=>by rw[List.map_cons,List.flatten_cons,List.all_append,hc x,z96 hc xs];rfl
theorem z2N{α:Type}{c:α→List Tr}{xs:List α}{k T sz:Nat}{ne:List (Nat×Ent)}(hc:∀x,(c x).all Tr.flat=true)(h:zQu ne=true):zQu ((k,.arr T sz (xs.map c))::ne)=true:=by simp only[zQu,z96 hc,h,Bool.and_self]
theorem z4d{f:FuncId}{args:List AV}{vs:List Value}{w:World}(hS:zC P f args (Bo true) [])(hv:RelA (fun g=>g<w.heap.size) (fun _=>loc0) w args vs)(hl:Lb (fun g=>g<w.heap.size) w:=by intro p hp;simp[TB]at hp):Calls P f vs.toArray w fun e w'=>e=.returned (.bool true)∧Below w.heap.size w w':=by
 refine (hS (fun g=>g<w.heap.size) (fun _=>loc0) w vs (fun _ h=>h) hl hv).mono ?_
 rintro e w' ⟨v,ok',σ',rfl,hn⟩;have h:=hn.rel;have h2:Rd ok' w' (.v (.bool true)) v:=h;cases h2;exact⟨rfl,hn.below⟩
end
def renI(m:List (Nat×Nat))(k:Nat):Nat:=(m.lookup k).getD k
def AV.ren(m:List (Nat×Nat)):AV→AV
 | .ow k=>.ow (renI m k)
 | .pt k o=>.pt (renI m k) o
 | .po k z i o=>.po (renI m k) z i o
 | .vw k els v=>.vw (renI m k) els v
 | .sf k z i=>.sf (renI m k) z i
 | .tc _ _=>.bot
 | .tn=>.bot
 |av=>av
def renL(m:List (Nat×Nat)):List AV→List AV
 |[]=>[]
 |a::asq=>a.ren m::renL m asq
def reE(old e:Ent):Ent:=bif old.pin then (match old with
 | .pbox l _=>e.pinned l
 | .parr l _ _ _=>e.pinned l
 |_=>e) else e
def Ent.row:Ent→Bool
 | .box _=>false
 | .arr _ _ _=>true
 | .pbox _ _=>false
 | .parr _ _ _ _=>true
 | .mp _ _=>false
 | .qarr _ _ _ _=>true
def updE(m:List (Nat×Nat)):List (Nat×Ent)→List (Nat×Ent)→List (Nat×Ent)
 |E,[]=>E
 |E,(k,e)::ps=>setE (renI m k) (reE ((E.lookup (renI m k)).getD e) e) (updE m E ps)
def zIs(m:List (Nat×Nat))(s:St):List (Nat×Ent)→Prop
 |[]=>True
 |(k,e)::ps=>s.entc (renI m k)=some e∧zIs m s ps
def zBt:List (Nat×Ent)→List Nat
 |[]=>[]
 |(k,_)::ps=>k::zBt ps
def zQm(m:List (Nat×Nat))(E0:List (Nat×Ent)):Bool:=zDh ((zBt E0).map (renI m))
theorem jB(m:List (Nat×Nat))(s:St):∀(E0:List (Nat×Ent))(id:Nat)(e:Ent),zIs m s E0→E0.lookup id=some e→s.entc (renI m id)=some e
 |[],id,e,_,h=>by simp at h
 |(k,f)::ps,id,e,hs,h=>by
  simp only[List.lookup]at h;cases hk:id==k with
  |true=>
   have:id=k:=by simpa using hk
   subst this;rw[hk]at h;injection h with h;subst h;exact hs.1
  |false=>rw[hk]at h;exact jB m s ps id e hs.2 h
theorem zC0:∀(E0:List (Nat×Ent))(id:Nat)(e:Ent),E0.lookup id=some e→id∈zBt E0
 |[],id,e,h=>by simp at h
 |(k,f)::ps,id,e,h=>by
  simp only[List.lookup]at h;cases hk:id==k with
  |true=>
   have:id=k:=by simpa using hk
   subst this;exact zm
  |false=>rw[hk]at h;exact zn _ (zC0 ps id e h)
theorem zHE:∀(E0:List (Nat×Ent))(id:Nat),id∈zBt E0→∃e,E0.lookup id=some e
 |[],id,h=>by cases h
 |(q1,q2)::ps,id,h=>by
  by_cases hq:id=q1
  ·subst hq;exact⟨q2,by simp[List.lookup]⟩
  ·have:(id==q1)=false:=by rw[zw];exact hq
   rcases List.mem_cons.1 h with h2|h2
   ·exact absurd h2 hq
   ·obtain⟨f,hf⟩:=zHE ps id h2;exact⟨f,by simp only[List.lookup,this];exact hf⟩
theorem zKr(f:Nat→Nat):∀(l:List Nat),zDh (l.map f)=true→∀i,i∈l→∀j,j∈l→f i=f j→i=j
 |[],_,i,hi,_,_,_=>by cases hi
 |x::xs,h,i,hi,j,hj,hf=>by
  simp only[List.map_cons,zDh,zk,Bool.not_eq_true',List.contains_eq_mem,decide_eq_false_iff_not]at h;obtain⟨h1,h2⟩:=h;rcases List.mem_cons.1 hi with a1|a1<;>rcases List.mem_cons.1 hj with b1|b1
  ·rw[a1,b1]
  ·subst a1;exact absurd (List.mem_map.2 ⟨j,b1,hf.symm⟩) h1
  ·subst b1;exact absurd (List.mem_map.2 ⟨i,a1,hf⟩) h1
  ·exact zKr f xs h2 i a1 j b1 hf
section
variable {P:Program}
theorem z8A{ok:Nat→Prop}{σ:Nat→Loc}{w:World}{m:List (Nat×Nat)}{av:AV}{y:Value}(h:Rel ok σ w (av.ren m) y)(hb:∀x r,av≠.tc x r)(hb2:av≠.tn):Rel ok (fun k=>σ (renI m k)) w av y:=by
 cases av with
 |bot=>trivial
 |c t=>exact h
 |ag cs=>exact h
 |ow id=>exact h
 |pt id off=>exact h
 |po id sz i off=>exact h
 |pe cs=>exact h
 |fn f caps=>exact h
 |er b=>exact h
 |vw id els v=>exact h
 |sf id z i=>exact h
 |tn=>exact absurd rfl hb2
 |tc x r=>exact absurd rfl (hb x r)
def zO4:List AV→Bool
 |[]=>true
 | .tc _ _::_=>false
 | .tn::_=>false
 |_::asq=>zO4 asq
theorem zO2{ok:Nat→Prop}{σ:Nat→Loc}{w:World}{m:List (Nat×Nat)}:∀{args:List AV}{vs:List Value},zO4 args=true→RelA ok σ w (renL m args) vs→RelA ok (fun k=>σ (renI m k)) w args vs
 |[],_,_,.nil=>.nil
 |a::asq,_,ht,.cons h hs=>by
  have h1:(∀x r,a≠.tc x r)∧a≠.tn∧zO4 asq=true:=by
   cases a with
   |tc x r=>cases ht
   |tn=>cases ht
   |_=>exact⟨(fun _ _ h=>by cases h),(fun h=>by cases h),ht⟩
  exact .cons (z8A h h1.1 h1.2.1) (zO2 h1.2.2 hs)
theorem z3H(old e:Ent)(he:e.plain=true):(reE old e).pin=old.pin:=by
 cases old with
 |box cs=>exact Ent.pin_of_plain he
 |arr T sz els=>exact Ent.pin_of_plain he
 |mp b kvs=>exact Ent.pin_of_plain he
 |qarr l0 T sz els=>exact Ent.pin_of_plain he
 |pbox l cs=>exact zIr he
 |parr l T sz els=>exact zIr he
theorem zPN(m:List (Nat×Nat))(E:List (Nat×Ent)):∀(E1:List (Nat×Ent)),zDh ((zBt E1).map (renI m))=true→(∀k e,E1.lookup k=some e→∃f,E.lookup (renI m k)=some f)→∀j,(updE m E E1).lookup j=match E1.find? (fun p=>renI m p.1==j) with
      |some p=>some (reE ((E.lookup j).getD p.2) p.2)
      |none=>E.lookup j
  |[],_,_,j=>rfl
  |(k,e)::ps,hn,hx,j=>by
    have hn2:zDh ((zBt ps).map (renI m))=true:=by simp only[zBt,List.map_cons,zDh,zk]at hn;exact hn.2
    have hn1:renI m k∉(zBt ps).map (renI m):=by simp only[zBt,List.map_cons,zDh,zk,Bool.not_eq_true',List.contains_eq_mem,decide_eq_false_iff_not]at hn;exact hn.1
    have ih:=zPN m E ps hn2 (fun k2 e2 h2=>by
      by_cases hk:k2=k
      · subst hk
        exact absurd (List.mem_map.2 ⟨k2,zC0 ps k2 e2 h2,rfl⟩) hn1
      · refine hx k2 e2 ?_
        have:(k2==k)=false:=by rw[zw];exact hk
        simp only[List.lookup,this];exact h2)
    have hself:(updE m E ps).lookup (renI m k)=E.lookup (renI m k):=by
      rw[ih];have hf:ps.find? (fun p=>renI m p.1==renI m k)=none:=by
        rw[List.find?_eq_none];intro p hp hh;have hh:renI m p.1=renI m k:=by simpa using hh
        have:p.1∈zBt ps:=by
          clear ih hn hx hn1 hn2
          induction ps with
          |nil=>cases hp
          |cons q qs ihq=>
            obtain⟨q1,q2⟩:=q;rcases List.mem_cons.1 hp with h1|h1
            · subst h1;exact zm
            · exact zn _ (ihq h1)
        exact hn1 (List.mem_map.2 ⟨p.1,this,hh⟩)
      rw[hf]
    obtain⟨f,hf⟩:=hx k e (by simp[List.lookup]);have look:=zBu (renI m k) (reE ((E.lookup (renI m k)).getD e) e) (updE m E ps) f (by rw[hself,hf]);simp only[updE];rw[look j,List.find?_cons];by_cases hj:j=renI m k
    · subst hj
      simp
    · have:(renI m k==j)=false:=by rw[zw];exact fun h=>hj h.symm
      rw[if_neg hj,this,ih]
theorem zQE(m:List (Nat×Nat)):∀(E1:List (Nat×Ent))(j:Nat)(p:Nat×Ent),zDh ((zBt E1).map (renI m))=true→E1.find? (fun p=>renI m p.1==j)=some p→E1.lookup p.1=some p.2∧renI m p.1=j
 |[],j,p,_,h=>by simp at h
 |(k,e)::ps,j,p,hn,h=>by
  rw[List.find?_cons]at h;cases hk:renI m k==j with
  |true=>simp only[hk]at h;injection h with h;subst h;exact⟨by simp[List.lookup],by simpa using hk⟩
  |false=>
   simp only[hk]at h;have hn2:zDh ((zBt ps).map (renI m))=true:=by simp only[zBt,List.map_cons,zDh,zk]at hn;exact hn.2
   have hn1:renI m k∉(zBt ps).map (renI m):=by simp only[zBt,List.map_cons,zDh,zk,Bool.not_eq_true',List.contains_eq_mem,decide_eq_false_iff_not]at hn;exact hn.1
   obtain⟨h1,h2⟩:=zQE m ps j p hn2 h;have:(p.1==k)=false:=by rw[zw];intro e1;exact hn1 (List.mem_map.2 ⟨p.1,zC0 ps _ _ h1,by rw[e1]⟩)
   exact⟨by simp only[List.lookup,this];exact h1,h2⟩
theorem z57{ok:Nat→Prop}{w:World}{l:Loc}{old e:Ent}{ok0:Nat→Prop}{w0:World}(ho:zAj ok0 w0 l old)(h:zAj ok w l e)(he:e.plain=true):zAj ok w l (reE old e):=by
 cases old with
 |box cs=>exact h
 |arr T sz els=>exact h
 |mp b kvs=>exact h
 |qarr l0 T sz els=>exact h
 |pbox l0 cs=>obtain⟨rfl,_⟩:=ho;exact zKq h he
 |parr l0 T sz els=>obtain⟨rfl,_⟩:=ho;exact zKq h he
theorem R.ref{B:Fr}{w0:World}{ok0 ok ok':Nat→Prop}{σ σ':Nat→Loc}{s:St}{a:Act}{w w':World}(h:R B w0 ok0 ok σ s a w){m:List (Nat×Nat)}{E0 E1:List (Nat×Ent)}{av:AV}{ne:List (Nat×Ent)}{v:Value}
  (hm:zIs m s E0) (hk:zBt E1=zBt E0) (hr:zQm m E0=true) (hp:zEg E1=true) (hn:NewX ⟨fun g=>w.heap.size≤g,exOf (fun k=>σ (renI m k)) E0⟩ w w' ok ok' σ' av ne v) (hE:∀id e,E1.lookup id=some e→zAj ok' w' (σ (renI m id)) e):
  R B w0 ok0 ok' (fun id=>σ id) ⟨s.T,updE m s.E E1⟩ a w'∧∀id e g,(St.mk s.T (updE m s.E E1)).ent id=some e→(σ id).blk=some g→g<w.heap.size:=by
 have hsz:=hn.below.size;have key0:∀k e,E1.lookup k=some e→∃f,E0.lookup k=some f:=by intro k e hke;have h1:=zC0 E1 k e hke;rw[hk]at h1;exact zHE E0 k h1
 have hold:∀k e,E1.lookup k=some e→∃f,s.E.lookup (renI m k)=some f:=by intro k e hke;obtain⟨f0,hf0⟩:=key0 k e hke;obtain⟨f,hf,_⟩:=zCJ (jB m s E0 k f0 hm hf0);exact⟨f,hf⟩
 have hr1:zDh ((zBt E1).map (renI m))=true:=by rw[hk];exact hr
 have look:=zPN m s.E E1 hr1 hold
 -- an entry behind the call
 have cases_:∀j f,(St.mk s.T (updE m s.E E1)).ent j=some f→(∃k e old,E1.lookup k=some e∧renI m k=j∧s.ent j=some old∧f=reE old e)∨((∀k e,E1.lookup k=some e→renI m k≠j)∧s.ent j=some f):=by
  intro j f hj;have h1:(updE m s.E E1).lookup j=some f:=hj;rw[look]at h1;cases hfd:E1.find? (fun p=>renI m p.1==j) with
  |some p=>rw[hfd]at h1;obtain⟨h2,h3⟩:=zQE m E1 j p hr1 hfd;obtain⟨old,hold1⟩:=hold p.1 p.2 h2;rw[h3]at hold1;rw[hold1]at h1;injection h1 with h1;exact .inl ⟨p.1,p.2,old,h2,h3,hold1,h1.symm⟩
  |none=>
   rw[hfd]at h1;refine .inr ⟨fun k e hke hkj=>?_,h1⟩;rw[List.find?_eq_none]at hfd;have hmem:∀(L:List (Nat×Ent)),L.lookup k=some e→(k,e)∈L:=by
    intro L
    induction L with
    |nil=>intro h;simp at h
    |cons q qs ih=>
     intro h;obtain⟨q1,q2⟩:=q;simp only[List.lookup]at h;cases hq:k==q1 with
     |true=>
      rw[hq]at h;injection h with h;have:k=q1:=by simpa using hq
      subst this;subst h;exact zm
     |false=>rw[hq]at h;exact zn _ (ih h)
   exact hfd (k,e) (hmem E1 hke) (by simpa using hkj)
 have exE:∀g,exOf (fun k=>σ (renI m k)) E0 g→∃k f0,E0.lookup k=some f0∧(σ (renI m k)).blk=some g:=fun g ⟨k,f0,h1,h2⟩=>⟨k,f0,h1,h2⟩
 have exNot:∀g,ok g→¬exOf (fun k=>σ (renI m k)) E0 g:=by intro g hg hx;obtain⟨k,f0,h1,h2⟩:=exE g hx;obtain⟨f,hf,_⟩:=zCJ (jB m s E0 k f0 hm h1);exact (h.core.blk _ f g hf h2).1 hg
 have hwok:∀g,ok g→w'.heap[g]?=w.heap[g]?:=fun g hg=>hn.below.block g (Nat.not_le_of_lt (h.core.okL g hg)) (exNot g hg)
 have entOld:∀j f,(St.mk s.T (updE m s.E E1)).ent j=some f→∃old,s.ent j=some old∧f.pin=old.pin:=by
  intro j f hj;rcases cases_ j f hj with⟨k,e,old,h1,h2,h3,rfl⟩|⟨_,h2⟩
  ·exact⟨old,h3,z3H old e (zDC E1 k e hp h1)⟩
  ·exact⟨f,h2,rfl⟩
 refine⟨?_,fun j f g hj hg=>by obtain⟨old,h1,_⟩:=entOld j f hj;exact (h.core.blk j old g h1 hg).2⟩;refine⟨⟨h.core.len,hn.okL,h.core.lib.mono hn.okM hwok,fun t=>(h.core.tmp t).mono0 hn.okM hwok,fun j f hj=>?_,fun j f g hj hg=>?_,fun i j f1 f2 g hi hj h1 h2=>?_⟩,h.defers,?_,fun g hg=>h.base g (Nat.le_trans hsz hg),fun g hg=>hn.okM g (h.old g hg),fun g hg=>?_,fun j f g hj hg=>?_⟩
 ·rcases cases_ j f hj with⟨k,e,old,h1,h2,h3,rfl⟩|⟨h1,h2⟩
  ·have h4:=hE k e h1;rw[h2]at h4;exact z57 (h.core.ent j old h3) h4 (zDC E1 k e hp h1)
  ·refine (h.core.ent j f h2).mono hn.okM hwok fun g hg=>hn.below.block g (Nat.not_le_of_lt (h.core.blk j f g h2 hg).2) fun hx=>?_
   obtain⟨k,f0,h3,h4⟩:=exE g hx;obtain⟨f2,hf2,_⟩:=zCJ (jB m s E0 k f0 hm h3);have h5:=h.core.inj _ _ _ _ _ h2 hf2 hg h4
   -- k is a key of E1 too
   have h6:=zC0 E0 k f0 h3;rw[←hk]at h6;have h7:=zHE E1 k h6;obtain⟨e1,he1⟩:=h7;exact h1 k e1 he1 h5.symm
 ·obtain⟨old,h1,h2⟩:=entOld j f hj;obtain⟨h3,h4⟩:=h.core.blk j old g h1 hg;refine⟨fun h5=>?_,Nat.lt_of_lt_of_le h4 hsz⟩;rcases hn.okN g h5 with h6|h6
  ·exact h3 h6
  ·omega
 ·obtain⟨o1,a1,_⟩:=entOld i f1 hi;obtain⟨o2,a2,_⟩:=entOld j f2 hj;exact h.core.inj i j o1 o2 g a1 a2 h1 h2
 ·refine h.below.trans ⟨hn.below.os,hn.below.tape,hn.below.output,hn.below.size,fun k hk1 hk2=>?_⟩;refine hn.below.block k (fun hle=>hk1 (h.base k hle)) fun hx=>?_
  obtain⟨k2,f0,h3,h4⟩:=exE k hx;obtain⟨f2,hf2,_⟩:=zCJ (jB m s E0 k2 f0 hm h3);have h5:=h.own _ f2 k hf2 h4;split at h5
  ·exact hk2 h5
  ·exact hk1 h5
 ·rcases hn.okN g hg with h1|h1
  ·exact h.fresh g h1
  ·exact .inr (h.base g h1)
 ·obtain⟨old,h1,h2⟩:=entOld j f hj;rw[h2];exact h.own j old g h1 hg
theorem R.updN{B:Fr}{w0:World}{ok0 ok:Nat→Prop}{σ σ':Nat→Loc}{s:St}{a:Act}{w:World}(h:R B w0 ok0 ok σ s a w){d N:Nat}{av:AV}{ne:List (Nat×Ent)}{v:Value}
  (hsm:∀id e g,s.ent id=some e→(σ id).blk=some g→g<N) (hBN:∀g,N≤g→B.n g) (hrel:Rel ok σ' w av v) (hkeys:∀id e,ne.lookup id=some e→id<8) (hids:∀e,e≠0→av.ment e=false) (hent:∀id e,ne.lookup id=some e→zAj ok w (σ' id) e)
  (hblk:∀id e g,ne.lookup id=some e→(σ' id).blk=some g→N≤g∧¬ok g∧g<w.heap.size) (hinj:∀i j e f g,ne.lookup i=some e→ne.lookup j=some f→(σ' i).blk=some g→(σ' j).blk=some g→i=j) (hnp:∀id e,ne.lookup id=some e→e.pin=false):
  R B w0 ok0 ok (fun id=>if id / 8=d then σ' (id % 8) else σ id) (s.upd d av ne) (a.put (some d) v) w:=by
 have hσ:∀id,id / 8≠d→(fun id=>if id / 8=d then σ' (id % 8) else σ id) id=σ id:=fun id hid=>by simp[hid]
 have look:∀id e,(s.upd d av ne).ent id=some e→(id / 8=d∧ne.lookup (id % 8)=some e)∨(id / 8≠d∧s.ent id=some e):=by
  intro id e he;unfold St.ent St.upd at he;rw[zEs]at he;cases hs:(zEj d ne).lookup id with
  |some e2=>
   rw[hs]at he;injection he with he;subst he;obtain⟨h1,h2⟩:=zF0 d ne id _ hs;have h3:=hkeys _ _ h2;have h4:id - d*8=id % 8:=by omega
   rw[h4]at h2;exact .inl ⟨by omega,h2⟩
  |none=>
   rw[hs]at he;simp only[zFI]at he;by_cases hd:id / 8=d
   ·simp[hd]at he
   ·rw[if_neg hd]at he;exact .inr ⟨hd,he⟩
 refine⟨⟨?_,h.core.okL,h.core.lib,fun t=>?_,fun id e he=>?_,fun id e g he hg=>?_,fun i j e f g hi hj h1 h2=>?_⟩,h.defers,h.below,h.base,h.old,h.fresh,fun id e g he hg=>?_⟩
 ·rw[zOC];simpa [St.upd,zE7] using h.core.len
 ·have hk:(s.upd d av ne).get t=if d=t∧d<s.T.length then av.shift d else (bif (s.get t).ment d then AV.bot else s.get t):=by
   have e:=zCg (s.kill d) d t (av.shift d);unfold St.put St.kill St.get at e;simp only[zE7,zHF]at e;unfold St.upd St.get;exact e
  rw[hk,zO8];by_cases hd:d=t∧d<s.T.length
  ·rw[if_pos hd,if_pos ⟨hd.1,Nat.lt_of_lt_of_le hd.2 h.core.len⟩];refine hrel.shift d fun k hk2=>?_
   have hk0:k / 8=0:=by
    rcases Nat.eq_zero_or_pos (k / 8) with h0|h0
    ·exact h0
    ·rw[hids (k / 8) (by omega)]at hk2;cases hk2
   have e1:(d*8+k) / 8=d:=by omega
   have e2:(d*8+k) % 8=k:=by omega
   simp[e1,e2]
  ·rw[if_neg hd];by_cases hd2:d=t∧d<a.tmps.size
   ·rw[if_pos hd2];have hb:s.get t=.bot:=by
     unfold St.get;rw[List.getElem?_eq_none (by omega)];rfl
    rw[hb];trivial
   ·rw[if_neg hd2];cases hm:(s.get t).ment d with
    |true=>trivial
    |false=>exact (h.core.tmp t).mono d (fun _ h=>h) (fun _ _=>rfl) hm hσ
 ·rcases look id e he with⟨h1,h2⟩|⟨h1,h2⟩
  ·simpa [h1] using hent _ _ h2
  ·simp only[h1,if_false];exact h.core.ent id e h2
 ·rcases look id e he with⟨h1,h2⟩|⟨h1,h2⟩
  ·simp only[h1,if_true]at hg;exact (hblk _ _ _ h2 hg).2
  ·simp only[h1,if_false]at hg;exact h.core.blk id e g h2 hg
 ·rcases look i e hi with⟨a1,a2⟩|⟨a1,a2⟩<;>rcases look j f hj with⟨b1,b2⟩|⟨b1,b2⟩
  ·simp only[a1,b1,if_true]at h1 h2;have:=hinj _ _ _ _ _ a2 b2 h1 h2;omega
  ·simp only[a1,b1,if_true,if_false]at h1 h2;have x1:=(hblk _ _ _ a2 h1).1;have x2:=hsm _ _ _ b2 h2;omega
  ·simp only[a1,b1,if_true,if_false]at h1 h2;have x1:=(hblk _ _ _ b2 h2).1;have x2:=hsm _ _ _ a2 h1;omega
  ·simp only[a1,b1,if_false]at h1 h2;exact h.core.inj _ _ _ _ _ a2 b2 h1 h2
 ·rcases look id e he with⟨h1,h2⟩|⟨h1,h2⟩
  ·simp only[h1,if_true]at hg;rw[hnp _ _ h2,if_neg (by decide)];exact hBN _ (hblk _ _ _ h2 hg).1
  ·simp only[h1,if_false]at hg;exact h.own id e g h2 hg
theorem z78{o:Oper}{s:St}{f:FuncId}{xs:Array Operand}{ts:Array TypeId}{args:List AV}{E0 E1:List (Nat×Ent)}{av:AV}{ne E':List (Nat×Ent)}(m:List (Nat×Nat))(d:Nat)(hS:∀ok σ (a:Act) w,Core ok σ s a w→z7p P f (fun k=>σ (renI m k)) args E0 av ne E1)(hc:∀args w,(callFunc f args).run P w=.ok (.enter f args) w)
  (ho:o.op=.call {callee:=.value (.func f),args:=xs,argTypes:=ts}) (hd:o.dst=some d) (ha:evL s xs.toList=renL m args) (ht:zO4 args=true) (hm:zIs m s E0) (hk:zBt E1=zBt E0) (hr:zQm m E0=true) (hp:zEg E1=true) (hp0:zEg E0=true) (he:updE m s.E E1=E'):
  X P o s ((St.mk s.T E').upd d av ne):=by
 intro B w0 ok0 ok σ a w hR K Q hK;subst he;have hheld:Held ok (fun k=>σ (renI m k)) w E0:=by
  refine⟨fun id e he=>?_,fun id e g he hg=>?_,fun i j e f g hi hj h1 h2=>?_⟩
  ·exact⟨hR.core.entc _ _ (jB m s E0 id e hm he),zDC E0 id e hp0 he⟩
  ·obtain⟨f,hf,_⟩:=zCJ (jB m s E0 id e hm he);exact hR.core.blk _ f g hf hg
  ·obtain⟨f1,hf1,_⟩:=zCJ (jB m s E0 i e hm hi);obtain⟨f2,hf2,_⟩:=zCJ (jB m s E0 j f hm hj);exact zKr (renI m) _ hr i (zC0 E0 i e hi) j (zC0 E0 j f hj) (hR.core.inj _ _ _ _ _ hf1 hf2 h1 h2)
 refine zI8 hc ho (Calls.mono (hS ok σ a w hR.core ok w _ hR.core.okL hR.core.lib (zO2 ht (ha▸zOb hR.core xs.toList)) hheld) ?_);rintro e w' ⟨v,ok',σ',he,hn,hE⟩;obtain⟨hR2,hsm⟩:=hR.ref hm hk hr hp hn hE;refine⟨v,he,?_⟩;rw[hd];exact hK _ _ _ _ (hR2.updN hsm hR.base hn.rel hn.keys hn.ids hn.ent hn.blk hn.inj hn.np)
theorem z8w{o:Oper}{s:St}{f:FuncId}{xs:Array Operand}{ts:Array TypeId}{args:List AV}{E0 E1:List (Nat×Ent)}{av:AV}{ne E':List (Nat×Ent)}(m:List (Nat×Nat))(d:Nat)(hS:zEi P f args E0 av ne E1)(hc:∀args w,(callFunc f args).run P w=.ok (.enter f args) w)
  (ho:o.op=.call {callee:=.value (.func f),args:=xs,argTypes:=ts}) (hd:o.dst=some d) (ha:evL s xs.toList=renL m args) (ht:zO4 args=true) (hm:zIs m s E0) (hk:zBt E1=zBt E0) (hr:zQm m E0=true) (hp:zEg E1=true) (hp0:zEg E0=true) (he:updE m s.E E1=E'):
  X P o s ((St.mk s.T E').upd d av ne):=
 z78 m d (fun _ σ _ _ _=>fun ok w vs h1 h2 h3 h4=>hS ok _ w vs h1 h2 h3 h4) hc ho hd ha ht hm hk hr hp hp0 he
end
def zMx(ms:List Nat)(mask:Nat):Nat→List Nat
 |0=>[]
 |k+1=>bif (!mask.testBit k)&&((ms.getD k 0&&& mask)==ms.getD k 0) then k::zMx ms mask k else zMx ms mask k
theorem zMw(ms:List Nat)(mask:Nat):∀(n i:Nat),i<n→mask.testBit i=false→(∀j,(ms.getD i 0).testBit j=true→mask.testBit j=true)→i∈zMx ms mask n
 |0,i,h,_,_=>by omega
 |k+1,i,h,h1,h2=>by
  simp only[zMx];by_cases hk:i=k
  ·subst hk;have e:(ms.getD i 0&&& mask)=ms.getD i 0:=by
    apply Nat.eq_of_testBit_eq;intro j;rw[Nat.testBit_and];cases hj:(ms.getD i 0).testBit j with
    |false=>rfl
    |true=>rw[h2 j hj];rfl
   rw[h1,e];simp
  ·have ih:=zMw ms mask k i (by omega) h1 h2;cases (!mask.testBit k)&&((ms.getD k 0&&& mask)==ms.getD k 0) with
   |true=>exact zn _ ih
   |false=>exact ih
section
variable (P:Program)
variable {P}
theorem z77{o:Oper}{s:St}{f:FuncId}{xs:Array Operand}{ts:Array TypeId}{args:List AV}{E0 E1:List (Nat×Ent)}{av:AV}{ne E':List (Nat×Ent)}(m:List (Nat×Nat))(hS:zEi P f args E0 av ne E1)(hc:∀args w,(callFunc f args).run P w=.ok (.enter f args) w)
  (ho:o.op=.call {callee:=.value (.func f),args:=xs,argTypes:=ts}) (hd:o.dst=none) (ha:evL s xs.toList=renL m args) (ht:zO4 args=true) (hm:zIs m s E0) (hk:zBt E1=zBt E0) (hr:zQm m E0=true) (hp:zEg E1=true) (hp0:zEg E0=true) (he:updE m s.E E1=E'):
  X P o s (St.mk s.T E'):=by
 intro B w0 ok0 ok σ a w hR K Q hK;subst he;have hheld:Held ok (fun k=>σ (renI m k)) w E0:=by
  refine⟨fun id e he=>?_,fun id e g he hg=>?_,fun i j e f g hi hj h1 h2=>?_⟩
  ·exact⟨hR.core.entc _ _ (jB m s E0 id e hm he),zDC E0 id e hp0 he⟩
  ·obtain⟨f,hf,_⟩:=zCJ (jB m s E0 id e hm he);exact hR.core.blk _ f g hf hg
  ·obtain⟨f1,hf1,_⟩:=zCJ (jB m s E0 i e hm hi);obtain⟨f2,hf2,_⟩:=zCJ (jB m s E0 j f hm hj);exact zKr (renI m) _ hr i (zC0 E0 i e hi) j (zC0 E0 j f hj) (hR.core.inj _ _ _ _ _ hf1 hf2 h1 h2)
 refine zI8 hc ho (Calls.mono (hS ok (fun k=>σ (renI m k)) w _ hR.core.okL hR.core.lib (zO2 ht (ha▸zOb hR.core xs.toList)) hheld) ?_);rintro e w' ⟨v,ok',σ',he,hn,hE⟩;obtain⟨hR2,_⟩:=hR.ref hm hk hr hp hn hE;refine⟨v,he,?_⟩;rw[hd];exact hK _ _ _ _ hR2
end
def zVF(kd:IntKind)(w:World)(a:Option Addr)(len cap:Nat)(zs:List Int):Prop:=
 (a=none∧len=0∧cap=0∧zs=[])∨
 ∃g:Addr,a=some g∧len≤cap∧cap≤maxLen∧zs.length=cap∧(∀i,i<zs.length→w.cell? (g.add i)=some (.int kd (zs.getD i 0)))∧(∀n∈zs,(Lit.int kd n).wf=true)
theorem z9k{kd:IntKind}{w:World}{a:Option Addr}{len cap:Nat}{zs:List Int}(h:zVF kd w a len cap zs)(c:Int→List Tr)(hc:∀x,c x=[.v (.int kd x)]):Rd (fun g=>g<w.heap.size) w (.sl ((zs.take len).map c)) (.slice a len cap):=by
 rcases h with⟨rfl,rfl,rfl,rfl⟩|⟨g,rfl,hl,hm,hz,hcell,hwf⟩
 ·exact .nl _ _
 ·rcases Nat.eq_zero_or_pos len with h0|h0
  ·subst h0;simpa using Rd.nl _ _
  ·have h1:=hcell 0 (by omega);have h2:g.add 0=g:=rfl;rw[h2]at h1;have hs:g.spot=none:=World.cell?_spot h1;obtain⟨b,o,sp⟩:=g;simp only at hs;subst hs;have hb:b<w.heap.size:=by
    unfold World.cell? at h1;simp only at h1;rcases Nat.lt_or_ge b w.heap.size with h3|h3
    ·exact h3
    ·rw[Array.getElem?_eq_none h3]at h1;cases h1
   have hat:∀i j c',at2 ((zs.take len).map c) i j=some c'→i<len∧j=0∧c'=.v (.int kd (zs.getD i 0)):=by
    intro i j c' hh;unfold at2 at hh;rw[List.getElem?_map]at hh;have hi:i<len:=by
     rcases Nat.lt_or_ge i len with h3|h3
     ·exact h3
     ·rw[List.getElem?_eq_none (by simp;omega)]at hh;cases hh
    have hzi:(zs.take len)[i]?=some (zs.getD i 0):=by
     rw[List.getElem?_take,if_pos hi,List.getD_eq_getElem?_getD];have:i<zs.length:=by omega
     rw[zy this];rfl
    rw[hzi]at hh;simp only[Option.map_some,za,hc]at hh;cases j with
    |zero=>simp at hh;exact⟨hi,rfl,hh.symm⟩
    |succ j=>simp at hh
   refine .sl b o len cap 1 _ (fun i j=>.int kd (zs.getD i 0)) (by simp;omega) hl hb (fun el hel=>?_) (fun i j c' hh=>?_) (fun i j c' hh=>?_)
   ·obtain⟨x,_,rfl⟩:=List.mem_map.1 hel;rw[hc];rfl
   ·obtain⟨h3,h4,_⟩:=hat i j c' hh;subst h4;have h5:=hcell i (by omega);rw[zEX]at h5;simpa using h5
   ·obtain⟨h3,h4,h5⟩:=hat i j c' hh;rw[h5];exact .v _ rfl
theorem z0S{kd:IntKind}{w:World}{σ:Nat→Loc}{a:Option Addr}{len cap:Nat}{zs:List Int}{args:List AV}{vs:List Value}(h:zVF kd w a len cap zs)(c:Int→List Tr)(hc:∀x,c x=[.v (.int kd x)])(hs:RelA (fun g=>g<w.heap.size) σ w args vs):
  RelA (fun g=>g<w.heap.size) σ w (.c (.sl ((zs.take len).map c))::args) (.slice a len cap::vs):=.cons (z9k h c hc) hs
theorem z9j{w:World}{a:Option Addr}{len cap:Nat}{zs:List Int}(h:zVF .u8 w a len cap zs):∀x∈zs.take len,0≤x∧x≤255:=by
 intro x hx;have hx:=List.mem_of_mem_take hx;rcases h with⟨_,_,_,rfl⟩|⟨g,_,_,_,_,_,hwf⟩
 ·cases hx
 ·exact bounds_u8 (hwf x hx)
section
variable {P:Program}
theorem zJi{n:Nat}{l h:Int}{u:Unit}(hh:slc n l h=some u):0≤l∧l≤h∧h≤n:=by
 unfold slc at hh;cases hb:(leI 0 l&&(leI l h&&leI h n)) with
 |false=>rw[hb]at hh;cases hh
 |true=>simpa [qP] using hb
theorem zIT{k:IntKind}{n:Int}{y:Nat}{code:BoundsCode}(h0:0≤n)(h1:n≤y)(w:World):(Instr.sliceBound (.int k n) y code).run P w=.ok n.toNat w:=by unfold Instr.sliceBound;simp[asIntOf,h0,h1]
theorem z8D{ok:Nat→Prop}{w:World}{els:List (List Tr)}{A:Option Addr}{n cap sz:Nat}(h:Rd ok w (.sl els) (.slice A n cap))(hs:∀el,el∈els→el.length=sz){l h':Nat}(h1:l≤h')(h2:h'≤els.length):
  Rd ok w (.sl ((els.drop l).take (h' - l))) (.slice (if cap=l then A else A.map (·.add (l*sz))) (h' - l) (cap - l)):=by
 cases h with
 |nl A cap=>
  have e1:l=0:=by simp at h2;omega
  have e2:h'=0:=by simp at h2;omega
  subst e1 e2;simpa using Rd.nl _ _
 |sl g off n cap sz2 els f hn hcap hok hsz hc hr=>
  rcases Nat.eq_zero_or_pos (h' - l) with h0|h0
  ·rw[h0];simpa using Rd.nl _ _
  ·have hlen:els≠[]:=by intro e;subst e;simp at h2;omega
   have hcl:¬cap=l:=by omega
   rw[if_neg hcl];have hz:sz2=sz:=by obtain⟨e,he⟩:=List.exists_mem_of_ne_nil els hlen;rw[←hsz e he,hs e he]
   subst hz;have hat:∀i j c,at2 ((els.drop l).take (h' - l)) i j=some c→at2 els (l+i) j=some c:=by
    intro i j c hh;unfold at2 at hh ⊢;rw[List.getElem?_take]at hh;split at hh
    ·rw[List.getElem?_drop]at hh;exact hh
    ·cases hh
   have ha:(Option.map (fun x:Addr=>x.add (l*sz2)) (some ⟨g,off,none⟩))=some ⟨g,off+l*sz2,none⟩:=by rw[Option.map_some,zEX]
   rw[ha];refine .sl g (off+l*sz2) (h' - l) (cap - l) sz2 _ (fun i j=>f (l+i) j) ?_ (by omega) hok (fun el hel=>hsz el (List.mem_of_mem_drop (List.mem_of_mem_take hel))) (fun i j c hh=>?_) (fun i j c hh=>hr _ _ _ (hat i j c hh))
   ·simp;omega
   ·have h3:=hc _ _ _ (hat i j c hh);have e:off+l*sz2+(i*sz2+j)=off+((l+i)*sz2+j):=by rw[Nat.add_mul];omega
    rw[e];exact h3
theorem z1F{α:Type}{c:α→List Tr}{xs:List α}{o:Oper}{s:St}{t e sz:Nat}{x:Operand}{lo hi:Option Operand}{l h:Int}(hu:P.underlying t=some (.slice e))(hsz:(P.info? e).map (·.size)=some sz)(hc:∀v,(c v).length=sz)(ho:o.op=.slice t x lo hi none)
  (hx:s.ev x=.c (.sl (xs.map c))) (hlo:∀y,lo=some y→∃k,s.ev y=.c (.v (.int k l))) (hlo0:lo=none→l=0) (hhi:∀y,hi=some y→∃k,s.ev y=.c (.v (.int k h))) (hhi0:hi=none→h=(xs.length:Int)) (hb:0≤l∧l≤h∧h≤xs.length):Y0 P o s (.c (.sl ((subl xs l h).map c))):=
 qN fun ok σ a w hC=>by
  obtain⟨b1,b2,b3⟩:=hb;have h1:=hC.ev x;rw[hx]at h1;have h2:Rd ok w (.sl (xs.map c)) (a.eval x):=h1;generalize hv:a.eval x=v at h2;obtain⟨A,n,cap,rfl,hn,hcap⟩:∃A n cap,v=.slice A n cap∧n=xs.length∧n≤cap:=by
   generalize hT:Tr.sl (xs.map c)=T at h2;cases h2 with
   |v y hy=>cases hT
   |mp b es clock hb hm=>cases hT
   |nl A cap=>
    injection hT with hT;have:xs=[]:=by simpa using hT
    subst this;exact⟨A,0,cap,rfl,rfl,Nat.zero_le _⟩
   |sl g off n cap sz els f hn hcap hok hsz hc hr=>injection hT with hT;subst hT;exact⟨_,n,cap,rfl,by rw[hn];simp,hcap⟩
  have h3:=z8D (sz:=sz) h2 (fun el hel=>by obtain⟨y,_,rfl⟩:=List.mem_map.1 hel;exact hc y) (l:=l.toNat) (h':=h.toNat) (by omega) (by simp;omega);have e1:((xs.map c).drop l.toNat).take (h.toNat - l.toNat)=(subl xs l h).map c:=by unfold subl;rw[←List.map_drop,←List.map_take]
  rw[e1]at h3;refine⟨_,?_,h3⟩;have eL:(lo.map a.eval)=none∧l=0∨∃k,lo.map a.eval=some (.int k l):=by
   cases lo with
   |none=>exact .inl ⟨rfl,hlo0 rfl⟩
   |some y=>obtain⟨k,hk⟩:=hlo y rfl;exact .inr ⟨k,by simp[hC.exact hk]⟩
  have eH:(hi.map a.eval)=none∧h=(n:Int)∨∃k,hi.map a.eval=some (.int k h):=by
   cases hi with
   |none=>exact .inl ⟨rfl,by rw[hhi0 rfl,hn]⟩
   |some y=>obtain⟨k,hk⟩:=hhi y rfl;exact .inr ⟨k,by simp[hC.exact hk]⟩
  have hbounds:∀w,(Instr.sliceBounds true n cap (lo.map a.eval) (hi.map a.eval) none).run P w=.ok (l.toNat,h.toNat,cap) w:=by
   intro w;unfold Instr.sliceBounds;rcases eL with⟨e2,e3⟩|⟨k,e2⟩<;>rcases eH with⟨e4,e5⟩|⟨k2,e4⟩
   ·subst e3 e5;simp[e2,e4]
   ·subst e3;simp only[e2,e4,Sem.run_bind,Sem.run_pure,Result.andThen_ok,zIT (P:=P) (k:=k2) (n:=h) (y:=cap) (by omega) (by omega)];rfl
   ·subst e5;simp only[e2,e4,Sem.run_bind,Sem.run_pure,Result.andThen_ok,zIT (P:=P) (k:=k) (n:=l) (y:=n) b1 (by omega)];simp
   ·simp only[e2,e4,Sem.run_bind,Sem.run_pure,Result.andThen_ok,zIT (P:=P) (k:=k2) (n:=h) (y:=cap) (by omega) (by omega),zIT (P:=P) (k:=k) (n:=l) (y:=h.toNat) b1 (by omega)]
  cases hii:P.info? e with
  |none=>rw[hii]at hsz;cases hsz
  |some i=>
   have hi2:i.size=sz:=by rw[hii]at hsz;simpa using hsz
   unfold execOp;rw[ho];simp[hv,Instr.sliceAt,Instr.slice,run_underlying hu,hbounds,sizeOf,typeInfo,hii,hi2]
theorem z4m{o:Oper}{s:St}{x y:Operand}{t e d id sz bytes:Nat}{z:Value}{els:List (List Tr)}(ho:o.op=.call {callee:=.builtin .append,args:=#[x,y],argTypes:=#[t,t]})(hd:o.dst=some d)(ht:P.underlying t=some (.slice e))
  (hi:(P.info? e).map (fun i=>(i.zero,i.size,i.bytes))=some (some z,sz,bytes)) (hx:s.ev x=.ow id) (he:s.ent id=some (.arr e sz els)) (hy:zBp s (s.ev y)=some []):X P o s ⟨(zBs id s.T).set d (.ow id),setE id (.arr e sz (els++[])) s.E⟩:=by
 intro B w0 ok0 ok σ a w hR K Q hK;have h3:=hR.core.ev x;rw[hx]at h3;have h4:a.eval x=zF (σ id):=h3;obtain⟨A,cap2,h5,_,_⟩:=zIg hR.core (hR.core.ev y) hy;obtain⟨h0,hn,hs,vs,hown,hrd⟩:=hR.core.ent id _ he;have hle:(σ id).n≤(σ id).cap:=by
  rcases hown.2 with⟨hv,hv0⟩|⟨g,cap,cur,hv,_,_,hnc,_⟩
  ·omega
  ·unfold zF at hv;injection hv with _ q1 q2;omega
 cases hii:P.info? e with
 |none=>rw[hii]at hi;simp at hi
 |some i=>
  have hi2:i.size=sz:=by rw[hii]at hi;simp at hi;exact hi.2.1
  have hrun:(Builtin.append_ #[t,t] o.type #[zF (σ id),.slice A 0 cap2]).run P w=.ok (zF (σ id)) w:=by
   unfold Builtin.append_ zF;cases A<;>cases (σ id).blk<;>simp[run_underlying ht,sizeOf,typeInfo,hii,hi2,Builtin.lenOf,Builtin.firstCells,hle,loadCells,loadCellsFrom,storeCells]
  unfold Oper.wp execOp;simp only[ho,resolve,invoke,builtin,Sem.run_bind,Sem.run_pure,Result.andThen_ok,List.map_toArray,List.map_cons,zr,h4,h5,List.length_nil,hrun,Oper.upon,hd];refine hK _ _ ok σ ((hR.put (d:=d) (av:=.ow id) (v:=zF (σ id)) rfl).le ⟨by simp[St.put,zFQ],fun u=>?_,fun j f hj=>?_⟩)
  ·have e0:=zCg ⟨zBs id s.T,s.E⟩ d u (.ow id);have e1:=zCg s d u (.ow id);unfold St.put St.get at e0 e1;unfold St.get St.put;simp only[zFQ,zHG]at e0;rw[e0,e1];split
   ·exact .inr rfl
   ·cases ((s.T[u]?).getD .bot).mid id with
    |true=>exact .inl rfl
    |false=>exact .inr rfl
  ·have h7:(setE id (.arr e sz (els++[])) s.E).lookup j=some f:=hj;rw[zBu id _ s.E _ he,List.append_nil]at h7;show s.ent j=some f;split at h7
   ·rename_i hji;subst hji;rw[he];exact h7
   ·exact h7
theorem z4l{α:Type}{c:α→List Tr}{xs ys:List α}{o:Oper}{s:St}{x y:Operand}{t e d id sz bytes:Nat}{z:Value}(ho:o.op=.call {callee:=.builtin .append,args:=#[x,y],argTypes:=#[t,t]})(hd:o.dst=some d)(ht:P.underlying t=some (.slice e))
  (hi:(P.info? e).map (fun i=>(i.zero,i.size,i.bytes))=some (some z,sz,bytes)) (hzs:z.cells.size=sz) (hx:s.ev x=.ow id) (he:s.ent id=some (.arr e sz (xs.map c))) (hy:zBp s (s.ev y)=some (ys.map c)) (hc:∀v,(c v).length=sz)
  (hr:xs.length+ys.length≤1099511627776) (hby:bytes≤128):X P o s ⟨(zBs id s.T).set d (.ow id),setE id (.arr e sz ((xs++ys).map c)) s.E⟩:=by
 cases ys with
 |nil=>have:=z4m ho hd ht hi hx he (by simpa using hy);simpa using this
 |cons v vs=>exact zQa ho hd ht hi hzs hx he hy hc (by simp) hr hby
end
section
variable {P:Program}
def z0b(id:Nat)(cs:List Tr):AV→AV
 | .ow k=>bif k==id then .bot else .ow k
 | .pt k o=>bif k==id then .pe (cs.drop o) else .pt k o
 | .po k z i o=>bif k==id then .bot else .po k z i o
 | .tc _ _=>.bot
 |av=>av
def St.frzB(s:St)(id:Nat)(cs:List Tr):St:=⟨s.T.map (z0b id cs),rmE id s.E⟩
theorem z6Z(s:St)(id:Nat)(cs:List Tr)(t:Nat):(s.frzB id cs).get t=z0b id cs (s.get t):=by unfold St.frzB St.get;simp only[List.getElem?_map];cases s.T[t]?<;>rfl
theorem zKH(s:St)(id:Nat)(cs:List Tr)(j:Nat)(e:Ent)(h:(s.frzB id cs).ent j=some e):j≠id∧s.ent j=some e:=by
 have h2:(rmE id s.E).lookup j=some e:=h;rw[zDN]at h2;split at h2
 ·cases h2
 ·rename_i hne;exact⟨hne,h2⟩
theorem z7j{B:Fr}{w0:World}{ok0 ok:Nat→Prop}{σ:Nat→Loc}{s:St}{a:Act}{w:World}(hR:R B w0 ok0 ok σ s a w)(id:Nat){cs:List Tr}(he:s.ent id=some (.box cs)):R B w0 ok0 (fun g=>ok g∨(σ id).blk=some g) σ (s.frzB id cs) a w:=by
 have hup:∀g,ok g→ok g∨(σ id).blk=some g:=fun g hg=>.inl hg;refine⟨⟨by simpa [St.frzB] using hR.core.len,fun g hg=>?_,hR.core.lib.mono hup (fun _ _=>rfl),fun t=>?_,fun j e hj=>?_,fun j e g hj hg=>?_,fun i j e f g hi hj h1 h2=>?_⟩,hR.defers,hR.below,hR.base,fun g hg=>.inl (hR.old g hg),fun g hg=>?_,fun j e g hj hg=>hR.own j e g (zKH s id cs j e hj).2 hg⟩
 ·rcases hg with hg|hg
  ·exact hR.core.okL g hg
  ·exact (hR.core.blk id _ g he hg).2
 ·rw[z6Z];have h1:=hR.core.tmp t;generalize s.get t=av at h1;have same:Rel (fun g=>ok g∨(σ id).blk=some g) σ w av (a.tmps.getD t undef):=h1.mono0 hup fun _ _=>rfl;cases av with
  |ow k=>
   simp only[z0b];cases k==id with
   |false=>exact same
   |true=>exact trivial
  |pt k o=>
   simp only[z0b];cases hk:k==id with
   |false=>exact same
   |true=>
    have e1:k=id:=by simpa using hk
    subst e1;have hle:Le ⟨s.T,[(k,.box cs)]⟩ s:=⟨Nat.le_refl _,fun t=>.inr rfl,fun j e hj=>by
     unfold St.ent at hj;simp only[List.lookup]at hj;split at hj
     ·rename_i hjk;have:j=k:=by simpa using hjk
      subst this;injection hj with hj;subst hj;exact he
     ·cases hj⟩
    have h2:=zOB (hR.le hle).core h1;have e2:zJh ⟨s.T,[(k,.box cs)]⟩ (.pt k o)=.pe (cs.drop o):=by simp[zJh,St.entc,St.ent,List.lookup,Ent.core]
    rw[e2]at h2;refine h2.mono0 (fun g hg=>?_) fun _ _=>rfl;rcases hg with hg|⟨j,e,hj,hg⟩
    ·exact .inl hg
    ·refine .inr ?_
     unfold St.ent at hj;simp only[List.lookup]at hj;split at hj
     ·rename_i hjk;have:j=k:=by simpa using hjk
      subst this;exact hg
     ·cases hj
  |po k z i o=>
   simp only[z0b];cases k==id with
   |false=>exact same
   |true=>exact trivial
  |tc x r=>exact trivial
  |tn=>exact same
  |bot=>exact same
  |c t=>exact same
  |ag cs=>exact same
  |pe cs=>exact same
  |fn f caps=>exact same
  |er b=>exact same
  |vw id els m=>exact same
  |sf id z i=>exact same
 ·obtain⟨_,h2⟩:=zKH s id cs j e hj;exact (hR.core.ent j e h2).mono hup (fun _ _=>rfl) fun _ _=>rfl
 ·obtain⟨h1,h2⟩:=zKH s id cs j e hj;obtain⟨h3,h4⟩:=hR.core.blk j e g h2 hg;refine⟨fun h5=>?_,h4⟩;rcases h5 with h5|h5
  ·exact h3 h5
  ·exact h1 (hR.core.inj _ _ _ _ _ h2 he hg h5)
 ·exact hR.core.inj i j e f g (zKH s id cs i e hi).2 (zKH s id cs j f hj).2 h1 h2
 ·rcases hg with hg|hg
  ·exact hR.fresh g hg
  ·exact .inr (hR.own id _ g he hg)
theorem z4q{c:Code}{s s1:St}{J:Exit→St→Prop}(id:Nat){cs:List Tr}(he:s.ent id=some (.box cs))(hs:s.frzB id cs=s1)(h:V P c s1 J):V P c s J:=by subst hs;exact fun _ _ _ _ _ _ _ hR=>h _ _ _ _ _ _ _ (z7j hR id he)
theorem RelA.app{ok:Nat→Prop}{σ:Nat→Loc}{w:World}{ts us:List AV}{xs ys:List Value}(h:RelA ok σ w ts xs)(h2:RelA ok σ w us ys):RelA ok σ w (ts++us) (xs++ys):=by
 induction h with
 |nil=>exact h2
 |cons h hs ih=>exact .cons h ih
end
section
variable {P:Program}
theorem zQ3{a b:qf}{u:Unit}(h:catR a b=some u):a.size+b.size≤9223372036854775807:=by
 unfold catR at h;split at h
 ·assumption
 ·cases h
theorem z4V{b:qf}{i v:Int}(h:getB b i=some v):∃h:0≤i∧i<b.size,v=(b[i.toNat]'(by omega)).toNat:=by
 unfold getB at h;split at h
 ·rename_i hi;injection h with h;refine⟨hi,?_⟩;rw[←h];have h2:i.toNat<b.data.toList.length:=by
   have:b.data.toList.length=b.size:=by simp
   omega
  rw[zy h2];rfl
 ·cases h
theorem zZZ{o:Oper}{s:St}{x i:Operand}{t:TypeId}{b:qf}{k:IntKind}{n v:Int}(hu:P.underlying t=some .string)(ho:o.op=.index t x i)(hx:s.ev x=.c (.v (.string b)))(hi:s.ev i=.c (.v (.int k n)))(hg:getB b n=some v):Y0 P o s (.c (.v (.int .u8 v))):=
 qN fun ok σ a w hC=>by obtain⟨h1,h2⟩:=z4V hg;refine⟨.int .u8 v,?_,zKA _ _ _ _⟩;unfold execOp;rw[ho];simp only[hC.exact hx,hC.exact hi,Sem.run_bind,run_index_string w t b k n hu,dif_pos h1,Result.andThen_ok,Sem.run_pure];rw[h2]
theorem z1r(ok:Nat→Prop)(σ:Nat→Loc)(w:World)(b:qf):Rel ok σ w (.c (.v (.string b))) (.string b):=Rd.v _ rfl
theorem zX3{o:Oper}{s:St}{t:TypeId}{x:Operand}{lo hi:Option Operand}{b:qf}{l h:Int}(hu:P.underlying t=some .string)(ho:o.op=.slice t x lo hi none)
  (hx:s.ev x=.c (.v (.string b))) (hlo:∀y,lo=some y→∃k,s.ev y=.c (.v (.int k l))) (hlo0:lo=none→l=0) (hhi:∀y,hi=some y→∃k,s.ev y=.c (.v (.int k h))) (hhi0:hi=none→h=(b.size:Int)) (hb:0≤l∧l≤h∧h≤b.size):Y0 P o s (.c (.v (.string (b.extract l.toNat h.toNat)))):=
 qN fun ok σ a w hC=>by
  obtain⟨b1,b2,b3⟩:=hb;refine⟨.string (b.extract l.toNat h.toNat),?_,z1r _ _ _ _⟩;unfold execOp;rw[ho];have hrun:(Instr.sliceAt t (.string b) (lo.map a.eval) (hi.map a.eval) none).run P w=.ok (.string (b.extract l.toNat h.toNat)) w:=by
   rw[run_sliceAt_string w t (.string b) (lo.map a.eval) (hi.map a.eval) none hu];cases lo with
   |none=>
    have hl:=hlo0 rfl;subst hl;cases hi with
    |none=>have hh:=hhi0 rfl;subst hh;simpa using run_slice_string_all w t b hu
    |some y=>obtain⟨k,hk⟩:=hhi y rfl;simp only[Option.map_none,Option.map_some,hC.exact hk];simpa using run_slice_string_h w t b hu k h b2 b3
   |some z=>
    obtain⟨k1,hk1⟩:=hlo z rfl;cases hi with
    |none=>have hh:=hhi0 rfl;subst hh;simp only[Option.map_none,Option.map_some,hC.exact hk1];simpa using run_slice_string_l w t b hu k1 l b1 b2
    |some y=>obtain⟨k,hk⟩:=hhi y rfl;simp only[Option.map_some,hC.exact hk,hC.exact hk1];exact run_slice_string w t b k1 k l h hu b1 b2 b3
  simp only[hC.exact hx,Option.map_none,Sem.run_bind,hrun,Result.andThen_ok,Sem.run_pure]
theorem z2h{o:Oper}{s:St}{src dst e:TypeId}{x:Operand}{c:Int→List Tr}(hc:∀v,c v=[.v (.int .u8 v)])(xs:List Int)(hs:P.underlying src=some (.slice e))(he:P.underlying e=some (.int .u8))(hd:P.underlying dst=some .string)(ho:o.op=.convert src dst x)
  (hx:zBp s (s.ev x)=some (xs.map c)):Y0 P o s (.c (.v (.string (zAy xs)))):=
 qN fun ok σ a w hC=>by
  obtain⟨A,cap,h1,h2,h3⟩:=zIg hC (hC.ev x) hx;refine⟨.string (zAy xs),?_,z1r _ _ _ _⟩;unfold execOp;rw[ho];have hrun:(convert src dst (a.eval x)).run P w=.ok (.string (zAy xs)) w:=by
   rw[h1,run_convert_bytes_string w src dst e A _ cap hs he hd];by_cases hn:xs=[]
   ·subst hn;cases A with
    |none=>simp[Conv.bytesToString,zAy]
    |some A=>have:=run_bytesToString (P:=P) w A 0 cap [] (by simpa using run_loadCells_list (P:=P) w A [] (fun j v hj=>by simp at hj));simpa [zAy] using this
   ·obtain⟨g,off,sz,vs,rfl,hs1,hr,hcell⟩:=h3 (by simpa using hn);have hflat:(xs.map c).flatten=xs.map fun v=>Tr.v (.int .u8 v):=by
     clear h1 h2 h3 hs1 hr hcell hn hx
     induction xs with
     |nil=>rfl
     |cons v xs ih=>rw[List.map_cons,List.flatten_cons,ih,hc];rfl
    rw[hflat]at hr;have hvs:vs=xs.map fun v=>Value.int .u8 v:=by
     clear h1 h2 h3 hs1 hcell hn hx hflat
     induction xs generalizing vs with
     |nil=>cases hr;rfl
     |cons v xs ih=>
      cases hr with
      |cons h hs=>cases h;rw[ih _ hs];rfl
    have:=run_bytesToString (P:=P) w ⟨g,off,none⟩ xs.length cap xs (by
     have hl:=run_loadCells_list (P:=P) w ⟨g,off,none⟩ (xs.map (Value.int .u8)) (fun j v hj=>by rw[zEX];exact hcell j v (by rw[hvs];exact hj))
     simpa using hl)
    simpa [zAy] using this
  simp only[Sem.run_bind,hrun,Result.andThen_ok,Sem.run_pure]
theorem zX8{f:FuncId}{args:List AV}{b:qf}(h:∀ok σ w vs,(∀g,ok g→g<w.heap.size)→Lb ok w→RelA ok σ w args vs→Calls P f vs.toArray w fun e w'=>e=.returned (.string b)∧Below w.heap.size w w'):zC P f args (.c (.v (.string b))) []:=by
 intro ok σ w vs hok hlib hargs;refine (h ok σ w vs hok hlib hargs).mono ?_
 rintro e w' ⟨rfl,hb⟩;refine⟨_,ok,σ,rfl,⟨hb,fun _ h=>h,fun _ h=>.inl h,fun g hg=>Nat.lt_of_lt_of_le (hok g hg) hb.size,z1r _ _ _ _,fun id e h=>by simp at h,fun e he=>rfl,fun id e h=>by simp at h,fun id e g h=>by simp at h,fun i j e f g h=>by simp at h,fun id e h=>by simp at h⟩⟩
theorem z0Q{ok:Nat→Prop}{σ:Nat→Loc}{w:World}{k:IntKind}{n:Int}{v:Value}(h:Rel ok σ w (.c (.v (.int k n))) v):v=.int k n:=by have h2:Rd ok w (.v (.int k n)) v:=h;cases h2;rfl
theorem zGQ{ok:Nat→Prop}{σ:Nat→Loc}{w:World}{b:qf}{v:Value}(h:Rel ok σ w (.c (.v (.string b))) v):v=.string b:=by have h2:Rd ok w (.v (.string b)) v:=h;cases h2;rfl
theorem z2m{f:FuncId}(hc:∀ok w n,Lb ok w→-9223372036854775808≤n→n≤9223372036854775807→Calls P f #[.int .i64 n] w fun e w'=>e=.returned (.string ⟨(Go.Lib.itoa n).toArray⟩)∧Below w.heap.size w w'){n:Int}{r:qf}(h:qS n=some r):zC P f [I n] (.c (.v (.string r))) []:=by
 unfold qS at h;split at h
 ·rename_i hn;injection h with h;subst h;refine zX8 fun ok σ w vs hok hlib hargs=>?_
  cases hargs with
  |cons h1 h2=>cases h2;have:=z0Q h1;subst this;exact hc ok w n hlib hn.1 hn.2
 ·cases h
theorem z2l{f:FuncId}{c:qf→List Tr}(hcc:∀v,c v=[.v (.string v)])
  (hc0:∀(A:Option Addr)(c:Nat)(sep:qf)(w:World),Calls P f #[.slice A 0 c,.string sep] w fun e w'=>e=.returned (.string ⟨#[]⟩)∧w'=w)
  (hc:∀(bk o c:Nat)(xs:List qf)(sep:qf)(w:World),(∀(j:Nat) x,xs[j]?=some x→w.cell? ⟨bk,o+j,none⟩=some (.string x))→bk<w.heap.size→xs.length≤140737488355328→xs.length≤c→(Go.Lib.join (xs.map (·.data.toList)) sep.data.toList).length≤140737488355328→
   Calls P f #[.slice (some ⟨bk,o,none⟩) xs.length c,.string sep] w fun e w'=>e=.returned (.string ⟨(Go.Lib.join (xs.map (·.data.toList)) sep.data.toList).toArray⟩)∧Below w.heap.size w w')
  {xs:List qf} {sep r:qf} (h:zCs xs sep=some r):zC P f [.c (.sl (xs.map c)),.c (.v (.string sep))] (.c (.v (.string r))) []:=by
 unfold zCs at h;split at h
 ·rename_i hn;injection h with h;subst h;refine zX8 fun ok σ w vs hok hlib hargs=>?_
  cases hargs with
  |cons h1 h2=>
   cases h2 with
   |cons h3 h4=>
    cases h4;have:=zGQ h3;subst this;rename_i v;have h1:Rd ok w (.sl (xs.map c)) v:=h1;generalize hT:Tr.sl (xs.map c)=T at h1;cases h1 with
    |v y hy=>cases hT
    |mp b es clock hb hm=>cases hT
    |nl A cap=>
     injection hT with hT;have e1:xs=[]:=by simpa using hT
     subst e1;refine (hc0 A cap sep w).mono ?_
     rintro e w' ⟨rfl,rfl⟩;exact⟨rfl,Below.refl _ _⟩
    |sl g off n cap sz els f hn1 hcap hok1 hs hcell hrr=>
     injection hT with hT;subst hT;subst hn1;rw[List.length_map];refine hc g off cap xs sep w (fun j x hj=>?_) (hok g hok1) hn.1 (by simpa using hcap) hn.2;have hce:c x=[.v (.string x)]:=hcc x;have hxl:j<xs.length:=by have:=List.getElem?_eq_some_iff.1 hj;exact this.1
     have hs1:sz=1:=by have:=hs (c x) (List.mem_map.2 ⟨x,List.mem_of_getElem? hj,rfl⟩);rw[hce]at this;simpa using this.symm
     have hat:at2 (xs.map c) j 0=some (.v (.string x)):=by unfold at2;rw[List.getElem?_map,hj];simp[hce]
     have h5:=hcell j 0 _ hat;have h6:=hrr j 0 _ hat;rw[hs1]at h5;rw[Nat.mul_one,Nat.add_zero]at h5;rw[h5];generalize f j 0=u at h6;cases h6;rfl
 ·cases h
end
section
variable {P:Program}
end
section
variable {P:Program}
def bt:Nat→List AV→List AV
 |0,l=>l
 |n+1,l=>.bot::bt n l
def mb:Nat→Nat→List Bool
 |0,_=>[]
 |n+1,x=>Nat.beq (Nat.mod x 2) 1::mb n (Nat.div x 2)
theorem L0{ops:Array Oper}{o:Oper}{rest:List Oper}{s:St}{av:AV}{d:Nat}{J:St→Prop}(hg:o.guard=none)(hd:o.dst=some d)(h:Y0 P o s av)(hk:XL P ops rest (s.put d av) J):XL P ops (o::rest) s J:=zW hg (zB hd h) hk
theorem L1{ops:Array Oper}{o:Oper}{rest:List Oper}{s:St}{av:AV}{ne:List (Nat×Ent)}{d:Nat}{J:St→Prop}(hg:o.guard=none)(hd:o.dst=some d)(h:Y1 P o s av ne)(hk:XL P ops rest (s.upd d av ne) J):XL P ops (o::rest) s J:=zW hg (zE9 hd h) hk
def VR(P:Program)(c:Code):Nat→St→(Exit→St→Prop)→Prop
 |0,_,_=>False
 |n+1,s,J=>V P c s (zNe (fun s'=>VR P c n s' J) J)
theorem VR_s{c:Code}{n:Nat}{s:St}{J:Exit→St→Prop}(h:V P c s (zNe (fun s'=>VR P c n s' J) J)):VR P c (n+1) s J:=h
theorem z7b{c:Code}{s:St}{J:Exit→St→Prop}(n:Nat)(h:VR P c n s J):V P (.loop c) s J:=by
 intro B w0 ok0 ok σ a w hR;refine wp_loop_rounds n ?_
 revert h
 induction n generalizing s ok σ a w with
 |zero=>intro h;exact h.elim
 |succ n ih=>
  intro h;refine wp_mono (h _ _ _ _ _ _ _ hR) ?_
  rintro e a' w' ⟨s',ok',σ',hJ,hR'⟩;cases e with
  |normal=>exact ih _ _ _ _ hR' hJ
  |exit id=>exact⟨s',ok',σ',hJ,hR'⟩
  |goto l=>exact⟨s',ok',σ',hJ,hR'⟩
  |ret=>exact⟨s',ok',σ',hJ,hR'⟩
  |panic ch=>exact⟨s',ok',σ',hJ,hR'⟩
  |outgrown=>exact⟨s',ok',σ',hJ,hR'⟩
theorem qBe{o:Oper}{s:St}{t e:TypeId}{x ix:Operand}{k:IntKind}{N sz:Nat}{n:Int}(av:AV)(hu:P.underlying t=some (.array N e))(hsz:(P.info? e).map (·.size)=some sz)(ho:o.op=.indexAddr t x ix)(hi:s.ev ix=.c (.v (.int k n)))
  (hn:(decide (0≤n)&&decide (n<N))=true) (hx:(s.ev x).adv (n.toNat*sz)=av) (hb:av≠.bot):Y0 P o s av:=
 qN fun ok σ a w hC=>by
  subst hx;obtain⟨g,off,h1,h2⟩:=zZX (n.toNat*sz) (hC.ev x) hb;refine⟨_,?_,h2⟩;simp only[zk,decide_eq_true_eq]at hn;have h3:=hC.exact hi;cases hii:P.info? e with
  |none=>rw[hii]at hsz;simp at hsz
  |some i=>
   have h5:i.size=sz:=by rw[hii]at hsz;simpa using hsz
   unfold execOp;rw[ho];simp[h1,h3,Instr.indexAt,asIntOf,run_underlying hu,Instr.sureAddr,sizeOf,typeInfo,hii,h5,hn.1,hn.2,zEX]
end
theorem kk{p:Prop}(h:p:=by kernel_rfl):p:=h
section
variable (P:Program)
def nbA:AV→Option AV
 | .bot=>none
 |av=>some av
def xbin(op:BinOp):AV→AV→Option AV
 | .c (.v (.int .i64 a)),.c (.v (.int .i64 b))=>match op with
  | .add=>some (I (w64 (a+b)))
  | .sub=>some (I (w64 (a - b)))
  | .mul=>some (I (w64 (a*b)))
  | .lss=>some (Bo (ltI a b))
  | .leq=>some (Bo (leI a b))
  | .gtr=>some (Bo (ltI b a))
  | .geq=>some (Bo (leI b a))
  | .eql=>some (Bo (eqI a b))
  | .neq=>some (Bo (!eqI a b))
  |_=>none
 |_,_=>none
def xun(op:UnOp):AV→Option AV
 | .c (.v (.int .i64 a))=>match op with
  | .neg=>some (I (w64 (0 - a)))
  |_=>none
 | .c (.v (.bool b))=>match op with
  | .not=>some (.c (.v (.bool (!b))))
  |_=>none
 |_=>none
def zEf(t:TypeId):Option Nat:=(P.info? t).map (·.size)
def xv(s:St):Op→Option AV
 | .move x=>some (s.ev x)
 | .assign x=>some (s.ev x)
 | .extract x n=>match s.ev x with
  | .tc y r=>nbA ((AV.tc y r).nth n)
  |_=>none
 | .fieldAddr t x f=>match P.underlying t with
  |some (.struct fields)=>match fields[f]? with
   |some fd=>match zEf P fd.type with
    |some (_+1)=>nbA ((s.ev x).adv fd.offset)
    |_=>none
   |none=>none
  |_=>none
 | .load t x=>match P.underlying t with
  |some d=>bif aggD d then (match zEf P t,zAs s (s.ev x) with
    |some n,some cs=>bif Nat.ble n cs.length then some (.ag (cs.take n)) else none
    |_,_=>none)
   else (match zAs s (s.ev x) with
    |some (c::_)=>some (.c c)
    |_=>none)
  |none=>none
 | .indexAddr t x ix=>match P.underlying t with
  |some (.array N e)=>match zEf P e,s.ev ix with
   |some sz,.c (.v (.int _ n))=>bif (decide (0≤n)&&decide (n<N)) then nbA ((s.ev x).adv (n.toNat*sz)) else none
   |_,_=>none
  |_=>none
 | .binOp op _ x y _=>xbin op (s.ev x) (s.ev y)
 | .unOp op _ x=>xun op (s.ev x)
 |_=>none
def xn(s:St):Op→Option (AV×List (Nat×Ent))
 | .alloc e=>match (P.info? e).bind (·.zero) with
  |some z=>bif zFl z.cells then some (.pt 0 0,[(0,.box (z.cells.toList.map Tr.v))]) else none
  |none=>none
 | .box _ x=>match zCK (s.ev x) with
  |some cs=>some (.pt 0 0,[(0,.box cs)])
  |none=>none
 |_=>none
def xs(s:St):Op→Option St
 | .store t x y=>match s.ev x,zCK (s.ev y) with
  | .pt id off,some vc=>match s.ent id with
   |some (.box cs)=>bif (zEf P t==some vc.length)&&Nat.ble (off+vc.length) cs.length then some ⟨s.T,setE id (.box (splice cs off vc)) s.E⟩ else none
   |some (.pbox l cs)=>bif (zEf P t==some vc.length)&&Nat.ble (off+vc.length) cs.length then some ⟨s.T,setE id (.pbox l (splice cs off vc)) s.E⟩ else none
   |_=>none
  |_,_=>none
 |_=>none
def xo(o:Oper)(s:St):Option St:=match o.dst with
 |some d=>match xv P s o.op with
  |some av=>some (s.put d av)
  |none=>match xn P s o.op with
   |some r=>some (s.upd d r.1 r.2)
   |none=>none
 |none=>xs P s o.op
end
section
variable {P:Program}
theorem zYb{a b:AV}(h:nbA a=some b):a=b∧b≠.bot:=by
 cases a<;>simp only[nbA]at h<;>first|(cases h;done)|(cases h;exact⟨rfl,fun h=>by cases h⟩)
theorem z7r{o:Oper}{s:St}{op:BinOp}{t t2:TypeId}{x y:Operand}{av:AV}(ho:o.op=.binOp op t x y t2)(h:xbin op (s.ev x) (s.ev y)=some av):Y0 P o s av:=by
 generalize hx:s.ev x=a at h;generalize hy:s.ev y=b at h;unfold xbin at h;split at h
 ·cases op<;>simp only[Option.some.injEq,reduceCtorEq]at h<;>subst h
  ·exact zFn ho hx hy
  ·exact z7N ho hx hy
  ·exact z7U ho hx hy
  all_goals first|exact zJD ho hx hy|exact z2d ho hx hy|exact zH2 ho hx hy|exact z2e ho hx hy|exact zQ9 ho hx hy|exact zVA ho hx hy
 ·cases h
theorem z9g{o:Oper}{s:St}{op:UnOp}{t:TypeId}{x:Operand}{av:AV}(ho:o.op=.unOp op t x)(h:xun op (s.ev x)=some av):Y0 P o s av:=by
 generalize hx:s.ev x=a at h;unfold xun at h;split at h
 ·cases op<;>simp only[Option.some.injEq,reduceCtorEq]at h;subst h;exact zUy ho hx
 ·cases op<;>simp only[Option.some.injEq,reduceCtorEq]at h;subst h;exact zQ7 ho hx
 ·cases h
theorem z9L{o:Oper}{s:St}{av:AV}(h:xv P s o.op=some av):Y0 P o s av:=by
 unfold xv at h;split at h
 ·cases h;rename_i ho;exact z3t ho
 ·cases h;rename_i ho;exact zX4 ho
 ·rename_i ho;split at h
  ·rename_i hx;obtain⟨h1,h2⟩:=zYb h;exact zH6 _ _ _ ho hx h1 h2
  ·cases h
 ·rename_i ho;split at h
  ·rename_i hu;split at h
   ·rename_i hf;split at h
    ·rename_i hs;obtain⟨h1,h2⟩:=zYb h;exact zA8 _ hu hf hs ho h1 h2
    ·cases h
   ·cases h
  ·cases h
 ·rename_i ho;split at h
  ·rename_i d hu;cases ha:aggD d with
   |true=>
    rw[ha,zb]at h;split at h
    ·rename_i n cs hn hm;cases hb:Nat.ble n cs.length with
     |true=>rw[hb,zb]at h;cases h;exact zHs _ ⟨⟨d,hu,ha⟩,hn⟩ ho hm (Nat.le_of_ble_eq_true hb) rfl
     |false=>rw[hb,zc]at h;cases h
    ·cases h
   |false=>
    rw[ha,zc]at h;split at h
    ·rename_i c cs hm;cases h;exact zAG ⟨d,hu,ha⟩ ho hm
    ·cases h
  ·cases h
 ·rename_i ho;split at h
  ·rename_i N e hu;split at h
   ·rename_i sz k n hs hi;cases hb:(decide (0≤n)&&decide (n<(N:Int))) with
    |true=>rw[hb,zb]at h;obtain⟨h1,h2⟩:=zYb h;exact qBe _ hu hs ho hi hb h1 h2
    |false=>rw[hb,zc]at h;cases h
   ·cases h
  ·cases h
 ·rename_i ho;exact z7r ho h
 ·rename_i ho;exact z9g ho h
 ·cases h
theorem z9M{o:Oper}{s:St}{r:AV×List (Nat×Ent)}(h:xn P s o.op=some r):Y1 P o s r.1 r.2:=by
 unfold xn at h;split at h
 ·rename_i e ho;split at h
  ·rename_i z hz;cases hc:zFl z.cells with
   |true=>rw[hc,zb]at h;cases h;exact zOu ho hz hc
   |false=>rw[hc,zc]at h;cases h
  ·cases h
 ·rename_i e x ho;split at h
  ·rename_i cs hx;cases h;exact zUw ho hx
  ·cases h
 ·cases h
theorem xs_ok{o:Oper}{s s':St}(hd:o.dst=none)(h:xs P s o.op=some s'):X P o s s':=by
 unfold xs at h;split at h
 ·rename_i t x y ho;split at h
  ·rename_i id off vc hx hy;split at h
   ·rename_i cs he;cases hb:(zEf P t==some vc.length)&&Nat.ble (off+vc.length) cs.length with
    |true=>rw[hb,zb]at h;cases h;rw[zk,beq_iff_eq]at hb;exact zFp _ ho hd hx he hy hb.1 (Nat.le_of_ble_eq_true hb.2) rfl
    |false=>rw[hb,zc]at h;cases h
   ·rename_i l cs he;cases hb:(zEf P t==some vc.length)&&Nat.ble (off+vc.length) cs.length with
    |true=>rw[hb,zb]at h;cases h;rw[zk,beq_iff_eq]at hb;exact z7n _ ho hd hx he hy hb.1 (Nat.le_of_ble_eq_true hb.2) rfl
    |false=>rw[hb,zc]at h;cases h
   ·cases h
  ·cases h
 ·cases h
theorem xo_ok{o:Oper}{s s':St}(h:xo P o s=some s'):X P o s s':=by
 unfold xo at h;split at h
 ·rename_i d hd;split at h
  ·rename_i av hv;cases h;exact zB hd (z9L hv)
  ·split at h
   ·rename_i r hn;cases h;exact zE9 hd (z9M hn)
   ·cases h
 ·rename_i hd;exact xs_ok hd h
section
variable (P)
def dr2(l:List Oper)(ms:List Nat)(n1:Nat)(css:List (List Cd))(rs:List Res)(S:St):Op→Option (List Res)
 | .store t x y=>match S.ev x,zCK (S.ev y) with
  | .pt id off,some vc=>match S.ent id with
   |some (.box cs)=>bif (zEf P t==some vc.length)&&Nat.ble (off+vc.length) cs.length&&(zQz rs.length id css&&(mkOk ms rs.length id 0 (l.take n1)&&zIv id rs)) then some (rs++[.r2 id (.box (splice cs off vc))]) else none
   |_=>none
  |_,_=>none
 |_=>none
end
end
section
variable {P:Program}
theorem z8s{o:Oper}{s:St}{x:Operand}{t t2:TypeId}{ms:Array (String×TypeId)}{b:Bool}(hu:P.underlying t=some (.interface ms))(ho:o.op=.binOp .neq t x (.const .nilIface) t2)(hx:s.ev x=.er b):Y0 P o s (Bo (!b)):=
 qN fun ok σ a w hC=>by
  have h1:=hC.ev x;rw[hx]at h1;have h2:(b=true∧a.eval x=.nilIface)∨(b=false∧∃t v,a.eval x=.iface t v):=h1;refine⟨.bool (!b),?_,zKo _ _ _⟩;unfold execOp;rw[ho];have e1:∀w,(eqGuard .neq t x (.const .nilIface) (a.eval x) .nilIface).run P w=.ok () w:=fun w=>by rcases h2 with⟨_,h3⟩|⟨_,tx,v,h3⟩<;>rw[h3]<;>simp[eqGuard]
  have e2:∀d:Nat,(Op.equalIn (d+1) t (a.eval x) .nilIface).run P w=.ok b w:=fun d=>by rcases h2 with⟨h4,h3⟩|⟨h4,tx,v,h3⟩<;>rw[h3,h4]<;>simp[Op.equalIn,run_underlying hu]
  have e3:(binOp .neq t (a.eval x) .nilIface).run P w=.ok (.bool (!b)) w:=by have e4:=e2 9999;rcases h2 with⟨h4,h3⟩|⟨h4,tx,v,h3⟩<;>rw[h3]at e4 ⊢<;>simp only[binOp]<;>simp[Op.equal,Op.maxDepth,e4]
  have e5:a.eval (.const .nilIface)=.nilIface:=rfl;simp only[e5,Sem.run_bind,e1,e3,Result.andThen_ok,Sem.run_pure]
theorem z8t{o:Oper}{s:St}{x:Operand}{t t2:TypeId}{ms:Array (String×TypeId)}{b:Bool}(hu:P.underlying t=some (.interface ms))(ho:o.op=.binOp .eql t x (.const .nilIface) t2)(hx:s.ev x=.er b):Y0 P o s (Bo b):=
 qN fun ok σ a w hC=>by
  have h1:=hC.ev x;rw[hx]at h1;have h2:(b=true∧a.eval x=.nilIface)∨(b=false∧∃t v,a.eval x=.iface t v):=h1;refine⟨.bool b,?_,zKo _ _ _⟩;unfold execOp;rw[ho];have e1:∀w,(eqGuard .eql t x (.const .nilIface) (a.eval x) .nilIface).run P w=.ok () w:=fun w=>by rcases h2 with⟨_,h3⟩|⟨_,tx,v,h3⟩<;>rw[h3]<;>simp[eqGuard]
  have e2:∀d:Nat,(Op.equalIn (d+1) t (a.eval x) .nilIface).run P w=.ok b w:=fun d=>by rcases h2 with⟨h4,h3⟩|⟨h4,tx,v,h3⟩<;>rw[h3,h4]<;>simp[Op.equalIn,run_underlying hu]
  have e3:(binOp .eql t (a.eval x) .nilIface).run P w=.ok (.bool b) w:=by have e4:=e2 9999;rcases h2 with⟨h4,h3⟩|⟨h4,tx,v,h3⟩<;>rw[h3]at e4 ⊢<;>simp only[binOp]<;>simp[Op.equal,Op.maxDepth,e4]
  have e5:a.eval (.const .nilIface)=.nilIface:=rfl;simp only[e5,Sem.run_bind,e1,e3,Result.andThen_ok,Sem.run_pure]
theorem z0f{c:qf→List Tr}(hcc:∀v,c v=[.v (.string v)]):∀(xs:List qf),(xs.map c).flatten=xs.map fun x=>Tr.v (.string x)
 |[]=>rfl
 |x::xs=>by simp[hcc,z0f hcc xs]
theorem z3I{ok:Nat→Prop}{w:World}:∀(xs:List qf),RdL ok w (xs.map fun x=>Tr.v (.string x)) (xs.map Value.string)
 |[]=>.nil
 |x::xs=>.cons (Rd.v _ rfl) (z3I xs)
theorem zX9{f:FuncId}{args:List AV}{T:TypeId}{c:qf→List Tr}(hcc:∀v,c v=[.v (.string v)]){xs:List qf}
  (h:∀ok σ w vs,(∀g,ok g→g<w.heap.size)→Lb ok w→RelA ok σ w args vs→Calls P f vs.toArray w fun e w'=>∃A cap,e=.returned (.slice (some ⟨A,0,none⟩) xs.length cap)∧w.heap.size≤A∧
   w'.ownsRow w.heap.size T 1 (.slice (some ⟨A,0,none⟩) xs.length cap) xs.length (xs.map Value.string)∧Below w.heap.size w w'):zC P f args (.ow 0) [(0,.arr T 1 (xs.map c))]:=by
 intro ok σ w vs hok hlib hargs;refine (h ok σ w vs hok hlib hargs).mono ?_
 rintro e w' ⟨A,cap,rfl,hA,hown,hb⟩;refine⟨_,ok,fun _=>⟨some A,xs.length,cap⟩,rfl,⟨hb,fun _ h=>h,fun _ h=>.inl h,fun g hg=>Nat.lt_of_lt_of_le (hok g hg) hb.size,rfl,?_,?_,?_,?_,?_,?_⟩⟩
 ·intro id e he;obtain⟨rfl,_⟩:=zAK _ _ _ _ he;decide
 ·intro e he;simp only[AV.ment];cases h:(0 / 8==e) with
  |false=>rfl
  |true=>exact absurd (by simpa using h:0=e).symm he
 ·intro id e he;obtain⟨rfl,rfl⟩:=zAK _ _ _ _ he;refine⟨by decide,(List.length_map ..).symm,fun el hel=>?_,xs.map Value.string,?_,?_⟩
  ·obtain⟨x,_,rfl⟩:=List.mem_map.1 hel;rw[hcc];rfl
  ·refine⟨by simp,?_⟩;rcases hown.2 with⟨h1,_⟩|⟨g,cap2,cur,h1,h2,h3,h4,h5,h6,h7⟩
   ·cases h1
   ·refine .inr ⟨g,cap2,cur,?_,Nat.zero_le _,h3,by simpa using h4,h5,h6,by simpa using h7⟩;rw[List.length_map];exact h1
  ·rw[z0f hcc];exact z3I xs
 ·intro id e g he hg;obtain⟨rfl,rfl⟩:=zAK _ _ _ _ he;have hg2:some A=some g:=hg;injection hg2 with hg2;subst hg2;refine⟨hA,fun h=>?_,?_⟩
  ·have:=hok _ h;omega
  ·rcases hown.2 with⟨h1,_⟩|⟨g,cap2,cur,h1,h2,h3,h4,h5,h6,h7⟩
   ·cases h1
   ·injection h1 with h1;injection h1 with h1;injection h1 with h1;subst h1;by_cases hlt:A<w'.heap.size
    ·exact hlt
    ·have:=Array.getElem?_eq_none (xs:=w'.heap) (i:=A) (by omega);rw[this]at h3;cases h3
 ·intro i j e f g hi hj h1 h2;obtain⟨rfl,_⟩:=zAK _ _ _ _ hi;obtain⟨rfl,_⟩:=zAK _ _ _ _ hj;rfl
 ·intro id e he;obtain⟨rfl,rfl⟩:=zAK _ _ _ _ he;rfl
theorem z1O{f:FuncId}{T:TypeId}{c:qf→List Tr}(hcc:∀v,c v=[.v (.string v)])
  (hc:∀ok w (s sep:qf),Lb ok w→s.size<4294967281→1≤sep.size→Calls P f #[.string s,.string sep] w fun e w'=>e=.returned (.slice (some ⟨w.heap.size,0,none⟩) (Go.Lib.countB s sep+1) (Go.Lib.countB s sep+1))∧w'=w.alloc (.cells ((Go.Lib.splitB sep 0 (Go.Lib.countB s sep) s).map Value.string).toArray T))
  {s sep:qf} {r:List qf} (h:zAB s sep=some r):zC P f [.c (.v (.string s)),.c (.v (.string sep))] (.ow 0) [(0,.arr T 1 (r.map c))]:=by
 unfold zAB at h;split at h
 ·rename_i hn;injection h with h;subst h;have hlen:=Go.Lib.splitB_all sep hn.2 0 _ s rfl;refine zX9 hcc fun ok σ w vs hok hlib hargs=>?_
  cases hargs with
  |cons h1 h2=>
   cases h2 with
   |cons h3 h4=>
    cases h4;have:=zGQ h1;subst this;have:=zGQ h3;subst this;refine (hc ok w s sep hlib hn.1 hn.2).mono ?_
    rintro e w' ⟨rfl,rfl⟩;have hle:=Go.Lib.countB_le sep hn.2 s.size s (Nat.le_refl _);refine⟨w.heap.size,Go.Lib.countB s sep+1,by rw[hlen],Nat.le_refl _,⟨by simp,.inr ⟨w.heap.size,Go.Lib.countB s sep+1,((Go.Lib.splitB sep 0 (Go.Lib.countB s sep) s).map Value.string).toArray,rfl,Nat.le_refl _,?_,by omega,?_,?_,?_⟩⟩,(Below.refl _ _).alloc (Nat.le_refl _) _⟩
    ·exact (MapKept.heap_alloc w _).1
    ·unfold maxLen;omega
    ·simp[hlen]
    ·rw[List.take_of_length_le (by simp)]
 ·cases h
theorem z2n{f:FuncId}(hc:∀ok w (s:qf),Lb ok w→s.size≤281474976710656→∀r,zAb s=some r→Calls P f #[.string s] w fun e w'=>(∃v,e=.returned (.tuple #[.int .i64 r.1,v])∧((r.2=true∧v=.nilIface)∨(r.2=false∧∃t u,v=.iface t u)))∧Below w.heap.size w w')
  {s:qf} {r:Int×Bool} (h:zAb s=some r):zC P f [.c (.v (.string s))] (.tc (I r.1) (.tc (.er r.2) .tn)) []:=by
 have hn:s.size≤281474976710656:=by
  unfold zAb at h;split at h
  ·assumption
  ·cases h
 intro ok σ w vs hok hlib hargs;cases hargs with
 |cons h1 h2=>
  cases h2;have:=zGQ h1;subst this;refine (hc ok w s hlib hn r h).mono ?_
  rintro e w' ⟨⟨v,rfl,hv⟩,hb⟩;exact⟨_,ok,σ,rfl,⟨hb,fun _ h=>h,fun _ h=>.inl h,fun g hg=>Nat.lt_of_lt_of_le (hok g hg) hb.size,⟨_,rfl,zKA _ _ _ _,hv,trivial⟩,fun id e h=>by simp at h,fun e he=>rfl,fun id e h=>by simp at h,fun id e g h=>by simp at h,fun i j e f g h=>by simp at h,fun id e h=>by simp at h⟩⟩
end
end Go.Proofs.YtahdjphocippeaaGreatDoor
namespace Go.Proofs.YtahdjphocippeaaGreatDoor
def spl(c:UInt8):List UInt8→List (List UInt8)
 |[]=>[[]]
 |b::l=>if b=c then []::spl c l else match spl c l with
  |w::ws=>(b::w)::ws
  |[]=>[[b]]
theorem zIA(c:UInt8):∀l,spl c l≠[]
 |[]=>by simp[spl]
 |b::l=>by
  unfold spl;split
  ·simp
  ·split<;>simp
theorem zFx(c:UInt8)(l:List UInt8):spl c (c::l)=[]::spl c l:=by simp[spl]
theorem zDM{b c:UInt8}(h:b≠c){l w:List UInt8}{ws:List (List UInt8)}(e:spl c l=w::ws):spl c (b::l)=(b::w)::ws:=by simp[spl,h,e]
theorem z6N(c:UInt8)(l:List UInt8):Go.Lib.index (c::l) [c]=0:=by simp[Go.Lib.index]
theorem z6M{b c:UInt8}(h:b≠c)(l:List UInt8):Go.Lib.index (b::l) [c]=if Go.Lib.index l [c]==-1 then -1 else Go.Lib.index l [c]+1:=by
 have:([c]:List UInt8).isPrefixOf (b::l)=false:=by simp[List.isPrefixOf,Ne.symm h]
 rw[show Go.Lib.index (b::l) [c]=if ([c]:List UInt8).isPrefixOf (b::l)=true then 0 else if Go.Lib.index l [c]==-1 then -1 else Go.Lib.index l [c]+1 from rfl,this];rfl
theorem zTN(c:UInt8):∀(l:List UInt8),Go.Lib.splitK [c] 0 (l.count c) l=spl c l
 |[]=>rfl
 |b::l=>by
  have ih:=zTN c l;by_cases h:b=c
  ·subst h;rw[List.count_cons_self,zFx,←ih,Go.Lib.splitK,z6N];rfl
  ·rw[List.count_cons_of_ne (by exact fun e=>h e)];cases hk:l.count c with
   |zero=>rw[hk]at ih;have ih:[l]=spl c l:=ih;rw[zDM h ih.symm];rfl
   |succ k=>
    rw[hk]at ih;rw[Go.Lib.splitK]at ih ⊢;rw[z6M h];cases hi:(Go.Lib.index l [c]==-1) with
    |true=>rw[hi,if_pos rfl]at ih;rw[if_pos (by rfl),zDM h ih.symm]
    |false=>
     rw[hi,if_neg (by decide)]at ih;have hge:=Go.Lib.index_ge l [c];have hne:Go.Lib.index l [c]≠-1:=by rw[zw]at hi;exact hi
     have e1:(if false=true then (-1:Int) else Go.Lib.index l [c]+1)=Go.Lib.index l [c]+1:=rfl;have e2:(Go.Lib.index l [c]+1==-1)=false:=by rw[zw];omega
     have e3:(Go.Lib.index l [c]+1).toNat=(Go.Lib.index l [c]).toNat+1:=by omega
     rw[e1,e2,if_neg (by decide),zDM h ih.symm,e3];rfl
theorem zKm(s:qf)(c:UInt8)(h:s.size<4294967281):zAB s ⟨#[c]⟩=some ((spl c s.data.toList).map bl):=by
 have h1:1≤(⟨#[c]⟩:qf).size:=Nat.le_refl 1;unfold zAB;rw[if_pos ⟨h,h1⟩];have e1:=Go.Lib.splitB_data ⟨#[c]⟩ 0 (Go.Lib.countB s ⟨#[c]⟩) s;have e2:Go.Lib.countB s ⟨#[c]⟩=s.data.toList.count c:=Go.Lib.count_one c _;have e3:(⟨#[c]⟩:qf).data.toList=[c]:=rfl;rw[e2]at e1 ⊢;rw[e3,zTN]at e1;rw[←e1,List.map_map];have:(bl∘fun x:qf=>x.data.toList)=id:=by
  funext x
  rfl
 rw[this,List.map_id]
def fld(p:UInt8→Bool):List UInt8→List UInt8→List (List UInt8)
 |cur,[]=>if cur=[] then [] else [cur]
 |cur,b::l=>if p b=true then (if cur=[] then fld p [] l else cur::fld p [] l) else fld p (cur++[b]) l
theorem z82{p:UInt8→Bool}{cur:List UInt8}(h:cur≠[]):fld p cur []=[cur]:=by unfold fld;rw[if_neg h]
theorem z3b{p:UInt8→Bool}{cur l:List UInt8}{b:UInt8}(hb:p b=true)(h:cur≠[]):fld p cur (b::l)=cur::fld p [] l:=by rw[fld,if_pos hb,if_neg h]
theorem z0e{p:UInt8→Bool}{l:List UInt8}{b:UInt8}(hb:p b=true):fld p [] (b::l)=fld p [] l:=by rw[fld,if_pos hb,if_pos rfl]
theorem z2M{p:UInt8→Bool}{cur l:List UInt8}{b:UInt8}(hb:p b=false):fld p cur (b::l)=fld p (cur++[b]) l:=by rw[fld,if_neg (by rw[hb];decide)]
theorem z45{s:qf}{i:Nat}(hi:i<s.size)(h:(s.data.toList[i]'hi).toNat<128):Utf8.decode s i=((s.data.toList[i]'hi).toNat,1):=by
 have e:(s.get! (i+0)).toNat=(s.data.toList[i]'hi).toNat:=by
  have:s.get! (i+0)=s.data.toList[i]'hi:=by show s.data[i+0]! =_;have hi2:i<s.data.size:=hi;rw[Nat.add_zero,getElem!_pos s.data i hi2];rfl
  rw[this]
 unfold Utf8.decode;simp only[e];rw[if_pos h]
def curO(s:qf)(pos:Nat):Option Nat→List UInt8
 |some a=>(s.data.toList.drop a).take (pos - a)
 |none=>[]
theorem zWr{α:Type}{l:List α}{a i:Nat}{x:α}(ha:a≤i)(h:l[i]?=some x):(l.drop a).take (i+1 - a)=(l.drop a).take (i - a)++[x]:=by rw[show i+1 - a=(i - a)+1 by omega,List.take_add_one,List.getElem?_drop,show a+(i - a)=i by omega,h];rfl
theorem z7u{α:Type}{l:List α}{a i:Nat}(h:a<i)(hi:i≤l.length):(l.drop a).take (i - a)≠[]:=by intro e;have:=congrArg List.length e;simp at this;omega
theorem zGd(s:qf)(a b:Nat):s.extract a b=bl ((s.data.toList.drop a).take (b - a)):=by have h:=Go.Lib.extract_data s a b;have e:∀x:qf,x=bl x.data.toList:=fun x=>rfl;rw[e (s.extract a b),h]
theorem z3c(p:Nat→Bool)(s:qf)(st:Option Nat)(acc:List (Nat×Nat))(hst:∀a,st=some a→a<s.size):
  (Go.Lib.closeSpans s (acc,st)).map (fun x=>s.extract x.1 x.2)=acc.map (fun x=>s.extract x.1 x.2)++(fld (fun b=>p b.toNat) (curO s s.size st) []).map bl:=by
 cases st with
 |none=>simp[Go.Lib.closeSpans,fld,curO]
 |some a=>
  have ha:=hst a rfl;have hne:(s.data.toList.drop a).take (s.size - a)≠[]:=by intro h;have:=congrArg List.length h;simp at this;have e:s.data.size=s.size:=rfl;omega
  simp only[Go.Lib.closeSpans,curO,List.map_append,List.map_cons,zr,zGd];rw[z82 hne];rfl
theorem z4Y(p:Nat→Bool)(s:qf)(ha:∀b∈s.data.toList,b.toNat<128):∀(f pos:Nat)(st:Option Nat)(acc:List (Nat×Nat)),s.size≤pos+f→pos≤s.size→(∀a,st=some a→a<pos)→
  (Go.Lib.closeSpans s (Go.Lib.spansFromP p s f pos st acc)).map (fun x=>s.extract x.1 x.2)=acc.map (fun x=>s.extract x.1 x.2)++(fld (fun b=>p b.toNat) (curO s pos st) (s.data.toList.drop pos)).map bl:=by
 intro f;have hsz:s.data.toList.length=s.size:=rfl
 induction f with
 |zero=>
  intro pos st acc hf hp hst;have e:pos=s.size:=by omega
  subst e;rw[zo (by omega)];rw[show Go.Lib.spansFromP p s 0 s.size st acc=(acc,st) from rfl];exact z3c p s st acc hst
 |succ f ih=>
  intro pos st acc hf hp hst;by_cases hlt:pos<s.size
  ·have hd:=z45 hlt (ha _ (zx ..));have hdr:s.data.toList.drop pos=s.data.toList[pos]'hlt::s.data.toList.drop (pos+1):=List.drop_eq_getElem_cons hlt;generalize hb:s.data.toList[pos]'hlt=b at hd hdr;have hget:s.data.toList[pos]?=some b:=by rw[←hb];exact zy hlt
   unfold Go.Lib.spansFromP;rw[if_pos hlt,hd,hdr];cases hpb:p b.toNat with
   |true=>
    rw[if_pos rfl];cases st with
    |some a=>have hap:=hst a rfl;have hne:(s.data.toList.drop a).take (pos - a)≠[]:=z7u hap (by omega);rw[ih (pos+1) none _ (by omega) (by omega) (fun a h=>by cases h)];simp only[curO,List.map_append,List.map_cons,zr,zGd,zu,List.singleton_append];rw[z3b (p:=fun b=>p b.toNat) hpb hne];rfl
    |none=>rw[ih (pos+1) none _ (by omega) (by omega) (fun a h=>by cases h)];simp only[curO];rw[z0e (p:=fun b=>p b.toNat) hpb]
   |false=>
    rw[if_neg (by decide)];cases st with
    |some a=>have hap:=hst a rfl;rw[ih (pos+1) (some a) _ (by omega) (by omega) (fun a' h=>by injection h with h;omega)];simp only[curO,zWr (Nat.le_of_lt hap) hget];rw[z2M (p:=fun b=>p b.toNat) hpb]
    |none=>
     rw[ih (pos+1) (some pos) _ (by omega) (by omega) (fun a' h=>by injection h with h;omega)];have e:(s.data.toList.drop pos).take (pos+1 - pos)=[b]:=by rw[hdr,Nat.add_sub_cancel_left];rfl
     simp only[curO,e];rw[z2M (p:=fun b=>p b.toNat) hpb];rfl
  ·have e:pos=s.size:=by omega
   rw[Go.Lib.spansFromP_end _ _ _ _ _ _ hlt];subst e;rw[zo (by omega)];exact z3c p s st acc hst
theorem z2O(p:Nat→Bool)(s:qf)(ha:∀b∈s.data.toList,b.toNat<128):Go.Lib.goFieldsP p s=(fld (fun b=>p b.toNat) [] s.data.toList).map bl:=by have h:=z4Y p s ha s.size 0 none [] (by omega) (by omega) (fun a h=>by cases h);exact h
end Go.Proofs.YtahdjphocippeaaGreatDoor
namespace Go.Proofs.YtahdjphocippeaaGreatDoor
open Go.Lib
def isD(b:UInt8):Bool:=decide (48≤b.toNat)&&decide (b.toNat≤57)
theorem zKN{d:Nat}(h:d<10):(UInt8.ofNat (48+d)).toNat=48+d:=by rw[UInt8.toNat_ofNat'];omega
theorem zLD{u:Nat}(h:u<10):decDigits u=[UInt8.ofNat (48+u)]:=by rw[decDigits,dif_pos h]
theorem zIZ{u:Nat}(h:¬u<10):decDigits u=decDigits (u / 10)++[UInt8.ofNat (48+u % 10)]:=by rw[decDigits,dif_neg h]
theorem zSc(Q:Nat→Prop)(h1:∀u,u<10→Q u)(h2:∀u,¬u<10→Q (u / 10)→Q u):∀u,Q u:=by
 intro u
 induction u using Nat.strongRecOn with
 |ind u ih=>
  by_cases h:u<10
  ·exact h1 u h
  ·exact h2 u h (ih _ (by omega))
theorem zOe:∀u,∀b∈decDigits u,isD b=true:=by
 refine zSc _ (fun u h b hb=>?_) fun u h ih b hb=>?_
 ·rw[zLD h,qe]at hb;subst hb;simp only[isD,zKN h,zk,decide_eq_true_eq];omega
 ·rw[zIZ h,List.mem_append,qe]at hb;rcases hb with hb|rfl
  ·exact ih b hb
  ·simp only[isD,zKN (show u % 10<10 by omega),zk,decide_eq_true_eq];omega
theorem zQF(u:Nat):decDigits u≠[]:=by
 by_cases h:u<10
 ·rw[zLD h];simp
 ·rw[zIZ h];simp
theorem zQx:∀(l:List UInt8)(acc n:Nat)(b:UInt8)(d:Nat),decFrom acc l=some n→digitVal b=some d→decFrom acc (l++[b])=some (n*10+d)
 |[],acc,n,b,d,h,hb=>by simp only[decFrom,Option.some.injEq]at h;subst h;simp[decFrom,hb]
 |c::r,acc,n,b,d,h,hb=>by
  simp only[List.cons_append,decFrom]at h ⊢;cases hc:digitVal c with
  |none=>rw[hc]at h;cases h
  |some e=>rw[hc]at h;exact zQx r _ n b d h hb
theorem z6l{d:Nat}(h:d<10):digitVal (UInt8.ofNat (48+d))=some d:=by unfold digitVal;rw[zKN h];rw[if_pos (by omega)];congr 1;omega
theorem z0j:∀u,decFrom 0 (decDigits u)=some u:=by
 refine zSc _ (fun u h=>?_) fun u h ih=>?_
 ·rw[zLD h];show (match digitVal (UInt8.ofNat (48+u)) with|some d=>decFrom (0*10+d) []|none=>none)=_;rw[z6l h];simp[decFrom]
 ·rw[zIZ h,zQx _ _ _ _ _ ih (z6l (show u % 10<10 by omega))];congr 1;omega
theorem zUX(u:Nat):decNat (decDigits u)=some u:=by
 unfold decNat;have:(decDigits u).isEmpty=false:=by
  cases h:decDigits u with
  |nil=>exact absurd h (zQF u)
  |cons a l=>rfl
 rw[this];exact z0j u
theorem zHk{n:Int}(h:0≤n):Go.Lib.itoa n=decDigits n.toNat:=by unfold Go.Lib.itoa;rw[if_neg (by omega)]
theorem zIu{n:Int}(h:n<0):Go.Lib.itoa n=45::decDigits n.natAbs:=by unfold Go.Lib.itoa;rw[if_pos h]
theorem z6m(u:Nat):∃b r,decDigits u=b::r∧isD b=true:=by
 cases h:decDigits u with
 |nil=>exact absurd h (zQF u)
 |cons b r=>exact⟨b,r,rfl,zOe u b (by rw[h];exact zm ..)⟩
theorem z6H{b:UInt8}(h:isD b=true)(c:UInt8)(hc:isD c=false):b≠c:=by intro e;rw[e,hc]at h;cases h
theorem zQ5(n:Int):atoi (Go.Lib.itoa n)=some n:=by
 by_cases h:n<0
 ·rw[zIu h];show (if (45:UInt8)==45 then (decNat (decDigits n.natAbs)).map fun (m:Nat)=>-(m:Int) else if (45:UInt8)==43 then (decNat (decDigits n.natAbs)).map fun (m:Nat)=>(m:Int) else (decNat (45::decDigits n.natAbs)).map fun (m:Nat)=>(m:Int))=_;rw[if_pos (by rfl),zUX];simp only[Option.map_some];congr 1;omega
 ·rw[zHk (by omega)];obtain⟨b,r,e,hb⟩:=z6m n.toNat;rw[e];show (if b==45 then (decNat r).map fun (m:Nat)=>-(m:Int) else if b==43 then (decNat r).map fun (m:Nat)=>(m:Int) else (decNat (b::r)).map fun (m:Nat)=>(m:Int))=_;have h1:(b==45)=false:=by rw[zw];exact z6H hb 45 (by decide)
  have h2:(b==43)=false:=by rw[zw];exact z6H hb 43 (by decide)
  rw[h1,h2,if_neg (by decide),if_neg (by decide),←e,zUX];simp only[Option.map_some];congr 1;omega
theorem zUF{n:Int}(h1:-1000000≤n)(h2:n≤1000000):(Go.Lib.itoa n).length≤8:=by
 by_cases h:n<0
 ·rw[zIu h,zg,decDigits_length];have:=zO5 7 n.natAbs (by omega) (by decide);omega
 ·rw[zHk (by omega),decDigits_length];have:=zO5 7 n.toNat (by omega) (by decide);omega
theorem z1A{n:Int}(h1:-1000000≤n)(h2:n≤1000000):zAb (bl (Go.Lib.itoa n))=some (n,true):=by have hl:=zUF h1 h2;unfold zAb;rw[if_pos (by rw[qZ];omega),zDV,atoiAll_short _ (by omega),zQ5];rfl
theorem zXZ(s:qf)(h:s.size≤281474976710656):∃r,zAb s=some r:=by unfold zAb;rw[if_pos h];cases atoiAll s.data.toList<;>exact⟨_,rfl⟩
def isN(b:UInt8):Bool:=(b.toNat==45)||isD b
theorem zKG(n:Int):∀b∈Go.Lib.itoa n,isN b=true:=by
 intro b hb;by_cases h:n<0
 ·rw[zIu h]at hb;cases hb with
  |head=>rfl
  |tail _ hb=>simp only[isN,zOe _ b hb,Bool.or_true]
 ·rw[zHk (by omega)]at hb;simp only[isN,zOe _ b hb,Bool.or_true]
theorem z8V(n:Int):Go.Lib.itoa n≠[]:=by
 by_cases h:n<0
 ·rw[zIu h];simp
 ·rw[zHk (by omega)];exact zQF _
theorem zQC{b:UInt8}(h:isN b=true):b.toNat<128:=by simp only[isN,isD,Bool.or_eq_true,zk,decide_eq_true_eq,beq_iff_eq]at h;omega
theorem z0d{p:UInt8→Bool}:∀(w cur l:List UInt8),(∀b∈w,p b=false)→fld p cur (w++l)=fld p (cur++w) l
 |[],cur,l,h=>by rw[zt,List.append_nil]
 |b::w,cur,l,h=>by rw[List.cons_append,z2M (h b (zm ..)),z0d w _ l (fun x hx=>h x (zn _ hx)),zu];rfl
theorem zYp{p:UInt8→Bool}(hp:∀b,isN b=true→p b=false){c:UInt8}(hc:p c=true)(n:Int)(l:List UInt8):fld p [] (Go.Lib.itoa n++c::l)=Go.Lib.itoa n::fld p [] l:=by rw[z0d _ _ _ (fun b hb=>hp b (zKG n b hb)),zt,z3b hc (z8V n)]
theorem z2x{c:UInt8}:∀(w:List UInt8),(∀b∈w,b≠c)→spl c w=[w]
 |[],_=>rfl
 |b::w,h=>zDM (h b (zm ..)) (z2x w fun x hx=>h x (zn _ hx))
theorem z0B{c:UInt8}:∀(w l:List UInt8),(∀b∈w,b≠c)→spl c (w++c::l)=w::spl c l
 |[],l,_=>zFx c l
 |b::w,l,h=>zDM (h b (zm ..)) (z0B w l fun x hx=>h x (zn _ hx))
theorem z8U(n:Int)(c:UInt8)(hc:isN c=false):∀b∈Go.Lib.itoa n,b≠c:=fun b hb e=>by have:=zKG n b hb;rw[e,hc]at this;cases this
theorem z97(f:Int×Int×Int):fB f=40::(Go.Lib.itoa f.1++44::(Go.Lib.itoa f.2.1++44::(Go.Lib.itoa f.2.2++[41]))):=by simp[fB]
def pN(x:Nat):Bool:=(x != 45)&&(decide (x<48)||decide (57<x))
theorem z9q(b:UInt8):pN b.toNat=!isN b:=by unfold pN isN isD;rw[Bool.eq_iff_iff];simp only[zk,Bool.or_eq_true,bne_iff_ne,decide_eq_true_eq,Bool.not_eq_true',Bool.or_eq_false_iff,zw,Bool.and_eq_false_iff,decide_eq_false_iff_not];omega
theorem z4Z(f:Int×Int×Int):fld (fun b=>pN b.toNat) [] (fB f)=[Go.Lib.itoa f.1,Go.Lib.itoa f.2.1,Go.Lib.itoa f.2.2]:=by
 have hp:∀b,isN b=true→(fun b:UInt8=>pN b.toNat) b=false:=fun b h=>by simp only[z9q,h,zh]
 rw[z97,z0e (by decide),zYp hp (by decide),zYp hp (by decide),zYp hp (by decide)];rfl
theorem z66(f:Int×Int×Int):∀b∈fB f,b.toNat<128:=by
 intro b hb;rw[z97]at hb;simp only[zl,List.mem_append,zq,or_false]at hb;rcases hb with rfl|hb|rfl|hb|rfl|hb|rfl
 ·decide
 ·exact zQC (zKG _ b hb)
 ·decide
 ·exact zQC (zKG _ b hb)
 ·decide
 ·exact zQC (zKG _ b hb)
 ·decide
theorem zKL(f:Int×Int×Int):goFieldsP pN (bl (fB f))=[bl (Go.Lib.itoa f.1),bl (Go.Lib.itoa f.2.1),bl (Go.Lib.itoa f.2.2)]:=by rw[z2O pN (bl (fB f)) (by rw[zDV];exact z66 f),zDV,z4Z];rfl
theorem zJL(x:qf):x=bl x.data.toList:=rfl
theorem zJB{a b:List UInt8}(h:bl a=bl b):a=b:=by have:=congrArg (fun x:qf=>x.data.toList) h;simpa [bl] using this
theorem eqS(a b:qf):(a.toList==b.toList)=decide (a=b):=by
 rw[ByteArray.toList_eq,ByteArray.toList_eq,Bool.eq_iff_iff,beq_iff_eq,decide_eq_true_iff];constructor
 ·intro h;rw[zJL a,zJL b,h]
 ·intro h;rw[h]
theorem zEu{s:qf}{i:Nat}(h:i<s.size):getB s (i:Int)=some (((s.data.toList[i]'h).toNat:Nat):Int):=by have h2:i<s.data.toList.length:=h;unfold getB;rw[if_pos (by omega)];simp only[zj,zy h2,Option.getD_some]
theorem zHL{n l h:Nat}(h1:l≤h)(h2:h≤n):slc n (l:Int) (h:Int)=some ():=by unfold slc;rw[qP,qP,qP,zd (by omega),zd (by omega),zd (by omega)];rfl
def splP(c:UInt8)(cur l:List UInt8):List (List UInt8):=match spl c l with
 |w::ws=>(cur++w)::ws
 |[]=>[cur]
theorem z0C(c:UInt8)(l:List UInt8):splP c [] l=spl c l:=by
 unfold splP;cases h:spl c l with
 |nil=>exact absurd h (zIA c l)
 |cons w ws=>rfl
theorem z7x(c:UInt8)(cur l:List UInt8):splP c cur (c::l)=cur::spl c l:=by unfold splP;rw[zFx];simp
theorem z7w{b c:UInt8}(h:b≠c)(cur l:List UInt8):splP c cur (b::l)=splP c (cur++[b]) l:=by
 unfold splP;cases e:spl c l with
 |nil=>exact absurd e (zIA c l)
 |cons w ws=>rw[zDM h e];simp
theorem zSY(c:UInt8):∀l,(spl c l).length≤l.length+1
 |[]=>by simp[spl]
 |b::l=>by
  have ih:=zSY c l;by_cases h:b=c
  ·subst h;rw[zFx];simp;omega
  ·cases e:spl c l with
   |nil=>exact absurd e (zIA c l)
   |cons w ws=>rw[zDM h e];rw[e]at ih;simp at ih ⊢;omega
theorem z3q(b c:UInt8):((b.toNat:Int)==(c.toNat:Int))=decide (b=c):=by
 rw[Bool.eq_iff_iff,beq_iff_eq,decide_eq_true_iff];constructor
 ·intro h;exact UInt8.toNat_inj.1 (by omega)
 ·intro h;rw[h]
theorem z03(s:qf)(c:UInt8)(hs:s.size≤100000000):∀(k n f i:Nat)(l:List qf),s.size - i=k→k<n→f≤i→i≤s.size→l.length≤i→
  ∃f' l',zBA ((c.toNat:Nat):Int) s n (f:Int) (i:Int) l=some (((f':Nat):Int),l')∧f'≤s.size∧l'.length≤s.size∧l'++[bl (s.data.toList.drop f')]=l++(splP c ((s.data.toList.drop f).take (i - f)) (s.data.toList.drop i)).map bl:=by
 have hsz:s.data.toList.length=s.size:=rfl;intro k
 induction k with
 |zero=>
  intro n f i l hk hn hfi his hl;obtain⟨n,rfl⟩:∃m,n=m+1:=⟨n - 1,by omega⟩
  refine⟨f,l,?_,by omega,by omega,?_⟩
  ·unfold zBA;rw[zE,ze (by omega),zc]
  ·have e:i=s.size:=by omega
   subst e;rw[zo (show s.data.toList.length≤s.size by omega),splP];simp only[spl,List.append_nil,List.map_cons,zr];rw[List.take_of_length_le (by simp)]
 |succ k ih=>
  intro n f i l hk hn hfi his hl;obtain⟨n,rfl⟩:∃m,n=m+1:=⟨n - 1,by omega⟩
  have hlt:i<s.size:=by omega
  have hdr:s.data.toList.drop i=s.data.toList[i]'hlt::s.data.toList.drop (i+1):=List.drop_eq_getElem_cons hlt;have hg:=zEu hlt;have hget:s.data.toList[i]?=some (s.data.toList[i]'hlt):=zy hlt
  generalize s.data.toList[i]'hlt=b at hdr hg hget;unfold zBA;rw[zE,zd (by omega),zb,hg,za,jN,z3q,hdr];by_cases hb:b=c
  ·subst hb;rw[zd rfl,zb,zHL hfi (by omega),za,zAa (by simp;omega),za,zI,zI,zA9 (by omega)];obtain⟨f',l',h1,h2,h3,h4⟩:=ih n (i+1) (i+1) (l++[s.extract f i]) (by omega) (by omega) (Nat.le_refl _) (by omega) (by simp;omega);refine⟨f',l',h1,h2,h3,?_⟩;rw[h4,z7x,Nat.sub_self,List.take_zero,z0C,zGd];simp
  ·rw[ze hb,zc,zI,zA9 (by omega)];obtain⟨f',l',h1,h2,h3,h4⟩:=ih n f (i+1) l (by omega) (by omega) (by omega) (by omega) (by omega);refine⟨f',l',h1,h2,h3,?_⟩;rw[h4,z7w hb,zWr hfi hget]
theorem zHh(s:qf)(c:UInt8)(hs:s.size≤100000000):zBJ s ((c.toNat:Nat):Int)=some ((spl c s.data.toList).map bl):=by
 have hF:100000001<FU:=by decide
 obtain⟨f',l',h1,h2,h3,h4⟩:=z03 s c hs s.size FU 0 0 [] rfl (by omega) (Nat.le_refl _) (Nat.zero_le _) (Nat.zero_le _);have h1:zBA ((c.toNat:Nat):Int) s FU 0 0 []=some (((f':Nat):Int),l'):=h1;unfold zBJ;rw[h1];simp only[za];rw[zHL h2 (Nat.le_refl _),za,zAa (by simp;omega),za];have e:s.extract ((f':Nat):Int).toNat ((s.size:Nat):Int).toNat=bl (s.data.toList.drop f'):=by rw[zj,zj,zGd,List.take_of_length_le (by simp)]
 rw[e,h4];simp[z0C]
def dvF(n:Nat)(l:List UInt8):Nat:=l.foldl (fun n b=>10*n+(b.toNat - 48)) n
def dv(l:List UInt8):Nat:=dvF 0 l
theorem zKM(n:Nat)(b:UInt8)(l:List UInt8):dvF n (b::l)=dvF (10*n+(b.toNat - 48)) l:=by unfold dvF;rw[List.foldl_cons]
theorem z6e(l:List UInt8)(b:UInt8):dv (l++[b])=10*dv l+(b.toNat - 48):=by simp[dv,dvF]
theorem z6f:∀(l:List UInt8)(n:Nat),n≤dvF n l
 |[],n=>Nat.le_refl _
 |b::l,n=>by have:=z6f l (10*n+(b.toNat - 48));rw[zKM];omega
theorem zHl{b:UInt8}:isD b=true↔48≤b.toNat∧b.toNat≤57:=by unfold isD;rw[zk,decide_eq_true_iff,decide_eq_true_iff]
theorem zXY{b:UInt8}(h:isD b=true):UInt8.ofNat (48+(b.toNat - 48))=b:=by have h:=zHl.1 h;apply UInt8.toNat_inj.1;rw[UInt8.toNat_ofNat'];omega
def canD(l:List UInt8):Bool:=!l.isEmpty&&l.all isD&&(l.length==1||l.head? != some 48)
theorem zXT:∀(k:Nat)(l:List UInt8),l.length=k→l≠[]→(∀b∈l,isD b=true)→(l.head?=some 48→l.length=1)→decDigits (dv l)=l
 |0,l,hk,h,_,_=>absurd (List.length_eq_zero_iff.1 hk) h
 |k+1,l,hk,h,hd,h0=>by
  obtain⟨m,b,rfl⟩:∃m b,l=m++[b]:=⟨l.dropLast,l.getLast h,(List.dropLast_concat_getLast h).symm⟩
  have hb:isD b=true:=hd b (by simp);have hb2:=zHl.1 hb;rw[z6e];cases m with
  |nil=>rw[show dv []=0 from rfl,zLD (by omega),show 10*0+(b.toNat - 48)=b.toNat - 48 by omega,zXY hb];rfl
  |cons c m=>
   have hc:isD c=true:=hd c (by simp);have hc2:=zHl.1 hc;have hc3:c≠48:=by intro e;have:=h0 (by simp[e]);simp at this
   have hc4:c.toNat≠48:=fun e=>hc3 (UInt8.toNat_inj.1 (by rw[e];rfl));have hpos:1≤dv (c::m):=by have:=z6f m (10*0+(c.toNat - 48));show 1≤dvF 0 (c::m);rw[zKM];omega
   rw[zIZ (by omega),show (10*dv (c::m)+(b.toNat - 48)) / 10=dv (c::m) by omega,show (10*dv (c::m)+(b.toNat - 48)) % 10=b.toNat - 48 by omega,zXY hb];rw[zXT k (c::m) (by simp at hk;simp;omega) (by simp) (fun x hx=>hd x (List.mem_append_left _ hx)) (fun e=>by injection e with e;exact absurd e hc3)]
theorem zZA(u:Nat):dv (decDigits u)=u:=by
 revert u;refine zSc _ (fun u h=>?_) fun u h ih=>?_
 ·rw[zLD h];unfold dv;rw[zKM,zKN h];unfold dvF;rw[List.foldl_nil];omega
 ·rw[zIZ h,z6e,ih,zKN (by omega)];omega
theorem z0y(u:Nat):canD (decDigits u)=true:=by
 have h1:=zQF u;have h2:=zOe u;have h3:∀u,(decDigits u).head?=some 48→(decDigits u).length=1:=by
  refine zSc _ (fun u h=>?_) fun u h ih=>?_
  ·rw[zLD h];intro _;rfl
  ·rw[zIZ h];intro e
   exfalso
   have h4:=zQF (u / 10);cases hm:decDigits (u / 10) with
   |nil=>exact h4 hm
   |cons c m=>
    rw[hm]at e;have h5:=ih (by rw[hm];exact e);rw[hm]at h5;have h6:m=[]:=by
     cases m with
     |nil=>rfl
     |cons _ _=>simp at h5
    subst h6;have h7:=zZA (u / 10);rw[hm]at h7;injection e with e;subst e;unfold dv at h7;rw[zKM]at h7;have h8:dvF (10*0+((48:UInt8).toNat - 48)) []=0:=rfl;omega
 unfold canD;have h3:=h3 u;cases hl:decDigits u with
 |nil=>exact absurd hl h1
 |cons c m=>
  rw[hl]at h2 h3;have ha:(c::m).all isD=true:=by rw[List.all_eq_true];exact h2
  rw[ha];by_cases hc:c=48
  ·have:=h3 (by rw[hc];rfl);rw[this];rfl
  ·have:((c::m).head? != some 48)=true:=by
    rw[bne_iff_ne];intro e;injection e with e;exact hc e
   rw[this,Bool.or_true];rfl
theorem zXW{l:List UInt8}(h:canD l=true):decDigits (dv l)=l:=by
 unfold canD at h;simp only[zk,Bool.not_eq_true',Bool.or_eq_true,beq_iff_eq,bne_iff_ne,List.all_eq_true]at h;refine zXT l.length l rfl (fun e=>by rw[e]at h;cases h.1.1) h.1.2 fun e=>?_
 rcases h.2 with h2|h2
 ·exact h2
 ·exact absurd e h2
theorem i8w{x:Int}(h0:0≤x)(h1:x<256):IntKind.i64.wrap (IntKind.u8.wrap x)=x:=by
 rw[IntKind.wrap_u8];have e:x % 256=x:=by omega
 rw[e];exact zKk (by omega)
theorem dstep{v:Nat}{b:UInt8}(hv:v<1000000000000000)(hb:isD b=true):w64 ((w64 (10*(v:Int)))+(IntKind.i64.wrap (IntKind.u8.wrap ((b.toNat:Int) - 48))))=((10*v+(b.toNat - 48):Nat):Int):=by have hb:=zHl.1 hb;have e1:w64 (10*(v:Int))=10*(v:Int):=zA (by omega);rw[i8w (by omega) (by omega),e1,zA (by omega)];omega
theorem z1w(s:qf)(hs:s.size≤10):∀(k n i v:Nat),s.size - i=k→k<n→i≤s.size→v<10 ^i→
  zBb s n (v:Int) (i:Int)=some (if (s.data.toList.drop i).all isD then .inl ((dvF v (s.data.toList.drop i):Nat):Int) else .inr (-1)):=by
 have hsz:s.data.toList.length=s.size:=rfl;intro k
 induction k with
 |zero=>
  intro n i v hk hn hi hv;obtain⟨n,rfl⟩:∃m,n=m+1:=⟨n - 1,by omega⟩
  unfold zBb;rw[zE,ze (by omega),zc,zo (by omega)];rfl
 |succ k ih=>
  intro n i v hk hn hi hv;obtain⟨n,rfl⟩:∃m,n=m+1:=⟨n - 1,by omega⟩
  have hlt:i<s.size:=by omega
  have hdr:s.data.toList.drop i=s.data.toList[i]'hlt::s.data.toList.drop (i+1):=List.drop_eq_getElem_cons hlt;have hg:=zEu hlt;generalize s.data.toList[i]'hlt=b at hdr hg;have hp:(10:Nat) ^i≤10 ^10:=Nat.pow_le_pow_right (by omega) (by omega);have hp2:(10:Nat) ^10=10000000000:=by decide
  unfold zBb;rw[zE,zd (by omega),zb];simp only[hg,za,zE,zI];rw[hdr,List.all_cons];by_cases h1:b.toNat<48
  ·have e:isD b=false:=by
    rw[Bool.eq_false_iff];intro e;have:=zHl.1 e;omega
   rw[zd (show (b.toNat:Int)<48 by omega),e];rfl
  ·rw[ze (show ¬(b.toNat:Int)<48 by omega)];by_cases h2:57<b.toNat
   ·have e:isD b=false:=by
     rw[Bool.eq_false_iff];intro e;have:=zHl.1 e;omega
    rw[zd (show (57:Int)<(b.toNat:Int) by omega),e];rfl
   ·have e:isD b=true:=zHl.2 (by omega);rw[ze (show ¬(57:Int)<(b.toNat:Int) by omega),e,Bool.true_and,zKM,dstep (by omega) e,zA9 (by omega)];have hb:=zHl.1 e;exact ih n (i+1) _ (by omega) (by omega) (by omega) (by rw[Nat.pow_succ];omega)
theorem zTv(s:qf):zGF s=some (if canD s.data.toList=true∧s.size≤10 then ((dv s.data.toList:Nat):Int) else -1):=by
 have hF:1000000<FU:=by decide
 have hsz:s.data.toList.length=s.size:=rfl;unfold zGF zBZ;rw[qP,qP];by_cases h0:s.size=0
 ·have hl:s.data.toList=[]:=List.length_eq_zero_iff.1 (by omega);rw[ze (by omega),if_neg (fun h=>by rw[hl]at h;exact absurd h.1 (by decide))];rfl
 ·rw[zd (by omega)];by_cases h10:s.size≤10
  ·rw[zd (show ((s.size:Nat):Int)≤10 by omega)];have hlt:0<s.size:=by omega
   have hg:=zEu hlt;have hg:getB s 0=_:=hg;obtain⟨b,r,hl⟩:∃b r,s.data.toList=b::r:=by
    cases h:s.data.toList with
    |nil=>rw[h]at hsz;simp at hsz;omega
    |cons b r=>exact⟨b,r,rfl⟩
   have hg:getB s 0=some ((b.toNat:Nat):Int):=by rw[hg];congr 3;simp only[hl];rfl
   have hr:r.length+1=s.size:=by rw[←hsz,hl];simp
   simp only[Bool.cond_true_left,zb,za,zh,zc,hg,jN,zE];by_cases hz:b=48∧1<s.size
   ·have e1:(((b.toNat:Nat):Int)==48)=true:=by rw[hz.1];rfl
    rw[e1,zb,zd (by omega),zb,if_neg];intro h;have h:=h.1;rw[hl]at h;unfold canD at h;simp only[zk,Bool.or_eq_true,beq_iff_eq,bne_iff_ne,zg,List.head?_cons]at h;rcases h.2 with h2|h2
    ·omega
    ·exact h2 (by rw[hz.1])
   ·have e1:(bif (((b.toNat:Nat):Int)==48) then decide ((1:Int)<((s.size:Nat):Int)) else false)=false:=by
     cases hb:(((b.toNat:Nat):Int)==48) with
     |false=>rfl
     |true=>rw[beq_iff_eq]at hb;have:b=48:=UInt8.toNat_inj.1 (by show b.toNat=48;omega);rw[zb,ze];intro h;exact hz ⟨this,by omega⟩
    rw[e1,zc];have h:=z1w s h10 s.size FU 0 0 rfl (by omega) (by omega) (by decide);have h:zBb s FU 0 0=_:=h;rw[h,List.drop_zero];by_cases hd:s.data.toList.all isD=true
    ·have hc:canD s.data.toList=true:=by
      rw[hl]at hd ⊢;unfold canD;rw[hd];simp only[List.isEmpty_cons,zi,Bool.true_and,Bool.or_eq_true,beq_iff_eq,bne_iff_ne,zg,List.head?_cons];by_cases hb:b=48
      ·exact .inl (by have:¬1<s.size:=fun h=>hz ⟨hb,h⟩;omega)
      ·exact .inr (fun e=>by injection e with e;exact hb e)
     rw[if_pos hd,if_pos ⟨hc,h10⟩];rfl
    ·rw[if_neg hd,if_neg]
     ·rfl
     ·intro h;have h:=h.1;unfold canD at h;simp only[zk]at h;exact hd h.1.2
  ·rw[ze (show ¬((s.size:Nat):Int)≤10 by omega),if_neg (fun h=>h10 h.2)];rfl
def NB(n:Int):Prop:=-1000000≤n∧n≤1000000
theorem z0i{u:Nat}(h:u≤1000000):(decDigits u).length≤8:=by have:=zUF (n:=(u:Int)) (by omega) (by omega);rw[zHk (by omega)]at this;exact this
theorem zNC(s:qf):(∃n,NB n∧s=bl (itoa n)∧zBc s=some (n,true))∨((∀n,NB n→s≠bl (itoa n))∧zBc s=some (0,false)):=by
 have hsz:s.data.toList.length=s.size:=rfl;have fin:∀(m:Bool)(t:qf),(if canD t.data.toList=true∧t.size≤10 then ((dv t.data.toList:Nat):Int) else -1)=-1∨(canD t.data.toList=true∧t.size≤10∧(if canD t.data.toList=true∧t.size≤10 then ((dv t.data.toList:Nat):Int) else -1)=((dv t.data.toList:Nat):Int)):=by
  intro m t;by_cases h:canD t.data.toList=true∧t.size≤10
  ·rw[if_pos h];exact .inr ⟨h.1,h.2,rfl⟩
  ·rw[if_neg h];exact .inl rfl
 by_cases hm:∃r,s.data.toList=45::r∧r≠[]
 ·obtain⟨r,hl,hr⟩:=hm;have hlen:1<s.size:=by
   rw[←hsz,hl];have:=List.length_pos_iff.2 hr;simp;omega
  have hg:getB s 0=some 45:=by have hg:=zEu (show 0<s.size by omega);have hg:getB s 0=_:=hg;rw[hg];simp only[hl];rfl
  have hj:s.extract 1 s.size=bl r:=by
   rw[zGd,hl,List.drop_succ_cons,List.drop_zero,List.take_of_length_le];have:r.length+1=s.size:=by rw[←hsz,hl];simp
   omega
  unfold zBc;rw[zE,zd (by omega),zb,hg];have hsl:slc s.size 1 (s.size:Int)=some ():=zHL (l:=1) (by omega) (Nat.le_refl _);simp only[za,jN,show ((45:Int)==45)=true from rfl,zb,hsl,show Int.toNat 1=1 from rfl,zj,hj,zTv];by_cases hc:canD r=true∧r.length≤10∧dv r≠0∧dv r≤1000000
  ·left;refine⟨-((dv r:Nat):Int),⟨by omega,by omega⟩,?_,?_⟩
   ·rw[zIu (by omega),Int.natAbs_neg,Int.natAbs_natCast,zXW hc.1,zJL s,hl]
   ·rw[if_pos ⟨by rw[zDV];exact hc.1,by rw[qZ];exact hc.2.1⟩,zDV,zE,zE,ze (by omega),zc,ze (by omega)];have e:(((dv r:Nat):Int)==0)=false:=by rw[zw];omega
    rw[e,zI];simp only[zc];rw[zA (by omega)];congr 2;omega
  ·right;constructor
   ·intro n hn e;apply hc;have e2:45::r=itoa n:=by
     rw[←hl];exact zJB (by rw[←zJL s];exact e)
    have hneg:n<0:=by
     by_cases h:n<0
     ·exact h
     ·exfalso
      rw[zHk (by omega)]at e2;have:=zOe n.toNat 45 (by rw[←e2];exact zm ..);exact absurd this (by decide)
    rw[zIu hneg]at e2;injection e2 with _ e2;subst e2;have hb:=hn.1;refine⟨z0y _,?_,?_,?_⟩
    ·have:=z0i (u:=n.natAbs) (by omega);omega
    ·rw[zZA];omega
    ·rw[zZA];omega
   ·rcases fin true (bl r) with h|⟨h1,h2,h⟩
    ·rw[h];rfl
    ·rw[h];rw[zDV]at h1;rw[qZ]at h2;rw[zDV,zE,zE,ze (by omega),zc];by_cases h3:dv r=0
     ·rw[h3];rfl
     ·have e:(((dv r:Nat):Int)==0)=false:=by rw[zw];omega
      rw[e,zc,zd]
      ·rfl
      ·have:¬dv r≤1000000:=fun h4=>hc ⟨h1,h2,h3,h4⟩;omega
 ·have hb4:(bif ltI 1 (s.size:Int) then (getB s 0).bind fun e3=>some (eqI e3 45) else some false)=some false:=by
   rw[zE];by_cases h1:1<s.size
   ·rw[zd (by omega),zb];obtain⟨b,r,hl⟩:∃b r,s.data.toList=b::r:=by
     cases h:s.data.toList with
     |nil=>rw[h]at hsz;simp at hsz;omega
     |cons b r=>exact⟨b,r,rfl⟩
    have hg:getB s 0=some ((b.toNat:Nat):Int):=by have hg:=zEu (show 0<s.size by omega);have hg:getB s 0=_:=hg;rw[hg];simp only[hl];rfl
    rw[hg,za,jN,beq_eq_false_iff_ne.2];intro e;have hb:b=45:=UInt8.toNat_inj.1 (by show b.toNat=45;omega);refine hm ⟨r,by rw[hl,hb],?_⟩;intro hr;rw[hl,hr]at hsz;simp at hsz;omega
   ·rw[ze (by omega),zc]
  unfold zBc;rw[hb4];simp only[za,zc,zTv];by_cases hc:canD s.data.toList=true∧s.size≤10∧dv s.data.toList≤1000000
  ·left;refine⟨((dv s.data.toList:Nat):Int),⟨by omega,by omega⟩,?_,?_⟩
   ·rw[zHk (by omega),zj,zXW hc.1];rfl
   ·rw[if_pos ⟨hc.1,hc.2.1⟩,zE,zE,ze (by omega),ze (by omega)];rfl
  ·right;constructor
   ·intro n hn e;have e2:s.data.toList=itoa n:=zJB (by rw[←zJL s];exact e);have hb:=hn.1;have hb2:=hn.2;by_cases hneg:n<0
    ·rw[zIu hneg]at e2;exact hm ⟨_,e2,zQF _⟩
    ·rw[zHk (by omega)]at e2;apply hc;rw[←hsz,e2];refine⟨z0y _,?_,?_⟩
     ·have:=z0i (u:=n.toNat) (by omega);omega
     ·rw[zZA];omega
   ·rcases fin false s with h|⟨h1,h2,h⟩
    ·rw[h];rfl
    ·rw[h,zE,zE,ze (by omega),zc,zd]
     ·rfl
     ·have:¬dv s.data.toList≤1000000:=fun h4=>hc ⟨h1,h2,h4⟩;omega
def jn(c:UInt8):List (List UInt8)→List UInt8
 |[]=>[]
 |[w]=>w
 |w::v::ws=>w++c::jn c (v::ws)
theorem zYh(c:UInt8)(w:List UInt8){ws:List (List UInt8)}(h:ws≠[]):jn c (w::ws)=w++c::jn c ws:=by
 cases ws with
 |nil=>exact absurd rfl h
 |cons v ws=>rfl
theorem z6G(c:UInt8):∀l,jn c (spl c l)=l
 |[]=>rfl
 |b::l=>by
  have ih:=z6G c l;by_cases h:b=c
  ·subst h;rw[zFx,zYh _ _ (zIA b l),ih];rfl
  ·cases e:spl c l with
   |nil=>exact absurd e (zIA c l)
   |cons w ws=>
    rw[zDM h e];rw[e]at ih;cases ws with
    |nil=>show b::w=b::l;have ih:w=l:=ih;rw[ih]
    |cons v ws=>rw[zYh _ _ (by simp)]at ih ⊢;rw[List.cons_append,ih]
theorem z5Q(c:UInt8):∀ws:List (List UInt8),ws≠[]→(∀w∈ws,∀b∈w,b≠c)→spl c (jn c ws)=ws
 |[],h,_=>absurd rfl h
 |[w],_,h=>z2x w (h w (List.mem_singleton.2 rfl))
 |w::v::ws,_,h=>by rw[zYh _ _ (by simp),z0B w _ (h w (zm ..)),z5Q c (v::ws) (by simp) fun x hx=>h x (zn _ hx)]
theorem z2K(ws:List (List UInt8))(hw:ws.length≤100000001):∀(m n k:Nat)(acc:List Int),ws.length - k=m→m<n→k≤ws.length→acc.length≤k→
  (∃ns:List Int,(∀x∈ns,NB x)∧ws.drop k=ns.map itoa∧zAp (ws.map bl) n (k:Int) acc=some (.inl (acc++ns)))∨
  ((∀ns:List Int,(∀x∈ns,NB x)→ws.drop k≠ns.map itoa)∧zAp (ws.map bl) n (k:Int) acc=some (.inr [])):=by
 intro m
 induction m with
 |zero=>
  intro n k acc hk hn hkl ha;obtain⟨n,rfl⟩:∃m,n=m+1:=⟨n - 1,by omega⟩
  left;refine⟨[],(fun x h=>by cases h),by rw[zo (by omega)];rfl,?_⟩;unfold zAp;rw[zE,List.length_map,ze (by omega),zc,List.append_nil]
 |succ m ih=>
  intro n k acc hk hn hkl ha;obtain⟨n,rfl⟩:∃m,n=m+1:=⟨n - 1,by omega⟩
  have hlt:k<ws.length:=by omega
  have hdr:ws.drop k=ws[k]'hlt::ws.drop (k+1):=List.drop_eq_getElem_cons hlt;have hg:getI (ws.map bl) (k:Int)=some (bl (ws[k]'hlt)):=by rw[zA6 (by rw[List.length_map];exact hlt),List.getElem_map]
  generalize ws[k]'hlt=w at hdr hg;unfold zAp;rw[zE,List.length_map,zd (by omega),zb];simp only[hg,za,hdr];rcases zNC (bl w) with⟨x,hx,hw1,hw2⟩|⟨hw1,hw2⟩
  ·have hw1:=zJB hw1;subst hw1;simp only[hw2,za,zh,zc,zI];rw[zAa (by simp;omega),za,zA9 (by omega)];rcases ih n (k+1) (acc++[x]) (by omega) (by omega) (by omega) (by simp;omega) with⟨ns,h1,h2,h3⟩|⟨h1,h3⟩
   ·left;refine⟨x::ns,fun y hy=>?_,by rw[h2];rfl,?_⟩
    ·rcases List.mem_cons.1 hy with rfl|hy
     ·exact hx
     ·exact h1 y hy
    ·rw[h3,zu];rfl
   ·right;refine⟨fun ns hns e=>?_,h3⟩;cases ns with
    |nil=>cases e
    |cons y ns=>injection e with _ e;exact h1 ns (fun z hz=>hns z (zn _ hz)) e
  ·right;simp only[hw2,za,zi,zb];refine⟨fun ns hns e=>?_,trivial⟩;cases ns with
   |nil=>cases e
   |cons y ns=>injection e with e _;exact hw1 y (hns y (zm ..)) (by rw[e])
theorem zQt{c:UInt8}(hc:isN c=false)(s:qf)(hs:s.size≤100000000){cnt:Nat}(h1:1≤cnt):
  (∃ns:List Int,(∀x∈ns,NB x)∧ns.length=cnt∧s=bl (jn c (ns.map itoa))∧zCI s ((c.toNat:Nat):Int) (cnt:Int)=some ns)∨
  ((∀ns:List Int,(∀x∈ns,NB x)→ns.length=cnt→s≠bl (jn c (ns.map itoa)))∧zCI s ((c.toNat:Nat):Int) (cnt:Int)=some []):=by
 have hF:200000000<FU:=by decide
 have back:∀ns:List Int,ns.length=cnt→s=bl (jn c (ns.map itoa))→spl c s.data.toList=ns.map itoa:=by
  intro ns hl e;rw[e,zDV];refine z5Q c _ (fun h=>?_) fun w hw=>?_
  ·have:=congrArg List.length h;simp at this;rw[this]at hl;simp at hl;omega
  ·obtain⟨n,_,rfl⟩:=List.mem_map.1 hw;exact z8U n c hc
 have hlen:=zSY c s.data.toList;have hsz:s.data.toList.length=s.size:=rfl;unfold zCI;rw[zHh s c hs,za,List.length_map];by_cases hcnt:(spl c s.data.toList).length=cnt
 ·rw[hcnt,zUO,zh,zc];have hr:=z2K (spl c s.data.toList) (by omega) _ FU 0 [] rfl (by omega) (by omega) (by simp);simp only[List.drop_zero,zt]at hr;rcases hr with⟨ns,a1,a2,a3⟩|⟨a1,a3⟩
  ·have a3:zAp ((spl c s.data.toList).map bl) FU 0 []=_:=a3;refine .inl ⟨ns,a1,by rw[←hcnt,a2,List.length_map],?_,?_⟩
   ·rw[←a2,z6G];rfl
   ·rw[a3];rfl
  ·have a3:zAp ((spl c s.data.toList).map bl) FU 0 []=_:=a3;refine .inr ⟨fun ns b1 b2 b3=>a1 ns b1 (back ns b2 b3),?_⟩;rw[a3];rfl
 ·refine .inr ⟨fun ns b1 b2 b3=>hcnt ?_,?_⟩
  ·rw[back ns b2 b3,List.length_map,b2]
  ·rw[eqNe (by omega),zi,zb]
theorem zWQ(s:qf)(hs:s.size≤100000000)(a z:UInt8):(∃m,s=bl (a::(m++[z]))∧zBn s ((a.toNat:Nat):Int) ((z.toNat:Nat):Int)=some (bl m,true))∨
  ((∀m,s≠bl (a::(m++[z])))∧zBn s ((a.toNat:Nat):Int) ((z.toNat:Nat):Int)=some (bl [],false)):=by
 have hsz:s.data.toList.length=s.size:=rfl;unfold zBn;rw[zE];by_cases h2:s.size<2
 ·refine .inr ⟨fun m e=>?_,?_⟩
  ·rw[e,qZ]at h2;simp at h2;omega
  ·rw[zd (by omega)];rfl
 ·have hg0:=zEu (show 0<s.size by omega);have hg0:getB s 0=_:=hg0;have hg1:=zEu (show s.size - 1<s.size by omega);have e1:w64 (((s.size:Nat):Int) - 1)=((s.size - 1:Nat):Int):=by rw[zA (by omega)];omega
  have hl0:s.data.toList=s.data.toList[0]::s.data.toList.drop 1:=by have:=List.drop_eq_getElem_cons (l:=s.data.toList) (i:=0) (by omega);simpa using this
  have hl1:s.data.toList.drop 1=(s.data.toList.drop 1).take (s.size - 1 - 1)++[s.data.toList[s.size - 1]'(by omega)]:=by
   have h3:(s.data.toList.drop 1).drop (s.size - 1 - 1)=[s.data.toList[s.size - 1]'(by omega)]:=by rw[List.drop_drop,show 1+(s.size - 1 - 1)=s.size - 1 by omega,List.drop_eq_getElem_cons (by omega),zo (by omega)]
   rw[←h3,List.take_append_drop]
  generalize s.data.toList[0]'(by omega)=b0 at hg0 hl0;generalize s.data.toList[s.size - 1]'(by omega)=b1 at hg1 hl1;rw[ze (by omega),zc,hg0,e1,hg1];simp only[za,jN,z3q];by_cases hb0:b0=a
  ·subst hb0;simp only[decide_true,zh,zc,za];by_cases hb1:b1=z
   ·subst hb1;simp only[decide_true,zh,zc];refine .inl ⟨(s.data.toList.drop 1).take (s.size - 1 - 1),?_,?_⟩
    ·rw[←hl1,←hl0];rfl
    ·have hsl:slc s.size 1 ((s.size - 1:Nat):Int)=some ():=zHL (l:=1) (by omega) (by omega);rw[hsl];simp only[za,show Int.toNat 1=1 from rfl,zj,zGd]
   ·refine .inr ⟨fun m e=>hb1 ?_,?_⟩
    ·have h4:s.data.toList=b0::(m++[z]):=by rw[e,zDV]
     have h5:b0::((s.data.toList.drop 1).take (s.size - 1 - 1)++[b1])=b0::(m++[z]):=by rw[←hl1,←hl0];exact h4
     injection h5 with _ h5;have:=congrArg List.getLast? h5;simpa using this
    ·simp only[ze hb1,zi,zb];rfl
  ·refine .inr ⟨fun m e=>hb0 ?_,?_⟩
   ·have h4:s.data.toList=a::(m++[z]):=by rw[e,zDV]
    rw[hl0]at h4;injection h4
   ·simp only[ze hb0,zi,zb,za];rfl
def FB(f:Int×Int×Int):Prop:=NB f.1∧NB f.2.1∧NB f.2.2
theorem z65(f:Int×Int×Int):fB f=40::(jn 44 ([f.1,f.2.1,f.2.2].map itoa)++[41]):=by simp[fB,jn]
theorem qAq{f g:Int×Int×Int}(h:fB f=fB g):f=g:=by
 have h1:=zKL f;rw[h,zKL g]at h1;obtain⟨a,b,c⟩:=f;obtain⟨a',b',c'⟩:=g;simp only[List.cons.injEq,and_true]at h1;have inj:∀{x y:Int},bl (itoa x)=bl (itoa y)→x=y:=fun {x y} e=>by have e:=zJB e;have h2:=zQ5 x;rw[e,zQ5 y]at h2;exact (Option.some.inj h2).symm
 rw[inj h1.1,inj h1.2.1,inj h1.2.2]
theorem z0c(s:qf)(hs:s.size≤100000000):(∃f,FB f∧s=bl (fB f)∧zCH s=some (f,true))∨((∀f,FB f→s≠bl (fB f))∧zCH s=some ((0,0,0),false)):=by
 unfold zCH;rcases zWQ s hs 40 41 with⟨m,h1,h2⟩|⟨h1,h2⟩
 ·have h2:zBn s 40 41=_:=h2;rw[h2,za];have hm:(bl m).size≤100000000:=by
   rw[h1,qZ]at hs;rw[qZ];simp at hs;omega
  rcases zQt (c:=44) (by decide) (bl m) hm (cnt:=3) (by omega) with⟨ns,a1,a2,a3,a4⟩|⟨a1,a4⟩
  ·have a4:zCI (bl m) 44 3=_:=a4
   match ns,a2 with
   |[a,b,c],_=>
    refine .inl ⟨(a,b,c),⟨a1 a (by simp),a1 b (by simp),a1 c (by simp)⟩,?_,?_⟩
    ·rw[h1,z65,zJB a3]
    ·rw[a4];rfl
  ·have a4:zCI (bl m) 44 3=_:=a4;refine .inr ⟨fun f hf e=>?_,?_⟩
   ·rw[h1,z65]at e;have e:=zJB e;injection e with _ e;have e:=List.append_cancel_right e;refine a1 [f.1,f.2.1,f.2.2] (fun x hx=>?_) rfl (by rw[e]);simp only[zl,zq,or_false]at hx;rcases hx with rfl|rfl|rfl
    ·exact hf.1
    ·exact hf.2.1
    ·exact hf.2.2
   ·rw[a4];rfl
 ·have h2:zBn s 40 41=_:=h2;rw[h2,za];have h3:∃l,zCI (bl []) 44 3=some l:=by
   rcases zQt (c:=44) (by decide) (bl []) (by decide) (cnt:=3) (by omega) with⟨ns,_,_,_,a4⟩|⟨_,a4⟩
   ·exact⟨_,a4⟩
   ·exact⟨_,a4⟩
  obtain⟨l,h3⟩:=h3;refine .inr ⟨fun f hf e=>h1 _ (by rw[e,z65]),?_⟩;rw[h3];rfl
theorem z5g:pOf zBk=pN:=by
 funext x
 unfold pOf pN zBk;simp only[za,Option.getD_some,jN,zE];have e:((x:Int)==45)=(x==45):=by rw[Bool.eq_iff_iff,beq_iff_eq,beq_iff_eq];omega
 have e1:decide ((x:Int)<48)=decide (x<48):=by rw[decide_eq_decide];omega
 have e2:decide ((57:Int)<(x:Int))=decide (57<x):=by rw[decide_eq_decide];omega
 rw[e,e1,e2];cases h1:(x==45)<;>cases h2:decide (x<48)<;>cases h3:decide (57<x)<;>simp_all [bne]
theorem zIP(p:Nat→Bool)(s:qf):∀(f pos:Nat)(st:Option Nat)(acc:List (Nat×Nat)),(Go.Lib.spansFromP p s f pos st acc).1.length≤acc.length+f
 |0,pos,st,acc=>by simp[Go.Lib.spansFromP]
 |f+1,pos,st,acc=>by
  unfold Go.Lib.spansFromP;split
  ·split
   ·split
    ·have:=zIP p s f (pos+(Utf8.decode s pos).2) none (acc++[(‹Nat›,pos)]);simp at this ⊢;omega
    ·have:=zIP p s f (pos+(Utf8.decode s pos).2) none acc;omega
   ·split
    ·have:=zIP p s f (pos+(Utf8.decode s pos).2) (some ‹Nat›) acc;omega
    ·have:=zIP p s f (pos+(Utf8.decode s pos).2) (some pos) acc;omega
  ·simp
theorem z2P(p:Nat→Bool)(s:qf):(goFieldsP p s).length≤s.size+1:=by
 have h:=zIP p s s.size 0 none [];unfold goFieldsP Go.Lib.spansOfP;rw[List.length_map];generalize Go.Lib.spansFromP p s s.size 0 none []=x at h;obtain⟨acc,st⟩:=x;cases st with
 |none=>simp[Go.Lib.closeSpans]at h ⊢;omega
 |some a=>simp[Go.Lib.closeSpans]at h ⊢;omega
theorem z0g(p:Nat→Bool)(s:qf):∀w∈goFieldsP p s,w.size≤s.size:=by intro w hw;unfold goFieldsP at hw;obtain⟨x,_,rfl⟩:=List.mem_map.1 hw;rw[zGd,qZ];have:s.data.toList.length=s.size:=rfl;simp;omega
theorem z6K(ws:List qf)(hw:ws.length≤100000001)(hz:∀w∈ws,w.size≤100000000):∀(m n k:Nat)(acc:List Int),ws.length - k=m→m<n→k≤ws.length→acc.length≤k→∃r,qR ws n (k:Int) acc=some r:=by
 intro m
 induction m with
 |zero=>
  intro n k acc hk hn hkl ha;obtain⟨n,rfl⟩:∃m,n=m+1:=⟨n - 1,by omega⟩
  unfold qR;rw[zE,ze (by omega),zc];exact⟨_,rfl⟩
 |succ m ih=>
  intro n k acc hk hn hkl ha;obtain⟨n,rfl⟩:∃m,n=m+1:=⟨n - 1,by omega⟩
  have hlt:k<ws.length:=by omega
  have hg:getI ws (k:Int)=some (ws[k]'hlt):=zA6 hlt;have hs:=hz _ (zx hlt);generalize ws[k]'hlt=w at hg hs;unfold qR;rw[zE,zd (by omega),zb];obtain⟨r,hr⟩:=zXZ w (by omega);simp only[hg,za,hr];cases r.2 with
  |false=>exact⟨_,rfl⟩
  |true=>simp only[zh,zc,zI];rw[zAa (by simp;omega),za,zA9 (by omega)];exact ih n (k+1) _ (by omega) (by omega) (by omega) (by simp;omega)
theorem z2D(s:qf)(hs:s.size≤100000000):∃l,zBB s=some l:=by
 have hF:200000000<FU:=by decide
 have hl:=z2P pN s;obtain⟨r,hr⟩:=z6K (goFieldsP pN s) (by omega) (fun w hw=>by have:=z0g pN s w hw;omega) _ FU 0 [] rfl (by omega) (by omega) (by simp);have hr:qR (goFieldsP pN s) FU 0 []=_:=hr;unfold zBB zBX;rw[z5g,if_pos (by omega),za,hr];cases r with
 |inl x=>exact⟨_,rfl⟩
 |inr x=>exact⟨_,rfl⟩
theorem z6L(ns:List Int)(hw:ns.length≤1000)(hz:∀x∈ns,NB x):∀(m n k:Nat)(acc:List Int),ns.length - k=m→m<n→k≤ns.length→acc.length≤k→qR (ns.map fun x=>bl (itoa x)) n (k:Int) acc=some (.inl (acc++ns.drop k)):=by
 intro m
 induction m with
 |zero=>
  intro n k acc hk hn hkl ha;obtain⟨n,rfl⟩:∃m,n=m+1:=⟨n - 1,by omega⟩
  unfold qR;rw[zE,List.length_map,ze (by omega),zc,zo (by omega),List.append_nil]
 |succ m ih=>
  intro n k acc hk hn hkl ha;obtain⟨n,rfl⟩:∃m,n=m+1:=⟨n - 1,by omega⟩
  have hlt:k<ns.length:=by omega
  have hg:getI (ns.map fun x=>bl (itoa x)) (k:Int)=some (bl (itoa (ns[k]'hlt))):=by rw[zA6 (by rw[List.length_map];exact hlt),List.getElem_map]
  have hdr:ns.drop k=ns[k]'hlt::ns.drop (k+1):=List.drop_eq_getElem_cons hlt;have hs:=hz _ (zx hlt);generalize ns[k]'hlt=w at hg hs hdr;unfold qR;rw[zE,List.length_map,zd (by omega),zb];simp only[hg,za,z1A hs.1 hs.2,zh,zc,zI];rw[zAa (by simp;omega),za,zA9 (by omega),ih n (k+1) _ (by omega) (by omega) (by omega) (by simp;omega),hdr,zu];rfl
theorem z4S{s:qf}(hs:s.size≤100000000){ns:List Int}(hw:ns.length≤1000)(hz:∀x∈ns,NB x)(h:goFieldsP pN s=ns.map fun x=>bl (itoa x)):zBB s=some ns:=by
 have hF:200000000<FU:=by decide
 have hr:=z6L ns hw hz _ FU 0 [] rfl (by omega) (by omega) (by simp);have hr:qR (ns.map fun x=>bl (itoa x)) FU 0 []=_:=hr;unfold zBB zBX;rw[z5g,if_pos (by omega),za,h,hr];rfl
theorem zQq{n:Int}(h:NB n):sm18 n:=by have h1:=h.1;have h2:=h.2;exact⟨by omega,by omega⟩
theorem zKF{n:Int}:NB n↔inN n=true:=by unfold NB inN;rw[zk,qP,qP,decide_eq_true_iff,decide_eq_true_iff]
theorem zTn(s:qf)(hs:s.size≤100000000):(∃f,FB f∧s=bl (fB f)∧zCD s=some (f,true))∨((∀f,FB f→s≠bl (fB f))∧zCD s=some ((0,0,0),false)):=by
 by_cases hf:∃f,FB f∧s=bl (fB f)
 ·obtain⟨f,hf,rfl⟩:=hf;refine .inl ⟨f,hf,rfl,?_⟩;obtain⟨a,b,c⟩:=f;have hi:=z4S (ns:=[a,b,c]) hs (by simp) (fun x hx=>by
   simp only[zl,zq,or_false]at hx;rcases hx with rfl|rfl|rfl
   ·exact hf.1
   ·exact hf.2.1
   ·exact hf.2.2) (zKL (a,b,c))
  unfold zCD;rw[hi];have g0:getI [a,b,c] 0=some a:=rfl;have g1:getI [a,b,c] 1=some b:=rfl;have g2:getI [a,b,c] 2=some c:=rfl;simp only[za,g0,g1,g2,zEv,zKF.1 hf.1,zKF.1 hf.2.1,zKF.1 hf.2.2,Bool.and_self,zh,zc,zDU (zQq hf.1) (zQq hf.2.1) (zQq hf.2.2),eqS,decide_true];rfl
 ·refine .inr ⟨fun f h e=>hf ⟨f,h,e⟩,?_⟩;obtain⟨l,hl⟩:=z2D s hs;unfold zCD;rw[hl,za];by_cases h3:l.length=3
  ·match l,h3 with
   |[a,b,c],_=>
    have g0:getI [a,b,c] 0=some a:=rfl;have g1:getI [a,b,c] 1=some b:=rfl;have g2:getI [a,b,c] 2=some c:=rfl;simp only[show eqI (([a,b,c].length:Nat):Int) 3=true from rfl,zh,zc,za,g0,g1,g2,zEv];cases hb:(inN a&&(inN b&&inN c)) with
    |false=>rfl
    |true=>simp only[zk]at hb;have f1:=zKF.2 hb.1;have f2:=zKF.2 hb.2.1;have f3:=zKF.2 hb.2.2;simp only[zh,zc,zDU (f:=(a,b,c)) (zQq f1) (zQq f2) (zQq f3),za,eqS];rw[ze (fun e=>hf ⟨(a,b,c),⟨f1,f2,f3⟩,e.symm⟩)];rfl
  ·rw[eqNe (by omega)];rfl
theorem zKE(s:qf)(hs:s.size≤100000000):∃r,zCD s=some r∧zCH s=some r∧((∃f,FB f∧s=bl (fB f)∧r=(f,true))∨((∀f,FB f→s≠bl (fB f))∧r=((0,0,0),false))):=by
 rcases zTn s hs with⟨f,h1,h2,h3⟩|⟨h1,h3⟩<;>rcases z0c s hs with⟨g,g1,g2,g3⟩|⟨g1,g3⟩
 ·have e:f=g:=qAq (zJB (h2.symm.trans g2));subst e;exact⟨_,h3,g3,.inl ⟨f,h1,h2,rfl⟩⟩
 ·exact absurd h2 (g1 f h1)
 ·exact absurd g2 (h1 g g1)
 ·exact⟨_,h3,g3,.inr ⟨h1,rfl⟩⟩
theorem z00(w:qf)(hw:w.size≤100000000):∃a b ok,zDK w=some (a,ok)∧zBc w=some (b,ok)∧(ok=true→a=b):=by
 unfold zDK;rcases zNC w with⟨n,hn,rfl,h⟩|⟨hn,h⟩
 ·refine⟨n,n,true,?_,h,fun _=>rfl⟩;have hnum:zBC [n]=some true:=by
   rw[zS4 _ (by simp)];simp[zKF.1 hn]
  rw[z1A hn.1 hn.2];simp only[za,zb,hnum,zGH (zQq hn),eqS,decide_true]
 ·obtain⟨r,hr⟩:=zXZ w (by omega);refine⟨r.1,0,false,?_,h,fun e=>by cases e⟩;rw[hr];simp only[za];cases hr2:r.2 with
  |false=>rfl
  |true=>
   rw[zS4 _ (by simp)];cases hin:inN r.1 with
   |false=>simp only[List.all_cons,List.all_nil,hin,Bool.and_true,zb,za,zc]
   |true=>have hb:=zKF.2 hin;have hne:bl (itoa r.1)≠w:=fun e=>hn r.1 hb e.symm;simp only[List.all_cons,List.all_nil,hin,Bool.and_true,zb,za,zGH (zQq hb),eqS,ze hne]
theorem byte_eq'(b c:UInt8):(((b.toNat:Nat):Int)=((c.toNat:Nat):Int))↔b=c:=by
 constructor
 ·intro h;have:b.toNat=c.toNat:=by omega
  exact UInt8.toNat_inj.1 this
 ·rintro rfl;rfl
theorem zKu(b c:UInt8):eqI ((b.toNat:Nat):Int) ((c.toNat:Nat):Int)=decide (b=c):=by rw[jN,Bool.eq_iff_iff,beq_iff_eq,decide_eq_true_iff];exact byte_eq' b c
theorem zJf(c:UInt8):∀l,spl c (l++[c])=spl c l++[[]]
 |[]=>by rw[zt,zFx];rfl
 |b::l=>by
  have ih:=zJf c l;by_cases h:b=c
  ·subst h;rw[List.cons_append,zFx,zFx,ih];rfl
  ·cases e:spl c l with
   |nil=>exact absurd e (zIA c l)
   |cons w ws=>rw[e]at ih;rw[List.cons_append,zDM h ih,zDM h e];rfl
theorem zUQ(b:UInt8):eqI ((b.toNat:Nat):Int) 10=decide (b=10):=zKu b 10
theorem zUH(p:List UInt8)(b:UInt8)(h:p.length≤2000000):qO (bl (p++[b])) ⟨#[10]⟩=some (decide (b=10))∧w64 (((bl (p++[b])).size:Int) - ((⟨#[10]⟩:qf).size:Int))=(p.length:Int):=by
 have e1:((⟨#[10]⟩:qf).size:Int)=1:=rfl;have e2:((bl (p++[b])).size:Int)=(p.length:Int)+1:=by rw[qZ];simp
 have e3:w64 (((bl (p++[b])).size:Int) - ((⟨#[10]⟩:qf).size:Int))=(p.length:Int):=by rw[e1,e2,zA (by omega)];omega
 refine⟨?_,e3⟩;unfold qO;rw[e3,e1,e2,qP,zd (by omega),zb];have hs:slc (bl (p++[b])).size (p.length:Int) ((p.length:Int)+1)=some ():=by
  have:((p.length:Int)+1)=((p.length+1:Nat):Int):=by omega
  rw[this];exact zHL (by omega) (by rw[qZ];simp)
 have hx:(bl (p++[b])).extract (Int.toNat (p.length:Int)) (Int.toNat ((p.length:Int)+1))=bl [b]:=by
  rw[zGd,zDV];have:Int.toNat ((p.length:Int)+1)=p.length+1:=by omega
  rw[this,zj];congr 1;simp
 rw[hs,hx];simp only[za,eqS];congr 1;rw[decide_eq_decide];constructor
 ·intro h;have:[b]=[10]:=zJB h;injection this
 ·rintro rfl;rfl
theorem zOA(c:UInt8):∀l:List UInt8,∀w∈spl c l,w.length≤l.length
 |[],w,hw=>by
  have:w=[]:=by simpa [spl] using hw
  subst this;simp
 |b::l,w,hw=>by
  by_cases h:b=c
  ·subst h;rw[zFx]at hw;rcases List.mem_cons.1 hw with e|e
   ·subst e;simp
   ·have:=zOA b l w e;simp;omega
  ·cases e:spl c l with
   |nil=>exact absurd e (zIA c l)
   |cons v vs=>
    rw[zDM h e]at hw;have ih:=zOA c l;rw[e]at ih;rcases List.mem_cons.1 hw with e2|e2
    ·subst e2;have:=ih v zm;simp;omega
    ·have:=ih w (zn _ e2);simp;omega
def LN(s:qf):List qf:=(spl 10 s.data.toList).dropLast.map bl
theorem z6q(s:qf)(hs:s.size≤1048576):∃Li oki Ls ok,zDA s=some (Li,oki)∧zEK s 2000 60=some (Ls,ok)∧(bif (bif (!oki) then true else (ltI 2000 ((s.size:Int)))) then true else (ltI 60 ((Li.length:Int))))=(!ok)∧
  (ok=true→Li=Ls∧Li.length≤60∧(∀w∈Li,w.size≤2000)∧Li=LN s∧oki=true∧(s=⟨#[]⟩∨∃p,s.data.toList=p++[10])):=by
 unfold zEK zDA;simp only[eqS];by_cases h0:s=⟨#[]⟩
 ·subst h0;have e:zBJ ⟨#[]⟩ 10=some ((spl 10 (⟨#[]⟩:qf).data.toList).map bl):=zHh ⟨#[]⟩ 10 (by decide);refine⟨[],true,[],true,?_,?_,rfl,fun _=>⟨rfl,by simp,by simp,by rfl,rfl,.inl rfl⟩⟩
  ·rw[zd rfl,zb]
  ·have e1:ltI 2000 (((⟨#[]⟩:qf).size:Nat):Int)=false:=rfl;rw[e1,zc,zd rfl,zh,zc];simp only[za,zc,e];have e3:slc ((spl 10 (⟨#[]⟩:qf).data.toList).map bl).length 0 (w64 ((((spl 10 (⟨#[]⟩:qf).data.toList).map bl).length:Int) - 1))=some ():=rfl;have e4:subl ((spl 10 (⟨#[]⟩:qf).data.toList).map bl) 0 (w64 ((((spl 10 (⟨#[]⟩:qf).data.toList).map bl).length:Int) - 1))=[]:=rfl;rw[e3,e4];rfl
 ·have hne:s.data.toList≠[]:=by
   intro h;apply h0;rw[zJL s,h];rfl
  obtain⟨p,b,hp⟩:∃p b,s.data.toList=p++[b]:=⟨_,_,(List.dropLast_concat_getLast hne).symm⟩
  have hsb:s=bl (p++[b]):=by rw[zJL s,hp]
  have hsz:s.size=p.length+1:=by rw[hsb,qZ];simp
  obtain⟨hh,hw⟩:=zUH p b (by omega);rw[←hsb]at hh hw;have hgb:getB s (w64 ((s.size:Int) - 1))=some ((b.toNat:Nat):Int):=by have e1:w64 ((s.size:Int) - 1)=(p.length:Int):=hw;rw[e1,zEu (show p.length<s.size by omega)];congr 2;simp[hp]
  rw[ze h0,zc];simp only[zi,zb,hgb,za,zUQ,zCL,zC6,jP,hh];by_cases hb:b=10
  ·subst hb;have hx:s.extract (Int.toNat 0) (Int.toNat (w64 ((s.size:Int) - ((⟨#[10]⟩:qf).size:Int))))=bl p:=by
    rw[hw,zGd,hp];congr 1;simp
   have hsl:slc s.size 0 (w64 ((s.size:Int) - ((⟨#[10]⟩:qf).size:Int)))=some ():=by rw[hw];exact zHL (l:=0) (by omega) (by omega)
   have hsp:zAB (bl p) ⟨#[10]⟩=some ((spl 10 p).map bl):=by
    have:=zKm (bl p) 10 (by rw[qZ];omega)
    rwa [zDV]at this
   have hsl2:zBJ s 10=some ((spl 10 p++[[]]).map bl):=by have:=zHh s 10 (by omega);rw[hp,zJf]at this;exact this
   have hlen:=zSY 10 p;have hlm:((spl 10 p++[[]]).map bl).length=(spl 10 p).length+1:=by simp
   have hw2:w64 ((((spl 10 p++[[]]).map bl).length:Int) - 1)=(((spl 10 p).length:Nat):Int):=by rw[hlm,zA (by omega)];omega
   have hsub:subl ((spl 10 p++[[]]).map bl) 0 (((spl 10 p).length:Nat):Int)=(spl 10 p).map bl:=by unfold subl;rw[zj,List.map_append];simp
   have hs3:slc ((spl 10 p++[[]]).map bl).length 0 (((spl 10 p).length:Nat):Int)=some ():=zHL (l:=0) (by omega) (by omega);rw[zd rfl];simp only[zb,hsl,hx,za,hsp,zh,zc,zE];by_cases h4:(2000:Int)<(s.size:Int)
   ·rw[zd h4];exact⟨_,_,[],false,rfl,rfl,by simp,fun h=>by cases h⟩
   ·rw[ze h4];simp only[zc,hsl2,za,hw2,hs3,hsub,qP];refine⟨_,_,_,_,rfl,rfl,?_,fun h=>⟨rfl,?_,fun w hw=>?_,?_,rfl,.inr ⟨p,hp⟩⟩⟩
    ·simp only[zh,zc,ze h4];by_cases h5:(((spl 10 p).map bl).length:Int)≤60
     ·rw[zd h5,ze (by omega)];rfl
     ·rw[ze h5,zd (by omega)];rfl
    ·have:=of_decide_eq_true h;omega
    ·obtain⟨v,hv,rfl⟩:=List.mem_map.1 hw;have:=zOA 10 p v hv;rw[qZ];omega
    ·unfold LN;rw[hp,zJf,List.dropLast_concat]
  ·have hbf:decide (b=10)=false:=ze hb;rw[hbf];have hx2:∃l,zAB s ⟨#[10]⟩=some l:=⟨_,zKm s 10 (by omega)⟩
   obtain⟨l,hl⟩:=hx2;simp only[zc,za,hl,zi,zb];refine⟨l,false,[],false,rfl,?_,rfl,fun h=>by cases h⟩;cases ltI 2000 (s.size:Int)<;>rfl
def shT:List (qf×qf×qf):=[(⟨#[100,105,115,99]⟩,⟨#[110]⟩,⟨#[110]⟩),(⟨#[115,101,116]⟩,⟨#[65,102]⟩,⟨#[108,102]⟩),(⟨#[112,114,105,109,101]⟩,⟨#[65,110]⟩,⟨#[108,110]⟩),(⟨#[118,97,108,117,101]⟩,⟨#[65,110]⟩,⟨#[108,110]⟩),(⟨#[109,117,108]⟩,⟨#[65,65,65]⟩,⟨#[108,108,108]⟩),(⟨#[112,111,119]⟩,⟨#[65,65,110]⟩,⟨#[108,108,110]⟩),(⟨#[115,97,109,101]⟩,⟨#[65,65]⟩,⟨#[108,108]⟩),(⟨#[102,114,101,101]⟩,⟨#[65]⟩,⟨#[108]⟩),(⟨#[115,104,111,119]⟩,⟨#[65]⟩,⟨#[108]⟩),(⟨#[105,110,100,101,120]⟩,⟨#[65]⟩,⟨#[108]⟩),(⟨#[111,114,100,101,114]⟩,⟨#[65]⟩,⟨#[108]⟩),(⟨#[103,101,110,117,115]⟩,⟨#[65]⟩,⟨#[108]⟩),(⟨#[110,97,109,101,115]⟩,⟨#[]⟩,⟨#[]⟩),(⟨#[117,110,100,111]⟩,⟨#[]⟩,⟨#[]⟩)]
def shW:List qf:=[⟨#[100,105,115,99]⟩,⟨#[115,101,116]⟩,⟨#[112,114,105,109,101]⟩,⟨#[118,97,108,117,101]⟩,⟨#[109,117,108]⟩,⟨#[112,111,119]⟩,⟨#[115,97,109,101]⟩,⟨#[102,114,101,101]⟩,⟨#[115,104,111,119]⟩,⟨#[105,110,100,101,120]⟩,⟨#[111,114,100,101,114]⟩,⟨#[103,101,110,117,115]⟩,⟨#[110,97,109,101,115]⟩,⟨#[117,110,100,111]⟩]
theorem z1h(w:qf):(∃si ss,(w,si,ss)∈shT∧zCo w=some (si,true)∧zDa w=some (ss,true))∨(w∉shW∧(∃si,zCo w=some (si,false))∧∃ss,zDa w=some (ss,false)):=by
 by_cases hw:w∈shW
 ·simp only[shW,zl,zq,or_false]at hw;rcases hw with h|h|h|h|h|h|h|h|h|h|h|h|h|h
  ·subst h;exact .inl ⟨⟨#[110]⟩,⟨#[110]⟩,by simp[shT],by decide+kernel,by decide+kernel⟩
  ·subst h;exact .inl ⟨⟨#[65,102]⟩,⟨#[108,102]⟩,by simp[shT],by decide+kernel,by decide+kernel⟩
  ·subst h;exact .inl ⟨⟨#[65,110]⟩,⟨#[108,110]⟩,by simp[shT],by decide+kernel,by decide+kernel⟩
  ·subst h;exact .inl ⟨⟨#[65,110]⟩,⟨#[108,110]⟩,by simp[shT],by decide+kernel,by decide+kernel⟩
  ·subst h;exact .inl ⟨⟨#[65,65,65]⟩,⟨#[108,108,108]⟩,by simp[shT],by decide+kernel,by decide+kernel⟩
  ·subst h;exact .inl ⟨⟨#[65,65,110]⟩,⟨#[108,108,110]⟩,by simp[shT],by decide+kernel,by decide+kernel⟩
  ·subst h;exact .inl ⟨⟨#[65,65]⟩,⟨#[108,108]⟩,by simp[shT],by decide+kernel,by decide+kernel⟩
  ·subst h;exact .inl ⟨⟨#[65]⟩,⟨#[108]⟩,by simp[shT],by decide+kernel,by decide+kernel⟩
  ·subst h;exact .inl ⟨⟨#[65]⟩,⟨#[108]⟩,by simp[shT],by decide+kernel,by decide+kernel⟩
  ·subst h;exact .inl ⟨⟨#[65]⟩,⟨#[108]⟩,by simp[shT],by decide+kernel,by decide+kernel⟩
  ·subst h;exact .inl ⟨⟨#[65]⟩,⟨#[108]⟩,by simp[shT],by decide+kernel,by decide+kernel⟩
  ·subst h;exact .inl ⟨⟨#[65]⟩,⟨#[108]⟩,by simp[shT],by decide+kernel,by decide+kernel⟩
  ·subst h;exact .inl ⟨⟨#[]⟩,⟨#[]⟩,by simp[shT],by decide+kernel,by decide+kernel⟩
  ·subst h;exact .inl ⟨⟨#[]⟩,⟨#[]⟩,by simp[shT],by decide+kernel,by decide+kernel⟩
 ·have hn:=hw;simp only[shW,zl,zq,or_false,not_or]at hn;obtain⟨h1,h2,h3,h4,h5,h6,h7,h8,h9,h10,h11,h12,h13,h14⟩:=hn;refine .inr ⟨hw,?_,?_⟩
  ·have em:∀m:List (qf×qf),mGet w m=none→∀a v,w≠a→mGet w (mPut a v m)=none:=by
    intro m hm a v hne
    induction m with
    |nil=>simp[mPut,mGet,hne]
    |cons p ps ih=>
     unfold mGet at hm;split at hm
     ·cases hm
     ·rename_i hp;unfold mPut;split
      ·unfold mGet;rw[if_neg hne];exact hm
      ·unfold mGet;rw[if_neg hp];exact ih hm
   unfold zCo;simp only[za,mHas];rw[em _ (em _ (em _ (em _ (em _ (em _ (em _ (em _ (em _ (em _ (em _ (em _ (em _ (em _ rfl _ _ h1) _ _ h2) _ _ h3) _ _ h5) _ _ h6) _ _ h8) _ _ h9) _ _ h10) _ _ h11) _ _ h12) _ _ h4) _ _ h7) _ _ h13) _ _ h14];exact⟨_,rfl⟩
  ·unfold zDa;simp only[eqS,ze h1,ze h2,ze h3,ze h4,ze h5,ze h6,ze h7,ze h8,ze h9,ze h10,ze h11,ze h12,ze h13,ze h14,za,zc];exact⟨_,rfl⟩
def z92(n:Nat):Bool:=bif Nat.ble 97 n&&Nat.ble n 122 then decide (zD2 (bl [UInt8.ofNat n])=some (((n - 97:Nat):Int),true))&&decide (zAS (bl [UInt8.ofNat n])=some true)
 else decide (zD2 (bl [UInt8.ofNat n])=some (0,false))&&decide (zAS (bl [UInt8.ofNat n])=some false)
theorem z9r:(List.range 256).all z92=true:=by decide+kernel
def lt1(i:Nat):qf:=bl [UInt8.ofNat (97+i)]
theorem zKs(w:qf)(hw:w.size≤100000):(∃i:Nat,i<26∧w=lt1 i∧zD2 w=some ((i:Int),true)∧zAS w=some true)∨(zD2 w=some (0,false)∧zAS w=some false):=by
 have hbw:=zJL w;by_cases h1:w.size=1
 ·obtain⟨b,hb⟩:∃b,w.data.toList=[b]:=by
   have:w.data.toList.length=1:=by simpa using h1
   match hl:w.data.toList,this with
   |[b],_=>exact⟨b,rfl⟩
  have hlt:b.toNat<256:=b.toNat_lt;have hn:=List.all_eq_true.1 z9r b.toNat (List.mem_range.2 hlt);have hbn:UInt8.ofNat b.toNat=b:=UInt8.ofNat_toNat;rw[hb]at hbw;unfold z92 at hn;rw[hbn,←hbw]at hn;cases hc:(Nat.ble 97 b.toNat&&Nat.ble b.toNat 122) with
  |true=>rw[hc,zb,zk,decide_eq_true_eq,decide_eq_true_eq]at hn;rw[zk]at hc;have c1:=Nat.le_of_ble_eq_true hc.1;have c2:=Nat.le_of_ble_eq_true hc.2;refine .inl ⟨b.toNat - 97,by omega,?_,hn.1,hn.2⟩;rw[hbw,lt1,show 97+(b.toNat - 97)=b.toNat by omega,hbn]
  |false=>rw[hc,zc,zk,decide_eq_true_eq,decide_eq_true_eq]at hn;exact .inr hn
 ·have e:eqI (w.size:Int) 1=false:=by rw[jN];exact beq_eq_false_iff_ne.2 (by omega)
  refine .inr ⟨?_,?_⟩
  ·unfold zD2;rw[e];rfl
  ·unfold zAS;rw[e];rfl
def im8(b:UInt8):UInt8:=if b=108 then 65 else b
theorem z9i:∀t∈shT,∃sp:List UInt8,t.2.2=bl sp∧t.2.1=bl (sp.map im8)∧sp.length≤3∧∀b∈sp,b=108∨b=102∨b=110:=by
 intro t ht;simp only[shT,zl,zq,or_false]at ht;rcases ht with h|h|h|h|h|h|h|h|h|h|h|h|h|h<;>subst h
 ·exact⟨[110],rfl,rfl,by decide,by decide⟩
 ·exact⟨[108,102],rfl,rfl,by decide,by decide⟩
 ·exact⟨[108,110],rfl,rfl,by decide,by decide⟩
 ·exact⟨[108,110],rfl,rfl,by decide,by decide⟩
 ·exact⟨[108,108,108],rfl,rfl,by decide,by decide⟩
 ·exact⟨[108,108,110],rfl,rfl,by decide,by decide⟩
 ·exact⟨[108,108],rfl,rfl,by decide,by decide⟩
 ·exact⟨[108],rfl,rfl,by decide,by decide⟩
 ·exact⟨[108],rfl,rfl,by decide,by decide⟩
 ·exact⟨[108],rfl,rfl,by decide,by decide⟩
 ·exact⟨[108],rfl,rfl,by decide,by decide⟩
 ·exact⟨[108],rfl,rfl,by decide,by decide⟩
 ·exact⟨[],rfl,rfl,by decide,by decide⟩
 ·exact⟨[],rfl,rfl,by decide,by decide⟩
theorem zO9{l:List UInt8}{k:Nat}(h:k<l.length):getB (bl l) (k:Int)=some (((l[k]'h).toNat:Nat):Int):=by rw[zEu (by rw[qZ];exact h)];simp[bl]
theorem zXC(w:qf)(hw:w.size≤100000000):∃a b ok,zDK w=some (a,ok)∧zBc w=some (b,ok)∧(ok=true→a=b∧NB a):=by
 obtain⟨a,b,ok,h1,h2,h3⟩:=z00 w hw;refine⟨a,b,ok,h1,h2,fun e=>⟨h3 e,?_⟩⟩;rcases zNC w with⟨n,hn,_,h⟩|⟨_,h⟩
 ·rw[h2]at h;cases h;rw[h3 e];exact hn
 ·rw[h2]at h;cases h;cases e
theorem zPp{ws:List qf}(hz:∀w∈ws,w.size≤100000){sp:List UInt8}(hl:ws.length=sp.length+1)(h3:sp.length≤3):∀(n k:Nat)(acc:List qf)(a b c v:Int),k≤sp.length→sp.length - k<n→acc.length≤k→
  ∃r,jG ws (bl sp,true) n false (k:Int) acc a b c v=some (false,r)
 |0,k,acc,a,b,c,v,h1,h2,h4=>by omega
 |n+1,k,acc,a,b,c,v,h1,h2,h4=>by
  unfold jG;by_cases hk:k<sp.length
  ·have hg:getI ws ((k+1:Nat):Int)=some (ws[k+1]'(by omega)):=zA6 (by omega);have hwz:(ws[k+1]'(by omega)).size≤100000:=hz _ (zx _);rw[zE,qZ,zd (by omega),zb,zA9 (by omega),hg,zO9 hk];simp only[za,zI];generalize ws[k+1]'(by omega)=w at hwz;obtain⟨b1,hb1⟩:∃b1,zAS w=some b1:=by
    rcases zKs w hwz with⟨_,_,_,_,h⟩|⟨_,h⟩<;>exact⟨_,h⟩
   obtain⟨_,_,_,_,hi,_⟩:=zXC w (by omega);obtain⟨r1,_,hf,_⟩:∃r,zCH w=some r∧zCH w=some r∧True:=by obtain⟨r,_,h,_⟩:=zKE w (by omega);exact⟨r,h,h,trivial⟩
   rw[hb1,hf,hi];simp only[za,zc];rw[zAa (by simp;omega)];simp only[za];cases eqI ((sp[k].toNat:Nat):Int) 108 with
   |true=>rw[zb];exact zPp hz hl h3 n (k+1) _ _ _ _ _ (by omega) (by omega) (by simp;omega)
   |false=>
    rw[zc];cases eqI ((sp[k].toNat:Nat):Int) 102 with
    |true=>exact zPp hz hl h3 n (k+1) _ _ _ _ _ (by omega) (by omega) (by omega)
    |false=>exact zPp hz hl h3 n (k+1) _ _ _ _ _ (by omega) (by omega) (by omega)
  ·rw[zE,qZ,ze (by omega),zc];exact⟨_,rfl⟩
def what0:(qf×(List Int)×(Int×Int×Int)×Int)×Bool:=((qg,([]:List Int),(0,0,0),0),false)
theorem zY4{ws:List qf}(e4:qf)(hz:∀w∈ws,w.size≤100000){sp:List UInt8}(hl:ws.length=sp.length+1)(h3:sp.length≤3)(hsp:∀b∈sp,b=108∨b=102∨b=110):
  ∀(n k:Nat)(l:List Nat)(a b c v:Int),k≤sp.length→sp.length - k<n→l.length≤k→(∀i∈l,i<26)→NB v→
  (∃(l':List Nat) (f':Int×Int×Int) (v':Int),jC e4 (sp.length:Int) ws (bl (sp.map im8),true) n (k:Int) (l.map fun (i:Nat)=>(i:Int)) a b c v=some (.inl (l'.map fun (i:Nat)=>(i:Int),f'.1,f'.2.1,f'.2.2,v'))∧
   jG ws (bl sp,true) n true (k:Int) (l.map lt1) a b c v=some (true,l'.map lt1,f'.1,f'.2.1,f'.2.2,v')∧l'.length=l.length+(sp.drop k).count 108∧(∀i∈l',i<26)∧NB v')∨
  (jC e4 (sp.length:Int) ws (bl (sp.map im8),true) n (k:Int) (l.map fun (i:Nat)=>(i:Int)) a b c v=some (.inr what0)∧
   ∃r,jG ws (bl sp,true) n true (k:Int) (l.map lt1) a b c v=some (false,r))
 |0,k,l,a,b,c,v,h1,h2,h4,h5,h6=>by omega
 |n+1,k,l,a,b,c,v,h1,h2,h4,h5,h6=>by
  unfold jG jC;by_cases hk:k<sp.length
  ·have hg:getI ws ((k+1:Nat):Int)=some (ws[k+1]'(by omega)):=zA6 (by omega);have hg2:getI (subl ws 1 (ws.length:Int)) (k:Int)=some (ws[k+1]'(by omega)):=by
    have e:subl ws 1 (ws.length:Int)=ws.drop 1:=by unfold subl;rw[List.take_of_length_le (by simp)];rfl
    rw[e,zA6 (by rw[List.length_drop];omega),List.getElem_drop];simp only[Nat.add_comm 1 k]
   have hwz:(ws[k+1]'(by omega)).size≤100000:=hz _ (zx _);have hgb:getB (bl (sp.map im8)) (k:Int)=some (((im8 (sp[k]'hk)).toNat:Nat):Int):=by rw[zO9 (by rw[List.length_map];exact hk),List.getElem_map]
   have hdr:sp.drop k=sp[k]'hk::sp.drop (k+1):=List.drop_eq_getElem_cons hk;have hin:=hsp _ (zx hk);simp only[zE,qZ,zd (show (k:Int)<(sp.length:Int) by omega),zb,zA9 (show k<1000000000 by omega),hg,hg2,zO9 hk,hgb,hdr,za,zI];generalize ws[k+1]'(by omega)=w at hwz;generalize sp[k]'hk=q at hin;have e1:∀x:UInt8,eqI ((x.toNat:Nat):Int) 108=decide (x=108):=fun x=>zKu x 108;have e2:∀x:UInt8,eqI ((x.toNat:Nat):Int) 102=decide (x=102):=fun x=>zKu x 102;have e3:∀x:UInt8,eqI ((x.toNat:Nat):Int) 65=decide (x=65):=fun x=>zKu x 65;simp only[e1,e2,e3];rw[zAa (by simp;omega)];have hroom:∀x:Int,room ((l.map fun (i:Nat)=>(i:Int)).length+[x].length)=some ():=fun x=>zAa (by simp;omega);simp only[hroom,za];rcases hin with rfl|rfl|rfl
   ·rcases zKs w hwz with⟨i,hi,hwi,n1,n2⟩|⟨n1,n2⟩
    ·simp only[n1,n2,za,im8,if_true,decide_true,zb,zh,zc];have:=zY4 e4 hz hl h3 hsp n (k+1) (l++[i]) a b c v (by omega) (by omega) (by simp;omega) (by
      intro j hj;rcases List.mem_append.1 hj with h|h
      ·exact h5 j h
      ·rw[qe]at h;omega) h6
     simp only[List.map_append,List.map_cons,zr,←hwi,zf,zg,List.length_nil]at this;rcases this with⟨l',f',v',t1,t2,t3,t4⟩|t
     ·refine .inl ⟨l',f',v',t1,t2,?_,t4⟩;rw[t3,List.count_cons_self];omega
     ·exact .inr t
    ·simp only[n1,n2,za,im8,if_true,decide_true,zb,zi];exact .inr ⟨rfl,zPp hz hl h3 n (k+1) _ _ _ _ _ (by omega) (by omega) (by simp;omega)⟩
   ·obtain⟨r,p1,p2,_⟩:=zKE w (by omega);obtain⟨bb,hbb⟩:∃b1,zAS w=some b1:=by
     rcases zKs w hwz with⟨_,_,_,_,h⟩|⟨_,h⟩<;>exact⟨_,h⟩
    have d1:decide ((102:UInt8)=108)=false:=by decide
    have d2:im8 102=102:=by decide
    have d3:decide ((102:UInt8)=65)=false:=by decide
    simp only[p1,p2,hbb,za,d1,d2,d3,decide_true,zb,zc];cases hr:r.2 with
    |true=>simp only[zh,zc];have:=zY4 e4 hz hl h3 hsp n (k+1) l r.1.1 r.1.2.1 r.1.2.2 v (by omega) (by omega) (by omega) h5 h6;rw[List.count_cons_of_ne (by decide)];exact this
    |false=>simp only[zi,zb];exact .inr ⟨rfl,zPp hz hl h3 n (k+1) _ _ _ _ _ (by omega) (by omega) (by simp;omega)⟩
   ·obtain⟨x,y,ok,p1,p2,p3⟩:=zXC w (by omega);obtain⟨bb,hbb⟩:∃b1,zAS w=some b1:=by
     rcases zKs w hwz with⟨_,_,_,_,h⟩|⟨_,h⟩<;>exact⟨_,h⟩
    have d1:decide ((110:UInt8)=108)=false:=by decide
    have d2:im8 110=110:=by decide
    have d3:decide ((110:UInt8)=65)=false:=by decide
    have d4:decide ((110:UInt8)=102)=false:=by decide
    simp only[p1,p2,hbb,za,d1,d2,d3,d4,zb,zc];cases ok with
    |true=>obtain⟨p4,p5⟩:=p3 rfl;subst p4;simp only[zh,zc];have:=zY4 e4 hz hl h3 hsp n (k+1) l a b c x (by omega) (by omega) (by omega) h5 p5;rw[List.count_cons_of_ne (by decide)];exact this
    |false=>simp only[zi,zb];exact .inr ⟨rfl,zPp hz hl h3 n (k+1) _ _ _ _ _ (by omega) (by omega) (by simp;omega)⟩
  ·simp only[zE,qZ,ze (show ¬(k:Int)<(sp.length:Int) by omega),zc];refine .inl ⟨l,(a,b,c),v,rfl,rfl,?_,h5,h6⟩;rw[zo (by omega)];rfl
theorem z4K(s:qf)(hs:s.size≤2000):(∃a,zM s=some (a,false)∧∃b c,qL s=some (b,c,false))∨
  ∃(w:qf) (l:List Nat) (f:Int×Int×Int) (v:Int) (si:qf) (sp:List UInt8),(w,si,bl sp)∈shT∧zM s=some ((w,l.map (fun (i:Nat)=>(i:Int)),f,v),true)∧
   qL s=some (w,(l.map lt1,f,v),true)∧l.length=sp.count 108∧(∀i∈l,i<26)∧NB v:=by
 have h1:zAB s ⟨#[32]⟩=some ((spl 32 s.data.toList).map bl):=zKm s 32 (by omega);have h2:zBJ s 32=some ((spl 32 s.data.toList).map bl):=zHh s 32 (by omega);have hz:∀w∈(spl 32 s.data.toList).map bl,w.size≤100000:=by intro w hw;obtain⟨x,hx,rfl⟩:=List.mem_map.1 hw;rw[qZ];have:=zOA 32 s.data.toList x hx;have e:s.data.toList.length=s.size:=Array.length_toList;omega
 have hlen:((spl 32 s.data.toList).map bl).length≤2001:=by rw[List.length_map];have:=zSY 32 s.data.toList;have e:s.data.toList.length=s.size:=Array.length_toList;omega
 have hne:0<((spl 32 s.data.toList).map bl).length:=by rw[List.length_map];exact List.length_pos_iff.2 (zIA 32 _)
 unfold zM qL;rw[h1,h2];generalize (spl 32 s.data.toList).map bl=ws at hz hlen hne;have g0:getI ws 0=some (ws[0]'hne):=zA6 (k:=0) hne;simp only[g0,za];generalize ws[0]'hne=w;rcases z1h w with⟨si,ss,ht,e1,e2⟩|⟨_,⟨si,e1⟩,ss,e2⟩
 ·obtain⟨sp,q1,q2,q3,q4⟩:=z9i _ ht;simp only at q1 q2;subst q1 q2;simp only[e1,e2,za,zh,zc,qZ,List.length_map];have hw:w64 ((sp.length:Int)+1)=((sp.length+1:Nat):Int):=zA9 (by omega);rw[hw,jN];by_cases hl:ws.length=sp.length+1
  ·rw[hl,beq_self_eq_true];simp only[zh,zc];rw[show slc (sp.length+1) 1 ((sp.length+1:Nat):Int)=some () from zHL (l:=1) (by omega) (by omega)];simp only[za,zI];have e3:((subl ws 1 ((sp.length+1:Nat):Int)).length:Int)=(sp.length:Int):=by
    unfold subl;rw[List.length_take,List.length_drop];simp;omega
   rw[e3];rcases zY4 w hz hl q3 q4 FU 0 [] 0 0 0 0 (by omega) (by unfold FU;omega) (by simp) (by simp) (by unfold NB;omega) with⟨l',f',v',t1,t2,t3,t4,t5⟩|⟨t1,r,t2⟩
   ·right;refine⟨w,l',f',v',_,sp,ht,?_,?_,by simpa using t3,t4,t5⟩
    ·simp only[zr]at t1;have t1:jC w (sp.length:Int) ws (bl (List.map im8 sp),true) FU 0 [] 0 0 0 0=_:=t1;rw[t1];rfl
    ·simp only[zr]at t2;have t2:jG ws (bl sp,true) FU true 0 [] 0 0 0 0=_:=t2;rw[t2];rfl
   ·left;simp only[zr]at t1 t2;have t1:jC w (sp.length:Int) ws (bl (List.map im8 sp),true) FU 0 [] 0 0 0 0=_:=t1;have t2:jG ws (bl sp,true) FU true 0 [] 0 0 0 0=_:=t2;rw[t1,t2];exact⟨_,rfl,_,_,rfl⟩
  ·have e3:((ws.length:Int)==((sp.length+1:Nat):Int))=false:=beq_eq_false_iff_ne.2 (by omega);rw[e3];exact .inl ⟨_,rfl,_,_,rfl⟩
 ·left;simp only[e1,e2,za,zi,zb];exact⟨_,rfl,_,_,rfl⟩
end Go.Proofs.YtahdjphocippeaaGreatDoor
namespace Go.Proofs.YtahdjphocippeaaGreatDoor
theorem zX{n:Int}(h:inN n=true):sm18 n:=by rw[zA7]at h;unfold sm18;omega
theorem zXK(m:Int×Int×Int×Int):zDL m=some (inN m.1&&(inN m.2.1&&(inN m.2.2.1&&inN m.2.2.2))):=by simp only[zDL,zS4 _ (show [m.1,m.2.1,m.2.2.1,m.2.2.2].length<1000000 by simp),List.all_cons,List.all_nil,Bool.and_true,za]
theorem z4X(m:Int×Int×Int×Int):zDw m=some (inN m.1&&(inN m.2.1&&(inN m.2.2.1&&inN m.2.2.2))):=by simp only[zDw,z08,za];cases inN m.1<;>cases inN m.2.1<;>cases inN m.2.2.1<;>rfl
theorem zKw{f:Int×Int×Int}(h:zR f=some true):inN f.1=true∧inN f.2.1=true∧inN f.2.2=true:=by
 simp only[zR,zEv,za]at h;cases ha:inN f.1 with
 |false=>rw[ha]at h;simp at h
 |true=>
  cases hb:inN f.2.1 with
  |false=>rw[ha,hb]at h;simp at h
  |true=>
   cases hc:inN f.2.2 with
   |false=>rw[ha,hb,hc]at h;simp at h
   |true=>exact⟨rfl,rfl,rfl⟩
theorem zTP{n:Int}(h:-10000000≤n∧n≤10000000):sm18 n:=by unfold sm18;omega
theorem zWo{x:List UInt8}{ws:List (List UInt8)}(hx:x.length≤1000)(h:∀y∈ws,y.length≤100):∀y∈x::ws,y.length≤1000:=by
 intro y hy;rcases List.mem_cons.1 hy with rfl|hy
 ·exact hx
 ·have:=h y hy;omega
theorem z5H{x:List UInt8}{r:List (List UInt8)}(hN:r.length≤9)(hL:∀y∈x::r,y.length≤1000):(bl (x++Go.Lib.joinTail [32] r)).size≤20000:=by have h1:=hL x zm;have h2:=zZq r fun y hy=>hL y (zn _ hy);rw[qZ,zf];omega
theorem z8c(f g:Int×Int×Int):∃t b,zAT f g=some (t,b)∧zAU f g=some (t,b)∧t.size≤20000:=by
 obtain⟨bf,hf⟩:=zKO f;obtain⟨bg,hg⟩:=zKO g;have no:∀{h:Int×Int×Int},zR h=some false→zBD h=some ((0,0,0),(0,0,0,0),false):=by intro h hh;simp only[zBD,hh,za,zi,zb]
 have yes:∀{h:Int×Int×Int},zR h=some true→∃m f2,zBD h=some (f2,m,true)∧qI h=some (f2,m)∧sm18 m.1∧sm18 m.2.1∧sm18 m.2.2.1∧sm18 m.2.2.2∧sm18 f2.1∧sm18 f2.2.1∧sm18 f2.2.2:=by intro h hh;obtain⟨m,f2,k1,k2,i1,i2,i3,i4,j1,j2,j3,_⟩:=zUW hh;refine⟨m,f2,?_,k2,zX i1,zX i2,zX i3,zX i4,zTP j1,zTP j2,zTP j3⟩;simp only[zBD,hh,za,zh,zc,k1,zXK,i1,i2,i3,i4,Bool.and_self]
 simp only[zAT,zAU,zZE,hf,hg,za];cases bf with
 |false=>
  rw[no hf];cases bg with
  |false=>rw[no hg];exact⟨_,_,rfl,rfl,by decide⟩
  |true=>obtain⟨m,f2,k1,_⟩:=yes hg;rw[k1];exact⟨_,_,rfl,rfl,by decide⟩
 |true=>
  obtain⟨m,f2,k1,k2,i1,i2,i3,i4,j1,j2,j3⟩:=yes hf;rw[k1];cases bg with
  |false=>rw[no hg];exact⟨_,_,rfl,rfl,by decide⟩
  |true=>
   obtain⟨n,g2,l1,l2,p1,p2,p3,p4,q1,q2,q3⟩:=yes hg;rw[l1];simp only[zh,zc,za,k2,l2];cases hc:(f2.1==g2.1&&(f2.2.1==g2.2.1&&f2.2.2==g2.2.2)) with
   |true=>exact⟨_,_,rfl,rfl,by decide⟩
   |false=>
    obtain⟨a1,a2,a3⟩:=zKw hf;obtain⟨b1,b2,b3⟩:=zKw hg;have e1:(⟨#[100,105,102,102,101,114,101,110,116]⟩:qf)=bl [100,105,102,102,101,114,101,110,116]:=rfl;have hL:=zWo (x:=[100,105,102,102,101,114,101,110,116]) (ws:=[fB f,mB m,fB f2,fB g,mB n,fB g2]) (by simp) (by
     intro y hy;simp only[zl,zq,or_false]at hy;rcases hy with rfl|rfl|rfl|rfl|rfl|rfl
     ·exact zKK (zX a1) (zX a2) (zX a3)
     ·exact z1z i1 i2 i3 i4
     ·exact zKK j1 j2 j3
     ·exact zKK (zX b1) (zX b2) (zX b3)
     ·exact z1z p1 p2 p3 p4
     ·exact zKK q1 q2 q3)
    have t1:=zWx [100,105,102,102,101,114,101,110,116] [fB f,mB m,fB f2,fB g,mB n,fB g2] (by simp) hL;have t2:=z3p [100,105,102,102,101,114,101,110,116] [fB f,mB m,fB f2,fB g,mB n,fB g2] (by simp) (by simp) hL;simp only[List.map_cons,zr]at t1 t2;simp only[zc,zFR (zX a1) (zX a2) (zX a3),zFR (zX b1) (zX b2) (zX b3),zFR j1 j2 j3,zFR q1 q2 q3,zNB i1 i2 i3 i4,zNB p1 p2 p3 p4,
     zDU (zX a1) (zX a2) (zX a3),zDU (zX b1) (zX b2) (zX b3),zDU j1 j2 j3,zDU q1 q2 q3,zMy i1 i2 i3 i4,zMy p1 p2 p3 p4,za,e1,t1,t2]
    exact⟨_,_,rfl,rfl,z5H (by simp) hL⟩
theorem z6J(m:Int×Int×Int×Int):∃y,zBH m=some y:=by simp only[zBH,zEH,zI,za];exact⟨_,rfl⟩
theorem z67(f g:Int×Int×Int):∃m b,zBL f g=some (m,b)∧zBN f g=some (m,b)∧(b=true→(inN f.1=true∧inN f.2.1=true∧inN f.2.2=true)∧(inN g.1=true∧inN g.2.1=true∧inN g.2.2=true)∧inN m.1=true∧inN m.2.1=true∧inN m.2.2.1=true∧inN m.2.2.2=true):=by
 obtain⟨bf,hf⟩:=zKO f;obtain⟨bg,hg⟩:=zKO g;simp only[zBL,zBN,zZE,hf,hg,za];cases bf with
 |false=>exact⟨_,false,rfl,rfl,fun h=>by cases h⟩
 |true=>
  cases bg with
  |false=>exact⟨_,false,rfl,rfl,fun h=>by cases h⟩
  |true=>
   obtain⟨m,f2,k1,k2,_⟩:=zUW hf;obtain⟨n,g2,l1,l2,_⟩:=zUW hg;obtain⟨y,hy⟩:=z6J n;obtain⟨z,hz⟩:=zSl m y;simp only[zh,zc,za,k1,k2,l1,l2,z89,zZB,hy,hz];cases hc:(f2.1==g2.1&&(f2.2.1==g2.2.1&&f2.2.2==g2.2.2)) with
   |false=>exact⟨_,false,rfl,rfl,fun h=>by cases h⟩
   |true=>
    simp only[zh,zc,za,zFe,zXK,z4X];cases hb:(inN z.1&&(inN z.2.1&&(inN z.2.2.1&&inN z.2.2.2))) with
    |false=>exact⟨_,false,rfl,rfl,fun h=>by cases h⟩
    |true=>refine⟨z,true,rfl,rfl,fun _=>⟨zKw hf,zKw hg,?_⟩⟩;simpa only[zk] using hb
theorem z69(f g:Int×Int×Int):∃t b,zAI f g=some (t,b)∧zAJ f g=some (t,b)∧t.size≤20000:=by
 obtain⟨m,b,h1,h2,h3⟩:=z67 f g;simp only[zAI,zAJ,h1,h2,za];cases b with
 |false=>exact⟨_,_,rfl,rfl,by decide⟩
 |true=>
  obtain⟨⟨a1,a2,a3⟩,⟨b1,b2,b3⟩,i1,i2,i3,i4⟩:=h3 rfl;have e1:(⟨#[101,113,117,105,118,97,108,101,110,116]⟩:qf)=bl [101,113,117,105,118,97,108,101,110,116]:=rfl;have hL:=zWo (x:=[101,113,117,105,118,97,108,101,110,116]) (ws:=[fB f,fB g,mB m]) (by simp) (by
   intro y hy;simp only[zl,zq,or_false]at hy;rcases hy with rfl|rfl|rfl
   ·exact zKK (zX a1) (zX a2) (zX a3)
   ·exact zKK (zX b1) (zX b2) (zX b3)
   ·exact z1z (zX i1) (zX i2) (zX i3) (zX i4))
  have t1:=zWx [101,113,117,105,118,97,108,101,110,116] [fB f,fB g,mB m] (by simp) hL;have t2:=z3p [101,113,117,105,118,97,108,101,110,116] [fB f,fB g,mB m] (by simp) (by simp) hL;simp only[List.map_cons,zr]at t1 t2;simp only[zh,zc,zFR (zX a1) (zX a2) (zX a3),zFR (zX b1) (zX b2) (zX b3),zNB (zX i1) (zX i2) (zX i3) (zX i4),
   zDU (zX a1) (zX a2) (zX a3),zDU (zX b1) (zX b2) (zX b3),zMy (zX i1) (zX i2) (zX i3) (zX i4),za,e1,t1,t2]
  exact⟨_,_,rfl,rfl,z5H (by simp) hL⟩
end Go.Proofs.YtahdjphocippeaaGreatDoor
