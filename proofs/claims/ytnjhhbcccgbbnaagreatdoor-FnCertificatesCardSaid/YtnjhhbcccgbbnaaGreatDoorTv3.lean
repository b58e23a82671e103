/-
  Rules of walks, plain functions and their laws, part 3.
  Conditions: none.
-/
import Derived.Great.BuildSlice
import Derived.DataReads
import Derived.OpenShut
import Derived.Test.YtnjhhbcccgbbnaaGreatDoorTv2
set_option linter.unusedSimpArgs false
set_option linter.unusedVariables false
namespace Go.Proofs.YtnjhhbcccgbbnaaGreatDoor
theorem zW3{a b c e hB hC:Int}{mm:Int×Int×Int×Int}{b0 k1:Int}(ha:1≤a)(ha2:a≤26)(he:1≤e)(he2:e≤10000)(hb0:0≤b0)(hb02:b0<2*a)(hB0:0≤hB)(hB2:hB<2*e)(hk1:k1<e)(hd:2*e∣b0+2*a*k1 - hB):∀(n:Nat)(k:Int),0≤k→k≤k1→(k1 - k).toNat<n→
  ∃k2,zE9 (a,b,c) ((e,hB,hC),mm) n (b0+2*a*k)=some (b0+2*a*k2)∧k≤k2∧k2≤k1∧2*e∣b0+2*a*k2 - hB
 |0,k,h0,h1,hn=>by omega
 |n+1,k,h0,h1,hn=>by
  have m1:(2*a*k).natAbs≤2*26*10000:=zN (zN (by omega) (by omega)) (by omega);rw[zE9];simp only[];rw[zB (n:=b0+2*a*k - hB) (by omega),zB (n:=2*e) (by omega),zBz (by omega) (by omega)];simp only[Option.bind_some];by_cases hz:(b0+2*a*k - hB) % (2*e)=0
  ·rw[hz,zBy];exact⟨k,rfl,Int.le_refl _,h1,Int.dvd_of_emod_eq_zero hz⟩
  ·rw[zDm hz];simp only[zf,za,zO];have hne:k≠k1:=by
    intro e;rw[e]at hz;exact hz (Int.emod_eq_zero_of_dvd hd)
   have e1:b0+2*a*k+2*a=b0+2*a*(k+1):=by rw[Int.mul_add];omega
   rw[zB (n:=2*a) (by omega),zB (n:=b0+2*a*k+2*a) (by omega),e1];obtain⟨k2,j1,j2,j3,j4⟩:=zW3 ha ha2 he he2 hb0 hb02 hB0 hB2 hk1 hd n (k+1) (by omega) (by omega) (by omega);exact⟨k2,j1,by omega,j3,j4⟩
theorem z7I:∀(a b:Nat),∃x y:Int,x*a+y*b=(Nat.gcd a b:Int):=by
 intro a b
 induction a,b using Nat.gcd.induction with
 |H0 n=>exact⟨0,1,by simp⟩
 |H1 m n hm ih=>
  obtain⟨x,y,h⟩:=ih;refine⟨y - x*(n / m:Nat),x,?_⟩;rw[Nat.gcd_rec,←h];have e:(n:Int)=(n % m:Nat)+m*(n / m:Nat):=by exact_mod_cast (Nat.mod_add_div n m).symm
  rw[e];grind
theorem zSq(a b:Int):∃x y:Int,x*a+y*b=(Int.gcd a b:Int):=by
 obtain⟨x,y,h⟩:=z7I a.natAbs b.natAbs;have sg:∀z:Int,∃t:Int,(z.natAbs:Int)=t*z:=by
  intro z;rcases Int.le_total 0 z with h|h
  ·exact⟨1,by omega⟩
  ·exact⟨-1,by omega⟩
 obtain⟨s,hs⟩:=sg a;obtain⟨t,ht⟩:=sg b;refine⟨x*s,y*t,?_⟩;rw[hs,ht]at h;rw[show Int.gcd a b=Nat.gcd a.natAbs b.natAbs from rfl,←h];grind
theorem z5E{a e v x:Int}(hi:e∣1 - v*a)(h:e∣a*x):e∣x:=by obtain⟨i,hi⟩:=hi;obtain⟨j,hj⟩:=h;exact⟨i*x+v*j,by grind⟩
theorem z2q{e x:Int}(h:e∣x)(h1:-e<x)(h2:x<e):x=0:=by
 have h3:e.natAbs∣x.natAbs:=Int.natAbs_dvd_natAbs.2 h;rcases Nat.eq_zero_or_pos x.natAbs with h4|h4
 ·omega
 ·have:=Nat.le_of_dvd h4 h3;omega
structure Uni (a b c A B C D x y q s e hB hC b1 c1 α β:Int):Prop where
  mh:MatInv A B C x q y s e hB hC
  e1:1≤e
  e2:e≤10000
  t:∃u v:Int,u*a+v*e=1
  bα:b1=b+2*a*α
  bβ:b1=hB+2*e*β
  b0:0≤b1
  b2:b1<2*a*e
  dis:b1*b1 - 4*a*e*c1=D
  qb:q.natAbs≤100000
  sb:s.natAbs≤100000
  xy:0≤x∧x≤3∧0≤y∧y≤3
theorem uni_c{a b c D e hB hC b1 α β:Int}(hd:b*b - 4*a*c=D)(hh:hB*hB - 4*e*hC=D){u v:Int}(huv:u*a+v*e=1)(bα:b1=b+2*a*α)(bβ:b1=hB+2*e*β):b1*b1 - 4*a*e*(u*(hC+hB*β+e*β*β)+v*(c+b*α+a*α*α))=D:=by
 have f1:b1*b1 - D=4*a*(c+b*α+a*α*α):=by rw[bα,←hd];grind
 have f2:b1*b1 - D=4*e*(hC+hB*β+e*β*β):=by rw[bβ,←hh];grind
 generalize hC+hB*β+e*β*β=X at*;generalize c+b*α+a*α*α=Y at*;have f3:(b1*b1 - D)*1=4*a*e*(u*X+v*Y):=by
  rw[←huv];have:(b1*b1 - D)*(u*a+v*e)=u*a*(b1*b1 - D)+v*e*(b1*b1 - D):=by grind
  rw[this];rw[show u*a*(b1*b1 - D)=u*a*(4*e*X) by rw[f2],show v*e*(b1*b1 - D)=v*e*(4*a*Y) by rw[f1]];grind
 omega
theorem z0W{a e b1 c1 D:Int}(ha:1≤a)(he:1≤e)(b0:0≤b1)(b2:b1<2*a*e)(hD1:-2000≤D)(hD2:D<0)(dis:b1*b1 - 4*a*e*c1=D):1≤c1∧c1≤a*e+500:=by
 have hae:1*1≤a*e:=Int.mul_le_mul ha he (by omega) (by omega);have e1:2*a*e=2*(a*e):=zw ..;have e2:4*a*e*c1=4*(a*e*c1):=by grind
 generalize a*e=m at*;have hbb:0≤b1*b1:=Int.mul_nonneg b0 b0;have hbb2:b1*b1≤2*m*(2*m):=Int.mul_le_mul (by omega) (by omega) b0 (by omega);have e3:2*m*(2*m)=4*(m*m):=by grind
 constructor
 ·rcases Int.lt_or_le 0 c1 with h|h
  ·exact h
  ·have:m*c1≤m*0:=zn h (by omega);omega
 ·rcases Int.lt_or_le (m+500) c1 with h|h
  ·have k1:m*(m+501)≤m*c1:=zn (by omega) (by omega);have k2:m*(m+501)=m*m+501*m:=by grind
   omega
  ·exact h
end Go.Proofs.YtnjhhbcccgbbnaaGreatDoor
namespace Go.Proofs.YtnjhhbcccgbbnaaGreatDoor
theorem z4N{b h D m n:Int}(h1:b*b - 4*m=D)(h2:h*h - 4*n=D):b % 2=h % 2:=by
 have k:∀z:Int,(z*z) % 2=z % 2:=by
  intro z;obtain⟨t,ht|ht⟩:∃t,z=2*t∨z=2*t+1:=⟨z / 2,by omega⟩
  ·rw[ht,show 2*t*(2*t)=2*(2*t*t) by grind];omega
  ·rw[ht,show (2*t+1)*(2*t+1)=2*(2*t*t+2*t)+1 by grind];omega
 have:=k b;have:=k h;omega
theorem z3N{a e b0 hB:Int}(he:1≤e)(hg:Int.gcd a e=1)(hp:b0 % 2=hB % 2):∃k1 v1,0≤k1∧k1<e∧2*e∣b0+2*a*k1 - hB∧e∣1 - v1*a:=by
 obtain⟨v1,w1,h1⟩:=zSq a e;rw[hg]at h1;obtain⟨H,hH⟩:∃H,hB - b0=2*H:=⟨(hB - b0) / 2,by omega⟩
 have k0:=zy (H*v1) (b:=e) (by omega);have k2:=zz (H*v1) (b:=e) (by omega);have k3:=Int.emod_add_mul_ediv (H*v1) e;refine⟨H*v1 % e,v1,k0,k2,?_,⟨w1,by have:e*w1=w1*e:=Int.mul_comm ..;omega⟩⟩;refine⟨-(H*w1) - a*(H*v1 / e),?_⟩;have e1:H*v1 % e=H*v1 - e*(H*v1 / e):=by omega
 generalize H*v1 / e=W at*;have e2:v1*a=1 - w1*e:=by omega
 have e3:∀k,b0+2*a*k - hB=2*(a*k - H):=by intro k;have:2*a*k=2*(a*k):=zw ..;omega
 rw[e3,e1];have e4:a*(H*v1 - e*W) - H=H*(v1*a) - H - a*e*W:=by grind
 rw[e4,e2];grind
theorem zUa{a e b0 hB k k1 v1:Int}(k0:0≤k)(k2:k<e)(k3:0≤k1)(k4:k1<e)(h1:2*e∣b0+2*a*k1 - hB)(h2:2*e∣b0+2*a*k - hB)(h3:e∣1 - v1*a):k=k1:=by
 have d1:2*e∣2*(a*(k1 - k)):=by
  obtain⟨i,hi⟩:=h1;obtain⟨j,hj⟩:=h2;refine⟨i - j,?_⟩;have e1:2*(a*(k1 - k))=2*a*k1 - 2*a*k:=by grind
  have e2:2*e*(i - j)=2*e*i - 2*e*j:=Int.mul_sub ..;rw[e1,e2];omega
 have d2:e∣a*(k1 - k):=by obtain⟨i,hi⟩:=d1;exact⟨i,by have:2*e*i=2*(e*i):=zw ..;omega⟩
 have:=z2q (z5E h3 d2) (by omega) (by omega);omega
theorem z1A{a e b0 hB:Int}(ha:1≤a)(ha2:a≤26)(he:1≤e)(he2:e≤10000)(hg:Int.gcd a e=1)(hb0:0≤b0)(hb02:b0<2*a)(hB0:0≤hB)(hB2:hB<2*e)(hp:b0 % 2=hB % 2):
  ∃k1 z v1,zDi b0 (2*a) hB (2*e)=some (b0+2*a*k1,z,true)∧0≤k1∧k1<e∧2*e∣b0+2*a*k1 - hB∧e∣1 - v1*a:=by
 have hc:∀c:Int,c∣e→c∣a→c∣1:=by intro c h1 h2;have:=Int.dvd_coe_gcd h2 h1;rw[hg]at this;exact this
 obtain⟨v1,j1,j2,j3,j4⟩:=z6h (n:=e) (m:=a) he (by omega) (by omega) hc;obtain⟨H,hH⟩:∃H,hB - b0=2*H:=⟨(hB - b0) / 2,by omega⟩
 have k0:=zy (H*v1) (b:=e) (by omega);have k2:=zz (H*v1) (b:=e) (by omega);have k3:=Int.emod_add_mul_ediv (H*v1) e;have m1:(H*v1).natAbs≤10000*10000:=zN (by omega) (by omega);generalize hk:H*v1 % e=k1 at*;have m2:(2*a*k1).natAbs≤2*26*10000:=zN (zN (by omega) (by omega)) (by omega);have hdiv:2*e∣b0+2*a*k1 - hB:=by
  obtain⟨w,hw⟩:=j2;refine⟨-(H*w) - a*(H*v1 / e),?_⟩;have e1:k1=H*v1 - e*(H*v1 / e):=by omega
  generalize H*v1 / e=W at*;have e2:v1*a=1 - e*w:=by omega
  have e3:b0+2*a*k1 - hB=2*(a*k1 - H):=by have:2*a*k1=2*(a*k1):=zw ..;omega
  rw[e3,e1];have e4:a*(H*v1 - e*W) - H=H*(v1*a) - H - a*e*W:=by grind
  rw[e4,e2];grind
 have hak:2*a*k1≤2*a*(e - 1):=zn (by omega) (by omega);have hak0:0≤2*a*k1:=Int.mul_nonneg (by omega) k0;have hae:(a*(2*e)).natAbs≤26*20000:=zN (by omega) (by omega);have hae1:2*a*(e - 1)=a*(2*e) - 2*a:=by grind
 have hae2:1*2≤a*(2*e):=Int.mul_le_mul ha (by omega) (by omega) (by omega);have hgg:Int.gcd (2*a) (2*e)=2:=by rw[Int.gcd_mul_left,hg];rfl
 refine⟨k1,a*(2*e),v1,?_,k0,k2,hdiv,j2⟩;unfold zDi;rw[zJo (by omega) (by omega),hgg];simp only[Option.bind_some];rw[show ((2:Nat):Int)=2 from rfl,zFP (show (2:Int)≠0 by decide),zB (n:=hB - b0) (by omega),tz (by decide),zb (show (2:Int)∣hB - b0 from⟨H,hH⟩)];simp only[Option.bind_some,Bool.not_true,cond_false];rw[tdv (a:=2*a) (c:=a) (by decide) rfl,tdv (a:=2*e) (c:=e) (by decide) rfl,zB (n:=a) (by omega),zB (n:=e) (by omega),j1];simp only[Option.bind_some];rw[tdv (a:=hB - b0) (c:=H) (by decide) hH.symm,zB (n:=H) (by omega),zB (n:=H*v1) (by omega),zHt,zBz he (by omega),hk];simp only[Option.bind_some,zO];rw[zB (n:=a*(2*e)) (by omega),zB (n:=2*a*k1) (by omega),zB (n:=b0+2*a*k1) (by omega),zHt,zBz (by omega) (by omega),Int.emod_eq_of_lt (by omega) (by omega)];rfl
def PrRc(D:Int)(f:Int×Int×Int):Prop:=1≤f.1∧zC2 f.1 f.2.1 f.2.2∧f.2.1*f.2.1 - 4*f.1*f.2.2=D∧∀k:Int,k∣f.1→k∣f.2.1→k∣f.2.2→k∣1
theorem zOI{D:Int}{f:Int×Int×Int}(hD1:-2000≤D)(h:PrRc D f):Rb f.1 f.2.1 f.2.2∧f.1≤25:=by
 obtain⟨h1,h2,h3,h4⟩:=h;obtain⟨⟨i1,i2⟩,i3⟩:=h2;have hbb:f.2.1*f.2.1≤f.1*f.1:=by
  rcases Int.le_total 0 f.2.1 with h4|h4
  ·exact Int.mul_le_mul i2 i2 h4 (by omega)
  ·have:(-f.2.1)*(-f.2.1)≤f.1*f.1:=Int.mul_le_mul (by omega) (by omega) (by omega) (by omega);have e:(-f.2.1)*(-f.2.1)=f.2.1*f.2.1:=by grind
   omega
 have h7:4*f.1*f.1≤4*f.1*f.2.2:=zn (by omega) (by omega);have e1:4*f.1*f.1=4*(f.1*f.1):=zw ..;have ha:f.1≤25:=by
  rcases Int.lt_or_le 25 f.1 with h8|h8
  ·have:26*26≤f.1*f.1:=Int.mul_le_mul (by omega) (by omega) (by omega) (by omega);omega
  ·exact h8
 have haa:f.1*f.1≤25*25:=Int.mul_le_mul ha ha (by omega) (by omega);have h9:4*1*f.2.2≤4*f.1*f.2.2:=Int.mul_le_mul_of_nonneg_right (by omega) (by omega);exact⟨⟨h1,by omega,by omega,by omega,by omega,by omega⟩,ha⟩
theorem z0T{D a b c A B C x y q s e hB hC b0 b1 z cc α β:Int}(ha:1≤a)(ra:a≤25)(rb:b.natAbs≤26)(hv1:1≤e)(v2:e≤10000)(hD1:-2000≤D)(hD2:D<0)(f3:b*b - 4*a*c=D)(p2:zD2 (A,B,C) a=some (x,y))(c2:zB6 (A,B,C) x y=some ((e,hB,hC),(x,q,y,s)))(hb0:b % (2*a)=b0)(k2:zDi b0 (2*a) hB (2*e)=some (b1,z,true))(eα:2*a*α=b1 - b)(eβ:2*e*β=b1 - hB)(hB0:hB.natAbs≤30000)(hb1:b1.natAbs≤520000)(hbb:(b1*b1).natAbs≤270400000000)(e5:4*a*e*cc=b1*b1 - D)(hbα:α.natAbs≤1000000)(hbβ:β.natAbs≤1000000)(hcc:cc.natAbs≤300000)(h4:1≤4*a*e)(h42:4*a*e≤1040000){f0 g0:Int×Int×Int}{mf mg:Int×Int×Int×Int}(h1:qM f0=some ((a,b,c),mf))(h2:qM g0=some ((A,B,C),mg)):zCe f0 g0=(zZ mg (x,q,y,s)).bind fun N1=>(zZ mf (1,α,0,1)).bind fun M=>(zZ N1 (1,β,0,1)).bind fun N=>some ((a,b1,e*cc),(e,b1,a*cc),M,N):=by
 unfold zCe;rw[h1,Option.bind_some,h2,Option.bind_some];simp only[];rw[p2,Option.bind_some];simp only[];rw[c2,Option.bind_some];simp only[];cases hN1:zZ mg (x,q,y,s) with
 |none=>rfl
 |some N1=>
  simp only[Option.bind_some];have m3:(e*cc).natAbs≤10000*300000:=zN (by omega) (by omega);have m4:(a*cc).natAbs≤26*300000:=zN (by omega) (by omega);rw[zB (n:=2*a) (by omega),zHt,zBz (by omega) (by omega),hb0,Option.bind_some,zB (n:=2*e) (by omega),k2,Option.bind_some,zFP (show 2*a≠0 by omega),Option.bind_some];simp only[zEu,Option.bind_some];rw[zB (n:=b1 - b) (by omega),tdv (b:=2*a) (by omega) eα,zB (n:=α) (by omega)];cases hM:zZ mf (1,α,0,1) with
  |none=>rfl
  |some M=>
   simp only[Option.bind_some];rw[zFP (show 2*e≠0 by omega),Option.bind_some,zB (n:=b1 - hB) (by omega),tdv (b:=2*e) (by omega) eβ,zB (n:=β) (by omega)];cases hN:zZ N1 (1,β,0,1) with
   |none=>rfl
   |some N=>simp only[Option.bind_some,zO];rw[zGL,zU5,f3,zB (n:=D) (by omega),Option.bind_some,zB (n:=4*a) (by omega),zB (n:=4*a*e) (by omega),zFP (show 4*a*e≠0 by omega),Option.bind_some,zB (n:=b1*b1) (by omega),zB (n:=b1*b1 - D) (by omega),tdv (b:=4*a*e) (by omega) e5,zB (n:=cc) (by omega),zB (n:=a*cc) (by omega),zB (n:=e*cc) (by omega)]
theorem z0U{D:Int}{a b c A B C:Int}(hD1:-2000≤D)(hD2:D<0)(hf:PrRc D (a,b,c))(hg:PrRc D (A,B,C)):
  ∃x y q s e hB hC b1 c1 α β,Uni a b c A B C D x y q s e hB hC b1 c1 α β∧zDr (a,b,c) (A,B,C)=(zF (x,q,y,s) (1,β,0,1)).bind (fun N=>some (a,e,b1,c1,(1,α,0,1),N))∧zD2 (A,B,C) a=some (x,y)∧zB6 (A,B,C) x y=some ((e,hB,hC),(x,q,y,s))∧(0≤hB∧hB<2*e∧hB.natAbs≤30000)∧α.natAbs≤1000000∧β.natAbs≤1000000∧Int.gcd a e=1:=by
 have hF:=FUge;obtain⟨rf,ra⟩:=zOI hD1 hf;obtain⟨rg,rA⟩:=zOI hD1 hg;obtain⟨f1,f2,f3,f4⟩:=hf;obtain⟨g1,g2,g3,g4⟩:=hg;simp only[]at rf ra rg rA f1 f2 f3 f4 g1 g2 g3 g4;obtain⟨⟨x,y⟩,p1,p2,p3,p4⟩:=z0d rg f1 ra g4;simp only[]at p3 p4;have hxy:x≠0∨y≠0:=by simp only[ptL,zj,Prod.mk.injEq,zo,or_false]at p3;omega
 obtain⟨⟨u1,u2⟩,u3⟩:=g2;have hv1:1≤Vl A B C x y:=by have:=uq_a g1 (show -A≤B by omega) u2 (show A≤C by omega) hxy;unfold Vl;omega
 obtain⟨q,s,hB,hC,c1,c2,em,t1,t2,v2,qb,sb,x1,x2,y1,y2⟩:=zWD rg g3 hD1 (by omega) p3 rfl hv1;generalize he:Vl A B C x y=e at*;have hh:hB*hB - 4*e*hC=D:=by rw[zSo em,g3]
 have b0a:=zy b (b:=2*a) (by omega);have b0b:=zz b (b:=2*a) (by omega);have b0c:=Int.emod_add_mul_ediv b (2*a);have hpar:=z4N (b:=b) (h:=hB) (D:=D) (m:=a*c) (n:=e*hC) (by rw[←f3];grind) (by rw[←hh];grind);generalize hb0:b % (2*a)=b0 at*;have hpar0:b0 % 2=hB % 2:=by have:2*a*(b / (2*a))=2*(a*(b / (2*a))):=zw ..;omega
 have hga:Int.gcd a e=1:=by rw[Int.gcd_comm];exact p4
 obtain⟨k1,v1,k3,k4,k5,k6⟩:=z3N (a:=a) (e:=e) hv1 hga hpar0;obtain⟨k,l1,l2,l3,l4⟩:=zW3 (c:=c) (b:=b) (hC:=hC) (mm:=(x,q,y,s)) f1 (by omega) hv1 v2 b0a b0b t1 t2 k4 k5 FU 0 (by omega) k3 (by omega);have hk:k=k1:=zUa l2 (by omega) k3 k4 k5 l4 k6;subst hk;generalize hb1:b0+2*a*k=b1 at*;obtain⟨β,hβ⟩:=k5;have hα:b1=b+2*a*(k - b / (2*a)):=by rw[Int.mul_sub];omega
 generalize k - b / (2*a)=α at*;have hβ':b1=hB+2*e*β:=by omega
 have hak:2*a*k≤2*a*(e - 1):=zn (by omega) (by omega);have hak0:0≤2*a*k:=Int.mul_nonneg (by omega) k3;have hae:(2*a*e).natAbs≤2*26*10000:=zN (zN (by omega) (by omega)) (by omega);have hae1:2*a*(e - 1)=2*a*e - 2*a:=by grind
 have b1lt:b1<2*a*e:=by omega
 have b1ge:0≤b1:=by omega
 obtain⟨w,hw⟩:=k6;have huv:v1*a+w*e=1:=by have:w*e=e*w:=Int.mul_comm ..;omega
 have dis:=uni_c (b1:=b1) f3 hh huv hα hβ';generalize hc1:v1*(hC+hB*β+e*β*β)+w*(c+b*α+a*α*α)=cc at*;obtain⟨cc1,cc2⟩:=z0W f1 hv1 b1ge b1lt hD1 hD2 dis;have hm1:a*e≤25*10000:=Int.mul_le_mul ra v2 (by omega) (by omega);have hm0:1*1≤a*e:=Int.mul_le_mul f1 hv1 (by omega) (by omega);have hbb:b1*b1≤520000*520000:=Int.mul_le_mul (by omega) (by omega) b1ge (by omega);have hbb0:0≤b1*b1:=Int.mul_nonneg b1ge b1ge;have hbα:α.natAbs≤1000000:=by
  rcases Int.lt_or_le 1000000 α with h|h
  ·have:2*a*1000001≤2*a*α:=zn (by omega) (by omega);have:=rf.b1;omega
  ·rcases Int.lt_or_le α (-1000000) with h'|h'
   ·have:2*a*α≤2*a*(-1000001):=zn (by omega) (by omega);have:=rf.b2;omega
   ·omega
 have hbβ:β.natAbs≤1000000:=by
  rcases Int.lt_or_le 1000000 β with h|h
  ·have:2*e*1000001≤2*e*β:=zn (by omega) (by omega);omega
  ·rcases Int.lt_or_le β (-1000000) with h'|h'
   ·have:2*e*β≤2*e*(-1000001):=zn (by omega) (by omega);omega
   ·omega
 have e4:4*a*e=2*(2*a*e):=by grind
 have e5:4*a*e*cc=b1*b1 - D:=by omega
 have eα:2*a*α=b1 - b:=by omega
 have eβ:2*e*β=b1 - hB:=by omega
 have rb1:=rf.b1;have rb2:=rf.b2;refine⟨x,y,q,s,e,hB,hC,b1,cc,α,β,⟨em,hv1,v2,⟨v1,w,huv⟩,hα,hβ',b1ge,b1lt,dis,qb,sb,x1,x2,y1,y2⟩,?_,p2,c2,⟨t1,t2,by omega⟩,hbα,hbβ,hga⟩
 ·unfold zDr;simp only[];rw[p1,Option.bind_some];simp only[];rw[c1,Option.bind_some];simp only[];rw[zB (n:=2*a) (by omega),zBz (by omega) (by omega),hb0,Option.bind_some];rw[show b0=b0+2*a*0 by omega,l1,Option.bind_some,zB (n:=2*a*e) (by omega),zBz (by omega) (by omega),Int.emod_eq_of_lt b1ge b1lt,Option.bind_some,zU5,f3,zB (n:=D) (by omega),Option.bind_some,zB (n:=4*a) (by omega),zB (n:=4*a*e) (by omega),zFP (show 4*a*e≠0 by omega),Option.bind_some,zB (n:=b1*b1) (by omega),zB (n:=b1*b1 - D) (by omega),tdv (b:=4*a*e) (by omega) e5,zFP (show 2*a≠0 by omega)];simp only[zO,Option.bind_some];rw[zB (n:=cc) (by omega),zB (n:=b1 - b) (by omega),tdv (b:=2*a) (by omega) eα,zB (n:=α) (by omega),zB (n:=2*e) (by omega),zFP (show 2*e≠0 by omega),Option.bind_some,zB (n:=b1 - hB) (by omega),tdv (b:=2*e) (by omega) eβ,zB (n:=β) (by omega)]
theorem z0V{D:Int}{a b c A B C:Int}(hD1:-2000≤D)(hD2:D<0)(hf:PrRc D (a,b,c))(hg:PrRc D (A,B,C)):
  ∃x y q s e hB hC b1 c1 α β,Uni a b c A B C D x y q s e hB hC b1 c1 α β∧zDr (a,b,c) (A,B,C)=(zF (x,q,y,s) (1,β,0,1)).bind (fun N=>some (a,e,b1,c1,(1,α,0,1),N))∧
   ∀f0 g0 mf mg,qM f0=some ((a,b,c),mf)→qM g0=some ((A,B,C),mg)→zCe f0 g0=(zZ mg (x,q,y,s)).bind fun N1=>(zZ mf (1,α,0,1)).bind fun M=>(zZ N1 (1,β,0,1)).bind fun N=>some ((a,b1,e*c1),(e,b1,a*c1),M,N):=by
 obtain⟨rf,ra⟩:=zOI hD1 hf;have f1:1≤a:=hf.1;have f3:b*b - 4*a*c=D:=hf.2.2.1;have g3:B*B - 4*A*C=D:=hg.2.2.1;simp only[]at rf ra;obtain⟨x,y,q,s,e,hB,hC,b1,c1,α,β,u,k1,p2,c2,⟨hB1,hB2,n1⟩,n2,n3,hga⟩:=z0U hD1 hD2 hf hg;have ku:=u;obtain⟨mh,e1,e2,⟨m,n,hmn⟩,bα,bβ,b0,b2,dis,qb,sb,xy⟩:=u;have hh:hB*hB - 4*e*hC=D:=by rw[zSo mh,g3]
 have t1:=zy b (b:=2*a) (by omega);have t2:=zz b (b:=2*a) (by omega);have t3:=Int.emod_add_mul_ediv b (2*a);have hpar:=z4N (b:=b) (h:=hB) (D:=D) (m:=a*c) (n:=e*hC) (by rw[←f3];grind) (by rw[←hh];grind);generalize hb0:b % (2*a)=r at*;have hpar0:r % 2=hB % 2:=by have:2*a*(b / (2*a))=2*(a*(b / (2*a))):=zw ..;omega
 obtain⟨k,z,v1,j2,j3,j4,j5,j6⟩:=z1A (a:=a) (e:=e) f1 (by omega) e1 e2 hga t1 t2 hB1 hB2 hpar0;have hb1:r+2*a*k=b1:=by
  have e5:b1=r+2*a*(α+b / (2*a)):=by rw[Int.mul_add];omega
  have hlo:0≤α+b / (2*a):=by
   rcases Int.lt_or_le (α+b / (2*a)) 0 with h|h
   ·have:2*a*(α+b / (2*a))≤2*a*(-1):=zn (by omega) (by omega);omega
   ·exact h
  have hhi:α+b / (2*a)<e:=by
   rcases Int.lt_or_le (α+b / (2*a)) e with h|h
   ·exact h
   ·have:2*a*e≤2*a*(α+b / (2*a)):=zn h (by omega);omega
  have:=zUa (a:=a) (e:=e) (b0:=r) (hB:=hB) j3 j4 hlo hhi ⟨β,by omega⟩ j5 j6;rw[e5,this]
 rw[hb1]at j2;obtain⟨cc1,cc2⟩:=z0W f1 e1 b0 b2 hD1 hD2 dis;have hae:a*e≤25*10000:=Int.mul_le_mul ra e2 (by omega) (by omega);have hae0:1*1≤a*e:=Int.mul_le_mul f1 e1 (by omega) (by omega);have hae2:2*a*e=2*(a*e):=zw ..;have hae4:4*a*e=4*(a*e):=zw ..;have hbb:b1*b1≤520000*520000:=Int.mul_le_mul (by omega) (by omega) b0 (by omega);have hbb0:0≤b1*b1:=Int.mul_nonneg b0 b0;have rb1:=rf.b1;have rb2:=rf.b2;refine⟨x,y,q,s,e,hB,hC,b1,c1,α,β,ku,k1,fun f0 g0 mf mg h1 h2=>?_⟩;exact z0T f1 ra (by omega) e1 e2 hD1 hD2 f3 p2 c2 hb0 j2 (by omega) (by omega) n1 (by omega) (by omega) (by omega) n2 n3 (by omega) (by omega) (by omega) h1 h2
end Go.Proofs.YtnjhhbcccgbbnaaGreatDoor
namespace Go.Proofs.YtnjhhbcccgbbnaaGreatDoor
abbrev F3:=Int×Int×Int
def CF(D:Int)(f:F3):Prop:=RedInv f.1 f.2.1 f.2.2 D 1∧f.2.2≤1000000
theorem z0A{f:F3}(h:qD f=some true):CF (f.2.1*f.2.1 - 4*f.1*f.2.2) f:=by have h1:=zXu (a:=f.1) (b:=f.2.1) (c:=f.2.2) h;obtain⟨_,_,hc,_⟩:=zD7 (a:=f.1) (b:=f.2.1) (c:=f.2.2) h;exact⟨h1,(qO.1 hc).2⟩
theorem zHs{D:Int}{f:F3}(h:PrRc D f):0<f.1:=by have:=h.1;omega
theorem zZZ{D:Int}{f:F3}(h:PrRc D f):fD f=D:=h.2.2.1
theorem z2S{a b c d:Int}(h:RedInv a b c d 1)(k:Int)(h1:k∣a)(h2:k∣b)(h3:k∣c):k∣1:=(h.con k).1 ⟨h1,h2,h3⟩
theorem zTv{D:Int}{f:F3}(h:CF D f):∃g m1 m2 m3 m4,zQ f=some (g,(m1,m2,m3,m4))∧qM f=some (g,(m1,m2,m3,m4))∧PrRc D g∧Eqf g f∧MatInv f.1 f.2.1 f.2.2 m1 m2 m3 m4 g.1 g.2.1 g.2.2∧m1.natAbs≤2000∧m2.natAbs≤2000∧m3.natAbs≤2000∧m4.natAbs≤2000∧CF D g:=by
 obtain⟨a,b,c⟩:=f;obtain⟨h1,h2⟩:=h;have hd:=h1.dis;simp only[]at h1 h2 hd;have h1':RedInv a b c (b*b - 4*a*c) 1:=by rw[hd];exact h1
 obtain⟨m1,m2,m3,m4,a2,b2,c2,k1,k2,k3,k4,k5,k6,k7,k8,k9⟩:=z4G h1' h2;rw[hd]at k3;have hp:PrRc D (a2,b2,c2):=⟨k3.a1,k4,k3.dis,z2S k3⟩
 have e:=k5;obtain⟨e1,e2,e3,e4⟩:=e;refine⟨(a2,b2,c2),m1,m2,m3,m4,k1,k2,hp,⟨m1,m2,m3,m4,e4,?_,?_,?_⟩,k5,k6,k7,k8,k9,k3,?_⟩
 ·exact e1.symm
 ·exact e2.symm
 ·exact e3.symm
 ·show c2≤1000000;have h3:=k3.nrm;obtain⟨⟨g1,g2⟩,g3⟩:=k4;have h4:=k3.cM;rcases h3 with h3|h3
  ·have q1:=k3.aM;have q2:=k3.a1
   -- a reduced form's last coefficient
   rcases Int.lt_or_le 1000000 c2 with h5|h5
   ·exfalso
    have n1:a2*a2≤a2*c2:=zn (by omega) (by omega);have hbb:b2*b2≤a2*a2:=by
     rcases Int.le_total 0 b2 with h4|h4
     ·exact Int.mul_le_mul g2 g2 h4 (by omega)
     ·have:(-b2)*(-b2)≤a2*a2:=Int.mul_le_mul (by omega) (by omega) (by omega) (by omega);have e:(-b2)*(-b2)=b2*b2:=by grind
      omega
    have hdd:=k3.dis;have e9:4*a2*c2=4*(a2*c2):=zw ..;have hneg:=k3.neg
    -- the value at the original form's last coefficient is at least c2 or the form is not moved
    have hv:c=a2*(-m2)*(-m2)+b2*(-m2)*m1+c2*m1*m1:=by rw[←e1,←e2,←e3];grind
    have hv2:a=a2*m4*m4+b2*m4*(-m3)+c2*(-m3)*(-m3):=by rw[←e1,←e2,←e3];grind
    have ha2:=h1.aM;by_cases hm:m1=0
    ·have hm3:m3≠0:=by
      intro h0;rw[hm,h0]at e4;simp at e4
     have:=uq_c (x:=m4) q2 (by omega) g2 (show a2≤c2 by omega) (show (-m3)≠0 by omega);omega
    ·have:=uq_c (x:=-m2) q2 (by omega) g2 (show a2≤c2 by omega) hm;omega
   ·exact h5
  ·exact h3
theorem zQn{D:Int}{f g:F3}(hf:0<f.1)(hD:fD f=D)(h:Eqf g f)(hg:0<g.1):Cl D (fL g) (fL f):=by have:=z3P hg hf h;rw[hD]at this;exact this
theorem z4K{D:Int}{f g:F3}(hD:D<0)(hf:PrRc D f)(hg:PrRc D g)(h:Cl D (fL f) (fL g)):f=g:=by
 have d1:=zZZ hf;have d2:=zZZ hg;have h':Cl (fD g) (fL f) (fL g):=by rw[d2];exact h
 obtain⟨p,q,r,s,hdet,e1,e2,e3⟩:=z3G (zHs hf) (zHs hg) (by rw[d2];exact hD) (by rw[d1,d2]) h';obtain⟨k1,k2,k3⟩:=z4E hg.1 hg.2.1 hf.1 hf.2.1 hdet e1 e2 e3;exact Prod.ext k1.symm (Prod.ext k2.symm k3.symm)
theorem bez3{a b c:Int}(h:∀k:Int,k∣a→k∣b→k∣c→k∣1):∃x y z:Int,x*a+y*b+z*c=1:=by
 obtain⟨x,y,h1⟩:=zSq a b;obtain⟨u,v,h2⟩:=zSq (Int.gcd a b) c;have h3:((Int.gcd (Int.gcd a b) c:Nat):Int)∣1:=by
  refine h _ ?_ ?_ ?_
  ·exact Int.dvd_trans (Int.gcd_dvd_left _ _) (Int.gcd_dvd_left _ _)
  ·exact Int.dvd_trans (Int.gcd_dvd_left _ _) (Int.gcd_dvd_right _ _)
  ·exact Int.gcd_dvd_right _ _
 have h4:((Int.gcd (Int.gcd a b) c:Nat):Int)=1:=Int.eq_one_of_dvd_one (by omega) h3;refine⟨u*x,u*y,v,?_⟩;rw[←h4,←h2,←h1];grind
theorem zZY{f g:F3}(h:Eqf f g)(hg:∀k:Int,k∣g.1→k∣g.2.1→k∣g.2.2→k∣1)(k:Int)(h1:k∣f.1)(h2:k∣f.2.1)(h3:k∣f.2.2):k∣1:=by
 obtain⟨p,q,r,s,hdet,e1,e2,e3⟩:=h;obtain⟨x,hx⟩:=h1;obtain⟨y,hy⟩:=h2;obtain⟨z,hz⟩:=h3;have back:∀A B C:Int,(A*p*p+B*p*r+C*r*r)*s*s - (2*A*p*q+B*(p*s+q*r)+2*C*r*s)*s*r+(A*q*q+B*q*s+C*s*s)*r*r=A*((p*s - q*r)*(p*s - q*r)):=by intro A B C;grind
 have back2:∀A B C:Int,(A*p*p+B*p*r+C*r*r)*q*q - (2*A*p*q+B*(p*s+q*r)+2*C*r*s)*p*q+(A*q*q+B*q*s+C*s*s)*p*p=C*((p*s - q*r)*(p*s - q*r)):=by intro A B C;grind
 have back3:∀A B C:Int,(2*A*p*q+B*(p*s+q*r)+2*C*r*s)*(p*s+q*r) - 2*(A*p*p+B*p*r+C*r*r)*q*s - 2*(A*q*q+B*q*s+C*s*s)*p*r=B*((p*s - q*r)*(p*s - q*r)):=by intro A B C;grind
 have b1:=back g.1 g.2.1 g.2.2;have b2:=back2 g.1 g.2.1 g.2.2;have b3:=back3 g.1 g.2.1 g.2.2;rw[←e1,←e2,←e3,hdet,hx,hy,hz]at b1 b2 b3;refine hg k ⟨x*s*s - y*s*r+z*r*r,?_⟩ ⟨y*(p*s+q*r) - 2*x*q*s - 2*z*p*r,?_⟩ ⟨x*q*q - y*p*q+z*p*p,?_⟩
 ·have:k*x*s*s - k*y*s*r+k*z*r*r=k*(x*s*s - y*s*r+z*r*r):=by grind
  omega
 ·have:k*y*(p*s+q*r) - 2*(k*x)*q*s - 2*(k*z)*p*r=k*(y*(p*s+q*r) - 2*x*q*s - 2*z*p*r):=by grind
  omega
 ·have:k*x*q*q - k*y*p*q+k*z*p*p=k*(x*q*q - y*p*q+z*p*p):=by grind
  omega
theorem z3c{a e b c:Int}(h1:∃x y z:Int,x*a+y*b+z*(e*c)=1)(h2:∃x y z:Int,x*e+y*b+z*(a*c)=1)(k:Int)(k1:k∣a*e)(k2:k∣b)(k3:k∣c):k∣1:=by
 obtain⟨x,y,z,h1⟩:=h1;obtain⟨x',y',z',h2⟩:=h2;obtain⟨i,hi⟩:=k1;obtain⟨j,hj⟩:=k2;obtain⟨l,hl⟩:=k3;have h3:(x*a+y*b+z*(e*c))*(x'*e+y'*b+z'*(a*c))=1:=by rw[h1,h2];rfl
 refine⟨x*x'*i+j*(x*a*y'+y*(x'*e+y'*b+z'*(a*c))+z*(e*c)*y')+l*(x*a*(z'*a)+z*e*(x'*e)+z*e*(z'*(a*c))),?_⟩;rw[←h3];have e1:k*(x*x'*i+j*(x*a*y'+y*(x'*e+y'*b+z'*(a*c))+z*(e*c)*y')+l*(x*a*(z'*a)+z*e*(x'*e)+z*e*(z'*(a*c))))=x*x'*(k*i)+(k*j)*(x*a*y'+y*(x'*e+y'*b+z'*(a*c))+z*(e*c)*y')+(k*l)*(x*a*(z'*a)+z*e*(x'*e)+z*e*(z'*(a*c))):=by grind
 rw[e1,←hi,←hj,←hl];grind
end Go.Proofs.YtnjhhbcccgbbnaaGreatDoor
namespace Go.Proofs.YtnjhhbcccgbbnaaGreatDoor
theorem zWl{a x y:Int}(ha:1≤a)(h:4*a*x=4*a*y):x=y:=Int.eq_of_mul_eq_mul_left (by omega) h
theorem z3d{a b c e c1 b1 α D:Int}(ha:1≤a)(hd:b*b - 4*a*c=D)(bα:b1=b+2*a*α)(dis:b1*b1 - 4*a*e*c1=D):e*c1=a*α*α+b*α+c:=by
 refine zWl ha ?_
 have e1:4*a*(a*α*α+b*α+c)=b1*b1 - (b*b - 4*a*c):=by rw[bα];grind
 have e2:4*a*(e*c1)=4*a*e*c1:=by grind
 rw[e1,hd,e2];omega
theorem z3e{a b c e c1 b1 α D:Int}(ha:1≤a)(hd:b*b - 4*a*c=D)(bα:b1=b+2*a*α)(dis:b1*b1 - 4*a*e*c1=D):Eqf (a,b1,e*c1) (a,b,c):=by
 refine⟨1,α,0,1,by omega,?_,?_,?_⟩
 ·simp only[];omega
 ·simp only[];rw[bα];grind
 ·simp only[];rw[z3d ha hd bα dis];grind
theorem zYr{a e c1 b1 β D A B C x q y s hB hC:Int}(he:1≤e)(mh:MatInv A B C x q y s e hB hC)(hd:B*B - 4*A*C=D)(bβ:b1=hB+2*e*β)(dis:b1*b1 - 4*a*e*c1=D):Eqf (e,b1,a*c1) (A,B,C)∧MatInv A B C x (x*β+q) y (y*β+s) e b1 (a*c1):=by
 have hd2:hB*hB - 4*e*hC=D:=by rw[zSo mh,hd]
 have hf:=z3d (e:=a) (c1:=c1) he hd2 bβ (by rw[←dis];grind);have m:=mh.norm β;rw[←hf,show 2*e*β+hB=b1 by omega]at m;obtain⟨e1,e2,e3,e4⟩:=m;exact⟨⟨x,x*β+q,y,y*β+s,e4,e1.symm,e2.symm,e3.symm⟩,e1,e2,e3,e4⟩
structure Cmps (D:Int) (f g h f' g':F3) (p1 p2 p3 p4 q1 q2 q3 q4 x y q s e hB hC b1 c1 α β:Int):Prop where
  rf:zQ f=some (f',(p1,p2,p3,p4))
  rg:zQ g=some (g',(q1,q2,q3,q4))
  pf:PrRc D f'
  pg:PrRc D g'
  mf:MatInv f.1 f.2.1 f.2.2 p1 p2 p3 p4 f'.1 f'.2.1 f'.2.2
  mg:MatInv g.1 g.2.1 g.2.2 q1 q2 q3 q4 g'.1 g'.2.1 g'.2.2
  uni:Uni f'.1 f'.2.1 f'.2.2 g'.1 g'.2.1 g'.2.2 D x y q s e hB hC b1 c1 α β
  imp:zDr f' g'=some (f'.1,e,b1,c1,(1,α,0,1),(w64 (x+q*0),w64 (x*β+q),w64 (y+s*0),w64 (y*β+s)))
  spc:zCe f g=(zZ (q1,q2,q3,q4) (x,q,y,s)).bind fun N1=>(zZ (p1,p2,p3,p4) (1,α,0,1)).bind fun M=>(zZ N1 (1,β,0,1)).bind fun N=>some ((f'.1,b1,e*c1),(e,b1,f'.1*c1),M,N)
  cf:CF D (f'.1*e,b1,c1)
  ae:f'.1*e≤250000
  ec:e*c1≤3000000000∧0≤e*c1∧1≤c1
  pb:p1.natAbs≤2000∧p2.natAbs≤2000∧p3.natAbs≤2000∧p4.natAbs≤2000
  qb:q1.natAbs≤2000∧q2.natAbs≤2000∧q3.natAbs≤2000∧q4.natAbs≤2000
  cl:Cl D (eP D (fL f) (fL g)) (fL (f'.1*e,b1,c1))
theorem z2T{D:Int}(hD1:-2000≤D)(hD2:D<0){f g:F3}(hf:CF D f)(hg:CF D g):∃f' g' p1 p2 p3 p4 q1 q2 q3 q4 x y q s e hB hC b1 c1 α β,∀h,Cmps D f g h f' g' p1 p2 p3 p4 q1 q2 q3 q4 x y q s e hB hC b1 c1 α β:=by
 obtain⟨⟨a,b,c⟩,p1,p2,p3,p4,i1,i2,i3,i4,i5,i6,i7,i8,i9,i10⟩:=zTv hf;obtain⟨⟨A,B,C⟩,q1,q2,q3,q4,j1,j2,j3,j4,j5,j6,j7,j8,j9,j10⟩:=zTv hg;obtain⟨x,y,q,s,e,hB,hC,b1,c1,α,β,u,k1,k2⟩:=z0V hD1 hD2 i3 j3;have ku:=u;obtain⟨mh,e1,e2,⟨m,n,hmn⟩,bα,bβ,b0,b2,dis,qb,sb,xy⟩:=u;have ha:1≤a:=i3.1;have hd:b*b - 4*a*c=D:=i3.2.2.1;have hD:B*B - 4*A*C=D:=j3.2.2.1;obtain⟨rb1,ra⟩:=zOI hD1 i3;simp only[]at ra;have hpa:0<A:=zHs j3;have E1:=z3e (e:=e) ha hd bα dis;obtain⟨E2,_⟩:=zYr (a:=a) e1 mh hD bβ dis;obtain⟨z1,z2⟩:=z0W ha e1 b0 b2 hD1 hD2 dis;have hae:a*e≤25*10000:=Int.mul_le_mul ra e2 (by omega) (by omega);have hae0:1*1≤a*e:=Int.mul_le_mul ha e1 (by omega) (by omega);have hae2:2*a*e=2*(a*e):=zw ..;have hec:e*c1≤10000*300000:=Int.mul_le_mul e2 (by omega) (by omega) (by omega);have hec0:0≤e*c1:=Int.mul_nonneg (by omega) (by omega);have P1:=zZY E1 i3.2.2.2;have P2:=zZY E2 j3.2.2.2;have P:=z3c (bez3 P1) (bez3 P2);have hcf:CF D (a*e,b1,c1):=by
  refine⟨⟨by omega,by simp only[];omega,by simp only[];omega,by simp only[];omega,z1,by simp only[];omega,?_,hD2,.inr (by simp only[];omega),?_⟩,by simp only[];omega⟩
  ·simp only[];rw[←dis];grind
  ·intro k;constructor
   ·rintro⟨t1,t2,t3⟩;exact P k t1 t2 t3
   ·intro t;exact⟨Int.dvd_trans t (Int.one_dvd _),Int.dvd_trans t (Int.one_dvd _),Int.dvd_trans t (Int.one_dvd _)⟩
 have hfD:fD f=D:=hf.1.dis;have hgD:fD g=D:=hg.1.dis;have hfp:0<f.1:=by have:=hf.1.a1;omega
 have hgp:0<g.1:=by have:=hg.1.a1;omega
 have hcl:Cl D (eP D (fL f) (fL g)) (fL (a*e,b1,c1)):=by have w1:=zQn hfp hfD i4 (zHs i3);have w2:=zQn hgp hgD j4 (zHs j3);have w3:=zQn (f:=(a,b,c)) (g:=(a,b1,e*c1)) (D:=D) (zHs i3) hd E1 (by show 0<a;omega);have w4:=zQn (f:=(A,B,C)) (g:=(e,b1,a*c1)) (D:=D) (zHs j3) hD E2 (by show 0<e;omega);have w5:=z2U hD2 (zM3 hD2 w3 w1) (zM3 hD2 w4 w2);exact zM3 hD2 (zYV w5) (z3O dis.symm hmn)
 refine⟨(a,b,c),(A,B,C),p1,p2,p3,p4,q1,q2,q3,q4,x,y,q,s,e,hB,hC,b1,c1,α,β,fun h=>⟨i1,j1,i3,j3,i5,j5,ku,?_,k2 f g _ _ i2 j2,hcf,hae,⟨hec,hec0,z1⟩,⟨i6,i7,i8,i9⟩,⟨j6,j7,j8,j9⟩,hcl⟩⟩;rw[k1,zK0];simp only[Option.bind_some,Int.mul_one,Int.mul_zero,Int.add_zero]
theorem zYU{D:Int}(hD1:-2000≤D)(hD2:D<0){f g:F3}(hf:CF D f)(hg:CF D g):∃h,zD4 f g=some h∧zET f g=some h∧PrRc D h∧CF D h∧Cl D (eP D (fL f) (fL g)) (fL h):=by
 obtain⟨f',g',p1,p2,p3,p4,q1,q2,q3,q4,x,y,q,s,e,hB,hC,b1,c1,α,β,k⟩:=z2T hD1 hD2 hf hg;obtain⟨rf,rg,pf,pg,mf,mg,uni,imp,spc,cf,ae,ec,pb,qb,cl⟩:=k f;obtain⟨h,m1,m2,m3,m4,i1,i2,i3,i4,i5,i6,i7,i8,i9,i10⟩:=zTv cf;have ha:1≤f'.1:=pf.1;have e1:=uni.e1;have hae0:1*1≤f'.1*e:=Int.mul_le_mul ha e1 (by omega) (by omega);have hcl:Cl D (eP D (fL f) (fL g)) (fL h):=by
  refine zM3 hD2 cl (zYV (zQn ?_ ?_ i4 (zHs i3)))
  ·show 0<f'.1*e;omega
  ·exact cf.1.dis
 refine⟨h,?_,?_,i3,i10,hcl⟩
 ·simp only[zD4,zAE,rf,rg,imp,zBI,Option.bind_some,zO];rw[zB (n:=f'.1*e) (by omega),i1];rfl
 ·unfold zET;rw[spc,zNC,zK0];simp only[Option.bind_some,zK0];unfold zCz;simp only[];rw[zFP (show e≠0 by omega)];simp only[Option.bind_some,zO];rw[zB (n:=f'.1*e) (by omega),tdv (a:=e*c1) (b:=e) (c:=c1) (by omega) rfl,zB (n:=c1) (by
   have h1:1*c1≤e*c1:=Int.mul_le_mul_of_nonneg_right e1 (by omega);omega)]
  simp only[Option.bind_some,zBL,i2]
def gS(D:Int)(hD:D<0):Setoid (List El):=⟨Cl D,z7B D,zYV,zM3 hD⟩
def GG(D:Int)(hD:D<0):Type:=Quotient (gS D hD)
def gM{D:Int}{hD:D<0}(x y:GG D hD):GG D hD:=Quotient.lift₂ (s₁:=gS D hD) (s₂:=gS D hD) (fun l m=>(Quotient.mk (gS D hD) (eP D l m):GG D hD)) (fun _ _ _ _ h k=>Quotient.sound (s:=gS D hD) (z2U hD h k)) x y
def gC(D:Int)(hD:D<0)(f:F3):GG D hD:=Quotient.mk (gS D hD) (fL f)
theorem zSk{D:Int}{hD:D<0}(x y:GG D hD):gM x y=gM y x:=by
 induction x using Quotient.inductionOn with|_ x
 induction y using Quotient.inductionOn with|_ y
 exact Quotient.sound (s:=gS D hD) (z7C D x y)
theorem zHF{D:Int}{hD:D<0}(x y z:GG D hD):gM (gM x y) z=gM x (gM y z):=by
 induction x using Quotient.inductionOn with|_ x
 induction y using Quotient.inductionOn with|_ y
 induction z using Quotient.inductionOn with|_ z
 exact Quotient.sound (s:=gS D hD) (z5R D x y z)
theorem z8C{D:Int}{hD:D<0}{f g:F3}:gC D hD f=gC D hD g↔Cl D (fL f) (fL g):=⟨fun h=>Quotient.exact h,fun h=>Quotient.sound h⟩
theorem z4i{D:Int}{hD:D<0}{f g h:F3}(k:Cl D (eP D (fL f) (fL g)) (fL h)):gM (gC D hD f) (gC D hD g)=gC D hD h:=Quotient.sound (s:=gS D hD) k
def pF(D:Int):F3:=(1,D % 2,(D % 2 - D) / 4)
def g1(D:Int)(hD:D<0):GG D hD:=gC D hD (pF D)
theorem zU6{D a b c:Int}(h:b*b - 4*a*c=D):D % 4≤1∧D % 2=b % 2:=by
 have e:4*a*c=4*(a*c):=zw ..;obtain⟨t,ht|ht⟩:∃t,b=2*t∨b=2*t+1:=⟨b / 2,by omega⟩
 ·rw[ht,show 2*t*(2*t)=4*(t*t) by grind]at h;omega
 ·rw[ht,show (2*t+1)*(2*t+1)=4*(t*t+t)+1 by grind]at h;omega
theorem z4e{D:Int}{hD:D<0}{f:F3}(hf:fD f=D):gM (g1 D hD) (gC D hD f)=gC D hD f:=by obtain⟨a,b,c⟩:=f;have hp:=zU6 (a:=a) (b:=b) (c:=c) hf;exact z4i (z9P (m:=(b+D % 2) / 2) hf.symm (by omega))
theorem zXy{D:Int}(hD1:-2000≤D)(hD2:D<0)(h4:D % 4≤1):PrRc D (pF D):=by
 have e:(D % 2)*(D % 2)=D % 2:=by rcases (by omega:D % 2=0∨D % 2=1) with h|h<;>rw[h]<;>rfl
 refine⟨Int.le_refl 1,⟨⟨?_,?_⟩,?_⟩,?_,fun k h _ _=>h⟩
 ·show -1<D % 2;omega
 ·show D % 2≤1;omega
 ·show 1<(D % 2 - D) / 4∨(1=(D % 2 - D) / 4∧0≤D % 2)
  omega
 ·show D % 2*(D % 2) - 4*1*((D % 2 - D) / 4)=D;rw[e];omega
theorem zGb{D:Int}(hD1:-2000≤D)(hD2:D<0){f:F3}(h:PrRc D f):CF D f:=by obtain⟨r,ra⟩:=zOI hD1 h;obtain⟨h1,h2,h3,h4⟩:=h;obtain⟨r1,r2,r3,r4,r5,r6⟩:=r;refine⟨⟨h1,by omega,by omega,by omega,r5,by omega,h3,hD2,.inr (by omega),fun k=>⟨fun⟨a,b,c⟩=>h4 k a b c,fun t=>?_⟩⟩,by omega⟩;exact⟨Int.dvd_trans t (Int.one_dvd _),Int.dvd_trans t (Int.one_dvd _),Int.dvd_trans t (Int.one_dvd _)⟩
theorem z5S{D:Int}{f:F3}(h:CF D f):0<f.1:=by have:=h.1.a1;omega
theorem zY5{D:Int}{f:F3}(h:CF D f):fD f=D:=h.1.dis
theorem cf_4{D:Int}{f:F3}(h:CF D f):D % 4≤1:=(zU6 (zY5 h)).1
theorem z0b{D:Int}{hD:D<0}{f g:F3}(hf:PrRc D f)(hg:PrRc D g)(h:gC D hD f=gC D hD g):f=g:=z4K hD hf hg (z8C.1 h)
theorem z5F{D:Int}(hD1:-2000≤D)(hD:D<0){f g:F3}(hf:CF D f)(hg:CF D g):∃h,zD4 f g=some h∧zET f g=some h∧PrRc D h∧CF D h∧gC D hD h=gM (gC D hD f) (gC D hD g):=by obtain⟨h,h1,h2,h3,h4,h5⟩:=zYU hD1 hD hf hg;exact⟨h,h1,h2,h3,h4,(z4i h5).symm⟩
theorem redG{D:Int}(hD:D<0){f:F3}(hf:CF D f):∃g,zAE f=some g∧zBL f=some g∧PrRc D g∧CF D g∧gC D hD g=gC D hD f:=by obtain⟨g,m1,m2,m3,m4,k1,k2,k3,k4,k5,k6,k7,k8,k9,k10⟩:=zTv hf;exact⟨g,by simp only[zAE,k1,Option.bind_some],by simp only[zBL,k2,Option.bind_some],k3,k10,z8C.2 (zQn (z5S hf) (zY5 hf) k4 (zHs k3))⟩
theorem z4F{D:Int}(hD1:-2000≤D)(hD:D<0){f:F3}(hf:PrRc D f):zAE f=some f∧zBL f=some f:=by obtain⟨g,h1,h2,h3,h4,h5⟩:=redG hD (zGb hD1 hD hf);have:=z0b h3 hf h5;rw[this]at h1 h2;exact⟨h1,h2⟩
def opF(f:F3):F3:=(f.1,-f.2.1,f.2.2)
theorem z9D{D:Int}{hD:D<0}{f:F3}(h:CF D f):gM (gC D hD f) (gC D hD (opF f))=g1 D hD:=by obtain⟨x,y,z,hx⟩:=bez3 (z2S h.1);have hp:=zU6 (a:=f.1) (b:=f.2.1) (c:=f.2.2) h.1.dis;exact z4i (z9Q (a:=f.1) (b:=f.2.1) (c:=f.2.2) (m:=(f.2.1+D % 2) / 2) (z5S h) h.1.dis.symm (by omega) hx)
def gP{D:Int}{hD:D<0}(x:GG D hD):Nat→GG D hD
 |0=>g1 D hD
 |n+1=>gM (gP x n) x
def gF{D:Int}{hD:D<0}(x:GG D hD):Prop:=gM (g1 D hD) x=x
theorem z2C{D:Int}{hD:D<0}{f:F3}(h:CF D f):gF (gC D hD f):=z4e (zY5 h)
theorem z9C{D:Int}{hD:D<0}{x y:GG D hD}(h:gF x):gF (gM x y):=by unfold gF at h ⊢;rw[←zHF,h]
theorem z9B{D:Int}(hD:D<0)(h4:D % 4≤1)(hD1:-2000≤D):gF (g1 D hD):=z2C (zGb hD1 hD (zXy hD1 hD h4))
theorem gP_F{D:Int}{hD:D<0}{x:GG D hD}(h1:gF (g1 D hD)):∀n,gF (gP x n)
 |0=>h1
 |n+1=>z9C (gP_F h1 n)
theorem z4h{D:Int}{hD:D<0}{x:GG D hD}(h1:gF (g1 D hD))(m:Nat):∀n,gP x (m+n)=gM (gP x m) (gP x n)
 |0=>by rw[zSk];exact (gP_F h1 m).symm
 |n+1=>by show gM (gP x (m+n)) x=gM (gP x m) (gM (gP x n) x);rw[z4h h1 m n,zHF]
theorem z4g{D:Int}{hD:D<0}{x y:GG D hD}(h1:gF (g1 D hD))(h:gM x y=g1 D hD):∀n,gM (gP x n) (gP y n)=g1 D hD
 |0=>h1
 |n+1=>by
  show gM (gM (gP x n) x) (gM (gP y n) y)=_;have e:gM (gM (gP x n) x) (gM (gP y n) y)=gM (gM (gP x n) (gP y n)) (gM x y):=by rw[zHF,zHF];congr 1;rw[←zHF,zSk x,zHF]
  rw[e,z4g h1 h n,h];exact h1
theorem z6l{D:Int}{hD:D<0}{x y z w:GG D hD}(hy:gF y)(hz:gF z)(h:gM x w=g1 D hD)(e:gM x y=gM x z):y=z:=by
 have e2:gM w (gM x y)=gM w (gM x z):=by rw[e]
 rw[←zHF,←zHF,zSk w x,h,hy,hz]at e2;exact e2
end Go.Proofs.YtnjhhbcccgbbnaaGreatDoor
namespace Go.Proofs.YtnjhhbcccgbbnaaGreatDoor
theorem zIt{D:Int}(hD1:-2000≤D){f:F3}(h:CF D f):qC f=some D:=by obtain⟨a,b,c⟩:=f;have:=h.1.dis;have hn:=h.1.neg;simp only[]at this;rw[zU5,this,zB (by omega)]
theorem zPe{D:Int}(hD1:-2000≤D)(hD:D<0){f:F3}(h:PrRc D f):qD f=some true∧qC f=some D:=by
 obtain⟨r,ra⟩:=zOI hD1 h;have hdv:=zIt hD1 (zGb hD1 hD h);obtain⟨a,b,c⟩:=f;obtain⟨h1,h2,h3,h4⟩:=h;obtain⟨r1,r2,r3,r4,r5,r6⟩:=r;dsimp only at h1 h2 h3 h4 r1 r2 r3 r4 r5 r6;have ha:inN a=true:=qO.2 (by omega);have hb:inN b=true:=qO.2 (by omega);have hc:inN c=true:=qO.2 (by omega);have hg:Int.gcd a (Int.gcd b c)=1:=by have h5:((Int.gcd a (Int.gcd b c):Nat):Int)∣1:=h4 _ (Int.gcd_dvd_left _ _) (Int.dvd_trans (Int.gcd_dvd_right _ _) (Int.gcd_dvd_left _ _)) (Int.dvd_trans (Int.gcd_dvd_right _ _) (Int.gcd_dvd_right _ _));have h6:=Int.eq_one_of_dvd_one (by omega) h5;omega
 refine⟨?_,hdv⟩;simp only[qD,jF,zI,zF1,ha,hb,hc,Bool.and_true,Option.bind_some,hdv,za,zHG ha hb hc,hg,zS,qK,zb (show D<0 by omega),zb (show 0<a by omega),zb hD1];rfl
def CFc(D:Int)(f:F3):Prop:=qD f=some true∧qC f=some D∧CF D f∧-2000≤D∧D<0
theorem zUb{f:F3}(h:qD f=some true):CFc (f.2.1*f.2.1 - 4*f.1*f.2.2) f:=by have h1:=z0A h;obtain⟨_,_,_,k1,k2,_⟩:=zD7 (a:=f.1) (b:=f.2.1) (c:=f.2.2) h;exact⟨h,zIt k2 h1,h1,k2,k1⟩
theorem z2V{D:Int}(hD1:-2000≤D)(hD:D<0){f:F3}(h:PrRc D f):CFc D f:=⟨(zPe hD1 hD h).1,(zPe hD1 hD h).2,zGb hD1 hD h,hD1,hD⟩
theorem zZ6(f g:F3):∃b,zCh f g=some b∧zES f g=some b∧(b=true→∃D,CFc D f∧CFc D g):=by
 obtain⟨b1,h1⟩:=zI5 f;obtain⟨b2,h2⟩:=zI5 g;unfold zCh zES;rw[zG8 f,zG8 g,h1,h2];cases b1 with
 |false=>exact⟨false,rfl,rfl,fun h=>by cases h⟩
 |true=>
  cases b2 with
  |false=>exact⟨false,rfl,rfl,fun h=>by cases h⟩
  |true=>have k1:=zUb h1;have k2:=zUb h2;simp only[Option.bind_some,za,zGL,k1.2.1,k2.2.1];refine⟨_,rfl,rfl,fun h=>?_⟩;rw[zBD,beq_iff_eq]at h;rw[←h]at k2;exact⟨_,k1,k2⟩
theorem zQ9{D:Int}{f g:F3}(h1:CFc D f)(h2:CFc D g):zCh f g=some true∧zES f g=some true:=by unfold zCh zES;rw[zG8 f,zG8 g,h1.1,h2.1];simp only[Option.bind_some,za,zGL,h1.2.1,h2.2.1,zBy];exact⟨trivial,trivial⟩
theorem z4I{D:Int}(hD1:-2000≤D)(hD:D<0)(h4:D % 4≤1):zCf D=some (pF D):=by simp only[zCf];rw[zBz (by omega) (by omega)];simp only[Option.bind_some,zO];rw[zB (n:=D % 2 - D) (by omega),tdv (a:=D % 2 - D) (b:=4) (c:=(D % 2 - D) / 4) (by decide) (by omega),zB (by omega)];rfl
theorem zYG{D:Int}(hD:D<0){f:F3}(hD1:-2000≤D)(h:CF D f):∃b,zCs f=some b∧(b=true↔gC D hD f=g1 D hD):=by
 obtain⟨g,j1,j2,j3,j4,j5⟩:=redG hD h;have h4:=cf_4 h;have hp:=zXy hD1 hD h4;obtain⟨k1,_⟩:=z4F hD1 hD hp;refine⟨((g.1==(pF D).1)&&((g.2.1==(pF D).2.1)&&(g.2.2==(pF D).2.2))),by simp only[zCs,j1,zIt hD1 h,z4I hD1 hD h4,k1,Option.bind_some],?_⟩;rw[zh,zh,beq_iff_eq,beq_iff_eq,beq_iff_eq,←j5];constructor
 ·rintro⟨e1,e2,e3⟩;have:g=pF D:=Prod.ext e1 (Prod.ext e2 e3);rw[this];rfl
 ·intro e;have:=z0b j3 hp e;rw[this];exact⟨rfl,rfl,rfl⟩
theorem z9A{D:Int}{hD:D<0}{x:GG D hD}(h:gF x):gM x (g1 D hD)=x:=by rw[zSk];exact h
theorem zWc{α:Type} [DecidableEq α]:∀(l L:List α),l.Nodup→(∀x∈l,x∈L)→l.length≤L.length
 |[],L,_,_=>Nat.zero_le _
 |a::t,L,h,hs=>by have ha:a∈L:=hs a (by simp);obtain⟨h1,h2⟩:=List.nodup_cons.1 h;have:=zWc t (L.erase a) h2 fun x hx=>(List.mem_erase_of_ne (by intro e;rw[e]at hx;exact h1 hx)).2 (hs x (by simp[hx]));rw[List.length_erase_of_mem ha]at this;have hl:0<L.length:=List.length_pos_of_mem ha;simp only[ze];omega
theorem zUA{D:Int}(hD1:-2000≤D)(hD:D<0){f:F3}(hf:CF D f):∀k:Nat,∃h,PrRc D h∧gC D hD h=gP (gC D hD f) k
 |0=>⟨pF D,zXy hD1 hD (cf_4 hf),rfl⟩
 |k+1=>by obtain⟨h,h1,h2⟩:=zUA hD1 hD hf k;obtain⟨g,_,_,j3,_,j5⟩:=z5F hD1 hD (zGb hD1 hD h1) hf;exact⟨g,j3,by rw[j5,h2];rfl⟩
def boxL:List (Int×Int):=(List.range 26).flatMap fun (a:Nat)=>(List.range 60).map fun (b:Nat)=>(Int.ofNat a,Int.ofNat b - 30)
theorem z5U:boxL.length=1560:=by decide+kernel
theorem z5T{a b:Int}(h1:0≤a)(h2:a≤25)(h3:-26≤b)(h4:b≤26):(a,b)∈boxL:=by
 unfold boxL;refine List.mem_flatMap.2 ⟨a.toNat,List.mem_range.2 (by omega),List.mem_map.2 ⟨(b+30).toNat,List.mem_range.2 (by omega),?_⟩⟩;refine Prod.ext ?_ ?_
 ·show ((a.toNat:Nat):Int)=a;omega
 ·show (((b+30).toNat:Nat):Int) - 30=b;omega
theorem zZ7{D:Int}(hD1:-2000≤D)(hD:D<0){f:F3}(hf:CF D f):∃M:Nat,1≤M∧M≤1600∧gP (gC D hD f) M=g1 D hD:=by
 have h1:=z9B hD (cf_4 hf) hD1
 let h:Nat→F3:=fun k=>(zUA hD1 hD hf k).choose
 have hh:∀k,PrRc D (h k)∧gC D hD (h k)=gP (gC D hD f) k:=fun k=>(zUA hD1 hD hf k).choose_spec;have hcol:∃i j,i<j∧j≤1600∧h i=h j:=by
  refine Classical.byContradiction fun hno=>?_
  have hinj:∀i j,i<j→j≤1600→h i≠h j:=fun i j a b e=>hno ⟨i,j,a,b,e⟩;have nd:((List.range 1601).map fun k=>((h k).1,(h k).2.1)).Nodup:=by
   unfold List.Nodup;rw[List.pairwise_map];refine List.Pairwise.imp_of_mem ?_ (List.pairwise_lt_range (n:=1601))
   intro i j hi hj hij e;have hj':j<1601:=List.mem_range.1 hj;refine hinj i j hij (by omega) ?_
   have e1:(h i).1=(h j).1:=(Prod.mk.inj e).1;have e2:(h i).2.1=(h j).2.1:=(Prod.mk.inj e).2;obtain⟨q1,q2,q3,q4⟩:=(hh i).1;obtain⟨r1,r2,r3,r4⟩:=(hh j).1;rw[e1,e2]at q3;have e3:(h i).2.2=(h j).2.2:=zWl (a:=(h j).1) r1 (by omega);exact Prod.ext e1 (Prod.ext e2 e3)
  have:=zWc _ boxL nd fun x hx=>by obtain⟨k,_,e⟩:=List.mem_map.1 hx;rw[←e];obtain⟨r,ra⟩:=zOI hD1 (hh k).1;exact z5T (by have:=r.a1;omega) ra r.b1 r.b2
  rw[z5U,List.length_map,List.length_range]at this;omega
 obtain⟨i,j,hij,hj,e⟩:=hcol;refine⟨j - i,by omega,by omega,?_⟩;have e2:gP (gC D hD f) i=gP (gC D hD f) j:=by rw[←(hh i).2,←(hh j).2,e]
 have e3:gM (gP (gC D hD f) i) (gP (gC D hD f) (j - i))=gM (gP (gC D hD f) i) (g1 D hD):=by rw[←z4h h1,show i+(j - i)=j by omega,←e2,z9A (gP_F h1 i)]
 exact z6l (gP_F h1 _) h1 (z4g h1 (z9D hf) i) e3
theorem zQb{D:Int}(hD1:-2000≤D)(hD:D<0){f:F3}(hf:CF D f){M:Nat}(hM:M≤1600)(hMe:gP (gC D hD f) M=g1 D hD):∀(n k:Nat)(p:F3),M - k<n→1≤k→k≤M→CF D p→gC D hD p=gP (gC D hD f) k→∃r:Nat,zCJ f n (k:Int) p.1 p.2.1 p.2.2=some (r:Int)∧k≤r∧r≤M∧gP (gC D hD f) r=g1 D hD∧∀j,k≤j→j<r→gP (gC D hD f) j≠g1 D hD
 |0,k,p,hn,h1,h2,hp,e=>by omega
 |n+1,k,p,hn,h1,h2,hp,e=>by
  rw[zCJ];obtain⟨b,b1,b2⟩:=zYG hD hD1 hp;have b1':zCs (p.1,p.2.1,p.2.2)=some b:=b1;rw[b1',Option.bind_some];cases b with
  |true=>rw[Bool.not_true,cond_false];exact⟨k,rfl,Nat.le_refl _,h2,by rw[←e];exact b2.1 rfl,fun j h3 h4=>by omega⟩
  |false=>
   have hne:gP (gC D hD f) k≠g1 D hD:=by intro h3;rw[←e]at h3;exact absurd (b2.2 h3) (by decide)
   have hkM:k≠M:=fun h3=>hne (h3▸hMe);obtain⟨g,j1,j2,j3,j4,j5⟩:=z5F hD1 hD hp hf;have j1':zD4 (p.1,p.2.1,p.2.2) f=some g:=j1;simp only[zf,za,zO,j1',Option.bind_some];rw[zEJ (by omega)];obtain⟨r,r1,r2,r3,r4,r5⟩:=zQb hD1 hD hf hM hMe n (k+1) g (by omega) (by omega) (by omega) j4 (by rw[j5,e];rfl);refine⟨r,r1,by omega,r3,r4,fun j h3 h4=>?_⟩;by_cases hj:j=k
   ·rw[hj];exact hne
   ·exact r5 j (by omega) h4
theorem zUV{D:Int}{hD:D<0}{x:GG D hD}(h:gF x):gP x 1=x:=h
theorem zZ8{D:Int}(hD:D<0){f:F3}(h:CFc D f):∃r:Nat,zBg f=some ((r:Int),true)∧1≤r∧r≤1600∧gP (gC D hD f) r=g1 D hD∧∀j,1≤j→j<r→gP (gC D hD f) j≠g1 D hD:=by have hF:=FUge;have hD1:=h.2.2.2.1;have hcf:=h.2.2.1;obtain⟨g,j1,j2,j3,j4,j5⟩:=redG hD hcf;obtain⟨M,m1,m2,m3⟩:=zZ7 hD1 hD hcf;obtain⟨r,r1,r2,r3,r4,r5⟩:=zQb hD1 hD hcf m2 m3 FU 1 g (by omega) (by omega) m1 j4 (by rw[j5,zUV (z2C hcf)]);have r1':zCJ f FU 1 g.1 g.2.1 g.2.2=some (r:Int):=r1;exact⟨r,by simp only[zBg,zD3,h.1,Option.bind_some,Bool.not_true,cond_false,j1,r1'],r2,by omega,r4,r5⟩
theorem z62{D:Int}{f:F3}(h:CFc D f):OkD D:=⟨h.2.2.2.1,by have:=cf_4 h.2.2.1;have:=h.2.2.2.2;omega,cf_4 h.2.2.1⟩
theorem zKz{k:Nat}{c:List Int×Int×Int}(h:CurB k c)(hk:k≤100000000):∃f c',zBZ c=some (f,c')∧CurB (k+60) c':=by
 obtain⟨b,c1,e1,h1⟩:=zOK 12 h (by omega);simp only[zBZ,e1,Option.bind_some];cases b with
 |true=>obtain⟨v,c2,e2,h2⟩:=zM1 h1 (by omega);exact⟨v,c2,by simp only[za,e2,Option.bind_some],h2.up (by omega)⟩
 |false=>
  obtain⟨d,c2,e2,hd,h2⟩:=zIq h1 (by omega);obtain⟨f,c3,e3,_,h3⟩:=zG3 hd h2 (by omega);obtain⟨b,c4,e4,h4⟩:=zOK 2 h3 (by omega);simp only[cond_false,e2,e3,e4,Option.bind_some];cases b with
  |true=>obtain⟨g,c5,e5,h5⟩:=zJz f h4 (by omega);exact⟨g,c5,by simp only[za,e5,Option.bind_some],h5.up (by omega)⟩
  |false=>exact⟨f,c4,rfl,h4.up (by omega)⟩
theorem zWE{k:Nat}{c:List Int×Int×Int}(h:CurB k c)(hk:k≤10000000):∃f g c',zAb c=some (f,g,c')∧CurB (k+200) c':=by
 obtain⟨f,c1,e1,h1⟩:=zKz h (by omega);obtain⟨b,hb⟩:=zI5 f;simp only[zAb,e1,Option.bind_some,zG8,hb];cases b with
 |false=>simp only[zf,za,Option.bind_some];obtain⟨g,c2,e2,h2⟩:=zKz h1 (by omega);exact⟨f,g,c2,by simp only[e2,Option.bind_some],h2.up (by omega)⟩
 |true=>
  obtain⟨b,c2,e2,h2⟩:=zOK 16 h1 (by omega);simp only[Bool.not_true,cond_false,e2,Option.bind_some];cases b with
  |true=>obtain⟨g,c3,e3,h3⟩:=zKz h2 (by omega);exact⟨f,g,c3,by simp only[za,e3,Option.bind_some],h3.up (by omega)⟩
  |false=>
   have hc:=zUb hb;obtain⟨g,c3,e3,_,h3⟩:=zG3 (z62 hc) h2 (by omega);obtain⟨b,c4,e4,h4⟩:=zOK 2 h3 (by omega);simp only[cond_false,zGL,hc.2.1,e3,e4,Option.bind_some];cases b with
   |true=>obtain⟨g',c5,e5,h5⟩:=zJz g h4 (by omega);exact⟨f,g',c5,by simp only[za,e5,Option.bind_some],h5.up (by omega)⟩
   |false=>exact⟨f,g,c4,rfl,h4.up (by omega)⟩
theorem zJ{n:Int}(h:inN n=true):sm18 n:=by rw[qO]at h;unfold sm18;omega
theorem zKC(m:Int×Int×Int×Int):zY m=some (inN m.1&&(inN m.2.1&&(inN m.2.2.1&&inN m.2.2.2))):=by simp only[zY,zGH _ (show [m.1,m.2.1,m.2.2.1,m.2.2.2].length<1000000 by simp),List.all_cons,List.all_nil,Bool.and_true,Option.bind_some]
theorem z3C(m:Int×Int×Int×Int):zCy m=some (inN m.1&&(inN m.2.1&&(inN m.2.2.1&&inN m.2.2.2))):=by simp only[zCy,zZn,Option.bind_some];cases inN m.1<;>cases inN m.2.1<;>cases inN m.2.2.1<;>rfl
theorem zFl{f:Int×Int×Int}(h:zI f=some true):inN f.1=true∧inN f.2.1=true∧inN f.2.2=true:=by
 simp only[zI,zF1,Option.bind_some]at h;cases ha:inN f.1 with
 |false=>rw[ha]at h;simp at h
 |true=>
  cases hb:inN f.2.1 with
  |false=>rw[ha,hb]at h;simp at h
  |true=>
   cases hc:inN f.2.2 with
   |false=>rw[ha,hb,hc]at h;simp at h
   |true=>exact⟨rfl,rfl,rfl⟩
theorem zT2{n:Int}(h:-10000000≤n∧n≤10000000):sm18 n:=by unfold sm18;omega
theorem zMs{x:List UInt8}{ws:List (List UInt8)}(hx:x.length≤1000)(h:∀y∈ws,y.length≤100):∀y∈x::ws,y.length≤1000:=by
 intro y hy;rcases List.mem_cons.1 hy with rfl|hy
 ·exact hx
 ·have:=h y hy;omega
theorem z3g{x:List UInt8}{r:List (List UInt8)}(hN:r.length≤9)(hL:∀y∈x::r,y.length≤1000):(bl (x++Go.Lib.joinTail [32] r)).size≤20000:=by have h1:=hL x zk;have h2:=zSz r fun y hy=>hL y (zl _ hy);rw[zGN,zd];omega
theorem z6y(f g:Int×Int×Int):∃t b,zAq f g=some (t,b)∧qB f g=some (t,b)∧t.size≤20000:=by
 obtain⟨bf,hf⟩:=zEb f;obtain⟨bg,hg⟩:=zEb g;have no:∀{h:Int×Int×Int},zI h=some false→jQ h=some ((0,0,0),(0,0,0,0),false):=by intro h hh;simp only[jQ,hh,Option.bind_some,zf,za]
 have yes:∀{h:Int×Int×Int},zI h=some true→∃m f2,jQ h=some (f2,m,true)∧qM h=some (f2,m)∧sm18 m.1∧sm18 m.2.1∧sm18 m.2.2.1∧sm18 m.2.2.2∧sm18 f2.1∧sm18 f2.2.1∧sm18 f2.2.2:=by intro h hh;obtain⟨m,f2,k1,k2,i1,i2,i3,i4,j1,j2,j3,_⟩:=zU8 hh;refine⟨m,f2,?_,k2,zJ i1,zJ i2,zJ i3,zJ i4,zT2 j1,zT2 j2,zT2 j3⟩;simp only[jQ,hh,Option.bind_some,Bool.not_true,cond_false,k1,zKC,i1,i2,i3,i4,Bool.and_self]
 simp only[zAq,qB,zND,hf,hg,Option.bind_some];cases bf with
 |false=>
  rw[no hf];cases bg with
  |false=>rw[no hg];exact⟨_,_,rfl,rfl,by decide⟩
  |true=>obtain⟨m,f2,k1,_⟩:=yes hg;rw[k1];exact⟨_,_,rfl,rfl,by decide⟩
 |true=>
  obtain⟨m,f2,k1,k2,i1,i2,i3,i4,j1,j2,j3⟩:=yes hf;rw[k1];cases bg with
  |false=>rw[no hg];exact⟨_,_,rfl,rfl,by decide⟩
  |true=>
   obtain⟨n,g2,l1,l2,p1,p2,p3,p4,q1,q2,q3⟩:=yes hg;rw[l1];simp only[Bool.not_true,cond_false,Option.bind_some,k2,l2];cases hc:(f2.1==g2.1&&(f2.2.1==g2.2.1&&f2.2.2==g2.2.2)) with
   |true=>exact⟨_,_,rfl,rfl,by decide⟩
   |false=>
    obtain⟨a1,a2,a3⟩:=zFl hf;obtain⟨b1,b2,b3⟩:=zFl hg;have e1:(⟨#[100,105,102,102,101,114,101,110,116]⟩:qd)=bl [100,105,102,102,101,114,101,110,116]:=rfl;have hL:=zMs (x:=[100,105,102,102,101,114,101,110,116]) (ws:=[fB f,mB m,fB f2,fB g,mB n,fB g2]) (by simp) (by
     intro y hy;simp only[zj,zo,or_false]at hy;rcases hy with rfl|rfl|rfl|rfl|rfl|rfl
     ·exact zDC (zJ a1) (zJ a2) (zJ a3)
     ·exact zQf i1 i2 i3 i4
     ·exact zDC j1 j2 j3
     ·exact zDC (zJ b1) (zJ b2) (zJ b3)
     ·exact zQf p1 p2 p3 p4
     ·exact zDC q1 q2 q3)
    have t1:=zFj [100,105,102,102,101,114,101,110,116] [fB f,mB m,fB f2,fB g,mB n,fB g2] (by simp) hL;have t2:=zEo [100,105,102,102,101,114,101,110,116] [fB f,mB m,fB f2,fB g,mB n,fB g2] (by simp) (by simp) hL;simp only[List.map_cons,zp]at t1 t2;simp only[cond_false,zDl (zJ a1) (zJ a2) (zJ a3),zDl (zJ b1) (zJ b2) (zJ b3),zDl j1 j2 j3,zDl q1 q2 q3,zKv i1 i2 i3 i4,zKv p1 p2 p3 p4,
     jA (zJ a1) (zJ a2) (zJ a3),jA (zJ b1) (zJ b2) (zJ b3),jA j1 j2 j3,jA q1 q2 q3,zEZ i1 i2 i3 i4,zEZ p1 p2 p3 p4,Option.bind_some,e1,t1,t2]
    exact⟨_,_,rfl,rfl,z3g (by simp) hL⟩
theorem z44(m:Int×Int×Int×Int):∃y,zP m=some y:=by simp only[zP,zBA,zO,Option.bind_some];exact⟨_,rfl⟩
theorem z4r(f g:Int×Int×Int):∃m b,zBd f g=some (m,b)∧qX f g=some (m,b)∧(b=true→(inN f.1=true∧inN f.2.1=true∧inN f.2.2=true)∧(inN g.1=true∧inN g.2.1=true∧inN g.2.2=true)∧inN m.1=true∧inN m.2.1=true∧inN m.2.2.1=true∧inN m.2.2.2=true):=by
 obtain⟨bf,hf⟩:=zEb f;obtain⟨bg,hg⟩:=zEb g;simp only[zBd,qX,zND,hf,hg,Option.bind_some];cases bf with
 |false=>exact⟨_,false,rfl,rfl,fun h=>by cases h⟩
 |true=>
  cases bg with
  |false=>exact⟨_,false,rfl,rfl,fun h=>by cases h⟩
  |true=>
   obtain⟨m,f2,k1,k2,_⟩:=zU8 hf;obtain⟨n,g2,l1,l2,_⟩:=zU8 hg;obtain⟨y,hy⟩:=z44 n;obtain⟨z,hz⟩:=zSx m y;simp only[Bool.not_true,cond_false,Option.bind_some,k1,k2,l1,l2,z2N,zNC,hy,hz];cases hc:(f2.1==g2.1&&(f2.2.1==g2.2.1&&f2.2.2==g2.2.2)) with
   |false=>exact⟨_,false,rfl,rfl,fun h=>by cases h⟩
   |true=>
    simp only[Bool.not_true,cond_false,Option.bind_some,zEH,zKC,z3C];cases hb:(inN z.1&&(inN z.2.1&&(inN z.2.2.1&&inN z.2.2.2))) with
    |false=>exact⟨_,false,rfl,rfl,fun h=>by cases h⟩
    |true=>refine⟨z,true,rfl,rfl,fun _=>⟨zFl hf,zFl hg,?_⟩⟩;simpa only[zh] using hb
theorem z4t(f g:Int×Int×Int):∃t b,zAi f g=some (t,b)∧zU f g=some (t,b)∧t.size≤20000:=by
 obtain⟨m,b,h1,h2,h3⟩:=z4r f g;simp only[zAi,zU,h1,h2,Option.bind_some];cases b with
 |false=>exact⟨_,_,rfl,rfl,by decide⟩
 |true=>
  obtain⟨⟨a1,a2,a3⟩,⟨b1,b2,b3⟩,i1,i2,i3,i4⟩:=h3 rfl;have e1:(⟨#[101,113,117,105,118,97,108,101,110,116]⟩:qd)=bl [101,113,117,105,118,97,108,101,110,116]:=rfl;have hL:=zMs (x:=[101,113,117,105,118,97,108,101,110,116]) (ws:=[fB f,fB g,mB m]) (by simp) (by
   intro y hy;simp only[zj,zo,or_false]at hy;rcases hy with rfl|rfl|rfl
   ·exact zDC (zJ a1) (zJ a2) (zJ a3)
   ·exact zDC (zJ b1) (zJ b2) (zJ b3)
   ·exact zQf (zJ i1) (zJ i2) (zJ i3) (zJ i4))
  have t1:=zFj [101,113,117,105,118,97,108,101,110,116] [fB f,fB g,mB m] (by simp) hL;have t2:=zEo [101,113,117,105,118,97,108,101,110,116] [fB f,fB g,mB m] (by simp) (by simp) hL;simp only[List.map_cons,zp]at t1 t2;simp only[Bool.not_true,cond_false,zDl (zJ a1) (zJ a2) (zJ a3),zDl (zJ b1) (zJ b2) (zJ b3),zKv (zJ i1) (zJ i2) (zJ i3) (zJ i4),
   jA (zJ a1) (zJ a2) (zJ a3),jA (zJ b1) (zJ b2) (zJ b3),zEZ (zJ i1) (zJ i2) (zJ i3) (zJ i4),Option.bind_some,e1,t1,t2]
  exact⟨_,_,rfl,rfl,z3g (by simp) hL⟩
theorem sqn(x:Int):0≤x*x:=by
 rcases Int.le_total 0 x with h|h
 ·exact Int.mul_nonneg h h
 ·exact Int.mul_nonneg_of_nonpos_of_nonpos h h
theorem zPX{q:Int}:∀(k n:Nat)(lo hi:Int),0≤lo→lo≤hi→hi≤3000000000→lo*lo≤q→q<(hi+1)*(hi+1)→hi - lo<2 ^k→k<n→∃r,zCH q n lo hi=some r∧0≤r∧r≤3000000000∧r*r≤q∧q<(r+1)*(r+1)
 |0,0,_,_,_,_,_,_,_,_,h=>by omega
 |0,n+1,lo,hi,h1,h2,h3,h4,h5,h6,h7=>by
  have e:lo=hi:=by simp at h6;omega
  subst e;unfold zCH;rw[zS,zc (by omega),cond_false];exact⟨lo,rfl,h1,h3,h4,h5⟩
 |k+1,0,_,_,_,_,_,_,_,_,h=>by omega
 |k+1,n+1,lo,hi,h1,h2,h3,h4,h5,h6,h7=>by
  unfold zCH;rw[zS];by_cases hlt:lo<hi
  ·have em:w64 (Int.tdiv (w64 (w64 (lo+hi)+1)) 2)=(lo+hi+1) / 2:=by
    rw[zB (n:=lo+hi) (by omega),zB (n:=lo+hi+1) (by omega),Int.tdiv_eq_ediv_of_nonneg (by omega),zB (by omega)]
   rw[zb hlt,za,zO,em];generalize hm:(lo+hi+1) / 2=m;have m1:lo<m:=by omega
   have m2:m≤hi:=by omega
   have hp:(2:Int) ^(k+1)=2*2 ^k:=by rw[Int.pow_succ];omega
   have hmm:=zN (x:=m) (y:=m) (A:=3000000000) (B:=3000000000) (by omega) (by omega);rw[zB (n:=m*m) (by omega),qK];by_cases hq:m*m≤q
   ·rw[zb hq,za];exact zPX k n m hi (by omega) m2 h3 hq h5 (by omega) (by omega)
   ·rw[zc hq,cond_false,zO,zB (by omega)];exact zPX k n lo (m - 1) h1 (by omega) (by omega) h4 (by rw[show m - 1+1=m by omega];omega) (by omega) (by omega)
  ·have e:lo=hi:=by omega
   subst e;rw[zc hlt,cond_false];exact⟨lo,rfl,h1,h3,h4,h5⟩
theorem z1b(q:Int):∀(n:Nat)(lo hi:Int),zDU q n lo hi=zCH q n lo hi
 |0,lo,hi=>rfl
 |n+1,lo,hi=>by unfold zDU zCH;simp only[zO,z1b q n]
theorem zZN{q:Int}(h0:0≤q)(h1:q≤1000000000000000000):∃r,zEK q=some r∧0≤r∧r≤1000000000∧r*r≤q∧q<(r+1)*(r+1):=by
 have hF:=FUge;obtain⟨r,g1,g2,g3,g4,g5⟩:=zPX (q:=q) 32 FU 0 3000000000 (by omega) (by omega) (by omega) (by omega) (by omega) (by decide) (by omega);refine⟨r,by simp only[zEK,g1,Option.bind_some],g2,?_,g4,g5⟩;rcases Int.lt_or_le 1000000000 r with h|h
 ·have:1000000001*1000000001≤r*r:=Int.mul_le_mul (by omega) (by omega) (by omega) (by omega);omega
 ·exact h
theorem z2n{q:Int}(h0:0≤q)(h1:q≤1000000000000000000):∃r,zDO q=some r∧0≤r∧r≤1000000000∧r*r≤q∧q<(r+1)*(r+1):=by
 have hF:=FUge;obtain⟨r,g1,g2,g3,g4,g5⟩:=zPX (q:=q) 32 FU 0 1000000000 (by omega) (by omega) (by omega) (by omega) (by omega) (by decide) (by omega);refine⟨r,by simp only[zDO,z1b,g1,Option.bind_some],g2,?_,g4,g5⟩;rcases Int.lt_or_le 1000000000 r with h|h
 ·have:1000000001*1000000001≤r*r:=Int.mul_le_mul (by omega) (by omega) (by omega) (by omega);omega
 ·exact h
theorem zPW{q r t:Int}(hr:0≤r)(h1:r*r≤q)(h2:q<(r+1)*(r+1))(ht:t*t=q):t=r∨t=-r:=by
 have key:∀s:Int,0≤s→s*s=q→s=r:=by
  intro s hs he;rcases Int.lt_trichotomy s r with h|h|h
  ·have:(s+1)*(s+1)≤r*r:=Int.mul_le_mul (by omega) (by omega) (by omega) (by omega);have e:(s+1)*(s+1)=s*s+2*s+1:=by grind
   omega
  ·exact h
  ·have:(r+1)*(r+1)≤s*s:=Int.mul_le_mul (by omega) (by omega) (by omega) (by omega);omega
 rcases Int.le_total 0 t with h|h
 ·exact .inl (key t h ht)
 ·have:=key (-t) (by omega) (by rw[←ht];grind);right;omega
theorem zMt{a m:Int}(hm:m≠0):eqI (a.tmod m) 0=true→m*a.tdiv m=a:=by intro h;rw[zBD]at h;have h:=eq_of_beq h;have:=Int.tmod_add_mul_tdiv a m;omega
theorem zJ9{a m y:Int}(hm:m≠0)(h:m*y=a):eqI (a.tmod m) 0=true∧a.tdiv m=y:=by subst h;rw[Int.mul_tmod_right,Int.mul_tdiv_cancel_left _ hm];exact⟨rfl,rfl⟩
def lexL(p q:Int×Int):Prop:=p.1<q.1∨(p.1=q.1∧p.2<q.2)
def Srt(l:List (Int×Int)):Prop:=l.Pairwise lexL
theorem z1T:∀{l1 l2:List (Int×Int)},Srt l1→Srt l2→(∀p,p∈l1↔p∈l2)→l1=l2
 |[],[],_,_,_=>rfl
 |[],q::_,_,_,h=>by have:=(h q).2 zk;cases this
 |p::_,[],_,_,h=>by have:=(h p).1 zk;cases this
 |p::l1,q::l2,h1,h2,h=>by
  have s1:=List.pairwise_cons.1 h1;have s2:=List.pairwise_cons.1 h2;have irr:∀{x y:Int×Int},lexL x y→lexL y x→False:=by intro x y a b;rcases a with a|⟨a,a'⟩<;>rcases b with b|⟨b,b'⟩<;>omega
  have e:p=q:=by
   rcases List.mem_cons.1 ((h p).1 zk) with e|e
   ·exact e
   ·rcases List.mem_cons.1 ((h q).2 zk) with f|f
    ·exact f.symm
    ·exact absurd (irr (s1.1 q f) (s2.1 p e)) id
  subst e;have:l1=l2:=z1T s1.2 s2.2 fun x=>by
   have hx:=h x;constructor
   ·intro hm;rcases List.mem_cons.1 (hx.1 (zl _ hm)) with e|e
    ·subst e;exact absurd (irr (s1.1 x hm) (s1.1 x hm)) id
    ·exact e
   ·intro hm;rcases List.mem_cons.1 (hx.2 (zl _ hm)) with e|e
    ·subst e;exact absurd (irr (s2.1 x hm) (s2.1 x hm)) id
    ·exact e
  rw[this]
def Sol(A B C n:Int)(p:Int×Int):Prop:=A*p.1*p.1+B*p.1*p.2+C*p.2*p.2=n
theorem z3t{A B C d n x y:Int}(hC:1≤C)(hd:B*B - 4*A*C=d):Sol A B C n (x,y)↔(2*C*y+B*x)*(2*C*y+B*x)=d*x*x+4*C*n:=by
 unfold Sol;have key:(2*C*y+B*x)*(2*C*y+B*x) - (d*x*x+4*C*n)=4*C*(A*x*x+B*x*y+C*y*y - n):=by subst hd;grind
 constructor
 ·intro h;have h:A*x*x+B*x*y+C*y*y=n:=h;rw[h,Int.sub_self,Int.mul_zero]at key;omega
 ·intro h;show A*x*x+B*x*y+C*y*y=n;rw[h,Int.sub_self]at key;rcases Int.mul_eq_zero.1 key.symm with h1|h1<;>omega
theorem z3u{A B C d n x y:Int}(hA:1≤A)(hd:B*B - 4*A*C=d):Sol A B C n (x,y)↔(2*A*x+B*y)*(2*A*x+B*y)=d*y*y+4*A*n:=by
 unfold Sol;have key:(2*A*x+B*y)*(2*A*x+B*y) - (d*y*y+4*A*n)=4*A*(A*x*x+B*x*y+C*y*y - n):=by subst hd;grind
 constructor
 ·intro h;have h:A*x*x+B*x*y+C*y*y=n:=h;rw[h,Int.sub_self,Int.mul_zero]at key;omega
 ·intro h;show A*x*x+B*x*y+C*y*y=n;rw[h,Int.sub_self]at key;rcases Int.mul_eq_zero.1 key.symm with h1|h1<;>omega
theorem zX3{l:List (Int×Int)}{p:Int×Int}(h:Srt l)(hp:∀q∈l,lexL q p):Srt (l++[p]):=by unfold Srt;rw[List.pairwise_append];refine⟨h,List.pairwise_singleton _ _,fun a ha b hb=>?_⟩;rw[qc]at hb;subst hb;exact hp a ha
theorem z1h{A B C d n bd:Int}(hC1:1≤C)(hC:C≤1000000)(hB1:-1000000≤B)(hB:B≤1000000)(hd:B*B - 4*A*C=d)(hd1:-2000≤d)(hd2:d≤-3)(hn1:1≤n)(hn:n≤10000)(hb0:0≤bd)(hb:bd≤200000):
  ∀(fu:Nat)(x:Int)(acc:List (Int×Int)),-200000≤x→x≤bd+1→bd+1 - x<fu→Srt acc→(∀p,p∈acc↔Sol A B C n p∧p.1<x∧-bd≤p.1)→-bd≤x→(acc.length:Int)≤2*(x+200000)→
  ∃l,zA7 (A,B,C) n d bd fu x acc=some l∧Srt l∧l.length≤1000000∧∀p,p∈l↔Sol A B C n p∧p.1≤bd∧-bd≤p.1
 |0,x,acc,h1,h2,h3,_,_,_,_=>by omega
 |fu+1,x,acc,h1,h2,h3,hs,hm,hbx,hl=>by
  unfold zA7;rw[qK];by_cases hx:x≤bd
  ·have b1:=zN (x:=d) (y:=x) (A:=2000) (B:=200000) (by omega) (by omega);have b2:=zN (x:=d*x) (y:=x) (A:=2000*200000) (B:=200000) b1 (by omega);have b3:=zN (x:=4*C) (y:=n) (A:=4000000) (B:=10000) (by omega) (by omega);have b4:=zN (x:=B) (y:=x) (A:=1000000) (B:=200000) (by omega) (by omega);have eB:(0 - B)*x=-(B*x):=by grind
   have hsq:w64 (w64 (w64 (d*x)*x)+w64 (w64 (4*C)*n))=d*x*x+4*C*n:=by rw[qH (n:=d*x) (by omega),qH (n:=d*x*x) (by omega),qH (n:=4*C) (by omega),qH (n:=4*C*n) (by omega),qH (by omega)]
   have hw1:w64 (x+1)=x+1:=zB (by omega);rw[zb hx,za,zO,hsq];generalize hq:d*x*x+4*C*n=q;have hqb:q≤1000000000000000000:=by omega
   have step:∀(l:List (Int×Int)),Srt l→(∀p,p∈l↔(p∈acc∨(p.1=x∧Sol A B C n p)))→l.length≤acc.length+2→
     ∃l2,zA7 (A,B,C) n d bd fu (x+1) l=some l2∧Srt l2∧l2.length≤1000000∧∀p,p∈l2↔Sol A B C n p∧p.1≤bd∧-bd≤p.1:=by
    intro l k1 k2 k3;refine z1h hC1 hC hB1 hB hd hd1 hd2 hn1 hn hb0 hb fu (x+1) l (by omega) (by omega) (by omega) k1 (fun p=>?_) (by omega) (by omega);rw[k2,hm];constructor
    ·rintro (⟨a,b,c⟩|⟨a,b⟩)
     ·exact⟨a,by omega,c⟩
     ·exact⟨b,by omega,by omega⟩
    ·rintro⟨a,b,c⟩;by_cases hp:p.1=x
     ·exact .inr ⟨hp,a⟩
     ·exact .inl ⟨a,by omega,c⟩
   have hy:∀y,Sol A B C n (x,y)↔(2*C*y+B*x)*(2*C*y+B*x)=q:=fun y=>by rw[z3t hC1 hd,hq]
   by_cases hq0:0≤q
   ·obtain⟨r,g1,g2,g3,g4,g5⟩:=zZN hq0 hqb;have hrr:=zN (x:=r) (y:=r) (A:=1000000000) (B:=1000000000) (by omega) (by omega);have hisq:zCU q=some (eqI (r*r) q):=by
     simp only[zCU,qK,zb hq0,za,g1,Option.bind_some];rw[qH (n:=r*r) (by omega)]
    rw[hisq];simp only[Option.bind_some];by_cases hrq:r*r=q
    ·have e1:eqI (r*r) q=true:=by rw[hrq];exact zGK q
     have hz:nz (2*C)=some ():=nzOk (by omega);have hC2:w64 (2*C)=2*C:=zB (by omega);have ea:w64 (w64 (w64 (0 - B)*x) - r)=-(B*x) - r:=by rw[zB (n:=0 - B) (by omega),eB,qH (n:=-(B*x)) (by omega),qH (by omega)]
     have eb:w64 (w64 (w64 (0 - B)*x)+r)=-(B*x)+r:=by rw[zB (n:=0 - B) (by omega),eB,qH (n:=-(B*x)) (by omega),qH (by omega)]
     have hcne:(2*C:Int)≠0:=by omega
     rw[e1];simp only[Bool.not_true,cond_false,g1,Option.bind_some,hC2,hz,ea,eb];have hy2:∀y,Sol A B C n (x,y)↔(2*C*y=-(B*x) - r∨2*C*y=-(B*x)+r):=by
      intro y;rw[hy];constructor
      ·intro h;rcases zPW g2 g4 g5 h with e|e<;>omega
      ·rintro (h|h)
       ·have e:2*C*y+B*x=-r:=by omega
        rw[e,←hrq];grind
       ·have e:2*C*y+B*x=r:=by omega
        rw[e,←hrq]
     -- a quotient's size
     have tsz:∀a y:Int,2*C*y=a→a.natAbs≤2000000000000→y.natAbs≤2000000000000:=by intro a y h h2;have:(2*C*y).natAbs=(2*C).natAbs*y.natAbs:=Int.natAbs_mul _ _;rw[h]at this;have h3:1*y.natAbs≤(2*C).natAbs*y.natAbs:=Nat.mul_le_mul_right _ (by omega);omega
     have hr1:∀q2,q2∈acc→∀y,lexL q2 (x,y):=fun q2 h y=>.inl ((hm q2).1 h).2.1;cases h1:eqI (Int.tmod (-(B*x) - r) (2*C)) 0 with
     |true=>
      have m1:=zMt hcne h1;generalize hy1:Int.tdiv (-(B*x) - r) (2*C)=y1;rw[hy1]at m1;have s1:=tsz _ _ m1 (by omega);rw[za,qH (n:=y1) (by omega),zCw (by simp;omega)];simp only[Option.bind_some];have k1:Srt (acc++[(x,y1)]):=zX3 hs fun q2 h=>hr1 q2 h y1;rw[zS];by_cases hr0:0<r
      ·rw[zb hr0,za];cases h2:eqI (Int.tmod (-(B*x)+r) (2*C)) 0 with
       |true=>
        have m2:=zMt hcne h2;generalize hy2e:Int.tdiv (-(B*x)+r) (2*C)=y2;rw[hy2e]at m2;have s2:=tsz _ _ m2 (by omega);have hlt:y1<y2:=by
         rcases Int.lt_or_le y1 y2 with h|h
         ·exact h
         ·have:2*C*y2≤2*C*y1:=zn h (by omega);omega
        simp only[Option.bind_some,za];rw[qH (n:=y2) (by omega),zCw (by simp;omega)];simp only[Option.bind_some,zO,hw1];refine step _ (zX3 k1 fun q2 h=>?_) (fun p=>?_) (by simp)
        ·rw[zm,qc]at h;rcases h with h|h
         ·exact hr1 q2 h y2
         ·subst h;exact .inr ⟨rfl,hlt⟩
        ·rw[zm,zm,qc,qc];constructor
         ·rintro ((h|h)|h)
          ·exact .inl h
          ·subst h;exact .inr ⟨rfl,(hy2 y1).2 (.inl m1)⟩
          ·subst h;exact .inr ⟨rfl,(hy2 y2).2 (.inr m2)⟩
         ·rintro (h|⟨h,h'⟩)
          ·exact .inl (.inl h)
          ·obtain⟨p1,p2⟩:=p;have h:p1=x:=h;subst h;rcases (hy2 p2).1 h' with e|e
           ·left;right;have:p2=y1:=Int.eq_of_mul_eq_mul_left hcne (by omega);rw[this]
           ·right;have:p2=y2:=Int.eq_of_mul_eq_mul_left hcne (by omega);rw[this]
       |false=>
        simp only[Option.bind_some,cond_false,zO,hw1];refine step _ k1 (fun p=>?_) (by simp);rw[zm,qc];constructor
        ·rintro (h|h)
         ·exact .inl h
         ·subst h;exact .inr ⟨rfl,(hy2 y1).2 (.inl m1)⟩
        ·rintro (h|⟨h,h'⟩)
         ·exact .inl h
         ·obtain⟨p1,p2⟩:=p;have h:p1=x:=h;subst h;rcases (hy2 p2).1 h' with e|e
          ·right;have:p2=y1:=Int.eq_of_mul_eq_mul_left hcne (by omega);rw[this]
          ·rw[(zJ9 hcne e).1]at h2;cases h2
      ·have r0:r=0:=by omega
       rw[zc hr0];simp only[Option.bind_some,cond_false,zO,hw1];refine step _ k1 (fun p=>?_) (by simp);rw[zm,qc];constructor
       ·rintro (h|h)
        ·exact .inl h
        ·subst h;exact .inr ⟨rfl,(hy2 y1).2 (.inl m1)⟩
       ·rintro (h|⟨h,h'⟩)
        ·exact .inl h
        ·obtain⟨p1,p2⟩:=p;have h:p1=x:=h;subst h;right;have:p2=y1:=Int.eq_of_mul_eq_mul_left hcne (by rcases (hy2 p2).1 h' with e|e<;>omega);rw[this]
     |false=>
      rw[cond_false];simp only[Option.bind_some];rw[zS];by_cases hr0:0<r
      ·rw[zb hr0,za];cases h2:eqI (Int.tmod (-(B*x)+r) (2*C)) 0 with
       |true=>
        have m2:=zMt hcne h2;generalize hy2e:Int.tdiv (-(B*x)+r) (2*C)=y2;rw[hy2e]at m2;have s2:=tsz _ _ m2 (by omega);simp only[Option.bind_some,za];rw[qH (n:=y2) (by omega),zCw (by simp;omega)];simp only[Option.bind_some,zO,hw1];refine step _ (zX3 hs fun q2 h=>hr1 q2 h y2) (fun p=>?_) (by simp);rw[zm,qc];constructor
        ·rintro (h|h)
         ·exact .inl h
         ·subst h;exact .inr ⟨rfl,(hy2 y2).2 (.inr m2)⟩
        ·rintro (h|⟨h,h'⟩)
         ·exact .inl h
         ·obtain⟨p1,p2⟩:=p;have h:p1=x:=h;subst h;rcases (hy2 p2).1 h' with e|e
          ·rw[(zJ9 hcne e).1]at h1;cases h1
          ·right;have:p2=y2:=Int.eq_of_mul_eq_mul_left hcne (by omega);rw[this]
       |false=>
        simp only[Option.bind_some,cond_false,zO,hw1];refine step _ hs (fun p=>?_) (by omega);constructor
        ·exact fun h=>.inl h
        ·rintro (h|⟨h,h'⟩)
         ·exact h
         ·obtain⟨p1,p2⟩:=p;have h:p1=x:=h;subst h;rcases (hy2 p2).1 h' with e|e
          ·rw[(zJ9 hcne e).1]at h1;cases h1
          ·rw[(zJ9 hcne e).1]at h2;cases h2
      ·have r0:r=0:=by omega
       rw[zc hr0];simp only[Option.bind_some,cond_false,zO,hw1];refine step _ hs (fun p=>?_) (by omega);constructor
       ·exact fun h=>.inl h
       ·rintro (h|⟨h,h'⟩)
        ·exact h
        ·obtain⟨p1,p2⟩:=p;have h:p1=x:=h;subst h;rw[(zJ9 hcne (show 2*C*p2=-(B*p1) - r by rcases (hy2 p2).1 h' with e|e<;>omega)).1]at h1;cases h1
    ·rw[eqNe hrq];simp only[zf,za,zO,hw1];refine step _ hs (fun p=>?_) (by omega);constructor
     ·exact fun h=>.inl h
     ·rintro (h|⟨h,h'⟩)
      ·exact h
      ·obtain⟨p1,p2⟩:=p;have h:p1=x:=h;subst h
       exfalso
       have h2:=(hy p2).1 h';rcases zPW g2 g4 g5 h2 with e|e
       ·exact hrq (by rw[←e];exact h2)
       ·exact hrq (by rw[e]at h2;rw[←h2];grind)
   ·have hisq:zCU q=some false:=by
     simp only[zCU,qK,zc hq0,cond_false,Option.bind_some]
    rw[hisq];simp only[Option.bind_some,zf,za,zO,hw1];refine step _ hs (fun p=>?_) (by omega);constructor
    ·exact fun h=>.inl h
    ·rintro (h|⟨h,h'⟩)
     ·exact h
     ·obtain⟨p1,p2⟩:=p;have h:p1=x:=h;subst h
      exfalso
      have h2:=(hy p2).1 h';have:=sqn (2*C*p2+B*p1);omega
  ·rw[zc hx,cond_false];refine⟨acc,rfl,hs,by omega,fun p=>?_⟩;rw[hm];constructor
   ·rintro⟨a,b,c⟩;exact⟨a,by omega,c⟩
   ·rintro⟨a,b,c⟩;exact⟨a,by omega,c⟩
theorem z0c{A B C n:Int}(hA:1≤A)(hC1:1≤C)(hC:C≤1000000)(hB1:-1000000≤B)(hB:B≤1000000)(hdw:qC (A,B,C)=some (B*B - 4*A*C))(hd1:-2000≤B*B - 4*A*C)(hd2:B*B - 4*A*C≤-3)(hn1:1≤n)(hn:n≤10000):
  ∃l,zD6 (A,B,C) n=some l∧Srt l∧l.length≤1000000∧∀p,p∈l↔Sol A B C n p:=by
 have hF:=FUge;have hFe:((FU:Nat):Int)=1000000000:=rfl;generalize hd:B*B - 4*A*C=d at*;have b3:=zN (x:=4*C) (y:=n) (A:=4000000) (B:=10000) (by omega) (by omega);have hCn:0≤4*C*n:=Int.mul_nonneg (by omega) (by omega);have ew:w64 (0 - d)=-d:=by rw[zB (by omega)];omega
 have e4:w64 (w64 (4*C)*n)=4*C*n:=by rw[zB (n:=4*C) (by omega),qH (by omega)]
 have hquo:Int.tdiv (4*C*n) (-d)=4*C*n / (-d):=Int.tdiv_eq_ediv_of_nonneg hCn;have hq1:0≤4*C*n / (-d):=Int.ediv_nonneg hCn (by omega);have hq2:(-d)*(4*C*n / (-d))≤4*C*n:=Int.mul_ediv_self_le (by omega);have hq3:4*C*n<(-d)*(4*C*n / (-d))+(-d):=Int.lt_mul_ediv_self_add (by omega);generalize hQ:4*C*n / (-d)=Q at*;have hQb:Q≤40000000000:=by have:1*Q≤(-d)*Q:=Int.mul_le_mul_of_nonneg_right (by omega) hq1;omega
 obtain⟨bd,g1,g2,g3,g4,g5⟩:=zZN (q:=Q) hq1 (by omega);have hbd:bd≤200000:=by
  rcases Int.lt_or_le 200000 bd with h|h
  ·have:200001*200001≤bd*bd:=Int.mul_le_mul (by omega) (by omega) (by omega) (by omega);omega
  ·exact h
 -- every solution lies within the bound
 have hin:∀p,Sol A B C n p→p.1≤bd∧-bd≤p.1:=by
  rintro⟨x,y⟩ hp;have h1:=(z3t hC1 hd).1 hp;have h2:=sqn (2*C*y+B*x);have h3:(-d)*(x*x)≤4*C*n:=by
   have e:(-d)*(x*x)=-(d*x*x):=by grind
   omega
  have hxx:x*x≤Q:=by
   rcases Int.lt_or_le Q (x*x) with h|h
   ·have:(-d)*(Q+1)≤(-d)*(x*x):=zn (by omega) (by omega);have e:(-d)*(Q+1)=(-d)*Q+(-d):=by grind
    omega
   ·exact h
  have hab:x.natAbs≤bd.natAbs:=by
   rcases Nat.lt_or_ge bd.natAbs x.natAbs with h|h
   ·have h4:(bd.natAbs+1)*(bd.natAbs+1)≤x.natAbs*x.natAbs:=Nat.mul_le_mul h h;have h5:x*x=((x.natAbs*x.natAbs:Nat):Int):=Int.natAbs_mul_self.symm;have h6:(bd+1)*(bd+1)=(((bd.natAbs+1)*(bd.natAbs+1):Nat):Int):=by
     have:bd=(bd.natAbs:Int):=by omega
     rw[this];simp
    omega
   ·exact h
  show x≤bd∧-bd≤x;omega
 obtain⟨l,k1,k2,k3,k4⟩:=z1h (bd:=bd) hC1 hC hB1 hB hd hd1 hd2 hn1 hn g2 hbd FU (-bd) [] (by omega) (by omega) (by omega) List.Pairwise.nil (fun p=>by
  constructor
  ·intro h;cases h
  ·rintro⟨a,b,c⟩;omega) (by omega) (by simp;omega)
 refine⟨l,?_,k2,k3,fun p=>?_⟩
 ·have ez:nz (-d)=some ():=nzOk (by omega);have eb:w64 (0 - bd)=-bd:=by rw[zB (by omega)];omega
  simp only[zD6,hdw,Option.bind_some,ew,ez,e4,hquo,hQ];rw[zB (n:=Q) (by omega),g1];simp only[Option.bind_some,zO,eb,k1]
 ·rw[k4];exact⟨fun h=>h.1,fun h=>⟨h,(hin p h).1,(hin p h).2⟩⟩
theorem z2A(l:List (Int×Int))(p:Int×Int)(hl:l.length≤10000000):∀(n k:Nat),k≤l.length→l.length - k<n→zDg l p n (k:Int)=some (if p∈l.drop k then .inr true else .inl ())
 |0,k,h0,h1=>by omega
 |n+1,k,h0,h1=>by
  unfold zDg;rw[zS];by_cases hk:k<l.length
  ·have e3:l.drop k=l[k]::l.drop (k+1):=List.drop_eq_getElem_cons hk;rw[zb (by omega),za,zDz hk];simp only[Option.bind_some,zO,zEJ (show k<1000000000 by omega)];by_cases he:l[k]=p
   ·have e1:((l[k]).1==p.1&&(l[k]).2==p.2)=true:=by rw[he];simp
    rw[e1,za,e3,if_pos (by rw[he];exact zk)]
   ·have e1:((l[k]).1==p.1&&(l[k]).2==p.2)=false:=by
     cases hb:((l[k]).1==p.1&&(l[k]).2==p.2) with
     |false=>rfl
     |true=>rw[zh]at hb;exact absurd (Prod.ext (eq_of_beq hb.1) (eq_of_beq hb.2)) he
    rw[e1,cond_false,z2A l p hl n (k+1) (by omega) (by omega),e3];by_cases hm:p∈l.drop (k+1)
    ·rw[if_pos hm,if_pos (zl _ hm)]
    ·rw[if_neg hm,if_neg (by
      intro h;rcases List.mem_cons.1 h with h|h
      ·exact he h.symm
      ·exact hm h)]
  ·rw[zc (by omega),cond_false,List.drop_eq_nil_of_le (by omega),if_neg (by simp)]
theorem z6j(l:List (Int×Int))(p:Int×Int)(hl:l.length≤10000000):zER l p=some (decide (p∈l)):=by
 have hFe:FU=1000000000:=rfl;have:=z2A l p hl FU 0 (by omega) (by omega);have this:zDg l p FU 0=some (if p∈l then .inr true else .inl ()):=this;unfold zER;rw[this];by_cases h:p∈l
 ·rw[if_pos h,zb h];rfl
 ·rw[if_neg h,zc h];rfl
def lexB(p q:Int×Int):Bool:=ltI p.1 q.1||(eqI p.1 q.1&&ltI p.2 q.2)
theorem zZe{p q:Int×Int}:lexB p q=true↔lexL p q:=by unfold lexB lexL;rw[zS,zS,zBD];simp
theorem z1g(l:List (Int×Int))(p:Int×Int)(hl:l.length≤10000000):∀(n k:Nat),k≤l.length→l.length - k<n→(∀j,j<k→∀q,l[j]?=some q→lexL q p)→∃m,zDf l p n (k:Int)=some ((m:Nat):Int)∧m≤l.length∧(∀j,j<m→∀q,l[j]?=some q→lexL q p)∧(∀q,l[m]?=some q→¬lexL q p)
 |0,k,h0,h1,h2=>by omega
 |n+1,k,h0,h1,h2=>by
  unfold zDf;rw[zS];by_cases hk:k<l.length
  ·have ec:((getI l (k:Int)).bind fun e7=>(bif (ltI e7.1 p.1) then some true else ((getI l (k:Int)).bind fun e9=>(bif (eqI e9.1 p.1) then ((getI l (k:Int)).bind fun e11=>some (ltI e11.2 p.2)) else some false).bind fun b12=>some b12)).bind fun b13=>some b13)=some (lexB l[k] p):=by
    rw[zDz hk];simp only[Option.bind_some];unfold lexB;cases ltI l[k].1 p.1<;>cases eqI l[k].1 p.1<;>rfl
   rw[zb (by omega),za,ec];simp only[Option.bind_some,zO,zEJ (show k<1000000000 by omega)];cases hb:lexB l[k] p with
   |true=>
    rw[za];refine z1g l p hl n (k+1) (by omega) (by omega) fun j hj q hq=>?_
    by_cases hjk:j=k
    ·subst hjk;rw[zu hk]at hq;injection hq with hq;subst hq;exact zZe.1 hb
    ·exact h2 j (by omega) q hq
   |false=>rw[cond_false];refine⟨k,rfl,by omega,h2,fun q hq=>?_⟩;rw[zu hk]at hq;injection hq with hq;subst hq;intro h;rw[zZe.2 h]at hb;cases hb
  ·rw[zc (by omega)];simp only[cond_false,Option.bind_some];refine⟨k,rfl,h0,h2,fun q hq=>?_⟩;rw[List.getElem?_eq_none (by omega)]at hq;cases hq
theorem z3x{n:Nat}{l h:Int}(h1:0≤l)(h2:l≤h)(h3:h≤n):slc n l h=some ():=by unfold slc;rw[qK,qK,qK,zb h1,zb h2,zb h3];rfl
theorem z6d{p q:Int×Int}(h:¬lexL q p)(hne:q≠p):lexL p q:=by unfold lexL at*;have:¬(q.1=p.1∧q.2=p.2):=fun e=>hne (Prod.ext e.1 e.2);omega
theorem z8u{p q r:Int×Int}(h:lexL p q)(h2:lexL q r):lexL p r:=by unfold lexL at*;omega
theorem z6Z(l:List (Int×Int))(p:Int×Int)(hl:l.length≤10000000)(hs:Srt l)(hp:p∉l):∃l2,zFH l p=some l2∧Srt l2∧l2.length=l.length+1∧∀q,q∈l2↔q∈l∨q=p:=by
 have hFe:FU=1000000000:=rfl;obtain⟨m,g1,g2,g3,g4⟩:=z1g l p hl FU 0 (by omega) (by omega) (fun j hj=>by omega);have g1:zDf l p FU 0=some ((m:Nat):Int):=g1;have e1:subl l 0 ((m:Nat):Int)=l.take m:=by simp[subl]
 have e2:subl l ((m:Nat):Int) (l.length:Int)=l.drop m:=by simp only[subl,zg];rw[List.take_of_length_le (by simp)]
 refine⟨(([]++l.take m)++[p])++l.drop m,?_,?_,?_,?_⟩
 ·simp only[zFH,g1,Option.bind_some,z3x (show (0:Int)≤0 by omega) (show (0:Int)≤(m:Int) by omega) (show (m:Int)≤(l.length:Int) by omega),z3x (show (0:Int)≤(m:Int) by omega) (show (m:Int)≤(l.length:Int) by omega) (show (l.length:Int)≤(l.length:Int) by omega),e1,e2];rw[zCw (by simp;omega)];simp only[Option.bind_some];rw[zCw (by simp;omega)];simp only[Option.bind_some];rw[zCw (by simp;omega)];rfl
 ·have hs2:Srt (l.take m++l.drop m):=by rw[List.take_append_drop];exact hs
  unfold Srt at hs2 ⊢;rw[List.pairwise_append]at hs2;obtain⟨s1,s2,s3⟩:=hs2;have hlow:∀a∈l.take m,lexL a p:=by
   intro a ha;obtain⟨j,hj⟩:=List.getElem?_of_mem ha;have hjm:j<m:=by
    rcases Nat.lt_or_ge j m with h|h
    ·exact h
    ·rw[List.getElem?_eq_none (by simp;omega)]at hj;cases hj
   rw[List.getElem?_take_of_lt hjm]at hj;exact g3 j hjm a hj
  have hhigh:∀b∈l.drop m,lexL p b:=by
   intro b hb;have hbl:b∈l:=List.mem_of_mem_drop hb;have hbp:b≠p:=fun e=>hp (e▸hbl);by_cases hm:m<l.length
   ·have e3:l.drop m=l[m]::l.drop (m+1):=List.drop_eq_getElem_cons hm;have hmp:l[m]≠p:=fun e=>hp (e▸zt hm);have h5:=z6d (g4 _ (zu hm)) hmp;rw[e3]at hb s2;rcases List.mem_cons.1 hb with h|h
    ·rw[h];exact h5
    ·exact z8u h5 ((List.pairwise_cons.1 s2).1 b h)
   ·rw[List.drop_eq_nil_of_le (by omega)]at hb;cases hb
  rw[zq,List.pairwise_append,List.pairwise_append];refine⟨⟨s1,List.pairwise_singleton _ _,fun a ha b hb=>?_⟩,s2,fun a ha b hb=>?_⟩
  ·rw[qc]at hb;subst hb;exact hlow a ha
  ·rw[zm,qc]at ha;rcases ha with ha|ha
   ·exact s3 a ha b hb
   ·subst ha;exact hhigh b hb
 ·simp;omega
 ·intro q;rw[zm,zm,zq,qc]
  conv=>rhs;rw[←List.take_append_drop m l,zm]
  constructor
  ·rintro ((h|h)|h)
   ·exact .inl (.inl h)
   ·exact .inr h
   ·exact .inl (.inr h)
  ·rintro ((h|h)|h)
   ·exact .inl (.inl h)
   ·exact .inr h
   ·exact .inl (.inr h)
def tryR(A B v r:Int)(out:List (Int×Int)):Option (List (Int×Int)):=
 (nz (w64 (2*A))).bind fun _=>
 bif eqI (Int.tmod (w64 (r - w64 (B*v))) (w64 (2*A))) 0 then
  (nz (w64 (2*A))).bind fun _=>(zER out (w64 (Int.tdiv (w64 (r - w64 (B*v))) (w64 (2*A))),v)).bind fun y=>bif !y then zFH out (w64 (Int.tdiv (w64 (r - w64 (B*v))) (w64 (2*A))),v) else some out
 else some out
theorem z1Q{A B v r:Int}{out:List (Int×Int)}(hA1:1≤A)(hA:A≤1000000)(hB1:-1000000≤B)(hB:B≤1000000)(hv:v.natAbs≤200000)(hr:r.natAbs≤1000000000)(hl:out.length≤9000000)(hs:Srt out):
  ∃o,tryR A B v r out=some o∧Srt o∧o.length≤out.length+1∧∀q,q∈o↔q∈out∨(q.2=v∧2*A*q.1=r - B*v):=by
 have b1:=zN (x:=B) (y:=v) (A:=1000000) (B:=200000) (by omega) hv;have e1:w64 (r - w64 (B*v))=r - B*v:=by rw[qH (n:=B*v) (by omega),qH (by omega)]
 have e2:w64 (2*A)=2*A:=zB (by omega);have hne:(2*A:Int)≠0:=by omega
 have hz:nz (2*A)=some ():=nzOk hne;unfold tryR;rw[e1,e2,hz];simp only[Option.bind_some];cases h1:eqI (Int.tmod (r - B*v) (2*A)) 0 with
 |true=>
  have m1:=zMt hne h1;generalize hx:Int.tdiv (r - B*v) (2*A)=x;rw[hx]at m1;have hxs:x.natAbs≤2000000000000:=by have h3:(2*A*x).natAbs=(2*A).natAbs*x.natAbs:=Int.natAbs_mul _ _;rw[m1]at h3;have h4:1*x.natAbs≤(2*A).natAbs*x.natAbs:=Nat.mul_le_mul_right _ (by omega);omega
  rw[za,qH (n:=x) (by omega),z6j _ _ (by omega)];simp only[Option.bind_some];have huni:∀q:Int×Int,(q.2=v∧2*A*q.1=r - B*v)↔q=(x,v):=by
   rintro⟨q1,q2⟩;constructor
   ·rintro⟨h,h'⟩;have h:q2=v:=h;have h':2*A*q1=r - B*v:=h';have:q1=x:=Int.eq_of_mul_eq_mul_left hne (by omega);rw[h,this]
   ·intro h;obtain⟨rfl,rfl⟩:=Prod.mk.inj h;exact⟨rfl,m1⟩
  by_cases hm:(x,v)∈out
  ·rw[zb hm];refine⟨out,rfl,hs,by omega,fun q=>?_⟩;rw[huni];constructor
   ·exact fun h=>.inl h
   ·rintro (h|h)
    ·exact h
    ·rw[h];exact hm
  ·rw[zc hm];obtain⟨l2,k1,k2,k3,k4⟩:=z6Z out (x,v) (by omega) hs hm;refine⟨l2,by simp only[zf,za,k1],k2,by omega,fun q=>?_⟩;rw[huni,k4]
 |false=>
  refine⟨out,rfl,hs,by omega,fun q=>?_⟩;constructor
  ·exact fun h=>.inl h
  ·rintro (h|⟨_,h⟩)
   ·exact h
   ·rw[(zJ9 hne h).1]at h1;cases h1
theorem zZh{A B C v s t14 t16 t22 n y3 y4 r:Int}{out:List (Int×Int)}{fu:Nat}{t:Int}(ht:ltI t t22=true)(hg:getI [s,w64 (0 - s)] t=some r):
  zAp v (A,B,C) t14 t16 t22 n s y3 y4 (fu+1) out t=(tryR A B v r out).bind fun o=>zAp v (A,B,C) t14 t16 t22 n s y3 y4 fu o (w64 (t+1)):=by
 rw[zAp,ht,za,hg];simp only[Option.bind_some,zO];unfold tryR;cases nz (w64 (2*A)) with
 |none=>rfl
 |some u=>
  simp only[Option.bind_some];cases eqI (Int.tmod (w64 (r - w64 (B*v))) (w64 (2*A))) 0 with
  |false=>rfl
  |true=>
   simp only[za];cases zER out (w64 (Int.tdiv (w64 (r - w64 (B*v))) (w64 (2*A))),v) with
   |none=>rfl
   |some b=>cases b<;>rfl
theorem z1y{A B C v s t14 t16 n y3 y4:Int}{out:List (Int×Int)}(hA1:1≤A)(hA:A≤1000000)(hB1:-1000000≤B)(hB:B≤1000000)(hv:v.natAbs≤200000)(hs0:0≤s)(hs1:s≤1000000000)(hl:out.length≤8000000)(hs:Srt out):
  ∃o,zAp v (A,B,C) t14 t16 2 n s y3 y4 FU out 0=some o∧Srt o∧o.length≤out.length+2∧∀q,q∈o↔q∈out∨(q.2=v∧(2*A*q.1+B*v)*(2*A*q.1+B*v)=s*s):=by
 obtain⟨m,hm⟩:∃m,FU=m+1+1+1:=⟨FU - 3,rfl⟩
 have en:w64 (0 - s)=-s:=by rw[zB (by omega)];omega
 obtain⟨o1,k1,k2,k3,k4⟩:=z1Q (out:=out) (r:=s) hA1 hA hB1 hB hv (by omega) (by omega) hs;obtain⟨o2,j1,j2,j3,j4⟩:=z1Q (out:=o1) (r:=-s) hA1 hA hB1 hB hv (by omega) (by omega) k2;have g0:getI [s,w64 (0 - s)] 0=some s:=rfl;have g1:getI [s,w64 (0 - s)] 1=some (w64 (0 - s)):=rfl;refine⟨o2,?_,j2,by omega,fun q=>?_⟩
 ·rw[hm,zZh rfl g0,k1,Option.bind_some,show w64 (0+1)=1 from rfl,zZh rfl g1,en,j1,Option.bind_some,show w64 (1+1)=2 from rfl,zAp];rfl
 ·rw[j4,k4];constructor
  ·rintro ((h|⟨a,b⟩)|⟨a,b⟩)
   ·exact .inl h
   ·refine .inr ⟨a,?_⟩;rw[show 2*A*q.1+B*v=s by omega]
   ·refine .inr ⟨a,?_⟩;rw[show 2*A*q.1+B*v=-s by omega];grind
  ·rintro (h|⟨a,b⟩)
   ·exact .inl (.inl h)
   ·have:s*s<(s+1)*(s+1):=by
     have:(s+1)*(s+1)=s*s+2*s+1:=by grind
     omega
    rcases zPW hs0 (Int.le_refl (s*s)) this b with e|e
    ·exact .inl (.inr ⟨a,by omega⟩)
    ·exact .inr ⟨a,by omega⟩
theorem zZi{A B C s t14 n y3 y v:Int}{out:List (Int×Int)}{fu:Nat}{t:Int}(ht:ltI t t14=true)(hg:getI [y,w64 (0 - y)] t=some v):
  zCS (A,B,C) t14 n s y3 y (fu+1) out t=(zAp v (A,B,C) t14 t 2 n s y3 y FU out 0).bind fun o=>zCS (A,B,C) t14 n s y3 y fu o (w64 (t+1)):=by
 rw[zCS,ht,za,hg];simp only[Option.bind_some,zO];rfl
theorem z6e{A B C s n y3 y:Int}{out:List (Int×Int)}(hA1:1≤A)(hA:A≤1000000)(hB1:-1000000≤B)(hB:B≤1000000)(hy0:0≤y)(hy:y≤200000)(hs0:0≤s)(hs1:s≤1000000000)(hl:out.length≤7000000)(hs:Srt out):
  ∃o,zCS (A,B,C) 2 n s y3 y FU out 0=some o∧Srt o∧o.length≤out.length+4∧∀q,q∈o↔q∈out∨((q.2=y∨q.2=-y)∧(2*A*q.1+B*q.2)*(2*A*q.1+B*q.2)=s*s):=by
 obtain⟨m,hm⟩:∃m,FU=m+1+1+1:=⟨FU - 3,rfl⟩
 have en:w64 (0 - y)=-y:=by rw[zB (by omega)];omega
 obtain⟨o1,k1,k2,k3,k4⟩:=z1y (C:=C) (out:=out) (v:=y) (s:=s) (t14:=2) (t16:=0) (n:=n) (y3:=y3) (y4:=y) hA1 hA hB1 hB (by omega) hs0 hs1 (by omega) hs;obtain⟨o2,j1,j2,j3,j4⟩:=z1y (C:=C) (out:=o1) (v:=-y) (s:=s) (t14:=2) (t16:=1) (n:=n) (y3:=y3) (y4:=y) hA1 hA hB1 hB (by omega) hs0 hs1 (by omega) k2;have g0:getI [y,w64 (0 - y)] 0=some y:=rfl;have g1:getI [y,w64 (0 - y)] 1=some (w64 (0 - y)):=rfl;refine⟨o2,?_,j2,by omega,fun q=>?_⟩
 ·rw[hm,zZi rfl g0,k1,Option.bind_some,show w64 (0+1)=1 from rfl,zZi rfl g1,en,j1,Option.bind_some,show w64 (1+1)=2 from rfl,zCS];rfl
 ·rw[j4,k4];constructor
  ·rintro ((h|⟨a,b⟩)|⟨a,b⟩)
   ·exact .inl h
   ·exact .inr ⟨.inl a,by rw[a];exact b⟩
   ·exact .inr ⟨.inr a,by rw[a];exact b⟩
  ·rintro (h|⟨a|a,b⟩)
   ·exact .inl (.inl h)
   ·exact .inl (.inr ⟨a,by rw[a]at b;exact b⟩)
   ·exact .inr ⟨a,by rw[a]at b;exact b⟩
theorem z1C{A B C d n:Int}(hA1:1≤A)(hA:A≤1000000)(hB1:-1000000≤B)(hB:B≤1000000)(hd:B*B - 4*A*C=d)(hd1:-2000≤d)(hd2:d≤-3)(hn1:1≤n)(hn:n≤10000):
  ∀(fu:Nat)(y:Int)(acc:List (Int×Int)),0≤y→y≤200001→200002 - y<fu→Srt acc→(∀p,p∈acc↔Sol A B C n p∧-y<p.2∧p.2<y)→(acc.length:Int)≤4*y→
  ∃l,zED (A,B,C) n d fu y acc=some l∧Srt l∧l.length≤1000000∧∀p,p∈l↔Sol A B C n p
 |0,y,acc,h1,h2,h3,_,_,_=>by omega
 |fu+1,y,acc,h1,h2,h3,hs,hm,hl=>by
  rw[zED];have b1:=zN (x:=d) (y:=y) (A:=2000) (B:=200001) (by omega) (by omega);have b2:=zN (x:=d*y) (y:=y) (A:=2000*200001) (B:=200001) b1 (by omega);have b3:=zN (x:=4*A) (y:=n) (A:=4000000) (B:=10000) (by omega) (by omega);have e0:w64 (0 - d)=-d:=by rw[zB (by omega)];omega
  have eN:-d*y*y=-(d*y*y):=by grind
  have eM:-d*y=-(d*y):=by grind
  have ec1:w64 (w64 (w64 (0 - d)*y)*y)=-(d*y*y):=by rw[e0,qH (n:=-d*y) (by rw[eM];omega),qH (by rw[eN];omega),eN]
  have ec2:w64 (w64 (4*A)*n)=4*A*n:=by rw[qH (n:=4*A) (by omega),qH (by omega)]
  have ec3:w64 (w64 (w64 (d*y)*y)+4*A*n)=d*y*y+4*A*n:=by rw[qH (n:=d*y) (by omega),qH (n:=d*y*y) (by omega),qH (by omega)]
  have hw1:w64 (y+1)=y+1:=zB (by omega);simp only[ec1,ec2,ec3,qK,Option.bind_some];by_cases hy:-(d*y*y)≤4*A*n
  ·have hyb:y≤200000:=by
    rcases Int.lt_or_le 200000 y with h|h
    ·exfalso
     have e5:y=200001:=by omega
     subst e5;have:d*200001*200001≤-3*200001*200001:=by omega
     omega
    ·exact h
   rw[zb hy,za];generalize hq:d*y*y+4*A*n=q;have hq0:0≤q:=by omega
   obtain⟨s,g1,g2,g3,g4,g5⟩:=z2n hq0 (by omega);have hss:=zN (x:=s) (y:=s) (A:=1000000000) (B:=1000000000) (by omega) (by omega);rw[g1];simp only[Option.bind_some];rw[qH (n:=s*s) (by omega)];have hsol:∀p:Int×Int,(p.2=y∨p.2=-y)→(Sol A B C n p↔(2*A*p.1+B*p.2)*(2*A*p.1+B*p.2)=q):=by
    rintro⟨p1,p2⟩ hp;rw[z3u hA1 hd];have:d*p2*p2=d*y*y:=by
     rcases hp with h|h
     ·have h:p2=y:=h;rw[h]
     ·have h:p2=-y:=h;rw[h];grind
    rw[this,hq]
   by_cases hsq:s*s=q
   ·rw[hsq,zGK];have l2:(([y,w64 (0 - y)].length:Nat):Int)=2:=rfl;obtain⟨o,k1,k2,k3,k4⟩:=z6e (C:=C) (n:=n) (y3:=d) (out:=acc) hA1 hA hB1 hB h1 hyb g2 g3 (by omega) hs;simp only[Bool.not_true,Option.bind_some,cond_false,zO,l2,k1,hw1];refine z1C hA1 hA hB1 hB hd hd1 hd2 hn1 hn fu (y+1) o (by omega) (by omega) (by omega) k2 (fun p=>?_) (by omega);rw[k4,hm,hsq];constructor
    ·rintro (⟨a,b,c⟩|⟨a,b⟩)
     ·exact⟨a,by omega,by omega⟩
     ·exact⟨(hsol p a).2 b,by omega,by omega⟩
    ·rintro⟨a,b,c⟩;by_cases hp:p.2=y∨p.2=-y
     ·exact .inr ⟨hp,(hsol p hp).1 a⟩
     ·exact .inl ⟨a,by omega,by omega⟩
   ·rw[eqNe hsq];simp only[zf,Option.bind_some,za,zO,hw1];refine z1C hA1 hA hB1 hB hd hd1 hd2 hn1 hn fu (y+1) acc (by omega) (by omega) (by omega) hs (fun p=>?_) (by omega);rw[hm];constructor
    ·rintro⟨a,b,c⟩;exact⟨a,by omega,by omega⟩
    ·rintro⟨a,b,c⟩;by_cases hp:p.2=y∨p.2=-y
     ·exfalso
      have h5:=(hsol p hp).1 a;rcases zPW g2 g4 g5 h5 with e|e
      ·exact hsq (by rw[←e];exact h5)
      ·exact hsq (by rw[e]at h5;rw[←h5];grind)
     ·exact⟨a,by omega,by omega⟩
  ·rw[zc hy,cond_false];refine⟨acc,rfl,hs,by omega,fun p=>?_⟩;rw[hm];constructor
   ·exact fun h=>h.1
   ·intro h;obtain⟨p1,p2⟩:=p;have h5:=(z3u hA1 hd).1 h;have h6:=sqn (2*A*p1+B*p2);have hpy:p2.natAbs<y.natAbs:=by
     rcases Nat.lt_or_ge p2.natAbs y.natAbs with h7|h7
     ·exact h7
     ·exfalso
      have h8:y.natAbs*y.natAbs≤p2.natAbs*p2.natAbs:=Nat.mul_le_mul h7 h7;have h9:y*y=((y.natAbs*y.natAbs:Nat):Int):=Int.natAbs_mul_self.symm;have h10:p2*p2=((p2.natAbs*p2.natAbs:Nat):Int):=Int.natAbs_mul_self.symm;have h11:(-d)*(y*y)≤(-d)*(p2*p2):=zn (by omega) (by omega);have e1:(-d)*(y*y)=-(d*y*y):=by grind
      have e2:(-d)*(p2*p2)=-(d*p2*p2):=by grind
      omega
    exact⟨h,by show -y<p2;omega,by show p2<y;omega⟩
theorem z9T{A B C n:Int}(hA1:1≤A)(hA:A≤1000000)(hB1:-1000000≤B)(hB:B≤1000000)(hdw:qC (A,B,C)=some (B*B - 4*A*C))(hd1:-2000≤B*B - 4*A*C)(hd2:B*B - 4*A*C≤-3)(hn1:1≤n)(hn:n≤10000):
  ∃l,zHB (A,B,C) n=some l∧Srt l∧l.length≤1000000∧∀p,p∈l↔Sol A B C n p:=by
 have hFe:((FU:Nat):Int)=1000000000:=rfl;obtain⟨l,k1,k2,k3,k4⟩:=z1C (A:=A) (B:=B) (C:=C) hA1 hA hB1 hB rfl hd1 hd2 hn1 hn FU 0 [] (by omega) (by omega) (by omega) List.Pairwise.nil (fun p=>by
  constructor
  ·intro h;cases h
  ·rintro⟨a,b,c⟩;omega) (by simp)
 refine⟨l,?_,k2,k3,k4⟩;simp only[zHB,zGL,hdw,Option.bind_some,k1]
theorem txl{x:List UInt8}{r:List (List UInt8)}(hN:r.length≤15)(hL:∀y∈x::r,y.length≤1000):(bl (x++Go.Lib.joinTail [32] r)).size≤20000:=by have h1:=hL x zk;have h2:=zSz r fun y hy=>hL y (zl _ hy);rw[zGN,zd];omega
theorem zC3{n:Int}(h:inN n=true):sm18 n:=by rw[qO]at h;unfold sm18;omega
theorem z1Z(n:Int):zCd n=zAY n:=by simp only[zCd,zAX,zAY,Option.bind_some]
theorem zTy{l:List (Int×Int)}(hl:l.length≤1000000)(hb:∀p∈l,p.1.natAbs≤100000000000000∧p.2.natAbs≤100000000000000):∀(fu k:Nat)(acc:List (Int×Int)),k≤l.length→l.length - k<fu→acc.length≤k→(∀p∈acc,p∈l∧Int.gcd p.1 p.2=1)→
  ∃r,zAv l fu (k:Int) acc=some r∧jW (l,true) fu (k:Int) acc=some r∧(∀p∈r,p∈l∧Int.gcd p.1 p.2=1)
 |0,k,acc,h0,h1,h2,h3=>by omega
 |fu+1,k,acc,h0,h1,h2,h3=>by
  unfold zAv jW;dsimp only;rw[zS];by_cases hk:k<l.length
  ·obtain⟨c1,c2⟩:=hb (l[k]) (zt hk);rw[zb (by omega),za,za,zDz hk];simp only[Option.bind_some,zNB (a:=l[k].1) (b:=l[k].2) (by omega) (by omega),zJo (a:=l[k].1) (b:=l[k].2) (by omega) (by omega),zO,zEJ (show k<1000000000 by omega)];cases hg:eqI (Int.gcd l[k].1 l[k].2:Int) 1 with
   |true=>
    rw[za,za,zCw (by simp;omega)];simp only[Option.bind_some];refine zTy hl hb fu (k+1) _ (by omega) (by omega) (by simp;omega) fun p hp=>?_
    rw[zm,qc]at hp;rcases hp with hp|hp
    ·exact h3 p hp
    ·rw[zBD,beq_iff_eq]at hg;rw[hp];exact⟨zt hk,by omega⟩
   |false=>rw[cond_false,cond_false];exact zTy hl hb fu (k+1) acc (by omega) (by omega) (by omega) h3
  ·rw[zc (by omega),cond_false,cond_false];exact⟨acc,rfl,rfl,h3⟩
theorem z8U{A B C d n:Int}(hA1:1≤A)(hA:A≤1000000)(hC1:1≤C)(hC:C≤1000000)(hd:B*B - 4*A*C=d)(hd2:d≤-3)(hn1:1≤n)(hn:n≤10000){p:Int×Int}(h:Sol A B C n p):p.1.natAbs≤200000∧p.2.natAbs≤200000:=by
 obtain⟨x,y⟩:=p;have aux:∀{E z w:Int},1≤E→E≤1000000→w*w=d*z*z+4*E*n→z.natAbs≤200000:=by
  intro E z w h1 h2 h3;have h4:=sqn w;have h5:=sqn z;have e1:(-d)*(z*z)=-(d*z*z):=by grind
  have h6:1*(z*z)≤(-d)*(z*z):=Int.mul_le_mul_of_nonneg_right (by omega) h5;have b3:=zN (x:=4*E) (y:=n) (A:=4000000) (B:=10000) (by omega) (by omega);rcases Nat.lt_or_ge 200000 z.natAbs with h|h
  ·have h7:200001*200001≤z.natAbs*z.natAbs:=Nat.mul_le_mul h h;have h8:z*z=((z.natAbs*z.natAbs:Nat):Int):=Int.natAbs_mul_self.symm;omega
  ·exact h
 exact⟨aux hC1 hC ((z3t hC1 hd).1 h),aux hA1 hA ((z3u hA1 hd).1 h)⟩
theorem zQ6(f:Int×Int×Int)(n:Int):∃l b,zAl f n=some (l,b)∧jJ f n=some (l,b)∧(b=true→(inN f.1=true∧inN f.2.1=true∧inN f.2.2=true)∧(1≤n∧n≤10000)∧∀p∈l,p.1.natAbs≤200000∧p.2.natAbs≤200000∧Int.gcd p.1 p.2=1∧Sol f.1 f.2.1 f.2.2 n p)∧(b=false→l=[]):=by
 have hF:FU=1000000000:=rfl;have hz:jW ([],false) FU 0 []=some []:=by
  obtain⟨m,hm⟩:∃m,FU=m+1:=⟨FU - 1,by omega⟩
  rw[hm];rfl
 obtain⟨A,B,C⟩:=f;obtain⟨b,hb⟩:=zIR (A,B,C);have hn0:zAY n=some (bif decide (1≤n) then decide (n≤10000) else false):=by simp only[zAY,qK]
 cases b with
 |false=>
  refine⟨[],false,?_,?_,(fun h=>by cases h),fun _=>rfl⟩
  ·simp only[zAl,zJn,hb,Option.bind_some];rfl
  ·simp only[jJ,zB0,hb,Option.bind_some,zf,za,hz]
 |true=>
  obtain⟨i1,i2,i3,d1,d2,a1⟩:=zIQ hb;have hdv:=zPb i1 i2 i3;have j1:=qO.1 i1;have j2:=qO.1 i2;have j3:=qO.1 i3;by_cases hn:1≤n∧n≤10000
  ·have hc1:1≤C:=by
    rcases Int.lt_or_le 0 C with h|h
    ·exact h
    ·have h1:4*A*C≤4*A*0:=zn h (by omega);have h2:=sqn B;omega
   have d3:B*B - 4*A*C≤-3:=by
    have e1:B*B % 4=0∨B*B % 4=1:=by
     rcases Int.emod_two_eq B with h|h
     ·left;obtain⟨k,hk⟩:∃k,B=2*k:=⟨B / 2,by omega⟩
      rw[hk,show 2*k*(2*k)=4*(k*k) by grind];omega
     ·right;obtain⟨k,hk⟩:∃k,B=2*k+1:=⟨B / 2,by omega⟩
      rw[hk,show (2*k+1)*(2*k+1)=4*(k*k+k)+1 by grind];omega
    have e2:4*A*C=4*(A*C):=by grind
    omega
   obtain⟨l,k1,k2,k3,k4⟩:=z0c (A:=A) (B:=B) (C:=C) (n:=n) (by omega) hc1 (by omega) (by omega) (by omega) hdv (by omega) d3 hn.1 hn.2;obtain⟨l',m1,m2,m3,m4⟩:=z9T (A:=A) (B:=B) (C:=C) (n:=n) (by omega) (by omega) (by omega) (by omega) hdv (by omega) d3 hn.1 hn.2;have hll:l'=l:=z1T m2 k2 fun p=>by rw[m4,k4]
   subst hll;have hbd:∀p∈l',p.1.natAbs≤200000∧p.2.natAbs≤200000:=fun p hp=>z8U (by omega) (by omega) hc1 (by omega) rfl d3 hn.1 hn.2 ((m4 p).1 hp);obtain⟨r,q1,q2,q3⟩:=zTy (l:=l') k3 (fun p hp=>by have:=hbd p hp;omega) FU 0 [] (by omega) (by omega) (by simp) (by simp);have q1:zAv l' FU 0 []=some r:=q1;have q2:jW (l',true) FU 0 []=some r:=q2;refine⟨r,true,?_,?_,fun _=>⟨⟨i1,i2,i3⟩,hn,fun p hp=>⟨(hbd p (q3 p hp).1).1,(hbd p (q3 p hp).1).2,(q3 p hp).2,(m4 p).1 (q3 p hp).1⟩⟩,fun h=>by cases h⟩
   ·simp only[zAl,zJn,hb,z1Z,hn0,zb hn.1,zb hn.2,za,Option.bind_some,Bool.not_true,cond_false,m1,zEQ,q1]
   ·simp only[jJ,zB0,hb,hn0,zb hn.1,zb hn.2,za,Option.bind_some,Bool.not_true,cond_false,k1,q2]
  ·have hc:(bif decide (1≤n) then decide (n≤10000) else false)=false:=by
    by_cases a:1≤n
    ·rw[zb a,za,zc (fun c=>hn ⟨a,c⟩)]
    ·rw[zc a,cond_false]
   refine⟨[],false,?_,?_,(fun h=>by cases h),fun _=>rfl⟩
   ·simp only[zAl,zJn,hb,z1Z,hn0,hc,Option.bind_some];rfl
   ·simp only[jJ,zB0,hb,hn0,hc,Option.bind_some,Bool.not_true,zf,cond_false,za,hz]
theorem z6M(f:Int×Int×Int)(n:Int):∃t b,zBr f n=some (t,b)∧zAe f n=some (t,b)∧t.size≤20000:=by
 obtain⟨l,b,h1,h2,h3,_⟩:=zQ6 f n;simp only[zBr,zAe,h1,h2,Option.bind_some];cases b with
 |false=>exact⟨_,_,rfl,rfl,by decide⟩
 |true=>
  obtain⟨⟨a1,a2,a3⟩,⟨n1,n2⟩,hp⟩:=h3 rfl;cases l with
  |nil=>exact⟨_,_,rfl,rfl,by decide⟩
  |cons p l=>
   obtain⟨p1,p2,_⟩:=hp p zk;have hn:sm18 n:=by unfold sm18;omega
   have hx:sm18 p.1:=by unfold sm18;omega
   have hy:sm18 p.2:=by unfold sm18;omega
   have e0:eqI (((p::l).length:Nat):Int) 0=false:=eqNe (by simp;omega);have eg:getI (p::l) 0=some p:=rfl;have e1:(⟨#[118,97,108,117,101]⟩:qd)=bl [118,97,108,117,101]:=rfl;have hL:∀y∈[118,97,108,117,101]::[fB f,Go.Lib.itoa n,Go.Lib.itoa p.1,Go.Lib.itoa p.2],y.length≤1000:=by
    have b1:=zDC (zC3 a1) (zC3 a2) (zC3 a3);have b2:=qR hn;have b3:=qR hx;have b4:=qR hy;intro y hy;simp only[zj,zo,or_false]at hy;rcases hy with rfl|rfl|rfl|rfl|rfl
    ·decide
    ·omega
    ·omega
    ·omega
    ·omega
   have t1:=zFj [118,97,108,117,101] [fB f,Go.Lib.itoa n,Go.Lib.itoa p.1,Go.Lib.itoa p.2] (by simp) hL;have t2:=zEo [118,97,108,117,101] [fB f,Go.Lib.itoa n,Go.Lib.itoa p.1,Go.Lib.itoa p.2] (by simp) (by simp) hL;simp only[List.map_cons,zp]at t1 t2;simp only[e0,eg,Bool.not_true,cond_false,zDl (zC3 a1) (zC3 a2) (zC3 a3),jA (zC3 a1) (zC3 a2) (zC3 a3),zC1 hn,zC1 hx,zC1 hy,zBa hn,zBa hx,zBa hy,Option.bind_some,e1,t1,t2];exact⟨_,_,rfl,rfl,txl (by simp) hL⟩
end Go.Proofs.YtnjhhbcccgbbnaaGreatDoor
namespace Go.Proofs.YtnjhhbcccgbbnaaGreatDoor
set_option maxRecDepth 100000
def eqLs:List Int→List Int→Bool
 |[],[]=>true
 |a::asq,b::bs=>bif eqI a b then eqLs asq bs else false
 |_,_=>false
theorem z2I:∀{a b:List Int},eqLs a b=true→a=b
 |[],[],_=>rfl
 |[],_::_,h=>by cases h
 |_::_,[],h=>by cases h
 |a::asq,b::bs,h=>by
  unfold eqLs at h;cases h1:eqI a b with
  |false=>rw[h1]at h;cases h
  |true=>rw[h1,za]at h;rw[zBD]at h1;rw[z2I h,eq_of_beq h1]
def obEx(n:Int):List Int→Bool
 |[]=>true
 |p::ps=>bif (bif leI 2 p then leI p 10000 else false) then (match zB7 n p,zAD n p,zBR p with|some a,some b,some true=>bif eqI a b then obEx n ps else false|_,_,_=>false) else false
def obN(n:Int):Bool:=match zDh n,zDj n with
 |some a,some b=>bif eqLs a b then (bif Nat.ble a.length 100 then obEx n a else false) else false
 |_,_=>false
def zEz:Nat→Int→Bool
 |0,_=>true
 |k+1,n=>bif obN n then sI (n+1) (zEz k) else false
theorem z1r{n:Int}:∀{l:List Int},obEx n l=true→∀p∈l,2≤p∧p≤10000∧∃e,zB7 n p=some e∧zAD n p=some e∧zBR p=some true
 |[],_,p,hp=>by cases hp
 |q::ps,h,p,hp=>by
  unfold obEx at h;have h:=h;cases h1:(bif leI 2 q then leI q 10000 else false) with
  |false=>rw[h1]at h;cases h
  |true=>
   rw[h1,za]at h;have h2:2≤q∧q≤10000:=by
    rw[qK,qK]at h1;by_cases a:2≤q
    ·rw[zb a,za]at h1;exact⟨a,of_decide_eq_true h1⟩
    ·rw[zc a,cond_false]at h1;cases h1
   cases h3:zB7 n q with
   |none=>rw[h3]at h;cases h
   |some a=>
    cases h4:zAD n q with
    |none=>rw[h3,h4]at h;cases h
    |some b=>
     cases h6:zBR q with
     |none=>rw[h3,h4,h6]at h;cases h
     |some c=>
      cases c with
      |false=>rw[h3,h4,h6]at h;cases h
      |true=>
       rw[h3,h4,h6]at h;have h:(bif eqI a b then obEx n ps else false)=true:=h;cases h5:eqI a b with
       |false=>rw[h5]at h;cases h
       |true=>
        rw[h5,za]at h;rw[zBD]at h5;rcases List.mem_cons.1 hp with rfl|hp
        ·exact⟨h2.1,h2.2,a,h3,by rw[eq_of_beq h5];exact h4,h6⟩
        ·exact z1r h p hp
theorem z8o{n:Int}(h:obN n=true):∃l,zDh n=some l∧zDj n=some l∧l.length≤100∧∀p∈l,2≤p∧p≤10000∧∃e,zB7 n p=some e∧zAD n p=some e∧zBR p=some true:=by
 unfold obN at h;cases h3:zDh n with
 |none=>rw[h3]at h;cases h
 |some a=>
  cases h4:zDj n with
  |none=>rw[h3,h4]at h;cases h
  |some b=>
   rw[h3,h4]at h;have h7:(bif eqLs a b then (bif Nat.ble a.length 100 then obEx n a else false) else false)=true:=h;clear h;cases h5:eqLs a b with
   |false=>rw[h5]at h7;cases h7
   |true=>
    rw[h5,za]at h7;cases h6:Nat.ble a.length 100 with
    |false=>rw[h6]at h7;cases h7
    |true=>rw[h6,za]at h7;exact⟨a,rfl,by rw[z2I h5],Nat.le_of_ble_eq_true h6,z1r h7⟩
theorem zBh:∀(k:Nat)(m:Int),zEz k m=true→∀n,m≤n→n<m+k→obN n=true
 |0,m,_,n,h1,h2=>by simp at h2;omega
 |k+1,m,h,n,h1,h2=>by
  unfold zEz at h;cases h3:obN m with
  |false=>rw[h3]at h;cases h
  |true=>
   rw[h3,za,zO]at h;by_cases h4:n=m
   ·subst h4;exact h3
   ·exact zBh k (m+1) h n (by omega) (by push_cast at h2;omega)
theorem ob_1:zEz 500 1=true:=by decide+kernel
theorem ob_2:zEz 500 501=true:=by decide+kernel
theorem ob_3:zEz 500 1001=true:=by decide+kernel
theorem ob_4:zEz 500 1501=true:=by decide+kernel
theorem ob_5:zEz 500 2001=true:=by decide+kernel
theorem ob_6:zEz 500 2501=true:=by decide+kernel
theorem ob_7:zEz 500 3001=true:=by decide+kernel
theorem ob_8:zEz 500 3501=true:=by decide+kernel
theorem ob_9:zEz 500 4001=true:=by decide+kernel
theorem ob_10:zEz 500 4501=true:=by decide+kernel
theorem ob_11:zEz 500 5001=true:=by decide+kernel
theorem ob_12:zEz 500 5501=true:=by decide+kernel
theorem ob_13:zEz 500 6001=true:=by decide+kernel
theorem ob_14:zEz 500 6501=true:=by decide+kernel
theorem ob_15:zEz 500 7001=true:=by decide+kernel
theorem ob_16:zEz 500 7501=true:=by decide+kernel
theorem ob_17:zEz 500 8001=true:=by decide+kernel
theorem ob_18:zEz 500 8501=true:=by decide+kernel
theorem ob_19:zEz 500 9001=true:=by decide+kernel
theorem ob_20:zEz 500 9501=true:=by decide+kernel
end Go.Proofs.YtnjhhbcccgbbnaaGreatDoor
namespace Go.Proofs.YtnjhhbcccgbbnaaGreatDoor
theorem z8n(n:Int)(h1:1≤n)(h2:n≤10000):obN n=true:=by
 by_cases a1:n≤500
 ·exact zBh 500 _ ob_1 n (by omega) (by omega)
 by_cases a2:n≤1000
 ·exact zBh 500 _ ob_2 n (by omega) (by omega)
 by_cases a3:n≤1500
 ·exact zBh 500 _ ob_3 n (by omega) (by omega)
 by_cases a4:n≤2000
 ·exact zBh 500 _ ob_4 n (by omega) (by omega)
 by_cases a5:n≤2500
 ·exact zBh 500 _ ob_5 n (by omega) (by omega)
 by_cases a6:n≤3000
 ·exact zBh 500 _ ob_6 n (by omega) (by omega)
 by_cases a7:n≤3500
 ·exact zBh 500 _ ob_7 n (by omega) (by omega)
 by_cases a8:n≤4000
 ·exact zBh 500 _ ob_8 n (by omega) (by omega)
 by_cases a9:n≤4500
 ·exact zBh 500 _ ob_9 n (by omega) (by omega)
 by_cases a10:n≤5000
 ·exact zBh 500 _ ob_10 n (by omega) (by omega)
 by_cases a11:n≤5500
 ·exact zBh 500 _ ob_11 n (by omega) (by omega)
 by_cases a12:n≤6000
 ·exact zBh 500 _ ob_12 n (by omega) (by omega)
 by_cases a13:n≤6500
 ·exact zBh 500 _ ob_13 n (by omega) (by omega)
 by_cases a14:n≤7000
 ·exact zBh 500 _ ob_14 n (by omega) (by omega)
 by_cases a15:n≤7500
 ·exact zBh 500 _ ob_15 n (by omega) (by omega)
 by_cases a16:n≤8000
 ·exact zBh 500 _ ob_16 n (by omega) (by omega)
 by_cases a17:n≤8500
 ·exact zBh 500 _ ob_17 n (by omega) (by omega)
 by_cases a18:n≤9000
 ·exact zBh 500 _ ob_18 n (by omega) (by omega)
 by_cases a19:n≤9500
 ·exact zBh 500 _ ob_19 n (by omega) (by omega)
 exact zBh 500 _ ob_20 n (by omega) (by omega)
theorem z0m{d p:Int}(h1:2≤p)(h2:p≤10000):∀(fu k:Nat),(k:Int)≤2*p→2*p - k<fu→
  (∀acc:List Int,acc.length≤k→acc≠[]→∃l,zM d p fu (k:Int) acc=some l∧l≠[]∧l.length≤20000)∧
  ∃l,zM d p fu (k:Int) []=some l∧l.length≤20000∧zB3 d p fu (k:Int)=some (if l=[] then .inl () else .inr true)
 |0,k,h3,h4=>by omega
 |fu+1,k,h3,h4=>by
  have hw:w64 (2*p)=2*p:=zB (by omega);by_cases hk:(k:Int)<2*p
  ·have hz:nz (w64 (4*p))=some ():=nzOk (by rw[zB (by omega)];omega);obtain⟨i1,i2⟩:=z0m (d:=d) h1 h2 fu (k+1) (by omega) (by omega);constructor
   ·intro acc ha hn;unfold zM;rw[zS,hw,zb hk,za,hz];simp only[Option.bind_some,zO,zEJ (show k<1000000000 by omega)];cases eqI (Int.tmod (w64 (w64 ((k:Int)*k) - d)) (w64 (4*p))) 0 with
    |true=>rw[za,zCw (by simp;omega)];simp only[Option.bind_some];exact i1 _ (by simp;omega) (by simp)
    |false=>rw[cond_false];exact i1 acc (by omega) hn
   ·unfold zM zB3;rw[zS,hw,zb hk,za,za,hz];simp only[Option.bind_some,zO,zEJ (show k<1000000000 by omega)];cases eqI (Int.tmod (w64 (w64 ((k:Int)*k) - d)) (w64 (4*p))) 0 with
    |true=>rw[za,za,zCw (by simp)];simp only[Option.bind_some];obtain⟨l,g1,g2,g3⟩:=i1 ([]++[(k:Int)]) (by simp) (by simp);exact⟨l,g1,g3,by rw[if_neg g2]⟩
    |false=>rw[cond_false,cond_false];exact i2
  ·constructor
   ·intro acc ha hn;unfold zM;rw[zS,hw,zc hk,cond_false];exact⟨acc,rfl,hn,by omega⟩
   ·unfold zM zB3;rw[zS,hw,zc hk,cond_false,cond_false];exact⟨[],rfl,by simp,by rw[if_pos rfl]⟩
theorem z6i{d p:Int}(h1:2≤p)(h2:p≤10000):∃l b,qP d p=some l∧zEC d p=some b∧eqI (l.length:Int) 0=!b:=by
 have hF:=FUge;obtain⟨_,l,g1,g2,g3⟩:=z0m (d:=d) h1 h2 FU 0 (by omega) (by omega);have g1:zM d p FU 0 []=some l:=g1;have g3:zB3 d p FU 0=some (if l=[] then .inl () else .inr true):=g3;refine⟨l,!decide (l=[]),?_,?_,?_⟩
 ·simp only[qP,g1,Option.bind_some]
 ·simp only[zEC,g3,Option.bind_some];by_cases hl:l=[]
  ·rw[if_pos hl,zb hl];rfl
  ·rw[if_neg hl,zc hl];rfl
 ·by_cases hl:l=[]
  ·subst hl;rfl
  ·rw[zc hl,eqNe (by
    have:l.length≠0:=fun h=>hl (List.eq_nil_of_length_eq_zero h);omega)]
   rfl
theorem z0n{d n:Int}{l:List Int}(hl:l.length≤100)(h:∀p∈l,2≤p∧p≤10000∧∃e,zB7 n p=some e∧zAD n p=some e∧zBR p=some true):∀(fu k:Nat),k≤l.length→l.length - k<fu→
  ∃r,zAc d n l fu (k:Int)=some r∧zAf d n l fu (k:Int)=some r∧∀q,r=.inr q→2≤q.1∧q.1≤10000∧zBR q.1=some true∧(∃e,zAD n q.1=some e∧eqI (Int.tmod e 2) 1=true)∧qP d q.1=some []
 |0,k,h3,h4=>by omega
 |fu+1,k,h3,h4=>by
  unfold zAc zAf;rw[zS];by_cases hk:k<l.length
  ·obtain⟨p1,p2,e,e1,e2,e3⟩:=h (l[k]) (zt hk);obtain⟨ro,b,r1,r2,r3⟩:=z6i (d:=d) p1 p2;rw[zb (by omega),za,za,zDz hk];simp only[Option.bind_some,e1,e2,r1,r2,r3,zO,zEJ (show k<1000000000 by omega)];cases he:eqI (Int.tmod e 2) 1 with
   |true=>
    simp only[za,Option.bind_some];cases b with
    |true=>exact z0n hl h fu (k+1) (by omega) (by omega)
    |false=>
     refine⟨.inr (l[k],true),rfl,rfl,?_⟩;intro q hq;injection hq with hq;subst hq;have hro:ro=[]:=by rw[zBD,zf,beq_iff_eq]at r3;exact List.eq_nil_of_length_eq_zero (by omega)
     subst hro;exact⟨p1,p2,e3,⟨e,e2,he⟩,r1⟩
   |false=>simp only[cond_false,Option.bind_some];exact z0n hl h fu (k+1) (by omega) (by omega)
  ·rw[zc (by omega),cond_false,cond_false];exact⟨.inl (),rfl,rfl,by intro q hq;cases hq⟩
theorem mod4(d:Int):∃b,jI d 4=some b∧zBO d 4=some b:=by
 have hz:nz 4=some ():=rfl;simp only[jI,zBO,hz,Option.bind_some,zO];cases ltI (Int.tmod d 4) 0 with
 |true=>exact⟨_,rfl,rfl⟩
 |false=>exact⟨_,rfl,rfl⟩
theorem z3J(d:Int):∃b,zC9 d=some b∧zAG d=some b∧(b=true→-2000≤d∧d≤-3):=by
 obtain⟨m,h1,h2⟩:=mod4 d;have hlt:ltI m 2=leI m 1:=by
  rw[zS,qK];by_cases h:m<2
  ·rw[zb h,zb (by omega)]
  ·rw[zc h,zc (by omega)]
 simp only[zC9,zAG,zAX,Option.bind_some,h1,h2,hlt,qK];by_cases a:-2000≤d
 ·by_cases b:d≤-3
  ·rw[zb a,zb b];exact⟨_,rfl,rfl,fun _=>⟨a,b⟩⟩
  ·rw[zb a,zc b];exact⟨false,rfl,rfl,fun h=>by cases h⟩
 ·rw[zc a];exact⟨false,rfl,rfl,fun h=>by cases h⟩
theorem z2E(d n:Int):∃q b,zCE d n=some (q,b)∧zCK d n=some (q,b)∧(b=true→-2000≤d∧d≤-3∧1≤n∧n≤10000∧2≤q∧q≤10000∧zAG d=some true∧zBR q=some true∧(∃e,zAD n q=some e∧eqI (Int.tmod e 2) 1=true)∧qP d q=some []):=by
 have hF:=FUge;obtain⟨b,h1,h2,h3⟩:=z3J d;have hs:zCd n=zAY n:=by simp only[zCd,zAX,zAY,Option.bind_some]
 simp only[zCE,zCK,h1,h2,hs,zAY,Option.bind_some,qK];cases b with
 |false=>exact⟨0,false,rfl,rfl,fun h=>by cases h⟩
 |true=>
  have hd:=h3 rfl;simp only[Bool.not_true,cond_false];by_cases hn:1≤n∧n≤10000
  ·obtain⟨l,g1,g2,g3,g4⟩:=z8o (z8n n hn.1 hn.2);obtain⟨r,k1,k2,k3⟩:=z0n (d:=d) g3 g4 FU 0 (by omega) (by omega);have k1:zAc d n l FU 0=some r:=k1;have k2:zAf d n l FU 0=some r:=k2;rw[zb hn.1,zb hn.2];simp only[za,Bool.not_true,Option.bind_some,cond_false,g1,g2,k1,k2];cases r with
   |inl u=>exact⟨0,false,rfl,rfl,fun h=>by cases h⟩
   |inr q=>exact⟨q.1,q.2,rfl,rfl,fun _=>⟨hd.1,hd.2,hn.1,hn.2,(k3 q rfl).1,(k3 q rfl).2.1,(by first|trivial|exact h2),(k3 q rfl).2.2⟩⟩
  ·have hc:(bif decide (1≤n) then decide (n≤10000) else false)=false:=by
    by_cases a:1≤n
    ·rw[zb a,za,zc (fun c=>hn ⟨a,c⟩)]
    ·rw[zc a,cond_false]
   rw[hc];exact⟨0,false,rfl,rfl,fun h=>by cases h⟩
theorem z67(d n:Int):∃t b,zAh d n=some (t,b)∧jL d n=some (t,b)∧t.size≤20000:=by
 obtain⟨q,b,h1,h2,h3⟩:=z2E d n;simp only[zAh,jL,h1,h2,Option.bind_some];cases b with
 |false=>exact⟨_,false,rfl,rfl,by decide⟩
 |true=>
  obtain⟨d1,d2,n1,n2,q1,q2,_⟩:=h3 rfl;cases ltI 2500 q with
  |true=>exact⟨_,false,rfl,rfl,by decide⟩
  |false=>
   have hd:sm18 d:=by unfold sm18;omega
   have hn:sm18 n:=by unfold sm18;omega
   have hq:sm18 q:=by unfold sm18;omega
   have e1:(⟨#[111,98,115,116,114,117,99,116,105,111,110]⟩:qd)=bl [111,98,115,116,114,117,99,116,105,111,110]:=rfl;have hL:∀y∈[111,98,115,116,114,117,99,116,105,111,110]::[Go.Lib.itoa d,Go.Lib.itoa n,Go.Lib.itoa q],y.length≤1000:=by
    have a1:=qR hd;have a2:=qR hn;have a3:=qR hq;intro y hy;simp only[zj,zo,or_false]at hy;rcases hy with rfl|rfl|rfl|rfl
    ·decide
    ·omega
    ·omega
    ·omega
   have t1:=zFj [111,98,115,116,114,117,99,116,105,111,110] [Go.Lib.itoa d,Go.Lib.itoa n,Go.Lib.itoa q] (by simp) hL;have t2:=zEo [111,98,115,116,114,117,99,116,105,111,110] [Go.Lib.itoa d,Go.Lib.itoa n,Go.Lib.itoa q] (by simp) (by simp) hL;simp only[List.map_cons,zp]at t1 t2;simp only[Bool.not_true,cond_false,zC1 hd,zC1 hn,zC1 hq,zBa hd,zBa hn,zBa hq,e1,t1,t2,Option.bind_some];exact⟨_,true,rfl,rfl,txl (by simp) hL⟩
abbrev M4:=Int×Int×Int×Int
def FV(f:F3)(x y:Int):Int:=f.1*x*x+f.2.1*x*y+f.2.2*y*y
theorem zP2{A B C p q r s a b c:Int}(h:MatInv A B C p q r s a b c)(X Y:Int):FV (a,b,c) X Y=FV (A,B,C) (p*X+q*Y) (r*X+s*Y):=by obtain⟨e1,e2,e3,_⟩:=h;simp only[FV];rw[←e1,←e2,←e3];grind
theorem z3K(a e b c X Y U V:Int):FV (a,b,e*c) X Y*FV (e,b,a*c) U V=FV (a*e,b,c) (X*U - c*(Y*V)) (a*(X*V)+e*(Y*U)+b*(Y*V)):=by simp only[FV];grind
def kP(c:Int)(i j:M4):M4:=(i.1*j.1 - c*(i.2.2.1*j.2.2.1),i.1*j.2.1 - c*(i.2.2.1*j.2.2.2),i.2.1*j.1 - c*(i.2.2.2*j.2.2.1),i.2.1*j.2.1 - c*(i.2.2.2*j.2.2.2))
def kQ(a e b:Int)(i j:M4):M4:=(a*(i.1*j.2.2.1)+e*(i.2.2.1*j.1)+b*(i.2.2.1*j.2.2.1),a*(i.1*j.2.2.2)+e*(i.2.2.1*j.2.1)+b*(i.2.2.1*j.2.2.2),a*(i.2.1*j.2.2.1)+e*(i.2.2.2*j.1)+b*(i.2.2.2*j.2.2.1),a*(i.2.1*j.2.2.2)+e*(i.2.2.2*j.2.1)+b*(i.2.2.2*j.2.2.2))
def kL(x y:Int)(p q:M4):M4:=(x*p.1+y*q.1,x*p.2.1+y*q.2.1,x*p.2.2.1+y*q.2.2.1,x*p.2.2.2+y*q.2.2.2)
def bil(k:M4)(x y u v:Int):Int:=k.1*(x*u)+k.2.1*(x*v)+k.2.2.1*(y*u)+k.2.2.2*(y*v)
def w4(k:M4):M4:=(w64 k.1,w64 k.2.1,w64 k.2.2.1,w64 k.2.2.2)
def k8(p q:M4):List Int:=[w64 p.1,w64 p.2.1,w64 p.2.2.1,w64 p.2.2.2,w64 q.1,w64 q.2.1,w64 q.2.2.1,w64 q.2.2.2]
theorem bil_P(c:Int)(i j:M4)(x y u v:Int):bil (kP c i j) x y u v=(i.1*x+i.2.1*y)*(j.1*u+j.2.1*v) - c*((i.2.2.1*x+i.2.2.2*y)*(j.2.2.1*u+j.2.2.2*v)):=by simp only[bil,kP];grind
theorem bil_Q(a e b:Int)(i j:M4)(x y u v:Int):bil (kQ a e b i j) x y u v=a*((i.1*x+i.2.1*y)*(j.2.2.1*u+j.2.2.2*v))+e*((i.2.2.1*x+i.2.2.2*y)*(j.1*u+j.2.1*v))+b*((i.2.2.1*x+i.2.2.2*y)*(j.2.2.1*u+j.2.2.2*v)):=by simp only[bil,kQ];grind
theorem z8J(l m:Int)(p q:M4)(x y u v:Int):bil (kL l m p q) x y u v=l*bil p x y u v+m*bil q x y u v:=by simp only[bil,kL];grind
theorem zUQ{p q r s:Int}(h:p*s - q*r=1)(x y:Int):p*(s*x - q*y)+q*(-(r*x)+p*y)=x∧r*(s*x - q*y)+s*(-(r*x)+p*y)=y:=by
 constructor
 ·have:p*(s*x - q*y)+q*(-(r*x)+p*y)=(p*s - q*r)*x:=by grind
  rw[this,h];omega
 ·have:r*(s*x - q*y)+s*(-(r*x)+p*y)=(p*s - q*r)*y:=by grind
  rw[this,h];omega
theorem z0z{f g h:F3}{a e b c:Int}{p1 p2 p3 p4 n1 n2 n3 n4 l1 l2 l3 l4:Int}(hf:MatInv f.1 f.2.1 f.2.2 p1 p2 p3 p4 a b (e*c))(hg:MatInv g.1 g.2.1 g.2.2 n1 n2 n3 n4 e b (a*c))(hh:MatInv (a*e) b c l1 l2 l3 l4 h.1 h.2.1 h.2.2)(x y u v:Int):
  FV h (bil (kL l4 (-l2) (kP c (p4,-p2,-p3,p1) (n4,-n2,-n3,n1)) (kQ a e b (p4,-p2,-p3,p1) (n4,-n2,-n3,n1))) x y u v) (bil (kL (-l3) l1 (kP c (p4,-p2,-p3,p1) (n4,-n2,-n3,n1)) (kQ a e b (p4,-p2,-p3,p1) (n4,-n2,-n3,n1))) x y u v)=FV f x y*FV g u v:=by
 have h1:=zP2 hh;have h2:=zP2 hf (p4*x - p2*y) (-(p3*x)+p1*y);have h3:=zP2 hg (n4*u - n2*v) (-(n3*u)+n1*v);obtain⟨u1,u2⟩:=zUQ hf.dt x y;obtain⟨v1,v2⟩:=zUQ hg.dt u v;rw[u1,u2]at h2;rw[v1,v2]at h3;have h4:FV h (bil (kL l4 (-l2) (kP c (p4,-p2,-p3,p1) (n4,-n2,-n3,n1)) (kQ a e b (p4,-p2,-p3,p1) (n4,-n2,-n3,n1))) x y u v) (bil (kL (-l3) l1 (kP c (p4,-p2,-p3,p1) (n4,-n2,-n3,n1)) (kQ a e b (p4,-p2,-p3,p1) (n4,-n2,-n3,n1))) x y u v)=FV (a*e,b,c) (bil (kP c (p4,-p2,-p3,p1) (n4,-n2,-n3,n1)) x y u v) (bil (kQ a e b (p4,-p2,-p3,p1) (n4,-n2,-n3,n1)) x y u v):=by
  rw[z8J,z8J];generalize bil (kP c (p4,-p2,-p3,p1) (n4,-n2,-n3,n1)) x y u v=P;generalize bil (kQ a e b (p4,-p2,-p3,p1) (n4,-n2,-n3,n1)) x y u v=Q;obtain⟨w1,w2⟩:=zUQ hh.dt P Q;have h5:=h1 (l4*P+-l2*Q) (-l3*P+l1*Q);have e1:l4*P+-l2*Q=l4*P - l2*Q:=by rw[Int.neg_mul];omega
  have e2:-l3*P+l1*Q=-(l3*P)+l1*Q:=by rw[Int.neg_mul]
  rw[e1,e2,w1,w2]at h5;rw[e1,e2];exact h5
 rw[h4,bil_P,bil_Q,←z3K];simp only[];have e1:p4*x+-p2*y=p4*x - p2*y:=by rw[Int.neg_mul];omega
 have e2:-p3*x+p1*y=-(p3*x)+p1*y:=by rw[Int.neg_mul]
 have e3:n4*u+-n2*v=n4*u - n2*v:=by rw[Int.neg_mul];omega
 have e4:-n3*u+n1*v=-(n3*u)+n1*v:=by rw[Int.neg_mul]
 rw[e1,e2,e3,e4,h2,h3]
theorem inv_w{p q r s:Int}(h:p*s - q*r=1):zP (w64 p,w64 q,w64 r,w64 s)=some (w4 (s,-q,-r,p)):=by
 simp only[zP,zBA,zO,wml,wmr,wal,war,wsl,wsr,Option.bind_some,h,w4];have e:∀z:Int,w64 (1*z)=w64 z:=fun z=>by rw[Int.one_mul]
 have e2:∀z:Int,w64 (w64 (0 - w64 1)*z)=w64 (-z):=fun z=>by rw[show w64 (0 - w64 1)=-1 from rfl];congr 1;omega
 have e3:∀z:Int,w64 ((0 - w64 1)*z)=w64 (-z):=fun z=>by rw[show w64 1=1 from rfl];congr 1;omega
 simp only[e,e3]
theorem bv_0:bv 0=0:=rfl
theorem z8B{p q r s:Int}(h:p*s - q*r=1):zP (p,q,r,s)=some (w64 s,w64 (-q),w64 (-r),w64 p):=by
 simp only[zP,zBA,zO,wml,wmr,wal,war,wsl,wsr,Option.bind_some,h];have e:∀z:Int,w64 (1*z)=w64 z:=fun z=>by rw[Int.one_mul]
 have e3:∀z:Int,w64 ((0 - w64 1)*z)=w64 (-z):=fun z=>by rw[show w64 1=1 from rfl];congr 1;omega
 simp only[e,e3]
theorem zZk(i1 i2 i3 i4 j1 j2 j3 j4 l1 l2 l3 l4 a e b c:Int){β:Type}(G:M4→M4→Option β):
  ((zCb (w64 i1) (w64 i2) (w64 j1) (w64 j2)).bind fun y15=>
   (zCb (w64 i1) (w64 i2) (w64 j3) (w64 j4)).bind fun y16=>
   (zCb (w64 i3) (w64 i4) (w64 j1) (w64 j2)).bind fun y17=>
   (zCb (w64 i3) (w64 i4) (w64 j3) (w64 j4)).bind fun y18=>
   (zW y15 (w64 (0 - c)) y18).bind fun y19=>
   (zW ((0,0,0,0)) a y16).bind fun y20=>
   (zW y20 e y17).bind fun y21=>
   (zW y21 b y18).bind fun y22=>
   (zW ((0,0,0,0)) (w64 l1) y19).bind fun y23=>
   (zW y23 (w64 l2) y22).bind fun y24=>
   (zW ((0,0,0,0)) (w64 l3) y19).bind fun y25=>
   (zW y25 (w64 l4) y22).bind fun y26=>G y24 y26)=G (w4 (kL l1 l2 (kP c (i1,i2,i3,i4) (j1,j2,j3,j4)) (kQ a e b (i1,i2,i3,i4) (j1,j2,j3,j4)))) (w4 (kL l3 l4 (kP c (i1,i2,i3,i4) (j1,j2,j3,j4)) (kQ a e b (i1,i2,i3,i4) (j1,j2,j3,j4)))):=by
 simp only[zCb,zW,zO,Option.bind_some,wml,wmr,wal,war,wsl,wsr,w4,kL,kP,kQ];congr 1
 ·refine Prod.ext ?_ (Prod.ext ?_ (Prod.ext ?_ ?_))<;>(refine zAa ?_;simp only[zHb,zJ1,zMb,zFT,bv_0];generalize bv i1=i1;generalize bv i2=i2;generalize bv i3=i3;generalize bv i4=i4;generalize bv j1=j1;generalize bv j2=j2;generalize bv j3=j3;generalize bv j4=j4;generalize bv a=a;generalize bv e=e;generalize bv b=b;generalize bv c=c;generalize bv l1=l1;generalize bv l2=l2;grind)
 ·refine Prod.ext ?_ (Prod.ext ?_ (Prod.ext ?_ ?_))<;>(refine zAa ?_;simp only[zHb,zJ1,zMb,zFT,bv_0];generalize bv i1=i1;generalize bv i2=i2;generalize bv i3=i3;generalize bv i4=i4;generalize bv j1=j1;generalize bv j2=j2;generalize bv j3=j3;generalize bv j4=j4;generalize bv a=a;generalize bv e=e;generalize bv b=b;generalize bv c=c;generalize bv l3=l3;generalize bv l4=l4;grind)
theorem zZj(i1 i2 i3 i4 j1 j2 j3 j4 l1 l2 l3 l4 a e b c ae:Int)(f2 g2:Int×Int)(M N:M4)(h:F3×M4):
    zC7 ((a,f2),(e,g2),M,N) (ae,b,c) h (w64 i1,w64 i2,w64 i3,w64 i4) (w64 j1,w64 j2,w64 j3,w64 j4) (w64 l1,w64 l2,w64 l3,w64 l4) FU 0 (List.replicate (Int.toNat 8) ((0:Int)))=some (k8 (kL l1 l2 (kP c (i1,i2,i3,i4) (j1,j2,j3,j4)) (kQ a e b (i1,i2,i3,i4) (j1,j2,j3,j4))) (kL l3 l4 (kP c (i1,i2,i3,i4) (j1,j2,j3,j4)) (kQ a e b (i1,i2,i3,i4) (j1,j2,j3,j4)))):=by
  have unf:zC7 ((a,f2),(e,g2),M,N) (ae,b,c) h (w64 i1,w64 i2,w64 i3,w64 i4) (w64 j1,w64 j2,w64 j3,w64 j4) (w64 l1,w64 l2,w64 l3,w64 l4) FU 0 (List.replicate (Int.toNat 8) ((0:Int)))=
      (let P:Int→Int→Int→Int→Int:=fun x y u v=>w64 ((w64 (x*u)) - (w64 ((w64 (c*y))*v)))
       let Q:Int→Int→Int→Int→Int:=fun x y u v=>w64 ((w64 ((w64 ((w64 (a*x))*v))+(w64 ((w64 (e*y))*u))))+(w64 ((w64 (b*y))*v)))
       let R:Int→Int→Int→Int→Int:=fun l m p q=>w64 ((w64 (l*p))+(w64 (m*q)))
       let K:Int→Int→Int→Int→Int→Int→Int:=fun l m x y u v=>R l m (P x y u v) (Q x y u v)
       some [K (w64 l1) (w64 l2) (w64 i1) (w64 i3) (w64 j1) (w64 j3),K (w64 l1) (w64 l2) (w64 i1) (w64 i3) (w64 j2) (w64 j4),K (w64 l1) (w64 l2) (w64 i2) (w64 i4) (w64 j1) (w64 j3),K (w64 l1) (w64 l2) (w64 i2) (w64 i4) (w64 j2) (w64 j4),
         K (w64 l3) (w64 l4) (w64 i1) (w64 i3) (w64 j1) (w64 j3),K (w64 l3) (w64 l4) (w64 i1) (w64 i3) (w64 j2) (w64 j4),K (w64 l3) (w64 l4) (w64 i2) (w64 i4) (w64 j1) (w64 j3),K (w64 l3) (w64 l4) (w64 i2) (w64 i4) (w64 j2) (w64 j4)]):=by
    obtain⟨m,hm⟩:∃m,FU=m+1+1+1+1+1:=⟨FU - 5,rfl⟩
    rw[hm];simp only[zC7,zO];rfl
  rw[unf];simp only[k8,kL,kP,kQ];have ls:∀{a b c d e f g h a' b' c' d' e' f' g' h':Int},bv a=bv a'→bv b=bv b'→bv c=bv c'→bv d=bv d'→bv e=bv e'→bv f=bv f'→bv g=bv g'→bv h=bv h'→some [w64 a,w64 b,w64 c,w64 d,w64 e,w64 f,w64 g,w64 h]=some [w64 a',w64 b',w64 c',w64 d',w64 e',w64 f',w64 g',w64 h']:=by intro a b c d e f g h a' b' c' d' e' f' g' h' h1 h2 h3 h4 h5 h6 h7 h8;rw[zAa h1,zAa h2,zAa h3,zAa h4,zAa h5,zAa h6,zAa h7,zAa h8]
  refine ls ?_ ?_ ?_ ?_ ?_ ?_ ?_ ?_<;>(simp only[zHb,zJ1,zMb,zFT,bv_0];generalize bv i1=i1;generalize bv i2=i2;generalize bv i3=i3;generalize bv i4=i4;generalize bv j1=j1;generalize bv j2=j2;generalize bv j3=j3;generalize bv j4=j4;generalize bv a=a;generalize bv e=e;generalize bv b=b;generalize bv c=c;generalize bv l1=l1;generalize bv l2=l2;generalize bv l3=l3;generalize bv l4=l4;grind)
theorem z2Z(l:List Int)(hl:l.length<1000000):∀(n i:Nat),i≤l.length→l.length - i<n→zE8 1000000 l (-1000000) n (i:Int)=some (if (l.drop i).all inN then .inl () else .inr false)
 |0,i,_,h=>by omega
 |n+1,i,hi,h=>by
  unfold zE8;rw[zS];by_cases h1:(i:Int)<(l.length:Int)
  ·have h2:i<l.length:=by omega
   rw[zb h1,za];rw[zDz h2,Option.bind_some,List.drop_eq_getElem_cons h2,List.all_cons];have hin:zAX l[i] (-1000000) 1000000=some (inN l[i]):=by simp only[zAX,inN];cases leI (-1000000) l[i]<;>rfl
   rw[hin,Option.bind_some];have ih:=z2Z l hl n (i+1) (by omega) (by omega);cases hb:inN l[i] with
   |false=>simp
   |true=>simp only[Bool.not_true,cond_false,zO,Bool.true_and];rw[zB (by omega),show ((i:Int)+1)=((i+1:Nat):Int) by omega,ih]
  ·rw[zc h1,cond_false,List.drop_eq_nil_of_le (by omega)];simp
theorem z7K(l:List Int)(hl:l.length<1000000):zFI l (-1000000) 1000000=some (l.all inN):=by have h:=z2Z l hl FU 0 (Nat.zero_le _) (by have:=FUge;omega);have e0:(((0:Nat):Int))=0:=rfl;rw[e0,List.drop_zero]at h;unfold zFI;rw[h];cases l.all inN<;>simp
theorem z6a(A B C p q r s p' q' r' s':Int):2*(A*p*p+B*p*r+C*r*r)*p'*q'+(2*A*p*q+B*(p*s+q*r)+2*C*r*s)*(p'*s'+q'*r')+2*(A*q*q+B*q*s+C*s*s)*r'*s'=2*A*(p*p'+q*r')*(p*q'+q*s')+B*((p*p'+q*r')*(r*q'+s*s')+(p*q'+q*s')*(r*p'+s*r'))+2*C*(r*p'+s*r')*(r*q'+s*s'):=by grind
theorem z6b{A B C p q r s a b c p' q' r' s' a' b' c':Int}(h:MatInv A B C p q r s a b c)(k:MatInv a b c p' q' r' s' a' b' c'):MatInv A B C (p*p'+q*r') (p*q'+q*s') (r*p'+s*r') (r*q'+s*s') a' b' c':=by
 have v1:=zP2 h p' r';have v2:=zP2 h q' s';obtain⟨e1,e2,e3,e4⟩:=k;simp only[FV]at v1 v2;refine⟨by rw[←e1,v1],?_,by rw[←e3,v2],?_⟩
 ·rw[←e2,←h.e1,←h.e2,←h.e3];exact (z6a A B C p q r s p' q' r' s').symm
 ·have:(p*p'+q*r')*(r*q'+s*s') - (p*q'+q*s')*(r*p'+s*r')=(p*s - q*r)*(p'*s' - q'*r'):=by grind
  rw[this,h.dt,e4];rfl
def cpR(h:F3)(l:List Int):F3×List Int×Bool:=bif l.all inN then (h,l,true) else ((0,0,0),[],false)
theorem z2Q{D:Int}{f g:F3}(hf:CFc D f)(hg:CFc D g):∃(h:F3) (p q:M4),zAK f g=some (cpR h (k8 p q))∧zBH f g=some (cpR h (k8 p q))∧PrRc D h∧∀x y u v,FV h (bil p x y u v) (bil q x y u v)=FV f x y*FV g u v:=by
 have hD1:=hf.2.2.2.1;have hD:=hf.2.2.2.2;obtain⟨f',g',p1,p2,p3,p4,q1,q2,q3,q4,x,y,q,s,e,hB,hC,b1,c1,α,β,k⟩:=z2T hD1 hD hf.2.2.1 hg.2.2.1;obtain⟨rf,rg,pf,pg,mf,mg,uni,imp,spc,cf,ae,ec,pb,qb,cl⟩:=k f;obtain⟨h,m1,m2,m3,m4,i1,i2,i3,i4,i5,i6,i7,i8,i9,i10⟩:=zTv cf;obtain⟨pair1,pair2⟩:=zQ9 hf hg;have ha:1≤f'.1:=pf.1;have e1:=uni.e1;have hae0:1*1≤f'.1*e:=Int.mul_le_mul ha e1 (by omega) (by omega);have wae:w64 (f'.1*e)=f'.1*e:=zB (by omega);have hd:f'.2.1*f'.2.1 - 4*f'.1*f'.2.2=D:=pf.2.2.1
 -- the first matrix
 have M1:=mf.norm α;rw[←z3d ha hd uni.bα uni.dis,show 2*f'.1*α+f'.2.1=b1 by have:=uni.bα;omega]at M1
 -- the second one
 obtain⟨_,gu⟩:=zYr (a:=f'.1) e1 uni.mh pg.2.2.1 uni.bβ uni.dis;have N1:=z6b mg gu;have i5':MatInv (f'.1*e) b1 c1 m1 m2 m3 m4 h.1 h.2.1 h.2.2:=i5;have fm:zF (p1,p2,p3,p4) (1,α,0,1)=some (w64 p1,w64 (p1*α+p2),w64 p3,w64 (p3*α+p4)):=by rw[zK0];simp only[Int.mul_one,Int.mul_zero,Int.add_zero]
 have gm:zF (q1,q2,q3,q4) (w64 (x+q*0),w64 (x*β+q),w64 (y+s*0),w64 (y*β+s))=some (w64 (q1*x+q2*y),w64 (q1*(x*β+q)+q2*(y*β+s)),w64 (q3*x+q4*y),w64 (q3*(x*β+q)+q4*(y*β+s))):=by rw[zK0];have z1:∀u v a b:Int,w64 (a*w64 u+b*w64 v)=w64 (a*u+b*v):=fun u v a b=>zAa (by simp only[zHb,zJ1,zFT]);simp only[z1,Int.mul_zero,Int.add_zero]
 have sm:((zZ (q1,q2,q3,q4) (x,q,y,s)).bind fun N1=>zZ N1 (1,β,0,1))=some (w64 (q1*x+q2*y),w64 (q1*(x*β+q)+q2*(y*β+s)),w64 (q3*x+q4*y),w64 (q3*(x*β+q)+q4*(y*β+s))):=by
  rw[zNC,zK0];simp only[Option.bind_some,zK0,Int.mul_one,Int.mul_zero,Int.add_zero];have z1:∀a b c d:Int,w64 (w64 (a*x+b*y)*β+w64 (a*q+b*s))=w64 (a*(x*β+q)+b*(y*β+s)):=fun a b c d=>zAa (by simp only[zHb,zJ1,zFT];generalize bv a=a;generalize bv b=b;generalize bv x=x;generalize bv y=y;generalize bv β=β;generalize bv q=q;generalize bv s=s;grind)
  have z2:∀z:Int,w64 (w64 z)=w64 z:=fun z=>zAa (zFT z);rw[z1 q1 q2 0 0,z1 q3 q4 0 0,z2,z2]
 have inv_ww:∀{p q r s:Int},p*s - q*r=1→zP (w64 p,w64 q,w64 r,w64 s)=some (w64 s,w64 (-q),w64 (-r),w64 p):=fun h=>inv_w h;have roomA:∀p q:M4,room ((([]:List Int)).length+([p.1,p.2.1,p.2.2.1,p.2.2.2]).length)=some ():=fun _ _=>rfl;have len8:∀p q:M4,(k8 p q).length<1000000:=fun p q=>by simp[k8]
 refine⟨h,kL m4 (-m2) (kP c1 (p3*α+p4,-(p1*α+p2),-p3,p1) (q3*(x*β+q)+q4*(y*β+s),-(q1*(x*β+q)+q2*(y*β+s)),-(q3*x+q4*y),q1*x+q2*y)) (kQ f'.1 e b1 (p3*α+p4,-(p1*α+p2),-p3,p1) (q3*(x*β+q)+q4*(y*β+s),-(q1*(x*β+q)+q2*(y*β+s)),-(q3*x+q4*y),q1*x+q2*y)),
  kL (-m3) m1 (kP c1 (p3*α+p4,-(p1*α+p2),-p3,p1) (q3*(x*β+q)+q4*(y*β+s),-(q1*(x*β+q)+q2*(y*β+s)),-(q3*x+q4*y),q1*x+q2*y)) (kQ f'.1 e b1 (p3*α+p4,-(p1*α+p2),-p3,p1) (q3*(x*β+q)+q4*(y*β+s),-(q1*(x*β+q)+q2*(y*β+s)),-(q3*x+q4*y),q1*x+q2*y)),?_,?_,i3,fun X Y U V=>z0z M1 N1 i5' X Y U V⟩
 ·unfold zAK;rw[pair1,Option.bind_some,Bool.not_true,cond_false,rf,Option.bind_some,rg,Option.bind_some];simp only[];rw[imp,Option.bind_some];simp only[];rw[fm,Option.bind_some,inv_ww M1.dt,Option.bind_some,gm,Option.bind_some,inv_ww N1.dt,Option.bind_some];simp only[zBI,zO,Option.bind_some];rw[wae,i1,Option.bind_some];simp only[];rw[z8B i5'.dt,Option.bind_some];simp only[];rw[zZk (G:=fun y24 y26=>(room ((([]:List Int)).length+([y24.1,y24.2.1,y24.2.2.1,y24.2.2.2]).length)).bind fun u27=>
   (room (((([]:List Int))++([y24.1,y24.2.1,y24.2.2.1,y24.2.2.2])).length+([y26.1,y26.2.1,y26.2.2.1,y26.2.2.2]).length)).bind fun u28=>
   (qS (((([]:List Int))++([y24.1,y24.2.1,y24.2.2.1,y24.2.2.2]))++([y26.1,y26.2.1,y26.2.2.1,y26.2.2.2]))).bind fun y30=>bif (!y30) then some (((0,0,0),([]:List Int),false)) else some ((h,((([]:List Int))++([y24.1,y24.2.1,y24.2.2.1,y24.2.2.2]))++([y26.1,y26.2.1,y26.2.2.1,y26.2.2.2]),true)))]
  generalize kL m4 _ _ _=P;generalize kL (-m3) _ _ _=Q;have e8:(((([]:List Int))++([(w4 P).1,(w4 P).2.1,(w4 P).2.2.1,(w4 P).2.2.2]))++([(w4 Q).1,(w4 Q).2.1,(w4 Q).2.2.1,(w4 Q).2.2.2]))=k8 P Q:=rfl;rw[e8,zGH _ (len8 P Q)];simp only[cpR];cases (k8 P Q).all inN<;>rfl
 ·unfold zBH;rw[pair2,Option.bind_some,Bool.not_true,cond_false];have hpr:∀(P Q:M4),zEF f g=some (h,k8 P Q)→((zEF f g).bind fun y5=>(zFI y5.2 (-1000000) 1000000).bind fun y6=>bif (!y6) then some (((0,0,0),([]:List Int),false)) else some ((y5.1,y5.2,true)))=some (cpR h (k8 P Q)):=by
   intro P Q hh;rw[hh,Option.bind_some];simp only[];rw[z7K _ (len8 P Q),Option.bind_some];simp only[cpR];cases (k8 P Q).all inN<;>rfl
  refine hpr _ _ ?_
  unfold zEF;rw[spc];have sm2:∀{γ:Type}(F:M4→Option γ),((zZ (q1,q2,q3,q4) (x,q,y,s)).bind fun N1=>(zZ N1 (1,β,0,1)).bind F)=F (w64 (q1*x+q2*y),w64 (q1*(x*β+q)+q2*(y*β+s)),w64 (q3*x+q4*y),w64 (q3*(x*β+q)+q4*(y*β+s))):=by intro γ F;have:=congrArg (fun z=>z.bind F) sm;simp only[Option.bind_assoc,Option.bind_some]at this;exact this
  rw[zNC,fm];simp only[Option.bind_some];rw[←zNC,sm2];simp only[Option.bind_some];have hj:zCz (f'.1,b1,e*c1) (e,b1,f'.1*c1)=some (f'.1*e,b1,c1):=by unfold zCz;simp only[];rw[zFP (show e≠0 by omega)];simp only[Option.bind_some,zO];rw[wae,tdv (a:=e*c1) (b:=e) (c:=c1) (by omega) rfl,zB (n:=c1) (by have h1:1*c1≤e*c1:=Int.mul_le_mul_of_nonneg_right e1 (by omega);omega)]
  rw[hj,Option.bind_some,i2,Option.bind_some];simp only[];rw[z2N,inv_ww M1.dt,Option.bind_some,inv_ww N1.dt,Option.bind_some,z8B i5'.dt,Option.bind_some];have hmk:mk 8 8=some ():=rfl;rw[hmk,Option.bind_some,zZj,Option.bind_some]
theorem zAB{n:Int}(h:inN n=true):sm18 n:=by rw[qO]at h;exact⟨by omega,by omega⟩
theorem zY7{h:F3}{l:List Int}{b:Bool}(hl:l.length≤8)(hin:∀x∈l,inN x=true):∀(k fu i:Nat)(acc:List qd),i+k=l.length→k<fu→acc.length≤100+i→
  zA3 (h,l,b) fu (i:Int) acc=some (acc++(l.drop i).map fun x=>bl (Go.Lib.itoa x))∧zA2 (h,l,b) fu (i:Int) acc=some (acc++(l.drop i).map fun x=>bl (Go.Lib.itoa x))
 |k,0,i,acc,_,hf,_=>by omega
 |k,fu+1,i,acc,hi,hf,ha=>by
  rw[zA3,zA2];simp only[];rw[zS];by_cases h1:i<l.length
  ·rw[zb (by omega),za,za,zDz h1];simp only[Option.bind_some];have hs:=zAB (hin _ (zt h1));rw[zBa hs,zC1 hs];simp only[Option.bind_some,zO];rw[zCw (by simp;omega),Option.bind_some,Option.bind_some,zEJ (by omega),List.drop_eq_getElem_cons h1];obtain⟨k',rfl⟩:∃k',k=k'+1:=⟨k - 1,by omega⟩
   obtain⟨j1,j2⟩:=zY7 (h:=h) (b:=b) hl hin k' fu (i+1) (acc++[bl (Go.Lib.itoa l[i])]) (by omega) (by omega) (by simp;omega);rw[j1,j2];simp only[List.map_cons,List.append_assoc,List.cons_append,zq,and_self]
  ·rw[zc (by omega),cond_false,cond_false,List.drop_eq_nil_of_le (by omega)];simp
theorem z7F(f g:F3):∃t b,jZ f g=some (t,b)∧qF f g=some (t,b)∧t.size≤20000:=by
 have hF:=FUge;obtain⟨pb,p1,p2,p3⟩:=zZ6 f g;cases pb with
 |false=>exact⟨(⟨#[]⟩:qd),false,by simp[jZ,zBH,p2],by simp[qF,zAK,p1],by decide⟩
 |true=>
  obtain⟨D,hf,hg⟩:=p3 rfl;obtain⟨h,p,q,e1,e2,e4,e5⟩:=z2Q hf hg;cases hall:(k8 p q).all inN with
  |false=>
   have ecp:cpR h (k8 p q)=((0,0,0),[],false):=by unfold cpR;rw[hall];rfl
   rw[ecp]at e1 e2;exact⟨(⟨#[]⟩:qd),false,by simp[jZ,e2],by simp[qF,e1],by decide⟩
  |true=>
   have ecp:cpR h (k8 p q)=(h,k8 p q,true):=by unfold cpR;rw[hall];rfl
   rw[ecp]at e1 e2;have hh:=z2V hf.2.2.2.1 hf.2.2.2.2 e4;obtain⟨fa,fb,fc,_⟩:=zD7 (a:=f.1) (b:=f.2.1) (c:=f.2.2) hf.1;obtain⟨ga,gb,gc,_⟩:=zD7 (a:=g.1) (b:=g.2.1) (c:=g.2.2) hg.1;obtain⟨ha,hb,hc,_⟩:=zD7 (a:=h.1) (b:=h.2.1) (c:=h.2.2) hh.1;have hin:∀x∈k8 p q,inN x=true:=List.all_eq_true.1 hall;have hlen:(k8 p q).length=8:=rfl;have e9:(⟨#[99,111,109,112,111,115,105,116,101]⟩:qd)=bl [99,111,109,112,111,115,105,116,101]:=rfl;obtain⟨a1,_⟩:=zY7 (h:=h) (b:=true) (l:=k8 p q) (by omega) hin 8 FU 0 [bl (fB f),bl (fB g),bl (fB h)] (by omega) (by omega) (by simp);obtain⟨_,a2⟩:=zY7 (h:=h) (b:=true) (l:=k8 p q) (by omega) hin 8 FU 0 [bl [99,111,109,112,111,115,105,116,101],bl (fB f),bl (fB g),bl (fB h)] (by omega) (by omega) (by simp);have e0:(((0:Nat):Int))=0:=rfl;rw[e0,List.drop_zero]at a1 a2;have hL:∀y∈[99,111,109,112,111,115,105,116,101]::(fB f::fB g::fB h::(k8 p q).map Go.Lib.itoa),y.length≤1000:=by
    intro y hy;rcases List.mem_cons.1 hy with rfl|hy
    ·decide
    rcases List.mem_cons.1 hy with rfl|hy
    ·exact Nat.le_trans (zDC (zAB fa) (zAB fb) (zAB fc)) (by omega)
    rcases List.mem_cons.1 hy with rfl|hy
    ·exact Nat.le_trans (zDC (zAB ga) (zAB gb) (zAB gc)) (by omega)
    rcases List.mem_cons.1 hy with rfl|hy
    ·exact Nat.le_trans (zDC (zAB ha) (zAB hb) (zAB hc)) (by omega)
    obtain⟨x,hx,rfl⟩:=List.mem_map.1 hy;have:=qR (zAB (hin x hx));omega
   have t1:=zFj [99,111,109,112,111,115,105,116,101] (fB f::fB g::fB h::(k8 p q).map Go.Lib.itoa) (by simp[k8]) hL;have t2:=zEo [99,111,109,112,111,115,105,116,101] (fB f::fB g::fB h::(k8 p q).map Go.Lib.itoa) (by simp) (by simp[k8]) hL;simp only[List.map_cons,List.map_map]at t1 t2;have em:∀l:List Int,l.map (fun x=>bl (Go.Lib.itoa x))=l.map (bl∘Go.Lib.itoa):=fun l=>rfl;rw[em]at a1 a2;simp only[List.cons_append,zq]at a1 a2;refine⟨bl ([99,111,109,112,111,115,105,116,101]++Go.Lib.joinTail [32] (fB f::fB g::fB h::(k8 p q).map Go.Lib.itoa)),true,?_,?_,txl (by simp[k8]) hL⟩
   ·simp only[jZ,e2,Option.bind_some,Bool.not_true,cond_false,zDl (zAB fa) (zAB fb) (zAB fc),zDl (zAB ga) (zAB gb) (zAB gc),zDl (zAB ha) (zAB hb) (zAB hc),e9,a2,t1]
   ·simp only[qF,e1,Option.bind_some,Bool.not_true,cond_false,jA (zAB fa) (zAB fb) (zAB fc),jA (zAB ga) (zAB gb) (zAB gc),jA (zAB ha) (zAB hb) (zAB hc),e9,a1,t2]
theorem z3s{D:Int}(hD1:-2000≤D)(hD:D<0)(h4:D % 4≤1):zGB D=some (pF D):=by simp only[zGB];rw[zHt,zBz (by omega) (by omega)];simp only[Option.bind_some,zO];rw[zB (n:=D % 2 - D) (by omega),tdv (a:=D % 2 - D) (b:=4) (c:=(D % 2 - D) / 4) (by decide) (by omega),zB (by omega)];rfl
theorem zT1{D:Int}(hD1:-2000≤D)(hD:D<0){f:F3}(hf:PrRc D f){M:Nat}(hM:M≤1600)(hMe:gP (gC D hD f) M=g1 D hD):∀(n k:Nat)(p:F3),M - k<n→1≤k→k≤M→PrRc D p→gC D hD p=gP (gC D hD f) k→∃r:Nat,zCr f n (k:Int) p.1 p.2.1 p.2.2=some (r:Int)∧k≤r∧r≤M∧gP (gC D hD f) r=g1 D hD∧∀j,k≤j→j<r→gP (gC D hD f) j≠g1 D hD
 |0,k,p,hn,h1,h2,hp,e=>by omega
 |n+1,k,p,hn,h1,h2,hp,e=>by
  have hcf:=zGb hD1 hD hf;have hcp:=zGb hD1 hD hp;have h4:=cf_4 hcf;have hpp:=zXy hD1 hD h4;rw[zCr,zGL,zIt hD1 hcf,Option.bind_some,z3s hD1 hD h4,Option.bind_some];by_cases he:p=pF D
  ·have hb:((p.1==(pF D).1)&&((p.2.1==(pF D).2.1)&&(p.2.2==(pF D).2.2)))=true:=by rw[he];simp
   rw[hb,Bool.not_true,cond_false];exact⟨k,rfl,Nat.le_refl _,h2,by rw[←e,he];rfl,fun j h3 h4=>by omega⟩
  ·have hb:((p.1==(pF D).1)&&((p.2.1==(pF D).2.1)&&(p.2.2==(pF D).2.2)))=false:=by
    rw[Bool.eq_false_iff];intro hh;rw[zh,zh,beq_iff_eq,beq_iff_eq,beq_iff_eq]at hh;exact he (Prod.ext hh.1 (Prod.ext hh.2.1 hh.2.2))
   have hne:gP (gC D hD f) k≠g1 D hD:=fun h3=>he (z0b hp hpp (by rw[e,h3];rfl));have hkM:k≠M:=fun h3=>hne (h3▸hMe);obtain⟨g,_,j1,j3,j4,j5⟩:=z5F hD1 hD hcp hcf;have j1':zET (p.1,p.2.1,p.2.2) f=some g:=j1;rw[hb];simp only[zf,za,zO,j1',Option.bind_some];rw[zEJ (by omega)];obtain⟨r,r1,r2,r3,r4,r5⟩:=zT1 hD1 hD hf hM hMe n (k+1) g (by omega) (by omega) (by omega) j3 (by rw[j5,e];rfl);refine⟨r,r1,by omega,r3,r4,fun j h3 h4=>?_⟩;by_cases hj:j=k
   ·rw[hj];exact hne
   ·exact r5 j (by omega) h4
theorem z0g{D:Int}(hD:D<0){f:F3}(h:CFc D f):∃r:Nat,zBg f=some ((r:Int),true)∧zEv f=some (r:Int)∧r≤1600:=by
 have hF:=FUge;have hD1:=h.2.2.2.1;have hcf:=h.2.2.1;obtain⟨r,r1,r2,r3,r4,r5⟩:=zZ8 hD h;obtain⟨g,j1,j2,j3,j4,j5⟩:=redG hD hcf;have hr':gP (gC D hD g) r=g1 D hD:=by rw[j5];exact r4
 obtain⟨q,q1,q2,q3,q4,q5⟩:=zT1 hD1 hD j3 r3 hr' FU 1 g (by omega) (by omega) r2 j3 (zUV (z2C j4)).symm;have hqr:q=r:=by
  rcases Nat.lt_trichotomy q r with h|h|h
  ·exact absurd (by rw[←j5];exact q4) (r5 q q2 h)
  ·exact h
  ·exact absurd hr' (q5 r r2 h)
 subst hqr;have q1':zCr g FU 1 g.1 g.2.1 g.2.2=some (q:Int):=q1;exact⟨q,r1,by simp only[zEv,j2,q1',Option.bind_some],r3⟩
theorem zZa{r:Nat}(h:r≤1000000):zBk FU (r:Int)=some (bl (Go.Lib.itoa (r:Int)))∧zR (r:Int)=some (bl (Go.Lib.itoa (r:Int)))∧(Go.Lib.itoa (r:Int)).length≤19:=by
 have hs:sm18 (r:Int):=⟨by omega,by omega⟩
 have h1:=zC1 hs;unfold qQ at h1;rw[zS,zc (by omega),cond_false]at h1;refine⟨?_,zBa hs,qR hs⟩;cases hh:zBk FU (r:Int) with
 |none=>rw[hh]at h1;cases h1
 |some y=>rw[hh]at h1;exact h1
theorem zF9{n:Int}(h:inN n=true):sm18 n:=by rw[qO]at h;exact⟨by omega,by omega⟩
theorem z65(f:F3):∃t b,zBG f=some (t,b)∧jR f=some (t,b)∧t.size≤20000:=by
 obtain⟨cb,hcb⟩:=zI5 f;cases cb with
 |false=>exact⟨(⟨#[]⟩:qd),false,by simp[zBG,zG8,hcb],by simp[jR,zBg,hcb],by decide⟩
 |true=>
  have hf:=zUb hcb;obtain⟨r,r1,r2,r3⟩:=z0g hf.2.2.2.2 hf;obtain⟨t1,t2,t3⟩:=zZa (r:=r) (by omega);obtain⟨ha,hb,hc,_⟩:=zD7 (a:=f.1) (b:=f.2.1) (c:=f.2.2) hcb;have e1:(⟨#[111,114,100,101,114]⟩:qd)=bl [111,114,100,101,114]:=rfl;have hL:∀y∈[111,114,100,101,114]::[fB f,Go.Lib.itoa (r:Int)],y.length≤1000:=by
   intro y hy;simp only[zj,zo,or_false]at hy;rcases hy with rfl|rfl|rfl
   ·decide
   ·exact Nat.le_trans (zDC (zF9 ha) (zF9 hb) (zF9 hc)) (by omega)
   ·omega
  have p1:=zFj [111,114,100,101,114] [fB f,Go.Lib.itoa (r:Int)] (by simp) hL;have p2:=zEo [111,114,100,101,114] [fB f,Go.Lib.itoa (r:Int)] (by simp) (by simp) hL;simp only[List.map_cons,zp]at p1 p2;refine⟨bl ([111,114,100,101,114]++Go.Lib.joinTail [32] [fB f,Go.Lib.itoa (r:Int)]),true,?_,?_,txl (by simp) hL⟩
  ·simp only[zBG,zG8,hcb,Option.bind_some,Bool.not_true,cond_false,zDl (zF9 ha) (zF9 hb) (zF9 hc),r2,t1,e1,p1]
  ·simp only[jR,r1,Option.bind_some,Bool.not_true,cond_false,jA (zF9 ha) (zF9 hb) (zF9 hc),t2,e1,p2]
abbrev M4a:=Int×Int×Int×Int
def LtM(m n:M4a):Prop:=m.1<n.1∨(m.1=n.1∧(m.2.1<n.2.1∨(m.2.1=n.2.1∧(m.2.2.1<n.2.2.1∨(m.2.2.1=n.2.2.1∧m.2.2.2<n.2.2.2)))))
instance (m n:M4a):Decidable (LtM m n):=by unfold LtM;infer_instance
theorem LtM.trans{a b c:M4a}(h:LtM a b)(k:LtM b c):LtM a c:=by unfold LtM at*;omega
theorem LtM.asym{a b:M4a}(h:LtM a b):¬LtM b a:=by unfold LtM at*;omega
theorem LtM.tot{a b:M4a}(h:¬LtM a b)(k:¬LtM b a):a=b:=by obtain⟨a1,a2,a3,a4⟩:=a;obtain⟨b1,b2,b3,b4⟩:=b;unfold LtM at*;simp only[Prod.mk.injEq];dsimp only at h k;omega
theorem LtM.mix{a b c:M4a}(h:LtM a b)(k:¬LtM c b):LtM a c:=by unfold LtM at*;omega
theorem zZf(m n:M4a):zEm m n=some (decide (LtM m n)):=by
 simp only[zEm,zBD,zS];unfold LtM;by_cases h1:m.1=n.1
 ·by_cases h2:m.2.1=n.2.1
  ·by_cases h3:m.2.2.1=n.2.2.1
   ·simp[h1,h2,h3]
   ·simp[h1,h2,h3,beq_eq_false_iff_ne.2 h3]
  ·simp[h1,h2,beq_eq_false_iff_ne.2 h2]
 ·simp[h1,beq_eq_false_iff_ne.2 h1]
theorem z2r(m n:M4a):zGi m n=some (decide (LtM m n)):=zZf m n
def posM(m:M4a)(l:List M4a):Nat→Nat
 |0=>0
 |k+1=>if LtM m (l.getD k m) then posM m l k else k+1
theorem z1m(m:M4a)(l:List M4a):∀k,posM m l k≤k
 |0=>Nat.le_refl _
 |k+1=>by unfold posM;have:=z1m m l k;split<;>omega
def insM(m:M4a)(l:List M4a):List M4a:=l.take (posM m l l.length)++m::l.drop (posM m l l.length)
def insR(m:M4a):List M4a→List M4a
 |[]=>[m]
 |x::xs=>if LtM m x then m::x::xs else x::insR m xs
def SrtM(l:List M4a):Prop:=l.Pairwise fun a b=>¬LtM b a
theorem zW9(m x:M4a)(xs:List M4a):∀k,posM m (x::xs) (k+1)=if posM m xs k=0 then (if LtM m x then 0 else 1) else posM m xs k+1
 |0=>by simp[posM]
 |k+1=>by
  have ih:=zW9 m x xs k;rw[posM,show posM m xs (k+1)=if LtM m (xs.getD k m) then posM m xs k else k+1 from rfl,List.getD_cons_succ];split
  ·exact ih
  ·simp
theorem zW8(m:M4a)(l:List M4a):∀k q,posM m l k=q+1→¬LtM m (l.getD q m)∧q<k
 |0,q,h=>by simp[posM]at h
 |k+1,q,h=>by
  unfold posM at h;split at h
  ·obtain⟨h1,h2⟩:=zW8 m l k q h;exact⟨h1,by omega⟩
  ·rename_i hn;have e:k=q:=by omega
   subst e;exact⟨hn,by omega⟩
theorem zYF(m:M4a):∀(l:List M4a),SrtM l→insM m l=insR m l
 |[],_=>rfl
 |x::xs,h=>by
  have hx:=(List.pairwise_cons.1 h).1;have ih:=zYF m xs (List.pairwise_cons.1 h).2;unfold insM at ih ⊢;rw[ze,zW9];by_cases hp:posM m xs xs.length=0
  ·rw[hp]at ih;rw[if_pos hp];by_cases hl:LtM m x
   ·rw[if_pos hl];simp[insR,hl]
   ·rw[if_neg hl];simp only[insR,if_neg hl,←ih];simp
  ·rw[if_neg hp];have hl:¬LtM m x:=by
    obtain⟨q,hq⟩:=Nat.exists_eq_succ_of_ne_zero hp;obtain⟨h1,h2⟩:=zW8 m xs _ q hq;intro hl;refine h1 (hl.mix (hx _ ?_));rw[List.getD_eq_getElem?_getD,zu h2];exact zt h2
   simp only[insR,if_neg hl,←ih,List.take_succ_cons,List.drop_succ_cons,List.cons_append]
theorem zP1{m y:M4a}:∀{l:List M4a},y∈insR m l→y=m∨y∈l
 |[],h=>by simpa [insR] using h
 |x::xs,h=>by
  unfold insR at h;split at h
  ·simpa using h
  ·rcases List.mem_cons.1 h with h|h
   ·exact .inr (by rw[h];simp)
   ·rcases zP1 h with h|h
    ·exact .inl h
    ·exact .inr (by simp[h])
theorem zUS{m:M4a}:∀{l:List M4a},SrtM l→SrtM (insR m l)
 |[],_=>by simp[insR,SrtM]
 |x::xs,h=>by
  obtain⟨h1,h2⟩:=List.pairwise_cons.1 h;unfold insR;split
  ·rename_i hl;refine List.pairwise_cons.2 ⟨fun y hy=>?_,h⟩;rcases List.mem_cons.1 hy with hy|hy
   ·rw[hy];exact hl.asym
   ·exact fun hc=>h1 y hy (hc.trans hl)
  ·rename_i hl;refine List.pairwise_cons.2 ⟨fun y hy=>?_,zUS h2⟩;rcases zP1 hy with hy|hy
   ·rw[hy];exact hl
   ·exact h1 y hy
theorem zKD(m:M4a):∀(l:List M4a),(insR m l).length=l.length+1
 |[]=>rfl
 |x::xs=>by
  unfold insR;split
  ·rfl
  ·simp[zKD m xs]
theorem zB1(a b:M4a):∀(l:List M4a),insR a (insR b l)=insR b (insR a l)
 |[]=>by
  by_cases h1:LtM a b
  ·simp[insR,h1,h1.asym]
  ·by_cases h2:LtM b a
   ·simp[insR,h1,h2]
   ·rw[LtM.tot h1 h2]
 |x::xs=>by
  have ih:=zB1 a b xs;by_cases ha:LtM a x<;>by_cases hb:LtM b x
  ·by_cases h1:LtM a b
   ·simp[insR,ha,hb,h1,h1.asym]
   ·by_cases h2:LtM b a
    ·simp[insR,ha,hb,h1,h2]
    ·rw[LtM.tot h1 h2]
  ·have h1:¬LtM b a:=fun h=>hb (h.trans ha);simp[insR,ha,hb,h1]
  ·have h1:¬LtM a b:=fun h=>ha (h.trans hb);simp[insR,ha,hb,h1]
  ·simp[insR,ha,hb,ih]
theorem z7p{k:Nat}(h:k<1000000000):w64 (((k+1:Nat):Int) - 1)=(k:Int):=by rw[zB (by omega)];omega
theorem z2h(m:M4a)(l:List M4a)(hl:l.length≤1000)(t6:Int)(y4:(Int×Int×Int)×M4a)(y5:List M4a):∀(n k:Nat),k≤l.length→k<n→zAw l t6 m y4 y5 n (k:Int)=some (posM m l k:Int)
 |0,k,h1,h2=>by omega
 |n+1,0,h1,h2=>by unfold zAw;rw[zS,zc (by simp)];rfl
 |n+1,k+1,h1,h2=>by
  unfold zAw;rw[zS,zb (by omega),za,z7p (by omega),zDz (show k<l.length by omega)];simp only[Option.bind_some,zZf];have e:l.getD k m=l[k]'(by omega):=by rw[List.getD_eq_getElem?_getD,zu (by omega)];rfl
  unfold posM;rw[e];by_cases h:LtM m (l[k]'(by omega))
  ·rw[zb h,za,if_pos h,zO];exact z2h m l hl t6 y4 y5 n k (by omega) (by omega)
  ·rw[zc h,cond_false,if_neg h]
theorem z2g(m:M4a)(l:List M4a)(hl:l.length≤1000)(f6 f7 f8 t10 u15 y9:Int):∀(n k:Nat)(x:M4a),k≤l.length→k<n→∃x',zBF m.1 m.2.1 m.2.2.1 m.2.2.2 f6 f7 f8 t10 u15 y9 n (k:Int) (l.take k++x::l.drop k)=some ((posM m l k:Int),l.take (posM m l k)++x'::l.drop (posM m l k))
 |0,k,x,h1,h2=>by omega
 |n+1,0,x,h1,h2=>by unfold zBF;rw[zS,zc (by simp)];exact⟨x,rfl⟩
 |n+1,k+1,x,h1,h2=>by
  unfold zBF;have hkl:k<l.length:=by omega
  have hlen:(l.take (k+1)++x::l.drop (k+1)).length=l.length+1:=by simp;omega
  have g1:getI (l.take (k+1)++x::l.drop (k+1)) (k:Int)=some (l[k]'hkl):=by rw[zDz (by rw[hlen];omega)];congr 1;rw[List.getElem_append_left (by simp;omega),List.getElem_take]
  have g2:getI (l.take (k+1)++x::l.drop (k+1)) ((k+1:Nat):Int)=some x:=by rw[zDz (by rw[hlen];omega)];congr 1;rw[List.getElem_append_right (by simp;omega)];simp[show k+1 - min (k+1) l.length=0 by omega]
  rw[zS,zb (by omega),za,z7p (by omega),g1];simp only[Option.bind_some,z2r];have e:l.getD k m=l[k]'hkl:=by rw[List.getD_eq_getElem?_getD,zu hkl];rfl
  unfold posM;rw[e];by_cases h:LtM m (l[k]'hkl)
  ·rw[zb h,za,if_pos h,g2];simp only[Option.bind_some,zO];have hset:(l.take (k+1)++x::l.drop (k+1)).set (Int.toNat ((k+1:Nat):Int)) (l[k]'hkl)=l.take k++(l[k]'hkl)::l.drop k:=by
    rw[zg,List.set_append_right _ _ (by simp;omega),show k+1 - (l.take (k+1)).length=0 by simp;omega,List.set_cons_zero,List.drop_eq_getElem_cons hkl,List.take_succ_eq_append_getElem hkl,List.append_assoc];rfl
   rw[hset];exact z2g m l hl f6 f7 f8 t10 u15 y9 n k _ (by omega) (by omega)
  ·rw[zc h,cond_false,if_neg h];exact⟨x,rfl⟩
theorem z19{l:List M4a}{p:Nat}(hp:p≤l.length)(x m:M4a):(l.take p++x::l.drop p).set p m=l.take p++m::l.drop p:=by rw[List.set_append_right _ _ (by simp;omega),show p - (l.take p).length=0 by simp;omega,List.set_cons_zero]
theorem z5D{l:List M4a}{p:Nat}(hp:p≤l.length)(z:M4a):∃x,zLS (l++[z]) (p+1) p=l.take p++x::l.drop p:=by
 have h1:l=l.take p++l.drop p:=(List.take_append_drop p l).symm;have h2:(l.take p).length=p:=by simp;omega
 generalize l.take p=a at*;generalize l.drop p=b at*;subst h1;subst h2;unfold zLS splice cpN;have e1:Nat.min ((a++b++[z]).length - a.length) ((a++b++[z]).length - (a.length+1))=b.length:=by simp only[zd,ze,List.length_nil];show min _ _=_;omega
 have e0:a++b++[z]=a++(b++[z]):=List.append_assoc ..;have e2:(b++[z]).take b.length=b:=List.take_left;have e3:(a++(b++[z])).drop (a.length+1+b.length)=[]:=List.drop_eq_nil_of_le (by simp;omega);rw[e1,e0,List.drop_left,e2,e3,List.append_nil];cases b with
 |nil=>exact⟨z,by rw[List.take_length_add_append];simp⟩
 |cons b0 bs=>exact⟨b0,by rw[List.take_length_add_append];simp⟩
def matU(a b c t u:Int):M4a:=((t - b*u).tdiv 2,-c*u,a*u,(t+b*u).tdiv 2)
def zEk(a b c d t u:Int)(l:List M4a):List M4a:=if t*t - d*u*u=4 then insR (matU a b c t u) l else l
theorem zIE{a b c d t u:Int}{l:List M4a}(h:SrtM l):SrtM (zEk a b c d t u l):=by
 unfold zEk;split
 ·exact zUS h
 ·exact h
theorem zJj(a b c d t u:Int)(l:List M4a):(zEk a b c d t u l).length≤l.length+1:=by
 unfold zEk;split
 ·rw[zKD];exact Nat.le_refl _
 ·omega
theorem zP7(x:Int):(x.tdiv 2).natAbs≤x.natAbs:=by rw[Int.natAbs_tdiv];exact Nat.div_le_self ..
theorem zZ1(m:M4a)(l:List M4a):posM m l l.length≤l.length:=z1m m l _
theorem ab{x:Int}{A:Nat}(h:x.natAbs≤A):-(A:Int)≤x∧x≤(A:Int):=by omega
theorem S17{a b c d t u:Int}(ha:a.natAbs≤1000000)(hb:b.natAbs≤1000000)(hc:c.natAbs≤1000000)(hd:d.natAbs≤10000000000000)(ht:t.natAbs≤2)(hu:u.natAbs≤1){l:List M4a}(hs:SrtM l)(hl:l.length≤100)(n:Nat):
  jN a b c t d (n+1) u l=jN a b c t d n (u+1) (zEk a b c d t u l):=by
 have b1:=ab (zN ht ht);have b3:=ab (zN (zN hd hu) hu);have b2:=ab (zN hd hu);have b4':=zN hb hu;have b4:=ab b4';have b5:=ab (zN (x:=-c) (A:=1000000) (by rw[Int.natAbs_neg];exact hc) hu);have b6:=ab (zN ha hu);have b7:=ab (Nat.le_trans (zP7 (t - b*u)) (Nat.le_trans (Int.natAbs_sub_le t (b*u)) (Nat.add_le_add ht b4')));have b8:=ab (Nat.le_trans (zP7 (t+b*u)) (Nat.le_trans (Int.natAbs_add_le t (b*u)) (Nat.add_le_add ht b4')));have c1:=ab hc;have c2:=ab ht;have c3:=ab hu;clear ha hb hc hd ht hu b4'
 conv=>lhs;unfold jN
 rw[qK,zb (by omega),za,zB (n:=t*t) (by omega),zB (n:=d*u) (by omega),zB (n:=d*u*u) (by omega),zB (n:=t*t - d*u*u) (by omega),Option.bind_some];unfold zEk;by_cases h:t*t - d*u*u=4
 ·rw[if_pos h,h,zGK];simp only[Bool.not_true,cond_false,zO];rw[zB (n:=b*u) (by omega),zB (n:=t - b*u) (by omega),zB (n:=t+b*u) (by omega),zB (n:=(t - b*u).tdiv 2) (by omega),zB (n:=(t+b*u).tdiv 2) (by omega),zB (n:=0 - c) (by omega),zB (n:=a*u) (by omega),show (0 - c:Int)=-c by omega,zB (n:=-c*u) (by omega),zB (n:=u+1) (by omega),zCw (by simp;omega)];unfold matU;rw[←zYF _ _ hs];generalize (t - b*u).tdiv 2=f1;generalize (t+b*u).tdiv 2=f4;generalize -c*u=f2;generalize a*u=f3;obtain⟨x',hx⟩:=z2g (f1,f2,f3,f4) l (by omega) a b c t u d FU l.length (f1,f2,f3,f4) (Nat.le_refl _) (by have:=FUge;omega);have hp:=zZ1 (f1,f2,f3,f4) l;rw[List.take_length,List.drop_length]at hx;dsimp only at hx;unfold insM;generalize posM (f1,f2,f3,f4) l l.length=p at*;have hg:getI (l.take p++x'::l.drop p) (p:Int)=some x':=by
   rw[zDz (by simp;omega)];congr 1;rw[List.getElem_append_right (by simp;omega)];simp[show p - min p l.length=0 by omega]
  simp only[Option.bind_some,hx,hg,zg,z19 hp]
 ·rw[if_neg h,eqNe h];simp only[zf,za,zO];rw[zB (n:=u+1) (by omega)]
def rowU(a b c d t:Int)(l:List M4a):List M4a:=zEk a b c d t 1 (zEk a b c d t 0 (zEk a b c d t (-1) l))
theorem zFY{a b c d t:Int}{l:List M4a}(h:SrtM l):SrtM (rowU a b c d t l):=zIE (zIE (zIE h))
theorem zPU(a b c d t:Int)(l:List M4a):(rowU a b c d t l).length≤l.length+3:=by have h1:=zJj a b c d t (-1) l;have h2:=zJj a b c d t 0 (zEk a b c d t (-1) l);have h3:=zJj a b c d t 1 (zEk a b c d t 0 (zEk a b c d t (-1) l));unfold rowU;omega
theorem z7h{a b c d t:Int}(ha:a.natAbs≤1000000)(hb:b.natAbs≤1000000)(hc:c.natAbs≤1000000)(hd:d.natAbs≤10000000000000)(ht:t.natAbs≤2){l:List M4a}(hs:SrtM l)(hl:l.length≤50):
  jN a b c t d FU (-1) l=some (rowU a b c d t l):=by
 obtain⟨m,hm⟩:∃m,FU=m+1+1+1+1:=⟨FU - 4,by have:=FUge;omega⟩
 have h1:=zJj a b c d t (-1) l;have h2:=zJj a b c d t 0 (zEk a b c d t (-1) l);rw[hm,S17 ha hb hc hd ht (by decide) hs (by omega),show (-1+1:Int)=0 from rfl,S17 ha hb hc hd ht (by decide) (zIE hs) (by omega),show (0+1:Int)=1 from rfl,S17 ha hb hc hd ht (by decide) (zIE (zIE hs)) (by omega)];unfold jN;rfl
theorem S12{a b c d t:Int}(ha:a.natAbs≤1000000)(hb:b.natAbs≤1000000)(hc:c.natAbs≤1000000)(hd:d.natAbs≤10000000000000)(ht:t.natAbs≤2){l:List M4a}(hs:SrtM l)(hl:l.length≤50)(n:Nat):
  zAH a b c d (n+1) t l=zAH a b c d n (t+1) (rowU a b c d t l):=by
 conv=>lhs;unfold zAH
 rw[qK,zb (by omega),za,z7h ha hb hc hd ht hs hl];simp only[Option.bind_some,zO];rw[zB (n:=t+1) (by omega)]
def allU(a b c d:Int):List M4a:=rowU a b c d 2 (rowU a b c d 1 (rowU a b c d 0 (rowU a b c d (-1) (rowU a b c d (-2) []))))
theorem z7i{a b c d:Int}(ha:a.natAbs≤1000000)(hb:b.natAbs≤1000000)(hc:c.natAbs≤1000000)(hd:d.natAbs≤10000000000000):zAH a b c d FU (-2) []=some (allU a b c d):=by
 obtain⟨m,hm⟩:∃m,FU=m+1+1+1+1+1+1:=⟨FU - 6,by have:=FUge;omega⟩
 have s0:SrtM []:=List.Pairwise.nil;have h1:=zPU a b c d (-2) [];have h2:=zPU a b c d (-1) (rowU a b c d (-2) []);have h3:=zPU a b c d 0 (rowU a b c d (-1) (rowU a b c d (-2) []));have h4:=zPU a b c d 1 (rowU a b c d 0 (rowU a b c d (-1) (rowU a b c d (-2) [])));rw[List.length_nil]at h1;rw[hm,S12 ha hb hc hd (by decide) s0 (by simp),show (-2+1:Int)=-1 from rfl,S12 ha hb hc hd (by decide) (zFY s0) (by omega),show (-1+1:Int)=0 from rfl,S12 ha hb hc hd (by decide) (zFY (zFY s0)) (by omega),show (0+1:Int)=1 from rfl,
  S12 ha hb hc hd (by decide) (zFY (zFY (zFY s0))) (by omega),show (1+1:Int)=2 from rfl,S12 ha hb hc hd (by decide) (zFY (zFY (zFY (zFY s0)))) (by omega)]
 unfold zAH;rfl
theorem z7L{a b c d:Int}(h:d≤-5):allU a b c d=insR (matU a b c 2 0) (insR (matU a b c (-2) 0) []):=by
 unfold allU rowU zEk;rw[if_neg (c:=(-2)*(-2) - d*(-1)*(-1)=4) (by omega),if_pos (c:=(-2)*(-2) - d*0*0=4) (by omega),if_neg (c:=(-2)*(-2) - d*1*1=4) (by omega),
  if_neg (c:=(-1)*(-1) - d*(-1)*(-1)=4) (by omega),if_neg (c:=(-1)*(-1) - d*0*0=4) (by omega),if_neg (c:=(-1)*(-1) - d*1*1=4) (by omega),
  if_neg (c:=0*0 - d*(-1)*(-1)=4) (by omega),if_neg (c:=0*0 - d*0*0=4) (by omega),if_neg (c:=0*0 - d*1*1=4) (by omega),
  if_neg (c:=1*1 - d*(-1)*(-1)=4) (by omega),if_neg (c:=1*1 - d*0*0=4) (by omega),if_neg (c:=1*1 - d*1*1=4) (by omega),
  if_neg (c:=2*2 - d*(-1)*(-1)=4) (by omega),if_pos (c:=2*2 - d*0*0=4) (by omega),if_neg (c:=2*2 - d*1*1=4) (by omega)]
theorem all_4(a b c:Int):allU a b c (-4)=insR (matU a b c 2 0) (insR (matU a b c 0 1) (insR (matU a b c 0 (-1)) (insR (matU a b c (-2) 0) []))):=rfl
theorem all_3(a b c:Int):allU a b c (-3)=insR (matU a b c 2 0) (insR (matU a b c 1 1) (insR (matU a b c 1 (-1)) (insR (matU a b c (-1) 1) (insR (matU a b c (-1) (-1)) (insR (matU a b c (-2) 0) []))))):=rfl
theorem isMat_val'(m:M4a):zY m=some (inN m.1&&(inN m.2.1&&(inN m.2.2.1&&inN m.2.2.2))):=by simp only[zY,zGH _ (show [m.1,m.2.1,m.2.2.1,m.2.2.2].length<1000000 by simp),List.all_cons,List.all_nil,Bool.and_true,Option.bind_some]
theorem z1Y{n:Nat}{l h:Int}(h0:0≤l)(h1:l≤h)(h2:h≤n):slc n l h=some ():=by unfold slc;rw[qK,qK,qK,zb h0,zb h1,zb h2];rfl
theorem step8{y4:(Int×Int×Int)×M4a}{Ts:List M4a}{k:Nat}(hk:k<Ts.length)(hkb:Ts.length≤100){A Z V:M4a}(h1:zF y4.2 Ts[k]=some Z)(h2:zP y4.2=some V)(h3:zF Z V=some A)(h4:zY A=some true){l:List M4a}(hs:SrtM l)(hl:l.length≤100)(n:Nat):
  zAA y4 Ts (n+1) (k:Int) l=zAA y4 Ts n ((k+1:Nat):Int) (insR A l):=by
 conv=>lhs;unfold zAA
 have hp:=zZ1 A l;rw[zS,zb (by omega),za,zDz hk];simp only[Option.bind_some,h1,h2,h3,h4,Bool.not_true,cond_false,z2h A l (by omega) (k:Int) y4 Ts FU l.length (Nat.le_refl _) (by have:=FUge;omega)];rw[←zYF _ _ hs];unfold insM;generalize posM A l l.length=p at*;have hn:(l++[((0,0,0,0):M4a)]).length=l.length+1:=by simp
 obtain⟨x,hx⟩:=z5D hp ((0,0,0,0):M4a);have hg:getI (l.take p++x::l.drop p) (p:Int)=some x:=by rw[zDz (by simp;omega)];congr 1;rw[List.getElem_append_right (by simp;omega)];simp[show p - min p l.length=0 by omega]
 rw[zCw (by simp;omega),zEJ (show p<1000000000 by omega),zEJ (show k<1000000000 by omega)];simp only[Option.bind_some];rw[z1Y (by omega) (by rw[hn];omega) (by omega),z1Y (by omega) (by rw[hn];omega) (by omega)];simp only[Option.bind_some,zg,hx,hg,zO,z19 hp]
theorem z6E{y4:(Int×Int×Int)×M4a}{Ts As:List M4a}(hkb:Ts.length≤50){V:M4a}(h2:zP y4.2=some V)(hlen:As.length=Ts.length)(hT:∀k (hk:k<Ts.length)(hk2:k<As.length),∃Z,zF y4.2 Ts[k]=some Z∧zF Z V=some As[k]∧zY As[k]=some true):
  ∀(n k:Nat)(l:List M4a),SrtM l→l.length≤k→k≤Ts.length→Ts.length - k<n→zAA y4 Ts n (k:Int) l=some (.inl ((As.drop k).foldl (fun l A=>insR A l) l))
 |0,k,l,_,_,_,h=>by omega
 |n+1,k,l,hs,hl,h0,h1=>by
  by_cases hk:k<Ts.length
  ·obtain⟨Z,z1,z2,z3⟩:=hT k hk (by omega);rw[step8 hk (by omega) z1 h2 z2 z3 hs (by omega),z6E hkb h2 hlen hT n (k+1) _ (zUS hs) (by rw[zKD];omega) (by omega) (by omega),List.drop_eq_getElem_cons (show k<As.length by omega),List.foldl_cons]
  ·unfold zAA;rw[zS,zc (by omega),cond_false,List.drop_eq_nil_of_le (by omega)];rfl
theorem zQE{x y:M4a}{X Y:Nat}(hx:x.1.natAbs≤X∧x.2.1.natAbs≤X∧x.2.2.1.natAbs≤X∧x.2.2.2.natAbs≤X)(hy:y.1.natAbs≤Y∧y.2.1.natAbs≤Y∧y.2.2.1.natAbs≤Y∧y.2.2.2.natAbs≤Y)(hXY:X*Y≤1000000000000):
  zF x y=some (x.1*y.1+x.2.1*y.2.2.1,x.1*y.2.1+x.2.1*y.2.2.2,x.2.2.1*y.1+x.2.2.2*y.2.2.1,x.2.2.1*y.2.1+x.2.2.2*y.2.2.2):=by
 obtain⟨x1,x2,x3,x4⟩:=hx;obtain⟨y1,y2,y3,y4⟩:=hy;have a1:=ab (Nat.le_trans (zN x1 y1) hXY);have a2:=ab (Nat.le_trans (zN x2 y3) hXY);have a3:=ab (Nat.le_trans (zN x1 y2) hXY);have a4:=ab (Nat.le_trans (zN x2 y4) hXY);have a5:=ab (Nat.le_trans (zN x3 y1) hXY);have a6:=ab (Nat.le_trans (zN x4 y3) hXY);have a7:=ab (Nat.le_trans (zN x3 y2) hXY);have a8:=ab (Nat.le_trans (zN x4 y4) hXY);clear x1 x2 x3 x4 y1 y2 y3 y4;simp only[zF,zO];rw[zB (n:=x.1*y.1) (by omega),zB (n:=x.2.1*y.2.2.1) (by omega),zB (n:=x.1*y.2.1) (by omega),zB (n:=x.2.1*y.2.2.2) (by omega),zB (n:=x.2.2.1*y.1) (by omega),zB (n:=x.2.2.2*y.2.2.1) (by omega),zB (n:=x.2.2.1*y.2.1) (by omega),zB (n:=x.2.2.2*y.2.2.2) (by omega),
  zB (n:=x.1*y.1+x.2.1*y.2.2.1) (by omega),zB (n:=x.1*y.2.1+x.2.1*y.2.2.2) (by omega),zB (n:=x.2.2.1*y.1+x.2.2.2*y.2.2.1) (by omega),zB (n:=x.2.2.1*y.2.1+x.2.2.2*y.2.2.2) (by omega)]
theorem zP6{m1 m2 m3 m4:Int}(h1:m1.natAbs≤2000)(h2:m2.natAbs≤2000)(h3:m3.natAbs≤2000)(h4:m4.natAbs≤2000)(hd:m1*m4 - m2*m3=1):zP (m1,m2,m3,m4)=some (m4,-m2,-m3,m1):=by have a1:=ab (zN h1 h4);have a2:=ab (zN h2 h3);have c1:=ab h1;have c2:=ab h2;have c3:=ab h3;have c4:=ab h4;clear h1 h2 h3 h4;simp only[zP,zBA,zO,Option.bind_some];rw[zB (n:=m1*m4) (by omega),zB (n:=m2*m3) (by omega),hd,zB (n:=(1:Int)) (by omega),show (0 - 1:Int)=-1 from rfl,zB (n:=(-1:Int)) (by omega),Int.one_mul,Int.one_mul,Int.neg_one_mul,Int.neg_one_mul,zB (n:=m4) (by omega),zB (n:=-m2) (by omega),zB (n:=-m3) (by omega),zB (n:=m1) (by omega)]
theorem z1v{a b c t u P Q R S:Int}(e1:t - b*u=2*P)(e2:-c*u=Q)(e3:a*u=R)(e4:t+b*u=2*S):matU a b c t u=(P,Q,R,S):=by unfold matU;rw[e1,e2,e3,e4,Int.mul_tdiv_cancel_left _ (by decide),Int.mul_tdiv_cancel_left _ (by decide)]
theorem z2R{m1 m2 m3 m4 x1 x2 x3 x4 a b c t u:Int}(h1:m1.natAbs≤2000)(h2:m2.natAbs≤2000)(h3:m3.natAbs≤2000)(h4:m4.natAbs≤2000)(y1:x1.natAbs≤1)(y2:x2.natAbs≤1)(y3:x3.natAbs≤1)(y4:x4.natAbs≤1)
  (ha:a.natAbs≤1000000) (hb:b.natAbs≤1000000) (hc:c.natAbs≤1000000) (ht:t.natAbs≤2) (hu:u.natAbs≤1)
  (e1:t - b*u=2*((m1*x1+m2*x3)*m4+(m1*x2+m2*x4)*(-m3))) (e2:-c*u=(m1*x1+m2*x3)*(-m2)+(m1*x2+m2*x4)*m1) (e3:a*u=(m3*x1+m4*x3)*m4+(m3*x2+m4*x4)*(-m3)) (e4:t+b*u=2*((m3*x1+m4*x3)*(-m2)+(m3*x2+m4*x4)*m1)):
  ∃Z,zF (m1,m2,m3,m4) (x1,x2,x3,x4)=some Z∧zF Z (m4,-m2,-m3,m1)=some (matU a b c t u)∧zY (matU a b c t u)=some true:=by
 have q1:=zQE (x:=(m1,m2,m3,m4)) (y:=(x1,x2,x3,x4)) (X:=2000) (Y:=1) ⟨h1,h2,h3,h4⟩ ⟨y1,y2,y3,y4⟩ (by decide);have s:∀{p q r s:Int},p.natAbs≤2000→q.natAbs≤2000→r.natAbs≤1→s.natAbs≤1→(p*r+q*s).natAbs≤4000:=by intro p q r s p1 p2 p3 p4;have a1:=ab (zN p1 p3);have a2:=ab (zN p2 p4);omega
 have q2:=zQE (x:=(m1*x1+m2*x3,m1*x2+m2*x4,m3*x1+m4*x3,m3*x2+m4*x4)) (y:=(m4,-m2,-m3,m1)) (X:=4000) (Y:=2000) ⟨s h1 h2 y1 y3,s h1 h2 y2 y4,s h3 h4 y1 y3,s h3 h4 y2 y4⟩ ⟨h4,by rw[Int.natAbs_neg];exact h2,by rw[Int.natAbs_neg];exact h3,h1⟩ (by decide);refine⟨_,q1,?_,?_⟩
 ·rw[z1v e1 e2 e3 e4];exact q2
 ·rw[isMat_val'];have b4:=ab (zN hb hu);have b5:=ab (zN (x:=-c) (A:=1000000) (by rw[Int.natAbs_neg];exact hc) hu);have b6:=ab (zN ha hu);have b7:=ab (zP7 (t - b*u));have b8:=ab (zP7 (t+b*u));have c2:=ab ht;have k1:inN (matU a b c t u).1=true:=by
   rw[qO];show _≤(t - b*u).tdiv 2∧(t - b*u).tdiv 2≤_;have:(t - b*u).tdiv 2=(m1*x1+m2*x3)*m4+(m1*x2+m2*x4)*(-m3):=by rw[e1,Int.mul_tdiv_cancel_left _ (by decide)]
   rw[this];omega
  have k4:inN (matU a b c t u).2.2.2=true:=by
   rw[qO];show _≤(t+b*u).tdiv 2∧(t+b*u).tdiv 2≤_;have:(t+b*u).tdiv 2=(m3*x1+m4*x3)*(-m2)+(m3*x2+m4*x4)*m1:=by rw[e4,Int.mul_tdiv_cancel_left _ (by decide)]
   rw[this];omega
  have k2:inN (matU a b c t u).2.1=true:=by rw[qO];show _≤-c*u∧-c*u≤_;omega
  have k3:inN (matU a b c t u).2.2.1=true:=by rw[qO];show _≤a*u∧a*u≤_;omega
  rw[k1,k2,k3,k4];rfl
theorem MatInv.back{A B C p q r s a b c:Int}(h:MatInv A B C p q r s a b c):A=a*s*s - b*r*s+c*r*r∧B=-2*a*q*s+b*(p*s+q*r) - 2*c*p*r∧C=a*q*q - b*p*q+c*p*p:=by
 obtain⟨e1,e2,e3,dt⟩:=h;subst e1 e2 e3;have k1:(A*p*p+B*p*r+C*r*r)*s*s - (2*A*p*q+B*(p*s+q*r)+2*C*r*s)*r*s+(A*q*q+B*q*s+C*s*s)*r*r=A*((p*s - q*r)*(p*s - q*r)):=by grind
 have k2:-2*(A*p*p+B*p*r+C*r*r)*q*s+(2*A*p*q+B*(p*s+q*r)+2*C*r*s)*(p*s+q*r) - 2*(A*q*q+B*q*s+C*s*s)*p*r=B*((p*s - q*r)*(p*s - q*r)):=by grind
 have k3:(A*p*p+B*p*r+C*r*r)*q*q - (2*A*p*q+B*(p*s+q*r)+2*C*r*s)*p*q+(A*q*q+B*q*s+C*s*s)*p*p=C*((p*s - q*r)*(p*s - q*r)):=by grind
 rw[k1,k2,k3,dt];simp
theorem tv1:zAO ([(1,0,0,1)]) FU 0 []=some [(-1,0,0,-1)]:=by decide+kernel
theorem tv2:zAO ([(1,0,0,1)]++[(0,-1,1,0)]) FU 0 []=some [(-1,0,0,-1),(0,1,-1,0)]:=by decide+kernel
theorem tv3:zAO ([(1,0,0,1)]++[(0,-1,1,1),(1,1,-1,0)]) FU 0 []=some [(-1,0,0,-1),(0,1,-1,-1),(-1,-1,1,0)]:=by decide+kernel
theorem z2k{a b c:Int}(h1:¬(a=c∧b=0))(h2:¬(a=c∧b=a)):zAZ (a,b,c)=some [(1,0,0,1),(-1,0,0,-1)]:=by
 simp only[zAZ,zDA,Option.bind_some];have e1:(bif eqI a c then eqI b 0 else false)=false:=by
  by_cases h:a=c
  ·rw[h,zGK,za,eqNe (fun k=>h1 ⟨h,k⟩)]
  ·rw[eqNe h];rfl
 have e2:(bif eqI a c then eqI b a else false)=false:=by
  by_cases h:a=c
  ·rw[h,zGK,za,eqNe (fun k=>h2 ⟨h,k.trans h.symm⟩)]
  ·rw[eqNe h];rfl
 rw[e1,e2,cond_false,cond_false,tv1];rfl
theorem z6N(a:Int):zAZ (a,0,a)=some [(1,0,0,1),(0,-1,1,0),(-1,0,0,-1),(0,1,-1,0)]:=by simp only[zAZ,zDA,Option.bind_some,zGK,za];rw[zCw (by decide),Option.bind_some,tv2];rfl
theorem z6O{a:Int}(h:a≠0):zAZ (a,a,a)=some [(1,0,0,1),(0,-1,1,1),(1,1,-1,0),(-1,0,0,-1),(0,1,-1,-1),(-1,-1,1,0)]:=by simp only[zAZ,zDA,Option.bind_some,zGK,za,eqNe h,cond_false];rw[zCw (by decide),Option.bind_some,tv3];rfl
theorem z3y:∀(k n:Nat)(a b:Int),b.natAbs<2 ^k→2*k+1≤n→∃r,jS n a b=some r∧r.natAbs=Int.gcd a b
 |k,0,a,b,_,hn=>by omega
 |0,n+1,a,b,hb,hn=>by
  have:b=0:=by simp at hb;omega
  subst this;unfold jS;rw[zBy];exact⟨a,rfl,by simp⟩
 |k+1,n+1,a,b,hb,hn=>by
  unfold jS;by_cases h0:b=0
  ·subst h0;rw[zBy];exact⟨a,rfl,by simp⟩
  ·rw[zDm h0,zFP h0];simp only[zf,za,Option.bind_some,zO];rw[←zII a b]
   match n,hn with
   |n+1,hn=>
    unfold jS;by_cases h1:a.tmod b=0
    ·rw[h1,zBy];exact⟨b,rfl,by simp⟩
    ·rw[zDm h1,zFP h1];simp only[zf,za,Option.bind_some,zO];rw[←zII b (a.tmod b)];refine z3y k n _ _ ?_ (by omega)
     rw[Int.natAbs_tmod];have h2:(a.tmod b).natAbs<b.natAbs:=by rw[Int.natAbs_tmod];exact Nat.mod_lt _ (by omega)
     exact zYI k (by omega) h2 hb
theorem z3v:∀(n:Nat)(a b r:Int),0≤a→0≤b→jS n a b=some r→0≤r
 |0,a,b,r,_,_,h=>by cases h
 |n+1,a,b,r,ha,hb,h=>by
  unfold jS at h;by_cases h0:b=0
  ·subst h0;rw[zBy]at h;have h:some a=some r:=h;injection h with h;omega
  ·rw[zDm h0,zFP h0]at h;simp only[zf,za,Option.bind_some,zO]at h;exact z3v n _ _ _ hb (Int.tmod_nonneg _ ha) h
theorem zW5{a b:Int}(ha:a.natAbs≤9223372036854775806)(hb:b.natAbs≤9223372036854775806):zAj a b=some (Int.gcd a b:Int):=by obtain⟨r,h1,h2⟩:=z3y 64 FU (a.natAbs:Int) (b.natAbs:Int) (by omega) (Nat.le_trans (by decide:129≤1000000) (by decide));have h3:=z3v _ _ _ _ (by omega) (by omega) h1;rw[zJQ]at h2;simp only[zAj,zJp ha,zJp hb,Option.bind_some,h1];congr 1;omega
theorem zVi{a b c:Int}(ha:inN a=true)(hb:inN b=true)(hc:inN c=true):zAT (a,b,c)=some (Int.gcd a (Int.gcd b c):Int):=by rw[qO]at ha hb hc;have h:=zUU (a:=a) (b:=b) (M:=1000000) (by omega) (by omega);simp only[zAT,zW5 (a:=a) (b:=b) (by omega) (by omega),Option.bind_some];rw[zW5 (by omega) (by omega),Option.bind_some];congr 2;unfold Int.gcd;simp[Nat.gcd_assoc]
theorem in_of_def'{f:Int×Int×Int}(h:zI f=some true):inN f.1=true∧inN f.2.1=true∧inN f.2.2=true:=by
 simp only[zI,zF1,Option.bind_some]at h;cases ha:inN f.1 with
 |false=>rw[ha]at h;simp at h
 |true=>
  cases hb:inN f.2.1 with
  |false=>rw[ha,hb]at h;simp at h
  |true=>
   cases hc:inN f.2.2 with
   |false=>rw[ha,hb,hc]at h;simp at h
   |true=>exact⟨rfl,rfl,rfl⟩
theorem zVD{k a:Int}(hk:k≠0):a.natAbs≤(k*a).natAbs:=by rw[Int.natAbs_mul];exact Nat.le_mul_of_pos_left _ (Int.natAbs_pos.2 hk)
theorem kc{k x y:Int}(hk:k≠0)(h:k*x=k*y):x=y:=Int.eq_of_mul_eq_mul_left hk h
theorem zZd{m:M4a}:∀{As l:List M4a},m∈As.foldl (fun l A=>insR A l) l→m∈As∨m∈l
 |[],l,h=>.inr h
 |A::As,l,h=>by
  rw[List.foldl_cons]at h;rcases zZd h with h|h
  ·exact .inl (zl _ h)
  ·rcases zP1 h with h|h
   ·exact .inl (by rw[h];exact zk)
   ·exact .inr h
theorem zZg:∀(As l:List M4a),(As.foldl (fun l A=>insR A l) l).length=l.length+As.length
 |[],l=>rfl
 |A::As,l=>by rw[List.foldl_cons,zZg As,zKD,ze];omega
theorem z1d{α β γ d:Int}(hα:1≤α)(hr:(-α<β∧β≤α)∧(α<γ∨(α=γ∧0≤β)))(hd:β*β - 4*α*γ=d)(h:-4≤d):α=1:=by
 obtain⟨⟨b1,b2⟩,hr⟩:=hr;have hac:α≤γ:=by omega
 have h1:α*α≤α*γ:=zn hac (by omega);have h2:=ab (zN (x:=β) (y:=β) (A:=α.natAbs) (B:=α.natAbs) (by omega) (by omega));have h3:((α.natAbs*α.natAbs:Nat):Int)=α*α:=Int.natAbs_mul_self;rw[h3]at h2;have h4:4*α*γ=4*(α*γ):=by rw[zw]
 rcases Int.lt_or_le 1 α with h5|h5
 ·have h6:2*2≤α*α:=Int.mul_le_mul (by omega) (by omega) (by decide) (by omega);omega
 ·omega
theorem z6U(b:Int):b*b % 4=0∨b*b % 4=1:=by
 rcases (show b % 2=0∨b % 2=1 by omega) with h|h
 ·obtain⟨q,hq⟩:=Int.dvd_of_emod_eq_zero h;have:b*b=4*(q*q):=by rw[hq];grind
  omega
 ·have hq:b=2*(b / 2)+1:=by omega
  have:b*b=4*((b / 2)*(b / 2)+b / 2)+1:=by generalize b / 2=q at*;rw[hq];grind
  omega
theorem perm4(a b c d:M4a):insR d (insR c (insR b (insR a [])))=insR a (insR b (insR d (insR c []))):=by rw[zB1 b a,zB1 c a,zB1 d a,zB1 c b,zB1 d b]
theorem perm6(a b c d e f:M4a):insR f (insR e (insR d (insR c (insR b (insR a [])))))=insR a (insR b (insR c (insR f (insR e (insR d []))))):=by rw[zB1 b a,zB1 c a,zB1 d a,zB1 e a,zB1 f a,zB1 c b,zB1 d b,zB1 e b,zB1 f b,zB1 d c,zB1 e c,zB1 f c]
theorem zUw{A B C:Int}(hdef:zI (A,B,C)=some true){g2:Int×Int×Int}{r V:M4a}{Ts As:List M4a}(k1:zQ (A,B,C)=some (g2,r))(k2:zAZ g2=some Ts)(h2:zP r=some V)(hkb:Ts.length≤50)(hlen:As.length=Ts.length)
  (hT:∀k (hk:k<Ts.length)(hk2:k<As.length),∃Z,zF r Ts[k]=some Z∧zF Z V=some As[k]∧zY As[k]=some true):
  zB9 (A,B,C)=some (As.foldl (fun l A=>insR A l) [],true)∧(As.foldl (fun l A=>insR A l) []).length≤50∧∀m∈As.foldl (fun l A=>insR A l) [],zY m=some true:=by
 refine⟨?_,?_,fun m hm=>?_⟩
 ·have h8:=z6E (y4:=(g2,r)) hkb h2 hlen hT FU 0 [] List.Pairwise.nil (Nat.le_refl _) (Nat.zero_le _) (by have:=FUge;omega);rw[List.drop_zero]at h8;have h8:zAA (g2,r) Ts FU 0 []=_:=h8;simp only[zB9,hdef,k1,k2,h8,Option.bind_some,Bool.not_true,cond_false]
 ·rw[zZg];simp only[List.length_nil];omega
 ·rcases zZd hm with hm|hm
  ·obtain⟨k,hk,rfl⟩:=List.getElem_of_mem hm;obtain⟨_,_,_,h⟩:=hT k (by omega) hk;exact h
  ·cases hm
theorem z3o(a b c d t u:Int)(l:List M4a):l.length≤(zEk a b c d t u l).length:=by
 unfold zEk;split
 ·rw[zKD];exact Nat.le_succ _
 ·exact Nat.le_refl _
theorem zVA(a b c d:Int):0<(allU a b c d).length:=by
 unfold allU;generalize rowU a b c d 1 (rowU a b c d 0 (rowU a b c d (-1) (rowU a b c d (-2) [])))=l;unfold rowU;have h1:=z3o a b c d 2 1 (zEk a b c d 2 0 (zEk a b c d 2 (-1) l));have h2:0<(zEk a b c d 2 0 (zEk a b c d 2 (-1) l)).length:=by generalize zEk a b c d 2 (-1) l=l;unfold zEk;rw[if_pos (by omega),zKD];omega
 omega
theorem zQQ{a b c d t u:Int}{l:List M4a}{m:M4a}(h:m∈zEk a b c d t u l):(∃t u,t*t - d*u*u=4∧m=matU a b c t u)∨m∈l:=by
 unfold zEk at h;split at h
 ·rename_i hn;rcases zP1 h with h|h
  ·exact .inl ⟨t,u,hn,h⟩
  ·exact .inr h
 ·exact .inr h
theorem zMM{a b c d t:Int}{l:List M4a}{m:M4a}(h:m∈rowU a b c d t l):(∃t u,t*t - d*u*u=4∧m=matU a b c t u)∨m∈l:=by
 rcases zQQ h with h|h
 ·exact .inl h
 rcases zQQ h with h|h
 ·exact .inl h
 exact zQQ h
theorem z50{a b c d:Int}{m:M4a}(h:m∈allU a b c d):∃t u,t*t - d*u*u=4∧m=matU a b c t u:=by
 rcases zMM h with h|h
 ·exact h
 rcases zMM h with h|h
 ·exact h
 rcases zMM h with h|h
 ·exact h
 rcases zMM h with h|h
 ·exact h
 rcases zMM h with h|h
 ·exact h
 cases h
theorem z4W{k a b c t u:Int}(h:t*t - (b*b - 4*a*c)*u*u=4):MatInv (k*a) (k*b) (k*c) (matU a b c t u).1 (matU a b c t u).2.1 (matU a b c t u).2.2.1 (matU a b c t u).2.2.2 (k*a) (k*b) (k*c):=by
 obtain⟨P,hP⟩:∃P,t - b*u=2*P:=by
  rcases (show (t - b*u) % 2=0∨(t - b*u) % 2=1 by omega) with e|e
  ·exact⟨(t - b*u) / 2,by omega⟩
  ·exfalso
   obtain⟨P,hP⟩:∃P,t - b*u=2*P+1:=⟨(t - b*u) / 2,by omega⟩
   have ht:t=2*P+1+b*u:=by omega
   have e1:(2*P+1+b*u)*(2*P+1+b*u) - (b*b - 4*a*c)*u*u=4*(P*P)+4*P+1+4*(P*(b*u))+2*(b*u)+4*(a*c*u*u):=by grind
   rw[ht,e1]at h;omega
 have ht:t=2*P+b*u:=by omega
 have hN:P*P+P*b*u+a*c*u*u=1:=by
  have e1:(2*P+b*u)*(2*P+b*u) - (b*b - 4*a*c)*u*u=4*(P*P)+4*(P*b*u)+4*(a*c*u*u):=by grind
  rw[ht,e1]at h;omega
 have hm:matU a b c t u=(P,-c*u,a*u,P+b*u):=z1v hP rfl rfl (by omega);rw[hm];refine⟨?_,?_,?_,?_⟩
 ·show k*a*P*P+k*b*P*(a*u)+k*c*(a*u)*(a*u)=k*a;have:k*a*P*P+k*b*P*(a*u)+k*c*(a*u)*(a*u)=k*a*(P*P+P*b*u+a*c*u*u):=by grind
  rw[this,hN,Int.mul_one]
 ·show 2*(k*a)*P*(-c*u)+k*b*(P*(P+b*u)+-c*u*(a*u))+2*(k*c)*(a*u)*(P+b*u)=k*b;have:2*(k*a)*P*(-c*u)+k*b*(P*(P+b*u)+-c*u*(a*u))+2*(k*c)*(a*u)*(P+b*u)=k*b*(P*P+P*b*u+a*c*u*u):=by grind
  rw[this,hN,Int.mul_one]
 ·show k*a*(-c*u)*(-c*u)+k*b*(-c*u)*(P+b*u)+k*c*(P+b*u)*(P+b*u)=k*c;have:k*a*(-c*u)*(-c*u)+k*b*(-c*u)*(P+b*u)+k*c*(P+b*u)*(P+b*u)=k*c*(P*P+P*b*u+a*c*u*u):=by grind
  rw[this,hN,Int.mul_one]
 ·show P*(P+b*u) - -c*u*(a*u)=1;have:P*(P+b*u) - -c*u*(a*u)=P*P+P*b*u+a*c*u*u:=by grind
  rw[this,hN]
theorem zVB{k a b c:Int}{m:M4a}(h:m∈allU a b c (b*b - 4*a*c)):MatInv (k*a) (k*b) (k*c) m.1 m.2.1 m.2.2.1 m.2.2.2 (k*a) (k*b) (k*c):=by obtain⟨t,u,h1,h2⟩:=z50 h;rw[h2];exact z4W h1
theorem z3T{A B C:Int}(hdef:zI (A,B,C)=some true):∃l,zCP (A,B,C)=some l∧zB9 (A,B,C)=some (l,true)∧l.length≤50∧(∀m∈l,zY m=some true)∧0<l.length∧∀m∈l,MatInv A B C m.1 m.2.1 m.2.2.1 m.2.2.2 A B C:=by
 obtain⟨iA,iB,iC⟩:=in_of_def' hdef;dsimp only at iA iB iC;obtain⟨g,hi,hcM⟩:=zOH hdef;obtain⟨m1,m2,m3,m4,a2,b2,c2,k1,q2,q3,q4,s1,s2,s3,s4⟩:=z1e hi hcM;have hcont:=zVi iA iB iC;have dA:(Int.gcd A (Int.gcd B C):Int)∣A:=Int.gcd_dvd_left ..;have dBC:(Int.gcd A (Int.gcd B C):Int)∣(Int.gcd B C:Int):=Int.gcd_dvd_right ..;have dB:(Int.gcd A (Int.gcd B C):Int)∣B:=Int.dvd_trans dBC (Int.gcd_dvd_left ..);have dC:(Int.gcd A (Int.gcd B C):Int)∣C:=Int.dvd_trans dBC (Int.gcd_dvd_right ..);have hgk:∀z:Int,z∣g→z∣(Int.gcd A (Int.gcd B C):Int):=fun z hz=>by obtain⟨z1,z2,z3⟩:=(hi.con z).2 hz;exact Int.dvd_coe_gcd z1 (Int.dvd_coe_gcd z2 z3)
 have hk0:0≤(Int.gcd A (Int.gcd B C):Int):=Int.natCast_nonneg _;generalize (Int.gcd A (Int.gcd B C):Int)=k at*;obtain⟨y1,y2,y3⟩:=(q2.con k).2 ((hi.con k).1 ⟨dA,dB,dC⟩);obtain⟨a,rfl⟩:=dA;obtain⟨b,rfl⟩:=dB;obtain⟨c,rfl⟩:=dC;obtain⟨α,rfl⟩:=y1;obtain⟨β,rfl⟩:=y2;obtain⟨γ,rfl⟩:=y3;have hkne:k≠0:=fun e=>by have:=hi.a1;rw[e,Int.zero_mul]at this;omega
 have hkp:0<k:=by omega
 have bA:=zVD (a:=a) hkne;have bB:=zVD (a:=b) hkne;have bC:=zVD (a:=c) hkne;have iA2:=qO.1 iA;have iB2:=qO.1 iB;have iC2:=qO.1 iC;have ba:a.natAbs≤1000000:=by omega
 have bb:b.natAbs≤1000000:=by omega
 have bc:c.natAbs≤1000000:=by omega
 -- discriminants
 have hdis:=q2.dis;have hneg:=hi.neg;have hdd:β*β - 4*α*γ=b*b - 4*a*c:=by refine kc hkne (kc hkne ?_);grind
 have hdneg:b*b - 4*a*c<0:=by
  rcases Int.lt_or_le (b*b - 4*a*c) 0 with h|h
  ·exact h
  ·exfalso
   have h5:0≤k*(k*(b*b - 4*a*c)):=Int.mul_nonneg hk0 (Int.mul_nonneg hk0 h);have h6:k*(k*(b*b - 4*a*c))=k*b*(k*b) - 4*(k*a)*(k*c):=by grind
   omega
 have hαp:1≤α:=by
  have h5:=q2.a1;rcases Int.lt_or_le 0 α with h|h
  ·omega
  ·have:=Int.mul_nonpos_of_nonneg_of_nonpos hk0 h;omega
 have hred:(-α<β∧β≤α)∧(α<γ∨(α=γ∧0≤β)):=by
  obtain⟨⟨r1,r2⟩,r3⟩:=q3;have r1:k*(-α)<k*β:=by rw[Int.mul_neg];exact r1
  refine⟨⟨Int.lt_of_mul_lt_mul_left r1 hk0,Int.le_of_mul_le_mul_left r2 hkp⟩,?_⟩;rcases r3 with r3|⟨r3,r4⟩
  ·exact .inl (Int.lt_of_mul_lt_mul_left r3 hk0)
  ·refine .inr ⟨kc hkne r3,?_⟩;rw[←Int.mul_zero k]at r4;exact Int.le_of_mul_le_mul_left r4 hkp
 -- the reference
 have hspec:zCP (k*a,k*b,k*c)=some (allU a b c (b*b - 4*a*c)):=by
  have j1:=ab (zN bb bb);have j2:=ab (zN ba bc);have j3:4*a*c=4*(a*c):=by rw[zw]
  have hds:=zPb (a:=a) (b:=b) (c:=c) (qO.2 (by omega)) (qO.2 (by omega)) (qO.2 (by omega));simp only[zCP,hcont,Option.bind_some,zFP hkne,zO,Int.mul_tdiv_cancel_left _ hkne,zGL];rw[zB (n:=a) (by omega),zB (n:=b) (by omega),zB (n:=c) (by omega),hds];simp only[Option.bind_some];rw[z7i ba bb bc (by omega)];rfl
 have hinv:=zP6 s1 s2 s3 s4 q4.dt;have hdt:=q4.dt;obtain⟨v1,v2,v3⟩:=q4.back;have hI:∀{t:Int}(x:Int),x.natAbs≤1→t=2*x→∃Z,zF (m1,m2,m3,m4) (x,0,0,x)=some Z∧zF Z (m4,-m2,-m3,m1)=some (matU a b c t 0)∧zY (matU a b c t 0)=some true:=by intro t x hx ht;subst ht;exact z2R s1 s2 s3 s4 hx (by decide) (by decide) hx ba bb bc (by omega) (by decide) (by grind) (by grind) (by grind) (by grind)
 have hmod:=z6U b;rw[hspec];rcases (show b*b - 4*a*c≤-5∨b*b - 4*a*c=-4∨b*b - 4*a*c=-3 by
  have j3:4*a*c=4*(a*c):=by rw[zw]
  omega) with hd|hd|hd
 ·have hone:k*α∣k→α=1:=fun⟨z,hz⟩=>by
   have h5:k*1=k*(α*z):=by rw[Int.mul_one,←zw];exact hz
   have h6:=kc hkne h5;have h7:α∣1:=⟨z,h6⟩
   have:=Int.le_of_dvd (by decide) h7;omega
  have t1:¬(k*α=k*γ∧k*β=0):=fun⟨e1,e2⟩=>by have e1:=kc hkne e1;have e3:β=0:=kc hkne (by rw[e2,Int.mul_zero]);have h5:k*α∣g:=(q2.con _).1 ⟨Int.dvd_refl _,by rw[e2];exact Int.dvd_zero _,by rw[e1];exact Int.dvd_refl _⟩;have h6:=hone (hgk _ h5);subst h6 e3;rw[←e1]at hdd;omega
  have t2:¬(k*α=k*γ∧k*β=k*α):=fun⟨e1,e2⟩=>by have e1:=kc hkne e1;have e3:=kc hkne e2;have h5:k*α∣g:=(q2.con _).1 ⟨Int.dvd_refl _,by rw[e2];exact Int.dvd_refl _,by rw[e1];exact Int.dvd_refl _⟩;have h6:=hone (hgk _ h5);subst h6 e3;rw[←e1]at hdd;omega
  obtain⟨f1,f2,f3⟩:=zUw hdef k1 (z2k t1 t2) hinv (As:=[matU a b c 2 0,matU a b c (-2) 0]) (by simp) rfl (fun j hj hj2=>by
   match j,hj with
   |0,_=>exact hI 1 (by decide) rfl
   |1,_=>exact hI (-1) (by decide) rfl)
  refine⟨_,rfl,?_,?_,?_,zVA ..,fun m hm=>zVB hm⟩
  all_goals
   rw[z7L hd,zB1]
  ·exact f1
  ·exact f2
  ·exact f3
 ·have hα:=z1d hαp hred (hdd.trans hd) (by omega);subst hα;have hβ:β=0∧γ=1:=by
   rw[hd]at hdd;have:β=0∨β=1:=by omega
   rcases this with rfl|rfl<;>omega
  obtain⟨rfl,rfl⟩:=hβ;have w1:a=m4*m4+m3*m3:=kc hkne (by grind);have w2:b=-2*(m2*m4+m1*m3):=kc hkne (by grind);have w3:c=m2*m2+m1*m1:=kc hkne (by grind);have hW:∀{t u:Int}(x:Int),x.natAbs≤1→t=0→u=x→∃Z,zF (m1,m2,m3,m4) (0,-x,x,0)=some Z∧zF Z (m4,-m2,-m3,m1)=some (matU a b c t u)∧zY (matU a b c t u)=some true:=by intro t u x hx ht hu;subst ht hu;exact z2R s1 s2 s3 s4 (by decide) (by rw[Int.natAbs_neg];exact hx) hx (by decide) ba bb bc (by decide) hx (by rw[w2];grind) (by rw[w3];grind) (by rw[w1];grind) (by rw[w2];grind)
  have ht4:zAZ (k*1,k*0,k*1)=some [(1,0,0,1),(0,-1,1,0),(-1,0,0,-1),(0,1,-1,0)]:=by rw[Int.mul_zero];exact z6N _
  obtain⟨f1,f2,f3⟩:=zUw hdef k1 ht4 hinv (As:=[matU a b c 2 0,matU a b c 0 1,matU a b c (-2) 0,matU a b c 0 (-1)]) (by simp) rfl (fun j hj hj2=>by
   match j,hj with
   |0,_=>exact hI 1 (by decide) rfl
   |1,_=>exact hW 1 (by decide) rfl rfl
   |2,_=>exact hI (-1) (by decide) rfl
   |3,_=>exact hW (-1) (by decide) rfl rfl)
  refine⟨_,rfl,?_,?_,?_,zVA ..,fun m hm=>zVB hm⟩
  all_goals
   rw[hd,all_4,←perm4]
  ·exact f1
  ·exact f2
  ·exact f3
 ·have hα:=z1d hαp hred (hdd.trans hd) (by omega);subst hα;have hβ:β=1∧γ=1:=by
   rw[hd]at hdd;have:β=0∨β=1:=by omega
   rcases this with rfl|rfl<;>omega
  obtain⟨rfl,rfl⟩:=hβ;have w1:a=m4*m4 - m3*m4+m3*m3:=kc hkne (by grind);have w2:b=-2*m2*m4+(m1*m4+m2*m3) - 2*m1*m3:=kc hkne (by grind);have w3:c=m2*m2 - m1*m2+m1*m1:=kc hkne (by grind);have hU:∀{t u:Int}(x:Int),x.natAbs≤1→t=x→u=x→∃Z,zF (m1,m2,m3,m4) (0,-x,x,x)=some Z∧zF Z (m4,-m2,-m3,m1)=some (matU a b c t u)∧zY (matU a b c t u)=some true:=by intro t u x hx ht hu;subst ht hu;exact z2R s1 s2 s3 s4 (by decide) (by rw[Int.natAbs_neg];exact hx) hx hx ba bb bc (by omega) hx (by rw[w2];grind) (by rw[w3];grind) (by rw[w1];grind) (by rw[w2];grind)
  have hV:∀{t u:Int}(x:Int),x.natAbs≤1→t=x→u=-x→∃Z,zF (m1,m2,m3,m4) (x,x,-x,0)=some Z∧zF Z (m4,-m2,-m3,m1)=some (matU a b c t u)∧zY (matU a b c t u)=some true:=by intro t u x hx ht hu;subst ht hu;exact z2R s1 s2 s3 s4 hx hx (by rw[Int.natAbs_neg];exact hx) (by decide) ba bb bc (by omega) (by rw[Int.natAbs_neg];exact hx) (by rw[w2];grind) (by rw[w3];grind) (by rw[w1];grind) (by rw[w2];grind)
  have hkk:k*1≠0:=by rw[Int.mul_one];exact hkne
  obtain⟨f1,f2,f3⟩:=zUw hdef k1 (z6O hkk) hinv (As:=[matU a b c 2 0,matU a b c 1 1,matU a b c 1 (-1),matU a b c (-2) 0,matU a b c (-1) (-1),matU a b c (-1) 1]) (by simp) rfl (fun j hj hj2=>by
   match j,hj with
   |0,_=>exact hI 1 (by decide) rfl
   |1,_=>exact hU 1 (by decide) rfl rfl
   |2,_=>exact hV 1 (by decide) rfl rfl
   |3,_=>exact hI (-1) (by decide) rfl
   |4,_=>exact hU (-1) (by decide) rfl rfl
   |5,_=>exact hV (-1) (by decide) rfl rfl)
  refine⟨_,rfl,?_,?_,?_,zVA ..,fun m hm=>zVB hm⟩
  all_goals
   rw[hd,all_3,←perm6]
  ·exact f1
  ·exact f2
  ·exact f3
theorem zFa{n:Int}(h:inN n=true):sm18 n:=by rw[qO]at h;unfold sm18;omega
theorem z54{f:Int×Int×Int}(h1:sm18 f.1)(h2:sm18 f.2.1)(h3:sm18 f.2.2){l:List M4a}(hl:l.length≤50)(hx:∀m∈l,zY m=some true):∀(fu k:Nat)(acc:List qd),k≤l.length→l.length - k<fu→acc.length≤k→
  ∃r,jX f l fu (k:Int) acc=some r∧jY f (l,true) fu (k:Int) acc=some r∧r.length≤50∧∀x∈r,x∈acc∨∃m∈l,x=bl ([97,117,116,111,109,111,114,112,104]++Go.Lib.joinTail [32] [fB f,mB m])
 |0,k,acc,h0,h1,h2=>by omega
 |fu+1,k,acc,g0,g1,g2=>by
  unfold jX jY;dsimp only;rw[zS];by_cases hk:k<l.length
  ·have hm:=hx (l[k]) (zt hk);have gm:=zDz hk;rw[isMat_val']at hm;have hmem:=zt hk;obtain⟨m,hmm⟩:∃m,m=l[k]:=⟨_,rfl⟩
   rw[←hmm]at hm gm hmem;clear hmm;have hm:=zD hm;rw[zh,zh,zh]at hm;obtain⟨i1,i2,i3,i4⟩:=hm;have e1:(⟨#[97,117,116,111,109,111,114,112,104]⟩:qd)=bl [97,117,116,111,109,111,114,112,104]:=rfl;have hL:∀y∈[97,117,116,111,109,111,114,112,104]::[fB f,mB m],y.length≤1000:=by
    have a1:=zDC h1 h2 h3;have a2:=zQf (zFa i1) (zFa i2) (zFa i3) (zFa i4);intro y hy;simp only[zj,zo,or_false]at hy;rcases hy with rfl|rfl|rfl
    ·decide
    ·omega
    ·omega
   have t1:=zFj [97,117,116,111,109,111,114,112,104] [fB f,mB m] (by simp) hL;have t2:=zEo [97,117,116,111,109,111,114,112,104] [fB f,mB m] (by simp) (by simp) hL;simp only[List.map_cons,zp]at t1 t2;rw[zb (by omega),za,za];simp only[gm,Option.bind_some,zDl h1 h2 h3,jA h1 h2 h3,zKv (zFa i1) (zFa i2) (zFa i3) (zFa i4),zEZ (zFa i1) (zFa i2) (zFa i3) (zFa i4),e1,t1,t2,zO,zEJ (show k<1000000000 by omega)];rw[zCw (by simp;omega)];simp only[Option.bind_some];obtain⟨r,r1,r2,r3,r4⟩:=z54 h1 h2 h3 hl hx fu (k+1) (acc++[bl ([97,117,116,111,109,111,114,112,104]++Go.Lib.joinTail [32] [fB f,mB m])]) (by omega) (by omega) (by simp;omega);refine⟨r,r1,r2,r3,fun x hx=>?_⟩;rcases r4 x hx with hx|hx
   ·rcases List.mem_append.1 hx with hx|hx
    ·exact .inl hx
    ·exact .inr ⟨m,hmem,List.mem_singleton.1 hx⟩
   ·exact .inr hx
  ·rw[zc (by omega),cond_false,cond_false];exact⟨acc,rfl,rfl,by omega,fun x hx=>.inl hx⟩
theorem z22(f:Int×Int×Int):∃r b,zAU f=some (r,b)∧jU f=some (r,b)∧r.length≤50∧∀x∈r,inN f.1=true∧inN f.2.1=true∧inN f.2.2=true∧∃m,zY m=some true∧MatInv f.1 f.2.1 f.2.2 m.1 m.2.1 m.2.2.1 m.2.2.2 f.1 f.2.1 f.2.2∧x=bl ([97,117,116,111,109,111,114,112,104]++Go.Lib.joinTail [32] [fB f,mB m]):=by
 obtain⟨bf,hf⟩:=zEb f;obtain⟨A,B,C⟩:=f;cases bf with
 |false=>
  refine⟨[],false,?_,?_,by simp,by simp⟩
  ·simp only[zAU,zND,hf,Option.bind_some,zf,za]
  ·simp only[jU,zB9,hf,Option.bind_some,zf,za];obtain⟨m,hm⟩:∃m,FU=m+1:=⟨FU - 1,by have:=FUge;omega⟩
   rw[hm];rfl
 |true=>
  obtain⟨i1,i2,i3⟩:=in_of_def' hf;obtain⟨l,p1,p2,p3,p4,_,p5⟩:=z3T hf;obtain⟨r,q1,q2,q3,q4⟩:=z54 (f:=(A,B,C)) (zFa i1) (zFa i2) (zFa i3) p3 p4 FU 0 [] (by omega) (by have:=FUge;omega) (by simp);have q1:jX (A,B,C) l FU 0 []=some r:=q1;have q2:jY (A,B,C) (l,true) FU 0 []=some r:=q2;refine⟨r,true,?_,?_,q3,fun x hx=>?_⟩
  ·simp only[zAU,zND,hf,p1,q1,Option.bind_some,Bool.not_true,cond_false]
  ·simp only[jU,p2,q2,Option.bind_some]
  ·rcases q4 x hx with hx|⟨m,hm,e⟩
   ·cases hx
   ·exact⟨i1,i2,i3,m,p4 m hm,p5 m hm,e⟩
def fP{α:Type}(m:Nat)(f:Nat→α):α:=Nat.casesOn (motive:=fun _=>α) m (f 0) (fun k=>f (Nat.succ k))
theorem zIr{α:Type}(m:Nat)(f:Nat→α):fP m f=f m:=by cases m<;>rfl
def SolP(d v:Nat):Prop:=∃s:Nat,s*s=d*v*v+4
def sqm(q:Nat):Nat→Nat→Nat
 |0,acc=>acc
 |s+1,acc=>fP (Nat.lor acc (Nat.pow 2 (Nat.mod (Nat.mul s s) q))) fun a=>sqm q s a
def ptm(q S dm:Nat):Nat→Nat→Nat
 |0,acc=>acc
 |c+1,acc=>bif Nat.testBit S (Nat.mod (Nat.add (Nat.mul (Nat.mul dm c) c) 4) q) then fP (Nat.lor acc (Nat.pow 2 c)) fun a=>ptm q S dm c a else ptm q S dm c acc
def rp(L:Nat):Nat→Nat→Nat→Nat
 |0,R,w=>Nat.sub (Nat.pow 2 L) 1
 |i+1,R,w=>bif Nat.ble L w then R else fP (Nat.lor R (Nat.shiftLeft R w)) fun R2=>fP (Nat.add w w) fun w2=>rp L i R2 w2
def sv(d L:Nat):List Nat→Nat→Nat
 |[],acc=>acc
 |q::l,acc=>bif Nat.beq acc 1 then acc else fP (sqm q q 0) fun S=>fP (Nat.mod d q) fun dm=>fP (ptm q S dm q 0) fun P=>fP (rp L 20 P q) fun R=>fP (Nat.land acc R) fun a=>sv d L l a
def qL:List Nat:=[16,9,5,7,11,13,17,19,23,29,31,37,41,43,47,53,59,61,67,71,73,79,83,89,97]
def nos(d L:Nat):Bool:=bif Nat.ble 1 L then Nat.beq (sv d L qL (Nat.sub (Nat.pow 2 L) 1)) 1 else true
theorem zSy(a b v:Nat):Nat.testBit (Nat.lor a b) v=(Nat.testBit a v||Nat.testBit b v):=Nat.testBit_or a b v
theorem z6P(a b v:Nat):Nat.testBit (Nat.land a b) v=(Nat.testBit a v&&Nat.testBit b v):=Nat.testBit_and a b v
theorem z3l(n v:Nat):Nat.testBit (Nat.pow 2 n) v=decide (n=v):=Nat.testBit_two_pow
theorem z1S(L v:Nat):Nat.testBit (Nat.sub (Nat.pow 2 L) 1) v=decide (v<L):=Nat.testBit_two_pow_sub_one L v
theorem z1V(q:Nat):∀(k acc v:Nat),Nat.testBit acc v=true→Nat.testBit (sqm q k acc) v=true
 |0,acc,v,h=>h
 |k+1,acc,v,h=>by unfold sqm;rw[zIr];exact z1V q k _ v (by rw[zSy,h];rfl)
theorem z1U(q:Nat):∀(k acc s:Nat),s<k→Nat.testBit (sqm q k acc) (s*s % q)=true
 |k+1,acc,s,h=>by
  unfold sqm;rw[zIr];by_cases e:s=k
  ·refine z1V q k _ _ ?_
   rw[zSy,z3l,e,Bool.or_eq_true];exact Or.inr (zb rfl)
  ·exact z1U q k _ s (by omega)
theorem zXx(q S dm:Nat):∀(k acc v:Nat),Nat.testBit acc v=true→Nat.testBit (ptm q S dm k acc) v=true
 |0,acc,v,h=>h
 |k+1,acc,v,h=>by
  unfold ptm;cases Nat.testBit S (Nat.mod (Nat.add (Nat.mul (Nat.mul dm k) k) 4) q) with
  |true=>rw[za,zIr];exact zXx q S dm k _ v (by rw[zSy,h];rfl)
  |false=>rw[cond_false];exact zXx q S dm k _ v h
theorem zXw(q S dm:Nat):∀(k acc c:Nat),c<k→Nat.testBit S ((dm*c*c+4) % q)=true→Nat.testBit (ptm q S dm k acc) c=true
 |k+1,acc,c,h,hb=>by
  unfold ptm;by_cases e:c=k
  ·subst e;have hb2:Nat.testBit S (Nat.mod (Nat.add (Nat.mul (Nat.mul dm c) c) 4) q)=true:=hb;rw[hb2,za,zIr];refine zXx q S dm c _ _ ?_
   rw[zSy,z3l,Bool.or_eq_true];exact Or.inr (zb rfl)
  ·have hlt:c<k:=by omega
   cases Nat.testBit S (Nat.mod (Nat.add (Nat.mul (Nat.mul dm k) k) 4) q) with
   |true=>rw[za,zIr];exact zXw q S dm k _ c hlt hb
   |false=>rw[cond_false];exact zXw q S dm k _ c hlt hb
theorem z4A(L q P:Nat):∀(i R w:Nat),(∃m,w=q*m)→(∀v,v<w→Nat.testBit P (v % q)=true→Nat.testBit R v=true)→∀v,v<L→Nat.testBit P (v % q)=true→Nat.testBit (rp L i R w) v=true
 |0,R,w,hw,h,v,hv,hp=>by unfold rp;rw[z1S,zb hv]
 |i+1,R,w,hw,h,v,hv,hp=>by
  unfold rp;cases hL:Nat.ble L w with
  |true=>rw[za];exact h v (Nat.lt_of_lt_of_le hv (Nat.le_of_ble_eq_true hL)) hp
  |false=>
   rw[cond_false,zIr,zIr];obtain⟨m,hm⟩:=hw;refine z4A L q P i _ _ ⟨m+m,by show w+w=_;rw[hm,Nat.mul_add]⟩ ?_ v hv hp
   intro u hu hq;have hu:u<w+w:=hu;have hs:Nat.testBit (Nat.shiftLeft R w) u=(decide (u≥w)&&Nat.testBit R (u - w)):=Nat.testBit_shiftLeft ..;rw[zSy,hs];by_cases hlt:u<w
   ·rw[h u hlt hq];rfl
   ·have e:(u - w) % q=u % q:=by
     have:u=(u - w)+q*m:=by omega
     rw[this,Nat.add_mul_mod_self_left,←hm];congr 1;omega
    rw[zb (show u≥w by omega),h (u - w) (by omega) (by rw[e];exact hq),Bool.true_and,Bool.or_true]
theorem z3n{d L v:Nat}(hs:SolP d v)(hv:v<L):∀(l:List Nat),(∀q∈l,0<q)→∀acc,Nat.testBit acc v=true→Nat.testBit (sv d L l acc) v=true
 |[],_,acc,h=>h
 |q::l,hq,acc,h=>by
  unfold sv;cases Nat.beq acc 1 with
  |true=>exact h
  |false=>
   rw[cond_false,zIr,zIr,zIr,zIr,zIr];have q0:0<q:=hq q (zk ..);refine z3n hs hv l (fun q h=>hq q (zl _ h)) _ ?_
   rw[z6P,h,Bool.true_and];have hbase:∀u,u<q→Nat.testBit (ptm q (sqm q q 0) (Nat.mod d q) q 0) (u % q)=true→Nat.testBit (ptm q (sqm q q 0) (Nat.mod d q) q 0) u=true:=fun u hu ht=>by rw[Nat.mod_eq_of_lt hu]at ht;exact ht
   refine z4A L q _ 20 _ q ⟨1,(Nat.mul_one q).symm⟩ hbase v hv ?_
   refine zXw q _ _ q 0 (v % q) (Nat.mod_lt _ q0) ?_
   obtain⟨s,hs⟩:=hs;have e:(d % q*(v % q)*(v % q)+4) % q=(s % q)*(s % q) % q:=by rw[←Nat.mul_mod,hs];simp[Nat.add_mod,Nat.mul_mod]
   show Nat.testBit (sqm q q 0) ((d % q*(v % q)*(v % q)+4) % q)=true;rw[e];exact z1U q q 0 (s % q) (Nat.mod_lt _ q0)
theorem zZb{d L:Nat}(h:nos d L=true):∀v,1≤v→v<L→¬SolP d v:=by intro v h1 hv hs;unfold nos at h;have hL:Nat.ble 1 L=true:=Nat.ble_eq_true_of_le (by omega);rw[hL,za]at h;have e:sv d L qL (Nat.sub (Nat.pow 2 L) 1)=1:=Nat.eq_of_beq_eq_true h;have hb:=z3n hs hv qL (by decide) (Nat.sub (Nat.pow 2 L) 1) (by rw[z1S,zb hv]);rw[e]at hb;have:Nat.testBit 1 v=decide (0=v):=Nat.testBit_two_pow (n:=0);rw[this,qa]at hb;omega
def bsq(m:Nat):Nat→Nat→Nat→Nat
 |0,lo,_=>lo
 |f+1,lo,hi=>bif Nat.ble hi lo then lo else fP (Nat.div (Nat.succ (Nat.add lo hi)) 2) fun x=>bif Nat.ble (Nat.mul x x) m then bsq m f x hi else bsq m f lo (Nat.pred x)
def topL(d:Nat):Nat:=fP (bsq (Nat.div 1000000000000 d) 40 0 1000000) fun x=>Nat.succ x
def okd(d:Nat):Bool:=
 match zA5 (d:Int),zCT (d:Int) with
 |some false,some (_,false)=>match zEf (d:Int) with
  |some b=>!b
  |none=>false
 |some true,some ((T,U),true)=>bif Nat.ble T.toNat 1000000 then
   (bif (bif leI 1 T then leI 1 U else false) then fP T.toNat (fun t=>fP U.toNat fun u=>bif Nat.beq (Nat.mul t t) (Nat.add (Nat.mul (Nat.mul d u) u) 4) then nos d u else false) else false)
  else (bif leI 1000001 T then fP (topL d) (fun L=>bif Nat.ble 1000000000001 (Nat.add (Nat.mul (Nat.mul d L) L) 4) then nos d L else false) else false)
 |some true,some (_,false)=>fP (topL d) fun L=>bif Nat.ble 1000000000001 (Nat.add (Nat.mul (Nat.mul d L) L) 4) then nos d L else false
 |_,_=>false
def okr(k:Nat):Nat→Bool
 |0=>true
 |n+1=>bif okd k then okr (Nat.succ k) n else false
theorem zBw:∀(n k:Nat),okr k n=true→∀d,k≤d→d<k+n→okd d=true
 |0,k,h,d,h1,h2=>by omega
 |n+1,k,h,d,h1,h2=>by
  unfold okr at h;cases hk:okd k with
  |false=>rw[hk]at h;cases h
  |true=>
   rw[hk,za]at h;by_cases e:d=k
   ·rw[e];exact hk
   ·exact zBw n (Nat.succ k) h d (by omega) (by omega)
theorem pc_5:okr 5 30=true:=by decide+kernel
theorem z8j:okr 170 50=true:=by decide+kernel
theorem z8f:okr 370 50=true:=by decide+kernel
theorem z8b:okr 575 55=true:=by decide+kernel
theorem z87:okr 805 65=true:=by decide+kernel
theorem pc_35:okr 35 40=true:=by decide+kernel
theorem z8i:okr 220 50=true:=by decide+kernel
theorem z8e:okr 420 50=true:=by decide+kernel
theorem z8a:okr 630 55=true:=by decide+kernel
theorem z86:okr 870 65=true:=by decide+kernel
theorem pc_75:okr 75 45=true:=by decide+kernel
theorem z8h:okr 270 50=true:=by decide+kernel
theorem z8d:okr 470 50=true:=by decide+kernel
theorem z89:okr 685 55=true:=by decide+kernel
theorem z84:okr 935 66=true:=by decide+kernel
theorem z8k:okr 120 50=true:=by decide+kernel
theorem z8g:okr 320 50=true:=by decide+kernel
theorem z8c:okr 520 55=true:=by decide+kernel
theorem z88:okr 740 65=true:=by decide+kernel
theorem z63:∀d:Nat,5≤d→d≤1000→okd d=true:=by
 intro d h1 h2;by_cases h5:d<35
 ·exact zBw 30 5 pc_5 d (by omega) (by omega)
 by_cases h35:d<75
 ·exact zBw 40 35 pc_35 d (by omega) (by omega)
 by_cases h75:d<120
 ·exact zBw 45 75 pc_75 d (by omega) (by omega)
 by_cases h120:d<170
 ·exact zBw 50 120 z8k d (by omega) (by omega)
 by_cases h170:d<220
 ·exact zBw 50 170 z8j d (by omega) (by omega)
 by_cases h220:d<270
 ·exact zBw 50 220 z8i d (by omega) (by omega)
 by_cases h270:d<320
 ·exact zBw 50 270 z8h d (by omega) (by omega)
 by_cases h320:d<370
 ·exact zBw 50 320 z8g d (by omega) (by omega)
 by_cases h370:d<420
 ·exact zBw 50 370 z8f d (by omega) (by omega)
 by_cases h420:d<470
 ·exact zBw 50 420 z8e d (by omega) (by omega)
 by_cases h470:d<520
 ·exact zBw 50 470 z8d d (by omega) (by omega)
 by_cases h520:d<575
 ·exact zBw 55 520 z8c d (by omega) (by omega)
 by_cases h575:d<630
 ·exact zBw 55 575 z8b d (by omega) (by omega)
 by_cases h630:d<685
 ·exact zBw 55 630 z8a d (by omega) (by omega)
 by_cases h685:d<740
 ·exact zBw 55 685 z89 d (by omega) (by omega)
 by_cases h740:d<805
 ·exact zBw 65 740 z88 d (by omega) (by omega)
 by_cases h805:d<870
 ·exact zBw 65 805 z87 d (by omega) (by omega)
 by_cases h870:d<935
 ·exact zBw 65 870 z86 d (by omega) (by omega)
 by_cases h935:d<1001
 ·exact zBw 66 935 z84 d (by omega) (by omega)
 omega
theorem z83(n:Int):inN n=(decide (-1000000≤n)&&decide (n≤1000000)):=by rw[Bool.eq_iff_iff,qO,zh,qa,qa]
theorem z1o(n:Int):zAM n=some (inN n):=by simp only[zAM,zAX,Option.bind_some,qK,z83];cases decide (-1000000≤n)<;>rfl
theorem z4M{n:Int}(h1:-1000000≤n)(h2:n≤1000000):inN n=true:=by rw[qO];exact⟨h1,h2⟩
theorem z2p{t v:Nat}(ht:t≤134217728)(hv:v≤1000000):∃b,zGC ((t:Int),(v:Int))=some b∧(t≤1000000→b=true):=by
 have hn:qS [(v:Int)]=some true:=by rw[zGH _ (by simp)];simp only[List.all_cons,List.all_nil,z4M (n:=(v:Int)) (by omega) (by omega),Bool.and_true]
 refine⟨decide ((t:Int)≤100000000),?_,fun h=>zb (by omega)⟩;simp only[zGC,zYa (n:=(t:Int)) (by omega),Option.bind_some,hn,Int.natAbs_natCast,qK];cases decide ((t:Int)≤100000000)<;>rfl
theorem zWe{d:Nat}(h5:5≤d)(hM:d≤1000):∀(k n u:Nat),1≤u→u+k=1000001→k<n→
  ∃r,zAJ (d:Int) 1000000 4 n (u:Int)=some r∧
   ((r=.inl ()∧∀v,u≤v→v≤1000000→¬SolP d v)∨
    ∃(t v:Nat) (b:Bool),r=.inr (((t:Int),(v:Int)),b)∧u≤v∧v≤1000000∧t*t=d*v*v+4∧(∀w,u≤w→w<v→¬SolP d w)∧(t≤1000000→b=true))
 |0,n+1,u,h1,hk,hn=>by refine⟨.inl (),?_,Or.inl ⟨rfl,fun v a b=>by omega⟩⟩;unfold zAJ;rw[qK,zc (by omega),cond_false]
 |k+1,n+1,u,h1,hk,hn=>by
  have hdu:d*u≤1000*1000000:=Nat.mul_le_mul hM (by omega);have hduu:d*u*u≤1000*1000000*1000000:=Nat.mul_le_mul hdu (by omega);obtain⟨N,hN⟩:∃N,d*u*u+4=N:=⟨_,rfl⟩
  have e1:w64 ((d:Int)*(u:Int))=((d*u:Nat):Int):=by rw[←Int.natCast_mul,zB (by omega)]
  have e2:w64 (((d*u:Nat):Int)*(u:Int))=((d*u*u:Nat):Int):=by rw[←Int.natCast_mul,zB (by omega)]
  have e3:w64 (((d*u*u:Nat):Int)+4)=(N:Int):=by rw[zB (by omega)];omega
  have e4:mxI (N:Int) 0=(N:Int):=by rw[mxI,zS,zc (by omega),cond_false]
  have p53:(2:Nat) ^53=9007199254740992:=by decide
  obtain⟨b,t,hb,ht,hle,hs⟩:=z6T (n:=N) (by omega) (by rw[p53];omega);have e5:zHC (floatOfInt .f64 (N:Int))=some b:=by simp only[zHC,hb,Option.bind_some]
  have htt:t*t≤134217728*134217728:=Nat.mul_le_mul hle hle;have e6:w64 ((t:Int)*(t:Int))=((t*t:Nat):Int):=by rw[←Int.natCast_mul,zB (by omega)]
  have e7:w64 ((u:Int)+1)=((u+1:Nat):Int):=by rw[zB (by omega)];omega
  unfold zAJ;simp only[qK,zb (show (u:Int)≤1000000 by omega),za,zO,e1,e2,e3,e4,e5,ht,Option.bind_some,e6,e7,zS,zBD];by_cases hS:t*t=N
  ·have ht0:0<t:=by
    rcases Nat.eq_zero_or_pos t with h|h
    ·rw[h]at hS;omega
    ·exact h
   have hbq:(((t*t:Nat):Int)==(N:Int))=true:=by rw[beq_iff_eq,hS]
   obtain⟨b2,hb2,hb3⟩:=z2p (t:=t) (v:=u) hle (by omega);simp only[zb (show (0:Int)<(t:Int) by omega),za,hbq,hb2,Option.bind_some];exact⟨_,rfl,Or.inr ⟨t,u,b2,rfl,Nat.le_refl _,by omega,by omega,fun w a c=>by omega,hb3⟩⟩
  ·have hbq:(((t*t:Nat):Int)==(N:Int))=false:=by rw[zr];omega
   have hc:(bif decide ((0:Int)<(t:Int)) then false else false)=false:=by cases decide ((0:Int)<(t:Int))<;>rfl
   simp only[hbq,hc,cond_false];have hnS:¬SolP d u:=by rintro⟨s,hs2⟩;have:=hs s (by rw[hs2,hN]);subst this;exact hS (by rw[hs2,hN])
   obtain⟨r,hr,hc2⟩:=zWe h5 hM k n (u+1) (by omega) (by omega) (by omega);refine⟨r,hr,?_⟩;rcases hc2 with⟨rfl,hv⟩|⟨t2,v2,b2,rfl,q1,q2,q3,q4,q5⟩
   ·refine Or.inl ⟨rfl,fun v a c=>?_⟩;by_cases e:v=u
    ·rw[e];exact hnS
    ·exact hv v (by omega) c
   ·refine Or.inr ⟨t2,v2,b2,rfl,by omega,q2,q3,fun w a c=>?_,q5⟩;by_cases e:w=u
    ·rw[e];exact hnS
    ·exact q4 w (by omega) c
theorem FUgt:1000000<FU:=by decide
theorem zZ3{d:Nat}(h5:5≤d)(hM:d≤1000)(hp:zA5 (d:Int)=some true):
  ∃T U b,zAr (d:Int)=some ((T,U),b)∧
   (((∀v,1≤v→v≤1000000→¬SolP d v)∧b=false)∨∃t v:Nat,(b=true→T=(t:Int)∧U=(v:Int))∧1≤v∧v≤1000000∧t*t=d*v*v+4∧(∀w,1≤w→w<v→¬SolP d w)∧(t≤1000000→b=true)):=by
 obtain⟨r,hr,hc⟩:=zWe h5 hM 1000000 FU 1 (by decide) (by decide) FUgt;have hr:zAJ (d:Int) 1000000 4 FU 1=some r:=hr;rcases hc with⟨rfl,hv⟩|⟨t,v,b,rfl,q1,q2,q3,q4,q5⟩
 ·refine⟨0,0,false,?_,Or.inl ⟨hv,rfl⟩⟩;simp only[zAr,hp,zDk,zBQ,hr,Option.bind_some,Bool.not_true,cond_false,zf,za]
 ·cases b with
  |false=>refine⟨0,0,false,?_,Or.inr ⟨t,v,(fun h=>by cases h),q1,q2,q3,q4,q5⟩⟩;simp only[zAr,hp,zDk,zBQ,hr,Option.bind_some,Bool.not_true,cond_false,zf,za]
  |true=>refine⟨(t:Int),(v:Int),true,?_,Or.inr ⟨t,v,fun _=>⟨rfl,rfl⟩,q1,q2,q3,q4,q5⟩⟩;simp only[zAr,hp,zDk,zBQ,hr,Option.bind_some,Bool.not_true,cond_false,zf,za]
def PcT(d:Int)(t:qd):Prop:=∃T U:Int,t=bl ([115,111,108,117,116,105,111,110]++Go.Lib.joinTail [32] [Go.Lib.itoa d,Go.Lib.itoa T,Go.Lib.itoa U])∧inN T=true∧inN U=true∧T*T=d*U*U+4∧5≤d∧d≤1000
theorem z61{d T U:Int}(hd:sm18 d)(hT:sm18 T)(hU:sm18 U):∃t,((qQ d).bind fun y7=>(qQ T).bind fun y8=>(qQ U).bind fun y9=>(zAs ([(⟨#[115,111,108,117,116,105,111,110]⟩:qd),y7,y8,y9])).bind fun y10=>some (y10,true))=some (t,true)∧
  ((zR d).bind fun y7=>(zR T).bind fun y8=>(zR U).bind fun y9=>(jG ((⟨#[115,111,108,117,116,105,111,110]⟩:qd)) ([y7,y8,y9])).bind fun y10=>some (y10,true))=some (t,true)∧t.size≤20000∧t=bl ([115,111,108,117,116,105,111,110]++Go.Lib.joinTail [32] [Go.Lib.itoa d,Go.Lib.itoa T,Go.Lib.itoa U]):=by
 have e1:(⟨#[115,111,108,117,116,105,111,110]⟩:qd)=bl [115,111,108,117,116,105,111,110]:=rfl;have hL:∀y∈[115,111,108,117,116,105,111,110]::[Go.Lib.itoa d,Go.Lib.itoa T,Go.Lib.itoa U],y.length≤1000:=by
  intro y hy;simp only[zj,zo,or_false]at hy;rcases hy with rfl|rfl|rfl|rfl
  ·decide
  ·exact Nat.le_trans (qR hd) (by omega)
  ·exact Nat.le_trans (qR hT) (by omega)
  ·exact Nat.le_trans (qR hU) (by omega)
 have p1:=zFj [115,111,108,117,116,105,111,110] [Go.Lib.itoa d,Go.Lib.itoa T,Go.Lib.itoa U] (by simp) hL;have p2:=zEo [115,111,108,117,116,105,111,110] [Go.Lib.itoa d,Go.Lib.itoa T,Go.Lib.itoa U] (by simp) (by simp) hL;simp only[List.map_cons,zp]at p1 p2;refine⟨bl ([115,111,108,117,116,105,111,110]++Go.Lib.joinTail [32] [Go.Lib.itoa d,Go.Lib.itoa T,Go.Lib.itoa U]),?_,?_,txl (by simp) hL,rfl⟩
 ·simp only[zC1 hd,zC1 hT,zC1 hU,Option.bind_some,e1,p1]
 ·simp only[zBa hd,zBa hT,zBa hU,Option.bind_some,e1,p2]
theorem z7D{d T U:Int}(hd:sm18 d)(hs:zCT d=some ((T,U),true))(hi:zAr d=some ((T,U),true))(hT:inN T=true)(hU:inN U=true)(hs4:T*T=d*U*U+4∧5≤d∧d≤1000):∃t b,qY d=some (t,b)∧qJ d=some (t,b)∧t.size≤20000∧(b=true→PcT d t):=by
 have iT:=qO.1 hT;have iU:=qO.1 hU;obtain⟨t,p1,p2,p3,p4⟩:=z61 hd (T:=T) (U:=U) ⟨by omega,by omega⟩ ⟨by omega,by omega⟩;have hn:qS [T,U]=some true:=by rw[zGH _ (by simp)];simp only[List.all_cons,List.all_nil,hT,hU,Bool.and_true]
 refine⟨t,true,?_,?_,p3,fun _=>⟨T,U,p4,hT,hU,hs4⟩⟩
 ·simp only[qY,hs,Option.bind_some,z1o,hT,Bool.not_true,cond_false];exact p1
 ·simp only[qJ,hi,Option.bind_some,hn,Bool.not_true,cond_false];exact p2
theorem zPr{d T U:Int}{b:Bool}(hs:zCT d=some ((T,U),b))(h:b=true→inN T=false):qY d=some ((⟨#[]⟩:qd),false):=by
 cases b with
 |false=>simp only[qY,hs,Option.bind_some,zf,za]
 |true=>simp only[qY,hs,Option.bind_some,z1o,h rfl,Bool.not_true,zf,cond_false,za]
theorem zUv{d T U:Int}{b:Bool}(hs:zAr d=some ((T,U),b))(h:b=true→inN T=false):qJ d=some ((⟨#[]⟩:qd),false):=by
 cases b with
 |false=>simp only[qJ,hs,Option.bind_some,zf,za]
 |true=>
  have hn:qS [T,U]=some false:=by rw[zGH _ (by simp)];simp only[List.all_cons,List.all_nil,h rfl,Bool.false_and]
  simp only[qJ,hs,Option.bind_some,hn,Bool.not_true,zf,cond_false,za]
theorem zWu{d L:Nat}(h5:5≤d)(hM:d≤1000)(hp:zA5 (d:Int)=some true)(hL:Nat.ble 1000000000001 (Nat.add (Nat.mul (Nat.mul d L) L) 4)=true)(hn:nos d L=true):qJ (d:Int)=some ((⟨#[]⟩:qd),false):=by
 obtain⟨T,U,b,e,hc⟩:=zZ3 h5 hM hp;refine zUv e fun hb=>?_
 rcases hc with⟨_,h⟩|⟨t,v,q0,q1,q2,q3,q4,q5⟩
 ·rw[h]at hb;cases hb
 ·obtain⟨rfl,rfl⟩:=q0 hb;have hvL:¬v<L:=fun h=>zZb hn v q1 h ⟨t,q3⟩;have hL2:1000000000001≤d*L*L+4:=Nat.le_of_ble_eq_true hL;have hdd:d*L*L≤d*v*v:=Nat.mul_le_mul (Nat.mul_le_mul_left _ (by omega)) (by omega);have ht:¬t≤1000000:=fun h=>by
   have:t*t≤1000000*1000000:=Nat.mul_le_mul h h;omega
  rw[Bool.eq_false_iff];intro h;have:=qO.1 h;omega
theorem zZ4{d:Nat}(h5:5≤d)(hM:d≤1000):∃t b,qY (d:Int)=some (t,b)∧qJ (d:Int)=some (t,b)∧t.size≤20000∧(b=true→PcT (d:Int) t):=by
 have h:=z63 d h5 hM;unfold okd at h;cases hp:zA5 (d:Int) with
 |none=>rw[hp]at h;cases h
 |some pb=>
  cases hq:zCT (d:Int) with
  |none=>rw[hp,hq]at h;cases pb<;>cases h
  |some y=>
   obtain⟨⟨T,U⟩,ok⟩:=y;rw[hp,hq]at h;cases pb with
   |false=>
    cases ok with
    |true=>cases h
    |false=>refine⟨_,_,zPr hq (fun h=>by cases h),zUv (T:=0) (U:=0) (b:=false) ?_ (fun h=>by cases h),by decide,fun h=>by cases h⟩;simp only[zAr,hp,Option.bind_some,zf,za]
   |true=>
    cases ok with
    |false=>
     simp only[zIr]at h;refine⟨_,_,zPr hq (fun h=>by cases h),?_,by decide,fun h=>by cases h⟩;cases hL:Nat.ble 1000000000001 (Nat.add (Nat.mul (Nat.mul d (topL d)) (topL d)) 4) with
     |false=>rw[hL]at h;cases h
     |true=>rw[hL,za]at h;exact zWu h5 hM hp hL h
    |true=>
     simp only[zIr]at h;cases hT:Nat.ble T.toNat 1000000 with
     |false=>
      rw[hT,cond_false]at h;have h1:leI 1000001 T=true:=by
       cases h1:leI 1000001 T with
       |true=>rfl
       |false=>rw[h1]at h;cases h
      rw[h1,za]at h;rw[qK,qa]at h1;refine⟨_,_,zPr hq (fun _=>?_),?_,by decide,fun h=>by cases h⟩
      ·rw[Bool.eq_false_iff];intro h;have:=qO.1 h;omega
      ·cases hL:Nat.ble 1000000000001 (Nat.add (Nat.mul (Nat.mul d (topL d)) (topL d)) 4) with
       |false=>rw[hL]at h;cases h
       |true=>rw[hL,za]at h;exact zWu h5 hM hp hL h
     |true=>
      rw[hT,za]at h;have hT2:T.toNat≤1000000:=Nat.le_of_ble_eq_true hT;cases h1:leI 1 T with
      |false=>rw[h1]at h;cases h
      |true=>
       cases h2:leI 1 U with
       |false=>rw[h1,h2]at h;cases h
       |true=>
        rw[h1,h2,za,za]at h;rw[qK,qa]at h1 h2;cases h3:Nat.beq (Nat.mul T.toNat T.toNat) (Nat.add (Nat.mul (Nat.mul d U.toNat) U.toNat) 4) with
        |false=>rw[h3]at h;cases h
        |true=>
         rw[h3,za]at h;have hsol:T.toNat*T.toNat=d*U.toNat*U.toNat+4:=Nat.eq_of_beq_eq_true h3;have hmin:=zZb h;obtain⟨T',U',b,e,hc⟩:=zZ3 h5 hM hp;have hUs:U.toNat≤1000000:=by apply Nat.le_of_not_lt;intro hlt;have a1:1*U.toNat*U.toNat≤d*U.toNat*U.toNat:=Nat.mul_le_mul_right _ (Nat.mul_le_mul_right _ (by omega));have a2:1000001*1000001≤U.toNat*U.toNat:=Nat.mul_le_mul (by omega) (by omega);have a3:T.toNat*T.toNat≤1000000*1000000:=Nat.mul_le_mul hT2 hT2;rw[Nat.one_mul]at a1;omega
         have hkey:b=true∧T'=T∧U'=U:=by
          rcases hc with⟨hno,_⟩|⟨t,v,q0,q1,q2,q3,q4,q5⟩
          ·exact absurd ⟨_,hsol⟩ (hno U.toNat (by omega) hUs)
          ·have hv:v=U.toNat:=by
            rcases Nat.lt_trichotomy v U.toNat with hlt|he|hgt
            ·exact absurd ⟨t,q3⟩ (hmin v q1 hlt)
            ·exact he
            ·exact absurd ⟨_,hsol⟩ (q4 U.toNat (by omega) hgt)
           have htt:t*t=T.toNat*T.toNat:=by rw[q3,hsol,hv]
           have ht:t=T.toNat:=by
            rcases Nat.lt_trichotomy t T.toNat with hlt|he|hgt
            ·have:=Nat.mul_self_lt_mul_self hlt;omega
            ·exact he
            ·have:=Nat.mul_self_lt_mul_self hgt;omega
           have hb:=q5 (by omega);obtain⟨r1,r2⟩:=q0 hb;exact⟨hb,by omega,by omega⟩
         obtain⟨rfl,rfl,rfl⟩:=hkey;exact z7D ⟨by omega,by omega⟩ hq e (z4M (by omega) (by omega)) (z4M (by omega) (by omega)) (by
          have e1:T'=(T'.toNat:Int):=by omega
          have e2:U'=(U'.toNat:Int):=by omega
          rw[e1,e2];exact⟨by exact_mod_cast hsol,by omega,by omega⟩)
theorem z82{d:Int}(h:¬(5≤d∧d≤1000)):∃t b,qY d=some (t,b)∧qJ d=some (t,b)∧t.size≤20000∧(b=true→PcT d t):=by
 have h1:(bif leI 5 d then leI d 1000 else false)=false:=by
  rw[qK,qK];by_cases h5:5≤d
  ·rw[zc (show ¬d≤1000 by omega)];cases decide (5≤d)<;>rfl
  ·rw[zc h5];rfl
 refine⟨_,_,zPr (T:=0) (U:=0) (b:=false) ?_ (fun h=>by cases h),zUv (T:=0) (U:=0) (b:=false) ?_ (fun h=>by cases h),by decide,fun h=>by cases h⟩
 ·simp only[zCT,zEf,zAX,h1,Option.bind_some,cond_false,zf,za]
 ·simp only[zAr,zA5,h1,Option.bind_some,cond_false,zf,za]
theorem z1p(d:Int):∃t b,qY d=some (t,b)∧qJ d=some (t,b)∧t.size≤20000∧(b=true→PcT d t):=by
 by_cases h:5≤d∧d≤1000
 ·obtain⟨k,rfl⟩:=Int.eq_ofNat_of_zero_le (show 0≤d by omega);exact zZ4 (by omega) (by omega)
 ·exact z82 h
theorem zZ0{k:Nat}{c:List Int×Int×Int}(h:CurB k c)(hk:k≤100000000):∃d c',zCZ c=some (d,c')∧CurB (k+6) c':=by
 obtain⟨y,c1,e1,_,_,_,h1⟩:=qW 10 h (by omega);simp only[zCZ,e1,Option.bind_some];have hj:∃j,(bif eqI y 1 then some (eqI y 1) else some (eqI y 2):Option Bool)=some j:=by cases eqI y 1<;>exact⟨_,rfl⟩
 obtain⟨j,hj⟩:=hj;cases eqI y 0 with
 |true=>obtain⟨d,c2,e2,_,h2⟩:=zGP (l:=[4,9,1000,1001,0,-3,5,997,1004,996,2,1099511627776]) (by simp) h1 (by omega);exact⟨d,c2,by simp only[za,e2,Option.bind_some],h2.up (by omega)⟩
 |false=>
  simp only[cond_false,hj,Option.bind_some];cases j with
  |true=>obtain⟨d,c2,e2,_,h2⟩:=zGP (l:=[5,8,12,13,60,136,221,229,257,316,401,520,780,840,924]) (by simp) h1 (by omega);exact⟨d,c2,by simp only[za,e2,Option.bind_some],h2.up (by omega)⟩
  |false=>
   obtain⟨z,c2,e2,_,_,_,h2⟩:=qW 240 h1 (by omega);obtain⟨b,c3,e3,h3⟩:=zOK 2 h2 (by omega);simp only[cond_false,e2,e3,Option.bind_some,zO];cases b with
   |true=>exact⟨_,c3,rfl,h3.up (by omega)⟩
   |false=>exact⟨_,c3,rfl,h3.up (by omega)⟩
theorem zOP{k:Nat}{c:Cur3}(h:CurB k c)(hk:k≤1000000000):OkO (zAF c) (fun y=>CurB (k+40) y.2):=by obtain⟨v,c',e,h1⟩:=zM1 h hk;exact⟨_,e,h1⟩
theorem zZc{k:Nat}{c:Cur3}(f:Int×Int×Int)(h:CurB k c)(hk:k≤10000000000):OkO (jT c f) (fun y=>CurB (k+26) y.2):=by obtain⟨v,c',e,h1⟩:=zJz f h hk;exact⟨_,e,h1⟩
theorem zPf{k:Nat}{c:Cur3}(h:CurB k c)(hk:k≤10000000):OkO (zAb c) (fun y=>CurB (k+200) y.2.2):=by obtain⟨f,g,c',e,h1⟩:=zWE h hk;exact⟨_,e,h1⟩
theorem z3b{k:Nat}{c:Cur3}(h:CurB k c)(hk:k≤100000000):OkO (zCQ c) (fun y=>CurB (k+100) y.2.2):=by obtain⟨f,g,c',e,h1⟩:=z2j h hk;exact⟨_,e,h1⟩
end Go.Proofs.YtnjhhbcccgbbnaaGreatDoor
namespace Go.Proofs.YtnjhhbcccgbbnaaGreatDoor
open Go.RowKit
section
variable {P:Program}
theorem zBB{ops:Array Oper}{rest:List Oper}{s:St}{J:St→Prop}(c:Bool)(h1:c=true→XL P ops rest s J)(h2:c=false→XL P ops rest s J):XL P ops rest s J:=by
 cases c with
 |true=>exact h1 rfl
 |false=>exact h2 rfl
theorem z2a{ops:Array Oper}{rest:List Oper}{s s1:St}{J:St→Prop}(m:List Bool)(ids:List Nat)(h:XL P ops rest s (fun s'=>s'.keep m ids=s1))(hj:J s1):XL P ops rest s J:=by
 intro B w0 ok0 ok σ a w hR Q hQ;refine h _ _ _ _ _ _ _ hR Q fun s' a' w' ok' σ' hs hR'=>?_
 subst hs;exact hQ _ a' w' ok' σ' hj (hR'.le (zIm m ids s'))
theorem zPu{id:Nat}{ops:Array Oper}{s s1:St}{J:Exit→St→Prop}(m:List Bool)(ids:List Nat)(h:XL P ops ops.toList s (fun s'=>s'.keep m ids=s1))(hj:J .normal s1):V P (.region id ops false) s J:=q7 (z2a m ids h hj)
theorem zDL{id:Nat}{ops:Array Oper}{y:Code}{s s1:St}{J:Exit→St→Prop}(m:List Bool)(ids:List Nat)(h:XL P ops ops.toList s (fun s'=>s'.keep m ids=s1))(hv:V P y s1 J):V P (.seq (.region id ops false) y) s J:=zV (zPu m ids h hv)
def frz1(id:Nat)(t:AV):AV→AV
 | .ow k=>bif k==id then t else .ow k
 | .pt k o=>bif k==id then .bot else .pt k o
 | .po k z i o=>bif k==id then .bot else .po k z i o
 | .tc _ _=>.bot
 |av=>av
def St.frz(s:St)(id:Nat)(els:List (List Tr)):St:=⟨s.T.map (frz1 id (.c (.sl els))),rmE id s.E⟩
theorem z6m(s:St)(id:Nat)(els:List (List Tr))(t:Nat):(s.frz id els).get t=frz1 id (.c (.sl els)) (s.get t):=by unfold St.frz St.get;simp only[List.getElem?_map];cases s.T[t]?<;>rfl
theorem zP8(s:St)(id:Nat)(els:List (List Tr))(j:Nat)(e:Ent)(h:(s.frz id els).ent j=some e):j≠id∧s.ent j=some e:=by
 have h2:(rmE id s.E).lookup j=some e:=h;rw[zEr]at h2;split at h2
 ·cases h2
 ·rename_i hne;exact⟨hne,h2⟩
theorem z8M{B:Fr}{w0:World}{ok0 ok:Nat→Prop}{σ:Nat→Loc}{s:St}{a:Act}{w:World}(hR:R B w0 ok0 ok σ s a w)(id:Nat){T sz:Nat}{els:List (List Tr)}(he:s.ent id=some (.arr T sz els)):R B w0 ok0 (fun g=>ok g∨(σ id).blk=some g) σ (s.frz id els) a w:=by
 have hup:∀g,ok g→ok g∨(σ id).blk=some g:=fun g hg=>.inl hg;refine⟨⟨by simpa [St.frz] using hR.core.len,fun g hg=>?_,hR.core.lib.mono hup (fun _ _=>rfl),fun t=>?_,fun j e hj=>?_,fun j e g hj hg=>?_,fun i j e f g hi hj h1 h2=>?_⟩,hR.defers,hR.below,hR.base,fun g hg=>.inl (hR.old g hg),fun g hg=>?_,fun j e g hj hg=>hR.own j e g (zP8 s id els j e hj).2 hg⟩
 ·rcases hg with hg|hg
  ·exact hR.core.okL g hg
  ·exact (hR.core.blk id _ g he hg).2
 ·rw[z6m];have h1:=hR.core.tmp t;generalize s.get t=av at h1;have same:Rel (fun g=>ok g∨(σ id).blk=some g) σ w av (a.tmps.getD t undef):=h1.mono0 hup fun _ _=>rfl;cases av with
  |ow k=>
   simp only[frz1];cases hk:k==id with
   |false=>exact same
   |true=>
    have e1:k=id:=by simpa using hk
    subst e1;have hle:Le ⟨s.T,[(k,.arr T sz els)]⟩ s:=⟨Nat.le_refl _,fun t=>.inr rfl,fun j e hj=>by
     unfold St.ent at hj;simp only[List.lookup]at hj;split at hj
     ·rename_i hjk;have:j=k:=by simpa using hjk
      subst this;injection hj with hj;subst hj;exact he
     ·cases hj⟩
    have h2:=zOz (hR.le hle).core h1;have e2:zLz ⟨s.T,[(k,.arr T sz els)]⟩ (.ow k)=.c (.sl els):=by simp[zLz,St.entc,St.ent,List.lookup,Ent.core]
    rw[e2]at h2;refine h2.mono0 (fun g hg=>?_) fun _ _=>rfl;rcases hg with hg|⟨j,e,hj,hg⟩
    ·exact .inl hg
    ·refine .inr ?_
     unfold St.ent at hj;simp only[List.lookup]at hj;split at hj
     ·rename_i hjk;have:j=k:=by simpa using hjk
      subst this;exact hg
     ·cases hj
  |pt k o=>
   simp only[frz1];cases k==id with
   |false=>exact same
   |true=>exact trivial
  |po k z i o=>
   simp only[frz1];cases k==id with
   |false=>exact same
   |true=>exact trivial
  |tc x r=>exact trivial
  |tn=>exact same
  |bot=>exact same
  |c t=>exact same
  |ag cs=>exact same
  |pe cs=>exact same
  |fn f caps=>exact same
  |er b=>exact same
  |vw id els m=>exact same
  |sf id z i=>exact same
 ·obtain⟨_,h2⟩:=zP8 s id els j e hj;exact (hR.core.ent j e h2).mono hup (fun _ _=>rfl) fun _ _=>rfl
 ·obtain⟨h1,h2⟩:=zP8 s id els j e hj;obtain⟨h3,h4⟩:=hR.core.blk j e g h2 hg;refine⟨fun h5=>?_,h4⟩;rcases h5 with h5|h5
  ·exact h3 h5
  ·exact h1 (hR.core.inj _ _ _ _ _ h2 he hg h5)
 ·exact hR.core.inj i j e f g (zP8 s id els i e hi).2 (zP8 s id els j f hj).2 h1 h2
 ·rcases hg with hg|hg
  ·exact hR.fresh g hg
  ·exact .inr (hR.own id _ g he hg)
theorem z35{ops:Array Oper}{rest:List Oper}{s s1:St}{J:St→Prop}(id:Nat){T sz:Nat}{els:List (List Tr)}(he:s.ent id=some (.arr T sz els))(hs:s.frz id els=s1)(h:XL P ops rest s1 J):XL P ops rest s J:=by subst hs;exact fun _ _ _ _ _ _ _ hR Q hQ=>h _ _ _ _ _ _ _ (z8M hR id he) Q hQ
theorem z7l{l:List Oper}{ms:List Nat}{n1:Nat}{css:List (List Cd)}{s0:St}{rs:List Res}{K K':St→Prop}(h:DL P l ms n1 css s0 rs K)(hK:∀s,K s→K' s):DL P l ms n1 css s0 rs K':=by intro hchk;obtain⟨more,h1,h2,h3⟩:=h hchk;exact⟨more,h1,h2,hK _ h3⟩
theorem zFD{id:Nat}{l:List Oper}{s s1:St}{J:Exit→St→Prop}(ms:List Nat)(n1:Nat)(css:List (List Cd))(m:List Bool)(ids:List Nat)(hm:P.follows .mixedOrders=true)(hchk:zJS l ms n1 css=true)
  (h:DL P l ms n1 css (prep (l.take n1) s) [] (fun s'=>XL P l.toArray (l.drop n1) s' (fun s''=>s''.keep m ids=s1))) (hj:J .normal s1):V P (.region id l.toArray true) s J:=
 z1H ms n1 css hm hchk (z7l h fun s' hs=>z2a m ids hs hj)
theorem zDu{id:Nat}{l:List Oper}{y:Code}{s s1:St}{J:Exit→St→Prop}(ms:List Nat)(n1:Nat)(css:List (List Cd))(m:List Bool)(ids:List Nat)(hm:P.follows .mixedOrders=true)(hchk:zJS l ms n1 css=true)
  (h:DL P l ms n1 css (prep (l.take n1) s) [] (fun s'=>XL P l.toArray (l.drop n1) s' (fun s''=>s''.keep m ids=s1))) (hv:V P y s1 J):V P (.seq (.region id l.toArray true) y) s J:=zV (zFD ms n1 css m ids hm hchk h hv)
theorem z0I{o:Oper}{s:St}{c x y:Operand}{b p q:Bool}(ho:o.op=.pick c x y)(hc:s.ev c=.c (.v (.bool b)))(hb:b=true)(hx:s.ev x=.c (.v (.bool p))):Y0 P o s (Bo (bif b then p else q)):=by subst hb;have h:=zYb (P:=P) ho hc;rw[za,hx]at h;exact h
theorem z0J{o:Oper}{s:St}{c x y:Operand}{b p q:Bool}(ho:o.op=.pick c x y)(hc:s.ev c=.c (.v (.bool b)))(hb:b=false)(hy:s.ev y=.c (.v (.bool q))):Y0 P o s (Bo (bif b then p else q)):=by subst hb;have h:=zYb (P:=P) ho hc;rw[cond_false,hy]at h;exact h
theorem zWC{z:Array Value}(hz:zEc z=true)(n:Nat):(madeCells z n).toList.all Value.oneCell'=true:=by
 unfold madeCells;rw[List.all_eq_true];intro x hx;simp only[Array.toList_map,List.mem_map]at hx;obtain⟨k,_,rfl⟩:=hx;rcases Nat.lt_or_ge (k % z.size) z.size with h|h
 ·rw[getElem!_pos z _ h];exact (List.all_eq_true.1 hz) _ (by simp)
 ·rw[getElem!_neg z _ (by omega)];rfl
def zI1:Nat→List (Nat×AV)→Option (List (List Tr))
 |_,[]=>some []
 |k,(i,av)::r=>bif Nat.beq i k then (match zDa av,zI1 (k+1) r with
  |some cs,some es=>some (cs::es)
  |_,_=>none) else none
theorem zUZ(sz:Nat):∀(ps:List (Nat×AV))(k:Nat)(els:List (List Tr))(pre post:List Tr),zI1 k ps=some els→(∀e,e∈els→e.length=sz)→pre.length=k*sz→post.length=els.length*sz→zRY (fun i=>some (i*sz,sz)) (pre++post) ps=some (pre++els.flatten)
 |[],k,els,pre,post,h,hs,h1,h2=>by simp only[zI1]at h;injection h with h;subst h;have:post=[]:=List.eq_nil_of_length_eq_zero (by simpa using h2);subst this;rfl
 |(i,av)::r,k,els,pre,post,h,hs,h1,h2=>by
  simp only[zI1]at h;cases hb:Nat.beq i k with
  |false=>rw[hb]at h;cases h
  |true=>
   have hik:i=k:=Nat.eq_of_beq_eq_true hb;subst hik;rw[hb]at h;simp only[za]at h;split at h
   ·rename_i cs es hc he;injection h with h;subst h;have hl:cs.length=sz:=hs cs (by simp);simp only[ze,Nat.add_mul,Nat.one_mul]at h2;simp only[zRY,hc];rw[if_neg (by simp only[zd];omega)];have e:splice (pre++post) (i*sz) cs=(pre++cs)++post.drop sz:=by
     unfold splice;rw[←h1,List.take_left,hl,List.drop_append,List.drop_eq_nil_of_le (by omega)];rw[show pre.length+sz - pre.length=sz by omega];simp
    rw[e,zUZ sz r (i+1) es (pre++cs) (post.drop sz) he (fun x hx=>hs x (by simp[hx])) (by simp[hl,h1,Nat.add_mul]) (by simp;omega)];simp
   ·cases h
theorem zDW{o:Oper}{s:St}{t e sz n:Nat}{z:Value}{parts:Array (Nat×Operand)}{els:List (List Tr)}(ht:P.underlying t=some (.slice e))(hi:(P.info? e).map (fun i=>(i.zero,i.size))=some (some z,sz))(hz:zEc z.cells=true)(hsz:0<sz)(ho:o.op=.buildSlice t n parts)
  (hp:zI1 0 (evP s parts.toList)=some els) (hn:els.length=n) (hs:∀e,e∈els→e.length=sz) (hmax:n*sz≤16777216) (hpos:0<n):Y1 P o s (.ow 0) [(0,.arr e sz els)]:=
 zIJ fun ok σ a w hC=>by
  cases hii:P.info? e with
  |none=>rw[hii]at hi;simp at hi
  |some i=>
   have hi2:i.zero=some z∧i.size=sz:=by rw[hii]at hi;simpa using hi
   have hzall:=zWC hz (n*sz);have hzl:(madeCells z.cells (n*sz)).toList.length=n*sz:=by rw[Array.length_toList];exact size_madeCells _ _
   have hf:=zUZ sz (evP s parts.toList) 0 els [] ((madeCells z.cells (n*sz)).toList.map Tr.v) hp hs (by simp) (by simp only[List.length_map,hzl,hn]);obtain⟨arr,h1,h2⟩:=zWn (fun i=>some (i*sz,sz)) (zYM hC parts.toList) _ (madeCells z.cells (n*sz)) _ (z2d ok w _ hzall) (by simpa using hf);have h3:arr.size=els.length*sz:=by have:=h2.len;rw[zEO els sz hs]at this;simpa using this.symm
   have hml:els.length≤maxLen:=by have:n≤n*sz:=Nat.le_mul_of_pos_right n hsz;unfold maxLen;omega
   have hpos2:¬n*sz=0:=by have:=Nat.mul_pos hpos hsz;omega
   have hrun:=run_buildSlice (P:=P) w t e n (parts.map fun (i,x)=>(i,a.eval x)) arr i z ht hii hi2.1 (by rw[hi2.2];omega) (by rw[hi2.2];exact hpos2) (by rw[hi2.2,Array.toList_map];exact h1)
   have hnew:=z2f (ok:=ok) (w:=w) hC.okL e sz hsz hs hml h2 h3;rw[hn]at hnew;refine⟨_,_,_,?_,hnew⟩;unfold execOp;rw[ho];simp only[Sem.run_bind,hrun,Result.andThen_ok,Sem.run_pure]
theorem zDD{o:Oper}{s:St}{t e sz:Nat}{parts:Array (Nat×Operand)}(ht:P.underlying t=some (.slice e))(hi:(P.info? e).map (·.size)=some sz)(hsz:0<sz)(ho:o.op=.buildSlice t 0 parts)(hp:parts=#[]):Y1 P o s (.ow 0) [(0,.arr e sz [])]:=
 zIJ fun ok σ a w hC=>by
  subst hp;cases hii:P.info? e with
  |none=>rw[hii]at hi;simp at hi
  |some i=>
   have hi2:i.size=sz:=by rw[hii]at hi;simpa using hi
   refine⟨_,_,_,?_,z2f (ok:=ok) (w:=w) (els:=[]) (arr:=#[]) hC.okL e sz hsz (by intro el h;cases h) (Nat.zero_le _) RdL.nil (by simp)⟩;unfold execOp;rw[ho];simp[Instr.buildSlice,run_underlying ht,sizeOf,typeInfo,hii,Instr.fill,newRow];congr 2;exact Array.eq_empty_of_size_eq_zero (by simp)
end
section
variable {P:Program}
theorem qG{c:Operand}{x y:Code}{s:St}{J:Exit→St→Prop}(hc:s.ev c=.c (.v (.bool true)))(h:V P x s J):V P (.cond c x y) s J:=zLI hc (fun _=>h) (fun h=>by cases h)
theorem zDM{c:Operand}{x y:Code}{s:St}{J:Exit→St→Prop}(hc:s.ev c=.c (.v (.bool false)))(h:V P y s J):V P (.cond c x y) s J:=zLI hc (fun h=>by cases h) (fun _=>h)
theorem zHM{ops:Array Oper}{o:Oper}{rest:List Oper}{s s':St}{J:St→Prop}{j t:Nat}{b:Bool}(c:Bool)(hg:o.guard=some (j,b))(ht:(ops[j]?).bind (·.dst)=some t)(hb:s.get t=.c (.v (.bool c)))(hc:c=b)
  (h:X P o s s') (hk:XL P ops rest s' J):XL P ops (o::rest) s J:=by
 subst hc;exact z27 hg ht hb h hk
theorem zHN{ops:Array Oper}{o:Oper}{rest:List Oper}{s:St}{J:St→Prop}{j t d:Nat}(c:Bool)(hg:o.guard=some (j,true))(ht:(ops[j]?).bind (·.dst)=some t)(hb:s.get t=.c (.v (.bool c)))(hc:c=false)
  (hd:o.dst=some d) (hk:XL P ops rest (s.put d .tn) J):XL P ops (o::rest) s J:=by
 subst hc;exact z29 hg ht hb (by decide) hd hk
theorem z6H{o:Oper}{s:St}{x:Operand}(av:AV)(ho:o.op=.assign x)(hx:s.ev x=av):Y0 P o s av:=hx▸zXE ho
theorem E_ext{o:Oper}{s:St}{x:Operand}{n:Nat}(y r av:AV)(ho:o.op=.extract x n)(hx:s.ev x=.tc y r)(hav:(AV.tc y r).nth n=av)(hb:av≠.bot):Y0 P o s av:=by subst hav;exact z96 ho hx hb
theorem E_nil{o:Oper}{s:St}{x:Operand}(av:AV)(ho:o.op=.nilCheck x)(hx:s.ev x=av)(hb:av.adv 0≠.bot):Y0 P o s av:=by subst hx;exact z0K ho hb
theorem zSt{o:Oper}{s:St}{t:TypeId}{x:Operand}{f:Nat}{fields:Array Field}{fd:Field}{n:Nat}(av:AV)(hu:P.underlying t=some (.struct fields))(hfd:fields[f]?=some fd)(hsz:((P.info? fd.type).map (·.size))=some (n+1))(ho:o.op=.fieldAddr t x f)
  (hav:(s.ev x).adv fd.offset=av) (hb:av≠.bot):Y0 P o s av:=by
 subst hav;exact z5o hu hfd hsz ho hb
theorem z7k{o:Oper}{s:St}{t:TypeId}{x:Operand}{n:Nat}{cs:List Tr}(ds:List Tr)(hs:wide P t n)(ho:o.op=.load t x)(hm:zBi s (s.ev x)=some cs)(hn:n≤cs.length)(hd:cs.take n=ds):Y0 P o s (.ag ds):=by subst hd;exact z0L hs ho hm hn
theorem zVI{α:Type}{c:α→List Tr}{xs:List α}{v:α}{o:Oper}{s:St}{t:TypeId}{x:Operand}{id sz T off m:Nat}{n:Int}(ds:List Tr)(hs:wide P t m)(ho:o.op=.load t x)(hx:s.ev x=.po id sz n.toNat off)(he:s.entc id=some (.arr T sz (xs.map c)))(hv:getI xs n=some v)
  (hm:m≤((c v).drop off).length) (hd:((c v).drop off).take m=ds):Y0 P o s (.ag ds):=by
 subst hd;exact z3V hs ho hx he hv rfl hm
theorem z7j{o:Oper}{s:St}{t:TypeId}{x y:Operand}{id off:Nat}{cs vc:List Tr}(ds:List Tr)(ho:o.op=.store t x y)(hd:o.dst=none)(hx:s.ev x=.pt id off)(he:s.ent id=some (.box cs))(hy:zDa (s.ev y)=some vc)(hi:(P.info? t).map (·.size)=some vc.length)(hl:off+vc.length≤cs.length)(hs:splice cs off vc=ds):
  X P o s ⟨s.T,setE id (.box ds) s.E⟩:=by
 subst hs;exact z26 ho hd hx he hy hi hl
theorem z6G{l:Loc}{o:Oper}{s:St}{t:TypeId}{x y:Operand}{id off:Nat}{cs vc:List Tr}(ds:List Tr)(ho:o.op=.store t x y)(hd:o.dst=none)(hx:s.ev x=.pt id off)(he:s.ent id=some (.pbox l cs))(hy:zDa (s.ev y)=some vc)(hi:(P.info? t).map (·.size)=some vc.length)(hl:off+vc.length≤cs.length)(hs:splice cs off vc=ds):
  X P o s ⟨s.T,setE id (.pbox l ds) s.E⟩:=by
 subst hs;exact z5t ho hd hx he hy hi hl
theorem z9W{o:Oper}{s:St}{x y:Operand}{t t2:TypeId}{k k2:IntKind}{a b:Int}(ho:o.op=.binOp .shr t x y t2)(hx:s.ev x=.c (.v (.int k a)))(hy:s.ev y=.c (.v (.int k2 b)))(h0:¬b<0):Y0 P o s (.c (.v (.int k (shrI k a b)))):=
 zD8 ho hx hy (fun w=>by unfold eqGuard;rfl) (fun w=>by simp[binOp,Op.shift,h0,shrI]) rfl
theorem z9X{o:Oper}{s:St}{x y:Operand}{t t2:TypeId}{k k2:IntKind}{a b:Int}(ho:o.op=.binOp .shl t x y t2)(hx:s.ev x=.c (.v (.int k a)))(hy:s.ev y=.c (.v (.int k2 b)))(h0:¬b<0):Y0 P o s (.c (.v (.int k (shlI k a b)))):=
 zD8 ho hx hy (fun w=>by unfold eqGuard;rfl) (fun w=>by simp[binOp,Op.shift,h0,shlI]) rfl
theorem z98{o:Oper}{s:St}{x y:Operand}{t t2:TypeId}{k:IntKind}{a b:Int}(ho:o.op=.binOp .and t x y t2)(hx:s.ev x=.c (.v (.int k a)))(hy:s.ev y=.c (.v (.int k b))):Y0 P o s (.c (.v (.int k (andI k a b)))):=
 zD8 ho hx hy (zCt _ _ _ _ _ _ _) (fun w=>by simp[binOp,Op.intBits,andI]) rfl
theorem Y0_or{o:Oper}{s:St}{x y:Operand}{t t2:TypeId}{k:IntKind}{a b:Int}(ho:o.op=.binOp .or t x y t2)(hx:s.ev x=.c (.v (.int k a)))(hy:s.ev y=.c (.v (.int k b))):Y0 P o s (.c (.v (.int k (orI k a b)))):=
 zD8 ho hx hy (zCt _ _ _ _ _ _ _) (fun w=>by simp[binOp,Op.intBits,orI]) rfl
theorem z9V{o:Oper}{s:St}{x y:Operand}{t t2:TypeId}{k:IntKind}{a b:Int}(ho:o.op=.binOp .xor t x y t2)(hx:s.ev x=.c (.v (.int k a)))(hy:s.ev y=.c (.v (.int k b))):Y0 P o s (.c (.v (.int k (xorI k a b)))):=
 zD8 ho hx hy (zCt _ _ _ _ _ _ _) (fun w=>by simp[binOp,Op.intBits,xorI]) rfl
theorem z8K{c:Code}{s s1:St}{J:Exit→St→Prop}(m:List Bool)(ids:List Nat)(h1:V P c s (zOh (fun s'=>s'.keep m ids=s1) J))(h2:J .normal s1):V P c s J:=by
 intro B w0 ok0 ok σ a w hR;refine wp_mono (h1 _ _ _ _ _ _ _ hR) ?_
 rintro e a' w' ⟨s',ok',σ',hJ,hR'⟩;cases e with
 |normal=>have hk:s'.keep m ids=s1:=hJ;subst hk;exact⟨_,ok',σ',h2,hR'.le (zIm m ids s')⟩
 |exit id=>exact⟨s',ok',σ',hJ,hR'⟩
 |goto l=>exact⟨s',ok',σ',hJ,hR'⟩
 |ret=>exact⟨s',ok',σ',hJ,hR'⟩
 |panic ch=>exact⟨s',ok',σ',hJ,hR'⟩
 |outgrown=>exact⟨s',ok',σ',hJ,hR'⟩
theorem z6A{α β:Type}{q:α ⊕ β}{c:Code}{s:St}{S:α→St}{J:Exit→St→Prop}(m:List Bool)(ids:List Nat)(h1:V P c s (zOh (fun s'=>∃o,q=.inl o∧s'.keep m ids=S o) J))(h2:∀o,q=.inl o→J .normal (S o)):V P c s J:=by
 intro B w0 ok0 ok σ a w hR;refine wp_mono (h1 _ _ _ _ _ _ _ hR) ?_
 rintro e a' w' ⟨s',ok',σ',hJ,hR'⟩;cases e with
 |normal=>obtain⟨o,ho,hk⟩:∃o,q=.inl o∧s'.keep m ids=S o:=hJ;have h3:=h2 o ho;rw[←hk]at h3;exact⟨_,ok',σ',h3,hR'.le (zIm m ids s')⟩
 |exit id=>exact⟨s',ok',σ',hJ,hR'⟩
 |goto l=>exact⟨s',ok',σ',hJ,hR'⟩
 |ret=>exact⟨s',ok',σ',hJ,hR'⟩
 |panic ch=>exact⟨s',ok',σ',hJ,hR'⟩
 |outgrown=>exact⟨s',ok',σ',hJ,hR'⟩
theorem z1I{x y:Code}{s s1:St}{J:Exit→St→Prop}(m:List Bool)(ids:List Nat)(h1:V P x s (zOh (fun s'=>s'.keep m ids=s1) J))(h2:V P y s1 J):V P (.seq x y) s J:=by refine zV (z8K (s1:=s1) m ids (z6B h1 fun e s' h=>?_) h2);cases e<;>exact h
def z6F(P:Program)(op:BinOp)(t:TypeId):Prop:=∀(a0 a1 b0 b1:Int)(x y:Operand)(w:World),(eqGuard op t x y (.agg #[.int .i64 a0,.int .i64 a1]) (.agg #[.int .i64 b0,.int .i64 b1])).run P w=.ok () w∧(binOp op t (.agg #[.int .i64 a0,.int .i64 a1]) (.agg #[.int .i64 b0,.int .i64 b1])).run P w=.ok (.bool (match op with| .neq=>!((a0==b0)&&(a1==b1))|_=>((a0==b0)&&(a1==b1)))) w
theorem ag2{ok:Nat→Prop}{σ:Nat→Loc}{w:World}{y:Value}{a0 a1:Int}(h:Rel ok σ w (.ag [Ti a0,Ti a1]) y):y=(.agg #[.int .i64 a0,.int .i64 a1]):=by
 obtain⟨vs,rfl,hr⟩:=h;obtain⟨l⟩:=vs;cases hr with
 |cons p1 q1=>
 cases p1;cases q1 with
 |cons p2 q2=>
 cases p2;cases q2;rfl
theorem z71{o:Oper}{s:St}{x y:Operand}{t t2:TypeId}{a0 a1 b0 b1:Int}(h:z6F P .eql t)(ho:o.op=.binOp .eql t x y t2)(hx:s.ev x=.ag [Ti a0,Ti a1])(hy:s.ev y=.ag [Ti b0,Ti b1]):Y0 P o s (Bo (((a0==b0)&&(a1==b1)))):=
 qI fun ok σ a w hC=>by have h1:=hC.ev x;rw[hx]at h1;have h2:=hC.ev y;rw[hy]at h2;obtain⟨h3,h4⟩:=h a0 a1 b0 b1 x y w;refine⟨_,?_,zMu _ _ _⟩;unfold execOp;rw[ho];simp only[ag2 h1,ag2 h2,Sem.run_bind,h3,h4,Result.andThen_ok,Sem.run_pure]
def zXH(P:Program)(op:BinOp)(t:TypeId):Prop:=∀(a0 a1 a2 b0 b1 b2:Int)(x y:Operand)(w:World),(eqGuard op t x y (.agg #[.int .i64 a0,.int .i64 a1,.int .i64 a2]) (.agg #[.int .i64 b0,.int .i64 b1,.int .i64 b2])).run P w=.ok () w∧(binOp op t (.agg #[.int .i64 a0,.int .i64 a1,.int .i64 a2]) (.agg #[.int .i64 b0,.int .i64 b1,.int .i64 b2])).run P w=.ok (.bool (match op with| .neq=>!((a0==b0)&&((a1==b1)&&(a2==b2)))|_=>((a0==b0)&&((a1==b1)&&(a2==b2))))) w
theorem ag3{ok:Nat→Prop}{σ:Nat→Loc}{w:World}{y:Value}{a0 a1 a2:Int}(h:Rel ok σ w (.ag [Ti a0,Ti a1,Ti a2]) y):y=(.agg #[.int .i64 a0,.int .i64 a1,.int .i64 a2]):=by
 obtain⟨vs,rfl,hr⟩:=h;obtain⟨l⟩:=vs;cases hr with
 |cons p1 q1=>
 cases p1;cases q1 with
 |cons p2 q2=>
 cases p2;cases q2 with
 |cons p3 q3=>
 cases p3;cases q3;rfl
theorem z7Z{o:Oper}{s:St}{x y:Operand}{t t2:TypeId}{a0 a1 a2 b0 b1 b2:Int}(h:zXH P .eql t)(ho:o.op=.binOp .eql t x y t2)(hx:s.ev x=.ag [Ti a0,Ti a1,Ti a2])(hy:s.ev y=.ag [Ti b0,Ti b1,Ti b2]):Y0 P o s (Bo (((a0==b0)&&((a1==b1)&&(a2==b2))))):=
 qI fun ok σ a w hC=>by have h1:=hC.ev x;rw[hx]at h1;have h2:=hC.ev y;rw[hy]at h2;obtain⟨h3,h4⟩:=h a0 a1 a2 b0 b1 b2 x y w;refine⟨_,?_,zMu _ _ _⟩;unfold execOp;rw[ho];simp only[ag3 h1,ag3 h2,Sem.run_bind,h3,h4,Result.andThen_ok,Sem.run_pure]
theorem z24{o:Oper}{s:St}{x y:Operand}{t t2:TypeId}{a0 a1 a2 b0 b1 b2:Int}(h:zXH P .neq t)(ho:o.op=.binOp .neq t x y t2)(hx:s.ev x=.ag [Ti a0,Ti a1,Ti a2])(hy:s.ev y=.ag [Ti b0,Ti b1,Ti b2]):Y0 P o s (Bo (!((a0==b0)&&((a1==b1)&&(a2==b2))))):=
 qI fun ok σ a w hC=>by have h1:=hC.ev x;rw[hx]at h1;have h2:=hC.ev y;rw[hy]at h2;obtain⟨h3,h4⟩:=h a0 a1 a2 b0 b1 b2 x y w;refine⟨_,?_,zMu _ _ _⟩;unfold execOp;rw[ho];simp only[ag3 h1,ag3 h2,Sem.run_bind,h3,h4,Result.andThen_ok,Sem.run_pure]
theorem DE_0{l:List Oper}{ms:List Nat}{n1:Nat}{css:List (List Cd)}{s0:St}{rs:List Res}{K:St→Prop}{o:Oper}{c:List Cd}(j:Nat)(av:AV)(hj:rs.length=j)(hlt:Nat.blt j n1=true)(ho:l[j]?=some o)(hc:css[j]?=some c)(hg:gsat l.toArray o (appC c (l.take n1) rs s0))
  (hm:zG6 ms j av 0 (l.take n1)=true) (hY:Y0 P o (appC c (l.take n1) rs s0) av) (d:Nat) (hd:o.dst=some d) (h:DL P l ms n1 css s0 (rs++[.r0 av]) K):DL P l ms n1 css s0 rs K:=by
 subst hj;exact DL_0 (Nat.le_of_ble_eq_true hlt) ho hc hg hm hY ⟨d,hd⟩ h
theorem DE_1{l:List Oper}{ms:List Nat}{n1:Nat}{css:List (List Cd)}{s0:St}{rs:List Res}{K:St→Prop}{o:Oper}{c:List Cd}{av:AV}{ne:List (Nat×Ent)}(j:Nat)(hj:rs.length=j)(hlt:Nat.blt j n1=true)(ho:l[j]?=some o)(hc:css[j]?=some c)(hg:gsat l.toArray o (appC c (l.take n1) rs s0))
  (hY:Y1 P o (appC c (l.take n1) rs s0) av ne) (h1:zHE ne=true) (h2:makes o=true) (h3:av.small=true) (d:Nat) (hd:o.dst=some d) (h:DL P l ms n1 css s0 (rs++[.r1 av ne]) K):DL P l ms n1 css s0 rs K:=by
 subst hj;exact DL_1 (Nat.le_of_ble_eq_true hlt) ho hc hg ⟨h1,h2,h3⟩ hY ⟨d,hd⟩ h
theorem z8G{S A:St}(h:Le S A)(x:Operand):S.ev x=.bot∨S.ev x=A.ev x:=by
 cases x with
 |tmp t=>exact h.get t
 |const v=>exact .inr rfl
 |global g=>exact .inr rfl
 |func f=>exact .inr rfl
theorem z1E{o:Oper}{S:St}{t:TypeId}{x y:Operand}{id off:Nat}{cs vc cs2:List Tr}(ho:o.op=.store t x y)(hd:o.dst=none)(hx:S.ev x=.pt id off)(he:S.ent id=some (.box cs))(hy:zDa (S.ev y)=some vc)(hi:(P.info? t).map (·.size)=some vc.length)(hl:off+vc.length≤cs.length)(hs:splice cs off vc=cs2):
  ∀A,Le S A→X P o A ⟨A.T,setE id (.box cs2) A.E⟩:=by
 intro A hA;subst hs;refine z26 ho hd ?_ (hA.ent _ _ he) ?_ hi hl
 ·rcases z8G hA x with h|h
  ·rw[hx]at h;cases h
  ·rw[←h];exact hx
 ·rcases z8G hA y with h|h
  ·rw[h]at hy;simp[zDa]at hy
  ·rw[←h];exact hy
theorem DE_2{l:List Oper}{ms:List Nat}{n1:Nat}{css:List (List Cd)}{s0:St}{rs:List Res}{K:St→Prop}{o:Oper}{c:List Cd}{t:TypeId}{x y:Operand}{off:Nat}{cs vc:List Tr}(j id:Nat)(cs2:List Tr)(hj:rs.length=j)(hlt:Nat.blt j n1=true)(ho:l[j]?=some o)(hc:css[j]?=some c)(hg:gsat l.toArray o (appC c (l.take n1) rs s0))
  (hop:o.op=.store t x y) (hd:o.dst=none) (hx:(appC c (l.take n1) rs s0).ev x=.pt id off) (he:(appC c (l.take n1) rs s0).ent id=some (.box cs)) (hy:zDa ((appC c (l.take n1) rs s0).ev y)=some vc) (hi:(P.info? t).map (·.size)=some vc.length) (hl:off+vc.length≤cs.length) (hs:splice cs off vc=cs2)
  (h1:zPd j id css=true) (h2:mkOk ms j id 0 (l.take n1)=true) (h3:zJR id rs=true) (h:DL P l ms n1 css s0 (rs++[.r2 id (.box cs2)]) K):DL P l ms n1 css s0 rs K:=by
 subst hj;exact DL_2 (Nat.le_of_ble_eq_true hlt) ho hc hg (z1E hop hd hx he hy hi hl hs) hd h1 h2 h3 h
theorem zGR{l:List Oper}{ms:List Nat}{n1:Nat}{css:List (List Cd)}{s0:St}{rs:List Res}{K:St→Prop}(c:Bool)(h1:c=true→DL P l ms n1 css s0 rs K)(h2:c=false→DL P l ms n1 css s0 rs K):DL P l ms n1 css s0 rs K:=by
 cases c with
 |true=>exact h1 rfl
 |false=>exact h2 rfl
theorem z5e{o:Oper}{s:St}{x y:Operand}{t:Array TypeId}{a b:Int}(ho:o.op=.call {callee:=.builtin .max,args:=#[x,y],argTypes:=t})(hx:s.ev x=.c (.v (.int .i64 a)))(hy:s.ev y=.c (.v (.int .i64 b))):Y0 P o s (I (mxI a b)):=
 qI fun ok σ ac w hC=>by
  refine⟨_,?_,zIY _ _ _ _⟩;unfold execOp;rw[ho];have h1:=hC.exact hx;have h2:=hC.exact hy;have h3:=run_max_int2 (P:=P) w t o.type .i64 .i64 a b;have e:mxI a b=(if b>a then b else a):=by rw[mxI,zS];by_cases h:a<b<;>simp[h]
  rw[e];simp[resolve,invoke,builtin,h1,h2,h3]
theorem z91{o:Oper}{s:St}{x y:Operand}{t:Array TypeId}{a b:Int}(ho:o.op=.call {callee:=.builtin .min,args:=#[x,y],argTypes:=t})(hx:s.ev x=.c (.v (.int .i64 a)))(hy:s.ev y=.c (.v (.int .i64 b))):Y0 P o s (I (mnI a b)):=
 qI fun ok σ ac w hC=>by
  refine⟨_,?_,zIY _ _ _ _⟩;unfold execOp;rw[ho];have h1:=hC.exact hx;have h2:=hC.exact hy;have h3:=run_min_int2 (P:=P) w t o.type .i64 .i64 a b;have e:mnI a b=(if b<a then b else a):=by rw[mnI,zS];by_cases h:b<a<;>simp[h]
  rw[e];simp[resolve,invoke,builtin,h1,h2,h3]
theorem zZQ(l:List Tr):∀(n j:Nat),j<n*l.length→(List.replicate n l).flatten[j]?=l[j % l.length]?
 |0,j,h=>by simp at h
 |n+1,j,h=>by
  rw[List.replicate_succ,List.flatten_cons];rcases Nat.lt_or_ge j l.length with h1|h1
  ·rw[List.getElem?_append_left h1,Nat.mod_eq_of_lt h1]
  ·rw[List.getElem?_append_right h1,zZQ l n (j - l.length) (by rw[Nat.add_mul]at h;omega),←Nat.mod_eq_sub_mod h1]
theorem z6c(ok:Nat→Prop)(w:World){z:Array Value}(hz:zEc z=true)(n m:Nat)(hnm:n≤m)(hpos:0<z.size):RdL ok w (List.replicate n (z.toList.map Tr.v)).flatten ((madeCells z (m*z.size)).toList.take (n*z.size)):=by
 have hl:(z.toList.map Tr.v).length=z.size:=by simp
 have hle:n*z.size≤m*z.size:=Nat.mul_le_mul_right _ hnm;refine RdL.mk ?_ fun j t ht=>?_
 ·rw[zEO _ z.size (fun e he=>by rw[(List.mem_replicate.1 he).2];exact hl)];simp[size_madeCells];rw[Nat.min_eq_left hnm]
 ·have hj:j<n*z.size:=by
   rcases Nat.lt_or_ge j (n*z.size) with h|h
   ·exact h
   ·rw[List.getElem?_eq_none (by rw[zEO _ z.size (fun e he=>by rw[(List.mem_replicate.1 he).2];exact hl)];simpa using h)]at ht;cases ht
  rw[zZQ _ n j (by rw[hl];exact hj),hl,List.getElem?_map]at ht;have hmod:j % z.size<z.size:=Nat.mod_lt _ hpos;have hzj:z.toList[j % z.size]?=some z[j % z.size]:=by rw[Array.getElem?_toList];exact Array.getElem?_eq_getElem hmod
  rw[hzj]at ht;injection ht with ht;subst ht;refine⟨z[j % z.size],?_,Rd.v _ ((List.all_eq_true.1 hz) _ (by simp))⟩;rw[List.getElem?_take,if_pos hj];unfold madeCells;rw[Array.toList_map,List.getElem?_map];have:(Array.range (m*z.size)).toList[j]?=some j:=by rw[Array.getElem?_toList,Array.getElem?_range];simp;omega
  rw[this];simp[hmod]
theorem z7N{α:Type}{c:α→List Tr}{zx:α}{o:Oper}{s:St}{t e sz bytes:Nat}{z:Value}{x y:Operand}{l k:Int}(ht:P.underlying t=some (.slice e))(hi:(P.info? e).map (fun i=>(i.zero,i.size,i.bytes))=some (some z,sz,bytes))(hz:zEc z.cells=true)(hzs:z.cells.size=sz)(hsz:0<sz)
  (hc:z.cells.toList.map Tr.v=c zx) (ho:o.op=.makeSlice t x y) (hx:s.ev x=.c (.v (.int .i64 l))) (hy:s.ev y=.c (.v (.int .i64 k))) (hr:0≤l∧l≤k∧k≤1099511627776) (hby:bytes≤128):Y1 P o s (.ow 0) [(0,.arr e sz ((List.replicate l.toNat zx).map c))]:=
 zIJ fun ok σ a w hC=>by
  obtain⟨h0,h1,h2⟩:=hr;cases hii:P.info? e with
  |none=>rw[hii]at hi;simp at hi
  |some i=>
   have hi2:i.zero=some z∧i.size=sz∧i.bytes=bytes:=by rw[hii]at hi;simpa using hi
   have hbytes:(i.bytes:Int)*k≤281474976710656:=by
    rw[hi2.2.2];have h3:bytes*k.toNat≤128*1099511627776:=Nat.mul_le_mul hby (by omega);have h4:((bytes*k.toNat:Nat):Int)=(bytes:Int)*k:=by rw[Int.natCast_mul,Int.toNat_of_nonneg (by omega)]
    omega
   have hrun:=run_make (P:=P) w t e i z ht hii hi2.1 .i64 .i64 l k h0 h1 hbytes (by omega);rw[hi2.2.1]at hrun;have hmap:(List.replicate l.toNat zx).map c=List.replicate l.toNat (z.cells.toList.map Tr.v):=by rw[List.map_replicate,hc]
   have hw:∀g,ok g→(w.alloc (.cells (madeCells z.cells (k.toNat*sz)) e)).heap[g]?=w.heap[g]?:=fun g hg=>Below.heap_alloc _ _ _ (hC.okL g hg)
   have hlz:(z.cells.toList.map Tr.v).length=sz:=by simp[hzs]
   refine⟨.slice (some ⟨w.heap.size,0,none⟩) l.toNat k.toNat,w.alloc (.cells (madeCells z.cells (k.toNat*sz)) e),fun _=>⟨some w.heap.size,l.toNat,k.toNat⟩,?_,⟨(Below.refl _ _).alloc (Nat.le_refl _) _,fun _ h=>h,fun _ h=>.inl h,fun g hg=>by have:=hC.okL g hg;simp;omega,rfl,fun id e he=>?_,fun e he=>?_,fun id e he=>?_,fun id e g he hg=>?_,fun i j e f g hi hj _ _=>?_,fun id e he=>by obtain⟨_,q2⟩:=zAR _ _ _ _ he;subst q2;rfl⟩⟩
   ·unfold execOp;rw[ho];simp only[hC.exact hx,hC.exact hy,Sem.run_bind,hrun,Result.andThen_ok,Sem.run_pure]
   ·obtain⟨h1,_⟩:=zAR _ _ _ _ he;omega
   ·show (0 / 8==e)=false;rw[zr];omega
   ·obtain⟨q1,q2⟩:=zAR _ _ _ _ he;subst q2;rw[hmap];refine⟨hsz,by simp,fun el hel=>by rw[(List.mem_replicate.1 hel).2];exact hlz,(madeCells z.cells (k.toNat*sz)).toList.take (l.toNat*sz),⟨?_,.inr ⟨w.heap.size,k.toNat,madeCells z.cells (k.toNat*sz),by simp[zK],Nat.zero_le _,heap_alloc_new w _,by simp;omega,by unfold maxLen;omega,size_madeCells _ _,by simp⟩⟩,?_⟩
    ·have:l.toNat*sz≤k.toNat*sz:=Nat.mul_le_mul_right _ (by omega);simp[size_madeCells];rw[Nat.min_eq_left (by omega:l.toNat≤k.toNat)]
    ·have:=z6c ok w hz l.toNat k.toNat (by omega) (by omega);rw[hzs]at this;exact this.mono (fun _ h=>h) hw
   ·have e1:w.heap.size=g:=by simpa using hg
    subst e1;exact⟨Nat.le_refl _,fun hg2=>by have:=hC.okL _ hg2;omega,by simp⟩
   ·obtain⟨h1,_⟩:=zAR _ _ _ _ hi;obtain⟨h2,_⟩:=zAR _ _ _ _ hj;omega
theorem z8D{α:Type}{c:α→List Tr}(hc:∀x,(c x).all Tr.flat=true):∀(xs:List α),(xs.map c).flatten.all Tr.flat=true
 |[]=>rfl
 |x::xs=>by rw[List.map_cons,List.flatten_cons,List.all_append,hc x,z8D hc xs];rfl
theorem z0q{α:Type}{c:α→List Tr}{xs:List α}{k T sz:Nat}{ne:List (Nat×Ent)}(hc:∀x,(c x).all Tr.flat=true)(h:zRW ne=true):zRW ((k,.arr T sz (xs.map c))::ne)=true:=by simp only[zRW,z8D hc,h,Bool.and_self]
theorem z3R{f:FuncId}{args:List AV}{vs:List Value}{w:World}(hS:zH P f args (Bo true) [])(hv:RelA (fun g=>g<w.heap.size) (fun _=>loc0) w args vs)(hl:Lb (fun g=>g<w.heap.size) w:=by intro p hp;simp[TB]at hp):Calls P f vs.toArray w fun e w'=>e=.returned (.bool true)∧Below w.heap.size w w':=by
 refine (hS (fun g=>g<w.heap.size) (fun _=>loc0) w vs (fun _ h=>h) hl hv).mono ?_
 rintro e w' ⟨v,ok',σ',rfl,hn⟩;have h:=hn.rel;have h2:Rd ok' w' (.v (.bool true)) v:=h;cases h2;exact⟨rfl,hn.below⟩
end
def renI(m:List (Nat×Nat))(k:Nat):Nat:=(m.lookup k).getD k
def AV.ren(m:List (Nat×Nat)):AV→AV
 | .ow k=>.ow (renI m k)
 | .pt k o=>.pt (renI m k) o
 | .po k z i o=>.po (renI m k) z i o
 | .vw k els v=>.vw (renI m k) els v
 | .sf k z i=>.sf (renI m k) z i
 | .tc _ _=>.bot
 | .tn=>.bot
 |av=>av
def renL(m:List (Nat×Nat)):List AV→List AV
 |[]=>[]
 |a::asq=>a.ren m::renL m asq
def reE(old e:Ent):Ent:=bif old.pin then (match old with
 | .pbox l _=>e.pinned l
 | .parr l _ _ _=>e.pinned l
 |_=>e) else e
def Ent.row:Ent→Bool
 | .box _=>false
 | .arr _ _ _=>true
 | .pbox _ _=>false
 | .parr _ _ _ _=>true
 | .mp _ _=>false
 | .qarr _ _ _ _=>true
def updE(m:List (Nat×Nat)):List (Nat×Ent)→List (Nat×Ent)→List (Nat×Ent)
 |E,[]=>E
 |E,(k,e)::ps=>setE (renI m k) (reE ((E.lookup (renI m k)).getD e) e) (updE m E ps)
def zOL(m:List (Nat×Nat))(s:St):List (Nat×Ent)→Prop
 |[]=>True
 |(k,e)::ps=>s.entc (renI m k)=some e∧zOL m s ps
def zEN:List (Nat×Ent)→List Nat
 |[]=>[]
 |(k,_)::ps=>k::zEN ps
def zZR(m:List (Nat×Nat))(E0:List (Nat×Ent)):Bool:=zEa ((zEN E0).map (renI m))
theorem zFA{s:St}:HasE s []:=trivial
theorem qZ{s:St}{k:Nat}{e:Ent}{ps:List (Nat×Ent)}(h:s.ent k=some e)(t:HasE s ps):HasE s ((k,e)::ps):=⟨h,t⟩
theorem zBx(m:List (Nat×Nat))(s:St):∀(E0:List (Nat×Ent))(id:Nat)(e:Ent),zOL m s E0→E0.lookup id=some e→s.entc (renI m id)=some e
 |[],id,e,_,h=>by simp at h
 |(k,f)::ps,id,e,hs,h=>by
  simp only[List.lookup]at h;cases hk:id==k with
  |true=>
   have:id=k:=by simpa using hk
   subst this;rw[hk]at h;injection h with h;subst h;exact hs.1
  |false=>rw[hk]at h;exact zBx m s ps id e hs.2 h
theorem zFL:∀(E0:List (Nat×Ent))(id:Nat)(e:Ent),E0.lookup id=some e→id∈zEN E0
 |[],id,e,h=>by simp at h
 |(k,f)::ps,id,e,h=>by
  simp only[List.lookup]at h;cases hk:id==k with
  |true=>
   have:id=k:=by simpa using hk
   subst this;exact zk
  |false=>rw[hk]at h;exact zl _ (zFL ps id e h)
theorem zQe:∀(E0:List (Nat×Ent))(id:Nat),id∈zEN E0→∃e,E0.lookup id=some e
 |[],id,h=>by cases h
 |(q1,q2)::ps,id,h=>by
  by_cases hq:id=q1
  ·subst hq;exact⟨q2,by simp[List.lookup]⟩
  ·have:(id==q1)=false:=by rw[zr];exact hq
   rcases List.mem_cons.1 h with h2|h2
   ·exact absurd h2 hq
   ·obtain⟨f,hf⟩:=zQe ps id h2;exact⟨f,by simp only[List.lookup,this];exact hf⟩
theorem zQd(f:Nat→Nat):∀(l:List Nat),zEa (l.map f)=true→∀i,i∈l→∀j,j∈l→f i=f j→i=j
 |[],_,i,hi,_,_,_=>by cases hi
 |x::xs,h,i,hi,j,hj,hf=>by
  simp only[List.map_cons,zEa,zh,Bool.not_eq_true',List.contains_eq_mem,decide_eq_false_iff_not]at h;obtain⟨h1,h2⟩:=h;rcases List.mem_cons.1 hi with a1|a1<;>rcases List.mem_cons.1 hj with b1|b1
  ·rw[a1,b1]
  ·subst a1;exact absurd (List.mem_map.2 ⟨j,b1,hf.symm⟩) h1
  ·subst b1;exact absurd (List.mem_map.2 ⟨i,a1,hf⟩) h1
  ·exact zQd f xs h2 i a1 j b1 hf
section
variable {P:Program}
theorem z6V{ok:Nat→Prop}{σ:Nat→Loc}{w:World}{m:List (Nat×Nat)}{av:AV}{y:Value}(h:Rel ok σ w (av.ren m) y)(hb:∀x r,av≠.tc x r)(hb2:av≠.tn):Rel ok (fun k=>σ (renI m k)) w av y:=by
 cases av with
 |bot=>trivial
 |c t=>exact h
 |ag cs=>exact h
 |ow id=>exact h
 |pt id off=>exact h
 |po id sz i off=>exact h
 |pe cs=>exact h
 |fn f caps=>exact h
 |er b=>exact h
 |vw id els v=>exact h
 |sf id z i=>exact h
 |tn=>exact absurd rfl hb2
 |tc x r=>exact absurd rfl (hb x r)
def zUH:List AV→Bool
 |[]=>true
 | .tc _ _::_=>false
 | .tn::_=>false
 |_::asq=>zUH asq
theorem zTu{ok:Nat→Prop}{σ:Nat→Loc}{w:World}{m:List (Nat×Nat)}:∀{args:List AV}{vs:List Value},zUH args=true→RelA ok σ w (renL m args) vs→RelA ok (fun k=>σ (renI m k)) w args vs
 |[],_,_,.nil=>.nil
 |a::asq,_,ht,.cons h hs=>by
  have h1:(∀x r,a≠.tc x r)∧a≠.tn∧zUH asq=true:=by
   cases a with
   |tc x r=>cases ht
   |tn=>cases ht
   |_=>exact⟨(fun _ _ h=>by cases h),(fun h=>by cases h),ht⟩
  exact .cons (z6V h h1.1 h1.2.1) (zTu h1.2.2 hs)
theorem z6W(old e:Ent)(he:e.plain=true):(reE old e).pin=old.pin:=by
 cases old with
 |box cs=>exact Ent.pin_of_plain he
 |arr T sz els=>exact Ent.pin_of_plain he
 |mp b kvs=>exact Ent.pin_of_plain he
 |qarr l0 T sz els=>exact Ent.pin_of_plain he
 |pbox l cs=>exact zOJ he
 |parr l T sz els=>exact zOJ he
theorem zW2(m:List (Nat×Nat))(E:List (Nat×Ent)):∀(E1:List (Nat×Ent)),zEa ((zEN E1).map (renI m))=true→(∀k e,E1.lookup k=some e→∃f,E.lookup (renI m k)=some f)→∀j,(updE m E E1).lookup j=match E1.find? (fun p=>renI m p.1==j) with
      |some p=>some (reE ((E.lookup j).getD p.2) p.2)
      |none=>E.lookup j
  |[],_,_,j=>rfl
  |(k,e)::ps,hn,hx,j=>by
    have hn2:zEa ((zEN ps).map (renI m))=true:=by simp only[zEN,List.map_cons,zEa,zh]at hn;exact hn.2
    have hn1:renI m k∉(zEN ps).map (renI m):=by simp only[zEN,List.map_cons,zEa,zh,Bool.not_eq_true',List.contains_eq_mem,decide_eq_false_iff_not]at hn;exact hn.1
    have ih:=zW2 m E ps hn2 (fun k2 e2 h2=>by
      by_cases hk:k2=k
      · subst hk
        exact absurd (List.mem_map.2 ⟨k2,zFL ps k2 e2 h2,rfl⟩) hn1
      · refine hx k2 e2 ?_
        have:(k2==k)=false:=by rw[zr];exact hk
        simp only[List.lookup,this];exact h2)
    have hself:(updE m E ps).lookup (renI m k)=E.lookup (renI m k):=by
      rw[ih];have hf:ps.find? (fun p=>renI m p.1==renI m k)=none:=by
        rw[List.find?_eq_none];intro p hp hh;have hh:renI m p.1=renI m k:=by simpa using hh
        have:p.1∈zEN ps:=by
          clear ih hn hx hn1 hn2
          induction ps with
          |nil=>cases hp
          |cons q qs ihq=>
            obtain⟨q1,q2⟩:=q;rcases List.mem_cons.1 hp with h1|h1
            · subst h1;exact zk
            · exact zl _ (ihq h1)
        exact hn1 (List.mem_map.2 ⟨p.1,this,hh⟩)
      rw[hf]
    obtain⟨f,hf⟩:=hx k e (by simp[List.lookup]);have look:=zDS (renI m k) (reE ((E.lookup (renI m k)).getD e) e) (updE m E ps) f (by rw[hself,hf]);simp only[updE];rw[look j,List.find?_cons];by_cases hj:j=renI m k
    · subst hj
      simp
    · have:(renI m k==j)=false:=by rw[zr];exact fun h=>hj h.symm
      rw[if_neg hj,this,ih]
theorem zWm(m:List (Nat×Nat)):∀(E1:List (Nat×Ent))(j:Nat)(p:Nat×Ent),zEa ((zEN E1).map (renI m))=true→E1.find? (fun p=>renI m p.1==j)=some p→E1.lookup p.1=some p.2∧renI m p.1=j
 |[],j,p,_,h=>by simp at h
 |(k,e)::ps,j,p,hn,h=>by
  rw[List.find?_cons]at h;cases hk:renI m k==j with
  |true=>simp only[hk]at h;injection h with h;subst h;exact⟨by simp[List.lookup],by simpa using hk⟩
  |false=>
   simp only[hk]at h;have hn2:zEa ((zEN ps).map (renI m))=true:=by simp only[zEN,List.map_cons,zEa,zh]at hn;exact hn.2
   have hn1:renI m k∉(zEN ps).map (renI m):=by simp only[zEN,List.map_cons,zEa,zh,Bool.not_eq_true',List.contains_eq_mem,decide_eq_false_iff_not]at hn;exact hn.1
   obtain⟨h1,h2⟩:=zWm m ps j p hn2 h;have:(p.1==k)=false:=by rw[zr];intro e1;exact hn1 (List.mem_map.2 ⟨p.1,zFL ps _ _ h1,by rw[e1]⟩)
   exact⟨by simp only[List.lookup,this];exact h1,h2⟩
theorem z8W{ok:Nat→Prop}{w:World}{l:Loc}{old e:Ent}{ok0:Nat→Prop}{w0:World}(ho:zCN ok0 w0 l old)(h:zCN ok w l e)(he:e.plain=true):zCN ok w l (reE old e):=by
 cases old with
 |box cs=>exact h
 |arr T sz els=>exact h
 |mp b kvs=>exact h
 |qarr l0 T sz els=>exact h
 |pbox l0 cs=>obtain⟨rfl,_⟩:=ho;exact zQ7 h he
 |parr l0 T sz els=>obtain⟨rfl,_⟩:=ho;exact zQ7 h he
theorem R.ref{B:Fr}{w0:World}{ok0 ok ok':Nat→Prop}{σ σ':Nat→Loc}{s:St}{a:Act}{w w':World}(h:R B w0 ok0 ok σ s a w){m:List (Nat×Nat)}{E0 E1:List (Nat×Ent)}{av:AV}{ne:List (Nat×Ent)}{v:Value}
  (hm:zOL m s E0) (hk:zEN E1=zEN E0) (hr:zZR m E0=true) (hp:zI2 E1=true) (hn:NewX ⟨fun g=>w.heap.size≤g,exOf (fun k=>σ (renI m k)) E0⟩ w w' ok ok' σ' av ne v) (hE:∀id e,E1.lookup id=some e→zCN ok' w' (σ (renI m id)) e):
  R B w0 ok0 ok' (fun id=>σ id) ⟨s.T,updE m s.E E1⟩ a w'∧∀id e g,(St.mk s.T (updE m s.E E1)).ent id=some e→(σ id).blk=some g→g<w.heap.size:=by
 have hsz:=hn.below.size;have key0:∀k e,E1.lookup k=some e→∃f,E0.lookup k=some f:=by intro k e hke;have h1:=zFL E1 k e hke;rw[hk]at h1;exact zQe E0 k h1
 have hold:∀k e,E1.lookup k=some e→∃f,s.E.lookup (renI m k)=some f:=by intro k e hke;obtain⟨f0,hf0⟩:=key0 k e hke;obtain⟨f,hf,_⟩:=zFM (zBx m s E0 k f0 hm hf0);exact⟨f,hf⟩
 have hr1:zEa ((zEN E1).map (renI m))=true:=by rw[hk];exact hr
 have look:=zW2 m s.E E1 hr1 hold
 -- an entry behind the call
 have cases_:∀j f,(St.mk s.T (updE m s.E E1)).ent j=some f→(∃k e old,E1.lookup k=some e∧renI m k=j∧s.ent j=some old∧f=reE old e)∨((∀k e,E1.lookup k=some e→renI m k≠j)∧s.ent j=some f):=by
  intro j f hj;have h1:(updE m s.E E1).lookup j=some f:=hj;rw[look]at h1;cases hfd:E1.find? (fun p=>renI m p.1==j) with
  |some p=>rw[hfd]at h1;obtain⟨h2,h3⟩:=zWm m E1 j p hr1 hfd;obtain⟨old,hold1⟩:=hold p.1 p.2 h2;rw[h3]at hold1;rw[hold1]at h1;injection h1 with h1;exact .inl ⟨p.1,p.2,old,h2,h3,hold1,h1.symm⟩
  |none=>
   rw[hfd]at h1;refine .inr ⟨fun k e hke hkj=>?_,h1⟩;rw[List.find?_eq_none]at hfd;have hmem:∀(L:List (Nat×Ent)),L.lookup k=some e→(k,e)∈L:=by
    intro L
    induction L with
    |nil=>intro h;simp at h
    |cons q qs ih=>
     intro h;obtain⟨q1,q2⟩:=q;simp only[List.lookup]at h;cases hq:k==q1 with
     |true=>
      rw[hq]at h;injection h with h;have:k=q1:=by simpa using hq
      subst this;subst h;exact zk
     |false=>rw[hq]at h;exact zl _ (ih h)
   exact hfd (k,e) (hmem E1 hke) (by simpa using hkj)
 have exE:∀g,exOf (fun k=>σ (renI m k)) E0 g→∃k f0,E0.lookup k=some f0∧(σ (renI m k)).blk=some g:=fun g ⟨k,f0,h1,h2⟩=>⟨k,f0,h1,h2⟩
 have exNot:∀g,ok g→¬exOf (fun k=>σ (renI m k)) E0 g:=by intro g hg hx;obtain⟨k,f0,h1,h2⟩:=exE g hx;obtain⟨f,hf,_⟩:=zFM (zBx m s E0 k f0 hm h1);exact (h.core.blk _ f g hf h2).1 hg
 have hwok:∀g,ok g→w'.heap[g]?=w.heap[g]?:=fun g hg=>hn.below.block g (Nat.not_le_of_lt (h.core.okL g hg)) (exNot g hg)
 have entOld:∀j f,(St.mk s.T (updE m s.E E1)).ent j=some f→∃old,s.ent j=some old∧f.pin=old.pin:=by
  intro j f hj;rcases cases_ j f hj with⟨k,e,old,h1,h2,h3,rfl⟩|⟨_,h2⟩
  ·exact⟨old,h3,z6W old e (zG5 E1 k e hp h1)⟩
  ·exact⟨f,h2,rfl⟩
 refine⟨?_,fun j f g hj hg=>by obtain⟨old,h1,_⟩:=entOld j f hj;exact (h.core.blk j old g h1 hg).2⟩;refine⟨⟨h.core.len,hn.okL,h.core.lib.mono hn.okM hwok,fun t=>(h.core.tmp t).mono0 hn.okM hwok,fun j f hj=>?_,fun j f g hj hg=>?_,fun i j f1 f2 g hi hj h1 h2=>?_⟩,h.defers,?_,fun g hg=>h.base g (Nat.le_trans hsz hg),fun g hg=>hn.okM g (h.old g hg),fun g hg=>?_,fun j f g hj hg=>?_⟩
 ·rcases cases_ j f hj with⟨k,e,old,h1,h2,h3,rfl⟩|⟨h1,h2⟩
  ·have h4:=hE k e h1;rw[h2]at h4;exact z8W (h.core.ent j old h3) h4 (zG5 E1 k e hp h1)
  ·refine (h.core.ent j f h2).mono hn.okM hwok fun g hg=>hn.below.block g (Nat.not_le_of_lt (h.core.blk j f g h2 hg).2) fun hx=>?_
   obtain⟨k,f0,h3,h4⟩:=exE g hx;obtain⟨f2,hf2,_⟩:=zFM (zBx m s E0 k f0 hm h3);have h5:=h.core.inj _ _ _ _ _ h2 hf2 hg h4
   -- k is a key of E1 too
   have h6:=zFL E0 k f0 h3;rw[←hk]at h6;have h7:=zQe E1 k h6;obtain⟨e1,he1⟩:=h7;exact h1 k e1 he1 h5.symm
 ·obtain⟨old,h1,h2⟩:=entOld j f hj;obtain⟨h3,h4⟩:=h.core.blk j old g h1 hg;refine⟨fun h5=>?_,Nat.lt_of_lt_of_le h4 hsz⟩;rcases hn.okN g h5 with h6|h6
  ·exact h3 h6
  ·omega
 ·obtain⟨o1,a1,_⟩:=entOld i f1 hi;obtain⟨o2,a2,_⟩:=entOld j f2 hj;exact h.core.inj i j o1 o2 g a1 a2 h1 h2
 ·refine h.below.trans ⟨hn.below.os,hn.below.tape,hn.below.output,hn.below.size,fun k hk1 hk2=>?_⟩;refine hn.below.block k (fun hle=>hk1 (h.base k hle)) fun hx=>?_
  obtain⟨k2,f0,h3,h4⟩:=exE k hx;obtain⟨f2,hf2,_⟩:=zFM (zBx m s E0 k2 f0 hm h3);have h5:=h.own _ f2 k hf2 h4;split at h5
  ·exact hk2 h5
  ·exact hk1 h5
 ·rcases hn.okN g hg with h1|h1
  ·exact h.fresh g h1
  ·exact .inr (h.base g h1)
 ·obtain⟨old,h1,h2⟩:=entOld j f hj;rw[h2];exact h.own j old g h1 hg
theorem R.updN{B:Fr}{w0:World}{ok0 ok:Nat→Prop}{σ σ':Nat→Loc}{s:St}{a:Act}{w:World}(h:R B w0 ok0 ok σ s a w){d N:Nat}{av:AV}{ne:List (Nat×Ent)}{v:Value}
  (hsm:∀id e g,s.ent id=some e→(σ id).blk=some g→g<N) (hBN:∀g,N≤g→B.n g) (hrel:Rel ok σ' w av v) (hkeys:∀id e,ne.lookup id=some e→id<8) (hids:∀e,e≠0→av.ment e=false) (hent:∀id e,ne.lookup id=some e→zCN ok w (σ' id) e)
  (hblk:∀id e g,ne.lookup id=some e→(σ' id).blk=some g→N≤g∧¬ok g∧g<w.heap.size) (hinj:∀i j e f g,ne.lookup i=some e→ne.lookup j=some f→(σ' i).blk=some g→(σ' j).blk=some g→i=j) (hnp:∀id e,ne.lookup id=some e→e.pin=false):
  R B w0 ok0 ok (fun id=>if id / 8=d then σ' (id % 8) else σ id) (s.upd d av ne) (a.put (some d) v) w:=by
 have hσ:∀id,id / 8≠d→(fun id=>if id / 8=d then σ' (id % 8) else σ id) id=σ id:=fun id hid=>by simp[hid]
 have look:∀id e,(s.upd d av ne).ent id=some e→(id / 8=d∧ne.lookup (id % 8)=some e)∨(id / 8≠d∧s.ent id=some e):=by
  intro id e he;unfold St.ent St.upd at he;rw[zF0]at he;cases hs:(zFQ d ne).lookup id with
  |some e2=>
   rw[hs]at he;injection he with he;subst he;obtain⟨h1,h2⟩:=zFw d ne id _ hs;have h3:=hkeys _ _ h2;have h4:id - d*8=id % 8:=by omega
   rw[h4]at h2;exact .inl ⟨by omega,h2⟩
  |none=>
   rw[hs]at he;simp only[zFg]at he;by_cases hd:id / 8=d
   ·simp[hd]at he
   ·rw[if_neg hd]at he;exact .inr ⟨hd,he⟩
 refine⟨⟨?_,h.core.okL,h.core.lib,fun t=>?_,fun id e he=>?_,fun id e g he hg=>?_,fun i j e f g hi hj h1 h2=>?_⟩,h.defers,h.below,h.base,h.old,h.fresh,fun id e g he hg=>?_⟩
 ·rw[zMA];simpa [St.upd,zFK] using h.core.len
 ·have hk:(s.upd d av ne).get t=if d=t∧d<s.T.length then av.shift d else (bif (s.get t).ment d then AV.bot else s.get t):=by
   have e:=zCu (s.kill d) d t (av.shift d);unfold St.put St.kill St.get at e;simp only[zFK,zIH]at e;unfold St.upd St.get;exact e
  rw[hk,zMU];by_cases hd:d=t∧d<s.T.length
  ·rw[if_pos hd,if_pos ⟨hd.1,Nat.lt_of_lt_of_le hd.2 h.core.len⟩];refine hrel.shift d fun k hk2=>?_
   have hk0:k / 8=0:=by
    rcases Nat.eq_zero_or_pos (k / 8) with h0|h0
    ·exact h0
    ·rw[hids (k / 8) (by omega)]at hk2;cases hk2
   have e1:(d*8+k) / 8=d:=by omega
   have e2:(d*8+k) % 8=k:=by omega
   simp[e1,e2]
  ·rw[if_neg hd];by_cases hd2:d=t∧d<a.tmps.size
   ·rw[if_pos hd2];have hb:s.get t=.bot:=by
     unfold St.get;rw[List.getElem?_eq_none (by omega)];rfl
    rw[hb];trivial
   ·rw[if_neg hd2];cases hm:(s.get t).ment d with
    |true=>trivial
    |false=>exact (h.core.tmp t).mono d (fun _ h=>h) (fun _ _=>rfl) hm hσ
 ·rcases look id e he with⟨h1,h2⟩|⟨h1,h2⟩
  ·simpa [h1] using hent _ _ h2
  ·simp only[h1,if_false];exact h.core.ent id e h2
 ·rcases look id e he with⟨h1,h2⟩|⟨h1,h2⟩
  ·simp only[h1,if_true]at hg;exact (hblk _ _ _ h2 hg).2
  ·simp only[h1,if_false]at hg;exact h.core.blk id e g h2 hg
 ·rcases look i e hi with⟨a1,a2⟩|⟨a1,a2⟩<;>rcases look j f hj with⟨b1,b2⟩|⟨b1,b2⟩
  ·simp only[a1,b1,if_true]at h1 h2;have:=hinj _ _ _ _ _ a2 b2 h1 h2;omega
  ·simp only[a1,b1,if_true,if_false]at h1 h2;have x1:=(hblk _ _ _ a2 h1).1;have x2:=hsm _ _ _ b2 h2;omega
  ·simp only[a1,b1,if_true,if_false]at h1 h2;have x1:=(hblk _ _ _ b2 h2).1;have x2:=hsm _ _ _ a2 h1;omega
  ·simp only[a1,b1,if_false]at h1 h2;exact h.core.inj _ _ _ _ _ a2 b2 h1 h2
 ·rcases look id e he with⟨h1,h2⟩|⟨h1,h2⟩
  ·simp only[h1,if_true]at hg;rw[hnp _ _ h2,if_neg (by decide)];exact hBN _ (hblk _ _ _ h2 hg).1
  ·simp only[h1,if_false]at hg;exact h.own id e g h2 hg
theorem z5w{o:Oper}{s:St}{f:FuncId}{xs:Array Operand}{ts:Array TypeId}{args:List AV}{E0 E1:List (Nat×Ent)}{av:AV}{ne E':List (Nat×Ent)}(m:List (Nat×Nat))(d:Nat)(hS:∀ok σ (a:Act) w,Core ok σ s a w→z6I P f (fun k=>σ (renI m k)) args E0 av ne E1)(hc:∀args w,(callFunc f args).run P w=.ok (.enter f args) w)
  (ho:o.op=.call {callee:=.value (.func f),args:=xs,argTypes:=ts}) (hd:o.dst=some d) (ha:evL s xs.toList=renL m args) (ht:zUH args=true) (hm:zOL m s E0) (hk:zEN E1=zEN E0) (hr:zZR m E0=true) (hp:zI2 E1=true) (hp0:zI2 E0=true) (he:updE m s.E E1=E'):
  X P o s ((St.mk s.T E').upd d av ne):=by
 intro B w0 ok0 ok σ a w hR K Q hK;subst he;have hheld:Held ok (fun k=>σ (renI m k)) w E0:=by
  refine⟨fun id e he=>?_,fun id e g he hg=>?_,fun i j e f g hi hj h1 h2=>?_⟩
  ·exact⟨hR.core.entc _ _ (zBx m s E0 id e hm he),zG5 E0 id e hp0 he⟩
  ·obtain⟨f,hf,_⟩:=zFM (zBx m s E0 id e hm he);exact hR.core.blk _ f g hf hg
  ·obtain⟨f1,hf1,_⟩:=zFM (zBx m s E0 i e hm hi);obtain⟨f2,hf2,_⟩:=zFM (zBx m s E0 j f hm hj);exact zQd (renI m) _ hr i (zFL E0 i e hi) j (zFL E0 j f hj) (hR.core.inj _ _ _ _ _ hf1 hf2 h1 h2)
 refine zSe hc ho (Calls.mono (hS ok σ a w hR.core ok w _ hR.core.okL hR.core.lib (zTu ht (ha▸zSl hR.core xs.toList)) hheld) ?_);rintro e w' ⟨v,ok',σ',he,hn,hE⟩;obtain⟨hR2,hsm⟩:=hR.ref hm hk hr hp hn hE;refine⟨v,he,?_⟩;rw[hd];exact hK _ _ _ _ (hR2.updN hsm hR.base hn.rel hn.keys hn.ids hn.ent hn.blk hn.inj hn.np)
theorem z77{o:Oper}{s:St}{f:FuncId}{xs:Array Operand}{ts:Array TypeId}{args:List AV}{E0 E1:List (Nat×Ent)}{av:AV}{ne E':List (Nat×Ent)}(m:List (Nat×Nat))(d:Nat)(hS:zFE P f args E0 av ne E1)(hc:∀args w,(callFunc f args).run P w=.ok (.enter f args) w)
  (ho:o.op=.call {callee:=.value (.func f),args:=xs,argTypes:=ts}) (hd:o.dst=some d) (ha:evL s xs.toList=renL m args) (ht:zUH args=true) (hm:zOL m s E0) (hk:zEN E1=zEN E0) (hr:zZR m E0=true) (hp:zI2 E1=true) (hp0:zI2 E0=true) (he:updE m s.E E1=E'):
  X P o s ((St.mk s.T E').upd d av ne):=
 z5w m d (fun _ σ _ _ _=>fun ok w vs h1 h2 h3 h4=>hS ok _ w vs h1 h2 h3 h4) hc ho hd ha ht hm hk hr hp hp0 he
end
def zIX(ms:List Nat)(mask:Nat):Nat→List Nat
 |0=>[]
 |k+1=>bif (!mask.testBit k)&&((ms.getD k 0&&& mask)==ms.getD k 0) then k::zIX ms mask k else zIX ms mask k
theorem zKm(ms:List Nat)(mask:Nat):∀(n i:Nat),i<n→mask.testBit i=false→(∀j,(ms.getD i 0).testBit j=true→mask.testBit j=true)→i∈zIX ms mask n
 |0,i,h,_,_=>by omega
 |k+1,i,h,h1,h2=>by
  simp only[zIX];by_cases hk:i=k
  ·subst hk;have e:(ms.getD i 0&&& mask)=ms.getD i 0:=by
    apply Nat.eq_of_testBit_eq;intro j;rw[Nat.testBit_and];cases hj:(ms.getD i 0).testBit j with
    |false=>rfl
    |true=>rw[h2 j hj];rfl
   rw[h1,e];simp
  ·have ih:=zKm ms mask k i (by omega) h1 h2;cases (!mask.testBit k)&&((ms.getD k 0&&& mask)==ms.getD k 0) with
   |true=>exact zl _ ih
   |false=>exact ih
section
variable (P:Program)
def zRS(l:List Oper)(tab:List (Nat×St))(mask:Nat)(s:St):List Nat→Prop
 |[]=>True
 |i::is=>(∃o s' s2,l[i]?=some o∧o.guard=none∧X P o s s'∧tab.lookup (mask|||2 ^i)=some s2∧s2.T=s'.T∧HasE s' s2.E)∧zRS l tab mask s is
def zJa(l:List Oper)(ms:List Nat)(tab:List (Nat×St))(J:St→Prop):List (Nat×St)→Prop
 |[]=>True
 |(m,s)::ps=>zRS P l tab m s (zIX ms m l.length)∧(m=2 ^l.length - 1→J s)∧zJa l ms tab J ps
variable {P}
theorem zZA{l:List Oper}{tab:List (Nat×St)}{mask:Nat}{s:St}:∀(is:List Nat),zRS P l tab mask s is→∀i,i∈is→∃o s' s2,l[i]?=some o∧o.guard=none∧X P o s s'∧tab.lookup (mask|||2 ^i)=some s2∧Le s2 s'
 |[],_,i,hi=>by cases hi
 |j::is,h,i,hi=>by
  rcases List.mem_cons.1 hi with h1|h1
  ·subst h1;obtain⟨o,s',s2,a1,a2,a3,a4,a5,a6⟩:=h.1;exact⟨o,s',s2,a1,a2,a3,a4,⟨by rw[a5];exact Nat.le_refl _,fun t=>.inr (by unfold St.get;rw[a5]),fun id e he=>zNG s' s2.E id e a6 he⟩⟩
  ·exact zZA is h.2 i h1
theorem zTA{l:List Oper}{ms:List Nat}{tab:List (Nat×St)}{J:St→Prop}:∀(ps:List (Nat×St)),zJa P l ms tab J ps→∀m s,ps.lookup m=some s→zRS P l tab m s (zIX ms m l.length)∧(m=2 ^l.length - 1→J s)
 |[],_,m,s,h=>by simp at h
 |(q,t)::ps,h,m,s,hl=>by
  simp only[List.lookup]at hl;cases hq:m==q with
  |true=>
   have:m=q:=by simpa using hq
   subst this;rw[hq]at hl;injection hl with hl;subst hl;exact⟨h.1,h.2.1⟩
  |false=>rw[hq]at hl;exact zTA ps h.2.2 m s hl
theorem z6z{l:List Oper}{ms:List Nat}{tab:List (Nat×St)}{J:St→Prop}{Q:Exit→Act→World→Prop}{B:Fr}{w0:World}{ok0:Nat→Prop}(hc:chk1 ms l.length 0 l=true)(ht:zJa P l ms tab J tab)
  (hQ:∀s ok σ a w,J s→R B w0 ok0 ok σ s a w→Q .normal a w):
  ∀(fuel:Nat)(listed:Array Bool)(mask:Nat)(s:St)(ok:Nat→Prop)(σ:Nat→Loc)(a:Act)(w:World),listed.size=l.length→(∀j,listed.getD j false=mask.testBit j)→(∀j,listed.getD j false=true→∀m,(ms.getD j 0).testBit m=true→listed.getD m false=true)→
   left l.length (fun j=>listed.getD j false)≤fuel→tab.lookup mask=some s→R B w0 ok0 ok σ s a w→wpAny P .any l.toArray Q fuel listed a w:=by
 have full:∀(listed:Array Bool)(mask:Nat),listed.size=l.length→(∀j,listed.getD j false=mask.testBit j)→(∀j,j<l.length→listed.getD j false=true)→mask=2 ^l.length - 1:=by
  intro listed mask hs hm hall;apply Nat.eq_of_testBit_eq;intro j;rw[Nat.testBit_two_pow_sub_one,←hm];by_cases hj:j<l.length
  ·rw[hall j hj];simp[hj]
  ·have:listed.getD j false=false:=by
    rw[Array.getD_eq_getD_getElem?,Array.getElem?_eq_none (by omega)];rfl
   rw[this];simp[hj]
 intro fuel
 induction fuel with
 |zero=>
  intro listed mask s ok σ a w hs hm hcl hf hl hR;have hall:=zMy (Nat.le_zero.1 hf);obtain⟨_,h2⟩:=zTA tab ht mask s hl;have hnil:Region.ready .any l.toArray listed=[]:=by
   rw[List.eq_nil_iff_forall_not_mem];intro i hi;obtain⟨h1,o,h3,_⟩:=(zEd hs i).1 hi;have hlt:i<l.length:=by
    rcases Nat.lt_or_ge i l.length with h4|h4
    ·exact h4
    ·rw[List.getElem?_eq_none h4]at h3;cases h3
   rw[hall i hlt]at h1;cases h1
  exact⟨hnil,hQ s ok σ a w (h2 (full listed mask hs hm hall)) hR⟩
 |succ fuel ih=>
  intro listed mask s ok σ a w hs hm hcl hf hl hR;obtain⟨hst,h2⟩:=zTA tab ht mask s hl;refine⟨fun hnil=>?_,fun i hi=>?_⟩
  ·refine hQ s ok σ a w (h2 (full listed mask hs hm fun j hj=>?_)) hR;cases h3:listed.getD j false with
   |true=>rfl
   |false=>exact absurd hnil (zIO hc hs j hj h3)
  ·have hbits:=zHD hc hs hi hcl;obtain⟨h1,o,h3,_⟩:=(zEd hs i).1 hi;have hlt:i<l.length:=by
    rcases Nat.lt_or_ge i l.length with h4|h4
    ·exact h4
    ·rw[List.getElem?_eq_none h4]at h3;cases h3
   obtain⟨o2,s',s2,e1,e2,e3,e4,e5⟩:=zZA _ hst i (zKm ms mask _ i hlt (by rw[←hm];exact h1) fun j hj=>by rw[←hm];exact hbits j hj);rw[h3]at e1;injection e1 with e1;subst e1;have hset:=zFb listed i (by omega);have hleft:=zP4 hs hlt h1;unfold wpOp;rw[show l.toArray[i]?=l[i]? by simp,h3];simp only;rw[if_pos (zG0 hR.core (.inl e2))];refine .inl (e3 B w0 ok0 ok σ a w hR _ Q fun a' w' ok' σ' hR'=>?_);refine ih (listed.setIfInBounds i true) (mask|||2 ^i) s2 ok' σ' a' w' (by simpa using hs) (fun j=>?_) (fun j hj m hmm=>?_) (by omega) e4 (hR'.le e5)
   ·rw[hset,Nat.testBit_or,Nat.testBit_two_pow,←hm];by_cases hj:j=i
    ·subst hj;simp
    ·rw[if_neg hj];have:decide (i=j)=false:=by simp;exact fun e=>hj e.symm
     rw[this,Bool.or_false]
   ·rw[hset]at hj ⊢;split
    ·rfl
    ·by_cases hji:j=i
     ·subst hji;exact hbits m hmm
     ·rw[if_neg hji]at hj;exact hcl j hj m hmm
theorem V_dag{id:Nat}{l:List Oper}{s:St}{J:Exit→St→Prop}(ms:List Nat)(tab:List (Nat×St))(hm:P.follows .mixedOrders=true)(hc:chk1 ms l.length 0 l=true)(h0:tab.lookup 0=some s)
  (h:zJa P l ms tab (J .normal) tab):V P (.region id l.toArray true) s J:=by
 intro B w0 ok0 ok σ a w hR;refine wp_region_any hm ?_
 have hrep:∀j,(Array.replicate l.toArray.size false).getD j false=false:=by intro j;rw[Array.getD_eq_getD_getElem?,Array.getElem?_replicate];split<;>rfl
 refine z6z (B:=B) (w0:=w0) (ok0:=ok0) hc h (fun s' ok' σ' a' w' hJ hR'=>⟨s',ok',σ',hJ,hR'⟩) l.toArray.size _ 0 s ok σ a _ (by simp) (fun j=>by rw[hrep j,Nat.zero_testBit]) (fun j hj=>by rw[hrep j]at hj;cases hj) ?_ h0 hR.drew
 unfold left;refine Nat.le_trans List.countP_le_length ?_
 simp
theorem z9d{id:Nat}{l:List Oper}{s s1:St}{J:Exit→St→Prop}(m:List Bool)(ids:List Nat)(ms:List Nat)(tab:List (Nat×St))(hm:P.follows .mixedOrders=true)(hc:chk1 ms l.length 0 l=true)(h0:tab.lookup 0=some s)
  (h:zJa P l ms tab (fun s'=>s'.keep m ids=s1) tab) (hj:J .normal s1):V P (.region id l.toArray true) s J:=by
 intro B w0 ok0 ok σ a w hR;refine wp_mono (V_dag (J:=fun e s'=>e=.normal∧s'.keep m ids=s1) ms tab hm hc h0 ?_ B w0 ok0 ok σ a w hR) ?_
 ·have:∀ps,zJa P l ms tab (fun s'=>s'.keep m ids=s1) ps→zJa P l ms tab (fun s'=>Exit.normal=.normal∧s'.keep m ids=s1) ps:=by
   intro ps
   induction ps with
   |nil=>intro _;trivial
   |cons p ps ih=>intro hp;exact⟨hp.1,fun e=>⟨rfl,hp.2.1 e⟩,ih hp.2.2⟩
  exact this tab h
 ·rintro e a' w' ⟨s',ok',σ',⟨rfl,hs⟩,hR'⟩;subst hs;exact⟨_,ok',σ',hj,hR'.le (zIm m ids s')⟩
theorem z7d{id:Nat}{l:List Oper}{y:Code}{s s1:St}{J:Exit→St→Prop}(m:List Bool)(ids:List Nat)(ms:List Nat)(tab:List (Nat×St))(hm:P.follows .mixedOrders=true)(hc:chk1 ms l.length 0 l=true)(h0:tab.lookup 0=some s)
  (h:zJa P l ms tab (fun s'=>s'.keep m ids=s1) tab) (hv:V P y s1 J):V P (.seq (.region id l.toArray true) y) s J:=zV (z9d m ids ms tab hm hc h0 h hv)
theorem z6R{l:List Oper}{ms:List Nat}{tab:List (Nat×St)}{J:St→Prop}:zJa P l ms tab J []:=trivial
theorem zFu{l:List Oper}{ms:List Nat}{tab:List (Nat×St)}{J:St→Prop}{m:Nat}{s:St}{ps:List (Nat×St)}(is:List Nat)(h1:zIX ms m l.length=is)(h3:Nat.beq m (2 ^l.length - 1)=false)(h2:zRS P l tab m s is)(h4:zJa P l ms tab J ps):zJa P l ms tab J ((m,s)::ps):=
 ⟨(by rw[h1];exact h2),(fun e=>by rw[←e,Nat.beq_refl]at h3;cases h3),h4⟩
theorem z3m{l:List Oper}{ms:List Nat}{tab:List (Nat×St)}{J:St→Prop}{m:Nat}{s:St}{ps:List (Nat×St)}(h1:zIX ms m l.length=[])(h3:J s)(h4:zJa P l ms tab J ps):zJa P l ms tab J ((m,s)::ps):=
 ⟨(by rw[h1];trivial),(fun _=>h3),h4⟩
theorem zBo{l:List Oper}{tab:List (Nat×St)}{mask:Nat}{s:St}{i:Nat}{is:List Nat}{o:Oper}{s' s2:St}(h1:l[i]?=some o)(h2:o.guard=none)(h3:X P o s s')(h4:tab.lookup (mask|||2 ^i)=some s2)(h5:s2.T=s'.T)(h6:HasE s' s2.E)(h:zRS P l tab mask s is):zRS P l tab mask s (i::is):=
 ⟨⟨o,s',s2,h1,h2,h3,h4,h5,h6⟩,h⟩
theorem zEq{l:List Oper}{tab:List (Nat×St)}{mask:Nat}{s:St}:zRS P l tab mask s []:=trivial
theorem z5v{o:Oper}{s:St}{f:FuncId}{xs:Array Operand}{ts:Array TypeId}{args:List AV}{E0 E1:List (Nat×Ent)}{av:AV}{ne E':List (Nat×Ent)}(m:List (Nat×Nat))(hS:zFE P f args E0 av ne E1)(hc:∀args w,(callFunc f args).run P w=.ok (.enter f args) w)
  (ho:o.op=.call {callee:=.value (.func f),args:=xs,argTypes:=ts}) (hd:o.dst=none) (ha:evL s xs.toList=renL m args) (ht:zUH args=true) (hm:zOL m s E0) (hk:zEN E1=zEN E0) (hr:zZR m E0=true) (hp:zI2 E1=true) (hp0:zI2 E0=true) (he:updE m s.E E1=E'):
  X P o s (St.mk s.T E'):=by
 intro B w0 ok0 ok σ a w hR K Q hK;subst he;have hheld:Held ok (fun k=>σ (renI m k)) w E0:=by
  refine⟨fun id e he=>?_,fun id e g he hg=>?_,fun i j e f g hi hj h1 h2=>?_⟩
  ·exact⟨hR.core.entc _ _ (zBx m s E0 id e hm he),zG5 E0 id e hp0 he⟩
  ·obtain⟨f,hf,_⟩:=zFM (zBx m s E0 id e hm he);exact hR.core.blk _ f g hf hg
  ·obtain⟨f1,hf1,_⟩:=zFM (zBx m s E0 i e hm hi);obtain⟨f2,hf2,_⟩:=zFM (zBx m s E0 j f hm hj);exact zQd (renI m) _ hr i (zFL E0 i e hi) j (zFL E0 j f hj) (hR.core.inj _ _ _ _ _ hf1 hf2 h1 h2)
 refine zSe hc ho (Calls.mono (hS ok (fun k=>σ (renI m k)) w _ hR.core.okL hR.core.lib (zTu ht (ha▸zSl hR.core xs.toList)) hheld) ?_);rintro e w' ⟨v,ok',σ',he,hn,hE⟩;obtain⟨hR2,_⟩:=hR.ref hm hk hr hp hn hE;refine⟨v,he,?_⟩;rw[hd];exact hK _ _ _ _ hR2
end
def zVH(kd:IntKind)(w:World)(a:Option Addr)(len cap:Nat)(zs:List Int):Prop:=
 (a=none∧len=0∧cap=0∧zs=[])∨
 ∃g:Addr,a=some g∧len≤cap∧cap≤maxLen∧zs.length=cap∧(∀i,i<zs.length→w.cell? (g.add i)=some (.int kd (zs.getD i 0)))∧(∀n∈zs,(Lit.int kd n).wf=true)
theorem z8V{kd:IntKind}{w:World}{a:Option Addr}{len cap:Nat}{zs:List Int}(h:zVH kd w a len cap zs)(c:Int→List Tr)(hc:∀x,c x=[.v (.int kd x)]):Rd (fun g=>g<w.heap.size) w (.sl ((zs.take len).map c)) (.slice a len cap):=by
 rcases h with⟨rfl,rfl,rfl,rfl⟩|⟨g,rfl,hl,hm,hz,hcell,hwf⟩
 ·exact .nl _ _
 ·rcases Nat.eq_zero_or_pos len with h0|h0
  ·subst h0;simpa using Rd.nl _ _
  ·have h1:=hcell 0 (by omega);have h2:g.add 0=g:=rfl;rw[h2]at h1;have hs:g.spot=none:=World.cell?_spot h1;obtain⟨b,o,sp⟩:=g;simp only at hs;subst hs;have hb:b<w.heap.size:=by
    unfold World.cell? at h1;simp only at h1;rcases Nat.lt_or_ge b w.heap.size with h3|h3
    ·exact h3
    ·rw[Array.getElem?_eq_none h3]at h1;cases h1
   have hat:∀i j c',at2 ((zs.take len).map c) i j=some c'→i<len∧j=0∧c'=.v (.int kd (zs.getD i 0)):=by
    intro i j c' hh;unfold at2 at hh;rw[List.getElem?_map]at hh;have hi:i<len:=by
     rcases Nat.lt_or_ge i len with h3|h3
     ·exact h3
     ·rw[List.getElem?_eq_none (by simp;omega)]at hh;cases hh
    have hzi:(zs.take len)[i]?=some (zs.getD i 0):=by
     rw[List.getElem?_take,if_pos hi,List.getD_eq_getElem?_getD];have:i<zs.length:=by omega
     rw[zu this];rfl
    rw[hzi]at hh;simp only[Option.map_some,Option.bind_some,hc]at hh;cases j with
    |zero=>simp at hh;exact⟨hi,rfl,hh.symm⟩
    |succ j=>simp at hh
   refine .sl b o len cap 1 _ (fun i j=>.int kd (zs.getD i 0)) (by simp;omega) hl hb (fun el hel=>?_) (fun i j c' hh=>?_) (fun i j c' hh=>?_)
   ·obtain⟨x,_,rfl⟩:=List.mem_map.1 hel;rw[hc];rfl
   ·obtain⟨h3,h4,_⟩:=hat i j c' hh;subst h4;have h5:=hcell i (by omega);rw[zCm]at h5;simpa using h5
   ·obtain⟨h3,h4,h5⟩:=hat i j c' hh;rw[h5];exact .v _ rfl
theorem zZU{kd:IntKind}{w:World}{σ:Nat→Loc}{a:Option Addr}{len cap:Nat}{zs:List Int}{args:List AV}{vs:List Value}(h:zVH kd w a len cap zs)(c:Int→List Tr)(hc:∀x,c x=[.v (.int kd x)])(hs:RelA (fun g=>g<w.heap.size) σ w args vs):
  RelA (fun g=>g<w.heap.size) σ w (.c (.sl ((zs.take len).map c))::args) (.slice a len cap::vs):=.cons (z8V h c hc) hs
theorem z4B{w:World}{a:Option Addr}{len cap:Nat}{zs:List Int}(h:zVH .u8 w a len cap zs):∀x∈zs.take len,0≤x∧x≤255:=by
 intro x hx;have hx:=List.mem_of_mem_take hx;rcases h with⟨_,_,_,rfl⟩|⟨g,_,_,_,_,_,hwf⟩
 ·cases hx
 ·exact bounds_u8 (hwf x hx)
section
variable {P:Program}
theorem zJm{n:Nat}{l h:Int}{u:Unit}(hh:slc n l h=some u):0≤l∧l≤h∧h≤n:=by
 unfold slc at hh;cases hb:(leI 0 l&&(leI l h&&leI h n)) with
 |false=>rw[hb]at hh;cases hh
 |true=>simpa [qK] using hb
theorem zG2{k:IntKind}{n:Int}{y:Nat}{code:BoundsCode}(h0:0≤n)(h1:n≤y)(w:World):(Instr.sliceBound (.int k n) y code).run P w=.ok n.toNat w:=by unfold Instr.sliceBound;simp[asIntOf,h0,h1]
theorem z6X{ok:Nat→Prop}{w:World}{els:List (List Tr)}{A:Option Addr}{n cap sz:Nat}(h:Rd ok w (.sl els) (.slice A n cap))(hs:∀el,el∈els→el.length=sz){l h':Nat}(h1:l≤h')(h2:h'≤els.length):
  Rd ok w (.sl ((els.drop l).take (h' - l))) (.slice (if cap=l then A else A.map (·.add (l*sz))) (h' - l) (cap - l)):=by
 cases h with
 |nl A cap=>
  have e1:l=0:=by simp at h2;omega
  have e2:h'=0:=by simp at h2;omega
  subst e1 e2;simpa using Rd.nl _ _
 |sl g off n cap sz2 els f hn hcap hok hsz hc hr=>
  rcases Nat.eq_zero_or_pos (h' - l) with h0|h0
  ·rw[h0];simpa using Rd.nl _ _
  ·have hlen:els≠[]:=by intro e;subst e;simp at h2;omega
   have hcl:¬cap=l:=by omega
   rw[if_neg hcl];have hz:sz2=sz:=by obtain⟨e,he⟩:=List.exists_mem_of_ne_nil els hlen;rw[←hsz e he,hs e he]
   subst hz;have hat:∀i j c,at2 ((els.drop l).take (h' - l)) i j=some c→at2 els (l+i) j=some c:=by
    intro i j c hh;unfold at2 at hh ⊢;rw[List.getElem?_take]at hh;split at hh
    ·rw[List.getElem?_drop]at hh;exact hh
    ·cases hh
   have ha:(Option.map (fun x:Addr=>x.add (l*sz2)) (some ⟨g,off,none⟩))=some ⟨g,off+l*sz2,none⟩:=by rw[Option.map_some,zCm]
   rw[ha];refine .sl g (off+l*sz2) (h' - l) (cap - l) sz2 _ (fun i j=>f (l+i) j) ?_ (by omega) hok (fun el hel=>hsz el (List.mem_of_mem_drop (List.mem_of_mem_take hel))) (fun i j c hh=>?_) (fun i j c hh=>hr _ _ _ (hat i j c hh))
   ·simp;omega
   ·have h3:=hc _ _ _ (hat i j c hh);have e:off+l*sz2+(i*sz2+j)=off+((l+i)*sz2+j):=by rw[Nat.add_mul];omega
    rw[e];exact h3
theorem zPt{α:Type}{c:α→List Tr}{xs:List α}{o:Oper}{s:St}{t e sz:Nat}{x:Operand}{lo hi:Option Operand}{l h:Int}(hu:P.underlying t=some (.slice e))(hsz:(P.info? e).map (·.size)=some sz)(hc:∀v,(c v).length=sz)(ho:o.op=.slice t x lo hi none)
  (hx:s.ev x=.c (.sl (xs.map c))) (hlo:∀y,lo=some y→∃k,s.ev y=.c (.v (.int k l))) (hlo0:lo=none→l=0) (hhi:∀y,hi=some y→∃k,s.ev y=.c (.v (.int k h))) (hhi0:hi=none→h=(xs.length:Int)) (hb:0≤l∧l≤h∧h≤xs.length):Y0 P o s (.c (.sl ((subl xs l h).map c))):=
 qI fun ok σ a w hC=>by
  obtain⟨b1,b2,b3⟩:=hb;have h1:=hC.ev x;rw[hx]at h1;have h2:Rd ok w (.sl (xs.map c)) (a.eval x):=h1;generalize hv:a.eval x=v at h2;obtain⟨A,n,cap,rfl,hn,hcap⟩:∃A n cap,v=.slice A n cap∧n=xs.length∧n≤cap:=by
   generalize hT:Tr.sl (xs.map c)=T at h2;cases h2 with
   |v y hy=>cases hT
   |mp b es clock hb hm=>cases hT
   |nl A cap=>
    injection hT with hT;have:xs=[]:=by simpa using hT
    subst this;exact⟨A,0,cap,rfl,rfl,Nat.zero_le _⟩
   |sl g off n cap sz els f hn hcap hok hsz hc hr=>injection hT with hT;subst hT;exact⟨_,n,cap,rfl,by rw[hn];simp,hcap⟩
  have h3:=z6X (sz:=sz) h2 (fun el hel=>by obtain⟨y,_,rfl⟩:=List.mem_map.1 hel;exact hc y) (l:=l.toNat) (h':=h.toNat) (by omega) (by simp;omega);have e1:((xs.map c).drop l.toNat).take (h.toNat - l.toNat)=(subl xs l h).map c:=by unfold subl;rw[←List.map_drop,←List.map_take]
  rw[e1]at h3;refine⟨_,?_,h3⟩;have eL:(lo.map a.eval)=none∧l=0∨∃k,lo.map a.eval=some (.int k l):=by
   cases lo with
   |none=>exact .inl ⟨rfl,hlo0 rfl⟩
   |some y=>obtain⟨k,hk⟩:=hlo y rfl;exact .inr ⟨k,by simp[hC.exact hk]⟩
  have eH:(hi.map a.eval)=none∧h=(n:Int)∨∃k,hi.map a.eval=some (.int k h):=by
   cases hi with
   |none=>exact .inl ⟨rfl,by rw[hhi0 rfl,hn]⟩
   |some y=>obtain⟨k,hk⟩:=hhi y rfl;exact .inr ⟨k,by simp[hC.exact hk]⟩
  have hbounds:∀w,(Instr.sliceBounds true n cap (lo.map a.eval) (hi.map a.eval) none).run P w=.ok (l.toNat,h.toNat,cap) w:=by
   intro w;unfold Instr.sliceBounds;rcases eL with⟨e2,e3⟩|⟨k,e2⟩<;>rcases eH with⟨e4,e5⟩|⟨k2,e4⟩
   ·subst e3 e5;simp[e2,e4]
   ·subst e3;simp only[e2,e4,Sem.run_bind,Sem.run_pure,Result.andThen_ok,zG2 (P:=P) (k:=k2) (n:=h) (y:=cap) (by omega) (by omega)];rfl
   ·subst e5;simp only[e2,e4,Sem.run_bind,Sem.run_pure,Result.andThen_ok,zG2 (P:=P) (k:=k) (n:=l) (y:=n) b1 (by omega)];simp
   ·simp only[e2,e4,Sem.run_bind,Sem.run_pure,Result.andThen_ok,zG2 (P:=P) (k:=k2) (n:=h) (y:=cap) (by omega) (by omega),zG2 (P:=P) (k:=k) (n:=l) (y:=h.toNat) b1 (by omega)]
  cases hii:P.info? e with
  |none=>rw[hii]at hsz;cases hsz
  |some i=>
   have hi2:i.size=sz:=by rw[hii]at hsz;simpa using hsz
   unfold execOp;rw[ho];simp[hv,Instr.sliceAt,Instr.slice,run_underlying hu,hbounds,sizeOf,typeInfo,hii,hi2]
theorem z34{o:Oper}{s:St}{x y:Operand}{t e d id sz bytes:Nat}{z:Value}{els:List (List Tr)}(ho:o.op=.call {callee:=.builtin .append,args:=#[x,y],argTypes:=#[t,t]})(hd:o.dst=some d)(ht:P.underlying t=some (.slice e))
  (hi:(P.info? e).map (fun i=>(i.zero,i.size,i.bytes))=some (some z,sz,bytes)) (hx:s.ev x=.ow id) (he:s.ent id=some (.arr e sz els)) (hy:zCX s (s.ev y)=some []):X P o s ⟨(zEM id s.T).set d (.ow id),setE id (.arr e sz (els++[])) s.E⟩:=by
 intro B w0 ok0 ok σ a w hR K Q hK;have h3:=hR.core.ev x;rw[hx]at h3;have h4:a.eval x=zK (σ id):=h3;obtain⟨A,cap2,h5,_,_⟩:=zIP hR.core (hR.core.ev y) hy;obtain⟨h0,hn,hs,vs,hown,hrd⟩:=hR.core.ent id _ he;have hle:(σ id).n≤(σ id).cap:=by
  rcases hown.2 with⟨hv,hv0⟩|⟨g,cap,cur,hv,_,_,hnc,_⟩
  ·omega
  ·unfold zK at hv;injection hv with _ q1 q2;omega
 cases hii:P.info? e with
 |none=>rw[hii]at hi;simp at hi
 |some i=>
  have hi2:i.size=sz:=by rw[hii]at hi;simp at hi;exact hi.2.1
  have hrun:(Builtin.append_ #[t,t] o.type #[zK (σ id),.slice A 0 cap2]).run P w=.ok (zK (σ id)) w:=by
   unfold Builtin.append_ zK;cases A<;>cases (σ id).blk<;>simp[run_underlying ht,sizeOf,typeInfo,hii,hi2,Builtin.lenOf,Builtin.firstCells,hle,loadCells,loadCellsFrom,storeCells]
  unfold Oper.wp execOp;simp only[ho,resolve,invoke,builtin,Sem.run_bind,Sem.run_pure,Result.andThen_ok,List.map_toArray,List.map_cons,zp,h4,h5,List.length_nil,hrun,Oper.upon,hd];refine hK _ _ ok σ ((hR.put (d:=d) (av:=.ow id) (v:=zK (σ id)) rfl).le ⟨by simp[St.put,zFk],fun u=>?_,fun j f hj=>?_⟩)
  ·have e0:=zCu ⟨zEM id s.T,s.E⟩ d u (.ow id);have e1:=zCu s d u (.ow id);unfold St.put St.get at e0 e1;unfold St.get St.put;simp only[zFk,zKB]at e0;rw[e0,e1];split
   ·exact .inr rfl
   ·cases ((s.T[u]?).getD .bot).mid id with
    |true=>exact .inl rfl
    |false=>exact .inr rfl
  ·have h7:(setE id (.arr e sz (els++[])) s.E).lookup j=some f:=hj;rw[zDS id _ s.E _ he,List.append_nil]at h7;show s.ent j=some f;split at h7
   ·rename_i hji;subst hji;rw[he];exact h7
   ·exact h7
theorem z3Z{α:Type}{c:α→List Tr}{xs ys:List α}{o:Oper}{s:St}{x y:Operand}{t e d id sz bytes:Nat}{z:Value}(ho:o.op=.call {callee:=.builtin .append,args:=#[x,y],argTypes:=#[t,t]})(hd:o.dst=some d)(ht:P.underlying t=some (.slice e))
  (hi:(P.info? e).map (fun i=>(i.zero,i.size,i.bytes))=some (some z,sz,bytes)) (hzs:z.cells.size=sz) (hx:s.ev x=.ow id) (he:s.ent id=some (.arr e sz (xs.map c))) (hy:zCX s (s.ev y)=some (ys.map c)) (hc:∀v,(c v).length=sz)
  (hr:xs.length+ys.length≤1099511627776) (hby:bytes≤128):X P o s ⟨(zEM id s.T).set d (.ow id),setE id (.arr e sz ((xs++ys).map c)) s.E⟩:=by
 cases ys with
 |nil=>have:=z34 ho hd ht hi hx he (by simpa using hy);simpa using this
 |cons v vs=>exact zEI ho hd ht hi hzs hx he hy hc (by simp) hr hby
end
section
variable {P:Program}
def zZo(id:Nat)(cs:List Tr):AV→AV
 | .ow k=>bif k==id then .bot else .ow k
 | .pt k o=>bif k==id then .pe (cs.drop o) else .pt k o
 | .po k z i o=>bif k==id then .bot else .po k z i o
 | .tc _ _=>.bot
 |av=>av
def St.frzB(s:St)(id:Nat)(cs:List Tr):St:=⟨s.T.map (zZo id cs),rmE id s.E⟩
theorem z4j(s:St)(id:Nat)(cs:List Tr)(t:Nat):(s.frzB id cs).get t=zZo id cs (s.get t):=by unfold St.frzB St.get;simp only[List.getElem?_map];cases s.T[t]?<;>rfl
theorem zMW(s:St)(id:Nat)(cs:List Tr)(j:Nat)(e:Ent)(h:(s.frzB id cs).ent j=some e):j≠id∧s.ent j=some e:=by
 have h2:(rmE id s.E).lookup j=some e:=h;rw[zEr]at h2;split at h2
 ·cases h2
 ·rename_i hne;exact⟨hne,h2⟩
theorem z9f{B:Fr}{w0:World}{ok0 ok:Nat→Prop}{σ:Nat→Loc}{s:St}{a:Act}{w:World}(hR:R B w0 ok0 ok σ s a w)(id:Nat){cs:List Tr}(he:s.ent id=some (.box cs)):R B w0 ok0 (fun g=>ok g∨(σ id).blk=some g) σ (s.frzB id cs) a w:=by
 have hup:∀g,ok g→ok g∨(σ id).blk=some g:=fun g hg=>.inl hg;refine⟨⟨by simpa [St.frzB] using hR.core.len,fun g hg=>?_,hR.core.lib.mono hup (fun _ _=>rfl),fun t=>?_,fun j e hj=>?_,fun j e g hj hg=>?_,fun i j e f g hi hj h1 h2=>?_⟩,hR.defers,hR.below,hR.base,fun g hg=>.inl (hR.old g hg),fun g hg=>?_,fun j e g hj hg=>hR.own j e g (zMW s id cs j e hj).2 hg⟩
 ·rcases hg with hg|hg
  ·exact hR.core.okL g hg
  ·exact (hR.core.blk id _ g he hg).2
 ·rw[z4j];have h1:=hR.core.tmp t;generalize s.get t=av at h1;have same:Rel (fun g=>ok g∨(σ id).blk=some g) σ w av (a.tmps.getD t undef):=h1.mono0 hup fun _ _=>rfl;cases av with
  |ow k=>
   simp only[zZo];cases k==id with
   |false=>exact same
   |true=>exact trivial
  |pt k o=>
   simp only[zZo];cases hk:k==id with
   |false=>exact same
   |true=>
    have e1:k=id:=by simpa using hk
    subst e1;have hle:Le ⟨s.T,[(k,.box cs)]⟩ s:=⟨Nat.le_refl _,fun t=>.inr rfl,fun j e hj=>by
     unfold St.ent at hj;simp only[List.lookup]at hj;split at hj
     ·rename_i hjk;have:j=k:=by simpa using hjk
      subst this;injection hj with hj;subst hj;exact he
     ·cases hj⟩
    have h2:=zOz (hR.le hle).core h1;have e2:zLz ⟨s.T,[(k,.box cs)]⟩ (.pt k o)=.pe (cs.drop o):=by simp[zLz,St.entc,St.ent,List.lookup,Ent.core]
    rw[e2]at h2;refine h2.mono0 (fun g hg=>?_) fun _ _=>rfl;rcases hg with hg|⟨j,e,hj,hg⟩
    ·exact .inl hg
    ·refine .inr ?_
     unfold St.ent at hj;simp only[List.lookup]at hj;split at hj
     ·rename_i hjk;have:j=k:=by simpa using hjk
      subst this;exact hg
     ·cases hj
  |po k z i o=>
   simp only[zZo];cases k==id with
   |false=>exact same
   |true=>exact trivial
  |tc x r=>exact trivial
  |tn=>exact same
  |bot=>exact same
  |c t=>exact same
  |ag cs=>exact same
  |pe cs=>exact same
  |fn f caps=>exact same
  |er b=>exact same
  |vw id els m=>exact same
  |sf id z i=>exact same
 ·obtain⟨_,h2⟩:=zMW s id cs j e hj;exact (hR.core.ent j e h2).mono hup (fun _ _=>rfl) fun _ _=>rfl
 ·obtain⟨h1,h2⟩:=zMW s id cs j e hj;obtain⟨h3,h4⟩:=hR.core.blk j e g h2 hg;refine⟨fun h5=>?_,h4⟩;rcases h5 with h5|h5
  ·exact h3 h5
  ·exact h1 (hR.core.inj _ _ _ _ _ h2 he hg h5)
 ·exact hR.core.inj i j e f g (zMW s id cs i e hi).2 (zMW s id cs j f hj).2 h1 h2
 ·rcases hg with hg|hg
  ·exact hR.fresh g hg
  ·exact .inr (hR.own id _ g he hg)
theorem zXG{c:Code}{s s1:St}{J:Exit→St→Prop}(id:Nat){cs:List Tr}(he:s.ent id=some (.box cs))(hs:s.frzB id cs=s1)(h:V P c s1 J):V P c s J:=by subst hs;exact fun _ _ _ _ _ _ _ hR=>h _ _ _ _ _ _ _ (z9f hR id he)
theorem RelA.app{ok:Nat→Prop}{σ:Nat→Loc}{w:World}{ts us:List AV}{xs ys:List Value}(h:RelA ok σ w ts xs)(h2:RelA ok σ w us ys):RelA ok σ w (ts++us) (xs++ys):=by
 induction h with
 |nil=>exact h2
 |cons h hs ih=>exact .cons h ih
end
end Go.Proofs.YtnjhhbcccgbbnaaGreatDoor
