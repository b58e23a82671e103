/-
  Rules of walks, plain functions and their laws, part 5.
  Conditions: none.
-/
import Derived.Test.YtahdjphocippeaaGreatDoorCz4
set_option linter.unusedSimpArgs false
set_option linter.unusedVariables false
namespace Go.Proofs.YtahdjphocippeaaGreatDoor
open Go.RowKit
section
variable (P:Program)
def dslD(l:List Oper)(o:Oper):Option Nat:=match o.guard with
 |some (j,_)=>some j
 |none=>match o.op with
  | .pick (.tmp t) _ _=>some (idT t l 0)
  |_=>none
def opT:Operand→Option Nat
 | .tmp d=>some d
 |_=>none
def dtnD(rs:List Res):Option Nat→Option Nat
 |some d=>(match rs[d]? with
  |some (.r0 .tn)=>none
  |_=>some d)
 |none=>none
def goD:Nat→{β:Type}→T P β→List Nat→List Oper→List Nat→Nat→List (List Cd)→St→List Res→(T P β→St→OT)→OT
 |0,_,_,_,_,_,_,_,_,_,_=>.bad
 |n+1,β,t,kn,l,ms,n1,css,s0,rs,K=>match t with
  | .fail=>.ok
  | .frc v k=>goD n (k v) kn l ms n1 css s0 rs K
  | .lt v k=>goD n (k v) kn l ms n1 css s0 rs K
  | .bnd _ k=>.all fun y=>goD n (k y) kn l ms n1 css s0 rs K
  | .seqT t1 k=>goD n (sqT t1 k) kn l ms n1 css s0 rs K
  |t=>bif Nat.beq rs.length n1 then K t (fin (l.take n1) rs s0) else match l[rs.length]?,css[rs.length]? with
   |some o,some c=>match opn P t kn (dtnD rs (dslD l o)) with
    |some (d,b,t1,t2)=>.eq (rs[d]?) (some (.r0 (Bo b))) (.and (goD n t1 (d::kn) l ms n1 css s0 (rs.set d (.r0 (Bo true))) K) (goD n t2 (d::kn) l ms n1 css s0 (rs.set d (.r0 (Bo false))) K))
    |none=>match zQj P t kn (dtnD rs (dslD l o)) with
     |(t,kn)=>match (bif wv (appC c (l.take n1) rs s0) o then er1 P l ms n1 css s0 rs else none) with
      |some rs'=>goD n t kn l ms n1 css s0 rs' K
      |none=>.eq (yg l.toArray o (appC c (l.take n1) rs s0)) (some true) (match t with
       | .n0 F t'=>.and (F.chk o (appC c (l.take n1) rs s0)) (.eq (Nat.blt rs.length n1&&(zHV ms rs.length (F.av o (appC c (l.take n1) rs s0)) 0 (l.take n1)&&o.dst.isSome)) true (goD n t' kn l ms n1 css s0 (rs++[.r0 (F.av o (appC c (l.take n1) rs s0))]) K))
       | .n1 F t'=>.and (F.chk o (appC c (l.take n1) rs s0)) (.eq (Nat.blt rs.length n1&&(zIW (F.ne o (appC c (l.take n1) rs s0))&&(makes o&&((F.av o (appC c (l.take n1) rs s0)).small&&o.dst.isSome)))) true (goD n t' kn l ms n1 css s0 (rs++[.r1 (F.av o (appC c (l.take n1) rs s0)) (F.ne o (appC c (l.take n1) rs s0))]) K))
       | .op0 F k=>.and (F.chk o (appC c (l.take n1) rs s0)) (.all fun y=>.eq (Nat.blt rs.length n1&&(zHV ms rs.length (F.av o (appC c (l.take n1) rs s0) y) 0 (l.take n1)&&o.dst.isSome)) true (goD n (k y) kn l ms n1 css s0 (rs++[.r0 (F.av o (appC c (l.take n1) rs s0) y)]) K))
       | .op1 F k=>.and (F.chk o (appC c (l.take n1) rs s0)) (.all fun y=>.eq (Nat.blt rs.length n1&&(zIW (F.ne o (appC c (l.take n1) rs s0) y)&&(makes o&&((F.av o (appC c (l.take n1) rs s0) y).small&&o.dst.isSome)))) true (goD n (k y) kn l ms n1 css s0 (rs++[.r1 (F.av o (appC c (l.take n1) rs s0) y) (F.ne o (appC c (l.take n1) rs s0) y)]) K))
       |_=>.bad)
   |_,_=>.bad
def unpl{β:Type}(t:T P β):T P β:=match t with
 | .pl t'=>t'
 |t=>t
def undn{β:Type}(t:T P β):T P β:=match t with
 | .dn t'=>t'
 |t=>t
end
section
variable (P:Program)
inductive DN:Type 1
  |aut
  |n0 (F:N0 P)
  |n1 (F:N1 P)
  |f0 {α:Type} (F:F0 P α) (y:α)
  |f1 {α:Type} (F:F1 P α) (y:α)
  |fx {α:Type} (F:FX P α) (y:α)
  |hn (H:HT) (d:DN)
def allR{α:Type}:List α→(α→OT)→OT
 |[],_=>.ok
 |i::is,g=>.and (g i) (allR is g)
end
section
variable {P:Program}
theorem zUv{α:Type}{g:α→OT}:∀(is:List α),(allR is g).holds→∀i,i∈is→(g i).holds
 |[],_,i,hi=>by cases hi
 |j::is,h,i,hi=>by
  rcases List.mem_cons.1 hi with h1|h1
  ·subst h1;exact h.1
  ·exact zUv is h.2 i h1
def DN.good:DN P→Prop
 | .f0 F y=>F.m=some y
 | .f1 F y=>F.m=some y
 | .fx F y=>F.m=some y
 | .hn _ d=>d.good
 |_=>True
def DN.run:DN P→Oper→St→(St→OT)→OT
 | .aut,o,s,K=>(match wo P o s with
  |some s'=>K s'
  |none=>.bad)
 | .n0 F,o,s,K=>(match o.dst with
  |some d=>.and (F.chk o s) (K (s.put d (F.av o s)))
  |none=>.bad)
 | .n1 F,o,s,K=>(match o.dst with
  |some d=>.and (F.chk o s) (K (s.upd d (F.av o s) (F.ne o s)))
  |none=>.bad)
 | .f0 F y,o,s,K=>(match o.dst with
  |some d=>.and (F.chk o s) (K (s.put d (F.av o s y)))
  |none=>.bad)
 | .f1 F y,o,s,K=>(match o.dst with
  |some d=>.and (F.chk o s) (K (s.upd d (F.av o s y) (F.ne o s y)))
  |none=>.bad)
 | .fx F y,o,s,K=>F.run o s y K
 | .hn H d,o,s,K=>H.run s fun s'=>d.run o s' K
theorem DN.ok:∀(d:DN P)(o:Oper)(s:St)(K:St→OT),d.good→(d.run o s K).holds→XS P o s (fun s'=>(K s').holds)
 | .aut,o,s,K,_,h=>by
  unfold DN.run at h;split at h
  ·rename_i s' hs;exact zEa (z9N hs) h
  ·exact h.elim
 | .n0 F,o,s,K,_,h=>by
  unfold DN.run at h;split at h
  ·rename_i d hd;exact zEa (zB hd (F.ok o s h.1)) h.2
  ·exact h.elim
 | .n1 F,o,s,K,_,h=>by
  unfold DN.run at h;split at h
  ·rename_i d hd;exact zEa (zE9 hd (F.ok o s h.1)) h.2
  ·exact h.elim
 | .f0 F y,o,s,K,hg,h=>by
  unfold DN.run at h;split at h
  ·rename_i d hd;exact zEa (zB hd (F.ok o s y hg h.1)) h.2
  ·exact h.elim
 | .f1 F y,o,s,K,hg,h=>by
  unfold DN.run at h;split at h
  ·rename_i d hd;exact zEa (zE9 hd (F.ok o s y hg h.1)) h.2
  ·exact h.elim
 | .fx F y,o,s,K,hg,h=>F.ok o s K y hg h
 | .hn H d,o,s,K,hg,h=>by intro B w0 ok0 ok σ a w hR K2 Q hK;obtain⟨s',ok',σ',h1,h2⟩:=H.ok s _ h _ _ _ _ _ _ _ hR;exact DN.ok d o s' K hg h1 _ _ _ _ _ _ _ h2 K2 Q hK
def zNd:List HT→DN P→DN P
 |[],d=>d
 |H::hs,d=>.hn H (zNd hs d)
theorem zSj:∀(hs:List HT)(d:DN P),d.good→(zNd hs d).good
 |[],_,h=>h
 |_::hs,d,h=>zSj hs d h
def goP:Nat→{β:Type}→T P β→List Nat→List HT→List (DN P)→(T P β→List (DN P)→OT)→OT
 |0,_,_,_,_,_,_=>.bad
 |f+1,β,t,au,hs,acc,K=>match au with
  |[]=>K t acc
  |b::au'=>match Nat.beq b 1 with
   |true=>goP f t au' hs (acc++[.aut]) K
   |false=>match t with
    | .hint H t'=>goP f t' au (hs++[H]) acc K
    | .late H t'=>goP f t' au (hs++[H]) acc K
    | .fail=>.ok
    |t=>match Nat.beq b 2 with
     |true=>goP f t au' [] (acc++[zNd hs .aut]) K
     |false=>match t with
      | .n0 F t'=>goP f t' au' [] (acc++[zNd hs (.n0 F)]) K
      | .n1 F t'=>goP f t' au' [] (acc++[zNd hs (.n1 F)]) K
      | .op0 F k=>.all fun y=>goP f (k y) au' [] (acc++[zNd hs (.f0 F y)]) K
      | .op1 F k=>.all fun y=>goP f (k y) au' [] (acc++[zNd hs (.f1 F y)]) K
      | .opx F k=>.all fun y=>goP f (k y) au' [] (acc++[zNd hs (.fx F y)]) K
      |_=>.bad
theorem zHW:∀(f:Nat){β:Type}(t:T P β)(au:List Nat)(hs:List HT)(acc:List (DN P))(K:T P β→List (DN P)→OT),(goP f t au hs acc K).holds→(∀d,d∈acc→d.good)→
  ∀{ρ:Type}(k:β→Option ρ)(r:ρ),t.den k=some r→∃t' ds,(∀d,d∈ds→DN.good d)∧T.den t' k=some r∧(K t' ds).holds
 |0,_,_,_,_,_,_,h=>h.elim
 |f+1,β,t,au,hs,acc,K,h=>by
  intro ha ρ k r hd;have ha2:∀d0:DN P,d0.good→∀d,d∈acc++[zNd hs d0]→d.good:=by
   intro d0 h0 d hdm;rcases List.mem_append.1 hdm with h1|h1
   ·exact ha d h1
   ·rw[qe]at h1;subst h1;exact zSj hs d0 h0
  have ha3:∀d,d∈acc++[(DN.aut:DN P)]→d.good:=by
   intro d hdm;rcases List.mem_append.1 hdm with h1|h1
   ·exact ha d h1
   ·rw[qe]at h1;subst h1;trivial
  unfold goP at h;split at h
  ·exact⟨t,acc,ha,hd,h⟩
  ·split at h
   ·exact zHW f _ _ _ _ _ h ha3 k r hd
   ·split at h
    ·exact zHW f _ _ _ _ _ h ha k r hd
    ·exact zHW f _ _ _ _ _ h ha k r hd
    ·cases hd
    ·split at h
     ·exact zHW f _ _ _ _ _ h (ha2 _ trivial) k r hd
     ·split at h
      ·exact zHW f _ _ _ _ _ h (ha2 _ trivial) k r hd
      ·exact zHW f _ _ _ _ _ h (ha2 _ trivial) k r hd
      ·rename_i F g _ _ _;obtain⟨y,h1,h2⟩:=zT (show F.m.bind (fun y=>(g y).den k)=some r from hd);exact zHW f _ _ _ _ _ (h y) (ha2 (.f0 F y) h1) k r h2
      ·rename_i F g _ _ _;obtain⟨y,h1,h2⟩:=zT (show F.m.bind (fun y=>(g y).den k)=some r from hd);exact zHW f _ _ _ _ _ (h y) (ha2 (.f1 F y) h1) k r h2
      ·rename_i F g _ _ _;obtain⟨y,h1,h2⟩:=zT (show F.m.bind (fun y=>(g y).den k)=some r from hd);exact zHW f _ _ _ _ _ (h y) (ha2 (.fx F y) h1) k r h2
      ·exact h.elim
def goL(l:List Oper)(ms:List Nat)(ds:List (DN P)):Nat→Nat→St→(St→OT)→OT
 |0,_,_,_=>.bad
 |f+1,mask,s,K=>bif Nat.beq mask (2 ^l.length - 1) then K s else allR (zMx ms mask l.length) fun i=>match l[i]?,ds[i]? with
  |some o,some d=>(match o.guard with
   |none=>d.run o s fun s'=>goL l ms ds f (mask|||2 ^i) s' K
   |some _=>.bad)
  |_,_=>.bad
theorem zYj{l:List Oper}{ms:List Nat}{ds:List (DN P)}{K:St→OT}{Q:Exit→Act→World→Prop}{B:Fr}{w0:World}{ok0:Nat→Prop}(hc:chk1 ms l.length 0 l=true)(hds:∀d,d∈ds→d.good)
  (hQ:∀s ok σ a w,(K s).holds→R B w0 ok0 ok σ s a w→Q .normal a w):
  ∀(fuel g:Nat)(listed:Array Bool)(mask:Nat)(s:St)(ok:Nat→Prop)(σ:Nat→Loc)(a:Act)(w:World),listed.size=l.length→(∀j,listed.getD j false=mask.testBit j)→(∀j,listed.getD j false=true→∀m,(ms.getD j 0).testBit m=true→listed.getD m false=true)→
   left l.length (fun j=>listed.getD j false)≤fuel→(goL l ms ds g mask s K).holds→R B w0 ok0 ok σ s a w→wpAny P .any l.toArray Q fuel listed a w:=by
 have full:∀(listed:Array Bool)(mask:Nat),listed.size=l.length→(∀j,listed.getD j false=mask.testBit j)→(∀j,j<l.length→listed.getD j false=true)→mask=2 ^l.length - 1:=by
  intro listed mask hs hm hall;apply Nat.eq_of_testBit_eq;intro j;rw[Nat.testBit_two_pow_sub_one,←hm];by_cases hj:j<l.length
  ·rw[hall j hj];simp[hj]
  ·have:listed.getD j false=false:=by
    rw[Array.getD_eq_getD_getElem?,Array.getElem?_eq_none (by omega)];rfl
   rw[this];simp[hj]
 have done:∀(g mask:Nat)(s:St),mask=2 ^l.length - 1→(goL l ms ds g mask s K).holds→(K s).holds:=by
  intro g mask s hmask h;cases g with
  |zero=>exact h.elim
  |succ g=>unfold goL at h;rw[hmask,Nat.beq_refl,zb]at h;exact h
 intro fuel
 induction fuel with
 |zero=>
  intro g listed mask s ok σ a w hs hm hcl hf hl hR;have hall:=zPx (Nat.le_zero.1 hf);have hnil:Region.ready .any l.toArray listed=[]:=by
   rw[List.eq_nil_iff_forall_not_mem];intro i hi;obtain⟨h1,o,h3,_⟩:=(zFN hs i).1 hi;have hlt:i<l.length:=by
    rcases Nat.lt_or_ge i l.length with h4|h4
    ·exact h4
    ·rw[List.getElem?_eq_none h4]at h3;cases h3
   rw[hall i hlt]at h1;cases h1
  exact⟨hnil,hQ s ok σ a w (done g mask s (full listed mask hs hm hall) hl) hR⟩
 |succ fuel ih=>
  intro g listed mask s ok σ a w hs hm hcl hf hl hR;refine⟨fun hnil=>?_,fun i hi=>?_⟩
  ·refine hQ s ok σ a w (done g mask s (full listed mask hs hm fun j hj=>?_) hl) hR;cases h3:listed.getD j false with
   |true=>rfl
   |false=>exact absurd hnil (zIf hc hs j hj h3)
  ·have hbits:=zHg hc hs hi hcl;obtain⟨h1,o,h3,_⟩:=(zFN hs i).1 hi;have hlt:i<l.length:=by
    rcases Nat.lt_or_ge i l.length with h4|h4
    ·exact h4
    ·rw[List.getElem?_eq_none h4]at h3;cases h3
   have hmem:=zMw ms mask _ i hlt (by rw[←hm];exact h1) fun j hj=>by rw[←hm];exact hbits j hj
   cases g with
   |zero=>exact hl.elim
   |succ g=>
    unfold goL at hl;have hnb:Nat.beq mask (2 ^l.length - 1)=false:=by
     cases hb:Nat.beq mask (2 ^l.length - 1) with
     |false=>rfl
     |true=>have:=Nat.eq_of_beq_eq_true hb;rw[hm,this,Nat.testBit_two_pow_sub_one]at h1;simp[hlt]at h1
    rw[hnb,zc]at hl;have hl2:=zUv _ hl i hmem;simp only[h3]at hl2;split at hl2
    ·rename_i o2 d he1 he2;injection he1 with he1;subst he1;split at hl2
     ·rename_i hguard;have hx:=DN.ok d o s _ (hds d (List.mem_of_getElem? he2)) hl2;have hset:=zFy listed i (by omega);have hleft:=zUB hs hlt h1;unfold wpOp;rw[show l.toArray[i]?=l[i]? by simp,h3];simp only;rw[if_pos (zHI hR.core (.inl hguard))];refine .inl (hx B w0 ok0 ok σ a w hR _ Q fun s' a' w' ok' σ' hI hR'=>?_);refine ih g (listed.setIfInBounds i true) (mask|||2 ^i) s' ok' σ' a' w' (by simpa using hs) (fun j=>?_) (fun j hj m hmm=>?_) (by omega) hI hR'
      ·rw[hset,Nat.testBit_or,Nat.testBit_two_pow,←hm];by_cases hj:j=i
       ·subst hj;simp
       ·rw[if_neg hj];have:decide (i=j)=false:=by simp;exact fun e=>hj e.symm
        rw[this,Bool.or_false]
      ·rw[hset]at hj ⊢;split
       ·rfl
       ·by_cases hji:j=i
        ·subst hji;exact hbits m hmm
        ·rw[if_neg hji]at hj;exact hcl j hj m hmm
     ·exact hl2.elim
    ·exact hl2.elim
theorem z9E{id:Nat}{l:List Oper}{ms:List Nat}{ds:List (DN P)}{K:St→OT}{s:St}{J:Exit→St→Prop}{g:Nat}(hm:P.follows .mixedOrders=true)(hc:chk1 ms l.length 0 l=true)(hds:∀d,d∈ds→d.good)(h:(goL l ms ds g 0 s K).holds)(hJ:∀s',(K s').holds→J .normal s'):
  V P (.region id l.toArray true) s J:=by
 intro B w0 ok0 ok σ a w hR;refine wp_region_any hm ?_
 have hrep:∀j,(Array.replicate l.toArray.size false).getD j false=false:=by intro j;rw[Array.getD_eq_getD_getElem?,Array.getElem?_replicate];split<;>rfl
 refine zYj (B:=B) (w0:=w0) (ok0:=ok0) hc hds (fun s' ok' σ' a' w' hK hR'=>⟨s',ok',σ',hJ s' hK,hR'⟩) l.toArray.size g _ 0 s ok σ a _ (by simp) (fun j=>by rw[hrep j,Nat.zero_testBit]) (fun j hj=>by rw[hrep j]at hj;cases hj) ?_ h hR.drew
 unfold left;refine Nat.le_trans List.countP_le_length ?_
 simp
def DN.post(γ:Nat→Loc):DN P→Oper→St→Option St
 | .aut,o,s=>wo P o s
 | .n0 F,o,s=>(match o.dst with
  |some d=>some (s.put d (F.av o s))
  |none=>none)
 | .n1 F,o,s=>(match o.dst with
  |some d=>some (s.upd d (F.av o s) (F.ne o s))
  |none=>none)
 | .f0 F y,o,s=>(match o.dst with
  |some d=>some (s.put d (F.av o s y))
  |none=>none)
 | .f1 F y,o,s=>(match o.dst with
  |some d=>some (s.upd d (F.av o s y) (F.ne o s y))
  |none=>none)
 | .fx F y,o,s=>F.post γ o s y
 | .hn H d,o,s=>(match H.post s with
  |some s'=>d.post γ o s'
  |none=>none)
def z6P(s:St):List (Nat×Ent)→OT
 |[]=>.ok
 |p::ps=>.eq (s.ent p.1) (some p.2) (z6P s ps)
theorem z07{s:St}:∀{E:List (Nat×Ent)},(z6P s E).holds→HasE s E
 |[],_=>trivial
 |(k,e)::ps,h=>⟨h.1,z07 h.2⟩
def bldM(gh:Bool)(l:List Oper)(ds:List (DN P))(s0:St):List Nat→List (Nat×((Nat→Loc)→St))→(List (Nat×((Nat→Loc)→St))→OT)→OT
 |[],tab,K=>K tab
 |m::ms,tab,K=>match l[Nat.log2 m]?,ds[Nat.log2 m]?,tab.lookup (m - 2 ^Nat.log2 m) with
  |some o,some d,some S=>(match gh with
   |true=>bldM gh l ds s0 ms ((m,fun γ=>(d.post γ o (S γ)).getD s0)::tab) K
   |false=>(match d.post (fun _=>loc0) o (S fun _=>loc0) with
    |some s'=>bldM gh l ds s0 ms ((m,fun _=>s')::tab) K
    |none=>.eq m 0 .bad))
  |_,_,_=>.eq m 1 .bad
def stM(l:List Oper)(ds:List (DN P))(f1:Nat)(tab:List (Nat×((Nat→Loc)→St)))(m:Nat)(s:St)(i:Nat):OT:=match l[i]?,ds[i]?,tab.lookup (m|||2 ^i) with
 |some o,some d,some S2=>(match o.guard with
  |none=>.eq (Nat.ble (m|||2 ^i) f1) true (d.run o s fun s'=>.eq (S2 s'.locs).T s'.T (z6P s' (S2 s'.locs).E))
  |some _=>.bad)
 |_,_,_=>.eq (m,i) (0,0) .bad
def trM(l:List Oper)(ms:List Nat)(ds:List (DN P))(f1:Nat)(tab:List (Nat×((Nat→Loc)→St))):List (Nat×((Nat→Loc)→St))→OT
 |[]=>.ok
 |p::ps=>.and (bif Nat.beq p.1 f1 then .ok else .all fun γ=>allR (zMx ms p.1 l.length) fun i=>stM l ds f1 tab p.1 (p.2 γ) i) (trM l ms ds f1 tab ps)
theorem z3r{gh:Bool}{l:List Oper}{ds:List (DN P)}{s0:St}{K:List (Nat×((Nat→Loc)→St))→OT}:∀(ms:List Nat)(tab:List (Nat×((Nat→Loc)→St))),(bldM gh l ds s0 ms tab K).holds→∃tab',(K tab').holds∧∀S,tab.lookup 0=some S→(∀m,m∈ms→m≠0)→tab'.lookup 0=some S
 |[],tab,h=>⟨tab,h,fun s hs _=>hs⟩
 |m::ms,tab,h=>by
  have go:∀S',(bldM gh l ds s0 ms ((m,S')::tab) K).holds→∃tab',(K tab').holds∧∀S,tab.lookup 0=some S→(∀q,q∈m::ms→q≠0)→tab'.lookup 0=some S:=by
   intro S' h;obtain⟨tab',h1,h2⟩:=z3r ms _ h;refine⟨tab',h1,fun s hs hm=>h2 s ?_ fun q hq=>hm q (zn _ hq)⟩;have:(0==m)=false:=by rw[zw];exact fun e=>hm m zm e.symm
   simp only[List.lookup,this];exact hs
  unfold bldM at h;split at h
  ·split at h
   ·exact go _ h
   ·split at h
    ·exact go _ h
    ·exact h.2.elim
  ·exact h.2.elim
theorem z5I{l:List Oper}{ms:List Nat}{ds:List (DN P)}{f1:Nat}{tab:List (Nat×((Nat→Loc)→St))}:∀(ps:List (Nat×((Nat→Loc)→St))),(trM l ms ds f1 tab ps).holds→∀m S,ps.lookup m=some S→m≠f1→∀γ,(allR (zMx ms m l.length) fun i=>stM l ds f1 tab m (S γ) i).holds
 |[],_,m,s,h,_=>by simp at h
 |(q,t)::ps,h,m,s,hl,hne=>by
  simp only[List.lookup]at hl;cases hq:m==q with
  |true=>
   have:m=q:=by simpa using hq
   subst this;rw[hq]at hl;injection hl with hl;subst hl;have h1:=h.1;have:Nat.beq m f1=false:=by
    cases hb:Nat.beq m f1 with
    |false=>rfl
    |true=>exact absurd (Nat.eq_of_beq_eq_true hb) hne
   simp only[this,zc]at h1;exact h1
  |false=>rw[hq]at hl;exact z5I ps h.2 m s hl hne
def nz0:List Nat→Bool
 |[]=>true
 |m::ms=>!Nat.beq m 0&&nz0 ms
theorem z5n:∀{ms:List Nat},nz0 ms=true→∀m,m∈ms→m≠0
 |m::ms,h,q,hq=>by
  simp only[nz0,zk,Bool.not_eq_true']at h;rcases List.mem_cons.1 hq with h1|h1
  ·subst h1;intro e;subst e;exact absurd h.1 (by decide)
  ·exact z5n h.2 q h1
theorem qAi{l:List Oper}{ms:List Nat}{ds:List (DN P)}{K:St→OT}{Q:Exit→Act→World→Prop}{B:Fr}{w0:World}{ok0:Nat→Prop}{f1 g:Nat}{tab:List (Nat×((Nat→Loc)→St))}{s1:(Nat→Loc)→St}(hf1:f1≤2 ^l.length - 1)(hc:chk1 ms l.length 0 l=true)(hds:∀d,d∈ds→d.good)
  (ht:(trM l ms ds f1 tab tab).holds) (h1:tab.lookup f1=some s1) (hg:∀γ,(goL l ms ds g f1 (s1 γ) K).holds) (hQ:∀s ok σ a w,(K s).holds→R B w0 ok0 ok σ s a w→Q .normal a w):
  ∀(fuel:Nat)(listed:Array Bool)(mask:Nat)(s:(Nat→Loc)→St)(γ:Nat→Loc)(ok:Nat→Prop)(σ:Nat→Loc)(a:Act)(w:World),listed.size=l.length→(∀j,listed.getD j false=mask.testBit j)→(∀j,listed.getD j false=true→∀m,(ms.getD j 0).testBit m=true→listed.getD m false=true)→
   left l.length (fun j=>listed.getD j false)≤fuel→tab.lookup mask=some s→mask≤f1→R B w0 ok0 ok σ (s γ) a w→wpAny P .any l.toArray Q fuel listed a w:=by
 intro fuel
 induction fuel with
 |zero=>
  intro listed mask s γ ok σ a w hs hm hcl hf hl hfull hR;by_cases he:mask=f1
  ·subst he;rw[h1]at hl;injection hl with hl;subst hl;exact zYj hc hds hQ 0 g listed mask (s1 γ) ok σ a w hs hm hcl hf (hg γ) hR
  ·exfalso
   have hall:=zPx (Nat.le_zero.1 hf);have hmask:mask=2 ^l.length - 1:=by
    apply Nat.eq_of_testBit_eq;intro j;rw[Nat.testBit_two_pow_sub_one,←hm];by_cases hj:j<l.length
    ·rw[hall j hj];simp[hj]
    ·have:listed.getD j false=false:=by
      rw[Array.getD_eq_getD_getElem?,Array.getElem?_eq_none (by omega)];rfl
     rw[this];simp[hj]
   omega
 |succ fuel ih=>
  intro listed mask s γ ok σ a w hs hm hcl hf hl hfull hR;by_cases he:mask=f1
  ·subst he;rw[h1]at hl;injection hl with hl;subst hl;exact zYj hc hds hQ (fuel+1) g listed mask (s1 γ) ok σ a w hs hm hcl hf (hg γ) hR
  ·have hst:=z5I tab ht mask s hl he γ;refine⟨fun hnil=>?_,fun i hi=>?_⟩
   ·exfalso
    have hall:∀j,j<l.length→listed.getD j false=true:=fun j hj=>by
     cases h3:listed.getD j false with
     |true=>rfl
     |false=>exact absurd hnil (zIf hc hs j hj h3)
    have hmask:mask=2 ^l.length - 1:=by
     apply Nat.eq_of_testBit_eq;intro j;rw[Nat.testBit_two_pow_sub_one,←hm];by_cases hj:j<l.length
     ·rw[hall j hj];simp[hj]
     ·have:listed.getD j false=false:=by
       rw[Array.getD_eq_getD_getElem?,Array.getElem?_eq_none (by omega)];rfl
      rw[this];simp[hj]
    omega
   ·have hbits:=zHg hc hs hi hcl;obtain⟨h2,o,h3,_⟩:=(zFN hs i).1 hi;have hlt:i<l.length:=by
     rcases Nat.lt_or_ge i l.length with h4|h4
     ·exact h4
     ·rw[List.getElem?_eq_none h4]at h3;cases h3
    have hmem:=zMw ms mask _ i hlt (by rw[←hm];exact h2) fun j hj=>by rw[←hm];exact hbits j hj
    have hl2:=zUv _ hst i hmem;unfold stM at hl2;simp only[h3]at hl2;split at hl2
    ·rename_i o2 d s2 he1 he2 he3;injection he1 with he1;subst he1;split at hl2
     ·rename_i hguard;obtain⟨hble,hl2⟩:=hl2;have hble:=Nat.le_of_ble_eq_true hble;have hx:=DN.ok d o (s γ) _ (hds d (List.mem_of_getElem? he2)) hl2;have hset:=zFy listed i (by omega);have hleft:=zUB hs hlt h2;unfold wpOp;rw[show l.toArray[i]?=l[i]? by simp,h3];simp only;rw[if_pos (zHI hR.core (.inl hguard))];refine .inl (hx B w0 ok0 ok σ a w hR _ Q fun s' a' w' ok' σ' hI hR'=>?_);obtain⟨hT,hE⟩:=hI;have hE:=z07 hE;have hle:Le (s2 s'.locs) s':=⟨by rw[hT];exact Nat.le_refl _,fun t=>.inr (by unfold St.get;rw[hT]),fun id e he=>zI5 s' (s2 s'.locs).E id e hE he⟩
      by_cases hff:mask|||2 ^i=f1
      ·rw[hff,h1]at he3;injection he3 with he3;subst he3;refine zYj hc hds hQ fuel g (listed.setIfInBounds i true) f1 (s1 s'.locs) ok' σ' a' w' (by simpa using hs) (fun j=>?_) (fun j hj m hmm=>?_) (by omega) (hg _) (hR'.le hle)
       ·rw[hset,←hff,Nat.testBit_or,Nat.testBit_two_pow,←hm];by_cases hj:j=i
        ·subst hj;simp
        ·rw[if_neg hj];have:decide (i=j)=false:=by simp;exact fun e=>hj e.symm
         rw[this,Bool.or_false]
       ·rw[hset]at hj ⊢;split
        ·rfl
        ·by_cases hji:j=i
         ·subst hji;exact hbits m hmm
         ·rw[if_neg hji]at hj;exact hcl j hj m hmm
      ·refine ih (listed.setIfInBounds i true) (mask|||2 ^i) s2 s'.locs ok' σ' a' w' (by simpa using hs) (fun j=>?_) (fun j hj m hmm=>?_) (by omega) he3 hble (hR'.le hle)
       ·rw[hset,Nat.testBit_or,Nat.testBit_two_pow,←hm];by_cases hj:j=i
        ·subst hj;simp
        ·rw[if_neg hj];have:decide (i=j)=false:=by simp;exact fun e=>hj e.symm
         rw[this,Bool.or_false]
       ·rw[hset]at hj ⊢;split
        ·rfl
        ·by_cases hji:j=i
         ·subst hji;exact hbits m hmm
         ·rw[if_neg hji]at hj;exact hcl j hj m hmm
     ·exact hl2.elim
    ·exact hl2.2.elim
theorem z9D{id n1:Nat}{l:List Oper}{ms:List Nat}{ds:List (DN P)}{K:St→OT}{s:St}{s1:(Nat→Loc)→St}{J:Exit→St→Prop}{g:Nat}{tab:List (Nat×((Nat→Loc)→St))}(hn:n1≤l.length)(hm:P.follows .mixedOrders=true)(hc:chk1 ms l.length 0 l=true)(hds:∀d,d∈ds→d.good)
  (ht:(trM l ms ds (2 ^n1 - 1) tab tab).holds) (h1:tab.lookup (2 ^n1 - 1)=some s1) (h:∀γ,(goL l ms ds g (2 ^n1 - 1) (s1 γ) K).holds) (h0:tab.lookup 0=some fun _=>s) (hJ:∀s',(K s').holds→J .normal s'):
  V P (.region id l.toArray true) s J:=by
 intro B w0 ok0 ok σ a w hR;refine wp_region_any hm ?_
 have hrep:∀j,(Array.replicate l.toArray.size false).getD j false=false:=by intro j;rw[Array.getD_eq_getD_getElem?,Array.getElem?_replicate];split<;>rfl
 have hf1:2 ^n1 - 1≤2 ^l.length - 1:=Nat.sub_le_sub_right (Nat.pow_le_pow_right (by omega) hn) 1;refine qAi (B:=B) (w0:=w0) (ok0:=ok0) hf1 hc hds ht h1 h (fun s' ok' σ' a' w' hK hR'=>⟨s',ok',σ',hJ s' hK,hR'⟩) l.toArray.size _ 0 (fun _=>s) (fun _=>loc0) ok σ a _ (by simp) (fun j=>by rw[hrep j,Nat.zero_testBit]) (fun j hj=>by rw[hrep j]at hj;cases hj) ?_ h0 (Nat.zero_le _) hR.drew
 unfold left;refine Nat.le_trans List.countP_le_length ?_
 simp
end
section
variable (P:Program)
def goR{β:Type}(g:T P β→St→(Exit→T P β→List Nat→St→OT)→OT):Nat→T P β→St→(Exit→T P β→List Nat→St→OT)→OT
 |0,_,_,_=>.bad
 |j+1,t,s,K=>g t s fun e t' kn' s'=>match e with
  | .normal=>goR g j t' s' K
  |e=>K e t' kn' s'
def mtK{α:Type}(m:List Bool)(ids:List Nat)(S:St→α→(Nat→Loc)→St)(s:St):Exit→T P α→List Nat→St→OT:=fun e t' _ s'=>match e,t' with
 | .normal,.ret a=>.eq (s'.kp m ids) (S s a s'.locs) .ok
 |_,_=>.bad
def mtKS{α γ β:Type}(m:List Bool)(ids:List Nat)(S:St→α→(Nat→Loc)→St)(s:St)(er:γ→β)(K:Exit→T P β→List Nat→St→OT):Exit→T P (α ⊕ γ)→List Nat→St→OT:=fun e t' kn' s'=>match e,t' with
 | .normal,.ret (.inl a)=>.eq (s'.kp m ids) (S s a s'.locs) .ok
 | .ret,.ret (.inr r)=>K .ret (.ret (er r)) kn' s'
 | .exit i,.ret (.inr r)=>K (.exit i) (.ret (er r)) kn' s'
 |_,_=>.bad
def lpK{ι o:Type}(id:Nat)(m:List Bool)(ids:List Nat)(S:St→ι→(Nat→Loc)→St)(mo:List Bool)(ido:List Nat)(So:St→o→(Nat→Loc)→St)(s:St):Exit→T P (ι ⊕ o)→List Nat→St→OT:=fun e t' _ s'=>match e,t' with
 | .normal,.ret (.inl x')=>.eq (s'.kp m ids) (S s x' s'.locs) .ok
 | .exit i,.ret (.inr y)=>bif Nat.beq i id then .eq (s'.kp mo ido) (So s y s'.locs) .ok else .bad
 |_,_=>.bad
def lpKS{ι o γ β:Type}(id:Nat)(m:List Bool)(ids:List Nat)(S:St→ι→(Nat→Loc)→St)(mo:List Bool)(ido:List Nat)(So:St→o→(Nat→Loc)→St)(s:St)(er:γ→β)(K:Exit→T P β→List Nat→St→OT):Exit→T P (Lf ι o γ)→List Nat→St→OT:=fun e t' kn' s'=>match e,t' with
 | .normal,.ret (.again x')=>.eq (s'.kp m ids) (S s x' s'.locs) .ok
 | .exit i,.ret (.done y)=>bif Nat.beq i id then .eq (s'.kp mo ido) (So s y s'.locs) .ok else .bad
 | .ret,.ret (.early r)=>K .ret (.ret (er r)) kn' s'
 | .exit i,.ret (.early r)=>bif Nat.beq i id then .bad else K (.exit i) (.ret (er r)) kn' s'
 |_,_=>.bad
def nxK{β:Type}(g:T P β→St→OT)(K:Exit→T P β→List Nat→St→OT):Exit→T P β→List Nat→St→OT:=fun e t' kn' s'=>match e with
 | .normal=>g t' s'
 |e=>K e t' kn' s'
def bkK{β:Type}(id:Nat)(K:Exit→T P β→List Nat→St→OT):Exit→T P β→List Nat→St→OT:=fun e t' kn' s'=>match e with
 | .exit i=>bif Nat.beq i id then K .normal t' kn' s' else K (.exit i) t' kn' s'
 |e=>K e t' kn' s'
def goV:Nat→{β:Type}→T P β→List Nat→Code→St→(Exit→T P β→List Nat→St→OT)→OT
 |0,_,_,_,_,_,_=>.bad
 |n+1,β,t,kn,code,s,K=>match t with
  | .fail=>.ok
  | .hint H t'=>H.run s fun s'=>goV n t' kn code s' K
  | .late H t'=>H.run s fun s'=>goV n t' kn code s' K
  | .frc v k=>goV n (k v) kn code s K
  | .lt v k=>goV n (k v) kn code s K
  | .bnd _ k=>.all fun y=>goV n (k y) kn code s K
  | .seqT t1 k=>goV n (sqT t1 k) kn code s K
  | .join t1 m ids S f=>(match code with
   | .block id c=>goV n (.join t1 m ids S f) kn c s (bkK P id K)
   | .seq x y=>.and (goV n t1 kn x s (mtK P m ids S s)) (.all fun a=>.all fun γ=>goV n (f a) [] y (S s a γ) K)
   |c=>.and (goV n t1 kn c s (mtK P m ids S s)) (.all fun a=>.all fun γ=>K .normal (f a) [] (S s a γ)))
  | .joinC t1 m ids S f=>(match code with
   | .block id c=>goV n (.joinC t1 m ids S f) kn c s (bkK P id K)
   | .seq x y=>.and (goV n t1 kn x s (mtK P m ids S s)) (.all fun a=>.all fun γ=>goV n (f a) [] y (S s a γ) K)
   |c=>.and (goV n t1 kn c s (mtK P m ids S s)) (.all fun a=>.all fun γ=>K .normal (f a) [] (S s a γ)))
  | .joinS t1 m ids S er f=>(match code with
   | .block id c=>goV n (.joinS t1 m ids S er f) kn c s (bkK P id K)
   | .seq x y=>.and (goV n t1 kn x s (mtKS P m ids S s er K)) (.all fun a=>.all fun γ=>goV n (f a) [] y (S s a γ) K)
   |_=>.bad)
  |t=>match code with
   | .skip=>K .normal (unpl P t) kn s
   | .exit id=>K (.exit id) t kn s
   | .ret=>K .ret t kn s
   | .label _=>K .normal t kn s
   | .cond c x y=>(match opn P t kn (opT c) with
    |some (d,b,t1,t2)=>.eq (s.ev c) (Bo b) (.and (goV n t1 kn x s K) (goV n t2 kn y s K))
    |none=>match zQj P t kn (opT c) with
     |(t,kn)=>match s.ev c with
      | .c (.v (.bool true))=>goV n t kn x s K
      | .c (.v (.bool false))=>goV n t kn y s K
      |_=>.bad)
   | .seq x y=>goV n (undn P t) kn x s (nxK P (fun t' s'=>goV n t' [] y s' K) K)
   | .region id ops false=>goX P n (unpl P t) [] ops ops.toList s fun t' _ s'=>K .normal t' [] s'
   | .region id ops true=>(match t with
    | .draw n1 tg t'=>.eq (P.follows .mixedOrders&&zIw ops.toList (amk ops.toList []) n1 (acs (amk ops.toList []) tg n1 n1)) true
      (goD P n t' [] ops.toList (amk ops.toList []) n1 (acs (amk ops.toList []) tg n1 n1) (prep (ops.toList.take n1) s) [] fun t'' s'=>goX P n t'' [] ops (ops.toList.drop n1) s' fun t' _ s'=>K .normal t' [] s')
    | .drawM gh n1 masks au t'=>goP 100000 t' au [] [] fun t'' ds=>.eq (P.follows .mixedOrders&&(chk1 (amk ops.toList []) ops.toList.length 0 ops.toList&&(Nat.ble n1 ops.toList.length&&nz0 masks))) true (bldM gh ops.toList ds s masks [(0,fun _=>s)] fun tab=>(match tab.lookup (2 ^n1 - 1) with
      |some s1=>.and (trM ops.toList (amk ops.toList []) ds (2 ^n1 - 1) tab tab) (.all fun γ=>goL ops.toList (amk ops.toList []) ds (ops.toList.length+1) (2 ^n1 - 1) (s1 γ) fun s'=>K .normal t'' [] s')
      |none=>.bad))
    | .drawL au t'=>goP 100000 t' au [] [] fun t'' ds=>.eq (P.follows .mixedOrders&&chk1 (amk ops.toList []) ops.toList.length 0 ops.toList) true (goL ops.toList (amk ops.toList []) ds (ops.toList.length+1) 0 s fun s'=>K .normal t'' [] s')
    |_=>.bad)
   | .loop c=>(match t with
    | .unroll j t'=>goR P (fun t' s' K'=>goV n t' [] c s' K') j t' s K
    |_=>.bad)
   | .block id body=>(match body,t with
    | .loop c,.loop L x m ids S bt mo ido So f=>.eq (fun x=>L 0 x) (fun _=>none) (.eq (fun n x=>L (n+1) x) (fun n x=>(bt x).den (lk L n)) (.eq (s.kp m ids) (S s x s.locs) (.and
      (.all fun x=>.all fun γ=>goV n (bt x) [] c (S s x γ) (lpK P id m ids S mo ido So s))
      (.all fun y=>.all fun γ=>K .normal (f y) [] (So s y γ)))))
    | .loop c,.loopS L x m ids S bt mo ido So er f=>.eq (fun x=>L 0 x) (fun _=>none) (.eq (fun n x=>L (n+1) x) (fun n x=>(bt x).den (lkS L n)) (.eq (s.kp m ids) (S s x s.locs) (.and
      (.all fun x=>.all fun γ=>goV n (bt x) [] c (S s x γ) (lpKS P id m ids S mo ido So s er K))
      (.all fun y=>.all fun γ=>K .normal (f y) [] (So s y γ)))))
    |body,t=>goV n t kn body s (bkK P id K))
   |_=>.bad
end
section
variable {P:Program}
theorem qAC{l:List Oper}{rs:List Res}{o:Oper}{d:Nat}(ho:l[rs.length]?=some o)(h:dslD l o=some d):gtD l rs=d:=by
 unfold gtD;rw[ho];unfold dslD at h;split at h
 ·rename_i j b hg
  (try simp only[hg])
  injection h
 ·rename_i hg
  (try simp only[hg])
  split at h
  ·rename_i t x y hop
   (try simp only[hop])
   injection h
  ·cases h
theorem opn_q{β:Type}{t:T P β}{kn:List Nat}{q:Option Nat}{d:Nat}{c:Bool}{a b:T P β}(h:opn P t kn q=some (d,c,a,b)):q=some d:=by
 unfold opn at h;split at h
 ·rename_i d0;cases hb:kn.elem d0 with
  |true=>rw[hb,zb]at h;cases h
  |false=>
   rw[hb,zc]at h;split at h
   ·injection h with h;injection h with h1 h;rw[h1]
   ·injection h with h;injection h with h1 h;rw[h1]
   ·cases h
 ·cases h
theorem qAw{rs:List Res}{q:Option Nat}{d:Nat}(h:dtnD rs q=some d):q=some d:=by
 unfold dtnD at h;split at h
 ·split at h
  ·cases h
  ·exact h
 ·cases h
theorem zGc:∀(n:Nat){β:Type}(t:T P β)(kn:List Nat)(l:List Oper)(ms:List Nat)(n1:Nat)(css:List (List Cd))(s0:St)(rs:List Res)(K:T P β→St→OT),(goD P n t kn l ms n1 css s0 rs K).holds→
  ∀{ρ:Type}(k:β→Option ρ)(r:ρ),t.den k=some r→∀J:St→Prop,(∀t' s',(K t' s').holds→T.den t' k=some r→J s')→DL P l ms n1 css s0 rs J
 |0,_,_,_,_,_,_,_,_,_,_,h=>h.elim
 |n+1,β,t,kn,l,ms,n1,css,s0,rs,K,h=>by
  intro k r hd J hJ;unfold goD at h;split at h
  ·cases hd
  ·rename_i v f;have hd:sI v (fun y=>(f y).den k)=some r:=hd;rw[zI]at hd;exact zGc n (f v) kn l ms n1 css s0 rs K h k r hd J hJ
  ·rename_i v f;exact zGc n (f v) kn l ms n1 css s0 rs K h k r hd J hJ
  ·rename_i m f;obtain⟨y,_,h2⟩:=zT (show m.bind (fun y=>(f y).den k)=some r from hd);exact zGc n (f y) kn l ms n1 css s0 rs K (h y) k r h2 J hJ
  ·rename_i t1 f;exact zGc n (sqT t1 f) kn l ms n1 css s0 rs K h k r (by rw[zXz];exact hd) J hJ
  ·cases hbe:Nat.beq rs.length n1 with
   |true=>rw[hbe,zb]at h;exact zZ4 (Nat.eq_of_beq_eq_true hbe) (hJ _ _ h hd)
   |false=>
    rw[hbe,zc]at h;split at h
    ·rename_i o c ho hc;split at h
     ·rename_i d b t1 t2 hq;rw[zTr hq k]at hd;obtain⟨ha,hb⟩:=zUV (β:=β) hd;have hg:=qAC ho (qAw (opn_q hq));cases b with
      |true=>exact EQ (v:=true) rfl (by rw[hg];exact zGc n t1 _ l ms n1 css s0 _ K h.2.1 k r (ha rfl) J hJ) (by rw[hg];exact h.1)
      |false=>exact EQ (v:=false) rfl (by rw[hg];exact zGc n t2 _ l ms n1 css s0 _ K h.2.2 k r (hb rfl) J hJ) (by rw[hg];exact h.1)
     ·have hd:(zQj P t kn (dtnD rs (dslD l o))).1.den k=some r:=by rw[zPR];exact hd
      split at h;rename_i t2 kn2 hu;rw[hu]at hd;have hd:t2.den k=some r:=hd;split at h
      ·rename_i rs' hr;cases hw:wv (appC c (l.take n1) rs s0) o with
       |false=>rw[hw,zc]at hr;cases hr
       |true=>rw[hw,zb]at hr;exact qAt hr (zGc n _ _ l ms n1 css s0 rs' K h k r hd J hJ)
      ·obtain⟨hg,h⟩:=h;split at h
       ·rename_i F t' hd;obtain⟨h3,h5,h6⟩:=h;rw[zk,zk]at h5;exact E0 rs.length ho hc (F.ok o _ h3) (zGc n t' _ l ms n1 css s0 _ K h6 k r hd J hJ) rfl h5.1 hg h5.2.1 h5.2.2
       ·rename_i F t' hd;obtain⟨h3,h5,h6⟩:=h;rw[zk,zk,zk,zk]at h5;exact E1 rs.length ho hc (F.ok o _ h3) (zGc n t' _ l ms n1 css s0 _ K h6 k r hd J hJ) rfl h5.1 hg h5.2.1 h5.2.2.1 h5.2.2.2.1 h5.2.2.2.2
       ·rename_i F f hd;obtain⟨y,h1,h2⟩:=zT (show F.m.bind (fun y=>(f y).den k)=some r from hd);obtain⟨h3,h4⟩:=h;obtain⟨h5,h6⟩:=h4 y;rw[zk,zk]at h5;exact E0 rs.length ho hc (F.ok o _ y h1 h3) (zGc n (f y) _ l ms n1 css s0 _ K h6 k r h2 J hJ) rfl h5.1 hg h5.2.1 h5.2.2
       ·rename_i F f hd;obtain⟨y,h1,h2⟩:=zT (show F.m.bind (fun y=>(f y).den k)=some r from hd);obtain⟨h3,h4⟩:=h;obtain⟨h5,h6⟩:=h4 y;rw[zk,zk,zk,zk]at h5;exact E1 rs.length ho hc (F.ok o _ y h1 h3) (zGc n (f y) _ l ms n1 css s0 _ K h6 k r h2 J hJ) rfl h5.1 hg h5.2.1 h5.2.2.1 h5.2.2.2.1 h5.2.2.2.2
       ·exact h.elim
    ·exact h.elim
theorem zYc{α ρ:Type}{m:List Bool}{ids:List Nat}{S:St→α→(Nat→Loc)→St}{s:St}{e:Exit}{t':T P α}{kn:List Nat}{s':St}(h:(mtK P m ids S s e t' kn s').holds){κ:α→Option ρ}{r:ρ}(hd:t'.den κ=some r):e=.normal∧∃a,s'.kp m ids=S s a s'.locs∧κ a=some r:=by
 unfold mtK at h;split at h
 ·rename_i a;exact⟨rfl,a,h.1,hd⟩
 ·exact h.elim
theorem z3y{c:Code}{s:St}{J' J:Exit→St→Prop}(h:V P c s J')(hJ:∀e s',J' e s'→J e s'∨∃s1,Le s1 s'∧J e s1):V P c s J:=by
 intro B w0 ok0 ok σ a w hR;refine wp_mono (h _ _ _ _ _ _ _ hR) ?_
 rintro e a' w' ⟨s',ok',σ',h1,hR'⟩;rcases hJ e s' h1 with h2|⟨s1,h2,h3⟩
 ·exact⟨s',ok',σ',h2,hR'⟩
 ·exact⟨s1,ok',σ',h3,hR'.le h2⟩
theorem zZm{β ρ:Type}(t:T P β)(k:β→Option ρ):(unpl P t).den k=t.den k:=by cases t<;>rfl
theorem z5G{β ρ:Type}(t:T P β)(k:β→Option ρ):(undn P t).den k=t.den k:=by cases t<;>rfl
theorem z26{β ρ:Type}{id:Nat}{K:Exit→T P β→List Nat→St→OT}{k:β→Option ρ}{r:ρ}{J:Exit→St→Prop}(hJ:∀e t' kn' s',(K e t' kn' s').holds→T.den t' k=some r→J e s'):
  ∀e t' kn' s',(bkK P id K e t' kn' s').holds→T.den t' k=some r→zFi id J e s':=fun e t' kn' s' hK ht'=>by
 unfold bkK at hK;split at hK
 ·rename_i i;simp only[zFi];cases hi:Nat.beq i id with
  |true=>rw[hi,zb]at hK;exact hJ _ _ _ _ hK ht'
  |false=>rw[hi,zc]at hK;exact hJ _ _ _ _ hK ht'
 ·rename_i hne;have:=hJ _ _ _ _ hK ht';cases e<;>first|exact absurd rfl (hne _)|exact this
theorem z6U{β ρ:Type}{g:T P β→St→(Exit→T P β→List Nat→St→OT)→OT}{c:Code}{k:β→Option ρ}{r:ρ}(hg:∀t s K,(g t s K).holds→t.den k=some r→∀J:Exit→St→Prop,(∀e t' kn' s',(K e t' kn' s').holds→T.den t' k=some r→J e s')→V P c s J):
  ∀(j:Nat)(t:T P β)(s:St)(K:Exit→T P β→List Nat→St→OT),(goR P g j t s K).holds→t.den k=some r→∀J:Exit→St→Prop,(∀e t' kn' s',(K e t' kn' s').holds→T.den t' k=some r→J e s')→VR P c j s J
 |0,_,_,_,h=>h.elim
 |j+1,t,s,K,h=>fun hd J hJ=>by
  refine VR_s (hg t s _ h hd _ fun e t' kn' s' hK ht'=>?_);split at hK
  ·exact z6U hg j t' s' K hK ht' J hJ
  ·rename_i hne;have:=hJ _ _ _ _ hK ht';cases e<;>first|exact absurd rfl hne|exact this
theorem zBW:∀(n:Nat){β:Type}(t:T P β)(kn:List Nat)(code:Code)(s:St)(K:Exit→T P β→List Nat→St→OT),(goV P n t kn code s K).holds→
  ∀{ρ:Type}(k:β→Option ρ)(r:ρ),t.den k=some r→∀J:Exit→St→Prop,(∀e t' kn' s',(K e t' kn' s').holds→T.den t' k=some r→J e s')→V P code s J
 |0,_,_,_,_,_,_,h=>h.elim
 |n+1,β,t,kn,code,s,K,h=>by
  intro k r hd J hJ;unfold goV at h;split at h
  ·cases hd
  ·rename_i H t';exact z7d h fun s' hs=>zBW n t' kn code s' K hs k r hd J hJ
  ·rename_i H t';exact z7d h fun s' hs=>zBW n t' kn code s' K hs k r hd J hJ
  ·rename_i v f;have hd:sI v (fun y=>(f y).den k)=some r:=hd;rw[zI]at hd;exact zBW n (f v) kn code s K h k r hd J hJ
  ·rename_i v f;exact zBW n (f v) kn code s K h k r hd J hJ
  ·rename_i m f;obtain⟨y,_,h2⟩:=zT (show m.bind (fun y=>(f y).den k)=some r from hd);exact zBW n (f y) kn code s K (h y) k r h2 J hJ
  ·rename_i t1 f;exact zBW n (sqT t1 f) kn code s K h k r (by rw[zXz];exact hd) J hJ
  ·-- ways that meet
   rename_i α t1 m ids S f;obtain⟨a,h1,h2⟩:=zT (show (t1.den some).bind (fun y=>(f y).den k)=some r from hd);split at h
   ·exact zEc (zBW n _ kn _ s _ h k r hd _ (z26 hJ))
   ·rename_i x y;refine zD7 (zBW n t1 kn x s _ h.1 some a h1 _ fun e t' kn' s' hK ht'=>?_);obtain⟨he,a',hs,ha⟩:=zYc hK ht';subst he;injection ha with ha;subst ha;exact z1L m ids hs (zBW n (f a') [] y _ K (h.2 a' _) k r h2 J hJ)
   ·refine z3y (zBW n t1 kn _ s _ h.1 some a h1 (fun e s'=>e=.normal∧s'.kp m ids=S s a s'.locs) fun e t' kn' s' hK ht'=>?_) fun e s' hh=>?_
    ·obtain⟨he,a',hs,ha⟩:=zYc hK ht';injection ha with ha;subst ha;exact⟨he,hs⟩
    ·obtain⟨he,hs⟩:=hh;subst he;exact .inr ⟨_,zXI m ids s',by rw[hs];exact hJ _ _ _ _ (h.2 a _) h2⟩
  ·-- the same,the plain function goes on
   rename_i α t1 m ids S f;have h1:t1.den (fun y=>(f y).den k)=some r:=hd;split at h
   ·exact zEc (zBW n _ kn _ s _ h k r hd _ (z26 hJ))
   ·rename_i x y;refine zD7 (zBW n t1 kn x s _ h.1 _ r h1 _ fun e t' kn' s' hK ht'=>?_);obtain⟨he,a',hs,ha⟩:=zYc hK ht';subst he;exact z1L m ids hs (zBW n (f a') [] y _ K (h.2 a' _) k r ha J hJ)
   ·refine z3y (zBW n t1 kn _ s _ h.1 _ r h1 (fun e s'=>e=.normal∧∃a,s'.kp m ids=S s a s'.locs∧(f a).den k=some r) fun e t' kn' s' hK ht'=>zYc hK ht') fun e s' hh=>?_
    obtain⟨he,a,hs,ha⟩:=hh;subst he;exact .inr ⟨_,zXI m ids s',by rw[hs];exact hJ _ _ _ _ (h.2 a _) ha⟩
  ·-- ways of which some return
   rename_i α γ t1 m ids S er f;obtain⟨q,h1,h2⟩:=zT (show (t1.den some).bind (fun q=>elS q (fun y=>(f y).den k) fun r=>k (er r))=some r from hd);split at h
   ·exact zEc (zBW n _ kn _ s _ h k r hd _ (z26 hJ))
   ·rename_i x y;refine zD7 (zBW n t1 kn x s _ h.1 some q h1 _ fun e t' kn' s' hK ht'=>?_);unfold mtKS at hK;split at hK
    ·rename_i a';injection ht' with ht';subst ht';exact z1L m ids hK.1 (zBW n (f a') [] y _ K (h.2 a' _) k r h2 J hJ)
    ·rename_i r';injection ht' with ht';subst ht';exact hJ _ _ _ _ hK h2
    ·rename_i i r';injection ht' with ht';subst ht';exact hJ _ _ _ _ hK h2
    ·exact hK.elim
   ·exact h.elim
  ·split at h
   ·exact zEl (hJ _ _ _ _ h (by rw[zZm];exact hd))
   ·exact zVC (hJ _ _ _ _ h hd)
   ·exact zEh (hJ _ _ _ _ h hd)
   ·exact z9C (hJ _ _ _ _ h hd)
   ·-- a choice
    rename_i c x y;split at h
    ·rename_i d b t1 t2 hq;rw[zTr hq k]at hd;obtain⟨ha,hb⟩:=zUV (β:=β) hd;exact zD4 h.1 (fun e=>zBW n t1 _ x _ K h.2.1 k r (ha e) J hJ) (fun e=>zBW n t2 _ y _ K h.2.2 k r (hb e) J hJ)
    ·have hd:(zQj P t kn (opT c)).1.den k=some r:=by rw[zPR];exact hd
     split at h;rename_i t2 kn2 hu;rw[hu]at hd;have hd:t2.den k=some r:=hd;split at h
     ·rename_i hc;exact zD4 hc (fun _=>zBW n t2 _ x s K h k r hd J hJ) (fun e=>by cases e)
     ·rename_i hc;exact zD4 hc (fun e=>by cases e) (fun _=>zBW n t2 _ y s K h k r hd J hJ)
     ·exact h.elim
   ·-- one after the other
    rename_i x y;refine zD7 (zBW n _ kn x s _ h k r (by rw[z5G];exact hd) _ fun e t' kn' s' hK ht'=>?_);unfold nxK at hK;split at hK
    ·exact zBW n t' [] y s' K hK k r ht' J hJ
    ·rename_i hne;have:=hJ _ _ _ _ hK ht';cases e<;>first|exact absurd rfl hne|exact this
   ·-- operations in the text's order
    rename_i id ops;exact zFo (zD3 n _ [] ops ops.toList s _ h k r (by rw[zZm];exact hd) (J .normal) fun t' kn' s' hK ht'=>hJ _ _ _ _ hK ht')
   ·-- operations whose order is open
    rename_i id ops;have eo:ops.toList.toArray=ops:=by simp
    split at h
    ·obtain⟨hc,h⟩:=h;rw[zk]at hc;rw[←eo];refine z7f _ _ _ hc.1 (by simpa using hc.2) ?_
     simp only[eo]at h ⊢;refine zGc n _ [] ops.toList _ _ _ _ [] _ h k r hd _ fun t'' s' hK ht''=>?_
     exact zD3 n t'' [] ops _ s' _ hK k r ht'' (J .normal) fun t3 kn3 s3 hK3 ht3=>hJ _ _ _ _ hK3 ht3
    ·obtain⟨t'',ds,g1,g2,g3⟩:=zHW 100000 _ _ [] [] _ h (fun d hd=>by cases hd) k r hd;obtain⟨hc,h⟩:=g3;simp only[zk]at hc;obtain⟨tab,h1,h2⟩:=z3r _ _ h;split at h1
     ·rename_i s1 hs1;have:=z9D (id:=id) (J:=J) (s:=s) (Nat.le_of_ble_eq_true hc.2.2.1) hc.1 hc.2.1 g1 h1.1 hs1 h1.2 (h2 _ rfl (z5n hc.2.2.2)) fun s' hs=>hJ _ _ _ _ hs g2;rw[eo]at this;exact this
     ·exact h1.elim
    ·obtain⟨t'',ds,g1,g2,g3⟩:=zHW 100000 _ _ [] [] _ h (fun d hd=>by cases hd) k r hd;obtain⟨hc,h⟩:=g3;rw[zk]at hc;have:=z9E (id:=id) (J:=J) hc.1 hc.2 g1 h fun s' hs=>hJ _ _ _ _ hs g2;rw[eo]at this;exact this
    ·exact h.elim
   ·-- rounds,one by one
    split at h
    ·exact z7b _ (z6U (fun t s K hg hd J hJ=>zBW n t [] _ s K hg k r hd J hJ) _ _ s K h hd J hJ)
    ·exact h.elim
   ·-- a block
    rename_i id body;split at h
    ·rename_i c ι o L x m ids S bt mo ido So f _ _ _ _ _ _ _ _ _ _;obtain⟨y0,h1,h2⟩:=zT (show (L FU x).bind (fun y=>(f y).den k)=some r from hd);obtain⟨hL0,hLs,h0,hb,hf⟩:=h;refine zEc (z3y (J':=fun e s'=>e=.exit id∧s'.kp mo ido=So s y0 s'.locs) ?_ fun e s' hh=>?_)
     ·refine zVB (fun n s'=>∃x' γ,s'.kp m ids=S s x' γ∧L n x'=some y0) FU ⟨x,s.locs,h0,h1⟩ ?_
      rintro n' s' ⟨x',γ,hs,hl⟩;cases n' with
      |zero=>rw[show L 0 x'=none from congrFun hL0 x']at hl;cases hl
      |succ n'=>
       rw[show L (n'+1) x'=(bt x').den (lk L n') from congrFun (congrFun hLs n') x']at hl;refine z1L m ids hs (zBW n (bt x') [] c _ _ (hb x' γ) _ y0 hl _ fun e t' kn' s2 hK ht'=>?_);unfold lpK at hK;split at hK
       ·rename_i x2;exact⟨n',Nat.lt_succ_self n',x2,_,hK.1,ht'⟩
       ·rename_i i y;cases hi:Nat.beq i id with
        |true=>rw[hi,zb]at hK;have:i=id:=Nat.eq_of_beq_eq_true hi;subst this;injection ht' with ht';subst ht';exact⟨rfl,hK.1⟩
        |false=>rw[hi,zc]at hK;exact hK.elim
       ·exact hK.elim
     ·obtain⟨he,hs⟩:=hh;subst he;refine .inr ⟨_,zXI mo ido s',?_⟩;simp only[zFi,Nat.beq_refl,zb];rw[hs];exact hJ _ _ _ _ (hf y0 _) h2
    ·rename_i c ι o γ' L x m ids S bt mo ido So er f _ _ _ _ _ _ _ _ _ _;obtain⟨q,h1,h2⟩:=zT (show (L FU x).bind (fun q=>elS q (fun y=>(f y).den k) fun r=>k (er r))=some r from hd);obtain⟨hL0,hLs,h0,hb,hf⟩:=h;refine zEc (z3y (J':=fun e s'=>(∃y0,q=.inl y0∧e=.exit id∧s'.kp mo ido=So s y0 s'.locs)∨(∃r',q=.inr r'∧zFi id J e s')) ?_ fun e s' hh=>?_)
     ·refine zVB (fun n s'=>∃x' γ,s'.kp m ids=S s x' γ∧L n x'=some q) FU ⟨x,s.locs,h0,h1⟩ ?_
      rintro n' s' ⟨x',γ,hs,hl⟩;cases n' with
      |zero=>rw[show L 0 x'=none from congrFun hL0 x']at hl;cases hl
      |succ n'=>
       rw[show L (n'+1) x'=(bt x').den (lkS L n') from congrFun (congrFun hLs n') x']at hl;refine z1L m ids hs (zBW n (bt x') [] c _ _ (hb x' γ) _ q hl _ fun e t' kn' s2 hK ht'=>?_);unfold lpKS at hK;split at hK
       ·rename_i x2;exact⟨n',Nat.lt_succ_self n',x2,_,hK.1,ht'⟩
       ·rename_i i y;cases hi:Nat.beq i id with
        |true=>rw[hi,zb]at hK;have:i=id:=Nat.eq_of_beq_eq_true hi;subst this;injection ht' with ht';subst ht';exact .inl ⟨_,rfl,rfl,hK.1⟩
        |false=>rw[hi,zc]at hK;exact hK.elim
       ·rename_i r';injection ht' with ht';subst ht';exact .inr ⟨r',rfl,hJ _ _ _ _ hK h2⟩
       ·rename_i i r';injection ht' with ht';subst ht';cases hi:Nat.beq i id with
        |true=>rw[hi,zb]at hK;exact hK.elim
        |false=>rw[hi,zc]at hK;refine .inr ⟨r',rfl,?_⟩;simp only[zFi,hi,zc];exact hJ _ _ _ _ hK h2
       ·exact hK.elim
     ·rcases hh with⟨y0,hq,he,hs⟩|⟨r',_,hj⟩
      ·subst he hq;refine .inr ⟨_,zXI mo ido s',?_⟩;simp only[zFi,Nat.beq_refl,zb];rw[hs];exact hJ _ _ _ _ (hf y0 _) h2
      ·exact .inl hj
    ·refine zEc (zBW n t kn _ s _ h k r hd _ fun e t' kn' s' hK ht'=>?_);unfold bkK at hK;split at hK
     ·rename_i i;simp only[zFi];cases hi:Nat.beq i id with
      |true=>rw[hi,zb]at hK;exact hJ _ _ _ _ hK ht'
      |false=>rw[hi,zc]at hK;exact hJ _ _ _ _ hK ht'
     ·rename_i hne;have:=hJ _ _ _ _ hK ht';cases e<;>first|exact absurd rfl (hne _)|exact this
   ·exact h.elim
end
section
variable {P:Program}
def KF{β:Type}(rs:List RS)(enc:β→AV×List (Nat×Ent)):Exit→T P β→List Nat→St→OT:=fun e t' _ s'=>match e,t' with
 | .normal,.ret y=>.eq (zDh (zHf s' rs)&&okSL s' rs) true (.eq (zS2 s' rs) (enc y) .ok)
 | .ret,.ret y=>.eq (zDh (zHf s' rs)&&okSL s' rs) true (.eq (zS2 s' rs) (enc y) .ok)
 |_,.fail=>.ok
 |_,_=>.bad
theorem z7l{β:Type}{rs:List RS}{enc:β→AV×List (Nat×Ent)}{e:Exit}{t':T P β}{kn:List Nat}{s':St}{r:β}(h:(KF rs enc e t' kn s').holds)(hd:t'.den some=some r):Post rs (enc r).1 (enc r).2 e s':=by
 unfold KF at h;split at h
 ·rename_i y;injection hd with hd;subst hd;obtain⟨h1,h2,_⟩:=h;rw[zk]at h1;exact⟨.inl rfl,h1.1,h1.2,h2⟩
 ·rename_i y;injection hd with hd;subst hd;obtain⟨h1,h2,_⟩:=h;rw[zk]at h1;exact⟨.inr rfl,h1.1,h1.2,h2⟩
 ·cases hd
 ·exact h.elim
def OF(P:Program){β:Type}(t:T P β)(o:Option β)(c:Code)(s:St)(rs:List RS)(enc:β→AV×List (Nat×Ent)):OT:=.eq o (t.den some) (goV P 100000 t [] c s (KF rs enc))
theorem CtT{β:Type}(t:T P β){f:FuncId}{fn:Func}{c:Code}{args:List AV}{o:Option β}{r:β}(enc:β→AV×List (Nat×Ent)){rs:List RS}{vs:List ResultVar}(hf:P.funcs[f]?=some fn)(hb:fn.body=some c)(hvs:fn.results=vs.toArray)(hfit:FitsL P rs vs)(h:o=some r)
  (hO:OF P t o c ⟨args++List.replicate (fn.ntmps - args.length) .bot,[]⟩ rs enc=(OF P t o c ⟨args++List.replicate (fn.ntmps - args.length) .bot,[]⟩ rs enc).rf:=by kernel_rfl) (hl:Nat.ble rs.length 8=true:=by kernel_rfl):zC P f args (enc r).1 (enc r).2:=by
 obtain⟨h1,h2⟩:=OT.of_rf _ hO;rw[h1]at h;exact zAl hf hb hvs hfit (Nat.le_of_ble_eq_true hl) fn.ntmps rfl (zBW 100000 t [] c _ _ h2 some r h _ fun e t' kn' s' hK ht=>z7l hK ht)
def fC{α:Type}{f:FuncId}(hcf:CfW P f)(m:Option α){args:List AV}{av:α→AV}{ne:α→List (Nat×Ent)}(hS:∀y,m=some y→zC P f args (av y) (ne y)):F1 P α where
 m:=m
 chk o s:=match o.op with
  | .call ⟨.value (.func g),xs,_⟩=>.eq (Nat.beq g f) true (.eq (evL s xs.toList) args .ok)
  |_=>.bad
 av _ _:=av
 ne _ _:=ne
 ok o s y hm h:=by
  split at h
  ·rename_i g xs ts ho;obtain⟨h1,h2,_⟩:=h;have hgf:=Nat.eq_of_beq_eq_true h1;subst hgf;exact zC2 (hS y hm) hcf ho h2
  ·exact h.elim
def remF(k:IntKind)(a b:Int):F0 P Unit where
 m:=nz b
 chk o s:=match o.op with
  | .binOp .rem _ x y _=>.eq (s.ev x) (.c (.v (.int k a))) (.eq (s.ev y) (.c (.v (.int k b))) .ok)
  |_=>.bad
 av _ _ _:=.c (.v (.int k (Int.tmod a b)))
 ok o s y hm h:=by
  split at h
  ·rename_i ho;obtain⟨h1,h2,_⟩:=h;exact z2b ho h1 h2 (zS3 hm)
  ·exact h.elim
end
structure CT (α:Type) where
  c:α→List Tr
  sz:Nat
  hc:∀v,(c v).length=sz
section
variable (P:Program)
def zv2(s:St):Op→Option AV
 | .binOp op t x y _=>(match s.ev x,s.ev y with
  | .c (.v (.int k a)),.c (.v (.int k2 b))=>(match decEq k k2 with
   |isTrue _=>(match op with
    | .add=>some (.c (.v (.int k (k.wrap (a+b)))))
    | .sub=>some (.c (.v (.int k (k.wrap (a - b)))))
    | .mul=>some (.c (.v (.int k (k.wrap (a*b)))))
    | .and=>some (.c (.v (.int k (andI k a b))))
    | .or=>some (.c (.v (.int k (orI k a b))))
    | .xor=>some (.c (.v (.int k (xorI k a b))))
    |_=>none)
   |isFalse _=>none)
  | .c (.v (.string a)),.c (.v (.string b))=>(match op with
   | .lss=>some (.c (.v (.bool (Op.bytesLess a.toList b.toList))))
   | .geq=>some (.c (.v (.bool (!(Op.bytesLess a.toList b.toList)))))
   |_=>none)
  |_,_=>none)
 | .unOp .neg t x=>(match s.ev x with
  | .c (.v (.int k a))=>some (.c (.v (.int k (k.wrap (0 - a)))))
  |_=>none)
 | .convert src dst x=>(match P.underlying src,P.underlying dst,s.ev x with
  |some (.int k2),some (.int k),.c (.v (.int k3 a))=>(match decEq k3 k2 with
   |isTrue _=>some (.c (.v (.int k (k.wrap a))))
   |isFalse _=>none)
  |_,_,_=>none)
 | .call ⟨.builtin .max,⟨[x,y]⟩,_⟩=>(match s.ev x,s.ev y with
  | .c (.v (.int .i64 a)),.c (.v (.int .i64 b))=>some (I (mxI a b))
  |_,_=>none)
 | .call ⟨.builtin .min,⟨[x,y]⟩,_⟩=>(match s.ev x,s.ev y with
  | .c (.v (.int .i64 a)),.c (.v (.int .i64 b))=>some (I (mnI a b))
  |_,_=>none)
 | .nilCheck x=>(match (s.ev x).adv 0 with
  | .bot=>none
  |_=>some (s.ev x))
 |_=>none
end
section
variable {P:Program}
theorem z4s{o:Oper}{s:St}{av:AV}(h:zv2 P s o.op=some av):Y0 P o s av:=by
 unfold zv2 at h;split at h
 ·rename_i ho;split at h
  ·rename_i hx hy;split at h
   ·rename_i hk _;subst hk;split at h<;>first|(cases h;done)|skip
    ·cases h;exact z7Z ho hx hy
    ·cases h;exact z7O ho hx hy
    ·cases h;exact z7V ho hx hy
    ·cases h;exact qBZ ho hx hy
    ·cases h;exact Y0_or ho hx hy
    ·cases h;exact qBJ ho hx hy
   ·cases h
  ·rename_i hx hy;split at h
   ·cases h;exact qBQ ho hx hy
   ·cases h;exact qBW ho hx hy
   ·cases h
  ·cases h
 ·rename_i ho;split at h
  ·rename_i hx;cases h;exact z7T ho hx
  ·cases h
 ·rename_i ho;split at h
  ·rename_i hs hd hx;split at h
   ·rename_i hk _;subst hk;cases h;exact zZ0 hs hd ho hx
   ·cases h
  ·cases h
 ·rename_i ho;split at h
  ·rename_i hx hy;cases h;exact qBP ho hx hy
  ·cases h
 ·rename_i ho;split at h
  ·rename_i hx hy;cases h;exact qBO ho hx hy
  ·cases h
 ·rename_i ho;split at h
  ·cases h
  ·rename_i hb;cases h;exact z4E _ ho rfl hb
 ·cases h
def au:N0 P where
 chk o s:=.eq (zv2 P s o.op).isSome true .ok
 av o s:=(zv2 P s o.op).getD .bot
 ok o s h:=by obtain⟨av,hv⟩:=Option.isSome_iff_exists.mp h.1;rw[hv];exact z4s hv
theorem z2S{b:Int}(h:eqI b 0=false):b≠0:=zS3 (u:=()) (by unfold nz;rw[h];rfl)
def dvN:N0 P where
 chk o s:=match o.op with
  | .binOp op _ x y _=>(match s.ev x,s.ev y with
   | .c (.v (.int k a)),.c (.v (.int k2 b))=>(match op with
    | .quo=>.eq k k2 (.eq (eqI b 0) false .ok)
    | .rem=>.eq k k2 (.eq (eqI b 0) false .ok)
    | .shr=>.eq (decide (b<0)) false .ok
    | .shl=>.eq (decide (b<0)) false .ok
    |_=>.bad)
   |_,_=>.bad)
  |_=>.bad
 av o s:=match o.op with
  | .binOp op _ x y _=>(match s.ev x,s.ev y with
   | .c (.v (.int k a)),.c (.v (.int k2 b))=>(match op with
    | .quo=>(match k with
     | .i64=>I (w64 (a.tdiv b))
     |k=>.c (.v (.int k (k.wrap (a.tdiv b)))))
    | .rem=>.c (.v (.int k (a.tmod b)))
    | .shr=>.c (.v (.int k (shrI k a b)))
    | .shl=>.c (.v (.int k (shlI k a b)))
    |_=>.bot)
   |_,_=>.bot)
  |_=>.bot
 ok o s h:=by
  split at h
  ·rename_i op t x y t2 ho
   try simp only[ho]
   split at h
   ·rename_i k a k2 b hx hy
    try simp only[hx,hy]
    split at h
    ·obtain⟨hk,h0,_⟩:=h;subst hk;split
     ·exact zUx ho hx hy (z2S h0)
     ·exact z2c ho hx hy (z2S h0)
    ·obtain⟨hk,h0,_⟩:=h;subst hk;exact z2b ho hx hy (z2S h0)
    ·exact qBK ho hx hy (by simpa using h.1)
    ·exact qBL ho hx hy (by simpa using h.1)
    ·exact h.elim
   ·exact h.elim
  ·exact h.elim
def quoF(k:IntKind)(a b:Int):F0 P Unit where
 m:=nz b
 chk o s:=match o.op with
  | .binOp .quo _ x y _=>.eq (s.ev x) (.c (.v (.int k a))) (.eq (s.ev y) (.c (.v (.int k b))) .ok)
  |_=>.bad
 av _ _ _:=match k with
  | .i64=>I (w64 (a.tdiv b))
  |k=>.c (.v (.int k (k.wrap (a.tdiv b))))
 ok o s y hm h:=by
  split at h
  ·rename_i ho;obtain⟨h1,h2,_⟩:=h;split
   ·exact zUx ho h1 h2 (zS3 hm)
   ·exact z2c ho h1 h2 (zS3 hm)
  ·exact h.elim
def bld{t0:TypeId}{z:Array Value}(place:Nat→Option (Nat×Nat))(hb:∀ps,P.built t0 ps=Instr.fill place z ps):N0 P where
 chk o s:=match o.op with
  | .build t parts=>.eq (Nat.beq t t0&&(zFl z&&(zQw place (z.toList.map Tr.v) (evP s parts.toList)).isSome)) true .ok
  |_=>.bad
 av o s:=match o.op with
  | .build t parts=>.ag ((zQw place (z.toList.map Tr.v) (evP s parts.toList)).getD [])
  |_=>.bot
 ok o s h:=by
  split at h
  ·rename_i t parts ho
   try simp only[ho]
   have h:=h.1;rw[zk,zk]at h;have ht:=Nat.eq_of_beq_eq_true h.1;subst ht;obtain⟨cs,hcs⟩:=Option.isSome_iff_exists.mp h.2.2;rw[hcs];exact zH3 place hb ho h.2.1 hcs
  ·exact h.elim
def eqg2{t0:TypeId}(h1:z7m P .eql t0):N0 P where
 chk o s:=match o.op with
  | .binOp .eql t x y _=>.eq t t0 (match s.ev x,s.ev y with
   | .ag [.v (.int .i64 a0),.v (.int .i64 a1)],.ag [.v (.int .i64 b0),.v (.int .i64 b1)]=>.ok
   |_,_=>.bad)
  |_=>.bad
 av o s:=match o.op with
  | .binOp .eql t x y _=>(match s.ev x,s.ev y with
   | .ag [.v (.int .i64 a0),.v (.int .i64 a1)],.ag [.v (.int .i64 b0),.v (.int .i64 b1)]=>Bo (((a0==b0)&&(a1==b1)))
   |_,_=>.bot)
  |_=>.bot
 ok o s h:=by
  split at h
  ·rename_i ho;obtain⟨ht,h⟩:=h;subst ht
   try simp only[ho]
   split at h
   ·rename_i hx hy;(try simp only[hx,hy]);exact z8v h1 ho hx hy
   ·exact h.elim
  ·exact h.elim
def eqg3{t0:TypeId}(h1:zX7 P .eql t0):N0 P where
 chk o s:=match o.op with
  | .binOp .eql t x y _=>.eq t t0 (match s.ev x,s.ev y with
   | .ag [.v (.int .i64 a0),.v (.int .i64 a1),.v (.int .i64 a2)],.ag [.v (.int .i64 b0),.v (.int .i64 b1),.v (.int .i64 b2)]=>.ok
   |_,_=>.bad)
  |_=>.bad
 av o s:=match o.op with
  | .binOp .eql t x y _=>(match s.ev x,s.ev y with
   | .ag [.v (.int .i64 a0),.v (.int .i64 a1),.v (.int .i64 a2)],.ag [.v (.int .i64 b0),.v (.int .i64 b1),.v (.int .i64 b2)]=>Bo (((a0==b0)&&((a1==b1)&&(a2==b2))))
   |_,_=>.bot)
  |_=>.bot
 ok o s h:=by
  split at h
  ·rename_i ho;obtain⟨ht,h⟩:=h;subst ht
   try simp only[ho]
   split at h
   ·rename_i hx hy;(try simp only[hx,hy]);exact z8u h1 ho hx hy
   ·exact h.elim
  ·exact h.elim
def neg3{t0:TypeId}(h1:zX7 P .neq t0):N0 P where
 chk o s:=match o.op with
  | .binOp .neq t x y _=>.eq t t0 (match s.ev x,s.ev y with
   | .ag [.v (.int .i64 a0),.v (.int .i64 a1),.v (.int .i64 a2)],.ag [.v (.int .i64 b0),.v (.int .i64 b1),.v (.int .i64 b2)]=>.ok
   |_,_=>.bad)
  |_=>.bad
 av o s:=match o.op with
  | .binOp .neq t x y _=>(match s.ev x,s.ev y with
   | .ag [.v (.int .i64 a0),.v (.int .i64 a1),.v (.int .i64 a2)],.ag [.v (.int .i64 b0),.v (.int .i64 b1),.v (.int .i64 b2)]=>Bo (!((a0==b0)&&((a1==b1)&&(a2==b2))))
   |_,_=>.bot)
  |_=>.bot
 ok o s h:=by
  split at h
  ·rename_i ho;obtain⟨ht,h⟩:=h;subst ht
   try simp only[ho]
   split at h
   ·rename_i hx hy;(try simp only[hx,hy]);exact z8q h1 ho hx hy
   ·exact h.elim
  ·exact h.elim
def lenM{α:Type}(d:CT α)(xs:List α):N0 P where
 chk o s:=match o.op with
  | .call ⟨.builtin .len,⟨[x]⟩,⟨[t]⟩⟩=>(match P.underlying t with
   |some (.slice _)=>.eq (zBp s (s.ev x)) (some (xs.map d.c)) .ok
   |_=>.bad)
  |_=>.bad
 av _ _:=I (xs.length:Int)
 ok o s h:=by
  split at h
  ·rename_i ho;split at h
   ·rename_i hu;exact zLH hu ho h.1
   ·exact h.elim
  ·exact h.elim
def idxM{α:Type}(d:CT α)(xs:List α)(n:Int):F0 P α where
 m:=getI xs n
 chk o s:=match o.op with
  | .indexAddr t x ix=>(match P.underlying t with
   |some (.slice e)=>.eq ((P.info? e).map (·.size)) (some d.sz) (.eq (s.ev x) (.c (.sl (xs.map d.c))) (.eq (s.ev ix) (.c (.v (.int .i64 n))) .ok))
   |_=>.bad)
  |_=>.bad
 av _ _ y:=.pe (d.c y)
 ok o s y hm h:=by
  split at h
  ·rename_i ho;split at h
   ·rename_i hu;obtain⟨h1,h2,h3,_⟩:=h;exact zSf hu (by rw[h1,d.hc]) ho h2 h3 hm
   ·exact h.elim
  ·exact h.elim
def zBF{α:Type}(d:CT α)(xs:List α)(n:Int):F0 P α where
 m:=getI xs n
 chk o s:=match o.op with
  | .indexAddr t x ix=>(match P.underlying t,s.ev x with
   |some (.slice e),.ow id=>(match s.entc id with
    |some (.arr _ sz els)=>.eq ((P.info? e).map (·.size)) (some sz) (.eq els (xs.map d.c) (.eq (s.ev ix) (.c (.v (.int .i64 n))) .ok))
    |_=>.bad)
   |_,_=>.bad)
  |_=>.bad
 av o s _:=match o.op with
  | .indexAddr t x ix=>(match s.ev x with
   | .ow id=>(match s.entc id with
    |some (.arr _ sz _)=>.po id sz n.toNat 0
    |_=>.bot)
   |_=>.bot)
  |_=>.bot
 ok o s y hm h:=by
  split at h
  ·rename_i ho
   try simp only[ho]
   split at h
   ·rename_i hu hx
    try simp only[hx]
    split at h
    ·rename_i he;obtain⟨h1,h2,h3,_⟩:=h;subst h2
     try simp only[he]
     exact zUz hu h1 ho hx he h3 hm
    ·exact h.elim
   ·exact h.elim
  ·exact h.elim
def ldo{α:Type}(d:CT α)(xs:List α)(n:Int):F0 P α where
 m:=getI xs n
 chk o s:=match o.op with
  | .load t x=>(match P.underlying t,s.ev x with
   |some D,.po id sz i off=>(match s.entc id with
    |some (.arr _ sz2 els)=>.eq i n.toNat (.eq sz2 sz (.eq els (xs.map d.c) (bif aggD D then (match zEf P t with
     |some k=>.eq (Nat.ble (off+k) d.sz) true .ok
     |none=>.bad) else .eq (Nat.blt off d.sz) true .ok)))
    |_=>.bad)
   |_,_=>.bad)
  |_=>.bad
 av o s y:=match o.op with
  | .load t x=>(match P.underlying t,s.ev x with
   |some D,.po id sz i off=>bif aggD D then .ag (((d.c y).drop off).take ((zEf P t).getD 0)) else (match (d.c y).drop off with
    |c::_=>.c c
    |[]=>.bot)
   |_,_=>.bot)
  |_=>.bot
 ok o s y hm h:=by
  split at h
  ·rename_i ho
   try simp only[ho]
   split at h
   ·rename_i D id sz i off hu hx
    try simp only[hu,hx]
    split at h
    ·rename_i he;obtain⟨h1,h2,h3,h4⟩:=h;subst h1 h2 h3;have hlen:=d.hc y;cases hD:aggD D with
     |true=>
      rw[hD,zb]at h4;simp only[zb];split at h4
      ·rename_i k hk;rw[hk];exact z7o _ ⟨⟨D,hu,hD⟩,hk⟩ ho hx he hm (by rw[List.length_drop,hlen];have:=Nat.le_of_ble_eq_true h4.1;omega) rfl
      ·exact h4.elim
     |false=>
      rw[hD,zc]at h4;simp only[zc];split
      ·rename_i c cs hcs;exact zQ8 ⟨D,hu,hD⟩ ho hx he hm hcs
      ·rename_i hcs;have h5:Nat.blt off d.sz=true:=h4.1;have h6:=congrArg List.length hcs;rw[List.length_drop,hlen]at h6;have h7:=Nat.le_of_ble_eq_true h5;simp at h6;omega
    ·exact h.elim
   ·exact h.elim
  ·exact h.elim
def idxs(b:qf)(n:Int):F0 P Int where
 m:=getB b n
 chk o s:=match o.op with
  | .index t x i=>(match P.underlying t,s.ev i with
   |some .string,.c (.v (.int k n2))=>.eq (s.ev x) (.c (.v (.string b))) (.eq n2 n .ok)
   |_,_=>.bad)
  |_=>.bad
 av _ _ y:=.c (.v (.int .u8 y))
 ok o s y hm h:=by
  split at h
  ·rename_i ho;split at h
   ·rename_i hu hi;obtain⟨h1,h2,_⟩:=h;subst h2;exact zZZ hu ho h1 hi hm
   ·exact h.elim
  ·exact h.elim
def cat(a b:qf):F0 P Unit where
 m:=catR a b
 chk o s:=match o.op with
  | .binOp .add _ x y _=>.eq (s.ev x) (.c (.v (.string a))) (.eq (s.ev y) (.c (.v (.string b))) .ok)
  |_=>.bad
 av _ _ _:=.c (.v (.string (a++b)))
 ok o s y hm h:=by
  split at h
  ·rename_i ho;exact z2g ho h.1 h.2.1 (zQ3 hm)
  ·exact h.elim
def bdO(s:St)(x:Option Operand)(l l0:Int):OT:=match x with
 |none=>.eq l l0 .ok
 |some y=>(match s.ev y with
  | .c (.v (.int _ a))=>.eq a l .ok
  |_=>.bad)
theorem zK6{s:St}{x:Option Operand}{l l0:Int}(h:(bdO s x l l0).holds):(∀y,x=some y→∃k,s.ev y=.c (.v (.int k l)))∧(x=none→l=l0):=by
 unfold bdO at h;split at h
 ·exact⟨fun y hy=>(by cases hy),fun _=>h.1⟩
 ·split at h
  ·rename_i k a ha;have h:=h.1;subst h;exact⟨fun y hy=>(by injection hy with hy;subst hy;exact⟨k,ha⟩),fun hh=>(by cases hh)⟩
  ·exact h.elim
def zEJ(b:qf)(l h:Int):F0 P Unit where
 m:=slc b.size l h
 chk o s:=match o.op with
  | .slice t x lo hi none=>(match P.underlying t with
   |some .string=>.eq (s.ev x) (.c (.v (.string b))) (.and (bdO s lo l 0) (bdO s hi h (b.size:Int)))
   |_=>.bad)
  |_=>.bad
 av _ _ _:=.c (.v (.string (b.extract l.toNat h.toNat)))
 ok o s y hm hh:=by
  split at hh
  ·rename_i ho;split at hh
   ·rename_i hu;obtain⟨h1,h2,h3⟩:=hh;exact zX3 hu ho h1 (zK6 h2).1 (zK6 h2).2 (zK6 h3).1 (zK6 h3).2 (zJi hm)
   ·exact hh.elim
  ·exact hh.elim
def slice{α:Type}(d:CT α)(xs:List α)(l h:Int):F0 P Unit where
 m:=slc xs.length l h
 chk o s:=match o.op with
  | .slice t x lo hi none=>(match P.underlying t with
   |some (.slice e)=>.eq ((P.info? e).map (·.size)) (some d.sz) (.eq (s.ev x) (.c (.sl (xs.map d.c))) (.and (bdO s lo l 0) (bdO s hi h (xs.length:Int))))
   |_=>.bad)
  |_=>.bad
 av _ _ _:=.c (.sl ((subl xs l h).map d.c))
 ok o s y hm hh:=by
  split at hh
  ·rename_i ho;split at hh
   ·rename_i hu;obtain⟨h0,h1,h2,h3⟩:=hh;exact z1F hu h0 d.hc ho h1 (zK6 h2).1 (zK6 h2).2 (zK6 h3).1 (zK6 h3).2 (zJi hm)
   ·exact hh.elim
  ·exact hh.elim
end
section
variable {P:Program}
def nilN(e sz:Nat)(hz:0<sz):N1 P where
 chk o _:=match o.op with
  | .assign (.const (.slice none 0 0))=>.ok
  | .move (.const (.slice none 0 0))=>.ok
  |_=>.bad
 av _ _:=.ow 0
 ne _ _:=[(0,.arr e sz [])]
 ok o s h:=by
  split at h
  ·rename_i ho;exact z2a sz hz (.inl ho)
  ·rename_i ho;exact z2a sz hz (.inr ho)
  ·exact h.elim
def bsl:N1 P where
 chk o s:=match o.op with
  | .buildSlice t n parts=>(match P.underlying t with
   |some (.slice e)=>(match P.info? e with
    |some i=>(match i.zero,zHS 0 (evP s parts.toList) with
     |some z,some els=>.eq (zFl z.cells&&(Nat.blt 0 i.size&&(Nat.beq els.length n&&(els.all (fun e=>Nat.beq e.length i.size)&&(Nat.ble (n*i.size) 16777216&&Nat.blt 0 n))))) true .ok
     |_,_=>.bad)
    |none=>.bad)
   |_=>.bad)
  |_=>.bad
 av _ _:=.ow 0
 ne o s:=match o.op with
  | .buildSlice t n parts=>(match P.underlying t with
   |some (.slice e)=>[(0,.arr e ((zEf P e).getD 0) ((zHS 0 (evP s parts.toList)).getD []))]
   |_=>[])
  |_=>[]
 ok o s h:=by
  split at h
  ·rename_i t n parts ho;split at h
   ·rename_i e hu;split at h
    ·rename_i i hi;split at h
     ·rename_i z els hz hp;have h:=h.1;simp only[zk]at h;obtain⟨h1,h2,h3,h4,h5,h6⟩:=h;have hn:=Nat.eq_of_beq_eq_true h3;simp only[hu,hp,zEf,hi,Option.map_some,Option.getD_some];refine zHH hu (by rw[hi];simp only[Option.map_some,hz]) h1 (Nat.le_of_ble_eq_true h2) ho hp hn (fun e he=>?_) (Nat.le_of_ble_eq_true h5) (Nat.le_of_ble_eq_true h6);exact Nat.eq_of_beq_eq_true (List.all_eq_true.mp h4 e he)
     ·exact h.elim
    ·exact h.elim
   ·exact h.elim
  ·exact h.elim
def bsl0:N1 P where
 chk o s:=match o.op with
  | .buildSlice t 0 ⟨[]⟩=>(match P.underlying t with
   |some (.slice e)=>(match P.info? e with
    |some i=>.eq (Nat.blt 0 i.size) true .ok
    |none=>.bad)
   |_=>.bad)
  |_=>.bad
 av _ _:=.ow 0
 ne o s:=match o.op with
  | .buildSlice t _ _=>(match P.underlying t with
   |some (.slice e)=>[(0,.arr e ((zEf P e).getD 0) [])]
   |_=>[])
  |_=>[]
 ok o s h:=by
  split at h
  ·rename_i t ho;split at h
   ·rename_i e hu;split at h
    ·rename_i i hi;simp only[ho,hu,zEf,hi,Option.map_some,Option.getD_some];exact zN0 hu (by rw[hi];rfl) (Nat.le_of_ble_eq_true h.1) ho rfl
    ·exact h.elim
   ·exact h.elim
  ·exact h.elim
def fCs{α:Type}{f:FuncId}(hcf:CfW P f)(m:Option α){args:List AV}{av:α→AV}{ne:α→List (Nat×Ent)}(hS:∀y,m=some y→zC P f args (av y) (ne y))(hfl:∀y,zQu (ne y)=true):F1 P α where
 m:=m
 chk o s:=match o.op with
  | .call ⟨.value (.func g),xs,_⟩=>.eq (Nat.beq g f) true (.eq (evS s xs.toList) args (.all fun y=>.eq (av y).flat true .ok))
  |_=>.bad
 av _ _:=av
 ne _ _:=ne
 ok o s y hm h:=by
  split at h
  ·rename_i g xs ts ho;obtain⟨h1,h2,h3⟩:=h;have hgf:=Nat.eq_of_beq_eq_true h1;subst hgf;exact z1E (hS y hm) hcf ho h2 (h3 y).1 (hfl y)
  ·exact h.elim
def app{α:Type}(d:CT α)(xs ys:List α):FX P Unit where
 m:=room (xs.length+ys.length)
 run o s _ K:=match o.op,o.dst with
  | .call ⟨.builtin .append,⟨[x,y]⟩,⟨[t,t2]⟩⟩,some k=>(match P.underlying t,s.ev x with
   |some (.slice e),.ow id=>(match s.ent id,P.info? e with
    |some (.arr e2 sz els),some i=>(match i.zero with
     |some z=>.eq t2 t (.eq e2 e (.eq sz d.sz (.eq i.size d.sz (.eq els (xs.map d.c) (.eq (zBp s (s.ev y)) (some (ys.map d.c)) (.eq (Nat.beq z.cells.size d.sz&&Nat.ble i.bytes 128) true
       (K ⟨(zBs id s.T).set k (.ow id),setE id (.arr e d.sz ((xs++ys).map d.c)) s.E⟩)))))))
     |none=>.bad)
    |_,_=>.bad)
   |_,_=>.bad)
  |_,_=>.bad
 post _ o s _:=match o.op,o.dst with
  | .call ⟨_,⟨[x,_]⟩,_⟩,some k=>(match s.ev x with
   | .ow id=>(match s.ent id with
    |some (.arr e sz _)=>some ⟨(zBs id s.T).set k (.ow id),setE id (.arr e sz ((xs++ys).map d.c)) s.E⟩
    |_=>none)
   |_=>none)
  |_,_=>none
 ok o s K y hm h:=by
  split at h
  ·rename_i x y t t2 k ho hd;split at h
   ·rename_i e id hu hx;split at h
    ·rename_i e2 sz els i he hi;split at h
     ·rename_i z hz;obtain⟨h1,h2,h3,h4,h5,h6,h7,h8⟩:=h;subst h1 h2 h3 h5;rw[zk]at h7;exact zEa (z4l ho hd hu (by rw[hi];simp only[Option.map_some,hz,h4]) (Nat.eq_of_beq_eq_true h7.1) hx he h6 d.hc (zKn hm) (Nat.le_of_ble_eq_true h7.2)) h8
     ·exact h.elim
    ·exact h.elim
   ·exact h.elim
  ·exact h.elim
def sto{α:Type}(d:CT α)(xs:List α)(n:Int)(u:α→α):FX P α where
 m:=getI xs n
 run o s v K:=match o.op,o.dst with
  | .store t x y,none=>(match s.ev x,zCK (s.ev y) with
   | .po id sz i off,some vc=>(match s.ent id with
    |some (.arr T0 sz2 els)=>.eq i n.toNat (.eq sz2 sz (.eq els (xs.map d.c) (.eq ((P.info? t).map (·.size)) (some vc.length) (.eq (Nat.ble (off+vc.length) d.sz) true (.eq (splice (d.c v) off vc) (d.c (u v))
      (K ⟨s.T,setE id (.arr T0 sz ((xs.set n.toNat (u v)).map d.c)) s.E⟩))))))
    |_=>.bad)
   |_,_=>.bad)
  |_,_=>.bad
 ok o s K v hm h:=by
  split at h
  ·rename_i t x y ho hd;split at h
   ·rename_i id sz i off vc hx hy;split at h
    ·rename_i T0 sz2 els he;obtain⟨h1,h2,h3,h4,h5,h6⟩:=h;subst h1 h2 h3;obtain⟨h7,h8⟩:=h6;exact zEa (z4j ho hd hx he hm hy h4 (by rw[d.hc];exact Nat.le_of_ble_eq_true h5) h7) h8
    ·exact h.elim
   ·exact h.elim
  ·exact h.elim
def renC:List AV→List AV→List (Nat×Nat)
 | .pt a _::xs,.pt b _::ys=>(a,b)::renC xs ys
 | .ow a::xs,.ow b::ys=>(a,b)::renC xs ys
 |_::xs,_::ys=>renC xs ys
 |_,_=>[]
def mOT(m:List (Nat×Nat))(s:St):List (Nat×Ent)→OT→OT
 |[],k=>k
 |p::ps,k=>.eq (s.entc (renI m p.1)) (some p.2) (mOT m s ps k)
theorem z1y{m:List (Nat×Nat)}{s:St}:∀{E:List (Nat×Ent)}{k:OT},(mOT m s E k).holds→zIs m s E∧k.holds
 |[],_,h=>⟨trivial,h⟩
 |(k,e)::ps,_,h=>by obtain⟨h1,h2⟩:=h;obtain⟨h3,h4⟩:=z1y h2;exact⟨⟨h1,h3⟩,h4⟩
def fR{α:Type}{f:FuncId}(hcf:CfW P f)(m:Option α){args:List AV}{E0:List (Nat×Ent)}{av:α→AV}{ne E1:α→List (Nat×Ent)}(hS:∀y,m=some y→zEi P f args E0 (av y) (ne y) (E1 y)):FX P α where
 m:=m
 run o s y K:=match o.op with
  | .call ⟨.value (.func g),xs,_⟩=>.eq (Nat.beq g f) true (.eq (evL s xs.toList) (renL (renC args (evL s xs.toList)) args) (.eq (zO4 args&&(zQm (renC args (evL s xs.toList)) E0&&zEg E0)) true (mOT (renC args (evL s xs.toList)) s E0
    (.eq (zBt (E1 y)) (zBt E0) (.eq (zEg (E1 y)) true (match o.dst with
     |some d=>K ((St.mk s.T (updE (renC args (evL s xs.toList)) s.E (E1 y))).upd d (av y) (ne y))
     |none=>K (St.mk s.T (updE (renC args (evL s xs.toList)) s.E (E1 y)))))))))
  |_=>.bad
 ok o s K y hm h:=by
  split at h
  ·rename_i g xs ts ho;obtain⟨h1,h2,h3,h4⟩:=h;have hgf:=Nat.eq_of_beq_eq_true h1;subst hgf;simp only[zk]at h3;obtain⟨h5,h6⟩:=z1y h4;obtain⟨h7,h8,h9⟩:=h6;split at h9
   ·rename_i d hd;exact zEa (z8w _ d (hS y hm) hcf ho hd h2 h3.1 h5 h7 h3.2.1 h8 h3.2.2 rfl) h9
   ·rename_i hd;exact zEa (z77 _ (hS y hm) hcf ho hd h2 h3.1 h5 h7 h3.2.1 h8 h3.2.2 rfl) h9
  ·exact h.elim
def frzH(id:Nat):HT where
 run s K:=match s.ent id with
  |some (.arr _ _ els)=>K (s.frz id els)
  |_=>.bad
 ok s K h B w0 ok0 ok σ a w hR:=by
  split at h
  ·rename_i he;exact⟨_,_,_,h,z9e hR id he⟩
  ·exact h.elim
def z60(id:Nat):HT where
 run s K:=match s.ent id with
  |some (.box cs)=>K (s.frzB id cs)
  |_=>.bad
 ok s K h B w0 ok0 ok σ a w hR:=by
  split at h
  ·rename_i he;exact⟨_,_,_,h,z7j hR id he⟩
  ·exact h.elim
def b2s(d:CT Int)(hd:∀v,d.c v=[.v (.int .u8 v)])(xs:List Int):N0 P where
 chk o s:=match o.op with
  | .convert src dst x=>(match P.underlying src,P.underlying dst with
   |some (.slice e),some .string=>(match P.underlying e with
    |some (.int .u8)=>.eq (zBp s (s.ev x)) (some (xs.map d.c)) .ok
    |_=>.bad)
   |_,_=>.bad)
  |_=>.bad
 av _ _:=.c (.v (.string (zAy xs)))
 ok o s h:=by
  split at h
  ·rename_i ho;split at h
   ·rename_i hs hdd;split at h
    ·rename_i he;exact z2h hd xs hs he hdd ho h.1
    ·exact h.elim
   ·exact h.elim
  ·exact h.elim
def hOT(s:St):List (Nat×Ent)→OT
 |[]=>.ok
 |p::ps=>.eq (s.ent p.1) (some p.2) (hOT s ps)
theorem z2F{s:St}:∀{E:List (Nat×Ent)},(hOT s E).holds→HasE s E
 |[],_=>trivial
 |(k,e)::ps,h=>⟨h.1,z2F h.2⟩
def KR{β:Type}(rs:List RS)(enc:β→AV×List (Nat×Ent))(E1:β→List (Nat×Ent))(σ:Nat→Loc):Exit→T P β→List Nat→St→OT:=fun e t' kn s'=>.and (KF rs enc e t' kn s') (match t' with
 | .ret y=>hOT s' (pinE σ (E1 y))
 |_=>.bad)
def OR(P:Program){β:Type}(t:T P β)(o:Option β)(c:Code)(s:(Nat→Loc)→St)(rs:List RS)(enc:β→AV×List (Nat×Ent))(E1:β→List (Nat×Ent)):OT:=.eq o (t.den some) (.and (.all fun y=>.eq (zEg (E1 y)) true .ok) (.all fun σ=>goV P 100000 t [] c (s σ) (KR rs enc E1 σ)))
theorem CrT{β:Type}(t:T P β){f:FuncId}{fn:Func}{c:Code}{args:List AV}{E0:List (Nat×Ent)}{o:Option β}{r:β}(enc:β→AV×List (Nat×Ent))(E1:β→List (Nat×Ent)){rs:List RS}{vs:List ResultVar}(hf:P.funcs[f]?=some fn)(hb:fn.body=some c)(hvs:fn.results=vs.toArray)(hfit:FitsL P rs vs)(h:o=some r)
  (hO:OR P t o c (fun σ=>⟨args++List.replicate (fn.ntmps - args.length) .bot,pinE σ E0⟩) rs enc E1=(OR P t o c (fun σ=>⟨args++List.replicate (fn.ntmps - args.length) .bot,pinE σ E0⟩) rs enc E1).rf:=by kernel_rfl) (hl:Nat.ble rs.length 8=true:=by kernel_rfl):zEi P f args E0 (enc r).1 (enc r).2 (E1 r):=by
 obtain⟨h1,h2,h3⟩:=OT.of_rf _ hO;rw[h1]at h;refine zMM hf hb hvs hfit (Nat.le_of_ble_eq_true hl) fn.ntmps rfl (h2 r).1 fun σ=>zBW 100000 t [] c _ _ (h3 σ) some r h _ fun e t' kn' s' hK ht=>?_
 refine⟨z7l hK.1 ht,?_⟩;have hK:=hK.2;split at hK
 ·injection ht with ht;subst ht;exact z2F hK
 ·exact hK.elim
end
section
variable {P:Program}
theorem R.refQ{B:Fr}{w0:World}{ok0 ok ok':Nat→Prop}{σ:Nat→Loc}{s:St}{a:Act}{w w':World}(h:R B w0 ok0 ok σ s a w){m:List (Nat×Nat)}{E0 E1:List (Nat×Ent)}{rb:Nat→Prop}
  (hm:zIs m s E0) (hk:zBt E1=zBt E0) (hr:zQm m E0=true) (hp:zEg E1=true)
  (hrb:∀g,rb g→B.n g∧¬ok g∧∀id e,s.ent id=some e→(σ id).blk≠some g)
  (hb:BelowX ⟨fun g=>w.heap.size≤g∨rb g,exOf (fun k=>σ (renI m k)) E0⟩ w w') (okM:∀g,ok g→ok' g) (okN:∀g,ok' g→ok g∨w.heap.size≤g∨rb g) (okL:∀g,ok' g→g<w'.heap.size)
  (hE:∀id e,E1.lookup id=some e→zAj ok' w' (σ (renI m id)) e):
  R B w0 ok0 ok' (fun id=>σ id) ⟨s.T,updE m s.E E1⟩ a w'∧∀id e,(St.mk s.T (updE m s.E E1)).ent id=some e→∃old,s.ent id=some old:=by
 have hsz:=hb.size;have key0:∀k e,E1.lookup k=some e→∃f,E0.lookup k=some f:=by intro k e hke;have h1:=zC0 E1 k e hke;rw[hk]at h1;exact zHE E0 k h1
 have hold:∀k e,E1.lookup k=some e→∃f,s.E.lookup (renI m k)=some f:=by intro k e hke;obtain⟨f0,hf0⟩:=key0 k e hke;obtain⟨f,hf,_⟩:=zCJ (jB m s E0 k f0 hm hf0);exact⟨f,hf⟩
 have hr1:zDh ((zBt E1).map (renI m))=true:=by rw[hk];exact hr
 have look:=zPN m s.E E1 hr1 hold;have cases_:∀j f,(St.mk s.T (updE m s.E E1)).ent j=some f→(∃k e old,E1.lookup k=some e∧renI m k=j∧s.ent j=some old∧f=reE old e)∨((∀k e,E1.lookup k=some e→renI m k≠j)∧s.ent j=some f):=by
  intro j f hj;have h1:(updE m s.E E1).lookup j=some f:=hj;rw[look]at h1;cases hfd:E1.find? (fun p=>renI m p.1==j) with
  |some p=>rw[hfd]at h1;obtain⟨h2,h3⟩:=zQE m E1 j p hr1 hfd;obtain⟨old,hold1⟩:=hold p.1 p.2 h2;rw[h3]at hold1;rw[hold1]at h1;injection h1 with h1;exact .inl ⟨p.1,p.2,old,h2,h3,hold1,h1.symm⟩
  |none=>
   rw[hfd]at h1;refine .inr ⟨fun k e hke hkj=>?_,h1⟩;rw[List.find?_eq_none]at hfd;have hmem:∀(L:List (Nat×Ent)),L.lookup k=some e→(k,e)∈L:=by
    intro L
    induction L with
    |nil=>intro h;simp at h
    |cons q qs ih=>
     intro h;obtain⟨q1,q2⟩:=q;simp only[List.lookup]at h;cases hq:k==q1 with
     |true=>
      rw[hq]at h;injection h with h;have:k=q1:=by simpa using hq
      subst this;subst h;exact zm
     |false=>rw[hq]at h;exact zn _ (ih h)
   exact hfd (k,e) (hmem E1 hke) (by simpa using hkj)
 have exE:∀g,exOf (fun k=>σ (renI m k)) E0 g→∃k f0,E0.lookup k=some f0∧(σ (renI m k)).blk=some g:=fun g ⟨k,f0,h1,h2⟩=>⟨k,f0,h1,h2⟩
 have exNot:∀g,ok g→¬exOf (fun k=>σ (renI m k)) E0 g:=by intro g hg hx;obtain⟨k,f0,h1,h2⟩:=exE g hx;obtain⟨f,hf,_⟩:=zCJ (jB m s E0 k f0 hm h1);exact (h.core.blk _ f g hf h2).1 hg
 have hwok:∀g,ok g→w'.heap[g]?=w.heap[g]?:=fun g hg=>hb.block g (fun hx=>by
  rcases hx with hx|hx
  ·exact Nat.not_le_of_lt (h.core.okL g hg) hx
  ·exact (hrb g hx).2.1 hg) (exNot g hg)
 have entOld:∀j f,(St.mk s.T (updE m s.E E1)).ent j=some f→∃old,s.ent j=some old∧f.pin=old.pin:=by
  intro j f hj;rcases cases_ j f hj with⟨k,e,old,h1,h2,h3,rfl⟩|⟨_,h2⟩
  ·exact⟨old,h3,z3H old e (zDC E1 k e hp h1)⟩
  ·exact⟨f,h2,rfl⟩
 refine⟨?_,fun j f hj=>by obtain⟨old,h1,_⟩:=entOld j f hj;exact⟨old,h1⟩⟩;refine⟨⟨h.core.len,okL,h.core.lib.mono okM hwok,fun t=>(h.core.tmp t).mono0 okM hwok,fun j f hj=>?_,fun j f g hj hg=>?_,fun i j f1 f2 g hi hj h1 h2=>?_⟩,h.defers,?_,fun g hg=>h.base g (Nat.le_trans hsz hg),fun g hg=>okM g (h.old g hg),fun g hg=>?_,fun j f g hj hg=>?_⟩
 ·rcases cases_ j f hj with⟨k,e,old,h1,h2,h3,rfl⟩|⟨h1,h2⟩
  ·have h4:=hE k e h1;rw[h2]at h4;exact z57 (h.core.ent j old h3) h4 (zDC E1 k e hp h1)
  ·refine (h.core.ent j f h2).mono okM hwok fun g hg=>hb.block g (fun hx=>?_) fun hx=>?_
   ·rcases hx with hx|hx
    ·exact Nat.not_le_of_lt (h.core.blk j f g h2 hg).2 hx
    ·exact (hrb g hx).2.2 j f h2 hg
   ·obtain⟨k,f0,h3,h4⟩:=exE g hx;obtain⟨f2,hf2,_⟩:=zCJ (jB m s E0 k f0 hm h3);have h5:=h.core.inj _ _ _ _ _ h2 hf2 hg h4;have h6:=zC0 E0 k f0 h3;rw[←hk]at h6;obtain⟨e1,he1⟩:=zHE E1 k h6;exact h1 k e1 he1 h5.symm
 ·obtain⟨old,h1,h2⟩:=entOld j f hj;obtain⟨h3,h4⟩:=h.core.blk j old g h1 hg;refine⟨fun h5=>?_,Nat.lt_of_lt_of_le h4 hsz⟩;rcases okN g h5 with h6|h6|h6
  ·exact h3 h6
  ·omega
  ·exact (hrb g h6).2.2 j old h1 hg
 ·obtain⟨o1,a1,_⟩:=entOld i f1 hi;obtain⟨o2,a2,_⟩:=entOld j f2 hj;exact h.core.inj i j o1 o2 g a1 a2 h1 h2
 ·refine h.below.trans ⟨hb.os,hb.tape,hb.output,hb.size,fun k hk1 hk2=>?_⟩;refine hb.block k (fun hle=>?_) fun hx=>?_
  ·rcases hle with hle|hle
   ·exact hk1 (h.base k hle)
   ·exact hk1 (hrb k hle).1
  ·obtain⟨k2,f0,h3,h4⟩:=exE k hx;obtain⟨f2,hf2,_⟩:=zCJ (jB m s E0 k2 f0 hm h3);have h5:=h.own _ f2 k hf2 h4;split at h5
   ·exact hk2 h5
   ·exact hk1 h5
 ·rcases okN g hg with h1|h1|h1
  ·exact h.fresh g h1
  ·exact .inr (h.base g h1)
  ·exact .inr (hrb g h1).1
 ·obtain⟨old,h1,h2⟩:=entOld j f hj;rw[h2];exact h.own j old g h1 hg
theorem qBa{B:Fr}{w0:World}{ok0 ok:Nat→Prop}{σ:Nat→Loc}{s:St}{a:Act}{w:World}(hR:R B w0 ok0 ok σ s a w)(k:Nat)(l:Loc){T sz:Nat}{els:List (List Tr)}(hk:s.ent k=none)(he:zAj ok w l (.arr T sz els))
  (hl:∀g,l.blk=some g→B.n g∧¬ok g∧g<w.heap.size∧∀id e,s.ent id=some e→(σ id).blk≠some g):
  R B w0 ok0 ok (fun i=>if i=k then l else σ i) ⟨zBs k s.T,(k,.qarr l T sz els)::s.E⟩ a w:=by
 have lk:∀i e,(St.mk (zBs k s.T) ((k,.qarr l T sz els)::s.E)).ent i=some e→(i=k∧e=.qarr l T sz els)∨(i≠k∧s.ent i=some e):=by
  intro i e hi;unfold St.ent at hi;simp only[List.lookup]at hi;cases hik:(i==k) with
  |true=>rw[hik]at hi;exact .inl ⟨by simpa using hik,by simpa using hi.symm⟩
  |false=>rw[hik]at hi;exact .inr ⟨by simpa using hik,hi⟩
 refine⟨⟨by simpa [zFQ] using hR.core.len,hR.core.okL,hR.core.lib,fun t=>?_,fun i e hi=>?_,fun i e g hi hg=>?_,fun i i2 e f2 g hi hi2 h1 h2=>?_⟩,hR.defers,hR.below,hR.base,hR.old,hR.fresh,fun i e g hi hg=>?_⟩
 ·have e0:(St.mk (zBs k s.T) ((k,.qarr l T sz els)::s.E)).get t=(bif (s.get t).mid k then AV.bot else s.get t):=by
   unfold St.get;exact zHG k s.T t
  rw[e0];cases hm:(s.get t).mid k with
  |true=>trivial
  |false=>exact (hR.core.tmp t).mid k (fun _ h=>h) (fun _ _=>rfl) hm (fun i hi=>by simp[hi])
 ·rcases lk i e hi with⟨rfl,rfl⟩|⟨h1,h2⟩
  ·simp only[if_true];exact⟨rfl,he⟩
  ·simp only[if_neg h1];exact hR.core.ent i e h2
 ·rcases lk i e hi with⟨rfl,rfl⟩|⟨h1,h2⟩
  ·simp only[if_true]at hg;exact⟨(hl g hg).2.1,(hl g hg).2.2.1⟩
  ·simp only[if_neg h1]at hg;exact hR.core.blk i e g h2 hg
 ·rcases lk i e hi with⟨a1,_⟩|⟨a1,a2⟩<;>rcases lk i2 f2 hi2 with⟨b1,_⟩|⟨b1,b2⟩
  ·rw[a1,b1]
  ·simp only[a1,if_true]at h1;simp only[if_neg b1]at h2;exact absurd h2 ((hl g h1).2.2.2 i2 f2 b2)
  ·simp only[b1,if_true]at h2;simp only[if_neg a1]at h1;exact absurd h1 ((hl g h2).2.2.2 i e a2)
  ·simp only[if_neg a1]at h1;simp only[if_neg b1]at h2;exact hR.core.inj _ _ _ _ _ a2 b2 h1 h2
 ·rcases lk i e hi with⟨rfl,rfl⟩|⟨h1,h2⟩
  ·simp only[if_true]at hg;exact (hl g hg).1
  ·simp only[if_neg h1]at hg;exact hR.own i e g h2 hg
def zKb(P:Program)(f:FuncId)(args:List AV)(k T sz:Nat)(E0:Loc→List (Nat×Ent))(els0:List (List Tr))(t:Tr)(E1:Loc→List (Nat×Ent))(els1:List (List Tr)):Prop:=
 ∀ok σ w vs,(∀g,ok g→g<w.heap.size)→Lb ok w→RelA ok σ w args vs→Held ok σ w (E0 (σ k))→zAj ok w (σ k) (.arr T sz els0)→
  (∀g,(σ k).blk=some g→¬ok g∧g<w.heap.size∧¬exOf σ (E0 (σ k)) g)→
  Calls P f vs.toArray w (fun e w'=>∃v ok' l,e=.returned v∧BelowX ⟨fun g=>w.heap.size≤g∨(σ k).blk=some g,exOf σ (E0 (σ k))⟩ w w'∧(∀g,ok g→ok' g)∧(∀g,ok' g→ok g∨w.heap.size≤g∨(σ k).blk=some g)∧(∀g,ok' g→g<w'.heap.size)∧
   Rd ok' w' t v∧(∀id e,(E1 l).lookup id=some e→zAj ok' w' (σ id) e)∧zAj ok' w' l (.arr T sz els1)∧∀g,l.blk=some g→(w.heap.size≤g∨(σ k).blk=some g)∧¬ok' g∧g<w'.heap.size∧¬exOf σ (E0 (σ k)) g)
def PostQ(rs:List RS)(k T sz:Nat)(t:Tr)(els1:List (List Tr))(E1:Loc→List (Nat×Ent))(e:Exit)(s:St):Prop:=Post rs (.c t) [] e s∧∃l,s.ent k=some (.qarr l T sz els1)∧HasE s (E1 l)
theorem zWd{f:FuncId}{fn:Func}{c:Code}{args:List AV}{k T sz:Nat}{E0 E1:Loc→List (Nat×Ent)}{els0 els1:List (List Tr)}{t:Tr}{r:RS}{v0:ResultVar}(hf:P.funcs[f]?=some fn)(hb:fn.body=some c)(hvs:fn.results=[v0].toArray)(hfit:FitsL P [r] [v0])(n:Nat)(hn:fn.ntmps=n)
  (hnk:∀l,(E0 l).lookup k=none) (hke:∀l l',zBt (E1 l')=zBt (E0 l)) (hnp:∀l,zEg (E1 l)=true) (h:∀σ,V P c ⟨args++List.replicate (n - args.length) .bot,(k,.qarr (σ k) T sz els0)::pinE σ (E0 (σ k))⟩ (PostQ [r] k T sz t els1 (fun l=>pinE σ (E1 l)))):zKb P f args k T sz E0 els0 t E1 els1:=by
 intro ok σ w zs hok hlib hargs hheld hrow hrl;refine calls_of_wp hf hb ?_
 subst hn;have look0:∀id e,((k,Ent.qarr (σ k) T sz els0)::pinE σ (E0 (σ k))).lookup id=some e→(id=k∧e=.qarr (σ k) T sz els0)∨(id≠k∧∃f,(E0 (σ k)).lookup id=some f∧e=f.pinned (σ id)):=by
  intro id e he;simp only[List.lookup]at he;cases hik:(id==k) with
  |true=>rw[hik]at he;exact .inl ⟨by simpa using hik,by simpa using he.symm⟩
  |false=>
   rw[hik]at he;have he:(pinE σ (E0 (σ k))).lookup id=some e:=he;rw[zHD]at he;cases h1:(E0 (σ k)).lookup id with
   |none=>rw[h1]at he;cases he
   |some f=>rw[h1]at he;injection he with he;exact .inr ⟨by simpa using hik,f,rfl,he.symm⟩
 have hR:R ⟨fun g=>w.heap.size≤g∨(σ k).blk=some g,exOf σ (E0 (σ k))⟩ w ok ok σ ⟨args++List.replicate (fn.ntmps - args.length) .bot,(k,.qarr (σ k) T sz els0)::pinE σ (E0 (σ k))⟩ {tmps:=zs.toArray++Array.replicate (fn.ntmps - zs.toArray.size) undef,defers:=[]} w:=by
  refine⟨⟨?_,hok,hlib,fun t=>hargs.initE _ fn.ntmps t,fun id e he=>?_,fun id e g he hg=>?_,fun i j e f g hi hj h1 h2=>?_⟩,rfl,BelowX.refl _ _,fun _ h=>.inl h,fun g hg=>hg,fun g hg=>.inl hg,fun id e g he hg=>?_⟩
  ·simp[hargs.len]
  ·rcases look0 id e he with⟨rfl,rfl⟩|⟨_,f,h1,rfl⟩
   ·exact⟨rfl,hrow⟩
   ·obtain⟨h2,h3⟩:=hheld.ent id f h1;exact zKq h2 h3
  ·rcases look0 id e he with⟨rfl,rfl⟩|⟨_,f,h1,rfl⟩
   ·exact⟨(hrl g hg).1,(hrl g hg).2.1⟩
   ·exact hheld.blk id f g h1 hg
  ·rcases look0 i e hi with⟨rfl,rfl⟩|⟨_,f1,a1,rfl⟩<;>rcases look0 j f hj with⟨rfl,rfl⟩|⟨_,f2,a2,rfl⟩
   ·rfl
   ·exact absurd ⟨j,f2,a2,h2⟩ (hrl g h1).2.2
   ·exact absurd ⟨i,f1,a1,h1⟩ (hrl g h2).2.2
   ·exact hheld.inj i j f1 f2 g a1 a2 h1 h2
  ·rcases look0 id e he with⟨rfl,rfl⟩|⟨_,f,h1,rfl⟩
   ·exact .inr hg
   ·obtain⟨h2,h3⟩:=hheld.ent id f h1;rw[if_pos (zIr h3)];exact⟨id,f,h1,hg⟩
 refine wp_mono (h _ _ _ _ _ _ _ _ hR) ?_
 rintro e a' w' ⟨s',ok',σ',⟨⟨he,hd,hoks,ho⟩,l,hsk,hE⟩,hR'⟩;have hσk:∀(j:Nat) q,[r][j]?=some q→zMF σ' s' [r] (0+j)=locS σ' s' q:=fun j q hj=>by unfold zMF;rw[Nat.zero_add,hj]
 obtain⟨xs,hrun,hrel⟩:=zSZ (σ':=zMF σ' s' [r]) hR'.core 0 hfit hoks hσk;have hres:=zQl hvs hrun;obtain⟨v,hv,hvr⟩:∃v,(results fn a'.tmps).run P w'=.ok v w'∧Rd ok' w' t v:=by
  have hxl:=hrun.len;have h2:outS s' 0 r=(.c t,[]):=ho;have h1:xs.length=1:=by rw[←hxl];rfl
  refine⟨_,hres,?_⟩;rw[dif_pos h1]
  match xs,h1,hrel with
  |[x],_,hrel=>
   have h3:=hrel.1;have h4:(outS s' 0 r).1=.c t:=by rw[h2]
   rw[h4]at h3;exact h3
 have hend:∀id e,(E1 l).lookup id=some e→zAj ok' w' (σ id) e:=by
  intro id e he;have h1:(pinE σ (E1 l)).lookup id=some (e.pinned (σ id)):=by rw[zHD,he];rfl
  have h2:=hR'.core.ent id _ (zI5 s' _ id _ hE h1);have h3:=zDC (E1 l) id e (hnp l) he;obtain⟨h4,h5⟩:=zPr h2 h3;rw[h4]at h5;exact h5
 have hl:σ' k=l:=(hR'.core.ent k _ hsk).1;have hrow1:zAj ok' w' l (.arr T sz els1):=by have h1:=(hR'.core.ent k _ hsk).2;rw[hl]at h1;exact h1
 have hfr:∀g,l.blk=some g→(w.heap.size≤g∨(σ k).blk=some g)∧¬ok' g∧g<w'.heap.size∧¬exOf σ (E0 (σ k)) g:=by
  intro g hg;have hg2:(σ' k).blk=some g:=by rw[hl];exact hg
  have h1:=hR'.own k _ g hsk hg2;have h2:=hR'.core.blk k _ g hsk hg2;refine⟨h1,h2.1,h2.2,fun hx=>?_⟩;obtain⟨id,e0,h3,h4⟩:=hx;have h5:=zC0 _ id e0 h3;rw[←hke (σ k) l]at h5;obtain⟨e1,h6⟩:=zHE (E1 l) id h5;have h7:(pinE σ (E1 l)).lookup id=some (e1.pinned (σ id)):=by rw[zHD,h6];rfl
  have h8:=zI5 s' _ id _ hE h7;have h9:=(zPr (hR'.core.ent id _ h8) (zDC (E1 l) id e1 (hnp l) h6)).1;have h10:=hR'.core.inj id k _ _ g h8 hsk (by rw[h9];exact h4) hg2;subst h10;rw[hnk]at h3;cases h3
 rcases he with rfl|rfl
 ·exact⟨hR'.defers,v,hv,v,ok',l,rfl,hR'.below,hR'.old,hR'.fresh,hR'.core.okL,hvr,hend,hrow1,hfr⟩
 ·exact⟨hR'.defers,v,hv,v,ok',l,rfl,hR'.below,hR'.old,hR'.fresh,hR'.core.okL,hvr,hend,hrow1,hfr⟩
theorem z7a{o:Oper}{s:St}{f:FuncId}{xs:Array Operand}{ts:Array TypeId}{args:List AV}{k T sz kc:Nat}{E0 E1:Loc→List (Nat×Ent)}{els0 els1:List (List Tr)}{t:Tr}{l:Loc}(m:List (Nat×Nat))(d:Nat)(hS:zKb P f args k T sz E0 els0 t E1 els1)(hc:∀args w,(callFunc f args).run P w=.ok (.enter f args) w)
  (ho:o.op=.call {callee:=.value (.func f),args:=xs,argTypes:=ts}) (hd:o.dst=some d) (ha:evL s xs.toList=renL m args) (ht:zO4 args=true) (hkc:renI m k=kc) (hrow:s.ent kc=some (.qarr l T sz els0)) (hm:zIs m ⟨s.T,rmE kc s.E⟩ (E0 l)) (hk:∀l',zBt (E1 l')=zBt (E0 l)) (hr:zQm m (E0 l)=true)
  (hp:∀l',zEg (E1 l')=true) (hp0:zEg (E0 l)=true):
  XS P o s fun s'=>∃l':Loc,s'=(⟨zBs kc s.T,(kc,.qarr l' T sz els1)::updE m (rmE kc s.E) (E1 l')⟩:St).put d (.c t):=by
 intro B w0 ok0 ok σ a w hR K Q hK;subst hkc;have hl:σ (renI m k)=l:=(hR.core.ent _ _ hrow).1;have hrow2:zAj ok w l (.arr T sz els0):=by have h1:=(hR.core.ent _ _ hrow).2;rw[hl]at h1;exact h1
 have ent0:∀id e,(St.mk s.T (rmE (renI m k) s.E)).ent id=some e→id≠renI m k∧s.ent id=some e:=by
  intro id e he;have he:(rmE (renI m k) s.E).lookup id=some e:=he;rw[zDN]at he;split at he
  ·cases he
  ·rename_i h1;exact⟨h1,he⟩
 have hR0:R B w0 ok0 ok σ ⟨s.T,rmE (renI m k) s.E⟩ a w:=hR.le ⟨Nat.le_refl _,fun t=>.inr rfl,fun id e he=>(ent0 id e he).2⟩;have hrb:∀g,l.blk=some g→B.n g∧¬ok g∧g<w.heap.size∧∀id e,(St.mk s.T (rmE (renI m k) s.E)).ent id=some e→(σ id).blk≠some g:=by
  intro g hg;have hg2:(σ (renI m k)).blk=some g:=by rw[hl];exact hg
  refine⟨hR.own _ _ g hrow hg2,(hR.core.blk _ _ g hrow hg2).1,(hR.core.blk _ _ g hrow hg2).2,fun id e he h1=>?_⟩;obtain⟨h2,h3⟩:=ent0 id e he;exact h2 (hR.core.inj _ _ _ _ g h3 hrow h1 hg2)
 have hheld:Held ok (fun k=>σ (renI m k)) w (E0 l):=by
  refine⟨fun id e he=>?_,fun id e g he hg=>?_,fun i j e f g hi hj h1 h2=>?_⟩
  ·exact⟨hR0.core.entc _ _ (jB m _ (E0 l) id e hm he),zDC (E0 l) id e hp0 he⟩
  ·obtain⟨f,hf,_⟩:=zCJ (jB m _ (E0 l) id e hm he);exact hR0.core.blk _ f g hf hg
  ·obtain⟨f1,hf1,_⟩:=zCJ (jB m _ (E0 l) i e hm hi);obtain⟨f2,hf2,_⟩:=zCJ (jB m _ (E0 l) j f hm hj);exact zKr (renI m) _ hr i (zC0 (E0 l) i e hi) j (zC0 (E0 l) j f hj) (hR0.core.inj _ _ _ _ _ hf1 hf2 h1 h2)
 have hS':=hS ok (fun k=>σ (renI m k)) w _ hR.core.okL hR.core.lib (zO2 ht (ha▸zOb hR.core xs.toList));simp only[hl]at hS';refine zI8 hc ho (Calls.mono (hS' hheld hrow2 fun g hg=>⟨(hrb g hg).2.1,(hrb g hg).2.2.1,fun hx=>?_⟩) ?_)
 ·obtain⟨id,e0,h1,h2⟩:=hx;obtain⟨f,hf,_⟩:=zCJ (jB m _ (E0 l) id e0 hm h1);exact (hrb g hg).2.2.2 _ f hf h2
 rintro e w' ⟨v,ok',l',he,hb,okM,okN,okL,hrd,hE,hrow',hl'⟩;obtain⟨hR2,hold⟩:=hR0.refQ (rb:=fun g=>l.blk=some g) hm (hk l') hr (hp l') (fun g hg=>⟨(hrb g hg).1,(hrb g hg).2.1,(hrb g hg).2.2.2⟩) hb okM okN okL hE;have hnone:(St.mk s.T (updE m (rmE (renI m k) s.E) (E1 l'))).ent (renI m k)=none:=by
  cases hh:(St.mk s.T (updE m (rmE (renI m k) s.E) (E1 l'))).ent (renI m k) with
  |none=>rfl
  |some f=>obtain⟨old,h1⟩:=hold _ f hh;exact absurd rfl (ent0 _ old h1).1
 have hR3:=qBa hR2 (renI m k) l' hnone hrow' fun g hg=>by
  obtain⟨h1,h2,h3,h4⟩:=hl' g hg;refine⟨?_,h2,h3,fun id f hf hg2=>?_⟩
  ·rcases h1 with h1|h1
   ·exact hR.base g h1
   ·exact (hrb g h1).1
  ·obtain⟨old,h5⟩:=hold id f hf;rcases h1 with h1|h1
   ·have:=(hR0.core.blk id old g h5 hg2).2;omega
   ·exact (hrb g h1).2.2.2 id old h5 hg2
 refine⟨v,he,?_⟩;rw[hd];exact hK _ _ _ _ _ ⟨l',rfl⟩ (hR3.put (av:=.c t) hrd)
def zME(s:St)(id n:Nat):List Tr:=match s.entc id with
 |some (.box cs)=>cs.drop n
 |_=>[]
def fRt{α:Type}{f:FuncId}(hcf:CfW P f)(m:Option α)(k n:Nat){args:List AV}{E0:List Tr→List (Nat×Ent)}{av:α→AV}{ne:α→List (Nat×Ent)}{E1:List Tr→α→List (Nat×Ent)}(hS:∀rest y,m=some y→zEi P f args (E0 rest) (av y) (ne y) (E1 rest y)):FX P α where
 m:=m
 run o s y K:=match o.op with
  | .call ⟨.value (.func g),xs,_⟩=>(fR hcf m (hS (zME s (renI (renC args (evL s xs.toList)) k) n))).run o s y K
  |_=>.bad
 ok o s K y hm h:=by
  split at h
  ·exact (fR hcf m (hS _)).ok o s K y hm h
  ·exact h.elim
def fQ{α:Type}{f:FuncId}(hcf:CfW P f)(m:Option α)(k0 n k T sz:Nat){args:List AV}{E0:List Tr→Loc→List (Nat×Ent)}{els0:List (List Tr)}{t:α→Tr}{E1:List Tr→α→Loc→List (Nat×Ent)}{els1:α→List (List Tr)}(hS:∀rest y,m=some y→zKb P f args k T sz (E0 rest) els0 (t y) (E1 rest y) (els1 y)):FX P α where
 m:=m
 run o s y K:=match o.op with
  | .call ⟨.value (.func g),xs,_⟩=>(fun (mm:List (Nat×Nat)) (rest:List Tr) (kc:Nat)=>OT.eq (Nat.beq g f) true (.eq (evL s xs.toList) (renL mm args) (match s.ent kc with
    |some (.qarr l T' sz' els)=>.eq T' T (.eq sz' sz (.eq els els0 (.eq (zO4 args&&(zQm mm (E0 rest l)&&zEg (E0 rest l))) true (mOT mm ⟨s.T,rmE kc s.E⟩ (E0 rest l)
     (.and (.all fun l'=>.eq (zBt (E1 rest y l')) (zBt (E0 rest l)) (.eq (zEg (E1 rest y l')) true .ok)) (match o.dst with
      |some d=>.all fun l':Loc=>K ((St.mk (zBs kc s.T) ((kc,.qarr l' T sz (els1 y))::updE mm (rmE kc s.E) (E1 rest y l'))).put d (.c (t y)))
      |none=>.bad))))))
    |_=>.bad))) (renC args (evL s xs.toList)) (zME s (renI (renC args (evL s xs.toList)) k0) n) (renI (renC args (evL s xs.toList)) k)
  |_=>.bad
 post γ o s y:=match o.op,o.dst with
  | .call ⟨_,xs,_⟩,some d=>(fun (mm:List (Nat×Nat)) (rest:List Tr) (kc:Nat)=>some ((St.mk (zBs kc s.T) ((kc,.qarr (γ kc) T sz (els1 y))::updE mm (rmE kc s.E) (E1 rest y (γ kc)))).put d (.c (t y))))
    (renC args (evL s xs.toList)) (zME s (renI (renC args (evL s xs.toList)) k0) n) (renI (renC args (evL s xs.toList)) k)
  |_,_=>none
 ok o s K y hm h:=by
  split at h
  ·rename_i g xs ts ho;obtain⟨h1,h2,h3⟩:=h;have hgf:=Nat.eq_of_beq_eq_true h1;subst hgf;split at h3
   ·rename_i l T' sz' els hrow;obtain⟨rfl,rfl,rfl,h4,h5⟩:=h3;simp only[zk]at h4;obtain⟨h6,h7⟩:=z1y h5;obtain⟨h8,h9⟩:=h7;split at h9
    ·rename_i d hd;exact fun B w0 ok0 ok σ a w hR K Q hK=>z7a _ d (hS _ y hm) hcf ho hd h2 h4.1 rfl hrow h6 (fun l'=>(h8 l').1) h4.2.1 (fun l'=>(h8 l').2.1) h4.2.2 B w0 ok0 ok σ a w hR K Q fun s' a' w' ok' σ' hl hR'=>by obtain⟨l',rfl⟩:=hl;exact hK _ a' w' ok' σ' (h9 l') hR'
    ·exact h9.elim
   ·exact h3.elim
  ·exact h.elim
end
section
variable {P:Program}
def pinH(t k:Nat):HT where
 run s K:=match s.get t,s.ent k with
  | .ow k',some (.arr T sz els)=>.eq k' k (.all fun l:Loc=>K ⟨s.T.set t (.c (.v (zF l))),setE k (.qarr l T sz els) s.E⟩)
  |_,_=>.bad
 ok s K h B w0 ok0 ok σ a w hR:=by
  split at h
  ·rename_i k' T sz els ht hk;obtain⟨rfl,h⟩:=h;have h1:=hR.core.tmp t;rw[ht]at h1;have h2:a.tmps.getD t undef=zF (σ k'):=h1;refine⟨_,ok,σ,h (σ k'),zHq hR hk (fun h=>⟨rfl,h⟩) rfl ?_⟩;rw[h2];exact Rd.v _ rfl
  ·exact h.elim
def zPQ(t k:Nat):HT where
 run s K:=match s.get t,s.ent k with
  | .c (.v x),some (.qarr l T sz els)=>.eq x (zF l) (K ⟨s.T.set t (.ow k),setE k (.arr T sz els) s.E⟩)
  |_,_=>.bad
 post s:=match s.ent k with
  |some (.qarr _ T sz els)=>some ⟨s.T.set t (.ow k),setE k (.arr T sz els) s.E⟩
  |_=>none
 ok s K h B w0 ok0 ok σ a w hR:=by
  split at h
  ·rename_i x l T sz els ht hk;obtain⟨rfl,h⟩:=h;refine⟨_,ok,σ,h,zHq hR hk (fun h=>h.2) rfl ?_⟩;have h1:=hR.core.tmp t;rw[ht]at h1;have h2:Rd ok w (.v (zF l)) (a.tmps.getD t undef):=h1;have h3:=(hR.core.ent k _ hk).1;show _=zF (σ k);rw[h3];generalize a.tmps.getD t undef=y at h2;cases h2;rfl
  ·exact h.elim
def seeH(t k:Nat):HT where
 run s K:=match s.get t,s.ent k with
  | .c (.v x),some (.qarr l T sz els)=>.eq x (zF l) (K ⟨s.T.set t (.ow k),setE k (.qarr l T sz els) s.E⟩)
  |_,_=>.bad
 post s:=match s.ent k with
  |some (.qarr l T sz els)=>some ⟨s.T.set t (.ow k),setE k (.qarr l T sz els) s.E⟩
  |_=>none
 ok s K h B w0 ok0 ok σ a w hR:=by
  split at h
  ·rename_i x l T sz els ht hk;obtain⟨rfl,h⟩:=h;refine⟨_,ok,σ,h,zHq hR hk (fun h=>h) rfl ?_⟩;have h1:=hR.core.tmp t;rw[ht]at h1;have h2:Rd ok w (.v (zF l)) (a.tmps.getD t undef):=h1;have h3:=(hR.core.ent k _ hk).1;show _=zF (σ k);rw[h3];generalize a.tmps.getD t undef=y at h2;cases h2;rfl
  ·exact h.elim
def nilH(k T sz:Nat):HT where
 run s K:=.eq (s.ent k) none (.eq (Nat.blt 0 sz) true (K ⟨zBs k s.T,(k,.qarr loc0 T sz [])::s.E⟩))
 ok s K h B w0 ok0 ok σ a w hR:=by obtain⟨h1,h2,h3⟩:=h;exact⟨_,ok,_,h3,z1N hR k T sz h1 (Nat.le_of_ble_eq_true h2)⟩
def z3a(k id2 j:Nat):HT where
 run s K:=match s.ent k,s.ent id2 with
  |some (.qarr l _ _ els),some (.box cs)=>(match cs[j]? with
   |some (.v x)=>.eq x (zF l) (K ⟨s.T,setE id2 (.box (cs.set j (.sl els))) (rmE k s.E)⟩)
   |_=>.bad)
  |_,_=>.bad
 ok s K h B w0 ok0 ok σ a w hR:=by
  split at h
  ·rename_i l T sz els cs hk h2;split at h
   ·rename_i x hj;obtain⟨rfl,h⟩:=h;exact⟨_,_,σ,h,z7i hR k id2 j hk h2 hj⟩
   ·exact h.elim
  ·exact h.elim
def zYa(id j:Nat):HT where
 run s K:=match s.ent id with
  |some (.box cs)=>(match cs[j]? with
   |some (.v (.slice none 0 0))=>K ⟨s.T,setE id (.box (cs.set j (.sl []))) s.E⟩
   |_=>.bad)
  |_=>.bad
 ok s K h B w0 ok0 ok σ a w hR:=by
  split at h
  ·rename_i cs he;split at h
   ·rename_i hj;have e0:s.T.set s.T.length .bot=s.T:=List.set_eq_of_length_le (Nat.le_refl _);have hR1:=zHq (t:=s.T.length) (av:=.bot) hR he (e':=.box (cs.set j (.sl []))) (fun h=>by
     obtain⟨g,arr,T',g1,g2,g3⟩:=h;refine⟨g,arr,T',g1,g2,?_⟩;obtain⟨u,hu1,hu2⟩:=g3.get j _ hj;have huv:u=.slice none 0 0:=by cases hu2;rfl
     subst huv;have hset:=g3.set j (Rd.nl (ok:=ok) (w:=w) none 0);have:arr.toList.set j (.slice none 0 0)=arr.toList:=by
      apply List.ext_getElem?;intro q;rw[List.getElem?_set];split
      ·rename_i hq;subst hq;split
       ·exact hu1.symm
       ·rename_i hlt;rw[List.getElem?_eq_none (by omega)]
      ·rfl
     rwa [this]at hset) rfl trivial
    rw[e0]at hR1;exact⟨_,ok,σ,h,hR1⟩
   ·exact h.elim
  ·exact h.elim
def nilC:Tr→Tr
 | .v (.slice none 0 0)=>.sl []
 |c=>c
theorem z8J{ok:Nat→Prop}{w:World}{c:Tr}{x:Value}(h:Rd ok w c x):Rd ok w (nilC c) x:=by
 unfold nilC;split
 ·cases h;exact Rd.nl none 0
 ·exact h
theorem z5q{ok:Nat→Prop}{w:World}{cs:List Tr}{xs:List Value}(h:RdL ok w cs xs):RdL ok w (cs.map nilC) xs:=by
 induction h with
 |nil=>exact .nil
 |cons h hs ih=>exact .cons (z8J h) ih
def z9s(t:Nat):HT where
 run s K:=match s.get t with
  | .ag cs=>K ⟨s.T.set t (.ag (cs.map nilC)),s.E⟩
  |_=>.bad
 ok s K h B w0 ok0 ok σ a w hR:=by
  split at h
  ·rename_i cs ht;refine⟨_,ok,σ,h,⟨⟨by simpa using hR.core.len,hR.core.okL,hR.core.lib,fun u=>?_,hR.core.ent,hR.core.blk,hR.core.inj⟩,hR.defers,hR.below,hR.base,hR.old,hR.fresh,hR.own⟩⟩;have e0:=zCg s t u (.ag (cs.map nilC));unfold St.put at e0;have e1:(St.mk (s.T.set t (.ag (cs.map nilC))) s.E).get u=if t=u∧t<s.T.length then .ag (cs.map nilC) else s.get u:=e0;rw[e1];split
   ·rename_i hu;have h1:=hR.core.tmp t;rw[ht]at h1;obtain⟨vs,h2,h3⟩:=(h1:Rel1 ok σ w (.ag cs) (a.tmps.getD t undef))
    rw[←hu.1];exact⟨vs,h2,z5q h3⟩
   ·exact hR.core.tmp u
  ·exact h.elim
def KQ{β:Type}(rs:List RS)(k te sz:Nat)(t:β→Tr)(els1:β→List (List Tr))(E1:β→Loc→List (Nat×Ent))(σ:Nat→Loc):Exit→T P β→List Nat→St→OT:=fun e t' kn s'=>.and (KF rs (fun y=>(.c (t y),[])) e t' kn s') (match t' with
 | .ret y=>(match s'.ent k with
  |some (.qarr l te' sz' els)=>.eq te' te (.eq sz' sz (.eq els (els1 y) (hOT s' (pinE σ (E1 y l)))))
  |_=>.bad)
 |_=>.bad)
def OQ(P:Program){β:Type}(t:T P β)(o:Option β)(c:Code)(s:(Nat→Loc)→St)(rs:List RS)(k te sz:Nat)(E0:Loc→List (Nat×Ent))(tt:β→Tr)(els1:β→List (List Tr))(E1:β→Loc→List (Nat×Ent)):OT:=
 .eq o (t.den some) (.and (.all fun l=>.eq ((E0 l).lookup k) none .ok) (.and (.all fun y=>.all fun l=>.all fun l'=>.eq (zEg (E1 y l')) true (.eq (zBt (E1 y l')) (zBt (E0 l)) .ok)) (.all fun σ=>goV P 100000 t [] c (s σ) (KQ rs k te sz tt els1 E1 σ))))
theorem CqT{β:Type}(t:T P β){f:FuncId}{fn:Func}{c:Code}{args:List AV}(k te sz:Nat){E0:Loc→List (Nat×Ent)}{els0:List (List Tr)}{o:Option β}{r:β}(tt:β→Tr)(E1:β→Loc→List (Nat×Ent))(els1:β→List (List Tr)){rs:RS}{vs:ResultVar}(hf:P.funcs[f]?=some fn)(hb:fn.body=some c)(hvs:fn.results=[vs].toArray)(hfit:FitsL P [rs] [vs])(h:o=some r)
  (hO:OQ P t o c (fun σ=>⟨args++List.replicate (fn.ntmps - args.length) .bot,(k,.qarr (σ k) te sz els0)::pinE σ (E0 (σ k))⟩) [rs] k te sz E0 tt els1 E1=(OQ P t o c (fun σ=>⟨args++List.replicate (fn.ntmps - args.length) .bot,(k,.qarr (σ k) te sz els0)::pinE σ (E0 (σ k))⟩) [rs] k te sz E0 tt els1 E1).rf:=by kernel_rfl):zKb P f args k te sz E0 els0 (tt r) (E1 r) (els1 r):=by
 obtain⟨h1,h2,h3,h4⟩:=OT.of_rf _ hO;rw[h1]at h;refine zWd hf hb hvs hfit fn.ntmps rfl (fun l=>(h2 l).1) (fun l l'=>(h3 r l l').2.1) (fun l=>(h3 r l l).1) fun σ=>zBW 100000 t [] c _ _ (h4 σ) some r h _ fun e t' kn' s' hK ht=>?_
 have hP:=z7l hK.1 ht;refine⟨hP,?_⟩;have hK:=hK.2;split at hK
 ·injection ht with ht;subst ht;split at hK
  ·rename_i l te' sz' els hk;obtain⟨rfl,rfl,rfl,h5⟩:=hK;exact⟨l,hk,z2F h5⟩
  ·exact hK.elim
 ·exact hK.elim
end
def tbF{α:Type}(f:Nat→α):Nat→Nat→List α
 |0,_=>[]
 |n+1,k=>f k::tbF f n (k+1)
def tab{α:Type}(n:Nat)(f:Nat→α):List α:=tbF f n 0
def flA{α:Type}(c:α→List Tr):List α→List Tr
 |[]=>[]
 |x::xs=>c x++flA c xs
theorem zKz{α:Type}{n:Nat}{f:Nat→α}{i:Int}{v:α}(h:getA n f i=some v):0≤i∧i<n∧v=f i.toNat:=by
 cases i with
 |ofNat k=>
  have h:(bif Nat.blt k n then some (f k) else none)=some v:=h;cases hb:Nat.blt k n with
  |false=>rw[hb]at h;cases h
  |true=>rw[hb]at h;have h1:k<n:=Nat.le_of_ble_eq_true hb;injection h with h;exact⟨Int.natCast_nonneg k,Int.ofNat_lt.2 h1,h.symm⟩
 |negSucc k=>cases h
theorem z3d{α:Type}{c:α→List Tr}{sz:Nat}(hc:∀v,(c v).length=sz):∀xs:List α,(flA c xs).length=xs.length*sz
 |[]=>by simp[flA]
 |x::xs=>by simp only[flA,zf,hc,z3d hc xs,zg];rw[Nat.add_mul];omega
theorem z2v{α:Type}(f:Nat→α):∀n k:Nat,(tbF f n k).length=n
 |0,_=>rfl
 |n+1,k=>by simp[tbF,z2v f n (k+1)]
theorem zYs{α:Type}{c:α→List Tr}{sz:Nat}(hc:∀v,(c v).length=sz)(f:Nat→α):∀n k i:Nat,i<n→((flA c (tbF f n k)).drop (i*sz)).take sz=c (f (k+i))
 |0,_,i,h=>absurd h (Nat.not_lt_zero i)
 |n+1,k,0,_=>by simp[tbF,flA,List.take_append,hc]
 |n+1,k,i+1,h=>by
  have ih:=zYs hc f n (k+1) i (by omega);have e:(i+1)*sz=sz+i*sz:=by rw[Nat.add_mul];omega
  simp only[tbF,flA];rw[e,List.drop_append,hc,List.drop_eq_nil_of_le (by rw[hc];omega),zt,show sz+i*sz - sz=i*sz by omega,ih];congr 1;congr 1;omega
theorem zZp{α:Type}{f g:Nat→α}:∀n k:Nat,(∀j,k≤j→f j=g j)→tbF f n k=tbF g n k
 |0,_,_=>rfl
 |n+1,k,h=>by simp only[tbF];rw[h k (Nat.le_refl k),zZp n (k+1) fun j hj=>h j (by omega)]
theorem zYr{α:Type}{c:α→List Tr}{sz:Nat}(hc:∀v,(c v).length=sz)(f:Nat→α)(v:α):∀n k i:Nat,i<n→splice (flA c (tbF f n k)) (i*sz) (c v)=flA c (tbF (upA f (k+i) v) n k)
 |0,_,i,h=>absurd h (Nat.not_lt_zero i)
 |n+1,k,0,_=>by
  have e1:upA f (k+0) v k=v:=by simp[upA]
  have e2:tbF (upA f (k+0) v) n (k+1)=tbF f n (k+1):=zZp n (k+1) fun j hj=>by
   unfold upA;have:Nat.beq j (k+0)=false:=by
    cases hb:Nat.beq j (k+0) with
    |false=>rfl
    |true=>have:=Nat.eq_of_beq_eq_true hb;omega
   rw[this];rfl
  simp only[tbF,flA,e1,e2];simp[splice,hc,List.drop_append,List.drop_eq_nil_of_le]
 |n+1,k,i+1,h=>by
  have ih:=zYr hc f v n (k+1) i (by omega);have e:(i+1)*sz=sz+i*sz:=by rw[Nat.add_mul];omega
  have e1:upA f (k+(i+1)) v k=f k:=by
   unfold upA;have:Nat.beq k (k+(i+1))=false:=by
    cases hb:Nat.beq k (k+(i+1)) with
    |false=>rfl
    |true=>have:=Nat.eq_of_beq_eq_true hb;omega
   rw[this];rfl
  simp only[tbF,flA,e1];rw[show k+(i+1)=k+1+i by omega,←ih];unfold splice;rw[e,List.take_append,List.drop_append,hc,List.take_of_length_le (by rw[hc];omega),List.drop_eq_nil_of_le (by rw[hc];omega)];rw[show sz+i*sz - sz=i*sz by omega,hc,show sz+i*sz+sz - sz=i*sz+sz by omega];simp
section
variable {P:Program}
theorem z7X{o:Oper}{s:St}{t e:TypeId}{x ix:Operand}{k:IntKind}{N sz id off:Nat}{n:Int}(hu:P.underlying t=some (.array N e))(hsz:(P.info? e).map (·.size)=some sz)(ho:o.op=.indexAddr t x ix)(hi:s.ev ix=.c (.v (.int k n)))
  (h0:0≤n) (hn:n<N) (hx:s.ev x=.pt id off):Y0 P o s (.po id sz n.toNat off):=
 qN fun ok σ a w hC=>by
  have h1:=hC.ev x;rw[hx]at h1;obtain⟨g,h2,h3⟩:=(h1:Rel1 ok σ w (.pt id off) (a.eval x))
  refine⟨.pointer (some ⟨g,n.toNat*sz+off,none⟩),?_,⟨g,h2,rfl⟩⟩;have h4:=hC.exact hi;cases hii:P.info? e with
  |none=>rw[hii]at hsz;simp at hsz
  |some i=>
   have h5:i.size=sz:=by rw[hii]at hsz;simpa using hsz
   unfold execOp;rw[ho];simp[h3,h4,Instr.indexAt,asIntOf,run_underlying hu,Instr.sureAddr,sizeOf,typeInfo,hii,h5,h0,hn,zEX,Nat.add_comm off]
theorem qBS{o:Oper}{s:St}{t:TypeId}{x:Operand}{id sz i off n:Nat}{cs ds:List Tr}(hs:wide P t n)(ho:o.op=.load t x)(hx:s.ev x=.po id sz i off)(he:s.entc id=some (.box cs))(hd:(cs.drop (i*sz+off)).take n=ds)(hl:ds.length=n):Y0 P o s (.ag ds):=
 qN fun ok σ a w hC=>by
  have hr:=hC.ev x;rw[hx]at hr;have hr:Rel ok σ w (.pt id (i*sz+off)) (a.eval x):=hr;obtain⟨g,of2,h1,h2⟩:=zIU hC hr (cs:=cs.drop (i*sz+off)) (by simp only[zAs,he]);obtain⟨vs,h3,h4⟩:=zHm g of2 ds 0 fun j c hj=>by
   subst hd;have:=h2 j c (by
    rw[List.getElem?_take]at hj;split at hj
    ·exact hj
    ·cases hj)
   simpa using this
  have h5:=zIl (P:=P) hs (g:=g) (off:=of2) (by rw[←h3.len];exact hl) (fun j u hu=>by simpa using h4 j u hu);refine⟨.agg vs.toArray,?_,⟨_,rfl,by simpa using h3⟩⟩;unfold execOp;rw[ho];simp only[h1,Instr.loadAt,Instr.sureAddr,Sem.run_bind,Sem.run_pure,Result.andThen_ok,h5]
theorem X_stA{o:Oper}{s:St}{t:TypeId}{x y:Operand}{id sz i off:Nat}{cs vc:List Tr}(ho:o.op=.store t x y)(hd:o.dst=none)(hx:s.ev x=.po id sz i off)(he:s.ent id=some (.box cs))(hy:zCK (s.ev y)=some vc)(hi:(P.info? t).map (·.size)=some vc.length)(hl:i*sz+off+vc.length≤cs.length):
  X P o s ⟨s.T,setE id (.box (splice cs (i*sz+off) vc)) s.E⟩:=by
 intro B w0 ok0 ok σ a w hR K Q hK;obtain⟨g,arr,T,h1,h2,h3⟩:=hR.core.ent id _ he;have h4:=hR.core.ev x;rw[hx]at h4;obtain⟨g2,h5,h6⟩:=(h4:Rel1 ok σ w (.po id sz i off) (a.eval x))
 rw[h1]at h5;injection h5 with h5;subst h5;have h7:=zEW (hR.core.ev y) hy;have h8:=h7.len;have h9:=h3.len;have hrun:=zF2 (P:=P) (w:=w) (g:=g) (off:=i*sz+off) (y:=a.eval y) hi (by simpa using h8.symm) h2 (by simp at h9;omega) h7.one;unfold Oper.wp execOp;simp only[ho,h6,Instr.storeAt,Instr.sureAddr,Sem.run_bind,Sem.run_pure,Result.andThen_ok,hrun,Oper.upon,hd];refine hK _ _ ok σ (hR.write he h1 _ ⟨arr,T,h2⟩ _ (zBu id _ s.E _ he) fun hw=>?_);refine⟨g,_,T,h1,setRow_heap w g arr _ T _ h2,?_⟩;have hmono:∀q,ok q→(w.setRow g (splice arr.toList (i*sz+off) (a.eval y).cells.toList).toArray).heap[q]?=w.heap[q]?:=fun q hq=>hw q fun e=>(hR.core.blk id _ g he h1).1 (e▸hq)
 simpa using (h3.splice (i*sz+off) h7).mono (fun _ h=>h) hmono
theorem qB0{o:Oper}{s:St}{t:TypeId}{x y:Operand}{id sz i off:Nat}{l:Loc}{cs vc:List Tr}(ho:o.op=.store t x y)(hd:o.dst=none)(hx:s.ev x=.po id sz i off)(he:s.ent id=some (.pbox l cs))(hy:zCK (s.ev y)=some vc)(hi:(P.info? t).map (·.size)=some vc.length)(hl:i*sz+off+vc.length≤cs.length):
  X P o s ⟨s.T,setE id (.pbox l (splice cs (i*sz+off) vc)) s.E⟩:=by
 intro B w0 ok0 ok σ a w hR K Q hK;obtain⟨h0,g,arr,T,h1,h2,h3⟩:=hR.core.ent id _ he;have h4:=hR.core.ev x;rw[hx]at h4;obtain⟨g2,h5,h6⟩:=(h4:Rel1 ok σ w (.po id sz i off) (a.eval x))
 rw[h1]at h5;injection h5 with h5;subst h5;have h7:=zEW (hR.core.ev y) hy;have h8:=h7.len;have h9:=h3.len;have hrun:=zF2 (P:=P) (w:=w) (g:=g) (off:=i*sz+off) (y:=a.eval y) hi (by simpa using h8.symm) h2 (by simp at h9;omega) h7.one;unfold Oper.wp execOp;simp only[ho,h6,Instr.storeAt,Instr.sureAddr,Sem.run_bind,Sem.run_pure,Result.andThen_ok,hrun,Oper.upon,hd];refine hK _ _ ok σ (hR.write he h1 _ ⟨arr,T,h2⟩ _ (zBu id _ s.E _ he) fun hw=>?_);refine⟨h0,g,_,T,h1,setRow_heap w g arr _ T _ h2,?_⟩;have hmono:∀q,ok q→(w.setRow g (splice arr.toList (i*sz+off) (a.eval y).cells.toList).toArray).heap[q]?=w.heap[q]?:=fun q hq=>hw q fun e=>(hR.core.blk id _ g he h1).1 (e▸hq)
 simpa using (h3.splice (i*sz+off) h7).mono (fun _ h=>h) hmono
def ixA{α:Type}(N:Nat)(f:Nat→α)(n:Int):F0 P α where
 m:=getA N f n
 chk o s:=match o.op with
  | .indexAddr t x ix=>(match P.underlying t,s.ev x,s.ev ix with
   |some (.array N' e),.pt _ _,.c (.v (.int _ n'))=>.eq N' N (.eq n' n (.eq (zEf P e).isSome true .ok))
   |_,_,_=>.bad)
  |_=>.bad
 av o s _:=match o.op with
  | .indexAddr t x ix=>(match P.underlying t,s.ev x with
   |some (.array _ e),.pt id off=>.po id ((zEf P e).getD 0) n.toNat off
   |_,_=>.bot)
  |_=>.bot
 ok o s y hm h:=by
  obtain⟨g1,g2,_⟩:=zKz hm;split at h
  ·rename_i ho
   try simp only[ho]
   split at h
   ·rename_i N' e id off k n' hu hx hi;obtain⟨rfl,rfl,h3,_⟩:=h
    try simp only[hu,hx]
    obtain⟨z,hz⟩:=Option.isSome_iff_exists.mp h3;rw[hz];exact z7X hu hz ho hi g1 g2 hx
   ·exact h.elim
  ·exact h.elim
def ldA{α:Type}(d:CT α)(N:Nat)(f:Nat→α)(n:Int)(off:Nat):F0 P α where
 m:=getA N f n
 chk o s:=match o.op with
  | .load t x=>(match P.underlying t,s.ev x with
   |some D,.po id sz i of2=>(match s.entc id with
    |some (.box cs)=>.eq i n.toNat (.eq sz d.sz (.eq of2 off (.eq ((cs.drop off).take (N*d.sz)) (flA d.c (tab N f)) (.eq (aggD D) true (.eq (zEf P t) (some d.sz) .ok)))))
    |_=>.bad)
   |_,_=>.bad)
  |_=>.bad
 av _ _ y:=.ag (d.c y)
 ok o s y hm h:=by
  obtain⟨g1,g2,g3⟩:=zKz hm;split at h
  ·rename_i ho;split at h
   ·rename_i D id sz i of2 hu hx;split at h
    ·rename_i cs he;obtain⟨rfl,rfl,rfl,h4,h5,h6,_⟩:=h;refine qBS ⟨⟨D,hu,h5⟩,h6⟩ ho hx he ?_ (d.hc y)
     have h7:=zYs d.hc f N 0 n.toNat (by omega);rw[Nat.zero_add,←g3]at h7;rw[←h7];show _=List.take d.sz (List.drop (n.toNat*d.sz) (flA d.c (tab N f)));rw[←h4,List.drop_take,List.take_take,List.drop_drop];have e1:n.toNat*d.sz+d.sz≤N*d.sz:=by have:(n.toNat+1)*d.sz≤N*d.sz:=Nat.mul_le_mul_right _ (by omega);rw[Nat.add_mul]at this;omega
     rw[show min d.sz (N*d.sz - n.toNat*d.sz)=d.sz by omega,Nat.add_comm]
    ·exact h.elim
   ·exact h.elim
  ·exact h.elim
def stA{α:Type}(d:CT α)(N:Nat)(f:Nat→α)(n:Int)(off:Nat)(v:α):FX P (Nat→α) where
 m:=(getA N f n).map fun _=>upA f n.toNat v
 run o s g K:=match o.op,o.dst with
  | .store t x y,none=>(match s.ev x,zCK (s.ev y) with
   | .po id sz i of2,some vc=>(match s.ent id with
    |some (.box cs)=>.eq i n.toNat (.eq sz d.sz (.eq of2 off (.eq ((cs.drop off).take (N*d.sz)) (flA d.c (tab N f)) (.eq vc (d.c v) (.eq (zEf P t) (some d.sz) (.eq (Nat.blt 0 d.sz) true (K ⟨s.T,setE id (.box (cs.take off++(flA d.c (tab N g)++cs.drop (off+N*d.sz)))) s.E⟩)))))))
    |some (.pbox l cs)=>.eq i n.toNat (.eq sz d.sz (.eq of2 off (.eq ((cs.drop off).take (N*d.sz)) (flA d.c (tab N f)) (.eq vc (d.c v) (.eq (zEf P t) (some d.sz) (.eq (Nat.blt 0 d.sz) true (K ⟨s.T,setE id (.pbox l (cs.take off++(flA d.c (tab N g)++cs.drop (off+N*d.sz)))) s.E⟩)))))))
    |_=>.bad)
   |_,_=>.bad)
  |_,_=>.bad
 ok o s K g hm h:=by
  obtain⟨y,hy,hy2⟩:=Option.map_eq_some_iff.mp hm;obtain⟨g1,g2,g3⟩:=zKz hy;have e1:n.toNat*d.sz+d.sz≤N*d.sz:=by have:(n.toNat+1)*d.sz≤N*d.sz:=Nat.mul_le_mul_right _ (by omega);rw[Nat.add_mul]at this;omega
  have key:∀cs:List Tr,0<d.sz→(cs.drop off).take (N*d.sz)=flA d.c (tab N f)→off+N*d.sz≤cs.length∧splice cs (n.toNat*d.sz+off) (d.c v)=cs.take off++(flA d.c (tab N g)++cs.drop (off+N*d.sz)):=by
   intro cs hz h4;have h5:=z3d d.hc (tab N f);rw[←h4,List.length_take,List.length_drop,tab,z2v]at h5;have h6:0<N*d.sz:=by omega
   refine⟨by omega,?_⟩;have h7:=zYr d.hc f y N 0 n.toNat (by omega);rw[Nat.zero_add]at h7;have h8:flA d.c (tab N g)=splice ((cs.drop off).take (N*d.sz)) (n.toNat*d.sz) (d.c v):=by rw[h4];subst hy2;exact (zYr d.hc f v N 0 n.toNat (by omega)).symm▸(by rw[Nat.zero_add];rfl)
   rw[h8];unfold splice;rw[d.hc,List.take_take,show min (n.toNat*d.sz) (N*d.sz)=n.toNat*d.sz by omega,Nat.add_comm (n.toNat*d.sz) off,List.take_add,zu,zu,zu,zu];congr 2;congr 1;rw[←List.drop_append_of_le_length (by rw[List.length_take,List.length_drop];omega),show List.drop (off+N*d.sz) cs=List.drop (N*d.sz) (List.drop off cs) by rw[List.drop_drop],List.take_append_drop,List.drop_drop];congr 1;omega
  split at h
  ·rename_i t x y ho hd;split at h
   ·rename_i id sz i of2 vc hx hy3;split at h
    ·rename_i cs he;obtain⟨rfl,rfl,rfl,h4,rfl,h6,h7,h8⟩:=h;obtain⟨k1,k2⟩:=key cs (Nat.le_of_ble_eq_true h7) h4;refine zEa (X_stA ho hd hx he hy3 (by rw[d.hc];exact h6) (by rw[d.hc];omega)) ?_
     rw[k2];exact h8
    ·rename_i l cs he;obtain⟨rfl,rfl,rfl,h4,rfl,h6,h7,h8⟩:=h;obtain⟨k1,k2⟩:=key cs (Nat.le_of_ble_eq_true h7) h4;refine zEa (qB0 ho hd hx he hy3 (by rw[d.hc];exact h6) (by rw[d.hc];omega)) ?_
     rw[k2];exact h8
    ·exact h.elim
   ·exact h.elim
  ·exact h.elim
theorem qBT{o:Oper}{s:St}{t e:TypeId}{x ix:Operand}{k:IntKind}{N sz:Nat}{n:Int}{cs ds:List Tr}(hu:P.underlying t=some (.array N e))(hw:wide P e sz)(ho:o.op=.index t x ix)(hi:s.ev ix=.c (.v (.int k n)))
  (h0:0≤n) (hn:n<N) (hx:s.ev x=.ag cs) (hd:(cs.drop (n.toNat*sz)).take sz=ds):Y0 P o s (.ag ds):=
 qN fun ok σ a w hC=>by
  have h1:=hC.ev x;rw[hx]at h1;obtain⟨vs,h2,h3⟩:=(h1:Rel1 ok σ w (.ag cs) (a.eval x))
  have h4:=hC.exact hi;subst hd;obtain⟨⟨d,hd1,hd2⟩,hsz⟩:=hw;cases hii:P.info? e with
  |none=>rw[hii]at hsz;simp at hsz
  |some i=>
   have h8:i.size=sz:=by rw[hii]at hsz;simpa using hsz
   refine⟨.agg (vs.extract (n.toNat*sz) (n.toNat*sz+sz)),?_,⟨_,rfl,?_⟩⟩
   ·unfold execOp;rw[ho];simp[h2,h4,Instr.index,asIntOf,run_underlying hu,part,zPo hd1,hd2,sizeOf,typeInfo,hii,h8,h0,hn]
   ·have h5:=(h3.drop (n.toNat*sz)).take sz;have e:(vs.extract (n.toNat*sz) (n.toNat*sz+sz)).toList=(vs.toList.drop (n.toNat*sz)).take sz:=by
     rw[Array.toList_extract,List.extract_eq_take_drop];congr 1;omega
    rw[e];exact h5
theorem qBV{o:Oper}{s:St}{x:Operand}{src dst:TypeId}{k:IntKind}{k2:IntKind}{a:Int}(hs:P.underlying src=some (.int k2))(hd:P.underlying dst=some .string)(ho:o.op=.convert src dst x)(hx:s.ev x=.c (.v (.int k a))):Y0 P o s (.c (.v (.string (Utf8.encode a)))):=
 qN fun ok σ ac w hC=>by refine⟨.string (Utf8.encode a),?_,Rd.v _ rfl⟩;unfold execOp;rw[ho];simp[hC.exact hx,convert,run_underlying hs,run_underlying hd,Conv.intToString]
def i2s:N0 P where
 chk o s:=match o.op with
  | .convert src dst x=>(match P.underlying src,P.underlying dst,s.ev x with
   |some (.int _),some .string,.c (.v (.int _ _))=>.ok
   |_,_,_=>.bad)
  |_=>.bad
 av o s:=match o.op with
  | .convert _ _ x=>(match s.ev x with
   | .c (.v (.int _ a))=>.c (.v (.string (Utf8.encode a)))
   |_=>.bot)
  |_=>.bot
 ok o s h:=by
  split at h
  ·rename_i ho
   try simp only[ho]
   split at h
   ·rename_i hs hd hx
    try simp only[hx]
    exact qBV hs hd ho hx
   ·exact h.elim
  ·exact h.elim
def igA{α:Type}(d:CT α)(N:Nat)(f:Nat→α)(n:Int):F0 P α where
 m:=getA N f n
 chk o s:=match o.op with
  | .index t x ix=>(match P.underlying t,s.ev x,s.ev ix with
   |some (.array N' e),.ag cs,.c (.v (.int _ n'))=>(match P.underlying e with
    |some D=>.eq N' N (.eq n' n (.eq cs (flA d.c (tab N f)) (.eq (aggD D) true (.eq (zEf P e) (some d.sz) .ok))))
    |none=>.bad)
   |_,_,_=>.bad)
  |_=>.bad
 av _ _ y:=.ag (d.c y)
 ok o s y hm h:=by
  obtain⟨g1,g2,g3⟩:=zKz hm;split at h
  ·rename_i ho;split at h
   ·rename_i N' e cs k n' hu hx hi;split at h
    ·rename_i D hD;obtain⟨rfl,rfl,rfl,h4,h5,_⟩:=h;refine qBT hu ⟨⟨D,hD,h4⟩,h5⟩ ho hi g1 g2 hx ?_
     have h7:=zYs d.hc f N' 0 n'.toNat (by omega);rw[Nat.zero_add,←g3]at h7;exact h7
    ·exact h.elim
   ·exact h.elim
  ·exact h.elim
def shr{α:Type}(d:CT α)(xs:List α)(n:Int):FX P Unit where
 m:=slc xs.length 0 n
 run o s _ K:=match o.op,o.dst with
  | .slice t x none (some y) none,some k=>(match P.underlying t,s.ev x with
   |some (.slice e),.ow id=>(match s.ent id with
    |some (.arr e2 sz els)=>.eq e2 e (.eq sz d.sz (.eq (zEf P e) (some d.sz) (.eq els (xs.map d.c) (.eq (s.ev y) (.c (.v (.int .i64 n))) (K ⟨(zBs id s.T).set k (.ow id),setE id (.arr e d.sz ((subl xs 0 n).map d.c)) s.E⟩)))))
    |_=>.bad)
   |_,_=>.bad)
  |_,_=>.bad
 post _ o s _:=match o.op,o.dst with
  | .slice _ x _ _ _,some k=>(match s.ev x with
   | .ow id=>(match s.ent id with
    |some (.arr e sz _)=>some ⟨(zBs id s.T).set k (.ow id),setE id (.arr e sz ((subl xs 0 n).map d.c)) s.E⟩
    |_=>none)
   |_=>none)
  |_,_=>none
 ok o s K y hm h:=by
  split at h
  ·rename_i t x y k ho hd;split at h
   ·rename_i e id hu hx;split at h
    ·rename_i e2 sz els he;obtain⟨rfl,rfl,h3,rfl,h5,h6⟩:=h;exact zEa (z4k hu h3 ho hd hx he h5 hm) h6
    ·exact h.elim
   ·exact h.elim
  ·exact h.elim
def appB{α:Type}(d:CT α)(xs ys:List α):FX P Unit where
 m:=room (8*(xs.length+ys.length))
 run o s _ K:=match o.op,o.dst with
  | .call ⟨.builtin .append,⟨[x,y]⟩,⟨[t,t2]⟩⟩,some k=>(match P.underlying t,s.ev x with
   |some (.slice e),.ow id=>(match s.ent id,P.info? e with
    |some (.arr e2 sz els),some i=>(match i.zero,ys with
     |some z,_::_=>.eq t2 t (.eq e2 e (.eq sz d.sz (.eq i.size d.sz (.eq els (xs.map d.c) (.eq (zBp s (s.ev y)) (some (ys.map d.c)) (.eq (Nat.beq z.cells.size d.sz&&Nat.ble i.bytes 1024) true
       (K ⟨(zBs id s.T).set k (.ow id),setE id (.arr e d.sz ((xs++ys).map d.c)) s.E⟩)))))))
     |_,_=>.bad)
    |_,_=>.bad)
   |_,_=>.bad)
  |_,_=>.bad
 post _ o s _:=match o.op,o.dst with
  | .call ⟨_,⟨[x,_]⟩,_⟩,some k=>(match s.ev x with
   | .ow id=>(match s.ent id with
    |some (.arr e sz _)=>some ⟨(zBs id s.T).set k (.ow id),setE id (.arr e sz ((xs++ys).map d.c)) s.E⟩
    |_=>none)
   |_=>none)
  |_,_=>none
 ok o s K u hm h:=by
  split at h
  ·rename_i x y t t2 k ho hd;split at h
   ·rename_i e id hu hx;split at h
    ·rename_i e2 sz els i he hi;split at h
     ·rename_i z y0 ys0 hz;obtain⟨h1,h2,h3,h4,h5,h6,h7,h8⟩:=h;subst h1 h2 h3 h5;rw[zk]at h7;have hr:=zKn hm;have hb:=Nat.le_of_ble_eq_true h7.2;refine zEa ?_ h8
      rw[List.map_append];refine zX5 (bytes:=i.bytes) ho hd hu (by rw[hi];simp only[Option.map_some,hz,h4]) (Nat.eq_of_beq_eq_true h7.1) hx he h6 (fun el hel=>?_) (by simp) (by simp only[List.length_map];omega) ?_
      ·obtain⟨v,_,rfl⟩:=List.mem_map.1 hel;exact d.hc v
      ·simp only[List.length_map];have h9:xs.length+(y0::ys0).length≤137438953472:=by omega
       have:=Nat.mul_le_mul h9 hb;omega
     ·exact h.elim
    ·exact h.elim
   ·exact h.elim
  ·exact h.elim
theorem zOx{f:FuncId}{fn:Func}{c:Code}{args:List AV}{x:Nat}{cs:List Tr}(hf:P.funcs[f]?=some fn)(hb:fn.body=some c)(hvs:fn.results=[ResultVar.tmp x].toArray)(n:Nat)(hn:fn.ntmps=n)
  (h:V P c ⟨args++List.replicate (n - args.length) .bot,[]⟩ (fun e s=>(e=.normal∨e=.ret)∧∃id,s.get x=.pt id 0∧s.ent id=some (.box cs))):zC P f args (.pt 0 0) [(0,.box cs)]:=by
 intro ok σ w vs hok hlib hargs;refine calls_of_wp hf hb ?_
 subst hn;have hR:R ⟨fun g=>w.heap.size≤g,fun _=>False⟩ w ok ok σ ⟨args++List.replicate (fn.ntmps - args.length) .bot,[]⟩ {tmps:=vs.toArray++Array.replicate (fn.ntmps - vs.toArray.size) undef,defers:=[]} w:=by
  refine⟨⟨?_,hok,hlib,fun t=>hargs.init fn.ntmps t,fun id e he=>?_,fun id e g he=>?_,fun i j e f g he=>?_⟩,rfl,BelowX.refl _ _,fun _ h=>h,fun g hg=>hg,fun g hg=>.inl hg,fun id e g he=>?_⟩
  ·simp[hargs.len]
  all_goals
   simp[St.ent]at he
 refine wp_mono (h _ _ _ _ _ _ _ hR) ?_
 rintro e a' w' ⟨s',ok',σ',⟨he,id,hx,hid⟩,hR'⟩;have h1:=hR'.core.tmp x;rw[hx]at h1;obtain⟨g,hg,hv⟩:=(h1:Rel1 ok' σ' w' (.pt id 0) (a'.tmps.getD x undef))
 have h2:=hR'.own id _ g hid hg;rw[if_neg (fun hc=>by cases hc)]at h2;have hlk:∀k e,([(0,Ent.box cs)]:List (Nat×Ent)).lookup k=some e→k=0∧e=.box cs:=fun k e hk=>by obtain⟨a1,a2⟩:=zAK _ _ _ _ hk;exact⟨a1,a2.symm⟩
 have hres:(results fn a'.tmps).run P w'=.ok (a'.tmps.getD x undef) w':=z0P (t:=x) (by rw[hvs];rfl) a'.tmps w';have hfin:bodyPost P fn (fun e w'=>∃v ok' σ',e=.returned v∧New w w' ok ok' σ' (.pt 0 0) [(0,.box cs)] v) .ret a' w':=by
  refine⟨hR'.defers,_,hres,_,ok',fun _=>σ' id,rfl,hR'.below.to,hR'.old,hR'.fresh,hR'.core.okL,⟨g,hg,hv⟩,fun k e hk=>?_,fun e he=>?_,fun k e hk=>?_,fun k e q hk hq=>?_,fun i j e f q hi hj _ _=>?_,fun k e hk=>?_⟩
  ·rw[(hlk k e hk).1];omega
  ·show (0 / 8==e)=false;rw[zw];omega
  ·rw[(hlk k e hk).2];exact hR'.core.ent id _ hid
  ·rw[hg]at hq;injection hq with hq;subst hq;exact⟨h2,hR'.core.blk id _ g hid hg⟩
  ·rw[(hlk i e hi).1,(hlk j f hj).1]
  ·rw[(hlk k e hk).2];rfl
 rcases he with rfl|rfl
 ·exact hfin
 ·exact hfin
def KB{β:Type}(x:Nat)(cs:β→List Tr):Exit→T P β→List Nat→St→OT:=fun e t' _ s'=>match e,t' with
 | .normal,.ret y=>(match s'.get x with
  | .pt id off=>.eq off 0 (.eq (s'.ent id) (some (.box (cs y))) .ok)
  |_=>.bad)
 | .ret,.ret y=>(match s'.get x with
  | .pt id off=>.eq off 0 (.eq (s'.ent id) (some (.box (cs y))) .ok)
  |_=>.bad)
 |_,_=>.bad
def OB(P:Program){β:Type}(t:T P β)(o:Option β)(c:Code)(s:St)(x:Nat)(cs:β→List Tr):OT:=.eq o (t.den some) (goV P 100000 t [] c s (KB x cs))
theorem CbT{β:Type}(t:T P β){f:FuncId}{fn:Func}{c:Code}{args:List AV}{o:Option β}{r:β}(x:Nat)(cs:β→List Tr)(hf:P.funcs[f]?=some fn)(hb:fn.body=some c)(hvs:fn.results=[ResultVar.tmp x].toArray)(h:o=some r)
  (hO:OB P t o c ⟨args++List.replicate (fn.ntmps - args.length) .bot,[]⟩ x cs=(OB P t o c ⟨args++List.replicate (fn.ntmps - args.length) .bot,[]⟩ x cs).rf:=by kernel_rfl):zC P f args (.pt 0 0) [(0,.box (cs r))]:=by
 obtain⟨h1,h2⟩:=OT.of_rf _ hO;rw[h1]at h;refine zOx hf hb hvs fn.ntmps rfl (zBW 100000 t [] c _ _ h2 some r h _ fun e t' kn' s' hK ht=>?_);unfold KB at hK;split at hK
 ·injection ht with ht;subst ht;split at hK
  ·rename_i id off hx;obtain⟨rfl,h3,_⟩:=hK;exact⟨.inl rfl,id,hx,h3⟩
  ·exact hK.elim
 ·injection ht with ht;subst ht;split at hK
  ·rename_i id off hx;obtain⟨rfl,h3,_⟩:=hK;exact⟨.inr rfl,id,hx,h3⟩
  ·exact hK.elim
 ·exact hK.elim
end
end Go.Proofs.YtahdjphocippeaaGreatDoor
