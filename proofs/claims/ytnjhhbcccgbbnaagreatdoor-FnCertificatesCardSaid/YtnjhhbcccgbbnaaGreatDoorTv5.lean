/-
  Rules of walks, plain functions and their laws, part 5.
  Conditions: none.
-/
import Derived.Test.YtnjhhbcccgbbnaaGreatDoorRows
import Derived.Test.YtnjhhbcccgbbnaaGreatDoorTv4
set_option linter.unusedSimpArgs false
set_option linter.unusedVariables false
namespace Go.Proofs.YtnjhhbcccgbbnaaGreatDoor
open Go.RowKit
section
variable (P:Program)
def dslD(l:List Oper)(o:Oper):Option Nat:=match o.guard with
 |some (j,_)=>some j
 |none=>match o.op with
  | .pick (.tmp t) _ _=>some (idT t l 0)
  |_=>none
def opT:Operand→Option Nat
 | .tmp d=>some d
 |_=>none
def dtnD(rs:List Res):Option Nat→Option Nat
 |some d=>(match rs[d]? with
  |some (.r0 .tn)=>none
  |_=>some d)
 |none=>none
def goD:Nat→{β:Type}→T P β→List Nat→List Oper→List Nat→Nat→List (List Cd)→St→List Res→(T P β→St→OT)→OT
 |0,_,_,_,_,_,_,_,_,_,_=>.bad
 |n+1,β,t,kn,l,ms,n1,css,s0,rs,K=>match t with
  | .fail=>.ok
  | .frc v k=>goD n (k v) kn l ms n1 css s0 rs K
  | .lt v k=>goD n (k v) kn l ms n1 css s0 rs K
  | .bnd _ k=>.all fun y=>goD n (k y) kn l ms n1 css s0 rs K
  | .seqT t1 k=>goD n (sqT t1 k) kn l ms n1 css s0 rs K
  |t=>bif Nat.beq rs.length n1 then K t (fin (l.take n1) rs s0) else match l[rs.length]?,css[rs.length]? with
   |some o,some c=>match opn P t kn (dtnD rs (dslD l o)) with
    |some (d,b,t1,t2)=>.eq (rs[d]?) (some (.r0 (Bo b))) (.and (goD n t1 (d::kn) l ms n1 css s0 (rs.set d (.r0 (Bo true))) K) (goD n t2 (d::kn) l ms n1 css s0 (rs.set d (.r0 (Bo false))) K))
    |none=>match zRR P t kn (dtnD rs (dslD l o)) with
     |(t,kn)=>match (bif wv (appC c (l.take n1) rs s0) o then er1 P l ms n1 css s0 rs else none) with
      |some rs'=>goD n t kn l ms n1 css s0 rs' K
      |none=>.eq (yg l.toArray o (appC c (l.take n1) rs s0)) (some true) (match t with
       | .n0 F t'=>.and (F.chk o (appC c (l.take n1) rs s0)) (.eq (Nat.blt rs.length n1&&(zG6 ms rs.length (F.av o (appC c (l.take n1) rs s0)) 0 (l.take n1)&&o.dst.isSome)) true (goD n t' kn l ms n1 css s0 (rs++[.r0 (F.av o (appC c (l.take n1) rs s0))]) K))
       | .n1 F t'=>.and (F.chk o (appC c (l.take n1) rs s0)) (.eq (Nat.blt rs.length n1&&(zHE (F.ne o (appC c (l.take n1) rs s0))&&(makes o&&((F.av o (appC c (l.take n1) rs s0)).small&&o.dst.isSome)))) true (goD n t' kn l ms n1 css s0 (rs++[.r1 (F.av o (appC c (l.take n1) rs s0)) (F.ne o (appC c (l.take n1) rs s0))]) K))
       | .op0 F k=>.and (F.chk o (appC c (l.take n1) rs s0)) (.all fun y=>.eq (Nat.blt rs.length n1&&(zG6 ms rs.length (F.av o (appC c (l.take n1) rs s0) y) 0 (l.take n1)&&o.dst.isSome)) true (goD n (k y) kn l ms n1 css s0 (rs++[.r0 (F.av o (appC c (l.take n1) rs s0) y)]) K))
       | .op1 F k=>.and (F.chk o (appC c (l.take n1) rs s0)) (.all fun y=>.eq (Nat.blt rs.length n1&&(zHE (F.ne o (appC c (l.take n1) rs s0) y)&&(makes o&&((F.av o (appC c (l.take n1) rs s0) y).small&&o.dst.isSome)))) true (goD n (k y) kn l ms n1 css s0 (rs++[.r1 (F.av o (appC c (l.take n1) rs s0) y) (F.ne o (appC c (l.take n1) rs s0) y)]) K))
       |_=>.bad)
   |_,_=>.bad
def unpl{β:Type}(t:T P β):T P β:=match t with
 | .pl t'=>t'
 |t=>t
def undn{β:Type}(t:T P β):T P β:=match t with
 | .dn t'=>t'
 |t=>t
end
section
variable (P:Program)
inductive DN:Type 1
  |aut
  |n0 (F:N0 P)
  |n1 (F:N1 P)
  |f0 {α:Type} (F:F0 P α) (y:α)
  |f1 {α:Type} (F:F1 P α) (y:α)
  |fx {α:Type} (F:FX P α) (y:α)
  |hn (H:HT) (d:DN)
def allR{α:Type}:List α→(α→OT)→OT
 |[],_=>.ok
 |i::is,g=>.and (g i) (allR is g)
end
section
variable {P:Program}
theorem zVC{α:Type}{g:α→OT}:∀(is:List α),(allR is g).holds→∀i,i∈is→(g i).holds
 |[],_,i,hi=>by cases hi
 |j::is,h,i,hi=>by
  rcases List.mem_cons.1 hi with h1|h1
  ·subst h1;exact h.1
  ·exact zVC is h.2 i h1
def DN.good:DN P→Prop
 | .f0 F y=>F.m=some y
 | .f1 F y=>F.m=some y
 | .fx F y=>F.m=some y
 | .hn _ d=>d.good
 |_=>True
def DN.run:DN P→Oper→St→(St→OT)→OT
 | .aut,o,s,K=>(match wo P o s with
  |some s'=>K s'
  |none=>.bad)
 | .n0 F,o,s,K=>(match o.dst with
  |some d=>.and (F.chk o s) (K (s.put d (F.av o s)))
  |none=>.bad)
 | .n1 F,o,s,K=>(match o.dst with
  |some d=>.and (F.chk o s) (K (s.upd d (F.av o s) (F.ne o s)))
  |none=>.bad)
 | .f0 F y,o,s,K=>(match o.dst with
  |some d=>.and (F.chk o s) (K (s.put d (F.av o s y)))
  |none=>.bad)
 | .f1 F y,o,s,K=>(match o.dst with
  |some d=>.and (F.chk o s) (K (s.upd d (F.av o s y) (F.ne o s y)))
  |none=>.bad)
 | .fx F y,o,s,K=>F.run o s y K
 | .hn H d,o,s,K=>H.run s fun s'=>d.run o s' K
theorem DN.ok:∀(d:DN P)(o:Oper)(s:St)(K:St→OT),d.good→(d.run o s K).holds→XS P o s (fun s'=>(K s').holds)
 | .aut,o,s,K,_,h=>by
  unfold DN.run at h;split at h
  ·rename_i s' hs;exact zHz (z7q hs) h
  ·exact h.elim
 | .n0 F,o,s,K,_,h=>by
  unfold DN.run at h;split at h
  ·rename_i d hd;exact zHz (zAn hd (F.ok o s h.1)) h.2
  ·exact h.elim
 | .n1 F,o,s,K,_,h=>by
  unfold DN.run at h;split at h
  ·rename_i d hd;exact zHz (zE1 hd (F.ok o s h.1)) h.2
  ·exact h.elim
 | .f0 F y,o,s,K,hg,h=>by
  unfold DN.run at h;split at h
  ·rename_i d hd;exact zHz (zAn hd (F.ok o s y hg h.1)) h.2
  ·exact h.elim
 | .f1 F y,o,s,K,hg,h=>by
  unfold DN.run at h;split at h
  ·rename_i d hd;exact zHz (zE1 hd (F.ok o s y hg h.1)) h.2
  ·exact h.elim
 | .fx F y,o,s,K,hg,h=>F.ok o s K y hg h
 | .hn H d,o,s,K,hg,h=>by intro B w0 ok0 ok σ a w hR K2 Q hK;obtain⟨s',ok',σ',h1,h2⟩:=H.ok s _ h _ _ _ _ _ _ _ hR;exact DN.ok d o s' K hg h1 _ _ _ _ _ _ _ h2 K2 Q hK
def zOg:List HT→DN P→DN P
 |[],d=>d
 |H::hs,d=>.hn H (zOg hs d)
theorem zSv:∀(hs:List HT)(d:DN P),d.good→(zOg hs d).good
 |[],_,h=>h
 |_::hs,d,h=>zSv hs d h
def goP:Nat→{β:Type}→T P β→List Nat→List HT→List (DN P)→(T P β→List (DN P)→OT)→OT
 |0,_,_,_,_,_,_=>.bad
 |f+1,β,t,au,hs,acc,K=>match au with
  |[]=>K t acc
  |b::au'=>match Nat.beq b 1 with
   |true=>goP f t au' hs (acc++[.aut]) K
   |false=>match t with
    | .hint H t'=>goP f t' au (hs++[H]) acc K
    | .late H t'=>goP f t' au (hs++[H]) acc K
    | .fail=>.ok
    |t=>match Nat.beq b 2 with
     |true=>goP f t au' [] (acc++[zOg hs .aut]) K
     |false=>match t with
      | .n0 F t'=>goP f t' au' [] (acc++[zOg hs (.n0 F)]) K
      | .n1 F t'=>goP f t' au' [] (acc++[zOg hs (.n1 F)]) K
      | .op0 F k=>.all fun y=>goP f (k y) au' [] (acc++[zOg hs (.f0 F y)]) K
      | .op1 F k=>.all fun y=>goP f (k y) au' [] (acc++[zOg hs (.f1 F y)]) K
      | .opx F k=>.all fun y=>goP f (k y) au' [] (acc++[zOg hs (.fx F y)]) K
      |_=>.bad
theorem zI3:∀(f:Nat){β:Type}(t:T P β)(au:List Nat)(hs:List HT)(acc:List (DN P))(K:T P β→List (DN P)→OT),(goP f t au hs acc K).holds→(∀d,d∈acc→d.good)→
  ∀{ρ:Type}(k:β→Option ρ)(r:ρ),t.den k=some r→∃t' ds,(∀d,d∈ds→DN.good d)∧T.den t' k=some r∧(K t' ds).holds
 |0,_,_,_,_,_,_,h=>h.elim
 |f+1,β,t,au,hs,acc,K,h=>by
  intro ha ρ k r hd;have ha2:∀d0:DN P,d0.good→∀d,d∈acc++[zOg hs d0]→d.good:=by
   intro d0 h0 d hdm;rcases List.mem_append.1 hdm with h1|h1
   ·exact ha d h1
   ·rw[qc]at h1;subst h1;exact zSv hs d0 h0
  have ha3:∀d,d∈acc++[(DN.aut:DN P)]→d.good:=by
   intro d hdm;rcases List.mem_append.1 hdm with h1|h1
   ·exact ha d h1
   ·rw[qc]at h1;subst h1;trivial
  unfold goP at h;split at h
  ·exact⟨t,acc,ha,hd,h⟩
  ·split at h
   ·exact zI3 f _ _ _ _ _ h ha3 k r hd
   ·split at h
    ·exact zI3 f _ _ _ _ _ h ha k r hd
    ·exact zI3 f _ _ _ _ _ h ha k r hd
    ·cases hd
    ·split at h
     ·exact zI3 f _ _ _ _ _ h (ha2 _ trivial) k r hd
     ·split at h
      ·exact zI3 f _ _ _ _ _ h (ha2 _ trivial) k r hd
      ·exact zI3 f _ _ _ _ _ h (ha2 _ trivial) k r hd
      ·rename_i F g _ _ _;obtain⟨y,h1,h2⟩:=zA (show F.m.bind (fun y=>(g y).den k)=some r from hd);exact zI3 f _ _ _ _ _ (h y) (ha2 (.f0 F y) h1) k r h2
      ·rename_i F g _ _ _;obtain⟨y,h1,h2⟩:=zA (show F.m.bind (fun y=>(g y).den k)=some r from hd);exact zI3 f _ _ _ _ _ (h y) (ha2 (.f1 F y) h1) k r h2
      ·rename_i F g _ _ _;obtain⟨y,h1,h2⟩:=zA (show F.m.bind (fun y=>(g y).den k)=some r from hd);exact zI3 f _ _ _ _ _ (h y) (ha2 (.fx F y) h1) k r h2
      ·exact h.elim
def goL(l:List Oper)(ms:List Nat)(ds:List (DN P)):Nat→Nat→St→(St→OT)→OT
 |0,_,_,_=>.bad
 |f+1,mask,s,K=>bif Nat.beq mask (2 ^l.length - 1) then K s else allR (zIX ms mask l.length) fun i=>match l[i]?,ds[i]? with
  |some o,some d=>(match o.guard with
   |none=>d.run o s fun s'=>goL l ms ds f (mask|||2 ^i) s' K
   |some _=>.bad)
  |_,_=>.bad
theorem zYH{l:List Oper}{ms:List Nat}{ds:List (DN P)}{K:St→OT}{Q:Exit→Act→World→Prop}{B:Fr}{w0:World}{ok0:Nat→Prop}(hc:chk1 ms l.length 0 l=true)(hds:∀d,d∈ds→d.good)
  (hQ:∀s ok σ a w,(K s).holds→R B w0 ok0 ok σ s a w→Q .normal a w):
  ∀(fuel g:Nat)(listed:Array Bool)(mask:Nat)(s:St)(ok:Nat→Prop)(σ:Nat→Loc)(a:Act)(w:World),listed.size=l.length→(∀j,listed.getD j false=mask.testBit j)→(∀j,listed.getD j false=true→∀m,(ms.getD j 0).testBit m=true→listed.getD m false=true)→
   left l.length (fun j=>listed.getD j false)≤fuel→(goL l ms ds g mask s K).holds→R B w0 ok0 ok σ s a w→wpAny P .any l.toArray Q fuel listed a w:=by
 have full:∀(listed:Array Bool)(mask:Nat),listed.size=l.length→(∀j,listed.getD j false=mask.testBit j)→(∀j,j<l.length→listed.getD j false=true)→mask=2 ^l.length - 1:=by
  intro listed mask hs hm hall;apply Nat.eq_of_testBit_eq;intro j;rw[Nat.testBit_two_pow_sub_one,←hm];by_cases hj:j<l.length
  ·rw[hall j hj];simp[hj]
  ·have:listed.getD j false=false:=by
    rw[Array.getD_eq_getD_getElem?,Array.getElem?_eq_none (by omega)];rfl
   rw[this];simp[hj]
 have done:∀(g mask:Nat)(s:St),mask=2 ^l.length - 1→(goL l ms ds g mask s K).holds→(K s).holds:=by
  intro g mask s hmask h;cases g with
  |zero=>exact h.elim
  |succ g=>unfold goL at h;rw[hmask,Nat.beq_refl,za]at h;exact h
 intro fuel
 induction fuel with
 |zero=>
  intro g listed mask s ok σ a w hs hm hcl hf hl hR;have hall:=zMy (Nat.le_zero.1 hf);have hnil:Region.ready .any l.toArray listed=[]:=by
   rw[List.eq_nil_iff_forall_not_mem];intro i hi;obtain⟨h1,o,h3,_⟩:=(zEd hs i).1 hi;have hlt:i<l.length:=by
    rcases Nat.lt_or_ge i l.length with h4|h4
    ·exact h4
    ·rw[List.getElem?_eq_none h4]at h3;cases h3
   rw[hall i hlt]at h1;cases h1
  exact⟨hnil,hQ s ok σ a w (done g mask s (full listed mask hs hm hall) hl) hR⟩
 |succ fuel ih=>
  intro g listed mask s ok σ a w hs hm hcl hf hl hR;refine⟨fun hnil=>?_,fun i hi=>?_⟩
  ·refine hQ s ok σ a w (done g mask s (full listed mask hs hm fun j hj=>?_) hl) hR;cases h3:listed.getD j false with
   |true=>rfl
   |false=>exact absurd hnil (zIO hc hs j hj h3)
  ·have hbits:=zHD hc hs hi hcl;obtain⟨h1,o,h3,_⟩:=(zEd hs i).1 hi;have hlt:i<l.length:=by
    rcases Nat.lt_or_ge i l.length with h4|h4
    ·exact h4
    ·rw[List.getElem?_eq_none h4]at h3;cases h3
   have hmem:=zKm ms mask _ i hlt (by rw[←hm];exact h1) fun j hj=>by rw[←hm];exact hbits j hj
   cases g with
   |zero=>exact hl.elim
   |succ g=>
    unfold goL at hl;have hnb:Nat.beq mask (2 ^l.length - 1)=false:=by
     cases hb:Nat.beq mask (2 ^l.length - 1) with
     |false=>rfl
     |true=>have:=Nat.eq_of_beq_eq_true hb;rw[hm,this,Nat.testBit_two_pow_sub_one]at h1;simp[hlt]at h1
    rw[hnb,cond_false]at hl;have hl2:=zVC _ hl i hmem;simp only[h3]at hl2;split at hl2
    ·rename_i o2 d he1 he2;injection he1 with he1;subst he1;split at hl2
     ·rename_i hguard;have hx:=DN.ok d o s _ (hds d (List.mem_of_getElem? he2)) hl2;have hset:=zFb listed i (by omega);have hleft:=zP4 hs hlt h1;unfold wpOp;rw[show l.toArray[i]?=l[i]? by simp,h3];simp only;rw[if_pos (zG0 hR.core (.inl hguard))];refine .inl (hx B w0 ok0 ok σ a w hR _ Q fun s' a' w' ok' σ' hI hR'=>?_);refine ih g (listed.setIfInBounds i true) (mask|||2 ^i) s' ok' σ' a' w' (by simpa using hs) (fun j=>?_) (fun j hj m hmm=>?_) (by omega) hI hR'
      ·rw[hset,Nat.testBit_or,Nat.testBit_two_pow,←hm];by_cases hj:j=i
       ·subst hj;simp
       ·rw[if_neg hj];have:decide (i=j)=false:=by simp;exact fun e=>hj e.symm
        rw[this,Bool.or_false]
      ·rw[hset]at hj ⊢;split
       ·rfl
       ·by_cases hji:j=i
        ·subst hji;exact hbits m hmm
        ·rw[if_neg hji]at hj;exact hcl j hj m hmm
     ·exact hl2.elim
    ·exact hl2.elim
theorem z7g{id:Nat}{l:List Oper}{ms:List Nat}{ds:List (DN P)}{K:St→OT}{s:St}{J:Exit→St→Prop}{g:Nat}(hm:P.follows .mixedOrders=true)(hc:chk1 ms l.length 0 l=true)(hds:∀d,d∈ds→d.good)(h:(goL l ms ds g 0 s K).holds)(hJ:∀s',(K s').holds→J .normal s'):
  V P (.region id l.toArray true) s J:=by
 intro B w0 ok0 ok σ a w hR;refine wp_region_any hm ?_
 have hrep:∀j,(Array.replicate l.toArray.size false).getD j false=false:=by intro j;rw[Array.getD_eq_getD_getElem?,Array.getElem?_replicate];split<;>rfl
 refine zYH (B:=B) (w0:=w0) (ok0:=ok0) hc hds (fun s' ok' σ' a' w' hK hR'=>⟨s',ok',σ',hJ s' hK,hR'⟩) l.toArray.size g _ 0 s ok σ a _ (by simp) (fun j=>by rw[hrep j,Nat.zero_testBit]) (fun j hj=>by rw[hrep j]at hj;cases hj) ?_ h hR.drew
 unfold left;refine Nat.le_trans List.countP_le_length ?_
 simp
def DN.post(γ:Nat→Loc):DN P→Oper→St→Option St
 | .aut,o,s=>wo P o s
 | .n0 F,o,s=>(match o.dst with
  |some d=>some (s.put d (F.av o s))
  |none=>none)
 | .n1 F,o,s=>(match o.dst with
  |some d=>some (s.upd d (F.av o s) (F.ne o s))
  |none=>none)
 | .f0 F y,o,s=>(match o.dst with
  |some d=>some (s.put d (F.av o s y))
  |none=>none)
 | .f1 F y,o,s=>(match o.dst with
  |some d=>some (s.upd d (F.av o s y) (F.ne o s y))
  |none=>none)
 | .fx F y,o,s=>F.post γ o s y
 | .hn H d,o,s=>(match H.post s with
  |some s'=>d.post γ o s'
  |none=>none)
def z4b(s:St):List (Nat×Ent)→OT
 |[]=>.ok
 |p::ps=>.eq (s.ent p.1) (some p.2) (z4b s ps)
theorem zZm{s:St}:∀{E:List (Nat×Ent)},(z4b s E).holds→HasE s E
 |[],_=>trivial
 |(k,e)::ps,h=>⟨h.1,zZm h.2⟩
def bldM(gh:Bool)(l:List Oper)(ds:List (DN P))(s0:St):List Nat→List (Nat×((Nat→Loc)→St))→(List (Nat×((Nat→Loc)→St))→OT)→OT
 |[],tab,K=>K tab
 |m::ms,tab,K=>match l[Nat.log2 m]?,ds[Nat.log2 m]?,tab.lookup (m - 2 ^Nat.log2 m) with
  |some o,some d,some S=>(match gh with
   |true=>bldM gh l ds s0 ms ((m,fun γ=>(d.post γ o (S γ)).getD s0)::tab) K
   |false=>(match d.post (fun _=>loc0) o (S fun _=>loc0) with
    |some s'=>bldM gh l ds s0 ms ((m,fun _=>s')::tab) K
    |none=>.eq m 0 .bad))
  |_,_,_=>.eq m 1 .bad
def stM(l:List Oper)(ds:List (DN P))(f1:Nat)(tab:List (Nat×((Nat→Loc)→St)))(m:Nat)(s:St)(i:Nat):OT:=match l[i]?,ds[i]?,tab.lookup (m|||2 ^i) with
 |some o,some d,some S2=>(match o.guard with
  |none=>.eq (Nat.ble (m|||2 ^i) f1) true (d.run o s fun s'=>.eq (S2 s'.locs).T s'.T (z4b s' (S2 s'.locs).E))
  |some _=>.bad)
 |_,_,_=>.eq (m,i) (0,0) .bad
def trM(l:List Oper)(ms:List Nat)(ds:List (DN P))(f1:Nat)(tab:List (Nat×((Nat→Loc)→St))):List (Nat×((Nat→Loc)→St))→OT
 |[]=>.ok
 |p::ps=>.and (bif Nat.beq p.1 f1 then .ok else .all fun γ=>allR (zIX ms p.1 l.length) fun i=>stM l ds f1 tab p.1 (p.2 γ) i) (trM l ms ds f1 tab ps)
theorem z2X{gh:Bool}{l:List Oper}{ds:List (DN P)}{s0:St}{K:List (Nat×((Nat→Loc)→St))→OT}:∀(ms:List Nat)(tab:List (Nat×((Nat→Loc)→St))),(bldM gh l ds s0 ms tab K).holds→∃tab',(K tab').holds∧∀S,tab.lookup 0=some S→(∀m,m∈ms→m≠0)→tab'.lookup 0=some S
 |[],tab,h=>⟨tab,h,fun s hs _=>hs⟩
 |m::ms,tab,h=>by
  have go:∀S',(bldM gh l ds s0 ms ((m,S')::tab) K).holds→∃tab',(K tab').holds∧∀S,tab.lookup 0=some S→(∀q,q∈m::ms→q≠0)→tab'.lookup 0=some S:=by
   intro S' h;obtain⟨tab',h1,h2⟩:=z2X ms _ h;refine⟨tab',h1,fun s hs hm=>h2 s ?_ fun q hq=>hm q (zl _ hq)⟩;have:(0==m)=false:=by rw[zr];exact fun e=>hm m zk e.symm
   simp only[List.lookup,this];exact hs
  unfold bldM at h;split at h
  ·split at h
   ·exact go _ h
   ·split at h
    ·exact go _ h
    ·exact h.2.elim
  ·exact h.2.elim
theorem z3h{l:List Oper}{ms:List Nat}{ds:List (DN P)}{f1:Nat}{tab:List (Nat×((Nat→Loc)→St))}:∀(ps:List (Nat×((Nat→Loc)→St))),(trM l ms ds f1 tab ps).holds→∀m S,ps.lookup m=some S→m≠f1→∀γ,(allR (zIX ms m l.length) fun i=>stM l ds f1 tab m (S γ) i).holds
 |[],_,m,s,h,_=>by simp at h
 |(q,t)::ps,h,m,s,hl,hne=>by
  simp only[List.lookup]at hl;cases hq:m==q with
  |true=>
   have:m=q:=by simpa using hq
   subst this;rw[hq]at hl;injection hl with hl;subst hl;have h1:=h.1;have:Nat.beq m f1=false:=by
    cases hb:Nat.beq m f1 with
    |false=>rfl
    |true=>exact absurd (Nat.eq_of_beq_eq_true hb) hne
   simp only[this,cond_false]at h1;exact h1
  |false=>rw[hq]at hl;exact z3h ps h.2 m s hl hne
def nz0:List Nat→Bool
 |[]=>true
 |m::ms=>!Nat.beq m 0&&nz0 ms
theorem z4S:∀{ms:List Nat},nz0 ms=true→∀m,m∈ms→m≠0
 |m::ms,h,q,hq=>by
  simp only[nz0,zh,Bool.not_eq_true']at h;rcases List.mem_cons.1 hq with h1|h1
  ·subst h1;intro e;subst e;exact absurd h.1 (by decide)
  ·exact z4S h.2 q h1
theorem z8z{l:List Oper}{ms:List Nat}{ds:List (DN P)}{K:St→OT}{Q:Exit→Act→World→Prop}{B:Fr}{w0:World}{ok0:Nat→Prop}{f1 g:Nat}{tab:List (Nat×((Nat→Loc)→St))}{s1:(Nat→Loc)→St}(hf1:f1≤2 ^l.length - 1)(hc:chk1 ms l.length 0 l=true)(hds:∀d,d∈ds→d.good)
  (ht:(trM l ms ds f1 tab tab).holds) (h1:tab.lookup f1=some s1) (hg:∀γ,(goL l ms ds g f1 (s1 γ) K).holds) (hQ:∀s ok σ a w,(K s).holds→R B w0 ok0 ok σ s a w→Q .normal a w):
  ∀(fuel:Nat)(listed:Array Bool)(mask:Nat)(s:(Nat→Loc)→St)(γ:Nat→Loc)(ok:Nat→Prop)(σ:Nat→Loc)(a:Act)(w:World),listed.size=l.length→(∀j,listed.getD j false=mask.testBit j)→(∀j,listed.getD j false=true→∀m,(ms.getD j 0).testBit m=true→listed.getD m false=true)→
   left l.length (fun j=>listed.getD j false)≤fuel→tab.lookup mask=some s→mask≤f1→R B w0 ok0 ok σ (s γ) a w→wpAny P .any l.toArray Q fuel listed a w:=by
 intro fuel
 induction fuel with
 |zero=>
  intro listed mask s γ ok σ a w hs hm hcl hf hl hfull hR;by_cases he:mask=f1
  ·subst he;rw[h1]at hl;injection hl with hl;subst hl;exact zYH hc hds hQ 0 g listed mask (s1 γ) ok σ a w hs hm hcl hf (hg γ) hR
  ·exfalso
   have hall:=zMy (Nat.le_zero.1 hf);have hmask:mask=2 ^l.length - 1:=by
    apply Nat.eq_of_testBit_eq;intro j;rw[Nat.testBit_two_pow_sub_one,←hm];by_cases hj:j<l.length
    ·rw[hall j hj];simp[hj]
    ·have:listed.getD j false=false:=by
      rw[Array.getD_eq_getD_getElem?,Array.getElem?_eq_none (by omega)];rfl
     rw[this];simp[hj]
   omega
 |succ fuel ih=>
  intro listed mask s γ ok σ a w hs hm hcl hf hl hfull hR;by_cases he:mask=f1
  ·subst he;rw[h1]at hl;injection hl with hl;subst hl;exact zYH hc hds hQ (fuel+1) g listed mask (s1 γ) ok σ a w hs hm hcl hf (hg γ) hR
  ·have hst:=z3h tab ht mask s hl he γ;refine⟨fun hnil=>?_,fun i hi=>?_⟩
   ·exfalso
    have hall:∀j,j<l.length→listed.getD j false=true:=fun j hj=>by
     cases h3:listed.getD j false with
     |true=>rfl
     |false=>exact absurd hnil (zIO hc hs j hj h3)
    have hmask:mask=2 ^l.length - 1:=by
     apply Nat.eq_of_testBit_eq;intro j;rw[Nat.testBit_two_pow_sub_one,←hm];by_cases hj:j<l.length
     ·rw[hall j hj];simp[hj]
     ·have:listed.getD j false=false:=by
       rw[Array.getD_eq_getD_getElem?,Array.getElem?_eq_none (by omega)];rfl
      rw[this];simp[hj]
    omega
   ·have hbits:=zHD hc hs hi hcl;obtain⟨h2,o,h3,_⟩:=(zEd hs i).1 hi;have hlt:i<l.length:=by
     rcases Nat.lt_or_ge i l.length with h4|h4
     ·exact h4
     ·rw[List.getElem?_eq_none h4]at h3;cases h3
    have hmem:=zKm ms mask _ i hlt (by rw[←hm];exact h2) fun j hj=>by rw[←hm];exact hbits j hj
    have hl2:=zVC _ hst i hmem;unfold stM at hl2;simp only[h3]at hl2;split at hl2
    ·rename_i o2 d s2 he1 he2 he3;injection he1 with he1;subst he1;split at hl2
     ·rename_i hguard;obtain⟨hble,hl2⟩:=hl2;have hble:=Nat.le_of_ble_eq_true hble;have hx:=DN.ok d o (s γ) _ (hds d (List.mem_of_getElem? he2)) hl2;have hset:=zFb listed i (by omega);have hleft:=zP4 hs hlt h2;unfold wpOp;rw[show l.toArray[i]?=l[i]? by simp,h3];simp only;rw[if_pos (zG0 hR.core (.inl hguard))];refine .inl (hx B w0 ok0 ok σ a w hR _ Q fun s' a' w' ok' σ' hI hR'=>?_);obtain⟨hT,hE⟩:=hI;have hE:=zZm hE;have hle:Le (s2 s'.locs) s':=⟨by rw[hT];exact Nat.le_refl _,fun t=>.inr (by unfold St.get;rw[hT]),fun id e he=>zNG s' (s2 s'.locs).E id e hE he⟩
      by_cases hff:mask|||2 ^i=f1
      ·rw[hff,h1]at he3;injection he3 with he3;subst he3;refine zYH hc hds hQ fuel g (listed.setIfInBounds i true) f1 (s1 s'.locs) ok' σ' a' w' (by simpa using hs) (fun j=>?_) (fun j hj m hmm=>?_) (by omega) (hg _) (hR'.le hle)
       ·rw[hset,←hff,Nat.testBit_or,Nat.testBit_two_pow,←hm];by_cases hj:j=i
        ·subst hj;simp
        ·rw[if_neg hj];have:decide (i=j)=false:=by simp;exact fun e=>hj e.symm
         rw[this,Bool.or_false]
       ·rw[hset]at hj ⊢;split
        ·rfl
        ·by_cases hji:j=i
         ·subst hji;exact hbits m hmm
         ·rw[if_neg hji]at hj;exact hcl j hj m hmm
      ·refine ih (listed.setIfInBounds i true) (mask|||2 ^i) s2 s'.locs ok' σ' a' w' (by simpa using hs) (fun j=>?_) (fun j hj m hmm=>?_) (by omega) he3 hble (hR'.le hle)
       ·rw[hset,Nat.testBit_or,Nat.testBit_two_pow,←hm];by_cases hj:j=i
        ·subst hj;simp
        ·rw[if_neg hj];have:decide (i=j)=false:=by simp;exact fun e=>hj e.symm
         rw[this,Bool.or_false]
       ·rw[hset]at hj ⊢;split
        ·rfl
        ·by_cases hji:j=i
         ·subst hji;exact hbits m hmm
         ·rw[if_neg hji]at hj;exact hcl j hj m hmm
     ·exact hl2.elim
    ·exact hl2.2.elim
theorem z7f{id n1:Nat}{l:List Oper}{ms:List Nat}{ds:List (DN P)}{K:St→OT}{s:St}{s1:(Nat→Loc)→St}{J:Exit→St→Prop}{g:Nat}{tab:List (Nat×((Nat→Loc)→St))}(hn:n1≤l.length)(hm:P.follows .mixedOrders=true)(hc:chk1 ms l.length 0 l=true)(hds:∀d,d∈ds→d.good)
  (ht:(trM l ms ds (2 ^n1 - 1) tab tab).holds) (h1:tab.lookup (2 ^n1 - 1)=some s1) (h:∀γ,(goL l ms ds g (2 ^n1 - 1) (s1 γ) K).holds) (h0:tab.lookup 0=some fun _=>s) (hJ:∀s',(K s').holds→J .normal s'):
  V P (.region id l.toArray true) s J:=by
 intro B w0 ok0 ok σ a w hR;refine wp_region_any hm ?_
 have hrep:∀j,(Array.replicate l.toArray.size false).getD j false=false:=by intro j;rw[Array.getD_eq_getD_getElem?,Array.getElem?_replicate];split<;>rfl
 have hf1:2 ^n1 - 1≤2 ^l.length - 1:=Nat.sub_le_sub_right (Nat.pow_le_pow_right (by omega) hn) 1;refine z8z (B:=B) (w0:=w0) (ok0:=ok0) hf1 hc hds ht h1 h (fun s' ok' σ' a' w' hK hR'=>⟨s',ok',σ',hJ s' hK,hR'⟩) l.toArray.size _ 0 (fun _=>s) (fun _=>loc0) ok σ a _ (by simp) (fun j=>by rw[hrep j,Nat.zero_testBit]) (fun j hj=>by rw[hrep j]at hj;cases hj) ?_ h0 (Nat.zero_le _) hR.drew
 unfold left;refine Nat.le_trans List.countP_le_length ?_
 simp
end
section
variable (P:Program)
def goR{β:Type}(g:T P β→St→(Exit→T P β→List Nat→St→OT)→OT):Nat→T P β→St→(Exit→T P β→List Nat→St→OT)→OT
 |0,_,_,_=>.bad
 |j+1,t,s,K=>g t s fun e t' kn' s'=>match e with
  | .normal=>goR g j t' s' K
  |e=>K e t' kn' s'
def mtK{α:Type}(m:List Bool)(ids:List Nat)(S:St→α→(Nat→Loc)→St)(s:St):Exit→T P α→List Nat→St→OT:=fun e t' _ s'=>match e,t' with
 | .normal,.ret a=>.eq (s'.kp m ids) (S s a s'.locs) .ok
 |_,_=>.bad
def mtKS{α γ β:Type}(m:List Bool)(ids:List Nat)(S:St→α→(Nat→Loc)→St)(s:St)(er:γ→β)(K:Exit→T P β→List Nat→St→OT):Exit→T P (α ⊕ γ)→List Nat→St→OT:=fun e t' kn' s'=>match e,t' with
 | .normal,.ret (.inl a)=>.eq (s'.kp m ids) (S s a s'.locs) .ok
 | .ret,.ret (.inr r)=>K .ret (.ret (er r)) kn' s'
 | .exit i,.ret (.inr r)=>K (.exit i) (.ret (er r)) kn' s'
 |_,_=>.bad
def lpK{ι o:Type}(id:Nat)(m:List Bool)(ids:List Nat)(S:St→ι→(Nat→Loc)→St)(mo:List Bool)(ido:List Nat)(So:St→o→(Nat→Loc)→St)(s:St):Exit→T P (ι ⊕ o)→List Nat→St→OT:=fun e t' _ s'=>match e,t' with
 | .normal,.ret (.inl x')=>.eq (s'.kp m ids) (S s x' s'.locs) .ok
 | .exit i,.ret (.inr y)=>bif Nat.beq i id then .eq (s'.kp mo ido) (So s y s'.locs) .ok else .bad
 |_,_=>.bad
def lpKS{ι o γ β:Type}(id:Nat)(m:List Bool)(ids:List Nat)(S:St→ι→(Nat→Loc)→St)(mo:List Bool)(ido:List Nat)(So:St→o→(Nat→Loc)→St)(s:St)(er:γ→β)(K:Exit→T P β→List Nat→St→OT):Exit→T P (Lf ι o γ)→List Nat→St→OT:=fun e t' kn' s'=>match e,t' with
 | .normal,.ret (.again x')=>.eq (s'.kp m ids) (S s x' s'.locs) .ok
 | .exit i,.ret (.done y)=>bif Nat.beq i id then .eq (s'.kp mo ido) (So s y s'.locs) .ok else .bad
 | .ret,.ret (.early r)=>K .ret (.ret (er r)) kn' s'
 | .exit i,.ret (.early r)=>bif Nat.beq i id then .bad else K (.exit i) (.ret (er r)) kn' s'
 |_,_=>.bad
def nxK{β:Type}(g:T P β→St→OT)(K:Exit→T P β→List Nat→St→OT):Exit→T P β→List Nat→St→OT:=fun e t' kn' s'=>match e with
 | .normal=>g t' s'
 |e=>K e t' kn' s'
def bkK{β:Type}(id:Nat)(K:Exit→T P β→List Nat→St→OT):Exit→T P β→List Nat→St→OT:=fun e t' kn' s'=>match e with
 | .exit i=>bif Nat.beq i id then K .normal t' kn' s' else K (.exit i) t' kn' s'
 |e=>K e t' kn' s'
def goV:Nat→{β:Type}→T P β→List Nat→Code→St→(Exit→T P β→List Nat→St→OT)→OT
 |0,_,_,_,_,_,_=>.bad
 |n+1,β,t,kn,code,s,K=>match t with
  | .fail=>.ok
  | .hint H t'=>H.run s fun s'=>goV n t' kn code s' K
  | .late H t'=>H.run s fun s'=>goV n t' kn code s' K
  | .frc v k=>goV n (k v) kn code s K
  | .lt v k=>goV n (k v) kn code s K
  | .bnd _ k=>.all fun y=>goV n (k y) kn code s K
  | .seqT t1 k=>goV n (sqT t1 k) kn code s K
  | .join t1 m ids S f=>(match code with
   | .block id c=>goV n (.join t1 m ids S f) kn c s (bkK P id K)
   | .seq x y=>.and (goV n t1 kn x s (mtK P m ids S s)) (.all fun a=>.all fun γ=>goV n (f a) [] y (S s a γ) K)
   |c=>.and (goV n t1 kn c s (mtK P m ids S s)) (.all fun a=>.all fun γ=>K .normal (f a) [] (S s a γ)))
  | .joinC t1 m ids S f=>(match code with
   | .block id c=>goV n (.joinC t1 m ids S f) kn c s (bkK P id K)
   | .seq x y=>.and (goV n t1 kn x s (mtK P m ids S s)) (.all fun a=>.all fun γ=>goV n (f a) [] y (S s a γ) K)
   |c=>.and (goV n t1 kn c s (mtK P m ids S s)) (.all fun a=>.all fun γ=>K .normal (f a) [] (S s a γ)))
  | .joinS t1 m ids S er f=>(match code with
   | .block id c=>goV n (.joinS t1 m ids S er f) kn c s (bkK P id K)
   | .seq x y=>.and (goV n t1 kn x s (mtKS P m ids S s er K)) (.all fun a=>.all fun γ=>goV n (f a) [] y (S s a γ) K)
   |_=>.bad)
  |t=>match code with
   | .skip=>K .normal (unpl P t) kn s
   | .exit id=>K (.exit id) t kn s
   | .ret=>K .ret t kn s
   | .label _=>K .normal t kn s
   | .cond c x y=>(match opn P t kn (opT c) with
    |some (d,b,t1,t2)=>.eq (s.ev c) (Bo b) (.and (goV n t1 kn x s K) (goV n t2 kn y s K))
    |none=>match zRR P t kn (opT c) with
     |(t,kn)=>match s.ev c with
      | .c (.v (.bool true))=>goV n t kn x s K
      | .c (.v (.bool false))=>goV n t kn y s K
      |_=>.bad)
   | .seq x y=>goV n (undn P t) kn x s (nxK P (fun t' s'=>goV n t' [] y s' K) K)
   | .region id ops false=>goX P n (unpl P t) [] ops ops.toList s fun t' _ s'=>K .normal t' [] s'
   | .region id ops true=>(match t with
    | .draw n1 tg t'=>.eq (P.follows .mixedOrders&&zJS ops.toList (amk ops.toList []) n1 (acs (amk ops.toList []) tg n1 n1)) true
      (goD P n t' [] ops.toList (amk ops.toList []) n1 (acs (amk ops.toList []) tg n1 n1) (prep (ops.toList.take n1) s) [] fun t'' s'=>goX P n t'' [] ops (ops.toList.drop n1) s' fun t' _ s'=>K .normal t' [] s')
    | .drawM gh n1 masks au t'=>goP 100000 t' au [] [] fun t'' ds=>.eq (P.follows .mixedOrders&&(chk1 (amk ops.toList []) ops.toList.length 0 ops.toList&&(Nat.ble n1 ops.toList.length&&nz0 masks))) true (bldM gh ops.toList ds s masks [(0,fun _=>s)] fun tab=>(match tab.lookup (2 ^n1 - 1) with
      |some s1=>.and (trM ops.toList (amk ops.toList []) ds (2 ^n1 - 1) tab tab) (.all fun γ=>goL ops.toList (amk ops.toList []) ds (ops.toList.length+1) (2 ^n1 - 1) (s1 γ) fun s'=>K .normal t'' [] s')
      |none=>.bad))
    | .drawL au t'=>goP 100000 t' au [] [] fun t'' ds=>.eq (P.follows .mixedOrders&&chk1 (amk ops.toList []) ops.toList.length 0 ops.toList) true (goL ops.toList (amk ops.toList []) ds (ops.toList.length+1) 0 s fun s'=>K .normal t'' [] s')
    |_=>.bad)
   | .loop c=>(match t with
    | .unroll j t'=>goR P (fun t' s' K'=>goV n t' [] c s' K') j t' s K
    |_=>.bad)
   | .block id body=>(match body,t with
    | .loop c,.loop L x m ids S bt mo ido So f=>.eq (fun x=>L 0 x) (fun _=>none) (.eq (fun n x=>L (n+1) x) (fun n x=>(bt x).den (lk L n)) (.eq (s.kp m ids) (S s x s.locs) (.and
      (.all fun x=>.all fun γ=>goV n (bt x) [] c (S s x γ) (lpK P id m ids S mo ido So s))
      (.all fun y=>.all fun γ=>K .normal (f y) [] (So s y γ)))))
    | .loop c,.loopS L x m ids S bt mo ido So er f=>.eq (fun x=>L 0 x) (fun _=>none) (.eq (fun n x=>L (n+1) x) (fun n x=>(bt x).den (lkS L n)) (.eq (s.kp m ids) (S s x s.locs) (.and
      (.all fun x=>.all fun γ=>goV n (bt x) [] c (S s x γ) (lpKS P id m ids S mo ido So s er K))
      (.all fun y=>.all fun γ=>K .normal (f y) [] (So s y γ)))))
    |body,t=>goV n t kn body s (bkK P id K))
   |_=>.bad
end
section
variable {P:Program}
theorem z8y{l:List Oper}{rs:List Res}{o:Oper}{d:Nat}(ho:l[rs.length]?=some o)(h:dslD l o=some d):gtD l rs=d:=by
 unfold gtD;rw[ho];unfold dslD at h;split at h
 ·rename_i j b hg
  (try simp only[hg])
  injection h
 ·rename_i hg
  (try simp only[hg])
  split at h
  ·rename_i t x y hop
   (try simp only[hop])
   injection h
  ·cases h
theorem opn_q{β:Type}{t:T P β}{kn:List Nat}{q:Option Nat}{d:Nat}{c:Bool}{a b:T P β}(h:opn P t kn q=some (d,c,a,b)):q=some d:=by
 unfold opn at h;split at h
 ·rename_i d0;cases hb:kn.elem d0 with
  |true=>rw[hb,za]at h;cases h
  |false=>
   rw[hb,cond_false]at h;split at h
   ·injection h with h;injection h with h1 h;rw[h1]
   ·injection h with h;injection h with h1 h;rw[h1]
   ·cases h
 ·cases h
theorem z9G{rs:List Res}{q:Option Nat}{d:Nat}(h:dtnD rs q=some d):q=some d:=by
 unfold dtnD at h;split at h
 ·split at h
  ·cases h
  ·exact h
 ·cases h
theorem zH5:∀(n:Nat){β:Type}(t:T P β)(kn:List Nat)(l:List Oper)(ms:List Nat)(n1:Nat)(css:List (List Cd))(s0:St)(rs:List Res)(K:T P β→St→OT),(goD P n t kn l ms n1 css s0 rs K).holds→
  ∀{ρ:Type}(k:β→Option ρ)(r:ρ),t.den k=some r→∀J:St→Prop,(∀t' s',(K t' s').holds→T.den t' k=some r→J s')→DL P l ms n1 css s0 rs J
 |0,_,_,_,_,_,_,_,_,_,_,h=>h.elim
 |n+1,β,t,kn,l,ms,n1,css,s0,rs,K,h=>by
  intro k r hd J hJ;unfold goD at h;split at h
  ·cases hd
  ·rename_i v f;have hd:sI v (fun y=>(f y).den k)=some r:=hd;rw[zO]at hd;exact zH5 n (f v) kn l ms n1 css s0 rs K h k r hd J hJ
  ·rename_i v f;exact zH5 n (f v) kn l ms n1 css s0 rs K h k r hd J hJ
  ·rename_i m f;obtain⟨y,_,h2⟩:=zA (show m.bind (fun y=>(f y).den k)=some r from hd);exact zH5 n (f y) kn l ms n1 css s0 rs K (h y) k r h2 J hJ
  ·rename_i t1 f;exact zH5 n (sqT t1 f) kn l ms n1 css s0 rs K h k r (by rw[zX5];exact hd) J hJ
  ·cases hbe:Nat.beq rs.length n1 with
   |true=>rw[hbe,za]at h;exact z1J (Nat.eq_of_beq_eq_true hbe) (hJ _ _ h hd)
   |false=>
    rw[hbe,cond_false]at h;split at h
    ·rename_i o c ho hc;split at h
     ·rename_i d b t1 t2 hq;rw[zUF hq k]at hd;obtain⟨ha,hb⟩:=zU7 (β:=β) hd;have hg:=z8y ho (z9G (opn_q hq));cases b with
      |true=>exact EQ (v:=true) rfl (by rw[hg];exact zH5 n t1 _ l ms n1 css s0 _ K h.2.1 k r (ha rfl) J hJ) (by rw[hg];exact h.1)
      |false=>exact EQ (v:=false) rfl (by rw[hg];exact zH5 n t2 _ l ms n1 css s0 _ K h.2.2 k r (hb rfl) J hJ) (by rw[hg];exact h.1)
     ·have hd:(zRR P t kn (dtnD rs (dslD l o))).1.den k=some r:=by rw[zQD];exact hd
      split at h;rename_i t2 kn2 hu;rw[hu]at hd;have hd:t2.den k=some r:=hd;split at h
      ·rename_i rs' hr;cases hw:wv (appC c (l.take n1) rs s0) o with
       |false=>rw[hw,cond_false]at hr;cases hr
       |true=>rw[hw,za]at hr;exact z4q hr (zH5 n _ _ l ms n1 css s0 rs' K h k r hd J hJ)
      ·obtain⟨hg,h⟩:=h;split at h
       ·rename_i F t' hd;obtain⟨h3,h5,h6⟩:=h;rw[zh,zh]at h5;exact E0 rs.length ho hc (F.ok o _ h3) (zH5 n t' _ l ms n1 css s0 _ K h6 k r hd J hJ) rfl h5.1 hg h5.2.1 h5.2.2
       ·rename_i F t' hd;obtain⟨h3,h5,h6⟩:=h;rw[zh,zh,zh,zh]at h5;exact E1 rs.length ho hc (F.ok o _ h3) (zH5 n t' _ l ms n1 css s0 _ K h6 k r hd J hJ) rfl h5.1 hg h5.2.1 h5.2.2.1 h5.2.2.2.1 h5.2.2.2.2
       ·rename_i F f hd;obtain⟨y,h1,h2⟩:=zA (show F.m.bind (fun y=>(f y).den k)=some r from hd);obtain⟨h3,h4⟩:=h;obtain⟨h5,h6⟩:=h4 y;rw[zh,zh]at h5;exact E0 rs.length ho hc (F.ok o _ y h1 h3) (zH5 n (f y) _ l ms n1 css s0 _ K h6 k r h2 J hJ) rfl h5.1 hg h5.2.1 h5.2.2
       ·rename_i F f hd;obtain⟨y,h1,h2⟩:=zA (show F.m.bind (fun y=>(f y).den k)=some r from hd);obtain⟨h3,h4⟩:=h;obtain⟨h5,h6⟩:=h4 y;rw[zh,zh,zh,zh]at h5;exact E1 rs.length ho hc (F.ok o _ y h1 h3) (zH5 n (f y) _ l ms n1 css s0 _ K h6 k r h2 J hJ) rfl h5.1 hg h5.2.1 h5.2.2.1 h5.2.2.2.1 h5.2.2.2.2
       ·exact h.elim
    ·exact h.elim
theorem zYB{α ρ:Type}{m:List Bool}{ids:List Nat}{S:St→α→(Nat→Loc)→St}{s:St}{e:Exit}{t':T P α}{kn:List Nat}{s':St}(h:(mtK P m ids S s e t' kn s').holds){κ:α→Option ρ}{r:ρ}(hd:t'.den κ=some r):e=.normal∧∃a,s'.kp m ids=S s a s'.locs∧κ a=some r:=by
 unfold mtK at h;split at h
 ·rename_i a;exact⟨rfl,a,h.1,hd⟩
 ·exact h.elim
theorem z2c{c:Code}{s:St}{J' J:Exit→St→Prop}(h:V P c s J')(hJ:∀e s',J' e s'→J e s'∨∃s1,Le s1 s'∧J e s1):V P c s J:=by
 intro B w0 ok0 ok σ a w hR;refine wp_mono (h _ _ _ _ _ _ _ hR) ?_
 rintro e a' w' ⟨s',ok',σ',h1,hR'⟩;rcases hJ e s' h1 with h2|⟨s1,h2,h3⟩
 ·exact⟨s',ok',σ',h2,hR'⟩
 ·exact⟨s1,ok',σ',h3,hR'.le h2⟩
theorem zYq{β ρ:Type}(t:T P β)(k:β→Option ρ):(unpl P t).den k=t.den k:=by cases t<;>rfl
theorem z3f{β ρ:Type}(t:T P β)(k:β→Option ρ):(undn P t).den k=t.den k:=by cases t<;>rfl
theorem z1B{β ρ:Type}{id:Nat}{K:Exit→T P β→List Nat→St→OT}{k:β→Option ρ}{r:ρ}{J:Exit→St→Prop}(hJ:∀e t' kn' s',(K e t' kn' s').holds→T.den t' k=some r→J e s'):
  ∀e t' kn' s',(bkK P id K e t' kn' s').holds→T.den t' k=some r→zGJ id J e s':=fun e t' kn' s' hK ht'=>by
 unfold bkK at hK;split at hK
 ·rename_i i;simp only[zGJ];cases hi:Nat.beq i id with
  |true=>rw[hi,za]at hK;exact hJ _ _ _ _ hK ht'
  |false=>rw[hi,cond_false]at hK;exact hJ _ _ _ _ hK ht'
 ·rename_i hne;have:=hJ _ _ _ _ hK ht';cases e<;>first|exact absurd rfl (hne _)|exact this
theorem z4f{β ρ:Type}{g:T P β→St→(Exit→T P β→List Nat→St→OT)→OT}{c:Code}{k:β→Option ρ}{r:ρ}(hg:∀t s K,(g t s K).holds→t.den k=some r→∀J:Exit→St→Prop,(∀e t' kn' s',(K e t' kn' s').holds→T.den t' k=some r→J e s')→V P c s J):
  ∀(j:Nat)(t:T P β)(s:St)(K:Exit→T P β→List Nat→St→OT),(goR P g j t s K).holds→t.den k=some r→∀J:Exit→St→Prop,(∀e t' kn' s',(K e t' kn' s').holds→T.den t' k=some r→J e s')→VR P c j s J
 |0,_,_,_,h=>h.elim
 |j+1,t,s,K,h=>fun hd J hJ=>by
  refine VR_s (hg t s _ h hd _ fun e t' kn' s' hK ht'=>?_);split at hK
  ·exact z4f hg j t' s' K hK ht' J hJ
  ·rename_i hne;have:=hJ _ _ _ _ hK ht';cases e<;>first|exact absurd rfl hne|exact this
theorem zCL:∀(n:Nat){β:Type}(t:T P β)(kn:List Nat)(code:Code)(s:St)(K:Exit→T P β→List Nat→St→OT),(goV P n t kn code s K).holds→
  ∀{ρ:Type}(k:β→Option ρ)(r:ρ),t.den k=some r→∀J:Exit→St→Prop,(∀e t' kn' s',(K e t' kn' s').holds→T.den t' k=some r→J e s')→V P code s J
 |0,_,_,_,_,_,_,h=>h.elim
 |n+1,β,t,kn,code,s,K,h=>by
  intro k r hd J hJ;unfold goV at h;split at h
  ·cases hd
  ·rename_i H t';exact z6C h fun s' hs=>zCL n t' kn code s' K hs k r hd J hJ
  ·rename_i H t';exact z6C h fun s' hs=>zCL n t' kn code s' K hs k r hd J hJ
  ·rename_i v f;have hd:sI v (fun y=>(f y).den k)=some r:=hd;rw[zO]at hd;exact zCL n (f v) kn code s K h k r hd J hJ
  ·rename_i v f;exact zCL n (f v) kn code s K h k r hd J hJ
  ·rename_i m f;obtain⟨y,_,h2⟩:=zA (show m.bind (fun y=>(f y).den k)=some r from hd);exact zCL n (f y) kn code s K (h y) k r h2 J hJ
  ·rename_i t1 f;exact zCL n (sqT t1 f) kn code s K h k r (by rw[zX5];exact hd) J hJ
  ·-- ways that meet
   rename_i α t1 m ids S f;obtain⟨a,h1,h2⟩:=zA (show (t1.den some).bind (fun y=>(f y).den k)=some r from hd);split at h
   ·exact qA (zCL n _ kn _ s _ h k r hd _ (z1B hJ))
   ·rename_i x y;refine zV (zCL n t1 kn x s _ h.1 some a h1 _ fun e t' kn' s' hK ht'=>?_);obtain⟨he,a',hs,ha⟩:=zYB hK ht';subst he;injection ha with ha;subst ha;exact z0M m ids hs (zCL n (f a') [] y _ K (h.2 a' _) k r h2 J hJ)
   ·refine z2c (zCL n t1 kn _ s _ h.1 some a h1 (fun e s'=>e=.normal∧s'.kp m ids=S s a s'.locs) fun e t' kn' s' hK ht'=>?_) fun e s' hh=>?_
    ·obtain⟨he,a',hs,ha⟩:=zYB hK ht';injection ha with ha;subst ha;exact⟨he,hs⟩
    ·obtain⟨he,hs⟩:=hh;subst he;exact .inr ⟨_,zWf m ids s',by rw[hs];exact hJ _ _ _ _ (h.2 a _) h2⟩
  ·-- the same,the plain function goes on
   rename_i α t1 m ids S f;have h1:t1.den (fun y=>(f y).den k)=some r:=hd;split at h
   ·exact qA (zCL n _ kn _ s _ h k r hd _ (z1B hJ))
   ·rename_i x y;refine zV (zCL n t1 kn x s _ h.1 _ r h1 _ fun e t' kn' s' hK ht'=>?_);obtain⟨he,a',hs,ha⟩:=zYB hK ht';subst he;exact z0M m ids hs (zCL n (f a') [] y _ K (h.2 a' _) k r ha J hJ)
   ·refine z2c (zCL n t1 kn _ s _ h.1 _ r h1 (fun e s'=>e=.normal∧∃a,s'.kp m ids=S s a s'.locs∧(f a).den k=some r) fun e t' kn' s' hK ht'=>zYB hK ht') fun e s' hh=>?_
    obtain⟨he,a,hs,ha⟩:=hh;subst he;exact .inr ⟨_,zWf m ids s',by rw[hs];exact hJ _ _ _ _ (h.2 a _) ha⟩
  ·-- ways of which some return
   rename_i α γ t1 m ids S er f;obtain⟨q,h1,h2⟩:=zA (show (t1.den some).bind (fun q=>elS q (fun y=>(f y).den k) fun r=>k (er r))=some r from hd);split at h
   ·exact qA (zCL n _ kn _ s _ h k r hd _ (z1B hJ))
   ·rename_i x y;refine zV (zCL n t1 kn x s _ h.1 some q h1 _ fun e t' kn' s' hK ht'=>?_);unfold mtKS at hK;split at hK
    ·rename_i a';injection ht' with ht';subst ht';exact z0M m ids hK.1 (zCL n (f a') [] y _ K (h.2 a' _) k r h2 J hJ)
    ·rename_i r';injection ht' with ht';subst ht';exact hJ _ _ _ _ hK h2
    ·rename_i i r';injection ht' with ht';subst ht';exact hJ _ _ _ _ hK h2
    ·exact hK.elim
   ·exact h.elim
  ·split at h
   ·exact qV (hJ _ _ _ _ h (by rw[zYq];exact hd))
   ·exact zFU (hJ _ _ _ _ h hd)
   ·exact zBW (hJ _ _ _ _ h hd)
   ·exact z7e (hJ _ _ _ _ h hd)
   ·-- a choice
    rename_i c x y;split at h
    ·rename_i d b t1 t2 hq;rw[zUF hq k]at hd;obtain⟨ha,hb⟩:=zU7 (β:=β) hd;exact zLI h.1 (fun e=>zCL n t1 _ x _ K h.2.1 k r (ha e) J hJ) (fun e=>zCL n t2 _ y _ K h.2.2 k r (hb e) J hJ)
    ·have hd:(zRR P t kn (opT c)).1.den k=some r:=by rw[zQD];exact hd
     split at h;rename_i t2 kn2 hu;rw[hu]at hd;have hd:t2.den k=some r:=hd;split at h
     ·rename_i hc;exact zLI hc (fun _=>zCL n t2 _ x s K h k r hd J hJ) (fun e=>by cases e)
     ·rename_i hc;exact zLI hc (fun e=>by cases e) (fun _=>zCL n t2 _ y s K h k r hd J hJ)
     ·exact h.elim
   ·-- one after the other
    rename_i x y;refine zV (zCL n _ kn x s _ h k r (by rw[z3f];exact hd) _ fun e t' kn' s' hK ht'=>?_);unfold nxK at hK;split at hK
    ·exact zCL n t' [] y s' K hK k r ht' J hJ
    ·rename_i hne;have:=hJ _ _ _ _ hK ht';cases e<;>first|exact absurd rfl hne|exact this
   ·-- operations in the text's order
    rename_i id ops;exact q7 (zDy n _ [] ops ops.toList s _ h k r (by rw[zYq];exact hd) (J .normal) fun t' kn' s' hK ht'=>hJ _ _ _ _ hK ht')
   ·-- operations whose order is open
    rename_i id ops;have eo:ops.toList.toArray=ops:=by simp
    split at h
    ·obtain⟨hc,h⟩:=h;rw[zh]at hc;rw[←eo];refine z1H _ _ _ hc.1 (by simpa using hc.2) ?_
     simp only[eo]at h ⊢;refine zH5 n _ [] ops.toList _ _ _ _ [] _ h k r hd _ fun t'' s' hK ht''=>?_
     exact zDy n t'' [] ops _ s' _ hK k r ht'' (J .normal) fun t3 kn3 s3 hK3 ht3=>hJ _ _ _ _ hK3 ht3
    ·obtain⟨t'',ds,g1,g2,g3⟩:=zI3 100000 _ _ [] [] _ h (fun d hd=>by cases hd) k r hd;obtain⟨hc,h⟩:=g3;simp only[zh]at hc;obtain⟨tab,h1,h2⟩:=z2X _ _ h;split at h1
     ·rename_i s1 hs1;have:=z7f (id:=id) (J:=J) (s:=s) (Nat.le_of_ble_eq_true hc.2.2.1) hc.1 hc.2.1 g1 h1.1 hs1 h1.2 (h2 _ rfl (z4S hc.2.2.2)) fun s' hs=>hJ _ _ _ _ hs g2;rw[eo]at this;exact this
     ·exact h1.elim
    ·obtain⟨t'',ds,g1,g2,g3⟩:=zI3 100000 _ _ [] [] _ h (fun d hd=>by cases hd) k r hd;obtain⟨hc,h⟩:=g3;rw[zh]at hc;have:=z7g (id:=id) (J:=J) hc.1 hc.2 g1 h fun s' hs=>hJ _ _ _ _ hs g2;rw[eo]at this;exact this
    ·exact h.elim
   ·-- rounds,one by one
    split at h
    ·exact zF3 _ (z4f (fun t s K hg hd J hJ=>zCL n t [] _ s K hg k r hd J hJ) _ _ s K h hd J hJ)
    ·exact h.elim
   ·-- a block
    rename_i id body;split at h
    ·rename_i c ι o L x m ids S bt mo ido So f _ _ _ _ _ _ _ _ _ _;obtain⟨y0,h1,h2⟩:=zA (show (L FU x).bind (fun y=>(f y).den k)=some r from hd);obtain⟨hL0,hLs,h0,hb,hf⟩:=h;refine qA (z2c (J':=fun e s'=>e=.exit id∧s'.kp mo ido=So s y0 s'.locs) ?_ fun e s' hh=>?_)
     ·refine zMe (fun n s'=>∃x' γ,s'.kp m ids=S s x' γ∧L n x'=some y0) FU ⟨x,s.locs,h0,h1⟩ ?_
      rintro n' s' ⟨x',γ,hs,hl⟩;cases n' with
      |zero=>rw[show L 0 x'=none from congrFun hL0 x']at hl;cases hl
      |succ n'=>
       rw[show L (n'+1) x'=(bt x').den (lk L n') from congrFun (congrFun hLs n') x']at hl;refine z0M m ids hs (zCL n (bt x') [] c _ _ (hb x' γ) _ y0 hl _ fun e t' kn' s2 hK ht'=>?_);unfold lpK at hK;split at hK
       ·rename_i x2;exact⟨n',zi n',x2,_,hK.1,ht'⟩
       ·rename_i i y;cases hi:Nat.beq i id with
        |true=>rw[hi,za]at hK;have:i=id:=Nat.eq_of_beq_eq_true hi;subst this;injection ht' with ht';subst ht';exact⟨rfl,hK.1⟩
        |false=>rw[hi,cond_false]at hK;exact hK.elim
       ·exact hK.elim
     ·obtain⟨he,hs⟩:=hh;subst he;refine .inr ⟨_,zWf mo ido s',?_⟩;simp only[zGJ,Nat.beq_refl,za];rw[hs];exact hJ _ _ _ _ (hf y0 _) h2
    ·rename_i c ι o γ' L x m ids S bt mo ido So er f _ _ _ _ _ _ _ _ _ _;obtain⟨q,h1,h2⟩:=zA (show (L FU x).bind (fun q=>elS q (fun y=>(f y).den k) fun r=>k (er r))=some r from hd);obtain⟨hL0,hLs,h0,hb,hf⟩:=h;refine qA (z2c (J':=fun e s'=>(∃y0,q=.inl y0∧e=.exit id∧s'.kp mo ido=So s y0 s'.locs)∨(∃r',q=.inr r'∧zGJ id J e s')) ?_ fun e s' hh=>?_)
     ·refine zMe (fun n s'=>∃x' γ,s'.kp m ids=S s x' γ∧L n x'=some q) FU ⟨x,s.locs,h0,h1⟩ ?_
      rintro n' s' ⟨x',γ,hs,hl⟩;cases n' with
      |zero=>rw[show L 0 x'=none from congrFun hL0 x']at hl;cases hl
      |succ n'=>
       rw[show L (n'+1) x'=(bt x').den (lkS L n') from congrFun (congrFun hLs n') x']at hl;refine z0M m ids hs (zCL n (bt x') [] c _ _ (hb x' γ) _ q hl _ fun e t' kn' s2 hK ht'=>?_);unfold lpKS at hK;split at hK
       ·rename_i x2;exact⟨n',zi n',x2,_,hK.1,ht'⟩
       ·rename_i i y;cases hi:Nat.beq i id with
        |true=>rw[hi,za]at hK;have:i=id:=Nat.eq_of_beq_eq_true hi;subst this;injection ht' with ht';subst ht';exact .inl ⟨_,rfl,rfl,hK.1⟩
        |false=>rw[hi,cond_false]at hK;exact hK.elim
       ·rename_i r';injection ht' with ht';subst ht';exact .inr ⟨r',rfl,hJ _ _ _ _ hK h2⟩
       ·rename_i i r';injection ht' with ht';subst ht';cases hi:Nat.beq i id with
        |true=>rw[hi,za]at hK;exact hK.elim
        |false=>rw[hi,cond_false]at hK;refine .inr ⟨r',rfl,?_⟩;simp only[zGJ,hi,cond_false];exact hJ _ _ _ _ hK h2
       ·exact hK.elim
     ·rcases hh with⟨y0,hq,he,hs⟩|⟨r',_,hj⟩
      ·subst he hq;refine .inr ⟨_,zWf mo ido s',?_⟩;simp only[zGJ,Nat.beq_refl,za];rw[hs];exact hJ _ _ _ _ (hf y0 _) h2
      ·exact .inl hj
    ·refine qA (zCL n t kn _ s _ h k r hd _ fun e t' kn' s' hK ht'=>?_);unfold bkK at hK;split at hK
     ·rename_i i;simp only[zGJ];cases hi:Nat.beq i id with
      |true=>rw[hi,za]at hK;exact hJ _ _ _ _ hK ht'
      |false=>rw[hi,cond_false]at hK;exact hJ _ _ _ _ hK ht'
     ·rename_i hne;have:=hJ _ _ _ _ hK ht';cases e<;>first|exact absurd rfl (hne _)|exact this
   ·exact h.elim
end
section
variable {P:Program}
def KF{β:Type}(rs:List RS)(enc:β→AV×List (Nat×Ent)):Exit→T P β→List Nat→St→OT:=fun e t' _ s'=>match e,t' with
 | .normal,.ret y=>.eq (zEa (zIl s' rs)&&okSL s' rs) true (.eq (zSh s' rs) (enc y) .ok)
 | .ret,.ret y=>.eq (zEa (zIl s' rs)&&okSL s' rs) true (.eq (zSh s' rs) (enc y) .ok)
 |_,.fail=>.ok
 |_,_=>.bad
theorem z8O{β:Type}{rs:List RS}{enc:β→AV×List (Nat×Ent)}{e:Exit}{t':T P β}{kn:List Nat}{s':St}{r:β}(h:(KF rs enc e t' kn s').holds)(hd:t'.den some=some r):Post rs (enc r).1 (enc r).2 e s':=by
 unfold KF at h;split at h
 ·rename_i y;injection hd with hd;subst hd;obtain⟨h1,h2,_⟩:=h;rw[zh]at h1;exact⟨.inl rfl,h1.1,h1.2,h2⟩
 ·rename_i y;injection hd with hd;subst hd;obtain⟨h1,h2,_⟩:=h;rw[zh]at h1;exact⟨.inr rfl,h1.1,h1.2,h2⟩
 ·cases hd
 ·exact h.elim
def OF(P:Program){β:Type}(t:T P β)(o:Option β)(c:Code)(s:St)(rs:List RS)(enc:β→AV×List (Nat×Ent)):OT:=.eq o (t.den some) (goV P 100000 t [] c s (KF rs enc))
theorem CtT{β:Type}(t:T P β){f:FuncId}{fn:Func}{c:Code}{args:List AV}{o:Option β}{r:β}(enc:β→AV×List (Nat×Ent)){rs:List RS}{vs:List ResultVar}(hf:P.funcs[f]?=some fn)(hb:fn.body=some c)(hvs:fn.results=vs.toArray)(hfit:FitsL P rs vs)(h:o=some r)
  (hO:OF P t o c ⟨args++List.replicate (fn.ntmps - args.length) .bot,[]⟩ rs enc=(OF P t o c ⟨args++List.replicate (fn.ntmps - args.length) .bot,[]⟩ rs enc).rf:=by kernel_rfl) (hl:Nat.ble rs.length 8=true:=by kernel_rfl):zH P f args (enc r).1 (enc r).2:=by
 obtain⟨h1,h2⟩:=OT.of_rf _ hO;rw[h1]at h;exact zEA hf hb hvs hfit (Nat.le_of_ble_eq_true hl) fn.ntmps rfl (zCL 100000 t [] c _ _ h2 some r h _ fun e t' kn' s' hK ht=>z8O hK ht)
def fC{α:Type}{f:FuncId}(hcf:CfW P f)(m:Option α){args:List AV}{av:α→AV}{ne:α→List (Nat×Ent)}(hS:∀y,m=some y→zH P f args (av y) (ne y)):F1 P α where
 m:=m
 chk o s:=match o.op with
  | .call ⟨.value (.func g),xs,_⟩=>.eq (Nat.beq g f) true (.eq (evL s xs.toList) args .ok)
  |_=>.bad
 av _ _:=av
 ne _ _:=ne
 ok o s y hm h:=by
  split at h
  ·rename_i g xs ts ho;obtain⟨h1,h2,_⟩:=h;have hgf:=Nat.eq_of_beq_eq_true h1;subst hgf;exact zSr (hS y hm) hcf ho h2
  ·exact h.elim
def remF(k:IntKind)(a b:Int):F0 P Unit where
 m:=nz b
 chk o s:=match o.op with
  | .binOp .rem _ x y _=>.eq (s.ev x) (.c (.v (.int k a))) (.eq (s.ev y) (.c (.v (.int k b))) .ok)
  |_=>.bad
 av _ _ _:=.c (.v (.int k (Int.tmod a b)))
 ok o s y hm h:=by
  split at h
  ·rename_i ho;obtain⟨h1,h2,_⟩:=h;exact zBE ho h1 h2 (zPZ hm)
  ·exact h.elim
end
structure CT (α:Type) where
  c:α→List Tr
  sz:Nat
  hc:∀v,(c v).length=sz
section
variable (P:Program)
def zv2(s:St):Op→Option AV
 | .binOp op t x y _=>(match s.ev x,s.ev y with
  | .c (.v (.int k a)),.c (.v (.int k2 b))=>(match decEq k k2 with
   |isTrue _=>(match op with
    | .add=>some (.c (.v (.int k (k.wrap (a+b)))))
    | .sub=>some (.c (.v (.int k (k.wrap (a - b)))))
    | .mul=>some (.c (.v (.int k (k.wrap (a*b)))))
    | .and=>some (.c (.v (.int k (andI k a b))))
    | .or=>some (.c (.v (.int k (orI k a b))))
    | .xor=>some (.c (.v (.int k (xorI k a b))))
    |_=>none)
   |isFalse _=>none)
  | .c (.v (.string a)),.c (.v (.string b))=>(match op with
   | .lss=>some (.c (.v (.bool (Op.bytesLess a.toList b.toList))))
   | .geq=>some (.c (.v (.bool (!(Op.bytesLess a.toList b.toList)))))
   |_=>none)
  |_,_=>none)
 | .unOp .neg t x=>(match s.ev x with
  | .c (.v (.int k a))=>some (.c (.v (.int k (k.wrap (0 - a)))))
  |_=>none)
 | .convert src dst x=>(match P.underlying src,P.underlying dst,s.ev x with
  |some (.int k2),some (.int k),.c (.v (.int k3 a))=>(match decEq k3 k2 with
   |isTrue _=>some (.c (.v (.int k (k.wrap a))))
   |isFalse _=>none)
  |_,_,_=>none)
 | .call ⟨.builtin .max,⟨[x,y]⟩,_⟩=>(match s.ev x,s.ev y with
  | .c (.v (.int .i64 a)),.c (.v (.int .i64 b))=>some (I (mxI a b))
  |_,_=>none)
 | .call ⟨.builtin .min,⟨[x,y]⟩,_⟩=>(match s.ev x,s.ev y with
  | .c (.v (.int .i64 a)),.c (.v (.int .i64 b))=>some (I (mnI a b))
  |_,_=>none)
 | .nilCheck x=>(match (s.ev x).adv 0 with
  | .bot=>none
  |_=>some (s.ev x))
 |_=>none
end
section
variable {P:Program}
theorem z8P{o:Oper}{s:St}{av:AV}(h:zv2 P s o.op=some av):Y0 P o s av:=by
 unfold zv2 at h;split at h
 ·rename_i ho;split at h
  ·rename_i hx hy;split at h
   ·rename_i hk _;subst hk;split at h<;>first|(cases h;done)|skip
    ·cases h;exact z5s ho hx hy
    ·cases h;exact z58 ho hx hy
    ·cases h;exact z5d ho hx hy
    ·cases h;exact z98 ho hx hy
    ·cases h;exact Y0_or ho hx hy
    ·cases h;exact z9V ho hx hy
   ·cases h
  ·rename_i hx hy;split at h
   ·cases h;exact z92 ho hx hy
   ·cases h;exact z95 ho hx hy
   ·cases h
  ·cases h
 ·rename_i ho;split at h
  ·rename_i hx;cases h;exact z5b ho hx
  ·cases h
 ·rename_i ho;split at h
  ·rename_i hs hd hx;split at h
   ·rename_i hk _;subst hk;cases h;exact zYc hs hd ho hx
   ·cases h
  ·cases h
 ·rename_i ho;split at h
  ·rename_i hx hy;cases h;exact z5e ho hx hy
  ·cases h
 ·rename_i ho;split at h
  ·rename_i hx hy;cases h;exact z91 ho hx hy
  ·cases h
 ·rename_i ho;split at h
  ·cases h
  ·rename_i hb;cases h;exact E_nil _ ho rfl hb
 ·cases h
def au:N0 P where
 chk o s:=.eq (zv2 P s o.op).isSome true .ok
 av o s:=(zv2 P s o.op).getD .bot
 ok o s h:=by obtain⟨av,hv⟩:=Option.isSome_iff_exists.mp h.1;rw[hv];exact z8P hv
theorem z0u{b:Int}(h:eqI b 0=false):b≠0:=zPZ (u:=()) (by unfold nz;rw[h];rfl)
def dvN:N0 P where
 chk o s:=match o.op with
  | .binOp op _ x y _=>(match s.ev x,s.ev y with
   | .c (.v (.int k a)),.c (.v (.int k2 b))=>(match op with
    | .quo=>.eq k k2 (.eq (eqI b 0) false .ok)
    | .rem=>.eq k k2 (.eq (eqI b 0) false .ok)
    | .shr=>.eq (decide (b<0)) false .ok
    | .shl=>.eq (decide (b<0)) false .ok
    |_=>.bad)
   |_,_=>.bad)
  |_=>.bad
 av o s:=match o.op with
  | .binOp op _ x y _=>(match s.ev x,s.ev y with
   | .c (.v (.int k a)),.c (.v (.int k2 b))=>(match op with
    | .quo=>(match k with
     | .i64=>I (w64 (a.tdiv b))
     |k=>.c (.v (.int k (k.wrap (a.tdiv b)))))
    | .rem=>.c (.v (.int k (a.tmod b)))
    | .shr=>.c (.v (.int k (shrI k a b)))
    | .shl=>.c (.v (.int k (shlI k a b)))
    |_=>.bot)
   |_,_=>.bot)
  |_=>.bot
 ok o s h:=by
  split at h
  ·rename_i op t x y t2 ho
   try simp only[ho]
   split at h
   ·rename_i k a k2 b hx hy
    try simp only[hx,hy]
    split at h
    ·obtain⟨hk,h0,_⟩:=h;subst hk;split
     ·exact jM ho hx hy (z0u h0)
     ·exact z1D ho hx hy (z0u h0)
    ·obtain⟨hk,h0,_⟩:=h;subst hk;exact zBE ho hx hy (z0u h0)
    ·exact z9W ho hx hy (by simpa using h.1)
    ·exact z9X ho hx hy (by simpa using h.1)
    ·exact h.elim
   ·exact h.elim
  ·exact h.elim
def quoF(k:IntKind)(a b:Int):F0 P Unit where
 m:=nz b
 chk o s:=match o.op with
  | .binOp .quo _ x y _=>.eq (s.ev x) (.c (.v (.int k a))) (.eq (s.ev y) (.c (.v (.int k b))) .ok)
  |_=>.bad
 av _ _ _:=match k with
  | .i64=>I (w64 (a.tdiv b))
  |k=>.c (.v (.int k (k.wrap (a.tdiv b))))
 ok o s y hm h:=by
  split at h
  ·rename_i ho;obtain⟨h1,h2,_⟩:=h;split
   ·exact jM ho h1 h2 (zPZ hm)
   ·exact z1D ho h1 h2 (zPZ hm)
  ·exact h.elim
def bld{t0:TypeId}{z:Array Value}(place:Nat→Option (Nat×Nat))(hb:∀ps,P.built t0 ps=Instr.fill place z ps):N0 P where
 chk o s:=match o.op with
  | .build t parts=>.eq (Nat.beq t t0&&(zEc z&&(zRY place (z.toList.map Tr.v) (evP s parts.toList)).isSome)) true .ok
  |_=>.bad
 av o s:=match o.op with
  | .build t parts=>.ag ((zRY place (z.toList.map Tr.v) (evP s parts.toList)).getD [])
  |_=>.bot
 ok o s h:=by
  split at h
  ·rename_i t parts ho
   try simp only[ho]
   have h:=h.1;rw[zh,zh]at h;have ht:=Nat.eq_of_beq_eq_true h.1;subst ht;obtain⟨cs,hcs⟩:=Option.isSome_iff_exists.mp h.2.2;rw[hcs];exact zBj place hb ho h.2.1 hcs
  ·exact h.elim
def eqg2{t0:TypeId}(h1:z6F P .eql t0):N0 P where
 chk o s:=match o.op with
  | .binOp .eql t x y _=>.eq t t0 (match s.ev x,s.ev y with
   | .ag [.v (.int .i64 a0),.v (.int .i64 a1)],.ag [.v (.int .i64 b0),.v (.int .i64 b1)]=>.ok
   |_,_=>.bad)
  |_=>.bad
 av o s:=match o.op with
  | .binOp .eql t x y _=>(match s.ev x,s.ev y with
   | .ag [.v (.int .i64 a0),.v (.int .i64 a1)],.ag [.v (.int .i64 b0),.v (.int .i64 b1)]=>Bo (((a0==b0)&&(a1==b1)))
   |_,_=>.bot)
  |_=>.bot
 ok o s h:=by
  split at h
  ·rename_i ho;obtain⟨ht,h⟩:=h;subst ht
   try simp only[ho]
   split at h
   ·rename_i hx hy;(try simp only[hx,hy]);exact z71 h1 ho hx hy
   ·exact h.elim
  ·exact h.elim
def eqg3{t0:TypeId}(h1:zXH P .eql t0):N0 P where
 chk o s:=match o.op with
  | .binOp .eql t x y _=>.eq t t0 (match s.ev x,s.ev y with
   | .ag [.v (.int .i64 a0),.v (.int .i64 a1),.v (.int .i64 a2)],.ag [.v (.int .i64 b0),.v (.int .i64 b1),.v (.int .i64 b2)]=>.ok
   |_,_=>.bad)
  |_=>.bad
 av o s:=match o.op with
  | .binOp .eql t x y _=>(match s.ev x,s.ev y with
   | .ag [.v (.int .i64 a0),.v (.int .i64 a1),.v (.int .i64 a2)],.ag [.v (.int .i64 b0),.v (.int .i64 b1),.v (.int .i64 b2)]=>Bo (((a0==b0)&&((a1==b1)&&(a2==b2))))
   |_,_=>.bot)
  |_=>.bot
 ok o s h:=by
  split at h
  ·rename_i ho;obtain⟨ht,h⟩:=h;subst ht
   try simp only[ho]
   split at h
   ·rename_i hx hy;(try simp only[hx,hy]);exact z7Z h1 ho hx hy
   ·exact h.elim
  ·exact h.elim
def neg3{t0:TypeId}(h1:zXH P .neq t0):N0 P where
 chk o s:=match o.op with
  | .binOp .neq t x y _=>.eq t t0 (match s.ev x,s.ev y with
   | .ag [.v (.int .i64 a0),.v (.int .i64 a1),.v (.int .i64 a2)],.ag [.v (.int .i64 b0),.v (.int .i64 b1),.v (.int .i64 b2)]=>.ok
   |_,_=>.bad)
  |_=>.bad
 av o s:=match o.op with
  | .binOp .neq t x y _=>(match s.ev x,s.ev y with
   | .ag [.v (.int .i64 a0),.v (.int .i64 a1),.v (.int .i64 a2)],.ag [.v (.int .i64 b0),.v (.int .i64 b1),.v (.int .i64 b2)]=>Bo (!((a0==b0)&&((a1==b1)&&(a2==b2))))
   |_,_=>.bot)
  |_=>.bot
 ok o s h:=by
  split at h
  ·rename_i ho;obtain⟨ht,h⟩:=h;subst ht
   try simp only[ho]
   split at h
   ·rename_i hx hy;(try simp only[hx,hy]);exact z24 h1 ho hx hy
   ·exact h.elim
  ·exact h.elim
def lenM{α:Type}(d:CT α)(xs:List α):N0 P where
 chk o s:=match o.op with
  | .call ⟨.builtin .len,⟨[x]⟩,⟨[t]⟩⟩=>(match P.underlying t with
   |some (.slice _)=>.eq (zCX s (s.ev x)) (some (xs.map d.c)) .ok
   |_=>.bad)
  |_=>.bad
 av _ _:=I (xs.length:Int)
 ok o s h:=by
  split at h
  ·rename_i ho;split at h
   ·rename_i hu;exact zHy hu ho h.1
   ·exact h.elim
  ·exact h.elim
def idxM{α:Type}(d:CT α)(xs:List α)(n:Int):F0 P α where
 m:=getI xs n
 chk o s:=match o.op with
  | .indexAddr t x ix=>(match P.underlying t with
   |some (.slice e)=>.eq ((P.info? e).map (·.size)) (some d.sz) (.eq (s.ev x) (.c (.sl (xs.map d.c))) (.eq (s.ev ix) (.c (.v (.int .i64 n))) .ok))
   |_=>.bad)
  |_=>.bad
 av _ _ y:=.pe (d.c y)
 ok o s y hm h:=by
  split at h
  ·rename_i ho;split at h
   ·rename_i hu;obtain⟨h1,h2,h3,_⟩:=h;exact jD hu (by rw[h1,d.hc]) ho h2 h3 hm
   ·exact h.elim
  ·exact h.elim
def zDI{α:Type}(d:CT α)(xs:List α)(n:Int):F0 P α where
 m:=getI xs n
 chk o s:=match o.op with
  | .indexAddr t x ix=>(match P.underlying t,s.ev x with
   |some (.slice e),.ow id=>(match s.entc id with
    |some (.arr _ sz els)=>.eq ((P.info? e).map (·.size)) (some sz) (.eq els (xs.map d.c) (.eq (s.ev ix) (.c (.v (.int .i64 n))) .ok))
    |_=>.bad)
   |_,_=>.bad)
  |_=>.bad
 av o s _:=match o.op with
  | .indexAddr t x ix=>(match s.ev x with
   | .ow id=>(match s.entc id with
    |some (.arr _ sz _)=>.po id sz n.toNat 0
    |_=>.bot)
   |_=>.bot)
  |_=>.bot
 ok o s y hm h:=by
  split at h
  ·rename_i ho
   try simp only[ho]
   split at h
   ·rename_i hu hx
    try simp only[hx]
    split at h
    ·rename_i he;obtain⟨h1,h2,h3,_⟩:=h;subst h2
     try simp only[he]
     exact zKR hu h1 ho hx he h3 hm
    ·exact h.elim
   ·exact h.elim
  ·exact h.elim
def ldo{α:Type}(d:CT α)(xs:List α)(n:Int):F0 P α where
 m:=getI xs n
 chk o s:=match o.op with
  | .load t x=>(match P.underlying t,s.ev x with
   |some D,.po id sz i off=>(match s.entc id with
    |some (.arr _ sz2 els)=>.eq i n.toNat (.eq sz2 sz (.eq els (xs.map d.c) (bif aggD D then (match zGX P t with
     |some k=>.eq (Nat.ble (off+k) d.sz) true .ok
     |none=>.bad) else .eq (Nat.blt off d.sz) true .ok)))
    |_=>.bad)
   |_,_=>.bad)
  |_=>.bad
 av o s y:=match o.op with
  | .load t x=>(match P.underlying t,s.ev x with
   |some D,.po id sz i off=>bif aggD D then .ag (((d.c y).drop off).take ((zGX P t).getD 0)) else (match (d.c y).drop off with
    |c::_=>.c c
    |[]=>.bot)
   |_,_=>.bot)
  |_=>.bot
 ok o s y hm h:=by
  split at h
  ·rename_i ho
   try simp only[ho]
   split at h
   ·rename_i D id sz i off hu hx
    try simp only[hu,hx]
    split at h
    ·rename_i he;obtain⟨h1,h2,h3,h4⟩:=h;subst h1 h2 h3;have hlen:=d.hc y;cases hD:aggD D with
     |true=>
      rw[hD,za]at h4;simp only[za];split at h4
      ·rename_i k hk;rw[hk];exact zVI _ ⟨⟨D,hu,hD⟩,hk⟩ ho hx he hm (by rw[List.length_drop,hlen];have:=Nat.le_of_ble_eq_true h4.1;omega) rfl
      ·exact h4.elim
     |false=>
      rw[hD,cond_false]at h4;simp only[cond_false];split
      ·rename_i c cs hcs;exact zRL ⟨D,hu,hD⟩ ho hx he hm hcs
      ·rename_i hcs;have h5:Nat.blt off d.sz=true:=h4.1;have h6:=congrArg List.length hcs;rw[List.length_drop,hlen]at h6;have h7:=Nat.le_of_ble_eq_true h5;simp at h6;omega
    ·exact h.elim
   ·exact h.elim
  ·exact h.elim
def cat(a b:qd):F0 P Unit where
 m:=catR a b
 chk o s:=match o.op with
  | .binOp .add _ x y _=>.eq (s.ev x) (.c (.v (.string a))) (.eq (s.ev y) (.c (.v (.string b))) .ok)
  |_=>.bad
 av _ _ _:=.c (.v (.string (a++b)))
 ok o s y hm h:=by
  split at h
  ·rename_i ho;exact z5p ho h.1 h.2.1 (zWv hm)
  ·exact h.elim
def bdO(s:St)(x:Option Operand)(l l0:Int):OT:=match x with
 |none=>.eq l l0 .ok
 |some y=>(match s.ev y with
  | .c (.v (.int _ a))=>.eq a l .ok
  |_=>.bad)
theorem zY8{s:St}{x:Option Operand}{l l0:Int}(h:(bdO s x l l0).holds):(∀y,x=some y→∃k,s.ev y=.c (.v (.int k l)))∧(x=none→l=l0):=by
 unfold bdO at h;split at h
 ·exact⟨fun y hy=>(by cases hy),fun _=>h.1⟩
 ·split at h
  ·rename_i k a ha;have h:=h.1;subst h;exact⟨fun y hy=>(by injection hy with hy;subst hy;exact⟨k,ha⟩),fun hh=>(by cases hh)⟩
  ·exact h.elim
def slice{α:Type}(d:CT α)(xs:List α)(l h:Int):F0 P Unit where
 m:=slc xs.length l h
 chk o s:=match o.op with
  | .slice t x lo hi none=>(match P.underlying t with
   |some (.slice e)=>.eq ((P.info? e).map (·.size)) (some d.sz) (.eq (s.ev x) (.c (.sl (xs.map d.c))) (.and (bdO s lo l 0) (bdO s hi h (xs.length:Int))))
   |_=>.bad)
  |_=>.bad
 av _ _ _:=.c (.sl ((subl xs l h).map d.c))
 ok o s y hm hh:=by
  split at hh
  ·rename_i ho;split at hh
   ·rename_i hu;obtain⟨h0,h1,h2,h3⟩:=hh;exact zPt hu h0 d.hc ho h1 (zY8 h2).1 (zY8 h2).2 (zY8 h3).1 (zY8 h3).2 (zJm hm)
   ·exact hh.elim
  ·exact hh.elim
end
section
variable {P:Program}
def nilN(e sz:Nat)(hz:0<sz):N1 P where
 chk o _:=match o.op with
  | .assign (.const (.slice none 0 0))=>.ok
  | .move (.const (.slice none 0 0))=>.ok
  |_=>.bad
 av _ _:=.ow 0
 ne _ _:=[(0,.arr e sz [])]
 ok o s h:=by
  split at h
  ·rename_i ho;exact zRK sz hz (.inl ho)
  ·rename_i ho;exact zRK sz hz (.inr ho)
  ·exact h.elim
def bsl:N1 P where
 chk o s:=match o.op with
  | .buildSlice t n parts=>(match P.underlying t with
   |some (.slice e)=>(match P.info? e with
    |some i=>(match i.zero,zI1 0 (evP s parts.toList) with
     |some z,some els=>.eq (zEc z.cells&&(Nat.blt 0 i.size&&(Nat.beq els.length n&&(els.all (fun e=>Nat.beq e.length i.size)&&(Nat.ble (n*i.size) 16777216&&Nat.blt 0 n))))) true .ok
     |_,_=>.bad)
    |none=>.bad)
   |_=>.bad)
  |_=>.bad
 av _ _:=.ow 0
 ne o s:=match o.op with
  | .buildSlice t n parts=>(match P.underlying t with
   |some (.slice e)=>[(0,.arr e ((zGX P e).getD 0) ((zI1 0 (evP s parts.toList)).getD []))]
   |_=>[])
  |_=>[]
 ok o s h:=by
  split at h
  ·rename_i t n parts ho;split at h
   ·rename_i e hu;split at h
    ·rename_i i hi;split at h
     ·rename_i z els hz hp;have h:=h.1;simp only[zh]at h;obtain⟨h1,h2,h3,h4,h5,h6⟩:=h;have hn:=Nat.eq_of_beq_eq_true h3;simp only[hu,hp,zGX,hi,Option.map_some,Option.getD_some];refine zDW hu (by rw[hi];simp only[Option.map_some,hz]) h1 (Nat.le_of_ble_eq_true h2) ho hp hn (fun e he=>?_) (Nat.le_of_ble_eq_true h5) (Nat.le_of_ble_eq_true h6);exact Nat.eq_of_beq_eq_true (List.all_eq_true.mp h4 e he)
     ·exact h.elim
    ·exact h.elim
   ·exact h.elim
  ·exact h.elim
def bsl0:N1 P where
 chk o s:=match o.op with
  | .buildSlice t 0 ⟨[]⟩=>(match P.underlying t with
   |some (.slice e)=>(match P.info? e with
    |some i=>.eq (Nat.blt 0 i.size) true .ok
    |none=>.bad)
   |_=>.bad)
  |_=>.bad
 av _ _:=.ow 0
 ne o s:=match o.op with
  | .buildSlice t _ _=>(match P.underlying t with
   |some (.slice e)=>[(0,.arr e ((zGX P e).getD 0) [])]
   |_=>[])
  |_=>[]
 ok o s h:=by
  split at h
  ·rename_i t ho;split at h
   ·rename_i e hu;split at h
    ·rename_i i hi;simp only[ho,hu,zGX,hi,Option.map_some,Option.getD_some];exact zDD hu (by rw[hi];rfl) (Nat.le_of_ble_eq_true h.1) ho rfl
    ·exact h.elim
   ·exact h.elim
  ·exact h.elim
def mkF{α:Type}(d:CT α)(zx:α)(l k:Int):F1 P Unit where
 m:=mk l k
 chk o s:=match o.op with
  | .makeSlice t x y=>(match P.underlying t with
   |some (.slice e)=>(match P.info? e with
    |some i=>(match i.zero with
     |some z=>.eq (zEc z.cells&&(Nat.beq z.cells.size i.size&&(Nat.blt 0 i.size&&Nat.ble i.bytes 128))) true (.eq (z.cells.toList.map Tr.v) (d.c zx) (.eq (s.ev x) (.c (.v (.int .i64 l))) (.eq (s.ev y) (.c (.v (.int .i64 k))) .ok)))
     |none=>.bad)
    |none=>.bad)
   |_=>.bad)
  |_=>.bad
 av _ _ _:=.ow 0
 ne o _ _:=match o.op with
  | .makeSlice t x y=>(match P.underlying t with
   |some (.slice e)=>[(0,.arr e ((zGX P e).getD 0) ((List.replicate l.toNat zx).map d.c))]
   |_=>[])
  |_=>[]
 ok o s y hm h:=by
  split at h
  ·rename_i t x y ho;split at h
   ·rename_i e hu;split at h
    ·rename_i i hi;split at h
     ·rename_i z hz;obtain⟨h0,h1,h2,h3,_⟩:=h;simp only[zh]at h0;simp only[hu,zGX,hi,Option.map_some,Option.getD_some];exact z7N hu (by rw[hi];simp only[Option.map_some,hz]) h0.1 (Nat.eq_of_beq_eq_true h0.2.1) (Nat.le_of_ble_eq_true h0.2.2.1) h1 ho h2 h3 (z69 hm) (Nat.le_of_ble_eq_true h0.2.2.2)
     ·exact h.elim
    ·exact h.elim
   ·exact h.elim
  ·exact h.elim
def fCs{α:Type}{f:FuncId}(hcf:CfW P f)(m:Option α){args:List AV}{av:α→AV}{ne:α→List (Nat×Ent)}(hS:∀y,m=some y→zH P f args (av y) (ne y))(hfl:∀y,zRW (ne y)=true):F1 P α where
 m:=m
 chk o s:=match o.op with
  | .call ⟨.value (.func g),xs,_⟩=>.eq (Nat.beq g f) true (.eq (evS s xs.toList) args (.all fun y=>.eq (av y).flat true .ok))
  |_=>.bad
 av _ _:=av
 ne _ _:=ne
 ok o s y hm h:=by
  split at h
  ·rename_i g xs ts ho;obtain⟨h1,h2,h3⟩:=h;have hgf:=Nat.eq_of_beq_eq_true h1;subst hgf;exact zVE (hS y hm) hcf ho h2 (h3 y).1 (hfl y)
  ·exact h.elim
def app{α:Type}(d:CT α)(xs ys:List α):FX P Unit where
 m:=room (xs.length+ys.length)
 run o s _ K:=match o.op,o.dst with
  | .call ⟨.builtin .append,⟨[x,y]⟩,⟨[t,t2]⟩⟩,some k=>(match P.underlying t,s.ev x with
   |some (.slice e),.ow id=>(match s.ent id,P.info? e with
    |some (.arr e2 sz els),some i=>(match i.zero with
     |some z=>.eq t2 t (.eq e2 e (.eq sz d.sz (.eq i.size d.sz (.eq els (xs.map d.c) (.eq (zCX s (s.ev y)) (some (ys.map d.c)) (.eq (Nat.beq z.cells.size d.sz&&Nat.ble i.bytes 128) true
       (K ⟨(zEM id s.T).set k (.ow id),setE id (.arr e d.sz ((xs++ys).map d.c)) s.E⟩)))))))
     |none=>.bad)
    |_,_=>.bad)
   |_,_=>.bad)
  |_,_=>.bad
 post _ o s _:=match o.op,o.dst with
  | .call ⟨_,⟨[x,_]⟩,_⟩,some k=>(match s.ev x with
   | .ow id=>(match s.ent id with
    |some (.arr e sz _)=>some ⟨(zEM id s.T).set k (.ow id),setE id (.arr e sz ((xs++ys).map d.c)) s.E⟩
    |_=>none)
   |_=>none)
  |_,_=>none
 ok o s K y hm h:=by
  split at h
  ·rename_i x y t t2 k ho hd;split at h
   ·rename_i e id hu hx;split at h
    ·rename_i e2 sz els i he hi;split at h
     ·rename_i z hz;obtain⟨h1,h2,h3,h4,h5,h6,h7,h8⟩:=h;subst h1 h2 h3 h5;rw[zh]at h7;exact zHz (z3Z ho hd hu (by rw[hi];simp only[Option.map_some,hz,h4]) (Nat.eq_of_beq_eq_true h7.1) hx he h6 d.hc (zDd hm) (Nat.le_of_ble_eq_true h7.2)) h8
     ·exact h.elim
    ·exact h.elim
   ·exact h.elim
  ·exact h.elim
def sto{α:Type}(d:CT α)(xs:List α)(n:Int)(u:α→α):FX P α where
 m:=getI xs n
 run o s v K:=match o.op,o.dst with
  | .store t x y,none=>(match s.ev x,zDa (s.ev y) with
   | .po id sz i off,some vc=>(match s.ent id with
    |some (.arr T0 sz2 els)=>.eq i n.toNat (.eq sz2 sz (.eq els (xs.map d.c) (.eq ((P.info? t).map (·.size)) (some vc.length) (.eq (Nat.ble (off+vc.length) d.sz) true (.eq (splice (d.c v) off vc) (d.c (u v))
      (K ⟨s.T,setE id (.arr T0 sz ((xs.set n.toNat (u v)).map d.c)) s.E⟩))))))
    |_=>.bad)
   |_,_=>.bad)
  |_,_=>.bad
 ok o s K v hm h:=by
  split at h
  ·rename_i t x y ho hd;split at h
   ·rename_i id sz i off vc hx hy;split at h
    ·rename_i T0 sz2 els he;obtain⟨h1,h2,h3,h4,h5,h6⟩:=h;subst h1 h2 h3;obtain⟨h7,h8⟩:=h6;exact zHz (zXF ho hd hx he hm hy h4 (by rw[d.hc];exact Nat.le_of_ble_eq_true h5) h7) h8
    ·exact h.elim
   ·exact h.elim
  ·exact h.elim
def renC:List AV→List AV→List (Nat×Nat)
 | .pt a _::xs,.pt b _::ys=>(a,b)::renC xs ys
 | .ow a::xs,.ow b::ys=>(a,b)::renC xs ys
 |_::xs,_::ys=>renC xs ys
 |_,_=>[]
def mOT(m:List (Nat×Nat))(s:St):List (Nat×Ent)→OT→OT
 |[],k=>k
 |p::ps,k=>.eq (s.entc (renI m p.1)) (some p.2) (mOT m s ps k)
theorem z4Y{m:List (Nat×Nat)}{s:St}:∀{E:List (Nat×Ent)}{k:OT},(mOT m s E k).holds→zOL m s E∧k.holds
 |[],_,h=>⟨trivial,h⟩
 |(k,e)::ps,_,h=>by obtain⟨h1,h2⟩:=h;obtain⟨h3,h4⟩:=z4Y h2;exact⟨⟨h1,h3⟩,h4⟩
def fR{α:Type}{f:FuncId}(hcf:CfW P f)(m:Option α){args:List AV}{E0:List (Nat×Ent)}{av:α→AV}{ne E1:α→List (Nat×Ent)}(hS:∀y,m=some y→zFE P f args E0 (av y) (ne y) (E1 y)):FX P α where
 m:=m
 run o s y K:=match o.op with
  | .call ⟨.value (.func g),xs,_⟩=>.eq (Nat.beq g f) true (.eq (evL s xs.toList) (renL (renC args (evL s xs.toList)) args) (.eq (zUH args&&(zZR (renC args (evL s xs.toList)) E0&&zI2 E0)) true (mOT (renC args (evL s xs.toList)) s E0
    (.eq (zEN (E1 y)) (zEN E0) (.eq (zI2 (E1 y)) true (match o.dst with
     |some d=>K ((St.mk s.T (updE (renC args (evL s xs.toList)) s.E (E1 y))).upd d (av y) (ne y))
     |none=>K (St.mk s.T (updE (renC args (evL s xs.toList)) s.E (E1 y)))))))))
  |_=>.bad
 post _ o s y:=match o.op with
  | .call ⟨_,xs,_⟩=>(match o.dst with
   |some d=>some ((St.mk s.T (updE (renC args (evL s xs.toList)) s.E (E1 y))).upd d (av y) (ne y))
   |none=>some (St.mk s.T (updE (renC args (evL s xs.toList)) s.E (E1 y))))
  |_=>none
 ok o s K y hm h:=by
  split at h
  ·rename_i g xs ts ho;obtain⟨h1,h2,h3,h4⟩:=h;have hgf:=Nat.eq_of_beq_eq_true h1;subst hgf;simp only[zh]at h3;obtain⟨h5,h6⟩:=z4Y h4;obtain⟨h7,h8,h9⟩:=h6;split at h9
   ·rename_i d hd;exact zHz (z77 _ d (hS y hm) hcf ho hd h2 h3.1 h5 h7 h3.2.1 h8 h3.2.2 rfl) h9
   ·rename_i hd;exact zHz (z5v _ (hS y hm) hcf ho hd h2 h3.1 h5 h7 h3.2.1 h8 h3.2.2 rfl) h9
  ·exact h.elim
def frzH(id:Nat):HT where
 run s K:=match s.ent id with
  |some (.arr _ _ els)=>K (s.frz id els)
  |_=>.bad
 ok s K h B w0 ok0 ok σ a w hR:=by
  split at h
  ·rename_i he;exact⟨_,_,_,h,z8M hR id he⟩
  ·exact h.elim
def hOT(s:St):List (Nat×Ent)→OT
 |[]=>.ok
 |p::ps=>.eq (s.ent p.1) (some p.2) (hOT s ps)
theorem z4c{s:St}:∀{E:List (Nat×Ent)},(hOT s E).holds→HasE s E
 |[],_=>trivial
 |(k,e)::ps,h=>⟨h.1,z4c h.2⟩
def KR{β:Type}(rs:List RS)(enc:β→AV×List (Nat×Ent))(E1:β→List (Nat×Ent))(σ:Nat→Loc):Exit→T P β→List Nat→St→OT:=fun e t' kn s'=>.and (KF rs enc e t' kn s') (match t' with
 | .ret y=>hOT s' (pinE σ (E1 y))
 |_=>.bad)
def OR(P:Program){β:Type}(t:T P β)(o:Option β)(c:Code)(s:(Nat→Loc)→St)(rs:List RS)(enc:β→AV×List (Nat×Ent))(E1:β→List (Nat×Ent)):OT:=.eq o (t.den some) (.and (.all fun y=>.eq (zI2 (E1 y)) true .ok) (.all fun σ=>goV P 100000 t [] c (s σ) (KR rs enc E1 σ)))
theorem CrT{β:Type}(t:T P β){f:FuncId}{fn:Func}{c:Code}{args:List AV}{E0:List (Nat×Ent)}{o:Option β}{r:β}(enc:β→AV×List (Nat×Ent))(E1:β→List (Nat×Ent)){rs:List RS}{vs:List ResultVar}(hf:P.funcs[f]?=some fn)(hb:fn.body=some c)(hvs:fn.results=vs.toArray)(hfit:FitsL P rs vs)(h:o=some r)
  (hO:OR P t o c (fun σ=>⟨args++List.replicate (fn.ntmps - args.length) .bot,pinE σ E0⟩) rs enc E1=(OR P t o c (fun σ=>⟨args++List.replicate (fn.ntmps - args.length) .bot,pinE σ E0⟩) rs enc E1).rf:=by kernel_rfl) (hl:Nat.ble rs.length 8=true:=by kernel_rfl):zFE P f args E0 (enc r).1 (enc r).2 (E1 r):=by
 obtain⟨h1,h2,h3⟩:=OT.of_rf _ hO;rw[h1]at h;refine zNf hf hb hvs hfit (Nat.le_of_ble_eq_true hl) fn.ntmps rfl (h2 r).1 fun σ=>zCL 100000 t [] c _ _ (h3 σ) some r h _ fun e t' kn' s' hK ht=>?_
 refine⟨z8O hK.1 ht,?_⟩;have hK:=hK.2;split at hK
 ·injection ht with ht;subst ht;exact z4c hK
 ·exact hK.elim
end
def tbF{α:Type}(f:Nat→α):Nat→Nat→List α
 |0,_=>[]
 |n+1,k=>f k::tbF f n (k+1)
def tab{α:Type}(n:Nat)(f:Nat→α):List α:=tbF f n 0
section
variable {P:Program}
def ixL:N0 P where
 chk o s:=.eq (xv P s o.op).isSome true .ok
 av o s:=(xv P s o.op).getD .bot
 ok o s h:=by obtain⟨av,hv⟩:=Option.isSome_iff_exists.mp h.1;rw[hv];exact z1P hv
end
end Go.Proofs.YtnjhhbcccgbbnaaGreatDoor
namespace Go.Proofs.YtnjhhbcccgbbnaaGreatDoor
open Go.RowKit
set_option maxRecDepth 100000
set_option maxHeartbeats 400000
noncomputable section
abbrev τF:=Int×Int×Int
abbrev τM:=Int×Int×Int×Int
theorem CtU{β:Type}(t:T qf β)(k:Nat){f:FuncId}{fn:Func}{c:Code}{args:List AV}{o:Option β}{r:β}(g:β→AV)(hf:Tryz.prog.funcs[f]?=some fn)(hb:fn.body=some c)(hvs:fn.results=[ResultVar.tmp k].toArray)(h:o=some r)
  (hO:OF qf t o c ⟨args++List.replicate (fn.ntmps - args.length) .bot,[]⟩ [.t k] (fun r=>(g r,[]))=(OF qf t o c ⟨args++List.replicate (fn.ntmps - args.length) .bot,[]⟩ [.t k] (fun r=>(g r,[]))).rf:=by kernel_rfl):zH qf f args (g r) []:=
 CtT t (fun r=>(g r,[])) (rs:=[.t k]) (vs:=[.tmp k]) hf hb hvs (.cons rfl FitsL.nil) h hO
@[reducible] def q78 (F:Nat→Int×Int×Int) (tl:List Tr):List Tr:=Ti ((F 0).1)::Ti ((F 0).2.1)::Ti ((F 0).2.2)::Ti ((F 1).1)::Ti ((F 1).2.1)::Ti ((F 1).2.2)::Ti ((F 2).1)::Ti ((F 2).2.1)::Ti ((F 2).2.2)::Ti ((F 3).1)::Ti ((F 3).2.1)::Ti ((F 3).2.2)::Ti ((F 4).1)::Ti ((F 4).2.1)::Ti ((F 4).2.2)::Ti ((F 5).1)::Ti ((F 5).2.1)::Ti ((F 5).2.2)::Ti ((F 6).1)::Ti ((F 6).2.1)::Ti ((F 6).2.2)::Ti ((F 7).1)::Ti ((F 7).2.1)::Ti ((F 7).2.2)::Ti ((F 8).1)::Ti ((F 8).2.1)::Ti ((F 8).2.2)::Ti ((F 9).1)::Ti ((F 9).2.1)::Ti ((F 9).2.2)::Ti ((F 10).1)::Ti ((F 10).2.1)::Ti ((F 10).2.2)::Ti ((F 11).1)::Ti ((F 11).2.1)::Ti ((F 11).2.2)::Ti ((F 12).1)::Ti ((F 12).2.1)::Ti ((F 12).2.2)::Ti ((F 13).1)::Ti ((F 13).2.1)::Ti ((F 13).2.2)::Ti ((F 14).1)::Ti ((F 14).2.1)::Ti ((F 14).2.2)::Ti ((F 15).1)::Ti ((F 15).2.1)::Ti ((F 15).2.2)::Ti ((F 16).1)::Ti ((F 16).2.1)::Ti ((F 16).2.2)::Ti ((F 17).1)::Ti ((F 17).2.1)::Ti ((F 17).2.2)::Ti ((F 18).1)::Ti ((F 18).2.1)::Ti ((F 18).2.2)::Ti ((F 19).1)::Ti ((F 19).2.1)::Ti ((F 19).2.2)::Ti ((F 20).1)::Ti ((F 20).2.1)::Ti ((F 20).2.2)::Ti ((F 21).1)::Ti ((F 21).2.1)::Ti ((F 21).2.2)::Ti ((F 22).1)::Ti ((F 22).2.1)::Ti ((F 22).2.2)::Ti ((F 23).1)::Ti ((F 23).2.1)::Ti ((F 23).2.2)::Ti ((F 24).1)::Ti ((F 24).2.1)::Ti ((F 24).2.2)::Ti ((F 25).1)::Ti ((F 25).2.1)::Ti ((F 25).2.2)::tl
def c5(x:Int):List Tr:=[.v (.int .u8 x)]
def c3(x:Int):List Tr:=[Ti x]
def c25(x:τF):List Tr:=[Ti x.1,Ti x.2.1,Ti x.2.2]
def c9(x:qd):List Tr:=[.v (.string x)]
def c85(x:(Int×Int)):List Tr:=[Ti x.1,Ti x.2]
def c61(x:τM):List Tr:=[Ti x.1,Ti x.2.1,Ti x.2.2.1,Ti x.2.2.2]
def ct3:CT Int:=⟨c3,1,fun _=>rfl⟩
def ct5:CT Int:=⟨c5,1,fun _=>rfl⟩
def ct9:CT qd:=⟨c9,1,fun _=>rfl⟩
def ct25:CT τF:=⟨c25,3,fun _=>rfl⟩
def ct61:CT τM:=⟨c61,4,fun _=>rfl⟩
def ct85:CT (Int×Int):=⟨c85,2,fun _=>rfl⟩
def zv3:Value:=.int .i64 0
def zv5:Value:=.int .u8 0
def zv25:Value:=.agg #[.int .i64 0,.int .i64 0,.int .i64 0]
def zv61:Value:=.agg #[.int .i64 0,.int .i64 0,.int .i64 0,.int .i64 0]
theorem iz3:(Tryz.prog.info? 3).map (fun i=>(i.zero,i.size))=some (some zv3,1):=by kernel_rfl
theorem iz5:(Tryz.prog.info? 5).map (fun i=>(i.zero,i.size))=some (some zv5,1):=by kernel_rfl
theorem iz25:(Tryz.prog.info? 25).map (fun i=>(i.zero,i.size))=some (some zv25,3):=by kernel_rfl
theorem iz61:(Tryz.prog.info? 61).map (fun i=>(i.zero,i.size))=some (some zv61,4):=by kernel_rfl
theorem izb3:(Tryz.prog.info? 3).map (fun i=>(i.zero,i.size,i.bytes))=some (some zv3,1,8):=by kernel_rfl
theorem izb25:(Tryz.prog.info? 25).map (fun i=>(i.zero,i.size,i.bytes))=some (some zv25,3,24):=by kernel_rfl
theorem zZl:(Tryz.prog.info? 61).map (fun i=>(i.zero,i.size,i.bytes))=some (some zv61,4,32):=by kernel_rfl
theorem sc3:zQR qf 3:=⟨_,Tryz.underlying3,rfl⟩
theorem sc9:zQR qf 9:=⟨_,Tryz.underlying9,rfl⟩
theorem sz3:(Tryz.prog.info? 3).map (·.size)=some 1:=by kernel_rfl
theorem sz9:(Tryz.prog.info? 9).map (·.size)=some 1:=by kernel_rfl
theorem sz25:(Tryz.prog.info? 25).map (·.size)=some 3:=by kernel_rfl
theorem sz61:(Tryz.prog.info? 61).map (·.size)=some 4:=by kernel_rfl
theorem wd25:wide qf 25 3:=⟨⟨_,Tryz.underlying25,rfl⟩,by kernel_rfl⟩
theorem wd61:wide qf 61 4:=⟨⟨_,Tryz.underlying61,rfl⟩,by kernel_rfl⟩
theorem wd75:wide qf 75 4:=⟨⟨_,Tryz.underlying75,rfl⟩,by kernel_rfl⟩
theorem wd97:wide qf 97 2:=⟨⟨_,Tryz.underlying97,rfl⟩,by kernel_rfl⟩
theorem wd141:wide qf 141 12:=⟨⟨_,Tryz.underlying141,rfl⟩,by kernel_rfl⟩
theorem z7r:wide qf 144 4:=⟨⟨_,Tryz.underlying144,rfl⟩,by kernel_rfl⟩
theorem wd173:wide qf 173 9:=⟨⟨_,Tryz.underlying173,rfl⟩,by kernel_rfl⟩
def pl25:Nat→Option (Nat×Nat):=fun i=>(#[(0,1),(1,1),(2,1)]:Array (Nat×Nat))[i]?
theorem bt25:∀ps,Tryz.prog.built 25 ps=Instr.fill pl25 #[.int .i64 0,.int .i64 0,.int .i64 0] ps:=fun ps=>by kernel_rfl
def pl57:Nat→Option (Nat×Nat):=fun i=>(#[(0,1),(1,1),(2,1)]:Array (Nat×Nat))[i]?
theorem bt57:∀ps,Tryz.prog.built 57 ps=Instr.fill pl57 #[.slice none 0 0,.int .i64 0,.int .u64 0] ps:=fun ps=>by kernel_rfl
def pl61:Nat→Option (Nat×Nat):=fun i=>(#[(0,1),(1,1),(2,1),(3,1)]:Array (Nat×Nat))[i]?
theorem bt61:∀ps,Tryz.prog.built 61 ps=Instr.fill pl61 #[.int .i64 0,.int .i64 0,.int .i64 0,.int .i64 0] ps:=fun ps=>by kernel_rfl
def pl75:Nat→Option (Nat×Nat):=fun i=>(#[(0,1),(1,1),(2,1),(3,1)]:Array (Nat×Nat))[i]?
theorem bt75:∀ps,Tryz.prog.built 75 ps=Instr.fill pl75 #[.string qe,.slice none 0 0,.slice none 0 0,.slice none 0 0] ps:=fun ps=>by kernel_rfl
def pl85:Nat→Option (Nat×Nat):=fun i=>(#[(0,1),(1,1)]:Array (Nat×Nat))[i]?
theorem bt85:∀ps,Tryz.prog.built 85 ps=Instr.fill pl85 #[.int .i64 0,.int .i64 0] ps:=fun ps=>by kernel_rfl
def pl97:Nat→Option (Nat×Nat):=fun i=>(#[(0,1),(1,1)]:Array (Nat×Nat))[i]?
theorem bt97:∀ps,Tryz.prog.built 97 ps=Instr.fill pl97 #[.int .i64 0,.int .i64 0] ps:=fun ps=>by kernel_rfl
def z7z:Nat→Option (Nat×Nat):=fun i=>(#[(0,1),(1,1),(2,1),(3,1),(4,4),(8,4)]:Array (Nat×Nat))[i]?
theorem bt141:∀ps,Tryz.prog.built 141 ps=Instr.fill z7z #[.int .i64 0,.int .i64 0,.int .i64 0,.int .i64 0,.int .i64 0,.int .i64 0,.int .i64 0,.int .i64 0,.int .i64 0,.int .i64 0,.int .i64 0,.int .i64 0] ps:=fun ps=>by kernel_rfl
def zZ2:Nat→Option (Nat×Nat):=fun i=>some (i*1,1)
theorem z2W:∀ps,Tryz.prog.built 144 ps=Instr.fill zZ2 #[.int .i64 0,.int .i64 0,.int .i64 0,.int .i64 0] ps:=fun ps=>by kernel_rfl
def z4L:Nat→Option (Nat×Nat):=fun i=>some (i*1,1)
theorem z8H:∀ps,Tryz.prog.built 172 ps=Instr.fill z4L #[.int .i64 0,.int .i64 0,.int .i64 0] ps:=fun ps=>by kernel_rfl
def z7y:Nat→Option (Nat×Nat):=fun i=>some (i*3,3)
theorem bt173:∀ps,Tryz.prog.built 173 ps=Instr.fill z7y #[.int .i64 0,.int .i64 0,.int .i64 0,.int .i64 0,.int .i64 0,.int .i64 0,.int .i64 0,.int .i64 0,.int .i64 0] ps:=fun ps=>by kernel_rfl
theorem zWo:zXH qf .eql 25:=by
 intro a0 a1 a2 b0 b1 b2 x y w;have hg:(eqGuard .eql 25 x y (.agg #[.int .i64 a0,.int .i64 a1,.int .i64 a2]) (.agg #[.int .i64 b0,.int .i64 b1,.int .i64 b2])).run qf w=.ok () w:=by simp[eqGuard,(by kernel_rfl:Tryz.prog.eqGuardType Tryz.prog.depth 25=false)]
 have hf:(Tryz.prog.fieldsOf 25).toList=(match Tryz.prog.underlying 25 with|some (.struct fs)=>fs.toList|_=>[]):=by kernel_rfl
 refine⟨hg,?_⟩;rw[run_eql_struct,run_equalIn_agg (d:=9999) (ht:=by kernel_rfl) (hp:=by kernel_rfl),hf,Tryz.underlying25];by_cases h0:a0=b0<;>by_cases h1:a1=b1<;>by_cases h2:a2=b2<;>simp[Op.eqFields,part,go_sem,h0,h1,h2]
theorem z1u:zXH qf .neq 25:=by
 intro a0 a1 a2 b0 b1 b2 x y w;have hg:(eqGuard .neq 25 x y (.agg #[.int .i64 a0,.int .i64 a1,.int .i64 a2]) (.agg #[.int .i64 b0,.int .i64 b1,.int .i64 b2])).run qf w=.ok () w:=by simp[eqGuard,(by kernel_rfl:Tryz.prog.eqGuardType Tryz.prog.depth 25=false)]
 have hf:(Tryz.prog.fieldsOf 25).toList=(match Tryz.prog.underlying 25 with|some (.struct fs)=>fs.toList|_=>[]):=by kernel_rfl
 refine⟨hg,?_⟩;rw[run_neq_struct,run_equalIn_agg (d:=9999) (ht:=by kernel_rfl) (hp:=by kernel_rfl),hf,Tryz.underlying25];by_cases h0:a0=b0<;>by_cases h1:a1=b1<;>by_cases h2:a2=b2<;>simp[Op.eqFields,part,go_sem,h0,h1,h2]
theorem eqg85:z6F qf .eql 85:=by
 intro a0 a1 b0 b1 x y w;have hg:(eqGuard .eql 85 x y (.agg #[.int .i64 a0,.int .i64 a1]) (.agg #[.int .i64 b0,.int .i64 b1])).run qf w=.ok () w:=by simp[eqGuard,(by kernel_rfl:Tryz.prog.eqGuardType Tryz.prog.depth 85=false)]
 have hf:(Tryz.prog.fieldsOf 85).toList=(match Tryz.prog.underlying 85 with|some (.struct fs)=>fs.toList|_=>[]):=by kernel_rfl
 refine⟨hg,?_⟩;rw[run_eql_struct,run_equalIn_agg (d:=9999) (ht:=by kernel_rfl) (hp:=by kernel_rfl),hf,Tryz.underlying85];by_cases h0:a0=b0<;>by_cases h1:a1=b1<;>simp[Op.eqFields,part,go_sem,h0,h1]
theorem z9K:∀args w,(callFunc 280 args).run qf w=((Extern.MathSqrt.sqrt args).run qf w).andThen fun v w'=>.ok (.value v) w':=fun args w=>run_callFunc_extern Tryz.func280 kk kk kk kk args w
def zHi(x:qd):Value:=.string x
def zLR(x:qd):Value:=.string x
def kv170(p:qd×qd):Value×Value:=(zHi p.1,zLR p.2)
theorem kt170:KeyT qf 9 zHi:=by
 refine z42 (.string) Tryz.underlying9 (fun b a w=>?_) (fun a b=>?_) (fun a=>?_)
 ·exact MapKept.run_checkKey Tryz.underlying9 (by simp[MapKept.IsKey,zHi]) b 9999
 ·simp[zHi,Instr.sameNow,z5W]
 ·simp[zHi,Instr.sameBits,z5W]
theorem zNb:MpOk qf 170 zHi zLR qe:=⟨9,9,Tryz.underlying170,kt170,by kernel_rfl,fun _=>rfl⟩
def jC(a0:Int):=fC zLT (zR a0) fun _=>zMB
def zVL(a0:List qd)(a1:qd):=fC zSH (zDZ a0 a1) fun _=>zT3
theorem z0B:CfW qf 5:=cfW Tryz.func5
noncomputable def z0Z(code1:List Int)(more2:List Int):T qf Bool:=
 .pl<|.joinC (.n0 (lenM ct5 code1)<|.selB (ltI 1048576 ((code1.length:Int))) false [.z (lenM ct5 more2),.z (lenM ct5 code1)] fun w_2=>.ret w_2) (mb 16 16) [] (fun s q_3 γ=>s.pc (mb 16 16) [] [(4,Bo (bif q_3 then true else (ltI (w64 (1048576 - ((code1.length:Int)))) ((more2.length:Int)))))] []) fun q_3=>
 .lt (bif q_3 then true else (ltI (w64 (1048576 - ((code1.length:Int)))) ((more2.length:Int)))) fun t4=>.ret t4
theorem z07{code1:List Int}{more2:List Int}{r:Bool}(h:zEU code1 more2=some r):zH qf 5 [.c (.sl (code1.map c5)),.c (.sl (more2.map c5))] (Bo r) []:=CtU (z0Z code1 more2) 4 (fun r=>Bo r) Tryz.func5 rfl rfl h
def z1N(code1:List Int)(more2:List Int):=fC z0B (zEU code1 more2) fun _=>z07
theorem zOT:CfW qf 130:=cfW Tryz.func130
noncomputable def zOl(cc1:((List Int)×Int×Int)):T qf ((Int×((List Int)×Int×Int))):=
 .pl<|
 .pl<|.join (.draw 10 []<|.n0 au<|.n0 au<|.n0 (lenM ct5 cc1.1)<|
 .cond (ltI cc1.2.1 ((cc1.1.length:Int))) (.draw 12 []<|.n0 au<|.n0 au<|.op0 (idxM ct5 cc1.1 cc1.2.1) fun e4=>.n0 au<|
 .frc (IntKind.i64.wrap e4) fun b5=>.ret b5)<|.ret 0) (mb 62 9) [80000] (fun s j2 γ=>s.pc (mb 62 9) [80000] [(3,I j2)] []) fun j2=>
 .n0 au<|.n0 au<|
 .frc (w64 (cc1.2.1+1)) fun f6=>.n0 au<|.n0 au<|.n0 au<|.n0 au<|.n0 au<|.n0 au<|
 .frc (IntKind.u64.wrap ((IntKind.u64.wrap ((IntKind.u64.wrap (cc1.2.2*6364136223846793005))+(IntKind.u64.wrap j2)))+1442695040888963407)) fun f7=>.draw 10 []<|.n0 au<|.n0 au<|.n0 (lenM ct5 cc1.1)<|
 .cond (leI f6 ((cc1.1.length:Int))) (
 .ret ((j2,(cc1.1,f6,f7))))<|.n0 au<|.n0 dvN<|.n0 au<|.n0 au<|
 .frc (IntKind.i64.wrap (andI .u64 (shrI .u64 f7 40) 255)) fun t9=>.ret ((t9,(cc1.1,f6,f7)))
theorem zPE{cc1:((List Int)×Int×Int)}{r:(Int×((List Int)×Int×Int))}(h:zCp cc1=some r):zFE qf 130 [.pt 80000 0] [(80000,.box [.sl (cc1.1.map c5),Ti cc1.2.1,.v (.int .u64 cc1.2.2)])] (I r.1) [] [(80000,.box [.sl (r.2.1.map c5),Ti r.2.2.1,.v (.int .u64 r.2.2.2)])]:=CrT (zOl cc1) (fun r=>(I r.1,[])) (fun r=>[(80000,.box [.sl (r.2.1.map c5),Ti r.2.2.1,.v (.int .u64 r.2.2.2)])]) (rs:=[.t 2]) (vs:=[.tmp 2]) Tryz.func130 rfl rfl (.cons rfl FitsL.nil) h
def zIu(cc1:((List Int)×Int×Int)):=fR zOT (zCp cc1) fun _=>zPE
theorem zOS:CfW qf 63:=cfW Tryz.func63
noncomputable def zOk(cc1:((List Int)×Int×Int))(vn2:Int):T qf ((Int×((List Int)×Int×Int))):=
 .cond (leI vn2 1) (
 .ret ((0,cc1)))<|.opx (zIu cc1) fun y4=>
 .cond (ltI 200 vn2) (.opx (zIu y4.2) fun y6=>
 .frc (w64 ((w64 (y4.1*256))+y6.1)) fun x7=>.op0 (remF .i64 x7 vn2) fun z8=>
 .frc (Int.tmod x7 vn2) fun t9=>.ret ((t9,y6.2)))<|.op0 (remF .i64 y4.1 vn2) fun z10=>
 .frc (Int.tmod y4.1 vn2) fun t11=>.ret ((t11,y4.2))
theorem zPD{cc1:((List Int)×Int×Int)}{vn2:Int}{r:(Int×((List Int)×Int×Int))}(h:zC cc1 vn2=some r):zFE qf 63 [.pt 80000 0,I vn2] [(80000,.box [.sl (cc1.1.map c5),Ti cc1.2.1,.v (.int .u64 cc1.2.2)])] (I r.1) [] [(80000,.box [.sl (r.2.1.map c5),Ti r.2.2.1,.v (.int .u64 r.2.2.2)])]:=CrT (zOk cc1 vn2) (fun r=>(I r.1,[])) (fun r=>[(80000,.box [.sl (r.2.1.map c5),Ti r.2.2.1,.v (.int .u64 r.2.2.2)])]) (rs:=[.t 4]) (vs:=[.tmp 4]) Tryz.func63 rfl rfl (.cons rfl FitsL.nil) h
def zE(cc1:((List Int)×Int×Int))(vn2:Int):=fR zOS (zC cc1 vn2) fun _=>zPD
theorem zNZ:CfW qf 62:=cfW Tryz.func62
noncomputable def zNn(cc1:((List Int)×Int×Int))(list2:List Int):T qf ((Int×((List Int)×Int×Int))):=
 .n0 (lenM ct3 list2)<|.opx (zE cc1 ((list2.length:Int))) fun y3=>.op0 (idxM ct3 list2 y3.1) fun e4=>
 .ret ((e4,y3.2))
theorem zNz{cc1:((List Int)×Int×Int)}{list2:List Int}{r:(Int×((List Int)×Int×Int))}(h:jE cc1 list2=some r):zFE qf 62 [.pt 80000 0,.c (.sl (list2.map c3))] [(80000,.box [.sl (cc1.1.map c5),Ti cc1.2.1,.v (.int .u64 cc1.2.2)])] (I r.1) [] [(80000,.box [.sl (r.2.1.map c5),Ti r.2.2.1,.v (.int .u64 r.2.2.2)])]:=CrT (zNn cc1 list2) (fun r=>(I r.1,[])) (fun r=>[(80000,.box [.sl (r.2.1.map c5),Ti r.2.2.1,.v (.int .u64 r.2.2.2)])]) (rs:=[.t 4]) (vs:=[.tmp 4]) Tryz.func62 rfl rfl (.cons rfl FitsL.nil) h
def zAo(cc1:((List Int)×Int×Int))(list2:List Int):=fR zNZ (jE cc1 list2) fun _=>zNz
theorem zM7:CfW qf 231:=cfW Tryz.func231
noncomputable def zNK(cc1:((List Int)×Int×Int)):T qf ((Int×((List Int)×Int×Int))):=
 .opx (zE cc1 12) fun y2=>
 .cond (eqI y2.1 0) (.n1 bsl<|.hint (frzH 64)<|.opx (zAo y2.2 ([0,1,-1,1000000,-1000000,1000001,-1000001,-9223372036854775808,9223372036854775807,999983,999999,1000])) fun y4=>
 .ret ((y4.1,y4.2)))<|.join (
 .cond (eqI y2.1 1) (.ret (eqI y2.1 1))<|
 .ret (eqI y2.1 2)) (mb 32 1041) [80000] (fun s j5 γ=>s.pc (mb 32 1041) [80000] [(10,Bo j5)] []) fun j5=>
 .cond j5 (.opx (zE y2.2 50000) fun y8=>.opx (zE y8.2 20) fun y9=>.opx (zE y9.2 2) fun y10=>
 .frc (w64 ((w64 (y8.1*(w64 (1+y9.1))))*(w64 (1 - (w64 (2*y10.1)))))) fun t11=>.ret ((t11,y10.2)))<|.join (
 .cond (eqI y2.1 3) (.ret (eqI y2.1 3))<|
 .ret (eqI y2.1 4)) (mb 32 16777217) [80000] (fun s j12 γ=>s.pc (mb 32 16777217) [80000] [(24,Bo j12)] []) fun j12=>
 .cond j12 (.opx (zE y2.2 2000) fun y15=>
 .ret ((y15.1,y15.2)))<|.opx (zE y2.2 121) fun y16=>
 .frc (w64 (y16.1 - 40)) fun t17=>.ret ((t17,y16.2))
theorem zNS{cc1:((List Int)×Int×Int)}{r:(Int×((List Int)×Int×Int))}(h:zB4 cc1=some r):zFE qf 231 [.pt 80000 0] [(80000,.box [.sl (cc1.1.map c5),Ti cc1.2.1,.v (.int .u64 cc1.2.2)])] (I r.1) [] [(80000,.box [.sl (r.2.1.map c5),Ti r.2.2.1,.v (.int .u64 r.2.2.2)])]:=CrT (zNK cc1) (fun r=>(I r.1,[])) (fun r=>[(80000,.box [.sl (r.2.1.map c5),Ti r.2.2.1,.v (.int .u64 r.2.2.2)])]) (rs:=[.t 2]) (vs:=[.tmp 2]) Tryz.func231 rfl rfl (.cons rfl FitsL.nil) h
def zFV(cc1:((List Int)×Int×Int)):=fR zM7 (zB4 cc1) fun _=>zNS
theorem zOU:CfW qf 175:=cfW Tryz.func175
noncomputable def zOm(cc1:((List Int)×Int×Int)):T qf ((τF×((List Int)×Int×Int))):=
 .opx (zE cc1 14) fun y2=>
 .cond (eqI y2.1 0) (.opx (zFV y2.2) fun y4=>.opx (zFV y4.2) fun y5=>.opx (zFV y5.2) fun y6=>.n0 (bld pl25 bt25)<|
 .ret (((y4.1,y5.1,y6.1),y6.2)))<|
 .cond (eqI y2.1 1) (.n1 bsl<|.hint (frzH 168)<|.opx (zAo y2.2 ([2,3,-1,0,1000])) fun y8=>
 .opx (zE y8.2 20) fun y9=>.opx (zE y9.2 21) fun y10=>.opx (zE y10.2 20) fun y11=>.n0 (bld pl25 bt25)<|
 .frc (w64 (y8.1*y9.1)) fun f12=>.frc (w64 (y8.1*(w64 (y10.1 - 10)))) fun f13=>.frc (w64 (y8.1*y11.1)) fun f14=>.ret (((f12,f13,f14),y11.2)))<|
 .cond (eqI y2.1 2) (.opx (zE y2.2 2000) fun y16=>.opx (zE y16.2 3000) fun y17=>.opx (zE y17.2 2000) fun y18=>.n0 (bld pl25 bt25)<|
 .frc (w64 (y17.1 - 1500)) fun f19=>.ret (((y16.1,f19,y18.1),y18.2)))<|
 .cond (eqI y2.1 3) (.opx (zE y2.2 21) fun y21=>.opx (zE y21.2 21) fun y22=>.opx (zE y22.2 21) fun y23=>.n0 (bld pl25 bt25)<|
 .frc (w64 (y21.1 - 10)) fun f24=>.frc (w64 (y22.1 - 10)) fun f25=>.frc (w64 (y23.1 - 10)) fun f26=>.ret (((f24,f25,f26),y23.2)))<|.opx (zE y2.2 25) fun y27=>.opx (zE y27.2 40) fun y28=>
 .frc (w64 (1+y27.1)) fun a29=>.opx (zE y28.2 (w64 (2*a29))) fun y30=>
 .frc (w64 ((w64 (y30.1 - a29))+1)) fun b31=>.op0 (quoF .i64 (w64 ((w64 (b31*b31))+(w64 (4*a29)))) (w64 (4*a29))) fun z32=>.n0 (bld pl25 bt25)<|
 .frc (w64 ((w64 (Int.tdiv (w64 ((w64 (b31*b31))+(w64 (4*a29)))) (w64 (4*a29))))+y28.1)) fun f33=>.ret (((a29,b31,f33),y30.2))
theorem zPF{cc1:((List Int)×Int×Int)}{r:(τF×((List Int)×Int×Int))}(h:zDo cc1=some r):zFE qf 175 [.pt 80000 0] [(80000,.box [.sl (cc1.1.map c5),Ti cc1.2.1,.v (.int .u64 cc1.2.2)])] (.ag [Ti r.1.1,Ti r.1.2.1,Ti r.1.2.2]) [] [(80000,.box [.sl (r.2.1.map c5),Ti r.2.2.1,.v (.int .u64 r.2.2.2)])]:=CrT (zOm cc1) (fun r=>(.ag [Ti r.1.1,Ti r.1.2.1,Ti r.1.2.2],[])) (fun r=>[(80000,.box [.sl (r.2.1.map c5),Ti r.2.2.1,.v (.int .u64 r.2.2.2)])]) (rs:=[.w 2 3]) (vs:=[.cell 2 25]) Tryz.func175 rfl rfl (.cons ⟨rfl,wd25⟩ FitsL.nil) h
def zPv(cc1:((List Int)×Int×Int)):=fR zOU (zDo cc1) fun _=>zPF
theorem zWI:CfW qf 128:=cfW Tryz.func128
noncomputable def zXP(a1:Int)(vm2:Int):T qf Int:=
 .op0 (remF .i64 a1 vm2) fun z3=>
 .frc (Int.tmod a1 vm2) fun vr4=>
 .cond (ltI vr4 0) (
 .frc (w64 (vr4+vm2)) fun vr6=>
 .ret vr6)<|
 .ret vr4
theorem zXc{a1:Int}{vm2:Int}{r:Int}(h:jI a1 vm2=some r):zH qf 128 [I a1,I vm2] (I r) []:=CtU (zXP a1 vm2) 4 (fun r=>I r) Tryz.func128 rfl rfl h
def zBC(a1:Int)(vm2:Int):=fC zWI (jI a1 vm2) fun _=>zXc
theorem zUm:CfW qf 129:=cfW Tryz.func129
noncomputable def zV8(a1:Int)(b2:Int):T qf Int:=
 .cond (ltI b2 a1) (
 .ret a1)<|
 .ret b2
theorem zVt{a1:Int}{b2:Int}{r:Int}(h:zCa a1 b2=some r):zH qf 129 [I a1,I b2] (I r) []:=CtU (zV8 a1 b2) 4 (fun r=>I r) Tryz.func129 rfl rfl h
def zJ4(a1:Int)(b2:Int):=fC zUm (zCa a1 b2) fun _=>zVt
theorem zOV:CfW qf 61:=cfW Tryz.func61
noncomputable def zOn(cc1:((List Int)×Int×Int)):T qf ((Int×((List Int)×Int×Int))):=
 .opx (zE cc1 16) fun y2=>
 .cond (eqI y2.1 0) (.n1 bsl<|.hint (frzH 72)<|.opx (zAo y2.2 ([-3,-4,-2000,-1999,-1996,-1995,-163,-2001,-2003,-2004,0,1,5,-1,-2,-5,-9223372036854775808])) fun y4=>
 .ret ((y4.1,y4.2)))<|.join (
 .cond (eqI y2.1 1) (.ret (eqI y2.1 1))<|
 .ret (eqI y2.1 2)) (mb 42 2081) [80000] (fun s j5 γ=>s.pc (mb 42 2081) [80000] [(11,Bo j5)] []) fun j5=>
 .cond j5 (.opx (zE y2.2 1998) fun y8=>
 .frc (w64 ((-3) - y8.1)) fun d9=>.op1 (zBC d9 4) fun y10=>
 .cond (ltI 1 y10) (.op1 (zJ4 (-2000) (w64 (d9 - 2))) fun y12=>
 .ret ((y12,y8.2)))<|
 .ret ((d9,y8.2)))<|.join (
 .cond (eqI y2.1 3) (.ret (eqI y2.1 3))<|
 .cond (eqI y2.1 4) (.ret (eqI y2.1 4))<|
 .ret (eqI y2.1 5)) (mb 42 16777249) [80000] (fun s j13 γ=>s.pc (mb 42 16777249) [80000] [(24,Bo j13)] []) fun j13=>
 .cond j13 (.n1 bsl<|.hint (frzH 232)<|.opx (zAo y2.2 ([-84,-420,-231,-260,-455,-520,-660,-1155,-1320,-1380,-1428,-1540,-399,-1092,-1560,-1785])) fun y17=>
 .ret ((y17.1,y17.2)))<|.join (
 .cond (eqI y2.1 6) (.ret (eqI y2.1 6))<|
 .ret (eqI y2.1 7)) (mb 42 2147483649) [80000] (fun s j18 γ=>s.pc (mb 42 2147483649) [80000] [(31,Bo j18)] []) fun j18=>
 .cond j18 (.opx (zE y2.2 60) fun y21=>
 .frc (w64 ((-4)*(w64 (1+y21.1)))) fun t22=>.ret ((t22,y21.2)))<|.opx (zE y2.2 50) fun y23=>
 .frc (w64 ((-3) - (w64 (4*y23.1)))) fun t24=>.ret ((t24,y23.2))
theorem zPG{cc1:((List Int)×Int×Int)}{r:(Int×((List Int)×Int×Int))}(h:zCq cc1=some r):zFE qf 61 [.pt 80000 0] [(80000,.box [.sl (cc1.1.map c5),Ti cc1.2.1,.v (.int .u64 cc1.2.2)])] (I r.1) [] [(80000,.box [.sl (r.2.1.map c5),Ti r.2.2.1,.v (.int .u64 r.2.2.2)])]:=CrT (zOn cc1) (fun r=>(I r.1,[])) (fun r=>[(80000,.box [.sl (r.2.1.map c5),Ti r.2.2.1,.v (.int .u64 r.2.2.2)])]) (rs:=[.t 2]) (vs:=[.tmp 2]) Tryz.func61 rfl rfl (.cons rfl FitsL.nil) h
def zIv(cc1:((List Int)×Int×Int)):=fR zOV (zCq cc1) fun _=>zPG
theorem zY0:CfW qf 159:=cfW Tryz.func159
noncomputable def zYw(vn1:Int)(lo2:Int)(hi3:Int):T qf Bool:=
 .pl<|.joinC (.selB (leI lo2 vn1) true [] fun w_2=>.ret w_2) (mb 15 64) [] (fun s q_3 γ=>s.pc (mb 15 64) [] [(6,Bo (bif q_3 then (leI vn1 hi3) else false))] []) fun q_3=>
 .ret (bif q_3 then (leI vn1 hi3) else false)
theorem zZG{vn1:Int}{lo2:Int}{hi3:Int}{r:Bool}(h:zAX vn1 lo2 hi3=some r):zH qf 159 [I vn1,I lo2,I hi3] (Bo r) []:=CtU (zYw vn1 lo2 hi3) 6 (fun r=>Bo r) Tryz.func159 rfl rfl h
def zFo(vn1:Int)(lo2:Int)(hi3:Int):=fC zY0 (zAX vn1 lo2 hi3) fun _=>zZG
theorem zUh:CfW qf 89:=cfW Tryz.func89
noncomputable def zV3(d1:Int):T qf Bool:=
 .pl<|.joinC (.op1 (zFo d1 (-2000) (-3)) fun y2=>.seqT (.cond y2 (.op1 (zBC d1 4) fun y4=>.ret (ltI y4 2)) (.ret false)) fun b5=>.ret (y2,b5)) (mb 10 4) [] (fun s q_1 γ=>s.pc (mb 10 4) [] [(2,Bo q_1.2)] []) fun q_1=>
 .ret q_1.2
theorem zVo{d1:Int}{r:Bool}(h:zC9 d1=some r):zH qf 89 [I d1] (Bo r) []:=CtU (zV3 d1) 2 (fun r=>Bo r) Tryz.func89 rfl rfl h
def zJ3(d1:Int):=fC zUh (zC9 d1) fun _=>zVo
theorem zLB:CfW qf 163:=cfW Tryz.func163
noncomputable def zL2(cc1:((List Int)×Int×Int)):T qf ((Int×((List Int)×Int×Int))):=
 .opx (zIv cc1) fun y2=>
 .op1 (zJ3 y2.1) fun y3=>
 .cond (!y3) (
 .ret ((-23,y2.2)))<|
 .ret ((y2.1,y2.2))
theorem zL9{cc1:((List Int)×Int×Int)}{r:(Int×((List Int)×Int×Int))}(h:zA4 cc1=some r):zFE qf 163 [.pt 80000 0] [(80000,.box [.sl (cc1.1.map c5),Ti cc1.2.1,.v (.int .u64 cc1.2.2)])] (I r.1) [] [(80000,.box [.sl (r.2.1.map c5),Ti r.2.2.1,.v (.int .u64 r.2.2.2)])]:=CrT (zL2 cc1) (fun r=>(I r.1,[])) (fun r=>[(80000,.box [.sl (r.2.1.map c5),Ti r.2.2.1,.v (.int .u64 r.2.2.2)])]) (rs:=[.t 2]) (vs:=[.tmp 2]) Tryz.func163 rfl rfl (.cons rfl FitsL.nil) h
def zDb(cc1:((List Int)×Int×Int)):=fR zLB (zA4 cc1) fun _=>zL9
theorem zUp:CfW qf 90:=cfW Tryz.func90
noncomputable def zVb(f1:τF):T qf Int:=
 .frc (w64 ((w64 (f1.2.1*f1.2.1)) - (w64 ((w64 (4*f1.1))*f1.2.2)))) fun t2=>.ret t2
theorem zVw{f1:τF}{r:Int}(h:qT f1=some r):zH qf 90 [.ag [Ti f1.1,Ti f1.2.1,Ti f1.2.2]] (I r) []:=CtU (zVb f1) 2 (fun r=>I r) Tryz.func90 rfl rfl h
def zAP(f1:τF):=fC zUp (qT f1) fun _=>zVw
theorem zYZ:CfW qf 97:=cfW Tryz.func97
theorem zZF{f1:τF}{r:Bool}(h:zDn f1=some r):zH qf 97 [.ag [Ti f1.1,Ti f1.2.1,Ti f1.2.2]] (Bo r) []:=by
 refine CtW [2] Tryz.func97 rfl rfl 35 ?_
 unfold zDn at h;refine VE ?_
 obtain⟨t6,ht6,h⟩:=zA h;have ht6:=zD ht6;refine zDL (mb 35 4) [] (s1:=⟨.bot::.bot::Bo t6::bt 32 [],[]⟩) ?_ ?_
 ·refine YR 7 ?_
  refine zBB (ltI (w64 (0 - f1.1)) f1.2.1) (fun hc2=>?_) (fun hc2=>?_)
  ·refine YQ hc2 ?_
   refine YR 7 ?_
   refine zBB (bif (ltI (w64 (0 - f1.1)) f1.2.1) then (leI f1.2.1 f1.1) else false) (fun hc3=>?_) (fun hc3=>?_)
   ·refine YQ hc3 ?_ (by rw[hc2];kernel_rfl)
    refine YR 6 ?_
    refine zBB (ltI f1.1 f1.2.2) (fun hc4=>?_) (fun hc4=>?_)
    ·refine YQ hc4 ?_
     exact YE (by rw[←ht6];(try rw[hc3]);(try rw[hc2]);(try rw[hc4]);kernel_rfl)
    ·refine YQ hc4 ?_
     refine YR 6 ?_
     refine zBB (eqI f1.1 f1.2.2) (fun hc5=>?_) (fun hc5=>?_)
     ·refine YQ hc5 ?_
      exact YE (by rw[←ht6];(try rw[hc3]);(try rw[hc2]);(try rw[hc4]);(try rw[hc5]);kernel_rfl)
     ·refine YQ hc5 ?_
      exact YE (by rw[←ht6];(try rw[hc3]);(try rw[hc2]);(try rw[hc4]);(try rw[hc5]);kernel_rfl)
   ·refine YQ hc3 ?_ (by rw[hc2];kernel_rfl)
    exact YE (by rw[←ht6];(try rw[hc3]);(try rw[hc2]);kernel_rfl)
  ·refine YQ hc2 ?_
   refine YR 7 ?_
   refine zBB (bif (ltI (w64 (0 - f1.1)) f1.2.1) then (leI f1.2.1 f1.1) else false) (fun hc3=>?_) (fun hc3=>?_)
   ·refine YQ hc3 ?_ (by rw[hc2];kernel_rfl)
    refine YR 6 ?_
    refine zBB (ltI f1.1 f1.2.2) (fun hc4=>?_) (fun hc4=>?_)
    ·refine YQ hc4 ?_
     exact YE (by rw[←ht6];(try rw[hc3]);(try rw[hc2]);(try rw[hc4]);kernel_rfl)
    ·refine YQ hc4 ?_
     refine YR 6 ?_
     refine zBB (eqI f1.1 f1.2.2) (fun hc5=>?_) (fun hc5=>?_)
     ·refine YQ hc5 ?_
      exact YE (by rw[←ht6];(try rw[hc3]);(try rw[hc2]);(try rw[hc4]);(try rw[hc5]);kernel_rfl)
     ·refine YQ hc5 ?_
      exact YE (by rw[←ht6];(try rw[hc3]);(try rw[hc2]);(try rw[hc4]);(try rw[hc5]);kernel_rfl)
   ·refine YQ hc3 ?_ (by rw[hc2];kernel_rfl)
    exact YE (by rw[←ht6];(try rw[hc3]);(try rw[hc2]);kernel_rfl)
 cases h;exact zBW VT
def zMg(f1:τF):=fC zYZ (zDn f1) fun _=>zZF
theorem zWH:CfW qf 232:=cfW Tryz.func232
noncomputable def zXO(d1:Int):T qf (List τF):=
 .n1 (nilN 25 3 (by decide))<|
 .n1 (nilN 25 3 (by decide))<|
 .loop (fun n X_3=>zE6 d1 n X_3.1 X_3.2) ((1,([]:List τF))) (mb 47 25) [24] (fun s X_3 γ=>s.pc (mb 47 25) [24] [(4,I X_3.1)] [(24,.arr 25 3 (X_3.2.map c25))]) (fun X_3=>
 .cond (leI (w64 ((w64 (3*X_3.1))*X_3.1)) (w64 (0 - d1))) (
 .frc (w64 (1 - X_3.1)) fun b7=>.loop (fun n X_2=>zC4 X_3.1 d1 n X_2.1 X_2.2) ((b7,X_3.2)) (mb 47 57) [24] (fun s X_2 γ=>s.pc (mb 47 57) [24] [(5,I X_2.1)] [(24,.arr 25 3 (X_2.2.map c25))]) (fun X_2=>
 .cond (leI X_2.1 X_3.1) (.op0 (quoF .i64 (w64 ((w64 (X_2.1*X_2.1)) - d1)) (w64 (4*X_3.1))) fun z13=>.n0 (bld pl25 bt25)<|
 .frc (w64 (Int.tdiv (w64 ((w64 (X_2.1*X_2.1)) - d1)) (w64 (4*X_3.1)))) fun f14=>.joinC (.op1 (zAP ((X_3.1,X_2.1,f14))) fun y15=>.seqT (.cond (eqI y15 d1) (.op1 (zMg ((X_3.1,X_2.1,f14))) fun y17=>.ret y17) (.ret false)) fun b18=>.ret (y15,b18)) (mb 47 2199023255673) [48,24] (fun s q_1 γ=>s.pc (mb 47 2199023255673) [48,24] [(41,Bo q_1.2)] []) fun q_1=>
 .cond q_1.2 (.n1 bsl<|.opx (app ct25 X_2.2 ([(X_3.1,X_2.1,f14)])) fun u20=>
 .frc (w64 (X_2.1+1)) fun b21=>.ret (.inl ((b21,X_2.2++([(X_3.1,X_2.1,f14)])))))<|
 .frc (w64 (X_2.1+1)) fun b22=>.ret (.inl ((b22,X_2.2))))<|.ret (.inr X_2.2)) (mb 47 25) [24] (fun s o11 γ=>s.pc (mb 47 25) [24] [] [(24,.arr 25 3 (o11.map c25))]) fun o11=>
 .frc (w64 (X_3.1+1)) fun a23=>.ret (.inl ((a23,o11))))<|.ret (.inr X_3.2)) (mb 47 8) [24] (fun s o5 γ=>s.pc (mb 47 8) [24] [] [(24,.arr 25 3 (o5.map c25))]) fun o5=>
 .ret o5
theorem zXb{d1:Int}{r:List τF}(h:zHr d1=some r):zH qf 232 [I d1] (.ow 0) [(0,.arr 25 3 (r.map c25))]:=CtT (zXO d1) (fun r=>(.ow 0,[(0,.arr 25 3 (r.map c25))])) (rs:=[.t 2]) (vs:=[.tmp 2]) Tryz.func232 rfl rfl (.cons rfl FitsL.nil) h
def zYi(d1:Int):=fC zWH (zHr d1) fun _=>zXb
theorem zWN:CfW qf 219:=cfW Tryz.func219
noncomputable def zXU(vn1:Int):T qf Int:=
 .op1 (zJ4 vn1 (w64 (0 - vn1))) fun y2=>
 .ret y2
theorem zXi{vn1:Int}{r:Int}(h:zAk vn1=some r):zH qf 219 [I vn1] (I r) []:=CtU (zXU vn1) 2 (fun r=>I r) Tryz.func219 rfl rfl h
def zCO(vn1:Int):=fC zWN (zAk vn1) fun _=>zXi
theorem zWJ:CfW qf 199:=cfW Tryz.func199
noncomputable def zXQ(a1:Int)(b2:Int):T qf Int:=
 .op1 (zCO a1) fun y3=>.op1 (zCO b2) fun y4=>
 .loop (fun n X_1=>jS n X_1.1 X_1.2) ((y3,y4)) (mb 16 3) [] (fun s X_1 γ=>s.pc (mb 16 3) [] [(0,I X_1.1),(1,I X_1.2)] []) (fun X_1=>
 .cond (!eqI X_1.2 0) (.draw 6 []<|.op0 (remF .i64 X_1.1 X_1.2) fun z10=>
 .frc (Int.tmod X_1.1 X_1.2) fun b11=>.ret (.inl ((X_1.2,b11))))<|.ret (.inr X_1.1)) (mb 16 1) [] (fun s o8 γ=>s.pc (mb 16 1) [] [(0,I o8)] []) fun o8=>
 .ret o8
theorem zXd{a1:Int}{b2:Int}{r:Int}(h:zAj a1 b2=some r):zH qf 199 [I a1,I b2] (I r) []:=CtU (zXQ a1 b2) 4 (fun r=>I r) Tryz.func199 rfl rfl h
def zE3(a1:Int)(b2:Int):=fC zWJ (zAj a1 b2) fun _=>zXd
theorem zPm:CfW qf 150:=cfW Tryz.func150
noncomputable def zQL(f1:τF):T qf Int:=
 .draw 9 []<|.op1 (zE3 f1.1 f1.2.1) fun y2=>.op1 (zE3 y2 f1.2.2) fun y3=>
 .ret y3
theorem zQY{f1:τF}{r:Int}(h:zAT f1=some r):zH qf 150 [.ag [Ti f1.1,Ti f1.2.1,Ti f1.2.2]] (I r) []:=CtU (zQL f1) 2 (fun r=>I r) Tryz.func150 rfl rfl h
def zGg(f1:τF):=fC zPm (zAT f1) fun _=>zQY
theorem zUf:CfW qf 177:=cfW Tryz.func177
noncomputable def zV1(d1:Int):T qf (List τF):=
 .n1 (nilN 25 3 (by decide))<|
 .n1 (nilN 25 3 (by decide))<|
 .op1 (zYi d1) fun y2=>.n0 (lenM ct25 y2)<|
 .loop (fun n X_1=>zDT y2 n X_1.1 X_1.2) ((0,([]:List τF))) (mb 22 904) [56,24] (fun s X_1 γ=>s.pc (mb 22 904) [56,24] [(9,I X_1.1)] [(24,.arr 25 3 (X_1.2.map c25))]) (fun X_1=>
 .cond (ltI X_1.1 ((y2.length:Int))) (.op0 (zDI ct25 y2 X_1.1) fun e8=>.op0 (ldo ct25 y2 X_1.1) fun e9=>
 .op1 (zGg e9) fun y10=>
 .cond (eqI y10 1) (.n1 bsl<|.opx (app ct25 X_1.2 ([e9])) fun u12=>
 .frc (w64 (X_1.1+1)) fun t13=>.ret (.inl ((t13,X_1.2++([e9])))))<|
 .frc (w64 (X_1.1+1)) fun t14=>.ret (.inl ((t14,X_1.2))))<|.ret (.inr X_1.2)) (mb 22 8) [24] (fun s o6 γ=>s.pc (mb 22 8) [24] [] [(24,.arr 25 3 (o6.map c25))]) fun o6=>
 .ret o6
theorem zVm{d1:Int}{r:List τF}(h:zFZ d1=some r):zH qf 177 [I d1] (.ow 0) [(0,.arr 25 3 (r.map c25))]:=CtT (zV1 d1) (fun r=>(.ow 0,[(0,.arr 25 3 (r.map c25))])) (rs:=[.t 2]) (vs:=[.tmp 2]) Tryz.func177 rfl rfl (.cons rfl FitsL.nil) h
def zWW(d1:Int):=fC zUf (zFZ d1) fun _=>zVm
theorem zLf:CfW qf 91:=cfW Tryz.func91
noncomputable def zLq(cc1:((List Int)×Int×Int))(d2:Int):T qf ((τF×((List Int)×Int×Int))):=
 .op1 (zWW d2) fun y3=>
 .n0 (lenM ct25 y3)<|.opx (zE cc1 ((y3.length:Int))) fun y4=>.op0 (zDI ct25 y3 y4.1) fun e5=>.op0 (ldo ct25 y3 y4.1) fun e6=>
 .ret ((e6,y4.2))
theorem zMD{cc1:((List Int)×Int×Int)}{d2:Int}{r:(τF×((List Int)×Int×Int))}(h:j0 cc1 d2=some r):zFE qf 91 [.pt 80000 0,I d2] [(80000,.box [.sl (cc1.1.map c5),Ti cc1.2.1,.v (.int .u64 cc1.2.2)])] (.ag [Ti r.1.1,Ti r.1.2.1,Ti r.1.2.2]) [] [(80000,.box [.sl (r.2.1.map c5),Ti r.2.2.1,.v (.int .u64 r.2.2.2)])]:=CrT (zLq cc1 d2) (fun r=>(.ag [Ti r.1.1,Ti r.1.2.1,Ti r.1.2.2],[])) (fun r=>[(80000,.box [.sl (r.2.1.map c5),Ti r.2.2.1,.v (.int .u64 r.2.2.2)])]) (rs:=[.w 4 3]) (vs:=[.cell 4 25]) Tryz.func91 rfl rfl (.cons ⟨rfl,wd25⟩ FitsL.nil) h
def zCA(cc1:((List Int)×Int×Int))(d2:Int):=fR zLf (j0 cc1 d2) fun _=>zMD
theorem zWO:CfW qf 100:=cfW Tryz.func100
noncomputable def zXV(vm1:τM)(vn2:τM):T qf (τM):=
 .n0 (bld pl61 bt61)<|
 .frc (w64 ((w64 (vm1.1*vn2.1))+(w64 (vm1.2.1*vn2.2.2.1)))) fun f3=>.frc (w64 ((w64 (vm1.1*vn2.2.1))+(w64 (vm1.2.1*vn2.2.2.2)))) fun f4=>.frc (w64 ((w64 (vm1.2.2.1*vn2.1))+(w64 (vm1.2.2.2*vn2.2.2.1)))) fun f5=>.frc (w64 ((w64 (vm1.2.2.1*vn2.2.1))+(w64 (vm1.2.2.2*vn2.2.2.2)))) fun f6=>.ret ((f3,f4,f5,f6))
theorem zXj{vm1:τM}{vn2:τM}{r:τM}(h:zZ vm1 vn2=some r):zH qf 100 [.ag [Ti vm1.1,Ti vm1.2.1,Ti vm1.2.2.1,Ti vm1.2.2.2],.ag [Ti vn2.1,Ti vn2.2.1,Ti vn2.2.2.1,Ti vn2.2.2.2]] (.ag [Ti r.1,Ti r.2.1,Ti r.2.2.1,Ti r.2.2.2]) []:=CtT (zXV vm1 vn2) (fun r=>(.ag [Ti r.1,Ti r.2.1,Ti r.2.2.1,Ti r.2.2.2],[])) (rs:=[.w 4 4]) (vs:=[.cell 4 61]) Tryz.func100 rfl rfl (.cons ⟨rfl,wd61⟩ FitsL.nil) h
def zCc(vm1:τM)(vn2:τM):=fC zWO (zZ vm1 vn2) fun _=>zXj
theorem zM6:CfW qf 176:=cfW Tryz.func176
noncomputable def zNJ(cc1:((List Int)×Int×Int)):T qf ((τM×((List Int)×Int×Int))):=
 .n0 (bld pl61 bt61)<|
 .opx (zE cc1 6) fun y2=>
 .loop (fun n X_1=>zAI n X_1.1 X_1.2.1 X_1.2.2.1 X_1.2.2.2.1 X_1.2.2.2.2.1 X_1.2.2.2.2.2.1 X_1.2.2.2.2.2.2.1 X_1.2.2.2.2.2.2.2) ((y2.1,1,0,0,1,y2.2.1,y2.2.2.1,y2.2.2.2)) (mb 34 29) [24,16,80000] (fun s X_1 γ=>s.pc (mb 34 29) [24,16,80000] [(4,I X_1.1)] [(24,.box [Ti X_1.2.1,Ti X_1.2.2.1,Ti X_1.2.2.2.1,Ti X_1.2.2.2.2.1]),(80000,s.pbx 80000 [.sl (X_1.2.2.2.2.2.1.map c5),Ti X_1.2.2.2.2.2.2.1,.v (.int .u64 X_1.2.2.2.2.2.2.2)])]) (fun X_1=>
 .cond (ltI 0 X_1.1) (.opx (zE ((X_1.2.2.2.2.2.1,X_1.2.2.2.2.2.2.1,X_1.2.2.2.2.2.2.2)) 9) fun y14=>
 .frc (w64 (y14.1 - 4)) fun t15=>.opx (zE y14.2 3) fun y16=>
 .cond (eqI y16.1 0) (.n0 (bld pl61 bt61)<|.op1 (zCc ((X_1.2.1,X_1.2.2.1,X_1.2.2.2.1,X_1.2.2.2.2.1)) ((1,t15,0,1))) fun y18=>
 .frc (w64 (X_1.1 - 1)) fun k19=>.ret (.inl ((k19,y18.1,y18.2.1,y18.2.2.1,y18.2.2.2,y16.2.1,y16.2.2.1,y16.2.2.2))))<|
 .cond (eqI y16.1 1) (.n0 (bld pl61 bt61)<|.op1 (zCc ((X_1.2.1,X_1.2.2.1,X_1.2.2.2.1,X_1.2.2.2.2.1)) ((1,0,t15,1))) fun y21=>
 .frc (w64 (X_1.1 - 1)) fun k22=>.ret (.inl ((k22,y21.1,y21.2.1,y21.2.2.1,y21.2.2.2,y16.2.1,y16.2.2.1,y16.2.2.2))))<|.n0 (bld pl61 bt61)<|.op1 (zCc ((X_1.2.1,X_1.2.2.1,X_1.2.2.2.1,X_1.2.2.2.2.1)) ((0,-1,1,0))) fun y23=>
 .frc (w64 (X_1.1 - 1)) fun k24=>.ret (.inl ((k24,y23.1,y23.2.1,y23.2.2.1,y23.2.2.2,y16.2.1,y16.2.2.1,y16.2.2.2))))<|.ret (.inr ((X_1.2.1,X_1.2.2.1,X_1.2.2.2.1,X_1.2.2.2.2.1,X_1.2.2.2.2.2.1,X_1.2.2.2.2.2.2.1,X_1.2.2.2.2.2.2.2)))) (mb 34 12) [24,16,80000] (fun s o12 γ=>s.pc (mb 34 12) [24,16,80000] [] [(24,.box [Ti o12.1,Ti o12.2.1,Ti o12.2.2.1,Ti o12.2.2.2.1]),(80000,s.pbx 80000 [.sl (o12.2.2.2.2.1.map c5),Ti o12.2.2.2.2.2.1,.v (.int .u64 o12.2.2.2.2.2.2)])]) fun o12=>
 .ret (((o12.1,o12.2.1,o12.2.2.1,o12.2.2.2.1),o12.2.2.2.2))
theorem zNR{cc1:((List Int)×Int×Int)}{r:(τM×((List Int)×Int×Int))}(h:zDG cc1=some r):zFE qf 176 [.pt 80000 0] [(80000,.box [.sl (cc1.1.map c5),Ti cc1.2.1,.v (.int .u64 cc1.2.2)])] (.ag [Ti r.1.1,Ti r.1.2.1,Ti r.1.2.2.1,Ti r.1.2.2.2]) [] [(80000,.box [.sl (r.2.1.map c5),Ti r.2.2.1,.v (.int .u64 r.2.2.2)])]:=CrT (zNJ cc1) (fun r=>(.ag [Ti r.1.1,Ti r.1.2.1,Ti r.1.2.2.1,Ti r.1.2.2.2],[])) (fun r=>[(80000,.box [.sl (r.2.1.map c5),Ti r.2.2.1,.v (.int .u64 r.2.2.2)])]) (rs:=[.w 2 4]) (vs:=[.cell 2 61]) Tryz.func176 rfl rfl (.cons ⟨rfl,wd61⟩ FitsL.nil) h
def zN8(cc1:((List Int)×Int×Int)):=fR zM6 (zDG cc1) fun _=>zNR
theorem zSL:CfW qf 185:=cfW Tryz.func185
noncomputable def zTE(f1:τF)(x2:Int)(y3:Int):T qf Int:=
 .frc (w64 ((w64 ((w64 ((w64 (f1.1*x2))*x2))+(w64 ((w64 (f1.2.1*x2))*y3))))+(w64 ((w64 (f1.2.2*y3))*y3)))) fun t4=>.ret t4
theorem zT7{f1:τF}{x2:Int}{y3:Int}{r:Int}(h:zBM f1 x2 y3=some r):zH qf 185 [.ag [Ti f1.1,Ti f1.2.1,Ti f1.2.2],I x2,I y3] (I r) []:=CtU (zTE f1 x2 y3) 6 (fun r=>I r) Tryz.func185 rfl rfl h
def zFF(f1:τF)(x2:Int)(y3:Int):=fC zSL (zBM f1 x2 y3) fun _=>zT7
theorem zSM:CfW qf 186:=cfW Tryz.func186
noncomputable def zTF(f1:τF)(x2:Int)(y3:Int)(u4:Int)(v5:Int):T qf Int:=
 .frc (w64 ((w64 ((w64 ((w64 ((w64 (2*f1.1))*x2))*u4))+(w64 (f1.2.1*(w64 ((w64 (x2*v5))+(w64 (y3*u4))))))))+(w64 ((w64 ((w64 (2*f1.2.2))*y3))*v5)))) fun t6=>.ret t6
theorem zT8{f1:τF}{x2:Int}{y3:Int}{u4:Int}{v5:Int}{r:Int}(h:zEE f1 x2 y3 u4 v5=some r):zH qf 186 [.ag [Ti f1.1,Ti f1.2.1,Ti f1.2.2],I x2,I y3,I u4,I v5] (I r) []:=CtU (zTF f1 x2 y3 u4 v5) 10 (fun r=>I r) Tryz.func186 rfl rfl h
def zMh(f1:τF)(x2:Int)(y3:Int)(u4:Int)(v5:Int):=fC zSM (zEE f1 x2 y3 u4 v5) fun _=>zT8
theorem zWQ:CfW qf 99:=cfW Tryz.func99
noncomputable def zXX(f1:τF)(vm2:τM):T qf (τF):=
 .draw 23 []<|.op1 (zFF f1 vm2.1 vm2.2.2.1) fun y3=>.op1 (zMh f1 vm2.1 vm2.2.2.1 vm2.2.1 vm2.2.2.2) fun y4=>.op1 (zFF f1 vm2.2.1 vm2.2.2.2) fun y5=>.n0 (bld pl25 bt25)<|
 .ret ((y3,y4,y5))
theorem zXl{f1:τF}{vm2:τM}{r:τF}(h:zDJ f1 vm2=some r):zH qf 99 [.ag [Ti f1.1,Ti f1.2.1,Ti f1.2.2],.ag [Ti vm2.1,Ti vm2.2.1,Ti vm2.2.2.1,Ti vm2.2.2.2]] (.ag [Ti r.1,Ti r.2.1,Ti r.2.2]) []:=CtT (zXX f1 vm2) (fun r=>(.ag [Ti r.1,Ti r.2.1,Ti r.2.2],[])) (rs:=[.w 4 3]) (vs:=[.cell 4 25]) Tryz.func99 rfl rfl (.cons ⟨rfl,wd25⟩ FitsL.nil) h
def zIA(f1:τF)(vm2:τM):=fC zWQ (zDJ f1 vm2) fun _=>zXl
theorem zUk:CfW qf 79:=cfW Tryz.func79
noncomputable def zV6(vn1:Int):T qf Bool:=
 .op1 (zFo vn1 (-1000000) 1000000) fun y2=>
 .ret y2
theorem zVr{vn1:Int}{r:Bool}(h:zAM vn1=some r):zH qf 79 [I vn1] (Bo r) []:=CtU (zV6 vn1) 2 (fun r=>Bo r) Tryz.func79 rfl rfl h
def zCC(vn1:Int):=fC zUk (zAM vn1) fun _=>zVr
theorem zUo:CfW qf 96:=cfW Tryz.func96
noncomputable def zVa(f1:τF):T qf Bool:=
 .pl<|.joinC (.op1 (zCC f1.1) fun y2=>.seqT (.cond y2 (.op1 (zCC f1.2.1) fun y4=>.ret y4) (.ret false)) fun b5=>.seqT (.cond b5 (.op1 (zCC f1.2.2) fun y7=>.ret y7) (.ret false)) fun b8=>.ret (y2,b5,b8)) (mb 16 4) [] (fun s q_1 γ=>s.pc (mb 16 4) [] [(2,Bo q_1.2.2)] []) fun q_1=>
 .ret q_1.2.2
theorem zVv{f1:τF}{r:Bool}(h:zDP f1=some r):zH qf 96 [.ag [Ti f1.1,Ti f1.2.1,Ti f1.2.2]] (Bo r) []:=CtU (zVa f1) 2 (fun r=>Bo r) Tryz.func96 rfl rfl h
def zGn(f1:τF):=fC zUo (zDP f1) fun _=>zVv
theorem zNY:CfW qf 88:=cfW Tryz.func88
noncomputable def zNm(cc1:((List Int)×Int×Int))(f2:τF):T qf ((τF×((List Int)×Int×Int))):=
 .pl<|.joinC (.drawL [1,1,0,0,1,1]<|.opx (zN8 cc1) fun y3=>.op1 (zIA f2 y3.1) fun y4=>.ret (y3,y4)) (mb 15 56) [40,32,24,80000] (fun s q_1 γ=>s.pc (mb 15 56) [40,32,24,80000] [(5,.pt 40 0)] [(40,.box [Ti q_1.2.1,Ti q_1.2.2.1,Ti q_1.2.2.2]),(80000,s.pbx 80000 [.sl (q_1.1.2.1.map c5),Ti q_1.1.2.2.1,.v (.int .u64 q_1.1.2.2.2)])]) fun q_1=>
 .op1 (zGn q_1.2) fun y5=>
 .cond (!y5) (
 .ret ((f2,q_1.1.2)))<|
 .ret ((q_1.2,q_1.1.2))
theorem zNy{cc1:((List Int)×Int×Int)}{f2:τF}{r:(τF×((List Int)×Int×Int))}(h:jT cc1 f2=some r):zFE qf 88 [.pt 80000 0,.ag [Ti f2.1,Ti f2.2.1,Ti f2.2.2]] [(80000,.box [.sl (cc1.1.map c5),Ti cc1.2.1,.v (.int .u64 cc1.2.2)])] (.ag [Ti r.1.1,Ti r.1.2.1,Ti r.1.2.2]) [] [(80000,.box [.sl (r.2.1.map c5),Ti r.2.2.1,.v (.int .u64 r.2.2.2)])]:=CrT (zNm cc1 f2) (fun r=>(.ag [Ti r.1.1,Ti r.1.2.1,Ti r.1.2.2],[])) (fun r=>[(80000,.box [.sl (r.2.1.map c5),Ti r.2.2.1,.v (.int .u64 r.2.2.2)])]) (rs:=[.w 4 3]) (vs:=[.cell 4 25]) Tryz.func88 rfl rfl (.cons ⟨rfl,wd25⟩ FitsL.nil) h
def zBn(cc1:((List Int)×Int×Int))(f2:τF):=fR zNY (jT cc1 f2) fun _=>zNy
theorem zLC:CfW qf 87:=cfW Tryz.func87
noncomputable def zL3(cc1:((List Int)×Int×Int)):T qf ((τF×((List Int)×Int×Int))):=
 .opx (zE cc1 12) fun y2=>
 .cond (eqI y2.1 0) (.opx (zPv y2.2) fun y4=>
 .ret ((y4.1,y4.2)))<|
 .cond (eqI y2.1 1) (.opx (zDb y2.2) fun y6=>.opx (zCA y6.2 y6.1) fun y7=>
 .opx (zE y7.2 5) fun y8=>
 .frc (w64 (1+y8.1)) fun k9=>.n0 (bld pl25 bt25)<|.opx (zBn y8.2 ((w64 (k9*y7.1.1),w64 (k9*y7.1.2.1),w64 (k9*y7.1.2.2)))) fun y10=>
 .ret ((y10.1,y10.2)))<|
 .cond (eqI y2.1 2) (.opx (zE y2.2 1000000) fun y12=>.opx (zE y12.2 1000001) fun y13=>.opx (zE y13.2 750001) fun y14=>.n0 (bld pl25 bt25)<|
 .frc (w64 (1+y12.1)) fun f15=>.frc (w64 (250000+y14.1)) fun f16=>.ret (((f15,y13.1,f16),y14.2)))<|.opx (zDb y2.2) fun y17=>.opx (zCA y17.2 y17.1) fun y18=>.opx (zBn y18.2 y18.1) fun y19=>
 .ret ((y19.1,y19.2))
theorem zLa{cc1:((List Int)×Int×Int)}{r:(τF×((List Int)×Int×Int))}(h:zAF cc1=some r):zFE qf 87 [.pt 80000 0] [(80000,.box [.sl (cc1.1.map c5),Ti cc1.2.1,.v (.int .u64 cc1.2.2)])] (.ag [Ti r.1.1,Ti r.1.2.1,Ti r.1.2.2]) [] [(80000,.box [.sl (r.2.1.map c5),Ti r.2.2.1,.v (.int .u64 r.2.2.2)])]:=CrT (zL3 cc1) (fun r=>(.ag [Ti r.1.1,Ti r.1.2.1,Ti r.1.2.2],[])) (fun r=>[(80000,.box [.sl (r.2.1.map c5),Ti r.2.2.1,.v (.int .u64 r.2.2.2)])]) (rs:=[.w 2 3]) (vs:=[.cell 2 25]) Tryz.func87 rfl rfl (.cons ⟨rfl,wd25⟩ FitsL.nil) h
def zDc(cc1:((List Int)×Int×Int)):=fR zLC (zAF cc1) fun _=>zLa
theorem zOW:CfW qf 45:=cfW Tryz.func45
noncomputable def zOo(f1:τF):T qf Bool:=
 .pl<|.joinC (.op1 (zGn f1) fun y2=>.seqT (.cond y2 (.op1 (zAP f1) fun y4=>.ret (ltI y4 0)) (.ret false)) fun b5=>.selB b5 true [] fun w_2=>.ret (y2,b5,w_2)) (mb 15 4) [] (fun s q_3 γ=>s.pc (mb 15 4) [] [(2,Bo (bif q_3.2.2 then (ltI 0 f1.1) else false))] []) fun q_3=>
 .ret (bif q_3.2.2 then (ltI 0 f1.1) else false)
theorem zPH{f1:τF}{r:Bool}(h:jO f1=some r):zH qf 45 [.ag [Ti f1.1,Ti f1.2.1,Ti f1.2.2]] (Bo r) []:=CtU (zOo f1) 2 (fun r=>Bo r) Tryz.func45 rfl rfl h
def zBb(f1:τF):=fC zOW (jO f1) fun _=>zPH
theorem zQq:CfW qf 184:=cfW Tryz.func184
noncomputable def zR5(f1:τF):T qf Int:=
 .draw 20 []<|.op1 (zBC (w64 (f1.1 - f1.2.1)) (w64 (2*f1.1))) fun y2=>.op0 (quoF .i64 (w64 ((w64 (f1.1 - f1.2.1)) - y2)) (w64 (2*f1.1))) fun z3=>
 .frc (w64 (Int.tdiv (w64 ((w64 (f1.1 - f1.2.1)) - y2)) (w64 (2*f1.1)))) fun t4=>.ret t4
theorem zRp{f1:τF}{r:Int}(h:zF4 f1=some r):zH qf 184 [.ag [Ti f1.1,Ti f1.2.1,Ti f1.2.2]] (I r) []:=CtU (zR5 f1) 2 (fun r=>I r) Tryz.func184 rfl rfl h
def zS4(f1:τF):=fC zQq (zF4 f1) fun _=>zRp
theorem zUe:CfW qf 98:=cfW Tryz.func98
noncomputable def zV0(f1:τF):T qf (τM):=
 .op1 (zS4 f1) fun y2=>
 .cond (!eqI y2 0) (.n0 (bld pl61 bt61)<|
 .ret ((1,y2,0,1)))<|.op1 (zMg f1) fun y4=>
 .cond y4 (.n0 (bld pl61 bt61)<|
 .ret ((1,0,0,1)))<|.n0 (bld pl61 bt61)<|
 .ret ((0,-1,1,0))
theorem zVl{f1:τF}{r:τM}(h:zEe f1=some r):zH qf 98 [.ag [Ti f1.1,Ti f1.2.1,Ti f1.2.2]] (.ag [Ti r.1,Ti r.2.1,Ti r.2.2.1,Ti r.2.2.2]) []:=CtT (zV0 f1) (fun r=>(.ag [Ti r.1,Ti r.2.1,Ti r.2.2.1,Ti r.2.2.2],[])) (rs:=[.w 2 4]) (vs:=[.cell 2 61]) Tryz.func98 rfl rfl (.cons ⟨rfl,wd61⟩ FitsL.nil) h
def zWV(f1:τF):=fC zUe (zEe f1) fun _=>zVl
theorem zQp:CfW qf 46:=cfW Tryz.func46
noncomputable def zR4(f1:τF):T qf ((τF×τM)):=
 .n0 (bld pl61 bt61)<|
 .loop (fun n X_1=>zD0 n X_1.1 X_1.2.1 X_1.2.2.1 X_1.2.2.2.1 X_1.2.2.2.2.1 X_1.2.2.2.2.2.1 X_1.2.2.2.2.2.2) ((1,0,0,1,f1.1,f1.2.1,f1.2.2)) (mb 20 30) [32,24,16,8] (fun s X_1 γ=>s.pc (mb 20 30) [32,24,16,8] [] [(32,.box [Ti X_1.1,Ti X_1.2.1,Ti X_1.2.2.1,Ti X_1.2.2.2.1]),(8,.box [Ti X_1.2.2.2.2.1,Ti X_1.2.2.2.2.2.1,Ti X_1.2.2.2.2.2.2])]) (fun X_1=>
 .op1 (zMg ((X_1.2.2.2.2.1,X_1.2.2.2.2.2.1,X_1.2.2.2.2.2.2))) fun y11=>
 .cond (!y11) (.op1 (zWV ((X_1.2.2.2.2.1,X_1.2.2.2.2.2.1,X_1.2.2.2.2.2.2))) fun y13=>
 .draw 6 []<|.op1 (zIA ((X_1.2.2.2.2.1,X_1.2.2.2.2.2.1,X_1.2.2.2.2.2.2)) y13) fun y14=>.op1 (zCc ((X_1.1,X_1.2.1,X_1.2.2.1,X_1.2.2.2.1)) y13) fun y15=>
 .ret (.inl ((y15.1,y15.2.1,y15.2.2.1,y15.2.2.2,y14.1,y14.2.1,y14.2.2))))<|.ret (.inr ((X_1.1,X_1.2.1,X_1.2.2.1,X_1.2.2.2.1,X_1.2.2.2.2.1,X_1.2.2.2.2.2.1,X_1.2.2.2.2.2.2)))) (mb 20 30) [32,24,16,8] (fun s o10 γ=>s.pc (mb 20 30) [32,24,16,8] [] [(32,.box [Ti o10.1,Ti o10.2.1,Ti o10.2.2.1,Ti o10.2.2.2.1]),(8,.box [Ti o10.2.2.2.2.1,Ti o10.2.2.2.2.2.1,Ti o10.2.2.2.2.2.2])]) fun o10=>
 .draw 3 [(2,16)]<|
 .ret ((o10.2.2.2.2,(o10.1,o10.2.1,o10.2.2.1,o10.2.2.2.1)))
theorem zRo{f1:τF}{r:(τF×τM)}(h:qM f1=some r):zH qf 46 [.ag [Ti f1.1,Ti f1.2.1,Ti f1.2.2]] (.tc (.ag [Ti r.1.1,Ti r.1.2.1,Ti r.1.2.2]) (.tc (.ag [Ti r.2.1,Ti r.2.2.1,Ti r.2.2.2.1,Ti r.2.2.2.2]) .tn)) []:=CtT (zR4 f1) (fun r=>(.tc (.ag [Ti r.1.1,Ti r.1.2.1,Ti r.1.2.2]) (.tc (.ag [Ti r.2.1,Ti r.2.2.1,Ti r.2.2.2.1,Ti r.2.2.2.2]) .tn),[])) (rs:=[.w 2 3,.w 3 4]) (vs:=[.cell 2 25,.cell 3 61]) Tryz.func46 rfl rfl (.cons ⟨rfl,wd25⟩ (.cons ⟨rfl,wd61⟩ FitsL.nil)) h
def zCV(f1:τF):=fC zQp (qM f1) fun _=>zRo
theorem zWP:CfW qf 188:=cfW Tryz.func188
noncomputable def zXW(vm1:τM):T qf Int:=
 .frc (w64 ((w64 (vm1.1*vm1.2.2.2)) - (w64 (vm1.2.1*vm1.2.2.1)))) fun t2=>.ret t2
theorem zXk{vm1:τM}{r:Int}(h:zKo vm1=some r):zH qf 188 [.ag [Ti vm1.1,Ti vm1.2.1,Ti vm1.2.2.1,Ti vm1.2.2.2]] (I r) []:=CtU (zXW vm1) 2 (fun r=>I r) Tryz.func188 rfl rfl h
def zYk(vm1:τM):=fC zWP (zKo vm1) fun _=>zXk
theorem zPl:CfW qf 104:=cfW Tryz.func104
noncomputable def zQK(vm1:τM):T qf (τM):=
 .op1 (zYk vm1) fun y2=>
 .n0 (bld pl61 bt61)<|
 .frc (w64 (y2*vm1.2.2.2)) fun f3=>.frc (w64 ((w64 (0 - y2))*vm1.2.1)) fun f4=>.frc (w64 ((w64 (0 - y2))*vm1.2.2.1)) fun f5=>.frc (w64 (y2*vm1.1)) fun f6=>.ret ((f3,f4,f5,f6))
theorem zQX{vm1:τM}{r:τM}(h:zC6 vm1=some r):zH qf 104 [.ag [Ti vm1.1,Ti vm1.2.1,Ti vm1.2.2.1,Ti vm1.2.2.2]] (.ag [Ti r.1,Ti r.2.1,Ti r.2.2.1,Ti r.2.2.2]) []:=CtT (zQK vm1) (fun r=>(.ag [Ti r.1,Ti r.2.1,Ti r.2.2.1,Ti r.2.2.2],[])) (rs:=[.w 2 4]) (vs:=[.cell 2 61]) Tryz.func104 rfl rfl (.cons ⟨rfl,wd61⟩ FitsL.nil) h
def zFO(vm1:τM):=fC zPl (zC6 vm1) fun _=>zQX
theorem zQv:CfW qf 105:=cfW Tryz.func105
noncomputable def zRa(vm1:τM):T qf Bool:=
 .pl<|.joinC (.op1 (zCC vm1.1) fun y2=>.seqT (.cond y2 (.op1 (zCC vm1.2.1) fun y4=>.ret y4) (.ret false)) fun b5=>.seqT (.cond b5 (.op1 (zCC vm1.2.2.1) fun y7=>.ret y7) (.ret false)) fun b8=>.seqT (.cond b8 (.op1 (zCC vm1.2.2.2) fun y10=>.ret y10) (.ret false)) fun b11=>.ret (y2,b5,b8,b11)) (mb 21 4) [] (fun s q_1 γ=>s.pc (mb 21 4) [] [(2,Bo q_1.2.2.2)] []) fun q_1=>
 .ret q_1.2.2.2
theorem zRu{vm1:τM}{r:Bool}(h:zCy vm1=some r):zH qf 105 [.ag [Ti vm1.1,Ti vm1.2.1,Ti vm1.2.2.1,Ti vm1.2.2.2]] (Bo r) []:=CtU (zRa vm1) 2 (fun r=>Bo r) Tryz.func105 rfl rfl h
def zHc(vm1:τM):=fC zQv (zCy vm1) fun _=>zRu
theorem zIf:CfW qf 51:=cfW Tryz.func51
noncomputable def zJB(f1:τF)(g2:τF):T qf ((τM×Bool)):=
 .pl<|.dn<|.joinC (.op1 (zBb f1) fun y3=>.seqT (.cond (!y3) (.ret true) (.op1 (zBb g2) fun y5=>.ret (!y5))) fun b6=>.ret (y3,b6)) (mb 44 262172) [32,24,16] (fun s q_2 γ=>s.pc (mb 44 262172) [32,24,16] [(18,Bo q_2.2)] []) fun q_2=>
 .cond q_2.2 (.n0 (bld pl61 bt61)<|
 .ret (((0,0,0,0),false)))<|.op1 (zCV f1) fun y8=>
 .op1 (zCV g2) fun y9=>
 .draw 5 []<|.op1 (zFO y9.2) fun y10=>.op1 (zCc y8.2 y10) fun y11=>
 .dn<|.joinC (.n0 (neg3 z1u)<|.seqT (.cond (!((y8.1.1==y9.1.1)&&((y8.1.2.1==y9.1.2.1)&&(y8.1.2.2==y9.1.2.2)))) (.ret true) (.op1 (zHc y11) fun y13=>.ret (!y13))) fun b14=>.ret b14) (mb 44 2199023256592) [80,32] (fun s q_1 γ=>s.pc (mb 44 2199023256592) [80,32] [(41,Bo q_1)] []) fun q_1=>
 .cond q_1 (.n0 (bld pl61 bt61)<|
 .ret (((0,0,0,0),false)))<|
 .ret ((y11,true))
theorem zJH{f1:τF}{g2:τF}{r:(τM×Bool)}(h:zBd f1 g2=some r):zH qf 51 [.ag [Ti f1.1,Ti f1.2.1,Ti f1.2.2],.ag [Ti g2.1,Ti g2.2.1,Ti g2.2.2]] (.tc (.ag [Ti r.1.1,Ti r.1.2.1,Ti r.1.2.2.1,Ti r.1.2.2.2]) (.tc (Bo r.2) .tn)) []:=CtT (zJB f1 g2) (fun r=>(.tc (.ag [Ti r.1.1,Ti r.1.2.1,Ti r.1.2.2.1,Ti r.1.2.2.2]) (.tc (Bo r.2) .tn),[])) (rs:=[.w 4 4,.t 5]) (vs:=[.cell 4 61,.tmp 5]) Tryz.func51 rfl rfl (.cons ⟨rfl,wd61⟩ (.cons rfl FitsL.nil)) h
def zJ5(f1:τF)(g2:τF):=fC zIf (zBd f1 g2) fun _=>zJH
theorem zNd:CfW qf 73:=cfW Tryz.func73
theorem zQV:∀(n:Nat){vn1:Int}{r:qd},zBk n vn1=some r→zH qf 73 [I vn1] (.c (.v (.string r))) []:=by
 intro n
 induction n with
 |zero=>intro vn1 r h;cases h
 |succ n ih=>
  intro vn1 r h;refine CtW [2] Tryz.func73 rfl rfl 20 ?_
  rw[zBk]at h;show V _ _ ⟨I vn1::bt 19 [],[]⟩ _;refine VE ?_
  refine zV ?_
  refine VE ?_
  refine VC h (fun h=>?_) (fun h=>?_)
  ·refine VS ?_
   refine YR 2 ?_
   refine L0 rfl rfl (zYc (k2:=.i64) (a:=w64 (48+vn1)) Tryz.underlying3 Tryz.underlying5 rfl kk) ?_
   refine L1 rfl rfl (zDW (z:=zv5) (els:=[IntKind.u8.wrap (w64 (48+vn1))].map c5) Tryz.underlying22 iz5 rfl (by decide) rfl kk rfl (by simp[c5]) (by decide) (by decide)) ?_
   refine L0 rfl rfl (z5q (c:=c5) (fun _=>rfl) ([IntKind.u8.wrap (w64 (48+vn1))]) Tryz.underlying22 Tryz.underlying5 Tryz.underlying9 rfl kk) ?_
   refine YF ?_
   cases h;exact zBW VT
  ·refine qV ?_
   show V _ _ _ _;obtain⟨y3,hy3,h⟩:=zA h;obtain⟨u4,hu4,h⟩:=zA h;refine VDS [0,1,3,0,8,24,56,120,248,511,1023] 11 (cdm 11 [174720,174721,174725,42,106,362,1386,5482,21866,87381,349525]) ?_
   refine ER 1 ?_
   refine E0 1 rfl rfl (jM (a:=vn1) (b:=10) rfl kk kk (by decide)) ?_
   refine EK 0 (ih hy3) zNd ?_
   refine ER 1 ?_
   refine E0 4 rfl rfl (zBE (k:=.i64) (a:=vn1) (b:=10) rfl kk kk (by decide)) ?_
   refine ER 1 ?_
   refine E0 6 rfl rfl (zYc (k2:=.i64) (a:=w64 (48+(Int.tmod vn1 10))) Tryz.underlying3 Tryz.underlying5 rfl kk) ?_
   refine E1 7 rfl rfl (zDW (z:=zv5) (els:=[IntKind.u8.wrap (w64 (48+(Int.tmod vn1 10)))].map c5) Tryz.underlying22 iz5 rfl (by decide) rfl kk rfl (by simp[c5]) (by decide) (by decide)) ?_
   refine E0 8 rfl rfl (z5q (c:=c5) (fun _=>rfl) ([IntKind.u8.wrap (w64 (48+(Int.tmod vn1 10)))]) Tryz.underlying22 Tryz.underlying5 Tryz.underlying9 rfl kk) ?_
   refine E0 9 rfl rfl (z5p (a:=y3) (b:=zHa ([IntKind.u8.wrap (w64 (48+(Int.tmod vn1 10)))])) rfl kk kk (zWv hu4)) ?_
   refine EF 1 ?_
   cases h;exact zBW VT
theorem zXf{vn1:Int}{r:qd}(h:zBk FU vn1=some r):zH qf 73 [I vn1] (.c (.v (.string r))) []:=zQV FU h
def zLJ(vn1:Int):=fC zNd (zBk FU vn1) fun _=>zXf
theorem zWL:CfW qf 60:=cfW Tryz.func60
noncomputable def zXS(vn1:Int):T qf qd:=
 .cond (ltI vn1 0) (.op1 (zLJ (w64 (0 - vn1))) fun y3=>.op0 (cat ((⟨#[45]⟩:qd)) y3) fun u4=>
 .ret (((⟨#[45]⟩:qd))++y3))<|.op1 (zLJ vn1) fun y5=>
 .ret y5
theorem zXg{vn1:Int}{r:qd}(h:qQ vn1=some r):zH qf 60 [I vn1] (.c (.v (.string r))) []:=CtU (zXS vn1) 2 (fun r=>.c (.v (.string r))) Tryz.func60 rfl rfl h
def zA0(vn1:Int):=fC zWL (qQ vn1) fun _=>zXg
theorem zUn:CfW qf 48:=cfW Tryz.func48
noncomputable def zV9(f1:τF):T qf qd:=
 .draw 16 []<|.op1 (zA0 f1.1) fun y2=>.op0 (cat ((⟨#[40]⟩:qd)) y2) fun u3=>.op0 (cat (((⟨#[40]⟩:qd))++y2) ((⟨#[44]⟩:qd))) fun u4=>.op1 (zA0 f1.2.1) fun y5=>.op0 (cat ((((⟨#[40]⟩:qd))++y2)++((⟨#[44]⟩:qd))) y5) fun u6=>.op0 (cat (((((⟨#[40]⟩:qd))++y2)++((⟨#[44]⟩:qd)))++y5) ((⟨#[44]⟩:qd))) fun u7=>.op1 (zA0 f1.2.2) fun y8=>.op0 (cat ((((((⟨#[40]⟩:qd))++y2)++((⟨#[44]⟩:qd)))++y5)++((⟨#[44]⟩:qd))) y8) fun u9=>.op0 (cat (((((((⟨#[40]⟩:qd))++y2)++((⟨#[44]⟩:qd)))++y5)++((⟨#[44]⟩:qd)))++y8) ((⟨#[41]⟩:qd))) fun u10=>
 .ret ((((((((⟨#[40]⟩:qd))++y2)++((⟨#[44]⟩:qd)))++y5)++((⟨#[44]⟩:qd)))++y8)++((⟨#[41]⟩:qd)))
theorem zVu{f1:τF}{r:qd}(h:zAN f1=some r):zH qf 48 [.ag [Ti f1.1,Ti f1.2.1,Ti f1.2.2]] (.c (.v (.string r))) []:=CtU (zV9 f1) 2 (fun r=>.c (.v (.string r))) Tryz.func48 rfl rfl h
def zBY(f1:τF):=fC zUn (zAN f1) fun _=>zVu
theorem zM8:CfW qf 49:=cfW Tryz.func49
noncomputable def zNL(vm1:τM):T qf qd:=
 .draw 21 []<|.op1 (zA0 vm1.1) fun y2=>.op0 (cat ((⟨#[91]⟩:qd)) y2) fun u3=>.op0 (cat (((⟨#[91]⟩:qd))++y2) ((⟨#[44]⟩:qd))) fun u4=>.op1 (zA0 vm1.2.1) fun y5=>.op0 (cat ((((⟨#[91]⟩:qd))++y2)++((⟨#[44]⟩:qd))) y5) fun u6=>.op0 (cat (((((⟨#[91]⟩:qd))++y2)++((⟨#[44]⟩:qd)))++y5) ((⟨#[59]⟩:qd))) fun u7=>.op1 (zA0 vm1.2.2.1) fun y8=>.op0 (cat ((((((⟨#[91]⟩:qd))++y2)++((⟨#[44]⟩:qd)))++y5)++((⟨#[59]⟩:qd))) y8) fun u9=>.op0 (cat (((((((⟨#[91]⟩:qd))++y2)++((⟨#[44]⟩:qd)))++y5)++((⟨#[59]⟩:qd)))++y8) ((⟨#[44]⟩:qd))) fun u10=>.op1 (zA0 vm1.2.2.2) fun y11=>.op0 (cat ((((((((⟨#[91]⟩:qd))++y2)++((⟨#[44]⟩:qd)))++y5)++((⟨#[59]⟩:qd)))++y8)++((⟨#[44]⟩:qd))) y11) fun u12=>.op0 (cat (((((((((⟨#[91]⟩:qd))++y2)++((⟨#[44]⟩:qd)))++y5)++((⟨#[59]⟩:qd)))++y8)++((⟨#[44]⟩:qd)))++y11) ((⟨#[93]⟩:qd))) fun u13=>
 .ret ((((((((((⟨#[91]⟩:qd))++y2)++((⟨#[44]⟩:qd)))++y5)++((⟨#[59]⟩:qd)))++y8)++((⟨#[44]⟩:qd)))++y11)++((⟨#[93]⟩:qd)))
theorem zNT{vm1:τM}{r:qd}(h:zAu vm1=some r):zH qf 49 [.ag [Ti vm1.1,Ti vm1.2.1,Ti vm1.2.2.1,Ti vm1.2.2.2]] (.c (.v (.string r))) []:=CtU (zNL vm1) 2 (fun r=>.c (.v (.string r))) Tryz.func49 rfl rfl h
def zEB(vm1:τM):=fC zM8 (zAu vm1) fun _=>zNT
theorem zUi:CfW qf 47:=cfW Tryz.func47
noncomputable def zV4(l1:List qd):T qf qd:=
 .n0 (lenM ct9 l1)<|
 .loop (fun n X_1=>zBq l1 n X_1.1 X_1.2) (((⟨#[]⟩:qd),0)) (mb 22 456) [] (fun s X_1 γ=>s.pc (mb 22 456) [] [(3,.c (.v (.string X_1.1))),(8,I X_1.2)] []) (fun X_1=>
 .cond (ltI X_1.2 ((l1.length:Int))) (.op0 (idxM ct9 l1 X_1.2) fun e7=>
 .cond (ltI 0 X_1.2) (.op0 (cat X_1.1 ((⟨#[32]⟩:qd))) fun u9=>
 .op0 (cat (X_1.1++((⟨#[32]⟩:qd))) e7) fun u10=>
 .frc (w64 (X_1.2+1)) fun t11=>.ret (.inl (((X_1.1++((⟨#[32]⟩:qd)))++e7,t11))))<|.op0 (cat X_1.1 e7) fun u12=>
 .frc (w64 (X_1.2+1)) fun t13=>.ret (.inl ((X_1.1++e7,t13))))<|.ret (.inr X_1.1)) (mb 22 8) [] (fun s o5 γ=>s.pc (mb 22 8) [] [(3,.c (.v (.string o5)))] []) fun o5=>
 .ret o5
theorem zVp{l1:List qd}{r:qd}(h:zAs l1=some r):zH qf 47 [.c (.sl (l1.map c9))] (.c (.v (.string r))) []:=CtU (zV4 l1) 2 (fun r=>.c (.v (.string r))) Tryz.func47 rfl rfl h
def zDR(l1:List qd):=fCs zUi (zAs l1) (fun _=>zVp) fun _=>rfl
theorem zGa:CfW qf 10:=cfW Tryz.func10
noncomputable def zGr(f1:τF)(g2:τF):T qf ((qd×Bool)):=
 .op1 (zJ5 f1 g2) fun y3=>
 .cond (!y3.2) (
 .ret (((⟨#[]⟩:qd),false)))<|.draw 10 []<|.op1 (zBY f1) fun y5=>.op1 (zBY g2) fun y6=>.op1 (zEB y3.1) fun y7=>.n1 bsl<|.op1 (zDR ([(⟨#[101,113,117,105,118,97,108,101,110,116]⟩:qd),y5,y6,y7])) fun y8=>
 .ret ((y8,true))
theorem zGw{f1:τF}{g2:τF}{r:(qd×Bool)}(h:zAi f1 g2=some r):zH qf 10 [.ag [Ti f1.1,Ti f1.2.1,Ti f1.2.2],.ag [Ti g2.1,Ti g2.2.1,Ti g2.2.2]] (.tc (.c (.v (.string r.1))) (.tc (Bo r.2) .tn)) []:=CtT (zGr f1 g2) (fun r=>(.tc (.c (.v (.string r.1))) (.tc (Bo r.2) .tn),[])) (rs:=[.t 4,.t 5]) (vs:=[.tmp 4,.tmp 5]) Tryz.func10 rfl rfl (.cons rfl (.cons rfl FitsL.nil)) h
def zHP(f1:τF)(g2:τF):=fC zGa (zAi f1 g2) fun _=>zGw
theorem zPk:CfW qf 38:=cfW Tryz.func38
noncomputable def zQJ(cc1:((List Int)×Int×Int))(vn2:Int):T qf ((Bool×((List Int)×Int×Int))):=
 .opx (zE cc1 vn2) fun y3=>
 .ret ((eqI y3.1 0,y3.2))
theorem zQW{cc1:((List Int)×Int×Int)}{vn2:Int}{r:(Bool×((List Int)×Int×Int))}(h:zAC cc1 vn2=some r):zFE qf 38 [.pt 80000 0,I vn2] [(80000,.box [.sl (cc1.1.map c5),Ti cc1.2.1,.v (.int .u64 cc1.2.2)])] (Bo r.1) [] [(80000,.box [.sl (r.2.1.map c5),Ti r.2.2.1,.v (.int .u64 r.2.2.2)])]:=CrT (zQJ cc1 vn2) (fun r=>(Bo r.1,[])) (fun r=>[(80000,.box [.sl (r.2.1.map c5),Ti r.2.2.1,.v (.int .u64 r.2.2.2)])]) (rs:=[.t 4]) (vs:=[.tmp 4]) Tryz.func38 rfl rfl (.cons rfl FitsL.nil) h
def zCB(cc1:((List Int)×Int×Int))(vn2:Int):=fR zPk (zAC cc1 vn2) fun _=>zQW
theorem zKH:CfW qf 92:=cfW Tryz.func92
noncomputable def zK1(cc1:((List Int)×Int×Int)):T qf ((τF×((List Int)×Int×Int))):=
 .opx (zCB cc1 12) fun y2=>
 .cond y2.1 (.opx (zDc y2.2) fun y4=>
 .ret ((y4.1,y4.2)))<|.opx (zDb y2.2) fun y5=>.opx (zCA y5.2 y5.1) fun y6=>
 .opx (zCB y6.2 2) fun y7=>
 .cond y7.1 (.opx (zBn y7.2 y6.1) fun y9=>
 .ret ((y9.1,y9.2)))<|
 .ret ((y6.1,y7.2))
theorem zKb{cc1:((List Int)×Int×Int)}{r:(τF×((List Int)×Int×Int))}(h:zBZ cc1=some r):zFE qf 92 [.pt 80000 0] [(80000,.box [.sl (cc1.1.map c5),Ti cc1.2.1,.v (.int .u64 cc1.2.2)])] (.ag [Ti r.1.1,Ti r.1.2.1,Ti r.1.2.2]) [] [(80000,.box [.sl (r.2.1.map c5),Ti r.2.2.1,.v (.int .u64 r.2.2.2)])]:=CrT (zK1 cc1) (fun r=>(.ag [Ti r.1.1,Ti r.1.2.1,Ti r.1.2.2],[])) (fun r=>[(80000,.box [.sl (r.2.1.map c5),Ti r.2.2.1,.v (.int .u64 r.2.2.2)])]) (rs:=[.w 2 3]) (vs:=[.cell 2 25]) Tryz.func92 rfl rfl (.cons ⟨rfl,wd25⟩ FitsL.nil) h
def zGQ(cc1:((List Int)×Int×Int)):=fR zKH (zBZ cc1) fun _=>zKb
theorem zUc:CfW qf 124:=cfW Tryz.func124
noncomputable def zVY(f1:τF):T qf Bool:=
 .pl<|.joinC (.op1 (zBb f1) fun y2=>.seqT (.cond y2 (.op1 (zAP f1) fun y4=>.ret (leI (-2000) y4)) (.ret false)) fun b5=>.ret (y2,b5)) (mb 10 4) [] (fun s q_1 γ=>s.pc (mb 10 4) [] [(2,Bo q_1.2)] []) fun q_1=>
 .ret q_1.2
theorem zVj{f1:τF}{r:Bool}(h:zDw f1=some r):zH qf 124 [.ag [Ti f1.1,Ti f1.2.1,Ti f1.2.2]] (Bo r) []:=CtU (zVY f1) 2 (fun r=>Bo r) Tryz.func124 rfl rfl h
def zJ2(f1:τF):=fC zUc (zDw f1) fun _=>zVj
theorem zUt:CfW qf 72:=cfW Tryz.func72
noncomputable def zVf(f1:τF):T qf Bool:=
 .pl<|.joinC (.op1 (zJ2 f1) fun y2=>.seqT (.cond y2 (.op1 (zGg f1) fun y4=>.ret (eqI y4 1)) (.ret false)) fun b5=>.ret (y2,b5)) (mb 10 4) [] (fun s q_1 γ=>s.pc (mb 10 4) [] [(2,Bo q_1.2)] []) fun q_1=>
 .ret q_1.2
theorem zWA{f1:τF}{r:Bool}(h:zDQ f1=some r):zH qf 72 [.ag [Ti f1.1,Ti f1.2.1,Ti f1.2.2]] (Bo r) []:=CtU (zVf f1) 2 (fun r=>Bo r) Tryz.func72 rfl rfl h
def zGo(f1:τF):=fC zUt (zDQ f1) fun _=>zWA
theorem zJT:CfW qf 40:=cfW Tryz.func40
noncomputable def zJb(cc1:((List Int)×Int×Int)):T qf ((τF×τF×((List Int)×Int×Int))):=
 .opx (zGQ cc1) fun y2=>
 .dn<|.joinC (.op1 (zGo y2.1) fun y3=>.seqT (.cond (!y3) (.ret ((true,y2.2))) (.opx (zCB y2.2 16) fun y5=>.ret ((y5.1,y5.2)))) fun b6=>.ret (y3,b6)) (mb 30 16413) [32,24,16,80000] (fun s q_3 γ=>s.pc (mb 30 16413) [32,24,16,80000] [(14,Bo q_3.2.1)] [(80000,s.pbx 80000 [.sl (q_3.2.2.1.map c5),Ti q_3.2.2.2.1,.v (.int .u64 q_3.2.2.2.2)])]) fun q_3=>
 .cond q_3.2.1 (.joinC (.drawL [1,1,0,1,1]<|.opx (zGQ q_3.2.2) fun y8=>.ret y8) (mb 30 12) [24,16,80000] (fun s q_1 γ=>s.pc (mb 30 12) [24,16,80000] [] [(24,.box [Ti q_1.1.1,Ti q_1.1.2.1,Ti q_1.1.2.2]),(16,.box [Ti y2.1.1,Ti y2.1.2.1,Ti y2.1.2.2]),(80000,s.pbx 80000 [.sl (q_1.2.1.map c5),Ti q_1.2.2.1,.v (.int .u64 q_1.2.2.2)])]) fun q_1=>
 .ret ((y2.1,q_1.1,q_1.2)))<|.op1 (zAP y2.1) fun y9=>.opx (zCA q_3.2.2 y9) fun y10=>
 .opx (zCB y10.2 2) fun y11=>
 .cond y11.1 (.joinC (.drawL [1,1,1,0,1,1]<|.opx (zBn y11.2 y10.1) fun y13=>.ret y13) (mb 30 12) [24,16,80000] (fun s q_2 γ=>s.pc (mb 30 12) [24,16,80000] [] [(24,.box [Ti q_2.1.1,Ti q_2.1.2.1,Ti q_2.1.2.2]),(16,.box [Ti y2.1.1,Ti y2.1.2.1,Ti y2.1.2.2]),(80000,s.pbx 80000 [.sl (q_2.2.1.map c5),Ti q_2.2.2.1,.v (.int .u64 q_2.2.2.2)])]) fun q_2=>
 .ret ((y2.1,q_2.1,q_2.2)))<|.draw 3 [(2,16)]<|
 .ret ((y2.1,y10.1,y11.2))
theorem zJq{cc1:((List Int)×Int×Int)}{r:(τF×τF×((List Int)×Int×Int))}(h:zAb cc1=some r):zFE qf 40 [.pt 80000 0] [(80000,.box [.sl (cc1.1.map c5),Ti cc1.2.1,.v (.int .u64 cc1.2.2)])] (.tc (.ag [Ti r.1.1,Ti r.1.2.1,Ti r.1.2.2]) (.tc (.ag [Ti r.2.1.1,Ti r.2.1.2.1,Ti r.2.1.2.2]) .tn)) [] [(80000,.box [.sl (r.2.2.1.map c5),Ti r.2.2.2.1,.v (.int .u64 r.2.2.2.2)])]:=CrT (zJb cc1) (fun r=>(.tc (.ag [Ti r.1.1,Ti r.1.2.1,Ti r.1.2.2]) (.tc (.ag [Ti r.2.1.1,Ti r.2.1.2.1,Ti r.2.1.2.2]) .tn),[])) (fun r=>[(80000,.box [.sl (r.2.2.1.map c5),Ti r.2.2.2.1,.v (.int .u64 r.2.2.2.2)])]) (rs:=[.w 2 3,.w 3 3]) (vs:=[.cell 2 25,.cell 3 25]) Tryz.func40 rfl rfl (.cons ⟨rfl,wd25⟩ (.cons ⟨rfl,wd25⟩ FitsL.nil)) h
def zFn(cc1:((List Int)×Int×Int)):=fR zJT (zAb cc1) fun _=>zJq
theorem zHH:CfW qf 8:=cfW Tryz.func8
noncomputable def zHS(f1:τF)(g2:τF):T qf ((qd×Bool)):=
 .pl<|.dn<|.joinC (.op1 (zBb f1) fun y3=>.seqT (.cond (!y3) (.ret true) (.op1 (zBb g2) fun y5=>.ret (!y5))) fun b6=>.ret (y3,b6)) (mb 45 131084) [24,16] (fun s q_1 γ=>s.pc (mb 45 131084) [24,16] [(17,Bo q_1.2)] []) fun q_1=>
 .cond q_1.2 (
 .ret (((⟨#[]⟩:qd),false)))<|.op1 (zCV f1) fun y8=>
 .op1 (zCV g2) fun y9=>
 .n0 (eqg3 zWo)<|
 .lt (((y8.1.1==y9.1.1)&&((y8.1.2.1==y9.1.2.1)&&(y8.1.2.2==y9.1.2.2)))) fun t10=>.cond t10 (
 .ret (((⟨#[]⟩:qd),false)))<|.draw 16 []<|.op1 (zBY f1) fun y12=>.op1 (zEB y8.2) fun y13=>.op1 (zBY y8.1) fun y14=>.op1 (zBY g2) fun y15=>.op1 (zEB y9.2) fun y16=>.op1 (zBY y9.1) fun y17=>.n1 bsl<|.op1 (zDR ([(⟨#[100,105,102,102,101,114,101,110,116]⟩:qd),y12,y13,y14,y15,y16,y17])) fun y18=>
 .ret ((y18,true))
theorem zHW{f1:τF}{g2:τF}{r:(qd×Bool)}(h:zAq f1 g2=some r):zH qf 8 [.ag [Ti f1.1,Ti f1.2.1,Ti f1.2.2],.ag [Ti g2.1,Ti g2.2.1,Ti g2.2.2]] (.tc (.c (.v (.string r.1))) (.tc (Bo r.2) .tn)) []:=CtT (zHS f1 g2) (fun r=>(.tc (.c (.v (.string r.1))) (.tc (Bo r.2) .tn),[])) (rs:=[.t 4,.t 5]) (vs:=[.tmp 4,.tmp 5]) Tryz.func8 rfl rfl (.cons rfl (.cons rfl FitsL.nil)) h
def zHd(f1:τF)(g2:τF):=fC zHH (zAq f1 g2) fun _=>zHW
theorem zSK:CfW qf 151:=cfW Tryz.func151
noncomputable def zTD(f1:τF):T qf (τF):=
 .op1 (zCV f1) fun y2=>
 .ret y2.1
theorem zT6{f1:τF}{r:τF}(h:zBL f1=some r):zH qf 151 [.ag [Ti f1.1,Ti f1.2.1,Ti f1.2.2]] (.ag [Ti r.1,Ti r.2.1,Ti r.2.2]) []:=CtT (zTD f1) (fun r=>(.ag [Ti r.1,Ti r.2.1,Ti r.2.2],[])) (rs:=[.w 2 3]) (vs:=[.cell 2 25]) Tryz.func151 rfl rfl (.cons ⟨rfl,wd25⟩ FitsL.nil) h
def zI7(f1:τF):=fC zSK (zBL f1) fun _=>zT6
theorem zNX:CfW qf 195:=cfW Tryz.func195
noncomputable def zNl(cc1:((List Int)×Int×Int))(f2:τF):T qf ((Int×((List Int)×Int×Int))):=
 .opx (zE cc1 8) fun y3=>
 .cond (eqI y3.1 0) (.n1 bsl<|.hint (frzH 96)<|.opx (zAo y3.2 ([0,1,-1,10000,10001,4611686018427387904])) fun y5=>
 .ret ((y5.1,y5.2)))<|.join (
 .cond (eqI y3.1 1) (.ret (eqI y3.1 1))<|
 .ret (eqI y3.1 2)) (mb 49 16649) [24,80000] (fun s j6 γ=>s.pc (mb 49 16649) [24,80000] [(14,Bo j6)] []) fun j6=>
 .cond j6 (.opx (zE y3.2 200) fun y9=>
 .frc (w64 (1+y9.1)) fun t10=>.ret ((t10,y9.2)))<|
 .cond (eqI y3.1 3) (.opx (zE y3.2 10000) fun y12=>
 .frc (w64 (1+y12.1)) fun t13=>.ret ((t13,y12.2)))<|.op1 (zJ2 f2) fun y14=>
 .cond (!y14) (.opx (zE y3.2 50) fun y16=>
 .frc (w64 (1+y16.1)) fun t17=>.ret ((t17,y16.2)))<|.op1 (zI7 f2) fun y18=>
 .joinC (.drawM true 7 [1,2,3,6,7,14,15,16,17,18,19,22,23,30,31,54,55,62,63,118,119,126,127] [1,1,0,1,1,0,1,0,1]<|.opx (zE y3.2 13) fun y19=>.opx (zE y19.2 13) fun y20=>.op1 (zFF y18 (w64 (y19.1 - 6)) (w64 (y20.1 - 6))) fun y21=>.ret (y19,y20,y21)) (mb 49 65) [80000] (fun s q_1 γ=>s.pc (mb 49 65) [80000] [(6,I q_1.2.2)] [(80000,s.pbx 80000 [.sl (q_1.2.1.2.1.map c5),Ti q_1.2.1.2.2.1,.v (.int .u64 q_1.2.1.2.2.2)])]) fun q_1=>
 .opx (zCB q_1.2.1.2 4) fun y22=>
 .cond y22.1 (.n1 bsl<|.hint (frzH 360)<|.opx (zAo y22.2 ([4,9,25,2,3])) fun y24=>
 .frc (w64 (q_1.2.2*y24.1)) fun vn25=>
 .ret ((vn25,y24.2)))<|
 .ret ((q_1.2.2,y22.2))
theorem zNx{cc1:((List Int)×Int×Int)}{f2:τF}{r:(Int×((List Int)×Int×Int))}(h:zC5 cc1 f2=some r):zFE qf 195 [.pt 80000 0,.ag [Ti f2.1,Ti f2.2.1,Ti f2.2.2]] [(80000,.box [.sl (cc1.1.map c5),Ti cc1.2.1,.v (.int .u64 cc1.2.2)])] (I r.1) [] [(80000,.box [.sl (r.2.1.map c5),Ti r.2.2.1,.v (.int .u64 r.2.2.2)])]:=CrT (zNl cc1 f2) (fun r=>(I r.1,[])) (fun r=>[(80000,.box [.sl (r.2.1.map c5),Ti r.2.2.1,.v (.int .u64 r.2.2.2)])]) (rs:=[.t 4]) (vs:=[.tmp 4]) Tryz.func195 rfl rfl (.cons rfl FitsL.nil) h
def zOa(cc1:((List Int)×Int×Int))(f2:τF):=fR zNX (zC5 cc1 f2) fun _=>zNx
theorem zM5:CfW qf 121:=cfW Tryz.func121
noncomputable def zNI(cc1:((List Int)×Int×Int)):T qf ((τF×Int×((List Int)×Int×Int))):=
 .opx (zDb cc1) fun y2=>.opx (zCA y2.2 y2.1) fun y3=>.opx (zBn y3.2 y3.1) fun y4=>
 .join (.opx (zE y4.2 12) fun y6=>
 .cond (eqI y6.1 0) (.opx (zDc y6.2) fun y8=>
 .ret (y8.1.1,y8.1.2.1,y8.1.2.2,y8.2.1,y8.2.2.1,y8.2.2.2))<|
 .cond (eqI y6.1 1) (.opx (zE y6.2 4) fun y10=>.n0 (bld pl25 bt25)<|
 .ret (3,y10.1,3,y10.2.1,y10.2.2.1,y10.2.2.2))<|
 .cond (eqI y6.1 2) (.opx (zE y6.2 2) fun y12=>.opx (zE y12.2 2) fun y13=>.n0 (bld pl25 bt25)<|
 .frc (w64 (1+y12.1)) fun f14=>.frc (w64 (1+y13.1)) fun f15=>.ret (f14,0,f15,y13.2.1,y13.2.2.1,y13.2.2.2))<|.ret (y4.1.1,y4.1.2.1,y4.1.2.2,y6.2.1,y6.2.2.1,y6.2.2.2)) (mb 35 21) [32,16,80000] (fun s j5 γ=>s.pc (mb 35 21) [32,16,80000] [] [(32,.box [Ti j5.1,Ti j5.2.1,Ti j5.2.2.1]),(80000,s.pbx 80000 [.sl (j5.2.2.2.1.map c5),Ti j5.2.2.2.2.1,.v (.int .u64 j5.2.2.2.2.2)])]) fun j5=>
 .joinC (.drawL [1,1,1,0,1,1]<|.opx (zOa j5.2.2.2 ((j5.1,j5.2.1,j5.2.2.1))) fun y16=>.ret y16) (mb 35 12) [16,80000] (fun s q_1 γ=>s.pc (mb 35 12) [16,80000] [(3,I q_1.1)] [(16,.box [Ti j5.1,Ti j5.2.1,Ti j5.2.2.1]),(80000,s.pbx 80000 [.sl (q_1.2.1.map c5),Ti q_1.2.2.1,.v (.int .u64 q_1.2.2.2)])]) fun q_1=>
 .ret (((j5.1,j5.2.1,j5.2.2.1),q_1.1,q_1.2))
theorem zNQ{cc1:((List Int)×Int×Int)}{r:(τF×Int×((List Int)×Int×Int))}(h:zCQ cc1=some r):zFE qf 121 [.pt 80000 0] [(80000,.box [.sl (cc1.1.map c5),Ti cc1.2.1,.v (.int .u64 cc1.2.2)])] (.tc (.ag [Ti r.1.1,Ti r.1.2.1,Ti r.1.2.2]) (.tc (I r.2.1) .tn)) [] [(80000,.box [.sl (r.2.2.1.map c5),Ti r.2.2.2.1,.v (.int .u64 r.2.2.2.2)])]:=CrT (zNI cc1) (fun r=>(.tc (.ag [Ti r.1.1,Ti r.1.2.1,Ti r.1.2.2]) (.tc (I r.2.1) .tn),[])) (fun r=>[(80000,.box [.sl (r.2.2.1.map c5),Ti r.2.2.2.1,.v (.int .u64 r.2.2.2.2)])]) (rs:=[.w 2 3,.t 3]) (vs:=[.cell 2 25,.tmp 3]) Tryz.func121 rfl rfl (.cons ⟨rfl,wd25⟩ (.cons rfl FitsL.nil)) h
def zN7(cc1:((List Int)×Int×Int)):=fR zM5 (zCQ cc1) fun _=>zNQ
theorem zSI:CfW qf 125:=cfW Tryz.func125
noncomputable def zTB(vn1:Int):T qf Bool:=
 .op1 (zFo vn1 1 10000) fun y2=>
 .ret y2
theorem zT4{vn1:Int}{r:Bool}(h:zCd vn1=some r):zH qf 125 [I vn1] (Bo r) []:=CtU (zTB vn1) 2 (fun r=>Bo r) Tryz.func125 rfl rfl h
def zMf(vn1:Int):=fC zSI (zCd vn1) fun _=>zT4
theorem zUj:CfW qf 200:=cfW Tryz.func200
noncomputable def zV5(vn1:Int):T qf Int:=
 .loop (fun n X_1=>zDU vn1 n X_1.1 X_1.2) ((0,1000000000)) (mb 23 25) [] (fun s X_1 γ=>s.pc (mb 23 25) [] [(3,I X_1.1),(4,I X_1.2)] []) (fun X_1=>
 .cond (ltI X_1.1 X_1.2) (.n0 dvN<|
 .frc (w64 (Int.tdiv (w64 ((w64 (X_1.1+X_1.2))+1)) 2)) fun mid7=>
 .cond (leI (w64 (mid7*mid7)) vn1) (
 .ret (.inl ((mid7,X_1.2))))<|
 .frc (w64 (mid7 - 1)) fun hi9=>.ret (.inl ((X_1.1,hi9))))<|.ret (.inr X_1.1)) (mb 23 8) [] (fun s o5 γ=>s.pc (mb 23 8) [] [(3,I o5)] []) fun o5=>
 .ret o5
theorem zVq{vn1:Int}{r:Int}(h:zDO vn1=some r):zH qf 200 [I vn1] (I r) []:=CtU (zV5 vn1) 2 (fun r=>I r) Tryz.func200 rfl rfl h
def zGm(vn1:Int):=fC zUj (zDO vn1) fun _=>zVq
theorem zWG:CfW qf 201:=cfW Tryz.func201
noncomputable def zXN(l1:List (Int×Int))(p2:(Int×Int)):T qf Bool:=
 .n0 (lenM ct85 l1)<|
 .loopS (fun n X_1=>zDg l1 p2 n X_1) 0 (mb 17 904) [24] (fun s X_1 γ=>s.pc (mb 17 904) [24] [(9,I X_1)] []) (fun X_1=>
 .cond (ltI X_1 ((l1.length:Int))) (.op0 (idxM ct85 l1 X_1) fun e7=>
 .n0 (eqg2 eqg85)<|
 .cond (((e7.1==p2.1)&&(e7.2==p2.2))) (
 .ret (.early true))<|
 .frc (w64 (X_1+1)) fun t9=>.ret (.again t9))<|.ret (.done (()))) (mb 17 0) [] (fun s o5 γ=>s.pc (mb 17 0) [] [] []) (fun r=>r) fun o5=>
 .ret false
theorem zXa{l1:List (Int×Int)}{p2:(Int×Int)}{r:Bool}(h:zER l1 p2=some r):zH qf 201 [.c (.sl (l1.map c85)),.ag [Ti p2.1,Ti p2.2]] (Bo r) []:=CtU (zXN l1 p2) 4 (fun r=>Bo r) Tryz.func201 rfl rfl h
def zYh(l1:List (Int×Int))(p2:(Int×Int)):=fC zWG (zER l1 p2) fun _=>zXa
theorem zWF:CfW qf 202:=cfW Tryz.func202
noncomputable def zXM(l1:List (Int×Int))(p2:(Int×Int)):T qf (List (Int×Int)):=
 .n1 (nilN 85 2 (by decide))<|
 .loop (fun n X_2=>zDf l1 p2 n X_2) 0 (mb 57 41) [24] (fun s X_2 γ=>s.pc (mb 57 41) [24] [(5,I X_2)] []) (fun X_2=>
 .dn<|.joinC (.draw 34 []<|.n0 (lenM ct85 l1)<|.seqT (.cond (ltI X_2 ((l1.length:Int))) (.op0 (idxM ct85 l1 X_2) fun e7=>.seqT (.cond (ltI e7.1 p2.1) (.ret true) (.op0 (idxM ct85 l1 X_2) fun e9=>.seqT (.cond (eqI e9.1 p2.1) (.op0 (idxM ct85 l1 X_2) fun e11=>.ret (ltI e11.2 p2.2)) (.ret false)) fun b12=>.ret b12)) fun b13=>.ret b13) (.ret false)) fun b14=>.ret b14) (mb 57 1099511627817) [24] (fun s q_1 γ=>s.pc (mb 57 1099511627817) [24] [(40,Bo q_1)] []) fun q_1=>
 .cond q_1 (
 .frc (w64 (X_2+1)) fun k16=>.ret (.inl k16))<|.ret (.inr X_2)) (mb 57 41) [24] (fun s o5 γ=>s.pc (mb 57 41) [24] [(5,I o5)] []) fun o5=>
 .n1 bsl0<|.op0 (slice ct85 l1 0 o5) fun u17=>.opx (app ct85 (([]:List (Int×Int))) (subl l1 0 o5)) fun u18=>
 .n1 bsl<|.opx (app ct85 ((([]:List (Int×Int)))++(subl l1 0 o5)) ([p2])) fun u19=>
 .op0 (slice ct85 l1 o5 ((l1.length:Int))) fun u20=>.opx (app ct85 (((([]:List (Int×Int)))++(subl l1 0 o5))++([p2])) (subl l1 o5 ((l1.length:Int)))) fun u21=>
 .lt ((((([]:List (Int×Int)))++(subl l1 0 o5))++([p2]))++(subl l1 o5 ((l1.length:Int)))) fun l22=>.ret l22
theorem zX9{l1:List (Int×Int)}{p2:(Int×Int)}{r:List (Int×Int)}(h:zFH l1 p2=some r):zH qf 202 [.c (.sl (l1.map c85)),.ag [Ti p2.1,Ti p2.2]] (.ow 0) [(0,.arr 85 2 (r.map c85))]:=CtT (zXM l1 p2) (fun r=>(.ow 0,[(0,.arr 85 2 (r.map c85))])) (rs:=[.t 4]) (vs:=[.tmp 4]) Tryz.func202 rfl rfl (.cons rfl FitsL.nil) h
def zYg(l1:List (Int×Int))(p2:(Int×Int)):=fC zWF (zFH l1 p2) fun _=>zX9
theorem zYY:CfW qf 127:=cfW Tryz.func127
noncomputable def zYv(f1:τF)(vn2:Int):T qf (List (Int×Int)):=
 .n1 (nilN 85 2 (by decide))<|
 .op1 (zAP f1) fun y3=>
 .n1 (nilN 85 2 (by decide))<|
 .hint (frzH 48)<|.loop (fun n X_3=>zED f1 vn2 y3 n X_3.1 X_3.2) ((0,([]:List (Int×Int)))) (mb 108 230) [16] (fun s X_3 γ=>s.pc (mb 108 230) [16] [(6,.c (.sl (X_3.2.map c85))),(7,I X_3.1)] []) (fun X_3=>
 .lt (leI (w64 ((w64 ((w64 (0 - y3))*X_3.1))*X_3.1)) (w64 ((w64 (4*f1.1))*vn2))) fun t8=>.cond t8 (.op1 (zGm (w64 ((w64 ((w64 (y3*X_3.1))*X_3.1))+(w64 ((w64 (4*f1.1))*vn2))))) fun y10=>
 .lt (!eqI (w64 (y10*y10)) (w64 ((w64 ((w64 (y3*X_3.1))*X_3.1))+(w64 ((w64 (4*f1.1))*vn2))))) fun t11=>.cond t11 (
 .frc (w64 (X_3.1+1)) fun y13=>.ret (.inl ((y13,X_3.2))))<|.n1 bsl<|.n0 (lenM ct3 ([X_3.1,w64 (0 - X_3.1)]))<|
 .frc ((([X_3.1,w64 (0 - X_3.1)]).length:Int)) fun t14=>.loop (fun n X_2=>zCS f1 t14 vn2 y10 y3 X_3.1 n X_2.1 X_2.2) ((X_3.2,0)) (mb 108 8070450532247929318) [480,16] (fun s X_2 γ=>s.pc (mb 108 8070450532247929318) [480,16] [(6,.c (.sl (X_2.1.map c85))),(62,I X_2.2)] []) (fun X_2=>
 .cond (ltI X_2.2 t14) (.op0 (zDI ct3 ([X_3.1,w64 (0 - X_3.1)]) X_2.2) fun e20=>.op0 (ldo ct3 ([X_3.1,w64 (0 - X_3.1)]) X_2.2) fun e21=>
 .n1 bsl<|.n0 (lenM ct3 ([y10,w64 (0 - y10)]))<|
 .frc ((([y10,w64 (0 - y10)]).length:Int)) fun t22=>.loop (fun n X_1=>zAp e21 f1 t14 X_2.2 t22 vn2 y10 y3 X_3.1 n X_1.1 X_1.2) ((X_2.1,0)) (mb 108 4140141123043187492326) [552,480,16] (fun s X_1 γ=>s.pc (mb 108 4140141123043187492326) [552,480,16] [(6,.c (.sl (X_1.1.map c85))),(71,I X_1.2)] []) (fun X_1=>
 .cond (ltI X_1.2 t22) (.op0 (zDI ct3 ([y10,w64 (0 - y10)]) X_1.2) fun e28=>.op0 (ldo ct3 ([y10,w64 (0 - y10)]) X_1.2) fun e29=>
 .op0 (remF .i64 (w64 (e29 - (w64 (f1.2.1*e21)))) (w64 (2*f1.1))) fun z30=>
 .lt (eqI (Int.tmod (w64 (e29 - (w64 (f1.2.1*e21)))) (w64 (2*f1.1))) 0) fun t31=>.cond t31 (.op0 (quoF .i64 (w64 (e29 - (w64 (f1.2.1*e21)))) (w64 (2*f1.1))) fun z33=>.n0 (bld pl85 bt85)<|
 .frc (w64 (Int.tdiv (w64 (e29 - (w64 (f1.2.1*e21)))) (w64 (2*f1.1)))) fun f34=>.op1 (zYh X_1.1 ((f34,e21))) fun y35=>
 .cond (!y35) (.op1 (zYg X_1.1 ((f34,e21))) fun y37=>
 .hint (frzH 832)<|
 .frc (w64 (X_1.2+1)) fun t38=>.ret (.inl ((y37,t38))))<|
 .frc (w64 (X_1.2+1)) fun t39=>.ret (.inl ((X_1.1,t39))))<|
 .frc (w64 (X_1.2+1)) fun t40=>.ret (.inl ((X_1.1,t40))))<|.ret (.inr X_1.1)) (mb 108 8070450532247929318) [480,16] (fun s o26 γ=>s.pc (mb 108 8070450532247929318) [480,16] [(6,.c (.sl (o26.map c85)))] []) fun o26=>
 .frc (w64 (X_2.2+1)) fun t41=>.ret (.inl ((o26,t41))))<|.ret (.inr X_2.1)) (mb 108 230) [16] (fun s o18 γ=>s.pc (mb 108 230) [16] [(6,.c (.sl (o18.map c85)))] []) fun o18=>
 .frc (w64 (X_3.1+1)) fun y42=>.ret (.inl ((y42,o18))))<|.ret (.inr X_3.2)) (mb 108 64) [] (fun s o7 γ=>s.pc (mb 108 64) [] [(6,.c (.sl (o7.map c85)))] []) fun o7=>
 .ret o7
theorem zZE{f1:τF}{vn2:Int}{r:List (Int×Int)}(h:zHB f1 vn2=some r):zH qf 127 [.ag [Ti f1.1,Ti f1.2.1,Ti f1.2.2],I vn2] (.c (.sl (r.map c85))) []:=CtU (zYv f1 vn2) 4 (fun r=>.c (.sl (r.map c85))) Tryz.func127 rfl rfl h
def z0O(f1:τF)(vn2:Int):=fC zYY (zHB f1 vn2) fun _=>zZE
theorem zNW:CfW qf 126:=cfW Tryz.func126
noncomputable def zNk(l1:List (Int×Int)):T qf (List (Int×Int)):=
 .n1 (nilN 85 2 (by decide))<|
 .n1 (nilN 85 2 (by decide))<|
 .n0 (lenM ct85 l1)<|
 .loop (fun n X_1=>zAv l1 n X_1.1 X_1.2) ((0,([]:List (Int×Int)))) (mb 24 456) [24] (fun s X_1 γ=>s.pc (mb 24 456) [24] [(8,I X_1.1)] [(24,.arr 85 2 (X_1.2.map c85))]) (fun X_1=>
 .cond (ltI X_1.1 ((l1.length:Int))) (.op0 (idxM ct85 l1 X_1.1) fun e7=>
 .op1 (zE3 e7.1 e7.2) fun y8=>
 .cond (eqI y8 1) (.n1 bsl<|.opx (app ct85 X_1.2 ([e7])) fun u10=>
 .frc (w64 (X_1.1+1)) fun t11=>.ret (.inl ((t11,X_1.2++([e7])))))<|
 .frc (w64 (X_1.1+1)) fun t12=>.ret (.inl ((t12,X_1.2))))<|.ret (.inr X_1.2)) (mb 24 8) [24] (fun s o5 γ=>s.pc (mb 24 8) [24] [] [(24,.arr 85 2 (o5.map c85))]) fun o5=>
 .ret o5
theorem zNw{l1:List (Int×Int)}{r:List (Int×Int)}(h:zEQ l1=some r):zH qf 126 [.c (.sl (l1.map c85))] (.ow 0) [(0,.arr 85 2 (r.map c85))]:=CtT (zNk l1) (fun r=>(.ow 0,[(0,.arr 85 2 (r.map c85))])) (rs:=[.t 2]) (vs:=[.tmp 2]) Tryz.func126 rfl rfl (.cons rfl FitsL.nil) h
def zOc(l1:List (Int×Int)):=fC zNW (zEQ l1) fun _=>zNw
theorem zKI:CfW qf 59:=cfW Tryz.func59
noncomputable def zK2(f1:τF)(vn2:Int):T qf (((List (Int×Int))×Bool)):=
 .n1 (nilN 85 2 (by decide))<|
 .dn<|.joinC (.op1 (zJ2 f1) fun y3=>.seqT (.cond (!y3) (.ret true) (.op1 (zMf vn2) fun y5=>.ret (!y5))) fun b6=>.ret (y3,b6)) (mb 18 8198) [16] (fun s q_1 γ=>s.pc (mb 18 8198) [16] [(13,Bo q_1.2)] []) fun q_1=>
 .cond q_1.2 (.n1 (nilN 85 2 (by decide))<|
 .ret ((([]:List (Int×Int)),false)))<|.op1 (z0O f1 vn2) fun y8=>.op1 (zOc y8) fun y9=>
 .ret ((y9,true))
theorem zKc{f1:τF}{vn2:Int}{r:((List (Int×Int))×Bool)}(h:zAl f1 vn2=some r):zH qf 59 [.ag [Ti f1.1,Ti f1.2.1,Ti f1.2.2],I vn2] (.tc (.ow 0) (.tc (Bo r.2) .tn)) [(0,.arr 85 2 (r.1.map c85))]:=CtT (zK2 f1 vn2) (fun r=>(.tc (.ow 0) (.tc (Bo r.2) .tn),[(0,.arr 85 2 (r.1.map c85))])) (rs:=[.t 4,.t 5]) (vs:=[.tmp 4,.tmp 5]) Tryz.func59 rfl rfl (.cons rfl (.cons rfl FitsL.nil)) h
def zLK(f1:τF)(vn2:Int):=fC zKI (zAl f1 vn2) fun _=>zKc
theorem zJU:CfW qf 15:=cfW Tryz.func15
noncomputable def zJc(f1:τF)(vn2:Int):T qf ((qd×Bool)):=
 .op1 (zLK f1 vn2) fun y3=>
 .dn<|.joinC (.selB (!y3.2) false [.z (lenM ct85 y3.1)] fun w_4=>.ret w_4) (mb 37 1048646) [88,16] (fun s q_5 γ=>s.pc (mb 37 1048646) [88,16] [(20,Bo (bif q_5 then true else (eqI ((y3.1.length:Int)) 0)))] []) fun q_5=>
 .cond (bif q_5 then true else (eqI ((y3.1.length:Int)) 0)) (
 .ret (((⟨#[]⟩:qd),false)))<|.draw 18 []<|.op1 (zBY f1) fun y6=>.op1 (zA0 vn2) fun y7=>.op0 (zDI ct85 y3.1 0) fun e8=>.op0 (ldo ct85 y3.1 0) fun e9=>.op1 (zA0 e9.1) fun y10=>.op0 (zDI ct85 y3.1 0) fun e11=>.op0 (ldo ct85 y3.1 0) fun e12=>.op1 (zA0 e12.2) fun y13=>.n1 bsl<|.op1 (zDR ([(⟨#[118,97,108,117,101]⟩:qd),y6,y7,y10,y13])) fun y14=>
 .ret ((y14,true))
theorem zJr{f1:τF}{vn2:Int}{r:(qd×Bool)}(h:zBr f1 vn2=some r):zH qf 15 [.ag [Ti f1.1,Ti f1.2.1,Ti f1.2.2],I vn2] (.tc (.c (.v (.string r.1))) (.tc (Bo r.2) .tn)) []:=CtT (zJc f1 vn2) (fun r=>(.tc (.c (.v (.string r.1))) (.tc (Bo r.2) .tn),[])) (rs:=[.t 4,.t 5]) (vs:=[.tmp 4,.tmp 5]) Tryz.func15 rfl rfl (.cons rfl (.cons rfl FitsL.nil)) h
def zKT(f1:τF)(vn2:Int):=fC zJU (zBr f1 vn2) fun _=>zJr
theorem zPj:CfW qf 204:=cfW Tryz.func204
noncomputable def zQI(vn1:Int):T qf (List Int):=
 .n1 (nilN 3 1 (by decide))<|
 .n1 (nilN 3 1 (by decide))<|
 .loop (fun n X_2=>zFR n X_2.1 X_2.2.1 X_2.2.2) ((vn1,2,([]:List Int))) (mb 30 25) [24] (fun s X_2 γ=>s.pc (mb 30 25) [24] [(0,I X_2.1),(4,I X_2.2.1)] [(24,.arr 3 1 (X_2.2.2.map c3))]) (fun X_2=>
 .cond (leI (w64 (X_2.2.1*X_2.2.1)) X_2.1) (.loop (fun n X_1=>zEs X_2.2.1 n X_1.1 X_1.2) ((X_2.1,X_2.2.2)) (mb 30 25) [24] (fun s X_1 γ=>s.pc (mb 30 25) [24] [(0,I X_1.1)] [(24,.arr 3 1 (X_1.2.map c3))]) (fun X_1=>
 .op0 (remF .i64 X_1.1 X_2.2.1) fun z12=>
 .cond (eqI (Int.tmod X_1.1 X_2.2.1) 0) (.n1 bsl<|.opx (app ct3 X_1.2 ([X_2.2.1])) fun u14=>
 .op0 (quoF .i64 X_1.1 X_2.2.1) fun z15=>
 .frc (w64 (Int.tdiv X_1.1 X_2.2.1)) fun vn16=>.ret (.inl ((vn16,X_1.2++([X_2.2.1])))))<|.ret (.inr ((X_1.1,X_1.2)))) (mb 30 25) [24] (fun s o11 γ=>s.pc (mb 30 25) [24] [(0,I o11.1)] [(24,.arr 3 1 (o11.2.map c3))]) fun o11=>
 .frc (w64 (X_2.2.1+1)) fun d17=>.ret (.inl ((o11.1,d17,o11.2))))<|.ret (.inr ((X_2.1,X_2.2.2)))) (mb 30 9) [24] (fun s o6 γ=>s.pc (mb 30 9) [24] [(0,I o6.1)] [(24,.arr 3 1 (o6.2.map c3))]) fun o6=>
 .cond (ltI 1 o6.1) (.n1 bsl<|.opx (app ct3 o6.2 ([o6.1])) fun u19=>
 .ret (o6.2++([o6.1])))<|
 .ret o6.2
theorem zQU{vn1:Int}{r:List Int}(h:zG4 vn1=some r):zH qf 204 [I vn1] (.ow 0) [(0,.arr 3 1 (r.map c3))]:=CtT (zQI vn1) (fun r=>(.ow 0,[(0,.arr 3 1 (r.map c3))])) (rs:=[.t 2]) (vs:=[.tmp 2]) Tryz.func204 rfl rfl (.cons rfl FitsL.nil) h
def zRP(vn1:Int):=fC zPj (zG4 vn1) fun _=>zQU
theorem zWK:CfW qf 205:=cfW Tryz.func205
noncomputable def zXR(l1:List Int)(vn2:Int):T qf (List Int):=
 .n1 (nilN 3 1 (by decide))<|
 .loop (fun n X_3=>zH2 l1 vn2 n X_3) 0 (mb 48 35) [] (fun s X_3 γ=>s.pc (mb 48 35) [] [(5,I X_3)] []) (fun X_3=>
 .dn<|.joinC (.n0 (lenM ct3 l1)<|.seqT (.cond (ltI X_3 ((l1.length:Int))) (.op0 (idxM ct3 l1 X_3) fun e7=>.ret (ltI e7 vn2)) (.ret false)) fun b8=>.ret b8) (mb 48 262179) [] (fun s q_1 γ=>s.pc (mb 48 262179) [] [(18,Bo q_1)] []) fun q_1=>
 .cond q_1 (
 .frc (w64 (X_3+1)) fun k10=>.ret (.inl k10))<|.ret (.inr X_3)) (mb 48 35) [] (fun s o5 γ=>s.pc (mb 48 35) [] [(5,I o5)] []) fun o5=>
 .dn<|.joinC (.n0 (lenM ct3 l1)<|.seqT (.cond (ltI o5 ((l1.length:Int))) (.op0 (idxM ct3 l1 o5) fun e12=>.ret (eqI e12 vn2)) (.ret false)) fun b13=>.ret b13) (mb 48 4294967331) [] (fun s q_2 γ=>s.pc (mb 48 4294967331) [] [(32,Bo q_2)] []) fun q_2=>
 .cond q_2 (
 .ret l1)<|.n1 bsl0<|.op0 (slice ct3 l1 0 o5) fun u15=>.opx (app ct3 (([]:List Int)) (subl l1 0 o5)) fun u16=>
 .n1 bsl<|.opx (app ct3 ((([]:List Int))++(subl l1 0 o5)) ([vn2])) fun u17=>
 .op0 (slice ct3 l1 o5 ((l1.length:Int))) fun u18=>.opx (app ct3 (((([]:List Int))++(subl l1 0 o5))++([vn2])) (subl l1 o5 ((l1.length:Int)))) fun u19=>
 .lt ((((([]:List Int))++(subl l1 0 o5))++([vn2]))++(subl l1 o5 ((l1.length:Int)))) fun l20=>.late (frzH 272)<|.ret l20
theorem zXe{l1:List Int}{vn2:Int}{r:List Int}(h:zKn l1 vn2=some r):zH qf 205 [.c (.sl (l1.map c3)),I vn2] (.c (.sl (r.map c3))) []:=CtU (zXR l1 vn2) 4 (fun r=>.c (.sl (r.map c3))) Tryz.func205 rfl rfl h
def zYj(l1:List Int)(vn2:Int):=fC zWK (zKn l1 vn2) fun _=>zXe
theorem zQs:CfW qf 134:=cfW Tryz.func134
noncomputable def zR7(vn1:Int):T qf (List Int):=
 .n1 (nilN 3 1 (by decide))<|
 .n1 (nilN 3 1 (by decide))<|
 .op1 (zRP vn1) fun y2=>.n0 (lenM ct3 y2)<|
 .hint (frzH 24)<|.loop (fun n X_1=>zFc y2 n X_1.1 X_1.2) ((([]:List Int),0)) (mb 18 904) [56] (fun s X_1 γ=>s.pc (mb 18 904) [56] [(3,.c (.sl (X_1.1.map c3))),(9,I X_1.2)] []) (fun X_1=>
 .cond (ltI X_1.2 ((y2.length:Int))) (.op0 (zDI ct3 y2 X_1.2) fun e8=>.op0 (ldo ct3 y2 X_1.2) fun e9=>
 .op1 (zYj X_1.1 e9) fun y10=>
 .frc (w64 (X_1.2+1)) fun t11=>.ret (.inl ((y10,t11))))<|.ret (.inr X_1.1)) (mb 18 8) [] (fun s o6 γ=>s.pc (mb 18 8) [] [(3,.c (.sl (o6.map c3)))] []) fun o6=>
 .ret o6
theorem zRr{vn1:Int}{r:List Int}(h:zDh vn1=some r):zH qf 134 [I vn1] (.c (.sl (r.map c3))) []:=CtU (zR7 vn1) 2 (fun r=>.c (.sl (r.map c3))) Tryz.func134 rfl rfl h
def zS5(vn1:Int):=fC zQs (zDh vn1) fun _=>zRr
theorem zOR:CfW qf 135:=cfW Tryz.func135
noncomputable def zOj(vn1:Int)(p2:Int):T qf Int:=
 .loop (fun n X_1=>zEt p2 n X_1.1 X_1.2) ((vn1,0)) (mb 16 35) [] (fun s X_1 γ=>s.pc (mb 16 35) [] [(0,I X_1.1),(5,I X_1.2)] []) (fun X_1=>
 .op0 (remF .i64 X_1.1 p2) fun z7=>
 .cond (eqI (Int.tmod X_1.1 p2) 0) (.op0 (quoF .i64 X_1.1 p2) fun z9=>
 .frc (w64 (Int.tdiv X_1.1 p2)) fun vn10=>
 .frc (w64 (X_1.2+1)) fun k11=>.ret (.inl ((vn10,k11))))<|.ret (.inr X_1.2)) (mb 16 32) [] (fun s o6 γ=>s.pc (mb 16 32) [] [(5,I o6)] []) fun o6=>
 .ret o6
theorem zPC{vn1:Int}{p2:Int}{r:Int}(h:zB7 vn1 p2=some r):zH qf 135 [I vn1,I p2] (I r) []:=CtU (zOj vn1 p2) 4 (fun r=>I r) Tryz.func135 rfl rfl h
def zPx(vn1:Int)(p2:Int):=fC zOR (zB7 vn1 p2) fun _=>zPC
theorem zPh:CfW qf 136:=cfW Tryz.func136
noncomputable def zQG(d1:Int)(vn2:Int):T qf Bool:=
 .loopS (fun n X_1=>zB3 d1 vn2 n X_1) 0 (mb 21 35) [] (fun s X_1 γ=>s.pc (mb 21 35) [] [(5,I X_1)] []) (fun X_1=>
 .cond (ltI X_1 (w64 (2*vn2))) (.op0 (remF .i64 (w64 ((w64 (X_1*X_1)) - d1)) (w64 (4*vn2))) fun z7=>
 .lt (eqI (Int.tmod (w64 ((w64 (X_1*X_1)) - d1)) (w64 (4*vn2))) 0) fun t8=>.cond t8 (
 .ret (.early true))<|
 .frc (w64 (X_1+1)) fun b10=>.ret (.again b10))<|.ret (.done (()))) (mb 21 0) [] (fun s o5 γ=>s.pc (mb 21 0) [] [] []) (fun r=>r) fun o5=>
 .ret false
theorem zQS{d1:Int}{vn2:Int}{r:Bool}(h:zEC d1 vn2=some r):zH qf 136 [I d1,I vn2] (Bo r) []:=CtU (zQG d1 vn2) 4 (fun r=>Bo r) Tryz.func136 rfl rfl h
def zRO(d1:Int)(vn2:Int):=fC zPh (zEC d1 vn2) fun _=>zQS
theorem zKK:CfW qf 65:=cfW Tryz.func65
noncomputable def zK4(d1:Int)(vn2:Int):T qf ((Int×Bool)):=
 .pl<|.dn<|.joinC (.op1 (zJ3 d1) fun y3=>.seqT (.cond (!y3) (.ret true) (.op1 (zMf vn2) fun y5=>.ret (!y5))) fun b6=>.ret (y3,b6)) (mb 36 32771) [] (fun s q_3 γ=>s.pc (mb 36 32771) [] [(15,Bo q_3.2)] []) fun q_3=>
 .cond q_3.2 (
 .ret ((0,false)))<|.op1 (zS5 vn2) fun y8=>.n0 (lenM ct3 y8)<|
 .loopS (fun n X_2=>zAc d1 vn2 y8 n X_2) 0 (mb 36 917507) [] (fun s X_2 γ=>s.pc (mb 36 917507) [] [(19,I X_2)] []) (fun X_2=>
 .cond (ltI X_2 ((y8.length:Int))) (.op0 (idxM ct3 y8 X_2) fun e13=>
 .joinC (.op1 (zPx vn2 e13) fun y14=>.n0 dvN<|.seqT (.cond (eqI (Int.tmod y14 2) 1) (.op1 (zRO d1 e13) fun y16=>.ret (!y16)) (.ret false)) fun b17=>.ret (y14,b17)) (mb 36 8590852227) [] (fun s q_1 γ=>s.pc (mb 36 8590852227) [] [(33,Bo q_1.2)] []) fun q_1=>
 .cond q_1.2 (
 .ret (.early ((e13,true))))<|
 .frc (w64 (X_2+1)) fun t19=>.ret (.again t19))<|.ret (.done (()))) (mb 36 0) [] (fun s o11 γ=>s.pc (mb 36 0) [] [] []) (fun r=>r) fun o11=>
 .ret ((0,false))
theorem zKe{d1:Int}{vn2:Int}{r:(Int×Bool)}(h:zCE d1 vn2=some r):zH qf 65 [I d1,I vn2] (.tc (I r.1) (.tc (Bo r.2) .tn)) []:=CtT (zK4 d1 vn2) (fun r=>(.tc (I r.1) (.tc (Bo r.2) .tn),[])) (rs:=[.t 4,.t 5]) (vs:=[.tmp 4,.tmp 5]) Tryz.func65 rfl rfl (.cons rfl (.cons rfl FitsL.nil)) h
def zLM(d1:Int)(vn2:Int):=fC zKK (zCE d1 vn2) fun _=>zKe
theorem zG9:CfW qf 18:=cfW Tryz.func18
noncomputable def zGq(d1:Int)(vn2:Int):T qf ((qd×Bool)):=
 .op1 (zLM d1 vn2) fun y3=>
 .dn<|.joinC (.selB (!y3.2) false [] fun w_4=>.ret w_4) (mb 28 524355) [] (fun s q_5 γ=>s.pc (mb 28 524355) [] [(19,Bo (bif q_5 then true else (ltI 2500 y3.1)))] []) fun q_5=>
 .cond (bif q_5 then true else (ltI 2500 y3.1)) (
 .ret (((⟨#[]⟩:qd),false)))<|.op1 (zA0 d1) fun y6=>.op1 (zA0 vn2) fun y7=>.op1 (zA0 y3.1) fun y8=>.n1 bsl<|.op1 (zDR ([(⟨#[111,98,115,116,114,117,99,116,105,111,110]⟩:qd),y6,y7,y8])) fun y9=>
 .ret ((y9,true))
theorem zGv{d1:Int}{vn2:Int}{r:(qd×Bool)}(h:zAh d1 vn2=some r):zH qf 18 [I d1,I vn2] (.tc (.c (.v (.string r.1))) (.tc (Bo r.2) .tn)) []:=CtT (zGq d1 vn2) (fun r=>(.tc (.c (.v (.string r.1))) (.tc (Bo r.2) .tn),[])) (rs:=[.t 4,.t 5]) (vs:=[.tmp 4,.tmp 5]) Tryz.func18 rfl rfl (.cons rfl (.cons rfl FitsL.nil)) h
def zHO(d1:Int)(vn2:Int):=fC zG9 (zAh d1 vn2) fun _=>zGv
theorem zWR:CfW qf 145:=cfW Tryz.func145
noncomputable def zXY(f1:τF)(g2:τF):T qf Bool:=
 .pl<|.joinC (.draw 14 []<|.op1 (zGo f1) fun y3=>.seqT (.cond y3 (.op1 (zGo g2) fun y5=>.ret y5) (.ret false)) fun b6=>.seqT (.cond b6 (.op1 (zAP f1) fun y8=>.op1 (zAP g2) fun y9=>.ret (eqI y8 y9)) (.ret false)) fun b10=>.ret (y3,b6,b10)) (mb 18 16) [] (fun s q_1 γ=>s.pc (mb 18 16) [] [(4,Bo q_1.2.2)] []) fun q_1=>
 .ret q_1.2.2
theorem zXm{f1:τF}{g2:τF}{r:Bool}(h:zES f1 g2=some r):zH qf 145 [.ag [Ti f1.1,Ti f1.2.1,Ti f1.2.2],.ag [Ti g2.1,Ti g2.2.1,Ti g2.2.2]] (Bo r) []:=CtU (zXY f1 g2) 4 (fun r=>Bo r) Tryz.func145 rfl rfl h
def zYl(f1:τF)(g2:τF):=fC zWR (zES f1 g2) fun _=>zXm
theorem zSQ:CfW qf 250:=cfW Tryz.func250
noncomputable def zTJ(g1:τF)(a2:Int):T qf ((Int×Int)):=
 .loopS (fun n X_4=>zDq a2 g1 n X_4) 1 (mb 45 70) [16] (fun s X_4 γ=>s.pc (mb 45 70) [16] [(6,I X_4)] []) (fun X_4=>
 .cond (leI X_4 100) (
 .loopS (fun n X_3=>zDp a2 g1 X_4 n X_3) 0 (mb 45 198) [16] (fun s X_3 γ=>s.pc (mb 45 198) [16] [(7,I X_3)] []) (fun X_3=>
 .cond (leI X_3 X_4) (
 .loopS (fun n X_2=>zD1 a2 g1 X_4 X_3 n X_2) 0 (mb 45 454) [16] (fun s X_2 γ=>s.pc (mb 45 454) [16] [(8,I X_2)] []) (fun X_2=>
 .cond (leI X_2 X_4) (.pl<|.dn<|.joinC (.op1 (zJ4 X_3 X_2) fun y15=>.seqT (.cond (eqI y15 X_4) (.op1 (zE3 X_3 X_2) fun y17=>.ret (eqI y17 1)) (.ret false)) fun b18=>.seqT (.cond b18 (.op1 (zFF g1 X_3 X_2) fun y20=>.op1 (zE3 y20 a2) fun y21=>.ret (eqI y21 1)) (.ret false)) fun b22=>.ret (y15,b18,b22)) (mb 45 4398046511558) [16] (fun s q_1 γ=>s.pc (mb 45 4398046511558) [16] [(42,Bo q_1.2.2)] []) fun q_1=>
 .cond q_1.2.2 (
 .ret (.early ((X_3,X_2))))<|
 .frc (w64 (X_2+1)) fun y24=>.ret (.again y24))<|.ret (.done (()))) (mb 45 198) [16] (fun s o13 γ=>s.pc (mb 45 198) [16] [] []) (.early) fun o13=>
 .frc (w64 (X_3+1)) fun x25=>.ret (.again x25))<|.ret (.done (()))) (mb 45 70) [16] (fun s o9 γ=>s.pc (mb 45 70) [16] [] []) (.early) fun o9=>
 .frc (w64 (X_4+1)) fun k26=>.ret (.again k26))<|.ret (.done (()))) (mb 45 0) [] (fun s o5 γ=>s.pc (mb 45 0) [] [] []) (fun r=>r) fun o5=>
 .ret ((1,0))
theorem zTc{g1:τF}{a2:Int}{r:(Int×Int)}(h:zD2 g1 a2=some r):zH qf 250 [.ag [Ti g1.1,Ti g1.2.1,Ti g1.2.2],I a2] (.tc (I r.1) (.tc (I r.2) .tn)) []:=CtT (zTJ g1 a2) (fun r=>(.tc (I r.1) (.tc (I r.2) .tn),[])) (rs:=[.t 4,.t 5]) (vs:=[.tmp 4,.tmp 5]) Tryz.func250 rfl rfl (.cons rfl (.cons rfl FitsL.nil)) h
def zVO(g1:τF)(a2:Int):=fC zSQ (zD2 g1 a2) fun _=>zTc
theorem zUl:CfW qf 293:=cfW Tryz.func293
noncomputable def zV7(vn1:Int):T qf Int:=
 .cond (ltI 0 vn1) (
 .ret 1)<|
 .cond (ltI vn1 0) (
 .ret (-1))<|
 .ret 0
theorem zVs{vn1:Int}{r:Int}(h:zJO vn1=some r):zH qf 293 [I vn1] (I r) []:=CtU (zV7 vn1) 2 (fun r=>I r) Tryz.func293 rfl rfl h
def zWY(vn1:Int):=fC zUl (zJO vn1) fun _=>zVs
theorem zPi:CfW qf 279:=cfW Tryz.func279
noncomputable def zQH(a1:Int)(vm2:Int):T qf Int:=
 .op1 (zBC a1 vm2) fun y3=>
 .loop (fun n X_1=>zDF vm2 n X_1.1 X_1.2.1 X_1.2.2.1 X_1.2.2.2) ((vm2,y3,0,1)) (mb 36 482) [] (fun s X_1 γ=>s.pc (mb 36 482) [] [(5,I X_1.1),(6,I X_1.2.1),(7,I X_1.2.2.1),(8,I X_1.2.2.2)] []) (fun X_1=>
 .cond (!eqI X_1.2.1 0) (.op0 (quoF .i64 X_1.1 X_1.2.1) fun z11=>
 .frc (w64 (Int.tdiv X_1.1 X_1.2.1)) fun q12=>
 .frc (w64 (X_1.1 - (w64 (q12*X_1.2.1)))) fun next13=>
 .frc (w64 (X_1.2.2.1 - (w64 (q12*X_1.2.2.2)))) fun y14=>.ret (.inl ((X_1.2.1,next13,X_1.2.2.2,y14))))<|.ret (.inr ((X_1.1,X_1.2.2.1)))) (mb 36 162) [] (fun s o9 γ=>s.pc (mb 36 162) [] [(5,I o9.1),(7,I o9.2)] []) fun o9=>
 .cond (!eqI o9.1 1) (
 .ret (-1))<|.op1 (zBC o9.2 vm2) fun y16=>
 .ret y16
theorem zQT{a1:Int}{vm2:Int}{r:Int}(h:zDV a1 vm2=some r):zH qf 279 [I a1,I vm2] (I r) []:=CtU (zQH a1 vm2) 4 (fun r=>I r) Tryz.func279 rfl rfl h
def zKS(a1:Int)(vm2:Int):=fC zPi (zDV a1 vm2) fun _=>zQT
theorem zQu:CfW qf 278:=cfW Tryz.func278
noncomputable def zR9(a1:Int)(b2:Int):T qf (τF):=
 .op1 (zE3 a1 b2) fun y3=>
 .cond (eqI b2 0) (.op1 (zWY a1) fun y5=>
 .ret ((y3,y5,0)))<|.draw 9 []<|.op0 (quoF .i64 a1 y3) fun z6=>.op1 (zCO b2) fun y7=>.op0 (quoF .i64 y7 y3) fun z8=>.op1 (zKS (w64 (Int.tdiv a1 y3)) (w64 (Int.tdiv y7 y3))) fun y9=>
 .draw 12 []<|.op0 (quoF .i64 (w64 (y3 - (w64 (a1*y9)))) b2) fun z10=>
 .frc (w64 (Int.tdiv (w64 (y3 - (w64 (a1*y9)))) b2)) fun t11=>.ret ((y3,y9,t11))
theorem zRt{a1:Int}{b2:Int}{r:τF}(h:zE7 a1 b2=some r):zH qf 278 [I a1,I b2] (.tc (I r.1) (.tc (I r.2.1) (.tc (I r.2.2) .tn))) []:=CtT (zR9 a1 b2) (fun r=>(.tc (I r.1) (.tc (I r.2.1) (.tc (I r.2.2) .tn)),[])) (rs:=[.t 4,.t 5,.t 6]) (vs:=[.tmp 4,.tmp 5,.tmp 6]) Tryz.func278 rfl rfl (.cons rfl (.cons rfl (.cons rfl FitsL.nil))) h
def zS7(a1:Int)(b2:Int):=fC zQu (zE7 a1 b2) fun _=>zRt
theorem zOQ:CfW qf 251:=cfW Tryz.func251
noncomputable def zOi(f1:τF)(x2:Int)(y3:Int):T qf ((τF×τM)):=
 .op1 (zS7 x2 y3) fun y4=>
 .op1 (zFF f1 x2 y3) fun y5=>
 .frc (w64 (0 - y4.2.2)) fun q6=>.op1 (zMh f1 x2 y3 q6 y4.2.1) fun y7=>
 .op1 (zBC y7 (w64 (2*y5))) fun y8=>.op0 (quoF .i64 (w64 (y8 - y7)) (w64 (2*y5))) fun z9=>
 .frc (w64 (Int.tdiv (w64 (y8 - y7)) (w64 (2*y5)))) fun t10=>.n0 (bld pl61 bt61)<|
 .frc (w64 (q6+(w64 (x2*t10)))) fun f11=>.frc (w64 (y4.2.1+(w64 (y3*t10)))) fun f12=>
 .frc (w64 (y7+(w64 ((w64 (2*y5))*t10)))) fun b13=>.draw 14 [(13,48)]<|.op1 (zAP f1) fun y14=>.op0 (quoF .i64 (w64 ((w64 (b13*b13)) - y14)) (w64 (4*y5))) fun z15=>.n0 (bld pl25 bt25)<|
 .frc (w64 (Int.tdiv (w64 ((w64 (b13*b13)) - y14)) (w64 (4*y5)))) fun f16=>.ret (((y5,b13,f16),(x2,f11,y3,f12)))
theorem zPB{f1:τF}{x2:Int}{y3:Int}{r:(τF×τM)}(h:zB6 f1 x2 y3=some r):zH qf 251 [.ag [Ti f1.1,Ti f1.2.1,Ti f1.2.2],I x2,I y3] (.tc (.ag [Ti r.1.1,Ti r.1.2.1,Ti r.1.2.2]) (.tc (.ag [Ti r.2.1,Ti r.2.2.1,Ti r.2.2.2.1,Ti r.2.2.2.2]) .tn)) []:=CtT (zOi f1 x2 y3) (fun r=>(.tc (.ag [Ti r.1.1,Ti r.1.2.1,Ti r.1.2.2]) (.tc (.ag [Ti r.2.1,Ti r.2.2.1,Ti r.2.2.2.1,Ti r.2.2.2.2]) .tn),[])) (rs:=[.w 6 3,.w 7 4]) (vs:=[.cell 6 25,.cell 7 61]) Tryz.func251 rfl rfl (.cons ⟨rfl,wd25⟩ (.cons ⟨rfl,wd61⟩ FitsL.nil)) h
def zPw(f1:τF)(x2:Int)(y3:Int):=fC zOQ (zB6 f1 x2 y3) fun _=>zPB
theorem zQt:CfW qf 252:=cfW Tryz.func252
noncomputable def zR8(a1:Int)(vm2:Int)(b3:Int)(vn4:Int):T qf ((Int×Int×Bool)):=
 .op1 (zE3 vm2 vn4) fun y5=>
 .op0 (remF .i64 (w64 (b3 - a1)) y5) fun z6=>
 .cond (!eqI (Int.tmod (w64 (b3 - a1)) y5) 0) (
 .ret ((0,0,false)))<|.draw 18 []<|.op0 (quoF .i64 (w64 (b3 - a1)) y5) fun z8=>.op0 (quoF .i64 vm2 y5) fun z9=>.op0 (quoF .i64 vn4 y5) fun z10=>.op1 (zKS (w64 (Int.tdiv vm2 y5)) (w64 (Int.tdiv vn4 y5))) fun y11=>.op0 (quoF .i64 vn4 y5) fun z12=>.op1 (zBC (w64 ((w64 (Int.tdiv (w64 (b3 - a1)) y5))*y11)) (w64 (Int.tdiv vn4 y5))) fun y13=>
 .op0 (quoF .i64 vm2 y5) fun z14=>
 .frc (w64 ((w64 (Int.tdiv vm2 y5))*vn4)) fun all15=>.op1 (zBC (w64 (a1+(w64 (vm2*y13)))) all15) fun y16=>
 .ret ((y16,all15,true))
theorem zRs{a1:Int}{vm2:Int}{b3:Int}{vn4:Int}{r:(Int×Int×Bool)}(h:zDi a1 vm2 b3 vn4=some r):zH qf 252 [I a1,I vm2,I b3,I vn4] (.tc (I r.1) (.tc (I r.2.1) (.tc (Bo r.2.2) .tn))) []:=CtT (zR8 a1 vm2 b3 vn4) (fun r=>(.tc (I r.1) (.tc (I r.2.1) (.tc (Bo r.2.2) .tn)),[])) (rs:=[.t 8,.t 9,.t 10]) (vs:=[.tmp 8,.tmp 9,.tmp 10]) Tryz.func252 rfl rfl (.cons rfl (.cons rfl (.cons rfl FitsL.nil))) h
def zS6(a1:Int)(vm2:Int)(b3:Int)(vn4:Int):=fC zQt (zDi a1 vm2 b3 vn4) fun _=>zRs
theorem zSO:CfW qf 253:=cfW Tryz.func253
noncomputable def zTH(t1:Int):T qf (τM):=
 .n0 (bld pl61 bt61)<|
 .ret ((1,t1,0,1))
theorem zTa{t1:Int}{r:τM}(h:zEu t1=some r):zH qf 253 [I t1] (.ag [Ti r.1,Ti r.2.1,Ti r.2.2.1,Ti r.2.2.2]) []:=CtT (zTH t1) (fun r=>(.ag [Ti r.1,Ti r.2.1,Ti r.2.2.1,Ti r.2.2.2],[])) (rs:=[.w 2 4]) (vs:=[.cell 2 61]) Tryz.func253 rfl rfl (.cons ⟨rfl,wd61⟩ FitsL.nil) h
def zMj(t1:Int):=fC zSO (zEu t1) fun _=>zTa
theorem zSN:CfW qf 209:=cfW Tryz.func209
noncomputable def zTG(f1:τF)(g2:τF):T qf ((τF×τF×τM×τM)):=
 .op1 (zCV f1) fun y3=>
 .op1 (zCV g2) fun y4=>
 .op1 (zVO y4.1 y3.1.1) fun y5=>
 .op1 (zPw y4.1 y5.1 y5.2) fun y6=>
 .op1 (zCc y4.2 y6.2) fun y7=>
 .draw 22 []<|.op1 (zBC y3.1.2.1 (w64 (2*y3.1.1))) fun y8=>.op1 (zS6 y8 (w64 (2*y3.1.1)) y6.1.2.1 (w64 (2*y6.1.1))) fun y9=>
 .draw 11 []<|.op0 (quoF .i64 (w64 (y9.1 - y3.1.2.1)) (w64 (2*y3.1.1))) fun z10=>.op1 (zMj (w64 (Int.tdiv (w64 (y9.1 - y3.1.2.1)) (w64 (2*y3.1.1))))) fun y11=>.op1 (zCc y3.2 y11) fun y12=>
 .draw 11 []<|.op0 (quoF .i64 (w64 (y9.1 - y6.1.2.1)) (w64 (2*y6.1.1))) fun z13=>.op1 (zMj (w64 (Int.tdiv (w64 (y9.1 - y6.1.2.1)) (w64 (2*y6.1.1))))) fun y14=>.op1 (zCc y7 y14) fun y15=>
 .draw 14 []<|.op1 (zAP y3.1) fun y16=>.op0 (quoF .i64 (w64 ((w64 (y9.1*y9.1)) - y16)) (w64 ((w64 (4*y3.1.1))*y6.1.1))) fun z17=>
 .frc (w64 (Int.tdiv (w64 ((w64 (y9.1*y9.1)) - y16)) (w64 ((w64 (4*y3.1.1))*y6.1.1)))) fun cc18=>.draw 21 [(18,32),(19,40),(20,48)]<|.n0 (bld pl25 bt25)<|.n0 (bld pl25 bt25)<|
 .frc (w64 (y3.1.1*cc18)) fun f19=>.frc (w64 (y6.1.1*cc18)) fun f20=>.ret (((y3.1.1,y9.1,f20),(y6.1.1,y9.1,f19),y12,y15))
theorem zT9{f1:τF}{g2:τF}{r:(τF×τF×τM×τM)}(h:zCe f1 g2=some r):zH qf 209 [.ag [Ti f1.1,Ti f1.2.1,Ti f1.2.2],.ag [Ti g2.1,Ti g2.2.1,Ti g2.2.2]] (.tc (.ag [Ti r.1.1,Ti r.1.2.1,Ti r.1.2.2]) (.tc (.ag [Ti r.2.1.1,Ti r.2.1.2.1,Ti r.2.1.2.2]) (.tc (.ag [Ti r.2.2.1.1,Ti r.2.2.1.2.1,Ti r.2.2.1.2.2.1,Ti r.2.2.1.2.2.2]) (.tc (.ag [Ti r.2.2.2.1,Ti r.2.2.2.2.1,Ti r.2.2.2.2.2.1,Ti r.2.2.2.2.2.2]) .tn)))) []:=CtT (zTG f1 g2) (fun r=>(.tc (.ag [Ti r.1.1,Ti r.1.2.1,Ti r.1.2.2]) (.tc (.ag [Ti r.2.1.1,Ti r.2.1.2.1,Ti r.2.1.2.2]) (.tc (.ag [Ti r.2.2.1.1,Ti r.2.2.1.2.1,Ti r.2.2.1.2.2.1,Ti r.2.2.1.2.2.2]) (.tc (.ag [Ti r.2.2.2.1,Ti r.2.2.2.2.1,Ti r.2.2.2.2.2.1,Ti r.2.2.2.2.2.2]) .tn))),[])) (rs:=[.w 4 3,.w 5 3,.w 6 4,.w 7 4]) (vs:=[.cell 4 25,.cell 5 25,.cell 6 61,.cell 7 61]) Tryz.func209 rfl rfl (.cons ⟨rfl,wd25⟩ (.cons ⟨rfl,wd25⟩ (.cons ⟨rfl,wd61⟩ (.cons ⟨rfl,wd61⟩ FitsL.nil)))) h
def zMi(f1:τF)(g2:τF):=fC zSN (zCe f1 g2) fun _=>zT9
theorem zQx:CfW qf 210:=cfW Tryz.func210
noncomputable def zRc(a1:τF)(e2:τF):T qf (τF):=
 .draw 13 []<|.op0 (quoF .i64 a1.2.2 e2.1) fun z3=>.n0 (bld pl25 bt25)<|
 .frc (w64 (a1.1*e2.1)) fun f4=>.frc (w64 (Int.tdiv a1.2.2 e2.1)) fun f5=>.ret ((f4,a1.2.1,f5))
theorem zRw{a1:τF}{e2:τF}{r:τF}(h:zCz a1 e2=some r):zH qf 210 [.ag [Ti a1.1,Ti a1.2.1,Ti a1.2.2],.ag [Ti e2.1,Ti e2.2.1,Ti e2.2.2]] (.ag [Ti r.1,Ti r.2.1,Ti r.2.2]) []:=CtT (zRc a1 e2) (fun r=>(.ag [Ti r.1,Ti r.2.1,Ti r.2.2],[])) (rs:=[.w 4 3]) (vs:=[.cell 4 25]) Tryz.func210 rfl rfl (.cons ⟨rfl,wd25⟩ FitsL.nil) h
def zLX(a1:τF)(e2:τF):=fC zQx (zCz a1 e2) fun _=>zRw
theorem zSP:CfW qf 146:=cfW Tryz.func146
noncomputable def zTI(f1:τF)(g2:τF):T qf ((τF×(List Int))):=
 .n1 (nilN 3 1 (by decide))<|
 .op1 (zMi f1 g2) fun y3=>
 .op1 (zLX y3.1 y3.2.1) fun y4=>
 .op1 (zCV y4) fun y5=>
 .draw 6 []<|.op1 (zFO y3.2.2.1) fun y6=>.op1 (zFO y3.2.2.2) fun y7=>.op1 (zFO y5.2) fun y8=>
 .op1 (mkF ct3 ((0:Int)) 8 8) fun u9=>
 .loop (fun n X_1=>zC7 y3 y4 y5 y6 y7 y8 n X_1.1 X_1.2) ((0,List.replicate (Int.toNat (8)) ((0:Int)))) (mb 126 32720) [344,96,88,80,72,64,56,48,32] (fun s X_1 γ=>s.pc (mb 126 32720) [344,96,88,80,72,64,56,48,32] [(14,I X_1.1)] [(344,.arr 3 1 (X_1.2.map c3))]) (fun X_1=>
 .cond (ltI X_1.1 4) (.draw 12 []<|
 .join (
 .cond (leI 2 X_1.1) (.draw 6 []<|
 .ret (y6.2.1,y6.2.2.2))<|.ret (y6.1,y6.2.2.1)) (mb 126 524240) [344,96,88,80,72,64,56,48,32] (fun s j15 γ=>s.pc (mb 126 524240) [344,96,88,80,72,64,56,48,32] [(15,I j15.1),(16,I j15.2)] []) fun j15=>
 .join (.n0 dvN<|
 .cond (eqI (Int.tmod X_1.1 2) 1) (.draw 6 []<|
 .ret (y7.2.1,y7.2.2.2))<|.ret (y7.1,y7.2.2.1)) (mb 126 524240) [344,96,88,80,72,64,56,48,32] (fun s j17 γ=>s.pc (mb 126 524240) [344,96,88,80,72,64,56,48,32] [(17,I j17.1),(18,I j17.2)] []) fun j17=>
 .draw 32 []<|
 .frc (w64 ((w64 (j15.1*j17.1)) - (w64 ((w64 (y4.2.2*j15.2))*j17.2)))) fun p19=>.frc (w64 ((w64 ((w64 ((w64 (y3.1.1*j15.1))*j17.2))+(w64 ((w64 (y3.2.1.1*j15.2))*j17.1))))+(w64 ((w64 (y4.2.1*j15.2))*j17.2)))) fun q20=>.op0 (zDI ct3 X_1.2 X_1.1) fun e21=>.opx (sto ct3 X_1.2 X_1.1 fun e22=>w64 ((w64 (y8.1*p19))+(w64 (y8.2.1*q20)))) fun e22=>
 .lt (X_1.2.set (Int.toNat (X_1.1)) (w64 ((w64 (y8.1*p19))+(w64 (y8.2.1*q20))))) fun l23=>.op0 (zDI ct3 l23 (w64 (4+X_1.1))) fun e24=>.opx (sto ct3 l23 (w64 (4+X_1.1)) fun e25=>w64 ((w64 (y8.2.2.1*p19))+(w64 (y8.2.2.2*q20)))) fun e25=>
 .lt (l23.set (Int.toNat (w64 (4+X_1.1))) (w64 ((w64 (y8.2.2.1*p19))+(w64 (y8.2.2.2*q20))))) fun l26=>
 .frc (w64 (X_1.1+1)) fun i27=>.ret (.inl ((i27,l26))))<|.ret (.inr X_1.2)) (mb 126 10256) [344,88,32] (fun s o13 γ=>s.pc (mb 126 10256) [344,88,32] [] [(344,.arr 3 1 (o13.map c3))]) fun o13=>
 .ret ((y5.1,o13))
theorem zTb{f1:τF}{g2:τF}{r:(τF×(List Int))}(h:zEF f1 g2=some r):zH qf 146 [.ag [Ti f1.1,Ti f1.2.1,Ti f1.2.2],.ag [Ti g2.1,Ti g2.2.1,Ti g2.2.2]] (.tc (.ag [Ti r.1.1,Ti r.1.2.1,Ti r.1.2.2]) (.tc (.ow 1) .tn)) [(1,.arr 3 1 (r.2.map c3))]:=CtT (zTI f1 g2) (fun r=>(.tc (.ag [Ti r.1.1,Ti r.1.2.1,Ti r.1.2.2]) (.tc (.ow 1) .tn),[(1,.arr 3 1 (r.2.map c3))])) (rs:=[.w 4 3,.t 5]) (vs:=[.cell 4 25,.tmp 5]) Tryz.func146 rfl rfl (.cons ⟨rfl,wd25⟩ (.cons rfl FitsL.nil)) h
def zVN(f1:τF)(g2:τF):=fC zSP (zEF f1 g2) fun _=>zTb
theorem zWM:CfW qf 147:=cfW Tryz.func147
noncomputable def zXT(l1:List Int)(lo2:Int)(hi3:Int):T qf Bool:=
 .n0 (lenM ct3 l1)<|
 .loopS (fun n X_1=>zE8 hi3 l1 lo2 n X_1) 0 (mb 21 3590) [] (fun s X_1 γ=>s.pc (mb 21 3590) [] [(11,I X_1)] []) (fun X_1=>
 .cond (ltI X_1 ((l1.length:Int))) (.op0 (idxM ct3 l1 X_1) fun e8=>
 .op1 (zFo e8 lo2 hi3) fun y9=>
 .cond (!y9) (
 .ret (.early false))<|
 .frc (w64 (X_1+1)) fun t11=>.ret (.again t11))<|.ret (.done (()))) (mb 21 0) [] (fun s o6 γ=>s.pc (mb 21 0) [] [] []) (fun r=>r) fun o6=>
 .ret true
theorem zXh{l1:List Int}{lo2:Int}{hi3:Int}{r:Bool}(h:zFI l1 lo2 hi3=some r):zH qf 147 [.c (.sl (l1.map c3)),I lo2,I hi3] (Bo r) []:=CtU (zXT l1 lo2 hi3) 6 (fun r=>Bo r) Tryz.func147 rfl rfl h
def zYe(l1:List Int)(lo2:Int)(hi3:Int):=fCs zWM (zFI l1 lo2 hi3) (fun _=>zXh) fun _=>rfl
theorem zJW:CfW qf 70:=cfW Tryz.func70
noncomputable def zJe(f1:τF)(g2:τF):T qf ((τF×(List Int)×Bool)):=
 .n1 (nilN 3 1 (by decide))<|
 .op1 (zYl f1 g2) fun y3=>
 .cond (!y3) (.n0 (bld pl25 bt25)<|.n1 (nilN 3 1 (by decide))<|
 .ret (((0,0,0),([]:List Int),false)))<|.op1 (zVN f1 g2) fun y5=>
 .op1 (zYe y5.2 (-1000000) 1000000) fun y6=>
 .cond (!y6) (.n0 (bld pl25 bt25)<|.n1 (nilN 3 1 (by decide))<|
 .ret (((0,0,0),([]:List Int),false)))<|
 .ret ((y5.1,y5.2,true))
theorem zJt{f1:τF}{g2:τF}{r:(τF×(List Int)×Bool)}(h:zBH f1 g2=some r):zH qf 70 [.ag [Ti f1.1,Ti f1.2.1,Ti f1.2.2],.ag [Ti g2.1,Ti g2.2.1,Ti g2.2.2]] (.tc (.ag [Ti r.1.1,Ti r.1.2.1,Ti r.1.2.2]) (.tc (.ow 1) (.tc (Bo r.2.2) .tn))) [(1,.arr 3 1 (r.2.1.map c3))]:=CtT (zJe f1 g2) (fun r=>(.tc (.ag [Ti r.1.1,Ti r.1.2.1,Ti r.1.2.2]) (.tc (.ow 1) (.tc (Bo r.2.2) .tn)),[(1,.arr 3 1 (r.2.1.map c3))])) (rs:=[.w 4 3,.t 5,.t 6]) (vs:=[.cell 4 25,.tmp 5,.tmp 6]) Tryz.func70 rfl rfl (.cons ⟨rfl,wd25⟩ (.cons rfl (.cons rfl FitsL.nil))) h
def zKV(f1:τF)(g2:τF):=fC zJW (zBH f1 g2) fun _=>zJt
theorem zH7:CfW qf 22:=cfW Tryz.func22
noncomputable def zHl(f1:τF)(g2:τF):T qf ((qd×Bool)):=
 .op1 (zKV f1 g2) fun y3=>
 .cond (!y3.2.2) (
 .ret (((⟨#[]⟩:qd),false)))<|.draw 8 []<|.op1 (zBY f1) fun y5=>.op1 (zBY g2) fun y6=>.op1 (zBY y3.1) fun y7=>.n1 bsl<|
 .lt ([(⟨#[99,111,109,112,111,115,105,116,101]⟩:qd),y5,y6,y7]) fun l8=>.n0 (lenM ct3 y3.2.1)<|
 .loop (fun n X_1=>zA2 y3 n X_1.1 X_1.2) ((0,l8)) (mb 42 1879048704) [216,121] (fun s X_1 γ=>s.pc (mb 42 1879048704) [216,121] [(30,I X_1.1)] [(216,.arr 9 1 (X_1.2.map c9))]) (fun X_1=>
 .cond (ltI X_1.1 ((y3.2.1.length:Int))) (.op0 (zDI ct3 y3.2.1 X_1.1) fun e14=>.op0 (ldo ct3 y3.2.1 X_1.1) fun e15=>
 .op1 (zA0 e15) fun y16=>.n1 bsl<|.opx (app ct9 X_1.2 ([y16])) fun u17=>
 .frc (w64 (X_1.1+1)) fun t18=>.ret (.inl ((t18,X_1.2++([y16])))))<|.ret (.inr X_1.2)) (mb 42 512) [216] (fun s o12 γ=>s.pc (mb 42 512) [216] [] [(216,.arr 9 1 (o12.map c9))]) fun o12=>
 .op1 (zDR o12) fun y19=>
 .ret ((y19,true))
theorem zHo{f1:τF}{g2:τF}{r:(qd×Bool)}(h:jZ f1 g2=some r):zH qf 22 [.ag [Ti f1.1,Ti f1.2.1,Ti f1.2.2],.ag [Ti g2.1,Ti g2.2.1,Ti g2.2.2]] (.tc (.c (.v (.string r.1))) (.tc (Bo r.2) .tn)) []:=CtT (zHl f1 g2) (fun r=>(.tc (.c (.v (.string r.1))) (.tc (Bo r.2) .tn),[])) (rs:=[.t 4,.t 5]) (vs:=[.tmp 4,.tmp 5]) Tryz.func22 rfl rfl (.cons rfl (.cons rfl FitsL.nil)) h
def zIC(f1:τF)(g2:τF):=fC zH7 (jZ f1 g2) fun _=>zHo
theorem zWS:CfW qf 152:=cfW Tryz.func152
noncomputable def zXZ(d1:Int):T qf (τF):=
 .op1 (zBC d1 2) fun y2=>
 .n0 dvN<|.n0 (bld pl25 bt25)<|
 .frc (w64 (Int.tdiv (w64 (y2 - d1)) 4)) fun f3=>.ret ((1,y2,f3))
theorem zXn{d1:Int}{r:τF}(h:zGB d1=some r):zH qf 152 [I d1] (.ag [Ti r.1,Ti r.2.1,Ti r.2.2]) []:=CtT (zXZ d1) (fun r=>(.ag [Ti r.1,Ti r.2.1,Ti r.2.2],[])) (rs:=[.w 2 3]) (vs:=[.cell 2 25]) Tryz.func152 rfl rfl (.cons ⟨rfl,wd25⟩ FitsL.nil) h
def zYm(d1:Int):=fC zWS (zGB d1) fun _=>zXn
theorem zWT:CfW qf 153:=cfW Tryz.func153
noncomputable def zX0(f1:τF)(g2:τF):T qf (τF):=
 .op1 (zMi f1 g2) fun y3=>
 .op1 (zLX y3.1 y3.2.1) fun y4=>.op1 (zI7 y4) fun y5=>
 .ret y5
theorem zXo{f1:τF}{g2:τF}{r:τF}(h:zET f1 g2=some r):zH qf 153 [.ag [Ti f1.1,Ti f1.2.1,Ti f1.2.2],.ag [Ti g2.1,Ti g2.2.1,Ti g2.2.2]] (.ag [Ti r.1,Ti r.2.1,Ti r.2.2]) []:=CtT (zX0 f1 g2) (fun r=>(.ag [Ti r.1,Ti r.2.1,Ti r.2.2],[])) (rs:=[.w 4 3]) (vs:=[.cell 4 25]) Tryz.func153 rfl rfl (.cons ⟨rfl,wd25⟩ FitsL.nil) h
def zYn(f1:τF)(g2:τF):=fC zWT (zET f1 g2) fun _=>zXo
theorem zSR:CfW qf 74:=cfW Tryz.func74
noncomputable def zTK(f1:τF):T qf Int:=
 .op1 (zI7 f1) fun y2=>
 .loop (fun n X_1=>zCr y2 n X_1.1 X_1.2.1 X_1.2.2.1 X_1.2.2.2) ((1,y2.1,y2.2.1,y2.2.2)) (mb 20 26) [32,8] (fun s X_1 γ=>s.pc (mb 20 26) [32,8] [(3,I X_1.1)] [(32,.box [Ti X_1.2.1,Ti X_1.2.2.1,Ti X_1.2.2.2])]) (fun X_1=>
 .draw 5 []<|.op1 (zAP y2) fun y9=>.op1 (zYm y9) fun y10=>.n0 (neg3 z1u)<|
 .cond (!((X_1.2.1==y10.1)&&((X_1.2.2.1==y10.2.1)&&(X_1.2.2.2==y10.2.2)))) (.op1 (zYn ((X_1.2.1,X_1.2.2.1,X_1.2.2.2)) y2) fun y12=>
 .frc (w64 (X_1.1+1)) fun k13=>.ret (.inl ((k13,y12.1,y12.2.1,y12.2.2))))<|.ret (.inr X_1.1)) (mb 20 8) [] (fun s o8 γ=>s.pc (mb 20 8) [] [(3,I o8)] []) fun o8=>
 .ret o8
theorem zTd{f1:τF}{r:Int}(h:zEv f1=some r):zH qf 74 [.ag [Ti f1.1,Ti f1.2.1,Ti f1.2.2]] (I r) []:=CtU (zTK f1) 2 (fun r=>I r) Tryz.func74 rfl rfl h
def zVP(f1:τF):=fC zSR (zEv f1) fun _=>zTd
theorem zJV:CfW qf 24:=cfW Tryz.func24
noncomputable def zJd(f1:τF):T qf ((qd×Bool)):=
 .op1 (zGo f1) fun y2=>
 .cond (!y2) (
 .ret (((⟨#[]⟩:qd),false)))<|.draw 9 []<|.op1 (zBY f1) fun y4=>.op1 (zVP f1) fun y5=>.op1 (zLJ y5) fun y6=>.n1 bsl<|.op1 (zDR ([(⟨#[111,114,100,101,114]⟩:qd),y4,y6])) fun y7=>
 .ret ((y7,true))
theorem zJs{f1:τF}{r:(qd×Bool)}(h:zBG f1=some r):zH qf 24 [.ag [Ti f1.1,Ti f1.2.1,Ti f1.2.2]] (.tc (.c (.v (.string r.1))) (.tc (Bo r.2) .tn)) []:=CtT (zJd f1) (fun r=>(.tc (.c (.v (.string r.1))) (.tc (Bo r.2) .tn),[])) (rs:=[.t 2,.t 3]) (vs:=[.tmp 2,.tmp 3]) Tryz.func24 rfl rfl (.cons rfl (.cons rfl FitsL.nil)) h
def zKU(f1:τF):=fC zJV (zBG f1) fun _=>zJs
theorem zUg:CfW qf 162:=cfW Tryz.func162
noncomputable def zV2(vm1:τM)(vn2:τM):T qf Bool:=
 .cond (!eqI vm1.1 vn2.1) (
 .ret (ltI vm1.1 vn2.1))<|
 .cond (!eqI vm1.2.1 vn2.2.1) (
 .ret (ltI vm1.2.1 vn2.2.1))<|
 .cond (!eqI vm1.2.2.1 vn2.2.2.1) (
 .ret (ltI vm1.2.2.1 vn2.2.2.1))<|
 .ret (ltI vm1.2.2.2 vn2.2.2.2)
theorem zVn{vm1:τM}{vn2:τM}{r:Bool}(h:zGi vm1 vn2=some r):zH qf 162 [.ag [Ti vm1.1,Ti vm1.2.1,Ti vm1.2.2.1,Ti vm1.2.2.2],.ag [Ti vn2.1,Ti vn2.2.1,Ti vn2.2.2.1,Ti vn2.2.2.2]] (Bo r) []:=CtU (zV2 vm1 vn2) 4 (fun r=>Bo r) Tryz.func162 rfl rfl h
def zWX(vm1:τM)(vn2:τM):=fC zUg (zGi vm1 vn2) fun _=>zVn
theorem zM4:CfW qf 81:=cfW Tryz.func81
noncomputable def zNH(f1:τF):T qf (List τM):=
 .n1 (nilN 61 4 (by decide))<|
 .op1 (zGg f1) fun y2=>
 .draw 13 []<|.op0 (quoF .i64 f1.1 y2) fun z3=>.op0 (quoF .i64 f1.2.1 y2) fun z4=>.op0 (quoF .i64 f1.2.2 y2) fun z5=>.n0 (bld pl25 bt25)<|
 .frc (w64 (Int.tdiv f1.1 y2)) fun f6=>.frc (w64 (Int.tdiv f1.2.1 y2)) fun f7=>.frc (w64 (Int.tdiv f1.2.2 y2)) fun f8=>.op1 (zAP ((f6,f7,f8))) fun y9=>
 .n1 (nilN 61 4 (by decide))<|
 .loop (fun n X_4=>zAH f6 f7 f8 y9 n X_4.1 X_4.2) ((-2,([]:List τM))) (mb 101 114) [40,8] (fun s X_4 γ=>s.pc (mb 101 114) [40,8] [(6,I X_4.1)] [(40,.arr 61 4 (X_4.2.map c61))]) (fun X_4=>
 .cond (leI X_4.1 2) (
 .loop (fun n X_3=>jN f6 f7 f8 X_4.1 y9 n X_3.1 X_3.2) ((-1,X_4.2)) (mb 101 242) [40,8] (fun s X_3 γ=>s.pc (mb 101 242) [40,8] [(7,I X_3.1)] [(40,.arr 61 4 (X_3.2.map c61))]) (fun X_3=>
 .cond (leI X_3.1 1) (
 .lt (!eqI (w64 ((w64 (X_4.1*X_4.1)) - (w64 ((w64 (y9*X_3.1))*X_3.1)))) 4) fun t20=>.cond t20 (
 .frc (w64 (X_3.1+1)) fun u22=>.ret (.inl ((u22,X_3.2))))<|.n0 dvN<|.n0 dvN<|.n0 (bld pl61 bt61)<|
 .frc (w64 (Int.tdiv (w64 (X_4.1 - (w64 (f7*X_3.1)))) 2)) fun f23=>.frc (w64 ((w64 (0 - f8))*X_3.1)) fun f24=>.frc (w64 (f6*X_3.1)) fun f25=>.frc (w64 (Int.tdiv (w64 (X_4.1+(w64 (f7*X_3.1)))) 2)) fun f26=>.n0 (lenM ct61 X_3.2)<|
 .n1 bsl<|.opx (app ct61 X_3.2 ([(f23,f24,f25,f26)])) fun u27=>
 .loop (fun n X_2=>zBF f23 f24 f25 f26 f6 f7 f8 X_4.1 X_3.1 y9 n X_2.1 X_2.2) (((X_3.2.length:Int),X_3.2++([(f23,f24,f25,f26)]))) (mb 101 1010) [64,40,8] (fun s X_2 γ=>s.pc (mb 101 1010) [64,40,8] [(9,I X_2.1)] [(40,.arr 61 4 (X_2.2.map c61))]) (fun X_2=>
 .dn<|.joinC (.draw 11 []<|.seqT (.cond (ltI 0 X_2.1) (.op0 (zDI ct61 X_2.2 (w64 (X_2.1 - 1))) fun e33=>.op0 (ldo ct61 X_2.2 (w64 (X_2.1 - 1))) fun e34=>.op1 (zWX ((f23,f24,f25,f26)) e34) fun y35=>.ret y35) (.ret false)) fun b36=>.ret b36) (mb 101 38685626227668133590598642) [64,40,8] (fun s q_1 γ=>s.pc (mb 101 38685626227668133590598642) [64,40,8] [(85,Bo q_1)] []) fun q_1=>
 .cond q_1 (.op0 (zDI ct61 X_2.2 (w64 (X_2.1 - 1))) fun e38=>.op0 (ldo ct61 X_2.2 (w64 (X_2.1 - 1))) fun e39=>.op0 (zDI ct61 X_2.2 X_2.1) fun e40=>.opx (sto ct61 X_2.2 X_2.1 fun e41=>e39) fun e41=>
 .frc (w64 (X_2.1 - 1)) fun vat42=>.ret (.inl ((vat42,X_2.2.set (Int.toNat (X_2.1)) e39))))<|.ret (.inr ((X_2.1,X_2.2)))) (mb 101 1010) [64,40,8] (fun s o31 γ=>s.pc (mb 101 1010) [64,40,8] [(9,I o31.1)] [(40,.arr 61 4 (o31.2.map c61))]) fun o31=>
 .op0 (zDI ct61 o31.2 o31.1) fun e43=>.opx (sto ct61 o31.2 o31.1 fun e44=>(f23,f24,f25,f26)) fun e44=>
 .frc (w64 (X_3.1+1)) fun u45=>.ret (.inl ((u45,o31.2.set (Int.toNat (o31.1)) ((f23,f24,f25,f26))))))<|.ret (.inr X_3.2)) (mb 101 114) [40,8] (fun s o18 γ=>s.pc (mb 101 114) [40,8] [] [(40,.arr 61 4 (o18.map c61))]) fun o18=>
 .frc (w64 (X_4.1+1)) fun t46=>.ret (.inl ((t46,o18))))<|.ret (.inr X_4.2)) (mb 101 32) [40] (fun s o13 γ=>s.pc (mb 101 32) [40] [] [(40,.arr 61 4 (o13.map c61))]) fun o13=>
 .ret o13
theorem zNP{f1:τF}{r:List τM}(h:zCP f1=some r):zH qf 81 [.ag [Ti f1.1,Ti f1.2.1,Ti f1.2.2]] (.ow 0) [(0,.arr 61 4 (r.map c61))]:=CtT (zNH f1) (fun r=>(.ow 0,[(0,.arr 61 4 (r.map c61))])) (rs:=[.t 2]) (vs:=[.tmp 2]) Tryz.func81 rfl rfl (.cons rfl FitsL.nil) h
def zN9(f1:τF):=fC zM4 (zCP f1) fun _=>zNP
theorem zLA:CfW qf 154:=cfW Tryz.func154
noncomputable def zL1(cc1:((List Int)×Int×Int)):T qf ((Int×((List Int)×Int×Int))):=
 .opx (zE cc1 10) fun y2=>
 .cond (eqI y2.1 0) (.n1 bsl<|.hint (frzH 72)<|.opx (zAo y2.2 ([4,9,1000,1001,0,-3,5,997,1004,996,2,1099511627776])) fun y4=>
 .ret ((y4.1,y4.2)))<|.join (
 .cond (eqI y2.1 1) (.ret (eqI y2.1 1))<|
 .ret (eqI y2.1 2)) (mb 26 2049) [80000] (fun s j5 γ=>s.pc (mb 26 2049) [80000] [(11,Bo j5)] []) fun j5=>
 .cond j5 (.n1 bsl<|.hint (frzH 120)<|.opx (zAo y2.2 ([5,8,12,13,60,136,221,229,257,316,401,520,780,840,924])) fun y8=>
 .ret ((y8.1,y8.2)))<|.opx (zE y2.2 240) fun y9=>
 .frc (w64 (5+(w64 (4*y9.1)))) fun d10=>.opx (zCB y9.2 2) fun y11=>
 .cond y11.1 (
 .frc (w64 (d10 - 1)) fun d13=>
 .ret ((d13,y11.2)))<|
 .ret ((d10,y11.2))
theorem zL8{cc1:((List Int)×Int×Int)}{r:(Int×((List Int)×Int×Int))}(h:zCZ cc1=some r):zFE qf 154 [.pt 80000 0] [(80000,.box [.sl (cc1.1.map c5),Ti cc1.2.1,.v (.int .u64 cc1.2.2)])] (I r.1) [] [(80000,.box [.sl (r.2.1.map c5),Ti r.2.2.1,.v (.int .u64 r.2.2.2)])]:=CrT (zL1 cc1) (fun r=>(I r.1,[])) (fun r=>[(80000,.box [.sl (r.2.1.map c5),Ti r.2.2.1,.v (.int .u64 r.2.2.2)])]) (rs:=[.t 2]) (vs:=[.tmp 2]) Tryz.func154 rfl rfl (.cons rfl FitsL.nil) h
def zLn(cc1:((List Int)×Int×Int)):=fR zLA (zCZ cc1) fun _=>zL8
theorem zQr:CfW qf 215:=cfW Tryz.func215
noncomputable def zR6(vn1:Int):T qf Bool:=
 .cond (ltI vn1 0) (
 .ret false)<|.op1 (zGm vn1) fun y3=>
 .ret (eqI (w64 (y3*y3)) vn1)
theorem zRq{vn1:Int}{r:Bool}(h:zF5 vn1=some r):zH qf 215 [I vn1] (Bo r) []:=CtU (zR6 vn1) 2 (fun r=>Bo r) Tryz.func215 rfl rfl h
def zLW(vn1:Int):=fC zQr (zF5 vn1) fun _=>zRq
theorem zUs:CfW qf 157:=cfW Tryz.func157
noncomputable def zVe(d1:Int):T qf Bool:=
 .pl<|.joinC (.op1 (zFo d1 5 1000) fun y2=>.seqT (.cond y2 (.op1 (zBC d1 4) fun y4=>.ret (ltI y4 2)) (.ret false)) fun b5=>.seqT (.cond b5 (.op1 (zLW d1) fun y7=>.ret (!y7)) (.ret false)) fun b8=>.ret (y2,b5,b8)) (mb 15 4) [] (fun s q_1 γ=>s.pc (mb 15 4) [] [(2,Bo q_1.2.2)] []) fun q_1=>
 .ret q_1.2.2
theorem zVz{d1:Int}{r:Bool}(h:zEf d1=some r):zH qf 157 [I d1] (Bo r) []:=CtU (zVe d1) 2 (fun r=>Bo r) Tryz.func157 rfl rfl h
def zNh(d1:Int):=fC zUs (zEf d1) fun _=>zVz
theorem zY1:CfW qf 257:=cfW Tryz.func257
noncomputable def zYx(d1:Int):T qf Bool:=
 .pl<|.joinC (.op1 (zCC d1) fun y2=>.seqT (.cond y2 (.op1 (zBC d1 4) fun y4=>.ret (ltI y4 2)) (.ret false)) fun b5=>.seqT (.cond b5 (.op1 (zLW d1) fun y7=>.ret (!y7)) (.ret false)) fun b8=>.ret (y2,b5,b8)) (mb 15 4) [] (fun s q_1 γ=>s.pc (mb 15 4) [] [(2,Bo q_1.2.2)] []) fun q_1=>
 .ret q_1.2.2
theorem zZH{d1:Int}{r:Bool}(h:zMP d1=some r):zH qf 257 [I d1] (Bo r) []:=CtU (zYx d1) 2 (fun r=>Bo r) Tryz.func257 rfl rfl h
def z0P(d1:Int):=fC zY1 (zMP d1) fun _=>zZH
theorem zLg:CfW qf 216:=cfW Tryz.func216
noncomputable def zLr(d1:Int):T qf ((τF×Bool)):=
 .op1 (z0P d1) fun y2=>
 .cond (!y2) (.n0 (bld pl25 bt25)<|
 .ret (((0,0,0),false)))<|.op1 (zBC d1 2) fun y4=>
 .n0 dvN<|.n0 (bld pl25 bt25)<|
 .frc (w64 (Int.tdiv (w64 (y4 - d1)) 4)) fun f5=>.ret (((1,y4,f5),true))
theorem zME{d1:Int}{r:(τF×Bool)}(h:zEw d1=some r):zH qf 216 [I d1] (.tc (.ag [Ti r.1.1,Ti r.1.2.1,Ti r.1.2.2]) (.tc (Bo r.2) .tn)) []:=CtT (zLr d1) (fun r=>(.tc (.ag [Ti r.1.1,Ti r.1.2.1,Ti r.1.2.2]) (.tc (Bo r.2) .tn),[])) (rs:=[.w 2 3,.t 3]) (vs:=[.cell 2 25,.tmp 3]) Tryz.func216 rfl rfl (.cons ⟨rfl,wd25⟩ (.cons rfl FitsL.nil)) h
def zMk(d1:Int):=fC zLg (zEw d1) fun _=>zME
theorem zY2:CfW qf 258:=cfW Tryz.func258
noncomputable def zYy(f1:τF):T qf Bool:=
 .op1 (zAP f1) fun y2=>.op1 (zGm y2) fun y3=>
 .op1 (zCO f1.1) fun y4=>
 .frc (w64 (2*y4)) fun a5=>.joinC (.selB (ltI 0 f1.2.1) true [] fun w_4=>.selB (bif w_4 then (leI f1.2.1 y3) else false) true [] fun w_5=>.selB (bif w_5 then (ltI (w64 (y3 - f1.2.1)) a5) else false) true [] fun w_6=>.ret (w_4,w_5,w_6)) (mb 37 4) [] (fun s q_7 γ=>s.pc (mb 37 4) [] [(2,Bo (bif q_7.2.2 then (leI a5 (w64 (y3+f1.2.1))) else false))] []) fun q_7=>
 .lt (bif q_7.2.2 then (leI a5 (w64 (y3+f1.2.1))) else false) fun t9=>.ret t9
theorem zZI{f1:τF}{r:Bool}(h:zMQ f1=some r):zH qf 258 [.ag [Ti f1.1,Ti f1.2.1,Ti f1.2.2]] (Bo r) []:=CtU (zYy f1) 2 (fun r=>Bo r) Tryz.func258 rfl rfl h
def z0Q(f1:τF):=fC zY2 (zMQ f1) fun _=>zZI
theorem zUr:CfW qf 281:=cfW Tryz.func281
noncomputable def zVd(f1:τF):T qf Bool:=
 .pl<|.joinC (.op1 (zGn f1) fun y2=>.seqT (.cond y2 (.op1 (zAP f1) fun y4=>.op1 (zNh y4) fun y5=>.ret y5) (.ret false)) fun b6=>.ret (y2,b6)) (mb 10 4) [] (fun s q_1 γ=>s.pc (mb 10 4) [] [(2,Bo q_1.2)] []) fun q_1=>
 .ret q_1.2
theorem zVy{f1:τF}{r:Bool}(h:zJP f1=some r):zH qf 281 [.ag [Ti f1.1,Ti f1.2.1,Ti f1.2.2]] (Bo r) []:=CtU (zVd f1) 2 (fun r=>Bo r) Tryz.func281 rfl rfl h
def zWZ(f1:τF):=fC zUr (zJP f1) fun _=>zVy
theorem zUq:CfW qf 218:=cfW Tryz.func218
noncomputable def zVc(f1:τF):T qf (τM):=
 .op1 (zAP f1) fun y2=>.op1 (zGm y2) fun y3=>
 .op1 (zCO f1.2.2) fun y4=>
 .pl<|.join (
 .cond (ltI y3 y4) (
 .ret y4)<|.ret y3) (mb 36 54) [16,8] (fun s j5 γ=>s.pc (mb 36 54) [16,8] [(5,I j5)] []) fun j5=>
 .op1 (zBC (w64 (j5+f1.2.1)) (w64 (2*y4))) fun y7=>
 .frc (w64 (j5 - y7)) fun b8=>.op0 (quoF .i64 (w64 (f1.2.1+b8)) (w64 (2*f1.2.2))) fun z9=>.n0 (bld pl61 bt61)<|
 .frc (w64 (Int.tdiv (w64 (f1.2.1+b8)) (w64 (2*f1.2.2)))) fun f10=>.ret ((0,-1,1,f10))
theorem zVx{f1:τF}{r:τM}(h:zGj f1=some r):zH qf 218 [.ag [Ti f1.1,Ti f1.2.1,Ti f1.2.2]] (.ag [Ti r.1,Ti r.2.1,Ti r.2.2.1,Ti r.2.2.2]) []:=CtT (zVc f1) (fun r=>(.ag [Ti r.1,Ti r.2.1,Ti r.2.2.1,Ti r.2.2.2],[])) (rs:=[.w 2 4]) (vs:=[.cell 2 61]) Tryz.func218 rfl rfl (.cons ⟨rfl,wd61⟩ FitsL.nil) h
def zNg(f1:τF):=fC zUq (zGj f1) fun _=>zVx
theorem zQz:CfW qf 259:=cfW Tryz.func259
noncomputable def zRe(f1:τF):T qf ((τF×τM×Bool)):=
 .op1 (zWZ f1) fun y2=>
 .cond (!y2) (.n0 (bld pl25 bt25)<|.n0 (bld pl61 bt61)<|
 .ret (((0,0,0),(0,0,0,0),false)))<|.op1 (zNg f1) fun y4=>
 .op1 (zIA f1 y4) fun y5=>
 .dn<|.joinC (.op1 (zGn y5) fun y6=>.seqT (.cond (!y6) (.ret true) (.op1 (zHc y4) fun y8=>.ret (!y8))) fun b9=>.ret (y6,b9)) (mb 29 16777324) [48,40,24,16] (fun s q_1 γ=>s.pc (mb 29 16777324) [48,40,24,16] [(24,Bo q_1.2)] []) fun q_1=>
 .cond q_1.2 (.n0 (bld pl25 bt25)<|.n0 (bld pl61 bt61)<|
 .ret (((0,0,0),(0,0,0,0),false)))<|.draw 3 [(2,16)]<|
 .ret ((y5,y4,true))
theorem zRy{f1:τF}{r:(τF×τM×Bool)}(h:zH4 f1=some r):zH qf 259 [.ag [Ti f1.1,Ti f1.2.1,Ti f1.2.2]] (.tc (.ag [Ti r.1.1,Ti r.1.2.1,Ti r.1.2.2]) (.tc (.ag [Ti r.2.1.1,Ti r.2.1.2.1,Ti r.2.1.2.2.1,Ti r.2.1.2.2.2]) (.tc (Bo r.2.2) .tn))) []:=CtT (zRe f1) (fun r=>(.tc (.ag [Ti r.1.1,Ti r.1.2.1,Ti r.1.2.2]) (.tc (.ag [Ti r.2.1.1,Ti r.2.1.2.1,Ti r.2.1.2.2.1,Ti r.2.1.2.2.2]) (.tc (Bo r.2.2) .tn)),[])) (rs:=[.w 2 3,.w 3 4,.t 4]) (vs:=[.cell 2 25,.cell 3 61,.tmp 4]) Tryz.func259 rfl rfl (.cons ⟨rfl,wd25⟩ (.cons ⟨rfl,wd61⟩ (.cons rfl FitsL.nil))) h
def zSa(f1:τF):=fC zQz (zH4 f1) fun _=>zRy
theorem zQw:CfW qf 217:=cfW Tryz.func217
noncomputable def zRb(f1:τF):T qf ((τF×τM×Bool)):=
 .n0 (bld pl61 bt61)<|
 .loopS (fun n X_1=>zFd n X_1.1 X_1.2.1 X_1.2.2.1 X_1.2.2.2.1 X_1.2.2.2.2.1 X_1.2.2.2.2.2.1 X_1.2.2.2.2.2.2) ((1,0,0,1,f1.1,f1.2.1,f1.2.2)) (mb 34 46) [40,24,16,8] (fun s X_1 γ=>s.pc (mb 34 46) [40,24,16,8] [] [(40,.box [Ti X_1.1,Ti X_1.2.1,Ti X_1.2.2.1,Ti X_1.2.2.2.1]),(8,.box [Ti X_1.2.2.2.2.1,Ti X_1.2.2.2.2.2.1,Ti X_1.2.2.2.2.2.2])]) (fun X_1=>
 .op1 (z0Q ((X_1.2.2.2.2.1,X_1.2.2.2.2.2.1,X_1.2.2.2.2.2.2))) fun y11=>
 .cond (!y11) (.op1 (zSa ((X_1.2.2.2.2.1,X_1.2.2.2.2.2.1,X_1.2.2.2.2.2.2))) fun y13=>
 .cond (!y13.2.2) (.n0 (bld pl25 bt25)<|.n0 (bld pl61 bt61)<|
 .ret (.early (((0,0,0),(0,0,0,0),false))))<|.draw 4 []<|.op1 (zCc ((X_1.1,X_1.2.1,X_1.2.2.1,X_1.2.2.2.1)) y13.2.1) fun y15=>
 .op1 (zHc y15) fun y16=>
 .cond (!y16) (.n0 (bld pl25 bt25)<|.n0 (bld pl61 bt61)<|
 .ret (.early (((0,0,0),(0,0,0,0),false))))<|.ret (.again ((y15.1,y15.2.1,y15.2.2.1,y15.2.2.2,y13.1.1,y13.1.2.1,y13.1.2.2))))<|.ret (.done ((X_1.1,X_1.2.1,X_1.2.2.1,X_1.2.2.2.1,X_1.2.2.2.2.1,X_1.2.2.2.2.2.1,X_1.2.2.2.2.2.2)))) (mb 34 46) [40,24,16,8] (fun s o10 γ=>s.pc (mb 34 46) [40,24,16,8] [] [(40,.box [Ti o10.1,Ti o10.2.1,Ti o10.2.2.1,Ti o10.2.2.2.1]),(8,.box [Ti o10.2.2.2.2.1,Ti o10.2.2.2.2.2.1,Ti o10.2.2.2.2.2.2])]) (fun r=>r) fun o10=>
 .draw 3 [(2,16)]<|
 .ret ((o10.2.2.2.2,(o10.1,o10.2.1,o10.2.2.1,o10.2.2.2.1),true))
theorem zRv{f1:τF}{r:(τF×τM×Bool)}(h:zH3 f1=some r):zH qf 217 [.ag [Ti f1.1,Ti f1.2.1,Ti f1.2.2]] (.tc (.ag [Ti r.1.1,Ti r.1.2.1,Ti r.1.2.2]) (.tc (.ag [Ti r.2.1.1,Ti r.2.1.2.1,Ti r.2.1.2.2.1,Ti r.2.1.2.2.2]) (.tc (Bo r.2.2) .tn))) []:=CtT (zRb f1) (fun r=>(.tc (.ag [Ti r.1.1,Ti r.1.2.1,Ti r.1.2.2]) (.tc (.ag [Ti r.2.1.1,Ti r.2.1.2.1,Ti r.2.1.2.2.1,Ti r.2.1.2.2.2]) (.tc (Bo r.2.2) .tn)),[])) (rs:=[.w 2 3,.w 3 4,.t 4]) (vs:=[.cell 2 25,.cell 3 61,.tmp 4]) Tryz.func217 rfl rfl (.cons ⟨rfl,wd25⟩ (.cons ⟨rfl,wd61⟩ (.cons rfl FitsL.nil))) h
def zS8(f1:τF):=fC zQw (zH3 f1) fun _=>zRv
theorem zSJ:CfW qf 220:=cfW Tryz.func220
noncomputable def zTC(x1:(Int×Int)):T qf Bool:=
 .pl<|.joinC (.op1 (zFo x1.1 (-100000000) 100000000) fun y2=>.seqT (.cond y2 (.op1 (zCC x1.2) fun y4=>.ret y4) (.ret false)) fun b5=>.ret (y2,b5)) (mb 11 4) [] (fun s q_1 γ=>s.pc (mb 11 4) [] [(2,Bo q_1.2)] []) fun q_1=>
 .ret q_1.2
theorem zT5{x1:(Int×Int)}{r:Bool}(h:zIZ x1=some r):zH qf 220 [.ag [Ti x1.1,Ti x1.2]] (Bo r) []:=CtU (zTC x1) 2 (fun r=>Bo r) Tryz.func220 rfl rfl h
def zVM(x1:(Int×Int)):=fC zSJ (zIZ x1) fun _=>zT5
theorem zUd:CfW qf 158:=cfW Tryz.func158
noncomputable def zVZ(d1:Int):T qf (((Int×Int)×Bool)):=
 .op1 (zMk d1) fun y2=>
 .op1 (zS8 y2.1) fun y3=>
 .n0 (bld pl61 bt61)<|
 .loopS (fun n X_2=>zFz y3 n X_2.1 X_2.2.1 X_2.2.2.1 X_2.2.2.2.1 X_2.2.2.2.2.1 X_2.2.2.2.2.2.1 X_2.2.2.2.2.2.2) ((y3.1.1,y3.1.2.1,y3.1.2.2,1,0,0,1)) (mb 74 212) [56,48,32,16] (fun s X_2 γ=>s.pc (mb 74 212) [56,48,32,16] [] [(56,.box [Ti X_2.1,Ti X_2.2.1,Ti X_2.2.2.1]),(48,.box [Ti X_2.2.2.2.1,Ti X_2.2.2.2.2.1,Ti X_2.2.2.2.2.2.1,Ti X_2.2.2.2.2.2.2])]) (fun X_2=>
 .op1 (zNg ((X_2.1,X_2.2.1,X_2.2.2.1))) fun y13=>
 .draw 6 []<|.op1 (zIA ((X_2.1,X_2.2.1,X_2.2.2.1)) y13) fun y14=>.op1 (zCc ((X_2.2.2.2.1,X_2.2.2.2.2.1,X_2.2.2.2.2.2.1,X_2.2.2.2.2.2.2)) y13) fun y15=>
 .dn<|.joinC (.op1 (zCO y15.1) fun y16=>.seqT (.cond (ltI 1000000000 y16) (.ret true) (.op1 (zCO y15.2.1) fun y18=>.ret (ltI 1000000000 y18))) fun b19=>.seqT (.cond b19 (.ret true) (.op1 (zCO y15.2.2.1) fun y21=>.ret (ltI 1000000000 y21))) fun b22=>.seqT (.cond b22 (.ret true) (.op1 (zCO y15.2.2.2) fun y24=>.ret (ltI 1000000000 y24))) fun b25=>.ret (y16,b19,b22,b25)) (mb 74 4503599627370708) [56,48,32,16] (fun s q_1 γ=>s.pc (mb 74 4503599627370708) [56,48,32,16] [(52,Bo q_1.2.2.2)] []) fun q_1=>
 .cond q_1.2.2.2 (.n0 (bld pl97 bt97)<|
 .ret (.early (((0,0),false))))<|.n0 (eqg3 zWo)<|
 .lt (((y14.1==y3.1.1)&&((y14.2.1==y3.1.2.1)&&(y14.2.2==y3.1.2.2)))) fun t27=>.cond t27 (.ret (.done ((y15.1,y15.2.1,y15.2.2.1,y15.2.2.2))))<|
 .ret (.again ((y14.1,y14.2.1,y14.2.2,y15.1,y15.2.1,y15.2.2.1,y15.2.2.2)))) (mb 74 84) [48,32,16] (fun s o12 γ=>s.pc (mb 74 84) [48,32,16] [] [(48,.box [Ti o12.1,Ti o12.2.1,Ti o12.2.2.1,Ti o12.2.2.2])]) (fun r=>r) fun o12=>
 .draw 14 []<|.op1 (zCO (w64 (o12.1+o12.2.2.2))) fun y29=>.op0 (quoF .i64 o12.2.2.1 y3.1.1) fun z30=>.op1 (zCO (w64 (Int.tdiv o12.2.2.1 y3.1.1))) fun y31=>.n0 (bld pl97 bt97)<|
 .draw 3 []<|.op1 (zVM ((y29,y31))) fun y32=>
 .ret (((y29,y31),y32))
theorem zVk{d1:Int}{r:((Int×Int)×Bool)}(h:zJM d1=some r):zH qf 158 [I d1] (.tc (.ag [Ti r.1.1,Ti r.1.2]) (.tc (Bo r.2) .tn)) []:=CtT (zVZ d1) (fun r=>(.tc (.ag [Ti r.1.1,Ti r.1.2]) (.tc (Bo r.2) .tn),[])) (rs:=[.w 2 2,.t 3]) (vs:=[.cell 2 97,.tmp 3]) Tryz.func158 rfl rfl (.cons ⟨rfl,wd97⟩ (.cons rfl FitsL.nil)) h
def zWU(d1:Int):=fC zUd (zJM d1) fun _=>zVk
theorem zQy:CfW qf 78:=cfW Tryz.func78
noncomputable def zRd(d1:Int):T qf (((Int×Int)×Bool)):=
 .op1 (zNh d1) fun y2=>
 .cond (!y2) (.n0 (bld pl97 bt97)<|
 .ret (((0,0),false)))<|.op1 (zWU d1) fun y4=>
 .cond (!y4.2) (.n0 (bld pl97 bt97)<|
 .ret (((0,0),false)))<|
 .ret ((y4.1,true))
theorem zRx{d1:Int}{r:((Int×Int)×Bool)}(h:zCT d1=some r):zH qf 78 [I d1] (.tc (.ag [Ti r.1.1,Ti r.1.2]) (.tc (Bo r.2) .tn)) []:=CtT (zRd d1) (fun r=>(.tc (.ag [Ti r.1.1,Ti r.1.2]) (.tc (Bo r.2) .tn),[])) (rs:=[.w 2 2,.t 3]) (vs:=[.cell 2 97,.tmp 3]) Tryz.func78 rfl rfl (.cons ⟨rfl,wd97⟩ (.cons rfl FitsL.nil)) h
def zS9(d1:Int):=fC zQy (zCT d1) fun _=>zRx
theorem zKJ:CfW qf 27:=cfW Tryz.func27
noncomputable def zK3(d1:Int):T qf ((qd×Bool)):=
 .op1 (zS9 d1) fun y2=>
 .dn<|.joinC (.seqT (.cond (!y2.2) (.ret true) (.op1 (zCC y2.1.1) fun y4=>.ret (!y4))) fun b5=>.ret b5) (mb 29 262161) [32] (fun s q_1 γ=>s.pc (mb 29 262161) [32] [(18,Bo q_1)] []) fun q_1=>
 .cond q_1 (
 .ret (((⟨#[]⟩:qd),false)))<|.draw 12 []<|.op1 (zA0 d1) fun y7=>.op1 (zA0 y2.1.1) fun y8=>.op1 (zA0 y2.1.2) fun y9=>.n1 bsl<|.op1 (zDR ([(⟨#[115,111,108,117,116,105,111,110]⟩:qd),y7,y8,y9])) fun y10=>
 .ret ((y10,true))
theorem zKd{d1:Int}{r:(qd×Bool)}(h:qY d1=some r):zH qf 27 [I d1] (.tc (.c (.v (.string r.1))) (.tc (Bo r.2) .tn)) []:=CtT (zK3 d1) (fun r=>(.tc (.c (.v (.string r.1))) (.tc (Bo r.2) .tn),[])) (rs:=[.t 2,.t 3]) (vs:=[.tmp 2,.tmp 3]) Tryz.func27 rfl rfl (.cons rfl (.cons rfl FitsL.nil)) h
def zLL(d1:Int):=fC zKJ (qY d1) fun _=>zKd
theorem zSS:CfW qf 107:=cfW Tryz.func107
theorem zTe{kind1:qd}{r:qd}(h:zEx kind1=some r):zH qf 107 [.c (.v (.string kind1))] (.c (.v (.string r))) []:=by
 refine CtW [2] Tryz.func107 rfl rfl 9 ?_
 unfold zEx at h;refine VE ?_
 obtain⟨l2,hl2,h⟩:=zA h;have hl2:=zD hl2;refine z7c (fun mb4=>⟨.c (.v (.string kind1))::.bot::.bot::.c (.v (.map (some mb4)))::bt 5 [],[(32,.mp mb4 (l2.map kv170))]⟩) (mb 9 9) [32] ?_ ?_
 ·refine z5z rfl rfl rfl fun mb4=>?_
  refine zB2 rfl (zLH (κ:=qd) (ν:=qd) (ek:=zHi) (ev:=zLR) (z:=qe) (m:=([]:List (qd×qd))) (a:=(⟨#[101,113,117,105,118,97,108,101,110,116]⟩:qd)) (u:=(⟨#[102,102,109]⟩:qd)) (id:=32) (b:=mb4) zNb (.inr rfl) rfl kk kk kk kk) ?_
  refine zB2 rfl (zLH (κ:=qd) (ν:=qd) (ek:=zHi) (ev:=zLR) (z:=qe) (m:=mPut ((⟨#[101,113,117,105,118,97,108,101,110,116]⟩:qd)) ((⟨#[102,102,109]⟩:qd)) (([]:List (qd×qd)))) (a:=(⟨#[100,105,102,102,101,114,101,110,116]⟩:qd)) (u:=(⟨#[102,109,102,102,109,102]⟩:qd)) (id:=32) (b:=mb4) zNb (.inr rfl) rfl kk kk kk kk) ?_
  refine zB2 rfl (zLH (κ:=qd) (ν:=qd) (ek:=zHi) (ev:=zLR) (z:=qe) (m:=mPut ((⟨#[100,105,102,102,101,114,101,110,116]⟩:qd)) ((⟨#[102,109,102,102,109,102]⟩:qd)) (mPut ((⟨#[101,113,117,105,118,97,108,101,110,116]⟩:qd)) ((⟨#[102,102,109]⟩:qd)) (([]:List (qd×qd))))) (a:=(⟨#[118,97,108,117,101]⟩:qd)) (u:=(⟨#[102,110,110,110]⟩:qd)) (id:=32) (b:=mb4) zNb (.inr rfl) rfl kk kk kk kk) ?_
  refine zB2 rfl (zLH (κ:=qd) (ν:=qd) (ek:=zHi) (ev:=zLR) (z:=qe) (m:=mPut ((⟨#[118,97,108,117,101]⟩:qd)) ((⟨#[102,110,110,110]⟩:qd)) (mPut ((⟨#[100,105,102,102,101,114,101,110,116]⟩:qd)) ((⟨#[102,109,102,102,109,102]⟩:qd)) (mPut ((⟨#[101,113,117,105,118,97,108,101,110,116]⟩:qd)) ((⟨#[102,102,109]⟩:qd)) (([]:List (qd×qd)))))) (a:=(⟨#[111,98,115,116,114,117,99,116,105,111,110]⟩:qd)) (u:=(⟨#[110,110,110]⟩:qd)) (id:=32) (b:=mb4) zNb (.inr rfl) rfl kk kk kk kk) ?_
  refine zB2 rfl (zLH (κ:=qd) (ν:=qd) (ek:=zHi) (ev:=zLR) (z:=qe) (m:=mPut ((⟨#[111,98,115,116,114,117,99,116,105,111,110]⟩:qd)) ((⟨#[110,110,110]⟩:qd)) (mPut ((⟨#[118,97,108,117,101]⟩:qd)) ((⟨#[102,110,110,110]⟩:qd)) (mPut ((⟨#[100,105,102,102,101,114,101,110,116]⟩:qd)) ((⟨#[102,109,102,102,109,102]⟩:qd)) (mPut ((⟨#[101,113,117,105,118,97,108,101,110,116]⟩:qd)) ((⟨#[102,102,109]⟩:qd)) (([]:List (qd×qd))))))) (a:=(⟨#[99,111,109,112,111,115,105,116,101]⟩:qd)) (u:=(⟨#[102,102,102,110,110,110,110,110,110,110,110]⟩:qd)) (id:=32) (b:=mb4) zNb (.inr rfl) rfl kk kk kk kk) ?_
  refine zB2 rfl (zLH (κ:=qd) (ν:=qd) (ek:=zHi) (ev:=zLR) (z:=qe) (m:=mPut ((⟨#[99,111,109,112,111,115,105,116,101]⟩:qd)) ((⟨#[102,102,102,110,110,110,110,110,110,110,110]⟩:qd)) (mPut ((⟨#[111,98,115,116,114,117,99,116,105,111,110]⟩:qd)) ((⟨#[110,110,110]⟩:qd)) (mPut ((⟨#[118,97,108,117,101]⟩:qd)) ((⟨#[102,110,110,110]⟩:qd)) (mPut ((⟨#[100,105,102,102,101,114,101,110,116]⟩:qd)) ((⟨#[102,109,102,102,109,102]⟩:qd)) (mPut ((⟨#[101,113,117,105,118,97,108,101,110,116]⟩:qd)) ((⟨#[102,102,109]⟩:qd)) (([]:List (qd×qd)))))))) (a:=(⟨#[111,114,100,101,114]⟩:qd)) (u:=(⟨#[102,110]⟩:qd)) (id:=32) (b:=mb4) zNb (.inr rfl) rfl kk kk kk kk) ?_
  refine zB2 rfl (zLH (κ:=qd) (ν:=qd) (ek:=zHi) (ev:=zLR) (z:=qe) (m:=mPut ((⟨#[111,114,100,101,114]⟩:qd)) ((⟨#[102,110]⟩:qd)) (mPut ((⟨#[99,111,109,112,111,115,105,116,101]⟩:qd)) ((⟨#[102,102,102,110,110,110,110,110,110,110,110]⟩:qd)) (mPut ((⟨#[111,98,115,116,114,117,99,116,105,111,110]⟩:qd)) ((⟨#[110,110,110]⟩:qd)) (mPut ((⟨#[118,97,108,117,101]⟩:qd)) ((⟨#[102,110,110,110]⟩:qd)) (mPut ((⟨#[100,105,102,102,101,114,101,110,116]⟩:qd)) ((⟨#[102,109,102,102,109,102]⟩:qd)) (mPut ((⟨#[101,113,117,105,118,97,108,101,110,116]⟩:qd)) ((⟨#[102,102,109]⟩:qd)) (([]:List (qd×qd))))))))) (a:=(⟨#[114,111,111,116]⟩:qd)) (u:=(⟨#[110,110,110]⟩:qd)) (id:=32) (b:=mb4) zNb (.inr rfl) rfl kk kk kk kk) ?_
  refine zB2 rfl (zLH (κ:=qd) (ν:=qd) (ek:=zHi) (ev:=zLR) (z:=qe) (m:=mPut ((⟨#[114,111,111,116]⟩:qd)) ((⟨#[110,110,110]⟩:qd)) (mPut ((⟨#[111,114,100,101,114]⟩:qd)) ((⟨#[102,110]⟩:qd)) (mPut ((⟨#[99,111,109,112,111,115,105,116,101]⟩:qd)) ((⟨#[102,102,102,110,110,110,110,110,110,110,110]⟩:qd)) (mPut ((⟨#[111,98,115,116,114,117,99,116,105,111,110]⟩:qd)) ((⟨#[110,110,110]⟩:qd)) (mPut ((⟨#[118,97,108,117,101]⟩:qd)) ((⟨#[102,110,110,110]⟩:qd)) (mPut ((⟨#[100,105,102,102,101,114,101,110,116]⟩:qd)) ((⟨#[102,109,102,102,109,102]⟩:qd)) (mPut ((⟨#[101,113,117,105,118,97,108,101,110,116]⟩:qd)) ((⟨#[102,102,109]⟩:qd)) (([]:List (qd×qd)))))))))) (a:=(⟨#[97,117,116,111,109,111,114,112,104]⟩:qd)) (u:=(⟨#[102,109]⟩:qd)) (id:=32) (b:=mb4) zNb (.inr rfl) rfl kk kk kk kk) ?_
  refine zB2 rfl (zLH (κ:=qd) (ν:=qd) (ek:=zHi) (ev:=zLR) (z:=qe) (m:=mPut ((⟨#[97,117,116,111,109,111,114,112,104]⟩:qd)) ((⟨#[102,109]⟩:qd)) (mPut ((⟨#[114,111,111,116]⟩:qd)) ((⟨#[110,110,110]⟩:qd)) (mPut ((⟨#[111,114,100,101,114]⟩:qd)) ((⟨#[102,110]⟩:qd)) (mPut ((⟨#[99,111,109,112,111,115,105,116,101]⟩:qd)) ((⟨#[102,102,102,110,110,110,110,110,110,110,110]⟩:qd)) (mPut ((⟨#[111,98,115,116,114,117,99,116,105,111,110]⟩:qd)) ((⟨#[110,110,110]⟩:qd)) (mPut ((⟨#[118,97,108,117,101]⟩:qd)) ((⟨#[102,110,110,110]⟩:qd)) (mPut ((⟨#[100,105,102,102,101,114,101,110,116]⟩:qd)) ((⟨#[102,109,102,102,109,102]⟩:qd)) (mPut ((⟨#[101,113,117,105,118,97,108,101,110,116]⟩:qd)) ((⟨#[102,102,109]⟩:qd)) (([]:List (qd×qd))))))))))) (a:=(⟨#[115,111,108,117,116,105,111,110]⟩:qd)) (u:=(⟨#[110,110,110]⟩:qd)) (id:=32) (b:=mb4) zNb (.inr rfl) rfl kk kk kk kk) ?_
  refine XR 2 ?_
  refine qN ?_
  subst hl2;exact⟨mb4,by kernel_rfl⟩
 intro mb4;refine VS ?_
 refine YR 2 ?_
 refine L0 rfl rfl (z5g (κ:=qd) (ν:=qd) (ek:=zHi) (ev:=zLR) (z:=qe) (m:=l2) (a:=kind1) (id:=32) (b:=mb4) zNb rfl kk kk kk) ?_
 refine YF ?_
 cases h;exact zBW VT
theorem zO0:CfW qf 190:=cfW Tryz.func190
theorem zPM{vs1:qd}{r:List Int}(h:zAz vs1=some r):zH qf 190 [.c (.v (.string vs1))] (.ow 0) [(0,.arr 3 1 (r.map c3))]:=by
 refine CtW [2] Tryz.func190 rfl rfl 30 ?_
 unfold zAz at h;refine VS ?_
 refine L1 rfl rfl (zRK (e:=3) 1 (by decide) (.inl rfl)) ?_
 refine YF ?_
 refine VS ?_
 refine L1 rfl rfl (zDD Tryz.underlying50 sz3 (by decide) rfl rfl) ?_
 refine YF ?_
 refine zV ?_
 obtain⟨y2,hy2,h⟩:=zA h;refine VS ?_
 refine YK 1 (zJG hy2) zLe ?_
 refine L0 rfl rfl (zHy (c:=c9) (xs:=y2) Tryz.underlying45 rfl kk) ?_
 refine YF ?_
 obtain⟨qo6,hLo6,hko6⟩:=zA h;refine z6A (q:=qo6) (S:=fun o6=>⟨bt 3 (.ow 64::bt 26 []),[(64,.arr 3 1 (o6.map c3))]⟩) (mb 30 8) [64] ?_ ?_
 ·refine qA (zMe (fun n s=>∃(t3:Int) (l4:List Int),s.keep (mb 30 7176) [80,64]=(⟨bt 3 (.ow 64::bt 6 (.ow 80::I ((y2.length:Int))::I t3::bt 17 [])),[(80,.arr 9 1 (y2.map c9)),(64,.arr 3 1 (l4.map c3))]⟩:St)∧q8 y2 n t3 l4=some qo6) FU ⟨_,_,kk,hLo6⟩ ?_);clear hLo6;rintro n s ⟨t3,l4,hs,h⟩;refine jV _ _ hs ?_
  clear hs;cases n with
  |zero=>cases h
  |succ n=>
   rw[q8]at h;refine VE ?_
   refine zV ?_
   refine VC h (fun h=>?_) (fun h=>?_)
   ·refine qV ?_
    show V _ _ _ _;refine zV ?_
    refine qA ?_
    obtain⟨e8,he8,h⟩:=zA h;obtain⟨e9,he9,h⟩:=zA h;refine VS ?_
    refine L0 rfl rfl (zKR (c:=c9) (xs:=y2) (v:=e8) (id:=80) (T:=9) (sz:=1) (n:=t3) Tryz.underlying45 sz9 rfl kk kk kk he8) ?_
    refine L0 rfl rfl (zRL (c:=c9) (xs:=y2) (v:=e9) (id:=80) (sz:=1) (T:=9) (off:=0) (n:=t3) (d:=.v (.string e9)) (ds:=[]) sc9 rfl kk kk he9 kk) ?_
    refine YF ?_
    obtain⟨y10,hy10,h⟩:=zA h;refine VS ?_
    refine YK 1 (zMC hy10) zLU ?_
    refine YF ?_
    refine zV ?_
    refine VS ?_
    refine YR 1 ?_
    refine L0 rfl rfl (z7X (b:=y10.2) Tryz.underlying163 rfl kk) ?_
    refine YF ?_
    refine VC h (fun h=>?_) (fun h=>?_)
    ·refine VS ?_
     refine L1 rfl rfl (zDD Tryz.underlying50 sz3 (by decide) rfl rfl) ?_
     refine YF ?_
     refine zBW ?_
     obtain rfl:=zD h;have h:=hko6;obtain rfl:=zD h;exact VT
    ·refine qV ?_
     show V _ _ _ _;obtain⟨u12,hu12,h⟩:=zA h;refine q7 ?_
     refine YR 2 ?_
     refine L1 rfl rfl (zDW (z:=zv3) (els:=[y10.1].map c3) Tryz.underlying50 iz3 rfl (by decide) rfl kk rfl (by simp[c3]) (by decide) (by decide)) ?_
     refine zB2 rfl (zEI (c:=c3) (xs:=l4) (ys:=[y10.1]) (id:=64) (z:=zv3) rfl rfl Tryz.underlying50 izb3 rfl kk kk kk (fun _=>rfl) (by simp) (zDd hu12) (by decide)) ?_
     refine YF ?_
     show V _ _ _ _;obtain⟨t13,ht13,h⟩:=zEL h;refine zPu (mb 30 7176) [80,64] (s1:=⟨bt 3 (.ow 64::bt 6 (.ow 80::I ((y2.length:Int))::I t13::bt 17 [])),[(80,.arr 9 1 (y2.map c9)),(64,.arr 3 1 ((l4++([y10.1])).map c3))]⟩) ?_ ?_
     ·refine XR 2 ?_
      refine qN ?_
      subst ht13
      kernel_rfl
     exact⟨n,zi n,_,_,kk,h⟩
   ·refine zFU ?_
    obtain rfl:=zD h;exact⟨_,rfl,kk⟩
 rintro o6 rfl;have h:=hko6;clear hko6;show V _ _ _ _;refine VE ?_
 cases h;exact zBW VT
def zIx(vs1:qd):=fC zO0 (zAz vs1) fun _=>zPM
theorem zBm:CfW qf 77:=cfW Tryz.func77
noncomputable def zOu(list1:List Int):T qf Bool:=
 .n0 (lenM ct3 list1)<|
 .loopS (fun n X_34=>zCi list1 n X_34) 0 (mb 18 224) [] (fun s X_34 γ=>s.pc (mb 18 224) [] [(7,I X_34)] []) (fun X_34=>
 .cond (ltI X_34 ((list1.length:Int))) (.op0 (idxM ct3 list1 X_34) fun e6=>
 .joinC (.selB (ltI e6 (-1000000)) false [] fun w_32=>.ret w_32) (mb 18 65760) [] (fun s q_33 γ=>s.pc (mb 18 65760) [] [(16,Bo (bif q_33 then true else (ltI 1000000 e6)))] []) fun q_33=>
 .cond (bif q_33 then true else (ltI 1000000 e6)) (
 .ret (.early false))<|
 .frc (w64 (X_34+1)) fun t9=>.ret (.again t9))<|.ret (.done (()))) (mb 18 0) [] (fun s o4 γ=>s.pc (mb 18 0) [] [] []) (fun r=>r) fun o4=>
 .ret true
theorem zCD{list1:List Int}{r:Bool}(h:qS list1=some r):zH qf 77 [.c (.sl (list1.map c3))] (Bo r) []:=CtU (zOu list1) 2 (fun r=>Bo r) Tryz.func77 rfl rfl h
def zEp(list1:List Int):=fCs zBm (qS list1) (fun _=>zCD) fun _=>rfl
theorem zUu:CfW qf 119:=cfW Tryz.func119
noncomputable def zVh(f1:τF):T qf Bool:=
 .n1 bsl<|.op1 (zEp ([f1.1,f1.2.1,f1.2.2])) fun y2=>
 .ret y2
theorem zWB{f1:τF}{r:Bool}(h:zEg f1=some r):zH qf 119 [.ag [Ti f1.1,Ti f1.2.1,Ti f1.2.2]] (Bo r) []:=CtU (zVh f1) 2 (fun r=>Bo r) Tryz.func119 rfl rfl h
def zNi(f1:τF):=fC zUu (zEg f1) fun _=>zWB
theorem zRE:CfW qf 43:=cfW Tryz.func43
noncomputable def zRi(f1:τF):T qf qd:=
 .draw 16 []<|.op1 (jC f1.1) fun y2=>.op0 (cat ((⟨#[40]⟩:qd)) y2) fun u3=>.op0 (cat (((⟨#[40]⟩:qd))++y2) ((⟨#[44]⟩:qd))) fun u4=>.op1 (jC f1.2.1) fun y5=>.op0 (cat ((((⟨#[40]⟩:qd))++y2)++((⟨#[44]⟩:qd))) y5) fun u6=>.op0 (cat (((((⟨#[40]⟩:qd))++y2)++((⟨#[44]⟩:qd)))++y5) ((⟨#[44]⟩:qd))) fun u7=>.op1 (jC f1.2.2) fun y8=>.op0 (cat ((((((⟨#[40]⟩:qd))++y2)++((⟨#[44]⟩:qd)))++y5)++((⟨#[44]⟩:qd))) y8) fun u9=>.op0 (cat (((((((⟨#[40]⟩:qd))++y2)++((⟨#[44]⟩:qd)))++y5)++((⟨#[44]⟩:qd)))++y8) ((⟨#[41]⟩:qd))) fun u10=>
 .ret ((((((((⟨#[40]⟩:qd))++y2)++((⟨#[44]⟩:qd)))++y5)++((⟨#[44]⟩:qd)))++y8)++((⟨#[41]⟩:qd)))
theorem zSD{f1:τF}{r:qd}(h:q9 f1=some r):zH qf 43 [.ag [Ti f1.1,Ti f1.2.1,Ti f1.2.2]] (.c (.v (.string r))) []:=CtU (zRi f1) 2 (fun r=>.c (.v (.string r))) Tryz.func43 rfl rfl h
def zAW(f1:τF):=fC zRE (q9 f1) fun _=>zSD
theorem zPo:CfW qf 108:=cfW Tryz.func108
noncomputable def zQN(vs1:qd):T qf ((τF×Bool)):=
 .op1 (zIx vs1) fun y2=>
 .n0 (lenM ct3 y2)<|
 .cond (!eqI ((y2.length:Int)) 3) (.n0 (bld pl25 bt25)<|
 .ret (((0,0,0),false)))<|.draw 11 []<|.op0 (zDI ct3 y2 0) fun e4=>.op0 (ldo ct3 y2 0) fun e5=>.op0 (zDI ct3 y2 1) fun e6=>.op0 (ldo ct3 y2 1) fun e7=>.op0 (zDI ct3 y2 2) fun e8=>.op0 (ldo ct3 y2 2) fun e9=>.n0 (bld pl25 bt25)<|
 .dn<|.joinC (.op1 (zNi ((e5,e7,e9))) fun y10=>.seqT (.cond (!y10) (.ret true) (.op1 (zAW ((e5,e7,e9))) fun y12=>.ret (!(y12.toList==vs1.toList)))) fun b13=>.ret (y10,b13)) (mb 33 1073741860) [40,16] (fun s q_1 γ=>s.pc (mb 33 1073741860) [40,16] [(30,Bo q_1.2)] []) fun q_1=>
 .cond q_1.2 (.n0 (bld pl25 bt25)<|
 .ret (((0,0,0),false)))<|
 .ret (((e5,e7,e9),true))
theorem zQ0{vs1:qd}{r:(τF×Bool)}(h:zBs vs1=some r):zH qf 108 [.c (.v (.string vs1))] (.tc (.ag [Ti r.1.1,Ti r.1.2.1,Ti r.1.2.2]) (.tc (Bo r.2) .tn)) []:=CtT (zQN vs1) (fun r=>(.tc (.ag [Ti r.1.1,Ti r.1.2.1,Ti r.1.2.2]) (.tc (Bo r.2) .tn),[])) (rs:=[.w 2 3,.t 3]) (vs:=[.cell 2 25,.tmp 3]) Tryz.func108 rfl rfl (.cons ⟨rfl,wd25⟩ (.cons rfl FitsL.nil)) h
theorem zKO:CfW qf 94:=cfW Tryz.func94
noncomputable def zRm(vm1:τM):T qf Bool:=
 .n1 bsl<|.op1 (zEp ([vm1.1,vm1.2.1,vm1.2.2.1,vm1.2.2.2])) fun y2=>
 .ret y2
theorem zLQ{vm1:τM}{r:Bool}(h:zY vm1=some r):zH qf 94 [.ag [Ti vm1.1,Ti vm1.2.1,Ti vm1.2.2.1,Ti vm1.2.2.2]] (Bo r) []:=CtU (zRm vm1) 2 (fun r=>Bo r) Tryz.func94 rfl rfl h
def zHf(vm1:τM):=fC zKO (zY vm1) fun _=>zLQ
theorem zOX:CfW qf 44:=cfW Tryz.func44
noncomputable def zOp(vm1:τM):T qf qd:=
 .draw 21 []<|.op1 (jC vm1.1) fun y2=>.op0 (cat ((⟨#[91]⟩:qd)) y2) fun u3=>.op0 (cat (((⟨#[91]⟩:qd))++y2) ((⟨#[44]⟩:qd))) fun u4=>.op1 (jC vm1.2.1) fun y5=>.op0 (cat ((((⟨#[91]⟩:qd))++y2)++((⟨#[44]⟩:qd))) y5) fun u6=>.op0 (cat (((((⟨#[91]⟩:qd))++y2)++((⟨#[44]⟩:qd)))++y5) ((⟨#[59]⟩:qd))) fun u7=>.op1 (jC vm1.2.2.1) fun y8=>.op0 (cat ((((((⟨#[91]⟩:qd))++y2)++((⟨#[44]⟩:qd)))++y5)++((⟨#[59]⟩:qd))) y8) fun u9=>.op0 (cat (((((((⟨#[91]⟩:qd))++y2)++((⟨#[44]⟩:qd)))++y5)++((⟨#[59]⟩:qd)))++y8) ((⟨#[44]⟩:qd))) fun u10=>.op1 (jC vm1.2.2.2) fun y11=>.op0 (cat ((((((((⟨#[91]⟩:qd))++y2)++((⟨#[44]⟩:qd)))++y5)++((⟨#[59]⟩:qd)))++y8)++((⟨#[44]⟩:qd))) y11) fun u12=>.op0 (cat (((((((((⟨#[91]⟩:qd))++y2)++((⟨#[44]⟩:qd)))++y5)++((⟨#[59]⟩:qd)))++y8)++((⟨#[44]⟩:qd)))++y11) ((⟨#[93]⟩:qd))) fun u13=>
 .ret ((((((((((⟨#[91]⟩:qd))++y2)++((⟨#[44]⟩:qd)))++y5)++((⟨#[59]⟩:qd)))++y8)++((⟨#[44]⟩:qd)))++y11)++((⟨#[93]⟩:qd)))
theorem zPJ{vm1:τM}{r:qd}(h:zAy vm1=some r):zH qf 44 [.ag [Ti vm1.1,Ti vm1.2.1,Ti vm1.2.2.1,Ti vm1.2.2.2]] (.c (.v (.string r))) []:=CtU (zOp vm1) 2 (fun r=>.c (.v (.string r))) Tryz.func44 rfl rfl h
def zDv(vm1:τM):=fC zOX (zAy vm1) fun _=>zPJ
theorem zN5:CfW qf 109:=cfW Tryz.func109
noncomputable def zNs(vs1:qd):T qf ((τM×Bool)):=
 .op1 (zIx vs1) fun y2=>
 .n0 (lenM ct3 y2)<|
 .cond (!eqI ((y2.length:Int)) 4) (.n0 (bld pl61 bt61)<|
 .ret (((0,0,0,0),false)))<|.draw 14 []<|.op0 (zDI ct3 y2 0) fun e4=>.op0 (ldo ct3 y2 0) fun e5=>.op0 (zDI ct3 y2 1) fun e6=>.op0 (ldo ct3 y2 1) fun e7=>.op0 (zDI ct3 y2 2) fun e8=>.op0 (ldo ct3 y2 2) fun e9=>.op0 (zDI ct3 y2 3) fun e10=>.op0 (ldo ct3 y2 3) fun e11=>.n0 (bld pl61 bt61)<|
 .dn<|.joinC (.op1 (zHf ((e5,e7,e9,e11))) fun y12=>.seqT (.cond (!y12) (.ret true) (.op1 (zDv ((e5,e7,e9,e11))) fun y14=>.ret (!(y14.toList==vs1.toList)))) fun b15=>.ret (y12,b15)) (mb 36 8589934628) [40,16] (fun s q_1 γ=>s.pc (mb 36 8589934628) [40,16] [(33,Bo q_1.2)] []) fun q_1=>
 .cond q_1.2 (.n0 (bld pl61 bt61)<|
 .ret (((0,0,0,0),false)))<|
 .ret (((e5,e7,e9,e11),true))
theorem zOF{vs1:qd}{r:(τM×Bool)}(h:zBT vs1=some r):zH qf 109 [.c (.v (.string vs1))] (.tc (.ag [Ti r.1.1,Ti r.1.2.1,Ti r.1.2.2.1,Ti r.1.2.2.2]) (.tc (Bo r.2) .tn)) []:=CtT (zNs vs1) (fun r=>(.tc (.ag [Ti r.1.1,Ti r.1.2.1,Ti r.1.2.2.1,Ti r.1.2.2.2]) (.tc (Bo r.2) .tn),[])) (rs:=[.w 2 4,.t 3]) (vs:=[.cell 2 61,.tmp 3]) Tryz.func109 rfl rfl (.cons ⟨rfl,wd61⟩ (.cons rfl FitsL.nil)) h
theorem zRC:CfW qf 110:=cfW Tryz.func110
theorem zSB{w1:qd}{r:(Int×Bool)}(h:zDB w1=some r):zH qf 110 [.c (.v (.string w1))] (.tc (I r.1) (.tc (Bo r.2) .tn)) []:=by
 refine CtW [2,3] Tryz.func110 rfl rfl 25 ?_
 unfold zDB at h;refine VE ?_
 obtain⟨y2,hy2,h⟩:=zA h;refine VS ?_
 refine YK 1 (zMC hy2) zLU ?_
 refine YF ?_
 obtain⟨b5,hb5,h⟩:=zA h;obtain⟨b8,hb8,h⟩:=zA h;refine zDL (mb 25 12) [] (s1:=⟨.bot::.bot::I y2.1::Bo b8::bt 21 [],[]⟩) ?_ ?_
 ·refine YR 2 ?_
  refine L0 rfl rfl (z7Y (b:=y2.2) Tryz.underlying163 rfl kk) ?_
  refine YR 1 ?_
  refine zBB y2.2 (fun hc3=>?_) (fun hc3=>?_)
  ·have hb5:=zCW hb5 hc3;obtain⟨y4,hy4,hb5⟩:=zA hb5;have hb5:=zD hb5;refine YQ hc3 ?_
   refine YR 1 ?_
   refine YT (zE1 rfl (zDW (z:=zv3) (els:=[y2.1].map c3) Tryz.underlying50 iz3 rfl (by decide) rfl kk rfl (by simp[c3]) (by decide) (by decide))) ?_
   refine YT (zE1 rfl (zVE (zCD hy4) zBm rfl kk rfl rfl)) ?_
   refine YR 2 ?_
   refine zBB b5 (fun hc6=>?_) (fun hc6=>?_)
   ·have hb8:=zCW hb8 hc6;obtain⟨y7,hy7,hb8⟩:=zA hb8;have hb8:=zD hb8;refine YQ hc6 ?_ (by rw[←hb5];(try rw[←hb8]);(try rw[hc3]);kernel_rfl)
    refine YK 1 (zMB hy7) zLT ?_
    exact YE (by rw[←hb8];(try rw[hc3]);(try rw[hc6]);kernel_rfl)
   ·have hb8:=zD (jB hb8 hc6);refine YQ hc6 ?_ (by rw[←hb5];(try rw[←hb8]);(try rw[hc3]);kernel_rfl)
    exact YE (by rw[←hb8];(try rw[hc3]);(try rw[hc6]);kernel_rfl)
  ·have hb5:=zD (jB hb5 hc3);refine YQ hc3 ?_
   refine YR 5 ?_
   subst hb5;have hc6:false=false:=rfl;have hb8:=zD (jB hb8 hc6);exact YE (by rw[←hb8];(try rw[hc3]);kernel_rfl)
 cases h;exact zBW VT
theorem zSU:CfW qf 52:=cfW Tryz.func52
theorem zTg{vs1:qd}{r:((qd×(List τF)×(List τM)×(List Int))×Bool)}(h:zEG vs1=some r):zH qf 52 [.c (.v (.string vs1))] (.tc (.ag [.v (.string r.1.1),.sl (r.1.2.1.map c25),.sl (r.1.2.2.1.map c61),.sl (r.1.2.2.2.map c3)]) (.tc (Bo r.2) .tn)) []:=by
 refine zEA (rs:=[.w 2 4,.t 3]) (vs:=[.cell 2 75,.tmp 3]) Tryz.func52 rfl rfl (.cons ⟨rfl,wd75⟩ (.cons rfl FitsL.nil)) (by decide) 92 rfl ?_
 unfold zEG at h;refine VE ?_
 obtain⟨y2,hy2,h⟩:=zA h;refine VS ?_
 refine YK 1 (zRn hy2) zQo ?_
 refine YF ?_
 obtain⟨e3,he3,h⟩:=zA h;obtain⟨e4,he4,h⟩:=zA h;refine VS ?_
 refine YR 1 ?_
 refine L0 rfl rfl (zKR (c:=c9) (xs:=y2) (v:=e3) (id:=136) (T:=9) (sz:=1) (n:=0) Tryz.underlying45 sz9 rfl kk kk kk he3) ?_
 refine L0 rfl rfl (zRL (c:=c9) (xs:=y2) (v:=e4) (id:=136) (sz:=1) (T:=9) (off:=0) (n:=0) (d:=.v (.string e4)) (ds:=[]) sc9 rfl kk kk he4 kk) ?_
 refine L0 rfl rfl (zBj (cs:=[.v (.string e4),.v (.slice none 0 0),.v (.slice none 0 0),.v (.slice none 0 0)]) pl75 bt75 rfl rfl kk) ?_
 refine YF ?_
 obtain⟨y5,hy5,h⟩:=zA h;refine VS ?_
 refine YK 2 (zTe hy5) zSS ?_
 refine YF ?_
 refine zV ?_
 obtain⟨t7,ht7,h⟩:=zA h;have ht7:=zD ht7;refine zDL (mb 92 17179869300) [40,136,16] (s1:=⟨.bot::.bot::.pt 16 0::.bot::.ow 136::.pt 40 0::.c (.v (.string y5))::bt 27 (Bo t7::bt 57 []),[(40,.box [.v (.string e4),.v (.slice none 0 0),.v (.slice none 0 0),.v (.slice none 0 0)]),(136,.arr 9 1 (y2.map c9)),(16,.box [.v (.string qe),.v (.slice none 0 0),.v (.slice none 0 0),.v (.slice none 0 0)])]⟩) ?_ ?_
 ·refine YR 3 ?_
  refine zBB (y5.toList==((⟨#[]⟩:qd)).toList) (fun hc6=>?_) (fun hc6=>?_)
  ·refine YQ hc6 ?_
   exact YE (by rw[←ht7];(try rw[hc6]);kernel_rfl)
  ·refine YQ hc6 ?_
   refine YR 1 ?_
   refine YT (zAn rfl (zHy (c:=c9) (xs:=y2) Tryz.underlying45 rfl kk)) ?_
   exact YE (by rw[←ht7];(try rw[hc6]);kernel_rfl)
 refine VC h (fun h=>?_) (fun h=>?_)
 ·refine VS ?_
  refine L0 rfl rfl (zBj (cs:=[.v (.string qe),.v (.slice none 0 0),.v (.slice none 0 0),.v (.slice none 0 0)]) pl75 bt75 rfl rfl kk) ?_
  refine YF ?_
  refine zF8 16 1 (cs:=[.v (.string qe),.v (.slice none 0 0),.v (.slice none 0 0),.v (.slice none 0 0)]) kk kk rfl ?_
  refine zF8 16 2 (cs:=[.v (.string qe),.sl ((([]:List τF)).map c25),.v (.slice none 0 0),.v (.slice none 0 0)]) kk kk rfl ?_
  refine zF8 16 3 (cs:=[.v (.string qe),.sl ((([]:List τF)).map c25),.sl ((([]:List τM)).map c61),.v (.slice none 0 0)]) kk kk rfl ?_
  cases h;exact zBW VT
 ·refine qV ?_
  show V _ _ _ _;refine zV ?_
  obtain⟨u9,hu9,h⟩:=zA h;obtain⟨t10,ht10,h⟩:=zEL h;refine zDL (mb 92 962072674404) [40,16] (s1:=⟨.bot::.bot::.pt 16 0::.bot::.bot::.pt 40 0::.c (.v (.string y5))::bt 30 (.c (.sl ((subl y2 1 ((y2.length:Int))).map c9))::I t10::I 0::bt 52 []),[(40,.box [.v (.string e4),.v (.slice none 0 0),.v (.slice none 0 0),.v (.slice none 0 0)]),(16,.box [.v (.string qe),.v (.slice none 0 0),.v (.slice none 0 0),.v (.slice none 0 0)])]⟩) ?_ ?_
  ·refine YR 1 ?_
   refine z35 136 (T:=9) (sz:=1) (els:=y2.map c9) kk rfl ?_
   refine L0 rfl rfl (zPt (c:=c9) (xs:=y2) (l:=1) (h:=(y2.length:Int)) Tryz.underlying45 sz9 (fun _=>rfl) rfl kk (fun y hy=>by cases hy;exact⟨.i64,kk⟩) (fun hh=>by cases hh) (fun y hy=>by cases hy) (fun _=>rfl) (zJm hu9)) ?_
   refine L0 rfl rfl (zHy (c:=c9) (xs:=subl y2 1 ((y2.length:Int))) Tryz.underlying45 rfl kk) ?_
   refine YR 1 ?_
   refine qN ?_
   subst ht10
   kernel_rfl
  refine zVF 42 25 3 kk (by decide) ?_
  refine zVF 43 61 4 kk (by decide) ?_
  refine zVF 44 3 1 kk (by decide) ?_
  refine V_gen (fun γ:Nat→Loc=>⟨.bot::.bot::.pt 16 0::.bot::.bot::.pt 40 0::.c (.v (.string y5))::bt 30 (.c (.sl ((subl y2 1 ((y2.length:Int))).map c9))::I t10::I 0::bt 52 []),[(44,.qarr (γ 44) 3 1 ((([]:List Int)).map c3)),(43,.qarr (γ 43) 61 4 ((([]:List τM)).map c61)),(42,.qarr (γ 42) 25 3 ((([]:List τF)).map c25)),(40,.box [.v (.string e4),.v (zK (γ 42)),.v (zK (γ 43)),.v (zK (γ 44))]),(16,.box [.v (.string qe),.v (.slice none 0 0),.v (.slice none 0 0),.v (.slice none 0 0)])]⟩) (fun _=>loc0) kk fun γ=>?_
  obtain⟨qo16,hLo16,hko16⟩:=zA h;refine z9b (q:=qo16) (S:=fun o16 (γ:Nat→Loc)=>⟨.bot::.bot::.pt 16 0::.bot::.bot::.pt 40 0::bt 86 [],[(44,.qarr (γ 44) 3 1 (o16.1.map c3)),(43,.qarr (γ 43) 61 4 (o16.2.1.map c61)),(42,.qarr (γ 42) 25 3 (o16.2.2.map c25)),(40,.box [.v (.string e4),.v (zK (γ 42)),.v (zK (γ 43)),.v (zK (γ 44))]),(16,.box [.v (.string qe),.v (.slice none 0 0),.v (.slice none 0 0),.v (.slice none 0 0)])]⟩) (mb 92 36) [44,43,42,40,16] ?_ ?_
  ·refine qA (zMe (fun n s=>∃(t11:Int) (l12:List τF) (l13:List τM) (l14:List Int),∃γ:Nat→Loc,s.keep (mb 92 962072674404) [44,43,42,40,16]=(⟨.bot::.bot::.pt 16 0::.bot::.bot::.pt 40 0::.c (.v (.string y5))::bt 30 (.c (.sl ((subl y2 1 ((y2.length:Int))).map c9))::I t10::I t11::bt 52 []),[(44,.qarr (γ 44) 3 1 (l14.map c3)),(43,.qarr (γ 43) 61 4 (l13.map c61)),(42,.qarr (γ 42) 25 3 (l12.map c25)),(40,.box [.v (.string e4),.v (zK (γ 42)),.v (zK (γ 43)),.v (zK (γ 44))]),(16,.box [.v (.string qe),.v (.slice none 0 0),.v (.slice none 0 0),.v (.slice none 0 0)])]⟩:St)∧zAm e4 t10 y2 y5 n t11 l12 l13 l14=some qo16) FU ⟨_,_,_,_,γ,kk,hLo16⟩ ?_);clear hLo16;rintro n s ⟨t11,l12,l13,l14,γ,hs,h⟩;refine jV _ _ hs ?_
   clear hs;cases n with
   |zero=>cases h
   |succ n=>
    rw[zAm]at h;refine zE2 (fun γ:Nat→Loc=>⟨.bot::.bot::.pt 16 0::.bot::.bot::.pt 40 0::.c (.v (.string y5))::bt 30 (.c (.sl ((subl y2 1 ((y2.length:Int))).map c9))::I t10::I t11::Bo (ltI t11 t10)::bt 51 []),[(44,.qarr (γ 44) 3 1 (l14.map c3)),(43,.qarr (γ 43) 61 4 (l13.map c61)),(42,.qarr (γ 42) 25 3 (l12.map c25)),(40,.box [.v (.string e4),.v (zK (γ 42)),.v (zK (γ 43)),.v (zK (γ 44))]),(16,.box [.v (.string qe),.v (.slice none 0 0),.v (.slice none 0 0),.v (.slice none 0 0)])]⟩) (mb 92 2061584302180) [44,43,42,40,16] ?_ ?_
    ·refine XR 1 ?_
     refine qN ?_
     exact⟨γ,by kernel_rfl⟩
    intro γ;refine zV ?_
    refine VC h (fun h=>?_) (fun h=>?_)
    ·refine qV ?_
     show V _ _ _ _;refine zV ?_
     refine qA ?_
     obtain⟨e18,he18,h⟩:=zA h;refine zE2 (fun γ:Nat→Loc=>⟨.bot::.bot::.pt 16 0::.bot::.bot::.pt 40 0::.c (.v (.string y5))::I t11::.c (.v (.string e18))::bt 28 (.c (.sl ((subl y2 1 ((y2.length:Int))).map c9))::I t10::I t11::bt 52 []),[(44,.qarr (γ 44) 3 1 (l14.map c3)),(43,.qarr (γ 43) 61 4 (l13.map c61)),(42,.qarr (γ 42) 25 3 (l12.map c25)),(40,.box [.v (.string e4),.v (zK (γ 42)),.v (zK (γ 43)),.v (zK (γ 44))]),(16,.box [.v (.string qe),.v (.slice none 0 0),.v (.slice none 0 0),.v (.slice none 0 0)])]⟩) (mb 92 962072674788) [44,43,42,40,16] ?_ ?_
     ·refine XR 1 ?_
      refine L0 rfl rfl (jD (c:=c9) (xs:=subl y2 1 ((y2.length:Int))) (v:=e18) (n:=t11) Tryz.underlying45 sz9 rfl kk kk he18) ?_
      refine XR 3 ?_
      refine qN ?_
      exact⟨γ,by kernel_rfl⟩
     intro γ;refine zE2 (fun γ:Nat→Loc=>⟨.bot::.bot::.pt 16 0::.bot::.bot::.pt 40 0::.c (.v (.string y5))::I t11::.c (.v (.string e18))::bt 28 (.c (.sl ((subl y2 1 ((y2.length:Int))).map c9))::I t10::I t11::bt 52 []),[(44,.qarr (γ 44) 3 1 (l14.map c3)),(43,.qarr (γ 43) 61 4 (l13.map c61)),(42,.qarr (γ 42) 25 3 (l12.map c25)),(40,.box [.v (.string e4),.v (zK (γ 42)),.v (zK (γ 43)),.v (zK (γ 44))]),(16,.box [.v (.string qe),.v (.slice none 0 0),.v (.slice none 0 0),.v (.slice none 0 0)])]⟩) (mb 92 962072674788) [44,43,42,40,16] ?_ ?_
     ·refine XR 1 ?_
      refine qN ?_
      exact⟨γ,by kernel_rfl⟩
     intro γ;refine zV ?_
     obtain⟨e19,he19,h⟩:=zA h;refine zE2 (fun γ:Nat→Loc=>⟨.bot::.bot::.pt 16 0::.bot::.bot::.pt 40 0::.c (.v (.string y5))::.bot::.c (.v (.string e18))::bt 28 (.c (.sl ((subl y2 1 ((y2.length:Int))).map c9))::I t10::I t11::bt 6 (.c (.v (.int .u8 e19))::bt 45 [])),[(44,.qarr (γ 44) 3 1 (l14.map c3)),(43,.qarr (γ 43) 61 4 (l13.map c61)),(42,.qarr (γ 42) 25 3 (l12.map c25)),(40,.box [.v (.string e4),.v (zK (γ 42)),.v (zK (γ 43)),.v (zK (γ 44))]),(16,.box [.v (.string qe),.v (.slice none 0 0),.v (.slice none 0 0),.v (.slice none 0 0)])]⟩) (mb 92 71330816852324) [44,43,42,40,16] ?_ ?_
     ·refine XR 2 ?_
      refine L0 rfl rfl (z7T (b:=y5) (k:=.i64) (n:=t11) (v:=e19) Tryz.underlying9 rfl kk kk he19) ?_
      refine qN ?_
      exact⟨γ,by kernel_rfl⟩
     intro γ;refine qA ?_
     refine zE2 (fun γ:Nat→Loc=>⟨.bot::.bot::.pt 16 0::.bot::.bot::.pt 40 0::.c (.v (.string y5))::.bot::.c (.v (.string e18))::bt 28 (.c (.sl ((subl y2 1 ((y2.length:Int))).map c9))::I t10::I t11::bt 6 (.c (.v (.int .u8 e19))::bt 12 (Bo (eqI e19 102)::bt 32 []))),[(44,.qarr (γ 44) 3 1 (l14.map c3)),(43,.qarr (γ 43) 61 4 (l13.map c61)),(42,.qarr (γ 42) 25 3 (l12.map c25)),(40,.box [.v (.string e4),.v (zK (γ 42)),.v (zK (γ 43)),.v (zK (γ 44))]),(16,.box [.v (.string qe),.v (.slice none 0 0),.v (.slice none 0 0),.v (.slice none 0 0)])]⟩) (mb 92 576532083120275812) [44,43,42,40,16] ?_ ?_
     ·refine L0 rfl rfl (zRM (k:=.u8) (a:=e19) (b:=102) rfl kk kk) ?_
      refine XR 1 ?_
      refine qN ?_
      exact⟨γ,by kernel_rfl⟩
     intro γ;refine VC h (fun h=>?_) (fun h=>?_)
     ·obtain⟨y21,hy21,h⟩:=zA h;refine zE2 (fun γ:Nat→Loc=>⟨.bot::.bot::.pt 16 0::.bot::.bot::.pt 40 0::.c (.v (.string y5))::bt 3 (.pt 80 0::Bo y21.2::bt 25 (.c (.sl ((subl y2 1 ((y2.length:Int))).map c9))::I t10::I t11::bt 52 [])),[(80,.box [Ti y21.1.1,Ti y21.1.2.1,Ti y21.1.2.2]),(44,.qarr (γ 44) 3 1 (l14.map c3)),(43,.qarr (γ 43) 61 4 (l13.map c61)),(42,.qarr (γ 42) 25 3 (l12.map c25)),(40,.box [.v (.string e4),.v (zK (γ 42)),.v (zK (γ 43)),.v (zK (γ 44))]),(16,.box [.v (.string qe),.v (.slice none 0 0),.v (.slice none 0 0),.v (.slice none 0 0)])]⟩) (mb 92 962072677476) [80,44,43,42,40,16] ?_ ?_
      ·refine XR 1 ?_
       refine XC (zQ0 hy21) zPo rfl rfl rfl ?_
       refine XR 6 ?_
       refine qN ?_
       exact⟨γ,by kernel_rfl⟩
      intro γ;obtain⟨u22,hu22,h⟩:=zA h;refine zO9 (fun γ:Nat→Loc=>⟨.bot::.bot::.pt 16 0::.bot::.bot::.pt 40 0::.c (.v (.string y5))::.bot::.bot::Bo y21.2::bt 27 (.c (.sl ((subl y2 1 ((y2.length:Int))).map c9))::I t10::I t11::bt 52 []),[(44,.qarr (γ 44) 3 1 (l14.map c3)),(43,.qarr (γ 43) 61 4 (l13.map c61)),(42,.qarr (γ 42) 25 3 ((l12++([y21.1])).map c25)),(40,.box [.v (.string e4),.v (zK (γ 42)),.v (zK (γ 43)),.v (zK (γ 44))]),(16,.box [.v (.string qe),.v (.slice none 0 0),.v (.slice none 0 0),.v (.slice none 0 0)])]⟩) (mb 92 962072674916) [44,43,42,40,16] ?_ ?_
      ·refine XR 3 ?_
       refine L1 rfl rfl (zDW (z:=zv25) (els:=[y21.1].map c25) Tryz.underlying39 iz25 rfl (by decide) rfl kk rfl (by simp[c25]) (by decide) (by decide)) ?_
       refine zRN 67 42 (l:=γ 42) (T:=25) (sz:=3) (els:=l12.map c25) kk kk ?_
       refine zB2 rfl (zEI (c:=c25) (xs:=l12) (ys:=[y21.1]) (id:=42) (z:=zv25) rfl rfl Tryz.underlying39 izb25 rfl kk kk kk (fun _=>rfl) (by simp) (zDd hu22) (by decide)) ?_
       refine XR 2 ?_
       refine zYd 70 42 (T:=25) (sz:=3) (els:=(l12++([y21.1])).map c25) kk kk fun lq1=>?_
       refine XR 2 ?_
       refine qN ?_
       exact⟨(fun i=>if i=42 then lq1 else γ i),by kernel_rfl⟩
      intro γ;show V _ _ _ _;refine zE2 (fun γ:Nat→Loc=>⟨.bot::.bot::.pt 16 0::.bot::.bot::.pt 40 0::.c (.v (.string y5))::bt 30 (.c (.sl ((subl y2 1 ((y2.length:Int))).map c9))::I t10::I t11::bt 48 (Bo (!y21.2)::bt 3 [])),[(44,.qarr (γ 44) 3 1 (l14.map c3)),(43,.qarr (γ 43) 61 4 (l13.map c61)),(42,.qarr (γ 42) 25 3 ((l12++([y21.1])).map c25)),(40,.box [.v (.string e4),.v (zK (γ 42)),.v (zK (γ 43)),.v (zK (γ 44))]),(16,.box [.v (.string qe),.v (.slice none 0 0),.v (.slice none 0 0),.v (.slice none 0 0)])]⟩) (mb 92 309485009821346030797455460) [44,43,42,40,16] ?_ ?_
      ·refine XR 2 ?_
       refine qN ?_
       exact⟨γ,by kernel_rfl⟩
      intro γ;refine VC h (fun h=>?_) (fun h=>?_)
      ·refine zE2 (fun γ:Nat→Loc=>⟨.bot::.bot::.pt 16 0::Bo false::bt 88 [],[(44,.qarr (γ 44) 3 1 (l14.map c3)),(43,.qarr (γ 43) 61 4 (l13.map c61)),(42,.qarr (γ 42) 25 3 ((l12++([y21.1])).map c25)),(16,.box [.v (.string qe),.v (.slice none 0 0),.v (.slice none 0 0),.v (.slice none 0 0)])]⟩) (mb 92 12) [44,43,42,16] ?_ ?_
       ·refine L0 rfl rfl (zBj (cs:=[.v (.string qe),.v (.slice none 0 0),.v (.slice none 0 0),.v (.slice none 0 0)]) pl75 bt75 rfl rfl kk) ?_
        refine XR 2 ?_
        refine qN ?_
        exact⟨γ,by kernel_rfl⟩
       intro γ;refine zF8 16 1 (cs:=[.v (.string qe),.v (.slice none 0 0),.v (.slice none 0 0),.v (.slice none 0 0)]) kk kk rfl ?_
       refine zF8 16 2 (cs:=[.v (.string qe),.sl ((([]:List τF)).map c25),.v (.slice none 0 0),.v (.slice none 0 0)]) kk kk rfl ?_
       refine zF8 16 3 (cs:=[.v (.string qe),.sl ((([]:List τF)).map c25),.sl ((([]:List τM)).map c61),.v (.slice none 0 0)]) kk kk rfl ?_
       refine zBW ?_
       obtain rfl:=zD h;have h:=hko16;obtain rfl:=zD h;exact VT
      ·refine qV ?_
       show V _ _ _ _;obtain⟨t24,ht24,h⟩:=zEL h;refine zO9 (fun γ:Nat→Loc=>⟨.bot::.bot::.pt 16 0::.bot::.bot::.pt 40 0::.c (.v (.string y5))::bt 30 (.c (.sl ((subl y2 1 ((y2.length:Int))).map c9))::I t10::I t24::bt 52 []),[(44,.qarr (γ 44) 3 1 (l14.map c3)),(43,.qarr (γ 43) 61 4 (l13.map c61)),(42,.qarr (γ 42) 25 3 ((l12++([y21.1])).map c25)),(40,.box [.v (.string e4),.v (zK (γ 42)),.v (zK (γ 43)),.v (zK (γ 44))]),(16,.box [.v (.string qe),.v (.slice none 0 0),.v (.slice none 0 0),.v (.slice none 0 0)])]⟩) (mb 92 962072674404) [44,43,42,40,16] ?_ ?_
       ·refine XR 2 ?_
        refine qN ?_
        subst ht24;exact⟨γ,by kernel_rfl⟩
       intro γ;exact⟨n,zi n,_,_,_,_,γ,kk,h⟩
     ·refine zE2 (fun γ:Nat→Loc=>⟨.bot::.bot::.pt 16 0::.bot::.bot::.pt 40 0::.c (.v (.string y5))::.bot::.c (.v (.string e18))::bt 28 (.c (.sl ((subl y2 1 ((y2.length:Int))).map c9))::I t10::I t11::bt 33 (Bo (eqI e19 109)::bt 18 [])),[(44,.qarr (γ 44) 3 1 (l14.map c3)),(43,.qarr (γ 43) 61 4 (l13.map c61)),(42,.qarr (γ 42) 25 3 (l12.map c25)),(40,.box [.v (.string e4),.v (zK (γ 42)),.v (zK (γ 43)),.v (zK (γ 44))]),(16,.box [.v (.string qe),.v (.slice none 0 0),.v (.slice none 0 0),.v (.slice none 0 0)])]⟩) (mb 92 9444732966701363102052) [44,43,42,40,16] ?_ ?_
      ·refine L0 rfl rfl (zRM (k:=.u8) (a:=e19) (b:=109) rfl kk kk) ?_
       refine XR 1 ?_
       refine qN ?_
       exact⟨γ,by kernel_rfl⟩
      intro γ;refine VC h (fun h=>?_) (fun h=>?_)
      ·obtain⟨y26,hy26,h⟩:=zA h;refine zE2 (fun γ:Nat→Loc=>⟨.bot::.bot::.pt 16 0::.bot::.bot::.pt 40 0::.c (.v (.string y5))::bt 5 (.pt 96 0::Bo y26.2::bt 23 (.c (.sl ((subl y2 1 ((y2.length:Int))).map c9))::I t10::I t11::bt 52 [])),[(96,.box [Ti y26.1.1,Ti y26.1.2.1,Ti y26.1.2.2.1,Ti y26.1.2.2.2]),(44,.qarr (γ 44) 3 1 (l14.map c3)),(43,.qarr (γ 43) 61 4 (l13.map c61)),(42,.qarr (γ 42) 25 3 (l12.map c25)),(40,.box [.v (.string e4),.v (zK (γ 42)),.v (zK (γ 43)),.v (zK (γ 44))]),(16,.box [.v (.string qe),.v (.slice none 0 0),.v (.slice none 0 0),.v (.slice none 0 0)])]⟩) (mb 92 962072686692) [96,44,43,42,40,16] ?_ ?_
       ·refine XR 1 ?_
        refine XC (zOF hy26) zN5 rfl rfl rfl ?_
        refine XR 6 ?_
        refine qN ?_
        exact⟨γ,by kernel_rfl⟩
       intro γ;obtain⟨u27,hu27,h⟩:=zA h;refine zO9 (fun γ:Nat→Loc=>⟨.bot::.bot::.pt 16 0::.bot::.bot::.pt 40 0::.c (.v (.string y5))::.bot::.bot::Bo y26.2::bt 27 (.c (.sl ((subl y2 1 ((y2.length:Int))).map c9))::I t10::I t11::bt 52 []),[(44,.qarr (γ 44) 3 1 (l14.map c3)),(43,.qarr (γ 43) 61 4 ((l13++([y26.1])).map c61)),(42,.qarr (γ 42) 25 3 (l12.map c25)),(40,.box [.v (.string e4),.v (zK (γ 42)),.v (zK (γ 43)),.v (zK (γ 44))]),(16,.box [.v (.string qe),.v (.slice none 0 0),.v (.slice none 0 0),.v (.slice none 0 0)])]⟩) (mb 92 962072674916) [44,43,42,40,16] ?_ ?_
       ·refine XR 3 ?_
        refine L1 rfl rfl (zDW (z:=zv61) (els:=[y26.1].map c61) Tryz.underlying73 iz61 rfl (by decide) rfl kk rfl (by simp[c61]) (by decide) (by decide)) ?_
        refine zRN 81 43 (l:=γ 43) (T:=61) (sz:=4) (els:=l13.map c61) kk kk ?_
        refine zB2 rfl (zEI (c:=c61) (xs:=l13) (ys:=[y26.1]) (id:=43) (z:=zv61) rfl rfl Tryz.underlying73 zZl rfl kk kk kk (fun _=>rfl) (by simp) (zDd hu27) (by decide)) ?_
        refine XR 2 ?_
        refine zYd 84 43 (T:=61) (sz:=4) (els:=(l13++([y26.1])).map c61) kk kk fun lq1=>?_
        refine XR 2 ?_
        refine qN ?_
        exact⟨(fun i=>if i=43 then lq1 else γ i),by kernel_rfl⟩
       intro γ;show V _ _ _ _;refine zE2 (fun γ:Nat→Loc=>⟨.bot::.bot::.pt 16 0::.bot::.bot::.pt 40 0::.c (.v (.string y5))::bt 30 (.c (.sl ((subl y2 1 ((y2.length:Int))).map c9))::I t10::I t11::bt 48 (Bo (!y26.2)::bt 3 [])),[(44,.qarr (γ 44) 3 1 (l14.map c3)),(43,.qarr (γ 43) 61 4 ((l13++([y26.1])).map c61)),(42,.qarr (γ 42) 25 3 (l12.map c25)),(40,.box [.v (.string e4),.v (zK (γ 42)),.v (zK (γ 43)),.v (zK (γ 44))]),(16,.box [.v (.string qe),.v (.slice none 0 0),.v (.slice none 0 0),.v (.slice none 0 0)])]⟩) (mb 92 309485009821346030797455460) [44,43,42,40,16] ?_ ?_
       ·refine XR 2 ?_
        refine qN ?_
        exact⟨γ,by kernel_rfl⟩
       intro γ;refine VC h (fun h=>?_) (fun h=>?_)
       ·refine zE2 (fun γ:Nat→Loc=>⟨.bot::.bot::.pt 16 0::Bo false::bt 88 [],[(44,.qarr (γ 44) 3 1 (l14.map c3)),(43,.qarr (γ 43) 61 4 ((l13++([y26.1])).map c61)),(42,.qarr (γ 42) 25 3 (l12.map c25)),(16,.box [.v (.string qe),.v (.slice none 0 0),.v (.slice none 0 0),.v (.slice none 0 0)])]⟩) (mb 92 12) [44,43,42,16] ?_ ?_
        ·refine L0 rfl rfl (zBj (cs:=[.v (.string qe),.v (.slice none 0 0),.v (.slice none 0 0),.v (.slice none 0 0)]) pl75 bt75 rfl rfl kk) ?_
         refine XR 2 ?_
         refine qN ?_
         exact⟨γ,by kernel_rfl⟩
        intro γ;refine zF8 16 1 (cs:=[.v (.string qe),.v (.slice none 0 0),.v (.slice none 0 0),.v (.slice none 0 0)]) kk kk rfl ?_
        refine zF8 16 2 (cs:=[.v (.string qe),.sl ((([]:List τF)).map c25),.v (.slice none 0 0),.v (.slice none 0 0)]) kk kk rfl ?_
        refine zF8 16 3 (cs:=[.v (.string qe),.sl ((([]:List τF)).map c25),.sl ((([]:List τM)).map c61),.v (.slice none 0 0)]) kk kk rfl ?_
        refine zBW ?_
        obtain rfl:=zD h;have h:=hko16;obtain rfl:=zD h;exact VT
       ·refine qV ?_
        show V _ _ _ _;obtain⟨t29,ht29,h⟩:=zEL h;refine zO9 (fun γ:Nat→Loc=>⟨.bot::.bot::.pt 16 0::.bot::.bot::.pt 40 0::.c (.v (.string y5))::bt 30 (.c (.sl ((subl y2 1 ((y2.length:Int))).map c9))::I t10::I t29::bt 52 []),[(44,.qarr (γ 44) 3 1 (l14.map c3)),(43,.qarr (γ 43) 61 4 ((l13++([y26.1])).map c61)),(42,.qarr (γ 42) 25 3 (l12.map c25)),(40,.box [.v (.string e4),.v (zK (γ 42)),.v (zK (γ 43)),.v (zK (γ 44))]),(16,.box [.v (.string qe),.v (.slice none 0 0),.v (.slice none 0 0),.v (.slice none 0 0)])]⟩) (mb 92 962072674404) [44,43,42,40,16] ?_ ?_
        ·refine XR 2 ?_
         refine qN ?_
         subst ht29;exact⟨γ,by kernel_rfl⟩
        intro γ;exact⟨n,zi n,_,_,_,_,γ,kk,h⟩
      ·obtain⟨y30,hy30,h⟩:=zA h;refine zE2 (fun γ:Nat→Loc=>⟨.bot::.bot::.pt 16 0::.bot::.bot::.pt 40 0::.c (.v (.string y5))::bt 7 (I y30.1::Bo y30.2::bt 21 (.c (.sl ((subl y2 1 ((y2.length:Int))).map c9))::I t10::I t11::bt 52 [])),[(44,.qarr (γ 44) 3 1 (l14.map c3)),(43,.qarr (γ 43) 61 4 (l13.map c61)),(42,.qarr (γ 42) 25 3 (l12.map c25)),(40,.box [.v (.string e4),.v (zK (γ 42)),.v (zK (γ 43)),.v (zK (γ 44))]),(16,.box [.v (.string qe),.v (.slice none 0 0),.v (.slice none 0 0),.v (.slice none 0 0)])]⟩) (mb 92 962072723556) [44,43,42,40,16] ?_ ?_
       ·refine XR 1 ?_
        refine XC (zSB hy30) zRC rfl rfl rfl ?_
        refine XR 5 ?_
        refine qN ?_
        exact⟨γ,by kernel_rfl⟩
       intro γ;obtain⟨u31,hu31,h⟩:=zA h;refine zO9 (fun γ:Nat→Loc=>⟨.bot::.bot::.pt 16 0::.bot::.bot::.pt 40 0::.c (.v (.string y5))::.bot::.bot::Bo y30.2::bt 27 (.c (.sl ((subl y2 1 ((y2.length:Int))).map c9))::I t10::I t11::bt 52 []),[(44,.qarr (γ 44) 3 1 ((l14++([y30.1])).map c3)),(43,.qarr (γ 43) 61 4 (l13.map c61)),(42,.qarr (γ 42) 25 3 (l12.map c25)),(40,.box [.v (.string e4),.v (zK (γ 42)),.v (zK (γ 43)),.v (zK (γ 44))]),(16,.box [.v (.string qe),.v (.slice none 0 0),.v (.slice none 0 0),.v (.slice none 0 0)])]⟩) (mb 92 962072674916) [44,43,42,40,16] ?_ ?_
       ·refine XR 3 ?_
        refine L1 rfl rfl (zDW (z:=zv3) (els:=[y30.1].map c3) Tryz.underlying50 iz3 rfl (by decide) rfl kk rfl (by simp[c3]) (by decide) (by decide)) ?_
        refine zRN 53 44 (l:=γ 44) (T:=3) (sz:=1) (els:=l14.map c3) kk kk ?_
        refine zB2 rfl (zEI (c:=c3) (xs:=l14) (ys:=[y30.1]) (id:=44) (z:=zv3) rfl rfl Tryz.underlying50 izb3 rfl kk kk kk (fun _=>rfl) (by simp) (zDd hu31) (by decide)) ?_
        refine XR 2 ?_
        refine zYd 56 44 (T:=3) (sz:=1) (els:=(l14++([y30.1])).map c3) kk kk fun lq1=>?_
        refine XR 2 ?_
        refine qN ?_
        exact⟨(fun i=>if i=44 then lq1 else γ i),by kernel_rfl⟩
       intro γ;show V _ _ _ _;refine zE2 (fun γ:Nat→Loc=>⟨.bot::.bot::.pt 16 0::.bot::.bot::.pt 40 0::.c (.v (.string y5))::bt 30 (.c (.sl ((subl y2 1 ((y2.length:Int))).map c9))::I t10::I t11::bt 48 (Bo (!y30.2)::bt 3 [])),[(44,.qarr (γ 44) 3 1 ((l14++([y30.1])).map c3)),(43,.qarr (γ 43) 61 4 (l13.map c61)),(42,.qarr (γ 42) 25 3 (l12.map c25)),(40,.box [.v (.string e4),.v (zK (γ 42)),.v (zK (γ 43)),.v (zK (γ 44))]),(16,.box [.v (.string qe),.v (.slice none 0 0),.v (.slice none 0 0),.v (.slice none 0 0)])]⟩) (mb 92 309485009821346030797455460) [44,43,42,40,16] ?_ ?_
       ·refine XR 2 ?_
        refine qN ?_
        exact⟨γ,by kernel_rfl⟩
       intro γ;refine VC h (fun h=>?_) (fun h=>?_)
       ·refine zE2 (fun γ:Nat→Loc=>⟨.bot::.bot::.pt 16 0::Bo false::bt 88 [],[(44,.qarr (γ 44) 3 1 ((l14++([y30.1])).map c3)),(43,.qarr (γ 43) 61 4 (l13.map c61)),(42,.qarr (γ 42) 25 3 (l12.map c25)),(16,.box [.v (.string qe),.v (.slice none 0 0),.v (.slice none 0 0),.v (.slice none 0 0)])]⟩) (mb 92 12) [44,43,42,16] ?_ ?_
        ·refine L0 rfl rfl (zBj (cs:=[.v (.string qe),.v (.slice none 0 0),.v (.slice none 0 0),.v (.slice none 0 0)]) pl75 bt75 rfl rfl kk) ?_
         refine XR 2 ?_
         refine qN ?_
         exact⟨γ,by kernel_rfl⟩
        intro γ;refine zF8 16 1 (cs:=[.v (.string qe),.v (.slice none 0 0),.v (.slice none 0 0),.v (.slice none 0 0)]) kk kk rfl ?_
        refine zF8 16 2 (cs:=[.v (.string qe),.sl ((([]:List τF)).map c25),.v (.slice none 0 0),.v (.slice none 0 0)]) kk kk rfl ?_
        refine zF8 16 3 (cs:=[.v (.string qe),.sl ((([]:List τF)).map c25),.sl ((([]:List τM)).map c61),.v (.slice none 0 0)]) kk kk rfl ?_
        refine zBW ?_
        obtain rfl:=zD h;have h:=hko16;obtain rfl:=zD h;exact VT
       ·refine qV ?_
        show V _ _ _ _;obtain⟨t33,ht33,h⟩:=zEL h;refine zO9 (fun γ:Nat→Loc=>⟨.bot::.bot::.pt 16 0::.bot::.bot::.pt 40 0::.c (.v (.string y5))::bt 30 (.c (.sl ((subl y2 1 ((y2.length:Int))).map c9))::I t10::I t33::bt 52 []),[(44,.qarr (γ 44) 3 1 ((l14++([y30.1])).map c3)),(43,.qarr (γ 43) 61 4 (l13.map c61)),(42,.qarr (γ 42) 25 3 (l12.map c25)),(40,.box [.v (.string e4),.v (zK (γ 42)),.v (zK (γ 43)),.v (zK (γ 44))]),(16,.box [.v (.string qe),.v (.slice none 0 0),.v (.slice none 0 0),.v (.slice none 0 0)])]⟩) (mb 92 962072674404) [44,43,42,40,16] ?_ ?_
        ·refine XR 2 ?_
         refine qN ?_
         subst ht33;exact⟨γ,by kernel_rfl⟩
        intro γ;exact⟨n,zi n,_,_,_,_,γ,kk,h⟩
    ·refine zFU ?_
     obtain rfl:=zD h;exact⟨_,rfl,γ,kk⟩
  rintro o16 rfl γ;have h:=hko16;clear hko16;show V _ _ _ _;refine z1G 42 40 1 (l:=γ 42) (T:=25) (sz:=3) (els:=o16.2.2.map c25) (cs:=[.v (.string e4),.v (zK (γ 42)),.v (zK (γ 43)),.v (zK (γ 44))]) (s1:=⟨.bot::.bot::.pt 16 0::.bot::.bot::.pt 40 0::bt 86 [],[(44,.qarr (γ 44) 3 1 (o16.1.map c3)),(43,.qarr (γ 43) 61 4 (o16.2.1.map c61)),(40,.box [.v (.string e4),.sl (o16.2.2.map c25),.v (zK (γ 43)),.v (zK (γ 44))]),(16,.box [.v (.string qe),.v (.slice none 0 0),.v (.slice none 0 0),.v (.slice none 0 0)])]⟩) kk kk kk kk ?_
  refine z1G 43 40 2 (l:=γ 43) (T:=61) (sz:=4) (els:=o16.2.1.map c61) (cs:=[.v (.string e4),.sl (o16.2.2.map c25),.v (zK (γ 43)),.v (zK (γ 44))]) (s1:=⟨.bot::.bot::.pt 16 0::.bot::.bot::.pt 40 0::bt 86 [],[(44,.qarr (γ 44) 3 1 (o16.1.map c3)),(40,.box [.v (.string e4),.sl (o16.2.2.map c25),.sl (o16.2.1.map c61),.v (zK (γ 44))]),(16,.box [.v (.string qe),.v (.slice none 0 0),.v (.slice none 0 0),.v (.slice none 0 0)])]⟩) kk kk kk kk ?_
  refine z1G 44 40 3 (l:=γ 44) (T:=3) (sz:=1) (els:=o16.1.map c3) (cs:=[.v (.string e4),.sl (o16.2.2.map c25),.sl (o16.2.1.map c61),.v (zK (γ 44))]) (s1:=⟨.bot::.bot::.pt 16 0::.bot::.bot::.pt 40 0::bt 86 [],[(40,.box [.v (.string e4),.sl (o16.2.2.map c25),.sl (o16.2.1.map c61),.sl (o16.1.map c3)]),(16,.box [.v (.string qe),.v (.slice none 0 0),.v (.slice none 0 0),.v (.slice none 0 0)])]⟩) kk kk kk kk ?_
  refine VE ?_
  cases h;exact zBW VT
def zVQ(vs1:qd):=fC zSU (zEG vs1) fun _=>zTg
theorem zO4:CfW qf 187:=cfW Tryz.func187
noncomputable def zOx(vm1:τM):T qf Int:=
 .frc (w64 ((w64 (vm1.1*vm1.2.2.2)) - (w64 (vm1.2.1*vm1.2.2.1)))) fun t2=>.ret t2
theorem zPQ{vm1:τM}{r:Int}(h:zBA vm1=some r):zH qf 187 [.ag [Ti vm1.1,Ti vm1.2.1,Ti vm1.2.2.1,Ti vm1.2.2.2]] (I r) []:=CtU (zOx vm1) 2 (fun r=>I r) Tryz.func187 rfl rfl h
def zIz(vm1:τM):=fC zO4 (zBA vm1) fun _=>zPQ
end
end Go.Proofs.YtnjhhbcccgbbnaaGreatDoor
