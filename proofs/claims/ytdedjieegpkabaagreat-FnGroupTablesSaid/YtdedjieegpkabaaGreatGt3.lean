/-
  Rules of walks, plain functions and their laws, part 3.
  Conditions: none.
-/
import Derived.Test.YtdedjieegpkabaaGreatRows
import Derived.Test.YtdedjieegpkabaaGreatGt2
set_option linter.unusedSimpArgs false
set_option linter.unusedVariables false
namespace Go.Proofs.YtdedjieegpkabaaGreat
open Go.RowKit
def cLo:CT Loc:=⟨fun l=>[.v (zG l)],1,fun _=>rfl⟩
def mkT:Nat→List (Nat×AV)→Nat→List AV
 |0,_,_=>[]
 |n+1,l,i=>(match l.lookup i with
  |some x=>x
  |none=>.bot)::mkT n l (i+1)
section
variable {P:Program}
def appV(L:List Loc)(k:Nat):FX P Unit where
 m:=room (L.length+1)
 run o s _ K:=match o.op,o.dst with
  | .call ⟨.builtin .append,⟨[x,y]⟩,⟨[t,t2]⟩⟩,some d=>(match P.underlying t,s.ev x,s.ent k with
   |some (.slice e),.ow id,some (.qarr l _ _ _)=>(match s.ent id,P.info? e with
    |some (.arr e2 sz els),some i=>(match i.zero with
     |some z=>.eq t2 t (.eq e2 e (.eq sz 1 (.eq i.size 1 (.eq els (L.map cLo.c) (.eq (zBT s (s.ev y)) (some [[.v (zG l)]]) (.eq (Nat.beq z.cells.size 1&&Nat.ble i.bytes 128) true
       (K ⟨(zBx id s.T).set d (.ow id),setE id (.arr e 1 ((L++[l]).map cLo.c)) s.E⟩)))))))
     |none=>.bad)
    |_,_=>.bad)
   |_,_,_=>.bad)
  |_,_=>.bad
 ok o s K y hm h:=by
  split at h
  ·rename_i x y t t2 d ho hd;split at h
   ·rename_i e id l T3 sz3 els3 hu hx hk;split at h
    ·rename_i e2 sz els i he hi;split at h
     ·rename_i z hz;obtain⟨h1,h2,h3,h4,h5,h6,h7,h8⟩:=h;subst h1 h2 h3 h5;rw[ze]at h7;exact zCe (zPN (xs:=L) (ys:=[l]) (c:=cLo.c) ho hd hu (by rw[hi];simp only[Option.map_some,hz,h4]) (Nat.eq_of_beq_eq_true h7.1) hx he h6 cLo.hc (zEF hm) (Nat.le_of_ble_eq_true h7.2)) h8
     ·exact h.elim
    ·exact h.elim
   ·exact h.elim
  ·exact h.elim
def idxW(L:List Loc)(n:Int)(l:Loc):F0 P Loc where
 m:=getI L n
 chk o s:=match o.op with
  | .indexAddr t x ix=>(match P.underlying t,s.ev x with
   |some (.slice e),.ow id=>(match s.entc id with
    |some (.arr _ sz els)=>.eq ((P.info? e).map (·.size)) (some sz) (.eq els ((L.map cLo.c).set n.toNat [.v (zG l)]) (.eq (s.ev ix) (.c (.v (.int .i64 n))) .ok))
    |_=>.bad)
   |_,_=>.bad)
  |_=>.bad
 av o s _:=match o.op with
  | .indexAddr t x ix=>(match s.ev x with
   | .ow id=>(match s.entc id with
    |some (.arr _ sz _)=>.po id sz n.toNat 0
    |_=>.bot)
   |_=>.bot)
  |_=>.bot
 ok o s y hm h:=by
  split at h
  ·rename_i t x ix ho
   try simp only[ho]
   split at h
   ·rename_i e id hu hx
    try simp only[hx]
    split at h
    ·rename_i T sz els he;obtain⟨h1,h2,h3,_⟩:=h;subst h2
     try simp only[he]
     obtain⟨h4,h5⟩:=zBl hm;refine zQ5 hu h1 ho hx he h3 h4 ?_
     rw[List.length_set,List.length_map];rcases Nat.lt_or_ge n.toNat L.length with h|h
     ·exact h
     ·rw[List.getElem?_eq_none h]at h5;cases h5
    ·exact h.elim
   ·exact h.elim
  ·exact h.elim
def ldW(L:List Loc)(n:Int)(l:Loc):F0 P Loc where
 m:=getI L n
 chk o s:=match o.op with
  | .load t x=>(match P.underlying t,s.ev x with
   |some D,.po id sz i off=>(match s.entc id with
    |some (.arr _ sz2 els)=>.eq i n.toNat (.eq sz2 sz (.eq off 0 (.eq els ((L.map cLo.c).set n.toNat [.v (zG l)]) (.eq (aggD D) false .ok))))
    |_=>.bad)
   |_,_=>.bad)
  |_=>.bad
 av o s _:=.c (.v (zG l))
 ok o s y hm h:=by
  split at h
  ·rename_i t x ho;split at h
   ·rename_i D id sz i off hu hx;split at h
    ·rename_i T sz2 els he;obtain⟨h1,h2,h3,h4,h5,_⟩:=h;subst h1 h2 h3 h4;obtain⟨h6,h7⟩:=zBl hm;have hlt:n.toNat<L.length:=by
      rcases Nat.lt_or_ge n.toNat L.length with h|h
      ·exact h
      ·rw[List.getElem?_eq_none h]at h7;cases h7
     refine qI (cs:=[]) ⟨D,hu,h5⟩ ho ?_
     rw[hx];unfold jV;simp only[he,if_true];rw[List.getElem?_set,if_pos rfl,if_pos (by rw[List.length_map];exact hlt)];rfl
    ·exact h.elim
   ·exact h.elim
  ·exact h.elim
def stoW(L:List Loc)(n:Int)(l:Loc)(k:Nat):FX P Loc where
 m:=getI L n
 run o s v K:=match o.op,o.dst,s.ent k with
  | .store t x y,none,some (.qarr l2 _ _ _)=>(match s.ev x,zAE (s.ev y) with
   | .po id sz i off,some cs=>(match s.ent id with
    |some (.arr T0 sz2 els)=>.eq i n.toNat (.eq sz2 sz (.eq off 0 (.eq sz 1 (.eq els ((L.map cLo.c).set n.toNat [.v (zG l)]) (.eq ((P.info? t).map (·.size)) (some 1) (.eq cs [.v (zG l2)]
      (K ⟨s.T,setE id (.arr T0 1 ((L.set n.toNat l2).map cLo.c)) s.E⟩)))))))
    |_=>.bad)
   |_,_=>.bad)
  |_,_,_=>.bad
 ok o s K v hm h:=by
  split at h
  ·rename_i t x y l2 T4 sz4 els4 ho hd hk;split at h
   ·rename_i id sz i off cs hx hy;split at h
    ·rename_i T0 sz2 els he;obtain⟨h1,h2,h3,h4,h5,h6,h7⟩:=h;subst h1 h2 h3 h4 h5;obtain⟨h8,h9⟩:=h7;subst h8;obtain⟨h10,h11⟩:=zBl hm;have hlt:n.toNat<L.length:=by
      rcases Nat.lt_or_ge n.toNat L.length with h|h
      ·exact h
      ·rw[List.getElem?_eq_none h]at h11;cases h11
     have hset:((L.map cLo.c).set n.toNat [.v (zG l)]).set n.toNat [.v (zG l2)]=(L.set n.toNat l2).map cLo.c:=by rw[List.set_set,List.map_set];rfl
     refine zCe (s':=⟨s.T,setE id (.arr T0 1 ((L.set n.toNat l2).map cLo.c)) s.E⟩) ?_ h9
     have:=zNn (P:=P) (el:=[.v (zG l)]) (vc:=[.v (zG l2)]) ho hd hx he (by rw[List.getElem?_set,if_pos rfl,if_pos (by rw[List.length_map];exact hlt)]) hy h6 (by simp);rw[show splice [Tr.v (zG l)] 0 [.v (zG l2)]=[.v (zG l2)] from rfl,hset]at this;exact this
    ·exact h.elim
   ·exact h.elim
  ·exact h.elim
def KP{β:Type}(m:List Bool)(ids:List Nat)(S:St→β→St):Exit→T P β→List Nat→St→OT:=fun e t' _ s'=>match e,t' with
 | .normal,.ret y=>.eq (s'.kp m ids) (S s' y) .ok
 |_,.fail=>.ok
 |_,_=>.bad
theorem VtT{β:Type}(t:T P β){c:Code}{s:St}{r:β}(m:List Bool)(ids:List Nat)(S:St→β→St)(h:t.den some=some r)(hO:goV P 100000 t [] c s (KP m ids S)=(goV P 100000 t [] c s (KP m ids S)).rf:=by kernel_rfl):V P c s (fun e s'=>e=.normal∧s'.kp m ids=S s' r):=by
 refine zAU 100000 t [] c s _ (OT.of_rf _ hO) some r h _ fun e t' kn' s' hK ht=>?_
 unfold KP at hK;split at hK
 ·injection ht with ht;subst ht;exact⟨rfl,hK.1⟩
 ·cases ht
 ·exact hK.elim
def Off(σ:Nat→Loc)(s:St)(L:List Loc):Prop:=∀id e g,s.ent id=some e→(σ id).blk=some g→¬hidB L g
variable (P) in
def VH(T sz:Nat)(c:Code)(s:St)(L:List Loc)(X:List (List (List Tr)))(J:Exit→St→List Loc→List (List (List Tr))→Prop):Prop:=
 ∀B w0 ok0 ok σ a w,R B w0 ok0 ok σ s a w→Hid B ok w T sz L X→Off σ s L→c.wp P (fun e a' w'=>∃s' L' X' ok' σ',J e s' L' X'∧R B w0 ok0 ok' σ' s' a' w'∧Hid B ok' w' T sz L' X'∧Off σ' s' L') a w
theorem Off.le{σ:Nat→Loc}{s s':St}{L:List Loc}(h:Off σ s L)(hl:Le s' s):Off σ s' L:=fun id e g he hg=>h id e g (hl.ent id e he) hg
theorem zMG{T sz:Nat}{c:Code}{s:St}{L:List Loc}{X:List (List (List Tr))}{J J':Exit→St→List Loc→List (List (List Tr))→Prop}(h:VH P T sz c s L X J)(hJ:∀e s' L' X',J e s' L' X'→J' e s' L' X'):VH P T sz c s L X J':=by
 intro B w0 ok0 ok σ a w hR hd ho;refine wp_mono (h _ _ _ _ _ _ _ hR hd ho) ?_
 rintro e a' w' ⟨s',L',X',ok',σ',h1,h2⟩;exact⟨s',L',X',ok',σ',hJ _ _ _ _ h1,h2⟩
theorem zRg{T sz:Nat}{c:Code}{s s1:St}{L:List Loc}{X:List (List (List Tr))}{m:List Bool}{ids:List Nat}(h:V P c s (fun e s'=>e=.normal∧s'.kp m ids=s1)):VH P T sz c s L X (fun e s' L' X'=>e=.normal∧s'=s1∧L'=L∧X'=X):=by
 intro B w0 ok0 ok σ a w hR hd ho;refine wp_mono (zQ8 h hR (hidB L) (fun g hg=>?_) ho) ?_
 ·obtain⟨i,l,h1,h2⟩:=hg;exact (hd.blk i l g h1 h2).2.1
 ·rintro e a' w' ⟨s',ok',σ',⟨rfl,rfl⟩,hR',hk,hn⟩;exact⟨_,L,X,ok',σ',⟨rfl,rfl,rfl,rfl⟩,hR'.le (zFp m ids s'),hd.kept hk fun _ h=>h,Off.le (s:=s') hn (zFp m ids s')⟩
theorem zSf{T sz:Nat}{x y:Code}{s:St}{L:List Loc}{X:List (List (List Tr))}{M:St→List Loc→List (List (List Tr))→Prop}{J:Exit→St→List Loc→List (List (List Tr))→Prop}(h:VH P T sz x s L X (fun e s' L' X'=>e=.normal∧M s' L' X'))(h2:∀s' L' X',M s' L' X'→VH P T sz y s' L' X' J):VH P T sz (.seq x y) s L X J:=by intro B w0 ok0 ok σ a w hR hd ho;refine wp_seq (wp_mono (h _ _ _ _ _ _ _ hR hd ho) ?_);rintro e a' w' ⟨s',L',X',ok',σ',⟨rfl,hM⟩,hR',hd',ho'⟩;exact h2 _ _ _ hM _ _ _ _ _ _ _ hR' hd' ho'
theorem zRf{T sz:Nat}{x y:Code}{s s1:St}{L:List Loc}{X:List (List (List Tr))}{m:List Bool}{ids:List Nat}{J:Exit→St→List Loc→List (List (List Tr))→Prop}(h:V P x s (fun e s'=>e=.normal∧s'.kp m ids=s1))(h2:VH P T sz y s1 L X J):VH P T sz (.seq x y) s L X J:=by
 refine zSf (zRg h) fun s' L' X' hM=>?_
 obtain⟨rfl,rfl,rfl⟩:=hM;exact h2
theorem zXB{T sz:Nat}{c:Operand}{x y:Code}{s:St}{L:List Loc}{X:List (List (List Tr))}{b:Bool}{J:Exit→St→List Loc→List (List (List Tr))→Prop}(hc:s.ev c=.c (.v (.bool b)))(ht:b=true→VH P T sz x s L X J)(hf:b=false→VH P T sz y s L X J):VH P T sz (.cond c x y) s L X J:=by
 intro B w0 ok0 ok σ a w hR hd ho;have he:=zKN hR.core hc;cases b with
 |true=>exact wp_cond_true he (ht rfl _ _ _ _ _ _ _ hR hd ho)
 |false=>exact wp_cond_false he (hf rfl _ _ _ _ _ _ _ hR hd ho)
theorem zRh{T sz id:Nat}{c:Code}{s:St}{L:List Loc}{X:List (List (List Tr))}{J J':Exit→St→List Loc→List (List (List Tr))→Prop}(h:VH P T sz c s L X J')(hJ:∀e s L X,J' e s L X→(e=.exit id∨e=.normal)∧J .normal s L X):VH P T sz (.block id c) s L X J:=by
 intro B w0 ok0 ok σ a w hR hd ho;refine wp_block (wp_mono (h _ _ _ _ _ _ _ hR hd ho) ?_);rintro e a' w' ⟨s',L',X',ok',σ',h1,h2⟩;obtain⟨h3,h4⟩:=hJ _ _ _ _ h1;rcases h3 with rfl|rfl
 ·simp only[Exit.inBlock,if_true];exact⟨s',L',X',ok',σ',h4,h2⟩
 ·exact⟨s',L',X',ok',σ',h4,h2⟩
theorem zWz{T sz id:Nat}{c:Code}{s:St}{L:List Loc}{X:List (List (List Tr))}{J:Exit→St→List Loc→List (List (List Tr))→Prop}(I:Nat→St→List Loc→List (List (List Tr))→Prop)(n:Nat)(h0:I n s L X)
  (round:∀n s L X,I n s L X→VH P T sz c s L X (fun e s' L' X'=>(e=.normal∧∃m,m<n∧I m s' L' X')∨(e=.exit id∧J e s' L' X'))):VH P T sz (.loop c) s L X J:=by
 intro B w0 ok0 ok σ a w hR hd ho;refine wp_loop_ghost (fun n a w=>∃s L X ok σ,I n s L X∧R B w0 ok0 ok σ s a w∧Hid B ok w T sz L X∧Off σ s L) n ⟨s,L,X,ok,σ,h0,hR,hd,ho⟩ ?_
 rintro n a w ⟨s,L,X,ok,σ,hI,hR,hd,ho⟩;refine wp_mono (round n s L X hI _ _ _ _ _ _ _ hR hd ho) ?_
 rintro e a' w' ⟨s',L',X',ok',σ',h1,h2⟩;rcases h1 with⟨rfl,m,hm,hI'⟩|⟨rfl,hJ⟩
 ·exact⟨m,hm,s',L',X',ok',σ',hI',h2⟩
 ·exact⟨s',L',X',ok',σ',hJ,h2⟩
theorem zWv{T2 T sz oid:Nat}{c:Code}{s:St}{J:St→Prop}(h:VH P T sz c s [] [] (fun e s' L X=>e=.normal∧s'.ent oid=some (.arr T2 1 (L.map cLo.c))∧J ⟨s'.T,setE oid (.arr T2 1 (X.map fun x=>[.sl x])) s'.E⟩)):V P c s (fun e s'=>e=.normal∧J s'):=by
 intro B w0 ok0 ok σ a w hR;refine wp_mono (h _ _ _ _ _ _ _ hR ⟨rfl,fun i l x h1=>(by cases h1),fun i l g h1=>(by cases h1),fun i j l m g h1=>(by cases h1)⟩ fun id e g _ _ ⟨i,l,h1,_⟩=>(by cases h1)) ?_
 rintro e a' w' ⟨s',L',X',ok',σ',⟨rfl,h1,h2⟩,hR',hd',ho'⟩;exact⟨_,_,σ',⟨rfl,h2⟩,zPP hR' oid h1 hd' ho'⟩
def zVG:Ent→Bool
 | .box cs=>cs.all Tr.flat
 | .arr _ _ els=>els.flatten.all Tr.flat
 |_=>false
theorem zVF{ok ok':Nat→Prop}{w:World}{l:Loc}{e:Ent}(hf:zVG e=true)(h:qW ok w l e):qW ok' w l e:=by
 cases e with
 |box cs=>obtain⟨g,arr,T,h1,h2,h3⟩:=h;exact⟨g,arr,T,h1,h2,h3.flat hf⟩
 |arr e sz els=>obtain⟨h0,h1,h2,vs,h3,h4⟩:=h;exact⟨h0,h1,h2,vs,h3,h4.flat hf⟩
 |pbox l0 cs=>cases hf
 |parr l0 e sz els=>cases hf
 |mp b kvs=>cases hf
 |qarr l0 e sz els=>cases hf
theorem zRV{α:Type}(c:α→List Tr)(hc:∀x,(c x).all Tr.flat=true):∀xs:List α,(xs.map c).flatten.all Tr.flat=true
 |[]=>rfl
 |x::xs=>by rw[List.map_cons,List.flatten_cons,List.all_append,hc x,zRV c hc xs];rfl
theorem zXA{T2 T sz oid t0:Nat}{c:Code}{s s1:St}{sF sG:Value→St}{L:List Loc}{X:List (List (List Tr))}{m:List Bool}{ids:List Nat}(ho:s.ent oid=some (.arr T2 1 (L.map cLo.c)))(h3:s.get t0=.ow oid)
  (hF:∀v,(St.frz ⟨s.T.set t0 (.c (.v v)),setE oid (.arr T2 1 (X.map fun x=>[.sl x])) (setE oid (.arr T2 1 (L.map cLo.c)) s.E)⟩ oid (X.map fun x=>[.sl x]))=sF v)
  (hV:∀v,V P c (sF v) (fun e s'=>e=.normal∧s'.kp m ids=sG v)) (hg:∀v,(sG v).get t0=.c (.v v)) (hT:∀v t,((sG v).get t).flat=true∧((sG v).get t).mid oid=false)
  (hE:∀v i e,(sG v).ent i=some e→i≠oid∧zVG e=true) (h1:∀v,(⟨(sG v).T.set t0 (.ow oid),(oid,.arr T2 1 (L.map cLo.c))::(sG v).E⟩:St)=s1):VH P T sz c s L X (fun e s' L' X'=>e=.normal∧s'=s1∧L'=L∧X'=X):=by
 intro B w0 ok0 ok σ a w hR hd hoff;have hv:Rel ok σ w (.ow oid) (a.tmps.getD t0 undef):=by
  have:=hR.core.tmp t0
  rwa [h3]at this
 have hv:a.tmps.getD t0 undef=zG (σ oid):=hv;have hA:R B w0 ok0 ok σ ⟨s.T.set t0 (.c (.v (zG (σ oid)))),setE oid (.arr T2 1 (L.map cLo.c)) s.E⟩ a w:=zJ6 hR ho (fun h=>h) rfl (by rw[hv];exact Rd.v _ rfl);have hoA:(⟨s.T.set t0 (.c (.v (zG (σ oid)))),setE oid (.arr T2 1 (L.map cLo.c)) s.E⟩:St).ent oid=some (.arr T2 1 (L.map cLo.c)):=by
  have:=jX oid (.arr T2 1 (L.map cLo.c)) s.E _ ho oid
  rwa [if_pos rfl]at this
 have hoffA:Off σ ⟨s.T.set t0 (.c (.v (zG (σ oid)))),setE oid (.arr T2 1 (L.map cLo.c)) s.E⟩ L:=fun i e g hi hgi=>by
  have h5:(setE oid (.arr T2 1 (L.map cLo.c)) s.E).lookup i=some e:=hi;rw[jX oid _ _ _ ho]at h5;split at h5
  ·rename_i hio;subst hio;exact hoff _ _ g ho hgi
  ·exact hoff i e g h5 hgi
 have hB:=zPP hA oid hoA hd hoffA;have hoB:(⟨s.T.set t0 (.c (.v (zG (σ oid)))),setE oid (.arr T2 1 (X.map fun x=>[.sl x])) (setE oid (.arr T2 1 (L.map cLo.c)) s.E)⟩:St).ent oid=some (.arr T2 1 (X.map fun x=>[.sl x])):=by
  have:=jX oid (.arr T2 1 (X.map fun x=>[.sl x])) (setE oid (.arr T2 1 (L.map cLo.c)) s.E) _ hoA oid
  rwa [if_pos rfl]at this
 have hC:=zVv hB oid hoB;rw[hF]at hC;refine wp_mono (zQ8 (hV _) hC (fun _=>False) (fun g hg=>hg.elim) fun _ _ _ _ _ h=>h) ?_
 rintro e a' w' ⟨s',okZ,σZ,⟨rfl,hs'⟩,hZ,hk,_⟩;have hZ2:=hZ.le (zFp m ids s');rw[hs']at hZ2;have k1:∀g,ok g→okZ g:=fun g hg=>hk.up g (.inl (.inl hg));have k2:∀g,ok g→w'.heap[g]?=w.heap[g]?:=fun g hg=>hk.at1 g (.inl (.inl hg))
 have kb:∀g,(σ oid).blk=some g→okZ g∧w'.heap[g]?=w.heap[g]?:=fun g hg=>⟨hk.up g (.inr hg),hk.at1 g (.inr hg)⟩
 have hl3:t0<(sG (zG (σ oid))).T.length:=by
  rcases Nat.lt_or_ge t0 (sG (zG (σ oid))).T.length with h|h
  ·exact h
  ·have:=hg (zG (σ oid));unfold St.get at this;rw[List.getElem?_eq_none h]at this;cases this
 have hfin:=zZJ hA hZ2 k1 k2 oid T2 1 hoA kb ((sG (zG (σ oid))).T.set t0 (.ow oid)) (sG (zG (σ oid))).E (by rw[List.length_set];exact hZ2.core.len) (fun t=>?_) (fun i e hi=>?_)
 ·rw[h1]at hfin;refine⟨s1,L,X,ok,_,⟨rfl,rfl,rfl,rfl⟩,hfin,hd.still k2 (fun g hg=>hk.at1 g (.inl (.inr hg))) hk.size,fun i e g hi hgi hH=>?_⟩;rw[←h1 (zG (σ oid))]at hi;have hi:List.lookup i ((oid,.arr T2 1 (L.map cLo.c))::(sG (zG (σ oid))).E)=some e:=hi;simp only[List.lookup]at hi;split at hi
  ·rename_i hio;have:i=oid:=by simpa using hio
   subst this;simp only[if_true]at hgi;exact hoff _ _ g ho hgi hH
  ·rename_i hio;have hne:i≠oid:=by simpa using hio
   simp only[if_neg hne]at hgi;exact (hZ2.core.blk i e g hi hgi).1 (hk.up g (.inl (.inr hH)))
 ·have h5:=hZ2.core.tmp t;by_cases ht:t0=t
  ·subst ht;rw[List.getElem?_set,if_pos rfl,if_pos hl3];have h6:=hZ2.core.tmp t0;rw[hg]at h6;have h7:Rd okZ w' (.v (zG (σ oid))) (a'.tmps.getD t0 undef):=h6;show a'.tmps.getD t0 undef=zG _;simp only[if_true];generalize a'.tmps.getD t0 undef=y at h7;cases h7;rfl
  ·rw[List.getElem?_set,if_neg ht];exact ((h5.flat (ok':=ok) (hT _ t).1).mid oid (fun _ h=>h) (fun _ _=>rfl) (hT _ t).2 fun i hi=>if_neg hi)
 ·obtain⟨h5,h6⟩:=hE _ i e hi;exact⟨h5,hi,zVF h6 (hZ2.core.ent i e hi)⟩
theorem zZI{T sz k:Nat}{c:Code}{s:St}{sS s1:Loc→St}{L:List Loc}{X:List (List (List Tr))}{x:List (List Tr)}{m:List Bool}{ids:List Nat}(hV:V P c s (fun e s'=>e=.normal∧∃l,s'.kp m ids=sS l))(hk:∀l,(sS l).ent k=some (.qarr l T sz x))(hl:∀l,Le (s1 l) (sS l))(hn:∀l,(s1 l).ent k=none):
  VH P T sz c s L X (fun e s' L' X'=>e=.normal∧∃l,s'=s1 l∧L'=L++[l]∧X'=X++[x]):=by
 intro B w0 ok0 ok σ a w hR hd ho;refine wp_mono (zQ8 hV hR (hidB L) (fun g hg=>?_) ho) ?_
 ·obtain⟨i,l,h1,h2⟩:=hg;exact (hd.blk i l g h1 h2).2.1
 ·rintro e a' w' ⟨s',ok',σ',⟨rfl,l,hs⟩,hR',hkp,hno⟩;have hS:=hR'.le (zFp m ids s');rw[hs]at hS;have hnoS:Off σ' (sS l) L:=by
   have:=Off.le (s:=s') hno (zFp m ids s')
   rwa [hs]at this
  have he:=hS.core.ent k _ (hk l);obtain⟨hσ,he⟩:=he;have hb:∀g,l.blk=some g→¬ok' g∧g<w'.heap.size∧B.n g∧¬hidB L g:=fun g hg=>by
   have hg':(σ' k).blk=some g:=by rw[hσ];exact hg
   obtain⟨h1,h2⟩:=hS.core.blk k _ g (hk l) hg';exact⟨h1,h2,hS.own k _ g (hk l) hg',hnoS k _ g (hk l) hg'⟩
  refine⟨s1 l,L++[l],X++[x],ok',σ',⟨rfl,l,rfl,rfl,rfl⟩,hS.le (hl l),hd.snoc hkp (by rw[hσ]at he;exact he) hb,fun i e g hi hgi hH=>?_⟩;have hiS:=(hl l).ent i e hi;obtain⟨j,lj,hj,hjb⟩:=hH;rw[List.getElem?_append]at hj;split at hj
  ·exact hnoS i e g hiS hgi ⟨j,lj,hj,hjb⟩
  ·have hlj:lj=l:=by
    cases hq:j - L.length with
    |zero=>rw[hq]at hj;exact (Option.some.inj hj).symm
    |succ q=>rw[hq]at hj;cases hj
   subst hlj;have:i=k:=hS.core.inj i k _ _ g hiS (hk lj) hgi (by rw[hσ];exact hjb);subst this;rw[hn]at hi;cases hi
theorem zZH{T sz k n:Nat}{c:Code}{s:St}{sS s1:Loc→St}{L:List Loc}{X:List (List (List Tr))}{l:Loc}{x x':List (List Tr)}{m:List Bool}{ids:List Nat}(hl:L[n]?=some l)(hx:X[n]?=some x)(hk0:s.ent k=none)
  (hV:V P c ⟨zBx k s.T,(k,.qarr l T sz x)::s.E⟩ (fun e s'=>e=.normal∧∃l,s'.kp m ids=sS l)) (hk:∀l,(sS l).ent k=some (.qarr l T sz x')) (hle:∀l,Le (s1 l) (sS l)) (hn:∀l,(s1 l).ent k=none):
  VH P T sz c s L X (fun e s' L' X'=>e=.normal∧∃l,s'=s1 l∧L'=L.set n l∧X'=X.set n x'):=by
 intro B w0 ok0 ok σ a w hR hd ho;have hA:=zXD hR k T sz hk0 (hd.row n l x hl hx) (hd.blk n l · hl) fun id e g he hg hlb=>ho id e g he hg ⟨n,l,hl,hlb⟩;refine wp_mono (zQ8 hV hA (hidX L n) (fun g hg=>?_) fun id e g he hg hH=>?_) ?_
 ·obtain⟨i,l,_,h1,h2⟩:=hg;exact (hd.blk i l g h1 h2).2.1
 ·obtain⟨i,li,hin,h1,h2⟩:=hH;by_cases hik:id=k
  ·subst hik;simp only[if_true]at hg;exact hin (hd.inj i n li l g h1 hl h2 hg)
  ·simp only[if_neg hik]at hg;have he:List.lookup id ((k,.qarr l T sz x)::s.E)=some e:=he;simp only[List.lookup]at he;split at he
   ·rename_i hq;exact hik (by simpa using hq)
   ·exact ho id e g he hg ⟨i,li,h1,h2⟩
 ·rintro e a' w' ⟨s',ok',σ',⟨rfl,l',hs⟩,hR',hkp,hno⟩;have hS:=hR'.le (zFp m ids s');rw[hs]at hS;have hnoS:∀id e g,(sS l').ent id=some e→(σ' id).blk=some g→¬hidX L n g:=fun id e g he hg=>by
   rw[←hs]at he;exact hno id e g ((zFp m ids s').ent id e he) hg
  have he:=hS.core.ent k _ (hk l');obtain⟨hσ,he⟩:=he;have hb:∀g,l'.blk=some g→¬ok' g∧g<w'.heap.size∧B.n g∧¬hidX L n g:=fun g hg=>by
   have hg':(σ' k).blk=some g:=by rw[hσ];exact hg
   obtain⟨h1,h2⟩:=hS.core.blk k _ g (hk l') hg';exact⟨h1,h2,hS.own k _ g (hk l') hg',hnoS k _ g (hk l') hg'⟩
  refine⟨s1 l',L.set n l',X.set n x',ok',σ',⟨rfl,l',rfl,rfl,rfl⟩,hS.le (hle l'),hd.set hkp (by rw[hσ]at he;exact he) hb,fun i e g hi hgi hH=>?_⟩;have hiS:=(hle l').ent i e hi;obtain⟨j,lj,hj,hjb⟩:=hH;rw[List.getElem?_set]at hj;split at hj
  ·rename_i hnj;split at hj
   ·have hlj:lj=l':=(Option.some.inj hj).symm;subst hlj;have:i=k:=hS.core.inj i k _ _ g hiS (hk lj) hgi (by rw[hσ];exact hjb);subst this;rw[hn]at hi;cases hi
   ·cases hj
  ·rename_i hnj;exact hnoS i e g hiS hgi ⟨j,lj,fun e=>hnj e.symm,hj,hjb⟩
theorem V_sp{x y:Code}{s s1:St}{m:List Bool}{ids:List Nat}{J:Exit→St→Prop}(h:V P x s (fun e s'=>e=.normal∧s'.kp m ids=s1))(h2:V P y s1 J):V P (.seq x y) s J:=by refine zAS (zIb h ?_);rintro e s' ⟨rfl,hs⟩;exact zPO m ids hs h2
theorem zVt{T sz id:Nat}{c:Operand}{y:Code}{s:St}{L:List Loc}{X:List (List (List Tr))}{b:Bool}{J:Exit→St→List Loc→List (List (List Tr))→Prop}(hc:s.ev c=.c (.v (.bool b)))(ht:b=true→VH P T sz y s L X J)(hf:b=false→J (.exit id) s L X):VH P T sz (.seq (.cond c .skip (.exit id)) y) s L X J:=by
 intro B w0 ok0 ok σ a w hR hd ho;have he:=zKN hR.core hc;refine wp_seq ?_
 cases b with
 |true=>exact wp_cond_true he (wp_skip (ht rfl _ _ _ _ _ _ _ hR hd ho))
 |false=>exact wp_cond_false he (wp_exit ⟨s,L,X,ok,σ,hf rfl,hR,hd,ho⟩)
theorem zVw(T:List AV)(E E':List (Nat×Ent)):Le ⟨T,E⟩ ⟨T,E++E'⟩:=by refine⟨Nat.le_refl _,fun t=>.inr rfl,fun id e h=>?_⟩;have h:E.lookup id=some e:=h;show (E++E').lookup id=some e;rw[List.lookup_append,h];rfl
theorem zVE{s:St}{oid:Nat}(h:s.T.all (fun av=>av.flat&&!av.mid oid)=true)(t:Nat):(s.get t).flat=true∧(s.get t).mid oid=false:=by
 unfold St.get;cases ht:s.T[t]? with
 |none=>exact⟨rfl,rfl⟩
 |some av=>have h1:=List.all_eq_true.1 h av (List.mem_of_getElem? ht);rw[ze,Bool.not_eq_true']at h1;exact h1
end
noncomputable abbrev zt:=Tryz.prog
noncomputable section
def c5(x:Int):List Tr:=[.v (.int .u8 x)]
def c3(x:Int):List Tr:=[Ti x]
def c73(x:(Int×Int×Int)):List Tr:=[Ti x.1,Ti x.2.1,Ti x.2.2]
def c24(x:List Int):List Tr:=[.sl (x.map c3)]
def c98(x:(Int×Int)):List Tr:=[Ti x.1,Ti x.2]
def c50(x:List (Int×Int×Int)):List Tr:=[.sl (x.map c73)]
def ct3:CT Int:=⟨c3,1,fun _=>rfl⟩
def ct5:CT Int:=⟨c5,1,fun _=>rfl⟩
def ct24:CT (List Int):=⟨c24,1,fun _=>rfl⟩
def ct50:CT (List (Int×Int×Int)):=⟨c50,1,fun _=>rfl⟩
def ct73:CT (Int×Int×Int):=⟨c73,3,fun _=>rfl⟩
def ct98:CT (Int×Int):=⟨c98,2,fun _=>rfl⟩
def zv3:Value:=.int .i64 0
theorem zf3:(Tryz.prog.info? 3).bind (·.zero)=some zv3:=by kernel_rfl
def zv73:Value:=.agg #[.int .i64 0,.int .i64 0,.int .i64 0]
theorem zf73:(Tryz.prog.info? 73).bind (·.zero)=some zv73:=by kernel_rfl
theorem iz3:(Tryz.prog.info? 3).map (fun i=>(i.zero,i.size))=some (some zv3,1):=by kernel_rfl
theorem iz73:(Tryz.prog.info? 73).map (fun i=>(i.zero,i.size))=some (some zv73,3):=by kernel_rfl
theorem izb3:(Tryz.prog.info? 3).map (fun i=>(i.zero,i.size,i.bytes))=some (some zv3,1,8):=by kernel_rfl
theorem izb73:(Tryz.prog.info? 73).map (fun i=>(i.zero,i.size,i.bytes))=some (some zv73,3,24):=by kernel_rfl
theorem sc3:zIN zt 3:=⟨_,Tryz.underlying3,rfl⟩
theorem sc24:zIN zt 24:=⟨_,Tryz.underlying24,rfl⟩
theorem sc50:zIN zt 50:=⟨_,Tryz.underlying50,rfl⟩
theorem sc69:zIN zt 69:=⟨_,Tryz.underlying69,rfl⟩
theorem sz3:(Tryz.prog.info? 3).map (·.size)=some 1:=by kernel_rfl
theorem sz50:(Tryz.prog.info? 50).map (·.size)=some 1:=by kernel_rfl
theorem sz69:(Tryz.prog.info? 69).map (·.size)=some 1:=by kernel_rfl
theorem sz73:(Tryz.prog.info? 73).map (·.size)=some 3:=by kernel_rfl
theorem wd73:wide zt 73 3:=⟨⟨_,Tryz.underlying73,rfl⟩,by kernel_rfl⟩
theorem wd90:wide zt 90 4:=⟨⟨_,Tryz.underlying90,rfl⟩,by kernel_rfl⟩
theorem wd106:wide zt 106 12:=⟨⟨_,Tryz.underlying106,rfl⟩,by kernel_rfl⟩
theorem wd120:wide zt 120 3:=⟨⟨_,Tryz.underlying120,rfl⟩,by kernel_rfl⟩
def pl44:Nat→Option (Nat×Nat):=fun i=>(#[(0,1),(1,1),(2,1)]:Array (Nat×Nat))[i]?
theorem bt44:∀ps,Tryz.prog.built 44 ps=Instr.fill pl44 #[.slice none 0 0,.int .i64 0,.int .u64 0] ps:=fun ps=>by kernel_rfl
def pl71:Nat→Option (Nat×Nat):=fun i=>(#[(0,1),(1,1)]:Array (Nat×Nat))[i]?
theorem bt71:∀ps,Tryz.prog.built 71 ps=Instr.fill pl71 #[.slice none 0 0,.map none] ps:=fun ps=>by kernel_rfl
def pl73:Nat→Option (Nat×Nat):=fun i=>(#[(0,1),(1,1),(2,1)]:Array (Nat×Nat))[i]?
theorem bt73:∀ps,Tryz.prog.built 73 ps=Instr.fill pl73 #[.int .i64 0,.int .i64 0,.int .i64 0] ps:=fun ps=>by kernel_rfl
def pl90:Nat→Option (Nat×Nat):=fun i=>(#[(0,1),(1,1),(2,1),(3,1)]:Array (Nat×Nat))[i]?
theorem bt90:∀ps,Tryz.prog.built 90 ps=Instr.fill pl90 #[.int .i64 0,.int .i64 0,.int .i64 0,.int .i64 0] ps:=fun ps=>by kernel_rfl
def pl98:Nat→Option (Nat×Nat):=fun i=>(#[(0,1),(1,1)]:Array (Nat×Nat))[i]?
theorem bt98:∀ps,Tryz.prog.built 98 ps=Instr.fill pl98 #[.int .i64 0,.int .i64 0] ps:=fun ps=>by kernel_rfl
def zXP:Nat→Option (Nat×Nat):=fun i=>(#[(0,1),(1,1),(2,1),(3,1),(4,4),(8,4)]:Array (Nat×Nat))[i]?
theorem bt106:∀ps,Tryz.prog.built 106 ps=Instr.fill zXP #[.int .i64 0,.int .i64 0,.int .i64 0,.int .i64 0,.int .i64 0,.int .i64 0,.int .i64 0,.int .i64 0,.int .i64 0,.int .i64 0,.int .i64 0,.int .i64 0] ps:=fun ps=>by kernel_rfl
def zXO:Nat→Option (Nat×Nat):=fun i=>(#[(0,1),(1,1),(2,1)]:Array (Nat×Nat))[i]?
theorem bt120:∀ps,Tryz.prog.built 120 ps=Instr.fill zXO #[.int .i64 0,.int .i64 0,.int .i64 0] ps:=fun ps=>by kernel_rfl
theorem zXW:zVy zt .eql 73:=by
 intro a0 a1 a2 b0 b1 b2 x y w;have hg:(eqGuard .eql 73 x y (.agg #[.int .i64 a0,.int .i64 a1,.int .i64 a2]) (.agg #[.int .i64 b0,.int .i64 b1,.int .i64 b2])).run zt w=.ok () w:=by simp[eqGuard,(by kernel_rfl:Tryz.prog.eqGuardType Tryz.prog.depth 73=false)]
 have hf:(Tryz.prog.fieldsOf 73).toList=(match Tryz.prog.underlying 73 with|some (.struct fs)=>fs.toList|_=>[]):=by kernel_rfl
 refine⟨hg,?_⟩;rw[run_eql_struct,run_equalIn_agg (d:=9999) (ht:=by kernel_rfl) (hp:=by kernel_rfl),hf,Tryz.underlying73];by_cases h0:a0=b0<;>by_cases h1:a1=b1<;>by_cases h2:a2=b2<;>simp[Op.eqFields,part,go_sem,h0,h1,h2]
def ek69(x:(Int×Int×Int)):Value:=.agg #[.int .i64 x.1,.int .i64 x.2.1,.int .i64 x.2.2]
def ev69(x:Int):Value:=.int .i64 x
def kv69(p:(Int×Int×Int)×Int):Value×Value:=(ek69 p.1,ev69 p.2)
theorem kt69:KeyT zt 73 ek69:=by
 have hf:(Tryz.prog.fieldsOf 73).toList=(match Tryz.prog.underlying 73 with|some (.struct fs)=>fs.toList|_=>[]):=by kernel_rfl
 refine zUk _ Tryz.underlying73 (fun b a w=>?_) (fun a b w=>?_) (fun _ _=>rfl) (fun a=>?_)
 ·obtain⟨a0,a1,a2⟩:=a;have hi:∀(b:Bool)(a:Int)(w:World),(Instr.checkKey b 9999 3 (.int .i64 a)).run zt w=.ok () w:=fun b a w=>MapKept.run_checkKey Tryz.underlying3 (by simp[MapKept.IsKey]) b 9998;show (Instr.checkKey b (9998+1+1) _ (.agg #[.int .i64 a0,.int .i64 a1,.int .i64 a2])).run _ w=_;unfold Instr.checkKey;simp[part,go_sem,hi]
 ·obtain⟨a0,a1,a2⟩:=a;obtain⟨b0,b1,b2⟩:=b;unfold ek69;rw[show Op.equal 73=Op.equalIn 10000 73 from rfl,run_equalIn_agg (d:=9999) (ht:=by kernel_rfl) (hp:=by kernel_rfl),hf,Tryz.underlying73];by_cases h0:a0=b0<;>by_cases h1:a1=b1<;>by_cases h2:a2=b2<;>simp[Op.eqFields,part,go_sem,h0,h1,h2]
 ·obtain⟨a0,a1,a2⟩:=a;exact zTw 9999 [a0,a1,a2]
theorem mo69:MpOk zt 69 ek69 ev69 0:=⟨73,3,Tryz.underlying69,kt69,by kernel_rfl,fun _=>rfl⟩
theorem zR4:CfW zt 4:=cfW Tryz.func4
noncomputable def zRt(code1:List Int)(more2:List Int):T zt Bool:=
 .pl<|.joinC (.n0 (lenM ct5 code1)<|.selB (ltI 1048576 ((code1.length:Int))) false [.z (lenM ct5 more2),.z (lenM ct5 code1)] fun w_2=>.ret w_2) (mb 16 16) [] (fun s q_3 γ=>s.pc (mb 16 16) [] [(4,Bo (bif q_3 then true else (ltI (w64 (1048576 - ((code1.length:Int)))) ((more2.length:Int)))))] []) fun q_3=>
 .lt (bif q_3 then true else (ltI (w64 (1048576 - ((code1.length:Int)))) ((more2.length:Int)))) fun t4=>.ret t4
theorem zSD{code1:List Int}{more2:List Int}{r:Bool}(h:zCC code1 more2=some r):zF zt 4 [.c (.sl (code1.map c5)),.c (.sl (more2.map c5))] (Bo r) []:=CtT (zRt code1 more2) (fun r=>(Bo r,[])) (rs:=[.t 4]) (vs:=[.tmp 4]) Tryz.func4 rfl rfl (.cons rfl FitsL.nil) h
def zSh(code1:List Int)(more2:List Int):=fC zR4 (zCC code1 more2) fun _=>zSD
theorem zI5:CfW zt 49:=cfW Tryz.func49
noncomputable def zIk(cc1:((List Int)×Int×Int)):T zt ((Int×((List Int)×Int×Int))):=
 .pl<|
 .pl<|.join (.draw 10 []<|.n0 au<|.n0 au<|.n0 (lenM ct5 cc1.1)<|
 .cond (ltI cc1.2.1 ((cc1.1.length:Int))) (.draw 12 []<|.n0 au<|.n0 au<|.op0 (idxM ct5 cc1.1 cc1.2.1) fun e4=>.n0 au<|
 .frc (IntKind.i64.wrap e4) fun b5=>.ret b5)<|.ret 0) (mb 62 9) [80000] (fun s j2 γ=>s.pc (mb 62 9) [80000] [(3,I j2)] []) fun j2=>
 .n0 au<|.n0 au<|
 .frc (w64 (cc1.2.1+1)) fun f6=>.n0 au<|.n0 au<|.n0 au<|.n0 au<|.n0 au<|.n0 au<|
 .frc (IntKind.u64.wrap ((IntKind.u64.wrap ((IntKind.u64.wrap (cc1.2.2*6364136223846793005))+(IntKind.u64.wrap j2)))+1442695040888963407)) fun f7=>.draw 10 []<|.n0 au<|.n0 au<|.n0 (lenM ct5 cc1.1)<|
 .cond (leI f6 ((cc1.1.length:Int))) (
 .ret ((j2,(cc1.1,f6,f7))))<|.n0 au<|.n0 dvN<|.n0 au<|.n0 au<|
 .frc (IntKind.i64.wrap (andI .u64 (shrI .u64 f7 40) 255)) fun t9=>.ret ((t9,(cc1.1,f6,f7)))
theorem zIv{cc1:((List Int)×Int×Int)}{r:(Int×((List Int)×Int×Int))}(h:zBI cc1=some r):zFy zt 49 [.pt 80000 0] [(80000,.box [.sl (cc1.1.map c5),Ti cc1.2.1,.v (.int .u64 cc1.2.2)])] (I r.1) [] [(80000,.box [.sl (r.2.1.map c5),Ti r.2.2.1,.v (.int .u64 r.2.2.2)])]:=CrT (zIk cc1) (fun r=>(I r.1,[])) (fun r=>[(80000,.box [.sl (r.2.1.map c5),Ti r.2.2.1,.v (.int .u64 r.2.2.2)])]) (rs:=[.t 2]) (vs:=[.tmp 2]) Tryz.func49 rfl rfl (.cons rfl FitsL.nil) h
def zFR(cc1:((List Int)×Int×Int)):=fR zI5 (zBI cc1) fun _=>zIv
theorem zI4:CfW zt 22:=cfW Tryz.func22
noncomputable def zIj(cc1:((List Int)×Int×Int))(vn2:Int):T zt ((Int×((List Int)×Int×Int))):=
 .cond (leI vn2 1) (
 .ret ((0,cc1)))<|.opx (zFR cc1) fun y4=>
 .cond (ltI 200 vn2) (.opx (zFR y4.2) fun y6=>
 .frc (w64 ((w64 (y4.1*256))+y6.1)) fun x7=>.op0 (remF .i64 x7 vn2) fun z8=>
 .frc (Int.tmod x7 vn2) fun t9=>.ret ((t9,y6.2)))<|.op0 (remF .i64 y4.1 vn2) fun z10=>
 .frc (Int.tmod y4.1 vn2) fun t11=>.ret ((t11,y4.2))
theorem zIu{cc1:((List Int)×Int×Int)}{vn2:Int}{r:(Int×((List Int)×Int×Int))}(h:zR cc1 vn2=some r):zFy zt 22 [.pt 80000 0,I vn2] [(80000,.box [.sl (cc1.1.map c5),Ti cc1.2.1,.v (.int .u64 cc1.2.2)])] (I r.1) [] [(80000,.box [.sl (r.2.1.map c5),Ti r.2.2.1,.v (.int .u64 r.2.2.2)])]:=CrT (zIj cc1 vn2) (fun r=>(I r.1,[])) (fun r=>[(80000,.box [.sl (r.2.1.map c5),Ti r.2.2.1,.v (.int .u64 r.2.2.2)])]) (rs:=[.t 4]) (vs:=[.tmp 4]) Tryz.func22 rfl rfl (.cons rfl FitsL.nil) h
def qF(cc1:((List Int)×Int×Int))(vn2:Int):=fR zI4 (zR cc1 vn2) fun _=>zIu
theorem zHq:CfW zt 65:=cfW Tryz.func65
noncomputable def zIF(cc1:((List Int)×Int×Int))(list2:List Int):T zt ((Int×((List Int)×Int×Int))):=
 .n0 (lenM ct3 list2)<|.opx (qF cc1 ((list2.length:Int))) fun y3=>.op0 (idxM ct3 list2 y3.1) fun e4=>
 .ret ((e4,y3.2))
theorem zIP{cc1:((List Int)×Int×Int)}{list2:List Int}{r:(Int×((List Int)×Int×Int))}(h:jR cc1 list2=some r):zFy zt 65 [.pt 80000 0,.c (.sl (list2.map c3))] [(80000,.box [.sl (cc1.1.map c5),Ti cc1.2.1,.v (.int .u64 cc1.2.2)])] (I r.1) [] [(80000,.box [.sl (r.2.1.map c5),Ti r.2.2.1,.v (.int .u64 r.2.2.2)])]:=CrT (zIF cc1 list2) (fun r=>(I r.1,[])) (fun r=>[(80000,.box [.sl (r.2.1.map c5),Ti r.2.2.1,.v (.int .u64 r.2.2.2)])]) (rs:=[.t 4]) (vs:=[.tmp 4]) Tryz.func65 rfl rfl (.cons rfl FitsL.nil) h
def zCY(cc1:((List Int)×Int×Int))(list2:List Int):=fR zHq (jR cc1 list2) fun _=>zIP
theorem zO5:CfW zt 76:=cfW Tryz.func76
noncomputable def zPX(a1:Int)(vm2:Int):T zt Int:=
 .op0 (remF .i64 a1 vm2) fun z3=>
 .frc (Int.tmod a1 vm2) fun vr4=>
 .cond (ltI vr4 0) (
 .frc (w64 (vr4+vm2)) fun vr6=>
 .ret vr6)<|
 .ret vr4
theorem zPc{a1:Int}{vm2:Int}{r:Int}(h:qM a1 vm2=some r):zF zt 76 [I a1,I vm2] (I r) []:=CtT (zPX a1 vm2) (fun r=>(I r,[])) (rs:=[.t 4]) (vs:=[.tmp 4]) Tryz.func76 rfl rfl (.cons rfl FitsL.nil) h
def zAR(a1:Int)(vm2:Int):=fC zO5 (qM a1 vm2) fun _=>zPc
theorem zN7:CfW zt 77:=cfW Tryz.func77
noncomputable def zOJ(a1:Int)(b2:Int):T zt Int:=
 .cond (ltI b2 a1) (
 .ret a1)<|
 .ret b2
theorem zOU{a1:Int}{b2:Int}{r:Int}(h:zAv a1 b2=some r):zF zt 77 [I a1,I b2] (I r) []:=CtT (zOJ a1 b2) (fun r=>(I r,[])) (rs:=[.t 4]) (vs:=[.tmp 4]) Tryz.func77 rfl rfl (.cons rfl FitsL.nil) h
def zFa(a1:Int)(b2:Int):=fC zN7 (zAv a1 b2) fun _=>zOU
theorem zI6:CfW zt 53:=cfW Tryz.func53
noncomputable def zIl(cc1:((List Int)×Int×Int)):T zt ((Int×((List Int)×Int×Int))):=
 .opx (qF cc1 16) fun y2=>
 .cond (eqI y2.1 0) (.n1 bsl<|.hint (frzH 72)<|.opx (zCY y2.2 ([-3,-4,-2000,-1999,-1996,-1995,-163,-2001,-2003,-2004,0,1,5,-1,-2,-5,-9223372036854775808])) fun y4=>
 .ret ((y4.1,y4.2)))<|.join (
 .cond (eqI y2.1 1) (.ret (eqI y2.1 1))<|
 .ret (eqI y2.1 2)) (mb 42 2081) [80000] (fun s j5 γ=>s.pc (mb 42 2081) [80000] [(11,Bo j5)] []) fun j5=>
 .cond j5 (.opx (qF y2.2 1998) fun y8=>
 .frc (w64 ((-3) - y8.1)) fun d9=>.op1 (zAR d9 4) fun y10=>
 .cond (ltI 1 y10) (.op1 (zFa (-2000) (w64 (d9 - 2))) fun y12=>
 .ret ((y12,y8.2)))<|
 .ret ((d9,y8.2)))<|.join (
 .cond (eqI y2.1 3) (.ret (eqI y2.1 3))<|
 .cond (eqI y2.1 4) (.ret (eqI y2.1 4))<|
 .ret (eqI y2.1 5)) (mb 42 16777249) [80000] (fun s j13 γ=>s.pc (mb 42 16777249) [80000] [(24,Bo j13)] []) fun j13=>
 .cond j13 (.n1 bsl<|.hint (frzH 232)<|.opx (zCY y2.2 ([-84,-420,-231,-260,-455,-520,-660,-1155,-1320,-1380,-1428,-1540,-399,-1092,-1560,-1785])) fun y17=>
 .ret ((y17.1,y17.2)))<|.join (
 .cond (eqI y2.1 6) (.ret (eqI y2.1 6))<|
 .ret (eqI y2.1 7)) (mb 42 2147483649) [80000] (fun s j18 γ=>s.pc (mb 42 2147483649) [80000] [(31,Bo j18)] []) fun j18=>
 .cond j18 (.opx (qF y2.2 60) fun y21=>
 .frc (w64 ((-4)*(w64 (1+y21.1)))) fun t22=>.ret ((t22,y21.2)))<|.opx (qF y2.2 50) fun y23=>
 .frc (w64 ((-3) - (w64 (4*y23.1)))) fun t24=>.ret ((t24,y23.2))
theorem zIw{cc1:((List Int)×Int×Int)}{r:(Int×((List Int)×Int×Int))}(h:zBp cc1=some r):zFy zt 53 [.pt 80000 0] [(80000,.box [.sl (cc1.1.map c5),Ti cc1.2.1,.v (.int .u64 cc1.2.2)])] (I r.1) [] [(80000,.box [.sl (r.2.1.map c5),Ti r.2.2.1,.v (.int .u64 r.2.2.2)])]:=CrT (zIl cc1) (fun r=>(I r.1,[])) (fun r=>[(80000,.box [.sl (r.2.1.map c5),Ti r.2.2.1,.v (.int .u64 r.2.2.2)])]) (rs:=[.t 2]) (vs:=[.tmp 2]) Tryz.func53 rfl rfl (.cons rfl FitsL.nil) h
def zJ5(cc1:((List Int)×Int×Int)):=fR zI6 (zBp cc1) fun _=>zIw
theorem zQT:CfW zt 61:=cfW Tryz.func61
noncomputable def zQo(vn1:Int)(lo2:Int)(hi3:Int):T zt Bool:=
 .pl<|.joinC (.selB (leI lo2 vn1) true [] fun w_2=>.ret w_2) (mb 15 64) [] (fun s q_3 γ=>s.pc (mb 15 64) [] [(6,Bo (bif q_3 then (leI vn1 hi3) else false))] []) fun q_3=>
 .ret (bif q_3 then (leI vn1 hi3) else false)
theorem zQx{vn1:Int}{lo2:Int}{hi3:Int}{r:Bool}(h:zBo vn1 lo2 hi3=some r):zF zt 61 [I vn1,I lo2,I hi3] (Bo r) []:=CtT (zQo vn1 lo2 hi3) (fun r=>(Bo r,[])) (rs:=[.t 6]) (vs:=[.tmp 6]) Tryz.func61 rfl rfl (.cons rfl FitsL.nil) h
def zFT(vn1:Int)(lo2:Int)(hi3:Int):=fC zQT (zBo vn1 lo2 hi3) fun _=>zQx
theorem zN4:CfW zt 54:=cfW Tryz.func54
noncomputable def zOG(d1:Int):T zt Bool:=
 .pl<|.joinC (.op1 (zFT d1 (-2000) (-3)) fun y2=>.seqT (.cond y2 (.op1 (zAR d1 4) fun y4=>.ret (ltI y4 2)) (.ret false)) fun b5=>.ret (y2,b5)) (mb 10 4) [] (fun s q_1 γ=>s.pc (mb 10 4) [] [(2,Bo q_1.2)] []) fun q_1=>
 .ret q_1.2
theorem zOR{d1:Int}{r:Bool}(h:zC8 d1=some r):zF zt 54 [I d1] (Bo r) []:=CtT (zOG d1) (fun r=>(Bo r,[])) (rs:=[.t 2]) (vs:=[.tmp 2]) Tryz.func54 rfl rfl (.cons rfl FitsL.nil) h
def zIC(d1:Int):=fC zN4 (zC8 d1) fun _=>zOR
theorem zGU:CfW zt 24:=cfW Tryz.func24
noncomputable def zGb(cc1:((List Int)×Int×Int)):T zt ((Int×((List Int)×Int×Int))):=
 .opx (zJ5 cc1) fun y2=>
 .op1 (zIC y2.1) fun y3=>
 .cond (!y3) (
 .ret ((-23,y2.2)))<|
 .ret ((y2.1,y2.2))
theorem zGg{cc1:((List Int)×Int×Int)}{r:(Int×((List Int)×Int×Int))}(h:zAl cc1=some r):zFy zt 24 [.pt 80000 0] [(80000,.box [.sl (cc1.1.map c5),Ti cc1.2.1,.v (.int .u64 cc1.2.2)])] (I r.1) [] [(80000,.box [.sl (r.2.1.map c5),Ti r.2.2.1,.v (.int .u64 r.2.2.2)])]:=CrT (zGb cc1) (fun r=>(I r.1,[])) (fun r=>[(80000,.box [.sl (r.2.1.map c5),Ti r.2.2.1,.v (.int .u64 r.2.2.2)])]) (rs:=[.t 2]) (vs:=[.tmp 2]) Tryz.func24 rfl rfl (.cons rfl FitsL.nil) h
def zGp(cc1:((List Int)×Int×Int)):=fR zGU (zAl cc1) fun _=>zGg
theorem zN8:CfW zt 82:=cfW Tryz.func82
noncomputable def zOK(f1:(Int×Int×Int)):T zt Int:=
 .frc (w64 ((w64 (f1.2.1*f1.2.1)) - (w64 ((w64 (4*f1.1))*f1.2.2)))) fun t2=>.ret t2
theorem zOV{f1:(Int×Int×Int)}{r:Int}(h:zA4 f1=some r):zF zt 82 [.ag [Ti f1.1,Ti f1.2.1,Ti f1.2.2]] (I r) []:=CtT (zOK f1) (fun r=>(I r,[])) (rs:=[.t 2]) (vs:=[.tmp 2]) Tryz.func82 rfl rfl (.cons rfl FitsL.nil) h
def zDN(f1:(Int×Int×Int)):=fC zN8 (zA4 f1) fun _=>zOV
theorem zQS:∀args w,(callFunc 83 args).run zt w=.ok (.enter 83 args) w:=jM Tryz.func83 kk kk
set_option maxRecDepth 100000 in
set_option maxHeartbeats 400000 in
theorem zQw{f1:(Int×Int×Int)}{r:Bool}(h:zBm f1=some r):zF zt 83 [.ag [Ti f1.1,Ti f1.2.1,Ti f1.2.2]] (Bo r) []:=by
  refine qP (rs:=[.t 2]) (vs:=[.tmp 2]) Tryz.func83 rfl rfl (.cons rfl FitsL.nil) (by decide) 35 rfl ?_
  unfold zBm at h;show V _ _ ⟨.ag [Ti f1.1,Ti f1.2.1,Ti f1.2.2]::bt 34 [],[]⟩ _;refine zO (mb 35 2) [8] (s1:=⟨.bot::.pt 8 0::bt 33 [],[(8,.box [Ti f1.1,Ti f1.2.1,Ti f1.2.2])]⟩) ?_ ?_
  ·refine L1 rfl rfl (zK9 (cs:=[Ti f1.1,Ti f1.2.1,Ti f1.2.2]) rfl kk) ?_
   refine L0 rfl rfl (zE (Bo false) rfl kk) ?_
   refine zC ?_
   kernel_rfl
  obtain⟨t6,ht6,h⟩:=zI h;have ht6:=qB ht6;refine zO (mb 35 4) [] (s1:=⟨.bot::.bot::Bo t6::bt 32 [],[]⟩) ?_ ?_
  ·refine L0 rfl rfl (zAG (.pt 8 0) Tryz.underlying73 rfl sz3 rfl kk (by intro hh;cases hh)) ?_
   refine L0 rfl rfl (qI (c:=Ti f1.1) (cs:=[Ti f1.2.1,Ti f1.2.2]) sc3 rfl kk) ?_
   refine L0 rfl rfl (zRc (a:=f1.1) rfl kk) ?_
   refine L0 rfl rfl (zAG (.pt 8 1) Tryz.underlying73 rfl sz3 rfl kk (by intro hh;cases hh)) ?_
   refine L0 rfl rfl (qI (c:=Ti f1.2.1) (cs:=[Ti f1.2.2]) sc3 rfl kk) ?_
   refine L0 rfl rfl (zDF (k:=.i64) (a:=w64 (0 - f1.1)) (b:=f1.2.1) rfl kk kk) ?_
   refine L0 rfl rfl (zD (Bo (ltI (w64 (0 - f1.1)) f1.2.1)) rfl kk) ?_
   refine zCr (ltI (w64 (0 - f1.1)) f1.2.1) (fun hc2=>?_) (fun hc2=>?_)
   ·refine zH _ rfl rfl kk hc2 (zB rfl (zAG (.pt 8 1) Tryz.underlying73 rfl sz3 rfl kk (by intro hh;cases hh))) ?_
    refine zH _ rfl rfl kk hc2 (zB rfl (qI (c:=Ti f1.2.1) (cs:=[Ti f1.2.2]) sc3 rfl kk)) ?_
    refine zH _ rfl rfl kk hc2 (zB rfl (zAG (.pt 8 0) Tryz.underlying73 rfl sz3 rfl kk (by intro hh;cases hh))) ?_
    refine zH _ rfl rfl kk hc2 (zB rfl (qI (c:=Ti f1.1) (cs:=[Ti f1.2.1,Ti f1.2.2]) sc3 rfl kk)) ?_
    refine zH _ rfl rfl kk hc2 (zB rfl (zSb (k:=.i64) (a:=f1.2.1) (b:=f1.1) rfl kk kk)) ?_
    refine jA rfl (zB rfl (zBG (b:=ltI (w64 (0 - f1.1)) f1.2.1) (p:=leI f1.2.1 f1.1) (q:=false) rfl kk hc2 kk)) ?_
    refine L0 rfl rfl (zD (Bo (bif (ltI (w64 (0 - f1.1)) f1.2.1) then (leI f1.2.1 f1.1) else false)) rfl kk) ?_
    refine zCr (bif (ltI (w64 (0 - f1.1)) f1.2.1) then (leI f1.2.1 f1.1) else false) (fun hc3=>?_) (fun hc3=>?_)
    ·refine zH _ rfl rfl kk hc3 (zB rfl (zAG (.pt 8 0) Tryz.underlying73 rfl sz3 rfl kk (by intro hh;cases hh))) ?_
     refine zH _ rfl rfl kk hc3 (zB rfl (qI (c:=Ti f1.1) (cs:=[Ti f1.2.1,Ti f1.2.2]) sc3 rfl kk)) ?_
     refine zH _ rfl rfl kk hc3 (zB rfl (zAG (.pt 8 2) Tryz.underlying73 rfl sz3 rfl kk (by intro hh;cases hh))) ?_
     refine zH _ rfl rfl kk hc3 (zB rfl (qI (c:=Ti f1.2.2) (cs:=[]) sc3 rfl kk)) ?_
     refine zH _ rfl rfl kk hc3 (zB rfl (zDF (k:=.i64) (a:=f1.1) (b:=f1.2.2) rfl kk kk)) ?_
     refine zH _ rfl rfl kk hc3 (zB rfl (zD (Bo (ltI f1.1 f1.2.2)) rfl kk)) ?_
     refine zCr (ltI f1.1 f1.2.2) (fun hc4=>?_) (fun hc4=>?_)
     ·refine jW _ rfl rfl kk hc4 rfl ?_
      refine jW _ rfl rfl kk hc4 rfl ?_
      refine jW _ rfl rfl kk hc4 rfl ?_
      refine jW _ rfl rfl kk hc4 rfl ?_
      refine jW _ rfl rfl kk hc4 rfl ?_
      refine jW _ rfl rfl kk hc4 rfl ?_
      refine zU rfl rfl kk rfl ?_
      refine zU rfl rfl kk rfl ?_
      refine zU rfl rfl kk rfl ?_
      refine jW _ rfl rfl kk hc4 rfl ?_
      refine zH _ rfl rfl kk hc3 (zB rfl (zBG (b:=ltI f1.1 f1.2.2) (p:=true) (q:=bif (eqI f1.1 f1.2.2) then (leI 0 f1.2.1) else false) rfl kk hc4 kk)) ?_
      refine jA rfl (zB rfl (zBG (b:=bif (ltI (w64 (0 - f1.1)) f1.2.1) then (leI f1.2.1 f1.1) else false) (p:=bif (ltI f1.1 f1.2.2) then true else (bif (eqI f1.1 f1.2.2) then (leI 0 f1.2.1) else false)) (q:=false) rfl kk hc3 kk)) ?_
      refine L0 rfl rfl (zE (Bo (bif (bif (ltI (w64 (0 - f1.1)) f1.2.1) then (leI f1.2.1 f1.1) else false) then (bif (ltI f1.1 f1.2.2) then true else (bif (eqI f1.1 f1.2.2) then (leI 0 f1.2.1) else false)) else false)) rfl kk) ?_
      refine zC ?_
      subst ht6
      kernel_rfl
     ·refine zH _ rfl rfl kk hc4 (zB rfl (zAG (.pt 8 0) Tryz.underlying73 rfl sz3 rfl kk (by intro hh;cases hh))) ?_
      refine zH _ rfl rfl kk hc4 (zB rfl (qI (c:=Ti f1.1) (cs:=[Ti f1.2.1,Ti f1.2.2]) sc3 rfl kk)) ?_
      refine zH _ rfl rfl kk hc4 (zB rfl (zAG (.pt 8 2) Tryz.underlying73 rfl sz3 rfl kk (by intro hh;cases hh))) ?_
      refine zH _ rfl rfl kk hc4 (zB rfl (qI (c:=Ti f1.2.2) (cs:=[]) sc3 rfl kk)) ?_
      refine zH _ rfl rfl kk hc4 (zB rfl (zIa (k:=.i64) (a:=f1.1) (b:=f1.2.2) rfl kk kk)) ?_
      refine zH _ rfl rfl kk hc4 (zB rfl (zD (Bo (eqI f1.1 f1.2.2)) rfl kk)) ?_
      refine zCr (eqI f1.1 f1.2.2) (fun hc5=>?_) (fun hc5=>?_)
      ·refine zH _ rfl rfl kk hc5 (zB rfl (zAG (.pt 8 1) Tryz.underlying73 rfl sz3 rfl kk (by intro hh;cases hh))) ?_
       refine zH _ rfl rfl kk hc5 (zB rfl (qI (c:=Ti f1.2.1) (cs:=[Ti f1.2.2]) sc3 rfl kk)) ?_
       refine zH _ rfl rfl kk hc5 (zB rfl (zNm (k:=.i64) (a:=f1.2.1) (b:=0) rfl kk kk)) ?_
       refine zH _ rfl rfl kk hc4 (zB rfl (zBG (b:=eqI f1.1 f1.2.2) (p:=leI 0 f1.2.1) (q:=false) rfl kk hc5 kk)) ?_
       refine zH _ rfl rfl kk hc3 (zB rfl (zCA (b:=ltI f1.1 f1.2.2) (p:=true) (q:=bif (eqI f1.1 f1.2.2) then (leI 0 f1.2.1) else false) rfl kk hc4 kk)) ?_
       refine jA rfl (zB rfl (zBG (b:=bif (ltI (w64 (0 - f1.1)) f1.2.1) then (leI f1.2.1 f1.1) else false) (p:=bif (ltI f1.1 f1.2.2) then true else (bif (eqI f1.1 f1.2.2) then (leI 0 f1.2.1) else false)) (q:=false) rfl kk hc3 kk)) ?_
       refine L0 rfl rfl (zE (Bo (bif (bif (ltI (w64 (0 - f1.1)) f1.2.1) then (leI f1.2.1 f1.1) else false) then (bif (ltI f1.1 f1.2.2) then true else (bif (eqI f1.1 f1.2.2) then (leI 0 f1.2.1) else false)) else false)) rfl kk) ?_
       refine zC ?_
       subst ht6
       kernel_rfl
      ·refine qE _ rfl rfl kk hc5 rfl ?_
       refine qE _ rfl rfl kk hc5 rfl ?_
       refine qE _ rfl rfl kk hc5 rfl ?_
       refine zH _ rfl rfl kk hc4 (zB rfl (zCA (b:=eqI f1.1 f1.2.2) (p:=leI 0 f1.2.1) (q:=false) rfl kk hc5 kk)) ?_
       refine zH _ rfl rfl kk hc3 (zB rfl (zCA (b:=ltI f1.1 f1.2.2) (p:=true) (q:=bif (eqI f1.1 f1.2.2) then (leI 0 f1.2.1) else false) rfl kk hc4 kk)) ?_
       refine jA rfl (zB rfl (zBG (b:=bif (ltI (w64 (0 - f1.1)) f1.2.1) then (leI f1.2.1 f1.1) else false) (p:=bif (ltI f1.1 f1.2.2) then true else (bif (eqI f1.1 f1.2.2) then (leI 0 f1.2.1) else false)) (q:=false) rfl kk hc3 kk)) ?_
       refine L0 rfl rfl (zE (Bo (bif (bif (ltI (w64 (0 - f1.1)) f1.2.1) then (leI f1.2.1 f1.1) else false) then (bif (ltI f1.1 f1.2.2) then true else (bif (eqI f1.1 f1.2.2) then (leI 0 f1.2.1) else false)) else false)) rfl kk) ?_
       refine zC ?_
       subst ht6
       kernel_rfl
    ·refine qE _ rfl rfl kk hc3 rfl ?_
     refine qE _ rfl rfl kk hc3 rfl ?_
     refine qE _ rfl rfl kk hc3 rfl ?_
     refine qE _ rfl rfl kk hc3 rfl ?_
     refine qE _ rfl rfl kk hc3 rfl ?_
     refine qE _ rfl rfl kk hc3 rfl ?_
     refine zU rfl rfl kk rfl ?_
     refine zU rfl rfl kk rfl ?_
     refine zU rfl rfl kk rfl ?_
     refine zU rfl rfl kk rfl ?_
     refine zU rfl rfl kk rfl ?_
     refine zU rfl rfl kk rfl ?_
     refine zU rfl rfl kk rfl ?_
     refine zU rfl rfl kk rfl ?_
     refine zU rfl rfl kk rfl ?_
     refine zU rfl rfl kk rfl ?_
     refine qE _ rfl rfl kk hc3 rfl ?_
     refine jA rfl (zB rfl (zCA (b:=bif (ltI (w64 (0 - f1.1)) f1.2.1) then (leI f1.2.1 f1.1) else false) (p:=bif (ltI f1.1 f1.2.2) then true else (bif (eqI f1.1 f1.2.2) then (leI 0 f1.2.1) else false)) (q:=false) rfl kk hc3 kk)) ?_
     refine L0 rfl rfl (zE (Bo (bif (bif (ltI (w64 (0 - f1.1)) f1.2.1) then (leI f1.2.1 f1.1) else false) then (bif (ltI f1.1 f1.2.2) then true else (bif (eqI f1.1 f1.2.2) then (leI 0 f1.2.1) else false)) else false)) rfl kk) ?_
     refine zC ?_
     subst ht6
     kernel_rfl
   ·refine qE _ rfl rfl kk hc2 rfl ?_
    refine qE _ rfl rfl kk hc2 rfl ?_
    refine qE _ rfl rfl kk hc2 rfl ?_
    refine qE _ rfl rfl kk hc2 rfl ?_
    refine qE _ rfl rfl kk hc2 rfl ?_
    refine jA rfl (zB rfl (zCA (b:=ltI (w64 (0 - f1.1)) f1.2.1) (p:=leI f1.2.1 f1.1) (q:=false) rfl kk hc2 kk)) ?_
    refine L0 rfl rfl (zD (Bo (bif (ltI (w64 (0 - f1.1)) f1.2.1) then (leI f1.2.1 f1.1) else false)) rfl kk) ?_
    refine zCr (bif (ltI (w64 (0 - f1.1)) f1.2.1) then (leI f1.2.1 f1.1) else false) (fun hc3=>?_) (fun hc3=>?_)
    ·refine zH _ rfl rfl kk hc3 (zB rfl (zAG (.pt 8 0) Tryz.underlying73 rfl sz3 rfl kk (by intro hh;cases hh))) ?_
     refine zH _ rfl rfl kk hc3 (zB rfl (qI (c:=Ti f1.1) (cs:=[Ti f1.2.1,Ti f1.2.2]) sc3 rfl kk)) ?_
     refine zH _ rfl rfl kk hc3 (zB rfl (zAG (.pt 8 2) Tryz.underlying73 rfl sz3 rfl kk (by intro hh;cases hh))) ?_
     refine zH _ rfl rfl kk hc3 (zB rfl (qI (c:=Ti f1.2.2) (cs:=[]) sc3 rfl kk)) ?_
     refine zH _ rfl rfl kk hc3 (zB rfl (zDF (k:=.i64) (a:=f1.1) (b:=f1.2.2) rfl kk kk)) ?_
     refine zH _ rfl rfl kk hc3 (zB rfl (zD (Bo (ltI f1.1 f1.2.2)) rfl kk)) ?_
     refine zCr (ltI f1.1 f1.2.2) (fun hc4=>?_) (fun hc4=>?_)
     ·refine jW _ rfl rfl kk hc4 rfl ?_
      refine jW _ rfl rfl kk hc4 rfl ?_
      refine jW _ rfl rfl kk hc4 rfl ?_
      refine jW _ rfl rfl kk hc4 rfl ?_
      refine jW _ rfl rfl kk hc4 rfl ?_
      refine jW _ rfl rfl kk hc4 rfl ?_
      refine zU rfl rfl kk rfl ?_
      refine zU rfl rfl kk rfl ?_
      refine zU rfl rfl kk rfl ?_
      refine jW _ rfl rfl kk hc4 rfl ?_
      refine zH _ rfl rfl kk hc3 (zB rfl (zBG (b:=ltI f1.1 f1.2.2) (p:=true) (q:=bif (eqI f1.1 f1.2.2) then (leI 0 f1.2.1) else false) rfl kk hc4 kk)) ?_
      refine jA rfl (zB rfl (zBG (b:=bif (ltI (w64 (0 - f1.1)) f1.2.1) then (leI f1.2.1 f1.1) else false) (p:=bif (ltI f1.1 f1.2.2) then true else (bif (eqI f1.1 f1.2.2) then (leI 0 f1.2.1) else false)) (q:=false) rfl kk hc3 kk)) ?_
      refine L0 rfl rfl (zE (Bo (bif (bif (ltI (w64 (0 - f1.1)) f1.2.1) then (leI f1.2.1 f1.1) else false) then (bif (ltI f1.1 f1.2.2) then true else (bif (eqI f1.1 f1.2.2) then (leI 0 f1.2.1) else false)) else false)) rfl kk) ?_
      refine zC ?_
      subst ht6
      kernel_rfl
     ·refine zH _ rfl rfl kk hc4 (zB rfl (zAG (.pt 8 0) Tryz.underlying73 rfl sz3 rfl kk (by intro hh;cases hh))) ?_
      refine zH _ rfl rfl kk hc4 (zB rfl (qI (c:=Ti f1.1) (cs:=[Ti f1.2.1,Ti f1.2.2]) sc3 rfl kk)) ?_
      refine zH _ rfl rfl kk hc4 (zB rfl (zAG (.pt 8 2) Tryz.underlying73 rfl sz3 rfl kk (by intro hh;cases hh))) ?_
      refine zH _ rfl rfl kk hc4 (zB rfl (qI (c:=Ti f1.2.2) (cs:=[]) sc3 rfl kk)) ?_
      refine zH _ rfl rfl kk hc4 (zB rfl (zIa (k:=.i64) (a:=f1.1) (b:=f1.2.2) rfl kk kk)) ?_
      refine zH _ rfl rfl kk hc4 (zB rfl (zD (Bo (eqI f1.1 f1.2.2)) rfl kk)) ?_
      refine zCr (eqI f1.1 f1.2.2) (fun hc5=>?_) (fun hc5=>?_)
      ·refine zH _ rfl rfl kk hc5 (zB rfl (zAG (.pt 8 1) Tryz.underlying73 rfl sz3 rfl kk (by intro hh;cases hh))) ?_
       refine zH _ rfl rfl kk hc5 (zB rfl (qI (c:=Ti f1.2.1) (cs:=[Ti f1.2.2]) sc3 rfl kk)) ?_
       refine zH _ rfl rfl kk hc5 (zB rfl (zNm (k:=.i64) (a:=f1.2.1) (b:=0) rfl kk kk)) ?_
       refine zH _ rfl rfl kk hc4 (zB rfl (zBG (b:=eqI f1.1 f1.2.2) (p:=leI 0 f1.2.1) (q:=false) rfl kk hc5 kk)) ?_
       refine zH _ rfl rfl kk hc3 (zB rfl (zCA (b:=ltI f1.1 f1.2.2) (p:=true) (q:=bif (eqI f1.1 f1.2.2) then (leI 0 f1.2.1) else false) rfl kk hc4 kk)) ?_
       refine jA rfl (zB rfl (zBG (b:=bif (ltI (w64 (0 - f1.1)) f1.2.1) then (leI f1.2.1 f1.1) else false) (p:=bif (ltI f1.1 f1.2.2) then true else (bif (eqI f1.1 f1.2.2) then (leI 0 f1.2.1) else false)) (q:=false) rfl kk hc3 kk)) ?_
       refine L0 rfl rfl (zE (Bo (bif (bif (ltI (w64 (0 - f1.1)) f1.2.1) then (leI f1.2.1 f1.1) else false) then (bif (ltI f1.1 f1.2.2) then true else (bif (eqI f1.1 f1.2.2) then (leI 0 f1.2.1) else false)) else false)) rfl kk) ?_
       refine zC ?_
       subst ht6
       kernel_rfl
      ·refine qE _ rfl rfl kk hc5 rfl ?_
       refine qE _ rfl rfl kk hc5 rfl ?_
       refine qE _ rfl rfl kk hc5 rfl ?_
       refine zH _ rfl rfl kk hc4 (zB rfl (zCA (b:=eqI f1.1 f1.2.2) (p:=leI 0 f1.2.1) (q:=false) rfl kk hc5 kk)) ?_
       refine zH _ rfl rfl kk hc3 (zB rfl (zCA (b:=ltI f1.1 f1.2.2) (p:=true) (q:=bif (eqI f1.1 f1.2.2) then (leI 0 f1.2.1) else false) rfl kk hc4 kk)) ?_
       refine jA rfl (zB rfl (zBG (b:=bif (ltI (w64 (0 - f1.1)) f1.2.1) then (leI f1.2.1 f1.1) else false) (p:=bif (ltI f1.1 f1.2.2) then true else (bif (eqI f1.1 f1.2.2) then (leI 0 f1.2.1) else false)) (q:=false) rfl kk hc3 kk)) ?_
       refine L0 rfl rfl (zE (Bo (bif (bif (ltI (w64 (0 - f1.1)) f1.2.1) then (leI f1.2.1 f1.1) else false) then (bif (ltI f1.1 f1.2.2) then true else (bif (eqI f1.1 f1.2.2) then (leI 0 f1.2.1) else false)) else false)) rfl kk) ?_
       refine zC ?_
       subst ht6
       kernel_rfl
    ·refine qE _ rfl rfl kk hc3 rfl ?_
     refine qE _ rfl rfl kk hc3 rfl ?_
     refine qE _ rfl rfl kk hc3 rfl ?_
     refine qE _ rfl rfl kk hc3 rfl ?_
     refine qE _ rfl rfl kk hc3 rfl ?_
     refine qE _ rfl rfl kk hc3 rfl ?_
     refine zU rfl rfl kk rfl ?_
     refine zU rfl rfl kk rfl ?_
     refine zU rfl rfl kk rfl ?_
     refine zU rfl rfl kk rfl ?_
     refine zU rfl rfl kk rfl ?_
     refine zU rfl rfl kk rfl ?_
     refine zU rfl rfl kk rfl ?_
     refine zU rfl rfl kk rfl ?_
     refine zU rfl rfl kk rfl ?_
     refine zU rfl rfl kk rfl ?_
     refine qE _ rfl rfl kk hc3 rfl ?_
     refine jA rfl (zB rfl (zCA (b:=bif (ltI (w64 (0 - f1.1)) f1.2.1) then (leI f1.2.1 f1.1) else false) (p:=bif (ltI f1.1 f1.2.2) then true else (bif (eqI f1.1 f1.2.2) then (leI 0 f1.2.1) else false)) (q:=false) rfl kk hc3 kk)) ?_
     refine L0 rfl rfl (zE (Bo (bif (bif (ltI (w64 (0 - f1.1)) f1.2.1) then (leI f1.2.1 f1.1) else false) then (bif (ltI f1.1 f1.2.2) then true else (bif (eqI f1.1 f1.2.2) then (leI 0 f1.2.1) else false)) else false)) rfl kk) ?_
     refine zC ?_
     subst ht6
     kernel_rfl
  refine zEU ?_
  obtain rfl:=qB h;show Post _ _ _ _ _;exact⟨.inr rfl,rfl,rfl,rfl⟩
def zHW(f1:(Int×Int×Int)):=fC zQS (zBm f1) fun _=>zQw
theorem zO4:CfW zt 62:=cfW Tryz.func62
noncomputable def zPW(d1:Int):T zt (List (Int×Int×Int)):=
 .n1 (nilN 73 3 (by decide))<|
 .n1 (nilN 73 3 (by decide))<|
 .loop (fun n X_3=>zBQ d1 n X_3.1 X_3.2) ((1,([]:List (Int×Int×Int)))) (mb 47 25) [24] (fun s X_3 γ=>s.pc (mb 47 25) [24] [(4,I X_3.1)] [(24,.arr 73 3 (X_3.2.map c73))]) (fun X_3=>
 .cond (leI (w64 ((w64 (3*X_3.1))*X_3.1)) (w64 (0 - d1))) (
 .frc (w64 (1 - X_3.1)) fun b7=>.loop (fun n X_2=>zAn X_3.1 d1 n X_2.1 X_2.2) ((b7,X_3.2)) (mb 47 57) [24] (fun s X_2 γ=>s.pc (mb 47 57) [24] [(5,I X_2.1)] [(24,.arr 73 3 (X_2.2.map c73))]) (fun X_2=>
 .cond (leI X_2.1 X_3.1) (.op0 (quoF .i64 (w64 ((w64 (X_2.1*X_2.1)) - d1)) (w64 (4*X_3.1))) fun z13=>.n0 (bld pl73 bt73)<|
 .frc (w64 (Int.tdiv (w64 ((w64 (X_2.1*X_2.1)) - d1)) (w64 (4*X_3.1)))) fun f14=>.joinC (.op1 (zDN ((X_3.1,X_2.1,f14))) fun y15=>.seqT (.cond (eqI y15 d1) (.op1 (zHW ((X_3.1,X_2.1,f14))) fun y17=>.ret y17) (.ret false)) fun b18=>.ret (y15,b18)) (mb 47 2199023255673) [48,24] (fun s q_1 γ=>s.pc (mb 47 2199023255673) [48,24] [(41,Bo q_1.2)] []) fun q_1=>
 .cond q_1.2 (.n1 bsl<|.opx (app ct73 X_2.2 ([(X_3.1,X_2.1,f14)])) fun u20=>
 .frc (w64 (X_2.1+1)) fun b21=>.ret (.inl ((b21,X_2.2++([(X_3.1,X_2.1,f14)])))))<|
 .frc (w64 (X_2.1+1)) fun b22=>.ret (.inl ((b22,X_2.2))))<|.ret (.inr X_2.2)) (mb 47 25) [24] (fun s o11 γ=>s.pc (mb 47 25) [24] [] [(24,.arr 73 3 (o11.map c73))]) fun o11=>
 .frc (w64 (X_3.1+1)) fun a23=>.ret (.inl ((a23,o11))))<|.ret (.inr X_3.2)) (mb 47 8) [24] (fun s o5 γ=>s.pc (mb 47 8) [24] [] [(24,.arr 73 3 (o5.map c73))]) fun o5=>
 .ret o5
theorem zPb{d1:Int}{r:List (Int×Int×Int)}(h:zCt d1=some r):zF zt 62 [I d1] (.ow 0) [(0,.arr 73 3 (r.map c73))]:=CtT (zPW d1) (fun r=>(.ow 0,[(0,.arr 73 3 (r.map c73))])) (rs:=[.t 2]) (vs:=[.tmp 2]) Tryz.func62 rfl rfl (.cons rfl FitsL.nil) h
def zQc(d1:Int):=fC zO4 (zCt d1) fun _=>zPb
theorem zO8:CfW zt 100:=cfW Tryz.func100
noncomputable def zP0(vn1:Int):T zt Int:=
 .op1 (zFa vn1 (w64 (0 - vn1))) fun y2=>
 .ret y2
theorem zPf{vn1:Int}{r:Int}(h:zCS vn1=some r):zF zt 100 [I vn1] (I r) []:=CtT (zP0 vn1) (fun r=>(I r,[])) (rs:=[.t 2]) (vs:=[.tmp 2]) Tryz.func100 rfl rfl (.cons rfl FitsL.nil) h
def zG2(vn1:Int):=fC zO8 (zCS vn1) fun _=>zPf
theorem zO6:CfW zt 84:=cfW Tryz.func84
noncomputable def zPY(a1:Int)(b2:Int):T zt Int:=
 .op1 (zG2 a1) fun y3=>.op1 (zG2 b2) fun y4=>
 .loop (fun n X_1=>zAP n X_1.1 X_1.2) ((y3,y4)) (mb 16 3) [] (fun s X_1 γ=>s.pc (mb 16 3) [] [(0,I X_1.1),(1,I X_1.2)] []) (fun X_1=>
 .cond (!eqI X_1.2 0) (.draw 6 []<|.op0 (remF .i64 X_1.1 X_1.2) fun z10=>
 .frc (Int.tmod X_1.1 X_1.2) fun b11=>.ret (.inl ((X_1.2,b11))))<|.ret (.inr X_1.1)) (mb 16 1) [] (fun s o8 γ=>s.pc (mb 16 1) [] [(0,I o8)] []) fun o8=>
 .ret o8
theorem zPd{a1:Int}{b2:Int}{r:Int}(h:jZ a1 b2=some r):zF zt 84 [I a1,I b2] (I r) []:=CtT (zPY a1 b2) (fun r=>(I r,[])) (rs:=[.t 4]) (vs:=[.tmp 4]) Tryz.func84 rfl rfl (.cons rfl FitsL.nil) h
def zCZ(a1:Int)(b2:Int):=fC zO6 (jZ a1 b2) fun _=>zPd
theorem zJU:CfW zt 63:=cfW Tryz.func63
noncomputable def zJn(f1:(Int×Int×Int)):T zt Int:=
 .draw 9 []<|.op1 (zCZ f1.1 f1.2.1) fun y2=>.op1 (zCZ y2 f1.2.2) fun y3=>
 .ret y3
theorem zJx{f1:(Int×Int×Int)}{r:Int}(h:zAo f1=some r):zF zt 63 [.ag [Ti f1.1,Ti f1.2.1,Ti f1.2.2]] (I r) []:=CtT (zJn f1) (fun r=>(I r,[])) (rs:=[.t 2]) (vs:=[.tmp 2]) Tryz.func63 rfl rfl (.cons rfl FitsL.nil) h
def zKh(f1:(Int×Int×Int)):=fC zJU (zAo f1) fun _=>zJx
theorem zN3:CfW zt 35:=cfW Tryz.func35
noncomputable def zOF(d1:Int):T zt (List (Int×Int×Int)):=
 .n1 (nilN 73 3 (by decide))<|
 .n1 (nilN 73 3 (by decide))<|
 .op1 (zQc d1) fun y2=>.n0 (lenM ct73 y2)<|
 .loop (fun n X_1=>jY y2 n X_1.1 X_1.2) ((0,([]:List (Int×Int×Int)))) (mb 22 904) [56,24] (fun s X_1 γ=>s.pc (mb 22 904) [56,24] [(9,I X_1.1)] [(24,.arr 73 3 (X_1.2.map c73))]) (fun X_1=>
 .cond (ltI X_1.1 ((y2.length:Int))) (.op0 (zBO ct73 y2 X_1.1) fun e8=>.op0 (ldo ct73 y2 X_1.1) fun e9=>
 .op1 (zKh e9) fun y10=>
 .cond (eqI y10 1) (.n1 bsl<|.opx (app ct73 X_1.2 ([e9])) fun u12=>
 .frc (w64 (X_1.1+1)) fun t13=>.ret (.inl ((t13,X_1.2++([e9])))))<|
 .frc (w64 (X_1.1+1)) fun t14=>.ret (.inl ((t14,X_1.2))))<|.ret (.inr X_1.2)) (mb 22 8) [24] (fun s o6 γ=>s.pc (mb 22 8) [24] [] [(24,.arr 73 3 (o6.map c73))]) fun o6=>
 .ret o6
theorem zOQ{d1:Int}{r:List (Int×Int×Int)}(h:qK d1=some r):zF zt 35 [I d1] (.ow 0) [(0,.arr 73 3 (r.map c73))]:=CtT (zOF d1) (fun r=>(.ow 0,[(0,.arr 73 3 (r.map c73))])) (rs:=[.t 2]) (vs:=[.tmp 2]) Tryz.func35 rfl rfl (.cons rfl FitsL.nil) h
def zDM(d1:Int):=fC zN3 (qK d1) fun _=>zOQ
theorem zKT:CfW zt 134:=cfW Tryz.func134
noncomputable def zKw(f1:(Int×Int×Int)):T zt Int:=
 .draw 20 []<|.op1 (zAR (w64 (f1.1 - f1.2.1)) (w64 (2*f1.1))) fun y2=>.op0 (quoF .i64 (w64 ((w64 (f1.1 - f1.2.1)) - y2)) (w64 (2*f1.1))) fun z3=>
 .frc (w64 (Int.tdiv (w64 ((w64 (f1.1 - f1.2.1)) - y2)) (w64 (2*f1.1)))) fun t4=>.ret t4
theorem zLL{f1:(Int×Int×Int)}{r:Int}(h:zDP f1=some r):zF zt 134 [.ag [Ti f1.1,Ti f1.2.1,Ti f1.2.2]] (I r) []:=CtT (zKw f1) (fun r=>(I r,[])) (rs:=[.t 2]) (vs:=[.tmp 2]) Tryz.func134 rfl rfl (.cons rfl FitsL.nil) h
def zLk(f1:(Int×Int×Int)):=fC zKT (zDP f1) fun _=>zLL
theorem zN2:CfW zt 124:=cfW Tryz.func124
noncomputable def zOE(f1:(Int×Int×Int)):T zt ((Int×Int×Int×Int)):=
 .op1 (zLk f1) fun y2=>
 .cond (!eqI y2 0) (.n0 (bld pl90 bt90)<|
 .ret ((1,y2,0,1)))<|.op1 (zHW f1) fun y4=>
 .cond y4 (.n0 (bld pl90 bt90)<|
 .ret ((1,0,0,1)))<|.n0 (bld pl90 bt90)<|
 .ret ((0,-1,1,0))
theorem zOP{f1:(Int×Int×Int)}{r:(Int×Int×Int×Int)}(h:zC7 f1=some r):zF zt 124 [.ag [Ti f1.1,Ti f1.2.1,Ti f1.2.2]] (.ag [Ti r.1,Ti r.2.1,Ti r.2.2.1,Ti r.2.2.2]) []:=CtT (zOE f1) (fun r=>(.ag [Ti r.1,Ti r.2.1,Ti r.2.2.1,Ti r.2.2.2],[])) (rs:=[.w 2 4]) (vs:=[.cell 2 90]) Tryz.func124 rfl rfl (.cons ⟨rfl,wd90⟩ FitsL.nil) h
def zOe(f1:(Int×Int×Int)):=fC zN2 (zC7 f1) fun _=>zOP
theorem zL5:CfW zt 106:=cfW Tryz.func106
noncomputable def zMS(f1:(Int×Int×Int))(x2:Int)(y3:Int):T zt Int:=
 .frc (w64 ((w64 ((w64 ((w64 (f1.1*x2))*x2))+(w64 ((w64 (f1.2.1*x2))*y3))))+(w64 ((w64 (f1.2.2*y3))*y3)))) fun t4=>.ret t4
theorem zMg{f1:(Int×Int×Int)}{x2:Int}{y3:Int}{r:Int}(h:zA7 f1 x2 y3=some r):zF zt 106 [.ag [Ti f1.1,Ti f1.2.1,Ti f1.2.2],I x2,I y3] (I r) []:=CtT (zMS f1 x2 y3) (fun r=>(I r,[])) (rs:=[.t 6]) (vs:=[.tmp 6]) Tryz.func106 rfl rfl (.cons rfl FitsL.nil) h
def zCs(f1:(Int×Int×Int))(x2:Int)(y3:Int):=fC zL5 (zA7 f1 x2 y3) fun _=>zMg
theorem zL6:CfW zt 127:=cfW Tryz.func127
noncomputable def zMT(f1:(Int×Int×Int))(x2:Int)(y3:Int)(u4:Int)(v5:Int):T zt Int:=
 .frc (w64 ((w64 ((w64 ((w64 ((w64 (2*f1.1))*x2))*u4))+(w64 (f1.2.1*(w64 ((w64 (x2*v5))+(w64 (y3*u4))))))))+(w64 ((w64 ((w64 (2*f1.2.2))*y3))*v5)))) fun t6=>.ret t6
theorem zMh{f1:(Int×Int×Int)}{x2:Int}{y3:Int}{u4:Int}{v5:Int}{r:Int}(h:zCj f1 x2 y3 u4 v5=some r):zF zt 127 [.ag [Ti f1.1,Ti f1.2.1,Ti f1.2.2],I x2,I y3,I u4,I v5] (I r) []:=CtT (zMT f1 x2 y3 u4 v5) (fun r=>(I r,[])) (rs:=[.t 10]) (vs:=[.tmp 10]) Tryz.func127 rfl rfl (.cons rfl FitsL.nil) h
def zHY(f1:(Int×Int×Int))(x2:Int)(y3:Int)(u4:Int)(v5:Int):=fC zL6 (zCj f1 x2 y3 u4 v5) fun _=>zMh
theorem zOa:CfW zt 125:=cfW Tryz.func125
noncomputable def zP2(f1:(Int×Int×Int))(vm2:(Int×Int×Int×Int)):T zt ((Int×Int×Int)):=
 .draw 23 []<|.op1 (zCs f1 vm2.1 vm2.2.2.1) fun y3=>.op1 (zHY f1 vm2.1 vm2.2.2.1 vm2.2.1 vm2.2.2.2) fun y4=>.op1 (zCs f1 vm2.2.1 vm2.2.2.2) fun y5=>.n0 (bld pl73 bt73)<|
 .ret ((y3,y4,y5))
theorem zPh{f1:(Int×Int×Int)}{vm2:(Int×Int×Int×Int)}{r:(Int×Int×Int)}(h:zE8 f1 vm2=some r):zF zt 125 [.ag [Ti f1.1,Ti f1.2.1,Ti f1.2.2],.ag [Ti vm2.1,Ti vm2.2.1,Ti vm2.2.2.1,Ti vm2.2.2.2]] (.ag [Ti r.1,Ti r.2.1,Ti r.2.2]) []:=CtT (zP2 f1 vm2) (fun r=>(.ag [Ti r.1,Ti r.2.1,Ti r.2.2],[])) (rs:=[.w 4 3]) (vs:=[.cell 4 73]) Tryz.func125 rfl rfl (.cons ⟨rfl,wd73⟩ FitsL.nil) h
def zQe(f1:(Int×Int×Int))(vm2:(Int×Int×Int×Int)):=fC zOa (zE8 f1 vm2) fun _=>zPh
theorem zO9:CfW zt 110:=cfW Tryz.func110
noncomputable def zP1(vm1:(Int×Int×Int×Int))(vn2:(Int×Int×Int×Int)):T zt ((Int×Int×Int×Int)):=
 .n0 (bld pl90 bt90)<|
 .frc (w64 ((w64 (vm1.1*vn2.1))+(w64 (vm1.2.1*vn2.2.2.1)))) fun f3=>.frc (w64 ((w64 (vm1.1*vn2.2.1))+(w64 (vm1.2.1*vn2.2.2.2)))) fun f4=>.frc (w64 ((w64 (vm1.2.2.1*vn2.1))+(w64 (vm1.2.2.2*vn2.2.2.1)))) fun f5=>.frc (w64 ((w64 (vm1.2.2.1*vn2.2.1))+(w64 (vm1.2.2.2*vn2.2.2.2)))) fun f6=>.ret ((f3,f4,f5,f6))
theorem zPg{vm1:(Int×Int×Int×Int)}{vn2:(Int×Int×Int×Int)}{r:(Int×Int×Int×Int)}(h:qJ vm1 vn2=some r):zF zt 110 [.ag [Ti vm1.1,Ti vm1.2.1,Ti vm1.2.2.1,Ti vm1.2.2.2],.ag [Ti vn2.1,Ti vn2.2.1,Ti vn2.2.2.1,Ti vn2.2.2.2]] (.ag [Ti r.1,Ti r.2.1,Ti r.2.2.1,Ti r.2.2.2]) []:=CtT (zP1 vm1 vn2) (fun r=>(.ag [Ti r.1,Ti r.2.1,Ti r.2.2.1,Ti r.2.2.2],[])) (rs:=[.w 4 4]) (vs:=[.cell 4 90]) Tryz.func110 rfl rfl (.cons ⟨rfl,wd90⟩ FitsL.nil) h
def zEa(vm1:(Int×Int×Int×Int))(vn2:(Int×Int×Int×Int)):=fC zO9 (qJ vm1 vn2) fun _=>zPg
theorem zKS:CfW zt 107:=cfW Tryz.func107
noncomputable def zKv(f1:(Int×Int×Int)):T zt (((Int×Int×Int)×(Int×Int×Int×Int))):=
 .n0 (bld pl90 bt90)<|
 .loop (fun n X_1=>zB3 n X_1.1 X_1.2.1 X_1.2.2.1 X_1.2.2.2.1 X_1.2.2.2.2.1 X_1.2.2.2.2.2.1 X_1.2.2.2.2.2.2) ((1,0,0,1,f1.1,f1.2.1,f1.2.2)) (mb 20 30) [32,24,16,8] (fun s X_1 γ=>s.pc (mb 20 30) [32,24,16,8] [] [(32,.box [Ti X_1.1,Ti X_1.2.1,Ti X_1.2.2.1,Ti X_1.2.2.2.1]),(8,.box [Ti X_1.2.2.2.2.1,Ti X_1.2.2.2.2.2.1,Ti X_1.2.2.2.2.2.2])]) (fun X_1=>
 .op1 (zHW ((X_1.2.2.2.2.1,X_1.2.2.2.2.2.1,X_1.2.2.2.2.2.2))) fun y11=>
 .cond (!y11) (.op1 (zOe ((X_1.2.2.2.2.1,X_1.2.2.2.2.2.1,X_1.2.2.2.2.2.2))) fun y13=>
 .draw 6 []<|.op1 (zQe ((X_1.2.2.2.2.1,X_1.2.2.2.2.2.1,X_1.2.2.2.2.2.2)) y13) fun y14=>.op1 (zEa ((X_1.1,X_1.2.1,X_1.2.2.1,X_1.2.2.2.1)) y13) fun y15=>
 .ret (.inl ((y15.1,y15.2.1,y15.2.2.1,y15.2.2.2,y14.1,y14.2.1,y14.2.2))))<|.ret (.inr ((X_1.1,X_1.2.1,X_1.2.2.1,X_1.2.2.2.1,X_1.2.2.2.2.1,X_1.2.2.2.2.2.1,X_1.2.2.2.2.2.2)))) (mb 20 30) [32,24,16,8] (fun s o10 γ=>s.pc (mb 20 30) [32,24,16,8] [] [(32,.box [Ti o10.1,Ti o10.2.1,Ti o10.2.2.1,Ti o10.2.2.2.1]),(8,.box [Ti o10.2.2.2.2.1,Ti o10.2.2.2.2.2.1,Ti o10.2.2.2.2.2.2])]) fun o10=>
 .draw 3 [(2,16)]<|
 .ret ((o10.2.2.2.2,(o10.1,o10.2.1,o10.2.2.1,o10.2.2.2.1)))
theorem zLK{f1:(Int×Int×Int)}{r:((Int×Int×Int)×(Int×Int×Int×Int))}(h:qL f1=some r):zF zt 107 [.ag [Ti f1.1,Ti f1.2.1,Ti f1.2.2]] (.tc (.ag [Ti r.1.1,Ti r.1.2.1,Ti r.1.2.2]) (.tc (.ag [Ti r.2.1,Ti r.2.2.1,Ti r.2.2.2.1,Ti r.2.2.2.2]) .tn)) []:=CtT (zKv f1) (fun r=>(.tc (.ag [Ti r.1.1,Ti r.1.2.1,Ti r.1.2.2]) (.tc (.ag [Ti r.2.1,Ti r.2.2.1,Ti r.2.2.2.1,Ti r.2.2.2.2]) .tn),[])) (rs:=[.w 2 3,.w 3 4]) (vs:=[.cell 2 73,.cell 3 90]) Tryz.func107 rfl rfl (.cons ⟨rfl,wd73⟩ (.cons ⟨rfl,wd90⟩ FitsL.nil)) h
def zE2(f1:(Int×Int×Int)):=fC zKS (qL f1) fun _=>zLK
theorem zL9:CfW zt 108:=cfW Tryz.func108
noncomputable def zMW(g1:(Int×Int×Int))(a2:Int):T zt ((Int×Int)):=
 .loopS (fun n X_4=>zBu a2 g1 n X_4) 1 (mb 45 70) [16] (fun s X_4 γ=>s.pc (mb 45 70) [16] [(6,I X_4)] []) (fun X_4=>
 .cond (leI X_4 100) (
 .loopS (fun n X_3=>zBt a2 g1 X_4 n X_3) 0 (mb 45 198) [16] (fun s X_3 γ=>s.pc (mb 45 198) [16] [(7,I X_3)] []) (fun X_3=>
 .cond (leI X_3 X_4) (
 .loopS (fun n X_2=>zB9 a2 g1 X_4 X_3 n X_2) 0 (mb 45 454) [16] (fun s X_2 γ=>s.pc (mb 45 454) [16] [(8,I X_2)] []) (fun X_2=>
 .cond (leI X_2 X_4) (.pl<|.dn<|.joinC (.op1 (zFa X_3 X_2) fun y15=>.seqT (.cond (eqI y15 X_4) (.op1 (zCZ X_3 X_2) fun y17=>.ret (eqI y17 1)) (.ret false)) fun b18=>.seqT (.cond b18 (.op1 (zCs g1 X_3 X_2) fun y20=>.op1 (zCZ y20 a2) fun y21=>.ret (eqI y21 1)) (.ret false)) fun b22=>.ret (y15,b18,b22)) (mb 45 4398046511558) [16] (fun s q_1 γ=>s.pc (mb 45 4398046511558) [16] [(42,Bo q_1.2.2)] []) fun q_1=>
 .cond q_1.2.2 (
 .ret (.early ((X_3,X_2))))<|
 .frc (w64 (X_2+1)) fun y24=>.ret (.again y24))<|.ret (.done (()))) (mb 45 198) [16] (fun s o13 γ=>s.pc (mb 45 198) [16] [] []) (.early) fun o13=>
 .frc (w64 (X_3+1)) fun x25=>.ret (.again x25))<|.ret (.done (()))) (mb 45 70) [16] (fun s o9 γ=>s.pc (mb 45 70) [16] [] []) (.early) fun o9=>
 .frc (w64 (X_4+1)) fun k26=>.ret (.again k26))<|.ret (.done (()))) (mb 45 0) [] (fun s o5 γ=>s.pc (mb 45 0) [] [] []) (fun r=>r) fun o5=>
 .ret ((1,0))
theorem zMk{g1:(Int×Int×Int)}{a2:Int}{r:(Int×Int)}(h:zBa g1 a2=some r):zF zt 108 [.ag [Ti g1.1,Ti g1.2.1,Ti g1.2.2],I a2] (.tc (I r.1) (.tc (I r.2) .tn)) []:=CtT (zMW g1 a2) (fun r=>(.tc (I r.1) (.tc (I r.2) .tn),[])) (rs:=[.t 4,.t 5]) (vs:=[.tmp 4,.tmp 5]) Tryz.func108 rfl rfl (.cons rfl (.cons rfl FitsL.nil)) h
def zNy(g1:(Int×Int×Int))(a2:Int):=fC zL9 (zBa g1 a2) fun _=>zMk
theorem zN5:CfW zt 135:=cfW Tryz.func135
noncomputable def zOH(vn1:Int):T zt Int:=
 .cond (ltI 0 vn1) (
 .ret 1)<|
 .cond (ltI vn1 0) (
 .ret (-1))<|
 .ret 0
theorem zOS{vn1:Int}{r:Int}(h:zFY vn1=some r):zF zt 135 [I vn1] (I r) []:=CtT (zOH vn1) (fun r=>(I r,[])) (rs:=[.t 2]) (vs:=[.tmp 2]) Tryz.func135 rfl rfl (.cons rfl FitsL.nil) h
def zOf(vn1:Int):=fC zN5 (zFY vn1) fun _=>zOS
theorem zJQ:CfW zt 128:=cfW Tryz.func128
noncomputable def zJj(a1:Int)(vm2:Int):T zt Int:=
 .op1 (zAR a1 vm2) fun y3=>
 .loop (fun n X_1=>zBU vm2 n X_1.1 X_1.2.1 X_1.2.2.1 X_1.2.2.2) ((vm2,y3,0,1)) (mb 36 482) [] (fun s X_1 γ=>s.pc (mb 36 482) [] [(5,I X_1.1),(6,I X_1.2.1),(7,I X_1.2.2.1),(8,I X_1.2.2.2)] []) (fun X_1=>
 .cond (!eqI X_1.2.1 0) (.op0 (quoF .i64 X_1.1 X_1.2.1) fun z11=>
 .frc (w64 (Int.tdiv X_1.1 X_1.2.1)) fun q12=>
 .frc (w64 (X_1.1 - (w64 (q12*X_1.2.1)))) fun next13=>
 .frc (w64 (X_1.2.2.1 - (w64 (q12*X_1.2.2.2)))) fun y14=>.ret (.inl ((X_1.2.1,next13,X_1.2.2.2,y14))))<|.ret (.inr ((X_1.1,X_1.2.2.1)))) (mb 36 162) [] (fun s o9 γ=>s.pc (mb 36 162) [] [(5,I o9.1),(7,I o9.2)] []) fun o9=>
 .cond (!eqI o9.1 1) (
 .ret (-1))<|.op1 (zAR o9.2 vm2) fun y16=>
 .ret y16
theorem zJt{a1:Int}{vm2:Int}{r:Int}(h:zBX a1 vm2=some r):zF zt 128 [I a1,I vm2] (I r) []:=CtT (zJj a1 vm2) (fun r=>(I r,[])) (rs:=[.t 4]) (vs:=[.tmp 4]) Tryz.func128 rfl rfl (.cons rfl FitsL.nil) h
def zFz(a1:Int)(vm2:Int):=fC zJQ (zBX a1 vm2) fun _=>zJt
theorem zKW:CfW zt 126:=cfW Tryz.func126
noncomputable def zKz(a1:Int)(b2:Int):T zt ((Int×Int×Int)):=
 .op1 (zCZ a1 b2) fun y3=>
 .cond (eqI b2 0) (.op1 (zOf a1) fun y5=>
 .ret ((y3,y5,0)))<|.draw 9 []<|.op0 (quoF .i64 a1 y3) fun z6=>.op1 (zG2 b2) fun y7=>.op0 (quoF .i64 y7 y3) fun z8=>.op1 (zFz (w64 (Int.tdiv a1 y3)) (w64 (Int.tdiv y7 y3))) fun y9=>
 .draw 12 []<|.op0 (quoF .i64 (w64 (y3 - (w64 (a1*y9)))) b2) fun z10=>
 .frc (w64 (Int.tdiv (w64 (y3 - (w64 (a1*y9)))) b2)) fun t11=>.ret ((y3,y9,t11))
theorem zLO{a1:Int}{b2:Int}{r:(Int×Int×Int)}(h:zC1 a1 b2=some r):zF zt 126 [I a1,I b2] (.tc (I r.1) (.tc (I r.2.1) (.tc (I r.2.2) .tn))) []:=CtT (zKz a1 b2) (fun r=>(.tc (I r.1) (.tc (I r.2.1) (.tc (I r.2.2) .tn)),[])) (rs:=[.t 4,.t 5,.t 6]) (vs:=[.tmp 4,.tmp 5,.tmp 6]) Tryz.func126 rfl rfl (.cons rfl (.cons rfl (.cons rfl FitsL.nil))) h
def zLm(a1:Int)(b2:Int):=fC zKW (zC1 a1 b2) fun _=>zLO
theorem zI2:CfW zt 109:=cfW Tryz.func109
noncomputable def zIh(f1:(Int×Int×Int))(x2:Int)(y3:Int):T zt (((Int×Int×Int)×(Int×Int×Int×Int))):=
 .op1 (zLm x2 y3) fun y4=>
 .op1 (zCs f1 x2 y3) fun y5=>
 .frc (w64 (0 - y4.2.2)) fun q6=>.op1 (zHY f1 x2 y3 q6 y4.2.1) fun y7=>
 .op1 (zAR y7 (w64 (2*y5))) fun y8=>.op0 (quoF .i64 (w64 (y8 - y7)) (w64 (2*y5))) fun z9=>
 .frc (w64 (Int.tdiv (w64 (y8 - y7)) (w64 (2*y5)))) fun t10=>.n0 (bld pl90 bt90)<|
 .frc (w64 (q6+(w64 (x2*t10)))) fun f11=>.frc (w64 (y4.2.1+(w64 (y3*t10)))) fun f12=>
 .frc (w64 (y7+(w64 ((w64 (2*y5))*t10)))) fun b13=>.draw 14 [(13,48)]<|.op1 (zDN f1) fun y14=>.op0 (quoF .i64 (w64 ((w64 (b13*b13)) - y14)) (w64 (4*y5))) fun z15=>.n0 (bld pl73 bt73)<|
 .frc (w64 (Int.tdiv (w64 ((w64 (b13*b13)) - y14)) (w64 (4*y5)))) fun f16=>.ret (((y5,b13,f16),(x2,f11,y3,f12)))
theorem zIs{f1:(Int×Int×Int)}{x2:Int}{y3:Int}{r:((Int×Int×Int)×(Int×Int×Int×Int))}(h:zAC f1 x2 y3=some r):zF zt 109 [.ag [Ti f1.1,Ti f1.2.1,Ti f1.2.2],I x2,I y3] (.tc (.ag [Ti r.1.1,Ti r.1.2.1,Ti r.1.2.2]) (.tc (.ag [Ti r.2.1,Ti r.2.2.1,Ti r.2.2.2.1,Ti r.2.2.2.2]) .tn)) []:=CtT (zIh f1 x2 y3) (fun r=>(.tc (.ag [Ti r.1.1,Ti r.1.2.1,Ti r.1.2.2]) (.tc (.ag [Ti r.2.1,Ti r.2.2.1,Ti r.2.2.2.1,Ti r.2.2.2.2]) .tn),[])) (rs:=[.w 6 3,.w 7 4]) (vs:=[.cell 6 73,.cell 7 90]) Tryz.func109 rfl rfl (.cons ⟨rfl,wd73⟩ (.cons ⟨rfl,wd90⟩ FitsL.nil)) h
def zJa(f1:(Int×Int×Int))(x2:Int)(y3:Int):=fC zI2 (zAC f1 x2 y3) fun _=>zIs
theorem zKV:CfW zt 111:=cfW Tryz.func111
noncomputable def zKy(a1:Int)(vm2:Int)(b3:Int)(vn4:Int):T zt ((Int×Int×Bool)):=
 .op1 (zCZ vm2 vn4) fun y5=>
 .op0 (remF .i64 (w64 (b3 - a1)) y5) fun z6=>
 .cond (!eqI (Int.tmod (w64 (b3 - a1)) y5) 0) (
 .ret ((0,0,false)))<|.draw 18 []<|.op0 (quoF .i64 (w64 (b3 - a1)) y5) fun z8=>.op0 (quoF .i64 vm2 y5) fun z9=>.op0 (quoF .i64 vn4 y5) fun z10=>.op1 (zFz (w64 (Int.tdiv vm2 y5)) (w64 (Int.tdiv vn4 y5))) fun y11=>.op0 (quoF .i64 vn4 y5) fun z12=>.op1 (zAR (w64 ((w64 (Int.tdiv (w64 (b3 - a1)) y5))*y11)) (w64 (Int.tdiv vn4 y5))) fun y13=>
 .op0 (quoF .i64 vm2 y5) fun z14=>
 .frc (w64 ((w64 (Int.tdiv vm2 y5))*vn4)) fun all15=>.op1 (zAR (w64 (a1+(w64 (vm2*y13)))) all15) fun y16=>
 .ret ((y16,all15,true))
theorem zLN{a1:Int}{vm2:Int}{b3:Int}{vn4:Int}{r:(Int×Int×Bool)}(h:zBi a1 vm2 b3 vn4=some r):zF zt 111 [I a1,I vm2,I b3,I vn4] (.tc (I r.1) (.tc (I r.2.1) (.tc (Bo r.2.2) .tn))) []:=CtT (zKy a1 vm2 b3 vn4) (fun r=>(.tc (I r.1) (.tc (I r.2.1) (.tc (Bo r.2.2) .tn)),[])) (rs:=[.t 8,.t 9,.t 10]) (vs:=[.tmp 8,.tmp 9,.tmp 10]) Tryz.func111 rfl rfl (.cons rfl (.cons rfl (.cons rfl FitsL.nil))) h
def zLl(a1:Int)(vm2:Int)(b3:Int)(vn4:Int):=fC zKV (zBi a1 vm2 b3 vn4) fun _=>zLN
theorem zL8:CfW zt 112:=cfW Tryz.func112
noncomputable def zMV(t1:Int):T zt ((Int×Int×Int×Int)):=
 .n0 (bld pl90 bt90)<|
 .ret ((1,t1,0,1))
theorem zMj{t1:Int}{r:(Int×Int×Int×Int)}(h:zCk t1=some r):zF zt 112 [I t1] (.ag [Ti r.1,Ti r.2.1,Ti r.2.2.1,Ti r.2.2.2]) []:=CtT (zMV t1) (fun r=>(.ag [Ti r.1,Ti r.2.1,Ti r.2.2.1,Ti r.2.2.2],[])) (rs:=[.w 2 4]) (vs:=[.cell 2 90]) Tryz.func112 rfl rfl (.cons ⟨rfl,wd90⟩ FitsL.nil) h
def zHZ(t1:Int):=fC zL8 (zCk t1) fun _=>zMj
theorem zL7:CfW zt 95:=cfW Tryz.func95
noncomputable def zMU(f1:(Int×Int×Int))(g2:(Int×Int×Int)):T zt (((Int×Int×Int)×(Int×Int×Int)×(Int×Int×Int×Int)×(Int×Int×Int×Int))):=
 .op1 (zE2 f1) fun y3=>
 .op1 (zE2 g2) fun y4=>
 .op1 (zNy y4.1 y3.1.1) fun y5=>
 .op1 (zJa y4.1 y5.1 y5.2) fun y6=>
 .op1 (zEa y4.2 y6.2) fun y7=>
 .draw 22 []<|.op1 (zAR y3.1.2.1 (w64 (2*y3.1.1))) fun y8=>.op1 (zLl y8 (w64 (2*y3.1.1)) y6.1.2.1 (w64 (2*y6.1.1))) fun y9=>
 .draw 11 []<|.op0 (quoF .i64 (w64 (y9.1 - y3.1.2.1)) (w64 (2*y3.1.1))) fun z10=>.op1 (zHZ (w64 (Int.tdiv (w64 (y9.1 - y3.1.2.1)) (w64 (2*y3.1.1))))) fun y11=>.op1 (zEa y3.2 y11) fun y12=>
 .draw 11 []<|.op0 (quoF .i64 (w64 (y9.1 - y6.1.2.1)) (w64 (2*y6.1.1))) fun z13=>.op1 (zHZ (w64 (Int.tdiv (w64 (y9.1 - y6.1.2.1)) (w64 (2*y6.1.1))))) fun y14=>.op1 (zEa y7 y14) fun y15=>
 .draw 14 []<|.op1 (zDN y3.1) fun y16=>.op0 (quoF .i64 (w64 ((w64 (y9.1*y9.1)) - y16)) (w64 ((w64 (4*y3.1.1))*y6.1.1))) fun z17=>
 .frc (w64 (Int.tdiv (w64 ((w64 (y9.1*y9.1)) - y16)) (w64 ((w64 (4*y3.1.1))*y6.1.1)))) fun cc18=>.draw 21 [(18,32),(19,40),(20,48)]<|.n0 (bld pl73 bt73)<|.n0 (bld pl73 bt73)<|
 .frc (w64 (y3.1.1*cc18)) fun f19=>.frc (w64 (y6.1.1*cc18)) fun f20=>.ret (((y3.1.1,y9.1,f20),(y6.1.1,y9.1,f19),y12,y15))
theorem zMi{f1:(Int×Int×Int)}{g2:(Int×Int×Int)}{r:((Int×Int×Int)×(Int×Int×Int)×(Int×Int×Int×Int)×(Int×Int×Int×Int))}(h:zB8 f1 g2=some r):zF zt 95 [.ag [Ti f1.1,Ti f1.2.1,Ti f1.2.2],.ag [Ti g2.1,Ti g2.2.1,Ti g2.2.2]] (.tc (.ag [Ti r.1.1,Ti r.1.2.1,Ti r.1.2.2]) (.tc (.ag [Ti r.2.1.1,Ti r.2.1.2.1,Ti r.2.1.2.2]) (.tc (.ag [Ti r.2.2.1.1,Ti r.2.2.1.2.1,Ti r.2.2.1.2.2.1,Ti r.2.2.1.2.2.2]) (.tc (.ag [Ti r.2.2.2.1,Ti r.2.2.2.2.1,Ti r.2.2.2.2.2.1,Ti r.2.2.2.2.2.2]) .tn)))) []:=CtT (zMU f1 g2) (fun r=>(.tc (.ag [Ti r.1.1,Ti r.1.2.1,Ti r.1.2.2]) (.tc (.ag [Ti r.2.1.1,Ti r.2.1.2.1,Ti r.2.1.2.2]) (.tc (.ag [Ti r.2.2.1.1,Ti r.2.2.1.2.1,Ti r.2.2.1.2.2.1,Ti r.2.2.1.2.2.2]) (.tc (.ag [Ti r.2.2.2.1,Ti r.2.2.2.2.1,Ti r.2.2.2.2.2.1,Ti r.2.2.2.2.2.2]) .tn))),[])) (rs:=[.w 4 3,.w 5 3,.w 6 4,.w 7 4]) (vs:=[.cell 4 73,.cell 5 73,.cell 6 90,.cell 7 90]) Tryz.func95 rfl rfl (.cons ⟨rfl,wd73⟩ (.cons ⟨rfl,wd73⟩ (.cons ⟨rfl,wd90⟩ (.cons ⟨rfl,wd90⟩ FitsL.nil)))) h
def zNx(f1:(Int×Int×Int))(g2:(Int×Int×Int)):=fC zL7 (zB8 f1 g2) fun _=>zMi
theorem zKY:CfW zt 96:=cfW Tryz.func96
noncomputable def zLB(a1:(Int×Int×Int))(e2:(Int×Int×Int)):T zt ((Int×Int×Int)):=
 .draw 13 []<|.op0 (quoF .i64 a1.2.2 e2.1) fun z3=>.n0 (bld pl73 bt73)<|
 .frc (w64 (a1.1*e2.1)) fun f4=>.frc (w64 (Int.tdiv a1.2.2 e2.1)) fun f5=>.ret ((f4,a1.2.1,f5))
theorem zLQ{a1:(Int×Int×Int)}{e2:(Int×Int×Int)}{r:(Int×Int×Int)}(h:zDQ a1 e2=some r):zF zt 96 [.ag [Ti a1.1,Ti a1.2.1,Ti a1.2.2],.ag [Ti e2.1,Ti e2.2.1,Ti e2.2.2]] (.ag [Ti r.1,Ti r.2.1,Ti r.2.2]) []:=CtT (zLB a1 e2) (fun r=>(.ag [Ti r.1,Ti r.2.1,Ti r.2.2],[])) (rs:=[.w 4 3]) (vs:=[.cell 4 73]) Tryz.func96 rfl rfl (.cons ⟨rfl,wd73⟩ FitsL.nil) h
def zLn(a1:(Int×Int×Int))(e2:(Int×Int×Int)):=fC zKY (zDQ a1 e2) fun _=>zLQ
theorem zL1:CfW zt 92:=cfW Tryz.func92
noncomputable def zMO(f1:(Int×Int×Int)):T zt ((Int×Int×Int)):=
 .op1 (zE2 f1) fun y2=>
 .ret y2.1
theorem zMc{f1:(Int×Int×Int)}{r:(Int×Int×Int)}(h:zB4 f1=some r):zF zt 92 [.ag [Ti f1.1,Ti f1.2.1,Ti f1.2.2]] (.ag [Ti r.1,Ti r.2.1,Ti r.2.2]) []:=CtT (zMO f1) (fun r=>(.ag [Ti r.1,Ti r.2.1,Ti r.2.2],[])) (rs:=[.w 2 3]) (vs:=[.cell 2 73]) Tryz.func92 rfl rfl (.cons ⟨rfl,wd73⟩ FitsL.nil) h
def zHX(f1:(Int×Int×Int)):=fC zL1 (zB4 f1) fun _=>zMc
theorem zOb:CfW zt 75:=cfW Tryz.func75
noncomputable def zP3(f1:(Int×Int×Int))(g2:(Int×Int×Int)):T zt ((Int×Int×Int)):=
 .op1 (zNx f1 g2) fun y3=>
 .op1 (zLn y3.1 y3.2.1) fun y4=>.op1 (zHX y4) fun y5=>
 .ret y5
theorem zPi{f1:(Int×Int×Int)}{g2:(Int×Int×Int)}{r:(Int×Int×Int)}(h:zBv f1 g2=some r):zF zt 75 [.ag [Ti f1.1,Ti f1.2.1,Ti f1.2.2],.ag [Ti g2.1,Ti g2.2.1,Ti g2.2.2]] (.ag [Ti r.1,Ti r.2.1,Ti r.2.2]) []:=CtT (zP3 f1 g2) (fun r=>(.ag [Ti r.1,Ti r.2.1,Ti r.2.2],[])) (rs:=[.w 4 3]) (vs:=[.cell 4 73]) Tryz.func75 rfl rfl (.cons ⟨rfl,wd73⟩ FitsL.nil) h
def zQf(f1:(Int×Int×Int))(g2:(Int×Int×Int)):=fC zOb (zBv f1 g2) fun _=>zPi
theorem zL4:CfW zt 74:=cfW Tryz.func74
noncomputable def zMR(l1:List (Int×Int×Int))(f2:(Int×Int×Int)):T zt Int:=
 .n0 (lenM ct73 l1)<|
 .loopS (fun n X_1=>zBs f2 l1 n X_1) 0 (mb 19 904) [24] (fun s X_1 γ=>s.pc (mb 19 904) [24] [(9,I X_1)] []) (fun X_1=>
 .cond (ltI X_1 ((l1.length:Int))) (.op0 (idxM ct73 l1 X_1) fun e7=>
 .n0 (eqg3 zXW)<|
 .lt (((e7.1==f2.1)&&((e7.2.1==f2.2.1)&&(e7.2.2==f2.2.2)))) fun t8=>.cond t8 (
 .ret (.early X_1))<|
 .frc (w64 (X_1+1)) fun t10=>.ret (.again t10))<|.ret (.done (()))) (mb 19 0) [] (fun s o5 γ=>s.pc (mb 19 0) [] [] []) (fun r=>r) fun o5=>
 .ret (-1)
theorem zMf{l1:List (Int×Int×Int)}{f2:(Int×Int×Int)}{r:Int}(h:zCi l1 f2=some r):zF zt 74 [.c (.sl (l1.map c73)),.ag [Ti f2.1,Ti f2.2.1,Ti f2.2.2]] (I r) []:=CtT (zMR l1 f2) (fun r=>(I r,[])) (rs:=[.t 4]) (vs:=[.tmp 4]) Tryz.func74 rfl rfl (.cons rfl FitsL.nil) h
def zNq(l1:List (Int×Int×Int))(f2:(Int×Int×Int)):=fCs zL4 (zCi l1 f2) (fun _=>zMf) fun _=>rfl
theorem zL2:CfW zt 52:=cfW Tryz.func52
noncomputable def zMP(d1:Int):T zt (List (List Int)):=
 .n1 (nilN 24 1 (by decide))<|
 .op1 (zDM d1) fun y2=>
 .n0 (lenM ct73 y2)<|.op1 (mkN ct24 ((([]:List Int):List Int)) ((y2.length:Int)) ((y2.length:Int))) fun u3=>
 .lt (List.replicate (Int.toNat ((y2.length:Int))) ((([]:List Int):List Int))) fun l4=>.n0 (lenM ct73 y2)<|
 .loop (fun n X_2=>zBq y2 n X_2.1 X_2.2) ((0,l4)) (mb 48 114712) [104,80] (fun s X_2 γ=>s.pc (mb 48 114712) [104,80] [(16,I X_2.1)] [(104,.arr 24 1 (X_2.2.map c24))]) (fun X_2=>
 .cond (ltI X_2.1 ((y2.length:Int))) (.op0 (zBO ct73 y2 X_2.1) fun e10=>.op0 (ldo ct73 y2 X_2.1) fun e11=>
 .n0 (lenM ct73 y2)<|.op1 (mkF ct3 ((0:Int)) ((y2.length:Int)) ((y2.length:Int))) fun u12=>.op0 (zBO ct24 X_2.2 X_2.1) fun e25=>.late (pinH 25 200)<|.opx (stoV ct24 X_2.2 X_2.1) fun e26=>
 .n0 (lenM ct73 y2)<|
 .loop (fun n X_1=>zB5 e11 X_2.2 X_2.1 y2 n X_1.1 X_1.2) ((0,List.replicate (Int.toNat ((y2.length:Int))) ((0:Int)))) (mb 48 973193336) [200,48,104,80] (fun s X_1 γ=>s.pc (mb 48 973193336) [200,48,104,80] [(29,I X_1.1)] [(200,s.qar 200 3 1 (X_1.2.map c3))]) (fun X_1=>
 .cond (ltI X_1.1 ((y2.length:Int))) (.op0 (zBO ct73 y2 X_1.1) fun e18=>.op0 (ldo ct73 y2 X_1.1) fun e19=>
 .draw 10 []<|.op0 (idxV ct24 X_2.2 X_2.1 200) fun e16=>.op0 (ldV ct24 X_2.2 X_2.1 200) fun e17=>.op1 (zQf e11 e19) fun y20=>.op1 (zNq y2 y20) fun y21=>.late (seeH 37 200)<|.op0 (zBO ct3 X_1.2 X_1.1) fun e22=>.opx (stoQ ct3 X_1.2 X_1.1 fun e23=>y21) fun e23=>
 .frc (w64 (X_1.1+1)) fun t24=>.ret (.inl ((t24,X_1.2.set (Int.toNat (X_1.1)) y21))))<|.ret (.inr X_1.2)) (mb 48 33669176) [200,104,80] (fun s o16 γ=>s.pc (mb 48 33669176) [200,104,80] [] [(200,s.qar 200 3 1 (o16.map c3))]) fun o16=>
 .hint (frzQV ct24 X_2.2 X_2.1 o16 200 104)<|
 .frc (w64 (X_2.1+1)) fun t27=>.ret (.inl ((t27,X_2.2.set (Int.toNat (X_2.1)) o16))))<|.ret (.inr X_2.2)) (mb 48 16) [104] (fun s o8 γ=>s.pc (mb 48 16) [104] [] [(104,.arr 24 1 (o8.map c24))]) fun o8=>
 .ret o8
theorem zMd{d1:Int}{r:List (List Int)}(h:zB6 d1=some r):zF zt 52 [I d1] (.ow 0) [(0,.arr 24 1 (r.map c24))]:=CtT (zMP d1) (fun r=>(.ow 0,[(0,.arr 24 1 (r.map c24))])) (rs:=[.t 2]) (vs:=[.tmp 2]) Tryz.func52 rfl rfl (.cons rfl FitsL.nil) h
def zNv(d1:Int):=fC zL2 (zB6 d1) fun _=>zMd
theorem zL3:CfW zt 73:=cfW Tryz.func73
noncomputable def zMQ(t1:List (List Int))(i2:Int):T zt Int:=
 .loop (fun n X_1=>zBr i2 t1 n X_1.1 X_1.2) ((1,i2)) (mb 20 99) [] (fun s X_1 γ=>s.pc (mb 20 99) [] [(5,I X_1.1),(6,I X_1.2)] []) (fun X_1=>
 .cond (!eqI X_1.2 0) (.op0 (idxM ct24 t1 X_1.2) fun e8=>.op0 (idxM ct3 e8 i2) fun e9=>
 .frc (w64 (X_1.1+1)) fun k10=>.ret (.inl ((k10,e9))))<|.ret (.inr X_1.1)) (mb 20 32) [] (fun s o6 γ=>s.pc (mb 20 32) [] [(5,I o6)] []) fun o6=>
 .ret o6
theorem zMe{t1:List (List Int)}{i2:Int}{r:Int}(h:zCh t1 i2=some r):zF zt 73 [.c (.sl (t1.map c24)),I i2] (I r) []:=CtT (zMQ t1 i2) (fun r=>(I r,[])) (rs:=[.t 4]) (vs:=[.tmp 4]) Tryz.func73 rfl rfl (.cons rfl FitsL.nil) h
def zNw(t1:List (List Int))(i2:Int):=fC zL3 (zCh t1 i2) fun _=>zMe
theorem zKX:CfW zt 51:=cfW Tryz.func51
noncomputable def zLA(t1:List (List Int)):T zt (List Int):=
 .n1 (nilN 3 1 (by decide))<|
 .n0 (lenM ct24 t1)<|.op1 (mkF ct3 ((0:Int)) ((t1.length:Int)) ((t1.length:Int))) fun u2=>
 .n0 (lenM ct24 t1)<|
 .loop (fun n X_1=>zB7 t1 n X_1.1 X_1.2) ((0,List.replicate (Int.toNat ((t1.length:Int))) ((0:Int)))) (mb 21 1545) [56] (fun s X_1 γ=>s.pc (mb 21 1545) [56] [(10,I X_1.1)] [(56,.arr 3 1 (X_1.2.map c3))]) (fun X_1=>
 .cond (ltI X_1.1 ((t1.length:Int))) (
 .op1 (zNw t1 X_1.1) fun y8=>.op0 (zBO ct3 X_1.2 X_1.1) fun e9=>.opx (sto ct3 X_1.2 X_1.1 fun e10=>y8) fun e10=>
 .frc (w64 (X_1.1+1)) fun t11=>.ret (.inl ((t11,X_1.2.set (Int.toNat (X_1.1)) y8))))<|.ret (.inr X_1.2)) (mb 21 8) [56] (fun s o6 γ=>s.pc (mb 21 8) [56] [] [(56,.arr 3 1 (o6.map c3))]) fun o6=>
 .ret o6
theorem zLP{t1:List (List Int)}{r:List Int}(h:zC2 t1=some r):zF zt 51 [.c (.sl (t1.map c24))] (.ow 0) [(0,.arr 3 1 (r.map c3))]:=CtT (zLA t1) (fun r=>(.ow 0,[(0,.arr 3 1 (r.map c3))])) (rs:=[.t 2]) (vs:=[.tmp 2]) Tryz.func51 rfl rfl (.cons rfl FitsL.nil) h
def zLi(t1:List (List Int)):=fCs zKX (zC2 t1) (fun _=>zLP) fun _=>(zD2 (fun _=>rfl) rfl)
theorem zJR:CfW zt 93:=cfW Tryz.func93
noncomputable def zJk(vn1:Int):T zt (List Int):=
 .n1 (nilN 3 1 (by decide))<|
 .n1 (nilN 3 1 (by decide))<|
 .loop (fun n X_2=>zDD n X_2.1 X_2.2.1 X_2.2.2) ((vn1,2,([]:List Int))) (mb 30 25) [24] (fun s X_2 γ=>s.pc (mb 30 25) [24] [(0,I X_2.1),(4,I X_2.2.1)] [(24,.arr 3 1 (X_2.2.2.map c3))]) (fun X_2=>
 .cond (leI (w64 (X_2.2.1*X_2.2.1)) X_2.1) (.loop (fun n X_1=>zCg X_2.2.1 n X_1.1 X_1.2) ((X_2.1,X_2.2.2)) (mb 30 25) [24] (fun s X_1 γ=>s.pc (mb 30 25) [24] [(0,I X_1.1)] [(24,.arr 3 1 (X_1.2.map c3))]) (fun X_1=>
 .op0 (remF .i64 X_1.1 X_2.2.1) fun z12=>
 .cond (eqI (Int.tmod X_1.1 X_2.2.1) 0) (.n1 bsl<|.opx (app ct3 X_1.2 ([X_2.2.1])) fun u14=>
 .op0 (quoF .i64 X_1.1 X_2.2.1) fun z15=>
 .frc (w64 (Int.tdiv X_1.1 X_2.2.1)) fun vn16=>.ret (.inl ((vn16,X_1.2++([X_2.2.1])))))<|.ret (.inr ((X_1.1,X_1.2)))) (mb 30 25) [24] (fun s o11 γ=>s.pc (mb 30 25) [24] [(0,I o11.1)] [(24,.arr 3 1 (o11.2.map c3))]) fun o11=>
 .frc (w64 (X_2.2.1+1)) fun d17=>.ret (.inl ((o11.1,d17,o11.2))))<|.ret (.inr ((X_2.1,X_2.2.2)))) (mb 30 9) [24] (fun s o6 γ=>s.pc (mb 30 9) [24] [(0,I o6.1)] [(24,.arr 3 1 (o6.2.map c3))]) fun o6=>
 .cond (ltI 1 o6.1) (.n1 bsl<|.opx (app ct3 o6.2 ([o6.1])) fun u19=>
 .ret (o6.2++([o6.1])))<|
 .ret o6.2
theorem zJu{vn1:Int}{r:List Int}(h:zEG vn1=some r):zF zt 93 [I vn1] (.ow 0) [(0,.arr 3 1 (r.map c3))]:=CtT (zJk vn1) (fun r=>(.ow 0,[(0,.arr 3 1 (r.map c3))])) (rs:=[.t 2]) (vs:=[.tmp 2]) Tryz.func93 rfl rfl (.cons rfl FitsL.nil) h
def zKg(vn1:Int):=fC zJR (zEG vn1) fun _=>zJu
theorem zO7:CfW zt 94:=cfW Tryz.func94
noncomputable def zPZ(l1:List Int)(vn2:Int):T zt (List Int):=
 .n1 (nilN 3 1 (by decide))<|
 .loop (fun n X_3=>zEW l1 vn2 n X_3) 0 (mb 48 35) [] (fun s X_3 γ=>s.pc (mb 48 35) [] [(5,I X_3)] []) (fun X_3=>
 .dn<|.joinC (.n0 (lenM ct3 l1)<|.seqT (.cond (ltI X_3 ((l1.length:Int))) (.op0 (idxM ct3 l1 X_3) fun e7=>.ret (ltI e7 vn2)) (.ret false)) fun b8=>.ret b8) (mb 48 262179) [] (fun s q_1 γ=>s.pc (mb 48 262179) [] [(18,Bo q_1)] []) fun q_1=>
 .cond q_1 (
 .frc (w64 (X_3+1)) fun k10=>.ret (.inl k10))<|.ret (.inr X_3)) (mb 48 35) [] (fun s o5 γ=>s.pc (mb 48 35) [] [(5,I o5)] []) fun o5=>
 .dn<|.joinC (.n0 (lenM ct3 l1)<|.seqT (.cond (ltI o5 ((l1.length:Int))) (.op0 (idxM ct3 l1 o5) fun e12=>.ret (eqI e12 vn2)) (.ret false)) fun b13=>.ret b13) (mb 48 4294967331) [] (fun s q_2 γ=>s.pc (mb 48 4294967331) [] [(32,Bo q_2)] []) fun q_2=>
 .cond q_2 (
 .ret l1)<|.n1 bsl0<|.op0 (slice ct3 l1 0 o5) fun u15=>.opx (app ct3 (([]:List Int)) (subl l1 0 o5)) fun u16=>
 .n1 bsl<|.opx (app ct3 ((([]:List Int))++(subl l1 0 o5)) ([vn2])) fun u17=>
 .op0 (slice ct3 l1 o5 ((l1.length:Int))) fun u18=>.opx (app ct3 (((([]:List Int))++(subl l1 0 o5))++([vn2])) (subl l1 o5 ((l1.length:Int)))) fun u19=>
 .lt ((((([]:List Int))++(subl l1 0 o5))++([vn2]))++(subl l1 o5 ((l1.length:Int)))) fun l20=>.late (frzH 272)<|.ret l20
theorem zPe{l1:List Int}{vn2:Int}{r:List Int}(h:zGP l1 vn2=some r):zF zt 94 [.c (.sl (l1.map c3)),I vn2] (.c (.sl (r.map c3))) []:=CtT (zPZ l1 vn2) (fun r=>(.c (.sl (r.map c3)),[])) (rs:=[.t 4]) (vs:=[.tmp 4]) Tryz.func94 rfl rfl (.cons rfl FitsL.nil) h
def zQd(l1:List Int)(vn2:Int):=fC zO7 (zGP l1 vn2) fun _=>zPe
theorem zKU:CfW zt 71:=cfW Tryz.func71
noncomputable def zKx(vn1:Int):T zt (List Int):=
 .n1 (nilN 3 1 (by decide))<|
 .n1 (nilN 3 1 (by decide))<|
 .op1 (zKg vn1) fun y2=>.n0 (lenM ct3 y2)<|
 .hint (frzH 24)<|.loop (fun n X_1=>zDV y2 n X_1.1 X_1.2) ((([]:List Int),0)) (mb 18 904) [56] (fun s X_1 γ=>s.pc (mb 18 904) [56] [(3,.c (.sl (X_1.1.map c3))),(9,I X_1.2)] []) (fun X_1=>
 .cond (ltI X_1.2 ((y2.length:Int))) (.op0 (zBO ct3 y2 X_1.2) fun e8=>.op0 (ldo ct3 y2 X_1.2) fun e9=>
 .op1 (zQd X_1.1 e9) fun y10=>
 .frc (w64 (X_1.2+1)) fun t11=>.ret (.inl ((y10,t11))))<|.ret (.inr X_1.1)) (mb 18 8) [] (fun s o6 γ=>s.pc (mb 18 8) [] [(3,.c (.sl (o6.map c3)))] []) fun o6=>
 .ret o6
theorem zLM{vn1:Int}{r:List Int}(h:zBR vn1=some r):zF zt 71 [I vn1] (.c (.sl (r.map c3))) []:=CtT (zKx vn1) (fun r=>(.c (.sl (r.map c3)),[])) (rs:=[.t 2]) (vs:=[.tmp 2]) Tryz.func71 rfl rfl (.cons rfl FitsL.nil) h
def zG9(vn1:Int):=fC zKU (zBR vn1) fun _=>zLM
theorem zI3:CfW zt 72:=cfW Tryz.func72
noncomputable def zIi(vn1:Int)(p2:Int):T zt Int:=
 .loop (fun n X_1=>zAw p2 n X_1.1 X_1.2) ((vn1,0)) (mb 16 35) [] (fun s X_1 γ=>s.pc (mb 16 35) [] [(0,I X_1.1),(5,I X_1.2)] []) (fun X_1=>
 .op0 (remF .i64 X_1.1 p2) fun z7=>
 .cond (eqI (Int.tmod X_1.1 p2) 0) (.op0 (quoF .i64 X_1.1 p2) fun z9=>
 .frc (w64 (Int.tdiv X_1.1 p2)) fun vn10=>
 .frc (w64 (X_1.2+1)) fun k11=>.ret (.inl ((vn10,k11))))<|.ret (.inr X_1.2)) (mb 16 32) [] (fun s o6 γ=>s.pc (mb 16 32) [] [(5,I o6)] []) fun o6=>
 .ret o6
theorem zIt{vn1:Int}{p2:Int}{r:Int}(h:zBn vn1 p2=some r):zF zt 72 [I vn1,I p2] (I r) []:=CtT (zIi vn1 p2) (fun r=>(I r,[])) (rs:=[.t 4]) (vs:=[.tmp 4]) Tryz.func72 rfl rfl (.cons rfl FitsL.nil) h
def zJc(vn1:Int)(p2:Int):=fC zI3 (zBn vn1 p2) fun _=>zIt
theorem zJT:CfW zt 50:=cfW Tryz.func50
noncomputable def zJm(orders1:List Int):T zt (List Int):=
 .n1 (nilN 3 1 (by decide))<|
 .n1 (nilN 3 1 (by decide))<|
 .n0 (lenM ct3 orders1)<|.op1 (zG9 ((orders1.length:Int))) fun y2=>.n0 (lenM ct3 y2)<|
 .loop (fun n X_6=>zBV orders1 y2 n X_6.1 X_6.2) ((0,([]:List Int))) (mb 98 1835017) [24] (fun s X_6 γ=>s.pc (mb 98 1835017) [24] [(20,I X_6.1)] [(24,.arr 3 1 (X_6.2.map c3))]) (fun X_6=>
 .cond (ltI X_6.1 ((y2.length:Int))) (.op0 (idxM ct3 y2 X_6.1) fun e8=>
 .loop (fun n X_4=>qN e8 orders1 X_6.1 y2 n X_4.1 X_4.2.1 X_4.2.2) ((1,e8,X_6.2)) (mb 98 1835241) [24] (fun s X_4 γ=>s.pc (mb 98 1835241) [24] [(6,I X_4.1),(7,I X_4.2.1)] [(24,.arr 3 1 (X_4.2.2.map c3))]) (fun X_4=>
 .n0 (lenM ct3 orders1)<|.op0 (remF .i64 ((orders1.length:Int)) X_4.2.1) fun z14=>
 .cond (eqI (Int.tmod ((orders1.length:Int)) X_4.2.1) 0) (
 .n0 (lenM ct3 orders1)<|
 .loop (fun n X_3=>zAW e8 X_4.2.2 X_4.1 orders1 X_4.2.1 X_6.1 y2 n X_3.1 X_3.2) ((0,0)) (mb 98 60131377641) [24] (fun s X_3 γ=>s.pc (mb 98 60131377641) [24] [(8,I X_3.1),(35,I X_3.2)] []) (fun X_3=>
 .cond (ltI X_3.2 ((orders1.length:Int))) (.op0 (idxM ct3 orders1 X_3.2) fun e21=>
 .op0 (remF .i64 X_4.2.1 e21) fun z22=>
 .cond (eqI (Int.tmod X_4.2.1 e21) 0) (
 .frc (w64 (X_3.1+1)) fun now24=>
 .frc (w64 (X_3.2+1)) fun t25=>.ret (.inl ((now24,t25))))<|
 .frc (w64 (X_3.2+1)) fun t26=>.ret (.inl ((X_3.1,t26))))<|.ret (.inr X_3.1)) (mb 98 1835497) [24] (fun s o19 γ=>s.pc (mb 98 1835497) [24] [(8,I o19)] []) fun o19=>
 .op0 (quoF .i64 o19 X_4.1) fun z27=>.op1 (zJc (w64 (Int.tdiv o19 X_4.1)) e8) fun y28=>
 .loop (fun n X_2=>zAy e8 o19 orders1 X_4.2.1 X_6.1 y2 y28 n X_2) X_4.2.2 (mb 98 1837481) [24] (fun s X_2 γ=>s.pc (mb 98 1837481) [24] [] [(24,.arr 3 1 (X_2.map c3))]) (fun X_2=>
 .n0 (lenM ct3 X_2)<|
 .cond (ltI ((X_2.length:Int)) y28) (.n1 bsl<|.opx (app ct3 X_2 ([1])) fun u33=>
 .ret (.inl ((X_2++([1])))))<|.ret (.inr X_2)) (mb 98 1837481) [24] (fun s o31 γ=>s.pc (mb 98 1837481) [24] [] [(24,.arr 3 1 (o31.map c3))]) fun o31=>
 .loop (fun n X_1=>zAV e8 o19 orders1 X_4.2.1 X_6.1 y2 y28 n X_1.1 X_1.2) ((0,o31)) (mb 98 1841577) [24] (fun s X_1 γ=>s.pc (mb 98 1841577) [24] [(12,I X_1.1)] [(24,.arr 3 1 (X_1.2.map c3))]) (fun X_1=>
 .cond (ltI X_1.1 y28) (.op0 (zBO ct3 X_1.2 X_1.1) fun e39=>.op0 (ldo ct3 X_1.2 X_1.1) fun e40=>.op0 (zBO ct3 X_1.2 X_1.1) fun e41=>.opx (sto ct3 X_1.2 X_1.1 fun e42=>w64 (e40*e8)) fun e42=>
 .frc (w64 (X_1.1+1)) fun i43=>.ret (.inl ((i43,X_1.2.set (Int.toNat (X_1.1)) (w64 (e40*e8))))))<|.ret (.inr X_1.2)) (mb 98 1835433) [24] (fun s o37 γ=>s.pc (mb 98 1835433) [24] [] [(24,.arr 3 1 (o37.map c3))]) fun o37=>
 .frc (w64 (X_4.2.1*e8)) fun q44=>.ret (.inl ((o19,q44,o37))))<|.ret (.inr X_4.2.2)) (mb 98 1835017) [24] (fun s o13 γ=>s.pc (mb 98 1835017) [24] [] [(24,.arr 3 1 (o13.map c3))]) fun o13=>
 .frc (w64 (X_6.1+1)) fun t45=>.ret (.inl ((t45,o13))))<|.ret (.inr X_6.2)) (mb 98 8) [24] (fun s o6 γ=>s.pc (mb 98 8) [24] [] [(24,.arr 3 1 (o6.map c3))]) fun o6=>
 .n0 (lenM ct3 o6)<|
 .frc (w64 (((o6.length:Int)) - 1)) fun j46=>.loop (fun n X_5=>zAx n X_5.1 X_5.2.1 X_5.2.2) ((0,j46,o6)) (mb 98 24584) [24] (fun s X_5 γ=>s.pc (mb 98 24584) [24] [(13,I X_5.1),(14,I X_5.2.1)] [(24,.arr 3 1 (X_5.2.2.map c3))]) (fun X_5=>
 .cond (ltI X_5.1 X_5.2.1) (.op0 (zBO ct3 X_5.2.2 X_5.1) fun e53=>.op0 (ldo ct3 X_5.2.2 X_5.1) fun e54=>
 .op0 (zBO ct3 X_5.2.2 X_5.2.1) fun e55=>.op0 (ldo ct3 X_5.2.2 X_5.2.1) fun e56=>.op0 (zBO ct3 X_5.2.2 X_5.1) fun e57=>.opx (sto ct3 X_5.2.2 X_5.1 fun e58=>e56) fun e58=>
 .op0 (zBO ct3 (X_5.2.2.set (Int.toNat (X_5.1)) e56) X_5.2.1) fun e59=>.opx (sto ct3 (X_5.2.2.set (Int.toNat (X_5.1)) e56) X_5.2.1 fun e60=>e54) fun e60=>
 .frc (w64 (X_5.2.1 - 1)) fun j61=>
 .frc (w64 (X_5.1+1)) fun i62=>.ret (.inl ((i62,j61,(X_5.2.2.set (Int.toNat (X_5.1)) e56).set (Int.toNat (X_5.2.1)) e54))))<|.ret (.inr X_5.2.2)) (mb 98 8) [24] (fun s o51 γ=>s.pc (mb 98 8) [24] [] [(24,.arr 3 1 (o51.map c3))]) fun o51=>
 .ret o51
theorem zJw{orders1:List Int}{r:List Int}(h:zCJ orders1=some r):zF zt 50 [.c (.sl (orders1.map c3))] (.ow 0) [(0,.arr 3 1 (r.map c3))]:=CtT (zJm orders1) (fun r=>(.ow 0,[(0,.arr 3 1 (r.map c3))])) (rs:=[.t 2]) (vs:=[.tmp 2]) Tryz.func50 rfl rfl (.cons rfl FitsL.nil) h
def zKb(orders1:List Int):=fCs zJT (zCJ orders1) (fun _=>zJw) fun _=>(zD2 (fun _=>rfl) rfl)
theorem zLZ:CfW zt 23:=cfW Tryz.func23
noncomputable def zMM(d1:Int):T zt (List Int):=
 .n1 (nilN 3 1 (by decide))<|
 .op1 (zNv d1) fun y2=>.op1 (zLi y2) fun y3=>.op1 (zKb y3) fun y4=>
 .ret y4
theorem zMa{d1:Int}{r:List Int}(h:zA5 d1=some r):zF zt 23 [I d1] (.ow 0) [(0,.arr 3 1 (r.map c3))]:=CtT (zMM d1) (fun r=>(.ow 0,[(0,.arr 3 1 (r.map c3))])) (rs:=[.t 2]) (vs:=[.tmp 2]) Tryz.func23 rfl rfl (.cons rfl FitsL.nil) h
def zHV(d1:Int):=fC zLZ (zA5 d1) fun _=>zMa
theorem zDE:CfW zt 5:=cfW Tryz.func5
noncomputable def zDG(code1:List Int):T zt (List Int):=
 .n1 (nilN 3 1 (by decide))<|
 .n0 (bld pl44 bt44)<|
 .opx (qF ((code1,0,0)) 8) fun y2=>
 .cond (eqI y2.1 0) (.n1 (nilN 3 1 (by decide))<|
 .ret (([]:List Int)))<|
 .cond (eqI y2.1 1) (.opx (qF y2.2 4) fun y5=>.opx (qF y5.2 9) fun y6=>.n1 bsl<|
 .ret ([y5.1,y6.1]))<|
 .cond (eqI y2.1 2) (.n1 bsl<|
 .ret ([2,2,2]))<|
 .cond (eqI y2.1 3) (.opx (qF y2.2 8) fun y9=>.n1 bsl<|
 .ret ([2,w64 (2*(w64 (1+y9.1)))]))<|
 .cond (eqI y2.1 4) (.n1 bsl<|
 .ret ([1000,1000]))<|.opx (zGp y2.2) fun y11=>.op1 (zHV y11.1) fun y12=>
 .ret y12
theorem zDH{code1:List Int}{r:List Int}(h:zW code1=some r):zF zt 5 [.c (.sl (code1.map c5))] (.ow 0) [(0,.arr 3 1 (r.map c3))]:=CtT (zDG code1) (fun r=>(.ow 0,[(0,.arr 3 1 (r.map c3))])) (rs:=[.t 2]) (vs:=[.tmp 2]) Tryz.func5 rfl rfl (.cons rfl FitsL.nil) h
def zDO(code1:List Int):=fC zDE (zW code1) fun _=>zDH
theorem zLc:CfW zt 25:=cfW Tryz.func25
noncomputable def zM0(factors1:List Int):T zt ((Int×Bool)):=
 .n0 (lenM ct3 factors1)<|
 .loopS (fun n X_66=>zBK factors1 n X_66.1 X_66.2) ((1,0)) (mb 41 913) [] (fun s X_66 γ=>s.pc (mb 41 913) [] [(4,I X_66.1),(9,I X_66.2)] []) (fun X_66=>
 .cond (ltI X_66.2 ((factors1.length:Int))) (.op0 (idxM ct3 factors1 X_66.2) fun e7=>
 .dn<|.joinC (.selB (ltI e7 2) false [] fun w_64=>.seqT (.cond (bif w_64 then true else (ltI 1000 e7)) (.ret true) (.seqT (.cond (ltI 0 X_66.2) (.op0 (idxM ct3 factors1 (w64 (X_66.2 - 1))) fun e11=>.op0 (remF .i64 e7 e11) fun z12=>.ret (!eqI (Int.tmod e7 e11) 0)) (.ret false)) fun b13=>.ret b13)) fun b14=>.ret (w_64,b14)) (mb 41 8589935569) [] (fun s q_65 γ=>s.pc (mb 41 8589935569) [] [(33,Bo q_65.2)] []) fun q_65=>
 .cond q_65.2 (
 .ret (.early ((0,false))))<|
 .frc (w64 (X_66.1*e7)) fun product16=>
 .cond (ltI 1000 product16) (
 .ret (.early ((0,false))))<|
 .frc (w64 (X_66.2+1)) fun t18=>.ret (.again ((product16,t18))))<|.ret (.done X_66.1)) (mb 41 16) [] (fun s o5 γ=>s.pc (mb 41 16) [] [(4,I o5)] []) (fun r=>r) fun o5=>
 .ret ((o5,true))
theorem zMn{factors1:List Int}{r:(Int×Bool)}(h:zCl factors1=some r):zF zt 25 [.c (.sl (factors1.map c3))] (.tc (I r.1) (.tc (Bo r.2) .tn)) []:=CtT (zM0 factors1) (fun r=>(.tc (I r.1) (.tc (Bo r.2) .tn),[])) (rs:=[.t 2,.t 3]) (vs:=[.tmp 2,.tmp 3]) Tryz.func25 rfl rfl (.cons rfl (.cons rfl FitsL.nil)) h
theorem zR6:CfW zt 64:=cfW Tryz.func64
noncomputable def zRv(a1:Int)(vm2:Int):T zt Int:=
 .op0 (remF .i64 a1 vm2) fun z3=>
 .frc (Int.tmod a1 vm2) fun vr4=>
 .cond (ltI vr4 0) (
 .frc (w64 (vr4+vm2)) fun vr6=>
 .ret vr6)<|
 .ret vr4
theorem zSF{a1:Int}{vm2:Int}{r:Int}(h:j0 a1 vm2=some r):zF zt 64 [I a1,I vm2] (I r) []:=CtT (zRv a1 vm2) (fun r=>(I r,[])) (rs:=[.t 4]) (vs:=[.tmp 4]) Tryz.func64 rfl rfl (.cons rfl FitsL.nil) h
def zCE(a1:Int)(vm2:Int):=fC zR6 (j0 a1 vm2) fun _=>zSF
theorem zGX:CfW zt 38:=cfW Tryz.func38
noncomputable def zGe(d1:Int):T zt Bool:=
 .pl<|.joinC (.selB (leI (-2000) d1) true [] fun w_2=>.seqT (.cond (bif w_2 then (leI d1 (-3)) else false) (.op1 (zCE d1 4) fun y4=>.ret (leI y4 1)) (.ret false)) fun b5=>.ret (w_2,b5)) (mb 14 4) [] (fun s q_3 γ=>s.pc (mb 14 4) [] [(2,Bo q_3.2)] []) fun q_3=>
 .ret q_3.2
theorem zGj{d1:Int}{r:Bool}(h:qG d1=some r):zF zt 38 [I d1] (Bo r) []:=CtT (zGe d1) (fun r=>(Bo r,[])) (rs:=[.t 2]) (vs:=[.tmp 2]) Tryz.func38 rfl rfl (.cons rfl FitsL.nil) h
def zBg(d1:Int):=fC zGX (qG d1) fun _=>zGj
theorem zG8:CfW zt 42:=cfW Tryz.func42
noncomputable def zM3(lo1:Int)(hi2:Int):T zt (List Int):=
 .n1 (nilN 3 1 (by decide))<|
 .n1 bsl0<|
 .loop (fun n X_1=>zBM hi2 n X_1.1 X_1.2) ((lo1,([]:List Int))) (mb 21 98) [56] (fun s X_1 γ=>s.pc (mb 21 98) [56] [(6,I X_1.1)] [(56,.arr 3 1 (X_1.2.map c3))]) (fun X_1=>
 .cond (leI X_1.1 hi2) (.op1 (zBg X_1.1) fun y8=>
 .cond y8 (.n1 bsl<|.opx (app ct3 X_1.2 ([X_1.1])) fun u10=>
 .frc (w64 (X_1.1+1)) fun d11=>.ret (.inl ((d11,X_1.2++([X_1.1])))))<|
 .frc (w64 (X_1.1+1)) fun d12=>.ret (.inl ((d12,X_1.2))))<|.ret (.inr X_1.2)) (mb 21 32) [56] (fun s o6 γ=>s.pc (mb 21 32) [56] [] [(56,.arr 3 1 (o6.map c3))]) fun o6=>
 .ret o6
theorem zHC{lo1:Int}{hi2:Int}{r:List Int}(h:zAc lo1 hi2=some r):zF zt 42 [I lo1,I hi2] (.ow 0) [(0,.arr 3 1 (r.map c3))]:=CtT (zM3 lo1 hi2) (fun r=>(.ow 0,[(0,.arr 3 1 (r.map c3))])) (rs:=[.t 4]) (vs:=[.tmp 4]) Tryz.func42 rfl rfl (.cons rfl FitsL.nil) h
def zH2(lo1:Int)(hi2:Int):=fC zG8 (zAc lo1 hi2) fun _=>zHC
theorem zDo:∀args w,(callFunc 26 args).run zt w=.ok (.enter 26 args) w:=jM Tryz.func26 kk kk
set_option maxRecDepth 100000 in
set_option maxHeartbeats 400000 in
theorem zED{lo1:Int}{hi2:Int}{so3:(Int→Option Bool)}{fso3:FuncId}{cso3:List (List Tr)}(kso3:∀args w,(callFunc fso3 args).run zt w=.ok (.enter fso3 args) w)(hso3:∀{x0:Int}{r:Bool},so3 x0=some r→zF zt fso3 ([I x0]++cso3.map AV.pe) (Bo r) []){r:List Int}(h:zAq lo1 hi2 so3=some r):zF zt 26 [I lo1,I hi2,.fn fso3 cso3] (.ow 0) [(0,.arr 3 1 (r.map c3))]:=by
  refine qP (rs:=[.t 6]) (vs:=[.tmp 6]) Tryz.func26 rfl rfl (.cons rfl FitsL.nil) (by decide) 28 rfl ?_
  unfold zAq at h;show V _ _ ⟨I lo1::I hi2::.fn fso3 cso3::bt 25 [],[]⟩ _;refine zO (mb 28 7) [] (s1:=⟨I lo1::I hi2::.fn fso3 cso3::bt 25 [],[]⟩) ?_ ?_
  ·refine L1 rfl rfl (zEx (e:=3) 1 (by decide) (.inl rfl)) ?_
   refine zC ?_
   kernel_rfl
  refine zO (mb 28 135) [80] (s1:=⟨I lo1::I hi2::.fn fso3 cso3::bt 4 (.ow 80::bt 20 []),[(80,.arr 3 1 ((([]:List Int)).map c3))]⟩) ?_ ?_
  ·refine L1 rfl rfl (zCq Tryz.underlying24 sz3 (by decide) rfl rfl) ?_
   refine L0 rfl rfl (zE (.ow 80) rfl kk) ?_
   refine zC ?_
   kernel_rfl
  refine zAS ?_
  obtain⟨y4,hy4,h⟩:=zI h;refine zO (mb 28 57476) [104,80] (s1:=⟨.bot::.bot::.fn fso3 cso3::bt 4 (.ow 80::bt 5 (.ow 104::I ((y4.length:Int))::I 0::bt 12 [])),[(104,.arr 3 1 (y4.map c3)),(80,.arr 3 1 ((([]:List Int)).map c3))]⟩) ?_ ?_
  ·refine L0 rfl rfl (zD (I lo1) rfl kk) ?_
   refine L0 rfl rfl (zD (I hi2) rfl kk) ?_
   refine L1 rfl rfl (zBz (zHC hy4) zG8 rfl kk) ?_
   refine L0 rfl rfl (zDS (c:=c3) (xs:=y4) Tryz.underlying24 rfl kk) ?_
   refine L0 rfl rfl (zD (I 0) rfl kk) ?_
   refine zC ?_
   kernel_rfl
  obtain⟨o8,hLo8,h⟩:=zI h;refine zHT (mb 28 128) [80] (s1:=⟨bt 7 (.ow 80::bt 20 []),[(80,.arr 3 1 (o8.map c3))]⟩) ?_ ?_
  ·clear h;refine zAF (zE0 (fun n s=>∃(t5:Int) (l6:List Int),s.keep (mb 28 57476) [104,80]=(⟨.bot::.bot::.fn fso3 cso3::bt 4 (.ow 80::bt 5 (.ow 104::I ((y4.length:Int))::I t5::bt 12 [])),[(104,.arr 3 1 (y4.map c3)),(80,.arr 3 1 (l6.map c3))]⟩:St)∧zAB so3 y4 n t5 l6=some o8) FU ⟨_,_,by rfl,hLo8⟩ ?_);clear hLo8;rintro n s ⟨t5,l6,hs,h⟩;refine zF8 _ _ hs ?_
   clear hs;cases n with
   |zero=>cases h
   |succ n=>
    rw[zAB]at h;refine zO (mb 28 123012) [104,80] (s1:=⟨.bot::.bot::.fn fso3 cso3::bt 4 (.ow 80::bt 5 (.ow 104::I ((y4.length:Int))::I t5::Bo (ltI t5 ((y4.length:Int)))::bt 11 [])),[(104,.arr 3 1 (y4.map c3)),(80,.arr 3 1 (l6.map c3))]⟩) ?_ ?_
    ·refine L0 rfl rfl (zDF (k:=.i64) (a:=t5) (b:=(y4.length:Int)) rfl kk kk) ?_
     refine zC ?_
     kernel_rfl
    refine zAS ?_
    refine zCQ rfl (fun hc9=>?_) (fun hc9=>?_)
    ·have h:=zBw h hc9;refine zCa ?_
     show V _ _ _ _;refine zAS ?_
     refine zAF ?_
     obtain⟨e10,he10,h⟩:=zI h;obtain⟨e11,he11,h⟩:=zI h;refine zO (mb 28 57988) [104,80] (s1:=⟨.bot::.bot::.fn fso3 cso3::bt 4 (.ow 80::.bot::I e11::bt 3 (.ow 104::I ((y4.length:Int))::I t5::bt 12 [])),[(104,.arr 3 1 (y4.map c3)),(80,.arr 3 1 (l6.map c3))]⟩) ?_ ?_
     ·refine L0 rfl rfl (zDL (c:=c3) (xs:=y4) (v:=e10) (id:=104) (T:=3) (sz:=1) (n:=t5) Tryz.underlying24 sz3 rfl kk kk kk he10) ?_
      refine L0 rfl rfl (zEe (c:=c3) (xs:=y4) (v:=e11) (id:=104) (sz:=1) (T:=3) (off:=0) (n:=t5) (d:=Ti e11) (ds:=[]) sc3 rfl kk kk he11 kk) ?_
      refine L0 rfl rfl (zE (I e11) rfl kk) ?_
      refine zC ?_
      kernel_rfl
     obtain⟨y12,hy12,h⟩:=zI h;refine zO (mb 28 2155140) [104,80] (s1:=⟨.bot::.bot::.fn fso3 cso3::bt 4 (.ow 80::.bot::I e11::bt 3 (.ow 104::I ((y4.length:Int))::I t5::bt 5 (Bo y12::bt 6 []))),[(104,.arr 3 1 (y4.map c3)),(80,.arr 3 1 (l6.map c3))]⟩) ?_ ?_
     ·refine L0 rfl rfl (zD (.fn fso3 cso3) rfl kk) ?_
      refine L0 rfl rfl (zD (I e11) rfl kk) ?_
      refine L1 rfl rfl (zRa (hso3 hy12) kso3 rfl kk kk) ?_
      refine zC ?_
      kernel_rfl
     refine zCQ rfl (fun hc13=>?_) (fun hc13=>?_)
     ·have h:=zBw h hc13;obtain⟨u14,hu14,h⟩:=zI h;refine zDB (mb 28 57476) [104,80] (s1:=⟨.bot::.bot::.fn fso3 cso3::bt 4 (.ow 80::bt 5 (.ow 104::I ((y4.length:Int))::I t5::bt 12 [])),[(104,.arr 3 1 (y4.map c3)),(80,.arr 3 1 ((l6++([e11])).map c3))]⟩) ?_ ?_
      ·refine L0 rfl rfl (zD (.ow 80) rfl kk) ?_
       refine L0 rfl rfl (zD (I e11) rfl kk) ?_
       refine L1 rfl rfl (zEM (z:=zv3) (els:=[e11].map c3) Tryz.underlying24 iz3 rfl (by decide) rfl kk rfl (by simp[c3]) (by decide) (by decide)) ?_
       refine jA rfl (zEf (c:=c3) (xs:=l6) (ys:=[e11]) (id:=80) (z:=zv3) rfl rfl Tryz.underlying24 izb3 rfl kk kk kk (fun _=>rfl) (by simp) (zEF hu14) (by decide)) ?_
       refine L0 rfl rfl (zE (.ow 80) rfl kk) ?_
       refine zC ?_
       kernel_rfl
      show V _ _ _ _;obtain⟨t15,ht15,h⟩:=zE3 h;refine zDB (mb 28 57476) [104,80] (s1:=⟨.bot::.bot::.fn fso3 cso3::bt 4 (.ow 80::bt 5 (.ow 104::I ((y4.length:Int))::I t15::bt 12 [])),[(104,.arr 3 1 (y4.map c3)),(80,.arr 3 1 ((l6++([e11])).map c3))]⟩) ?_ ?_
      ·refine L0 rfl rfl (zCP (a:=t5) (b:=1) rfl kk kk) ?_
       refine L0 rfl rfl (zD (I (w64 (t5+1))) rfl kk) ?_
       refine zC ?_
       subst ht15
       kernel_rfl
      exact⟨n,zf n,_,_,by rfl,h⟩
     ·have h:=zBE h hc13;refine zCa ?_
      show V _ _ _ _;obtain⟨t16,ht16,h⟩:=zE3 h;refine zDB (mb 28 57476) [104,80] (s1:=⟨.bot::.bot::.fn fso3 cso3::bt 4 (.ow 80::bt 5 (.ow 104::I ((y4.length:Int))::I t16::bt 12 [])),[(104,.arr 3 1 (y4.map c3)),(80,.arr 3 1 (l6.map c3))]⟩) ?_ ?_
      ·refine L0 rfl rfl (zCP (a:=t5) (b:=1) rfl kk kk) ?_
       refine L0 rfl rfl (zD (I (w64 (t5+1))) rfl kk) ?_
       refine zC ?_
       subst ht16
       kernel_rfl
      exact⟨n,zf n,_,_,by rfl,h⟩
    ·have h:=zBE h hc9;refine zEy ?_
     obtain rfl:=qB h;show St.keep _ _ _=_;rfl
  show V _ _ _ _;refine zO (mb 28 64) [80] (s1:=⟨bt 6 (.ow 80::bt 21 []),[(80,.arr 3 1 (o8.map c3))]⟩) ?_ ?_
  ·refine L0 rfl rfl (zD (.ow 80) rfl kk) ?_
   refine L0 rfl rfl (zE (.ow 80) rfl kk) ?_
   refine zC ?_
   kernel_rfl
  refine zEU ?_
  obtain rfl:=qB h;show Post _ _ _ _ _;exact⟨.inr rfl,rfl,rfl,rfl⟩
theorem zEA:CfW zt 98:=cfW Tryz.func98
noncomputable def zGv(f1:(Int×Int×Int)):T zt Bool:=
 .pl<|.joinC (.selB (ltI (w64 (0 - f1.1)) f1.2.1) true [] fun w_2=>.ret w_2) (mb 16 4) [] (fun s q_3 γ=>s.pc (mb 16 4) [] [(2,Bo (bif q_3 then (leI f1.2.1 f1.1) else false))] []) fun q_3=>
 .lt (bif q_3 then (leI f1.2.1 f1.1) else false) fun t3=>.ret t3
theorem zES{f1:(Int×Int×Int)}{r:Bool}(h:zT f1=some r):zF zt 98 [.ag [Ti f1.1,Ti f1.2.1,Ti f1.2.2]] (Bo r) []:=CtT (zGv f1) (fun r=>(Bo r,[])) (rs:=[.t 2]) (vs:=[.tmp 2]) Tryz.func98 rfl rfl (.cons rfl FitsL.nil) h
def zH3(f1:(Int×Int×Int)):=fC zEA (zT f1) fun _=>zES
theorem zG0:∀args w,(callFunc 79 args).run zt w=.ok (.enter 79 args) w:=jM Tryz.func79 kk kk
set_option maxRecDepth 100000 in
set_option maxHeartbeats 400000 in
theorem zGm{f1:(Int×Int×Int)}{r:Bool}(h:zY f1=some r):zF zt 79 [.ag [Ti f1.1,Ti f1.2.1,Ti f1.2.2]] (Bo r) []:=by
  refine qP (rs:=[.t 2]) (vs:=[.tmp 2]) Tryz.func79 rfl rfl (.cons rfl FitsL.nil) (by decide) 24 rfl ?_
  unfold zY at h;show V _ _ ⟨.ag [Ti f1.1,Ti f1.2.1,Ti f1.2.2]::bt 23 [],[]⟩ _;refine zO (mb 24 2) [8] (s1:=⟨.bot::.pt 8 0::bt 22 [],[(8,.box [Ti f1.1,Ti f1.2.1,Ti f1.2.2])]⟩) ?_ ?_
  ·refine L1 rfl rfl (zK9 (cs:=[Ti f1.1,Ti f1.2.1,Ti f1.2.2]) rfl kk) ?_
   refine L0 rfl rfl (zE (Bo false) rfl kk) ?_
   refine zC ?_
   kernel_rfl
  obtain⟨y2,hy2,h⟩:=zI h;obtain⟨t6,ht6,h⟩:=zI h;have ht6:=qB ht6;refine zO (mb 24 4) [] (s1:=⟨.bot::.bot::Bo t6::bt 21 [],[]⟩) ?_ ?_
  ·refine L0 rfl rfl (zFS (cs:=[Ti f1.1,Ti f1.2.1,Ti f1.2.2]) [Ti f1.1,Ti f1.2.1,Ti f1.2.2] wd73 rfl kk (Nat.le_of_ble_eq_true rfl) kk) ?_
   refine L1 rfl rfl (zBz (zES hy2) zEA rfl kk) ?_
   refine L0 rfl rfl (zD (Bo y2) rfl kk) ?_
   refine zCr y2 (fun hc3=>?_) (fun hc3=>?_)
   ·refine zH _ rfl rfl kk hc3 (zB rfl (zAG (.pt 8 0) Tryz.underlying73 rfl sz3 rfl kk (by intro hh;cases hh))) ?_
    refine zH _ rfl rfl kk hc3 (zB rfl (qI (c:=Ti f1.1) (cs:=[Ti f1.2.1,Ti f1.2.2]) sc3 rfl kk)) ?_
    refine zH _ rfl rfl kk hc3 (zB rfl (zAG (.pt 8 2) Tryz.underlying73 rfl sz3 rfl kk (by intro hh;cases hh))) ?_
    refine zH _ rfl rfl kk hc3 (zB rfl (qI (c:=Ti f1.2.2) (cs:=[]) sc3 rfl kk)) ?_
    refine zH _ rfl rfl kk hc3 (zB rfl (zDF (k:=.i64) (a:=f1.1) (b:=f1.2.2) rfl kk kk)) ?_
    refine zH _ rfl rfl kk hc3 (zB rfl (zD (Bo (ltI f1.1 f1.2.2)) rfl kk)) ?_
    refine zCr (ltI f1.1 f1.2.2) (fun hc4=>?_) (fun hc4=>?_)
    ·refine jW _ rfl rfl kk hc4 rfl ?_
     refine jW _ rfl rfl kk hc4 rfl ?_
     refine jW _ rfl rfl kk hc4 rfl ?_
     refine jW _ rfl rfl kk hc4 rfl ?_
     refine jW _ rfl rfl kk hc4 rfl ?_
     refine jW _ rfl rfl kk hc4 rfl ?_
     refine zU rfl rfl kk rfl ?_
     refine zU rfl rfl kk rfl ?_
     refine zU rfl rfl kk rfl ?_
     refine jW _ rfl rfl kk hc4 rfl ?_
     refine zH _ rfl rfl kk hc3 (zB rfl (zBG (b:=ltI f1.1 f1.2.2) (p:=true) (q:=bif (eqI f1.1 f1.2.2) then (leI 0 f1.2.1) else false) rfl kk hc4 kk)) ?_
     refine jA rfl (zB rfl (zBG (b:=y2) (p:=bif (ltI f1.1 f1.2.2) then true else (bif (eqI f1.1 f1.2.2) then (leI 0 f1.2.1) else false)) (q:=false) rfl kk hc3 kk)) ?_
     refine L0 rfl rfl (zE (Bo (bif y2 then (bif (ltI f1.1 f1.2.2) then true else (bif (eqI f1.1 f1.2.2) then (leI 0 f1.2.1) else false)) else false)) rfl kk) ?_
     refine zC ?_
     subst ht6
     kernel_rfl
    ·refine zH _ rfl rfl kk hc4 (zB rfl (zAG (.pt 8 0) Tryz.underlying73 rfl sz3 rfl kk (by intro hh;cases hh))) ?_
     refine zH _ rfl rfl kk hc4 (zB rfl (qI (c:=Ti f1.1) (cs:=[Ti f1.2.1,Ti f1.2.2]) sc3 rfl kk)) ?_
     refine zH _ rfl rfl kk hc4 (zB rfl (zAG (.pt 8 2) Tryz.underlying73 rfl sz3 rfl kk (by intro hh;cases hh))) ?_
     refine zH _ rfl rfl kk hc4 (zB rfl (qI (c:=Ti f1.2.2) (cs:=[]) sc3 rfl kk)) ?_
     refine zH _ rfl rfl kk hc4 (zB rfl (zIa (k:=.i64) (a:=f1.1) (b:=f1.2.2) rfl kk kk)) ?_
     refine zH _ rfl rfl kk hc4 (zB rfl (zD (Bo (eqI f1.1 f1.2.2)) rfl kk)) ?_
     refine zCr (eqI f1.1 f1.2.2) (fun hc5=>?_) (fun hc5=>?_)
     ·refine zH _ rfl rfl kk hc5 (zB rfl (zAG (.pt 8 1) Tryz.underlying73 rfl sz3 rfl kk (by intro hh;cases hh))) ?_
      refine zH _ rfl rfl kk hc5 (zB rfl (qI (c:=Ti f1.2.1) (cs:=[Ti f1.2.2]) sc3 rfl kk)) ?_
      refine zH _ rfl rfl kk hc5 (zB rfl (zNm (k:=.i64) (a:=f1.2.1) (b:=0) rfl kk kk)) ?_
      refine zH _ rfl rfl kk hc4 (zB rfl (zBG (b:=eqI f1.1 f1.2.2) (p:=leI 0 f1.2.1) (q:=false) rfl kk hc5 kk)) ?_
      refine zH _ rfl rfl kk hc3 (zB rfl (zCA (b:=ltI f1.1 f1.2.2) (p:=true) (q:=bif (eqI f1.1 f1.2.2) then (leI 0 f1.2.1) else false) rfl kk hc4 kk)) ?_
      refine jA rfl (zB rfl (zBG (b:=y2) (p:=bif (ltI f1.1 f1.2.2) then true else (bif (eqI f1.1 f1.2.2) then (leI 0 f1.2.1) else false)) (q:=false) rfl kk hc3 kk)) ?_
      refine L0 rfl rfl (zE (Bo (bif y2 then (bif (ltI f1.1 f1.2.2) then true else (bif (eqI f1.1 f1.2.2) then (leI 0 f1.2.1) else false)) else false)) rfl kk) ?_
      refine zC ?_
      subst ht6
      kernel_rfl
     ·refine qE _ rfl rfl kk hc5 rfl ?_
      refine qE _ rfl rfl kk hc5 rfl ?_
      refine qE _ rfl rfl kk hc5 rfl ?_
      refine zH _ rfl rfl kk hc4 (zB rfl (zCA (b:=eqI f1.1 f1.2.2) (p:=leI 0 f1.2.1) (q:=false) rfl kk hc5 kk)) ?_
      refine zH _ rfl rfl kk hc3 (zB rfl (zCA (b:=ltI f1.1 f1.2.2) (p:=true) (q:=bif (eqI f1.1 f1.2.2) then (leI 0 f1.2.1) else false) rfl kk hc4 kk)) ?_
      refine jA rfl (zB rfl (zBG (b:=y2) (p:=bif (ltI f1.1 f1.2.2) then true else (bif (eqI f1.1 f1.2.2) then (leI 0 f1.2.1) else false)) (q:=false) rfl kk hc3 kk)) ?_
      refine L0 rfl rfl (zE (Bo (bif y2 then (bif (ltI f1.1 f1.2.2) then true else (bif (eqI f1.1 f1.2.2) then (leI 0 f1.2.1) else false)) else false)) rfl kk) ?_
      refine zC ?_
      subst ht6
      kernel_rfl
   ·refine qE _ rfl rfl kk hc3 rfl ?_
    refine qE _ rfl rfl kk hc3 rfl ?_
    refine qE _ rfl rfl kk hc3 rfl ?_
    refine qE _ rfl rfl kk hc3 rfl ?_
    refine qE _ rfl rfl kk hc3 rfl ?_
    refine qE _ rfl rfl kk hc3 rfl ?_
    refine zU rfl rfl kk rfl ?_
    refine zU rfl rfl kk rfl ?_
    refine zU rfl rfl kk rfl ?_
    refine zU rfl rfl kk rfl ?_
    refine zU rfl rfl kk rfl ?_
    refine zU rfl rfl kk rfl ?_
    refine zU rfl rfl kk rfl ?_
    refine zU rfl rfl kk rfl ?_
    refine zU rfl rfl kk rfl ?_
    refine zU rfl rfl kk rfl ?_
    refine qE _ rfl rfl kk hc3 rfl ?_
    refine jA rfl (zB rfl (zCA (b:=y2) (p:=bif (ltI f1.1 f1.2.2) then true else (bif (eqI f1.1 f1.2.2) then (leI 0 f1.2.1) else false)) (q:=false) rfl kk hc3 kk)) ?_
    refine L0 rfl rfl (zE (Bo (bif y2 then (bif (ltI f1.1 f1.2.2) then true else (bif (eqI f1.1 f1.2.2) then (leI 0 f1.2.1) else false)) else false)) rfl kk) ?_
    refine zC ?_
    subst ht6
    kernel_rfl
  refine zEU ?_
  obtain rfl:=qB h;show Post _ _ _ _ _;exact⟨.inr rfl,rfl,rfl,rfl⟩
def zCb(f1:(Int×Int×Int)):=fC zG0 (zY f1) fun _=>zGm
theorem zI8:CfW zt 56:=cfW Tryz.func56
noncomputable def zIo(d1:Int):T zt (List (Int×Int×Int)):=
 .n1 (nilN 73 3 (by decide))<|
 .n1 bsl0<|
 .loop (fun n X_2=>zAZ d1 n X_2.1 X_2.2) ((1,([]:List (Int×Int×Int)))) (mb 51 25) [56] (fun s X_2 γ=>s.pc (mb 51 25) [56] [(4,I X_2.1)] [(56,.arr 73 3 (X_2.2.map c73))]) (fun X_2=>
 .cond (leI (w64 ((w64 (3*X_2.1))*X_2.1)) (w64 (0 - d1))) (
 .frc (w64 (1 - X_2.1)) fun b7=>.loop (fun n X_1=>qT X_2.1 d1 n X_1.1 X_1.2) ((b7,X_2.2)) (mb 51 57) [56] (fun s X_1 γ=>s.pc (mb 51 57) [56] [(5,I X_1.1)] [(56,.arr 73 3 (X_1.2.map c73))]) (fun X_1=>
 .cond (leI X_1.1 X_2.1) (.op0 (remF .i64 (w64 ((w64 (X_1.1*X_1.1)) - d1)) (w64 (4*X_2.1))) fun z13=>
 .lt (!eqI (Int.tmod (w64 ((w64 (X_1.1*X_1.1)) - d1)) (w64 (4*X_2.1))) 0) fun t14=>.cond t14 (
 .frc (w64 (X_1.1+1)) fun b16=>.ret (.inl ((b16,X_1.2))))<|.op0 (quoF .i64 (w64 ((w64 (X_1.1*X_1.1)) - d1)) (w64 (4*X_2.1))) fun z17=>.n0 (bld pl73 bt73)<|
 .frc (w64 (Int.tdiv (w64 ((w64 (X_1.1*X_1.1)) - d1)) (w64 (4*X_2.1)))) fun f18=>.op1 (zCb ((X_2.1,X_1.1,f18))) fun y19=>
 .cond y19 (.n1 bsl<|.opx (app ct73 X_1.2 ([(X_2.1,X_1.1,f18)])) fun u21=>
 .frc (w64 (X_1.1+1)) fun b22=>.ret (.inl ((b22,X_1.2++([(X_2.1,X_1.1,f18)])))))<|
 .frc (w64 (X_1.1+1)) fun b23=>.ret (.inl ((b23,X_1.2))))<|.ret (.inr X_1.2)) (mb 51 25) [56] (fun s o11 γ=>s.pc (mb 51 25) [56] [] [(56,.arr 73 3 (o11.map c73))]) fun o11=>
 .frc (w64 (X_2.1+1)) fun a24=>.ret (.inl ((a24,o11))))<|.ret (.inr X_2.2)) (mb 51 8) [56] (fun s o5 γ=>s.pc (mb 51 8) [56] [] [(56,.arr 73 3 (o5.map c73))]) fun o5=>
 .ret o5
theorem zIy{d1:Int}{r:List (Int×Int×Int)}(h:zCc d1=some r):zF zt 56 [I d1] (.ow 0) [(0,.arr 73 3 (r.map c73))]:=CtT (zIo d1) (fun r=>(.ow 0,[(0,.arr 73 3 (r.map c73))])) (rs:=[.t 2]) (vs:=[.tmp 2]) Tryz.func56 rfl rfl (.cons rfl FitsL.nil) h
def zJe(d1:Int):=fC zI8 (zCc d1) fun _=>zIy
theorem zR8:CfW zt 113:=cfW Tryz.func113
noncomputable def zRx(vn1:Int):T zt Int:=
 .n0 au<|.n0 au<|
 .frc (mxI vn1 (w64 (0 - (mxI vn1 (-9223372036854775807))))) fun t2=>.ret t2
theorem zSH{vn1:Int}{r:Int}(h:zCo vn1=some r):zF zt 113 [I vn1] (I r) []:=CtT (zRx vn1) (fun r=>(I r,[])) (rs:=[.t 2]) (vs:=[.tmp 2]) Tryz.func113 rfl rfl (.cons rfl FitsL.nil) h
def zOD(vn1:Int):=fC zR8 (zCo vn1) fun _=>zSH
theorem zR7:CfW zt 97:=cfW Tryz.func97
noncomputable def zRw(a1:Int)(b2:Int):T zt Int:=
 .loop (fun n X_1=>zAM n X_1.1 X_1.2) ((a1,b2)) (mb 13 3) [] (fun s X_1 γ=>s.pc (mb 13 3) [] [(0,I X_1.1),(1,I X_1.2)] []) (fun X_1=>
 .cond (!eqI X_1.2 0) (.draw 6 []<|.op0 (remF .i64 X_1.1 X_1.2) fun z8=>
 .frc (Int.tmod X_1.1 X_1.2) fun b9=>.ret (.inl ((X_1.2,b9))))<|.ret (.inr X_1.1)) (mb 13 1) [] (fun s o6 γ=>s.pc (mb 13 1) [] [(0,I o6)] []) fun o6=>
 .op1 (zOD o6) fun y10=>
 .ret y10
theorem zSG{a1:Int}{b2:Int}{r:Int}(h:zCn a1 b2=some r):zF zt 97 [I a1,I b2] (I r) []:=CtT (zRw a1 b2) (fun r=>(I r,[])) (rs:=[.t 4]) (vs:=[.tmp 4]) Tryz.func97 rfl rfl (.cons rfl FitsL.nil) h
def zG3(a1:Int)(b2:Int):=fC zR7 (zCn a1 b2) fun _=>zSG
theorem zHR:CfW zt 78:=cfW Tryz.func78
noncomputable def zHk(f1:(Int×Int×Int)):T zt Int:=
 .draw 9 []<|.op1 (zG3 f1.2.1 f1.2.2) fun y2=>.op1 (zG3 f1.1 y2) fun y3=>
 .ret y3
theorem zHo{f1:(Int×Int×Int)}{r:Int}(h:zAi f1=some r):zF zt 78 [.ag [Ti f1.1,Ti f1.2.1,Ti f1.2.2]] (I r) []:=CtT (zHk f1) (fun r=>(I r,[])) (rs:=[.t 2]) (vs:=[.tmp 2]) Tryz.func78 rfl rfl (.cons rfl FitsL.nil) h
def zHx(f1:(Int×Int×Int)):=fC zHR (zAi f1) fun _=>zHo
theorem zHs:CfW zt 55:=cfW Tryz.func55
noncomputable def zIH(forms1:List (Int×Int×Int)):T zt (List (Int×Int×Int)):=
 .n1 (nilN 73 3 (by decide))<|
 .n1 bsl0<|
 .n0 (lenM ct73 forms1)<|
 .loop (fun n X_1=>zAI forms1 n X_1.1 X_1.2) ((0,([]:List (Int×Int×Int)))) (mb 22 904) [48] (fun s X_1 γ=>s.pc (mb 22 904) [48] [(9,I X_1.1)] [(48,.arr 73 3 (X_1.2.map c73))]) (fun X_1=>
 .cond (ltI X_1.1 ((forms1.length:Int))) (.op0 (idxM ct73 forms1 X_1.1) fun e7=>
 .op1 (zHx e7) fun y8=>
 .cond (eqI y8 1) (.n1 bsl<|.opx (app ct73 X_1.2 ([e7])) fun u10=>
 .frc (w64 (X_1.1+1)) fun t11=>.ret (.inl ((t11,X_1.2++([e7])))))<|
 .frc (w64 (X_1.1+1)) fun t12=>.ret (.inl ((t12,X_1.2))))<|.ret (.inr X_1.2)) (mb 22 8) [48] (fun s o5 γ=>s.pc (mb 22 8) [48] [] [(48,.arr 73 3 (o5.map c73))]) fun o5=>
 .ret o5
theorem zIR{forms1:List (Int×Int×Int)}{r:List (Int×Int×Int)}(h:zCU forms1=some r):zF zt 55 [.c (.sl (forms1.map c73))] (.ow 0) [(0,.arr 73 3 (r.map c73))]:=CtT (zIH forms1) (fun r=>(.ow 0,[(0,.arr 73 3 (r.map c73))])) (rs:=[.t 2]) (vs:=[.tmp 2]) Tryz.func55 rfl rfl (.cons rfl FitsL.nil) h
def zIc(forms1:List (Int×Int×Int)):=fCs zHs (zCU forms1) (fun _=>zIR) fun _=>(zD2 (fun _=>rfl) rfl)
theorem zBy:CfW zt 28:=cfW Tryz.func28
noncomputable def zHh(d1:Int):T zt (List (Int×Int×Int)):=
 .n1 (nilN 73 3 (by decide))<|
 .op1 (zJe d1) fun y2=>.op1 (zIc y2) fun y3=>
 .ret y3
theorem zCF{d1:Int}{r:List (Int×Int×Int)}(h:zJ d1=some r):zF zt 28 [I d1] (.ow 0) [(0,.arr 73 3 (r.map c73))]:=CtT (zHh d1) (fun r=>(.ow 0,[(0,.arr 73 3 (r.map c73))])) (rs:=[.t 2]) (vs:=[.tmp 2]) Tryz.func28 rfl rfl (.cons rfl FitsL.nil) h
def jF(d1:Int):=fC zBy (zJ d1) fun _=>zCF
def zHv(d1:Int):=fC zBy (zJ d1) fun _ h=>zKe (zCF h)
theorem zLe:∀args w,(callFunc 31 args).run zt w=.ok (.enter 31 args) w:=jM Tryz.func31 kk kk
set_option maxRecDepth 100000 in
set_option maxHeartbeats 400000 in
theorem zMp{d1:Int}{r:((List (Int×Int×Int))×(List ((Int×Int×Int)×Int)))}(h:q7 d1=some r):zF zt 31 [I d1] (.pe [.sl (r.1.map c73),.mp (r.2.map kv69)]) []:=by
  refine qP (rs:=[.t 2]) (vs:=[.tmp 2]) Tryz.func31 rfl rfl (.cons rfl FitsL.nil) (by decide) 29 rfl ?_
  unfold q7 at h;show V _ _ ⟨I d1::bt 28 [],[]⟩ _;refine zO (mb 29 1) [] (s1:=⟨I d1::bt 28 [],[]⟩) ?_ ?_
  ·refine L0 rfl rfl (zE (.c (.v (.pointer none))) rfl kk) ?_
   refine zC ?_
   kernel_rfl
  obtain⟨y2,hy2,h⟩:=zI h;refine zWt (fun mb8=>⟨bt 3 (.pt 80 0::bt 25 []),[(80,.box [.sl (y2.map c73),.v (.map (some mb8))]),(64,.mp mb8 ((([]:List ((Int×Int×Int)×Int))).map kv69))]⟩) (mb 29 8) [80,64] ?_ ?_
  ·refine L0 rfl rfl (zD (I d1) rfl kk) ?_
   refine L1 rfl rfl (zBz (zCF hy2) zBy rfl kk) ?_
   refine zVp rfl rfl rfl fun mb8=>?_
   refine zUE 56 (T:=73) (sz:=3) (els:=y2.map c73) (s1:=⟨I d1::bt 5 (I d1::.c (.sl (y2.map c73))::.c (.v (.map (some mb8)))::bt 20 []),[(64,.mp mb8 ((([]:List ((Int×Int×Int)×Int))).map kv69))]⟩) kk kk ?_
   refine L0 rfl rfl (zRe (cs:=[.sl (y2.map c73),.v (.map (some mb8))]) pl71 bt71 rfl rfl kk) ?_
   refine L1 rfl rfl (zK9 (cs:=[.sl (y2.map c73),.v (.map (some mb8))]) rfl kk) ?_
   refine L0 rfl rfl (zE (.pt 80 0) rfl kk) ?_
   refine zC ?_
   exact⟨mb8,by kernel_rfl⟩
  intro mb8;refine zAS ?_
  refine zO (mb 29 114696) [80,64] (s1:=⟨bt 3 (.pt 80 0::bt 10 (.c (.sl (y2.map c73))::I ((y2.length:Int))::I 0::bt 12 [])),[(80,.box [.sl (y2.map c73),.v (.map (some mb8))]),(64,.mp mb8 ((([]:List ((Int×Int×Int)×Int))).map kv69))]⟩) ?_ ?_
  ·refine L0 rfl rfl (zD (.pt 80 0) rfl kk) ?_
   refine L0 rfl rfl (zNs (.pt 80 0) rfl kk (by intro hh;cases hh)) ?_
   refine L0 rfl rfl (zAG (.pt 80 0) Tryz.underlying71 rfl sz50 rfl kk (by intro hh;cases hh)) ?_
   refine L0 rfl rfl (qI (c:=.sl (y2.map c73)) (cs:=[.v (.map (some mb8))]) sc50 rfl kk) ?_
   refine L0 rfl rfl (zDS (c:=c73) (xs:=y2) Tryz.underlying50 rfl kk) ?_
   refine L0 rfl rfl (zD (I 0) rfl kk) ?_
   refine zC ?_
   kernel_rfl
  obtain⟨o6,hLo6,h⟩:=zI h;refine zHT (mb 29 8) [80,64] (s1:=⟨bt 3 (.pt 80 0::bt 25 []),[(80,.box [.sl (y2.map c73),.v (.map (some mb8))]),(64,.mp mb8 (o6.map kv69))]⟩) ?_ ?_
  ·clear h;refine zAF (zE0 (fun n s=>∃(t3:Int) (l4:List ((Int×Int×Int)×Int)),s.keep (mb 29 114696) [80,64]=(⟨bt 3 (.pt 80 0::bt 10 (.c (.sl (y2.map c73))::I ((y2.length:Int))::I t3::bt 12 [])),[(80,.box [.sl (y2.map c73),.v (.map (some mb8))]),(64,.mp mb8 (l4.map kv69))]⟩:St)∧zAb y2 n t3 l4=some o6) FU ⟨_,_,by rfl,hLo6⟩ ?_);clear hLo6;rintro n s ⟨t3,l4,hs,h⟩;refine zF8 _ _ hs ?_
   clear hs;cases n with
   |zero=>cases h
   |succ n=>
    rw[zAb]at h;refine zO (mb 29 245768) [80,64] (s1:=⟨bt 3 (.pt 80 0::bt 10 (.c (.sl (y2.map c73))::I ((y2.length:Int))::I t3::Bo (ltI t3 ((y2.length:Int)))::bt 11 [])),[(80,.box [.sl (y2.map c73),.v (.map (some mb8))]),(64,.mp mb8 (l4.map kv69))]⟩) ?_ ?_
    ·refine L0 rfl rfl (zDF (k:=.i64) (a:=t3) (b:=(y2.length:Int)) rfl kk kk) ?_
     refine zC ?_
     kernel_rfl
    refine zAS ?_
    refine zCQ rfl (fun hc7=>?_) (fun hc7=>?_)
    ·have h:=zBw h hc7;refine zCa ?_
     show V _ _ _ _;refine zAS ?_
     refine zAF ?_
     obtain⟨e8,he8,h⟩:=zI h;refine zO (mb 29 114744) [40,80,64] (s1:=⟨bt 3 (.pt 80 0::I t3::.pt 40 0::bt 8 (.c (.sl (y2.map c73))::I ((y2.length:Int))::I t3::bt 12 [])),[(40,.box [Ti e8.1,Ti e8.2.1,Ti e8.2.2]),(80,.box [.sl (y2.map c73),.v (.map (some mb8))]),(64,.mp mb8 (l4.map kv69))]⟩) ?_ ?_
     ·refine L0 rfl rfl (zD (I t3) rfl kk) ?_
      refine L0 rfl rfl (zJ4 (c:=c73) (xs:=y2) (v:=e8) (n:=t3) Tryz.underlying50 sz73 rfl kk kk he8) ?_
      refine L0 rfl rfl (zFS (cs:=[Ti e8.1,Ti e8.2.1,Ti e8.2.2]) [Ti e8.1,Ti e8.2.1,Ti e8.2.2] wd73 rfl kk (Nat.le_of_ble_eq_true rfl) kk) ?_
      refine L1 rfl rfl (zJ3 (z:=zv73) rfl zf73 rfl) ?_
      refine L0 rfl rfl (zE (I t3) rfl kk) ?_
      refine jA rfl (zMH (id:=40) (off:=0) (cs:=[Ti 0,Ti 0,Ti 0]) (vc:=[Ti e8.1,Ti e8.2.1,Ti e8.2.2]) [Ti e8.1,Ti e8.2.1,Ti e8.2.2] rfl rfl kk kk kk sz73 (Nat.le_of_ble_eq_true rfl) kk) ?_
      refine zC ?_
      kernel_rfl
     refine zSe [0,1,3,7,0,0,63] 6 [[.z,.z,.z,.z,.b,.b],[.a,.z,.z,.z,.b,.b],[.a,.a,.z,.z,.b,.b],[.a,.a,.a,.z,.b,.b],[.b,.b,.b,.b,.z,.b],[.b,.b,.b,.b,.b,.z]] (mb 29 114696) [80,64] (s1:=⟨bt 3 (.pt 80 0::bt 10 (.c (.sl (y2.map c73))::I ((y2.length:Int))::I t3::bt 12 [])),[(80,.box [.sl (y2.map c73),.v (.map (some mb8))]),(64,.mp mb8 ((mPut e8 t3 l4).map kv69))]⟩) kk kk ?_ ?_
     ·refine DE_0 0 (.pt 80 0) kk rfl rfl rfl (zK rfl) kk (zD (.pt 80 0) rfl kk) 21 rfl ?_
      refine DE_0 1 (.pt 80 0) kk rfl rfl rfl (zK rfl) kk (zNs (.pt 80 0) rfl kk (by intro hh;cases hh)) 22 rfl ?_
      refine DE_0 2 (.pt 80 1) kk rfl rfl rfl (zK rfl) kk (zAG (.pt 80 1) Tryz.underlying71 rfl sz69 rfl kk (by intro hh;cases hh)) 23 rfl ?_
      refine DE_0 3 (.c (.v (.map (some mb8)))) kk rfl rfl rfl (zK rfl) kk (qI (c:=.v (.map (some mb8))) (cs:=[]) sc69 rfl kk) 24 rfl ?_
      refine DE_0 4 (.ag [Ti e8.1,Ti e8.2.1,Ti e8.2.2]) kk rfl rfl rfl (zK rfl) kk (zFS (cs:=[Ti e8.1,Ti e8.2.1,Ti e8.2.2]) [Ti e8.1,Ti e8.2.1,Ti e8.2.2] wd73 rfl kk (Nat.le_of_ble_eq_true rfl) kk) 25 rfl ?_
      refine DE_0 5 (I t3) kk rfl rfl rfl (zK rfl) kk (zD (I t3) rfl kk) 26 rfl ?_
      refine zQa kk ?_
      refine jA rfl (zZC (κ:=(Int×Int×Int)) (ν:=Int) (ek:=ek69) (ev:=ev69) (z:=0) (m:=l4) (a:=e8) (u:=t3) (id:=64) (b:=mb8) mo69 (.inl rfl) rfl kk kk kk kk) ?_
      refine zC ?_
      kernel_rfl
     show V _ _ _ _;obtain⟨t9,ht9,h⟩:=zE3 h;refine zDB (mb 29 114696) [80,64] (s1:=⟨bt 3 (.pt 80 0::bt 10 (.c (.sl (y2.map c73))::I ((y2.length:Int))::I t9::bt 12 [])),[(80,.box [.sl (y2.map c73),.v (.map (some mb8))]),(64,.mp mb8 ((mPut e8 t3 l4).map kv69))]⟩) ?_ ?_
     ·refine L0 rfl rfl (zCP (a:=t3) (b:=1) rfl kk kk) ?_
      refine L0 rfl rfl (zD (I (w64 (t3+1))) rfl kk) ?_
      refine zC ?_
      subst ht9
      kernel_rfl
     exact⟨n,zf n,_,_,by rfl,h⟩
    ·have h:=zBE h hc7;refine zEy ?_
     obtain rfl:=qB h;show St.keep _ _ _=_;rfl
  show V _ _ _ _;refine zO (mb 29 4) [80,64] (s1:=⟨.bot::.bot::.pt 80 0::bt 26 [],[(80,.box [.sl (y2.map c73),.v (.map (some mb8))]),(64,.mp mb8 (o6.map kv69))]⟩) ?_ ?_
  ·refine L0 rfl rfl (zD (.pt 80 0) rfl kk) ?_
   refine L0 rfl rfl (zE (.pt 80 0) rfl kk) ?_
   refine zC ?_
   kernel_rfl
  refine zUF 64 80 1 (b:=mb8) (kvs:=o6.map kv69) (cs:=[.sl (y2.map c73),.v (.map (some mb8))]) (s1:=⟨.bot::.bot::.pt 80 0::bt 26 [],[(80,.box [.sl (y2.map c73),.mp (o6.map kv69)])]⟩) kk kk kk kk ?_
  refine zHf 80 (cs:=[.sl (y2.map c73),.mp (o6.map kv69)]) (s1:=⟨.bot::.bot::.pe [.sl (y2.map c73),.mp (o6.map kv69)]::bt 26 [],[]⟩) kk kk ?_
  refine zEU ?_
  obtain rfl:=qB h;show Post _ _ _ _ _;exact⟨.inr rfl,rfl,rfl,rfl⟩
def zH1(d1:Int):=fC zLe (q7 d1) fun _=>zMp
theorem zR5:CfW zt 116:=cfW Tryz.func116
noncomputable def zRu:T zt ((Int×Int×Int×Int)):=
 .n0 (bld pl90 bt90)<|
 .ret ((1,0,0,1))
theorem zSE{r:(Int×Int×Int×Int)}(h:zEI=some r):zF zt 116 [] (.ag [Ti r.1,Ti r.2.1,Ti r.2.2.1,Ti r.2.2.2]) []:=CtT (zRu) (fun r=>(.ag [Ti r.1,Ti r.2.1,Ti r.2.2.1,Ti r.2.2.2],[])) (rs:=[.w 0 4]) (vs:=[.cell 0 90]) Tryz.func116 rfl rfl (.cons ⟨rfl,wd90⟩ FitsL.nil) h
def zOA:=fC zR5 (zEI) fun _=>zSE
theorem zK4:CfW zt 130:=cfW Tryz.func130
noncomputable def zLG(a1:Int)(vm2:Int):T zt Int:=
 .op1 (zCE a1 vm2) fun y3=>.op0 (quoF .i64 (w64 (a1 - y3)) vm2) fun z4=>
 .frc (w64 (Int.tdiv (w64 (a1 - y3)) vm2)) fun t5=>.ret t5
theorem zLV{a1:Int}{vm2:Int}{r:Int}(h:zAQ a1 vm2=some r):zF zt 130 [I a1,I vm2] (I r) []:=CtT (zLG a1 vm2) (fun r=>(I r,[])) (rs:=[.t 4]) (vs:=[.tmp 4]) Tryz.func130 rfl rfl (.cons rfl FitsL.nil) h
def zGa(a1:Int)(vm2:Int):=fC zK4 (zAQ a1 vm2) fun _=>zLV
theorem zJY:CfW zt 117:=cfW Tryz.func117
noncomputable def zJp(f1:(Int×Int×Int)):T zt ((Int×Int×Int×Int)):=
 .op1 (zCb f1) fun y2=>
 .cond y2 (.op1 (zOA) fun y4=>
 .ret y4)<|.op1 (zH3 f1) fun y5=>
 .cond (!y5) (.op1 (zGa (w64 (f1.1 - f1.2.1)) (w64 (2*f1.1))) fun y7=>.n0 (bld pl90 bt90)<|
 .ret ((1,y7,0,1)))<|.n0 (bld pl90 bt90)<|
 .ret ((0,-1,1,0))
theorem zKB{f1:(Int×Int×Int)}{r:(Int×Int×Int×Int)}(h:z5 f1=some r):zF zt 117 [.ag [Ti f1.1,Ti f1.2.1,Ti f1.2.2]] (.ag [Ti r.1,Ti r.2.1,Ti r.2.2.1,Ti r.2.2.2]) []:=CtT (zJp f1) (fun r=>(.ag [Ti r.1,Ti r.2.1,Ti r.2.2.1,Ti r.2.2.2],[])) (rs:=[.w 2 4]) (vs:=[.cell 2 90]) Tryz.func117 rfl rfl (.cons ⟨rfl,wd90⟩ FitsL.nil) h
def zKj(f1:(Int×Int×Int)):=fC zJY (z5 f1) fun _=>zKB
theorem zLh:CfW zt 89:=cfW Tryz.func89
noncomputable def zM5(f1:(Int×Int×Int))(x2:Int)(y3:Int):T zt Int:=
 .frc (w64 ((w64 ((w64 ((w64 (f1.1*x2))*x2))+(w64 ((w64 (f1.2.1*x2))*y3))))+(w64 ((w64 (f1.2.2*y3))*y3)))) fun t4=>.ret t4
theorem zMs{f1:(Int×Int×Int)}{x2:Int}{y3:Int}{r:Int}(h:jU f1 x2 y3=some r):zF zt 89 [.ag [Ti f1.1,Ti f1.2.1,Ti f1.2.2],I x2,I y3] (I r) []:=CtT (zM5 f1 x2 y3) (fun r=>(I r,[])) (rs:=[.t 6]) (vs:=[.tmp 6]) Tryz.func89 rfl rfl (.cons rfl FitsL.nil) h
def zDt(f1:(Int×Int×Int))(x2:Int)(y3:Int):=fC zLh (jU f1 x2 y3) fun _=>zMs
theorem zI9:CfW zt 131:=cfW Tryz.func131
noncomputable def zIp(f1:(Int×Int×Int))(x2:Int)(y3:Int)(u4:Int)(v5:Int):T zt Int:=
 .frc (w64 ((w64 ((w64 ((w64 ((w64 (2*f1.1))*x2))*u4))+(w64 (f1.2.1*(w64 ((w64 (x2*v5))+(w64 (y3*u4))))))))+(w64 ((w64 ((w64 (2*f1.2.2))*y3))*v5)))) fun t6=>.ret t6
theorem zIz{f1:(Int×Int×Int)}{x2:Int}{y3:Int}{u4:Int}{v5:Int}{r:Int}(h:zAD f1 x2 y3 u4 v5=some r):zF zt 131 [.ag [Ti f1.1,Ti f1.2.1,Ti f1.2.2],I x2,I y3,I u4,I v5] (I r) []:=CtT (zIp f1 x2 y3 u4 v5) (fun r=>(I r,[])) (rs:=[.t 10]) (vs:=[.tmp 10]) Tryz.func131 rfl rfl (.cons rfl FitsL.nil) h
def zJf(f1:(Int×Int×Int))(x2:Int)(y3:Int)(u4:Int)(v5:Int):=fC zI9 (zAD f1 x2 y3 u4 v5) fun _=>zIz
theorem zFv:CfW zt 118:=cfW Tryz.func118
noncomputable def zGF(f1:(Int×Int×Int))(vm2:(Int×Int×Int×Int)):T zt ((Int×Int×Int)):=
 .draw 23 []<|.op1 (zDt f1 vm2.1 vm2.2.2.1) fun y3=>.op1 (zJf f1 vm2.1 vm2.2.2.1 vm2.2.1 vm2.2.2.2) fun y4=>.op1 (zDt f1 vm2.2.1 vm2.2.2.2) fun y5=>.n0 (bld pl73 bt73)<|
 .ret ((y3,y4,y5))
theorem zGK{f1:(Int×Int×Int)}{vm2:(Int×Int×Int×Int)}{r:(Int×Int×Int)}(h:zN f1 vm2=some r):zF zt 118 [.ag [Ti f1.1,Ti f1.2.1,Ti f1.2.2],.ag [Ti vm2.1,Ti vm2.2.1,Ti vm2.2.2.1,Ti vm2.2.2.2]] (.ag [Ti r.1,Ti r.2.1,Ti r.2.2]) []:=CtT (zGF f1 vm2) (fun r=>(.ag [Ti r.1,Ti r.2.1,Ti r.2.2],[])) (rs:=[.w 4 3]) (vs:=[.cell 4 73]) Tryz.func118 rfl rfl (.cons ⟨rfl,wd73⟩ FitsL.nil) h
def zC0(f1:(Int×Int×Int))(vm2:(Int×Int×Int×Int)):=fC zFv (zN f1 vm2) fun _=>zGK
theorem zHQ:CfW zt 119:=cfW Tryz.func119
noncomputable def zHj(vm1:(Int×Int×Int×Int))(vn2:(Int×Int×Int×Int)):T zt ((Int×Int×Int×Int)):=
 .n0 (bld pl90 bt90)<|
 .frc (w64 ((w64 (vm1.1*vn2.1))+(w64 (vm1.2.1*vn2.2.2.1)))) fun f3=>.frc (w64 ((w64 (vm1.1*vn2.2.1))+(w64 (vm1.2.1*vn2.2.2.2)))) fun f4=>.frc (w64 ((w64 (vm1.2.2.1*vn2.1))+(w64 (vm1.2.2.2*vn2.2.2.1)))) fun f5=>.frc (w64 ((w64 (vm1.2.2.1*vn2.2.1))+(w64 (vm1.2.2.2*vn2.2.2.2)))) fun f6=>.ret ((f3,f4,f5,f6))
theorem zHn{vm1:(Int×Int×Int×Int)}{vn2:(Int×Int×Int×Int)}{r:(Int×Int×Int×Int)}(h:zQ vm1 vn2=some r):zF zt 119 [.ag [Ti vm1.1,Ti vm1.2.1,Ti vm1.2.2.1,Ti vm1.2.2.2],.ag [Ti vn2.1,Ti vn2.2.1,Ti vn2.2.2.1,Ti vn2.2.2.2]] (.ag [Ti r.1,Ti r.2.1,Ti r.2.2.1,Ti r.2.2.2]) []:=CtT (zHj vm1 vn2) (fun r=>(.ag [Ti r.1,Ti r.2.1,Ti r.2.2.1,Ti r.2.2.2],[])) (rs:=[.w 4 4]) (vs:=[.cell 4 90]) Tryz.func119 rfl rfl (.cons ⟨rfl,wd90⟩ FitsL.nil) h
def zE5(vm1:(Int×Int×Int×Int))(vn2:(Int×Int×Int×Int)):=fC zHQ (zQ vm1 vn2) fun _=>zHn
theorem zNa:CfW zt 101:=cfW Tryz.func101
noncomputable def zOM(f1:(Int×Int×Int)):T zt (((Int×Int×Int)×(Int×Int×Int×Int))):=
 .op1 (zOA) fun y2=>
 .loop (fun n X_1=>zAa n X_1.1 X_1.2.1 X_1.2.2.1 X_1.2.2.2.1 X_1.2.2.2.2.1 X_1.2.2.2.2.2.1 X_1.2.2.2.2.2.2) ((y2.1,y2.2.1,y2.2.2.1,y2.2.2.2,f1.1,f1.2.1,f1.2.2)) (mb 20 30) [32,24,16,8] (fun s X_1 γ=>s.pc (mb 20 30) [32,24,16,8] [] [(32,.box [Ti X_1.1,Ti X_1.2.1,Ti X_1.2.2.1,Ti X_1.2.2.2.1]),(8,.box [Ti X_1.2.2.2.2.1,Ti X_1.2.2.2.2.2.1,Ti X_1.2.2.2.2.2.2])]) (fun X_1=>
 .op1 (zCb ((X_1.2.2.2.2.1,X_1.2.2.2.2.2.1,X_1.2.2.2.2.2.2))) fun y12=>
 .cond (!y12) (.op1 (zKj ((X_1.2.2.2.2.1,X_1.2.2.2.2.2.1,X_1.2.2.2.2.2.2))) fun y14=>
 .op1 (zC0 ((X_1.2.2.2.2.1,X_1.2.2.2.2.2.1,X_1.2.2.2.2.2.2)) y14) fun y15=>
 .op1 (zE5 ((X_1.1,X_1.2.1,X_1.2.2.1,X_1.2.2.2.1)) y14) fun y16=>
 .ret (.inl ((y16.1,y16.2.1,y16.2.2.1,y16.2.2.2,y15.1,y15.2.1,y15.2.2))))<|.ret (.inr ((X_1.1,X_1.2.1,X_1.2.2.1,X_1.2.2.2.1,X_1.2.2.2.2.1,X_1.2.2.2.2.2.1,X_1.2.2.2.2.2.2)))) (mb 20 30) [32,24,16,8] (fun s o11 γ=>s.pc (mb 20 30) [32,24,16,8] [] [(32,.box [Ti o11.1,Ti o11.2.1,Ti o11.2.2.1,Ti o11.2.2.2.1]),(8,.box [Ti o11.2.2.2.2.1,Ti o11.2.2.2.2.2.1,Ti o11.2.2.2.2.2.2])]) fun o11=>
 .draw 3 [(2,16)]<|
 .ret ((o11.2.2.2.2,(o11.1,o11.2.1,o11.2.2.1,o11.2.2.2.1)))
theorem zOX{f1:(Int×Int×Int)}{r:((Int×Int×Int)×(Int×Int×Int×Int))}(h:zAL f1=some r):zF zt 101 [.ag [Ti f1.1,Ti f1.2.1,Ti f1.2.2]] (.tc (.ag [Ti r.1.1,Ti r.1.2.1,Ti r.1.2.2]) (.tc (.ag [Ti r.2.1,Ti r.2.2.1,Ti r.2.2.2.1,Ti r.2.2.2.2]) .tn)) []:=CtT (zOM f1) (fun r=>(.tc (.ag [Ti r.1.1,Ti r.1.2.1,Ti r.1.2.2]) (.tc (.ag [Ti r.2.1,Ti r.2.2.1,Ti r.2.2.2.1,Ti r.2.2.2.2]) .tn),[])) (rs:=[.w 2 3,.w 3 4]) (vs:=[.cell 2 73,.cell 3 90]) Tryz.func101 rfl rfl (.cons ⟨rfl,wd73⟩ (.cons ⟨rfl,wd90⟩ FitsL.nil)) h
def zOh(f1:(Int×Int×Int)):=fC zNa (zAL f1) fun _=>zOX
theorem zLb:CfW zt 85:=cfW Tryz.func85
noncomputable def zMY(f1:(Int×Int×Int)):T zt ((Int×Int×Int)):=
 .op1 (zOh f1) fun y2=>
 .ret y2.1
theorem zMm{f1:(Int×Int×Int)}{r:(Int×Int×Int)}(h:zA9 f1=some r):zF zt 85 [.ag [Ti f1.1,Ti f1.2.1,Ti f1.2.2]] (.ag [Ti r.1,Ti r.2.1,Ti r.2.2]) []:=CtT (zMY f1) (fun r=>(.ag [Ti r.1,Ti r.2.1,Ti r.2.2],[])) (rs:=[.w 2 3]) (vs:=[.cell 2 73]) Tryz.func85 rfl rfl (.cons ⟨rfl,wd73⟩ FitsL.nil) h
def zDs(f1:(Int×Int×Int)):=fC zLb (zA9 f1) fun _=>zMm
theorem zI7:CfW zt 87:=cfW Tryz.func87
noncomputable def zIn(g1:(Int×Int×Int))(a2:Int):T zt ((Int×Int)):=
 .loopS (fun n X_4=>jT a2 g1 n X_4) 0 (mb 43 70) [16] (fun s X_4 γ=>s.pc (mb 43 70) [16] [(6,I X_4)] []) (fun X_4=>
 .loopS (fun n X_3=>zBD a2 g1 X_4 n X_3) 0 (mb 43 198) [16] (fun s X_3 γ=>s.pc (mb 43 198) [16] [(7,I X_3)] []) (fun X_3=>
 .cond (leI X_3 X_4) (
 .loopS (fun n X_2=>zAm a2 g1 X_4 X_3 n X_2) 0 (mb 43 454) [16] (fun s X_2 γ=>s.pc (mb 43 454) [16] [(8,I X_2)] []) (fun X_2=>
 .cond (leI X_2 X_4) (.pl<|.dn<|.joinC (.n0 au<|.seqT (.cond (eqI (mxI X_3 X_2) X_4) (.op1 (zG3 X_3 X_2) fun y15=>.ret (eqI y15 1)) (.ret false)) fun b16=>.seqT (.cond b16 (.op1 (zDt g1 X_3 X_2) fun y18=>.op1 (zG3 y18 a2) fun y19=>.ret (eqI y19 1)) (.ret false)) fun b20=>.ret (b16,b20)) (mb 43 1099511628230) [16] (fun s q_1 γ=>s.pc (mb 43 1099511628230) [16] [(40,Bo q_1.2)] []) fun q_1=>
 .cond q_1.2 (
 .ret (.early ((X_3,X_2))))<|
 .frc (w64 (X_2+1)) fun y22=>.ret (.again y22))<|.ret (.done (()))) (mb 43 198) [16] (fun s o12 γ=>s.pc (mb 43 198) [16] [] []) (.early) fun o12=>
 .frc (w64 (X_3+1)) fun x23=>.ret (.again x23))<|.ret (.done (()))) (mb 43 70) [16] (fun s o8 γ=>s.pc (mb 43 70) [16] [] []) (.early) fun o8=>
 .frc (w64 (X_4+1)) fun size24=>.ret (.again size24)) [] [] (fun _ _ _=>⟨[],[]⟩) (fun r=>r) fun _=>.fail
theorem zIx{g1:(Int×Int×Int)}{a2:Int}{r:(Int×Int)}(h:zBL g1 a2=some r):zF zt 87 [.ag [Ti g1.1,Ti g1.2.1,Ti g1.2.2],I a2] (.tc (I r.1) (.tc (I r.2) .tn)) []:=CtT (zIn g1 a2) (fun r=>(.tc (I r.1) (.tc (I r.2) .tn),[])) (rs:=[.t 4,.t 5]) (vs:=[.tmp 4,.tmp 5]) Tryz.func87 rfl rfl (.cons rfl (.cons rfl FitsL.nil)) h
def zFU(g1:(Int×Int×Int))(a2:Int):=fC zI7 (zBL g1 a2) fun _=>zIx
theorem zLd:CfW zt 136:=cfW Tryz.func136
noncomputable def zM1(a1:Int)(vm2:Int):T zt Int:=
 .op1 (zCE a1 vm2) fun y3=>
 .loop (fun n X_1=>zDh vm2 n X_1.1 X_1.2.1 X_1.2.2.1 X_1.2.2.2) ((1,0,y3,vm2)) (mb 34 482) [] (fun s X_1 γ=>s.pc (mb 34 482) [] [(5,I X_1.1),(6,I X_1.2.1),(7,I X_1.2.2.1),(8,I X_1.2.2.2)] []) (fun X_1=>
 .cond (!eqI X_1.2.2.2 0) (.op0 (quoF .i64 X_1.2.2.1 X_1.2.2.2) fun z11=>
 .frc (w64 (Int.tdiv X_1.2.2.1 X_1.2.2.2)) fun q12=>
 .frc (w64 (X_1.2.2.1 - (w64 (q12*X_1.2.2.2)))) fun vs13=>
 .frc (w64 (X_1.1 - (w64 (q12*X_1.2.1)))) fun y14=>.ret (.inl ((X_1.2.1,y14,X_1.2.2.2,vs13))))<|.ret (.inr X_1.1)) (mb 34 34) [] (fun s o9 γ=>s.pc (mb 34 34) [] [(5,I o9)] []) fun o9=>
 .op1 (zCE o9 vm2) fun y15=>
 .ret y15
theorem zMo{a1:Int}{vm2:Int}{r:Int}(h:zCm a1 vm2=some r):zF zt 136 [I a1,I vm2] (I r) []:=CtT (zM1 a1 vm2) (fun r=>(I r,[])) (rs:=[.t 4]) (vs:=[.tmp 4]) Tryz.func136 rfl rfl (.cons rfl FitsL.nil) h
def zOB(a1:Int)(vm2:Int):=fC zLd (zCm a1 vm2) fun _=>zMo
theorem zGn:CfW zt 129:=cfW Tryz.func129
noncomputable def zGw(f1:(Int×Int×Int))(x2:Int)(y3:Int):T zt (((Int×Int×Int)×(Int×Int×Int×Int))):=
 .n0 (bld pl90 bt90)<|
 .join (
 .cond (eqI y3 0) (
 .ret (0,x2))<|.op1 (zOD y3) fun y6=>.op1 (zOB x2 y6) fun y7=>
 .op0 (quoF .i64 (w64 ((w64 (x2*y7)) - 1)) y3) fun z8=>
 .frc (w64 (Int.tdiv (w64 ((w64 (x2*y7)) - 1)) y3)) fun f9=>.ret (f9,y7)) (mb 59 462) [64,56,48,24] (fun s j4 γ=>s.pc (mb 59 462) [64,56,48,24] [] [(64,.box [Ti x2,Ti j4.1,Ti y3,Ti j4.2])]) fun j4=>
 .op1 (zC0 f1 ((x2,j4.1,y3,j4.2))) fun y10=>
 .op1 (zGa y10.2.1 (w64 (2*y10.1))) fun y11=>
 .frc (w64 (0 - y11)) fun t12=>
 .frc (w64 (j4.1+(w64 (t12*x2)))) fun f13=>
 .frc (w64 (j4.2+(w64 (t12*y3)))) fun f14=>.draw 5 [(4,48)]<|.op1 (zC0 f1 ((x2,f13,y3,f14))) fun y15=>
 .ret ((y15,(x2,f13,y3,f14)))
theorem zHD{f1:(Int×Int×Int)}{x2:Int}{y3:Int}{r:((Int×Int×Int)×(Int×Int×Int×Int))}(h:zA0 f1 x2 y3=some r):zF zt 129 [.ag [Ti f1.1,Ti f1.2.1,Ti f1.2.2],I x2,I y3] (.tc (.ag [Ti r.1.1,Ti r.1.2.1,Ti r.1.2.2]) (.tc (.ag [Ti r.2.1,Ti r.2.2.1,Ti r.2.2.2.1,Ti r.2.2.2.2]) .tn)) []:=CtT (zGw f1 x2 y3) (fun r=>(.tc (.ag [Ti r.1.1,Ti r.1.2.1,Ti r.1.2.2]) (.tc (.ag [Ti r.2.1,Ti r.2.2.1,Ti r.2.2.2.1,Ti r.2.2.2.2]) .tn),[])) (rs:=[.w 6 3,.w 7 4]) (vs:=[.cell 6 73,.cell 7 90]) Tryz.func129 rfl rfl (.cons ⟨rfl,wd73⟩ (.cons ⟨rfl,wd90⟩ FitsL.nil)) h
def zH4(f1:(Int×Int×Int))(x2:Int)(y3:Int):=fC zGn (zA0 f1 x2 y3) fun _=>zHD
theorem zJZ:CfW zt 86:=cfW Tryz.func86
noncomputable def zJq(f1:(Int×Int×Int)):T zt Int:=
 .frc (w64 ((w64 (f1.2.1*f1.2.1)) - (w64 ((w64 (4*f1.1))*f1.2.2)))) fun t2=>.ret t2
theorem zKC{f1:(Int×Int×Int)}{r:Int}(h:zAr f1=some r):zF zt 86 [.ag [Ti f1.1,Ti f1.2.1,Ti f1.2.2]] (I r) []:=CtT (zJq f1) (fun r=>(I r,[])) (rs:=[.t 2]) (vs:=[.tmp 2]) Tryz.func86 rfl rfl (.cons rfl FitsL.nil) h
def zGC(f1:(Int×Int×Int)):=fC zJZ (zAr f1) fun _=>zKC
theorem zOd:CfW zt 114:=cfW Tryz.func114
noncomputable def zP5(f1:(Int×Int×Int))(g2:(Int×Int×Int)):T zt ((Int×Int×Int×Int×(Int×Int×Int×Int)×(Int×Int×Int×Int))):=
 .op1 (zFU g2 f1.1) fun y3=>
 .op1 (zH4 g2 y3.1 y3.2) fun y4=>
 .draw 12 []<|.op1 (zCE f1.2.1 (w64 (2*f1.1))) fun y5=>.n0 (bld zXP bt106)<|
 .loop (fun n X_1=>zC4 f1 y4 n X_1) y5 (mb 103 916) [72,64,56,32,16] (fun s X_1 γ=>s.pc (mb 103 916) [72,64,56,32,16] [] [(72,.box [Ti f1.1,Ti y4.1.1,Ti X_1,Ti 0,Ti 0,Ti 0,Ti 0,Ti 0,Ti 0,Ti 0,Ti 0,Ti 0])]) (fun X_1=>
 .op1 (zCE (w64 (X_1 - y4.1.2.1)) (w64 (2*y4.1.1))) fun y9=>
 .cond (!eqI y9 0) (
 .frc (w64 (X_1+(w64 (2*f1.1)))) fun f11=>.ret (.inl f11))<|.ret (.inr X_1)) (mb 103 916) [72,64,56,32,16] (fun s o8 γ=>s.pc (mb 103 916) [72,64,56,32,16] [] [(72,.box [Ti f1.1,Ti y4.1.1,Ti o8,Ti 0,Ti 0,Ti 0,Ti 0,Ti 0,Ti 0,Ti 0,Ti 0,Ti 0])]) fun o8=>
 .op1 (zCE o8 (w64 ((w64 (2*f1.1))*y4.1.1))) fun y12=>
 .draw 16 []<|.op1 (zGC f1) fun y13=>.op0 (quoF .i64 (w64 ((w64 (y12*y12)) - y13)) (w64 ((w64 (4*f1.1))*y4.1.1))) fun z14=>
 .frc (w64 (Int.tdiv (w64 ((w64 (y12*y12)) - y13)) (w64 ((w64 (4*f1.1))*y4.1.1)))) fun f15=>.op0 (quoF .i64 (w64 (y12 - f1.2.1)) (w64 (2*f1.1))) fun z16=>.n0 (bld pl90 bt90)<|
 .frc (w64 (Int.tdiv (w64 (y12 - f1.2.1)) (w64 (2*f1.1)))) fun f17=>.draw 13 []<|.op0 (quoF .i64 (w64 (y12 - y4.1.2.1)) (w64 (2*y4.1.1))) fun z18=>.n0 (bld pl90 bt90)<|.op1 (zE5 y4.2 ((1,w64 (Int.tdiv (w64 (y12 - y4.1.2.1)) (w64 (2*y4.1.1))),0,1))) fun y19=>
 .ret ((f1.1,y4.1.1,y12,f15,(1,f17,0,1),y19))
theorem zPk{f1:(Int×Int×Int)}{g2:(Int×Int×Int)}{r:(Int×Int×Int×Int×(Int×Int×Int×Int)×(Int×Int×Int×Int))}(h:zCT f1 g2=some r):zF zt 114 [.ag [Ti f1.1,Ti f1.2.1,Ti f1.2.2],.ag [Ti g2.1,Ti g2.2.1,Ti g2.2.2]] (.ag [Ti r.1,Ti r.2.1,Ti r.2.2.1,Ti r.2.2.2.1,Ti r.2.2.2.2.1.1,Ti r.2.2.2.2.1.2.1,Ti r.2.2.2.2.1.2.2.1,Ti r.2.2.2.2.1.2.2.2,Ti r.2.2.2.2.2.1,Ti r.2.2.2.2.2.2.1,Ti r.2.2.2.2.2.2.2.1,Ti r.2.2.2.2.2.2.2.2]) []:=CtT (zP5 f1 g2) (fun r=>(.ag [Ti r.1,Ti r.2.1,Ti r.2.2.1,Ti r.2.2.2.1,Ti r.2.2.2.2.1.1,Ti r.2.2.2.2.1.2.1,Ti r.2.2.2.2.1.2.2.1,Ti r.2.2.2.2.1.2.2.2,Ti r.2.2.2.2.2.1,Ti r.2.2.2.2.2.2.1,Ti r.2.2.2.2.2.2.2.1,Ti r.2.2.2.2.2.2.2.2],[])) (rs:=[.w 4 12]) (vs:=[.cell 4 106]) Tryz.func114 rfl rfl (.cons ⟨rfl,wd106⟩ FitsL.nil) h
def zQh(f1:(Int×Int×Int))(g2:(Int×Int×Int)):=fC zOd (zCT f1 g2) fun _=>zPk
theorem zF3:CfW zt 115:=cfW Tryz.func115
noncomputable def zFc(u1:(Int×Int×Int×Int×(Int×Int×Int×Int)×(Int×Int×Int×Int))):T zt ((Int×Int×Int)):=
 .n0 (bld pl73 bt73)<|
 .frc (w64 (u1.1*u1.2.1)) fun f2=>.ret ((f2,u1.2.2.1,u1.2.2.2.1))
theorem zFi{u1:(Int×Int×Int×Int×(Int×Int×Int×Int)×(Int×Int×Int×Int))}{r:(Int×Int×Int)}(h:zBJ u1=some r):zF zt 115 [.ag [Ti u1.1,Ti u1.2.1,Ti u1.2.2.1,Ti u1.2.2.2.1,Ti u1.2.2.2.2.1.1,Ti u1.2.2.2.2.1.2.1,Ti u1.2.2.2.2.1.2.2.1,Ti u1.2.2.2.2.1.2.2.2,Ti u1.2.2.2.2.2.1,Ti u1.2.2.2.2.2.2.1,Ti u1.2.2.2.2.2.2.2.1,Ti u1.2.2.2.2.2.2.2.2]] (.ag [Ti r.1,Ti r.2.1,Ti r.2.2]) []:=CtT (zFc u1) (fun r=>(.ag [Ti r.1,Ti r.2.1,Ti r.2.2],[])) (rs:=[.w 2 3]) (vs:=[.cell 2 73]) Tryz.func115 rfl rfl (.cons ⟨rfl,wd73⟩ FitsL.nil) h
def zGA(u1:(Int×Int×Int×Int×(Int×Int×Int×Int)×(Int×Int×Int×Int))):=fC zF3 (zBJ u1) fun _=>zFi
theorem zLg:CfW zt 99:=cfW Tryz.func99
noncomputable def zM4(f1:(Int×Int×Int))(g2:(Int×Int×Int)):T zt ((Int×Int×Int)):=
 .draw 7 []<|.op1 (zDs f1) fun y3=>.op1 (zDs g2) fun y4=>.op1 (zQh y3 y4) fun y5=>.op1 (zGA y5) fun y6=>.op1 (zDs y6) fun y7=>
 .ret y7
theorem zMr{f1:(Int×Int×Int)}{g2:(Int×Int×Int)}{r:(Int×Int×Int)}(h:zCL f1 g2=some r):zF zt 99 [.ag [Ti f1.1,Ti f1.2.1,Ti f1.2.2],.ag [Ti g2.1,Ti g2.2.1,Ti g2.2.2]] (.ag [Ti r.1,Ti r.2.1,Ti r.2.2]) []:=CtT (zM4 f1 g2) (fun r=>(.ag [Ti r.1,Ti r.2.1,Ti r.2.2],[])) (rs:=[.w 4 3]) (vs:=[.cell 4 73]) Tryz.func99 rfl rfl (.cons ⟨rfl,wd73⟩ FitsL.nil) h
theorem zF4:∀args w,(callFunc 81 args).run zt w=.ok (.enter 81 args) w:=jM Tryz.func81 kk kk
set_option maxRecDepth 100000 in
set_option maxHeartbeats 400000 in
theorem zFj{g1:((List (Int×Int×Int))×(List ((Int×Int×Int)×Int)))}{i2:Int}{k3:Int}{r:Int}(h:zAY g1 i2 k3=some r):zF zt 81 [.pe [.sl (g1.1.map c73),.mp (g1.2.map kv69)],I i2,I k3] (I r) []:=by
  refine qP (rs:=[.t 6]) (vs:=[.tmp 6]) Tryz.func81 rfl rfl (.cons rfl FitsL.nil) (by decide) 27 rfl ?_
  unfold zAY at h;show V _ _ ⟨.pe [.sl (g1.1.map c73),.mp (g1.2.map kv69)]::I i2::I k3::bt 24 [],[]⟩ _;refine zO (mb 27 7) [] (s1:=⟨.pe [.sl (g1.1.map c73),.mp (g1.2.map kv69)]::I i2::I k3::bt 24 [],[]⟩) ?_ ?_
  ·refine L0 rfl rfl (zE (I 0) rfl kk) ?_
   refine zC ?_
   kernel_rfl
  obtain⟨e4,he4,h⟩:=zI h;obtain⟨e5,he5,h⟩:=zI h;obtain⟨y6,hy6,h⟩:=zI h;obtain⟨t7,ht7,h⟩:=zE3 h;refine zWu [0,1,3,7,0,16,48,112,0,496,1008,0,2048,6144,14336,0,63488,129024,262128,524287,1048575] 21 [[.z,.z,.z,.z,.b,.b,.b,.b,.b,.b,.b,.b,.b,.b,.b,.b,.b,.b,.b,.z,.z],[.a,.z,.z,.z,.b,.b,.b,.b,.b,.b,.b,.b,.b,.b,.b,.b,.b,.b,.b,.z,.z],[.a,.a,.z,.z,.b,.b,.b,.b,.b,.b,.b,.b,.b,.b,.b,.b,.b,.b,.b,.z,.z],[.a,.a,.a,.z,.b,.b,.b,.b,.b,.b,.b,.b,.b,.b,.b,.b,.b,.b,.b,.z,.z],[.b,.b,.b,.b,.z,.z,.z,.z,.b,.z,.z,.b,.b,.b,.b,.b,.b,.b,.z,.z,.z],[.b,.b,.b,.b,.a,.z,.z,.z,.b,.z,.z,.b,.b,.b,.b,.b,.b,.b,.z,.z,.z],[.b,.b,.b,.b,.a,.a,.z,.z,.b,.z,.z,.b,.b,.b,.b,.b,.b,.b,.z,.z,.z],[.b,.b,.b,.b,.a,.a,.a,.z,.b,.z,.z,.b,.b,.b,.b,.b,.b,.b,.z,.z,.z],[.b,.b,.b,.b,.b,.b,.b,.b,.z,.z,.z,.b,.b,.b,.b,.b,.b,.b,.z,.z,.z],[.b,.b,.b,.b,.a,.a,.a,.a,.a,.z,.z,.b,.b,.b,.b,.b,.b,.b,.z,.z,.z],[.b,.b,.b,.b,.a,.a,.a,.a,.a,.a,.z,.b,.b,.b,.b,.b,.b,.b,.z,.z,.z],[.b,.b,.b,.b,.b,.b,.b,.b,.b,.b,.b,.z,.z,.z,.z,.b,.z,.z,.z,.z,.z],[.b,.b,.b,.b,.b,.b,.b,.b,.b,.b,.b,.a,.z,.z,.z,.b,.z,.z,.z,.z,.z],[.b,.b,.b,.b,.b,.b,.b,.b,.b,.b,.b,.a,.a,.z,.z,.b,.z,.z,.z,.z,.z],[.b,.b,.b,.b,.b,.b,.b,.b,.b,.b,.b,.a,.a,.a,.z,.b,.z,.z,.z,.z,.z],[.b,.b,.b,.b,.b,.b,.b,.b,.b,.b,.b,.b,.b,.b,.b,.z,.z,.z,.z,.z,.z],[.b,.b,.b,.b,.b,.b,.b,.b,.b,.b,.b,.a,.a,.a,.a,.a,.z,.z,.z,.z,.z],[.b,.b,.b,.b,.b,.b,.b,.b,.b,.b,.b,.a,.a,.a,.a,.a,.a,.z,.z,.z,.z],[.b,.b,.b,.b,.a,.a,.a,.a,.a,.a,.a,.a,.a,.a,.a,.a,.a,.a,.z,.z,.z],[.a,.a,.a,.a,.a,.a,.a,.a,.a,.a,.a,.a,.a,.a,.a,.a,.a,.a,.a,.z,.z],[.a,.a,.a,.a,.a,.a,.a,.a,.a,.a,.a,.a,.a,.a,.a,.a,.a,.a,.a,.a,.z]] (mb 27 64) [] (s1:=⟨bt 6 (I t7::bt 20 []),[]⟩) kk kk ?_ ?_
  ·refine DE_0 0 (.pe [.sl (g1.1.map c73),.mp (g1.2.map kv69)]) kk rfl rfl rfl (zK rfl) kk (zD (.pe [.sl (g1.1.map c73),.mp (g1.2.map kv69)]) rfl kk) 7 rfl ?_
   refine DE_0 1 (.pe [.sl (g1.1.map c73),.mp (g1.2.map kv69)]) kk rfl rfl rfl (zK rfl) kk (zNs (.pe [.sl (g1.1.map c73),.mp (g1.2.map kv69)]) rfl kk (by intro hh;cases hh)) 8 rfl ?_
   refine DE_0 2 (.pe [.mp (g1.2.map kv69)]) kk rfl rfl rfl (zK rfl) kk (zAG (.pe [.mp (g1.2.map kv69)]) Tryz.underlying71 rfl sz69 rfl kk (by intro hh;cases hh)) 9 rfl ?_
   refine DE_0 3 (.c (.mp (g1.2.map kv69))) kk rfl rfl rfl (zK rfl) kk (qI (c:=.mp (g1.2.map kv69)) (cs:=[]) sc69 rfl kk) 10 rfl ?_
   refine DE_0 4 (.pe [.sl (g1.1.map c73),.mp (g1.2.map kv69)]) kk rfl rfl rfl (zK rfl) kk (zD (.pe [.sl (g1.1.map c73),.mp (g1.2.map kv69)]) rfl kk) 11 rfl ?_
   refine DE_0 5 (.pe [.sl (g1.1.map c73),.mp (g1.2.map kv69)]) kk rfl rfl rfl (zK rfl) kk (zNs (.pe [.sl (g1.1.map c73),.mp (g1.2.map kv69)]) rfl kk (by intro hh;cases hh)) 12 rfl ?_
   refine DE_0 6 (.pe [.sl (g1.1.map c73),.mp (g1.2.map kv69)]) kk rfl rfl rfl (zK rfl) kk (zAG (.pe [.sl (g1.1.map c73),.mp (g1.2.map kv69)]) Tryz.underlying71 rfl sz50 rfl kk (by intro hh;cases hh)) 13 rfl ?_
   refine DE_0 7 (.c (.sl (g1.1.map c73))) kk rfl rfl rfl (zK rfl) kk (qI (c:=.sl (g1.1.map c73)) (cs:=[.mp (g1.2.map kv69)]) sc50 rfl kk) 14 rfl ?_
   refine DE_0 8 (I i2) kk rfl rfl rfl (zK rfl) kk (zD (I i2) rfl kk) 15 rfl ?_
   refine DE_0 9 (.pe [Ti e4.1,Ti e4.2.1,Ti e4.2.2]) kk rfl rfl rfl (zK rfl) kk (zJ4 (c:=c73) (xs:=g1.1) (v:=e4) (n:=i2) Tryz.underlying50 sz73 rfl kk kk he4) 16 rfl ?_
   refine DE_0 10 (.ag [Ti e4.1,Ti e4.2.1,Ti e4.2.2]) kk rfl rfl rfl (zK rfl) kk (zFS (cs:=[Ti e4.1,Ti e4.2.1,Ti e4.2.2]) [Ti e4.1,Ti e4.2.1,Ti e4.2.2] wd73 rfl kk (Nat.le_of_ble_eq_true rfl) kk) 17 rfl ?_
   refine DE_0 11 (.pe [.sl (g1.1.map c73),.mp (g1.2.map kv69)]) kk rfl rfl rfl (zK rfl) kk (zD (.pe [.sl (g1.1.map c73),.mp (g1.2.map kv69)]) rfl kk) 18 rfl ?_
   refine DE_0 12 (.pe [.sl (g1.1.map c73),.mp (g1.2.map kv69)]) kk rfl rfl rfl (zK rfl) kk (zNs (.pe [.sl (g1.1.map c73),.mp (g1.2.map kv69)]) rfl kk (by intro hh;cases hh)) 19 rfl ?_
   refine DE_0 13 (.pe [.sl (g1.1.map c73),.mp (g1.2.map kv69)]) kk rfl rfl rfl (zK rfl) kk (zAG (.pe [.sl (g1.1.map c73),.mp (g1.2.map kv69)]) Tryz.underlying71 rfl sz50 rfl kk (by intro hh;cases hh)) 20 rfl ?_
   refine DE_0 14 (.c (.sl (g1.1.map c73))) kk rfl rfl rfl (zK rfl) kk (qI (c:=.sl (g1.1.map c73)) (cs:=[.mp (g1.2.map kv69)]) sc50 rfl kk) 21 rfl ?_
   refine DE_0 15 (I k3) kk rfl rfl rfl (zK rfl) kk (zD (I k3) rfl kk) 22 rfl ?_
   refine DE_0 16 (.pe [Ti e5.1,Ti e5.2.1,Ti e5.2.2]) kk rfl rfl rfl (zK rfl) kk (zJ4 (c:=c73) (xs:=g1.1) (v:=e5) (n:=k3) Tryz.underlying50 sz73 rfl kk kk he5) 23 rfl ?_
   refine DE_0 17 (.ag [Ti e5.1,Ti e5.2.1,Ti e5.2.2]) kk rfl rfl rfl (zK rfl) kk (zFS (cs:=[Ti e5.1,Ti e5.2.1,Ti e5.2.2]) [Ti e5.1,Ti e5.2.1,Ti e5.2.2] wd73 rfl kk (Nat.le_of_ble_eq_true rfl) kk) 24 rfl ?_
   refine DE_1 18 kk rfl rfl rfl (zK rfl) (zBz (zMr hy6) zLg rfl kk) rfl rfl rfl 25 rfl ?_
   refine DE_0 19 (I (mAt y6 g1.2 0)) kk rfl rfl rfl (zK rfl) kk (zVh (κ:=(Int×Int×Int)) (ν:=Int) (ek:=ek69) (ev:=ev69) (z:=0) (m:=g1.2) (a:=y6) mo69 rfl kk kk) 26 rfl ?_
   refine DE_0 20 (I (mAt y6 g1.2 0)) kk rfl rfl rfl (zK rfl) kk (zE (I (mAt y6 g1.2 0)) rfl kk) 6 rfl ?_
   refine zQa kk ?_
   refine zC ?_
   subst ht7
   kernel_rfl
  refine zEU ?_
  obtain rfl:=qB h;show Post _ _ _ _ _;exact⟨.inr rfl,rfl,rfl,rfl⟩
theorem zFF:∀args w,(callFunc 60 args).run zt w=.ok (.enter 60 args) w:=jM Tryz.func60 kk kk
set_option maxRecDepth 100000 in
set_option maxHeartbeats 400000 in
theorem zFX{g1:((List (Int×Int×Int))×(List ((Int×Int×Int)×Int)))}{i2:Int}{r:List Int}(h:zAN g1 i2=some r):zF zt 60 [.pe [.sl (g1.1.map c73),.mp (g1.2.map kv69)],I i2] (.ow 0) [(0,.arr 3 1 (r.map c3))]:=by
  refine qP (rs:=[.t 4]) (vs:=[.tmp 4]) Tryz.func60 rfl rfl (.cons rfl FitsL.nil) (by decide) 20 rfl ?_
  unfold zAN at h;show V _ _ ⟨.pe [.sl (g1.1.map c73),.mp (g1.2.map kv69)]::I i2::bt 18 [],[]⟩ _;refine zO (mb 20 3) [] (s1:=⟨.pe [.sl (g1.1.map c73),.mp (g1.2.map kv69)]::I i2::bt 18 [],[]⟩) ?_ ?_
  ·refine L1 rfl rfl (zEx (e:=3) 1 (by decide) (.inl rfl)) ?_
   refine zC ?_
   kernel_rfl
  refine zO (mb 20 35) [56] (s1:=⟨.pe [.sl (g1.1.map c73),.mp (g1.2.map kv69)]::I i2::bt 3 (.ow 56::bt 14 []),[(56,.arr 3 1 (([0]).map c3))]⟩) ?_ ?_
  ·refine L1 rfl rfl (zEM (z:=zv3) (els:=[0].map c3) Tryz.underlying24 iz3 rfl (by decide) rfl kk rfl (by simp[c3]) (by decide) (by decide)) ?_
   refine L0 rfl rfl (zE (.ow 56) rfl kk) ?_
   refine zC ?_
   kernel_rfl
  refine zAS ?_
  refine zO (mb 20 99) [56] (s1:=⟨.pe [.sl (g1.1.map c73),.mp (g1.2.map kv69)]::I i2::bt 3 (.ow 56::I i2::bt 13 []),[(56,.arr 3 1 (([0]).map c3))]⟩) ?_ ?_
  ·refine L0 rfl rfl (zD (I i2) rfl kk) ?_
   refine L0 rfl rfl (zE (I i2) rfl kk) ?_
   refine zC ?_
   kernel_rfl
  obtain⟨o6,hLo6,h⟩:=zI h;refine zHT (mb 20 32) [56] (s1:=⟨bt 5 (.ow 56::bt 14 []),[(56,.arr 3 1 (o6.map c3))]⟩) ?_ ?_
  ·clear h;refine zAF (zE0 (fun n s=>∃(p3:Int) (l4:List Int),s.keep (mb 20 99) [56]=(⟨.pe [.sl (g1.1.map c73),.mp (g1.2.map kv69)]::I i2::bt 3 (.ow 56::I p3::bt 13 []),[(56,.arr 3 1 (l4.map c3))]⟩:St)∧qQ g1 i2 n p3 l4=some o6) FU ⟨_,_,by rfl,hLo6⟩ ?_);clear hLo6;rintro n s ⟨p3,l4,hs,h⟩;refine zF8 _ _ hs ?_
   clear hs;cases n with
   |zero=>cases h
   |succ n=>
    rw[qQ]at h;refine zAS ?_
    refine zO (mb 20 1123) [56] (s1:=⟨.pe [.sl (g1.1.map c73),.mp (g1.2.map kv69)]::I i2::bt 3 (.ow 56::I p3::bt 3 (Bo (!eqI p3 0)::bt 9 [])),[(56,.arr 3 1 (l4.map c3))]⟩) ?_ ?_
    ·refine L0 rfl rfl (zD (I p3) rfl kk) ?_
     refine L0 rfl rfl (zSa (k:=.i64) (a:=p3) (b:=0) rfl kk kk) ?_
     refine zC ?_
     kernel_rfl
    refine zCQ rfl (fun hc7=>?_) (fun hc7=>?_)
    ·have h:=zBw h hc7;refine zCa ?_
     show V _ _ _ _;refine zAS ?_
     refine zAF ?_
     obtain⟨u8,hu8,h⟩:=zI h;refine zDB (mb 20 99) [56] (s1:=⟨.pe [.sl (g1.1.map c73),.mp (g1.2.map kv69)]::I i2::bt 3 (.ow 56::I p3::bt 13 []),[(56,.arr 3 1 ((l4++([p3])).map c3))]⟩) ?_ ?_
     ·refine L0 rfl rfl (zD (.ow 56) rfl kk) ?_
      refine L0 rfl rfl (zD (I p3) rfl kk) ?_
      refine L1 rfl rfl (zEM (z:=zv3) (els:=[p3].map c3) Tryz.underlying24 iz3 rfl (by decide) rfl kk rfl (by simp[c3]) (by decide) (by decide)) ?_
      refine jA rfl (zEf (c:=c3) (xs:=l4) (ys:=[p3]) (id:=56) (z:=zv3) rfl rfl Tryz.underlying24 izb3 rfl kk kk kk (fun _=>rfl) (by simp) (zEF hu8) (by decide)) ?_
      refine L0 rfl rfl (zE (.ow 56) rfl kk) ?_
      refine zC ?_
      kernel_rfl
     show V _ _ _ _;obtain⟨y9,hy9,h⟩:=zI h;refine zDB (mb 20 99) [56] (s1:=⟨.pe [.sl (g1.1.map c73),.mp (g1.2.map kv69)]::I i2::bt 3 (.ow 56::I y9::bt 13 []),[(56,.arr 3 1 ((l4++([p3])).map c3))]⟩) ?_ ?_
     ·refine L0 rfl rfl (zD (.pe [.sl (g1.1.map c73),.mp (g1.2.map kv69)]) rfl kk) ?_
      refine L0 rfl rfl (zD (I p3) rfl kk) ?_
      refine L0 rfl rfl (zD (I i2) rfl kk) ?_
      refine L1 rfl rfl (zBz (zFj hy9) zF4 rfl kk) ?_
      refine L0 rfl rfl (zE (I y9) rfl kk) ?_
      refine zC ?_
      kernel_rfl
     exact⟨n,zf n,_,_,by rfl,h⟩
    ·have h:=zBE h hc7;refine zEy ?_
     obtain rfl:=qB h;show St.keep _ _ _=_;rfl
  show V _ _ _ _;refine zO (mb 20 16) [56] (s1:=⟨bt 4 (.ow 56::bt 15 []),[(56,.arr 3 1 (o6.map c3))]⟩) ?_ ?_
  ·refine L0 rfl rfl (zD (.ow 56) rfl kk) ?_
   refine L0 rfl rfl (zE (.ow 56) rfl kk) ?_
   refine zC ?_
   kernel_rfl
  refine zEU ?_
  obtain rfl:=qB h;show Post _ _ _ _ _;exact⟨.inr rfl,rfl,rfl,rfl⟩
theorem zDA:∀args w,(callFunc 32 args).run zt w=.ok (.enter 32 args) w:=jM Tryz.func32 kk kk
set_option maxRecDepth 100000 in
set_option maxHeartbeats 400000 in
theorem zDI{g1:((List (Int×Int×Int))×(List ((Int×Int×Int)×Int)))}{r:List Int}(h:zM g1=some r):zF zt 32 [.pe [.sl (g1.1.map c73),.mp (g1.2.map kv69)]] (.ow 0) [(0,.arr 3 1 (r.map c3))]:=by
  refine qP (rs:=[.t 2]) (vs:=[.tmp 2]) Tryz.func32 rfl rfl (.cons rfl FitsL.nil) (by decide) 23 rfl ?_
  unfold zM at h;show V _ _ ⟨.pe [.sl (g1.1.map c73),.mp (g1.2.map kv69)]::bt 22 [],[]⟩ _;refine zO (mb 23 1) [] (s1:=⟨.pe [.sl (g1.1.map c73),.mp (g1.2.map kv69)]::bt 22 [],[]⟩) ?_ ?_
  ·refine L1 rfl rfl (zEx (e:=3) 1 (by decide) (.inl rfl)) ?_
   refine zC ?_
   kernel_rfl
  refine zO (mb 23 9) [40] (s1:=⟨.pe [.sl (g1.1.map c73),.mp (g1.2.map kv69)]::.bot::.bot::.ow 40::bt 19 [],[(40,.arr 3 1 ((([]:List Int)).map c3))]⟩) ?_ ?_
  ·refine L1 rfl rfl (zCq Tryz.underlying24 sz3 (by decide) rfl rfl) ?_
   refine L0 rfl rfl (zE (.ow 40) rfl kk) ?_
   refine zC ?_
   kernel_rfl
  refine zAS ?_
  refine zO (mb 23 3081) [40] (s1:=⟨.pe [.sl (g1.1.map c73),.mp (g1.2.map kv69)]::.bot::.bot::.ow 40::bt 6 (I ((g1.1.length:Int))::I 0::bt 11 []),[(40,.arr 3 1 ((([]:List Int)).map c3))]⟩) ?_ ?_
  ·refine L0 rfl rfl (zD (.pe [.sl (g1.1.map c73),.mp (g1.2.map kv69)]) rfl kk) ?_
   refine L0 rfl rfl (zNs (.pe [.sl (g1.1.map c73),.mp (g1.2.map kv69)]) rfl kk (by intro hh;cases hh)) ?_
   refine L0 rfl rfl (zAG (.pe [.sl (g1.1.map c73),.mp (g1.2.map kv69)]) Tryz.underlying71 rfl sz50 rfl kk (by intro hh;cases hh)) ?_
   refine L0 rfl rfl (qI (c:=.sl (g1.1.map c73)) (cs:=[.mp (g1.2.map kv69)]) sc50 rfl kk) ?_
   refine L0 rfl rfl (zDS (c:=c73) (xs:=g1.1) Tryz.underlying50 rfl kk) ?_
   refine L0 rfl rfl (zD (I 0) rfl kk) ?_
   refine zC ?_
   kernel_rfl
  obtain⟨o5,hLo5,h⟩:=zI h;refine zHT (mb 23 8) [40] (s1:=⟨bt 3 (.ow 40::bt 19 []),[(40,.arr 3 1 (o5.map c3))]⟩) ?_ ?_
  ·clear h;refine zAF (zE0 (fun n s=>∃(t2:Int) (l3:List Int),s.keep (mb 23 3081) [40]=(⟨.pe [.sl (g1.1.map c73),.mp (g1.2.map kv69)]::.bot::.bot::.ow 40::bt 6 (I ((g1.1.length:Int))::I t2::bt 11 []),[(40,.arr 3 1 (l3.map c3))]⟩:St)∧qR g1 n t2 l3=some o5) FU ⟨_,_,by rfl,hLo5⟩ ?_);clear hLo5;rintro n s ⟨t2,l3,hs,h⟩;refine zF8 _ _ hs ?_
   clear hs;cases n with
   |zero=>cases h
   |succ n=>
    rw[qR]at h;refine zO (mb 23 7177) [40] (s1:=⟨.pe [.sl (g1.1.map c73),.mp (g1.2.map kv69)]::.bot::.bot::.ow 40::bt 6 (I ((g1.1.length:Int))::I t2::Bo (ltI t2 ((g1.1.length:Int)))::bt 10 []),[(40,.arr 3 1 (l3.map c3))]⟩) ?_ ?_
    ·refine L0 rfl rfl (zDF (k:=.i64) (a:=t2) (b:=(g1.1.length:Int)) rfl kk kk) ?_
     refine zC ?_
     kernel_rfl
    refine zAS ?_
    refine zCQ rfl (fun hc6=>?_) (fun hc6=>?_)
    ·have h:=zBw h hc6;refine zCa ?_
     show V _ _ _ _;refine zAS ?_
     refine zAF ?_
     refine zO (mb 23 3097) [40] (s1:=⟨.pe [.sl (g1.1.map c73),.mp (g1.2.map kv69)]::.bot::.bot::.ow 40::I t2::bt 5 (I ((g1.1.length:Int))::I t2::bt 11 []),[(40,.arr 3 1 (l3.map c3))]⟩) ?_ ?_
     ·refine L0 rfl rfl (zD (I t2) rfl kk) ?_
      refine L0 rfl rfl (zE (I t2) rfl kk) ?_
      refine zC ?_
      kernel_rfl
     obtain⟨y7,hy7,h⟩:=zI h;obtain⟨u8,hu8,h⟩:=zI h;refine zDB (mb 23 3081) [40] (s1:=⟨.pe [.sl (g1.1.map c73),.mp (g1.2.map kv69)]::.bot::.bot::.ow 40::bt 6 (I ((g1.1.length:Int))::I t2::bt 11 []),[(40,.arr 3 1 ((l3++([(y7.length:Int)])).map c3))]⟩) ?_ ?_
     ·refine L0 rfl rfl (zD (.ow 40) rfl kk) ?_
      refine L0 rfl rfl (zD (.pe [.sl (g1.1.map c73),.mp (g1.2.map kv69)]) rfl kk) ?_
      refine L0 rfl rfl (zD (I t2) rfl kk) ?_
      refine L1 rfl rfl (zBz (zFX hy7) zFF rfl kk) ?_
      refine L0 rfl rfl (zDS (c:=c3) (xs:=y7) Tryz.underlying24 rfl kk) ?_
      refine L1 rfl rfl (zEM (z:=zv3) (els:=[(y7.length:Int)].map c3) Tryz.underlying24 iz3 rfl (by decide) rfl kk rfl (by simp[c3]) (by decide) (by decide)) ?_
      refine jA rfl (zEf (c:=c3) (xs:=l3) (ys:=[(y7.length:Int)]) (id:=40) (z:=zv3) rfl rfl Tryz.underlying24 izb3 rfl kk kk kk (fun _=>rfl) (by simp) (zEF hu8) (by decide)) ?_
      refine L0 rfl rfl (zE (.ow 40) rfl kk) ?_
      refine zC ?_
      kernel_rfl
     show V _ _ _ _;obtain⟨t9,ht9,h⟩:=zE3 h;refine zDB (mb 23 3081) [40] (s1:=⟨.pe [.sl (g1.1.map c73),.mp (g1.2.map kv69)]::.bot::.bot::.ow 40::bt 6 (I ((g1.1.length:Int))::I t9::bt 11 []),[(40,.arr 3 1 ((l3++([(y7.length:Int)])).map c3))]⟩) ?_ ?_
     ·refine L0 rfl rfl (zCP (a:=t2) (b:=1) rfl kk kk) ?_
      refine L0 rfl rfl (zD (I (w64 (t2+1))) rfl kk) ?_
      refine zC ?_
      subst ht9
      kernel_rfl
     exact⟨n,zf n,_,_,by rfl,h⟩
    ·have h:=zBE h hc6;refine zEy ?_
     obtain rfl:=qB h;show St.keep _ _ _=_;rfl
  show V _ _ _ _;refine zO (mb 23 4) [40] (s1:=⟨.bot::.bot::.ow 40::bt 20 [],[(40,.arr 3 1 (o5.map c3))]⟩) ?_ ?_
  ·refine L0 rfl rfl (zD (.ow 40) rfl kk) ?_
   refine L0 rfl rfl (zE (.ow 40) rfl kk) ?_
   refine zC ?_
   kernel_rfl
  refine zEU ?_
  obtain rfl:=qB h;show Post _ _ _ _ _;exact⟨.inr rfl,rfl,rfl,rfl⟩
def zFb(g1:((List (Int×Int×Int))×(List ((Int×Int×Int)×Int)))):=fC zDA (zM g1) fun _=>zDI
def zF9(g1:((List (Int×Int×Int))×(List ((Int×Int×Int)×Int)))):=fC zDA (zM g1) fun _ h=>zKe (zDI h)
theorem zLf:CfW zt 80:=cfW Tryz.func80
noncomputable def zM2(vn1:Int):T zt (List Int):=
 .n1 (nilN 3 1 (by decide))<|
 .n1 bsl0<|
 .loop (fun n X_2=>zDi n X_2.1 X_2.2.1 X_2.2.2) ((vn1,2,([]:List Int))) (mb 31 25) [40] (fun s X_2 γ=>s.pc (mb 31 25) [40] [(0,I X_2.1),(4,I X_2.2.1)] [(40,.arr 3 1 (X_2.2.2.map c3))]) (fun X_2=>
 .cond (leI (w64 (X_2.2.1*X_2.2.1)) X_2.1) (.loop (fun n X_1=>zDY X_2.2.1 n X_1.1 X_1.2) ((X_2.1,X_2.2.2)) (mb 31 25) [40] (fun s X_1 γ=>s.pc (mb 31 25) [40] [(0,I X_1.1)] [(40,.arr 3 1 (X_1.2.map c3))]) (fun X_1=>
 .op0 (remF .i64 X_1.1 X_2.2.1) fun z12=>
 .cond (eqI (Int.tmod X_1.1 X_2.2.1) 0) (.n1 bsl<|.opx (app ct3 X_1.2 ([X_2.2.1])) fun u14=>
 .op0 (quoF .i64 X_1.1 X_2.2.1) fun z15=>
 .frc (w64 (Int.tdiv X_1.1 X_2.2.1)) fun vn16=>.ret (.inl ((vn16,X_1.2++([X_2.2.1])))))<|.ret (.inr ((X_1.1,X_1.2)))) (mb 31 25) [40] (fun s o11 γ=>s.pc (mb 31 25) [40] [(0,I o11.1)] [(40,.arr 3 1 (o11.2.map c3))]) fun o11=>
 .frc (w64 (X_2.2.1+1)) fun p17=>.ret (.inl ((o11.1,p17,o11.2))))<|.ret (.inr ((X_2.1,X_2.2.2)))) (mb 31 9) [40] (fun s o6 γ=>s.pc (mb 31 9) [40] [(0,I o6.1)] [(40,.arr 3 1 (o6.2.map c3))]) fun o6=>
 .cond (ltI 1 o6.1) (.n1 bsl<|.opx (app ct3 o6.2 ([o6.1])) fun u19=>
 .ret (o6.2++([o6.1])))<|
 .ret o6.2
theorem zMq{vn1:Int}{r:List Int}(h:zEl vn1=some r):zF zt 80 [I vn1] (.ow 0) [(0,.arr 3 1 (r.map c3))]:=CtT (zM2 vn1) (fun r=>(.ow 0,[(0,.arr 3 1 (r.map c3))])) (rs:=[.t 2]) (vs:=[.tmp 2]) Tryz.func80 rfl rfl (.cons rfl FitsL.nil) h
def zOC(vn1:Int):=fC zLf (zEl vn1) fun _=>zMq
theorem zFu:CfW zt 57:=cfW Tryz.func57
noncomputable def zLF(vn1:Int):T zt (List Int):=
 .n1 (nilN 3 1 (by decide))<|
 .n1 bsl0<|
 .op1 (zOC vn1) fun y2=>.n0 (lenM ct3 y2)<|
 .loop (fun n X_2=>zCV y2 n X_2.1 X_2.2) ((0,([]:List Int))) (mb 33 1800) [64,48] (fun s X_2 γ=>s.pc (mb 33 1800) [64,48] [(10,I X_2.1)] [(48,.arr 3 1 (X_2.2.map c3))]) (fun X_2=>
 .cond (ltI X_2.1 ((y2.length:Int))) (.op0 (zBO ct3 y2 X_2.1) fun e8=>.op0 (ldo ct3 y2 X_2.1) fun e9=>
 .joinC (.n0 (lenM ct3 X_2.2)<|.seqT (.cond (eqI ((X_2.2.length:Int)) 0) (.ret true) (.n0 (lenM ct3 X_2.2)<|.op0 (zBO ct3 X_2.2 (w64 (((X_2.2.length:Int)) - 1))) fun e11=>.op0 (ldo ct3 X_2.2 (w64 (((X_2.2.length:Int)) - 1))) fun e12=>.ret (!eqI e12 e9))) fun b13=>.ret b13) (mb 33 67110696) [64,48] (fun s q_1 γ=>s.pc (mb 33 67110696) [64,48] [(26,Bo q_1)] []) fun q_1=>
 .cond q_1 (.n1 bsl<|.opx (app ct3 X_2.2 ([e9])) fun u15=>
 .frc (w64 (X_2.1+1)) fun t16=>.ret (.inl ((t16,X_2.2++([e9])))))<|
 .frc (w64 (X_2.1+1)) fun t17=>.ret (.inl ((t17,X_2.2))))<|.ret (.inr X_2.2)) (mb 33 8) [48] (fun s o6 γ=>s.pc (mb 33 8) [48] [] [(48,.arr 3 1 (o6.map c3))]) fun o6=>
 .ret o6
theorem zG6{vn1:Int}{r:List Int}(h:zBS vn1=some r):zF zt 57 [I vn1] (.ow 0) [(0,.arr 3 1 (r.map c3))]:=CtT (zLF vn1) (fun r=>(.ow 0,[(0,.arr 3 1 (r.map c3))])) (rs:=[.t 2]) (vs:=[.tmp 2]) Tryz.func57 rfl rfl (.cons rfl FitsL.nil) h
def zLr(vn1:Int):=fC zFu (zBS vn1) fun _=>zG6
theorem zQW:CfW zt 58:=cfW Tryz.func58
noncomputable def zQr(vn1:Int)(p2:Int):T zt Int:=
 .loop (fun n X_1=>zEk p2 n X_1.1 X_1.2) ((vn1,1)) (mb 17 35) [] (fun s X_1 γ=>s.pc (mb 17 35) [] [(0,I X_1.1),(5,I X_1.2)] []) (fun X_1=>
 .op0 (remF .i64 X_1.1 p2) fun z7=>
 .cond (eqI (Int.tmod X_1.1 p2) 0) (
 .frc (w64 (X_1.2*p2)) fun q9=>.op0 (quoF .i64 X_1.1 p2) fun z10=>
 .frc (w64 (Int.tdiv X_1.1 p2)) fun vn11=>.ret (.inl ((vn11,q9))))<|.ret (.inr X_1.2)) (mb 17 32) [] (fun s o6 γ=>s.pc (mb 17 32) [] [(5,I o6)] []) fun o6=>
 .ret o6
theorem zRA{vn1:Int}{p2:Int}{r:Int}(h:zFM vn1 p2=some r):zF zt 58 [I vn1,I p2] (I r) []:=CtT (zQr vn1 p2) (fun r=>(I r,[])) (rs:=[.t 4]) (vs:=[.tmp 4]) Tryz.func58 rfl rfl (.cons rfl FitsL.nil) h
theorem zK5:CfW zt 59:=cfW Tryz.func59
noncomputable def zLH(vn1:Int)(p2:Int):T zt Int:=
 .loop (fun n X_1=>zBd p2 n X_1.1 X_1.2) ((vn1,0)) (mb 16 35) [] (fun s X_1 γ=>s.pc (mb 16 35) [] [(0,I X_1.1),(5,I X_1.2)] []) (fun X_1=>
 .op0 (remF .i64 X_1.1 p2) fun z7=>
 .cond (eqI (Int.tmod X_1.1 p2) 0) (
 .frc (w64 (X_1.2+1)) fun k9=>.op0 (quoF .i64 X_1.1 p2) fun z10=>
 .frc (w64 (Int.tdiv X_1.1 p2)) fun vn11=>.ret (.inl ((vn11,k9))))<|.ret (.inr X_1.2)) (mb 16 32) [] (fun s o6 γ=>s.pc (mb 16 32) [] [(5,I o6)] []) fun o6=>
 .ret o6
theorem zLW{vn1:Int}{p2:Int}{r:Int}(h:zBk vn1 p2=some r):zF zt 59 [I vn1,I p2] (I r) []:=CtT (zLH vn1 p2) (fun r=>(I r,[])) (rs:=[.t 4]) (vs:=[.tmp 4]) Tryz.func59 rfl rfl (.cons rfl FitsL.nil) h
theorem zEv:∀args w,(callFunc 30 args).run zt w=.ok (.enter 30 args) w:=jM Tryz.func30 kk kk
set_option maxRecDepth 100000 in
set_option maxHeartbeats 400000 in
theorem zFK{orders1:List Int}{r:List Int}(h:qV orders1=some r):zF zt 30 [.c (.sl (orders1.map c3))] (.ow 0) [(0,.arr 3 1 (r.map c3))]:=by
  refine qP (rs:=[.t 2]) (vs:=[.tmp 2]) Tryz.func30 rfl rfl (.cons rfl FitsL.nil) (by decide) 96 rfl ?_
  unfold qV at h;show V _ _ ⟨.c (.sl (orders1.map c3))::bt 95 [],[]⟩ _;refine zO (mb 96 1) [] (s1:=⟨.c (.sl (orders1.map c3))::bt 95 [],[]⟩) ?_ ?_
  ·refine L1 rfl rfl (zEx (e:=3) 1 (by decide) (.inl rfl)) ?_
   refine zC ?_
   kernel_rfl
  refine zO (mb 96 9) [112] (s1:=⟨.c (.sl (orders1.map c3))::.bot::.bot::.ow 112::bt 92 [],[(112,.arr 3 1 ((([]:List Int)).map c3))]⟩) ?_ ?_
  ·refine L1 rfl rfl (zCq Tryz.underlying24 sz3 (by decide) rfl rfl) ?_
   refine L0 rfl rfl (zE (.ow 112) rfl kk) ?_
   refine zC ?_
   kernel_rfl
  refine zAS ?_
  obtain⟨y2,hy2,h⟩:=zI h;refine zO (mb 96 917513) [136,112] (s1:=⟨.c (.sl (orders1.map c3))::.bot::.bot::.ow 112::bt 13 (.ow 136::I ((y2.length:Int))::I 0::bt 76 []),[(136,.arr 3 1 (y2.map c3)),(112,.arr 3 1 ((([]:List Int)).map c3))]⟩) ?_ ?_
  ·refine L0 rfl rfl (zD (.c (.sl (orders1.map c3))) rfl kk) ?_
   refine L0 rfl rfl (zDS (c:=c3) (xs:=orders1) Tryz.underlying24 rfl kk) ?_
   refine L1 rfl rfl (zBz (zG6 hy2) zFu rfl kk) ?_
   refine L0 rfl rfl (zDS (c:=c3) (xs:=y2) Tryz.underlying24 rfl kk) ?_
   refine L0 rfl rfl (zD (I 0) rfl kk) ?_
   refine zC ?_
   kernel_rfl
  obtain⟨o6,hLo6,h⟩:=zI h;refine zHT (mb 96 8) [112] (s1:=⟨bt 3 (.ow 112::bt 92 []),[(112,.arr 3 1 (o6.map c3))]⟩) ?_ ?_
  ·clear h;refine zAF (zE0 (fun n s=>∃(t3:Int) (l4:List Int),s.keep (mb 96 917513) [136,112]=(⟨.c (.sl (orders1.map c3))::.bot::.bot::.ow 112::bt 13 (.ow 136::I ((y2.length:Int))::I t3::bt 76 []),[(136,.arr 3 1 (y2.map c3)),(112,.arr 3 1 (l4.map c3))]⟩:St)∧zAX orders1 y2 n t3 l4=some o6) FU ⟨_,_,by rfl,hLo6⟩ ?_);clear hLo6;rintro n s ⟨t3,l4,hs,h⟩;refine zF8 _ _ hs ?_
   clear hs;cases n with
   |zero=>cases h
   |succ n=>
    rw[zAX]at h;refine zO (mb 96 1966089) [136,112] (s1:=⟨.c (.sl (orders1.map c3))::.bot::.bot::.ow 112::bt 13 (.ow 136::I ((y2.length:Int))::I t3::Bo (ltI t3 ((y2.length:Int)))::bt 75 []),[(136,.arr 3 1 (y2.map c3)),(112,.arr 3 1 (l4.map c3))]⟩) ?_ ?_
    ·refine L0 rfl rfl (zDF (k:=.i64) (a:=t3) (b:=(y2.length:Int)) rfl kk kk) ?_
     refine zC ?_
     kernel_rfl
    refine zAS ?_
    refine zCQ rfl (fun hc7=>?_) (fun hc7=>?_)
    ·have h:=zBw h hc7;refine zCa ?_
     show V _ _ _ _;refine zAS ?_
     refine zAF ?_
     obtain⟨e8,he8,h⟩:=zI h;obtain⟨e9,he9,h⟩:=zI h;refine zO (mb 96 917545) [136,112] (s1:=⟨.c (.sl (orders1.map c3))::.bot::.bot::.ow 112::.bot::I e9::bt 11 (.ow 136::I ((y2.length:Int))::I t3::bt 76 []),[(136,.arr 3 1 (y2.map c3)),(112,.arr 3 1 (l4.map c3))]⟩) ?_ ?_
     ·refine L0 rfl rfl (zDL (c:=c3) (xs:=y2) (v:=e8) (id:=136) (T:=3) (sz:=1) (n:=t3) Tryz.underlying24 sz3 rfl kk kk kk he8) ?_
      refine L0 rfl rfl (zEe (c:=c3) (xs:=y2) (v:=e9) (id:=136) (sz:=1) (T:=3) (off:=0) (n:=t3) (d:=Ti e9) (ds:=[]) sc3 rfl kk kk he9 kk) ?_
      refine L0 rfl rfl (zE (I e9) rfl kk) ?_
      refine zC ?_
      kernel_rfl
     refine zO (mb 96 917609) [136,112] (s1:=⟨.c (.sl (orders1.map c3))::.bot::.bot::.ow 112::.bot::I e9::I 1::bt 10 (.ow 136::I ((y2.length:Int))::I t3::bt 76 []),[(136,.arr 3 1 (y2.map c3)),(112,.arr 3 1 (l4.map c3))]⟩) ?_ ?_
     ·refine L0 rfl rfl (zE (I 1) rfl kk) ?_
      refine zC ?_
      kernel_rfl
     refine zO (mb 96 917737) [136,112] (s1:=⟨.c (.sl (orders1.map c3))::.bot::.bot::.ow 112::.bot::I e9::I 1::I e9::bt 9 (.ow 136::I ((y2.length:Int))::I t3::bt 76 []),[(136,.arr 3 1 (y2.map c3)),(112,.arr 3 1 (l4.map c3))]⟩) ?_ ?_
     ·refine L0 rfl rfl (zD (I e9) rfl kk) ?_
      refine L0 rfl rfl (zE (I e9) rfl kk) ?_
      refine zC ?_
      kernel_rfl
     obtain⟨o14,hLo14,h⟩:=zI h;refine zHT (mb 96 917513) [136,112] (s1:=⟨.c (.sl (orders1.map c3))::.bot::.bot::.ow 112::bt 13 (.ow 136::I ((y2.length:Int))::I t3::bt 76 []),[(136,.arr 3 1 (y2.map c3)),(112,.arr 3 1 (o14.map c3))]⟩) ?_ ?_
     ·clear h;refine zAF (zE0 (fun n s=>∃(before10:Int) (q11:Int) (l12:List Int),s.keep (mb 96 917737) [136,112]=(⟨.c (.sl (orders1.map c3))::.bot::.bot::.ow 112::.bot::I e9::I before10::I q11::bt 9 (.ow 136::I ((y2.length:Int))::I t3::bt 76 []),[(136,.arr 3 1 (y2.map c3)),(112,.arr 3 1 (l12.map c3))]⟩:St)∧zAK e9 orders1 t3 y2 n before10 q11 l12=some o14) FU ⟨_,_,_,by rfl,hLo14⟩ ?_);clear hLo14;rintro n s ⟨before10,q11,l12,hs,h⟩;refine zF8 _ _ hs ?_
      clear hs;cases n with
      |zero=>cases h
      |succ n=>
       rw[zAK]at h;refine zAS ?_
       obtain⟨y15,hy15,h⟩:=zI h;refine zO (mb 96 537788649) [136,112] (s1:=⟨.c (.sl (orders1.map c3))::.bot::.bot::.ow 112::.bot::I e9::I before10::I q11::bt 9 (.ow 136::I ((y2.length:Int))::I t3::bt 9 (Bo (ltI before10 y15)::bt 66 [])),[(136,.arr 3 1 (y2.map c3)),(112,.arr 3 1 (l12.map c3))]⟩) ?_ ?_
       ·refine L0 rfl rfl (zD (I before10) rfl kk) ?_
        refine L0 rfl rfl (zD (.c (.sl (orders1.map c3))) rfl kk) ?_
        refine L0 rfl rfl (zDS (c:=c3) (xs:=orders1) Tryz.underlying24 rfl kk) ?_
        refine L0 rfl rfl (zD (I e9) rfl kk) ?_
        refine L1 rfl rfl (zBz (zRA hy15) zQW rfl kk) ?_
        refine L0 rfl rfl (zDF (k:=.i64) (a:=before10) (b:=y15) rfl kk kk) ?_
        refine zC ?_
        kernel_rfl
       refine zCQ rfl (fun hc16=>?_) (fun hc16=>?_)
       ·have h:=zBw h hc16;refine zCa ?_
        show V _ _ _ _;refine zAS ?_
        refine zAF ?_
        refine zO (mb 96 917993) [136,112] (s1:=⟨.c (.sl (orders1.map c3))::.bot::.bot::.ow 112::.bot::I e9::I before10::I q11::I 0::bt 8 (.ow 136::I ((y2.length:Int))::I t3::bt 76 []),[(136,.arr 3 1 (y2.map c3)),(112,.arr 3 1 (l12.map c3))]⟩) ?_ ?_
        ·refine L0 rfl rfl (zE (I 0) rfl kk) ?_
         refine zC ?_
         kernel_rfl
        refine zAS ?_
        refine zO (mb 96 60130460137) [136,112] (s1:=⟨.c (.sl (orders1.map c3))::.bot::.bot::.ow 112::.bot::I e9::I before10::I q11::I 0::bt 8 (.ow 136::I ((y2.length:Int))::I t3::bt 13 (.c (.sl (orders1.map c3))::I ((orders1.length:Int))::I 0::bt 60 [])),[(136,.arr 3 1 (y2.map c3)),(112,.arr 3 1 (l12.map c3))]⟩) ?_ ?_
        ·refine L0 rfl rfl (zD (.c (.sl (orders1.map c3))) rfl kk) ?_
         refine L0 rfl rfl (zDS (c:=c3) (xs:=orders1) Tryz.underlying24 rfl kk) ?_
         refine L0 rfl rfl (zD (I 0) rfl kk) ?_
         refine zC ?_
         kernel_rfl
        obtain⟨o20,hLo20,h⟩:=zI h;refine zHT (mb 96 917993) [136,112] (s1:=⟨.c (.sl (orders1.map c3))::.bot::.bot::.ow 112::.bot::I e9::I before10::I q11::I o20::bt 8 (.ow 136::I ((y2.length:Int))::I t3::bt 76 []),[(136,.arr 3 1 (y2.map c3)),(112,.arr 3 1 (l12.map c3))]⟩) ?_ ?_
        ·clear h;refine zAF (zE0 (fun n s=>∃(many17:Int) (t18:Int),s.keep (mb 96 60130460137) [136,112]=(⟨.c (.sl (orders1.map c3))::.bot::.bot::.ow 112::.bot::I e9::I before10::I q11::I many17::bt 8 (.ow 136::I ((y2.length:Int))::I t3::bt 13 (.c (.sl (orders1.map c3))::I ((orders1.length:Int))::I t18::bt 60 [])),[(136,.arr 3 1 (y2.map c3)),(112,.arr 3 1 (l12.map c3))]⟩:St)∧jI before10 e9 l12 orders1 q11 t3 y2 n many17 t18=some o20) FU ⟨_,_,by rfl,hLo20⟩ ?_);clear hLo20;rintro n s ⟨many17,t18,hs,h⟩;refine zF8 _ _ hs ?_
         clear hs;cases n with
         |zero=>cases h
         |succ n=>
          rw[jI]at h;refine zO (mb 96 128849936873) [136,112] (s1:=⟨.c (.sl (orders1.map c3))::.bot::.bot::.ow 112::.bot::I e9::I before10::I q11::I many17::bt 8 (.ow 136::I ((y2.length:Int))::I t3::bt 13 (.c (.sl (orders1.map c3))::I ((orders1.length:Int))::I t18::Bo (ltI t18 ((orders1.length:Int)))::bt 59 [])),[(136,.arr 3 1 (y2.map c3)),(112,.arr 3 1 (l12.map c3))]⟩) ?_ ?_
          ·refine L0 rfl rfl (zDF (k:=.i64) (a:=t18) (b:=(orders1.length:Int)) rfl kk kk) ?_
           refine zC ?_
           kernel_rfl
          refine zAS ?_
          refine zCQ rfl (fun hc21=>?_) (fun hc21=>?_)
          ·have h:=zBw h hc21;refine zCa ?_
           show V _ _ _ _;refine zAS ?_
           refine zAF ?_
           obtain⟨e22,he22,h⟩:=zI h;refine zO (mb 96 60130461161) [136,112] (s1:=⟨.c (.sl (orders1.map c3))::.bot::.bot::.ow 112::.bot::I e9::I before10::I q11::I many17::.bot::I e22::bt 6 (.ow 136::I ((y2.length:Int))::I t3::bt 13 (.c (.sl (orders1.map c3))::I ((orders1.length:Int))::I t18::bt 60 [])),[(136,.arr 3 1 (y2.map c3)),(112,.arr 3 1 (l12.map c3))]⟩) ?_ ?_
           ·refine L0 rfl rfl (zJ4 (c:=c3) (xs:=orders1) (v:=e22) (n:=t18) Tryz.underlying24 sz3 rfl kk kk he22) ?_
            refine L0 rfl rfl (qI (c:=Ti e22) (cs:=[]) sc3 rfl kk) ?_
            refine L0 rfl rfl (zE (I e22) rfl kk) ?_
            refine zC ?_
            kernel_rfl
           obtain⟨z23,hz23,h⟩:=zI h;refine zO (mb 96 4458176971241) [136,112] (s1:=⟨.c (.sl (orders1.map c3))::.bot::.bot::.ow 112::.bot::I e9::I before10::I q11::I many17::bt 8 (.ow 136::I ((y2.length:Int))::I t3::bt 13 (.c (.sl (orders1.map c3))::I ((orders1.length:Int))::I t18::bt 6 (Bo (eqI (Int.tmod q11 e22) 0)::bt 53 []))),[(136,.arr 3 1 (y2.map c3)),(112,.arr 3 1 (l12.map c3))]⟩) ?_ ?_
           ·refine L0 rfl rfl (zD (I q11) rfl kk) ?_
            refine L0 rfl rfl (zD (I e22) rfl kk) ?_
            refine L0 rfl rfl (zS7 (k:=.i64) (a:=q11) (b:=e22) rfl kk kk (zH8 hz23)) ?_
            refine L0 rfl rfl (zIa (k:=.i64) (a:=Int.tmod q11 e22) (b:=0) rfl kk kk) ?_
            refine zC ?_
            kernel_rfl
           refine zCQ rfl (fun hc24=>?_) (fun hc24=>?_)
           ·have h:=zBw h hc24;obtain⟨many25,hmany25,h⟩:=zE3 h;refine zDB (mb 96 60130460137) [136,112] (s1:=⟨.c (.sl (orders1.map c3))::.bot::.bot::.ow 112::.bot::I e9::I before10::I q11::I many25::bt 8 (.ow 136::I ((y2.length:Int))::I t3::bt 13 (.c (.sl (orders1.map c3))::I ((orders1.length:Int))::I t18::bt 60 [])),[(136,.arr 3 1 (y2.map c3)),(112,.arr 3 1 (l12.map c3))]⟩) ?_ ?_
            ·refine L0 rfl rfl (zD (I many17) rfl kk) ?_
             refine L0 rfl rfl (zCP (a:=many17) (b:=1) rfl kk kk) ?_
             refine L0 rfl rfl (zE (I (w64 (many17+1))) rfl kk) ?_
             refine zC ?_
             subst hmany25
             kernel_rfl
            show V _ _ _ _;obtain⟨t26,ht26,h⟩:=zE3 h;refine zDB (mb 96 60130460137) [136,112] (s1:=⟨.c (.sl (orders1.map c3))::.bot::.bot::.ow 112::.bot::I e9::I before10::I q11::I many25::bt 8 (.ow 136::I ((y2.length:Int))::I t3::bt 13 (.c (.sl (orders1.map c3))::I ((orders1.length:Int))::I t26::bt 60 [])),[(136,.arr 3 1 (y2.map c3)),(112,.arr 3 1 (l12.map c3))]⟩) ?_ ?_
            ·refine L0 rfl rfl (zCP (a:=t18) (b:=1) rfl kk kk) ?_
             refine L0 rfl rfl (zD (I (w64 (t18+1))) rfl kk) ?_
             refine zC ?_
             subst ht26
             kernel_rfl
            exact⟨n,zf n,_,_,by rfl,h⟩
           ·have h:=zBE h hc24;refine zCa ?_
            show V _ _ _ _;obtain⟨t27,ht27,h⟩:=zE3 h;refine zDB (mb 96 60130460137) [136,112] (s1:=⟨.c (.sl (orders1.map c3))::.bot::.bot::.ow 112::.bot::I e9::I before10::I q11::I many17::bt 8 (.ow 136::I ((y2.length:Int))::I t3::bt 13 (.c (.sl (orders1.map c3))::I ((orders1.length:Int))::I t27::bt 60 [])),[(136,.arr 3 1 (y2.map c3)),(112,.arr 3 1 (l12.map c3))]⟩) ?_ ?_
            ·refine L0 rfl rfl (zCP (a:=t18) (b:=1) rfl kk kk) ?_
             refine L0 rfl rfl (zD (I (w64 (t18+1))) rfl kk) ?_
             refine zC ?_
             subst ht27
             kernel_rfl
            exact⟨n,zf n,_,_,by rfl,h⟩
          ·have h:=zBE h hc21;refine zEy ?_
           obtain rfl:=qB h;show St.keep _ _ _=_;rfl
        show V _ _ _ _;refine zAS ?_
        refine zO (mb 96 920041) [136,112] (s1:=⟨.c (.sl (orders1.map c3))::.bot::.bot::.ow 112::.bot::I e9::I before10::I q11::I o20::.bot::.bot::I 0::bt 5 (.ow 136::I ((y2.length:Int))::I t3::bt 76 []),[(136,.arr 3 1 (y2.map c3)),(112,.arr 3 1 (l12.map c3))]⟩) ?_ ?_
        ·refine L0 rfl rfl (zE (I 0) rfl kk) ?_
         refine zC ?_
         kernel_rfl
        obtain⟨o31,hLo31,h⟩:=zI h;refine zHT (mb 96 917929) [136,112] (s1:=⟨.c (.sl (orders1.map c3))::.bot::.bot::.ow 112::.bot::I e9::.bot::I q11::I o20::bt 8 (.ow 136::I ((y2.length:Int))::I t3::bt 76 []),[(136,.arr 3 1 (y2.map c3)),(112,.arr 3 1 (o31.map c3))]⟩) ?_ ?_
        ·clear h;refine zAF (zE0 (fun n s=>∃(i28:Int) (l29:List Int),s.keep (mb 96 920041) [136,112]=(⟨.c (.sl (orders1.map c3))::.bot::.bot::.ow 112::.bot::I e9::I before10::I q11::I o20::.bot::.bot::I i28::bt 5 (.ow 136::I ((y2.length:Int))::I t3::bt 76 []),[(136,.arr 3 1 (y2.map c3)),(112,.arr 3 1 (l29.map c3))]⟩:St)∧jH before10 e9 o20 orders1 q11 t3 y2 n i28 l29=some o31) FU ⟨_,_,by rfl,hLo31⟩ ?_);clear hLo31;rintro n s ⟨i28,l29,hs,h⟩;refine zF8 _ _ hs ?_
         clear hs;cases n with
         |zero=>cases h
         |succ n=>
          rw[jH]at h;refine zAS ?_
          obtain⟨z32,hz32,h⟩:=zI h;obtain⟨y33,hy33,h⟩:=zI h;refine zO (mb 96 4503599628290537) [136,112] (s1:=⟨.c (.sl (orders1.map c3))::.bot::.bot::.ow 112::.bot::I e9::I before10::I q11::I o20::.bot::.bot::I i28::bt 5 (.ow 136::I ((y2.length:Int))::I t3::bt 32 (Bo (ltI i28 y33)::bt 43 [])),[(136,.arr 3 1 (y2.map c3)),(112,.arr 3 1 (l29.map c3))]⟩) ?_ ?_
          ·refine L0 rfl rfl (zD (I i28) rfl kk) ?_
           refine L0 rfl rfl (zD (I o20) rfl kk) ?_
           refine L0 rfl rfl (zD (I before10) rfl kk) ?_
           refine L0 rfl rfl (zNk (a:=o20) (b:=before10) rfl kk kk (zH8 hz32)) ?_
           refine L0 rfl rfl (zD (I e9) rfl kk) ?_
           refine L1 rfl rfl (zBz (zLW hy33) zK5 rfl kk) ?_
           refine L0 rfl rfl (zDF (k:=.i64) (a:=i28) (b:=y33) rfl kk kk) ?_
           refine zC ?_
           kernel_rfl
          refine zCQ rfl (fun hc34=>?_) (fun hc34=>?_)
          ·have h:=zBw h hc34;refine zCa ?_
           show V _ _ _ _;refine zAS ?_
           refine zAF ?_
           obtain⟨j35,hj35,h⟩:=zI h;refine zZG (mb 96 920041) [136,112] (s1:=⟨.c (.sl (orders1.map c3))::.bot::.bot::.ow 112::.bot::I e9::I before10::I q11::I o20::.bot::.bot::I i28::bt 5 (.ow 136::I ((y2.length:Int))::I t3::bt 76 []),[(136,.arr 3 1 (y2.map c3)),(112,.arr 3 1 (j35.map c3))]⟩) ?_ ?_
           ·clear h;have h:=hj35;clear hj35;refine zO (mb 96 288230376152631785) [136,112] (s1:=⟨.c (.sl (orders1.map c3))::.bot::.bot::.ow 112::.bot::I e9::I before10::I q11::I o20::.bot::.bot::I i28::bt 5 (.ow 136::I ((y2.length:Int))::I t3::bt 38 (Bo (eqI i28 ((l29.length:Int)))::bt 37 [])),[(136,.arr 3 1 (y2.map c3)),(112,.arr 3 1 (l29.map c3))]⟩) ?_ ?_
            ·refine L0 rfl rfl (zD (I i28) rfl kk) ?_
             refine L0 rfl rfl (zD (.ow 112) rfl kk) ?_
             refine L0 rfl rfl (zDS (c:=c3) (xs:=l29) Tryz.underlying24 rfl kk) ?_
             refine L0 rfl rfl (zIa (k:=.i64) (a:=i28) (b:=(l29.length:Int)) rfl kk kk) ?_
             refine zC ?_
             kernel_rfl
            refine zCQ rfl (fun hc36=>?_) (fun hc36=>?_)
            ·have h:=zBw h hc36;obtain⟨u37,hu37,h⟩:=zI h;refine zDB (mb 96 920041) [136,112] (s1:=⟨.c (.sl (orders1.map c3))::.bot::.bot::.ow 112::.bot::I e9::I before10::I q11::I o20::.bot::.bot::I i28::bt 5 (.ow 136::I ((y2.length:Int))::I t3::bt 76 []),[(136,.arr 3 1 (y2.map c3)),(112,.arr 3 1 ((l29++([1])).map c3))]⟩) ?_ ?_
             ·refine L0 rfl rfl (zD (.ow 112) rfl kk) ?_
              refine L1 rfl rfl (zEM (z:=zv3) (els:=[1].map c3) Tryz.underlying24 iz3 rfl (by decide) rfl kk rfl (by simp[c3]) (by decide) (by decide)) ?_
              refine jA rfl (zEf (c:=c3) (xs:=l29) (ys:=[1]) (id:=112) (z:=zv3) rfl rfl Tryz.underlying24 izb3 rfl kk kk kk (fun _=>rfl) (by simp) (zEF hu37) (by decide)) ?_
              refine L0 rfl rfl (zE (.ow 112) rfl kk) ?_
              refine zC ?_
              kernel_rfl
             obtain rfl:=qB h;show St.keep _ _ _=_;rfl
            ·have h:=zBE h hc36;refine zCa ?_
             obtain rfl:=qB h;show St.keep _ _ _=_;rfl
           obtain⟨e38,he38,h⟩:=zI h;obtain⟨e39,he39,h⟩:=zI h;obtain⟨e40,he40,h⟩:=zI h;obtain⟨e41,he41,h⟩:=zI h;refine zDB (mb 96 920041) [136,112] (s1:=⟨.c (.sl (orders1.map c3))::.bot::.bot::.ow 112::.bot::I e9::I before10::I q11::I o20::.bot::.bot::I i28::bt 5 (.ow 136::I ((y2.length:Int))::I t3::bt 76 []),[(136,.arr 3 1 (y2.map c3)),(112,.arr 3 1 ((j35.set (Int.toNat (i28)) (w64 (e39*e9))).map c3))]⟩) ?_ ?_
           ·refine L0 rfl rfl (zD (.ow 112) rfl kk) ?_
            refine L0 rfl rfl (zD (I i28) rfl kk) ?_
            refine L0 rfl rfl (zDL (c:=c3) (xs:=j35) (v:=e38) (id:=112) (T:=3) (sz:=1) (n:=i28) Tryz.underlying24 sz3 rfl kk kk kk he38) ?_
            refine L0 rfl rfl (zEe (c:=c3) (xs:=j35) (v:=e39) (id:=112) (sz:=1) (T:=3) (off:=0) (n:=i28) (d:=Ti e39) (ds:=[]) sc3 rfl kk kk he39 kk) ?_
            refine L0 rfl rfl (zD (I e9) rfl kk) ?_
            refine L0 rfl rfl (zNl (a:=e39) (b:=e9) rfl kk kk) ?_
            refine L0 rfl rfl (zDL (c:=c3) (xs:=j35) (v:=e40) (id:=112) (T:=3) (sz:=1) (n:=i28) Tryz.underlying24 sz3 rfl kk kk kk he40) ?_
            refine jA rfl (zHe (c:=c3) (xs:=j35) (v:=e41) (u:=w64 (e39*e9)) (id:=112) (sz:=1) (off:=0) (T0:=3) (n:=i28) (vc:=[Ti (w64 (e39*e9))]) rfl rfl kk kk he41 kk sz3 (Nat.le_of_ble_eq_true rfl) kk) ?_
            refine zC ?_
            kernel_rfl
           show V _ _ _ _;obtain⟨i42,hi42,h⟩:=zE3 h;refine zDB (mb 96 920041) [136,112] (s1:=⟨.c (.sl (orders1.map c3))::.bot::.bot::.ow 112::.bot::I e9::I before10::I q11::I o20::.bot::.bot::I i42::bt 5 (.ow 136::I ((y2.length:Int))::I t3::bt 76 []),[(136,.arr 3 1 (y2.map c3)),(112,.arr 3 1 ((j35.set (Int.toNat (i28)) (w64 (e39*e9))).map c3))]⟩) ?_ ?_
           ·refine L0 rfl rfl (zD (I i28) rfl kk) ?_
            refine L0 rfl rfl (zCP (a:=i28) (b:=1) rfl kk kk) ?_
            refine L0 rfl rfl (zE (I (w64 (i28+1))) rfl kk) ?_
            refine zC ?_
            subst hi42
            kernel_rfl
           exact⟨n,zf n,_,_,by rfl,h⟩
          ·have h:=zBE h hc34;refine zEy ?_
           obtain rfl:=qB h;show St.keep _ _ _=_;rfl
        show V _ _ _ _;refine zDB (mb 96 917737) [136,112] (s1:=⟨.c (.sl (orders1.map c3))::.bot::.bot::.ow 112::.bot::I e9::I o20::I q11::bt 9 (.ow 136::I ((y2.length:Int))::I t3::bt 76 []),[(136,.arr 3 1 (y2.map c3)),(112,.arr 3 1 (o31.map c3))]⟩) ?_ ?_
        ·refine L0 rfl rfl (zD (I o20) rfl kk) ?_
         refine L0 rfl rfl (zE (I o20) rfl kk) ?_
         refine zC ?_
         kernel_rfl
        show V _ _ _ _;obtain⟨q43,hq43,h⟩:=zE3 h;refine zDB (mb 96 917737) [136,112] (s1:=⟨.c (.sl (orders1.map c3))::.bot::.bot::.ow 112::.bot::I e9::I o20::I q43::bt 9 (.ow 136::I ((y2.length:Int))::I t3::bt 76 []),[(136,.arr 3 1 (y2.map c3)),(112,.arr 3 1 (o31.map c3))]⟩) ?_ ?_
        ·refine L0 rfl rfl (zD (I q11) rfl kk) ?_
         refine L0 rfl rfl (zD (I e9) rfl kk) ?_
         refine L0 rfl rfl (zNl (a:=q11) (b:=e9) rfl kk kk) ?_
         refine L0 rfl rfl (zE (I (w64 (q11*e9))) rfl kk) ?_
         refine zC ?_
         subst hq43
         kernel_rfl
        exact⟨n,zf n,_,_,_,by rfl,h⟩
       ·have h:=zBE h hc16;refine zEy ?_
        obtain rfl:=qB h;show St.keep _ _ _=_;rfl
     show V _ _ _ _;obtain⟨t44,ht44,h⟩:=zE3 h;refine zDB (mb 96 917513) [136,112] (s1:=⟨.c (.sl (orders1.map c3))::.bot::.bot::.ow 112::bt 13 (.ow 136::I ((y2.length:Int))::I t44::bt 76 []),[(136,.arr 3 1 (y2.map c3)),(112,.arr 3 1 (o14.map c3))]⟩) ?_ ?_
     ·refine L0 rfl rfl (zCP (a:=t3) (b:=1) rfl kk kk) ?_
      refine L0 rfl rfl (zD (I (w64 (t3+1))) rfl kk) ?_
      refine zC ?_
      subst ht44
      kernel_rfl
     exact⟨n,zf n,_,_,by rfl,h⟩
    ·have h:=zBE h hc7;refine zEy ?_
     obtain rfl:=qB h;show St.keep _ _ _=_;rfl
  show V _ _ _ _;refine zAS ?_
  obtain⟨vr45,hvr45,h⟩:=zE3 h;refine zO (mb 96 12296) [112] (s1:=⟨bt 3 (.ow 112::bt 8 (I 0::I vr45::bt 82 [])),[(112,.arr 3 1 (o6.map c3))]⟩) ?_ ?_
  ·refine L0 rfl rfl (zD (.ow 112) rfl kk) ?_
   refine L0 rfl rfl (zDS (c:=c3) (xs:=o6) Tryz.underlying24 rfl kk) ?_
   refine L0 rfl rfl (zNj (a:=(o6.length:Int)) (b:=1) rfl kk kk) ?_
   refine L0 rfl rfl (zE (I 0) rfl kk) ?_
   refine L0 rfl rfl (zE (I (w64 (((o6.length:Int)) - 1))) rfl kk) ?_
   refine zC ?_
   subst hvr45
   kernel_rfl
  obtain⟨o50,hLo50,h⟩:=zI h;refine zHT (mb 96 8) [112] (s1:=⟨bt 3 (.ow 112::bt 92 []),[(112,.arr 3 1 (o50.map c3))]⟩) ?_ ?_
  ·clear h;refine zAF (zE0 (fun n s=>∃(l46:Int) (vr47:Int) (l48:List Int),s.keep (mb 96 12296) [112]=(⟨bt 3 (.ow 112::bt 8 (I l46::I vr47::bt 82 [])),[(112,.arr 3 1 (l48.map c3))]⟩:St)∧zAJ n l46 vr47 l48=some o50) FU ⟨_,_,_,by rfl,hLo50⟩ ?_);clear hLo50;rintro n s ⟨l46,vr47,l48,hs,h⟩;refine zF8 _ _ hs ?_
   clear hs;cases n with
   |zero=>cases h
   |succ n=>
    rw[zAJ]at h;refine zAS ?_
    refine zO (mb 96 75557863725914323431432) [112] (s1:=⟨bt 3 (.ow 112::bt 8 (I l46::I vr47::bt 62 (Bo (ltI l46 vr47)::bt 19 []))),[(112,.arr 3 1 (l48.map c3))]⟩) ?_ ?_
    ·refine L0 rfl rfl (zD (I l46) rfl kk) ?_
     refine L0 rfl rfl (zD (I vr47) rfl kk) ?_
     refine L0 rfl rfl (zDF (k:=.i64) (a:=l46) (b:=vr47) rfl kk kk) ?_
     refine zC ?_
     kernel_rfl
    refine zCQ rfl (fun hc51=>?_) (fun hc51=>?_)
    ·have h:=zBw h hc51;refine zCa ?_
     show V _ _ _ _;refine zAS ?_
     refine zAF ?_
     obtain⟨e52,he52,h⟩:=zI h;obtain⟨e53,he53,h⟩:=zI h;obtain⟨e54,he54,h⟩:=zI h;obtain⟨e55,he55,h⟩:=zI h;obtain⟨e56,he56,h⟩:=zI h;obtain⟨e57,he57,h⟩:=zI h;obtain⟨e58,he58,h⟩:=zI h;obtain⟨e59,he59,h⟩:=zI h;refine zSe [0,0,0,0,0,0,48,112,0,0,768,1792,4083,8179,16383,32767] 14 [[.z,.b,.b,.b,.b,.b,.b,.b,.b,.b,.b,.b,.z,.z],[.b,.z,.b,.b,.b,.b,.b,.b,.b,.b,.b,.b,.z,.z],[.b,.b,.z,.b,.b,.b,.b,.b,.b,.b,.b,.b,.b,.r 112],[.b,.b,.b,.z,.b,.b,.b,.b,.b,.b,.b,.b,.b,.r 112],[.b,.b,.b,.b,.z,.b,.z,.z,.b,.b,.b,.b,.z,.z],[.b,.b,.b,.b,.b,.z,.z,.z,.b,.b,.b,.b,.z,.z],[.b,.b,.b,.b,.a,.a,.z,.z,.b,.b,.b,.b,.z,.z],[.b,.b,.b,.b,.a,.a,.a,.z,.b,.b,.b,.b,.z,.z],[.b,.b,.b,.b,.b,.b,.b,.b,.z,.b,.z,.z,.z,.z],[.b,.b,.b,.b,.b,.b,.b,.b,.b,.z,.z,.z,.z,.z],[.b,.b,.b,.b,.b,.b,.b,.b,.a,.a,.z,.z,.z,.z],[.b,.b,.b,.b,.b,.b,.b,.b,.a,.a,.a,.z,.z,.z],[.a,.a,.b,.b,.a,.a,.a,.a,.a,.a,.a,.a,.z,.z],[.a,.a,.b,.b,.a,.a,.a,.a,.a,.a,.a,.a,.a,.z]] (mb 96 12296) [112] (s1:=⟨bt 3 (.ow 112::bt 8 (I l46::I vr47::bt 82 [])),[(112,.arr 3 1 (((l48.set (Int.toNat (l46)) e53).set (Int.toNat (vr47)) e55).map c3))]⟩) kk kk ?_ ?_
     ·refine DE_0 0 (.ow 112) kk rfl rfl rfl (zK rfl) kk (zD (.ow 112) rfl kk) 81 rfl ?_
      refine DE_0 1 (I l46) kk rfl rfl rfl (zK rfl) kk (zD (I l46) rfl kk) 82 rfl ?_
      refine DE_0 2 (.ow 112) kk rfl rfl rfl (zK rfl) kk (zD (.ow 112) rfl kk) 83 rfl ?_
      refine DE_0 3 (I vr47) kk rfl rfl rfl (zK rfl) kk (zD (I vr47) rfl kk) 84 rfl ?_
      refine DE_0 4 (.ow 112) kk rfl rfl rfl (zK rfl) kk (zD (.ow 112) rfl kk) 85 rfl ?_
      refine DE_0 5 (I vr47) kk rfl rfl rfl (zK rfl) kk (zD (I vr47) rfl kk) 86 rfl ?_
      refine DE_0 6 (.po 112 1 (Int.toNat (vr47)) 0) kk rfl rfl rfl (zK rfl) kk (zDL (c:=c3) (xs:=l48) (v:=e52) (id:=112) (T:=3) (sz:=1) (n:=vr47) Tryz.underlying24 sz3 rfl kk kk kk he52) 87 rfl ?_
      refine DE_0 7 (I e53) kk rfl rfl rfl (zK rfl) kk (zEe (c:=c3) (xs:=l48) (v:=e53) (id:=112) (sz:=1) (T:=3) (off:=0) (n:=vr47) (d:=Ti e53) (ds:=[]) sc3 rfl kk kk he53 kk) 88 rfl ?_
      refine DE_0 8 (.ow 112) kk rfl rfl rfl (zK rfl) kk (zD (.ow 112) rfl kk) 89 rfl ?_
      refine DE_0 9 (I l46) kk rfl rfl rfl (zK rfl) kk (zD (I l46) rfl kk) 90 rfl ?_
      refine DE_0 10 (.po 112 1 (Int.toNat (l46)) 0) kk rfl rfl rfl (zK rfl) kk (zDL (c:=c3) (xs:=l48) (v:=e54) (id:=112) (T:=3) (sz:=1) (n:=l46) Tryz.underlying24 sz3 rfl kk kk kk he54) 91 rfl ?_
      refine DE_0 11 (I e55) kk rfl rfl rfl (zK rfl) kk (zEe (c:=c3) (xs:=l48) (v:=e55) (id:=112) (sz:=1) (T:=3) (off:=0) (n:=l46) (d:=Ti e55) (ds:=[]) sc3 rfl kk kk he55 kk) 92 rfl ?_
      refine DE_0 12 (.po 112 1 (Int.toNat (l46)) 0) kk rfl rfl rfl (zK rfl) kk (zDL (c:=c3) (xs:=l48) (v:=e56) (id:=112) (T:=3) (sz:=1) (n:=l46) Tryz.underlying24 sz3 rfl kk kk kk he56) 93 rfl ?_
      refine DE_2a (c:=c3) (xs:=l48) (v:=e57) (u:=e53) (sz:=1) (off:=0) (T0:=3) (n:=l46) (vc:=[Ti e53]) 13 112 kk rfl rfl rfl (zK rfl) rfl rfl kk kk he57 kk sz3 (Nat.le_of_ble_eq_true rfl) kk kk kk kk ?_
      refine zQa kk ?_
      refine L0 rfl rfl (zDL (c:=c3) (xs:=l48.set (Int.toNat (l46)) e53) (v:=e58) (id:=112) (T:=3) (sz:=1) (n:=vr47) Tryz.underlying24 sz3 rfl kk kk kk he58) ?_
      refine jA rfl (zHe (c:=c3) (xs:=l48.set (Int.toNat (l46)) e53) (v:=e59) (u:=e55) (id:=112) (sz:=1) (off:=0) (T0:=3) (n:=vr47) (vc:=[Ti e55]) rfl rfl kk kk he59 kk sz3 (Nat.le_of_ble_eq_true rfl) kk) ?_
      refine zC ?_
      kernel_rfl
     show V _ _ _ _;obtain⟨l60,hl60,h⟩:=zE3 h;obtain⟨vr61,hvr61,h⟩:=zE3 h;refine zDB (mb 96 12296) [112] (s1:=⟨bt 3 (.ow 112::bt 8 (I l60::I vr61::bt 82 [])),[(112,.arr 3 1 (((l48.set (Int.toNat (l46)) e53).set (Int.toNat (vr47)) e55).map c3))]⟩) ?_ ?_
     ·refine L0 rfl rfl (zD (I l46) rfl kk) ?_
      refine L0 rfl rfl (zCP (a:=l46) (b:=1) rfl kk kk) ?_
      refine L0 rfl rfl (zD (I vr47) rfl kk) ?_
      refine L0 rfl rfl (zNj (a:=vr47) (b:=1) rfl kk kk) ?_
      refine L0 rfl rfl (zE (I (w64 (l46+1))) rfl kk) ?_
      refine L0 rfl rfl (zE (I (w64 (vr47 - 1))) rfl kk) ?_
      refine zC ?_
      subst hl60 hvr61
      kernel_rfl
     exact⟨n,zf n,_,_,_,by rfl,h⟩
    ·have h:=zBE h hc51;refine zEy ?_
     obtain rfl:=qB h;show St.keep _ _ _=_;rfl
  show V _ _ _ _;refine zO (mb 96 4) [112] (s1:=⟨.bot::.bot::.ow 112::bt 93 [],[(112,.arr 3 1 (o50.map c3))]⟩) ?_ ?_
  ·refine L0 rfl rfl (zD (.ow 112) rfl kk) ?_
   refine L0 rfl rfl (zE (.ow 112) rfl kk) ?_
   refine zC ?_
   kernel_rfl
  refine zEU ?_
  obtain rfl:=qB h;show Post _ _ _ _ _;exact⟨.inr rfl,rfl,rfl,rfl⟩
def zJ9(orders1:List Int):=fC zEv (qV orders1) fun _ h=>zKe (zFK h)
def zJ8(orders1:List Int):=fCs zEv (qV orders1) (fun _=>zFK) fun _=>(zD2 (fun _=>rfl) rfl)
theorem zEu:CfW zt 29:=cfW Tryz.func29
noncomputable def zIm(x1:List Int)(y2:List Int):T zt Bool:=
 .n0 (lenM ct3 x1)<|.n0 (lenM ct3 y2)<|
 .cond (!eqI ((x1.length:Int)) ((y2.length:Int))) (
 .ret false)<|.n0 (lenM ct3 x1)<|
 .loopS (fun n X_1=>zBB x1 y2 n X_1) 0 (mb 26 28674) [] (fun s X_1 γ=>s.pc (mb 26 28674) [] [(14,I X_1)] []) (fun X_1=>
 .cond (ltI X_1 ((x1.length:Int))) (.op0 (idxM ct3 x1 X_1) fun e8=>
 .op0 (idxM ct3 y2 X_1) fun e9=>
 .cond (!eqI e9 e8) (
 .ret (.early false))<|
 .frc (w64 (X_1+1)) fun t11=>.ret (.again t11))<|.ret (.done (()))) (mb 26 0) [] (fun s o6 γ=>s.pc (mb 26 0) [] [] []) (fun r=>r) fun o6=>
 .ret true
theorem zFJ{x1:List Int}{y2:List Int}{r:Bool}(h:zA8 x1 y2=some r):zF zt 29 [.c (.sl (x1.map c3)),.c (.sl (y2.map c3))] (Bo r) []:=CtT (zIm x1 y2) (fun r=>(Bo r,[])) (rs:=[.t 4]) (vs:=[.tmp 4]) Tryz.func29 rfl rfl (.cons rfl FitsL.nil) h
def zJd(x1:List Int)(y2:List Int):=fC zEu (zA8 x1 y2) fun _=>zFJ
def zJ7(x1:List Int)(y2:List Int):=fCs zEu (zA8 x1 y2) (fun _=>zFJ) fun _=>rfl
theorem zD3:CfW zt 27:=cfW Tryz.func27
noncomputable def zD8(d1:Int)(cap2:Int)(cap3:List Int):T zt Bool:=
 .pl<|.joinC (.draw 13 []<|.op1 (zHv d1) fun y4=>.n0 (lenM ct73 y4)<|.seqT (.cond (eqI ((y4.length:Int)) cap2) (.op1 (zH1 d1) fun y6=>.op1 (zF9 y6) fun y7=>.op1 (zJ9 y7) fun y8=>.op1 (zJd y8 cap3) fun y9=>.ret y9) (.ret false)) fun b10=>.ret (y4,b10)) (mb 18 16) [] (fun s q_1 γ=>s.pc (mb 18 16) [] [(4,Bo q_1.2)] []) fun q_1=>
 .ret q_1.2
theorem zD9{d1:Int}{cap2:Int}{cap3:List Int}{r:Bool}(h:q8 d1 cap2 cap3=some r):zF zt 27 [I d1,.pe [Ti cap2],.pe [.sl (cap3.map c3)]] (Bo r) []:=CtT (zD8 d1 cap2 cap3) (fun r=>(Bo r,[])) (rs:=[.t 4]) (vs:=[.tmp 4]) Tryz.func27 rfl rfl (.cons rfl FitsL.nil) h
theorem zDp:∀args w,(callFunc 6 args).run zt w=.ok (.enter 6 args) w:=jM Tryz.func6 kk kk
set_option maxRecDepth 100000 in
set_option maxHeartbeats 400000 in
theorem zDw{factors1:List Int}{r:((List Int)×Bool)}(h:zL factors1=some r):zF zt 6 [.c (.sl (factors1.map c3))] (.tc (.ow 0) (.tc (Bo r.2) .tn)) [(0,.arr 3 1 (r.1.map c3))]:=by
  refine qP (rs:=[.t 2,.t 3]) (vs:=[.tmp 2,.tmp 3]) Tryz.func6 rfl rfl (.cons rfl (.cons rfl FitsL.nil)) (by decide) 16 rfl ?_
  unfold zL at h;show V _ _ ⟨.c (.sl (factors1.map c3))::bt 15 [],[]⟩ _;refine zO (mb 16 2) [8] (s1:=⟨.bot::.pt 8 0::bt 14 [],[(8,.box [.sl (factors1.map c3)])]⟩) ?_ ?_
  ·refine L1 rfl rfl (zK9 (cs:=[.sl (factors1.map c3)]) rfl kk) ?_
   refine L1 rfl rfl (zEx (e:=3) 1 (by decide) (.inl rfl)) ?_
   refine L0 rfl rfl (zE (Bo false) rfl kk) ?_
   refine zC ?_
   kernel_rfl
  obtain⟨y2,hy2,h⟩:=zI h;refine zO (mb 16 50) [32,8] (s1:=⟨.bot::.pt 8 0::.bot::.bot::.pt 32 0::Bo y2.2::bt 10 [],[(32,.box [Ti y2.1]),(8,.box [.sl (factors1.map c3)])]⟩) ?_ ?_
  ·refine L0 rfl rfl (qI (c:=.sl (factors1.map c3)) (cs:=[]) sc24 rfl kk) ?_
   refine L1 rfl rfl (zBz (zMn hy2) zLc rfl kk) ?_
   refine L0 rfl rfl (zD (.tc (I y2.1) (.tc (Bo y2.2) .tn)) rfl kk) ?_
   refine L0 rfl rfl (zWA (n:=0) (I y2.1) (.tc (Bo y2.2) .tn) (I y2.1) rfl kk kk (by intro hh;cases hh)) ?_
   refine L0 rfl rfl (zWA (n:=1) (I y2.1) (.tc (Bo y2.2) .tn) (Bo y2.2) rfl kk kk (by intro hh;cases hh)) ?_
   refine L1 rfl rfl (zJ3 (z:=zv3) rfl zf3 rfl) ?_
   refine jA rfl (zMH (id:=32) (off:=0) (cs:=[Ti 0]) (vc:=[Ti y2.1]) [Ti y2.1] rfl rfl kk kk kk sz3 (Nat.le_of_ble_eq_true rfl) kk) ?_
   refine L0 rfl rfl (zE (Bo y2.2) rfl kk) ?_
   refine zC ?_
   kernel_rfl
  refine zAS ?_
  refine zO (mb 16 4114) [32,8] (s1:=⟨.bot::.pt 8 0::.bot::.bot::.pt 32 0::bt 7 (Bo (!y2.2)::bt 3 []),[(32,.box [Ti y2.1]),(8,.box [.sl (factors1.map c3)])]⟩) ?_ ?_
  ·refine L0 rfl rfl (zD (Bo y2.2) rfl kk) ?_
   refine L0 rfl rfl (zS9 (b:=y2.2) rfl kk) ?_
   refine zC ?_
   kernel_rfl
  refine zCQ rfl (fun hc3=>?_) (fun hc3=>?_)
  ·have h:=zBw h hc3;refine zO (mb 16 12) [104] (s1:=⟨.bot::.bot::.ow 104::Bo false::bt 12 [],[(104,.arr 3 1 ((([]:List Int)).map c3))]⟩) ?_ ?_
   ·refine L1 rfl rfl (zCq Tryz.underlying24 sz3 (by decide) rfl rfl) ?_
    refine L0 rfl rfl (zE (.ow 104) rfl kk) ?_
    refine L0 rfl rfl (zE (Bo false) rfl kk) ?_
    refine zC ?_
    kernel_rfl
   refine zEU ?_
   obtain rfl:=qB h;show Post _ _ _ _ _;exact⟨.inr rfl,rfl,rfl,rfl⟩
  ·have h:=zBE h hc3;refine zCa ?_
   show V _ _ _ _;refine zHf 32 (cs:=[Ti y2.1]) (s1:=⟨.bot::.pt 8 0::.bot::.bot::.pe [Ti y2.1]::bt 7 (Bo (!y2.2)::bt 3 []),[(8,.box [.sl (factors1.map c3)])]⟩) kk kk ?_
   refine zHf 8 (cs:=[.sl (factors1.map c3)]) (s1:=⟨.bot::.pe [.sl (factors1.map c3)]::.bot::.bot::.pe [Ti y2.1]::bt 7 (Bo (!y2.2)::bt 3 []),[]⟩) kk kk ?_
   obtain⟨y4,hy4,h⟩:=zI h;refine zO (mb 16 12) [120] (s1:=⟨.bot::.bot::.ow 120::Bo true::bt 12 [],[(120,.arr 3 1 (y4.map c3))]⟩) ?_ ?_
   ·refine L0 rfl rfl (zKs (f:=27) (cs:=[[Ti y2.1],[.sl (factors1.map c3)]]) rfl kk) ?_
    refine L1 rfl rfl (zBz (zED (fso3:=27) (cso3:=[[Ti y2.1],[.sl (factors1.map c3)]]) zD3 (fun hh=>zD9 hh) hy4) zDo rfl kk) ?_
    refine L0 rfl rfl (zE (.ow 120) rfl kk) ?_
    refine L0 rfl rfl (zE (Bo true) rfl kk) ?_
    refine zC ?_
    kernel_rfl
   refine zEU ?_
   obtain rfl:=qB h;show Post _ _ _ _ _;exact⟨.inr rfl,rfl,rfl,rfl⟩
def zDz(factors1:List Int):=fCs zDp (zL factors1) (fun _=>zDw) fun _=>(zD2 (fun _=>rfl) rfl)
theorem zJP:CfW zt 33:=cfW Tryz.func33
noncomputable def zJi(l1:List Int):T zt ((Int×Bool)):=
 .n0 (lenM ct3 l1)<|
 .loopS (fun n X_2=>zAf l1 n X_2.1 X_2.2) ((1,0)) (mb 38 913) [] (fun s X_2 γ=>s.pc (mb 38 913) [] [(4,I X_2.1),(9,I X_2.2)] []) (fun X_2=>
 .cond (ltI X_2.2 ((l1.length:Int))) (.op0 (idxM ct3 l1 X_2.2) fun e7=>
 .dn<|.joinC (.op1 (zFT e7 2 1000) fun y8=>.seqT (.cond (!y8) (.ret true) (.seqT (.cond (ltI 0 X_2.2) (.op0 (idxM ct3 l1 (w64 (X_2.2 - 1))) fun e11=>.op0 (remF .i64 e7 e11) fun z12=>.ret (!eqI (Int.tmod e7 e11) 0)) (.ret false)) fun b13=>.ret b13)) fun b14=>.ret (y8,b14)) (mb 38 1073742801) [] (fun s q_1 γ=>s.pc (mb 38 1073742801) [] [(30,Bo q_1.2)] []) fun q_1=>
 .cond q_1.2 (
 .ret (.early ((0,false))))<|
 .frc (w64 (X_2.1*e7)) fun vn16=>
 .cond (ltI 1000 vn16) (
 .ret (.early ((0,false))))<|
 .frc (w64 (X_2.2+1)) fun t18=>.ret (.again ((vn16,t18))))<|.ret (.done X_2.1)) (mb 38 16) [] (fun s o5 γ=>s.pc (mb 38 16) [] [(4,I o5)] []) (fun r=>r) fun o5=>
 .ret ((o5,true))
theorem zJs{l1:List Int}{r:(Int×Bool)}(h:zBW l1=some r):zF zt 33 [.c (.sl (l1.map c3))] (.tc (I r.1) (.tc (Bo r.2) .tn)) []:=CtT (zJi l1) (fun r=>(.tc (I r.1) (.tc (Bo r.2) .tn),[])) (rs:=[.t 2,.t 3]) (vs:=[.tmp 2,.tmp 3]) Tryz.func33 rfl rfl (.cons rfl (.cons rfl FitsL.nil)) h
def zKf(l1:List Int):=fC zJP (zBW l1) fun _=>zJs
theorem zL0:CfW zt 34:=cfW Tryz.func34
noncomputable def zMN(lo1:Int)(hi2:Int):T zt (List Int):=
 .n1 (nilN 3 1 (by decide))<|
 .n1 (nilN 3 1 (by decide))<|
 .loop (fun n X_1=>zBH hi2 n X_1.1 X_1.2) ((lo1,([]:List Int))) (mb 20 98) [40] (fun s X_1 γ=>s.pc (mb 20 98) [40] [(6,I X_1.1)] [(40,.arr 3 1 (X_1.2.map c3))]) (fun X_1=>
 .cond (leI X_1.1 hi2) (.op1 (zIC X_1.1) fun y8=>
 .cond y8 (.n1 bsl<|.opx (app ct3 X_1.2 ([X_1.1])) fun u10=>
 .frc (w64 (X_1.1+1)) fun d11=>.ret (.inl ((d11,X_1.2++([X_1.1])))))<|
 .frc (w64 (X_1.1+1)) fun d12=>.ret (.inl ((d12,X_1.2))))<|.ret (.inr X_1.2)) (mb 20 32) [40] (fun s o6 γ=>s.pc (mb 20 32) [40] [] [(40,.arr 3 1 (o6.map c3))]) fun o6=>
 .ret o6
theorem zMb{lo1:Int}{hi2:Int}{r:List Int}(h:zA6 lo1 hi2=some r):zF zt 34 [I lo1,I hi2] (.ow 0) [(0,.arr 3 1 (r.map c3))]:=CtT (zMN lo1 hi2) (fun r=>(.ow 0,[(0,.arr 3 1 (r.map c3))])) (rs:=[.t 4]) (vs:=[.tmp 4]) Tryz.func34 rfl rfl (.cons rfl FitsL.nil) h
def zEz(lo1:Int)(hi2:Int):=fC zL0 (zA6 lo1 hi2) fun _=>zMb
theorem zN6:CfW zt 36:=cfW Tryz.func36
noncomputable def zOI(a1:List Int)(b2:List Int):T zt Bool:=
 .n0 (lenM ct3 a1)<|.n0 (lenM ct3 b2)<|
 .cond (!eqI ((a1.length:Int)) ((b2.length:Int))) (
 .ret false)<|.n0 (lenM ct3 a1)<|
 .loopS (fun n X_1=>zCH a1 b2 n X_1) 0 (mb 26 12291) [] (fun s X_1 γ=>s.pc (mb 26 12291) [] [(13,I X_1)] []) (fun X_1=>
 .cond (ltI X_1 ((a1.length:Int))) (
 .draw 9 []<|.op0 (idxM ct3 a1 X_1) fun e8=>.op0 (idxM ct3 b2 X_1) fun e9=>
 .cond (!eqI e8 e9) (
 .ret (.early false))<|
 .frc (w64 (X_1+1)) fun t11=>.ret (.again t11))<|.ret (.done (()))) (mb 26 0) [] (fun s o6 γ=>s.pc (mb 26 0) [] [] []) (fun r=>r) fun o6=>
 .ret true
theorem zOT{a1:List Int}{b2:List Int}{r:Bool}(h:zCB a1 b2=some r):zF zt 36 [.c (.sl (a1.map c3)),.c (.sl (b2.map c3))] (Bo r) []:=CtT (zOI a1 b2) (fun r=>(Bo r,[])) (rs:=[.t 4]) (vs:=[.tmp 4]) Tryz.func36 rfl rfl (.cons rfl FitsL.nil) h
def zIA(a1:List Int)(b2:List Int):=fCs zN6 (zCB a1 b2) (fun _=>zOT) fun _=>rfl
theorem zDn:CfW zt 7:=cfW Tryz.func7
noncomputable def zDu(factors1:List Int):T zt (((List Int)×Bool)):=
 .n1 (nilN 3 1 (by decide))<|
 .op1 (zKf factors1) fun y2=>
 .cond (!y2.2) (.n1 (nilN 3 1 (by decide))<|
 .ret ((([]:List Int),false)))<|.n1 (nilN 3 1 (by decide))<|
 .op1 (zEz (-2000) (-3)) fun y4=>.n0 (lenM ct3 y4)<|
 .loop (fun n X_2=>zZ factors1 y2 y4 n X_2.1 X_2.2) ((0,([]:List Int))) (mb 39 458833) [128,48] (fun s X_2 γ=>s.pc (mb 39 458833) [128,48] [(18,I X_2.1)] [(48,.arr 3 1 (X_2.2.map c3))]) (fun X_2=>
 .cond (ltI X_2.1 ((y4.length:Int))) (.op0 (zBO ct3 y4 X_2.1) fun e10=>.op0 (ldo ct3 y4 X_2.1) fun e11=>
 .joinC (.op1 (zDM e11) fun y12=>.n0 (lenM ct73 y12)<|.seqT (.cond (eqI ((y12.length:Int)) y2.1) (.op1 (zHV e11) fun y14=>.op1 (zIA y14 factors1) fun y15=>.ret y15) (.ret false)) fun b16=>.ret (y12,b16)) (mb 39 4295426385) [128,48] (fun s q_1 γ=>s.pc (mb 39 4295426385) [128,48] [(32,Bo q_1.2)] []) fun q_1=>
 .cond q_1.2 (.n1 bsl<|.opx (app ct3 X_2.2 ([e11])) fun u18=>
 .frc (w64 (X_2.1+1)) fun t19=>.ret (.inl ((t19,X_2.2++([e11])))))<|
 .frc (w64 (X_2.1+1)) fun t20=>.ret (.inl ((t20,X_2.2))))<|.ret (.inr X_2.2)) (mb 39 64) [48] (fun s o8 γ=>s.pc (mb 39 64) [48] [] [(48,.arr 3 1 (o8.map c3))]) fun o8=>
 .ret ((o8,true))
theorem zDv{factors1:List Int}{r:((List Int)×Bool)}(h:zS factors1=some r):zF zt 7 [.c (.sl (factors1.map c3))] (.tc (.ow 0) (.tc (Bo r.2) .tn)) [(0,.arr 3 1 (r.1.map c3))]:=CtT (zDu factors1) (fun r=>(.tc (.ow 0) (.tc (Bo r.2) .tn),[(0,.arr 3 1 (r.1.map c3))])) (rs:=[.t 2,.t 3]) (vs:=[.tmp 2,.tmp 3]) Tryz.func7 rfl rfl (.cons rfl (.cons rfl FitsL.nil)) h
def zDy(factors1:List Int):=fCs zDn (zS factors1) (fun _=>zDv) fun _=>(zD2 (fun _=>rfl) rfl)
theorem zK1:CfW zt 8:=cfW Tryz.func8
noncomputable def zLC(a1:List Int)(b2:List Int):T zt Bool:=
 .n0 (lenM ct3 a1)<|.n0 (lenM ct3 b2)<|
 .cond (!eqI ((a1.length:Int)) ((b2.length:Int))) (
 .ret false)<|.n0 (lenM ct3 a1)<|
 .loopS (fun n X_1=>zBb a1 b2 n X_1) 0 (mb 26 12291) [] (fun s X_1 γ=>s.pc (mb 26 12291) [] [(13,I X_1)] []) (fun X_1=>
 .cond (ltI X_1 ((a1.length:Int))) (
 .draw 9 []<|.op0 (idxM ct3 a1 X_1) fun e8=>.op0 (idxM ct3 b2 X_1) fun e9=>
 .cond (!eqI e8 e9) (
 .ret (.early false))<|
 .frc (w64 (X_1+1)) fun t11=>.ret (.again t11))<|.ret (.done (()))) (mb 26 0) [] (fun s o6 γ=>s.pc (mb 26 0) [] [] []) (fun r=>r) fun o6=>
 .ret true
theorem zLS{a1:List Int}{b2:List Int}{r:Bool}(h:qZ a1 b2=some r):zF zt 8 [.c (.sl (a1.map c3)),.c (.sl (b2.map c3))] (Bo r) []:=CtT (zLC a1 b2) (fun r=>(Bo r,[])) (rs:=[.t 4]) (vs:=[.tmp 4]) Tryz.func8 rfl rfl (.cons rfl FitsL.nil) h
def zE1(a1:List Int)(b2:List Int):=fCs zK1 (qZ a1 b2) (fun _=>zLS) fun _=>rfl
theorem zDa:CfW zt 37:=cfW Tryz.func37
noncomputable def zDb(d1:Int)(cap2:Int):T zt Bool:=
 .draw 6 []<|.op1 (jF d1) fun y3=>.n0 (lenM ct73 y3)<|
 .ret (eqI ((y3.length:Int)) cap2)
theorem zDd{d1:Int}{cap2:Int}{r:Bool}(h:zAd d1 cap2=some r):zF zt 37 [I d1,.pe [Ti cap2]] (Bo r) []:=CtT (zDb d1 cap2) (fun r=>(Bo r,[])) (rs:=[.t 3]) (vs:=[.tmp 3]) Tryz.func37 rfl rfl (.cons rfl FitsL.nil) h
theorem zDx:∀args w,(callFunc 9 args).run zt w=.ok (.enter 9 args) w:=jM Tryz.func9 kk kk
set_option maxRecDepth 100000 in
set_option maxHeartbeats 400000 in
theorem zEE{vh1:Int}{r:((List Int)×Bool)}(h:qA vh1=some r):zF zt 9 [I vh1] (.tc (.ow 0) (.tc (Bo r.2) .tn)) [(0,.arr 3 1 (r.1.map c3))]:=by
  refine qP (rs:=[.t 2,.t 3]) (vs:=[.tmp 2,.tmp 3]) Tryz.func9 rfl rfl (.cons rfl (.cons rfl FitsL.nil)) (by decide) 13 rfl ?_
  unfold qA at h;show V _ _ ⟨I vh1::bt 12 [],[]⟩ _;refine zO (mb 13 2) [8] (s1:=⟨.bot::.pt 8 0::bt 11 [],[(8,.box [Ti vh1])]⟩) ?_ ?_
  ·refine L1 rfl rfl (zK9 (cs:=[Ti vh1]) rfl kk) ?_
   refine L1 rfl rfl (zEx (e:=3) 1 (by decide) (.inl rfl)) ?_
   refine L0 rfl rfl (zE (Bo false) rfl kk) ?_
   refine zC ?_
   kernel_rfl
  refine zAS ?_
  refine zO (mb 13 514) [8] (s1:=⟨.bot::.pt 8 0::bt 7 (Bo (bif (ltI vh1 1) then true else (ltI 1000 vh1))::bt 3 []),[(8,.box [Ti vh1])]⟩) ?_ ?_
  ·refine L0 rfl rfl (qI (c:=Ti vh1) (cs:=[]) sc3 rfl kk) ?_
   refine L0 rfl rfl (zDF (k:=.i64) (a:=vh1) (b:=1) rfl kk kk) ?_
   refine L0 rfl rfl (zD (Bo (ltI vh1 1)) rfl kk) ?_
   refine zCr (ltI vh1 1) (fun hc2=>?_) (fun hc2=>?_)
   ·refine jW _ rfl rfl kk hc2 rfl ?_
    refine jW _ rfl rfl kk hc2 rfl ?_
    refine jA rfl (zB rfl (zBG (b:=ltI vh1 1) (p:=true) (q:=ltI 1000 vh1) rfl kk hc2 kk)) ?_
    refine zC ?_
    kernel_rfl
   ·refine zH _ rfl rfl kk hc2 (zB rfl (qI (c:=Ti vh1) (cs:=[]) sc3 rfl kk)) ?_
    refine zH _ rfl rfl kk hc2 (zB rfl (zSc (k:=.i64) (a:=vh1) (b:=1000) rfl kk kk)) ?_
    refine jA rfl (zB rfl (zCA (b:=ltI vh1 1) (p:=true) (q:=ltI 1000 vh1) rfl kk hc2 kk)) ?_
    refine zC ?_
    kernel_rfl
  refine zCQ rfl (fun hc3=>?_) (fun hc3=>?_)
  ·have h:=zBw h hc3;refine zO (mb 13 12) [80] (s1:=⟨.bot::.bot::.ow 80::Bo false::bt 9 [],[(80,.arr 3 1 ((([]:List Int)).map c3))]⟩) ?_ ?_
   ·refine L1 rfl rfl (zCq Tryz.underlying24 sz3 (by decide) rfl rfl) ?_
    refine L0 rfl rfl (zE (.ow 80) rfl kk) ?_
    refine L0 rfl rfl (zE (Bo false) rfl kk) ?_
    refine zC ?_
    kernel_rfl
   refine zEU ?_
   obtain rfl:=qB h;show Post _ _ _ _ _;exact⟨.inr rfl,rfl,rfl,rfl⟩
  ·have h:=zBE h hc3;refine zCa ?_
   show V _ _ _ _;refine zHf 8 (cs:=[Ti vh1]) (s1:=⟨.bot::.pe [Ti vh1]::bt 7 (Bo (bif (ltI vh1 1) then true else (ltI 1000 vh1))::bt 3 []),[]⟩) kk kk ?_
   obtain⟨y4,hy4,h⟩:=zI h;refine zO (mb 13 12) [96] (s1:=⟨.bot::.bot::.ow 96::Bo true::bt 9 [],[(96,.arr 3 1 (y4.map c3))]⟩) ?_ ?_
   ·refine L0 rfl rfl (zKs (f:=37) (cs:=[[Ti vh1]]) rfl kk) ?_
    refine L1 rfl rfl (zBz (zED (fso3:=37) (cso3:=[[Ti vh1]]) zDa (fun hh=>zDd hh) hy4) zDo rfl kk) ?_
    refine L0 rfl rfl (zE (.ow 96) rfl kk) ?_
    refine L0 rfl rfl (zE (Bo true) rfl kk) ?_
    refine zC ?_
    kernel_rfl
   refine zEU ?_
   obtain rfl:=qB h;show Post _ _ _ _ _;exact⟨.inr rfl,rfl,rfl,rfl⟩
def zEN(vh1:Int):=fC zDx (qA vh1) fun _=>zEE
theorem zR3:CfW zt 10:=cfW Tryz.func10
noncomputable def zRs(l1:List Int)(vn2:Int):T zt Bool:=
 .n0 (lenM ct3 l1)<|
 .loopS (fun n X_1=>zDJ l1 vn2 n X_1) 0 (mb 17 898) [] (fun s X_1 γ=>s.pc (mb 17 898) [] [(9,I X_1)] []) (fun X_1=>
 .cond (ltI X_1 ((l1.length:Int))) (.op0 (idxM ct3 l1 X_1) fun e7=>
 .cond (eqI e7 vn2) (
 .ret (.early true))<|
 .frc (w64 (X_1+1)) fun t9=>.ret (.again t9))<|.ret (.done (()))) (mb 17 0) [] (fun s o5 γ=>s.pc (mb 17 0) [] [] []) (fun r=>r) fun o5=>
 .ret false
theorem zSC{l1:List Int}{vn2:Int}{r:Bool}(h:zEj l1 vn2=some r):zF zt 10 [.c (.sl (l1.map c3)),I vn2] (Bo r) []:=CtT (zRs l1 vn2) (fun r=>(Bo r,[])) (rs:=[.t 4]) (vs:=[.tmp 4]) Tryz.func10 rfl rfl (.cons rfl FitsL.nil) h
def zSg(l1:List Int)(vn2:Int):=fCs zR3 (zEj l1 vn2) (fun _=>zSC) fun _=>rfl
theorem zK2:CfW zt 12:=cfW Tryz.func12
noncomputable def zLD(b1:List Int):T zt Int:=
 .n0 (lenM ct5 b1)<|
 .loop (fun n X_1=>zAp b1 n X_1.1 X_1.2) ((0,0)) (mb 20 456) [] (fun s X_1 γ=>s.pc (mb 20 456) [] [(3,I X_1.1),(8,I X_1.2)] []) (fun X_1=>
 .cond (ltI X_1.2 ((b1.length:Int))) (.op0 (idxM ct5 b1 X_1.2) fun e7=>
 .n0 au<|.n0 dvN<|
 .frc (Int.tmod (w64 ((w64 (31*X_1.1))+(IntKind.i64.wrap e7))) 1000003) fun vn8=>
 .frc (w64 (X_1.2+1)) fun t9=>.ret (.inl ((vn8,t9))))<|.ret (.inr X_1.1)) (mb 20 8) [] (fun s o5 γ=>s.pc (mb 20 8) [] [(3,I o5)] []) fun o5=>
 .ret o5
theorem zLT{b1:List Int}{r:Int}(h:zBj b1=some r):zF zt 12 [.c (.sl (b1.map c5))] (I r) []:=CtT (zLD b1) (fun r=>(I r,[])) (rs:=[.t 2]) (vs:=[.tmp 2]) Tryz.func12 rfl rfl (.cons rfl FitsL.nil) h
def zLp(b1:List Int):=fC zK2 (zBj b1) fun _=>zLT
theorem zF6:CfW zt 11:=cfW Tryz.func11
noncomputable def zFe(d1:Int):T zt (((List Int)×Bool)):=
 .n1 (nilN 3 1 (by decide))<|
 .op1 (zBg d1) fun y2=>
 .cond (!y2) (.n1 bsl0<|
 .ret ((([]:List Int),false)))<|.op1 (zH1 d1) fun y4=>.op1 (zFb y4) fun y5=>.op1 (zJ8 y5) fun y6=>
 .ret ((y6,true))
theorem zFl{d1:Int}{r:((List Int)×Bool)}(h:jP d1=some r):zF zt 11 [I d1] (.tc (.ow 0) (.tc (Bo r.2) .tn)) [(0,.arr 3 1 (r.1.map c3))]:=CtT (zFe d1) (fun r=>(.tc (.ow 0) (.tc (Bo r.2) .tn),[(0,.arr 3 1 (r.1.map c3))])) (rs:=[.t 2,.t 3]) (vs:=[.tmp 2,.tmp 3]) Tryz.func11 rfl rfl (.cons rfl (.cons rfl FitsL.nil)) h
def zGB(d1:Int):=fC zF6 (jP d1) fun _=>zFl
theorem zJS:CfW zt 39:=cfW Tryz.func39
noncomputable def zJl(cc1:((List Int)×Int×Int))(vn2:Int):T zt ((Bool×((List Int)×Int×Int))):=
 .opx (qF cc1 vn2) fun y3=>
 .ret ((eqI y3.1 0,y3.2))
theorem zJv{cc1:((List Int)×Int×Int)}{vn2:Int}{r:(Bool×((List Int)×Int×Int))}(h:zCI cc1 vn2=some r):zFy zt 39 [.pt 80000 0,I vn2] [(80000,.box [.sl (cc1.1.map c5),Ti cc1.2.1,.v (.int .u64 cc1.2.2)])] (Bo r.1) [] [(80000,.box [.sl (r.2.1.map c5),Ti r.2.2.1,.v (.int .u64 r.2.2.2)])]:=CrT (zJl cc1 vn2) (fun r=>(Bo r.1,[])) (fun r=>[(80000,.box [.sl (r.2.1.map c5),Ti r.2.2.1,.v (.int .u64 r.2.2.2)])]) (rs:=[.t 4]) (vs:=[.tmp 4]) Tryz.func39 rfl rfl (.cons rfl FitsL.nil) h
def zKa(cc1:((List Int)×Int×Int))(vn2:Int):=fR zJS (zCI cc1 vn2) fun _=>zJv
theorem zHO:CfW zt 40:=cfW Tryz.func40
noncomputable def zHg(cc1:((List Int)×Int×Int)):T zt ((Int×Int×((List Int)×Int×Int))):=
 .opx (qF cc1 1990) fun y2=>.opx (qF y2.2 300) fun y3=>.n1 bsl<|.hint (frzH 96)<|.opx (zCY y3.2 ([-2000,-100,-30,-8,-4,-3,-2001,w64 ((-3) - y2.1),w64 ((-3) - y3.1)])) fun y4=>
 .opx (qF y4.2 60) fun y5=>.n1 bsl<|.hint (frzH 152)<|.opx (zCY y5.2 ([0,1,2,3,10,30,78,80,82,-1,y5.1])) fun y6=>
 .frc (w64 (y4.1+y6.1)) fun t7=>.ret ((y4.1,t7,y6.2))
theorem zHl{cc1:((List Int)×Int×Int)}{r:(Int×Int×((List Int)×Int×Int))}(h:zAg cc1=some r):zFy zt 40 [.pt 80000 0] [(80000,.box [.sl (cc1.1.map c5),Ti cc1.2.1,.v (.int .u64 cc1.2.2)])] (.tc (I r.1) (.tc (I r.2.1) .tn)) [] [(80000,.box [.sl (r.2.2.1.map c5),Ti r.2.2.2.1,.v (.int .u64 r.2.2.2.2)])]:=CrT (zHg cc1) (fun r=>(.tc (I r.1) (.tc (I r.2.1) .tn),[])) (fun r=>[(80000,.box [.sl (r.2.2.1.map c5),Ti r.2.2.2.1,.v (.int .u64 r.2.2.2.2)])]) (rs:=[.t 2,.t 3]) (vs:=[.tmp 2,.tmp 3]) Tryz.func40 rfl rfl (.cons rfl (.cons rfl FitsL.nil)) h
def zE4(cc1:((List Int)×Int×Int)):=fR zHO (zAg cc1) fun _=>zHl
theorem zEt:CfW zt 13:=cfW Tryz.func13
noncomputable def zFC(code1:List Int):T zt ((Int×Int)):=
 .n0 (bld pl44 bt44)<|
 .opx (zKa ((code1,0,0)) 8) fun y2=>
 .cond y2.1 (
 .ret ((-2000,-3)))<|.opx (zE4 y2.2) fun y4=>
 .ret ((y4.1,y4.2.1))
theorem zFE{code1:List Int}{r:(Int×Int)}(h:qY code1=some r):zF zt 13 [.c (.sl (code1.map c5))] (.tc (I r.1) (.tc (I r.2) .tn)) []:=CtT (zFC code1) (fun r=>(.tc (I r.1) (.tc (I r.2) .tn),[])) (rs:=[.t 2,.t 3]) (vs:=[.tmp 2,.tmp 3]) Tryz.func13 rfl rfl (.cons rfl (.cons rfl FitsL.nil)) h
def zFH(code1:List Int):=fC zEt (qY code1) fun _=>zFE
theorem zG7:CfW zt 41:=cfW Tryz.func41
noncomputable def zMZ(lo1:Int)(hi2:Int):T zt Bool:=
 .pl<|.joinC (.selB (leI (-2000) lo1) true [] fun w_3=>.selB (bif w_3 then (leI lo1 hi2) else false) true [] fun w_4=>.ret (w_3,w_4)) (mb 16 16) [] (fun s q_5 γ=>s.pc (mb 16 16) [] [(4,Bo (bif q_5.2 then (leI hi2 (-3)) else false))] []) fun q_5=>
 .lt (bif q_5.2 then (leI hi2 (-3)) else false) fun t5=>.ret t5
theorem zHB{lo1:Int}{hi2:Int}{r:Bool}(h:zBC lo1 hi2=some r):zF zt 41 [I lo1,I hi2] (Bo r) []:=CtT (zMZ lo1 hi2) (fun r=>(Bo r,[])) (rs:=[.t 4]) (vs:=[.tmp 4]) Tryz.func41 rfl rfl (.cons rfl FitsL.nil) h
def zH0(lo1:Int)(hi2:Int):=fC zG7 (zBC lo1 hi2) fun _=>zHB
theorem zGZ:CfW zt 14:=cfW Tryz.func14
noncomputable def zGf(lo1:Int)(hi2:Int):T zt ((Int×Int×Bool)):=
 .op1 (zH0 lo1 hi2) fun y3=>
 .cond (!y3) (
 .ret ((0,0,false)))<|
 .op1 (zH2 lo1 hi2) fun y5=>.n0 (lenM ct3 y5)<|
 .loop (fun n X_1=>jE y5 n X_1.1 X_1.2.1 X_1.2.2) ((0,0,0)) (mb 37 1835392) [144] (fun s X_1 γ=>s.pc (mb 37 1835392) [144] [(7,I X_1.1),(8,I X_1.2.1),(20,I X_1.2.2)] []) (fun X_1=>
 .cond (ltI X_1.2.2 ((y5.length:Int))) (.op0 (zBO ct3 y5 X_1.2.2) fun e12=>.op0 (ldo ct3 y5 X_1.2.2) fun e13=>
 .op1 (jF e13) fun y14=>.n0 (lenM ct73 y14)<|
 .cond (leI X_1.1 ((y14.length:Int))) (
 .frc (w64 (X_1.2.2+1)) fun t16=>.ret (.inl (((y14.length:Int),e13,t16))))<|
 .frc (w64 (X_1.2.2+1)) fun t17=>.ret (.inl ((X_1.1,X_1.2.1,t17))))<|.ret (.inr ((X_1.1,X_1.2.1)))) (mb 37 384) [] (fun s o10 γ=>s.pc (mb 37 384) [] [(7,I o10.1),(8,I o10.2)] []) fun o10=>
 .ret ((o10.1,o10.2,ltI 0 o10.1))
theorem zGl{lo1:Int}{hi2:Int}{r:(Int×Int×Bool)}(h:jK lo1 hi2=some r):zF zt 14 [I lo1,I hi2] (.tc (I r.1) (.tc (I r.2.1) (.tc (Bo r.2.2) .tn))) []:=CtT (zGf lo1 hi2) (fun r=>(.tc (I r.1) (.tc (I r.2.1) (.tc (Bo r.2.2) .tn)),[])) (rs:=[.t 4,.t 5,.t 6]) (vs:=[.tmp 4,.tmp 5,.tmp 6]) Tryz.func14 rfl rfl (.cons rfl (.cons rfl (.cons rfl FitsL.nil))) h
def zGt(lo1:Int)(hi2:Int):=fC zGZ (jK lo1 hi2) fun _=>zGl
theorem zLY:CfW zt 43:=cfW Tryz.func43
noncomputable def zML(lo1:Int)(hi2:Int):T zt Bool:=
 .pl<|.joinC (.op1 (zFT lo1 (-2000) hi2) fun y3=>.selB y3 true [] fun w_2=>.ret (y3,w_2)) (mb 12 16) [] (fun s q_3 γ=>s.pc (mb 12 16) [] [(4,Bo (bif q_3.2 then (leI hi2 (-3)) else false))] []) fun q_3=>
 .ret (bif q_3.2 then (leI hi2 (-3)) else false)
theorem zM9{lo1:Int}{hi2:Int}{r:Bool}(h:zB2 lo1 hi2=some r):zF zt 43 [I lo1,I hi2] (Bo r) []:=CtT (zML lo1 hi2) (fun r=>(Bo r,[])) (rs:=[.t 4]) (vs:=[.tmp 4]) Tryz.func43 rfl rfl (.cons rfl FitsL.nil) h
def zHU(lo1:Int)(hi2:Int):=fC zLY (zB2 lo1 hi2) fun _=>zM9
theorem zGW:CfW zt 15:=cfW Tryz.func15
noncomputable def zGd(lo1:Int)(hi2:Int):T zt ((Int×Int×Bool)):=
 .op1 (zHU lo1 hi2) fun y3=>
 .cond (!y3) (
 .ret ((0,0,false)))<|
 .op1 (zEz lo1 hi2) fun y5=>.n0 (lenM ct3 y5)<|
 .loop (fun n X_1=>jC y5 n X_1.1 X_1.2.1 X_1.2.2) ((0,0,0)) (mb 37 1835392) [144] (fun s X_1 γ=>s.pc (mb 37 1835392) [144] [(7,I X_1.1),(8,I X_1.2.1),(20,I X_1.2.2)] []) (fun X_1=>
 .cond (ltI X_1.2.2 ((y5.length:Int))) (.op0 (zBO ct3 y5 X_1.2.2) fun e12=>.op0 (ldo ct3 y5 X_1.2.2) fun e13=>
 .op1 (zDM e13) fun y14=>.n0 (lenM ct73 y14)<|
 .cond (leI X_1.1 ((y14.length:Int))) (
 .frc (w64 (X_1.2.2+1)) fun t16=>.ret (.inl (((y14.length:Int),e13,t16))))<|
 .frc (w64 (X_1.2.2+1)) fun t17=>.ret (.inl ((X_1.1,X_1.2.1,t17))))<|.ret (.inr ((X_1.1,X_1.2.1)))) (mb 37 384) [] (fun s o10 γ=>s.pc (mb 37 384) [] [(7,I o10.1),(8,I o10.2)] []) fun o10=>
 .ret ((o10.1,o10.2,ltI 0 o10.1))
theorem zGi{lo1:Int}{hi2:Int}{r:(Int×Int×Bool)}(h:jG lo1 hi2=some r):zF zt 15 [I lo1,I hi2] (.tc (I r.1) (.tc (I r.2.1) (.tc (Bo r.2.2) .tn))) []:=CtT (zGd lo1 hi2) (fun r=>(.tc (I r.1) (.tc (I r.2.1) (.tc (Bo r.2.2) .tn)),[])) (rs:=[.t 4,.t 5,.t 6]) (vs:=[.tmp 4,.tmp 5,.tmp 6]) Tryz.func15 rfl rfl (.cons rfl (.cons rfl (.cons rfl FitsL.nil))) h
def zGr(lo1:Int)(hi2:Int):=fC zGW (jG lo1 hi2) fun _=>zGi
theorem zGo:CfW zt 16:=cfW Tryz.func16
noncomputable def zGx(lo1:Int)(hi2:Int):T zt (((List Int)×Bool)):=
 .n1 (nilN 3 1 (by decide))<|
 .op1 (zH0 lo1 hi2) fun y3=>
 .cond (!y3) (.n1 bsl0<|
 .ret ((([]:List Int),false)))<|.n1 bsl0<|
 .op1 (zH2 lo1 hi2) fun y5=>.n0 (lenM ct3 y5)<|
 .loop (fun n X_2=>zA1 y5 n X_2.1 X_2.2) ((0,([]:List Int))) (mb 42 1835072) [144,120] (fun s X_2 γ=>s.pc (mb 42 1835072) [144,120] [(20,I X_2.1)] [(120,.arr 3 1 (X_2.2.map c3))]) (fun X_2=>
 .cond (ltI X_2.1 ((y5.length:Int))) (.op0 (zBO ct3 y5 X_2.1) fun e11=>.op0 (ldo ct3 y5 X_2.1) fun e12=>
 .op1 (jF e12) fun y13=>.n0 (lenM ct73 y13)<|
 .loop (fun n X_1=>zAO X_2.1 y13 y5 n X_1) X_2.2 (mb 42 1835584) [144,120] (fun s X_1 γ=>s.pc (mb 42 1835584) [144,120] [] [(120,.arr 3 1 (X_1.map c3))]) (fun X_1=>
 .n0 (lenM ct3 X_1)<|
 .cond (leI ((X_1.length:Int)) ((y13.length:Int))) (.n1 bsl<|.opx (app ct3 X_1 ([0])) fun u18=>
 .ret (.inl ((X_1++([0])))))<|.ret (.inr X_1)) (mb 42 1835584) [144,120] (fun s o16 γ=>s.pc (mb 42 1835584) [144,120] [] [(120,.arr 3 1 (o16.map c3))]) fun o16=>
 .op0 (zBO ct3 o16 ((y13.length:Int))) fun e19=>.op0 (ldo ct3 o16 ((y13.length:Int))) fun e20=>.op0 (zBO ct3 o16 ((y13.length:Int))) fun e21=>.opx (sto ct3 o16 ((y13.length:Int)) fun e22=>w64 (e20+1)) fun e22=>
 .frc (w64 (X_2.1+1)) fun t23=>.ret (.inl ((t23,o16.set (Int.toNat ((y13.length:Int))) (w64 (e20+1))))))<|.ret (.inr X_2.2)) (mb 42 64) [120] (fun s o9 γ=>s.pc (mb 42 64) [120] [] [(120,.arr 3 1 (o9.map c3))]) fun o9=>
 .ret ((o9,true))
theorem zHE{lo1:Int}{hi2:Int}{r:((List Int)×Bool)}(h:zA2 lo1 hi2=some r):zF zt 16 [I lo1,I hi2] (.tc (.ow 0) (.tc (Bo r.2) .tn)) [(0,.arr 3 1 (r.1.map c3))]:=CtT (zGx lo1 hi2) (fun r=>(.tc (.ow 0) (.tc (Bo r.2) .tn),[(0,.arr 3 1 (r.1.map c3))])) (rs:=[.t 4,.t 5]) (vs:=[.tmp 4,.tmp 5]) Tryz.func16 rfl rfl (.cons rfl (.cons rfl FitsL.nil)) h
def zH5(lo1:Int)(hi2:Int):=fC zGo (zA2 lo1 hi2) fun _=>zHE
theorem zHP:CfW zt 44:=cfW Tryz.func44
noncomputable def zHi(d1:Int):T zt (((List (Int×Int×Int))×Bool)):=
 .n1 (nilN 73 3 (by decide))<|
 .op1 (zBg d1) fun y2=>
 .cond (!y2) (.n1 bsl0<|
 .ret ((([]:List (Int×Int×Int)),false)))<|.op1 (jF d1) fun y4=>
 .ret ((y4,true))
theorem zHm{d1:Int}{r:((List (Int×Int×Int))×Bool)}(h:zCG d1=some r):zF zt 44 [I d1] (.tc (.ow 0) (.tc (Bo r.2) .tn)) [(0,.arr 73 3 (r.1.map c73))]:=CtT (zHi d1) (fun r=>(.tc (.ow 0) (.tc (Bo r.2) .tn),[(0,.arr 73 3 (r.1.map c73))])) (rs:=[.t 2,.t 3]) (vs:=[.tmp 2,.tmp 3]) Tryz.func44 rfl rfl (.cons rfl (.cons rfl FitsL.nil)) h
def zHw(d1:Int):=fC zHP (zCG d1) fun _=>zHm
theorem zHu:CfW zt 17:=cfW Tryz.func17
noncomputable def zIJ(d1:Int):T zt ((Int×Bool)):=
 .op1 (zHw d1) fun y2=>
 .n0 (lenM ct73 y2.1)<|
 .ret (((y2.1.length:Int),y2.2))
theorem zIT{d1:Int}{r:(Int×Bool)}(h:zAs d1=some r):zF zt 17 [I d1] (.tc (I r.1) (.tc (Bo r.2) .tn)) []:=CtT (zIJ d1) (fun r=>(.tc (I r.1) (.tc (Bo r.2) .tn),[])) (rs:=[.t 2,.t 3]) (vs:=[.tmp 2,.tmp 3]) Tryz.func17 rfl rfl (.cons rfl (.cons rfl FitsL.nil)) h
def zIe(d1:Int):=fC zHu (zAs d1) fun _=>zIT
theorem zEs:CfW zt 18:=cfW Tryz.func18
noncomputable def zFB(code1:List Int):T zt ((Int×Int)):=
 .n0 (bld pl44 bt44)<|
 .opx (zE4 ((code1,0,0))) fun y2=>
 .ret ((y2.1,y2.2.1))
theorem zFD{code1:List Int}{r:(Int×Int)}(h:qX code1=some r):zF zt 18 [.c (.sl (code1.map c5))] (.tc (I r.1) (.tc (I r.2) .tn)) []:=CtT (zFB code1) (fun r=>(.tc (I r.1) (.tc (I r.2) .tn),[])) (rs:=[.t 2,.t 3]) (vs:=[.tmp 2,.tmp 3]) Tryz.func18 rfl rfl (.cons rfl (.cons rfl FitsL.nil)) h
def zFG(code1:List Int):=fC zEs (qX code1) fun _=>zFD
theorem zK6:CfW zt 102:=cfW Tryz.func102
noncomputable def zLI(d1:Int):T zt (List (Int×Int)):=
 .n1 (nilN 98 2 (by decide))<|
 .n1 bsl0<|
 .op1 (zLr (w64 (0 - d1))) fun y2=>.n0 (lenM ct3 y2)<|
 .loop (fun n X_1=>zCW d1 y2 n X_1.1 X_1.2) ((0,([]:List (Int×Int)))) (mb 67 57353) [104,80] (fun s X_1 γ=>s.pc (mb 67 57353) [104,80] [(15,I X_1.1)] [(80,.arr 98 2 (X_1.2.map c98))]) (fun X_1=>
 .cond (ltI X_1.1 ((y2.length:Int))) (.op0 (zBO ct3 y2 X_1.1) fun e8=>.op0 (ldo ct3 y2 X_1.1) fun e9=>
 .cond (ltI 2 e9) (.n0 (bld pl98 bt98)<|.n1 bsl<|.opx (app ct98 X_1.2 ([(1,e9)])) fun u11=>
 .frc (w64 (X_1.1+1)) fun t12=>.ret (.inl ((t12,X_1.2++([(1,e9)])))))<|
 .frc (w64 (X_1.1+1)) fun t13=>.ret (.inl ((t13,X_1.2))))<|.ret (.inr X_1.2)) (mb 67 9) [80] (fun s o6 γ=>s.pc (mb 67 9) [80] [] [(80,.arr 98 2 (o6.map c98))]) fun o6=>
 .n0 dvN<|
 .cond (!eqI (Int.tmod d1 2) 0) (
 .ret o6)<|.n0 (bld pl98 bt98)<|.n0 (bld pl98 bt98)<|.n0 (bld pl98 bt98)<|
 .n0 dvN<|
 .frc (w64 (Int.tdiv (w64 (0 - d1)) 4)) fun vn15=>.n0 dvN<|
 .frc (Int.tmod vn15 8) fun t16=>.join (
 .cond (eqI t16 1) (.ret (eqI t16 1))<|
 .cond (eqI t16 5) (.ret (eqI t16 5))<|
 .ret (eqI t16 4)) (mb 67 824633721288) [64,56,48,80] (fun s j17 γ=>s.pc (mb 67 824633721288) [64,56,48,80] [(39,Bo j17)] []) fun j17=>
 .cond j17 (.n1 bsl<|.opx (app ct98 o6 ([(2,0)])) fun u21=>
 .ret (o6++([(2,0)])))<|
 .cond (eqI t16 2) (.n1 bsl<|.opx (app ct98 o6 ([(4,0)])) fun u23=>
 .ret (o6++([(4,0)])))<|
 .cond (eqI t16 6) (.n1 bsl<|.opx (app ct98 o6 ([(3,0)])) fun u25=>
 .ret (o6++([(3,0)])))<|
 .cond (eqI t16 0) (.n1 bsl<|.opx (app ct98 o6 ([(2,0),(3,0)])) fun u27=>
 .ret (o6++([(2,0),(3,0)])))<|
 .ret o6
theorem zLX{d1:Int}{r:List (Int×Int)}(h:zEY d1=some r):zF zt 102 [I d1] (.ow 0) [(0,.arr 98 2 (r.map c98))]:=CtT (zLI d1) (fun r=>(.ow 0,[(0,.arr 98 2 (r.map c98))])) (rs:=[.t 2]) (vs:=[.tmp 2]) Tryz.func102 rfl rfl (.cons rfl FitsL.nil) h
def zLs(d1:Int):=fC zK6 (zEY d1) fun _=>zLX
theorem zHr:CfW zt 121:=cfW Tryz.func121
noncomputable def zIG(vn1:Int):T zt Int:=
 .op1 (zCE vn1 8) fun y2=>
 .joinC (.selB (eqI y2 1) false [] fun w_4=>.ret w_4) (mb 12 2048) [] (fun s q_5 γ=>s.pc (mb 12 2048) [] [(11,Bo (bif q_5 then true else (eqI y2 7)))] []) fun q_5=>
 .cond (bif q_5 then true else (eqI y2 7)) (
 .ret 1)<|
 .ret (-1)
theorem zIQ{vn1:Int}{r:Int}(h:zBc vn1=some r):zF zt 121 [I vn1] (I r) []:=CtT (zIG vn1) (fun r=>(I r,[])) (rs:=[.t 2]) (vs:=[.tmp 2]) Tryz.func121 rfl rfl (.cons rfl FitsL.nil) h
def zD4(vn1:Int):=fC zHr (zBc vn1) fun _=>zIQ
theorem zNb:CfW zt 120:=cfW Tryz.func120
noncomputable def zON(a1:Int)(vn2:Int):T zt Int:=
 .op1 (zCE a1 vn2) fun y3=>
 .loop (fun n X_67=>zCu n X_67.1 X_67.2.1 X_67.2.2) ((y3,vn2,1)) (mb 38 35) [] (fun s X_67 γ=>s.pc (mb 38 35) [] [(0,I X_67.1),(1,I X_67.2.1),(5,I X_67.2.2)] []) (fun X_67=>
 .cond (!eqI X_67.1 0) (.loop (fun n X_66=>zDg X_67.2.1 n X_66.1 X_66.2) ((X_67.1,X_67.2.2)) (mb 38 35) [] (fun s X_66 γ=>s.pc (mb 38 35) [] [(0,I X_66.1),(5,I X_66.2)] []) (fun X_66=>
 .n0 dvN<|
 .cond (eqI (Int.tmod X_66.1 2) 0) (.n0 dvN<|
 .frc (w64 (Int.tdiv X_66.1 2)) fun a15=>.op1 (zD4 X_67.2.1) fun y16=>
 .frc (w64 (X_66.2*y16)) fun vs17=>.ret (.inl ((a15,vs17))))<|.ret (.inr ((X_66.1,X_66.2)))) (mb 38 35) [] (fun s o13 γ=>s.pc (mb 38 35) [] [(0,I o13.1),(5,I o13.2)] []) fun o13=>
 .dn<|.joinC (.n0 dvN<|.selB (eqI (Int.tmod o13.1 4) 3) true [.z dvN] fun w_64=>.ret w_64) (mb 38 1073741859) [] (fun s q_65 γ=>s.pc (mb 38 1073741859) [] [(30,Bo (bif q_65 then (eqI (Int.tmod X_67.2.1 4) 3) else false))] []) fun q_65=>
 .lt (bif q_65 then (eqI (Int.tmod X_67.2.1 4) 3) else false) fun t19=>.cond t19 (
 .frc (w64 (0 - o13.2)) fun vs21=>
 .op0 (remF .i64 X_67.2.1 o13.1) fun z22=>
 .frc (Int.tmod X_67.2.1 o13.1) fun a23=>.ret (.inl ((a23,o13.1,vs21))))<|
 .op0 (remF .i64 X_67.2.1 o13.1) fun z24=>
 .frc (Int.tmod X_67.2.1 o13.1) fun a25=>.ret (.inl ((a25,o13.1,o13.2))))<|.ret (.inr ((X_67.2.1,X_67.2.2)))) (mb 38 34) [] (fun s o8 γ=>s.pc (mb 38 34) [] [(1,I o8.1),(5,I o8.2)] []) fun o8=>
 .cond (!eqI o8.1 1) (
 .ret 0)<|
 .ret o8.2
theorem zOY{a1:Int}{vn2:Int}{r:Int}(h:zF0 a1 vn2=some r):zF zt 120 [I a1,I vn2] (I r) []:=CtT (zON a1 vn2) (fun r=>(I r,[])) (rs:=[.t 4]) (vs:=[.tmp 4]) Tryz.func120 rfl rfl (.cons rfl FitsL.nil) h
def zOi(a1:Int)(vn2:Int):=fC zNb (zF0 a1 vn2) fun _=>zOY
theorem zFw:CfW zt 103:=cfW Tryz.func103
noncomputable def zGG(x1:(Int×Int))(vn2:Int):T zt Int:=
 .cond (eqI x1.1 1) (.op1 (zOi vn2 x1.2) fun y4=>
 .ret y4)<|.n0 dvN<|
 .cond (eqI (Int.tmod vn2 2) 0) (
 .ret 0)<|.op1 (zCE vn2 4) fun y6=>
 .frc (w64 (2 - y6)) fun delta7=>
 .cond (eqI x1.1 2) (
 .ret delta7)<|
 .cond (eqI x1.1 3) (.op1 (zD4 vn2) fun y10=>
 .ret y10)<|.op1 (zD4 vn2) fun y11=>
 .frc (w64 (delta7*y11)) fun t12=>.ret t12
theorem zGL{x1:(Int×Int)}{vn2:Int}{r:Int}(h:zCX x1 vn2=some r):zF zt 103 [.ag [Ti x1.1,Ti x1.2],I vn2] (I r) []:=CtT (zGG x1 vn2) (fun r=>(I r,[])) (rs:=[.t 4]) (vs:=[.tmp 4]) Tryz.func103 rfl rfl (.cons rfl FitsL.nil) h
def zG4(x1:(Int×Int))(vn2:Int):=fC zFw (zCX x1 vn2) fun _=>zGL
theorem zK3:CfW zt 88:=cfW Tryz.func88
noncomputable def zLE(d1:Int)(vn2:Int):T zt (List Int):=
 .n1 (nilN 3 1 (by decide))<|
 .n1 bsl0<|
 .op1 (zLs d1) fun y3=>.n0 (lenM ct98 y3)<|
 .loop (fun n X_1=>zDX vn2 y3 n X_1.1 X_1.2) ((0,([]:List Int))) (mb 24 7202) [80,64] (fun s X_1 γ=>s.pc (mb 24 7202) [80,64] [(12,I X_1.1)] [(64,.arr 3 1 (X_1.2.map c3))]) (fun X_1=>
 .cond (ltI X_1.1 ((y3.length:Int))) (.op0 (zBO ct98 y3 X_1.1) fun e9=>.op0 (ldo ct98 y3 X_1.1) fun e10=>
 .op1 (zG4 e10 vn2) fun y11=>.n1 bsl<|.opx (app ct3 X_1.2 ([y11])) fun u12=>
 .frc (w64 (X_1.1+1)) fun t13=>.ret (.inl ((t13,X_1.2++([y11])))))<|.ret (.inr X_1.2)) (mb 24 32) [64] (fun s o7 γ=>s.pc (mb 24 32) [64] [] [(64,.arr 3 1 (o7.map c3))]) fun o7=>
 .ret o7
theorem zLU{d1:Int}{vn2:Int}{r:List Int}(h:zEX d1 vn2=some r):zF zt 88 [I d1,I vn2] (.ow 0) [(0,.arr 3 1 (r.map c3))]:=CtT (zLE d1 vn2) (fun r=>(.ow 0,[(0,.arr 3 1 (r.map c3))])) (rs:=[.t 4]) (vs:=[.tmp 4]) Tryz.func88 rfl rfl (.cons rfl FitsL.nil) h
def zLq(d1:Int)(vn2:Int):=fC zK3 (zEX d1 vn2) fun _=>zLU
theorem zHt:CfW zt 67:=cfW Tryz.func67
noncomputable def zII(f1:(Int×Int×Int)):T zt (List Int):=
 .n1 (nilN 3 1 (by decide))<|
 .op1 (zDs f1) fun y2=>
 .op1 (zGC y2) fun y3=>
 .op1 (zFU y2 (w64 (2*y3))) fun y4=>
 .op1 (zDt y2 y4.1 y4.2) fun y5=>.op1 (zLq y3 y5) fun y6=>
 .ret y6
theorem zIS{f1:(Int×Int×Int)}{r:List Int}(h:qH f1=some r):zF zt 67 [.ag [Ti f1.1,Ti f1.2.1,Ti f1.2.2]] (.ow 0) [(0,.arr 3 1 (r.map c3))]:=CtT (zII f1) (fun r=>(.ow 0,[(0,.arr 3 1 (r.map c3))])) (rs:=[.t 2]) (vs:=[.tmp 2]) Tryz.func67 rfl rfl (.cons rfl FitsL.nil) h
def zFA(f1:(Int×Int×Int)):=fC zHt (qH f1) fun _=>zIS
theorem zJV:CfW zt 66:=cfW Tryz.func66
noncomputable def zJo(d1:Int)(values2:List Int):T zt (List (Int×Int×Int)):=
 .n1 (nilN 73 3 (by decide))<|
 .n1 bsl0<|
 .op1 (jF d1) fun y3=>.n0 (lenM ct73 y3)<|
 .loop (fun n X_1=>zAh values2 y3 n X_1.1 X_1.2) ((0,([]:List (Int×Int×Int)))) (mb 26 7202) [80,64] (fun s X_1 γ=>s.pc (mb 26 7202) [80,64] [(12,I X_1.1)] [(64,.arr 73 3 (X_1.2.map c73))]) (fun X_1=>
 .cond (ltI X_1.1 ((y3.length:Int))) (.op0 (zBO ct73 y3 X_1.1) fun e9=>.op0 (ldo ct73 y3 X_1.1) fun e10=>
 .op1 (zFA e10) fun y11=>.op1 (zJ7 y11 values2) fun y12=>
 .cond y12 (.n1 bsl<|.opx (app ct73 X_1.2 ([e10])) fun u14=>
 .frc (w64 (X_1.1+1)) fun t15=>.ret (.inl ((t15,X_1.2++([e10])))))<|
 .frc (w64 (X_1.1+1)) fun t16=>.ret (.inl ((t16,X_1.2))))<|.ret (.inr X_1.2)) (mb 26 32) [64] (fun s o7 γ=>s.pc (mb 26 32) [64] [] [(64,.arr 73 3 (o7.map c73))]) fun o7=>
 .ret o7
theorem zJy{d1:Int}{values2:List Int}{r:List (Int×Int×Int)}(h:zCK d1 values2=some r):zF zt 66 [I d1,.c (.sl (values2.map c3))] (.ow 0) [(0,.arr 73 3 (r.map c73))]:=CtT (zJo d1 values2) (fun r=>(.ow 0,[(0,.arr 73 3 (r.map c73))])) (rs:=[.t 4]) (vs:=[.tmp 4]) Tryz.func66 rfl rfl (.cons rfl FitsL.nil) h
def zKc(d1:Int)(values2:List Int):=fCs zJV (zCK d1 values2) (fun _=>zJy) fun _=>(zD2 (fun _=>rfl) rfl)
theorem zNc:CfW zt 46:=cfW Tryz.func46
noncomputable def zOO(d1:Int):T zt (List (List (Int×Int×Int))):=
 .n1 (nilN 50 1 (by decide))<|
 .n1 bsl0<|
 .op1 (jF d1) fun y2=>.n0 (lenM ct73 y2)<|
 .loop (fun n X_1=>zBY d1 y2 n X_1.1 X_1.2) ((0,([]:List (List (Int×Int×Int))))) (mb 30 3593) [72,56] (fun s X_1 γ=>s.pc (mb 30 3593) [72,56] [(11,I X_1.1)] [(56,.arr 50 1 (X_1.2.map c50))]) (fun X_1=>
 .cond (ltI X_1.1 ((y2.length:Int))) (.op0 (zBO ct73 y2 X_1.1) fun e8=>.op0 (ldo ct73 y2 X_1.1) fun e9=>
 .op1 (zFA e9) fun y10=>.op1 (zKc d1 y10) fun y11=>
 .draw 5 []<|.op0 (zBO ct73 y11 0) fun e12=>.op0 (ldo ct73 y11 0) fun e13=>.n0 (eqg3 zXW)<|
 .lt (((e13.1==e9.1)&&((e13.2.1==e9.2.1)&&(e13.2.2==e9.2.2)))) fun t14=>.cond t14 (.hint (frzH 144)<|.n1 bsl<|.opx (app ct50 X_1.2 ([y11])) fun u16=>
 .frc (w64 (X_1.1+1)) fun t17=>.ret (.inl ((t17,X_1.2++([y11])))))<|
 .frc (w64 (X_1.1+1)) fun t18=>.ret (.inl ((t18,X_1.2))))<|.ret (.inr X_1.2)) (mb 30 8) [56] (fun s o6 γ=>s.pc (mb 30 8) [56] [] [(56,.arr 50 1 (o6.map c50))]) fun o6=>
 .ret o6
theorem zOZ{d1:Int}{r:List (List (Int×Int×Int))}(h:zEO d1=some r):zF zt 46 [I d1] (.ow 0) [(0,.arr 50 1 (r.map c50))]:=CtT (zOO d1) (fun r=>(.ow 0,[(0,.arr 50 1 (r.map c50))])) (rs:=[.t 2]) (vs:=[.tmp 2]) Tryz.func46 rfl rfl (.cons rfl FitsL.nil) h
def zOj(d1:Int):=fC zNc (zEO d1) fun _=>zOZ
theorem zF5:CfW zt 45:=cfW Tryz.func45
noncomputable def zFd(d1:Int):T zt Bool:=
 .op1 (zOj d1) fun y2=>.n0 (lenM ct50 y2)<|.op1 (jF d1) fun y3=>.n0 (lenM ct73 y3)<|
 .ret (eqI ((y2.length:Int)) ((y3.length:Int)))
theorem zFk{d1:Int}{r:Bool}(h:zBN d1=some r):zF zt 45 [I d1] (Bo r) []:=CtT (zFd d1) (fun r=>(Bo r,[])) (rs:=[.t 2]) (vs:=[.tmp 2]) Tryz.func45 rfl rfl (.cons rfl FitsL.nil) h
theorem zGY:∀args w,(callFunc 19 args).run zt w=.ok (.enter 19 args) w:=jM Tryz.func19 kk kk
set_option maxRecDepth 100000 in
set_option maxHeartbeats 400000 in
theorem zGk{lo1:Int}{hi2:Int}{r:((List Int)×Bool)}(h:jJ lo1 hi2=some r):zF zt 19 [I lo1,I hi2] (.tc (.ow 0) (.tc (Bo r.2) .tn)) [(0,.arr 3 1 (r.1.map c3))]:=by
  refine qP (rs:=[.t 4,.t 5]) (vs:=[.tmp 4,.tmp 5]) Tryz.func19 rfl rfl (.cons rfl (.cons rfl FitsL.nil)) (by decide) 14 rfl ?_
  unfold jJ at h;show V _ _ ⟨I lo1::I hi2::bt 12 [],[]⟩ _;refine zO (mb 14 3) [] (s1:=⟨I lo1::I hi2::bt 12 [],[]⟩) ?_ ?_
  ·refine L1 rfl rfl (zEx (e:=3) 1 (by decide) (.inl rfl)) ?_
   refine L0 rfl rfl (zE (Bo false) rfl kk) ?_
   refine zC ?_
   kernel_rfl
  refine zAS ?_
  obtain⟨y3,hy3,h⟩:=zI h;refine zO (mb 14 515) [] (s1:=⟨I lo1::I hi2::bt 7 (Bo (!y3)::bt 4 []),[]⟩) ?_ ?_
  ·refine L0 rfl rfl (zD (I lo1) rfl kk) ?_
   refine L0 rfl rfl (zD (I hi2) rfl kk) ?_
   refine L1 rfl rfl (zBz (zHB hy3) zG7 rfl kk) ?_
   refine L0 rfl rfl (zS9 (b:=y3) rfl kk) ?_
   refine zC ?_
   kernel_rfl
  refine zCQ rfl (fun hc4=>?_) (fun hc4=>?_)
  ·have h:=zBw h hc4;refine zO (mb 14 48) [80] (s1:=⟨bt 4 (.ow 80::Bo false::bt 8 []),[(80,.arr 3 1 ((([]:List Int)).map c3))]⟩) ?_ ?_
   ·refine L1 rfl rfl (zCq Tryz.underlying24 sz3 (by decide) rfl rfl) ?_
    refine L0 rfl rfl (zE (.ow 80) rfl kk) ?_
    refine L0 rfl rfl (zE (Bo false) rfl kk) ?_
    refine zC ?_
    kernel_rfl
   refine zEU ?_
   obtain rfl:=qB h;show Post _ _ _ _ _;exact⟨.inr rfl,rfl,rfl,rfl⟩
  ·have h:=zBE h hc4;refine zCa ?_
   show V _ _ _ _;obtain⟨y5,hy5,h⟩:=zI h;refine zO (mb 14 48) [104] (s1:=⟨bt 4 (.ow 104::Bo true::bt 8 []),[(104,.arr 3 1 (y5.map c3))]⟩) ?_ ?_
   ·refine L0 rfl rfl (zD (I lo1) rfl kk) ?_
    refine L0 rfl rfl (zD (I hi2) rfl kk) ?_
    refine L1 rfl rfl (zBz (zPQ (k:=45) [I lo1,I hi2] [] (zED (fso3:=45) (cso3:=[]) zF5 (fun hh=>zFk hh) hy5)) zDo rfl kk) ?_
    refine L0 rfl rfl (zE (.ow 104) rfl kk) ?_
    refine L0 rfl rfl (zE (Bo true) rfl kk) ?_
    refine zC ?_
    kernel_rfl
   refine zEU ?_
   obtain rfl:=qB h;show Post _ _ _ _ _;exact⟨.inr rfl,rfl,rfl,rfl⟩
def zGs(lo1:Int)(hi2:Int):=fC zGY (jJ lo1 hi2) fun _=>zGk
theorem zLa:CfW zt 91:=cfW Tryz.func91
noncomputable def zMX(f1:(Int×Int×Int)):T zt Int:=
 .op1 (zDN f1) fun y2=>
 .loopS (fun n X_1028=>zDf f1 y2 n X_1028) 1 (mb 42 26) [8] (fun s X_1028 γ=>s.pc (mb 42 26) [8] [(4,I X_1028)] []) (fun X_1028=>
 .loopS (fun n X_1027=>zDe f1 X_1028 y2 n X_1027) 0 (mb 42 58) [8] (fun s X_1027 γ=>s.pc (mb 42 58) [8] [(5,I X_1027)] []) (fun X_1027=>
 .cond (leI X_1027 X_1028) (
 .loopS (fun n X_1026=>zDW f1 X_1028 X_1027 y2 n X_1026) 0 (mb 42 122) [8] (fun s X_1026 γ=>s.pc (mb 42 122) [8] [(6,I X_1026)] []) (fun X_1026=>
 .cond (leI X_1026 X_1028) (.op1 (zCs f1 X_1027 X_1026) fun y14=>
 .joinC (.selB (eqI X_1027 X_1028) false [] fun w_1024=>.seqT (.cond (bif w_1024 then true else (eqI X_1026 X_1028)) (.op1 (zCZ y14 (w64 (2*y2))) fun y17=>.ret (eqI y17 1)) (.ret false)) fun b18=>.ret (w_1024,b18)) (mb 42 1099511628026) [8] (fun s q_1025 γ=>s.pc (mb 42 1099511628026) [8] [(40,Bo q_1025.2)] []) fun q_1025=>
 .cond q_1025.2 (
 .ret (.early y14))<|
 .frc (w64 (X_1026+1)) fun y20=>.ret (.again y20))<|.ret (.done (()))) (mb 42 58) [8] (fun s o12 γ=>s.pc (mb 42 58) [8] [] []) (.early) fun o12=>
 .frc (w64 (X_1027+1)) fun x21=>.ret (.again x21))<|.ret (.done (()))) (mb 42 26) [8] (fun s o8 γ=>s.pc (mb 42 26) [8] [] []) (.early) fun o8=>
 .frc (w64 (X_1028+1)) fun vr22=>.ret (.again vr22)) [] [] (fun _ _ _=>⟨[],[]⟩) (fun r=>r) fun _=>.fail
theorem zMl{f1:(Int×Int×Int)}{r:Int}(h:zEi f1=some r):zF zt 91 [.ag [Ti f1.1,Ti f1.2.1,Ti f1.2.2]] (I r) []:=CtT (zMX f1) (fun r=>(I r,[])) (rs:=[.t 2]) (vs:=[.tmp 2]) Tryz.func91 rfl rfl (.cons rfl FitsL.nil) h
def zNz(f1:(Int×Int×Int)):=fC zLa (zEi f1) fun _=>zMl
theorem zOc:CfW zt 104:=cfW Tryz.func104
noncomputable def zP4(d1:Int):T zt (List (Int×Int)):=
 .n1 (nilN 98 2 (by decide))<|
 .n1 (nilN 98 2 (by decide))<|
 .op1 (zG9 (w64 (0 - d1))) fun y2=>.n0 (lenM ct3 y2)<|
 .loop (fun n X_6=>zDR d1 y2 n X_6.1 X_6.2) ((0,([]:List (Int×Int)))) (mb 69 3593) [24] (fun s X_6 γ=>s.pc (mb 69 3593) [24] [(11,I X_6.1)] [(24,.arr 98 2 (X_6.2.map c98))]) (fun X_6=>
 .cond (ltI X_6.1 ((y2.length:Int))) (.op0 (idxM ct3 y2 X_6.1) fun e8=>
 .cond (ltI 2 e8) (.n0 (bld pl98 bt98)<|.n1 bsl<|.opx (app ct98 X_6.2 ([(1,e8)])) fun u10=>
 .frc (w64 (X_6.1+1)) fun t11=>.ret (.inl ((t11,X_6.2++([(1,e8)])))))<|
 .frc (w64 (X_6.1+1)) fun t12=>.ret (.inl ((t12,X_6.2))))<|.ret (.inr X_6.2)) (mb 69 9) [24] (fun s o6 γ=>s.pc (mb 69 9) [24] [] [(24,.arr 98 2 (o6.map c98))]) fun o6=>
 .n0 dvN<|
 .cond (!eqI (Int.tmod d1 2) 0) (
 .ret o6)<|.n0 dvN<|
 .frc (w64 (Int.tdiv (w64 (0 - d1)) 4)) fun vn14=>.n0 dvN<|
 .cond (eqI (Int.tmod vn14 4) 3) (
 .ret o6)<|.joinC (.n0 dvN<|.selB (eqI (Int.tmod vn14 4) 1) false [.z dvN] fun w_4=>.ret w_4) (mb 69 34359738440) [24] (fun s q_5 γ=>s.pc (mb 69 34359738440) [24] [(35,Bo (bif q_5 then true else (eqI (Int.tmod vn14 8) 4)))] []) fun q_5=>
 .lt (bif q_5 then true else (eqI (Int.tmod vn14 8) 4)) fun t17=>.cond t17 (.n0 (bld pl98 bt98)<|.n1 bsl<|.opx (app ct98 o6 ([(2,0)])) fun u19=>
 .ret (o6++([(2,0)])))<|.n0 dvN<|
 .cond (eqI (Int.tmod vn14 8) 2) (.n0 (bld pl98 bt98)<|.n1 bsl<|.opx (app ct98 o6 ([(4,0)])) fun u21=>
 .ret (o6++([(4,0)])))<|.n0 dvN<|
 .cond (eqI (Int.tmod vn14 8) 6) (.n0 (bld pl98 bt98)<|.n1 bsl<|.opx (app ct98 o6 ([(3,0)])) fun u23=>
 .ret (o6++([(3,0)])))<|.n0 (bld pl98 bt98)<|.n0 (bld pl98 bt98)<|.n1 bsl<|.opx (app ct98 o6 ([(2,0),(3,0)])) fun u24=>
 .ret (o6++([(2,0),(3,0)]))
theorem zPj{d1:Int}{r:List (Int×Int)}(h:zGQ d1=some r):zF zt 104 [I d1] (.ow 0) [(0,.arr 98 2 (r.map c98))]:=CtT (zP4 d1) (fun r=>(.ow 0,[(0,.arr 98 2 (r.map c98))])) (rs:=[.t 2]) (vs:=[.tmp 2]) Tryz.func104 rfl rfl (.cons rfl FitsL.nil) h
def zQg(d1:Int):=fC zOc (zGQ d1) fun _=>zPj
theorem zO3:CfW zt 132:=cfW Tryz.func132
noncomputable def zPV(vs1:(Int×Int×Int)):T zt Bool:=
 .pl<|.joinC (.selB (eqI vs1.1 0) false [] fun w_2=>.ret w_2) (mb 11 4) [] (fun s q_3 γ=>s.pc (mb 11 4) [] [(2,Bo (bif q_3 then true else (eqI vs1.1 1)))] []) fun q_3=>
 .ret (bif q_3 then true else (eqI vs1.1 1))
theorem zPa{vs1:(Int×Int×Int)}{r:Bool}(h:zGO vs1=some r):zF zt 132 [.ag [Ti vs1.1,Ti vs1.2.1,Ti vs1.2.2]] (Bo r) []:=CtT (zPV vs1) (fun r=>(Bo r,[])) (rs:=[.t 2]) (vs:=[.tmp 2]) Tryz.func132 rfl rfl (.cons rfl FitsL.nil) h
def zQb(vs1:(Int×Int×Int)):=fC zO3 (zGO vs1) fun _=>zPa
theorem zO2:CfW zt 123:=cfW Tryz.func123
noncomputable def zPU(a1:Int):T zt Int:=
 .op1 (zAR a1 8) fun y2=>
 .cond (eqI y2 1) (.cond (eqI y2 1) (
 .ret 1)<|
 .cond (eqI y2 3) (.cond (eqI y2 3) (
 .ret (-1))<|
 .ret 0)<|
 .cond (eqI y2 5) (
 .ret (-1))<|
 .ret 0)<|
 .cond (eqI y2 7) (
 .ret 1)<|
 .cond (eqI y2 3) (.cond (eqI y2 3) (
 .ret (-1))<|
 .ret 0)<|
 .cond (eqI y2 5) (
 .ret (-1))<|
 .ret 0
theorem zP9{a1:Int}{r:Int}(h:zE7 a1=some r):zF zt 123 [I a1] (I r) []:=CtT (zPU a1) (fun r=>(I r,[])) (rs:=[.t 2]) (vs:=[.tmp 2]) Tryz.func123 rfl rfl (.cons rfl FitsL.nil) h
def zJb(a1:Int):=fC zO2 (zE7 a1) fun _=>zP9
theorem zHp:CfW zt 133:=cfW Tryz.func133
noncomputable def zIE(vs1:(Int×Int×Int)):T zt ((Int×Int×Int)):=
 .op1 (zFT vs1.1 0 (w64 (vs1.2.1 - 1))) fun y2=>
 .cond (!y2) (.op1 (zAR vs1.1 vs1.2.1) fun y4=>
 .ret ((y4,vs1.2.1,vs1.2.2)))<|.n0 dvN<|
 .cond (eqI (Int.tmod vs1.1 2) 0) (.n0 dvN<|
 .frc (w64 (Int.tdiv vs1.1 2)) fun f6=>.draw 7 []<|.op1 (zJb vs1.2.1) fun y7=>
 .frc (w64 (vs1.2.2*y7)) fun f8=>
 .ret ((f6,vs1.2.1,f8)))<|.join (.joinC (.n0 dvN<|.selB (eqI (Int.tmod vs1.1 4) 3) true [.z dvN] fun w_8=>.ret w_8) (mb 56 8198) [16,8] (fun s q_9 γ=>s.pc (mb 56 8198) [16,8] [(13,Bo (bif q_9 then (eqI (Int.tmod vs1.2.1 4) 3) else false))] []) fun q_9=>
 .lt (bif q_9 then (eqI (Int.tmod vs1.2.1 4) 3) else false) fun t11=>.cond t11 (
 .frc (w64 (0 - vs1.2.2)) fun f13=>.ret f13)<|.ret vs1.2.2) (mb 56 6) [16,8] (fun s j9 γ=>s.pc (mb 56 6) [16,8] [] [(8,.box [Ti vs1.1,Ti vs1.2.1,Ti j9])]) fun j9=>
 .ret ((vs1.2.1,vs1.1,j9))
theorem zIO{vs1:(Int×Int×Int)}{r:(Int×Int×Int)}(h:zDT vs1=some r):zF zt 133 [.ag [Ti vs1.1,Ti vs1.2.1,Ti vs1.2.2]] (.ag [Ti r.1,Ti r.2.1,Ti r.2.2]) []:=CtT (zIE vs1) (fun r=>(.ag [Ti r.1,Ti r.2.1,Ti r.2.2],[])) (rs:=[.w 2 3]) (vs:=[.cell 2 120]) Tryz.func133 rfl rfl (.cons ⟨rfl,wd120⟩ FitsL.nil) h
def zId(vs1:(Int×Int×Int)):=fC zHp (zDT vs1) fun _=>zIO
theorem zKR:CfW zt 122:=cfW Tryz.func122
noncomputable def zKu(a1:Int)(vn2:Int):T zt Int:=
 .n0 (bld zXO bt120)<|
 .loop (fun n X_6=>zDU n X_6.1 X_6.2.1 X_6.2.2) ((a1,vn2,1)) (mb 24 32) [40] (fun s X_6 γ=>s.pc (mb 24 32) [40] [] [(40,.box [Ti X_6.1,Ti X_6.2.1,Ti X_6.2.2])]) (fun X_6=>
 .op1 (zQb ((X_6.1,X_6.2.1,X_6.2.2))) fun y8=>
 .cond (!y8) (.op1 (zId ((X_6.1,X_6.2.1,X_6.2.2))) fun y10=>
 .ret (.inl ((y10.1,y10.2.1,y10.2.2))))<|.ret (.inr ((X_6.1,X_6.2.1,X_6.2.2)))) (mb 24 32) [40] (fun s o7 γ=>s.pc (mb 24 32) [40] [] [(40,.box [Ti o7.1,Ti o7.2.1,Ti o7.2.2])]) fun o7=>
 .dn<|.joinC (.selB (eqI o7.1 0) true [] fun w_4=>.ret w_4) (mb 24 2097184) [40] (fun s q_5 γ=>s.pc (mb 24 2097184) [40] [(21,Bo (bif q_5 then (ltI 1 o7.2.1) else false))] []) fun q_5=>
 .cond (bif q_5 then (ltI 1 o7.2.1) else false) (
 .ret 0)<|
 .ret o7.2.2
theorem zLJ{a1:Int}{vn2:Int}{r:Int}(h:zEV a1 vn2=some r):zF zt 122 [I a1,I vn2] (I r) []:=CtT (zKu a1 vn2) (fun r=>(I r,[])) (rs:=[.t 4]) (vs:=[.tmp 4]) Tryz.func122 rfl rfl (.cons rfl FitsL.nil) h
def zLj(a1:Int)(vn2:Int):=fC zKR (zEV a1 vn2) fun _=>zLJ
theorem zQV:CfW zt 105:=cfW Tryz.func105
noncomputable def zQq(x1:(Int×Int))(vn2:Int):T zt Int:=
 .cond (eqI x1.1 1) (.op1 (zLj vn2 x1.2) fun y4=>
 .ret y4)<|.n0 dvN<|
 .cond (eqI (Int.tmod vn2 2) 0) (
 .ret 0)<|.op1 (zAR vn2 4) fun y6=>.op1 (zJb vn2) fun y7=>
 .frc (w64 (2 - y6)) fun delta8=>
 .cond (eqI x1.1 2) (
 .ret delta8)<|
 .cond (eqI x1.1 3) (
 .ret y7)<|
 .frc (w64 (delta8*y7)) fun t11=>.ret t11
theorem zQz{x1:(Int×Int)}{vn2:Int}{r:Int}(h:zHH x1 vn2=some r):zF zt 105 [.ag [Ti x1.1,Ti x1.2],I vn2] (I r) []:=CtT (zQq x1 vn2) (fun r=>(I r,[])) (rs:=[.t 4]) (vs:=[.tmp 4]) Tryz.func105 rfl rfl (.cons rfl FitsL.nil) h
def zRj(x1:(Int×Int))(vn2:Int):=fC zQV (zHH x1 vn2) fun _=>zQz
theorem zN9:CfW zt 90:=cfW Tryz.func90
noncomputable def zOL(d1:Int)(vn2:Int):T zt (List Int):=
 .n1 (nilN 3 1 (by decide))<|
 .n1 (nilN 3 1 (by decide))<|
 .op1 (zQg d1) fun y3=>.n0 (lenM ct98 y3)<|
 .loop (fun n X_1=>zEH vn2 y3 n X_1.1 X_1.2) ((0,([]:List Int))) (mb 23 3618) [72,40] (fun s X_1 γ=>s.pc (mb 23 3618) [72,40] [(11,I X_1.1)] [(40,.arr 3 1 (X_1.2.map c3))]) (fun X_1=>
 .cond (ltI X_1.1 ((y3.length:Int))) (.op0 (zBO ct98 y3 X_1.1) fun e9=>.op0 (ldo ct98 y3 X_1.1) fun e10=>
 .op1 (zRj e10 vn2) fun y11=>.n1 bsl<|.opx (app ct3 X_1.2 ([y11])) fun u12=>
 .frc (w64 (X_1.1+1)) fun t13=>.ret (.inl ((t13,X_1.2++([y11])))))<|.ret (.inr X_1.2)) (mb 23 32) [40] (fun s o7 γ=>s.pc (mb 23 32) [40] [] [(40,.arr 3 1 (o7.map c3))]) fun o7=>
 .ret o7
theorem zOW{d1:Int}{vn2:Int}{r:List Int}(h:zFZ d1 vn2=some r):zF zt 90 [I d1,I vn2] (.ow 0) [(0,.arr 3 1 (r.map c3))]:=CtT (zOL d1 vn2) (fun r=>(.ow 0,[(0,.arr 3 1 (r.map c3))])) (rs:=[.t 4]) (vs:=[.tmp 4]) Tryz.func90 rfl rfl (.cons rfl FitsL.nil) h
def zOg(d1:Int)(vn2:Int):=fC zN9 (zFZ d1 vn2) fun _=>zOW
theorem zQU:CfW zt 68:=cfW Tryz.func68
noncomputable def zQp(f1:(Int×Int×Int)):T zt (List Int):=
 .n1 (nilN 3 1 (by decide))<|
 .draw 7 []<|.op1 (zDN f1) fun y2=>.op1 (zHX f1) fun y3=>.op1 (zNz y3) fun y4=>.op1 (zOg y2 y4) fun y5=>
 .ret y5
theorem zQy{f1:(Int×Int×Int)}{r:List Int}(h:zAz f1=some r):zF zt 68 [.ag [Ti f1.1,Ti f1.2.1,Ti f1.2.2]] (.ow 0) [(0,.arr 3 1 (r.map c3))]:=CtT (zQp f1) (fun r=>(.ow 0,[(0,.arr 3 1 (r.map c3))])) (rs:=[.t 2]) (vs:=[.tmp 2]) Tryz.func68 rfl rfl (.cons rfl FitsL.nil) h
def zKt(f1:(Int×Int×Int)):=fC zQU (zAz f1) fun _=>zQy
theorem zKZ:CfW zt 47:=cfW Tryz.func47
def chS(l:List (Int×Int×Int))(i:Int)(els:List (List Tr))(ts:List (Nat×AV))(es:List (Nat×Ent)):St:=⟨mkT 51 ([(3,.ow 24),(10,.ow 80),(11,I (l.length:Int)),(12,I i)]++ts) 0,[(24,.arr 50 1 els),(80,.arr 73 3 (l.map c73))]++es⟩
def chB(f:(Int×Int×Int)):List (Nat×Ent):=[(40,.box (c73 f))]
def chF(l:List (Int×Int×Int))(i:Int)(f:(Int×Int×Int))(v:Value)(ts:List (Nat×AV)):St:=⟨mkT 51 ([(3,.c (.v v)),(5,.pt 40 0),(10,.ow 80),(11,I (l.length:Int)),(12,I i)]++ts) 0,[(80,.arr 73 3 (l.map c73)),(40,.box (c73 f))]⟩
def chX(x:List (List (Int×Int×Int))):List (List (List Tr)):=x.map fun e=>e.map c73
noncomputable def chL(x:List (List (Int×Int×Int)))(f:(Int×Int×Int)):T zt Int:=
 .loop (fun n X_1=>zAT x f n X_1.1 X_1.2) ((-1,0)) (mb 51 466024) [80,40] (fun s X_1 γ=>s.pc (mb 51 466024) [80,40] [(6,I X_1.1),(18,I X_1.2)] []) (fun X_1=>
 .cond (ltI X_1.2 ((x.length:Int))) (.op0 (idxM ct50 x X_1.2) fun e11=>
 .draw 7 []<|.op0 (idxM ct73 e11 0) fun e12=>.op1 (zKt e12) fun y13=>.op1 (zKt f) fun y14=>.op1 (zIA y13 y14) fun y15=>
 .cond y15 (
 .frc (w64 (X_1.2+1)) fun t17=>.ret (.inl ((X_1.2,t17))))<|
 .frc (w64 (X_1.2+1)) fun t18=>.ret (.inl ((X_1.1,t18))))<|.ret (.inr X_1.1)) (mb 51 7272) [80,40] (fun s o9 γ=>s.pc (mb 51 7272) [80,40] [(6,I o9)] []) fun o9=>
 .ret o9
noncomputable def chU(L:List Loc)(m:Int)(l:Loc)(e:List (Int×Int×Int))(f:(Int×Int×Int)):T zt Unit:=
 .drawM false 9 [1,2,3,4,5,6,7,8,9,10,11,12,13,14,15,28,29,30,31,60,61,62,63,64,65,66,67,68,69,70,71,72,73,74,75,76,77,78,79,92,93,94,95,124,125,126,127,192,193,194,195,196,197,198,199,200,201,202,203,204,205,206,207,220,221,222,223,252,253,254,255,508,509,510,511] [1,1,1,1,0,0,1,0,0,0,0]<|.op0 (idxW L m l) fun _=>.op0 (ldW L m l) fun _=>.n1 bsl<|.late (zX2 44 90000)<|.opx (app ct73 e [f]) fun _=>.late (pinH 47 90000)<|.op0 (idxW L m l) fun _=>.opx (stoW L m l 90000) fun _=>.ret ()
theorem zWh{l:List (Int×Int×Int)}{i:Int}{f:(Int×Int×Int)}{v:Value}{ts:List (Nat×AV)}(k:Nat)(e:Ent)(h:(chF l i f v ts).ent k=some e):k≠24∧zVG e=true:=by
 have h2:List.lookup k [(80,Ent.arr 73 3 (l.map c73)),(40,.box (c73 f))]=some e:=h;clear h;simp only[List.lookup]at h2;split at h2
 ·rename_i hk;have hk:k=80:=by simpa using hk
  injection h2 with h2;subst hk h2;exact⟨by decide,zRV c73 (fun _=>rfl) l⟩
 ·split at h2
  ·rename_i hk;have hk:k=40:=by simpa using hk
   injection h2 with h2;subst hk h2;exact⟨by decide,rfl⟩
  ·cases h2
set_option maxRecDepth 4000 in
theorem zLR{a1:Int}{r:List (List (Int×Int×Int))}(h:zC3 a1=some r):zF zt 47 [I a1] (.ow 0) [(0,.arr 50 1 (r.map c50))]:=by
 obtain⟨l,hl,h⟩:=Option.bind_eq_some_iff.1 h;refine qP (rs:=[.t 2]) (vs:=[.tmp 2]) Tryz.func47 rfl rfl (.cons rfl FitsL.nil) (by decide) 51 rfl ?_
 refine V_sp (VtT (r:=()) (.n1 (nilN 50 1 (by decide))<|.ret ()) (mb 51 1) [] (fun _ _=>⟨mkT 51 [(0,I a1)] 0,[]⟩) rfl) ?_
 refine V_sp (VtT (r:=()) (.n1 (nilN 50 1 (by decide))<|.ret ()) (mb 51 9) [24] (fun _ _=>⟨mkT 51 [(0,I a1),(3,.ow 24)] 0,[(24,.arr 50 1 [])]⟩) rfl) ?_
 refine V_cut (fun s'=>∃i,s'=chS l i (r.map c50) [(13,Bo (ltI i (l.length:Int)))] []) ?_ ?_
 ·refine V_sp (s1:=chS l 0 [] [] []) (VtT (r:=l) (.op1 (zDM a1) fun l=>.n0 (lenM ct73 l)<|.ret l) (mb 51 7176) [24,80] (fun _ l=>chS l 0 [] [] []) (by show (qK a1).bind _=_;rw[hl];rfl)) ?_
  refine zIb (J:=fun e s'=>e=.normal∧∃i,s'=chS l i (r.map c50) [(13,Bo (ltI i (l.length:Int)))] []) ?_ fun e s' hh=>?_
  ·refine zWv (T2:=50) (T:=73) (sz:=3) (oid:=24) ?_
   refine zRh (J':=fun e s' L X=>e=.exit 0∧∃i,s'=chS l i (L.map cLo.c) [(13,Bo (ltI i (l.length:Int)))] []∧X=chX r) ?_ ?_
   ·refine zWz (id:=0) (fun n s L X=>∃i x,s=chS l i (L.map cLo.c) [] []∧X=chX x∧L.length=x.length∧jS l n x i=some r) FU ⟨0,[],rfl,rfl,rfl,h⟩ ?_
    rintro n s L X ⟨i,x,rfl,rfl,hlen,h⟩;cases n with
    |zero=>cases h
    |succ n=>
    have h:(bif ltI i ((l.length:Int)) then _ else _)=_:=h;refine zRf (s1:=chS l i (L.map cLo.c) [(13,Bo (ltI i (l.length:Int)))] []) (VtT (r:=()) (.ret ()) (mb 51 15368) [24,80] (fun _ _=>chS l i (L.map cLo.c) [(13,Bo (ltI i (l.length:Int)))] []) rfl) ?_
    refine zVt (b:=ltI i (l.length:Int)) rfl (fun hb=>?_) fun hb=>?_
    ·rw[hb,cond_true]at h;obtain⟨f,hf,h⟩:=Option.bind_eq_some_iff.1 h;obtain⟨m,hm,h⟩:=Option.bind_eq_some_iff.1 h;refine zSf (M:=fun s' L' X'=>∃x',s'=chS l i (L'.map cLo.c) [] []∧X'=chX x'∧L'.length=x'.length∧(sI (w64 (i+1)) fun j=>jS l n x' j)=some r) (zRh (J':=fun e s' L' X'=>e=.normal∧∃x',s'=chS l i (L'.map cLo.c) [] []∧X'=chX x'∧L'.length=x'.length∧(sI (w64 (i+1)) fun j=>jS l n x' j)=some r) ?_ fun e s' L' X' hh=>⟨.inr hh.1,rfl,hh.2⟩) ?_
     ·refine zRf (s1:=chS l i (L.map cLo.c) [(5,.pt 40 0)] (chB f)) (VtT (r:=f) (.op0 (zBO ct73 l i) fun e=>.op0 (ldo ct73 l i) fun f=>.ret f) (mb 51 7208) [24,80,40] (fun _ f=>chS l i (L.map cLo.c) [(5,.pt 40 0)] (chB f)) (by show (getI l i).bind _=_;rw[hf];show (getI l i).bind _=_;rw[hf];rfl)) ?_
      refine zRf (s1:=chS l i (L.map cLo.c) [(5,.pt 40 0),(6,I (-1))] (chB f)) (VtT (r:=()) (.ret ()) (mb 51 7272) [24,80,40] (fun _ _=>chS l i (L.map cLo.c) [(5,.pt 40 0),(6,I (-1))] (chB f)) rfl) ?_
      refine zSf (M:=fun s' L' X'=>s'=chS l i (L.map cLo.c) [(5,.pt 40 0),(6,I m)] (chB f)∧L'=L∧X'=chX x) ?_ ?_
      ·refine zRf (s1:=chS l i (L.map cLo.c) [(5,.pt 40 0),(6,I (-1)),(16,.ow 24),(17,I (L.length:Int)),(18,I 0)] (chB f)) (VtT (r:=()) (.n0 (lenM cLo L)<|.ret ()) (mb 51 466024) [24,80,40] (fun _ _=>chS l i (L.map cLo.c) [(5,.pt 40 0),(6,I (-1)),(16,.ow 24),(17,I (L.length:Int)),(18,I 0)] (chB f)) rfl) ?_
       rw[show (L.length:Int)=(x.length:Int) from by rw[hlen]];have hX:(chX x).map (fun e=>[Tr.sl e])=x.map c50:=by unfold chX;rw[List.map_map];rfl
       refine zMG (zXA (T2:=50) (oid:=24) (t0:=3) (s1:=chS l i (L.map cLo.c) [(5,.pt 40 0),(6,I m)] (chB f)) (sF:=fun v=>chF l i f v [(6,I (-1)),(16,.c (.sl (x.map c50))),(17,I (x.length:Int)),(18,I 0)]) (sG:=fun v=>chF l i f v [(6,I m)]) (m:=mb 51 7272) (ids:=[80,40]) rfl rfl (fun v=>?_) (fun v=>?_) (fun v=>rfl) (fun v t=>zVE rfl t) (fun v k e=>zWh k e) fun v=>?_) fun e s' L' X' hh=>hh
       ·rw[hX];rfl
       ·exact VtT (r:=m) (chL x f) (mb 51 7272) [80,40] (fun _ m=>chF l i f v [(6,I m)]) (by show (zAT x f FU (-1) 0).bind _=_;rw[hm];rfl)
       ·rfl
      ·rintro s' L' X' ⟨rfl,rfl,rfl⟩;refine zRf (s1:=chS l i (L'.map cLo.c) [(5,.pt 40 0),(6,I m),(33,Bo (ltI m 0))] (chB f)) (VtT (r:=()) (.ret ()) (mb 51 8589941864) [24,80,40] (fun _ _=>chS l i (L'.map cLo.c) [(5,.pt 40 0),(6,I m),(33,Bo (ltI m 0))] (chB f)) rfl) ?_
       refine zXB (b:=ltI m 0) rfl (fun hc=>?_) fun hc=>?_
       ·rw[hc,cond_true]at h;obtain⟨_,hr,h⟩:=Option.bind_eq_some_iff.1 h;rw[←hlen]at hr;refine zMG (zZI (k:=288) (x:=[c73 f]) (m:=mb 51 7176) (ids:=[24,80,288]) (sS:=fun l'=>chS l i ((L'++[l']).map cLo.c) [] [(288,.qarr l' 73 3 [c73 f])]) (s1:=fun l'=>chS l i ((L'++[l']).map cLo.c) [] [])
         (zIb (VtT (r:=()) (.n1 bsl<|.late (pinH 36 288)<|.n1 bsl<|.opx (appV L' 288) fun _=>.ret ()) (mb 51 7176) [24,80,288] (fun s' _=>chS l i ((L'++[s'.locs 288]).map cLo.c) [] [(288,.qarr (s'.locs 288) 73 3 [c73 f])]) (by show (room (L'.length+1)).bind _=_;rw[hr];rfl)) fun e s' hh=>⟨hh.1,_,hh.2⟩) (fun _=>rfl) (fun _=>zVw _ _ _) fun _=>rfl) ?_
        rintro e s' L'' X'' ⟨rfl,l',rfl,rfl,rfl⟩;exact⟨rfl,x++[[f]],rfl,by unfold chX;rw[List.map_append];rfl,by rw[zb,zb,hlen];rfl,h⟩
       ·rw[hc,cond_false]at h;obtain⟨e,he,h⟩:=Option.bind_eq_some_iff.1 h;obtain⟨_,hr,h⟩:=Option.bind_eq_some_iff.1 h;obtain⟨hm0,hxe⟩:=zBl he;have hlt:m.toNat<L'.length:=by rw[hlen];exact (List.getElem?_eq_some_iff.1 hxe).1
        have hlo:L'[m.toNat]?=some L'[m.toNat]:=zl hlt
        generalize L'[m.toNat]=lo at hlo;have hgi:getI L' m=some lo:=by
         unfold getI at he ⊢;cases hq:leI 0 m with
         |false=>rw[hq]at he;cases he
         |true=>exact hlo
        have hset:L'.map cLo.c=(L'.map cLo.c).set m.toNat [.v (zG lo)]:=by rw[show [Tr.v (zG lo)]=cLo.c lo from rfl,←List.map_set];obtain⟨h1,rfl⟩:=List.getElem?_eq_some_iff.1 hlo;rw[List.set_getElem_self]
        rw[hset];refine zMG (zZH (k:=90000) (n:=m.toNat) (l:=lo) (x:=e.map c73) (x':=(e++[f]).map c73) (m:=mb 51 7176) (ids:=[24,80,90000]) (sS:=fun l'=>chS l i ((L'.set m.toNat l').map cLo.c) [] [(90000,.qarr l' 73 3 ((e++[f]).map c73))]) (s1:=fun l'=>chS l i ((L'.set m.toNat l').map cLo.c) [] []) hlo (by unfold chX;rw[List.getElem?_map,hxe];rfl) rfl
         (zIb (VtT (r:=()) (chU L' m lo e f) (mb 51 7176) [24,80,90000] (fun s' _=>chS l i ((L'.set m.toNat (s'.locs 90000)).map cLo.c) [] [(90000,.qarr (s'.locs 90000) 73 3 ((e++[f]).map c73))]) (by show ((getI L' m).bind fun _=>(getI L' m).bind fun _=>(room (e.length+1)).bind fun _=>(getI L' m).bind fun _=>(getI L' m).bind fun _=>some ())=some ();rw[hgi,hr];rfl)) fun e s' hh=>⟨hh.1,_,hh.2⟩) (fun _=>rfl) (fun _=>zVw _ _ _) fun _=>rfl) ?_
        rintro e' s' L'' X'' ⟨rfl,l',rfl,rfl,rfl⟩;exact⟨rfl,x.set m.toNat (e++[f]),rfl,by unfold chX;rw[List.map_set],by rw[List.length_set,List.length_set,hlen],h⟩
     ·rintro s' L' X' ⟨x',rfl,rfl,hl',h⟩;rw[zP]at h;refine zMG (zRg (s1:=chS l (w64 (i+1)) (L'.map cLo.c) [] []) (VtT (r:=w64 (i+1)) (.frc (w64 (i+1)) fun j=>.ret j) (mb 51 7176) [24,80] (fun _ j=>chS l j (L'.map cLo.c) [] []) (by show sI (w64 (i+1)) _=_;rw[zP];rfl))) ?_
      rintro e s'' L'' X'' ⟨rfl,rfl,rfl,rfl⟩;exact .inl ⟨rfl,n,zf n,_,x',rfl,rfl,hl',h⟩
    ·rw[hb,cond_false]at h;injection h with h;subst h;exact .inr ⟨rfl,rfl,i,rfl,rfl⟩
   ·rintro e s' L X ⟨rfl,i,rfl,rfl⟩;have hX:(chX r).map (fun e=>[Tr.sl e])=r.map c50:=by unfold chX;rw[List.map_map];rfl
    refine⟨.inl rfl,rfl,rfl,i,?_⟩;rw[hX];rfl
  ·obtain⟨rfl,hh⟩:=hh;exact hh
 ·rintro s' ⟨i,rfl⟩;refine zAU 100000 (.ret r) [] _ _ (KF [.t 2] fun r:List (List (Int×Int×Int))=>(.ow 0,[(0,.arr 50 1 (r.map c50))])) (OT.of_rf _ kk) some r rfl _ fun e t' kn' s' hK ht=>zVx hK ht
def zLo(a1:Int):=fC zKZ (zC3 a1) fun _=>zLR
end
noncomputable section
theorem zGV:CfW zt 20:=cfW Tryz.func20
noncomputable def zGc(lo1:Int)(hi2:Int):T zt (((List Int)×Bool)):=
 .n1 (nilN 3 1 (by decide))<|
 .op1 (zHU lo1 hi2) fun y3=>
 .cond (!y3) (.n1 (nilN 3 1 (by decide))<|
 .ret ((([]:List Int),false)))<|.n1 (nilN 3 1 (by decide))<|
 .op1 (zEz lo1 hi2) fun y5=>.n0 (lenM ct3 y5)<|
 .loop (fun n X_1=>jB y5 n X_1.1 X_1.2) ((0,([]:List Int))) (mb 34 229440) [120,48] (fun s X_1 γ=>s.pc (mb 34 229440) [120,48] [(17,I X_1.1)] [(48,.arr 3 1 (X_1.2.map c3))]) (fun X_1=>
 .cond (ltI X_1.1 ((y5.length:Int))) (.op0 (zBO ct3 y5 X_1.1) fun e11=>.op0 (ldo ct3 y5 X_1.1) fun e12=>
 .op1 (zLo e12) fun y13=>.n0 (lenM ct50 y13)<|.op1 (zDM e12) fun y14=>.n0 (lenM ct73 y14)<|
 .cond (eqI ((y13.length:Int)) ((y14.length:Int))) (.n1 bsl<|.opx (app ct3 X_1.2 ([e12])) fun u16=>
 .frc (w64 (X_1.1+1)) fun t17=>.ret (.inl ((t17,X_1.2++([e12])))))<|
 .frc (w64 (X_1.1+1)) fun t18=>.ret (.inl ((t18,X_1.2))))<|.ret (.inr X_1.2)) (mb 34 64) [48] (fun s o9 γ=>s.pc (mb 34 64) [48] [] [(48,.arr 3 1 (o9.map c3))]) fun o9=>
 .ret ((o9,true))
theorem zGh{lo1:Int}{hi2:Int}{r:((List Int)×Bool)}(h:zAH lo1 hi2=some r):zF zt 20 [I lo1,I hi2] (.tc (.ow 0) (.tc (Bo r.2) .tn)) [(0,.arr 3 1 (r.1.map c3))]:=CtT (zGc lo1 hi2) (fun r=>(.tc (.ow 0) (.tc (Bo r.2) .tn),[(0,.arr 3 1 (r.1.map c3))])) (rs:=[.t 4,.t 5]) (vs:=[.tmp 4,.tmp 5]) Tryz.func20 rfl rfl (.cons rfl (.cons rfl FitsL.nil)) h
def zGq(lo1:Int)(hi2:Int):=fC zGV (zAH lo1 hi2) fun _=>zGh
theorem zJW:∀args w,(callFunc 69 args).run zt w=.ok (.enter 69 args) w:=jM Tryz.func69 kk kk
set_option maxRecDepth 100000 in
set_option maxHeartbeats 400000 in
theorem zJz{d1:Int}{so2:((Int×Int×Int)→Option Bool)}{fso2:FuncId}{cso2:List (List Tr)}(kso2:∀args w,(callFunc fso2 args).run zt w=.ok (.enter fso2 args) w)(hso2:∀{x0:(Int×Int×Int)}{r:Bool},so2 x0=some r→zF zt fso2 ([.ag [Ti x0.1,Ti x0.2.1,Ti x0.2.2]]++cso2.map AV.pe) (Bo r) []){r:List (Int×Int×Int)}(h:zCv d1 so2=some r):zF zt 69 [I d1,.fn fso2 cso2] (.ow 0) [(0,.arr 73 3 (r.map c73))]:=by
  refine qP (rs:=[.t 4]) (vs:=[.tmp 4]) Tryz.func69 rfl rfl (.cons rfl FitsL.nil) (by decide) 25 rfl ?_
  unfold zCv at h;show V _ _ ⟨I d1::.fn fso2 cso2::bt 23 [],[]⟩ _;refine zO (mb 25 3) [] (s1:=⟨I d1::.fn fso2 cso2::bt 23 [],[]⟩) ?_ ?_
  ·refine L1 rfl rfl (zEx (e:=73) 3 (by decide) (.inl rfl)) ?_
   refine zC ?_
   kernel_rfl
  refine zO (mb 25 35) [64] (s1:=⟨I d1::.fn fso2 cso2::bt 3 (.ow 64::bt 19 []),[(64,.arr 73 3 ((([]:List (Int×Int×Int))).map c73))]⟩) ?_ ?_
  ·refine L1 rfl rfl (zCq Tryz.underlying50 sz73 (by decide) rfl rfl) ?_
   refine L0 rfl rfl (zE (.ow 64) rfl kk) ?_
   refine zC ?_
   kernel_rfl
  refine zAS ?_
  obtain⟨y3,hy3,h⟩:=zI h;refine zO (mb 25 7202) [80,64] (s1:=⟨.bot::.fn fso2 cso2::bt 3 (.ow 64::bt 4 (.ow 80::I ((y3.length:Int))::I 0::bt 12 [])),[(80,.arr 73 3 (y3.map c73)),(64,.arr 73 3 ((([]:List (Int×Int×Int))).map c73))]⟩) ?_ ?_
  ·refine L0 rfl rfl (zD (I d1) rfl kk) ?_
   refine L1 rfl rfl (zBz (zCF hy3) zBy rfl kk) ?_
   refine L0 rfl rfl (zDS (c:=c73) (xs:=y3) Tryz.underlying50 rfl kk) ?_
   refine L0 rfl rfl (zD (I 0) rfl kk) ?_
   refine zC ?_
   kernel_rfl
  obtain⟨o7,hLo7,h⟩:=zI h;refine zHT (mb 25 32) [64] (s1:=⟨bt 5 (.ow 64::bt 19 []),[(64,.arr 73 3 (o7.map c73))]⟩) ?_ ?_
  ·clear h;refine zAF (zE0 (fun n s=>∃(t4:Int) (l5:List (Int×Int×Int)),s.keep (mb 25 7202) [80,64]=(⟨.bot::.fn fso2 cso2::bt 3 (.ow 64::bt 4 (.ow 80::I ((y3.length:Int))::I t4::bt 12 [])),[(80,.arr 73 3 (y3.map c73)),(64,.arr 73 3 (l5.map c73))]⟩:St)∧zAA so2 y3 n t4 l5=some o7) FU ⟨_,_,by rfl,hLo7⟩ ?_);clear hLo7;rintro n s ⟨t4,l5,hs,h⟩;refine zF8 _ _ hs ?_
   clear hs;cases n with
   |zero=>cases h
   |succ n=>
    rw[zAA]at h;refine zO (mb 25 15394) [80,64] (s1:=⟨.bot::.fn fso2 cso2::bt 3 (.ow 64::bt 4 (.ow 80::I ((y3.length:Int))::I t4::Bo (ltI t4 ((y3.length:Int)))::bt 11 [])),[(80,.arr 73 3 (y3.map c73)),(64,.arr 73 3 (l5.map c73))]⟩) ?_ ?_
    ·refine L0 rfl rfl (zDF (k:=.i64) (a:=t4) (b:=(y3.length:Int)) rfl kk kk) ?_
     refine zC ?_
     kernel_rfl
    refine zAS ?_
    refine zCQ rfl (fun hc8=>?_) (fun hc8=>?_)
    ·have h:=zBw h hc8;refine zCa ?_
     show V _ _ _ _;refine zAS ?_
     refine zAF ?_
     obtain⟨e9,he9,h⟩:=zI h;obtain⟨e10,he10,h⟩:=zI h;refine zO (mb 25 7330) [56,80,64] (s1:=⟨.bot::.fn fso2 cso2::bt 3 (.ow 64::.bot::.pt 56 0::.bot::.bot::.ow 80::I ((y3.length:Int))::I t4::bt 12 []),[(56,.box [Ti e10.1,Ti e10.2.1,Ti e10.2.2]),(80,.arr 73 3 (y3.map c73)),(64,.arr 73 3 (l5.map c73))]⟩) ?_ ?_
     ·refine L0 rfl rfl (zDL (c:=c73) (xs:=y3) (v:=e9) (id:=80) (T:=73) (sz:=3) (n:=t4) Tryz.underlying50 sz73 rfl kk kk kk he9) ?_
      refine L0 rfl rfl (zRi (c:=c73) (xs:=y3) (v:=e10) (id:=80) (sz:=3) (T:=73) (off:=0) (n:=t4) [Ti e10.1,Ti e10.2.1,Ti e10.2.2] wd73 rfl kk kk he10 (Nat.le_of_ble_eq_true rfl) kk) ?_
      refine L1 rfl rfl (zJ3 (z:=zv73) rfl zf73 rfl) ?_
      refine jA rfl (zMH (id:=56) (off:=0) (cs:=[Ti 0,Ti 0,Ti 0]) (vc:=[Ti e10.1,Ti e10.2.1,Ti e10.2.2]) [Ti e10.1,Ti e10.2.1,Ti e10.2.2] rfl rfl kk kk kk sz73 (Nat.le_of_ble_eq_true rfl) kk) ?_
      refine zC ?_
      kernel_rfl
     obtain⟨y11,hy11,h⟩:=zI h;refine zO (mb 25 269474) [56,80,64] (s1:=⟨.bot::.fn fso2 cso2::bt 3 (.ow 64::.bot::.pt 56 0::.bot::.bot::.ow 80::I ((y3.length:Int))::I t4::bt 5 (Bo y11::bt 6 [])),[(56,.box [Ti e10.1,Ti e10.2.1,Ti e10.2.2]),(80,.arr 73 3 (y3.map c73)),(64,.arr 73 3 (l5.map c73))]⟩) ?_ ?_
     ·refine L0 rfl rfl (zD (.fn fso2 cso2) rfl kk) ?_
      refine L0 rfl rfl (zFS (cs:=[Ti e10.1,Ti e10.2.1,Ti e10.2.2]) [Ti e10.1,Ti e10.2.1,Ti e10.2.2] wd73 rfl kk (Nat.le_of_ble_eq_true rfl) kk) ?_
      refine L1 rfl rfl (zRa (hso2 hy11) kso2 rfl kk kk) ?_
      refine zC ?_
      kernel_rfl
     refine zCQ rfl (fun hc12=>?_) (fun hc12=>?_)
     ·have h:=zBw h hc12;obtain⟨u13,hu13,h⟩:=zI h;refine zDB (mb 25 7202) [80,64] (s1:=⟨.bot::.fn fso2 cso2::bt 3 (.ow 64::bt 4 (.ow 80::I ((y3.length:Int))::I t4::bt 12 [])),[(80,.arr 73 3 (y3.map c73)),(64,.arr 73 3 ((l5++([e10])).map c73))]⟩) ?_ ?_
      ·refine L0 rfl rfl (zD (.ow 64) rfl kk) ?_
       refine L0 rfl rfl (zFS (cs:=[Ti e10.1,Ti e10.2.1,Ti e10.2.2]) [Ti e10.1,Ti e10.2.1,Ti e10.2.2] wd73 rfl kk (Nat.le_of_ble_eq_true rfl) kk) ?_
       refine L1 rfl rfl (zEM (z:=zv73) (els:=[e10].map c73) Tryz.underlying50 iz73 rfl (by decide) rfl kk rfl (by simp[c73]) (by decide) (by decide)) ?_
       refine jA rfl (zEf (c:=c73) (xs:=l5) (ys:=[e10]) (id:=64) (z:=zv73) rfl rfl Tryz.underlying50 izb73 rfl kk kk kk (fun _=>rfl) (by simp) (zEF hu13) (by decide)) ?_
       refine L0 rfl rfl (zE (.ow 64) rfl kk) ?_
       refine zC ?_
       kernel_rfl
      show V _ _ _ _;obtain⟨t14,ht14,h⟩:=zE3 h;refine zDB (mb 25 7202) [80,64] (s1:=⟨.bot::.fn fso2 cso2::bt 3 (.ow 64::bt 4 (.ow 80::I ((y3.length:Int))::I t14::bt 12 [])),[(80,.arr 73 3 (y3.map c73)),(64,.arr 73 3 ((l5++([e10])).map c73))]⟩) ?_ ?_
      ·refine L0 rfl rfl (zCP (a:=t4) (b:=1) rfl kk kk) ?_
       refine L0 rfl rfl (zD (I (w64 (t4+1))) rfl kk) ?_
       refine zC ?_
       subst ht14
       kernel_rfl
      exact⟨n,zf n,_,_,by rfl,h⟩
     ·have h:=zBE h hc12;refine zCa ?_
      show V _ _ _ _;obtain⟨t15,ht15,h⟩:=zE3 h;refine zDB (mb 25 7202) [80,64] (s1:=⟨.bot::.fn fso2 cso2::bt 3 (.ow 64::bt 4 (.ow 80::I ((y3.length:Int))::I t15::bt 12 [])),[(80,.arr 73 3 (y3.map c73)),(64,.arr 73 3 (l5.map c73))]⟩) ?_ ?_
      ·refine L0 rfl rfl (zCP (a:=t4) (b:=1) rfl kk kk) ?_
       refine L0 rfl rfl (zD (I (w64 (t4+1))) rfl kk) ?_
       refine zC ?_
       subst ht15
       kernel_rfl
      exact⟨n,zf n,_,_,by rfl,h⟩
    ·have h:=zBE h hc8;refine zEy ?_
     obtain rfl:=qB h;show St.keep _ _ _=_;rfl
  show V _ _ _ _;refine zO (mb 25 16) [64] (s1:=⟨bt 4 (.ow 64::bt 20 []),[(64,.arr 73 3 (o7.map c73))]⟩) ?_ ?_
  ·refine L0 rfl rfl (zD (.ow 64) rfl kk) ?_
   refine L0 rfl rfl (zE (.ow 64) rfl kk) ?_
   refine zC ?_
   kernel_rfl
  refine zEU ?_
  obtain rfl:=qB h;show Post _ _ _ _ _;exact⟨.inr rfl,rfl,rfl,rfl⟩
theorem zF7:CfW zt 70:=cfW Tryz.func70
noncomputable def zFf(f1:(Int×Int×Int)):T zt Bool:=
 .pl<|.joinC (.selB (eqI f1.2.1 0) false [] fun w_3=>.selB (bif w_3 then true else (eqI f1.1 f1.2.1)) false [] fun w_4=>.ret (w_3,w_4)) (mb 20 4) [] (fun s q_5 γ=>s.pc (mb 20 4) [] [(2,Bo (bif q_5.2 then true else (eqI f1.1 f1.2.2)))] []) fun q_5=>
 .lt (bif q_5.2 then true else (eqI f1.1 f1.2.2)) fun t4=>.ret t4
theorem zFm{f1:(Int×Int×Int)}{r:Bool}(h:zCN f1=some r):zF zt 70 [.ag [Ti f1.1,Ti f1.2.1,Ti f1.2.2]] (Bo r) []:=CtT (zFf f1) (fun r=>(Bo r,[])) (rs:=[.t 2]) (vs:=[.tmp 2]) Tryz.func70 rfl rfl (.cons rfl FitsL.nil) h
theorem zJX:∀args w,(callFunc 48 args).run zt w=.ok (.enter 48 args) w:=jM Tryz.func48 kk kk
set_option maxRecDepth 100000 in
set_option maxHeartbeats 400000 in
theorem zKA{d1:Int}{r:List (Int×Int×Int)}(h:zCM d1=some r):zF zt 48 [I d1] (.ow 0) [(0,.arr 73 3 (r.map c73))]:=by
  refine qP (rs:=[.t 2]) (vs:=[.tmp 2]) Tryz.func48 rfl rfl (.cons rfl FitsL.nil) (by decide) 5 rfl ?_
  unfold zCM at h;show V _ _ ⟨I d1::bt 4 [],[]⟩ _;refine zO (mb 5 1) [] (s1:=⟨I d1::bt 4 [],[]⟩) ?_ ?_
  ·refine L1 rfl rfl (zEx (e:=73) 3 (by decide) (.inl rfl)) ?_
   refine zC ?_
   kernel_rfl
  obtain⟨y2,hy2,h⟩:=zI h;refine zO (mb 5 4) [32] (s1:=⟨.bot::.bot::.ow 32::.bot::.bot::[],[(32,.arr 73 3 (y2.map c73))]⟩) ?_ ?_
  ·refine L0 rfl rfl (zD (I d1) rfl kk) ?_
   refine L1 rfl rfl (zBz (zPQ (k:=70) [I d1] [] (zJz (fso2:=70) (cso2:=[]) zF7 (fun hh=>zFm hh) hy2)) zJW rfl kk) ?_
   refine L0 rfl rfl (zE (.ow 32) rfl kk) ?_
   refine zC ?_
   kernel_rfl
  refine zEU ?_
  obtain rfl:=qB h;show Post _ _ _ _ _;exact⟨.inr rfl,rfl,rfl,rfl⟩
def zKi(d1:Int):=fC zJX (zCM d1) fun _=>zKA
theorem zFx:CfW zt 21:=cfW Tryz.func21
noncomputable def zGH(d1:Int):T zt ((Bool×Bool)):=
 .op1 (zBg d1) fun y2=>
 .cond (!y2) (
 .ret ((false,false)))<|.op1 (zKi d1) fun y4=>.n0 (lenM ct73 y4)<|.op1 (jF d1) fun y5=>.n0 (lenM ct73 y5)<|
 .ret ((eqI ((y4.length:Int)) ((y5.length:Int)),true))
theorem zGM{d1:Int}{r:(Bool×Bool)}(h:zAe d1=some r):zF zt 21 [I d1] (.tc (Bo r.1) (.tc (Bo r.2) .tn)) []:=CtT (zGH d1) (fun r=>(.tc (Bo r.1) (.tc (Bo r.2) .tn),[])) (rs:=[.t 2,.t 3]) (vs:=[.tmp 2,.tmp 3]) Tryz.func21 rfl rfl (.cons rfl (.cons rfl FitsL.nil)) h
def zG5(d1:Int):=fC zFx (zAe d1) fun _=>zGM
noncomputable def zGu(code1:List Int)(more2:List Int):T zt Bool:=
 .op1 (zSh code1 more2) fun y3=>
 .cond y3 (
 .ret true)<|.op1 (zDO code1) fun y5=>
 .op1 (zDz y5) fun y6=>
 .op1 (zDy y5) fun y7=>
 .dn<|.joinC (.pl<|.joinC (.unroll 9 (.seqT (.cond (y6.2 != y7.2) (.ret true) (.op1 (zE1 y6.1 y7.1) fun y9=>.ret (!y9))) fun b10=>.ret b10)) (mb 230 18951147231975048162) [424,384,360] (fun s b10 γ=>s.pc (mb 230 18951147231975048162) [424,384,360] [(56,Bo y6.2),(57,Bo y7.2),(58,Bo (y6.2 != y7.2)),(64,Bo b10)] []) fun b10=>.ret b10) (mb 230 18446744073709551842) [384,360] (fun s q_61 γ=>s.pc (mb 230 18446744073709551842) [384,360] [(64,Bo q_61)] []) fun q_61=>
 .cond q_61 (
 .ret false)<|.pl<|.joinS (
 .cond y6.2 (
 .n0 (lenM ct3 y5)<|
 .loop (fun n X_29=>qC more2 y5 y6 n X_29.1 X_29.2) ((1,0)) (mb 230 516508834063867446370) [384,360] (fun s X_29 γ=>s.pc (mb 230 516508834063867446370) [384,360] [(10,I X_29.1),(68,I X_29.2)] []) (fun X_29=>
 .cond (ltI X_29.2 ((y5.length:Int))) (.op0 (zBO ct3 y5 X_29.2) fun e19=>.op0 (ldo ct3 y5 X_29.2) fun e20=>
 .frc (w64 (X_29.1*e20)) fun vh21=>
 .frc (w64 (X_29.2+1)) fun t22=>.ret (.inl ((vh21,t22))))<|.ret (.inr X_29.1)) (mb 230 1122) [384,360] (fun s o17 γ=>s.pc (mb 230 1122) [384,360] [(10,I o17)] []) fun o17=>
 .op1 (zEN o17) fun y23=>
 .cond (!y23.2) (
 .ret (.inr false))<|.n0 (lenM ct3 y6.1)<|
 .loopS (fun n X_28=>qO more2 y23 y5 y6 n X_28) 0 (mb 230 67699845898419233783554146) [624,384,360] (fun s X_28 γ=>s.pc (mb 230 67699845898419233783554146) [624,384,360] [(85,I X_28)] []) (fun X_28=>
 .cond (ltI X_28 ((y6.1.length:Int))) (.op0 (zBO ct3 y6.1 X_28) fun e29=>.op0 (ldo ct3 y6.1 X_28) fun e30=>
 .op1 (zSg y23.1 e30) fun y31=>
 .cond (!y31) (
 .ret (.early false))<|
 .frc (w64 (X_28+1)) fun t33=>.ret (.again t33))<|.ret (.done (()))) (mb 230 98) [384,360] (fun s o27 γ=>s.pc (mb 230 98) [384,360] [] []) (.inr) fun o27=>
 .n0 (lenM ct3 y6.1)<|
 .cond (ltI 0 ((y6.1.length:Int))) (.op1 (zLp more2) fun y35=>.n0 (lenM ct3 y6.1)<|.op0 (remF .i64 y35 ((y6.1.length:Int))) fun z36=>.op0 (zBO ct3 y6.1 (Int.tmod y35 ((y6.1.length:Int)))) fun e37=>.op0 (ldo ct3 y6.1 (Int.tmod y35 ((y6.1.length:Int)))) fun e38=>.op1 (zGB e38) fun y39=>
 .joinC (.pl<|.joinC (.unroll 8 (.seqT (.cond (!y39.2) (.ret true) (.op1 (zE1 y39.1 y5) fun y41=>.ret (!y41))) fun b42=>.ret b42)) (mb 230 85023861058507802417186877391372322) [848,360] (fun s b42 γ=>s.pc (mb 230 85023861058507802417186877391372322) [848,360] [(109,Bo y39.2),(110,Bo (!y39.2)),(116,Bo b42)] []) fun b42=>.ret b42) (mb 230 83076749736557242056487941267521538) [] (fun s q_27 γ=>s.pc (mb 230 83076749736557242056487941267521538) [] [(116,Bo q_27)] []) fun q_27=>
 .cond q_27 (
 .ret (.inr false))<|.ret (.inl ()))<|.ret (.inl ()))<|.ret (.inl ())) (mb 230 2) [] (fun s o12 γ=>s.pc (mb 230 2) [] [] []) (fun r=>r) fun o12=>
 .op1 (zFH more2) fun y44=>
 .op1 (zGt y44.1 y44.2) fun y45=>
 .op1 (zGr y44.1 y44.2) fun y46=>
 .dn<|.joinC (.pl<|.joinC (.unroll 8 (.selB (y45.2.2 != y46.2.2) false [] fun w_32=>.ret w_32)) (mb 230 11760158600787633297294226432841909521612802) [] (fun s w_32 γ=>s.pc (mb 230 11760158600787633297294226432841909521612802) [] [(136,Bo y45.2.2),(137,Bo y46.2.2),(138,Bo (y45.2.2 != y46.2.2)),(143,Bo (bif w_32 then true else (!eqI y45.1 y46.1)))] []) fun w_32=>.joinC (.unroll 5 (.selB (bif w_32 then true else (!eqI y45.1 y46.1)) false [] fun w_33=>.ret w_33)) (mb 230 368572081777277603561865718795215693617299458) [] (fun s w_33 γ=>s.pc (mb 230 368572081777277603561865718795215693617299458) [] [(148,Bo (bif w_33 then true else (!eqI y45.2.1 y46.2.1)))] []) fun w_33=>.ret (w_32,w_33)) (mb 230 356811923176489970264571492362373784111939586) [] (fun s q_60 γ=>s.pc (mb 230 356811923176489970264571492362373784111939586) [] [(148,Bo (bif q_60.2 then true else (!eqI y45.2.1 y46.2.1)))] []) fun q_60=>
 .lt (bif q_60.2 then true else (!eqI y45.2.1 y46.2.1)) fun t49=>.cond t49 (
 .ret false)<|.pl<|.joinS (
 .cond y45.2.2 (.op1 (zH5 y44.1 y44.2) fun y53=>
 .op1 (zIe y45.2.1) fun y54=>
 .joinC (.pl<|.joinC (.unroll 9 (.selB (!y53.2) false [.z (lenM ct3 y53.1)] fun w_37=>.ret w_37)) (mb 230 757057848137407711629508743347034604181775072624642) [1224] (fun s w_37 γ=>s.pc (mb 230 757057848137407711629508743347034604181775072624642) [1224] [(161,Bo y53.2),(162,Bo (!y53.2)),(169,Bo (bif w_37 then true else (!eqI ((y53.1.length:Int)) (w64 (y45.1+1)))))] []) fun w_37=>.joinC (.unroll 7 (.seqT (.cond (bif w_37 then true else (!eqI ((y53.1.length:Int)) (w64 (y45.1+1)))) (.ret true) (.op0 (zBO ct3 y53.1 y45.1) fun e57=>.op0 (ldo ct3 y53.1 y45.1) fun e58=>.ret (ltI e58 1))) fun b59=>.ret b59)) (mb 230 96538029152255461359026197940241358580352970209099778) [1224] (fun s b59 γ=>s.pc (mb 230 96538029152255461359026197940241358580352970209099778) [1224] [(176,Bo b59)] []) fun b59=>.joinC (.unroll 4 (.selB b59 false [] fun w_38=>.ret w_38)) (mb 230 1629033570018144319717373225090550542199092092392701954) [1224] (fun s w_38 γ=>s.pc (mb 230 1629033570018144319717373225090550542199092092392701954) [1224] [(180,Bo (bif w_38 then true else (!y54.2)))] []) fun w_38=>.joinC (.unroll 5 (.selB (bif w_38 then true else (!y54.2)) false [] fun w_39=>.ret w_39)) (mb 230 50668890877726587787184478093900444417998744002267971586) [1224] (fun s w_39 γ=>s.pc (mb 230 50668890877726587787184478093900444417998744002267971586) [1224] [(185,Bo (bif w_39 then true else (!eqI y54.1 y45.1)))] []) fun w_39=>.ret (w_37,b59,w_38,w_39)) (mb 230 49039857307708443467467104868809893875799651909875269634) [] (fun s q_40 γ=>s.pc (mb 230 49039857307708443467467104868809893875799651909875269634) [] [(185,Bo (bif q_40.2.2.2 then true else (!eqI y54.1 y45.1)))] []) fun q_40=>
 .lt (bif q_40.2.2.2 then true else (!eqI y54.1 y45.1)) fun t62=>.cond t62 (
 .ret (.inr false))<|.ret (.inl ()))<|.ret (.inl ())) (mb 230 2) [] (fun s o51 γ=>s.pc (mb 230 2) [] [] []) (fun r=>r) fun o51=>
 .op1 (zFG more2) fun y64=>
 .op1 (zGs y64.1 y64.2) fun y65=>
 .op1 (zGq y64.1 y64.2) fun y66=>
 .dn<|.joinC (.pl<|.joinC (.unroll 9 (.seqT (.cond (y65.2 != y66.2) (.ret true) (.op1 (zE1 y65.1 y66.1) fun y68=>.ret (!y68))) fun b69=>.ret b69)) (mb 230 3380997645120915539740288242285806115706715098918996254323113984) [1600,1552] (fun s b69 γ=>s.pc (mb 230 3380997645120915539740288242285806115706715098918996254323113984) [1600,1552] [(203,Bo y65.2),(204,Bo y66.2),(205,Bo (y65.2 != y66.2)),(211,Bo b69)] []) fun b69=>.ret b69) (mb 230 3291009114642412084309938365114701009965471731267159735287152640) [1552] (fun s q_59 γ=>s.pc (mb 230 3291009114642412084309938365114701009965471731267159735287152640) [1552] [(211,Bo q_59)] []) fun q_59=>
 .cond q_59 (
 .ret false)<|.n0 (lenM ct3 y65.1)<|
 .loopS (fun n X_58=>jD y65 n X_58) 0 (mb 230 46074127604993769180339137111605814139516604237740236173761052672) [1552] (fun s X_58 γ=>s.pc (mb 230 46074127604993769180339137111605814139516604237740236173761052672) [1552] [(214,I X_58)] []) (fun X_58=>
 .cond (ltI X_58 ((y65.1.length:Int))) (.op0 (zBO ct3 y65.1 X_58) fun e75=>.op0 (ldo ct3 y65.1 X_58) fun e76=>
 .op1 (zG5 e76) fun y77=>
 .joinC (.pl<|.joinC (.unroll 6 (.selB (!y77.2) false [] fun w_56=>.ret w_56)) (mb 230 471845140802741190175853103159955142602789543998697758657136207855616) [1552] (fun s w_56 γ=>s.pc (mb 230 471845140802741190175853103159955142602789543998697758657136207855616) [1552] [(223,Bo y77.2),(224,Bo (!y77.2)),(228,Bo (bif w_56 then true else (!y77.1)))] []) fun w_56=>.ret w_56) (mb 230 431405220802015230483852580529425696592333827364886899933831525040128) [1552] (fun s q_57 γ=>s.pc (mb 230 431405220802015230483852580529425696592333827364886899933831525040128) [1552] [(228,Bo (bif q_57 then true else (!y77.1)))] []) fun q_57=>
 .cond (bif q_57 then true else (!y77.1)) (
 .ret (.early false))<|
 .frc (w64 (X_58+1)) fun t80=>.ret (.again t80))<|.ret (.done (()))) (mb 230 0) [] (fun s o73 γ=>s.pc (mb 230 0) [] [] []) (fun r=>r) fun o73=>
 .ret true
theorem zHA{code1:List Int}{more2:List Int}{r:Bool}(h:zBA code1 more2=some r):zF zt 3 [.c (.sl (code1.map c5)),.c (.sl (more2.map c5))] (Bo r) []:=CtT (zGu code1 more2) (fun r=>(Bo r,[])) (rs:=[.t 4]) (vs:=[.tmp 4]) Tryz.func3 rfl rfl (.cons rfl FitsL.nil) h
end
end Go.Proofs.YtdedjieegpkabaaGreat
namespace Go.Proofs.YtdedjieegpkabaaGreat
theorem zPE:zA7=jU:=rfl
theorem zTp:zCj=zAD:=rfl
theorem zWa:zE8=zN:=rfl
theorem zTW:qJ=zQ:=rfl
theorem zS1(f:Int×Int×Int):zBm f=zY f:=by simp only[zBm,zY,zT,Option.bind_some]
theorem zFP(a m:Int):qM a m=j0 a m:=by simp only[qM,j0,zP]
theorem zTq(a m:Int):((qM a m).bind fun y2=>(nz m).bind fun _=>sI (w64 (Int.tdiv (w64 (a - y2)) m)) fun t4=>some t4)=zAQ a m:=by simp only[zAQ,zFP]
theorem zS0(f:Int×Int×Int):zDP f=zAQ (w64 (f.1 - f.2.1)) (w64 (2*f.1)):=zTq _ _
theorem zUO{a m:Int}(hm:1≤m)(h:a.tmod m<0):a.tmod m+m=a % m:=by have e:=Int.tmod_eq_emod (a:=a) (b:=m);have h1:=zn a (b:=m) (by omega);have h2:=zo a (b:=m) (by omega);split at e<;>omega
theorem zUN{a m:Int}(hm:1≤m)(h:0≤a.tmod m):a.tmod m=a % m:=by have e:=Int.tmod_eq_emod (a:=a) (b:=m);have h1:=zn a (b:=m) (by omega);have h2:=zo a (b:=m) (by omega);split at e<;>omega
theorem zAk{a m:Int}(h1:1≤m)(h2:m≤9223372036854775807):j0 a m=some (a % m):=by
 have h3:=zn a (b:=m) (by omega);have h4:=zo a (b:=m) (by omega);have hz:nz m=some ():=by
  unfold nz;rw[zBF];have:(m==0)=false:=by rw[zj];omega
  rw[this];rfl
 simp only[j0,hz,Option.bind_some,zP,zV];by_cases h:a.tmod m<0
 ·rw[za h,cond_true,zUO h1 h,zA (by omega)]
 ·rw[decide_eq_false h,cond_false,zUN h1 (by omega)]
theorem zEP{a m:Int}(h1:1≤m)(h2:m≤4611686018427387904)(h3:-4611686018427387904≤a)(h4:a≤4611686018427387904):zAQ a m=some (a / m):=by
 have e1:=zn a (b:=m) (by omega);have e2:=zo a (b:=m) (by omega);have hz:nz m=some ():=by
  unfold nz;rw[zBF];have:(m==0)=false:=by rw[zj];omega
  rw[this];rfl
 have e3:a - a % m=m*(a / m):=by have:=Int.emod_add_mul_ediv a m;omega
 have e4:Int.tdiv (a - a % m) m=a / m:=by rw[e3];exact Int.mul_tdiv_cancel_left _ (by omega)
 have e5:a / m≤4611686018427387904∧-4611686018427387904≤a / m:=by
  constructor
  ·rcases Int.lt_or_le a 0 with h|h
   ·have:=Int.ediv_neg_of_neg_of_pos h (show 0<m by omega);omega
   ·have:=Int.ediv_le_self m h;omega
  ·have:=Int.le_ediv_of_mul_le (c:=m) (a:=-4611686018427387904) (b:=a) (by omega) (by
    have:-4611686018427387904*m≤-4611686018427387904:=by omega
    omega)
   omega
 simp only[zAQ,zAk h1 (by omega),hz,Option.bind_some,zP];rw[zA (n:=a - a % m) (by omega),e4,zA (by omega)]
theorem zVS{a b c:Int}(ha:1≤a)(haM:a≤2000000)(hb1:-2000000≤b)(hb2:b≤2000000)(hr:zY (a,b,c)=some false):zC7 (a,b,c)=z5 (a,b,c):=by
 have hf:=zEP (a:=a - b) (m:=2*a) (by omega) (by omega) (by omega) (by omega);have hn:zT (a,b,c)=some (decide (-a<b∧b≤a)):=by
  simp only[zT,Option.bind_some,zV,jL];rw[zA (by omega)];by_cases h1:-a<b<;>by_cases h2:b≤a<;>simp[h1,h2]
  all_goals omega
 have hq:(a - b) / (2*a)=0↔(-a<b∧b≤a):=by
  constructor
  ·intro h;have h1:=Int.emod_add_mul_ediv (a - b) (2*a);have h2:=zn (a - b) (b:=2*a) (by omega);have h3:=zo (a - b) (b:=2*a) (by omega);rw[h]at h1;omega
  ·rintro⟨h1,h2⟩;exact Int.ediv_eq_zero_of_lt (by omega) (by omega)
 simp only[zC7,z5,zS0,zS1,hr,Option.bind_some,hn];rw[zA (n:=a - b) (by omega),zA (n:=2*a) (by omega),hf];simp only[Option.bind_some,cond_false,zBF];by_cases h:(a - b) / (2*a)=0
 ·have h2:=hq.1 h;simp[h,h2]
 ·have h2:¬(-a<b∧b≤a):=fun x=>h (hq.2 x);have h3:((a - b) / (2*a)==0)=false:=by rw[zj];exact h
  simp[h3,h2]
theorem jQ{n:Int}(h:n.natAbs≤9223372036854775807):w64 n=n:=zA (by omega)
theorem zX{x y:Int}{A B:Nat}(hx:x.natAbs≤A)(hy:y.natAbs≤B):(x*y).natAbs≤A*B:=by rw[Int.natAbs_mul];exact Nat.mul_le_mul hx hy
theorem zJL{a b c:Int}(ha:a.natAbs≤2000000)(hb:b.natAbs≤2000000)(hc:c.natAbs≤2000000):zN (a,b,c) (0,-1,1,0)=some (c,-b,a):=by simp only[zN,jU,zAD,zP,Option.bind_some,Int.mul_zero,Int.zero_mul,Int.mul_one,Int.add_zero,Int.zero_add,Int.one_mul];rw[show w64 0=0 from rfl];simp only[Int.mul_zero,Int.zero_mul,Int.mul_one,Int.add_zero,Int.zero_add,Int.one_mul];rw[show w64 0=0 from rfl];simp only[Int.mul_zero,Int.zero_mul,Int.mul_one,Int.add_zero,Int.zero_add,Int.one_mul,Int.mul_neg,Int.neg_mul,Int.neg_neg];have e1:w64 c=c:=jQ (by omega);have e2:w64 (-1)=-1:=rfl;have e3:w64 a=a:=jQ (by omega);have e4:w64 (-a)=-a:=jQ (by omega);have e5:w64 (-b)=-b:=jQ (by omega);simp only[e1,e2,e3,e4,e5,Int.mul_neg,Int.neg_mul,Int.neg_neg,Int.mul_one,Int.one_mul,Int.add_zero,Int.zero_add,show w64 0=0 from rfl]
theorem zJM{a b c s:Int}(ha:a.natAbs≤2000000)(hb:b.natAbs≤2000000)(hc:c.natAbs≤2000000)(hs:s.natAbs≤2000000):zN (a,b,c) (1,s,0,1)=some (a,2*a*s+b,a*s*s+b*s+c):=by have m1:=zX ha hs;have m2:=zX hb hs;have m3:=zX m1 hs;have m4:(2*a*s).natAbs≤2*2000000*2000000:=zX (zX (x:=2) (A:=2) (by decide) ha) hs;simp only[zN,jU,zAD,zP,Option.bind_some,Int.mul_zero,Int.zero_mul,Int.mul_one,Int.add_zero,Int.zero_add,Int.one_mul];have z:w64 0=0:=rfl;have o:w64 1=1:=rfl;have e1:w64 c=c:=jQ (by omega);have e3:w64 a=a:=jQ (by omega);have e4:w64 b=b:=jQ (by omega);have e5:w64 (2*a)=2*a:=jQ (by omega);have e6:w64 (2*a*s)=2*a*s:=jQ (by omega);have e7:w64 (a*s)=a*s:=jQ (by omega);have e8:w64 (a*s*s)=a*s*s:=jQ (by omega);have e9:w64 (b*s)=b*s:=jQ (by omega);have e10:w64 (a*s*s+b*s)=a*s*s+b*s:=jQ (by omega);have e11:w64 (a*s*s+b*s+c)=a*s*s+b*s+c:=jQ (by omega);have e12:w64 (2*a*s+b)=2*a*s+b:=jQ (by omega);simp only[z,o,e1,e3,e4,e5,e6,e7,e8,e9,e10,e11,e12,Int.mul_one,Int.one_mul,Int.add_zero,Int.zero_add,Int.mul_zero,Int.zero_mul]
theorem zWl{n:Int}(h:n.natAbs≤9223372036854775806):zCo n=some (n.natAbs:Int):=by
 simp only[zCo,zP,mxI,zV];by_cases h1:n< -9223372036854775807
 ·omega
 ·rw[decide_eq_false h1,cond_false,zA (by omega)];by_cases h2:n<0 - n
  ·rw[za h2,cond_true];congr 1;omega
  ·rw[decide_eq_false h2,cond_false];congr 1;omega
theorem zIr{n:Int}(h:n.natAbs≤9223372036854775806):zCS n=some (n.natAbs:Int):=by
 simp only[zCS,zAv,Option.bind_some,zV];rw[zA (by omega)];by_cases h2:0 - n<n
 ·rw[za h2,cond_true,Option.bind_some];congr 1;omega
 ·rw[decide_eq_false h2,cond_false,Option.bind_some];congr 1;omega
theorem zC5{b:Int}(h:b≠0):nz b=some ():=by
 unfold nz;rw[zBF];have:(b==0)=false:=by rw[zj];exact h
 rw[this];rfl
theorem zAj{a b:Int}(h:a≠b):eqI a b=false:=by rw[zBF,zj];exact h
theorem zC6(a:Int):eqI a a=true:=by rw[zBF];exact beq_self_eq_true a
theorem zHb(a b:Int):Int.gcd b (a.tmod b)=Int.gcd a b:=by unfold Int.gcd;rw[Int.natAbs_tmod,Nat.gcd_comm,←Nat.gcd_rec,Nat.gcd_comm]
theorem zTM{x y:Nat}(k:Nat)(hy:0<y)(hxy:y<x)(h:x<2 ^(k+1)):x % y<2 ^k:=by have h1:=Nat.mod_lt x hy;have h2:=Nat.div_add_mod x y;have h3:1≤x / y:=Nat.div_pos (Nat.le_of_lt hxy) hy;have h4:y*1≤y*(x / y):=Nat.mul_le_mul_left y h3;rw[Nat.pow_succ]at h;omega
theorem zQE:∀(k n:Nat)(a b:Int),b.natAbs<2 ^k→2*k+1≤n→∃r,zAM n a b=some r∧r.natAbs=Int.gcd a b
 |k,0,a,b,_,hn=>by omega
 |0,n+1,a,b,hb,hn=>by
  have:b=0:=by simp at hb;omega
  subst this;unfold zAM;rw[zC6];exact⟨a,rfl,by simp⟩
 |k+1,n+1,a,b,hb,hn=>by
  unfold zAM;by_cases h0:b=0
  ·subst h0;rw[zC6];exact⟨a,rfl,by simp⟩
  ·rw[zAj h0,zC5 h0];simp only[zc,cond_true,Option.bind_some,zP];rw[←zHb a b]
   match n,hn with
   |n+1,hn=>
    unfold zAM;by_cases h1:a.tmod b=0
    ·rw[h1,zC6];exact⟨b,rfl,by simp⟩
    ·rw[zAj h1,zC5 h1];simp only[zc,cond_true,Option.bind_some,zP];rw[←zHb b (a.tmod b)];refine zQE k n _ _ ?_ (by omega)
     rw[Int.natAbs_tmod];have h2:(a.tmod b).natAbs<b.natAbs:=by rw[Int.natAbs_tmod];exact Nat.mod_lt _ (by omega)
     exact zTM k (by omega) h2 hb
theorem zQ9(k:Nat)(h:k≤1000000):k≤FU:=Nat.le_trans h (by decide)
theorem zSV{a b:Int}{M:Nat}(ha:a.natAbs≤M)(hb:b.natAbs≤M):Int.gcd a b≤M:=by
 by_cases h:b=0
 ·subst h;simpa using ha
 ·have:Int.gcd a b∣b.natAbs:=Nat.gcd_dvd_right _ _;exact Nat.le_trans (Nat.le_of_dvd (by omega) this) hb
theorem zLz{a b:Int}(ha:a.natAbs≤9223372036854775806)(hb:b.natAbs≤9223372036854775806):zCn a b=some (Int.gcd a b:Int):=by obtain⟨r,h1,h2⟩:=zQE 64 FU a b (by omega) (zQ9 129 (by decide));have h3:=zSV ha hb;simp only[zCn,h1,Option.bind_some,zWl (n:=r) (by omega),h2]
theorem zQv:∀(n:Nat)(a b:Int),zAP n a b=zAM n a b
 |0,a,b=>rfl
 |n+1,a,b=>by unfold zAP zAM;simp only[zP,zQv n]
theorem zHy(a b:Int):Int.gcd (a.natAbs:Int) (b.natAbs:Int)=Int.gcd a b:=by unfold Int.gcd;simp
theorem zUe:∀(n:Nat)(a b r:Int),0≤a→0≤b→zAM n a b=some r→0≤r
 |0,a,b,r,_,_,h=>by cases h
 |n+1,a,b,r,ha,hb,h=>by
  unfold zAM at h;by_cases h0:b=0
  ·subst h0;rw[zC6]at h;have h:some a=some r:=h;injection h with h;omega
  ·rw[zAj h0,zC5 h0]at h;simp only[zc,cond_true,Option.bind_some,zP]at h;exact zUe n _ _ _ hb (Int.tmod_nonneg _ ha) h
theorem zM8{a b:Int}(ha:a.natAbs≤9223372036854775806)(hb:b.natAbs≤9223372036854775806):jZ a b=some (Int.gcd a b:Int):=by obtain⟨r,h1,h2⟩:=zQE 64 FU (a.natAbs:Int) (b.natAbs:Int) (by omega) (zQ9 129 (by decide));have h3:=zUe _ _ _ _ (by omega) (by omega) h1;rw[zHy]at h2;simp only[jZ,zIr ha,zIr hb,Option.bind_some,zQv,h1];congr 1;omega
def inN(x:Int):Bool:=leI (-1000000) x&&leI x 1000000
theorem zDk{x:Int}:inN x=true↔-1000000≤x∧x≤1000000:=by unfold inN;rw[jL,jL];simp
theorem zTY:zA4=zAr:=rfl
theorem zRZ{a b c:Int}(ha:inN a=true)(hb:inN b=true)(hc:inN c=true):zAi (a,b,c)=some (Int.gcd a (Int.gcd b c):Int):=by rw[zDk]at ha hb hc;have h:=zSV (a:=b) (b:=c) (M:=1000000) (by omega) (by omega);simp only[zAi,zLz (a:=b) (b:=c) (by omega) (by omega),Option.bind_some];rw[zLz (by omega) (by omega)];rfl
theorem zNE(d:Int):zC8 d=qG d:=by
 simp only[zC8,zBo,qG,Option.bind_some,zFP];cases h:(bif leI (-2000) d then leI d (-3) else false) with
 |false=>rfl
 |true=>simp only[cond_true];rw[zAk (by omega) (by omega)];simp only[Option.bind_some,zV,jL];congr 1;simp only[decide_eq_decide];omega
theorem zET(d:Int):qG d=some (decide (-2000≤d∧d≤-3∧d % 4≤1)):=by simp only[qG,jL];by_cases h1:-2000≤d<;>by_cases h2:d≤-3<;>simp[h1,h2];rw[zAk (by omega) (by omega)];rfl
theorem FUge:1000000≤FU:=by decide
theorem nzOk{b:Int}(h:b≠0):nz b=some ():=by
 unfold nz;rw[zBF];have:(b==0)=false:=by rw[zj];exact h
 rw[this];rfl
theorem zDm(a:Int):eqI a a=true:=by rw[zBF];exact beq_self_eq_true a
theorem eqNe{a b:Int}(h:a≠b):eqI a b=false:=by rw[zBF,zj];exact h
theorem zCf{n:Nat}(h:n≤1000000000):room n=some ():=by unfold room;rw[Nat.ble_eq_true_of_le (by omega),cond_true]
theorem jO{α:Type}{l:List α}{k:Nat}(hk:k<l.length):getI l (k:Int)=some (l[k]'hk):=by unfold getI;rw[jL,za (by omega),cond_true];simp
theorem zAt{k:Nat}(h:k<1000000000):w64 ((k:Int)+1)=((k+1:Nat):Int):=by rw[zA (by omega)];push_cast;omega
end Go.Proofs.YtdedjieegpkabaaGreat
